import Derived.Test.YtldjfebokojmfaaGreatRgW23c
import Derived.Test.YtldjfebokojmfaaGreatRgGb
import Derived.Test.YtldjfebokojmfaaGreatRgW22s
namespace Go.Proofs.YtldjfebokojmfaaGreat
open Go Go.Fk
set_option linter.unusedSimpArgs false
set_option linter.unusedVariables false
set_option maxRecDepth 100000
theorem appCap {vof : Value} {of : List RunD} {r : RunD} {w : World} (hof : Sl w vof of) (hn : of.length ≤ 1000) (hr : RunJ r) {t2 : TypeId} {G : World → Prop} (hG : ∀ w', Ext w w' → G w') {K : Value → Value → World → Prop} (hK : ∀ s v w', BufO (α := RunD) 34 w.heap.size w' v (of ++ [r]) → Ext w w' → K s v w') :
    SemW Tryz.prog (Instr.buildSlice 59 1 #[(0, .agg #[.int .i64 r.Line, .int .i64 r.At, .int .i64 r.Arrive])]) w fun s w1 => G w1 ∧ SemW Tryz.prog (Builtin.append_ #[59, 59] t2 #[slSub 3 vof 0 of.length of.length, s]) w1 (K s) := by
  rcases hof.s.ex with rfl | ⟨p, n, c, rfl⟩
  · have h0 : of = [] := List.eq_nil_of_length_eq_zero (by have := hof.len; simpa using this.symm)
    subst h0
    have e : slSub 3 (.slice none 0 0) 0 ([] : List RunD).length ([] : List RunD).length = .slice none 0 0 := by simp [slSub]
    rw [e]
    exact SemW_append1W (α := RunD) Tryz.underlying59 ti34 rfl (by decide) BufO.nil (Nat.le_refl _) (x := r) ⟨rfl, hr⟩ (by decide) hG fun s v w' b k _ => hK s v w' b (Keep.ext (Ext.refl _) k fun g hg e => by cases e)
  · refine SemW_lit (α := RunD) Tryz.underlying59 ti34 rfl (by decide) [_] [r] rfl rfl (Cs.one ⟨rfl, hr⟩) (by show 1 * 3 ≤ 16777216; decide) fun s w1 ss x1 => ⟨hG _ x1, ?_⟩
    have hof1 := hof.ext x1
    have hsub0 := hof1.sub (l := 0) (r := of.length) (m := of.length) (by omega) (by omega) (by omega) hof1.cap
    rw [List.drop_zero, List.take_length] at hsub0
    have hsub1 : ∃ b, slSub 3 (.slice (some p) n c) 0 of.length of.length = .slice (some b) of.length of.length := by simp [slSub]; split <;> exact ⟨_, rfl⟩
    obtain ⟨bf, hbf⟩ := hsub1
    have hbf' : slSub (Enc.n RunD) (.slice (some p) n c) 0 of.length of.length = .slice (some bf) of.length of.length := hbf
    rw [hbf'] at hsub0
    rw [hbf]
    exact SemW_appendNew (α := RunD) Tryz.underlying59 ti34 rfl (by decide) hsub0 rfl ss (by simp) (by simp only [maxLen, List.length_singleton]; omega) fun v w' b x _ => hK s v w' (b.mono x1.size) (x1.trans x)
theorem i64n {x : Int} (h1 : -1 ≤ x) (h2 : x ≤ 1000) : I64 x := by
  constructor <;> omega
theorem refOne {x : RefusalD} {v : Value} (h : IsS v) : (RefusalD.cs x v).all Value.oneCell' = true := by
  simp only [RefusalD.cs, List.all_cons, List.all_nil, isS_o h]; rfl
set_option maxHeartbeats 4000000 in
theorem rfProof {t : TimeD} {l : List OrderD} {covers : Int} {vl u0 u1 u2 vo vO : Value} {opts : List (List RunD)} (hcr : ∀ o ∈ l, 1 ≤ o.Crowd ∧ o.Crowd ≤ 64) (h64 : l.length ≤ 64) (hlen : opts.length = l.length) (hob : ∀ o ∈ opts, o.length ≤ 100000000 ∧ ∀ r ∈ o, 0 ≤ r.Line ∧ r.Line < t.Lines.length) :
    ∀ (n : Nat) (rest : List (List RunD)) (of : List RunD) (vof : Value) (w : World), rest.length = n → of.length + rest.length = l.length → rest = opts.drop of.length → (∀ r ∈ of, 0 ≤ r.Line ∧ r.Line < t.Lines.length) → Sl w vl t.Lines → Sl w vo l → Sl w vO opts → IsS u0 → IsS u1 → IsS u2 → Sl w vof of →
    Calls Tryz.prog 20 #[.agg (srC t covers vl u0 u1 u2 vo vO).toArray, vof] w fun e w' => ∃ v, e = .returned (.agg ((Rf.proofF t l rest of).cs v).toArray) ∧ Ext w w' ∧ RefR (fun b => w.heap.size ≤ b ∧ b < w'.heap.size) w' ((Rf.proofF t l rest of).cs v) (Rf.proofF t l rest of) := by
  intro n
  have nn : IsS (.slice none 0 0) := .inl rfl
  induction n using Nat.strongRecOn with
  | _ n ih =>
  intro rest of vof w hn hsum hdrop hin hl ho hO s0 s1 s2 hof
  have ofs := hof.s
  have ofl := hof.len
  have hos := ho.s
  have hol := ho.len
  have hOs := hO.s
  have hOl := hO.len
  have hlast : of ≠ [] → ∃ h : ((of.length : Int) - 1).toNat < of.length, of[((of.length : Int) - 1).toNat] = Rf.lastR of := fun h => by
    have : 0 < of.length := List.length_pos_iff.2 h
    have h1 : ((of.length : Int) - 1).toNat < of.length := by omega
    have h2 : ((of.length : Int) - 1).toNat = of.length - 1 := by omega
    refine ⟨h1, ?_⟩
    unfold Rf.lastR
    rw [List.getD_eq_getElem?_getD, List.getElem?_eq_getElem (show of.length - 1 < of.length by omega)]
    simp [h2]
  have hI : ∀ w', Ext w w' → of ≠ [] → AtN w' ((slAt vof).add (((of.length : Int) - 1).toNat * 3)) 0 (Rf.lastR of).cs ∧ RunJ (Rf.lastR of) ∧ Rf.lastR of ∈ of := fun w' x h => by
    obtain ⟨h1, h2⟩ := hlast h
    obtain ⟨r1, r2⟩ := (hof.ext x).runD h1
    rw [h2] at r1 r2
    exact ⟨r1, r2, by rw [← h2]; exact List.getElem_mem _⟩
  refine Calls_of_Run (args := [.agg (srC t covers vl u0 u1 u2 vo vO).toArray, vof]) (n := 64) (rs := [.cell 4 36]) Tryz.func20 rfl rfl rfl (by simp) ?_
  (repeat with_reducible first | refine jy ?_ | refine jw KL20 [2] TF20 fun _ => ?_)
  refine SemW_box fun ps w1 h1 => SemW_allocT ti36 fun pp w2 h2 => ?_
  have b2 := h2.blk
  have x1 := h1.ext
  have x2 := x1.trans h2.ext
  have A : ∀ w', Ext w1 w' → AtN w' ps 0 (srC t covers vl u0 u1 u2 vo vO) := fun w' x => (h1.at_.ext x).n
  simp only [srC, AtN, KS, Nat.reduceAdd, Nat.reduceMul, Nat.reduceEqDiff, ↓reduceIte, UT] at A
  have a2 := A w2 h2.ext
  (repeat with_reducible first | refine jy ?_ | refine jw KL20 [2] (aa TF20 (aa ofs (aa ofl a2))) fun _ => ?_)
  have hI2 := hI w2 x2
  refine ⟨fun h => ?_, fun h => ?_, .bool (Rf.full t l of (Rf.lastR of)), fun h => ?_, fun w3 x3 => ?_⟩
  · simp at h; omega
  · simp at h
    obtain ⟨r1, _⟩ := hI2 (List.length_pos_iff.1 (by omega))
    simp only [RunD.cs, AtN, KS, Nat.reduceAdd, Nat.reduceMul, Nat.reduceEqDiff, ↓reduceIte, UT] at r1
    simp only [r1, and_self]
  · simp at h
    obtain ⟨r1, _, hm⟩ := hI2 (List.length_pos_iff.1 (by omega))
    simp only [RunD.cs, AtN, KS, Nat.reduceAdd, Nat.reduceMul, Nat.reduceEqDiff, ↓reduceIte, UT] at r1
    simp only [r1]
    exact PC_pure call42 fun w3 x3 => srFull (covers := covers) (u0 := u0) (u1 := u1) (u2 := u2) (vO := vO) (hl.ext (x2.trans x3)) (ho.ext (x2.trans x3)) (hof.ext (x2.trans x3)) (by omega) h64 hcr fun h => hin _ h
  have h3 := h2.row.ext x3
  have y3 := x2.trans x3
  have a3 := A w3 (h2.ext.trans x3)
  by_cases hbig : 0 < of.length ∧ Rf.full t l of (Rf.lastR of) = true
  · have hP : Rf.proofF t l rest of = Rf.roomLeaf (Rf.lastR of) := by cases rest <;> (unfold Rf.proofF; rw [if_pos hbig])
    obtain ⟨r1, r2, hm⟩ := hI w3 y3 (List.length_pos_iff.1 hbig.1)
    rw [hP]
    have e1 : pk (.bool (decide (0 < (of.length : Int)))) (.bool (Rf.full t l of (Rf.lastR of))) (.bool false) = .bool true := by
      have : decide (0 < (of.length : Int)) = true := decide_eq_true (by omega)
      rw [this, hbig.2]; rfl
    rw [e1]
    simp only [RunD.cs, AtN, KS, Nat.reduceAdd, Nat.reduceMul, Nat.reduceEqDiff, ↓reduceIte, UT] at r1
    refine Run_condS (fun _ => rfl) (fun _ => ?_) (fun h => by cases h)
    (repeat with_reducible first | refine jy ?_ | refine jw KL20 [2] (aa TF20 (aa ofs (aa ofl r1))) fun _ => ?_)
    refine ⟨.agg ((Rf.roomLeaf (Rf.lastR of)).cs (.slice none 0 0)).toArray, fun _ => by kernel_rfl, ?_⟩
    refine SemW_setW (by rw [cells36]; decide) (by rw [cells36]; rfl) h3 (by rw [cells36]; rfl) (by simpa [Value.cells] using refOne (x := Rf.roomLeaf (Rf.lastR of)) nn) fun wz rz kz zz => ?_
    have rz : Row wz pp 36 ((Rf.roomLeaf (Rf.lastR of)).cs (.slice none 0 0)) := rz
    have ez := loadVar_at (P := Tryz.prog) (t := 36) (by kernel_rfl) (by rw [cells36]; decide) (by rw [cells36]; rfl) rz.at_
    (repeat with_reducible first | refine jy ?_ | refine jw KL20 [2] TF20 fun _ => ?_)
    refine Run_ret ?_
    simp only [Rets, RetM, resV, fnd, oneOr, ↓reduceIte, KS, Nat.reduceAdd, Nat.reduceMul, Nat.reduceEqDiff, ↓reduceIte, UT]
    refine ⟨pp, _, rfl, ez, ?_⟩
    exact ⟨_, rfl, Keep.ext y3 kz fun b hb => by have := x1.size; omega, RefR.leaf (by constructor <;> decide) (by constructor <;> decide) r2⟩
  have e1 : pk (.bool (decide (0 < (of.length : Int)))) (.bool (Rf.full t l of (Rf.lastR of))) (.bool false) = .bool false := by
    by_cases h0 : 0 < of.length
    · have : Rf.full t l of (Rf.lastR of) = false := by simpa [h0] using hbig
      rw [this]; cases decide (0 < (of.length : Int)) <;> rfl
    · have : decide (0 < (of.length : Int)) = false := decide_eq_false (by omega)
      rw [this]; rfl
  rw [e1]
  refine Run_condS (fun _ => rfl) (fun h => by cases h) (fun _ => ?_)
  (repeat with_reducible first | refine jy ?_ | refine jw KL20 [2] (aa TF20 (aa a3 (aa hos hol))) fun _ => ?_)
  refine Run_condS (fun _ => rfl) (fun h => ?_) (fun h => ?_)
  · simp at h
    have h0 : rest = [] := List.eq_nil_of_length_eq_zero (by omega)
    subst h0
    have hP : Rf.proofF t l [] of = Rf.covLeaf := by unfold Rf.proofF; rw [if_neg hbig]
    rw [hP]
    (repeat with_reducible first | refine jy ?_ | refine jw KL20 [2] TF20 fun _ => ?_)
    refine ⟨.agg (Rf.covLeaf.cs (.slice none 0 0)).toArray, fun _ => by kernel_rfl, ?_⟩
    refine SemW_setW (by rw [cells36]; decide) (by rw [cells36]; rfl) h3 (by rw [cells36]; rfl) (by simpa [Value.cells] using refOne (x := Rf.covLeaf) nn) fun wz rz kz zz => ?_
    have rz : Row wz pp 36 (Rf.covLeaf.cs (.slice none 0 0)) := rz
    have ez := loadVar_at (P := Tryz.prog) (t := 36) (by kernel_rfl) (by rw [cells36]; decide) (by rw [cells36]; rfl) rz.at_
    (repeat with_reducible first | refine jy ?_ | refine jw KL20 [2] TF20 fun _ => ?_)
    refine Run_ret ?_
    simp only [Rets, RetM, resV, fnd, oneOr, ↓reduceIte, KS, Nat.reduceAdd, Nat.reduceMul, Nat.reduceEqDiff, ↓reduceIte, UT]
    refine ⟨pp, _, rfl, ez, ?_⟩
    exact ⟨_, rfl, Keep.ext y3 kz fun b hb => by have := x1.size; omega, RefR.leaf (by constructor <;> decide) (by constructor <;> decide) ⟨by constructor <;> decide, by constructor <;> decide, by constructor <;> decide⟩⟩
  cases rest with
  | nil =>
    simp at hsum h
    omega
  | cons o rest =>
  simp only [List.length_cons] at hsum hn
  have hP : Rf.proofF t l (o :: rest) of = .mk of.length (o.map fun r => Rf.proofF t l rest (of ++ [r])) 0 Rf.zeroR := by rw [Rf.proofF, if_neg hbig]
  rw [hP]
  have h3 : Row w3 pp 36 (RefusalD.cs (.mk 0 [] 0 Rf.zeroR) (.slice none 0 0)) := h3
  (repeat with_reducible first | refine jy ?_ | refine jw KL20 [2] (aa TF20 (aa a3 (aa hOs hOl))) fun _ => ?_)
  refine SemW_setAt (i := 0) cells3 h3 (by decide) rfl rfl fun w4 r4 k4 z4 => ?_
  have r4 : Row w4 pp 36 (RefusalD.cs (.mk of.length [] 0 Rf.zeroR) (.slice none 0 0)) := r4
  have x14 : Ext w1 w4 := Keep.ext (h2.ext.trans x3) k4 fun b hb => by omega
  have a4 := A w4 x14
  have hkl : of.length < opts.length := by omega
  have hd2 := hdrop
  rw [List.drop_eq_getElem_cons hkl] at hd2
  injection hd2 with hoe hre
  obtain ⟨_, ⟨vk, rfl, hk⟩, ha⟩ := hO.at_ of.length hkl
  rw [← hoe] at hk
  have ha := ha.ext (x1.trans x14)
  have hob1 := hob o (by rw [hoe]; exact List.getElem_mem _)
  have hak := ha.n
  simp only [AtN, KS, Nat.reduceAdd, Nat.reduceMul, Nat.reduceEqDiff, ↓reduceIte, UT] at hak
  have hak : has1 w4 ((slAt vO).add of.length) ∧ mem w4 ((slAt vO).add of.length) = vk := by simpa [show Enc.n (List RunD) = 1 from rfl] using hak
  have hks := hk.s
  have hkn := hk.len
  (repeat with_reducible first | refine jy ?_ | refine jw KL20 [2] (aa TF20 (aa a4 (aa hOs (aa hOl (aa hak (aa hks hkn)))))) fun _ => ?_)
  refine Run_loopV [7, 44, 45] (σ := Nat × Value) (fun q => [(44, some (.int .i64 q.1))]) (fun q w' => q.1 ≤ o.length ∧ Ext w1 w' ∧ Row w' pp 36 (RefusalD.cs (.mk of.length [] 0 Rf.zeroR) q.2) ∧ ∃ rs : List RawF, BufO (α := RawF) 36 w2.heap.size w' q.2 rs ∧ rs.length = q.1 ∧ ∀ i (h1 : i < rs.length) (h2 : i < o.length), RefR (fun b => w2.heap.size ≤ b ∧ b < w'.heap.size ∧ some b ≠ q.2.ownBlock) w' rs[i].cs (Rf.proofF t l rest (of ++ [o[i]]))) (fun q => o.length - q.1) (0, .slice none 0 0) (by simp [SubB, fnd]) ⟨by simp, x14, r4, [], BufO.nil, rfl, by simp⟩ ?_
  rintro ⟨q, vb⟩ w5 ⟨hq, x5, r5, rs, c1, c2, c3⟩
  simp only at hq x5 r5 c1 c3
  have svb : IsS vb := c1.isS.1
  (repeat with_reducible first | refine jy ?_ | refine jw KL20 [2] TF20 fun _ => ?_)
  refine Run_condS (fun _ => rfl) (fun h => ?_) (fun h => ?_)
  · simp at h
    have hql : q < o.length := by omega
    have hqc : (q : Int) < o.length := by omega
    clear h
    obtain ⟨g1, g2⟩ := (hk.ext (x1.trans x5)).runD hql
    simp only [RunD.cs, AtN, KS, Nat.reduceAdd, Nat.reduceMul, Nat.reduceEqDiff, ↓reduceIte, UT] at g1
    have hrow : (o.map fun r => Rf.proofF t l rest (of ++ [r])).length = o.length := by simp
    generalize hrr : o[q] = r at *
    (repeat with_reducible first | refine jy ?_ | refine jw KL20 [2] (aa TF20 (aa hks (aa hkn g1))) fun _ => ?_)
    refine SemW_allocT ti34 fun px w6 h6 => ?_
    have b6 := h6.blk
    (repeat with_reducible first | refine jy ?_ | refine jw KL20 [2] TF20 fun _ => ?_)
    refine SemW_setW (by rw [cells34]; decide) (by rw [cells34]; rfl) h6.row (by rw [cells34]; rfl) rfl fun w7 r7 k7 z7 => ?_
    have r7 : Row w7 px 34 r.cs := by simpa [Value.cells, RunD.cs] using r7
    have x57 : Ext w5 w7 := Keep.ext h6.ext k7 fun b hb => by omega
    let S : Nat → Prop := fun b => some b ≠ vb.ownBlock
    have hown : ∀ b, b < w2.heap.size ∨ w5.heap.size ≤ b → S b := fun b hb e => by
      have := c1.own_lt e.symm
      omega
    (repeat with_reducible refine js ?_)
    refine Run_eh S [14] [(1, [14]), (2, [14]), (7, [14])] (id := 10) KL20 (.first 0 (.first 1 (.first 2 (.first 3 (.first 4 (.first 5 (.first 6 (.first 7 (.alt true 8 (.alt true 9 (.alt true 10 (.alt true 11 (.alt true 12 (.first 13 (.alt true 14 (.done false) .stop)) .stop) .stop) .stop) .stop) .stop))))))))) mixed (by kernel_rfl) (by kernel_rfl) fun w8 x8 _ => ?_
    have hS : ∀ w9, Ext w8 w9 → Keep S w8 w9 := fun w9 x => Keep.of_ext x
    have x58 := x57.trans x8
    have r8 := r5.ext x58
    have rp8 := r8.n
    have rx8 := (r7.ext x8).n
    have a8 := A w8 (x5.trans x58)
    simp only [RefusalD.cs, RefusalD.o, RefusalD.why, RefusalD.run, Rf.zeroR, RunD.cs, AtN, KS, Nat.reduceAdd, Nat.reduceMul, Nat.reduceEqDiff, ↓reduceIte, UT] at rp8 rx8
    (try simp (maxSteps := 5000000) only [KS, Nat.reduceAdd, Nat.reduceMul, Nat.reduceEqDiff, ↓reduceIte, forall_const, Int.cast_ofNat_Int, Int.reduceToNat, List.take_succ_cons, List.take_zero, List.drop_succ_cons, List.drop_zero, TF20, KL20, eh, gres, qopS, putL, ung, rp8, rx8, a8, ofs, ofl]); (try simp (disch := omega) only [wrapI, tmodI, tdivI])
    have z22 := h2.size
    have z11 := h1.size
    have b11 := h1.blk
    refine ⟨hown _ (.inl (by rw [blk_add]; omega)), hown _ (.inl (by omega)), ⟨by omega, by omega, by omega, by have := hof.cap; omega⟩, hown _ (.inr (by omega)), Keep.refl _ _, ?_⟩
    have y8 := x1.trans (x5.trans x58)
    refine appCap (G := fun w' => Keep S w8 w') (hof.ext y8) (by omega) g2 hS fun _ v9 w9 b9 x9 => ⟨hS _ x9, ?_⟩
    have y9 := y8.trans x9
    have sv9 := b9.sl (by rw [List.length_append, List.length_singleton]; omega)
    have hro : r ∈ o := by rw [← hrr]; exact List.getElem_mem _
    refine CallW_gen call20 (ih rest.length (by omega) rest (of ++ [r]) v9 w9 rfl (by rw [List.length_append, List.length_singleton]; omega) (by rw [hre, List.length_append, List.length_singleton]) (fun x hx => by
      rcases List.mem_append.1 hx with hx | hx
      · exact hin _ hx
      · rw [List.mem_singleton.1 hx]; exact hob1.2 _ hro) (hl.ext y9) (ho.ext y9) (hO.ext y9) s0 s1 s2 sv9) fun e w10 ⟨vz, he, x10, hR⟩ => ⟨_, he, hS _ (x9.trans x10), ?_⟩
    have x8a := x9.trans x10
    have c1a := (c1.keepQ (Keep.of_ext (x58.trans x8a)) fun _ _ => trivial : BufO (α := RawF) 36 w2.heap.size w10 vb rs)
    have e25 : w2.heap.size ≤ w5.heap.size := by have := r5.lt; omega
    have hB10 : w2.heap.size ≤ w10.heap.size := by
      have e1 := x58.size
      have e2 := x8a.size
      omega
    refine SemW_append1W (α := RawF) (G := fun w' => Keep S w8 w') Tryz.underlying32 ti36 rfl (by decide) c1a hB10 (x := ⟨(Rf.proofF t l rest (of ++ [r])).cs vz⟩) hR.raw (by rw [c2]; simp only [maxLen]; omega) (fun w' x => hS _ (x8a.trans x)) fun _ v11 w11 b11 k11 g11 => ⟨(Keep.of_ext x8a : Keep S w8 w10).trans k11, ?_⟩
    have r11 := (r8.ext x8a).keep k11 (hown _ (.inl (by omega)))
    refine SemW_setAt (i := 1) cells32 r11 (by simp [RefusalD.cs]) (isS_c b11.isS.1) (isS_o b11.isS.1) fun w12 r12 k12 z12 => ⟨fun h => h.elim, ?_⟩
    have r12 : Row w12 pp 36 (RefusalD.cs (.mk of.length [] 0 Rf.zeroR) v11) := r12
    have x110 : Ext w1 w10 := x5.trans (x58.trans x8a)
    have x112 : Ext w1 w12 := Keep.ext (Keep.ext x110 k11 fun b hb e => by have := c1.own_lt e.symm; omega) k12 fun b hb => by omega
    have e57 := x58.size
    have e8a := x8a.size
    have e9 := x9.size
    have e10 := k11.size
    (repeat with_reducible first | refine jy ?_ | refine jw KL20 [2] TF20 fun _ => ?_)
    refine Run_lp ⟨(q + 1, v11), by simp [SubB, fnd, strike, has], ⟨by show q + 1 ≤ o.length; omega, x112, r12, rs ++ [⟨(Rf.proofF t l rest (of ++ [r])).cs vz⟩], b11.keepQ k12 fun g hg e => by have := (b11.own_lt hg).1; omega, by show (rs ++ [_]).length = q + 1; simp [c2], fun i hi1 hi2 => ?_⟩, by show o.length - (q + 1) < o.length - q; omega⟩
    have hne : ∀ b, b < w10.heap.size → some b ≠ vb.ownBlock → some b ≠ v11.ownBlock := fun b hb h e => by
      rcases g11 with g | ⟨g, hg, hgl⟩
      · exact h (e.trans g)
      · rw [hg] at e; injection e with e; omega
    have K812 : Keep (fun b => some b ≠ vb.ownBlock ∧ b ≠ pp.block) w10 w12 := (k11.mono fun b _ h => h.1).trans (k12.mono fun b _ h => h.2)
    by_cases hiq : i < rs.length
    · rw [List.getElem_append_left hiq]
      have hR0 := (c3 i hiq hi2).ext (x58.trans x8a)
      refine (hR0.keep K812 fun b ⟨hb1, hb2, hb3⟩ => ⟨hb3, by omega⟩).mono fun b ⟨hb1, hb2, hb3⟩ => ⟨hb1, by omega, hne b (by omega) hb3⟩
    · have hiq' : i = rs.length := by
        simp only [List.length_append, List.length_singleton] at hi1
        omega
      subst hiq'
      rw [List.getElem_append_right (Nat.le_refl _)]
      have ho1 : o[rs.length]'hi2 = r := by rw [← hrr]; congr 1
      rw [ho1]
      simp only [Nat.sub_self, List.getElem_cons_zero]
      have hb' : ∀ b, w9.heap.size ≤ b → some b ≠ vb.ownBlock := fun b hb => hown b (.inr (by omega))
      exact (hR.keep K812 fun b ⟨hb1, hb2⟩ => ⟨hb' b hb1, by omega⟩).mono fun b ⟨hb1, hb2⟩ => ⟨by omega, by omega, hne b hb2 (hb' b hb1)⟩
  simp at h
  obtain rfl : q = o.length := by omega
  clear h
  have r5n := r5.n
  simp only [RefusalD.cs, RefusalD.o, RefusalD.why, RefusalD.run, Rf.zeroR, AtN, KS, Nat.reduceAdd, Nat.reduceMul, Nat.reduceEqDiff, ↓reduceIte, UT] at r5n
  (repeat with_reducible first | refine jy ?_ | refine jw KL20 [2] (aa TF20 r5n) fun _ => ?_)
  refine SemW_setW (by rw [cells36]; decide) (by rw [cells36]; rfl) r5 (by rw [cells36]; rfl) (by simpa [Value.cells, RefusalD.cs, RefusalD.o, RefusalD.why, RefusalD.run, Rf.zeroR] using refOne (x := .mk of.length [] 0 Rf.zeroR) svb) fun wz rz kz zz => ?_
  have rz : Row wz pp 36 (RefusalD.cs (.mk of.length [] 0 Rf.zeroR) vb) := rz
  have ez := loadVar_at (P := Tryz.prog) (t := 36) (by kernel_rfl) (by rw [cells36]; decide) (by rw [cells36]; rfl) rz.at_
  (repeat with_reducible first | refine jy ?_ | refine jw KL20 [2] TF20 fun _ => ?_)
  refine Run_ret ?_
  simp only [Rets, RetM, resV, fnd, oneOr, ↓reduceIte, KS, Nat.reduceAdd, Nat.reduceMul, Nat.reduceEqDiff, ↓reduceIte, UT]
  refine ⟨pp, _, rfl, ez, ?_⟩
  have z1 := x1.size
  have z2 := h2.size
  have bz : BufO (α := RawF) 36 w2.heap.size wz vb rs := c1.keepQ kz fun g hg e => by have := (c1.own_lt hg).1; omega
  refine ⟨vb, rfl, Keep.ext (x1.trans x5) kz fun b hb => by omega, ?_⟩
  refine RefR.of_raw (rs := rs) (i64n (by omega) (by omega)) (i64n (by omega) (by omega)) ⟨i64n (by decide) (by decide), i64n (by decide) (by decide), i64n (by decide) (by decide)⟩ (bz.sl (by omega)) (by simpa using c2) (fun hne => ?_) fun i hi1 hi2 => ?_
  · have hne' : rs ≠ [] := fun e => hne (by
      have : o.length = 0 := by have := c2; rw [e] at this; exact this.symm
      rw [List.eq_nil_of_length_eq_zero this]; rfl)
    have := bz.le (by decide) hne'
    omega
  · have hi3 : i < o.length := by omega
    rw [List.getElem_map]
    exact ((c3 i hi1 hi3).keep kz fun b ⟨hb1, hb2, hb3⟩ e => by omega).mono fun b ⟨hb1, hb2, hb3⟩ => by omega
end Go.Proofs.YtldjfebokojmfaaGreat
namespace Go.Fk
open Go
theorem Pl.ridx_pos {r : RunD} : ∀ (xs : List RunD) (k : Nat), decide (0 ≤ Pl.ridx r xs k) = xs.contains r
  | [], k => by simp [Pl.ridx]
  | x :: xs, k => by
    rw [Pl.ridx, List.contains_cons]
    by_cases h : x = r
    · subst h; rw [if_pos rfl]; simp
    · rw [if_neg h, Pl.ridx_pos xs (k + 1)]
      have : (r == x) = false := by simpa using fun e => h e.symm
      rw [this]; rfl
end Go.Fk
namespace Go.Proofs.YtldjfebokojmfaaGreat
open Go Go.Fk
set_option linter.unusedSimpArgs false
set_option linter.unusedVariables false
set_option maxRecDepth 100000
theorem contR (v : Value) (r : RunD) (xs : List RunD) (w : World) (hx : Sl w v xs) :
    Calls Tryz.prog 46 #[v, .agg r.cs.toArray] w fun e w' => e = .returned (.bool (xs.contains r)) ∧ Ext w w' := by
  refine Calls_of_Run (args := [v, .agg r.cs.toArray]) (n := 9) (rs := [.tmp 4]) Tryz.func46 rfl rfl rfl (by simp) ?_
  (repeat with_reducible first | refine jy ?_ | refine jw KL46 [] TF46 fun _ => ?_)
  refine SemW_box fun pv w0 h0 => ?_
  have v0 := h0.at_.n
  simp only [RunD.cs, AtN, KS, Nat.reduceAdd, Nat.reduceMul, Nat.reduceEqDiff, ↓reduceIte, UT] at v0
  (repeat with_reducible first | refine jy ?_ | refine jw KL46 [] (aa TF46 v0) fun _ => ?_)
  refine CallW_pure call69 (idxR v r xs w0 (hx.ext h0.ext)) fun w1 x1 => ?_
  (repeat with_reducible first | refine jy ?_ | refine jw KL46 [] TF46 fun _ => ?_)
  refine Run_ret ?_
  simp only [Rets, RetM, resV, fnd, oneOr, ↓reduceIte, KS, Nat.reduceAdd, Nat.reduceMul, Nat.reduceEqDiff, ↓reduceIte, UT, Pl.ridx_pos]
  exact ⟨_, rfl, rfl, h0.ext.trans x1⟩
set_option maxHeartbeats 4000000 in
theorem rsRight {t : TimeD} {l : List OrderD} {covers : Int} {vl u0 u1 u2 vo vO : Value} {opts : List (List RunD)} (hcr : ∀ o ∈ l, 1 ≤ o.Crowd ∧ o.Crowd ≤ 64) (h64 : l.length ≤ 64) (hlen : opts.length = l.length) (hob : ∀ o ∈ opts, o.length ≤ 100000000 ∧ ∀ r ∈ o, 0 ≤ r.Line ∧ r.Line < t.Lines.length) :
    ∀ (n : Nat) (rest : List (List RunD)) (of : List RunD) (p : RefusalD) (vof u : Value) (w : World), rest.length = n → of.length + rest.length = l.length → rest = opts.drop of.length → (∀ r ∈ of, 0 ≤ r.Line ∧ r.Line < t.Lines.length) → Sl w vl t.Lines → Sl w vo l → Sl w vO opts → IsS u0 → IsS u1 → IsS u2 → Sl w vof of → I64 p.o → I64 p.why → RunJ p.run → Sl w u p.kids →
    Calls Tryz.prog 28 #[.agg (srC t covers vl u0 u1 u2 vo vO).toArray, vof, .agg (p.cs u).toArray] w fun e w' => e = .returned (.bool (Rf.rightF t l covers rest of p)) ∧ Ext w w' := by
  intro n
  induction n using Nat.strongRecOn with
  | _ n ih =>
  intro rest of p vof u w hn hsum hdrop hin hl ho hO s0 s1 s2 hof io iw ir hkids
  have ofs := hof.s
  have ofl := hof.len
  have hos := ho.s
  have hol := ho.len
  have hOs := hO.s
  have hOl := hO.len
  have hus := hkids.s
  have hul := hkids.len
  have hke : ((p.kids.length : Int) == 0) = p.kids.isEmpty := by
    rw [Bool.eq_iff_iff]; simp [List.isEmpty_iff]
  have hrz : p.run = Rf.zeroR ↔ p.run.Line = 0 ∧ p.run.At = 0 ∧ p.run.Arrive = 0 := by
    cases p.run; simp [Rf.zeroR]
  refine Calls_of_Run (args := [.agg (srC t covers vl u0 u1 u2 vo vO).toArray, vof, .agg (p.cs u).toArray]) (n := 131) (rs := [.tmp 6]) Tryz.func28 rfl rfl rfl (by simp) ?_
  (repeat with_reducible first | refine jy ?_ | refine jw KL28 [6] TF28 fun _ => ?_)
  refine SemW_box fun ps w1 h1 => SemW_box fun pp w2 h2 => ?_
  have x1 := h1.ext
  have x2 := x1.trans h2.ext
  have A : ∀ w', Ext w2 w' → AtN w' ps 0 (srC t covers vl u0 u1 u2 vo vO) := fun w' x => (h1.at_.ext (h2.ext.trans x)).n
  have B : ∀ w', Ext w2 w' → AtN w' pp 0 (p.cs u) := fun w' x => (h2.at_.ext x).n
  simp only [srC, RefusalD.cs, AtN, KS, Nat.reduceAdd, Nat.reduceMul, Nat.reduceEqDiff, ↓reduceIte, UT] at A B
  have a2 := A w2 (Ext.refl _)
  have b2 := B w2 (Ext.refl _)
  (repeat with_reducible first | refine jy ?_ | refine jw KL28 [6] (aa TF28 (aa ofs (aa ofl (aa a2 b2)))) fun _ => ?_)
  refine Run_condS (fun _ => rfl) (fun h => ?_) (fun h => ?_)
  · simp at h
    have hP : Rf.rightF t l covers rest of p = (p.kids.isEmpty && of.contains p.run && Rf.full t l of p.run) := by cases rest <;> (unfold Rf.rightF; rw [if_pos h])
    rw [hP]
    (repeat with_reducible first | refine jy ?_ | refine jw KL28 [6] (aa TF28 (aa ofs (aa ofl (aa a2 (aa b2 (aa hus hul)))))) fun _ => ?_)
    refine .inr ⟨.bool (of.contains p.run), fun _ => PC_pure call46 fun w3 x3 => contR vof p.run of w3 (hof.ext (x2.trans x3)), fun w3 x3 => ?_⟩
    unfold hush
    have a3 := A w3 x3
    have b3 := B w3 x3
    (repeat with_reducible first | refine jy ?_ | refine jw KL28 [6] (aa TF28 (aa a3 b3)) fun _ => ?_)
    refine .inr ⟨.bool (Rf.full t l of p.run), fun _ => PC_pure call42 fun w4 x4 => srFull (covers := covers) (u0 := u0) (u1 := u1) (u2 := u2) (vO := vO) (hl.ext (x2.trans (x3.trans x4))) (ho.ext (x2.trans (x3.trans x4))) (hof.ext (x2.trans (x3.trans x4))) (by omega) h64 hcr fun h => hin _ h, fun w4 x4 => ?_⟩
    unfold hush
    (repeat with_reducible first | refine jy ?_ | refine jw KL28 [6] (aa TF28 (aa a2 (aa b2 hul))) fun _ => ?_)
    refine Run_ret ?_
    simp only [Rets, RetM, resV, fnd, oneOr, ↓reduceIte, KS, Nat.reduceAdd, Nat.reduceMul, Nat.reduceEqDiff, ↓reduceIte, UT, hke]
    exact ⟨_, rfl, rfl, x2.trans (x3.trans x4)⟩
  have hn1 : ¬ (p.o = -1 ∧ p.why = 1) := by simpa using h
  clear h
  (repeat with_reducible first | refine jy ?_ | refine jw KL28 [6] (aa TF28 b2) fun _ => ?_)
  refine Run_condS (fun _ => rfl) (fun h => ?_) (fun h => ?_)
  · have ho1 : p.o = -1 := by simpa using h
    clear h
    (repeat with_reducible first | refine jy ?_ | refine jw KL28 [6] (aa TF28 (aa ofs (aa ofl (aa a2 (aa b2 (aa hus (aa hul (aa hos hol)))))))) fun _ => ?_)
    refine ⟨.agg #[.int .i64 0, .int .i64 0, .int .i64 0], fun _ _ => by kernel_rfl, by kernel_rfl, fun _ => ⟨by simp [IsA], by simp [agOf], by simp [agOf, allI]⟩, .inr ⟨.bool (Rf.short l covers of), fun _ => PC_pure call47 fun w3 x3 => srShort (t := t) (vl := vl) (u0 := u0) (u1 := u1) (u2 := u2) (vO := vO) (ho.ext (x2.trans x3)) (hof.ext (x2.trans x3)) (by omega) h64 hcr, fun w3 x3 => ?_⟩⟩
    unfold hush
    (repeat with_reducible first | refine jy ?_ | refine jw KL28 [6] (aa TF28 (aa a2 (aa b2 (aa hul hol)))) fun _ => ?_)
    refine Run_ret ?_
    simp only [Rets, RetM, resV, fnd, oneOr, ↓reduceIte, KS, Nat.reduceAdd, Nat.reduceMul, Nat.reduceEqDiff, ↓reduceIte, UT, hke]
    refine ⟨_, rfl, ?_, x2.trans x3⟩
    congr 2
    cases rest with
    | nil =>
      simp only [List.length_nil, Nat.add_zero] at hsum
      unfold Rf.rightF
      rw [if_neg hn1, Bool.eq_iff_iff]
      simp [hsum, ho1, hrz]
      exact fun _ => ⟨fun ⟨⟨e1, e2⟩, e3⟩ => ⟨⟨e1, e3⟩, e2⟩, fun ⟨⟨e1, e3⟩, e2⟩ => ⟨⟨e1, e2⟩, e3⟩⟩
    | cons o rest =>
      simp only [List.length_cons] at hsum
      unfold Rf.rightF
      rw [if_neg hn1]
      have : ((of.length : Int) == l.length) = false := by simp; omega
      rw [this]
      simp [ho1]
  have ho1 : p.o ≠ -1 := by simpa using h
  clear h
  (repeat with_reducible first | refine jy ?_ | refine jw KL28 [6] (aa TF28 (aa ofs (aa ofl (aa a2 (aa b2 (aa hus (aa hul (aa hos (aa hol (aa hOs hOl)))))))))) fun _ => ?_)
  have hrb : ∀ h : of.length ≠ l.length, ∃ o rest', rest = o :: rest' ∧ ∃ vk, Sl w vk o ∧ o ∈ opts ∧ rest' = opts.drop (of.length + 1) ∧ ∀ w', Ext w w' → has1 w' ((slAt vO).add of.length) ∧ mem w' ((slAt vO).add of.length) = vk := fun h => by
    have hkl : of.length < opts.length := by omega
    have hd2 := hdrop
    rw [List.drop_eq_getElem_cons hkl] at hd2
    obtain ⟨_, ⟨vk, rfl, hk⟩, ha⟩ := hO.at_ of.length hkl
    refine ⟨_, _, hd2, vk, hk, List.getElem_mem _, rfl, fun w' x => ?_⟩
    have hak := (ha.ext x).n
    simp only [AtN, KS, Nat.reduceAdd, Nat.reduceMul, Nat.reduceEqDiff, ↓reduceIte, UT] at hak
    simpa [show Enc.n (List RunD) = 1 from rfl] using hak
  have hz : ∀ w', (Instr.build 34 #[]).run Tryz.prog w' = .ok (.agg #[.int .i64 0, .int .i64 0, .int .i64 0]) w' := fun _ => by kernel_rfl
  refine ⟨.agg #[.int .i64 0, .int .i64 0, .int .i64 0], fun _ _ => hz _, by kernel_rfl, fun _ => ⟨by simp [IsA], by simp [agOf], by simp [agOf, allI]⟩, fun h => ?_, fun h => ?_, fun h => ?_, fun w3 x3 => ?_⟩
  · simp at h
    omega
  · simp at h
    obtain ⟨o, rest', h1, vk, hk, hm, hr', hv⟩ := hrb (by omega)
    exact (hv w2 x2).1
  · simp at h
    obtain ⟨o, rest', h1, vk, hk, hm, hr', hv⟩ := hrb (by omega)
    rw [(hv w2 x2).2]; exact hk.s
  refine Run_condS (fun _ => rfl) (fun h => ?_) (fun h => ?_)
  · have hf : Rf.rightF t l covers rest of p = false := by
      by_cases hc : of.length = l.length
      · cases rest with
        | cons o rest => simp only [List.length_cons] at hsum; omega
        | nil =>
          unfold Rf.rightF
          rw [if_neg hn1]
          simp [ho1]
      · obtain ⟨o, rest', h1, vk, hk, hm, hr', hv⟩ := hrb hc
        subst h1
        unfold Rf.rightF
        rw [if_neg hn1]
        rw [(hv w2 x2).2, hk.len] at h
        simp [agOf, eqI, hc] at h
        have : ¬ (p.o = of.length ∧ p.o ≠ -1 ∧ p.why = 0 ∧ p.run = Rf.zeroR ∧ p.kids.length = o.length) := fun ⟨e1, e2, e3, e4, e5⟩ => by
          obtain ⟨e6, e7, e8⟩ := hrz.1 e4
          simp [e1, e3, e5, e6, e7, e8] at h
          exact hc (by omega)
        rw [decide_eq_false this]; rfl
    rw [hf]
    (repeat with_reducible first | refine jy ?_ | refine jw KL28 [6] TF28 fun _ => ?_)
    refine Run_ret ?_
    simp only [Rets, RetM, resV, fnd, oneOr, ↓reduceIte, KS, Nat.reduceAdd, Nat.reduceMul, Nat.reduceEqDiff, ↓reduceIte, UT]
    exact ⟨_, rfl, rfl, x2.trans x3⟩
  have hc : of.length ≠ l.length := fun e => by simp [e] at h
  obtain ⟨o, rest', h1, vk, hk, hm, hr', hv⟩ := hrb hc
  subst h1
  rw [(hv w2 x2).2, hk.len] at h
  simp [agOf, eqI, hc] at h
  have a3 := A w3 x3
  have v3 := hv w3 (x2.trans x3)
  have hks := hk.s
  have hkn := hk.len
  simp only [List.length_cons] at hsum hn
  have hob1 := hob o hm
  have hkl : p.kids.length = o.length := by omega
  have hR : Rf.rightF t l covers (o :: rest') of p = (o.zip p.kids).all fun a => Rf.rightF t l covers rest' (of ++ [a.1]) a.2 := by
    rw [Rf.rightF, if_neg hn1]
    have : p.o = of.length ∧ p.o ≠ -1 ∧ p.why = 0 ∧ p.run = Rf.zeroR ∧ p.kids.length = o.length := ⟨by omega, ho1, by omega, hrz.2 (by omega), hkl⟩
    rw [decide_eq_true this, Bool.true_and]
  rw [hR]
  generalize hFF : (fun a : RunD × RefusalD => Rf.rightF t l covers rest' (of ++ [a.1]) a.2) = FF
  have hzl : (o.zip p.kids).length = o.length := by simp [hkl]
  (repeat with_reducible first | refine jy ?_ | refine jw KL28 [6] (aa TF28 (aa a3 (aa v3 (aa hOs (aa hOl (aa hks hkn)))))) fun _ => ?_)
  refine Run_loopV [6, 8, 9, 110, 111, 129] (σ := Nat) (fun q => [(110, some (.int .i64 q)), (6, some (.bool false))]) (fun q w' => q ≤ o.length ∧ Ext w2 w' ∧ ((o.zip p.kids).drop q).all FF = (o.zip p.kids).all FF) (fun q => o.length - q) 0 (by simp [SubB, fnd]) ⟨by omega, x3, rfl⟩ ?_
  rintro q w4 ⟨hq, x4, hf⟩
  (repeat with_reducible first | refine jy ?_ | refine jw KL28 [6] TF28 fun _ => ?_)
  refine Run_condS (fun _ => rfl) (fun h => ?_) (fun h => ?_)
  · simp at h
    have hql : q < o.length := by omega
    have hqc : (q : Int) < o.length := by omega
    clear h
    have hqk : q < p.kids.length := by omega
    have hqkc : (q : Int) < p.kids.length := by omega
    have y4 := x2.trans x4
    obtain ⟨g1, g2⟩ := (hk.ext y4).runD hql
    have hor : o[q] ∈ o := List.getElem_mem _
    rw [List.drop_eq_getElem_cons (show q < (o.zip p.kids).length by omega), List.all_cons, List.getElem_zip, ← hFF] at hf
    simp only at hf
    rw [hFF] at hf
    have hkid := fun w' (x : Ext w4 w') => (hkids.ext (y4.trans x)).refusal hqk
    generalize o[q] = r at *
    generalize p.kids[q] = c at *
    simp only [RunD.cs, AtN, KS, Nat.reduceAdd, Nat.reduceMul, Nat.reduceEqDiff, ↓reduceIte, UT] at g1
    (repeat with_reducible first | refine jy ?_ | refine jw KL28 [6] (aa TF28 (aa hks (aa hkn g1))) fun _ => ?_)
    refine SemW_allocT ti34 fun px w6 h6 => ?_
    have b6 := h6.blk
    (repeat with_reducible first | refine jy ?_ | refine jw KL28 [6] TF28 fun _ => ?_)
    refine SemW_setW (by rw [cells34]; decide) (by rw [cells34]; rfl) h6.row (by rw [cells34]; rfl) rfl fun w7 r7 k7 z7 => ?_
    have r7 : Row w7 px 34 r.cs := by simpa [Value.cells, RunD.cs] using r7
    have x47 : Ext w4 w7 := Keep.ext h6.ext k7 fun b hb => by omega
    let S : Nat → Prop := fun _ => True
    (repeat with_reducible refine js ?_)
    refine Run_eh S [13] [(0, [13]), (5, [6, 7, 13]), (9, [11, 12, 13]), (12, [13])] (id := 11) KL28 (.first 0 (.first 1 (.first 2 (.first 3 (.first 4 (.first 5 (.first 8 (.first 9 (.first 10 (.first 11 (.first 12 (.alt true 6 (.alt true 7 (.alt true 13 (.free (.first 14 .done)) .stop) .stop) .stop)))))))))))) mixed (by kernel_rfl) (by kernel_rfl) fun w8 x8 _ => ?_
    have hS : ∀ w9, Ext w8 w9 → Keep S w8 w9 := fun w9 x => Keep.of_ext x
    have x48 := x47.trans x8
    have rx8 := (r7.ext x8).n
    have a8 := A w8 (x4.trans x48)
    have b8 := B w8 (x4.trans x48)
    obtain ⟨uc, c1, c2⟩ := hkid w8 x48
    obtain ⟨uc', hcs, i1, i2, i3, hsk⟩ := c2.op
    simp only [RefusalD.cs, RunD.cs, AtN, KS, Nat.reduceAdd, Nat.reduceMul, Nat.reduceEqDiff, ↓reduceIte, UT] at rx8 c1
    (try simp (maxSteps := 5000000) only [KS, Nat.reduceAdd, Nat.reduceMul, Nat.reduceEqDiff, ↓reduceIte, forall_const, Int.cast_ofNat_Int, Int.reduceToNat, List.take_succ_cons, List.take_zero, List.drop_succ_cons, List.drop_zero, TF28, KL28, eh, gres, qopS, putL, ung, rx8, a8, b8, c1, ofs, ofl, hus, hul]); (try simp (disch := omega) only [wrapI, tmodI, tdivI])
    have huc : uc = uc' := by simpa [RefusalD.cs] using hcs
    subst huc
    have y8 := y4.trans x48
    refine ⟨trivial, ⟨by omega, by omega, by omega, by have := hof.cap; omega⟩, trivial, trivial, ⟨by omega, by omega⟩, trivial, Keep.refl _ _, ?_⟩
    refine appCap (G := fun w' => Keep S w8 w') (hof.ext y8) (by omega) g2 hS fun _ v9 w9 b9 x9 => ⟨hS _ x9, ?_⟩
    have y9 := y8.trans x9
    have sv9 := b9.sl (by rw [List.length_append, List.length_singleton]; omega)
    refine CallW_gen call28 (ih rest'.length (by omega) rest' (of ++ [r]) c v9 uc w9 rfl (by rw [List.length_append, List.length_singleton]; omega) (by rw [hr', List.length_append, List.length_singleton]) (fun x hx => by
      rcases List.mem_append.1 hx with hx | hx
      · exact hin _ hx
      · rw [List.mem_singleton.1 hx]; exact hob1.2 _ hor) (hl.ext y9) (ho.ext y9) (hO.ext y9) s0 s1 s2 sv9 i1 i2 i3 (hsk.ext x9)) fun e w10 ⟨he, x10⟩ => ⟨_, he, by simp [IsB], ?_⟩
    have hFr : Rf.rightF t l covers rest' (of ++ [r]) c = FF (r, c) := by rw [← hFF]
    rw [hFr] at hf ⊢
    generalize FF (r, c) = bb at *
    refine Run_condS (fun _ => rfl) (fun h => ?_) (fun h => ?_)
    · have : bb = false := by simpa [bOf] using h
      subst this
      rw [Bool.false_and] at hf
      rw [← hf]
      (repeat with_reducible first | refine jy ?_ | refine jw KL28 [6] TF28 fun _ => ?_)
      refine Run_ret ?_
      simp only [Rets, RetM, resV, fnd, oneOr, ↓reduceIte, KS, Nat.reduceAdd, Nat.reduceMul, Nat.reduceEqDiff, ↓reduceIte, UT]
      exact ⟨_, rfl, rfl, y9.trans x10⟩
    · have : bb = true := by simpa [bOf] using h
      subst this
      rw [Bool.true_and] at hf
      (repeat with_reducible first | refine jy ?_ | refine jw KL28 [6] TF28 fun _ => ?_)
      exact Run_lp ⟨q + 1, by simp [SubB, fnd, strike, has], ⟨by omega, x4.trans (x48.trans (x9.trans x10)), hf⟩, by omega⟩
  simp at h
  obtain rfl : q = o.length := by omega
  clear h
  rw [List.drop_eq_nil_of_le (by omega)] at hf
  rw [← hf]
  (repeat with_reducible first | refine jy ?_ | refine jw KL28 [6] TF28 fun _ => ?_)
  refine Run_ret ?_
  simp only [Rets, RetM, resV, fnd, oneOr, ↓reduceIte, KS, Nat.reduceAdd, Nat.reduceMul, Nat.reduceEqDiff, ↓reduceIte, UT]
  exact ⟨_, rfl, rfl, x2.trans x4⟩
end Go.Proofs.YtldjfebokojmfaaGreat
