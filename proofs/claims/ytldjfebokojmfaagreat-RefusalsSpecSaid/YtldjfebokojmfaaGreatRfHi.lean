import Derived.Test.YtldjfebokojmfaaGreatRfHj
import Derived.Test.YtldjfebokojmfaaGreatRfHe
import Derived.Test.YtldjfebokojmfaaGreatRfHa
namespace Go.Proofs.YtldjfebokojmfaaGreat
open Go Go.Fk
set_option linter.unusedSimpArgs false
set_option linter.unusedVariables false
set_option maxRecDepth 100000
theorem rgFullM (vl vo vof : Value) (t : TimeD) (l : List OrderD) (of : List RunD) (r : RunD) (w : World) (hl : Sl w vl t.Lines) (ho : Sl w vo l) (hof : Sl w vof of) (hn : of.length ≤ l.length) (h64 : l.length ≤ 64) (hcr : ∀ o ∈ l, 1 ≤ o.Crowd ∧ o.Crowd ≤ 64) (hI : RunI r) (hm : r ∈ of) (hr : Tt.isRun t r = true) :
    Calls Tryz.prog 45 #[.agg (t.cs vl).toArray, vo, vof, .agg r.cs.toArray] w fun e w' => e = .returned (.bool (Rf.full t l of r)) ∧ Ext w w' := by
  have hp := Pl.load_pos (l := l) of hn r hm
  have e : Rf.full t l of r = decide (Pl.room t r < max (Pl.load l of r).n (Pl.load l of r).c) := by
    unfold Rf.full
    rw [Bool.eq_iff_iff]; simp; omega
  obtain ⟨g1, g2, _⟩ := isRunL hr
  rw [e]
  exact rgFull vl vo vof t l of r w hl ho hof hn h64 hcr hI ⟨g1, g2⟩
abbrev aRun (r : RunD) : Value := .agg #[.int .i64 r.Line, .int .i64 r.At, .int .i64 r.Arrive]
theorem newRuns {wa wb : World} {pb : Addr} (h : NewB wa pb (([] : List Value).flatMap fun v => v.cells.toList) 34 wb) : BufO (α := RunD) 34 wa.heap.size wb (.slice (some pb) 0 0) [] := (BufL.new (α := RunD) (e := 34) (W := wa) (w := wa) (w' := wb) (p := pb) (css := []) (xs := ([] : List RunD)) h (Ext.refl _) (Cs.nil _) (by simp [maxLen])).o
theorem appFin {of : List RunD} {r : RunD} {w wc : World} {ps : Addr} {v : Value} (hn : of.length ≤ 1000) (hr : RunJ r) (xc : Ext w wc) (rs : Row wc ps 34 ([aRun r].flatMap fun v => v.cells.toList)) (b : BufO (α := RunD) 34 w.heap.size wc v of) {t3 : TypeId} {K : Value → World → Prop} (hK : ∀ v w', BufO (α := RunD) 34 w.heap.size w' v (of ++ [r]) → Ext w w' → K v w') :
    SemW Tryz.prog (Builtin.append_ #[59, 59] t3 #[v, .slice (some ps) 1 1]) wc K :=
  SemW_appendFO (α := RunD) Tryz.underlying59 ti34 rfl (by decide) b xc.size (Sl.of_row (α := RunD) (css := [[.int .i64 r.Line, .int .i64 r.At, .int .i64 r.Arrive]]) rs (Cs.one ⟨rfl, hr⟩) rfl (by show 1 ≤ 140737488355328; decide)) (by simp only [maxLen, List.length_singleton]; omega) fun v5 w5 b5 k5 => hK v5 w5 b5 (Keep.ext xc k5 fun g hg e => by have := (b.own_lt e.symm).1; omega)
theorem appAll {vof : Value} {of : List RunD} {r : RunD} {w : World} (hof : Sl w vof of) (hn : of.length ≤ 1000) (hr : RunJ r) {t2 t3 : TypeId} {G : World → Prop} (hG : ∀ w', Ext w w' → G w') {K : Value → World → Prop} (hK : ∀ v w', BufO (α := RunD) 34 w.heap.size w' v (of ++ [r]) → Ext w w' → K v w') :
    (SemW Tryz.prog (Instr.buildSlice 59 0 #[]) w fun v w1 => G w1 ∧
      (SemW Tryz.prog (Builtin.append_ #[59, 59] t2 #[v, vof]) w1 fun v w2 => G w2 ∧ SemW Tryz.prog (Instr.buildSlice 59 1 #[(0, aRun r)]) w2 fun s w3 => G w3 ∧ SemW Tryz.prog (Builtin.append_ #[59, 59] t3 #[v, s]) w3 K) ∧
      G w1 ∧ SemW Tryz.prog (Instr.buildSlice 59 1 #[(0, aRun r)]) w1 fun s w2 => G w2 ∧ SemW Tryz.prog (Builtin.append_ #[59, 59] t2 #[v, vof]) w2 fun v w3 => G w3 ∧ SemW Tryz.prog (Builtin.append_ #[59, 59] t3 #[v, s]) w3 K) ∧
    G w ∧ SemW Tryz.prog (Instr.buildSlice 59 1 #[(0, aRun r)]) w fun s w1 => G w1 ∧ SemW Tryz.prog (Instr.buildSlice 59 0 #[]) w1 fun v w2 => G w2 ∧ SemW Tryz.prog (Builtin.append_ #[59, 59] t2 #[v, vof]) w2 fun v w3 => G w3 ∧ SemW Tryz.prog (Builtin.append_ #[59, 59] t3 #[v, s]) w3 K := by
  have kq : ∀ {wa wb : World} {B : Nat} {v : Value} {xs : List RunD}, BufO (α := RunD) 34 B wa v xs → Ext wa wb → BufO (α := RunD) 34 B wb v xs := fun b x => b.keepQ (Keep.of_ext (S := fun _ => True) x) fun _ _ => trivial
  refine ⟨?_, hG _ (Ext.refl _), ?_⟩
  · refine SemW_buildSlice (vs := []) Tryz.underlying59 ti34 rfl rfl rfl (by simp) (by simp) fun pb w1 h1 => ?_
    have B1 := newRuns h1
    refine ⟨hG _ h1.ext, ?_, hG _ h1.ext, ?_⟩
    · refine SemW_appendFO (α := RunD) Tryz.underlying59 ti34 rfl (by decide) B1 h1.ext.size (hof.ext h1.ext) (by simp only [maxLen, List.length_nil]; omega) fun v2 w2 B2 k2 => ?_
      have e2 : Ext w w2 := Keep.ext h1.ext k2 fun b hb e => by have := (B1.own_lt e.symm).1; omega
      rw [List.nil_append] at B2
      refine ⟨hG _ e2, SemW_buildSlice (vs := [aRun r]) Tryz.underlying59 ti34 rfl rfl rfl (by simp [Value.cells]) (by show 1 * 3 ≤ 16777216; decide) fun ps w3 h3 => ⟨hG _ (e2.trans h3.ext), appFin hn hr (e2.trans h3.ext) h3.row (kq B2 h3.ext) hK⟩⟩
    · refine SemW_buildSlice (vs := [aRun r]) Tryz.underlying59 ti34 rfl rfl rfl (by simp [Value.cells]) (by show 1 * 3 ≤ 16777216; decide) fun ps w2 h2 => ⟨hG _ (h1.ext.trans h2.ext), ?_⟩
      have B2 := kq B1 h2.ext
      refine SemW_appendFO (α := RunD) Tryz.underlying59 ti34 rfl (by decide) B2 (h1.ext.trans h2.ext).size (hof.ext (h1.ext.trans h2.ext)) (by simp only [maxLen, List.length_nil]; omega) fun v3 w3 B3 k3 => ?_
      have e3 : Ext w w3 := Keep.ext (h1.ext.trans h2.ext) k3 fun b hb e => by have := (B2.own_lt e.symm).1; omega
      rw [List.nil_append] at B3
      exact ⟨hG _ e3, appFin hn hr e3 (h2.row.keep k3 fun e => by have := (B1.own_lt e.symm).2; have := h2.blk; omega) B3 hK⟩
  · refine SemW_buildSlice (vs := [aRun r]) Tryz.underlying59 ti34 rfl rfl rfl (by simp [Value.cells]) (by show 1 * 3 ≤ 16777216; decide) fun ps w1 h1 => ⟨hG _ h1.ext, ?_⟩
    refine SemW_buildSlice (vs := []) Tryz.underlying59 ti34 rfl rfl rfl (by simp) (by simp) fun pb w2 h2 => ⟨hG _ (h1.ext.trans h2.ext), ?_⟩
    have B2 := newRuns h2
    have z1 := h1.size
    have z2 := h1.blk
    refine SemW_appendFO (α := RunD) Tryz.underlying59 ti34 rfl (by decide) (B2.mono h1.ext.size) (h1.ext.trans h2.ext).size (hof.ext (h1.ext.trans h2.ext)) (by simp only [maxLen, List.length_nil]; omega) fun v3 w3 B3 k3 => ?_
    have e3 : Ext w w3 := Keep.ext (h1.ext.trans h2.ext) k3 fun b hb e => by have := (B2.own_lt e.symm).1; omega
    rw [List.nil_append] at B3
    exact ⟨hG _ e3, appFin hn hr e3 ((h1.row.ext h2.ext).keep k3 fun e => by have := (B2.own_lt e.symm).1; omega) B3 hK⟩
set_option maxHeartbeats 4000000 in
theorem rgProof {t : TimeD} {l : List OrderD} {vl vo vO : Value} {opts : List (List RunD)} (hcr : ∀ o ∈ l, 1 ≤ o.Crowd ∧ o.Crowd ≤ 64) (h64 : l.length ≤ 64) (hlen : opts.length = l.length) (hob : ∀ o ∈ opts, o.length ≤ 100000000 ∧ ∀ r ∈ o, Tt.isRun t r = true) :
    ∀ (n : Nat) (rest : List (List RunD)) (of : List RunD) (vof : Value) (w : World), rest.length = n → of.length + rest.length = l.length → rest = opts.drop of.length → (∀ r ∈ of, Tt.isRun t r = true) → Sl w vl t.Lines → Sl w vo l → Sl w vO opts → Sl w vof of →
    Calls Tryz.prog 25 #[.agg (t.cs vl).toArray, vo, vO, vof] w fun e w' => ∃ v, e = .returned (.agg ((Rf.proofF t l rest of).cs v).toArray) ∧ Ext w w' ∧ RefR (fun b => w.heap.size ≤ b ∧ b < w'.heap.size) w' ((Rf.proofF t l rest of).cs v) (Rf.proofF t l rest of) := by
  intro n
  have nn : IsS (.slice none 0 0) := .inl rfl
  induction n using Nat.strongRecOn with
  | _ n ih =>
  intro rest of vof w hn hsum hdrop hin hl ho hO hof
  have ofs := hof.s
  have ofl := hof.len
  have hos := ho.s
  have hol := ho.len
  have hOs := hO.s
  have hOl := hO.len
  have hlast : of ≠ [] → ∃ h : ((of.length : Int) - 1).toNat < of.length, of[((of.length : Int) - 1).toNat] = Rf.lastR of := fun h => by
    have : 0 < of.length := List.length_pos_iff.2 h
    have h1 : ((of.length : Int) - 1).toNat < of.length := by omega
    have h2 : ((of.length : Int) - 1).toNat = of.length - 1 := by omega
    refine ⟨h1, ?_⟩
    unfold Rf.lastR
    rw [List.getD_eq_getElem?_getD, List.getElem?_eq_getElem (show of.length - 1 < of.length by omega)]
    simp [h2]
  have hI : ∀ w', Ext w w' → of ≠ [] → AtN w' ((slAt vof).add (((of.length : Int) - 1).toNat * 3)) 0 (Rf.lastR of).cs ∧ RunJ (Rf.lastR of) ∧ Rf.lastR of ∈ of := fun w' x h => by
    obtain ⟨h1, h2⟩ := hlast h
    obtain ⟨r1, r2⟩ := (hof.ext x).runD h1
    rw [h2] at r1 r2
    exact ⟨r1, r2, by rw [← h2]; exact List.getElem_mem _⟩
  refine Calls_of_Run (args := [.agg (t.cs vl).toArray, vo, vO, vof]) (n := 71) (rs := [.cell 8 36]) Tryz.func25 rfl rfl rfl (by simp) ?_
  (repeat with_reducible first | refine jy ?_ | refine jw KL25 [2] TF25 fun _ => ?_)
  refine SemW_box fun pt w1 h1 => SemW_allocT ti36 fun pp w2 h2 => ?_
  have b2 := h2.blk
  have x1 := h1.ext
  have x2 := x1.trans h2.ext
  have T : ∀ w', Ext w1 w' → AtN w' pt 0 (t.cs vl) := fun w' x => (h1.at_.ext x).n
  simp only [TimeD.cs, AtN, KS, Nat.reduceAdd, Nat.reduceMul, Nat.reduceEqDiff, ↓reduceIte, UT] at T
  have t2 := T w2 h2.ext
  (repeat with_reducible first | refine jy ?_ | refine jw KL25 [2] (aa TF25 (aa ofs (aa ofl t2))) fun _ => ?_)
  have hI2 := hI w2 x2
  refine ⟨fun h => ?_, fun h => ?_, .bool (Rf.full t l of (Rf.lastR of)), fun h => ?_, fun w3 x3 => ?_⟩
  · simp at h; omega
  · simp at h
    obtain ⟨r1, _⟩ := hI2 (List.length_pos_iff.1 (by omega))
    simp only [RunD.cs, AtN, KS, Nat.reduceAdd, Nat.reduceMul, Nat.reduceEqDiff, ↓reduceIte, UT] at r1
    simp only [r1, and_self]
  · simp at h
    obtain ⟨r1, r2, hm⟩ := hI2 (List.length_pos_iff.1 (by omega))
    simp only [RunD.cs, AtN, KS, Nat.reduceAdd, Nat.reduceMul, Nat.reduceEqDiff, ↓reduceIte, UT] at r1
    simp only [r1]
    exact PC_pure call45 fun w3 x3 => rgFullM vl vo vof t l of (Rf.lastR of) w3 (hl.ext (x2.trans x3)) (ho.ext (x2.trans x3)) (hof.ext (x2.trans x3)) (by omega) h64 hcr r2 hm (hin _ hm)
  have h3 := h2.row.ext x3
  have y3 := x2.trans x3
  have t3 := T w3 (h2.ext.trans x3)
  by_cases hbig : 0 < of.length ∧ Rf.full t l of (Rf.lastR of) = true
  · have hP : Rf.proofF t l rest of = Rf.roomLeaf (Rf.lastR of) := by cases rest <;> (unfold Rf.proofF; rw [if_pos hbig])
    obtain ⟨r1, r2, hm⟩ := hI w3 y3 (List.length_pos_iff.1 hbig.1)
    rw [hP]
    have e1 : pk (.bool (decide (0 < (of.length : Int)))) (.bool (Rf.full t l of (Rf.lastR of))) (.bool false) = .bool true := by
      have : decide (0 < (of.length : Int)) = true := decide_eq_true (by omega)
      rw [this, hbig.2]; rfl
    rw [e1]
    simp only [RunD.cs, AtN, KS, Nat.reduceAdd, Nat.reduceMul, Nat.reduceEqDiff, ↓reduceIte, UT] at r1
    refine Run_condS (fun _ => rfl) (fun _ => ?_) (fun h => by cases h)
    (repeat with_reducible first | refine jy ?_ | refine jw KL25 [2] (aa TF25 (aa ofs (aa ofl r1))) fun _ => ?_)
    refine ⟨.agg ((Rf.roomLeaf (Rf.lastR of)).cs (.slice none 0 0)).toArray, fun _ => by kernel_rfl, ?_⟩
    refine SemW_setW (by rw [cells36]; decide) (by rw [cells36]; rfl) h3 (by rw [cells36]; rfl) (by simpa [Value.cells] using refOne (x := Rf.roomLeaf (Rf.lastR of)) nn) fun wz rz kz zz => ?_
    have rz : Row wz pp 36 ((Rf.roomLeaf (Rf.lastR of)).cs (.slice none 0 0)) := rz
    have ez := loadVar_at (P := Tryz.prog) (t := 36) (by kernel_rfl) (by rw [cells36]; decide) (by rw [cells36]; rfl) rz.at_
    (repeat with_reducible first | refine jy ?_ | refine jw KL25 [2] TF25 fun _ => ?_)
    refine Run_ret ?_
    simp only [Rets, RetM, resV, fnd, oneOr, ↓reduceIte, KS, Nat.reduceAdd, Nat.reduceMul, Nat.reduceEqDiff, ↓reduceIte, UT]
    refine ⟨pp, _, rfl, ez, ?_⟩
    exact ⟨_, rfl, Keep.ext y3 kz fun b hb => by have := x1.size; omega, RefR.leaf (by constructor <;> decide) (by constructor <;> decide) r2⟩
  have e1 : pk (.bool (decide (0 < (of.length : Int)))) (.bool (Rf.full t l of (Rf.lastR of))) (.bool false) = .bool false := by
    by_cases h0 : 0 < of.length
    · have : Rf.full t l of (Rf.lastR of) = false := by simpa [h0] using hbig
      rw [this]; cases decide (0 < (of.length : Int)) <;> rfl
    · have : decide (0 < (of.length : Int)) = false := decide_eq_false (by omega)
      rw [this]; rfl
  rw [e1]
  refine Run_condS (fun _ => rfl) (fun h => by cases h) (fun _ => ?_)
  (repeat with_reducible first | refine jy ?_ | refine jw KL25 [2] (aa TF25 (aa hos hol)) fun _ => ?_)
  refine Run_condS (fun _ => rfl) (fun h => ?_) (fun h => ?_)
  · simp at h
    have h0 : rest = [] := List.eq_nil_of_length_eq_zero (by omega)
    subst h0
    have hP : Rf.proofF t l [] of = Rf.covLeaf := by unfold Rf.proofF; rw [if_neg hbig]
    rw [hP]
    (repeat with_reducible first | refine jy ?_ | refine jw KL25 [2] TF25 fun _ => ?_)
    refine ⟨.agg (Rf.covLeaf.cs (.slice none 0 0)).toArray, fun _ => by kernel_rfl, ?_⟩
    refine SemW_setW (by rw [cells36]; decide) (by rw [cells36]; rfl) h3 (by rw [cells36]; rfl) (by simpa [Value.cells] using refOne (x := Rf.covLeaf) nn) fun wz rz kz zz => ?_
    have rz : Row wz pp 36 (Rf.covLeaf.cs (.slice none 0 0)) := rz
    have ez := loadVar_at (P := Tryz.prog) (t := 36) (by kernel_rfl) (by rw [cells36]; decide) (by rw [cells36]; rfl) rz.at_
    (repeat with_reducible first | refine jy ?_ | refine jw KL25 [2] TF25 fun _ => ?_)
    refine Run_ret ?_
    simp only [Rets, RetM, resV, fnd, oneOr, ↓reduceIte, KS, Nat.reduceAdd, Nat.reduceMul, Nat.reduceEqDiff, ↓reduceIte, UT]
    refine ⟨pp, _, rfl, ez, ?_⟩
    exact ⟨_, rfl, Keep.ext y3 kz fun b hb => by have := x1.size; omega, RefR.leaf (by constructor <;> decide) (by constructor <;> decide) ⟨by constructor <;> decide, by constructor <;> decide, by constructor <;> decide⟩⟩
  cases rest with
  | nil =>
    simp at hsum h
    omega
  | cons o rest =>
  simp only [List.length_cons] at hsum hn
  have hP : Rf.proofF t l (o :: rest) of = .mk of.length (o.map fun r => Rf.proofF t l rest (of ++ [r])) 0 Rf.zeroR := by rw [Rf.proofF, if_neg hbig]
  rw [hP]
  (repeat with_reducible first | refine jy ?_ | refine jw KL25 [2] TF25 fun _ => ?_)
  refine ⟨.agg (RefusalD.cs (.mk of.length [] 0 Rf.zeroR) (.slice none 0 0)).toArray, fun _ => by kernel_rfl, ?_⟩
  refine SemW_allocT ti36 fun pq w4 h4 => ?_
  have b4 := h4.blk
  have s1 := x1.size
  have s2 := h2.size
  have s3 := x3.size
  have s4 := h4.size
  refine SemW_setW (by rw [cells36]; decide) (by rw [cells36]; rfl) h4.row (by rw [cells36]; rfl) (by simpa [Value.cells] using refOne (x := .mk of.length [] 0 Rf.zeroR) nn) fun w5 r5 k5 z5 => ?_
  have r5 : Row w5 pq 36 (RefusalD.cs (.mk of.length [] 0 Rf.zeroR) (.slice none 0 0)) := r5
  have x35 : Ext w3 w5 := Keep.ext h4.ext k5 fun b hb => by omega
  have s35 := x35.size
  have h3 : Row w3 pp 36 (RefusalD.cs (.mk 0 [] 0 Rf.zeroR) (.slice none 0 0)) := h3
  have hkl : of.length < opts.length := by omega
  have hd2 := hdrop
  rw [List.drop_eq_getElem_cons hkl] at hd2
  injection hd2 with hoe hre
  obtain ⟨_, ⟨vk, rfl, hk⟩, ha⟩ := hO.at_ of.length hkl
  rw [← hoe] at hk
  have ha := ha.ext y3
  have hk := hk.ext y3
  have hob1 := hob o (by rw [hoe]; exact List.getElem_mem _)
  have hks := hk.s
  have hkn := hk.len
  have V : ∀ w', Ext w3 w' → has1 w' ((slAt vO).add of.length) ∧ mem w' ((slAt vO).add of.length) = vk := fun w' x => by
    have hak := (ha.ext x).n
    simp only [AtN, KS, Nat.reduceAdd, Nat.reduceMul, Nat.reduceEqDiff, ↓reduceIte, UT] at hak
    simpa [show Enc.n (List RunD) = 1 from rfl] using hak
  have T3 : ∀ w', Ext w3 w' → _ := fun w' x => T w' (h2.ext.trans (x3.trans x))
  have hkc : (of.length : Int) < opts.length := by omega
  (repeat with_reducible first | refine jy ?_ | refine jw KL25 [2] TF25 fun _ => ?_)
  refine Run_loopV [11, 46] (σ := Nat × Value) (fun q => [(11, some (.int .i64 q.1))]) (fun q w' => q.1 ≤ o.length ∧ Ext w3 w' ∧ Row w' pq 36 (RefusalD.cs (.mk of.length [] 0 Rf.zeroR) q.2) ∧ ∃ rs : List RawF, BufO (α := RawF) 36 w4.heap.size w' q.2 rs ∧ rs.length = q.1 ∧ ∀ i (h1 : i < rs.length) (h2 : i < o.length), RefR (fun b => w4.heap.size ≤ b ∧ b < w'.heap.size ∧ some b ≠ q.2.ownBlock) w' rs[i].cs (Rf.proofF t l rest (of ++ [o[i]]))) (fun q => o.length - q.1) (0, .slice none 0 0) (by simp [SubB, fnd]) ⟨by simp, x35, r5, [], BufO.nil, rfl, by simp⟩ ?_
  rintro ⟨q, vb⟩ w6 ⟨hq, x6, r6, rs, c1, c2, c3⟩
  simp only at hq x6 r6 c1 c3
  have svb : IsS vb := c1.isS.1
  have v6 := V w6 x6
  (repeat with_reducible first | refine jy ?_ | refine jw KL25 [2] (aa TF25 (aa v6 (aa hOs (aa hOl (aa hks hkn))))) fun _ => ?_)
  refine Run_condS (fun _ => rfl) (fun h => ?_) (fun h => ?_)
  · simp at h
    have hql : q < o.length := by omega
    have hqc : (q : Int) < o.length := by omega
    clear h
    have hr := fun w' x => ((hk.ext (w' := w') x).runD hql)
    have hro : o[q] ∈ o := List.getElem_mem _
    have hrow : (o.map fun r => Rf.proofF t l rest (of ++ [r])).length = o.length := by simp
    generalize hrr : o[q] = r at *
    let S : Nat → Prop := fun b => some b ≠ vb.ownBlock
    have hown : ∀ b, b < w4.heap.size ∨ w6.heap.size ≤ b → S b := fun b hb e => by
      have := c1.own_lt e.symm
      omega
    (repeat with_reducible refine js ?_)
    refine Run_eh S [21] [(1, [21]), (2, [21]), (11, [21]), (14, [21])] (id := 10) KL25 (.first 0 (.first 1 (.first 2 (.first 3 (.first 4 (.first 6 (.first 8 (.first 9 (.first 10 (.first 11 (.first 12 (.first 13 (.first 14 (.alt true 5 (.alt true 7 (.alt true 15 (.alt true 16 (.alt true 17 (.alt true 18 (.alt true 19 (.first 20 (.alt true 21 (.done false) .stop)) .stop) .stop) .stop) .stop) .stop) (.alt true 15 (.alt true 7 (.alt true 16 (.alt true 17 (.alt true 18 (.alt true 19 (.first 20 (.alt true 21 (.done false) .stop)) .stop) .stop) .stop) .stop) .stop) .stop)) (.alt true 15 (.alt true 5 (.alt true 7 (.alt true 16 (.alt true 17 (.alt true 18 (.alt true 19 (.first 20 (.alt true 21 (.done false) .stop)) .stop) .stop) .stop) .stop) .stop) .stop) .stop))))))))))))))) mixed (by kernel_rfl) (by kernel_rfl) fun w8 x8 _ => ?_
    have hS : ∀ w9, Ext w8 w9 → Keep S w8 w9 := fun w9 x => Keep.of_ext x
    have x38 := x6.trans x8
    have r8 := r6.ext x8
    have rp8 := r8.n
    have t8 := T3 w8 x38
    have v8 := V w8 x38
    obtain ⟨g1, g2⟩ := hr w8 x38
    simp only [RefusalD.cs, RefusalD.o, RefusalD.why, RefusalD.run, Rf.zeroR, RunD.cs, AtN, KS, Nat.reduceAdd, Nat.reduceMul, Nat.reduceEqDiff, ↓reduceIte, UT] at rp8 g1
    (try simp (maxSteps := 5000000) only [KS, Nat.reduceAdd, Nat.reduceMul, Nat.reduceEqDiff, ↓reduceIte, forall_const, Int.cast_ofNat_Int, Int.reduceToNat, List.take_succ_cons, List.take_zero, List.drop_succ_cons, List.drop_zero, TF25, KL25, eh, gres, qopS, putL, ung, rp8, t8, v8, g1, ofs, ofl, hOs, hOl, hks, hkn]); (try simp (disch := omega) only [wrapI, tmodI, tdivI])
    have q6 := r6.lt
    have z68 := x8.size
    have bq : pq.block < w4.heap.size := by omega
    have zO := hO.blk (by decide) hkl
    have zk := hk.blk (by decide) hql
    have zt := h1.blk
    have zt1 := h1.size
    refine ⟨hown _ (.inl (by rw [blk_add]; omega)), hown _ (.inl (by omega)), ⟨by omega, by omega⟩, hown _ (.inl (by rw [blk_add]; omega)), ⟨by omega, by omega⟩, hown _ (.inl (by rw [blk_add]; omega)), Keep.refl _ _, ?_⟩
    have y8 : Ext w w8 := y3.trans x38
    refine appAll (G := fun w' => Keep S w8 w') (hof.ext y8) (by omega) g2 hS fun v9 w9 b9 x9 => ⟨hS _ x9, ?_⟩
    have y9 := y8.trans x9
    have sv9 := b9.sl (by rw [List.length_append, List.length_singleton]; omega)
    refine CallW_gen call25 (ih rest.length (by omega) rest (of ++ [r]) v9 w9 rfl (by rw [List.length_append, List.length_singleton]; omega) (by rw [hre, List.length_append, List.length_singleton]) (fun x hx => by
      rcases List.mem_append.1 hx with hx | hx
      · exact hin _ hx
      · rw [List.mem_singleton.1 hx]; exact hob1.2 _ hro) (hl.ext y9) (ho.ext y9) (hO.ext y9) sv9) fun e w10 ⟨vz, he, x10, hR⟩ => ⟨_, he, hS _ (x9.trans x10), ?_⟩
    have x8a := x9.trans x10
    have c1a := (c1.keepQ (Keep.of_ext (x8.trans x8a)) fun _ _ => trivial : BufO (α := RawF) 36 w4.heap.size w10 vb rs)
    have e46 : w4.heap.size ≤ w6.heap.size := by have := r6.lt; omega
    have hB10 : w4.heap.size ≤ w10.heap.size := by
      have e2 := x8a.size
      omega
    refine SemW_append1W (α := RawF) (G := fun w' => Keep S w8 w') Tryz.underlying32 ti36 rfl (by decide) c1a hB10 (x := ⟨(Rf.proofF t l rest (of ++ [r])).cs vz⟩) hR.raw (by rw [c2]; simp only [maxLen]; omega) (fun w' x => hS _ (x8a.trans x)) fun _ v11 w11 b11 k11 g11 => ⟨(Keep.of_ext x8a : Keep S w8 w10).trans k11, ?_⟩
    have r11 := (r8.ext x8a).keep k11 (hown _ (.inl (by omega)))
    refine SemW_setAt (i := 1) cells32 r11 (by simp [RefusalD.cs]) (isS_c b11.isS.1) (isS_o b11.isS.1) fun w12 r12 k12 z12 => ⟨fun h => h.elim, ?_⟩
    have r12 : Row w12 pq 36 (RefusalD.cs (.mk of.length [] 0 Rf.zeroR) v11) := r12
    have x310 : Ext w3 w10 := x38.trans x8a
    have x312 : Ext w3 w12 := Keep.ext (Keep.ext x310 k11 fun b hb e => by have := c1.own_lt e.symm; omega) k12 fun b hb => by omega
    have e8a := x8a.size
    have e9 := x9.size
    have e10 := k11.size
    (repeat with_reducible first | refine jy ?_ | refine jw KL25 [2] TF25 fun _ => ?_)
    refine Run_lp ⟨(q + 1, v11), by simp [SubB, fnd, strike, has], ⟨by show q + 1 ≤ o.length; omega, x312, r12, rs ++ [⟨(Rf.proofF t l rest (of ++ [r])).cs vz⟩], b11.keepQ k12 fun g hg e => by have := (b11.own_lt hg).1; omega, by show (rs ++ [_]).length = q + 1; simp [c2], fun i hi1 hi2 => ?_⟩, by show o.length - (q + 1) < o.length - q; omega⟩
    have hne : ∀ b, b < w10.heap.size → some b ≠ vb.ownBlock → some b ≠ v11.ownBlock := fun b hb h e => by
      rcases g11 with g | ⟨g, hg, hgl⟩
      · exact h (e.trans g)
      · rw [hg] at e; injection e with e; omega
    have K812 : Keep (fun b => some b ≠ vb.ownBlock ∧ b ≠ pq.block) w10 w12 := (k11.mono fun b _ h => h.1).trans (k12.mono fun b _ h => h.2)
    by_cases hiq : i < rs.length
    · rw [List.getElem_append_left hiq]
      have hR0 := (c3 i hiq hi2).ext (x8.trans x8a)
      refine (hR0.keep K812 fun b ⟨hb1, hb2, hb3⟩ => ⟨hb3, by omega⟩).mono fun b ⟨hb1, hb2, hb3⟩ => ⟨hb1, by omega, hne b (by omega) hb3⟩
    · have hiq' : i = rs.length := by
        simp only [List.length_append, List.length_singleton] at hi1
        omega
      subst hiq'
      rw [List.getElem_append_right (Nat.le_refl _)]
      have ho1 : o[rs.length]'hi2 = r := by rw [← hrr]; congr 1
      rw [ho1]
      simp only [Nat.sub_self, List.getElem_cons_zero]
      have hb' : ∀ b, w9.heap.size ≤ b → some b ≠ vb.ownBlock := fun b hb => hown b (.inr (by omega))
      exact (hR.keep K812 fun b ⟨hb1, hb2⟩ => ⟨hb' b hb1, by omega⟩).mono fun b ⟨hb1, hb2⟩ => ⟨by omega, by omega, hne b hb2 (hb' b hb1)⟩
  simp at h
  obtain rfl : q = o.length := by omega
  clear h
  have r6n := r6.n
  simp only [RefusalD.cs, RefusalD.o, RefusalD.why, RefusalD.run, Rf.zeroR, AtN, KS, Nat.reduceAdd, Nat.reduceMul, Nat.reduceEqDiff, ↓reduceIte, UT] at r6n
  (repeat with_reducible first | refine jy ?_ | refine jw KL25 [2] (aa TF25 r6n) fun _ => ?_)
  refine SemW_setW (by rw [cells36]; decide) (by rw [cells36]; rfl) (h3.ext x6) (by rw [cells36]; rfl) (by simpa [Value.cells, RefusalD.cs, RefusalD.o, RefusalD.why, RefusalD.run, Rf.zeroR] using refOne (x := .mk of.length [] 0 Rf.zeroR) svb) fun wz rz kz zz => ?_
  have rz : Row wz pp 36 (RefusalD.cs (.mk of.length [] 0 Rf.zeroR) vb) := rz
  have ez := loadVar_at (P := Tryz.prog) (t := 36) (by kernel_rfl) (by rw [cells36]; decide) (by rw [cells36]; rfl) rz.at_
  (repeat with_reducible first | refine jy ?_ | refine jw KL25 [2] TF25 fun _ => ?_)
  refine Run_ret ?_
  simp only [Rets, RetM, resV, fnd, oneOr, ↓reduceIte, KS, Nat.reduceAdd, Nat.reduceMul, Nat.reduceEqDiff, ↓reduceIte, UT]
  refine ⟨pp, _, rfl, ez, ?_⟩
  have z1 := x1.size
  have bz : BufO (α := RawF) 36 w4.heap.size wz vb rs := c1.keepQ kz fun g hg e => by have := (c1.own_lt hg).1; omega
  refine ⟨vb, rfl, Keep.ext (y3.trans x6) kz fun b hb => by omega, ?_⟩
  refine RefR.of_raw (rs := rs) (i64n (by omega) (by omega)) (i64n (by omega) (by omega)) ⟨i64n (by decide) (by decide), i64n (by decide) (by decide), i64n (by decide) (by decide)⟩ (bz.sl (by omega)) (by simpa using c2) (fun hne => ?_) fun i hi1 hi2 => ?_
  · have hne' : rs ≠ [] := fun e => hne (by
      have : o.length = 0 := by have := c2; rw [e] at this; exact this.symm
      rw [List.eq_nil_of_length_eq_zero this]; rfl)
    have := bz.le (by decide) hne'
    omega
  · have hi3 : i < o.length := by omega
    rw [List.getElem_map]
    exact ((c3 i hi1 hi3).keep kz fun b ⟨hb1, hb2, hb3⟩ e => by omega).mono fun b ⟨hb1, hb2, hb3⟩ => by omega
end Go.Proofs.YtldjfebokojmfaaGreat
namespace Go.Fk
open Go
namespace Rf
variable {t : TimeD} {l : List OrderD} {covers : Int} {rest : List (List RunD)} {of : List RunD} {p : RefusalD}
end Rf
end Go.Fk
namespace Go.Proofs.YtldjfebokojmfaaGreat
open Go Go.Fk
set_option linter.unusedSimpArgs false
set_option linter.unusedVariables false
set_option maxRecDepth 100000
end Go.Proofs.YtldjfebokojmfaaGreat
