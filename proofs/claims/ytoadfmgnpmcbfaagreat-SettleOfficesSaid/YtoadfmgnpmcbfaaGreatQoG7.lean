import Derived.Test.YtoadfmgnpmcbfaaGreatQoGe
import Derived.Test.YtoadfmgnpmcbfaaGreatQoGb
import Derived.Maps.AppendAt
import Derived.Test.YtoadfmgnpmcbfaaGreatQoFacts
import Derived.Test.YtoadfmgnpmcbfaaGreatQoGq
import Derived.Test.YtoadfmgnpmcbfaaGreatQoGa
/- Append that tells where the new row lies; calls with two outcomes. No program is named. -/
set_option linter.unusedSimpArgs false
set_option linter.unusedVariables false
set_option maxRecDepth 100000
namespace Go.Fk
open Go
/-- 'append(v, X)', flat data, and where the new row lies -/
theorem SemW_append1Q {α : Type} [Enc α] [Flat α] {P : Program} {e : TypeId} {B : Nat} {w : World} {v : Value} {xs : List α} {t ty : TypeId} {z X : Value} {bytes : Nat} (ht : P.underlying t = some (.slice e)) (hT : TI P e z (Enc.n α) bytes) (hzs : z.cells.size = Enc.n α) (hsz : 0 < Enc.n α ∧ Enc.n α ≤ 16777216) {x : α} (hB : BufO e B w v xs) (hbase : B ≤ w.heap.size)
    (hx : Enc.rep w X.cells.toList x) (hb : xs.length + 1 ≤ maxLen ∧ (xs.length + 1) * bytes ≤ 140737488355328) {K : Value → Value → World → Prop}
    (hK : ∀ s v' w', BufO e B w' v' (xs ++ [x]) → Keep (fun k => some k ≠ v.ownBlock) w w' → (v'.ownBlock = v.ownBlock ∨ ∃ g, v'.ownBlock = some g ∧ w.heap.size ≤ g) → K s v' w') :
    SemW P (Instr.buildSlice t 1 #[(0, X)]) w fun s w1 => SemW P (Builtin.append_ #[t, t] ty #[v, s]) w1 (K s) := by
  obtain ⟨css, hc, ho⟩ := hB.ex
  have hX : X.cells.size = Enc.n α := by simpa using Enc.len _ _ _ hx
  have h1 := Flat.one _ _ _ hx
  refine SemW_buildSlice (vs := [X]) ht hT hzs (by simp) rfl (by simpa using hX) (by simpa using hsz.2) fun p w1 hN => ?_
  have hB1 : w1.ownsRow B e (Enc.n α) v xs.length css.flatten := by rw [hN.w]; exact ho.alloc _
  have hat := hN.at_
  simp only [List.flatMap_cons, List.flatMap_nil, List.append_nil] at hat
  obtain ⟨i, hi, hz, hs, hbb⟩ := info_parts hT.h
  have hnw : ∀ j u, X.cells.toList[j]? = some u → w1.cell? (p.add j) = some u := hat
  have z1 := hN.size
  obtain ⟨v', w', hr, ho', hg, hnil, hw⟩ := run_append_own_at (P := P) w1 B t ty e i z (Enc.n α) bytes ht hi hz hs hbb hzs hsz.1 v xs.length css.flatten hB1 p 1 1 X.cells.toList (by simp [hX]) hnw (List.all_eq_true.1 h1) hb.1 hb.2 (by omega)
  refine SemW.of_run hr (hK _ v' w' ⟨css ++ [X.cells.toList], hc.any.append (Cs.one (Flat.any _ _ _ _ hx)), by simpa using ho'⟩ (grown_keepO (grownBy_trans (by rw [hN.w]; exact World.grownBy_alloc _ _ _) hg)) ?_)
  rcases hw with h | h
  · exact .inl h
  · exact .inr ⟨_, h, by omega⟩
theorem BufO.keepQ {α : Type} [Enc α] [Flat α] {e : TypeId} {B : Nat} {w w' : World} {v : Value} {xs : List α} {S : Nat → Prop} (h : BufO e B w v xs) (k : Keep S w w') (hS : ∀ g, v.ownBlock = some g → S g) : BufO e B w' v xs := by
  obtain ⟨css, hc, hb⟩ := h.ex
  exact ⟨css, hc.any, ownsRow_blk hb fun g hg => k.block g (hb.lt g hg).2 (hS g hg)⟩
theorem CallWP_of {P : Program} {g : FuncId} {fi cap all : Array Value} {args : List Value} {w : World} {K : Value → World → Prop} {Kp : List PanicEntry → World → Prop} {R : Ending → World → Prop} (hc : callable P g = true) (h : Calls P g all w R)
    (hK : ∀ e w', R e w' → (∃ v, e = .returned v ∧ K v w') ∨ ∃ ch, e = .panicked ch ∧ Kp ch w') (e : fi ++ args.toArray ++ cap = all := by simp) : CallWP P (.func (.func g) fi cap) args w K Kp := ⟨hc, by rw [e]; exact h.mono hK⟩
theorem run_panic_iface {P : Program} {w : World} (t : TypeId) (x : Value) : (Instr.panic (.iface t x) : Sem Value).run P w = .halt (.panic (.iface t x)) w := rfl
end Go.Fk
/- Chapter 41: (*book).add. -/
namespace Go.Proofs.YtoadfmgnpmcbfaaGreat
open Go Go.Fk
set_option linter.unusedSimpArgs false
set_option linter.unusedVariables false
set_option maxRecDepth 100000
/-- a period in memory: its book, and what was handed on -/
structure PdR (B : Nat) (w : World) (pb : Addr) (s : Au.Bs) (vh : Value) : Prop where
  ex : ∃ vm, Row w pb 134 [vm, .int .i64 s.2, vh] ∧ BufO (α := MoveD) 70 B w vm s.1
/-- what comes of a part of a period -/
def PdQ (B : Nat) (w : World) (pb : Addr) (vh : Value) (x : Except Int Au.Bs) (e : Ending) (w' : World) : Prop := Keep (fun b => b < B ∧ b ≠ pb.block) w w' ∧ match x with
  | .ok s => e = .returned (.tuple #[]) ∧ PdR B w' pb s vh
  | .error x => e = .panicked [{ v := .iface 36 (.int .i64 x), recovered := false }]
theorem setW0 {w : World} {t T : TypeId} {X : Value} {p : Addr} {vs : List Value} {K : Unit → World → Prop} (hc : Tryz.prog.cellsOf t = 1) (hg : Row w p T vs) (hi : 0 < vs.length) (hX : X.cells = #[X]) (h1 : X.oneCell' = true)
    (hK : ∀ w', Row w' p T (vs.set 0 X) → Keep (fun k => k ≠ p.block) w w' → w'.heap.size = w.heap.size → K () w') : SemW Tryz.prog (Instr.storeAt t (.pointer (some p)) X) w K := by
  have := SemW_setAt (P := Tryz.prog) (i := 0) hc hg hi hX h1 hK
  rwa [add_zero] at this
set_option maxHeartbeats 4000000 in
theorem stAdd (pb : Addr) (s : Au.Bs) (r : List MoveD × Int) (vl vh vm : Value) (B C : Nat) (w : World) (hR : Row w pb 134 [vm, .int .i64 s.2, vh]) (hb : BufO (α := MoveD) 70 B w vm s.1) (hg : ∀ g, vm.ownBlock = some g → g < C) (hl : BufO (α := MoveD) 70 C w vl r.1)
    (hpB : pb.block < B) (hBC : B ≤ C) (hCw : C ≤ w.heap.size) (hI : ∀ m ∈ r.1, 0 ≤ m.Amount ∧ m.Amount ≤ 1099511627776) (hs : 0 ≤ s.2 ∧ s.2 ≤ 1152921504606846976) (hn : s.1.length + r.1.length ≤ 65536) :
    Calls Tryz.prog 77 #[.pointer (some pb), vl, .int .i64 r.2] w (PdQ B w pb vh (Au.add s r)) := by
  have hls := hl.sl (by omega)
  have hll := hls.len
  refine Calls_of_RunP (args := [.pointer (some pb), vl, .int .i64 r.2]) (n := 67) (rs := []) Tryz.func77 rfl rfl rfl (by simp) ?_
  (repeat with_reducible first | refine js ?_ | refine ja ?_ | (refine jT (id := 8) KL77 6 mixed (by kernel_rfl) (by kernel_rfl) (by kernel_rfl) fun _ => ?_; refine jw KL77 [] TF77 fun _ => ?_) | (refine jT (id := 10) KL77 6 mixed (by kernel_rfl) (by kernel_rfl) (by kernel_rfl) fun _ => ?_; refine jw KL77 [] TF77 fun _ => ?_) | refine jw KL77 [] TF77 fun _ => ?_)
  refine Run_condS (fun _ => rfl) (fun h => ?_) (fun h => ?_)
  · have hc : r.2 ≠ 0 := by simpa using h
    (repeat with_reducible first | refine jq ?_ | refine jk ?_ | refine jc ?_ | refine jl ?_ | refine jb ?_ | refine jo ?_ | refine ji ?_ | refine jx rfl ?_)
    refine Run_lastPanic (id := 1) 2 rfl rfl rfl (by kernel_rfl) (by kernel_rfl) fun _ => ?_
    (try simp (maxSteps := 5000000) only [KS, Nat.reduceAdd, Nat.reduceMul, Nat.reduceEqDiff, ↓reduceIte, forall_const, Int.cast_ofNat_Int, Int.reduceToNat, List.take_succ_cons, List.take_zero, List.drop_succ_cons, List.drop_zero, TF77, KL77]); (try simp (disch := omega) only [wrapI, tmodI, tdivI])
    refine ⟨_, run_panic_iface _ _, ?_⟩
    simp [RetsP, PdQ, Au.add, hc]
    exact Keep.refl _ _
  have hc : r.2 = 0 := by simpa using h
  clear h
  have hno : Au.addF s.1 s.2 r.1 = none → Au.add s r = .error 381 := fun h => by unfold Au.add; rw [if_neg (by simp [hc]), h]
  have hyes : ∀ s', Au.addF s.1 s.2 r.1 = some s' → Au.add s r = .ok s' := fun s' h => by unfold Au.add; rw [if_neg (by simp [hc]), h]
  (repeat with_reducible first | refine js ?_ | refine ja ?_ | (refine jT (id := 8) KL77 6 mixed (by kernel_rfl) (by kernel_rfl) (by kernel_rfl) fun _ => ?_; refine jw KL77 [] (aa TF77 (aa hls.s hll)) fun _ => ?_) | (refine jT (id := 10) KL77 6 mixed (by kernel_rfl) (by kernel_rfl) (by kernel_rfl) fun _ => ?_; refine jw KL77 [] (aa TF77 (aa hls.s hll)) fun _ => ?_) | refine jw KL77 [] (aa TF77 (aa hls.s hll)) fun _ => ?_)
  have hW : ∀ g, vl.ownBlock = some g → C ≤ g ∧ g < w.heap.size := fun g hg => hl.own_lt hg
  refine Run_loopV [7, 14, 15, 34, 47, 64] (σ := Nat × List MoveD × Int) (fun q => [(14, some (.int .i64 q.1))]) (fun q w' => q.1 ≤ r.1.length ∧ Au.addF q.2.1 q.2.2 (r.1.drop q.1) = Au.addF s.1 s.2 r.1 ∧ (0 ≤ q.2.2 ∧ q.2.2 ≤ 1152921504606846976 + q.1 * 1099511627776) ∧ q.2.1.length = s.1.length + q.1 ∧
      (∃ vm', Row w' pb 134 [vm', .int .i64 q.2.2, vh] ∧ BufO (α := MoveD) 70 B w' vm' q.2.1 ∧ ∀ g, vm'.ownBlock = some g → g < C ∨ w.heap.size ≤ g) ∧ BufO (α := MoveD) 70 C w' vl r.1 ∧ w.heap.size ≤ w'.heap.size ∧ Keep (fun b => b < B ∧ b ≠ pb.block) w w')
    (fun q => r.1.length - q.1) (0, s.1, s.2) (by simp [SubB, fnd]) ⟨by simp, by simp, by simp only; omega, by simp, ⟨vm, hR, hb, fun g h => .inl (hg g h)⟩, hl, Nat.le_refl _, Keep.refl _ _⟩ ?_
  rintro ⟨k, M, F⟩ w2 ⟨hk, hF, hFb, hM, ⟨vm', r2, b2, g2⟩, l2, z2, k2⟩
  simp only at hk hF hFb hM r2 b2
  have sl2 := l2.sl (by omega)
  (repeat with_reducible first | refine js ?_ | refine ja ?_ | (refine jT (id := 8) KL77 6 mixed (by kernel_rfl) (by kernel_rfl) (by kernel_rfl) fun _ => ?_; refine jw KL77 [] TF77 fun _ => ?_) | (refine jT (id := 10) KL77 6 mixed (by kernel_rfl) (by kernel_rfl) (by kernel_rfl) fun _ => ?_; refine jw KL77 [] TF77 fun _ => ?_) | refine jw KL77 [] TF77 fun _ => ?_)
  refine Run_condS (fun _ => rfl) (fun h => ?_) (fun h => ?_)
  · simp at h
    have hkl : k < r.1.length := h
    obtain ⟨e1, mI⟩ := sl2.moveD hkl
    obtain ⟨ma, mb⟩ := hI _ (List.getElem_mem hkl)
    rw [List.drop_eq_getElem_cons hkl] at hF
    simp only [Au.addF] at hF
    generalize hmm : r.1[k] = m at *
    simp only [MoveD.cs, AtN, KS, Nat.reduceAdd, Nat.reduceMul, Nat.reduceEqDiff, ↓reduceIte, UT] at e1
    (repeat with_reducible first | refine js ?_ | refine ja ?_ | (refine jT (id := 8) KL77 6 mixed (by kernel_rfl) (by kernel_rfl) (by kernel_rfl) fun _ => ?_; refine jw KL77 [] (aa TF77 (aa sl2.s (aa sl2.len e1))) fun _ => ?_) | (refine jT (id := 10) KL77 6 mixed (by kernel_rfl) (by kernel_rfl) (by kernel_rfl) fun _ => ?_; refine jw KL77 [] (aa TF77 (aa sl2.s (aa sl2.len e1))) fun _ => ?_) | refine jw KL77 [] (aa TF77 (aa sl2.s (aa sl2.len e1))) fun _ => ?_)
    refine SemW_allocT ti70 fun pm w3 h3 => ?_
    have b3 := h3.blk
    (repeat with_reducible first | refine js ?_ | refine ja ?_ | (refine jT (id := 8) KL77 6 mixed (by kernel_rfl) (by kernel_rfl) (by kernel_rfl) fun _ => ?_; refine jw KL77 [] TF77 fun _ => ?_) | (refine jT (id := 10) KL77 6 mixed (by kernel_rfl) (by kernel_rfl) (by kernel_rfl) fun _ => ?_; refine jw KL77 [] TF77 fun _ => ?_) | refine jw KL77 [] TF77 fun _ => ?_)
    refine SemW_setW (by rw [cells70]; decide) (by rw [cells70]; rfl) h3.row (by rw [cells70]; rfl) rfl fun w4 r4 k4 z4 => ?_
    have r4 : Row w4 pm 70 m.cs := by simpa [Value.cells, MoveD.cs] using r4
    have x4 : Ext w2 w4 := Keep.ext h3.ext k4 fun b hb => by omega
    have hpm : pm.block ≠ pb.block := by have := r2.lt; omega
    have r4b := r2.ext x4
    have n4 := r4b.n
    have bs := b2.isS
    simp only [AtN, KS, Nat.reduceAdd, Nat.reduceMul, Nat.reduceEqDiff, ↓reduceIte, UT] at n4
    (repeat with_reducible first | refine js ?_ | refine ja ?_ | (refine jT (id := 8) KL77 6 mixed (by kernel_rfl) (by kernel_rfl) (by kernel_rfl) fun _ => ?_; refine jw KL77 [] (aa TF77 (aa n4 (aa bs.1 bs.2))) fun _ => ?_) | (refine jT (id := 10) KL77 6 mixed (by kernel_rfl) (by kernel_rfl) (by kernel_rfl) fun _ => ?_; refine jw KL77 [] (aa TF77 (aa n4 (aa bs.1 bs.2))) fun _ => ?_) | refine jw KL77 [] (aa TF77 (aa n4 (aa bs.1 bs.2))) fun _ => ?_)
    refine setW0 (by rw [cells3]) r4 (by simp [MoveD.cs]) rfl rfl fun w5 r5 k5 z5 => ?_
    have r5 : Row w5 pm 70 ({ m with No := (M.length : Int) } : MoveD).cs := r5
    have x5 : Ext w2 w5 := Keep.ext x4 k5 fun b hb => by omega
    have r5b := r2.ext x5
    have b5 := b2.keepQ (Keep.of_ext (S := fun _ => True) x5) fun _ _ => trivial
    have hown : ∀ g, vm'.ownBlock = some g → g < w2.heap.size := fun g hg => (b2.own_lt hg).2
    let S : Nat → Prop := fun k => some k ≠ vm'.ownBlock
    have hne : S pb.block := b2.ne r2 (by decide)
    have hne2 : S pm.block := fun e => by have := hown _ e.symm; omega
    (repeat with_reducible first | refine jq ?_ | refine jk ?_ | refine jc ?_ | refine jl ?_ | refine jb ?_ | refine jo ?_ | refine ji ?_ | refine jx rfl ?_)
    refine Run_ef S [10] [(4, [10]), (5, [10])] (id := 6) KL77 (.first 0 (.first 1 (.first 2 (.first 3 (.first 4 (.first 5 (.alt 6 (.alt 7 (.first 8 (.first 9 (.alt 10 (.free .done) .stop))) .stop) .stop))))))) mixed (by kernel_rfl) (by kernel_rfl) fun w6 x6 z6 => ?_
    have r6b := r5b.ext x6
    have r6 := r5.ext x6
    have n6 := r6.n
    have n6b := r6b.n
    simp only [AtN, KS, Nat.reduceAdd, Nat.reduceMul, Nat.reduceEqDiff, ↓reduceIte, UT, MoveD.cs] at n6 n6b
    (try simp (maxSteps := 5000000) only [KS, Nat.reduceAdd, Nat.reduceMul, Nat.reduceEqDiff, ↓reduceIte, forall_const, Int.cast_ofNat_Int, Int.reduceToNat, List.take_succ_cons, List.take_zero, List.drop_succ_cons, List.drop_zero, TF77, KL77, ef, qopS, putL, n6, n6b, bs.1, bs.2]); (try simp (disch := omega) only [wrapI, tmodI, tdivI])
    have b6 := b5.keepQ (Keep.of_ext (S := fun _ => True) x6) fun _ _ => trivial
    have zx := (x5.trans x6).size
    have mI' : I64 (M.length : Int) := by unfold I64; omega
    refine ⟨hne, hne2, Keep.refl _ _, ?_⟩
    refine (SemW.and (SemW_append1Q (α := MoveD) (X := .agg ({ m with No := (M.length : Int) } : MoveD).cs.toArray) (x := { m with No := (M.length : Int) }) Tryz.underlying35 ti70 rfl (by decide) b6 (by omega) ⟨rfl, mI', mI.2⟩ (by simp only [maxLen]; omega) fun sv v' w8 b8 k8 o8 => ⟨k8, ?_⟩) (SemW_build1 Tryz.underlying35 ti70 rfl rfl (by decide))).mono fun sv w7 h => ⟨Keep.of_ext h.2, h.1⟩
    have r8 := r6b.keep k8 hne
    have hs8 := b8.isS
    have z8 := k8.size
    refine setW0 (by rw [cells35]) r8 (by simp) (isS_cells hs8.1) (isS_o hs8.1) fun w9 r9 k9 z9 => ?_
    have r9 : Row w9 pb 134 [v', .int .i64 F, vh] := r9
    have m9 := (r6.keep k8 hne2).keep k9 hpm
    have x6' := x5.trans x6
    have z6' := x6'.size
    have g8 : ∀ g, v'.ownBlock = some g → g < C ∨ w.heap.size ≤ g := fun g hg => by
      rcases o8 with h | ⟨g', h, h'⟩
      · exact g2 g (h ▸ hg)
      · rw [h] at hg; cases hg; right; omega
    have b9 := b8.keepQ k9 fun g hg => by
      have := (b8.own_lt hg).1; omega
    have l9 := ((l2.keepQ (Keep.of_ext (S := fun _ => True) x6') fun _ _ => trivial).keepQ k8 fun g hg e => by
      have h1 := hW g hg
      rcases g2 g e.symm with h | h <;> omega).keepQ k9 fun g hg => by
      have h1 := hW g hg; omega
    have K9 : Keep (fun b => b < B ∧ b ≠ pb.block) w w9 := ((k2.trans (Keep.of_ext x6')).trans (k8.mono fun b _ hb e => by have := (b2.own_lt e.symm).1; omega)).trans (k9.mono fun b _ hb => hb.2)
    let I : Int → World → Prop := fun z w' => Row w' pb 134 [v', .int .i64 z, vh] ∧ Row w' pm 70 ({ m with No := (M.length : Int) } : MoveD).cs ∧ BufO (α := MoveD) 70 B w' v' (M ++ [{ m with No := (M.length : Int) }]) ∧ BufO (α := MoveD) 70 C w' vl r.1 ∧ w.heap.size ≤ w'.heap.size ∧ Keep (fun b => b < B ∧ b ≠ pb.block) w w'
    have hI9 : I F w9 := ⟨r9, m9, b9, l9, by omega, K9⟩
    have hIx : ∀ z w' w'', I z w' → Ext w' w'' → I z w'' := fun z w' w'' ⟨i1, i2, i3, i4, i5, i6⟩ x => ⟨i1.ext x, i2.ext x, i3.keepQ (Keep.of_ext (S := fun _ => True) x) fun _ _ => trivial, i4.keepQ (Keep.of_ext (S := fun _ => True) x) fun _ _ => trivial, by have := x.size; omega, i6.trans (Keep.of_ext x)⟩
    have hset : ∀ z z' w' (K : Unit → World → Prop), I z w' → (∀ w'', I z' w'' → K () w'') → SemW Tryz.prog (Instr.storeAt 3 (.pointer (some (pb.add 1))) (.int .i64 z')) w' K := fun z z' w' K ⟨i1, i2, i3, i4, i5, i6⟩ hK => by
      refine SemW_setAt (i := 1) (by rw [cells3]) i1 (by simp) rfl rfl fun w'' r'' k'' z'' => hK w'' ⟨r'', i2.keep k'' hpm, i3.keepQ k'' fun g hg => by have := (i3.own_lt hg).1; omega, i4.keepQ k'' fun g hg => by have := (i4.own_lt hg).1; omega, by omega, i6.trans (k''.mono fun b _ hb => hb.2)⟩
    have hG : ∀ z w', I z w' → AtN w' pb 0 [v', .int .i64 z, vh] ∧ AtN w' pm 0 ({ m with No := (M.length : Int) } : MoveD).cs := fun z w' ⟨i1, i2, _⟩ => ⟨i1.n, i2.n⟩
    simp only [MoveD.cs, AtN, KS, Nat.reduceAdd, Nat.reduceMul, Nat.reduceEqDiff, ↓reduceIte, UT] at hG
    have hU : ∀ z w', I z w' → PdR B w' pb (M ++ [{ m with No := (M.length : Int) }], z) vh ∧ (∃ vm', Row w' pb 134 [vm', .int .i64 z, vh] ∧ BufO (α := MoveD) 70 B w' vm' (M ++ [{ m with No := (M.length : Int) }]) ∧ ∀ g, vm'.ownBlock = some g → g < C ∨ w.heap.size ≤ g) ∧ BufO (α := MoveD) 70 C w' vl r.1 ∧ w.heap.size ≤ w'.heap.size ∧ Keep (fun b => b < B ∧ b ≠ pb.block) w w' := fun z w' ⟨i1, i2, i3, i4, i5, i6⟩ => ⟨⟨v', i1, i3⟩, ⟨v', i1, i3, g8⟩, i4, i5, i6⟩
    have hfs : Au.fstep F m = if m.To = 1 then F + m.Amount else if m.From = 1 then F - m.Amount else F := rfl
    clear_value I
    clear r9 m9 b9 l9 K9 n6 n6b n4 r8 b8 r6 r6b r5 r5b
    have g9 := hG _ _ hI9
    (repeat with_reducible first | refine js ?_ | refine ja ?_ | (refine jT (id := 8) KL77 6 mixed (by kernel_rfl) (by kernel_rfl) (by kernel_rfl) fun _ => ?_; refine jw KL77 [] (aa TF77 g9) fun _ => ?_) | (refine jT (id := 10) KL77 6 mixed (by kernel_rfl) (by kernel_rfl) (by kernel_rfl) fun _ => ?_; refine jw KL77 [] (aa TF77 g9) fun _ => ?_) | refine jw KL77 [] (aa TF77 g9) fun _ => ?_)
    refine Run_cutV [34, 47] (σ := Unit) (fun _ => []) (fun _ w' => I (Au.fstep F m) w') ?_ ?_
    · refine Run_condS (fun _ => rfl) (fun h => ?_) (fun h => ?_)
      · simp at h
        rw [if_pos h] at hfs
        let S : Nat → Prop := fun _ => True
        (repeat with_reducible first | refine jq ?_ | refine jk ?_ | refine jc ?_ | refine jl ?_ | refine jb ?_ | refine jo ?_ | refine ji ?_ | refine jx rfl ?_)
        refine Run_eh S [9] [(3, [9]), (5, [9])] (id := 8) KL77 (.first 0 (.first 1 (.first 2 (.first 3 (.first 4 (.first 5 (.first 6 (.first 7 (.first 8 (.alt true 9 (.done false) .stop)))))))))) mixed (by kernel_rfl) (by kernel_rfl) fun w5 x5 _ => ?_
        have i5 := hIx _ _ _ hI9 x5
        have g5 := hG _ _ i5
        (try simp (maxSteps := 5000000) only [KS, Nat.reduceAdd, Nat.reduceMul, Nat.reduceEqDiff, ↓reduceIte, forall_const, Int.cast_ofNat_Int, Int.reduceToNat, List.take_succ_cons, List.take_zero, List.drop_succ_cons, List.drop_zero, TF77, KL77, eh, gres, qopS, putL, ung, g5]); (try simp (disch := omega) only [wrapI, tmodI, tdivI])
        refine ⟨trivial, trivial, Keep.refl _ _, ?_⟩
        refine hset _ _ _ _ i5 fun w6 i6 => ⟨fun h => h.elim, ?_⟩
        rw [← hfs] at i6
        exact Run_lp ⟨(), by simp [SubB, fnd, strike, has], i6⟩
      · simp at h
        rw [if_neg h] at hfs
        (repeat with_reducible first | refine js ?_ | refine ja ?_ | (refine jT (id := 8) KL77 6 mixed (by kernel_rfl) (by kernel_rfl) (by kernel_rfl) fun _ => ?_; refine jw KL77 [] (aa TF77 g9) fun _ => ?_) | (refine jT (id := 10) KL77 6 mixed (by kernel_rfl) (by kernel_rfl) (by kernel_rfl) fun _ => ?_; refine jw KL77 [] (aa TF77 g9) fun _ => ?_) | refine jw KL77 [] (aa TF77 g9) fun _ => ?_)
        refine Run_condS (fun _ => rfl) (fun h => ?_) (fun h => ?_)
        · simp at h
          rw [if_pos h] at hfs
          let S : Nat → Prop := fun _ => True
          (repeat with_reducible first | refine jq ?_ | refine jk ?_ | refine jc ?_ | refine jl ?_ | refine jb ?_ | refine jo ?_ | refine ji ?_ | refine jx rfl ?_)
          refine Run_eh S [9] [(3, [9]), (5, [9])] (id := 10) KL77 (.first 0 (.first 1 (.first 2 (.first 3 (.first 4 (.first 5 (.first 6 (.first 7 (.first 8 (.alt true 9 (.done false) .stop)))))))))) mixed (by kernel_rfl) (by kernel_rfl) fun w5 x5 _ => ?_
          have i5 := hIx _ _ _ hI9 x5
          have g5 := hG _ _ i5
          (try simp (maxSteps := 5000000) only [KS, Nat.reduceAdd, Nat.reduceMul, Nat.reduceEqDiff, ↓reduceIte, forall_const, Int.cast_ofNat_Int, Int.reduceToNat, List.take_succ_cons, List.take_zero, List.drop_succ_cons, List.drop_zero, TF77, KL77, eh, gres, qopS, putL, ung, g5]); (try simp (disch := omega) only [wrapI, tmodI, tdivI])
          refine ⟨trivial, trivial, Keep.refl _ _, ?_⟩
          refine hset _ _ _ _ i5 fun w6 i6 => ⟨fun h => h.elim, ?_⟩
          rw [← hfs] at i6
          exact Run_lp ⟨(), by simp [SubB, fnd, strike, has], i6⟩
        · simp at h
          rw [if_neg h] at hfs
          (repeat with_reducible first | refine js ?_ | refine ja ?_ | (refine jT (id := 8) KL77 6 mixed (by kernel_rfl) (by kernel_rfl) (by kernel_rfl) fun _ => ?_; refine jw KL77 [] TF77 fun _ => ?_) | (refine jT (id := 10) KL77 6 mixed (by kernel_rfl) (by kernel_rfl) (by kernel_rfl) fun _ => ?_; refine jw KL77 [] TF77 fun _ => ?_) | refine jw KL77 [] TF77 fun _ => ?_)
          exact Run_lp ⟨(), by simp [SubB, fnd, strike, has], by rw [hfs]; exact hI9⟩
    rintro _ w10 hI10
    have hb10 : -1099511627776 ≤ Au.fstep F m ∧ Au.fstep F m ≤ 1152921504606846976 + (k + 1) * 1099511627776 := by rw [hfs]; split <;> (try split) <;> omega
    obtain ⟨u1, u2, u3, u4, u5⟩ := hU _ _ hI10
    have g10 := hG _ _ hI10
    generalize Au.fstep F m = F2 at *
    (repeat with_reducible first | refine js ?_ | refine ja ?_ | (refine jT (id := 8) KL77 6 mixed (by kernel_rfl) (by kernel_rfl) (by kernel_rfl) fun _ => ?_; refine jw KL77 [] (aa TF77 g10) fun _ => ?_) | (refine jT (id := 10) KL77 6 mixed (by kernel_rfl) (by kernel_rfl) (by kernel_rfl) fun _ => ?_; refine jw KL77 [] (aa TF77 g10) fun _ => ?_) | refine jw KL77 [] (aa TF77 g10) fun _ => ?_)
    refine Run_condS (fun _ => rfl) (fun h => ?_) (fun h => ?_)
    · simp at h
      rw [if_pos h] at hF
      (repeat with_reducible first | refine jq ?_ | refine jk ?_ | refine jc ?_ | refine jl ?_ | refine jb ?_ | refine jo ?_ | refine ji ?_ | refine jx rfl ?_)
      refine Run_lastPanic (id := 12) 1 rfl rfl rfl (by kernel_rfl) (by kernel_rfl) fun _ => ?_
      (try simp (maxSteps := 5000000) only [KS, Nat.reduceAdd, Nat.reduceMul, Nat.reduceEqDiff, ↓reduceIte, forall_const, Int.cast_ofNat_Int, Int.reduceToNat, List.take_succ_cons, List.take_zero, List.drop_succ_cons, List.drop_zero, TF77, KL77]); (try simp (disch := omega) only [wrapI, tmodI, tdivI])
      refine ⟨_, run_panic_iface _ _, ?_⟩
      simp only [RetsP, PdQ, hno hF.symm]
      exact ⟨trivial, u5, trivial⟩
    · simp at h
      rw [if_neg (by omega)] at hF
      (repeat with_reducible first | refine js ?_ | refine ja ?_ | (refine jT (id := 8) KL77 6 mixed (by kernel_rfl) (by kernel_rfl) (by kernel_rfl) fun _ => ?_; refine jw KL77 [] TF77 fun _ => ?_) | (refine jT (id := 10) KL77 6 mixed (by kernel_rfl) (by kernel_rfl) (by kernel_rfl) fun _ => ?_; refine jw KL77 [] TF77 fun _ => ?_) | refine jw KL77 [] TF77 fun _ => ?_)
      refine Run_lp ⟨(k + 1, M ++ [{ m with No := (M.length : Int) }], F2), ?_, ⟨by simp only; omega, hF, by simp only; omega, by simp only [List.length_append, List.length_singleton]; omega, u2, u3, u4, u5⟩, by simp only; omega⟩
      simp [SubB, fnd, strike, has]
  · simp at h
    obtain rfl : k = r.1.length := by omega
    rw [List.drop_length] at hF
    simp only [Au.addF] at hF
    (repeat with_reducible first | refine js ?_ | refine ja ?_ | (refine jT (id := 8) KL77 6 mixed (by kernel_rfl) (by kernel_rfl) (by kernel_rfl) fun _ => ?_; refine jw KL77 [] TF77 fun _ => ?_) | (refine jT (id := 10) KL77 6 mixed (by kernel_rfl) (by kernel_rfl) (by kernel_rfl) fun _ => ?_; refine jw KL77 [] TF77 fun _ => ?_) | refine jw KL77 [] TF77 fun _ => ?_)
    refine Run_nil ?_
    simp only [RetsP, RetM, resV, fnd, oneOr, ↓reduceIte]
    rw [hyes _ hF.symm]
    exact ⟨k2, rfl, vm', r2, b2⟩
end Go.Proofs.YtoadfmgnpmcbfaaGreat
