/- Chapter 40: the examples' world. -/
import Derived.Test.YtcncbmdkifdggaaW40g
import Derived.Test.YtcncbmdkifdggaaLit
import Derived.Test.YtcncbmdkifdggaaFs
namespace Go.Proofs.Ytcncbmdkifdggaa
open Go Go.Fk
set_option linter.unusedSimpArgs false
set_option linter.unusedVariables false
set_option maxRecDepth 100000

def exLine : LineD := ⟨[2, 0, 1], [1, 1], 6, 4, [⟨10, 11, 1⟩], []⟩
def exT : TimeD := ⟨3, [exLine]⟩
def exF : TariffD := ⟨[0, 0, 0], [1, 9, 7], []⟩
def exP : PlanD := ⟨[⟨0, 10, 12⟩], [], [3]⟩
/-- '[]int{..}' -/
theorem intLit {w : World} {K : Value → World → Prop} (xs : List Int) {parts : Array (Nat × Value)} {n : Nat} (hp : parts.toList = (xs.map fun x => (Value.int .i64 x)).zipIdx.map fun p => (p.2, p.1)) (hn : n = xs.length) (hx : xs.all (fun x => decide (-1000000 ≤ x ∧ x ≤ 1000000)) = true) (hs : n ≤ 1000)
    (hK : ∀ v w', Sl w' v xs → Ext w w' → K v w') : SemW Try.prog (Instr.buildSlice 25 n parts) w K :=
  SemW_lit (α := Int) Try.underlying25 ti3 rfl (by decide) (xs.map fun x => (Value.int .i64 x)) xs hp (by simpa using hn) (Cs.ints xs fun x h => by
    have := List.all_eq_true.1 hx x h
    simp only [decide_eq_true_eq] at this
    unfold I64; omega) (by show n * 1 ≤ _; omega) hK
/-- where the examples lie -/
structure WS (W w3 : World) (p0 p1 p2 : Addr) (w : World) (r0 r1 r2 : List Value) (a b : Option Value) : Prop where
  ext : Ext W w
  keep : Keep (fun k => k ≠ p0.block ∧ k ≠ p1.block ∧ k ≠ p2.block) w3 w
  x : Row w p0 24 r0
  y : Row w p1 28 r1
  z : Row w p2 31 r2
  n : p0.block ≠ p1.block ∧ p0.block ≠ p2.block ∧ p1.block ≠ p2.block
  B : W.heap.size ≤ p0.block ∧ W.heap.size ≤ p1.block ∧ W.heap.size ≤ p2.block ∧ p0.block < w3.heap.size ∧ p1.block < w3.heap.size ∧ p2.block < w3.heap.size
  a : ∀ v, a = some v → BufO 51 w3.heap.size w v exP.Runs
  b : ∀ v, b = some v → BufO 3 w3.heap.size w v exP.Covers
section
variable {W w3 w : World} {p0 p1 p2 : Addr} {r0 r1 r2 : List Value} {a b : Option Value}
theorem WS.more {w' : World} (h : WS W w3 p0 p1 p2 w r0 r1 r2 a b) (x : Ext w w') : WS W w3 p0 p1 p2 w' r0 r1 r2 a b :=
  have k := Keep.of_ext (S := fun _ => True) x
  ⟨h.ext.trans x, h.keep.trans (Keep.of_ext x), h.x.ext x, h.y.ext x, h.z.ext x, h.n, h.B, fun v hv => (h.a v hv).keep k fun _ _ _ => trivial, fun v hv => (h.b v hv).keep k fun _ _ _ => trivial⟩
theorem wsA (h : WS W w3 p0 p1 p2 w r0 r1 r2 a b) {K : Value → World → Prop} (hK : ∀ p w', WS W w3 p0 p1 p2 w' r0 r1 r2 (some (.slice (some p) 1 1)) b → K (.slice (some p) 1 1) w') :
    SemW Try.prog (Instr.buildSlice 29 1 #[(0, .agg #[.int .i64 0, .int .i64 10, .int .i64 12])]) w K :=
  SemW_buildF (α := RunD) (W := w) Try.underlying29 ti51 rfl (by decide) (Ext.refl _) [_] exP.Runs rfl rfl (Cs.one ⟨rfl, by simp [I64], by simp [I64], by simp [I64]⟩) (by decide) fun p w' hb hs hx =>
    hK _ w' (by
      have := h.more hx
      exact ⟨this.ext, this.keep, this.x, this.y, this.z, this.n, this.B, fun v hv => by cases hv; exact hb.o.mono h.keep.size, this.b⟩)
theorem wsB (h : WS W w3 p0 p1 p2 w r0 r1 r2 a b) {K : Value → World → Prop} (hK : ∀ p w', WS W w3 p0 p1 p2 w' r0 r1 r2 a (some (.slice (some p) 1 1)) → K (.slice (some p) 1 1) w') :
    SemW Try.prog (Instr.buildSlice 25 1 #[(0, .int .i64 3)]) w K :=
  SemW_buildF (α := Int) (W := w) Try.underlying25 ti3 rfl (by decide) (Ext.refl _) [_] exP.Covers rfl rfl (Cs.one ⟨rfl, by simp [I64]⟩) (by decide) fun p w' hb hs hx =>
    hK _ w' (by
      have := h.more hx
      exact ⟨this.ext, this.keep, this.x, this.y, this.z, this.n, this.B, this.a, fun v hv => by cases hv; exact hb.o.mono h.keep.size⟩)
theorem WS.go {p : Addr} {w' : World} (h : WS W w3 p0 p1 p2 w r0 r1 r2 a b) (k : Keep (fun k => k ≠ p.block) w w') (hp : W.heap.size ≤ p.block ∧ p.block < w3.heap.size) (hq : p.block = p0.block ∨ p.block = p1.block ∨ p.block = p2.block) :
    Ext W w' ∧ Keep (fun k => k ≠ p0.block ∧ k ≠ p1.block ∧ k ≠ p2.block) w3 w' ∧ (∀ v, a = some v → BufO 51 w3.heap.size w' v exP.Runs) ∧ (∀ v, b = some v → BufO 3 w3.heap.size w' v exP.Covers) :=
  ⟨Keep.ext h.ext k fun g hg => by omega, h.keep.trans (k.mono fun g _ hg => by omega), fun v hv => (h.a v hv).keep k fun g h1 _ => by omega, fun v hv => (h.b v hv).keep k fun g h1 _ => by omega⟩
theorem ws0 {X : Value} (h : WS W w3 p0 p1 p2 w r0 r1 r2 a b) (hr : r0.length = 2) (hX : X.cells.size = 2) (h1 : X.cells.toList.all Value.oneCell' = true) {K : Unit → World → Prop} (hK : ∀ w', WS W w3 p0 p1 p2 w' X.cells.toList r1 r2 a b → K () w') :
    SemW Try.prog (Instr.storeAt 24 (.pointer (some p0)) X) w K :=
  SemW_setW (by rw [cells24]; decide) (by rw [cells24, hX]) h.x (by rw [cells24, hr]) h1 fun w' r k s => by
    have n := h.n
    have B := h.B
    obtain ⟨e1, e2, e3, e4⟩ := h.go k ⟨B.1, B.2.2.2.1⟩ (.inl rfl)
    exact hK w' ⟨e1, e2, r, h.y.keep k (Ne.symm n.1), h.z.keep k (Ne.symm n.2.1), n, B, e3, e4⟩
theorem ws1 {X : Value} (h : WS W w3 p0 p1 p2 w r0 r1 r2 a b) (hr : r1.length = 3) (hX : X.cells.size = 3) (h1 : X.cells.toList.all Value.oneCell' = true) {K : Unit → World → Prop} (hK : ∀ w', WS W w3 p0 p1 p2 w' r0 X.cells.toList r2 a b → K () w') :
    SemW Try.prog (Instr.storeAt 28 (.pointer (some p1)) X) w K :=
  SemW_setW (by rw [cells28]; decide) (by rw [cells28, hX]) h.y (by rw [cells28, hr]) h1 fun w' r k s => by
    have n := h.n
    have B := h.B
    obtain ⟨e1, e2, e3, e4⟩ := h.go k ⟨B.2.1, B.2.2.2.2.1⟩ (.inr (.inl rfl))
    exact hK w' ⟨e1, e2, h.x.keep k n.1, r, h.z.keep k (Ne.symm n.2.2), n, B, e3, e4⟩
theorem ws2 {X : Value} (h : WS W w3 p0 p1 p2 w r0 r1 r2 a b) (hr : r2.length = 3) (hX : X.cells.size = 3) (h1 : X.cells.toList.all Value.oneCell' = true) {K : Unit → World → Prop} (hK : ∀ w', WS W w3 p0 p1 p2 w' r0 r1 X.cells.toList a b → K () w') :
    SemW Try.prog (Instr.storeAt 31 (.pointer (some p2)) X) w K :=
  SemW_setW (by rw [cells31]; decide) (by rw [cells31, hX]) h.z (by rw [cells31, hr]) h1 fun w' r k s => by
    have n := h.n
    have B := h.B
    obtain ⟨e1, e2, e3, e4⟩ := h.go k ⟨B.2.2.1, B.2.2.2.2.2⟩ (.inr (.inr rfl))
    exact hK w' ⟨e1, e2, h.x.keep k n.2.1, h.y.keep k n.2.2, r, n, B, e3, e4⟩
end
theorem wsEnd {W w3 w : World} {p0 p1 p2 va vb pl qa qb pa pb pr : Addr} {pt pf : Addr} (h : WS W w3 p0 p1 p2 w [.int .i64 3, .slice (some pl) 1 1] [.slice (some qa) 3 3, .slice (some qb) 3 3, .slice none 0 0] [.slice (some va) 1 1, .slice none 0 0, .slice (some vb) 1 1] (some (.slice (some va) 1 1)) (some (.slice (some vb) 1 1)))
    (sl : Row w3 pa 3 (exLine.Offices.map fun x => .int .i64 x) ∧ Row w3 pb 3 (exLine.Legs.map fun x => .int .i64 x) ∧ Row w3 pr 84 [.int .i64 10, .int .i64 11, .int .i64 1] ∧ Row w3 pl 55 (exLine.cs (.slice (some pa) 3 3) (.slice (some pb) 2 2) (.slice (some pr) 1 1) (.slice none 0 0)) ∧ Row w3 qa 3 (exF.Base.map fun x => .int .i64 x) ∧ Row w3 qb 3 (exF.Leg.map fun x => .int .i64 x)) (hn : ∀ p ∈ [pa, pb, pr, pl, qa, qb], p.block ≠ p0.block ∧ p.block ≠ p1.block ∧ p.block ≠ p2.block) :
    Run Try.prog none 21 [] [.code .ret] [(4, some (Value.pointer (some pf))), (3, some (Value.pointer (some pt))), (2, some (Value.pointer (some p2))), (1, some (Value.pointer (some p1))), (0, some (Value.pointer (some p0)))] w
      (Rets Try.prog [ResultVar.cell 0 24, ResultVar.cell 1 28, ResultVar.cell 2 31] fun v w' => ∃ vl u0 u1 u2 v0 v1 v2, Ending.returned v = Ending.returned (.tuple #[.agg (exT.cs vl).toArray, .agg (exF.cs u0 u1 u2).toArray, .agg (exP.cs v0 v1 v2).toArray]) ∧ Sl w' vl exT.Lines ∧ TarR w' exF u0 u1 u2 ∧ PlanR w' exP v0 v1 v2 ∧ Ext W w') := by
  refine Run_ret ?_
  have e0 := loadVar_at (P := Try.prog) (t := 24) (by kernel_rfl) (by rw [cells24]; decide) (by rw [cells24]; rfl) h.x.at_
  have e1 := loadVar_at (P := Try.prog) (t := 28) (by kernel_rfl) (by rw [cells28]; decide) (by rw [cells28]; rfl) h.y.at_
  have e2 := loadVar_at (P := Try.prog) (t := 31) (by kernel_rfl) (by rw [cells31]; decide) (by rw [cells31]; rfl) h.z.at_
  obtain ⟨s1, s2, s3, s4, s5, s6⟩ := sl
  have k := h.keep
  have ti : ∀ (xs : List Int) (p : Addr), xs.all (fun x => decide (-1000000 ≤ x ∧ x ≤ 1000000)) = true → xs.length ≤ 1000 → Row w p 3 (xs.map fun x => .int .i64 x) → Sl w (.slice (some p) xs.length xs.length) xs := fun xs p hx hl hr => by
    have hc := Cs.ints (w := w) xs fun x h => by
      have := List.all_eq_true.1 hx x h
      simp only [decide_eq_true_eq] at this
      unfold I64; omega
    refine Sl.of_row (e := 3) (css := (xs.map fun x => (Value.int .i64 x)).map fun v => v.cells.toList) ?_ hc rfl (by omega)
    have e : ((xs.map fun x => (Value.int .i64 x)).map fun v => v.cells.toList).flatten = xs.map fun x => .int .i64 x := by
      clear hx hl hr hc
      induction xs with
      | nil => rfl
      | cons x xs ih => simp only [List.map_cons, List.flatten_cons, ih]; rfl
    rw [e]; exact hr
  have r1 : Sl w (.slice (some pa) 3 3) exLine.Offices := ti exLine.Offices pa (by decide) (by decide) (s1.keep k (hn _ (by simp)))
  have r2 : Sl w (.slice (some pb) 2 2) exLine.Legs := ti exLine.Legs pb (by decide) (by decide) (s2.keep k (hn _ (by simp)))
  have r3 : Sl w (.slice (some pr) 1 1) exLine.Rules := Sl.of_row (css := [_]) (s3.keep k (hn _ (by simp))) (Cs.one ⟨rfl, by simp [I64], by simp [I64], by simp [I64]⟩) rfl (by decide)
  have r4 : Sl w (.slice (some pl) 1 1) exT.Lines := Sl.of_row (css := [_]) (s4.keep k (hn _ (by simp))) (Cs.one (LineR.rep ⟨r1, r2, by simp [exLine, I64], by simp [exLine, I64], r3, Sl.nil _⟩)) rfl (by decide)
  have r5 : Sl w (.slice (some qa) 3 3) exF.Base := ti exF.Base qa (by decide) (by decide) (s5.keep k (hn _ (by simp)))
  have r6 : Sl w (.slice (some qb) 3 3) exF.Leg := ti exF.Leg qb (by decide) (by decide) (s6.keep k (hn _ (by simp)))
  simp only [Rets, RetM, resV]
  refine ⟨p0, _, rfl, e0, p1, _, rfl, e1, p2, _, rfl, e2, ?_⟩
  simp only [oneOr]
  exact ⟨_, _, _, _, _, _, _, rfl, r4, ⟨r5, r6, Sl.nil _⟩, ⟨(h.a _ rfl).sl (by decide), Sl.nil _, (h.b _ rfl).sl (by decide)⟩, h.ext⟩
set_option maxHeartbeats 1000000 in
theorem lawWorld (w : World) : Calls Try.prog 20 #[] w fun e w' => ∃ vl u0 u1 u2 v0 v1 v2, e = .returned (.tuple #[.agg (exT.cs vl).toArray, .agg (exF.cs u0 u1 u2).toArray, .agg (exP.cs v0 v1 v2).toArray]) ∧ Sl w' vl exT.Lines ∧ TarR w' exF u0 u1 u2 ∧ PlanR w' exP v0 v1 v2 ∧ Ext w w' := by
  refine Calls_of_Run (args := []) (n := 21) (rs := [.cell 0 24, .cell 1 28, .cell 2 31]) Try.func20 rfl rfl rfl (by simp) ?_
  (repeat first | with_reducible first | refine jq ?_ | refine jk ?_ | refine jc ?_ | refine jl ?_ | refine jb ?_ | refine jo ?_ | refine ji ?_ | refine jx rfl ?_ | refine And.intro (by first | assumption | omega | (intros; omega)) ?_ | ((first | refine jR KL20 (by kernel_rfl) fun _ => ?_ | skip); simp only [KS, Nat.reduceAdd, Nat.reduceMul, Nat.reduceEqDiff, ↓reduceIte, forall_const, Int.cast_ofNat_Int, Int.reduceToNat, TF20, KL20, List.take_succ_cons, List.take_zero, List.drop_succ_cons, List.drop_zero]; (try simp (disch := omega) only [wrapI, tmodI, tdivI]); (fail_if_success (with_reducible show False))))
  refine SemW_allocT ti24 fun p0 w1 h1 => ?_
  (repeat first | with_reducible first | refine jq ?_ | refine jk ?_ | refine jc ?_ | refine jl ?_ | refine jb ?_ | refine jo ?_ | refine ji ?_ | refine jx rfl ?_ | refine And.intro (by first | assumption | omega | (intros; omega)) ?_ | ((first | refine jR KL20 (by kernel_rfl) fun _ => ?_ | skip); simp only [KS, Nat.reduceAdd, Nat.reduceMul, Nat.reduceEqDiff, ↓reduceIte, forall_const, Int.cast_ofNat_Int, Int.reduceToNat, TF20, KL20, List.take_succ_cons, List.take_zero, List.drop_succ_cons, List.drop_zero]; (try simp (disch := omega) only [wrapI, tmodI, tdivI]); (fail_if_success (with_reducible show False))))
  refine SemW_allocT ti28 fun p1 w2 h2 => ?_
  (repeat first | with_reducible first | refine jq ?_ | refine jk ?_ | refine jc ?_ | refine jl ?_ | refine jb ?_ | refine jo ?_ | refine ji ?_ | refine jx rfl ?_ | refine And.intro (by first | assumption | omega | (intros; omega)) ?_ | ((first | refine jR KL20 (by kernel_rfl) fun _ => ?_ | skip); simp only [KS, Nat.reduceAdd, Nat.reduceMul, Nat.reduceEqDiff, ↓reduceIte, forall_const, Int.cast_ofNat_Int, Int.reduceToNat, TF20, KL20, List.take_succ_cons, List.take_zero, List.drop_succ_cons, List.drop_zero]; (try simp (disch := omega) only [wrapI, tmodI, tdivI]); (fail_if_success (with_reducible show False))))
  refine SemW_allocT ti31 fun p2 w3 h3 => ?_
  (repeat first | with_reducible first | refine jq ?_ | refine jk ?_ | refine jc ?_ | refine jl ?_ | refine jb ?_ | refine jo ?_ | refine ji ?_ | refine jx rfl ?_ | refine And.intro (by first | assumption | omega | (intros; omega)) ?_ | ((first | refine jR KL20 (by kernel_rfl) fun _ => ?_ | skip); simp only [KS, Nat.reduceAdd, Nat.reduceMul, Nat.reduceEqDiff, ↓reduceIte, forall_const, Int.cast_ofNat_Int, Int.reduceToNat, TF20, KL20, List.take_succ_cons, List.take_zero, List.drop_succ_cons, List.drop_zero]; (try simp (disch := omega) only [wrapI, tmodI, tdivI]); (fail_if_success (with_reducible show False))))
  refine SemW_buildSlice (vs := exLine.Offices.map fun x => .int .i64 x) Try.underlying25 ti3 rfl rfl rfl (by decide) (by decide) fun pa w4 h4 => ?_
  (repeat first | with_reducible first | refine jq ?_ | refine jk ?_ | refine jc ?_ | refine jl ?_ | refine jb ?_ | refine jo ?_ | refine ji ?_ | refine jx rfl ?_ | refine And.intro (by first | assumption | omega | (intros; omega)) ?_ | ((first | refine jR KL20 (by kernel_rfl) fun _ => ?_ | skip); simp only [KS, Nat.reduceAdd, Nat.reduceMul, Nat.reduceEqDiff, ↓reduceIte, forall_const, Int.cast_ofNat_Int, Int.reduceToNat, TF20, KL20, List.take_succ_cons, List.take_zero, List.drop_succ_cons, List.drop_zero]; (try simp (disch := omega) only [wrapI, tmodI, tdivI]); (fail_if_success (with_reducible show False))))
  refine SemW_buildSlice (vs := exLine.Legs.map fun x => .int .i64 x) Try.underlying25 ti3 rfl rfl rfl (by decide) (by decide) fun pb w5 h5 => ?_
  (repeat first | with_reducible first | refine jq ?_ | refine jk ?_ | refine jc ?_ | refine jl ?_ | refine jb ?_ | refine jo ?_ | refine ji ?_ | refine jx rfl ?_ | refine And.intro (by first | assumption | omega | (intros; omega)) ?_ | ((first | refine jR KL20 (by kernel_rfl) fun _ => ?_ | skip); simp only [KS, Nat.reduceAdd, Nat.reduceMul, Nat.reduceEqDiff, ↓reduceIte, forall_const, Int.cast_ofNat_Int, Int.reduceToNat, TF20, KL20, List.take_succ_cons, List.take_zero, List.drop_succ_cons, List.drop_zero]; (try simp (disch := omega) only [wrapI, tmodI, tdivI]); (fail_if_success (with_reducible show False))))
  refine ⟨.agg #[.int .i64 10, .int .i64 11, .int .i64 1], fun _ => by kernel_rfl, ?_⟩
  refine SemW_buildSlice (vs := [.agg #[.int .i64 10, .int .i64 11, .int .i64 1]]) Try.underlying52 ti84 rfl rfl rfl (by simp [Value.cells]) (by decide) fun pr w6 h6 => ?_
  refine ⟨.agg (exLine.cs (.slice (some pa) 3 3) (.slice (some pb) 2 2) (.slice (some pr) 1 1) (.slice none 0 0)).toArray, fun _ => by kernel_rfl, ?_⟩
  refine SemW_buildSlice (vs := [.agg (exLine.cs (.slice (some pa) 3 3) (.slice (some pb) 2 2) (.slice (some pr) 1 1) (.slice none 0 0)).toArray]) Try.underlying22 ti55 rfl rfl rfl (by simp [Value.cells, LineD.cs]) (by show 1 * 6 ≤ 16777216; decide) fun pl w7 h7 => ?_
  refine ⟨.agg (exT.cs (.slice (some pl) 1 1)).toArray, fun _ => by kernel_rfl, ?_⟩
  refine SemW_var ti24 rfl rfl (by decide) rfl fun pt w8 h8 => ?_
  (repeat first | with_reducible first | refine jq ?_ | refine jk ?_ | refine jc ?_ | refine jl ?_ | refine jb ?_ | refine jo ?_ | refine ji ?_ | refine jx rfl ?_ | refine And.intro (by first | assumption | omega | (intros; omega)) ?_ | ((first | refine jR KL20 (by kernel_rfl) fun _ => ?_ | skip); simp only [KS, Nat.reduceAdd, Nat.reduceMul, Nat.reduceEqDiff, ↓reduceIte, forall_const, Int.cast_ofNat_Int, Int.reduceToNat, TF20, KL20, List.take_succ_cons, List.take_zero, List.drop_succ_cons, List.drop_zero]; (try simp (disch := omega) only [wrapI, tmodI, tdivI]); (fail_if_success (with_reducible show False))))
  refine SemW_buildSlice (vs := exF.Base.map fun x => .int .i64 x) Try.underlying25 ti3 rfl rfl rfl (by decide) (by decide) fun qa w9 h9 => ?_
  (repeat first | with_reducible first | refine jq ?_ | refine jk ?_ | refine jc ?_ | refine jl ?_ | refine jb ?_ | refine jo ?_ | refine ji ?_ | refine jx rfl ?_ | refine And.intro (by first | assumption | omega | (intros; omega)) ?_ | ((first | refine jR KL20 (by kernel_rfl) fun _ => ?_ | skip); simp only [KS, Nat.reduceAdd, Nat.reduceMul, Nat.reduceEqDiff, ↓reduceIte, forall_const, Int.cast_ofNat_Int, Int.reduceToNat, TF20, KL20, List.take_succ_cons, List.take_zero, List.drop_succ_cons, List.drop_zero]; (try simp (disch := omega) only [wrapI, tmodI, tdivI]); (fail_if_success (with_reducible show False))))
  refine SemW_buildSlice (vs := exF.Leg.map fun x => .int .i64 x) Try.underlying25 ti3 rfl rfl rfl (by decide) (by decide) fun qb w10 h10 => ?_
  (repeat first | with_reducible first | refine jq ?_ | refine jk ?_ | refine jc ?_ | refine jl ?_ | refine jb ?_ | refine jo ?_ | refine ji ?_ | refine jx rfl ?_ | refine And.intro (by first | assumption | omega | (intros; omega)) ?_ | ((first | refine jR KL20 (by kernel_rfl) fun _ => ?_ | skip); simp only [KS, Nat.reduceAdd, Nat.reduceMul, Nat.reduceEqDiff, ↓reduceIte, forall_const, Int.cast_ofNat_Int, Int.reduceToNat, TF20, KL20, List.take_succ_cons, List.take_zero, List.drop_succ_cons, List.drop_zero]; (try simp (disch := omega) only [wrapI, tmodI, tdivI]); (fail_if_success (with_reducible show False))))
  refine ⟨.agg (exF.cs (.slice (some qa) 3 3) (.slice (some qb) 3 3) (.slice none 0 0)).toArray, fun _ => by kernel_rfl, ?_⟩
  refine SemW_var ti28 rfl rfl (by decide) rfl fun pf w11 h11 => ?_
  have B : ∀ {a b : World} {p : Addr} {cs : List Value} {t : TypeId}, NewB a p cs t b → p.block = a.heap.size ∧ b.heap.size = a.heap.size + 1 := fun h => ⟨h.blk, h.size⟩
  have b1 := B h1
  have b2 := B h2
  have b3 := B h3
  have b4 := B h4
  have b5 := B h5
  have b6 := B h6
  have b7 := B h7
  have b8 := B h8
  have b9 := B h9
  have b10 := B h10
  have b11 := B h11
  have y10 := h11.ext
  have y9 := h10.ext.trans y10
  have y8 := h9.ext.trans y9
  have y7 := h8.ext.trans y8
  have y6 := h7.ext.trans y7
  have y5 := h6.ext.trans y6
  have y4 := h5.ext.trans y5
  have y3 := h4.ext.trans y4
  have y2 := h3.ext.trans y3
  have y1 := h2.ext.trans y2
  have r0 := h1.row.ext y1
  have r1 := h2.row.ext y2
  have r2 := h3.row.ext y3
  have mt := h8.at_.ext y8
  have mf := h11.at_
  let S : Nat → Prop := fun k => k ≠ p0.block ∧ k ≠ p1.block ∧ k ≠ p2.block
  (repeat with_reducible first | refine jq ?_ | refine jk ?_ | refine jc ?_ | refine jl ?_ | refine jb ?_ | refine jo ?_ | refine ji ?_ | refine jx rfl ?_)
  refine Run_es S (id := 3) KL20 (.first 0 (.first 1 (.first 2 (.alt 3 (.alt 4 (.first 5 (.alt 6 (.alt 7 (.alt 8 .done .stop) .stop) .stop)) (.alt 6 (.alt 4 (.first 5 (.alt 7 (.alt 8 .done .stop) .stop)) (.alt 7 (.alt 4 (.first 5 (.alt 8 .done .stop)) .stop) .stop)) .stop)) (.alt 4 (.alt 3 (.first 5 (.alt 6 (.alt 7 (.alt 8 .done .stop) .stop) .stop)) (.alt 6 (.alt 3 (.first 5 (.alt 7 (.alt 8 .done .stop) .stop)) (.alt 7 (.alt 3 (.first 5 (.alt 8 .done .stop)) .stop) .stop)) .stop)) (.alt 6 (.alt 3 (.alt 4 (.first 5 (.alt 7 (.alt 8 .done .stop) .stop)) (.alt 7 (.alt 4 (.first 5 (.alt 8 .done .stop)) .stop) .stop)) (.alt 4 (.alt 3 (.first 5 (.alt 7 (.alt 8 .done .stop) .stop)) (.alt 7 (.alt 3 (.first 5 (.alt 8 .done .stop)) .stop) .stop)) (.alt 7 (.alt 3 (.alt 4 (.first 5 (.alt 8 .done .stop)) .stop) (.alt 4 (.alt 3 (.first 5 (.alt 8 .done .stop)) .stop) .stop)) .stop))) .stop)))))) mixed (by kernel_rfl) (by kernel_rfl) fun w12 x12 _ => ?_
  have hs : WS w w12 p0 p1 p2 w12 _ _ _ none none := ⟨h1.ext.trans (y1.trans x12), Keep.refl _ _, r0.ext x12, r1.ext x12, r2.ext x12, by omega, by have := x12.size; omega, fun v h => (by cases h), fun v h => (by cases h)⟩
  have hrow : Row w12 pa 3 (exLine.Offices.map fun x => .int .i64 x) ∧ Row w12 pb 3 (exLine.Legs.map fun x => .int .i64 x) ∧ Row w12 pr 84 [.int .i64 10, .int .i64 11, .int .i64 1] ∧ Row w12 pl 55 (exLine.cs (.slice (some pa) 3 3) (.slice (some pb) 2 2) (.slice (some pr) 1 1) (.slice none 0 0)) ∧ Row w12 qa 3 (exF.Base.map fun x => .int .i64 x) ∧ Row w12 qb 3 (exF.Leg.map fun x => .int .i64 x) :=
    ⟨h4.row.ext (y4.trans x12), h5.row.ext (y5.trans x12), h6.row.ext (y6.trans x12), h7.row.ext (y7.trans x12), h9.row.ext (y9.trans x12), h10.row.ext (y10.trans x12)⟩
  have gt := (mt.ext x12).n
  have gf := (mf.ext x12).n
  simp only [TimeD.cs, TariffD.cs, AtN, KS, Nat.reduceAdd, Nat.reduceMul, Nat.reduceEqDiff, ↓reduceIte, UT, Value.cells, List.toList_toArray] at gt gf
  have hn : ∀ p ∈ [pa, pb, pr, pl, qa, qb], p.block ≠ p0.block ∧ p.block ≠ p1.block ∧ p.block ≠ p2.block := by
    intro p hp
    simp only [List.mem_cons, List.not_mem_nil, or_false] at hp
    rcases hp with rfl | rfl | rfl | rfl | rfl | rfl <;> omega
  (try simp only [KS, Nat.reduceAdd, Nat.reduceMul, Nat.reduceEqDiff, ↓reduceIte, forall_const, Int.cast_ofNat_Int, Int.reduceToNat, List.take_succ_cons, List.take_zero, List.drop_succ_cons, List.drop_zero, TF20, KL20, es, qopS, putL, gt, gf]); (try simp (disch := omega) only [wrapI, tmodI, tdivI])
  refine ⟨by show _ ∧ _ ∧ _; omega, by show _ ∧ _ ∧ _; omega, .agg #[.int .i64 0, .int .i64 10, .int .i64 12], fun _ => by kernel_rfl, Keep.refl _ _, ?_⟩
  clear h1 h2 h3 h4 h5 h6 h7 h8 h9 h10 h11 y1 y2 y3 y4 y5 y6 y7 y8 y9 y10 r0 r1 r2 mt mf gt gf B b1 b2 b3 b4 b5 b6 b7 b8 b9 b10 b11
  repeat' (first | with_reducible refine And.intro ?_ ?_ | (with_reducible exact hs.keep) | (with_reducible refine wsA hs fun va w13 hs => ?_) | (with_reducible refine wsB hs fun vb w13 hs => ?_) | (with_reducible refine ws0 hs rfl rfl rfl fun w13 hs => ?_) | (with_reducible refine ws1 hs rfl rfl rfl fun w13 hs => ?_) | (with_reducible refine ws2 hs rfl rfl rfl fun w13 hs => ?_) | (with_reducible refine Exists.intro (.agg #[.slice (some va) 1 1, .slice none 0 0, .slice (some vb) 1 1]) (And.intro (fun _ => by kernel_rfl) ?_)))
  all_goals exact wsEnd hs hrow hn
end Go.Proofs.Ytcncbmdkifdggaa
