/- Chapter 39: the examples' world. -/
import Derived.Test.YtoadfmgnpmcbfaaW22c
import Derived.Test.YtoadfmgnpmcbfaaApiO
import Derived.Test.YtoadfmgnpmcbfaaLit
import Derived.Test.YtoadfmgnpmcbfaaFg
namespace Go.Proofs.Ytoadfmgnpmcbfaa
open Go Go.Fk
set_option linter.unusedSimpArgs false
set_option linter.unusedVariables false
set_option maxRecDepth 100000

def exLine : LineD := ⟨[0, 1, 2, 3, 4], [1, 1, 1, 1], 1, 9, [⟨5, 6, 1⟩], []⟩
def exT : TimeD := ⟨5, [exLine]⟩
def exF : TariffD := ⟨[10], [3], []⟩
def exP : PlanD := ⟨[⟨0, 5, 9⟩], [0], [1]⟩
def exO : OrderD := { From := 0, Person := 0, Dest := 4, Class := 0, After := 0, By := 20, Crowd := 1, Pay := 22, Against := [], Back := false, Else := 0 }
/-- where the examples lie -/
structure WS (W w3 : World) (p0 p1 p2 : Addr) (w : World) (r0 r1 r2 : List Value) (a b c : Option Value) : Prop where
  ext : Ext W w
  keep : Keep (fun k => k ≠ p0.block ∧ k ≠ p1.block ∧ k ≠ p2.block) w3 w
  x : Row w p0 24 r0
  y : Row w p1 28 r1
  z : Row w p2 32 r2
  n : p0.block ≠ p1.block ∧ p0.block ≠ p2.block ∧ p1.block ≠ p2.block
  B : W.heap.size ≤ p0.block ∧ W.heap.size ≤ p1.block ∧ W.heap.size ≤ p2.block ∧ p0.block < w3.heap.size ∧ p1.block < w3.heap.size ∧ p2.block < w3.heap.size
  a : ∀ v, a = some v → BufO 47 w3.heap.size w v exP.Runs
  b : ∀ v, b = some v → BufO 3 w3.heap.size w v exP.Of
  c : ∀ v, c = some v → BufO 3 w3.heap.size w v exP.Covers
section
variable {W w3 w : World} {p0 p1 p2 : Addr} {r0 r1 r2 : List Value} {a b c : Option Value}
theorem WS.more {w' : World} (h : WS W w3 p0 p1 p2 w r0 r1 r2 a b c) (x : Ext w w') : WS W w3 p0 p1 p2 w' r0 r1 r2 a b c :=
  have k := Keep.of_ext (S := fun _ => True) x
  ⟨h.ext.trans x, h.keep.trans (Keep.of_ext x), h.x.ext x, h.y.ext x, h.z.ext x, h.n, h.B, fun v hv => (h.a v hv).keep k fun _ _ _ => trivial, fun v hv => (h.b v hv).keep k fun _ _ _ => trivial, fun v hv => (h.c v hv).keep k fun _ _ _ => trivial⟩
theorem wsA (h : WS W w3 p0 p1 p2 w r0 r1 r2 a b c) {K : Value → World → Prop} (hK : ∀ p w', WS W w3 p0 p1 p2 w' r0 r1 r2 (some (.slice (some p) 1 1)) b c → K (.slice (some p) 1 1) w') :
    SemW Try.prog (Instr.buildSlice 30 1 #[(0, .agg #[.int .i64 0, .int .i64 5, .int .i64 9])]) w K :=
  SemW_buildF (α := RunD) (W := w) Try.underlying30 ti47 rfl (by decide) (Ext.refl _) [_] exP.Runs rfl rfl (Cs.one ⟨rfl, by simp [I64], by simp [I64], by simp [I64]⟩) (by decide) fun p w' hb hs hx =>
    hK _ w' (by
      have := h.more hx
      exact ⟨this.ext, this.keep, this.x, this.y, this.z, this.n, this.B, fun v hv => by cases hv; exact hb.o.mono h.keep.size, this.b, this.c⟩)
theorem wsB (h : WS W w3 p0 p1 p2 w r0 r1 r2 a b c) {K : Value → World → Prop} (hK : ∀ p w', WS W w3 p0 p1 p2 w' r0 r1 r2 a (some (.slice (some p) 1 1)) c → K (.slice (some p) 1 1) w') :
    SemW Try.prog (Instr.buildSlice 25 1 #[(0, .int .i64 0)]) w K :=
  SemW_buildF (α := Int) (W := w) Try.underlying25 ti3 rfl (by decide) (Ext.refl _) [_] exP.Of rfl rfl (Cs.one ⟨rfl, by simp [I64]⟩) (by decide) fun p w' hb hs hx =>
    hK _ w' (by
      have := h.more hx
      exact ⟨this.ext, this.keep, this.x, this.y, this.z, this.n, this.B, this.a, fun v hv => by cases hv; exact hb.o.mono h.keep.size, this.c⟩)
theorem wsC (h : WS W w3 p0 p1 p2 w r0 r1 r2 a b c) {K : Value → World → Prop} (hK : ∀ p w', WS W w3 p0 p1 p2 w' r0 r1 r2 a b (some (.slice (some p) 1 1)) → K (.slice (some p) 1 1) w') :
    SemW Try.prog (Instr.buildSlice 25 1 #[(0, .int .i64 1)]) w K :=
  SemW_buildF (α := Int) (W := w) Try.underlying25 ti3 rfl (by decide) (Ext.refl _) [_] exP.Covers rfl rfl (Cs.one ⟨rfl, by simp [I64]⟩) (by decide) fun p w' hb hs hx =>
    hK _ w' (by
      have := h.more hx
      exact ⟨this.ext, this.keep, this.x, this.y, this.z, this.n, this.B, this.a, this.b, fun v hv => by cases hv; exact hb.o.mono h.keep.size⟩)
theorem WS.go {p : Addr} {w' : World} (h : WS W w3 p0 p1 p2 w r0 r1 r2 a b c) (k : Keep (fun k => k ≠ p.block) w w') (hp : W.heap.size ≤ p.block ∧ p.block < w3.heap.size) (hq : p.block = p0.block ∨ p.block = p1.block ∨ p.block = p2.block) :
    Ext W w' ∧ Keep (fun k => k ≠ p0.block ∧ k ≠ p1.block ∧ k ≠ p2.block) w3 w' ∧ (∀ v, a = some v → BufO 47 w3.heap.size w' v exP.Runs) ∧ (∀ v, b = some v → BufO 3 w3.heap.size w' v exP.Of) ∧ (∀ v, c = some v → BufO 3 w3.heap.size w' v exP.Covers) :=
  ⟨Keep.ext h.ext k fun g hg => by omega, h.keep.trans (k.mono fun g _ hg => by omega), fun v hv => (h.a v hv).keep k fun g h1 _ => by omega, fun v hv => (h.b v hv).keep k fun g h1 _ => by omega, fun v hv => (h.c v hv).keep k fun g h1 _ => by omega⟩
theorem ws0 {X : Value} (h : WS W w3 p0 p1 p2 w r0 r1 r2 a b c) (hr : r0.length = 2) (hX : X.cells.size = 2) (h1 : X.cells.toList.all Value.oneCell' = true) {K : Unit → World → Prop} (hK : ∀ w', WS W w3 p0 p1 p2 w' X.cells.toList r1 r2 a b c → K () w') :
    SemW Try.prog (Instr.storeAt 24 (.pointer (some p0)) X) w K :=
  SemW_setW (by rw [cells24]; decide) (by rw [cells24, hX]) h.x (by rw [cells24, hr]) h1 fun w' r k s => by
    have n := h.n
    have B := h.B
    obtain ⟨e1, e2, e3, e4, e5⟩ := h.go k ⟨B.1, B.2.2.2.1⟩ (.inl rfl)
    exact hK w' ⟨e1, e2, r, h.y.keep k (Ne.symm n.1), h.z.keep k (Ne.symm n.2.1), n, B, e3, e4, e5⟩
theorem ws1 {X : Value} (h : WS W w3 p0 p1 p2 w r0 r1 r2 a b c) (hr : r1.length = 3) (hX : X.cells.size = 3) (h1 : X.cells.toList.all Value.oneCell' = true) {K : Unit → World → Prop} (hK : ∀ w', WS W w3 p0 p1 p2 w' r0 X.cells.toList r2 a b c → K () w') :
    SemW Try.prog (Instr.storeAt 28 (.pointer (some p1)) X) w K :=
  SemW_setW (by rw [cells28]; decide) (by rw [cells28, hX]) h.y (by rw [cells28, hr]) h1 fun w' r k s => by
    have n := h.n
    have B := h.B
    obtain ⟨e1, e2, e3, e4, e5⟩ := h.go k ⟨B.2.1, B.2.2.2.2.1⟩ (.inr (.inl rfl))
    exact hK w' ⟨e1, e2, h.x.keep k n.1, r, h.z.keep k (Ne.symm n.2.2), n, B, e3, e4, e5⟩
theorem ws2 {X : Value} (h : WS W w3 p0 p1 p2 w r0 r1 r2 a b c) (hr : r2.length = 3) (hX : X.cells.size = 3) (h1 : X.cells.toList.all Value.oneCell' = true) {K : Unit → World → Prop} (hK : ∀ w', WS W w3 p0 p1 p2 w' r0 r1 X.cells.toList a b c → K () w') :
    SemW Try.prog (Instr.storeAt 32 (.pointer (some p2)) X) w K :=
  SemW_setW (by rw [cells32]; decide) (by rw [cells32, hX]) h.z (by rw [cells32, hr]) h1 fun w' r k s => by
    have n := h.n
    have B := h.B
    obtain ⟨e1, e2, e3, e4, e5⟩ := h.go k ⟨B.2.2.1, B.2.2.2.2.2⟩ (.inr (.inr rfl))
    exact hK w' ⟨e1, e2, h.x.keep k n.2.1, h.y.keep k n.2.2, r, n, B, e3, e4, e5⟩
end
def WorldRet (W : World) (e : Ending) (w' : World) : Prop := ∃ vl u0 u1 u2 vo v0 v1 v2, e = .returned (.tuple #[.agg (exT.cs vl).toArray, .agg (exF.cs u0 u1 u2).toArray, vo, .agg (exP.cs v0 v1 v2).toArray]) ∧ Sl w' vl exT.Lines ∧ TarR w' exF u0 u1 u2 ∧ Sl w' vo [exO] ∧ PlanR w' exP v0 v1 v2 ∧ Ext W w'
def oCells : List Value := exO.cs (.slice none 0 0)
theorem wsEnd {W w3 w : World} {p0 p1 p2 va vb vc pl qa qb pa pb pr po : Addr} {L : FL} (h : WS W w3 p0 p1 p2 w [.int .i64 5, .slice (some pl) 1 1] [.slice (some qa) 1 1, .slice (some qb) 1 1, .slice none 0 0] [.slice (some va) 1 1, .slice (some vb) 1 1, .slice (some vc) 1 1] (some (.slice (some va) 1 1)) (some (.slice (some vb) 1 1)) (some (.slice (some vc) 1 1)))
    (sl : Row w3 pa 3 (exLine.Offices.map fun x => .int .i64 x) ∧ Row w3 pb 3 (exLine.Legs.map fun x => .int .i64 x) ∧ Row w3 pr 71 [.int .i64 5, .int .i64 6, .int .i64 1] ∧ Row w3 pl 45 (exLine.cs (.slice (some pa) 5 5) (.slice (some pb) 4 4) (.slice (some pr) 1 1) (.slice none 0 0)) ∧ Row w3 qa 3 (exF.Base.map fun x => .int .i64 x) ∧ Row w3 qb 3 (exF.Leg.map fun x => .int .i64 x) ∧ Row w3 po 64 oCells)
    (hn : ∀ p ∈ [pa, pb, pr, pl, qa, qb, po], p.block ≠ p0.block ∧ p.block ≠ p1.block ∧ p.block ≠ p2.block)
    (l0 : fnd L 0 = some (.pointer (some p0))) (l1 : fnd L 1 = some (.pointer (some p1))) (l2 : fnd L 2 = some (.slice (some po) 1 1)) (l3 : fnd L 3 = some (.pointer (some p2))) :
    Run Try.prog none 29 [] [.code .ret] L w
      (Rets Try.prog [ResultVar.cell 0 24, ResultVar.cell 1 28, ResultVar.tmp 2, ResultVar.cell 3 32] fun v w' => WorldRet W (Ending.returned v) w') := by
  refine Run_ret ?_
  have e0 := loadVar_at (P := Try.prog) (t := 24) (by kernel_rfl) (by rw [cells24]; decide) (by rw [cells24]; rfl) h.x.at_
  have e1 := loadVar_at (P := Try.prog) (t := 28) (by kernel_rfl) (by rw [cells28]; decide) (by rw [cells28]; rfl) h.y.at_
  have e2 := loadVar_at (P := Try.prog) (t := 32) (by kernel_rfl) (by rw [cells32]; decide) (by rw [cells32]; rfl) h.z.at_
  obtain ⟨s1, s2, s3, s4, s5, s6, s7⟩ := sl
  have k := h.keep
  have ti : ∀ (xs : List Int) (p : Addr), xs.all (fun x => decide (-1000000 ≤ x ∧ x ≤ 1000000)) = true → xs.length ≤ 1000 → Row w p 3 (xs.map fun x => .int .i64 x) → Sl w (.slice (some p) xs.length xs.length) xs := fun xs p hx hl hr => by
    have hc := Cs.ints (w := w) xs fun x h => by
      have := List.all_eq_true.1 hx x h
      simp only [decide_eq_true_eq] at this
      unfold I64; omega
    refine Sl.of_row (e := 3) (css := (xs.map fun x => (Value.int .i64 x)).map fun v => v.cells.toList) ?_ hc rfl (by omega)
    have e : ((xs.map fun x => (Value.int .i64 x)).map fun v => v.cells.toList).flatten = xs.map fun x => .int .i64 x := by
      clear hx hl hr hc
      induction xs with
      | nil => rfl
      | cons x xs ih => simp only [List.map_cons, List.flatten_cons, ih]; rfl
    rw [e]; exact hr
  have r1 : Sl w (.slice (some pa) 5 5) exLine.Offices := ti exLine.Offices pa (by decide) (by decide) (s1.keep k (hn _ (by simp)))
  have r2 : Sl w (.slice (some pb) 4 4) exLine.Legs := ti exLine.Legs pb (by decide) (by decide) (s2.keep k (hn _ (by simp)))
  have r3 : Sl w (.slice (some pr) 1 1) exLine.Rules := Sl.of_row (css := [_]) (s3.keep k (hn _ (by simp))) (Cs.one ⟨rfl, by simp [I64], by simp [I64], by simp [I64]⟩) rfl (by decide)
  have r4 : Sl w (.slice (some pl) 1 1) exT.Lines := Sl.of_row (css := [_]) (s4.keep k (hn _ (by simp))) (Cs.one (LineR.rep ⟨r1, r2, by simp [exLine, I64], by simp [exLine, I64], r3, Sl.nil _⟩)) rfl (by decide)
  have r5 : Sl w (.slice (some qa) 1 1) exF.Base := ti exF.Base qa (by decide) (by decide) (s5.keep k (hn _ (by simp)))
  have r6 : Sl w (.slice (some qb) 1 1) exF.Leg := ti exF.Leg qb (by decide) (by decide) (s6.keep k (hn _ (by simp)))
  have r7 : Sl w (.slice (some po) 1 1) [exO] := Sl.of_row (css := [_]) (s7.keep k (hn _ (by simp))) (Cs.one (OrdR.rep ⟨by simp [exO, I64], by simp [exO, I64], by simp [exO, I64], by simp [exO, I64], by simp [exO, I64], by simp [exO, I64], by simp [exO, I64], by simp [exO, I64], Sl.nil _, by simp [exO, I64]⟩)) rfl (by decide)
  simp only [Rets, RetM, resV]
  refine ⟨p0, _, l0, e0, p1, _, l1, e1, _, l2, p2, _, l3, e2, ?_⟩
  simp only [oneOr]
  exact ⟨_, _, _, _, _, _, _, _, rfl, r4, ⟨r5, r6, Sl.nil _⟩, r7, ⟨(h.a _ rfl).sl (by decide), (h.b _ rfl).sl (by decide), (h.c _ rfl).sl (by decide)⟩, h.ext⟩
set_option maxHeartbeats 4000000 in
theorem lawWorld (w : World) : Calls Try.prog 8 #[] w (WorldRet w) := by
  refine Calls_of_Run (args := []) (n := 29) (rs := [.cell 0 24, .cell 1 28, .tmp 2, .cell 3 32]) Try.func8 rfl rfl rfl (by simp) ?_
  (repeat with_reducible first | refine js ?_ | refine ja ?_ | refine jw KL8 [] TF8 fun _ => ?_)
  refine SemW_allocT ti24 fun p0 w1 h1 => ?_
  (repeat with_reducible first | refine js ?_ | refine ja ?_ | refine jw KL8 [] TF8 fun _ => ?_)
  refine SemW_allocT ti28 fun p1 w2 h2 => ?_
  (repeat with_reducible first | refine js ?_ | refine ja ?_ | refine jw KL8 [] TF8 fun _ => ?_)
  refine SemW_allocT ti32 fun p2 w3 h3 => ?_
  (repeat with_reducible first | refine js ?_ | refine ja ?_ | refine jw KL8 [] TF8 fun _ => ?_)
  refine SemW_buildSlice (vs := exLine.Offices.map fun x => .int .i64 x) Try.underlying25 ti3 rfl rfl rfl (by decide) (by decide) fun pa w4 h4 => ?_
  (repeat with_reducible first | refine js ?_ | refine ja ?_ | refine jw KL8 [] TF8 fun _ => ?_)
  refine SemW_buildSlice (vs := exLine.Legs.map fun x => .int .i64 x) Try.underlying25 ti3 rfl rfl rfl (by decide) (by decide) fun pb w5 h5 => ?_
  (repeat with_reducible first | refine js ?_ | refine ja ?_ | refine jw KL8 [] TF8 fun _ => ?_)
  refine ⟨.agg #[.int .i64 5, .int .i64 6, .int .i64 1], fun _ => by kernel_rfl, ?_⟩
  refine SemW_buildSlice (vs := [.agg #[.int .i64 5, .int .i64 6, .int .i64 1]]) Try.underlying42 ti71 rfl rfl rfl (by simp [Value.cells]) (by decide) fun pr w6 h6 => ?_
  refine ⟨.agg (exLine.cs (.slice (some pa) 5 5) (.slice (some pb) 4 4) (.slice (some pr) 1 1) (.slice none 0 0)).toArray, fun _ => by kernel_rfl, ?_⟩
  refine SemW_var ti45 rfl rfl (by decide) rfl fun pn w7 h7 => ?_
  have gn := h7.at_.n
  simp only [LineD.cs, AtN, KS, Nat.reduceAdd, Nat.reduceMul, Nat.reduceEqDiff, ↓reduceIte, UT, Value.cells, List.toList_toArray] at gn
  (repeat with_reducible first | refine js ?_ | refine ja ?_ | refine jw KL8 [] (aa TF8 gn) fun _ => ?_)
  refine SemW_buildSlice (vs := [.agg (exLine.cs (.slice (some pa) 5 5) (.slice (some pb) 4 4) (.slice (some pr) 1 1) (.slice none 0 0)).toArray]) Try.underlying22 ti45 rfl rfl rfl (by simp [Value.cells, LineD.cs]) (by show 1 * 6 ≤ 16777216; decide) fun pl w7' h7' => ?_
  refine ⟨.agg (exT.cs (.slice (some pl) 1 1)).toArray, fun _ => by kernel_rfl, ?_⟩
  refine SemW_var ti24 rfl rfl (by decide) rfl fun pt w8 h8 => ?_
  (repeat with_reducible first | refine js ?_ | refine ja ?_ | refine jw KL8 [] TF8 fun _ => ?_)
  refine SemW_buildSlice (vs := exF.Base.map fun x => .int .i64 x) Try.underlying25 ti3 rfl rfl rfl (by decide) (by decide) fun qa w9 h9 => ?_
  (repeat with_reducible first | refine js ?_ | refine ja ?_ | refine jw KL8 [] TF8 fun _ => ?_)
  refine SemW_buildSlice (vs := exF.Leg.map fun x => .int .i64 x) Try.underlying25 ti3 rfl rfl rfl (by decide) (by decide) fun qb w10 h10 => ?_
  (repeat with_reducible first | refine js ?_ | refine ja ?_ | refine jw KL8 [] TF8 fun _ => ?_)
  refine ⟨.agg (exF.cs (.slice (some qa) 1 1) (.slice (some qb) 1 1) (.slice none 0 0)).toArray, fun _ => by kernel_rfl, ?_⟩
  refine SemW_var ti28 rfl rfl (by decide) rfl fun pf w11 h11 => ?_
  (repeat with_reducible first | refine js ?_ | refine ja ?_ | refine jw KL8 [] TF8 fun _ => ?_)
  refine ⟨.agg oCells.toArray, fun _ => by kernel_rfl, ?_⟩
  refine SemW_buildSlice (vs := [.agg oCells.toArray]) Try.underlying29 ti64 rfl rfl rfl (by simp [Value.cells, oCells, OrderD.cs]) (by show 1 * 11 ≤ 16777216; decide) fun po w11' h11' => ?_
  (repeat with_reducible first | refine js ?_ | refine ja ?_ | refine jw KL8 [] TF8 fun _ => ?_)
  have B : ∀ {a b : World} {p : Addr} {cs : List Value} {t : TypeId}, NewB a p cs t b → p.block = a.heap.size ∧ b.heap.size = a.heap.size + 1 := fun h => ⟨h.blk, h.size⟩
  have b1 := B h1
  have b2 := B h2
  have b3 := B h3
  have b4 := B h4
  have b5 := B h5
  have b6 := B h6
  have b7 := B h7
  have b7' := B h7'
  have b8 := B h8
  have b9 := B h9
  have b10 := B h10
  have b11 := B h11
  have b11' := B h11'
  have y11 := h11'.ext
  have y10 := h11.ext.trans y11
  have y9 := h10.ext.trans y10
  have y8 := h9.ext.trans y9
  have y7' := h8.ext.trans y8
  have y7 := h7'.ext.trans y7'
  have y6 := h7.ext.trans y7
  have y5 := h6.ext.trans y6
  have y4 := h5.ext.trans y5
  have y3 := h4.ext.trans y4
  have y2 := h3.ext.trans y3
  have y1 := h2.ext.trans y2
  have r0 := h1.row.ext y1
  have r1 := h2.row.ext y2
  have r2 := h3.row.ext y3
  have mt := h8.at_.ext y8
  have mf := h11.at_.ext y11
  let S : Nat → Prop := fun k => k ≠ p0.block ∧ k ≠ p1.block ∧ k ≠ p2.block
  (repeat with_reducible first | refine jq ?_ | refine jk ?_ | refine jc ?_ | refine jl ?_ | refine jb ?_ | refine jo ?_ | refine ji ?_ | refine jx rfl ?_)
  refine Run_eh S [11] [(0, [11]), (1, [11])] (id := 5) KL8 (.first 0 (.first 1 (.first 2 (.first 3 (.alt true 4 (.alt true 5 (.alt true 6 (.first 7 (.alt true 8 (.alt true 9 (.first 10 (.alt true 11 (.done false) .stop)) .stop) .stop)) (.alt true 8 (.alt true 6 (.first 7 (.alt true 9 (.first 10 (.alt true 11 (.done false) .stop)) .stop)) (.alt true 9 (.first 10 (.alt true 6 (.first 7 (.alt true 11 (.done false) .stop)) .stop)) .stop)) .stop)) (.alt true 6 (.alt true 5 (.first 7 (.alt true 8 (.alt true 9 (.first 10 (.alt true 11 (.done false) .stop)) .stop) .stop)) (.alt true 8 (.alt true 5 (.first 7 (.alt true 9 (.first 10 (.alt true 11 (.done false) .stop)) .stop)) (.alt true 9 (.first 10 (.alt true 5 (.first 7 (.alt true 11 (.done false) .stop)) .stop)) .stop)) .stop)) (.alt true 8 (.alt true 5 (.alt true 6 (.first 7 (.alt true 9 (.first 10 (.alt true 11 (.done false) .stop)) .stop)) (.alt true 9 (.first 10 (.alt true 6 (.first 7 (.alt true 11 (.done false) .stop)) .stop)) .stop)) (.alt true 6 (.alt true 5 (.first 7 (.alt true 9 (.first 10 (.alt true 11 (.done false) .stop)) .stop)) (.alt true 9 (.first 10 (.alt true 5 (.first 7 (.alt true 11 (.done false) .stop)) .stop)) .stop)) (.alt true 9 (.first 10 (.alt true 5 (.alt true 6 (.first 7 (.alt true 11 (.done false) .stop)) .stop) (.alt true 6 (.alt true 5 (.first 7 (.alt true 11 (.done false) .stop)) .stop) .stop))) .stop))) .stop))) (.alt true 5 (.alt true 4 (.alt true 6 (.first 7 (.alt true 8 (.alt true 9 (.first 10 (.alt true 11 (.done false) .stop)) .stop) .stop)) (.alt true 8 (.alt true 6 (.first 7 (.alt true 9 (.first 10 (.alt true 11 (.done false) .stop)) .stop)) (.alt true 9 (.first 10 (.alt true 6 (.first 7 (.alt true 11 (.done false) .stop)) .stop)) .stop)) .stop)) (.alt true 6 (.alt true 4 (.first 7 (.alt true 8 (.alt true 9 (.first 10 (.alt true 11 (.done false) .stop)) .stop) .stop)) (.alt true 8 (.alt true 4 (.first 7 (.alt true 9 (.first 10 (.alt true 11 (.done false) .stop)) .stop)) (.alt true 9 (.first 10 (.alt true 4 (.first 7 (.alt true 11 (.done false) .stop)) .stop)) .stop)) .stop)) (.alt true 8 (.alt true 4 (.alt true 6 (.first 7 (.alt true 9 (.first 10 (.alt true 11 (.done false) .stop)) .stop)) (.alt true 9 (.first 10 (.alt true 6 (.first 7 (.alt true 11 (.done false) .stop)) .stop)) .stop)) (.alt true 6 (.alt true 4 (.first 7 (.alt true 9 (.first 10 (.alt true 11 (.done false) .stop)) .stop)) (.alt true 9 (.first 10 (.alt true 4 (.first 7 (.alt true 11 (.done false) .stop)) .stop)) .stop)) (.alt true 9 (.first 10 (.alt true 4 (.alt true 6 (.first 7 (.alt true 11 (.done false) .stop)) .stop) (.alt true 6 (.alt true 4 (.first 7 (.alt true 11 (.done false) .stop)) .stop) .stop))) .stop))) .stop))) (.alt true 6 (.alt true 4 (.alt true 5 (.first 7 (.alt true 8 (.alt true 9 (.first 10 (.alt true 11 (.done false) .stop)) .stop) .stop)) (.alt true 8 (.alt true 5 (.first 7 (.alt true 9 (.first 10 (.alt true 11 (.done false) .stop)) .stop)) (.alt true 9 (.first 10 (.alt true 5 (.first 7 (.alt true 11 (.done false) .stop)) .stop)) .stop)) .stop)) (.alt true 5 (.alt true 4 (.first 7 (.alt true 8 (.alt true 9 (.first 10 (.alt true 11 (.done false) .stop)) .stop) .stop)) (.alt true 8 (.alt true 4 (.first 7 (.alt true 9 (.first 10 (.alt true 11 (.done false) .stop)) .stop)) (.alt true 9 (.first 10 (.alt true 4 (.first 7 (.alt true 11 (.done false) .stop)) .stop)) .stop)) .stop)) (.alt true 8 (.alt true 4 (.alt true 5 (.first 7 (.alt true 9 (.first 10 (.alt true 11 (.done false) .stop)) .stop)) (.alt true 9 (.first 10 (.alt true 5 (.first 7 (.alt true 11 (.done false) .stop)) .stop)) .stop)) (.alt true 5 (.alt true 4 (.first 7 (.alt true 9 (.first 10 (.alt true 11 (.done false) .stop)) .stop)) (.alt true 9 (.first 10 (.alt true 4 (.first 7 (.alt true 11 (.done false) .stop)) .stop)) .stop)) (.alt true 9 (.first 10 (.alt true 4 (.alt true 5 (.first 7 (.alt true 11 (.done false) .stop)) .stop) (.alt true 5 (.alt true 4 (.first 7 (.alt true 11 (.done false) .stop)) .stop) .stop))) .stop))) .stop))) (.alt true 8 (.alt true 4 (.alt true 5 (.alt true 6 (.first 7 (.alt true 9 (.first 10 (.alt true 11 (.done false) .stop)) .stop)) (.alt true 9 (.first 10 (.alt true 6 (.first 7 (.alt true 11 (.done false) .stop)) .stop)) .stop)) (.alt true 6 (.alt true 5 (.first 7 (.alt true 9 (.first 10 (.alt true 11 (.done false) .stop)) .stop)) (.alt true 9 (.first 10 (.alt true 5 (.first 7 (.alt true 11 (.done false) .stop)) .stop)) .stop)) (.alt true 9 (.first 10 (.alt true 5 (.alt true 6 (.first 7 (.alt true 11 (.done false) .stop)) .stop) (.alt true 6 (.alt true 5 (.first 7 (.alt true 11 (.done false) .stop)) .stop) .stop))) .stop))) (.alt true 5 (.alt true 4 (.alt true 6 (.first 7 (.alt true 9 (.first 10 (.alt true 11 (.done false) .stop)) .stop)) (.alt true 9 (.first 10 (.alt true 6 (.first 7 (.alt true 11 (.done false) .stop)) .stop)) .stop)) (.alt true 6 (.alt true 4 (.first 7 (.alt true 9 (.first 10 (.alt true 11 (.done false) .stop)) .stop)) (.alt true 9 (.first 10 (.alt true 4 (.first 7 (.alt true 11 (.done false) .stop)) .stop)) .stop)) (.alt true 9 (.first 10 (.alt true 4 (.alt true 6 (.first 7 (.alt true 11 (.done false) .stop)) .stop) (.alt true 6 (.alt true 4 (.first 7 (.alt true 11 (.done false) .stop)) .stop) .stop))) .stop))) (.alt true 6 (.alt true 4 (.alt true 5 (.first 7 (.alt true 9 (.first 10 (.alt true 11 (.done false) .stop)) .stop)) (.alt true 9 (.first 10 (.alt true 5 (.first 7 (.alt true 11 (.done false) .stop)) .stop)) .stop)) (.alt true 5 (.alt true 4 (.first 7 (.alt true 9 (.first 10 (.alt true 11 (.done false) .stop)) .stop)) (.alt true 9 (.first 10 (.alt true 4 (.first 7 (.alt true 11 (.done false) .stop)) .stop)) .stop)) (.alt true 9 (.first 10 (.alt true 4 (.alt true 5 (.first 7 (.alt true 11 (.done false) .stop)) .stop) (.alt true 5 (.alt true 4 (.first 7 (.alt true 11 (.done false) .stop)) .stop) .stop))) .stop))) (.alt true 9 (.first 10 (.alt true 4 (.alt true 5 (.alt true 6 (.first 7 (.alt true 11 (.done false) .stop)) .stop) (.alt true 6 (.alt true 5 (.first 7 (.alt true 11 (.done false) .stop)) .stop) .stop)) (.alt true 5 (.alt true 4 (.alt true 6 (.first 7 (.alt true 11 (.done false) .stop)) .stop) (.alt true 6 (.alt true 4 (.first 7 (.alt true 11 (.done false) .stop)) .stop) .stop)) (.alt true 6 (.alt true 4 (.alt true 5 (.first 7 (.alt true 11 (.done false) .stop)) .stop) (.alt true 5 (.alt true 4 (.first 7 (.alt true 11 (.done false) .stop)) .stop) .stop)) .stop)))) .stop)))) .stop)))))))) mixed (by kernel_rfl) (by kernel_rfl) fun w12 x12 _ => ?_
  have hs : WS w w12 p0 p1 p2 w12 _ _ _ none none none := ⟨h1.ext.trans (y1.trans x12), Keep.refl _ _, r0.ext x12, r1.ext x12, r2.ext x12, by omega, by have := x12.size; omega, fun v h => (by cases h), fun v h => (by cases h), fun v h => (by cases h)⟩
  have hrow : Row w12 pa 3 (exLine.Offices.map fun x => .int .i64 x) ∧ Row w12 pb 3 (exLine.Legs.map fun x => .int .i64 x) ∧ Row w12 pr 71 [.int .i64 5, .int .i64 6, .int .i64 1] ∧ Row w12 pl 45 (exLine.cs (.slice (some pa) 5 5) (.slice (some pb) 4 4) (.slice (some pr) 1 1) (.slice none 0 0)) ∧ Row w12 qa 3 (exF.Base.map fun x => .int .i64 x) ∧ Row w12 qb 3 (exF.Leg.map fun x => .int .i64 x) ∧ Row w12 po 64 oCells :=
    ⟨h4.row.ext (y4.trans x12), h5.row.ext (y5.trans x12), h6.row.ext (y6.trans x12), h7'.row.ext (y7'.trans x12), h9.row.ext (y9.trans x12), h10.row.ext (y10.trans x12), h11'.row.ext x12⟩
  have gt := (mt.ext x12).n
  have gf := (mf.ext x12).n
  simp only [TimeD.cs, TariffD.cs, AtN, KS, Nat.reduceAdd, Nat.reduceMul, Nat.reduceEqDiff, ↓reduceIte, UT, Value.cells, List.toList_toArray] at gt gf
  have hn : ∀ p ∈ [pa, pb, pr, pl, qa, qb, po], p.block ≠ p0.block ∧ p.block ≠ p1.block ∧ p.block ≠ p2.block := by
    intro p hp
    simp only [List.mem_cons, List.not_mem_nil, or_false] at hp
    rcases hp with rfl | rfl | rfl | rfl | rfl | rfl | rfl <;> omega
  (try simp (maxSteps := 5000000) only [KS, Nat.reduceAdd, Nat.reduceMul, Nat.reduceEqDiff, ↓reduceIte, forall_const, Int.cast_ofNat_Int, Int.reduceToNat, List.take_succ_cons, List.take_zero, List.drop_succ_cons, List.drop_zero, TF8, KL8, eh, gres, qopS, putL, ung, gt, gf]); (try simp (disch := omega) only [wrapI, tmodI, tdivI])
  refine ⟨by show _ ∧ _ ∧ _; omega, by show _ ∧ _ ∧ _; omega, .agg #[.int .i64 0, .int .i64 5, .int .i64 9], fun _ => by kernel_rfl, ?_⟩
  clear h1 h2 h3 h4 h5 h6 h7 h7' h8 h9 h10 h11 h11' y1 y2 y3 y4 y5 y6 y7 y7' y8 y9 y10 y11 r0 r1 r2 mt mf gt gf gn B b1 b2 b3 b4 b5 b6 b7 b7' b8 b9 b10 b11 b11'
  repeat' (first | with_reducible refine And.intro ?_ ?_ | (with_reducible exact hs.keep) | (with_reducible refine wsA hs fun va w13 hs => ?_) | (with_reducible refine wsB hs fun vb w13 hs => ?_) | (with_reducible refine wsC hs fun vc w13 hs => ?_) | (with_reducible refine ws0 hs rfl rfl rfl fun w13 hs => ?_) | (with_reducible refine ws1 hs rfl rfl rfl fun w13 hs => ?_) | (with_reducible refine ws2 hs rfl rfl rfl fun w13 hs => ?_) | (with_reducible refine Exists.intro (.agg #[.slice (some va) 1 1, .slice (some vb) 1 1, .slice (some vc) 1 1]) (And.intro (fun _ => by kernel_rfl) ?_)) | (with_reducible exact fun h : False => h.elim))
  all_goals exact wsEnd hs hrow hn rfl rfl rfl rfl
end Go.Proofs.Ytoadfmgnpmcbfaa
