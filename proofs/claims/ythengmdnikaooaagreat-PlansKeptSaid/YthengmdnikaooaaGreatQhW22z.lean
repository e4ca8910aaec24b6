import Derived.Test.YthengmdnikaooaaGreatQhW22y
import Derived.Test.YthengmdnikaooaaGreatQhW22t
import Derived.Test.YthengmdnikaooaaGreatQhW22v
import Derived.Test.YthengmdnikaooaaGreatQhW20v
namespace Go.Proofs.YthengmdnikaooaaGreat
open Go Go.Fk
set_option linter.unusedSimpArgs false
set_option linter.unusedVariables false
set_option maxRecDepth 100000
def xL : LineD := ⟨[0, 1, 2], [3, 4], 1, 5, [⟨10, 31, 10⟩], []⟩
def xT : TimeD := ⟨3, [xL]⟩
def xF : TariffD := ⟨[10], [2], []⟩
def xO (a b c : Int) : OrderD := { From := 0, Person := 0, Dest := 2, Class := 0, After := a, By := b, Crowd := c, Pay := 14, Against := [], Back := false, Else := 0 }
def xN : OrderD := { From := 0, Person := 0, Dest := 0, Class := 0, After := 0, By := 0, Crowd := 0, Pay := 0, Against := [], Back := false, Else := 0 }
def xa : RunD := ⟨0, 10, 17⟩
def xb : RunD := ⟨0, 20, 27⟩
def xc : RunD := ⟨0, 30, 37⟩
def xp : PlanD := ⟨[xb], [0, 0], [2]⟩
def xq : PlanD := ⟨[xa, xb], [0, 1], [3, 3]⟩
theorem y1 : Pl.fitsA xT xF (xO 5 17 3) xa = (true, 0) := by kernel_rfl
theorem y2 : Pl.fitsA xT xF (xO 11 40 3) xa = (false, 0) := by kernel_rfl
theorem y3 : Pl.fitsA xT xF (xO 5 17 3) ⟨-1, 0, 0⟩ = (false, 1) := by kernel_rfl
theorem y4 : Pl.options xT xF (xO 11 40 4) = ([xb, xc], 0) := by kernel_rfl
theorem y5 : Pl.options xT xF (xO 11 40 5) = ([], 0) := by kernel_rfl
theorem y6 : Pl.make xT xF [xO 5 40 3, xO 11 40 3] 2 = (xp, true, 0) := by kernel_rfl
theorem y7 : Pl.make xT xF [xO 5 40 3, xO 11 40 3] 9 = (xq, true, 0) := by kernel_rfl
theorem y8 : Pl.make xT xF [xO 5 40 3] 2 = (Pl.noPlan, false, 0) := by kernel_rfl
theorem y9 : Pl.make xT xF [] 0 = (Pl.noPlan, true, 0) := by kernel_rfl
theorem y10 : Pl.make xT xF [] (-1) = (Pl.noPlan, false, 0) := by kernel_rfl
theorem y11 : Pl.make xT xF [xN] 0 = (Pl.noPlan, false, 220) := by kernel_rfl
theorem y12 : Pl.check xT xF [xO 5 40 3, xO 11 40 3] 2 xp = (true, 0) := by kernel_rfl
theorem y13 : Pl.check xT xF [xO 5 40 3, xO 11 40 3] 1 xp = (false, 0) := by kernel_rfl
theorem ints22 {w : World} (xs : List Int) (p : Addr) (hx : xs.all (fun x => decide (-1000000 ≤ x ∧ x ≤ 1000000)) = true) (hl : xs.length ≤ 1000) (hr : Row w p 3 (xs.map fun x => .int .i64 x)) : Sl w (.slice (some p) xs.length xs.length) xs := by
  have hc := Cs.ints (w := w) xs fun x h => by
    have := List.all_eq_true.1 hx x h
    simp only [decide_eq_true_eq] at this
    unfold I64; omega
  refine Sl.of_row (e := 3) (css := (xs.map fun x => (Value.int .i64 x)).map fun v => v.cells.toList) ?_ hc rfl (by omega)
  have e : ((xs.map fun x => (Value.int .i64 x)).map fun v => v.cells.toList).flatten = xs.map fun x => .int .i64 x := by
    clear hx hl hr hc
    induction xs with
    | nil => rfl
    | cons x xs ih => simp only [List.map_cons, List.flatten_cons, ih]; rfl
  rw [e]; exact hr
set_option maxHeartbeats 1000000 in
theorem lwTable (w : World) : Calls Tryz.prog 32 #[] w fun e w' => ∃ vl, e = .returned (.agg (xT.cs vl).toArray) ∧ Ext w w' ∧ Sl w' vl xT.Lines := by
  refine Calls_of_Run (args := []) (n := 8) (rs := [.cell 0 24]) Tryz.func32 rfl rfl rfl (by simp) ?_
  (repeat with_reducible first | refine js ?_ | refine ja ?_ | refine jw KL32 [] TF32 fun _ => ?_)
  refine SemW_allocT ti24 fun p0 w1 h1 => ?_
  (repeat with_reducible first | refine js ?_ | refine ja ?_ | refine jw KL32 [] TF32 fun _ => ?_)
  refine SemW_buildSlice (vs := xL.Offices.map fun x => .int .i64 x) Tryz.underlying25 ti3 rfl rfl rfl (by decide) (by decide) fun pa w3 h3 => ?_
  refine SemW_buildSlice (vs := xL.Legs.map fun x => .int .i64 x) Tryz.underlying25 ti3 rfl rfl rfl (by decide) (by decide) fun pb w4 h4 => ?_
  refine ⟨.agg #[.int .i64 10, .int .i64 31, .int .i64 10], fun _ => by kernel_rfl, ?_⟩
  refine SemW_buildSlice (vs := [.agg #[.int .i64 10, .int .i64 31, .int .i64 10]]) Tryz.underlying54 ti99 rfl rfl rfl (by simp [Value.cells]) (by decide) fun pr w5 h5 => ?_
  refine ⟨.agg (xL.cs (.slice (some pa) 3 3) (.slice (some pb) 2 2) (.slice (some pr) 1 1) (.slice none 0 0)).toArray, fun _ => by kernel_rfl, ?_⟩
  refine SemW_buildSlice (vs := [.agg (xL.cs (.slice (some pa) 3 3) (.slice (some pb) 2 2) (.slice (some pr) 1 1) (.slice none 0 0)).toArray]) Tryz.underlying22 ti57 rfl rfl rfl (by simp [Value.cells, LineD.cs]) (by show 1 * 6 ≤ 16777216; decide) fun pl w8 h8 => ?_
  refine ⟨.agg (xT.cs (.slice (some pl) 1 1)).toArray, fun _ => by kernel_rfl, ?_⟩
  have b1 := h1.blk
  have b3 := h3.blk
  have b4 := h4.blk
  have b5 := h5.blk
  have b8 := h8.blk
  have s1 := h1.size
  have s3 := h3.size
  have s4 := h4.size
  have s5 := h5.size
  have x38 := h3.ext.trans (h4.ext.trans (h5.ext.trans h8.ext))
  refine SemW_setW (by rw [cells24]; decide) (by rw [cells24]; rfl) (h1.row.ext x38) (by rw [cells24]; rfl) rfl fun wC rC kC zC => ?_
  have rC : Row wC p0 24 (xT.cs (.slice (some pl) 1 1)) := rC
  have qa : Row wC pa 3 (xL.Offices.map fun x => .int .i64 x) := (h3.row.ext (h4.ext.trans (h5.ext.trans h8.ext))).keep kC (by show pa.block ≠ p0.block; omega)
  have qb : Row wC pb 3 (xL.Legs.map fun x => .int .i64 x) := (h4.row.ext (h5.ext.trans h8.ext)).keep kC (by show pb.block ≠ p0.block; omega)
  have qr : Row wC pr 99 [.int .i64 10, .int .i64 31, .int .i64 10] := (h5.row.ext h8.ext).keep kC (by show pr.block ≠ p0.block; omega)
  have ql : Row wC pl 57 (xL.cs (.slice (some pa) 3 3) (.slice (some pb) 2 2) (.slice (some pr) 1 1) (.slice none 0 0)) := h8.row.keep kC (by show pl.block ≠ p0.block; omega)
  (repeat with_reducible first | refine js ?_ | refine ja ?_ | refine jw KL32 [] TF32 fun _ => ?_)
  refine Run_ret ?_
  simp only [Rets, RetM, resV, fnd, oneOr, ↓reduceIte]
  refine ⟨p0, _, rfl, loadVar_at (by kernel_rfl) (by rw [cells24]; decide) (by rw [cells24]; rfl) rC.at_, .slice (some pl) 1 1, rfl, Keep.ext (h1.ext.trans x38) kC fun b hb => by omega, ?_⟩
  exact Sl.of_row (css := [_]) ql (Cs.one (LineR.rep ⟨ints22 xL.Offices pa (by decide) (by decide) qa, ints22 xL.Legs pb (by decide) (by decide) qb, by simp [xL, I64], by simp [xL, I64], Sl.of_row (css := [_]) qr (Cs.one ⟨rfl, by simp [I64], by simp [I64], by simp [I64]⟩) rfl (by decide), Sl.nil _⟩)) rfl (by decide)
theorem lwPrices (w : World) : Calls Tryz.prog 33 #[] w fun e w' => ∃ u0 u1, e = .returned (.agg (xF.cs u0 u1 (.slice none 0 0)).toArray) ∧ Ext w w' ∧ TarR w' xF u0 u1 (.slice none 0 0) := by
  refine Calls_of_Run (args := []) (n := 4) (rs := [.cell 0 28]) Tryz.func33 rfl rfl rfl (by simp) ?_
  (repeat with_reducible first | refine js ?_ | refine ja ?_ | refine jw KL33 [] TF33 fun _ => ?_)
  refine SemW_allocT ti28 fun p0 w1 h1 => ?_
  (repeat with_reducible first | refine js ?_ | refine ja ?_ | refine jw KL33 [] TF33 fun _ => ?_)
  refine SemW_buildSlice (vs := xF.Base.map fun x => .int .i64 x) Tryz.underlying25 ti3 rfl rfl rfl (by decide) (by decide) fun pa w3 h3 => ?_
  refine SemW_buildSlice (vs := xF.Leg.map fun x => .int .i64 x) Tryz.underlying25 ti3 rfl rfl rfl (by decide) (by decide) fun pb w4 h4 => ?_
  refine ⟨.agg (xF.cs (.slice (some pa) 1 1) (.slice (some pb) 1 1) (.slice none 0 0)).toArray, fun _ => by kernel_rfl, ?_⟩
  have b1 := h1.blk
  have b3 := h3.blk
  have b4 := h4.blk
  have s1 := h1.size
  have s3 := h3.size
  refine SemW_setW (by rw [cells28]; decide) (by rw [cells28]; rfl) (h1.row.ext (h3.ext.trans h4.ext)) (by rw [cells28]; rfl) rfl fun wC rC kC zC => ?_
  have rC : Row wC p0 28 (xF.cs (.slice (some pa) 1 1) (.slice (some pb) 1 1) (.slice none 0 0)) := rC
  have qa : Row wC pa 3 (xF.Base.map fun x => .int .i64 x) := (h3.row.ext h4.ext).keep kC (by show pa.block ≠ p0.block; omega)
  have qb : Row wC pb 3 (xF.Leg.map fun x => .int .i64 x) := h4.row.keep kC (by show pb.block ≠ p0.block; omega)
  (repeat with_reducible first | refine js ?_ | refine ja ?_ | refine jw KL33 [] TF33 fun _ => ?_)
  refine Run_ret ?_
  simp only [Rets, RetM, resV, fnd, oneOr, ↓reduceIte]
  exact ⟨p0, _, rfl, loadVar_at (by kernel_rfl) (by rw [cells28]; decide) (by rw [cells28]; rfl) rC.at_, .slice (some pa) 1 1, .slice (some pb) 1 1, rfl, Keep.ext (h1.ext.trans (h3.ext.trans h4.ext)) kC fun b hb => by omega, ints22 xF.Base pa (by decide) (by decide) qa, ints22 xF.Leg pb (by decide) (by decide) qb, Sl.nil _⟩
theorem lwOrder (a b c : Int) (w : World) : Calls Tryz.prog 34 #[.int .i64 a, .int .i64 b, .int .i64 c] w fun e w' => e = .returned (.agg ((xO a b c).cs (.slice none 0 0)).toArray) ∧ Ext w w' := by
  refine Calls_of_Run (args := [.int .i64 a, .int .i64 b, .int .i64 c]) (n := 11) (rs := [.cell 6 30]) Tryz.func34 rfl rfl rfl (by simp) ?_
  (repeat with_reducible first | refine js ?_ | refine ja ?_ | refine jw KL34 [] TF34 fun _ => ?_)
  refine SemW_allocT ti30 fun p0 w1 h1 => ?_
  (repeat with_reducible first | refine js ?_ | refine ja ?_ | refine jw KL34 [] TF34 fun _ => ?_)
  refine ⟨.agg ((xO a b c).cs (.slice none 0 0)).toArray, fun _ => by kernel_rfl, ?_⟩
  have b1 := h1.blk
  refine SemW_setW (by rw [cells30]; decide) (by rw [cells30]; rfl) h1.row (by rw [cells30]; rfl) rfl fun wC rC kC zC => ?_
  have rC : Row wC p0 30 ((xO a b c).cs (.slice none 0 0)) := rC
  (repeat with_reducible first | refine js ?_ | refine ja ?_ | refine jw KL34 [] TF34 fun _ => ?_)
  refine Run_ret ?_
  simp only [Rets, RetM, resV, fnd, oneOr, ↓reduceIte]
  exact ⟨p0, _, rfl, loadVar_at (by kernel_rfl) (by rw [cells30]; decide) (by rw [cells30]; rfl) rC.at_, rfl, Keep.ext h1.ext kC fun b hb => by omega⟩
theorem xOR (a b c : Int) (w : World) (ha : 0 ≤ a ∧ a ≤ 1000) (hb : 0 ≤ b ∧ b ≤ 1000) (hc : 0 ≤ c ∧ c ≤ 1000) : OrdR w (xO a b c) (.slice none 0 0) :=
  ⟨by simp [xO, I64], by simp [xO, I64], by simp [xO, I64], by simp [xO, I64], by simp [xO, I64]; omega, by simp [xO, I64]; omega, by simp [xO, I64]; omega, by simp [xO, I64], Sl.nil _, by simp [xO, I64]⟩
theorem intLit22 {w : World} {K : Value → World → Prop} (xs : List Int) {parts : Array (Nat × Value)} {n : Nat} (hp : parts.toList = (xs.map fun x => (Value.int .i64 x)).zipIdx.map fun p => (p.2, p.1)) (hn : n = xs.length) (hx : xs.all (fun x => decide (-1000000 ≤ x ∧ x ≤ 1000000)) = true) (hs : n ≤ 1000)
    (hK : ∀ v w', Sl w' v xs → Ext w w' → K v w') : SemW Tryz.prog (Instr.buildSlice 25 n parts) w K :=
  SemW_lit (α := Int) Tryz.underlying25 ti3 rfl (by decide) (xs.map fun x => (Value.int .i64 x)) xs hp (by simpa using hn) (Cs.ints xs fun x h => by
    have := List.all_eq_true.1 hx x h
    simp only [decide_eq_true_eq] at this
    unfold I64; omega) (by show n * 1 ≤ _; omega) hK
theorem runLit22 {w : World} {K : Value → World → Prop} (xs : List RunD) {parts : Array (Nat × Value)} {n : Nat} (hp : parts.toList = (xs.map fun r => (Value.agg r.cs.toArray)).zipIdx.map fun p => (p.2, p.1)) (hn : n = xs.length) (hx : ∀ r ∈ xs, RunI r) (hs : n ≤ 1000)
    (hK : ∀ v w', Sl w' v xs → Ext w w' → K v w') : SemW Tryz.prog (Instr.buildSlice 39 n parts) w K :=
  SemW_lit (α := RunD) Tryz.underlying39 ti32 rfl (by decide) (xs.map fun r => (Value.agg r.cs.toArray)) xs hp (by simpa using hn) ⟨by simp, fun i h1 h2 => by
    simp only [List.getElem_map, Value.cells, List.toList_toArray]
    exact ⟨rfl, hx _ (List.getElem_mem h2)⟩⟩ (by show n * 3 ≤ _; omega) hK
theorem same20W {va vb : Value} {l m : List RunD} {b : Bool} {w : World} {K : Value → World → Prop} (h : decide (l = m) = b) (hx : Sl w va l) (hy : Sl w vb m) (hK : ∀ w', Ext w w' → K (.bool b) w') : CallW Tryz.prog (.func (.func 17) #[] #[]) [va, vb] w K := by
  subst h; exact CallW_pure call17 (rfSame20 va vb l m w hx hy) hK
theorem same22W {p q : PlanD} {v0 v1 v2 u0 u1 u2 : Value} {b : Bool} {w : World} {K : Value → World → Prop} (h : decide (p = q) = b) (hP : PlanR w p v0 v1 v2) (hQ : PlanR w q u0 u1 u2) (hK : ∀ w', Ext w w' → K (.bool b) w') : CallW Tryz.prog (.func (.func 20) #[] #[]) [.agg #[v0, v1, v2], .agg #[u0, u1, u2]] w K := by
  subst h; exact CallW_pure call20 (rfSame22 p q v0 v1 v2 u0 u1 u2 w hP hQ) hK
theorem planBuild {p : PlanD} {v0 v1 v2 : Value} {w : World} (h : PlanR w p v0 v1 v2) (w' : World) : (Instr.build 45 #[(0, v0), (1, v1), (2, v2)]).run Tryz.prog w' = .ok (.agg #[v0, v1, v2]) w' := by
  rcases h.r.s.ex with rfl | ⟨_, _, _, rfl⟩ <;> rcases h.o.s.ex with rfl | ⟨_, _, _, rfl⟩ <;> rcases h.c.s.ex with rfl | ⟨_, _, _, rfl⟩ <;> kernel_rfl
end Go.Proofs.YthengmdnikaooaaGreat
