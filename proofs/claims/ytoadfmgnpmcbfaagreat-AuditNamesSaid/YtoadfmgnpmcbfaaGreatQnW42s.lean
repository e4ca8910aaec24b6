import Derived.Test.YtoadfmgnpmcbfaaGreatQnGk
import Derived.Test.YtoadfmgnpmcbfaaGreatQnGb
import Derived.Test.YtoadfmgnpmcbfaaGreatQnGe
namespace Go.Proofs.YtoadfmgnpmcbfaaGreat
open Go Go.Fk
set_option linter.unusedSimpArgs false
set_option linter.unusedVariables false
set_option maxRecDepth 100000
def tL : LineD := ⟨[0, 1, 2], [3, 4], 1, 5, [⟨10, 11, 1⟩], []⟩
def tT : TimeD := ⟨3, [tL]⟩
def tF : TariffD := ⟨[10], [2], []⟩
def tP : PlanD := ⟨[⟨0, 10, 17⟩], [0], [1]⟩
def tO : OrderD := { From := 0, Person := 0, Dest := 2, Class := 0, After := 0, By := 99, Crowd := 1, Pay := 14, Against := [], Back := false, Else := 0 }
theorem intsSl {w : World} (xs : List Int) (p : Addr) (hx : xs.all (fun x => decide (-1000000 ≤ x ∧ x ≤ 1000000)) = true) (hl : xs.length ≤ 1000) (hr : Row w p 3 (xs.map fun x => .int .i64 x)) : Sl w (.slice (some p) xs.length xs.length) xs := by
  have hc := Cs.ints (w := w) xs fun x h => by
    have := List.all_eq_true.1 hx x h
    simp only [decide_eq_true_eq] at this
    unfold I64; omega
  refine Sl.of_row (e := 3) (css := (xs.map fun x => (Value.int .i64 x)).map fun v => v.cells.toList) ?_ hc rfl (by omega)
  have e : ((xs.map fun x => (Value.int .i64 x)).map fun v => v.cells.toList).flatten = xs.map fun x => .int .i64 x := by
    clear hx hl hr hc
    induction xs with
    | nil => rfl
    | cons x xs ih => simp only [List.map_cons, List.flatten_cons, ih]; rfl
  rw [e]; exact hr
set_option maxHeartbeats 1000000 in
theorem tab42 (w : World) : Calls Tryz.prog 65 #[] w fun e w' => ∃ vl, e = .returned (.agg (tT.cs vl).toArray) ∧ Ext w w' ∧ Sl w' vl tT.Lines := by
  refine Calls_of_Run (args := []) (n := 8) (rs := [.cell 0 24]) Tryz.func65 rfl rfl rfl (by simp) ?_
  (repeat with_reducible first | refine js ?_ | refine ja ?_ | refine jw KL65 [] TF65 fun _ => ?_)
  refine SemW_allocT ti24 fun p0 w1 h1 => ?_
  (repeat with_reducible first | refine js ?_ | refine ja ?_ | refine jw KL65 [] TF65 fun _ => ?_)
  refine SemW_buildSlice (vs := tL.Offices.map fun x => .int .i64 x) Tryz.underlying25 ti3 rfl rfl rfl (by decide) (by decide) fun pa w2 h2 => ?_
  (repeat with_reducible first | refine js ?_ | refine ja ?_ | refine jw KL65 [] TF65 fun _ => ?_)
  refine SemW_buildSlice (vs := tL.Legs.map fun x => .int .i64 x) Tryz.underlying25 ti3 rfl rfl rfl (by decide) (by decide) fun pb w3 h3 => ?_
  (repeat with_reducible first | refine js ?_ | refine ja ?_ | refine jw KL65 [] TF65 fun _ => ?_)
  refine ⟨.agg #[.int .i64 10, .int .i64 11, .int .i64 1], fun _ => by kernel_rfl, ?_⟩
  refine SemW_buildSlice (vs := [.agg #[.int .i64 10, .int .i64 11, .int .i64 1]]) Tryz.underlying49 ti146 rfl rfl rfl (by simp [Value.cells]) (by decide) fun pr w4 h4 => ?_
  refine ⟨.agg (tL.cs (.slice (some pa) 3 3) (.slice (some pb) 2 2) (.slice (some pr) 1 1) (.slice none 0 0)).toArray, fun _ => by kernel_rfl, ?_⟩
  refine SemW_buildSlice (vs := [.agg (tL.cs (.slice (some pa) 3 3) (.slice (some pb) 2 2) (.slice (some pr) 1 1) (.slice none 0 0)).toArray]) Tryz.underlying22 ti52 rfl rfl rfl (by simp [Value.cells, LineD.cs]) (by show 1 * 6 ≤ 16777216; decide) fun pl w5 h5 => ?_
  refine ⟨.agg (tT.cs (.slice (some pl) 1 1)).toArray, fun _ => by kernel_rfl, ?_⟩
  have x5 := h2.ext.trans (h3.ext.trans (h4.ext.trans h5.ext))
  have b1 := h1.blk
  have b2 := h2.blk
  have b3 := h3.blk
  have b4 := h4.blk
  have b5 := h5.blk
  have s1 := h1.size
  have s2 := h2.size
  have s3 := h3.size
  have s4 := h4.size
  refine SemW_setW (by rw [cells24]; decide) (by rw [cells24]; rfl) (h1.row.ext x5) (by rw [cells24]; rfl) rfl fun w6 r6 k6 z6 => ?_
  have r6 : Row w6 p0 24 (tT.cs (.slice (some pl) 1 1)) := r6
  (repeat with_reducible first | refine js ?_ | refine ja ?_ | refine jw KL65 [] TF65 fun _ => ?_)
  refine Run_ret ?_
  have e1 : Sl w6 (.slice (some pa) 3 3) tL.Offices := intsSl tL.Offices pa (by decide) (by decide) ((h2.row.ext (h3.ext.trans (h4.ext.trans h5.ext))).keep k6 (by show pa.block ≠ p0.block; omega))
  have e2 : Sl w6 (.slice (some pb) 2 2) tL.Legs := intsSl tL.Legs pb (by decide) (by decide) ((h3.row.ext (h4.ext.trans h5.ext)).keep k6 (by show pb.block ≠ p0.block; omega))
  have e3 : Sl w6 (.slice (some pr) 1 1) tL.Rules := Sl.of_row (css := [_]) ((h4.row.ext h5.ext).keep k6 (by show pr.block ≠ p0.block; omega)) (Cs.one ⟨rfl, by simp [I64], by simp [I64], by simp [I64]⟩) rfl (by decide)
  have e4 : Sl w6 (.slice (some pl) 1 1) tT.Lines := Sl.of_row (css := [_]) (h5.row.keep k6 (by show pl.block ≠ p0.block; omega)) (Cs.one (LineR.rep ⟨e1, e2, by simp [tL, I64], by simp [tL, I64], e3, Sl.nil _⟩)) rfl (by decide)
  simp only [Rets, RetM, resV, fnd, oneOr, ↓reduceIte]
  exact ⟨p0, _, rfl, loadVar_at (by kernel_rfl) (by rw [cells24]; decide) (by rw [cells24]; rfl) r6.at_, .slice (some pl) 1 1, rfl, Keep.ext (h1.ext.trans x5) k6 fun b hb => by omega, e4⟩
theorem pri42 (w : World) : Calls Tryz.prog 64 #[] w fun e w' => ∃ u0 u1 u2, e = .returned (.agg (tF.cs u0 u1 u2).toArray) ∧ Ext w w' ∧ TarR w' tF u0 u1 u2 := by
  refine Calls_of_Run (args := []) (n := 4) (rs := [.cell 0 28]) Tryz.func64 rfl rfl rfl (by simp) ?_
  (repeat with_reducible first | refine js ?_ | refine ja ?_ | refine jw KL64 [] TF64 fun _ => ?_)
  refine SemW_allocT ti28 fun p0 w1 h1 => ?_
  (repeat with_reducible first | refine js ?_ | refine ja ?_ | refine jw KL64 [] TF64 fun _ => ?_)
  refine SemW_buildSlice (vs := tF.Base.map fun x => .int .i64 x) Tryz.underlying25 ti3 rfl rfl rfl (by decide) (by decide) fun pa w2 h2 => ?_
  (repeat with_reducible first | refine js ?_ | refine ja ?_ | refine jw KL64 [] TF64 fun _ => ?_)
  refine SemW_buildSlice (vs := tF.Leg.map fun x => .int .i64 x) Tryz.underlying25 ti3 rfl rfl rfl (by decide) (by decide) fun pb w3 h3 => ?_
  (repeat with_reducible first | refine js ?_ | refine ja ?_ | refine jw KL64 [] TF64 fun _ => ?_)
  refine ⟨.agg (tF.cs (.slice (some pa) 1 1) (.slice (some pb) 1 1) (.slice none 0 0)).toArray, fun _ => by kernel_rfl, ?_⟩
  have x5 := h2.ext.trans h3.ext
  have b1 := h1.blk
  have b2 := h2.blk
  have b3 := h3.blk
  have s1 := h1.size
  have s2 := h2.size
  refine SemW_setW (by rw [cells28]; decide) (by rw [cells28]; rfl) (h1.row.ext x5) (by rw [cells28]; rfl) rfl fun w6 r6 k6 z6 => ?_
  have r6 : Row w6 p0 28 (tF.cs (.slice (some pa) 1 1) (.slice (some pb) 1 1) (.slice none 0 0)) := r6
  (repeat with_reducible first | refine js ?_ | refine ja ?_ | refine jw KL64 [] TF64 fun _ => ?_)
  refine Run_ret ?_
  have e1 : Sl w6 (.slice (some pa) 1 1) tF.Base := intsSl tF.Base pa (by decide) (by decide) ((h2.row.ext h3.ext).keep k6 (by show pa.block ≠ p0.block; omega))
  have e2 : Sl w6 (.slice (some pb) 1 1) tF.Leg := intsSl tF.Leg pb (by decide) (by decide) (h3.row.keep k6 (by show pb.block ≠ p0.block; omega))
  simp only [Rets, RetM, resV, fnd, oneOr, ↓reduceIte]
  exact ⟨p0, _, rfl, loadVar_at (by kernel_rfl) (by rw [cells28]; decide) (by rw [cells28]; rfl) r6.at_, _, _, _, rfl, Keep.ext (h1.ext.trans x5) k6 fun b hb => by omega, ⟨e1, e2, Sl.nil _⟩⟩
theorem tab42W {w : World} {K : Value → World → Prop} (hK : ∀ vl w', Ext w w' → Sl w' vl tT.Lines → K (.agg #[.int .i64 3, vl]) w') : CallW Tryz.prog (.func (.func 65) #[] #[]) [] w K :=
  CallW_gen call65 (tab42 w) fun e w' ⟨vl, he, x, s⟩ => ⟨_, he, hK vl w' x s⟩
theorem pri42W {w : World} {K : Value → World → Prop} (hK : ∀ u0 u1 u2 w', Ext w w' → TarR w' tF u0 u1 u2 → K (.agg #[u0, u1, u2]) w') : CallW Tryz.prog (.func (.func 64) #[] #[]) [] w K :=
  CallW_gen call64 (pri42 w) fun e w' ⟨u0, u1, u2, he, x, s⟩ => ⟨_, he, hK u0 u1 u2 w' x s⟩
section
variable {vl u0 u1 u2 vo v0 v1 v2 vh vm : Value} {t : TimeD} {f : TariffD} {l : List OrderD} {p : PlanD} {hd : List Int} {m : List MoveD} {ra : Int} {rb : Bool} {rc : Int} {w : World} {K : Value → World → Prop}
theorem auCheckW (h : Au.check t f l p hd m = (ra, rb, rc)) (hl : Sl w vl t.Lines) (hT : TarR w f u0 u1 u2) (ho : Sl w vo l) (hP : PlanR w p v0 v1 v2) (hh : Sl w vh hd) (hm : Sl w vm m) (hR : p.Runs.length ≤ 70) (hK : ∀ w', Ext w w' → K (.tuple #[.int .i64 ra, .bool rb, .int .i64 rc]) w') :
    CallW Tryz.prog (.func (.func 29) #[] #[]) [.agg #[.int .i64 t.Offices, vl], .agg #[u0, u1, u2], vo, .agg #[v0, v1, v2], vh, vm] w K := by
  have := auCheckM vl u0 u1 u2 vo v0 v1 v2 vh vm t f l p hd m w hl hT ho hP hh hm hR
  rw [h] at this
  exact CallW_pure call29 this hK
end
def tM : List MoveD := [⟨0, 51, 2, 14, 1, 0⟩, ⟨1, 2, 3, 2, 2, 0⟩, ⟨2, 2, 4, 2, 2, 0⟩, ⟨3, 2, 1, 10, 3, 0⟩, ⟨4, 1, 3, 2, 5, 0⟩, ⟨5, 1, 4, 2, 5, 0⟩, ⟨6, 1, 51, 6, 6, -1⟩]
def tP0 : PlanD := ⟨[], [], []⟩
def tT0 : TimeD := ⟨0, []⟩
theorem tk1 : Au.check tT0 tF [] tP0 [] [] = (0, true, 0) := by kernel_rfl
theorem tk2 : Au.check tT0 tF [] tP0 [] [⟨0, 0, 0, 0, 0, 0⟩] = (0, false, 0) := by kernel_rfl
theorem tk3 : Au.check tT0 tF [] tP0 [0] [] = (0, false, 1) := by kernel_rfl
theorem tk4 : Au.check tT tF [tO] tP0 [] [] = (0, false, 220) := by kernel_rfl
theorem tk5 : Au.check tT tF [tO] tP [2] tM = (0, true, 0) := by kernel_rfl
theorem tk6 : Au.check tT tF [tO] tP [1] tM = (2, false, 0) := by kernel_rfl
theorem tk7 : Au.check tT tF [tO] tP [2] (tM.take 6) = (6, false, 0) := by kernel_rfl
theorem movesB42 {w : World} {K : Value → World → Prop} (vs : List Value) (xs : List MoveD) {parts : Array (Nat × Value)} {n : Nat} (hp : parts.toList = vs.zipIdx.map fun p => (p.2, p.1)) (hn : n = vs.length) (hv : vs = xs.map fun m => .agg m.cs.toArray) (hI : ∀ m ∈ xs, MoveD.I m) (hs : n ≤ 1000)
    (hK : ∀ v w', Ext w w' → Sl w' v xs → K v w') : SemW Tryz.prog (Instr.buildSlice 35 n parts) w K :=
  SemW_buildF (α := MoveD) (W := w) Tryz.underlying35 ti70 rfl (by decide) (Ext.refl _) vs xs hp hn (by subst hv; exact ⟨by simp, fun i h1 h2 => by simp [Value.cells]; exact ⟨rfl, hI _ (List.getElem_mem h2)⟩⟩) (by show n * 6 ≤ _; omega) fun p w' _ hs hx => hK _ w' hx hs
theorem bldT {K : Value → Prop} (h : K (.agg #[.int .i64 0, .slice none 0 0])) : ∃ v, (∀ w' : World, Sem.run Tryz.prog (Instr.build 24 #[]) w' = Result.ok v w') ∧ K v := ⟨_, fun _ => by kernel_rfl, h⟩
theorem bldP {K : Value → Prop} (h : K (.agg #[.slice none 0 0, .slice none 0 0, .slice none 0 0])) : ∃ v, (∀ w' : World, Sem.run Tryz.prog (Instr.build 32 #[]) w' = Result.ok v w') ∧ K v := ⟨_, fun _ => by kernel_rfl, h⟩
theorem mk1W {w : World} {K : Value → World → Prop} (hK : ∀ v w', Ext w w' → Sl w' v [(⟨0, 0, 0, 0, 0, 0⟩ : MoveD)] → K v w') : SemW Tryz.prog (Instr.makeSlice 35 (.int .i64 1) (.int .i64 1)) w K :=
  SemW_makeC (n := 1) Tryz.underlying35 ti70 (by decide) (by decide) (by decide) fun p w' h => hK _ w' h.ext (Sl.of_row (e := 70) (css := [(⟨0, 0, 0, 0, 0, 0⟩ : MoveD).cs]) (by rw [show [(⟨0, 0, 0, 0, 0, 0⟩ : MoveD).cs].flatten = (madeCells (Value.agg #[.int .i64 0, .int .i64 0, .int .i64 0, .int .i64 0, .int .i64 0, .int .i64 0]).cells (1 * 6)).toList by kernel_rfl]; exact h.row) (Cs.one ⟨rfl, by simp [I64], by simp [I64], by simp [I64], by simp [I64], by simp [I64], by simp [I64]⟩) rfl (by decide))
theorem ordW {w : World} {K : Value → World → Prop} (hK : ∀ v w', Ext w w' → Sl w' v [tO] → K v w') : SemW Tryz.prog (Instr.buildSlice 29 1 #[(0, .agg #[.int .i64 0, .int .i64 0, .int .i64 2, .int .i64 0, .int .i64 0, .int .i64 99, .int .i64 1, .int .i64 14, .slice none 0 0, .bool false, .int .i64 0])]) w K :=
  SemW_lit (α := OrderD) Tryz.underlying29 ti58 rfl (by decide) [_] [tO] rfl rfl (Cs.one (OrdR.rep (x := tO) (v0 := .slice none 0 0) ⟨by simp [tO, I64], by simp [tO, I64], by simp [tO, I64], by simp [tO, I64], by simp [tO, I64], by simp [tO, I64], by simp [tO, I64], by simp [tO, I64], Sl.nil _, by simp [tO, I64]⟩)) (by decide) fun v w' s x => hK v w' x s
theorem intW {w : World} {n : Int} {K : Value → World → Prop} (hn : I64 n) (hK : ∀ v w', Ext w w' → Sl w' v [n] → K v w') : SemW Tryz.prog (Instr.buildSlice 25 1 #[(0, .int .i64 n)]) w K :=
  SemW_lit (α := Int) Tryz.underlying25 ti3 rfl (by decide) [_] [n] rfl rfl (Cs.one ⟨rfl, hn⟩) (by show 1 * 1 ≤ 16777216; decide) fun v w' s x => hK v w' x s
set_option maxHeartbeats 2000000 in
theorem lawSane42 (w : World) : Calls Tryz.prog 27 #[] w fun e w' => e = .returned (.bool true) ∧ Ext w w' := by
  refine Calls_of_Run (args := []) (n := 170) (rs := [.tmp 0]) Tryz.func27 rfl rfl rfl (by simp) ?_
  (repeat with_reducible first | refine js ?_ | refine ja ?_ | refine jw KL27 [] TF27 fun _ => ?_)
  refine ⟨.agg (tO.cs (.slice none 0 0)).toArray, fun _ => by kernel_rfl, ?_⟩
  refine SemW_allocT ti58 fun po w1 h1 => ?_
  have b1 := h1.blk
  refine SemW_setW (by rw [cells58]; decide) (by rw [cells58]; rfl) h1.row (by rw [cells58]; rfl) rfl fun w2 ro k2 z2 => ?_
  have ro : Row w2 po 58 (tO.cs (.slice none 0 0)) := ro
  have x2 : Ext w w2 := Keep.ext h1.ext k2 fun b hb => by omega
  (repeat with_reducible first | refine js ?_ | refine ja ?_ | refine jw KL27 [] TF27 fun _ => ?_)
  refine ⟨.agg #[.int .i64 0, .int .i64 10, .int .i64 17], fun _ => by kernel_rfl, ?_⟩
  refine SemW_buildSlice (vs := [.agg #[.int .i64 0, .int .i64 10, .int .i64 17]]) Tryz.underlying30 ti54 rfl rfl rfl (by simp [Value.cells]) (by decide) fun pr w3 h3 => ?_
  refine SemW_buildSlice (vs := tP.Of.map fun x => .int .i64 x) Tryz.underlying25 ti3 rfl rfl rfl (by decide) (by decide) fun pf w4 h4 => ?_
  refine SemW_buildSlice (vs := tP.Covers.map fun x => .int .i64 x) Tryz.underlying25 ti3 rfl rfl rfl (by decide) (by decide) fun pc w5 h5 => ?_
  refine ⟨.agg (tP.cs (.slice (some pr) 1 1) (.slice (some pf) 1 1) (.slice (some pc) 1 1)).toArray, fun _ => by kernel_rfl, ?_⟩
  refine SemW_allocT ti32 fun pp w6 h6 => ?_
  have b3 := h3.blk
  have b4 := h4.blk
  have b5 := h5.blk
  have b6 := h6.blk
  have s1 := h1.size
  have s3 := h3.size
  have s4 := h4.size
  have s5 := h5.size
  refine SemW_setW (by rw [cells32]; decide) (by rw [cells32]; rfl) h6.row (by rw [cells32]; rfl) rfl fun w7 rp k7 z7 => ?_
  have rp : Row w7 pp 32 (tP.cs (.slice (some pr) 1 1) (.slice (some pf) 1 1) (.slice (some pc) 1 1)) := rp
  have x7 : Ext w2 w7 := Keep.ext (h3.ext.trans (h4.ext.trans (h5.ext.trans h6.ext))) k7 fun b hb => by omega
  have sr : Sl w7 (.slice (some pr) 1 1) tP.Runs := Sl.of_row (css := [_]) ((h3.row.ext (h4.ext.trans (h5.ext.trans h6.ext))).keep k7 (by show pr.block ≠ pp.block; omega)) (Cs.one ⟨rfl, by simp [I64], by simp [I64], by simp [I64]⟩) rfl (by decide)
  have sf : Sl w7 (.slice (some pf) 1 1) tP.Of := intsSl tP.Of pf (by decide) (by decide) ((h4.row.ext (h5.ext.trans h6.ext)).keep k7 (by show pf.block ≠ pp.block; omega))
  have sc : Sl w7 (.slice (some pc) 1 1) tP.Covers := intsSl tP.Covers pc (by decide) (by decide) ((h5.row.ext h6.ext).keep k7 (by show pc.block ≠ pp.block; omega))
  have hP : PlanR w7 tP (.slice (some pr) 1 1) (.slice (some pf) 1 1) (.slice (some pc) 1 1) := ⟨sr, sf, sc⟩
  have ro7 := ro.ext x7
  have y7 := x2.trans x7
  have N : ∀ w', PlanR w' tP0 (.slice none 0 0) (.slice none 0 0) (.slice none 0 0) := fun w' => ⟨Sl.nil _, Sl.nil _, Sl.nil _⟩
  (repeat with_reducible first | refine js ?_ | refine ja ?_ | refine jw KL27 [] TF27 fun _ => ?_)
  refine ⟨.agg #[.int .i64 0, .slice none 0 0], fun _ => by kernel_rfl, ?_⟩
  refine pri42W fun u0 u1 u2 w8 x8 hT8 => ?_
  refine ⟨.agg #[.slice none 0 0, .slice none 0 0, .slice none 0 0], fun _ => by kernel_rfl, ?_⟩
  refine auCheckW (t := tT0) (p := tP0) tk1 (Sl.nil _) hT8 (Sl.nil _) (N _) (Sl.nil _) (Sl.nil _) (by decide) fun w9 x9 => ?_
  (repeat with_reducible first | refine js ?_ | refine ja ?_ | refine jw KL27 [] TF27 fun _ => ?_)
  refine Run_cutV [6, 7, 8] (σ := Unit) (fun _ => [(6, some (.int .i64 0)), (7, some (.bool false)), (8, some (.int .i64 0))]) (fun _ w' => Ext w9 w') ?_ ?_
  · (repeat with_reducible first | refine jq ?_ | refine jk ?_ | refine jc ?_ | refine jl ?_ | refine jb ?_ | refine jo ?_ | refine ji ?_ | refine jx rfl ?_)
    refine Run_ec (id := 4) KL27 (.alt 0 (.alt 1 (.alt 2 (.alt 3 (.alt 4 (.first 5 (.first 6 (.first 7 (.first 8 (.first 9 (.first 10 (.first 11 .done))))))) .stop) .stop) (.alt 3 (.alt 2 (.alt 4 (.first 5 (.first 6 (.first 7 (.first 8 (.first 9 (.first 10 (.first 11 .done))))))) .stop) .stop) .stop)) (.alt 2 (.alt 1 (.alt 3 (.alt 4 (.first 5 (.first 6 (.first 7 (.first 8 (.first 9 (.first 10 (.first 11 .done))))))) .stop) .stop) (.alt 3 (.alt 1 (.alt 4 (.first 5 (.first 6 (.first 7 (.first 8 (.first 9 (.first 10 (.first 11 .done))))))) .stop) .stop) .stop)) (.alt 3 (.alt 1 (.alt 2 (.alt 4 (.first 5 (.first 6 (.first 7 (.first 8 (.first 9 (.first 10 (.first 11 .done))))))) .stop) .stop) (.alt 2 (.alt 1 (.alt 4 (.first 5 (.first 6 (.first 7 (.first 8 (.first 9 (.first 10 (.first 11 .done))))))) .stop) .stop) .stop)) .stop))) (.alt 1 (.alt 0 (.alt 2 (.alt 3 (.alt 4 (.first 5 (.first 6 (.first 7 (.first 8 (.first 9 (.first 10 (.first 11 .done))))))) .stop) .stop) (.alt 3 (.alt 2 (.alt 4 (.first 5 (.first 6 (.first 7 (.first 8 (.first 9 (.first 10 (.first 11 .done))))))) .stop) .stop) .stop)) (.alt 2 (.alt 0 (.alt 3 (.alt 4 (.first 5 (.first 6 (.first 7 (.first 8 (.first 9 (.first 10 (.first 11 .done))))))) .stop) .stop) (.alt 3 (.alt 0 (.alt 4 (.first 5 (.first 6 (.first 7 (.first 8 (.first 9 (.first 10 (.first 11 .done))))))) .stop) .stop) .stop)) (.alt 3 (.alt 0 (.alt 2 (.alt 4 (.first 5 (.first 6 (.first 7 (.first 8 (.first 9 (.first 10 (.first 11 .done))))))) .stop) .stop) (.alt 2 (.alt 0 (.alt 4 (.first 5 (.first 6 (.first 7 (.first 8 (.first 9 (.first 10 (.first 11 .done))))))) .stop) .stop) .stop)) .stop))) (.alt 2 (.alt 0 (.alt 1 (.alt 3 (.alt 4 (.first 5 (.first 6 (.first 7 (.first 8 (.first 9 (.first 10 (.first 11 .done))))))) .stop) .stop) (.alt 3 (.alt 1 (.alt 4 (.first 5 (.first 6 (.first 7 (.first 8 (.first 9 (.first 10 (.first 11 .done))))))) .stop) .stop) .stop)) (.alt 1 (.alt 0 (.alt 3 (.alt 4 (.first 5 (.first 6 (.first 7 (.first 8 (.first 9 (.first 10 (.first 11 .done))))))) .stop) .stop) (.alt 3 (.alt 0 (.alt 4 (.first 5 (.first 6 (.first 7 (.first 8 (.first 9 (.first 10 (.first 11 .done))))))) .stop) .stop) .stop)) (.alt 3 (.alt 0 (.alt 1 (.alt 4 (.first 5 (.first 6 (.first 7 (.first 8 (.first 9 (.first 10 (.first 11 .done))))))) .stop) .stop) (.alt 1 (.alt 0 (.alt 4 (.first 5 (.first 6 (.first 7 (.first 8 (.first 9 (.first 10 (.first 11 .done))))))) .stop) .stop) .stop)) .stop))) (.alt 3 (.alt 0 (.alt 1 (.alt 2 (.alt 4 (.first 5 (.first 6 (.first 7 (.first 8 (.first 9 (.first 10 (.first 11 .done))))))) .stop) .stop) (.alt 2 (.alt 1 (.alt 4 (.first 5 (.first 6 (.first 7 (.first 8 (.first 9 (.first 10 (.first 11 .done))))))) .stop) .stop) .stop)) (.alt 1 (.alt 0 (.alt 2 (.alt 4 (.first 5 (.first 6 (.first 7 (.first 8 (.first 9 (.first 10 (.first 11 .done))))))) .stop) .stop) (.alt 2 (.alt 0 (.alt 4 (.first 5 (.first 6 (.first 7 (.first 8 (.first 9 (.first 10 (.first 11 .done))))))) .stop) .stop) .stop)) (.alt 2 (.alt 0 (.alt 1 (.alt 4 (.first 5 (.first 6 (.first 7 (.first 8 (.first 9 (.first 10 (.first 11 .done))))))) .stop) .stop) (.alt 1 (.alt 0 (.alt 4 (.first 5 (.first 6 (.first 7 (.first 8 (.first 9 (.first 10 (.first 11 .done))))))) .stop) .stop) .stop)) .stop))) .stop)))) mixed (by kernel_rfl) (by kernel_rfl) fun w10 x10 _ => ?_
    (try simp (maxSteps := 5000000) only [KS, Nat.reduceAdd, Nat.reduceMul, Nat.reduceEqDiff, ↓reduceIte, forall_const, Int.cast_ofNat_Int, Int.reduceToNat, List.take_succ_cons, List.take_zero, List.drop_succ_cons, List.drop_zero, TF27, KL27, ec]); (try simp (disch := omega) only [wrapI, tmodI, tdivI])
    (try simp (maxSteps := 5000000) only [KS, Nat.reduceAdd, Nat.reduceMul, Nat.reduceEqDiff, ↓reduceIte, forall_const, Int.cast_ofNat_Int, Int.reduceToNat, List.take_succ_cons, List.take_zero, List.drop_succ_cons, List.drop_zero, TF27, KL27, ec]); (try simp (disch := omega) only [wrapI, tmodI, tdivI])
    have i0 : I64 0 := by simp [I64]
    repeat' (first
      | with_reducible refine And.intro ?_ ?_
      | with_reducible exact Ext.refl _
      | (with_reducible refine Ext.trans ?_ (by with_reducible assumption))
      | with_reducible refine bldT ?_
      | with_reducible refine bldP ?_
      | (with_reducible refine pri42W fun u0 u1 u2 w11 x11 hT => ?_)
      | (with_reducible refine mk1W fun vm w11 x11 sm => ?_))
    all_goals
      refine auCheckW (t := tT0) (p := tP0) tk2 (Sl.nil _) (by repeat (first | with_reducible assumption | with_reducible refine TarR.ext ?_ (by with_reducible assumption))) (Sl.nil _) (N _) (Sl.nil _) (by repeat (first | with_reducible exact Sl.nil _ | with_reducible assumption | with_reducible refine Sl.ext ?_ (by with_reducible assumption))) (by decide) fun w13 x13 => ?_
      have xx := show Ext w10 w13 from (by repeat (first | with_reducible exact Ext.refl _ | with_reducible assumption | with_reducible refine Ext.trans ?_ (by with_reducible assumption)))
      (repeat with_reducible first | refine js ?_ | refine ja ?_ | refine jw KL27 [] TF27 fun _ => ?_)
      exact Run_lp ⟨(), by simp [SubB, fnd, strike, has], x10.trans xx⟩
  rintro _ w14 x14
  (repeat with_reducible first | refine js ?_ | refine ja ?_ | refine jw KL27 [] TF27 fun _ => ?_)
  refine bldT ?_
  refine pri42W fun u0 u1 u2 w15 x15 hT15 => ?_
  refine bldP ?_
  refine intW (by simp [I64]) fun vh w16 x16 sh16 => ?_
  refine auCheckW (t := tT0) (p := tP0) tk3 (Sl.nil _) (hT15.ext x16) (Sl.nil _) (N _) sh16 (Sl.nil _) (by decide) fun w17 x17 => ?_
  (repeat with_reducible first | refine js ?_ | refine ja ?_ | refine jw KL27 [] TF27 fun _ => ?_)
  refine Run_cutV [14] (σ := Unit) (fun _ => [(14, some (.int .i64 220))]) (fun _ w' => Ext w17 w') ?_ ?_
  · (repeat with_reducible first | refine jq ?_ | refine jk ?_ | refine jc ?_ | refine jl ?_ | refine jb ?_ | refine jo ?_ | refine ji ?_ | refine jx rfl ?_)
    refine Run_ec (id := 6) KL27 (.first 2 (.alt 0 (.alt 1 (.alt 3 (.alt 4 (.alt 5 (.first 6 (.first 7 (.first 8 (.first 9 (.first 10 (.first 11 (.first 12 .done))))))) .stop) .stop) (.alt 4 (.alt 3 (.alt 5 (.first 6 (.first 7 (.first 8 (.first 9 (.first 10 (.first 11 (.first 12 .done))))))) .stop) .stop) .stop)) (.alt 3 (.alt 1 (.alt 4 (.alt 5 (.first 6 (.first 7 (.first 8 (.first 9 (.first 10 (.first 11 (.first 12 .done))))))) .stop) .stop) (.alt 4 (.alt 1 (.alt 5 (.first 6 (.first 7 (.first 8 (.first 9 (.first 10 (.first 11 (.first 12 .done))))))) .stop) .stop) .stop)) (.alt 4 (.alt 1 (.alt 3 (.alt 5 (.first 6 (.first 7 (.first 8 (.first 9 (.first 10 (.first 11 (.first 12 .done))))))) .stop) .stop) (.alt 3 (.alt 1 (.alt 5 (.first 6 (.first 7 (.first 8 (.first 9 (.first 10 (.first 11 (.first 12 .done))))))) .stop) .stop) .stop)) .stop))) (.alt 3 (.alt 0 (.alt 1 (.alt 4 (.alt 5 (.first 6 (.first 7 (.first 8 (.first 9 (.first 10 (.first 11 (.first 12 .done))))))) .stop) .stop) (.alt 4 (.alt 1 (.alt 5 (.first 6 (.first 7 (.first 8 (.first 9 (.first 10 (.first 11 (.first 12 .done))))))) .stop) .stop) .stop)) (.alt 4 (.alt 0 (.alt 1 (.alt 5 (.first 6 (.first 7 (.first 8 (.first 9 (.first 10 (.first 11 (.first 12 .done))))))) .stop) .stop) .stop) .stop)) (.alt 4 (.alt 0 (.alt 1 (.alt 3 (.alt 5 (.first 6 (.first 7 (.first 8 (.first 9 (.first 10 (.first 11 (.first 12 .done))))))) .stop) .stop) (.alt 3 (.alt 1 (.alt 5 (.first 6 (.first 7 (.first 8 (.first 9 (.first 10 (.first 11 (.first 12 .done))))))) .stop) .stop) .stop)) (.alt 3 (.alt 0 (.alt 1 (.alt 5 (.first 6 (.first 7 (.first 8 (.first 9 (.first 10 (.first 11 (.first 12 .done))))))) .stop) .stop) .stop) .stop)) .stop)))) mixed (by kernel_rfl) (by kernel_rfl) fun w10 x10 _ => ?_
    have go := (ro7.ext (show Ext w7 w10 from (by repeat (first | with_reducible exact Ext.refl _ | with_reducible assumption | with_reducible refine Ext.trans ?_ (by with_reducible assumption))))).n
    have gp := (rp.ext (show Ext w7 w10 from (by repeat (first | with_reducible exact Ext.refl _ | with_reducible assumption | with_reducible refine Ext.trans ?_ (by with_reducible assumption))))).n
    simp only [OrderD.cs, PlanD.cs, tO, tP, AtN, KS, Nat.reduceAdd, Nat.reduceMul, Nat.reduceEqDiff, ↓reduceIte, UT] at go gp
    (try simp (maxSteps := 5000000) only [KS, Nat.reduceAdd, Nat.reduceMul, Nat.reduceEqDiff, ↓reduceIte, forall_const, Int.cast_ofNat_Int, Int.reduceToNat, List.take_succ_cons, List.take_zero, List.drop_succ_cons, List.drop_zero, TF27, KL27, ec, go, gp]); (try simp (disch := omega) only [wrapI, tmodI, tdivI])
    (try simp (maxSteps := 5000000) only [KS, Nat.reduceAdd, Nat.reduceMul, Nat.reduceEqDiff, ↓reduceIte, forall_const, Int.cast_ofNat_Int, Int.reduceToNat, List.take_succ_cons, List.take_zero, List.drop_succ_cons, List.drop_zero, TF27, KL27, ec, go, gp]); (try simp (disch := omega) only [wrapI, tmodI, tdivI])
    repeat' (first
      | with_reducible refine And.intro ?_ ?_
      | with_reducible exact Ext.refl _
      | (with_reducible refine Ext.trans ?_ (by with_reducible assumption))
      | with_reducible refine bldP ?_
      | (with_reducible refine tab42W fun vl w11 x11 sl => ?_)
      | (with_reducible refine pri42W fun u0 u1 u2 w11 x11 hT => ?_)
      | (with_reducible refine ordW fun vo w11 x11 so => ?_)
      | (with_reducible refine intW (by simp [I64]) fun vh w11 x11 sh => ?_))
    all_goals
      refine auCheckW (t := tT) (p := tP0) tk4 (by repeat (first | with_reducible exact Sl.nil _ | with_reducible assumption | with_reducible refine Sl.ext ?_ (by with_reducible assumption))) (by repeat (first | with_reducible assumption | with_reducible refine TarR.ext ?_ (by with_reducible assumption))) (by repeat (first | with_reducible exact Sl.nil _ | with_reducible assumption | with_reducible refine Sl.ext ?_ (by with_reducible assumption))) (N _) (by repeat (first | with_reducible exact Sl.nil _ | with_reducible assumption | with_reducible refine Sl.ext ?_ (by with_reducible assumption))) (by repeat (first | with_reducible exact Sl.nil _ | with_reducible assumption | with_reducible refine Sl.ext ?_ (by with_reducible assumption))) (by decide) fun w13 x13 => ?_
      have xx := show Ext w10 w13 from (by repeat (first | with_reducible exact Ext.refl _ | with_reducible assumption | with_reducible refine Ext.trans ?_ (by with_reducible assumption)))
      (repeat with_reducible first | refine js ?_ | refine ja ?_ | refine jw KL27 [] TF27 fun _ => ?_)
      exact Run_lp ⟨(), by simp [SubB, fnd, strike, has], x10.trans xx⟩
  rintro _ w18 xw18
  (repeat with_reducible first | refine js ?_ | refine ja ?_ | refine jw KL27 [] TF27 fun _ => ?_)
  refine ⟨.agg (tM.getD 0 default).cs.toArray, fun _ => by kernel_rfl, ?_⟩
  refine ⟨.agg (tM.getD 1 default).cs.toArray, fun _ => by kernel_rfl, ?_⟩
  refine ⟨.agg (tM.getD 2 default).cs.toArray, fun _ => by kernel_rfl, ?_⟩
  refine ⟨.agg (tM.getD 3 default).cs.toArray, fun _ => by kernel_rfl, ?_⟩
  refine ⟨.agg (tM.getD 4 default).cs.toArray, fun _ => by kernel_rfl, ?_⟩
  refine ⟨.agg (tM.getD 5 default).cs.toArray, fun _ => by kernel_rfl, ?_⟩
  refine ⟨.agg (tM.getD 6 default).cs.toArray, fun _ => by kernel_rfl, ?_⟩
  refine movesB42 (tM.map fun m => .agg m.cs.toArray) tM rfl rfl rfl (by simp [tM, MoveD.I, I64]) (by decide) fun vm w19 xw19 sm => ?_
  have sms := sm.s
  have sml := sm.len
  have smc := sm.cap
  have h7 : slLen vm = 7 := sml
  have sm6 : Sl w19 (slSub 6 vm 0 6 (slCap vm)) (tM.take 6) := sm.sub (l := 0) (r := 6) (m := slCap vm) (by omega) (by decide) (by omega) (Nat.le_refl _)
  (repeat with_reducible first | refine js ?_ | refine ja ?_ | refine jw KL27 [] TF27 fun _ => ?_)
  refine Run_cutV [17, 18] (σ := Unit) (fun _ => [(17, some (.bool true)), (18, some (.int .i64 0))]) (fun _ w' => Ext w19 w') ?_ ?_
  · (repeat with_reducible first | refine jq ?_ | refine jk ?_ | refine jc ?_ | refine jl ?_ | refine jb ?_ | refine jo ?_ | refine ji ?_ | refine jx rfl ?_)
    refine Run_ec (id := 8) KL27 (.first 2 (.first 4 (.first 6 (.alt 0 (.alt 1 (.alt 3 (.alt 5 (.alt 7 (.first 8 (.first 9 (.first 10 (.first 11 (.first 12 (.first 13 (.first 14 .done))))))) .stop) .stop) (.alt 5 (.alt 3 (.alt 7 (.first 8 (.first 9 (.first 10 (.first 11 (.first 12 (.first 13 (.first 14 .done))))))) .stop) .stop) .stop)) (.alt 3 (.alt 1 (.alt 5 (.alt 7 (.first 8 (.first 9 (.first 10 (.first 11 (.first 12 (.first 13 (.first 14 .done))))))) .stop) .stop) (.alt 5 (.alt 1 (.alt 7 (.first 8 (.first 9 (.first 10 (.first 11 (.first 12 (.first 13 (.first 14 .done))))))) .stop) .stop) .stop)) (.alt 5 (.alt 1 (.alt 3 (.alt 7 (.first 8 (.first 9 (.first 10 (.first 11 (.first 12 (.first 13 (.first 14 .done))))))) .stop) .stop) (.alt 3 (.alt 1 (.alt 7 (.first 8 (.first 9 (.first 10 (.first 11 (.first 12 (.first 13 (.first 14 .done))))))) .stop) .stop) .stop)) .stop))) (.alt 3 (.alt 0 (.alt 1 (.alt 5 (.alt 7 (.first 8 (.first 9 (.first 10 (.first 11 (.first 12 (.first 13 (.first 14 .done))))))) .stop) .stop) (.alt 5 (.alt 1 (.alt 7 (.first 8 (.first 9 (.first 10 (.first 11 (.first 12 (.first 13 (.first 14 .done))))))) .stop) .stop) .stop)) (.alt 5 (.alt 0 (.alt 1 (.alt 7 (.first 8 (.first 9 (.first 10 (.first 11 (.first 12 (.first 13 (.first 14 .done))))))) .stop) .stop) .stop) .stop)) (.alt 5 (.alt 0 (.alt 1 (.alt 3 (.alt 7 (.first 8 (.first 9 (.first 10 (.first 11 (.first 12 (.first 13 (.first 14 .done))))))) .stop) .stop) (.alt 3 (.alt 1 (.alt 7 (.first 8 (.first 9 (.first 10 (.first 11 (.first 12 (.first 13 (.first 14 .done))))))) .stop) .stop) .stop)) (.alt 3 (.alt 0 (.alt 1 (.alt 7 (.first 8 (.first 9 (.first 10 (.first 11 (.first 12 (.first 13 (.first 14 .done))))))) .stop) .stop) .stop) .stop)) .stop)))))) mixed (by kernel_rfl) (by kernel_rfl) fun w10 x10 _ => ?_
    have go := (ro7.ext (show Ext w7 w10 from (by repeat (first | with_reducible exact Ext.refl _ | with_reducible assumption | with_reducible refine Ext.trans ?_ (by with_reducible assumption))))).n
    have gp := (rp.ext (show Ext w7 w10 from (by repeat (first | with_reducible exact Ext.refl _ | with_reducible assumption | with_reducible refine Ext.trans ?_ (by with_reducible assumption))))).n
    simp only [OrderD.cs, PlanD.cs, tO, tP, AtN, KS, Nat.reduceAdd, Nat.reduceMul, Nat.reduceEqDiff, ↓reduceIte, UT] at go gp
    (try simp (maxSteps := 5000000) only [KS, Nat.reduceAdd, Nat.reduceMul, Nat.reduceEqDiff, ↓reduceIte, forall_const, Int.cast_ofNat_Int, Int.reduceToNat, List.take_succ_cons, List.take_zero, List.drop_succ_cons, List.drop_zero, TF27, KL27, ec, go, gp]); (try simp (disch := omega) only [wrapI, tmodI, tdivI])
    (try simp (maxSteps := 5000000) only [KS, Nat.reduceAdd, Nat.reduceMul, Nat.reduceEqDiff, ↓reduceIte, forall_const, Int.cast_ofNat_Int, Int.reduceToNat, List.take_succ_cons, List.take_zero, List.drop_succ_cons, List.drop_zero, TF27, KL27, ec, go, gp]); (try simp (disch := omega) only [wrapI, tmodI, tdivI])
    repeat' (first
      | with_reducible refine And.intro ?_ ?_
      | with_reducible exact Ext.refl _
      | (with_reducible refine Ext.trans ?_ (by with_reducible assumption))
      | with_reducible refine bldP ?_
      | (with_reducible refine tab42W fun vl w11 x11 sl => ?_)
      | (with_reducible refine pri42W fun u0 u1 u2 w11 x11 hT => ?_)
      | (with_reducible refine ordW fun vo w11 x11 so => ?_)
      | (with_reducible refine intW (by simp [I64]) fun vh w11 x11 sh => ?_)
      | omega)
    all_goals
      refine auCheckW (t := tT) (p := tP) tk5 (by repeat (first | with_reducible exact Sl.nil _ | with_reducible assumption | with_reducible refine Sl.ext ?_ (by with_reducible assumption))) (by repeat (first | with_reducible assumption | with_reducible refine TarR.ext ?_ (by with_reducible assumption))) (by repeat (first | with_reducible exact Sl.nil _ | with_reducible assumption | with_reducible refine Sl.ext ?_ (by with_reducible assumption))) (hP.ext (by repeat (first | with_reducible exact Ext.refl _ | with_reducible assumption | with_reducible refine Ext.trans ?_ (by with_reducible assumption)))) (by repeat (first | with_reducible exact Sl.nil _ | with_reducible assumption | with_reducible refine Sl.ext ?_ (by with_reducible assumption))) (by repeat (first | with_reducible exact Sl.nil _ | with_reducible assumption | with_reducible refine Sl.ext ?_ (by with_reducible assumption))) (by decide) fun w13 x13 => ?_
      have xx := show Ext w10 w13 from (by repeat (first | with_reducible exact Ext.refl _ | with_reducible assumption | with_reducible refine Ext.trans ?_ (by with_reducible assumption)))
      (repeat with_reducible first | refine js ?_ | refine ja ?_ | refine jw KL27 [] TF27 fun _ => ?_)
      exact Run_lp ⟨(), by simp [SubB, fnd, strike, has], x10.trans xx⟩
  rintro _ w20 xw20
  (repeat with_reducible first | refine jq ?_ | refine jk ?_ | refine jc ?_ | refine jl ?_ | refine jb ?_ | refine jo ?_ | refine ji ?_ | refine jx rfl ?_)
  refine Run_cutV [19, 20, 21] (σ := Unit) (fun _ => [(19, some (.int .i64 2)), (20, some (.bool false)), (21, some (.int .i64 0))]) (fun _ w' => Ext w20 w') ?_ ?_
  · (repeat with_reducible first | refine jq ?_ | refine jk ?_ | refine jc ?_ | refine jl ?_ | refine jb ?_ | refine jo ?_ | refine ji ?_ | refine jx rfl ?_)
    refine Run_ec (id := 9) KL27 (.first 2 (.first 4 (.first 6 (.alt 0 (.alt 1 (.alt 3 (.alt 5 (.alt 7 (.first 8 (.first 9 (.first 10 (.first 11 (.first 12 (.first 13 (.first 14 .done))))))) .stop) .stop) (.alt 5 (.alt 3 (.alt 7 (.first 8 (.first 9 (.first 10 (.first 11 (.first 12 (.first 13 (.first 14 .done))))))) .stop) .stop) .stop)) (.alt 3 (.alt 1 (.alt 5 (.alt 7 (.first 8 (.first 9 (.first 10 (.first 11 (.first 12 (.first 13 (.first 14 .done))))))) .stop) .stop) (.alt 5 (.alt 1 (.alt 7 (.first 8 (.first 9 (.first 10 (.first 11 (.first 12 (.first 13 (.first 14 .done))))))) .stop) .stop) .stop)) (.alt 5 (.alt 1 (.alt 3 (.alt 7 (.first 8 (.first 9 (.first 10 (.first 11 (.first 12 (.first 13 (.first 14 .done))))))) .stop) .stop) (.alt 3 (.alt 1 (.alt 7 (.first 8 (.first 9 (.first 10 (.first 11 (.first 12 (.first 13 (.first 14 .done))))))) .stop) .stop) .stop)) .stop))) (.alt 3 (.alt 0 (.alt 1 (.alt 5 (.alt 7 (.first 8 (.first 9 (.first 10 (.first 11 (.first 12 (.first 13 (.first 14 .done))))))) .stop) .stop) (.alt 5 (.alt 1 (.alt 7 (.first 8 (.first 9 (.first 10 (.first 11 (.first 12 (.first 13 (.first 14 .done))))))) .stop) .stop) .stop)) (.alt 5 (.alt 0 (.alt 1 (.alt 7 (.first 8 (.first 9 (.first 10 (.first 11 (.first 12 (.first 13 (.first 14 .done))))))) .stop) .stop) .stop) .stop)) (.alt 5 (.alt 0 (.alt 1 (.alt 3 (.alt 7 (.first 8 (.first 9 (.first 10 (.first 11 (.first 12 (.first 13 (.first 14 .done))))))) .stop) .stop) (.alt 3 (.alt 1 (.alt 7 (.first 8 (.first 9 (.first 10 (.first 11 (.first 12 (.first 13 (.first 14 .done))))))) .stop) .stop) .stop)) (.alt 3 (.alt 0 (.alt 1 (.alt 7 (.first 8 (.first 9 (.first 10 (.first 11 (.first 12 (.first 13 (.first 14 .done))))))) .stop) .stop) .stop) .stop)) .stop)))))) mixed (by kernel_rfl) (by kernel_rfl) fun w10 x10 _ => ?_
    have go := (ro7.ext (show Ext w7 w10 from (by repeat (first | with_reducible exact Ext.refl _ | with_reducible assumption | with_reducible refine Ext.trans ?_ (by with_reducible assumption))))).n
    have gp := (rp.ext (show Ext w7 w10 from (by repeat (first | with_reducible exact Ext.refl _ | with_reducible assumption | with_reducible refine Ext.trans ?_ (by with_reducible assumption))))).n
    simp only [OrderD.cs, PlanD.cs, tO, tP, AtN, KS, Nat.reduceAdd, Nat.reduceMul, Nat.reduceEqDiff, ↓reduceIte, UT] at go gp
    (try simp (maxSteps := 5000000) only [KS, Nat.reduceAdd, Nat.reduceMul, Nat.reduceEqDiff, ↓reduceIte, forall_const, Int.cast_ofNat_Int, Int.reduceToNat, List.take_succ_cons, List.take_zero, List.drop_succ_cons, List.drop_zero, TF27, KL27, ec, go, gp]); (try simp (disch := omega) only [wrapI, tmodI, tdivI])
    (try simp (maxSteps := 5000000) only [KS, Nat.reduceAdd, Nat.reduceMul, Nat.reduceEqDiff, ↓reduceIte, forall_const, Int.cast_ofNat_Int, Int.reduceToNat, List.take_succ_cons, List.take_zero, List.drop_succ_cons, List.drop_zero, TF27, KL27, ec, go, gp]); (try simp (disch := omega) only [wrapI, tmodI, tdivI])
    repeat' (first
      | with_reducible refine And.intro ?_ ?_
      | with_reducible exact Ext.refl _
      | (with_reducible refine Ext.trans ?_ (by with_reducible assumption))
      | with_reducible refine bldP ?_
      | (with_reducible refine tab42W fun vl w11 x11 sl => ?_)
      | (with_reducible refine pri42W fun u0 u1 u2 w11 x11 hT => ?_)
      | (with_reducible refine ordW fun vo w11 x11 so => ?_)
      | (with_reducible refine intW (by simp [I64]) fun vh w11 x11 sh => ?_)
      | omega)
    all_goals
      refine auCheckW (t := tT) (p := tP) tk6 (by repeat (first | with_reducible exact Sl.nil _ | with_reducible assumption | with_reducible refine Sl.ext ?_ (by with_reducible assumption))) (by repeat (first | with_reducible assumption | with_reducible refine TarR.ext ?_ (by with_reducible assumption))) (by repeat (first | with_reducible exact Sl.nil _ | with_reducible assumption | with_reducible refine Sl.ext ?_ (by with_reducible assumption))) (hP.ext (by repeat (first | with_reducible exact Ext.refl _ | with_reducible assumption | with_reducible refine Ext.trans ?_ (by with_reducible assumption)))) (by repeat (first | with_reducible exact Sl.nil _ | with_reducible assumption | with_reducible refine Sl.ext ?_ (by with_reducible assumption))) (by repeat (first | with_reducible exact Sl.nil _ | with_reducible assumption | with_reducible refine Sl.ext ?_ (by with_reducible assumption))) (by decide) fun w13 x13 => ?_
      have xx := show Ext w10 w13 from (by repeat (first | with_reducible exact Ext.refl _ | with_reducible assumption | with_reducible refine Ext.trans ?_ (by with_reducible assumption)))
      (repeat with_reducible first | refine js ?_ | refine ja ?_ | refine jw KL27 [] TF27 fun _ => ?_)
      exact Run_lp ⟨(), by simp [SubB, fnd, strike, has], x10.trans xx⟩
  rintro _ w21 xw21
  (repeat with_reducible first | refine jq ?_ | refine jk ?_ | refine jc ?_ | refine jl ?_ | refine jb ?_ | refine jo ?_ | refine ji ?_ | refine jx rfl ?_)
  refine Run_cutV [22, 23, 24] (σ := Unit) (fun _ => [(22, some (.int .i64 6)), (23, some (.bool false)), (24, some (.int .i64 0))]) (fun _ w' => Ext w21 w') ?_ ?_
  · (repeat with_reducible first | refine jq ?_ | refine jk ?_ | refine jc ?_ | refine jl ?_ | refine jb ?_ | refine jo ?_ | refine ji ?_ | refine jx rfl ?_)
    refine Run_ec (id := 10) KL27 (.first 2 (.first 4 (.first 6 (.first 7 (.alt 0 (.alt 1 (.alt 3 (.alt 5 (.alt 8 (.first 9 (.first 10 (.first 11 (.first 12 (.first 13 (.first 14 (.first 15 .done))))))) .stop) .stop) (.alt 5 (.alt 3 (.alt 8 (.first 9 (.first 10 (.first 11 (.first 12 (.first 13 (.first 14 (.first 15 .done))))))) .stop) .stop) .stop)) (.alt 3 (.alt 1 (.alt 5 (.alt 8 (.first 9 (.first 10 (.first 11 (.first 12 (.first 13 (.first 14 (.first 15 .done))))))) .stop) .stop) (.alt 5 (.alt 1 (.alt 8 (.first 9 (.first 10 (.first 11 (.first 12 (.first 13 (.first 14 (.first 15 .done))))))) .stop) .stop) .stop)) (.alt 5 (.alt 1 (.alt 3 (.alt 8 (.first 9 (.first 10 (.first 11 (.first 12 (.first 13 (.first 14 (.first 15 .done))))))) .stop) .stop) (.alt 3 (.alt 1 (.alt 8 (.first 9 (.first 10 (.first 11 (.first 12 (.first 13 (.first 14 (.first 15 .done))))))) .stop) .stop) .stop)) .stop))) (.alt 3 (.alt 0 (.alt 1 (.alt 5 (.alt 8 (.first 9 (.first 10 (.first 11 (.first 12 (.first 13 (.first 14 (.first 15 .done))))))) .stop) .stop) (.alt 5 (.alt 1 (.alt 8 (.first 9 (.first 10 (.first 11 (.first 12 (.first 13 (.first 14 (.first 15 .done))))))) .stop) .stop) .stop)) (.alt 5 (.alt 0 (.alt 1 (.alt 8 (.first 9 (.first 10 (.first 11 (.first 12 (.first 13 (.first 14 (.first 15 .done))))))) .stop) .stop) .stop) .stop)) (.alt 5 (.alt 0 (.alt 1 (.alt 3 (.alt 8 (.first 9 (.first 10 (.first 11 (.first 12 (.first 13 (.first 14 (.first 15 .done))))))) .stop) .stop) (.alt 3 (.alt 1 (.alt 8 (.first 9 (.first 10 (.first 11 (.first 12 (.first 13 (.first 14 (.first 15 .done))))))) .stop) .stop) .stop)) (.alt 3 (.alt 0 (.alt 1 (.alt 8 (.first 9 (.first 10 (.first 11 (.first 12 (.first 13 (.first 14 (.first 15 .done))))))) .stop) .stop) .stop) .stop)) .stop))))))) mixed (by kernel_rfl) (by kernel_rfl) fun w10 x10 _ => ?_
    have go := (ro7.ext (show Ext w7 w10 from (by repeat (first | with_reducible exact Ext.refl _ | with_reducible assumption | with_reducible refine Ext.trans ?_ (by with_reducible assumption))))).n
    have gp := (rp.ext (show Ext w7 w10 from (by repeat (first | with_reducible exact Ext.refl _ | with_reducible assumption | with_reducible refine Ext.trans ?_ (by with_reducible assumption))))).n
    simp only [OrderD.cs, PlanD.cs, tO, tP, AtN, KS, Nat.reduceAdd, Nat.reduceMul, Nat.reduceEqDiff, ↓reduceIte, UT] at go gp
    (try simp (maxSteps := 5000000) only [KS, Nat.reduceAdd, Nat.reduceMul, Nat.reduceEqDiff, ↓reduceIte, forall_const, Int.cast_ofNat_Int, Int.reduceToNat, List.take_succ_cons, List.take_zero, List.drop_succ_cons, List.drop_zero, TF27, KL27, ec, go, gp, sms, h7]); (try simp (disch := omega) only [wrapI, tmodI, tdivI])
    (try simp (maxSteps := 5000000) only [KS, Nat.reduceAdd, Nat.reduceMul, Nat.reduceEqDiff, ↓reduceIte, forall_const, Int.cast_ofNat_Int, Int.reduceToNat, List.take_succ_cons, List.take_zero, List.drop_succ_cons, List.drop_zero, TF27, KL27, ec, go, gp, sms, h7]); (try simp (disch := omega) only [wrapI, tmodI, tdivI])
    repeat' (first
      | with_reducible refine And.intro ?_ ?_
      | with_reducible exact Ext.refl _
      | (with_reducible refine Ext.trans ?_ (by with_reducible assumption))
      | with_reducible refine bldP ?_
      | (with_reducible refine tab42W fun vl w11 x11 sl => ?_)
      | (with_reducible refine pri42W fun u0 u1 u2 w11 x11 hT => ?_)
      | (with_reducible refine ordW fun vo w11 x11 so => ?_)
      | (with_reducible refine intW (by simp [I64]) fun vh w11 x11 sh => ?_)
      | omega)
    all_goals
      refine auCheckW (t := tT) (p := tP) tk7 (by repeat (first | with_reducible exact Sl.nil _ | with_reducible assumption | with_reducible refine Sl.ext ?_ (by with_reducible assumption))) (by repeat (first | with_reducible assumption | with_reducible refine TarR.ext ?_ (by with_reducible assumption))) (by repeat (first | with_reducible exact Sl.nil _ | with_reducible assumption | with_reducible refine Sl.ext ?_ (by with_reducible assumption))) (hP.ext (by repeat (first | with_reducible exact Ext.refl _ | with_reducible assumption | with_reducible refine Ext.trans ?_ (by with_reducible assumption)))) (by repeat (first | with_reducible exact Sl.nil _ | with_reducible assumption | with_reducible refine Sl.ext ?_ (by with_reducible assumption))) (by repeat (first | with_reducible exact Sl.nil _ | with_reducible assumption | with_reducible refine Sl.ext ?_ (by with_reducible assumption))) (by decide) fun w13 x13 => ?_
      have xx := show Ext w10 w13 from (by repeat (first | with_reducible exact Ext.refl _ | with_reducible assumption | with_reducible refine Ext.trans ?_ (by with_reducible assumption)))
      (repeat with_reducible first | refine js ?_ | refine ja ?_ | refine jw KL27 [] TF27 fun _ => ?_)
      exact Run_lp ⟨(), by simp [SubB, fnd, strike, has], x10.trans xx⟩
  rintro _ w22 xw22
  (repeat with_reducible first | refine js ?_ | refine ja ?_ | refine jw KL27 [] (aa TF27 (aa @beq_self_eq_true.{0} KX)) fun _ => ?_)
  refine Run_ret ?_
  simp only [Rets, RetM, resV, fnd, oneOr, ↓reduceIte]
  exact ⟨_, rfl, rfl, y7.trans (by repeat (first | with_reducible exact Ext.refl _ | with_reducible assumption | with_reducible refine Ext.trans ?_ (by with_reducible assumption)))⟩
theorem sane42W {w : World} {K : Value → World → Prop} (hK : ∀ w', Ext w w' → K (.bool true) w') : CallW Tryz.prog (.func (.func 27) #[] #[]) [] w K :=
  CallW_pure call27 (lawSane42 w) hK
theorem few42W {vl u0 u1 u2 vo v0 v1 v2 vh vm : Value} {t : TimeD} {f : TariffD} {l : List OrderD} {p : PlanD} {hd : List Int} {m : List MoveD} {w : World} {K : Value → World → Prop} (hl : Sl w vl t.Lines) (hT : TarR w f u0 u1 u2) (ho : Sl w vo l) (hP : PlanR w p v0 v1 v2) (hh : Sl w vh hd) (hm : Sl w vm m)
    (hK : ∀ (b : Bool) w', Ext w w' → (b = true → l.length ≤ 8 ∧ p.Runs.length ≤ 70 ∧ m.length ≤ 300) → K (.bool b) w') :
    CallW Tryz.prog (.func (.func 28) #[] #[]) [.agg #[.int .i64 t.Offices, vl], .agg #[u0, u1, u2], vo, .agg #[v0, v1, v2], vh, vm] w K :=
  CallW_gen call28 (rfFew42 vl u0 u1 u2 vo v0 v1 v2 vh vm t f l p hd m w hl hT ho hP hh hm) fun e w' ⟨b, he, x, hb⟩ => ⟨_, he, hK b w' x fun e => by
    obtain ⟨h1, h2, h3⟩ := hb e
    simp only [fewPl, decide_eq_true_eq] at h2
    exact ⟨h1, h2.1, h3⟩⟩
end Go.Proofs.YtoadfmgnpmcbfaaGreat
