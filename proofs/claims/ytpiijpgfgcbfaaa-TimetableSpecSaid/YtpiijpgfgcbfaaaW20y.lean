/- Chapter 20: TimetableSpec, TimetableTimesSpec. -/
import Derived.Test.YtpiijpgfgcbfaaaW20w
set_option linter.unusedSimpArgs false
set_option linter.unusedVariables false
set_option maxRecDepth 100000
namespace Go.Proofs.Ytpiijpgfgcbfaaa
open Go Go.Fk
abbrev Yes (e : Ending) : Prop := e = .returned (.bool true)
theorem few20W {vl : Value} {t : TimeD} {a b : Int} {w : World} {K : Value → World → Prop} (hl : Sl w vl t.Lines) (hK : ∀ w', Ext w w' → K (.bool (few20 t a b)) w') : CallW Try.prog (.func (.func 10) #[] #[]) [.agg #[.int .i64 t.Offices, vl], .int .i64 a, .int .i64 b] w K :=
  CallW_pure call10 (rfFew20 vl t a b w hl) hK
theorem lawSpec20 (vl : Value) (t : TimeD) (a b : Int) (w : World) (hl : Sl w vl t.Lines) :
    Calls Try.prog 3 #[.agg (t.cs vl).toArray, .int .i64 a, .int .i64 b] w fun e w' => Yes e ∧ Ext w w' := by
  refine Calls_of_Run (args := [.agg (t.cs vl).toArray, .int .i64 a, .int .i64 b]) (n := 47) (rs := [.tmp 6]) Try.func3 rfl rfl rfl (by simp) ?_
  (repeat with_reducible first | refine js ?_ | refine ja ?_ | refine jw KL3 [7] TF3 fun _ => ?_)
  refine SemW_box fun p w1 hN => ?_
  have x1 := hN.ext
  have G : ∀ w', Ext w1 w' → AtN w' p 0 (t.cs vl) := fun w' x => (hN.at_.ext x).n
  simp only [TimeD.cs, AtN, KS, Nat.reduceAdd, Nat.reduceMul, Nat.reduceEqDiff, ↓reduceIte, UT] at G
  (repeat with_reducible first | refine js ?_ | refine ja ?_ | refine jw KL3 [7] TF3 fun _ => ?_)
  refine sane20W fun w2 x2 => ?_
  have y2 := x1.trans x2
  have g2 := G w2 x2
  (repeat with_reducible first | refine js ?_ | refine ja ?_ | refine jw KL3 [7] TF3 fun _ => ?_)
  refine Run_condS (fun _ => rfl) (fun h => by cases h) (fun _ => ?_)
  (repeat with_reducible first | refine js ?_ | refine ja ?_ | refine jw KL3 [7] (aa TF3 g2) fun _ => ?_)
  refine few20W (hl.ext y2) fun w3 x3 => ?_
  have y3 := y2.trans x3
  have g3 := G w3 (x2.trans x3)
  (repeat with_reducible first | refine js ?_ | refine ja ?_ | refine jw KL3 [7] TF3 fun _ => ?_)
  refine Run_condS (fun _ => rfl) (fun h => ?_) (fun h => ?_)
  · (repeat with_reducible first | refine js ?_ | refine ja ?_ | refine jw KL3 [7] TF3 fun _ => ?_)
    refine Run_ret ?_
    simp [Rets, RetM, resV, fnd, oneOr, y3]
  (repeat with_reducible first | refine js ?_ | refine ja ?_ | refine jw KL3 [7] (aa TF3 g3) fun _ => ?_)
  refine runsW rfl (hl.ext y3) fun va w4 x4 sa => ?_
  have y4 := y3.trans x4
  have g4 := G w4 (x2.trans (x3.trans x4))
  (repeat with_reducible first | refine js ?_ | refine ja ?_ | refine jw KL3 [7] (aa TF3 g4) fun _ => ?_)
  refine rrunsW rfl (hl.ext y4) fun vb w5 x5 sb => ?_
  have y5 := y4.trans x5
  have g5 := G w5 (x2.trans (x3.trans (x4.trans x5)))
  (repeat with_reducible first | refine js ?_ | refine ja ?_ | refine jw KL3 [7] (aa TF3 g5) fun _ => ?_)
  refine ⟨_, PC_pure call13 fun w6 x6 => ttCheck vl t w6 (hl.ext (y5.trans x6)), _, PC_pure call14 fun w6 x6 => rfCheck20 vl t w6 (hl.ext (y5.trans x6)), ⟨by simp, by simp⟩, .bool true, fun _ => PC_pure call15 fun w6 x6 => ?_, ?_⟩
  · have := rfSame20 va vb _ _ w6 (sa.ext (x5.trans x6)) (sb.ext x6)
    rwa [decide_eq_true rfl] at this
  refine ⟨by simp [pk], fun w6 x6 => ?_⟩
  refine Run_ret ?_
  simp [Rets, RetM, resV, fnd, oneOr, pk]
  exact y5.trans x6
theorem lawTimesSpec20 (vl : Value) (t : TimeD) (r : RunD) (w : World) (hl : Sl w vl t.Lines) (hr : RunI r) :
    Calls Try.prog 4 #[.agg (t.cs vl).toArray, .agg r.cs.toArray] w fun e w' => Yes e ∧ Ext w w' := by
  refine Calls_of_Run (args := [.agg (t.cs vl).toArray, .agg r.cs.toArray]) (n := 43) (rs := [.tmp 4]) Try.func4 rfl rfl rfl (by simp) ?_
  (repeat with_reducible first | refine js ?_ | refine ja ?_ | refine jw KL4 [7] TF4 fun _ => ?_)
  refine SemW_box fun p w0 hN => SemW_box fun q w1 hQ => ?_
  have x1 := hN.ext.trans hQ.ext
  have G : ∀ w', Ext w1 w' → AtN w' p 0 (t.cs vl) := fun w' x => (hN.at_.ext (hQ.ext.trans x)).n
  have R : ∀ w', Ext w1 w' → AtN w' q 0 r.cs := fun w' x => (hQ.at_.ext x).n
  simp only [TimeD.cs, RunD.cs, AtN, KS, Nat.reduceAdd, Nat.reduceMul, Nat.reduceEqDiff, ↓reduceIte, UT] at G R
  (repeat with_reducible first | refine js ?_ | refine ja ?_ | refine jw KL4 [7] TF4 fun _ => ?_)
  refine sane20W fun w2 x2 => ?_
  have y2 := x1.trans x2
  have g2 := G w2 x2
  (repeat with_reducible first | refine js ?_ | refine ja ?_ | refine jw KL4 [7] TF4 fun _ => ?_)
  refine Run_condS (fun _ => rfl) (fun h => by cases h) (fun _ => ?_)
  (repeat with_reducible first | refine js ?_ | refine ja ?_ | refine jw KL4 [7] (aa TF4 g2) fun _ => ?_)
  refine few20W (hl.ext y2) fun w3 x3 => ?_
  have y3 := y2.trans x3
  have g3 := G w3 (x2.trans x3)
  have k3 := R w3 (x2.trans x3)
  (repeat with_reducible first | refine js ?_ | refine ja ?_ | refine jw KL4 [7] TF4 fun _ => ?_)
  refine Run_condS (fun _ => rfl) (fun h => ?_) (fun h => ?_)
  · (repeat with_reducible first | refine js ?_ | refine ja ?_ | refine jw KL4 [7] TF4 fun _ => ?_)
    refine Run_ret ?_
    simp [Rets, RetM, resV, fnd, oneOr, y3]
  (repeat with_reducible first | refine js ?_ | refine ja ?_ | refine jw KL4 [7] (aa TF4 (aa g3 k3)) fun _ => ?_)
  refine timesW rfl (hl.ext y3) hr fun va w4 x4 sa => ?_
  have y4 := y3.trans x4
  have g4 := G w4 (x2.trans (x3.trans x4))
  have k4 := R w4 (x2.trans (x3.trans x4))
  (repeat with_reducible first | refine js ?_ | refine ja ?_ | refine jw KL4 [7] (aa TF4 (aa g4 k4)) fun _ => ?_)
  refine rtimesW rfl (hl.ext y4) hr fun vb w5 x5 sb => ?_
  have y5 := y4.trans x5
  have z5 := x2.trans (x3.trans (x4.trans x5))
  have g5 := G w5 z5
  have k5 := R w5 z5
  (repeat with_reducible first | refine js ?_ | refine ja ?_ | refine jw KL4 [7] (aa TF4 (aa g5 k5)) fun _ => ?_)
  refine ⟨_, PC_pure call18 fun w6 x6 => ttIs vl t r w6 (hl.ext (y5.trans x6)) hr, _, PC_pure call19 fun w6 x6 => rfIs vl t r w6 (hl.ext (y5.trans x6)) hr, ⟨by simp, by simp⟩, .bool true, fun _ => PC_pure call20 fun w6 x6 => ?_, ?_⟩
  · have := rfSameInts20 va vb _ _ w6 (sa.ext (x5.trans x6)) (sb.ext x6)
    rwa [decide_eq_true rfl] at this
  refine ⟨by simp [pk], fun w6 x6 => ?_⟩
  refine Run_ret ?_
  simp [Rets, RetM, resV, fnd, oneOr, pk]
  exact y5.trans x6
end Go.Proofs.Ytpiijpgfgcbfaaa
