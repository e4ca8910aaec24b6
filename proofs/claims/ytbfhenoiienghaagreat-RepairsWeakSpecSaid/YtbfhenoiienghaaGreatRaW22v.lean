import Derived.Test.YtbfhenoiienghaaGreatRaGt
import Derived.Test.YtbfhenoiienghaaGreatRaW22j
import Derived.Test.YtbfhenoiienghaaGreatRaW20u
import Derived.Test.YtbfhenoiienghaaGreatRaGs
namespace Go.Proofs.YtbfhenoiienghaaGreat
open Go Go.Fk
set_option linter.unusedSimpArgs false
set_option linter.unusedVariables false
set_option maxRecDepth 100000
theorem rfSame22 (p q : PlanD) (v0 v1 v2 u0 u1 u2 : Value) (w : World) (hP : PlanR w p v0 v1 v2) (hQ : PlanR w q u0 u1 u2) :
    Calls Tryz.prog 18 #[.agg (p.cs v0 v1 v2).toArray, .agg (q.cs u0 u1 u2).toArray] w fun e w' => e = .returned (.bool (decide (p = q))) ∧ Ext w w' := by
  refine Calls_of_Run (args := [.agg (p.cs v0 v1 v2).toArray, .agg (q.cs u0 u1 u2).toArray]) (n := 24) (rs := [.tmp 4]) Tryz.func18 rfl rfl rfl (by simp) ?_
  (repeat with_reducible first | refine js ?_ | refine ja ?_ | refine jw KL18 [] TF18 fun _ => ?_)
  refine SemW_box fun pp w1 h1 => SemW_box fun pq w2 h2 => ?_
  have x2 := h1.ext.trans h2.ext
  have P : ∀ w', Ext w2 w' → AtN w' pp 0 (p.cs v0 v1 v2) := fun w' x => (h1.at_.ext (h2.ext.trans x)).n
  have Q : ∀ w', Ext w2 w' → AtN w' pq 0 (q.cs u0 u1 u2) := fun w' x => (h2.at_.ext x).n
  simp only [PlanD.cs, AtN, KS, Nat.reduceAdd, Nat.reduceMul, Nat.reduceEqDiff, ↓reduceIte, UT] at P Q
  have p2 := P w2 (Ext.refl _)
  have q2 := Q w2 (Ext.refl _)
  (repeat with_reducible first | refine js ?_ | refine ja ?_ | refine jw KL18 [] (aa TF18 (aa p2 (aa q2 KX))) fun _ => ?_)
  refine CallW_pure call52 (rfSame20 v0 u0 p.Runs q.Runs w2 (hP.r.ext x2) (hQ.r.ext x2)) fun w3 x3 => ?_
  have y3 := x2.trans x3
  have p3 := P w3 x3
  have q3 := Q w3 x3
  (repeat with_reducible first | refine js ?_ | refine ja ?_ | refine jw KL18 [] (aa TF18 (aa p3 (aa q3 KX))) fun _ => ?_)
  refine .inr ⟨.bool (decide (p.Of = q.Of)), fun _ => PC_pure call21 fun w4 x4 => rfSameInts20 v1 u1 p.Of q.Of w4 (hP.o.ext (y3.trans x4)) (hQ.o.ext (y3.trans x4)), fun w4 x4 => ?_⟩
  unfold hush
  have y4 := y3.trans x4
  have p4 := P w4 (x3.trans x4)
  have q4 := Q w4 (x3.trans x4)
  (repeat with_reducible first | refine js ?_ | refine ja ?_ | refine jw KL18 [] (aa TF18 (aa p4 (aa q4 KX))) fun _ => ?_)
  refine .inr ⟨.bool (decide (p.Covers = q.Covers)), fun _ => PC_pure call21 fun w5 x5 => rfSameInts20 v2 u2 p.Covers q.Covers w5 (hP.c.ext (y4.trans x5)) (hQ.c.ext (y4.trans x5)), fun w5 x5 => ?_⟩
  unfold hush
  (repeat with_reducible first | refine js ?_ | refine ja ?_ | refine jw KL18 [] (aa TF18 KX) fun _ => ?_)
  refine Run_ret ?_
  simp only [Rets, RetM, resV, fnd, oneOr, ↓reduceIte]
  refine ⟨_, rfl, ?_, y4.trans x5⟩
  congr 2
  rw [Bool.eq_iff_iff]
  cases p; cases q
  simp [and_assoc]
end Go.Proofs.YtbfhenoiienghaaGreat
