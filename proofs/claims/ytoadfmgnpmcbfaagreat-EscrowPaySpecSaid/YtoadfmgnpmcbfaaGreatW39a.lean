/- Chapter 39: check. -/
import Derived.Test.YtoadfmgnpmcbfaaGreatW22f
import Derived.Test.YtoadfmgnpmcbfaaGreatP39
namespace Go.Proofs.YtoadfmgnpmcbfaaGreat
open Go Go.Fk
set_option linter.unusedSimpArgs false
set_option linter.unusedVariables false
set_option maxRecDepth 100000

theorem pchkW {vl u0 u1 u2 vo v0 v1 v2 : Value} {t : TimeD} {f : TariffD} {l : List OrderD} {covers : Int} {p : PlanD} {w : World} {K : Value → World → Prop} {r : Bool × Int} (h : Pl.check t f l covers p = r) (hl : Sl w vl t.Lines) (hT : TarR w f u0 u1 u2) (ho : Sl w vo l) (hP : PlanR w p v0 v1 v2)
    (hK : ∀ w', Ext w w' → K (.tuple #[.bool r.1, .int .i64 r.2]) w') : CallW Tryz.prog (.func (.func 23) #[] #[]) [.agg #[.int .i64 t.Offices, vl], .agg #[u0, u1, u2], vo, .int .i64 covers, .agg #[v0, v1, v2]] w K := by
  subst h; exact CallW_pure call23 (plCheckP vl u0 u1 u2 vo v0 v1 v2 t f l covers p w hl hT ho hP) hK
theorem esCheck (vl u0 u1 u2 vo v0 v1 v2 : Value) (t : TimeD) (f : TariffD) (l : List OrderD) (p : PlanD) (w : World) (hl : Sl w vl t.Lines) (hT : TarR w f u0 u1 u2) (ho : Sl w vo l) (hP : PlanR w p v0 v1 v2) :
    Calls Tryz.prog 46 #[.agg (t.cs vl).toArray, .agg (f.cs u0 u1 u2).toArray, vo, .agg (p.cs v0 v1 v2).toArray] w fun e w' => e = .returned (.int .i64 (Ec.err t f l p)) ∧ Ext w w' := by
  refine Calls_of_Run (args := [.agg (t.cs vl).toArray, .agg (f.cs u0 u1 u2).toArray, vo, .agg (p.cs v0 v1 v2).toArray]) (n := 26) (rs := [.tmp 8]) Tryz.func46 rfl rfl rfl (by simp) ?_
  (repeat with_reducible first | refine js ?_ | refine ja ?_ | refine jw KL46 [] TF46 fun _ => ?_)
  refine SemW_box fun pt w1 h1 => SemW_box fun pf w2 h2 => SemW_box fun pp w3 h3 => ?_
  have x3 := h1.ext.trans (h2.ext.trans h3.ext)
  have t3 : AtN w3 pt 0 (t.cs vl) := (h1.at_.ext (h2.ext.trans h3.ext)).n
  have f3 : AtN w3 pf 0 (f.cs u0 u1 u2) := (h2.at_.ext h3.ext).n
  have p3 : AtN w3 pp 0 (p.cs v0 v1 v2) := h3.at_.n
  simp only [TimeD.cs, TariffD.cs, PlanD.cs, AtN, KS, Nat.reduceAdd, Nat.reduceMul, Nat.reduceEqDiff, ↓reduceIte, UT] at t3 f3 p3
  (repeat with_reducible first | refine js ?_ | refine ja ?_ | refine jw KL46 [] (aa TF46 (aa t3 (aa f3 p3))) fun _ => ?_)
  refine pchkW rfl (hl.ext x3) (hT.ext x3) (ho.ext x3) (hP.ext x3) fun w4 x4 => ?_
  have y4 := x3.trans x4
  have he : Ec.err t f l p = if (Pl.check t f l 1099511627776 p).2 ≠ 0 then (Pl.check t f l 1099511627776 p).2 else if (Pl.check t f l 1099511627776 p).1 then 0 else 220 := rfl
  generalize Pl.check t f l 1099511627776 p = r at *
  obtain ⟨b, c⟩ := r
  simp only at he
  (repeat with_reducible first | refine js ?_ | refine ja ?_ | refine jw KL46 [] (aa TF46 KX) fun _ => ?_)
  by_cases hc : c = 0
  · subst hc
    cases b
    · (repeat with_reducible first | refine js ?_ | refine ja ?_ | refine jw KL46 [] (aa TF46 (aa @beq_self_eq_true.{0} KX)) fun _ => ?_)
      refine Run_condS (fun _ => rfl) (fun _ => ?_) (fun h => by simp at h)
      (repeat with_reducible first | refine js ?_ | refine ja ?_ | refine jw KL46 [] TF46 fun _ => ?_)
      refine Run_ret ?_
      simp [Rets, RetM, resV, fnd, oneOr, he, y4]
    · (repeat with_reducible first | refine js ?_ | refine ja ?_ | refine jw KL46 [] (aa TF46 (aa @beq_self_eq_true.{0} KX)) fun _ => ?_)
      refine Run_condS (fun _ => rfl) (fun h => by simp at h) (fun _ => ?_)
      (repeat with_reducible first | refine js ?_ | refine ja ?_ | refine jw KL46 [] TF46 fun _ => ?_)
      refine Run_ret ?_
      simp [Rets, RetM, resV, fnd, oneOr, he, y4]
  · have e0 : (c == 0) = false := by simp [hc]
    (repeat with_reducible first | refine js ?_ | refine ja ?_ | refine jw KL46 [] (aa TF46 (aa e0 KX)) fun _ => ?_)
    refine Run_condS (fun _ => rfl) (fun h => by simp at h) (fun _ => ?_)
    (repeat with_reducible first | refine js ?_ | refine ja ?_ | refine jw KL46 [] TF46 fun _ => ?_)
    refine Run_ret ?_
    simp [Rets, RetM, resV, fnd, oneOr, he, hc, y4]
end Go.Proofs.YtoadfmgnpmcbfaaGreat
