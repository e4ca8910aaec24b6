import Derived.Test.YtoadfmgnpmcbfaaGreatQdW42f
import Derived.Test.YtoadfmgnpmcbfaaGreatQdW22k
/- Chapter 42: the reference's Few. -/
namespace Go.Proofs.YtoadfmgnpmcbfaaGreat
open Go Go.Fk
set_option linter.unusedSimpArgs false
set_option linter.unusedVariables false
set_option maxRecDepth 100000
set_option maxHeartbeats 2000000 in
theorem rfFew42 (vl u0 u1 u2 vo v0 v1 v2 vh vm : Value) (t : TimeD) (f : TariffD) (l : List OrderD) (p : PlanD) (hd : List Int) (m : List MoveD) (w : World) (hl : Sl w vl t.Lines) (hT : TarR w f u0 u1 u2) (ho : Sl w vo l) (hP : PlanR w p v0 v1 v2) (hh : Sl w vh hd) (hm : Sl w vm m) :
    Calls Tryz.prog 28 #[.agg (t.cs vl).toArray, .agg (f.cs u0 u1 u2).toArray, vo, .agg (p.cs v0 v1 v2).toArray, vh, vm] w fun e w' => ∃ b : Bool, e = .returned (.bool b) ∧ Ext w w' ∧ (b = true → l.length ≤ 8 ∧ fewPl p = true ∧ m.length ≤ 300) := by
  have l1 := hT.b.len
  have l2 := hT.l.len
  have l3 := hT.t.len
  have l4 := ho.len
  have l5 := hh.len
  have l6 := hm.len
  refine Calls_of_Run (args := [.agg (t.cs vl).toArray, .agg (f.cs u0 u1 u2).toArray, vo, .agg (p.cs v0 v1 v2).toArray, vh, vm]) (n := 52) (rs := [.tmp 12]) Tryz.func28 rfl rfl rfl (by simp) ?_
  (repeat with_reducible first | refine js ?_ | refine ja ?_ | refine jw KL28 [] TF28 fun _ => ?_)
  refine SemW_box fun pt w1 h1 => SemW_box fun pf w2 h2 => SemW_box fun pp w3 h3 => ?_
  have x3 := h1.ext.trans (h2.ext.trans h3.ext)
  have T : ∀ w', Ext w3 w' → AtN w' pt 0 (t.cs vl) := fun w' x => (h1.at_.ext (h2.ext.trans (h3.ext.trans x))).n
  have F : ∀ w', Ext w3 w' → AtN w' pf 0 (f.cs u0 u1 u2) := fun w' x => (h2.at_.ext (h3.ext.trans x)).n
  have P : ∀ w', Ext w3 w' → AtN w' pp 0 (p.cs v0 v1 v2) := fun w' x => (h3.at_.ext x).n
  simp only [TimeD.cs, TariffD.cs, PlanD.cs, AtN, KS, Nat.reduceAdd, Nat.reduceMul, Nat.reduceEqDiff, ↓reduceIte, UT] at T F P
  have t3 := T w3 (Ext.refl _)
  (repeat with_reducible first | refine js ?_ | refine ja ?_ | refine jw KL28 [] (aa TF28 t3) fun _ => ?_)
  refine CallW_gen call44 (rfFewTable vl t w3 (hl.ext x3)) fun e w4 ⟨b, he, x4, hb⟩ => ⟨_, he, ?_⟩
  have y4 := x3.trans x4
  have f4 := F w4 x4
  have p4 := P w4 x4
  (repeat with_reducible first | refine js ?_ | refine ja ?_ | refine jw KL28 [] (aa TF28 (aa f4 (aa p4 (aa hT.b.s (aa hT.b.len (aa hT.l.s (aa hT.l.len (aa hT.t.s (aa hT.t.len (aa ho.s (aa ho.len (aa hh.s (aa hh.len (aa hm.s (aa hm.len KX))))))))))))))) fun _ => ?_)
  refine .inr ⟨.bool (fewPl p), fun _ => PC_pure call45 fun w5 x5 => rfFewPlan v0 v1 v2 p w5 (hP.ext (y4.trans x5)), fun w5 x5 => ?_⟩
  unfold hush
  (repeat with_reducible first | refine js ?_ | refine ja ?_ | refine jw KL28 [] (aa TF28 (aa f4 (aa p4 (aa hT.b.s (aa hT.b.len (aa hT.l.s (aa hT.l.len (aa hT.t.s (aa hT.t.len (aa ho.s (aa ho.len (aa hh.s (aa hh.len (aa hm.s (aa hm.len KX))))))))))))))) fun _ => ?_)
  refine Run_ret ?_
  simp only [Rets, RetM, resV, fnd, oneOr, ↓reduceIte]
  refine ⟨_, rfl, _, rfl, y4.trans x5, fun h => ?_⟩
  simp only [Bool.and_eq_true, decide_eq_true_eq] at h
  obtain ⟨⟨⟨⟨⟨⟨⟨g1, g2⟩, g3⟩, g4⟩, g5⟩, g6⟩, g7⟩, g8⟩ := h
  exact ⟨by omega, g6, by omega⟩
end Go.Proofs.YtoadfmgnpmcbfaaGreat
