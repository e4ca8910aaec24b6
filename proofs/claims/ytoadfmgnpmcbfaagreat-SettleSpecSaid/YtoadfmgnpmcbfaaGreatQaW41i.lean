import Derived.Test.YtoadfmgnpmcbfaaGreatQaG9
/- Chapter 41: SettleSpec. -/
namespace Go.Proofs.YtoadfmgnpmcbfaaGreat
open Go Go.Fk
set_option linter.unusedSimpArgs false
set_option linter.unusedVariables false
set_option maxRecDepth 100000
set_option maxHeartbeats 2000000 in
theorem lawSettleSpec (vl u0 u1 u2 vo v0 v1 v2 vh : Value) (t : TimeD) (f : TariffD) (l : List OrderD) (p : PlanD) (hd : List Int) (w : World) (hl : Sl w vl t.Lines) (hT : TarR w f u0 u1 u2) (ho : Sl w vo l) (hP : PlanR w p v0 v1 v2) (hh : Sl w vh hd) :
    Calls Tryz.prog 9 #[.agg (t.cs vl).toArray, .agg (f.cs u0 u1 u2).toArray, vo, .agg (p.cs v0 v1 v2).toArray, vh] w fun e w' => e = .returned (.bool true) ∧ Ext w w' := by
  refine Calls_of_Run (args := [.agg (t.cs vl).toArray, .agg (f.cs u0 u1 u2).toArray, vo, .agg (p.cs v0 v1 v2).toArray, vh]) (n := 50) (rs := [.tmp 10]) Tryz.func9 rfl rfl rfl (by simp) ?_
  (repeat with_reducible first | refine js ?_ | refine ja ?_ | refine jw KL9 [] TF9 fun _ => ?_)
  refine SemW_box fun pt w1 h1 => SemW_box fun pf w2 h2 => SemW_box fun pp w3 h3 => ?_
  have x3 := h1.ext.trans (h2.ext.trans h3.ext)
  have T : ∀ w', Ext w3 w' → AtN w' pt 0 (t.cs vl) := fun w' x => (h1.at_.ext (h2.ext.trans (h3.ext.trans x))).n
  have F : ∀ w', Ext w3 w' → AtN w' pf 0 (f.cs u0 u1 u2) := fun w' x => (h2.at_.ext (h3.ext.trans x)).n
  have P : ∀ w', Ext w3 w' → AtN w' pp 0 (p.cs v0 v1 v2) := fun w' x => (h3.at_.ext x).n
  simp only [TimeD.cs, TariffD.cs, PlanD.cs, AtN, KS, Nat.reduceAdd, Nat.reduceMul, Nat.reduceEqDiff, ↓reduceIte, UT] at T F P
  (repeat with_reducible first | refine js ?_ | refine ja ?_ | refine jw KL9 [] TF9 fun _ => ?_)
  refine sane41W fun w4 x4 => ?_
  (repeat with_reducible first | refine js ?_ | refine ja ?_ | refine jw KL9 [] TF9 fun _ => ?_)
  refine Run_condS (fun _ => rfl) (fun h => by cases h) (fun _ => ?_)
  have y4 := x3.trans x4
  have t4 := T w4 x4
  have f4 := F w4 x4
  have p4 := P w4 x4
  (repeat with_reducible first | refine js ?_ | refine ja ?_ | refine jw KL9 [] (aa TF9 (aa t4 (aa f4 p4))) fun _ => ?_)
  refine few41W (hl.ext y4) (hT.ext y4) (ho.ext y4) (hP.ext y4) (hh.ext y4) fun b w5 x5 hb => ?_
  have y5 := y4.trans x5
  (repeat with_reducible first | refine js ?_ | refine ja ?_ | refine jw KL9 [] TF9 fun _ => ?_)
  refine Run_condS (fun _ => rfl) (fun h => ?_) (fun h => ?_)
  · (repeat with_reducible first | refine js ?_ | refine ja ?_ | refine jw KL9 [] TF9 fun _ => ?_)
    refine Run_ret ?_
    simp [Rets, RetM, resV, fnd, oneOr, y5]
  have hb := hb (by simpa using h)
  clear h
  have z5 := x4.trans x5
  have t5 := T w5 z5
  have f5 := F w5 z5
  have p5 := P w5 z5
  (repeat with_reducible first | refine js ?_ | refine ja ?_ | refine jw KL9 [] (aa TF9 (aa t5 (aa f5 p5))) fun _ => ?_)
  refine allW rfl (hl.ext y5) (hT.ext y5) (ho.ext y5) (hP.ext y5) (hh.ext y5) hb.2.1 (by omega) fun vm w6 x6 sm => ?_
  have y6 := y5.trans x6
  have z6 := z5.trans x6
  have t6 := T w6 z6
  have f6 := F w6 z6
  have p6 := P w6 z6
  (repeat with_reducible first | refine js ?_ | refine ja ?_ | refine jw KL9 [] (aa TF9 (aa t6 (aa f6 p6))) fun _ => ?_)
  refine rallW rfl (hl.ext y6) (hT.ext y6) (ho.ext y6) (hP.ext y6) (hh.ext y6) hb.2.1 (by omega) fun vn w7 x7 sn => ?_
  have y7 := y6.trans x7
  (repeat with_reducible first | refine js ?_ | refine ja ?_ | refine jw KL9 [] (aa TF9 KX) fun _ => ?_)
  refine same41W (b := true) (by simp) (sm.ext x7) sn fun w8 x8 => ?_
  (repeat with_reducible first | refine js ?_ | refine ja ?_ | refine jw KL9 [] (aa TF9 (aa @beq_self_eq_true.{0} KX)) fun _ => ?_)
  refine Run_ret ?_
  simp [Rets, RetM, resV, fnd, oneOr]
  exact y7.trans x8
end Go.Proofs.YtoadfmgnpmcbfaaGreat
