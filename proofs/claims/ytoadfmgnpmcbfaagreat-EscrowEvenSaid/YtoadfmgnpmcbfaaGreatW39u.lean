/- Chapter 39: EscrowSpec, EscrowPaySpec. -/
import Derived.Test.YtoadfmgnpmcbfaaGreatW39t
namespace Go.Proofs.YtoadfmgnpmcbfaaGreat
open Go Go.Fk
set_option linter.unusedSimpArgs false
set_option linter.unusedVariables false
set_option maxRecDepth 100000

abbrev Yes (e : Ending) : Prop := e = .returned (.bool true)
theorem few39W {vl u0 u1 u2 vo v0 v1 v2 : Value} {t : TimeD} {f : TariffD} {l : List OrderD} {p : PlanD} {w : World} {K : Value → World → Prop} (hl : Sl w vl t.Lines) (hT : TarR w f u0 u1 u2) (ho : Sl w vo l) (hP : PlanR w p v0 v1 v2)
    (hK : ∀ (b : Bool) w', Ext w w' → (b = true → FewP t f l p) → K (.bool b) w') :
    CallW Tryz.prog (.func (.func 17) #[] #[]) [.agg #[.int .i64 t.Offices, vl], .agg #[u0, u1, u2], vo, .agg #[v0, v1, v2]] w K :=
  CallW_gen call17 (rfFew39 vl u0 u1 u2 vo v0 v1 v2 t f l p w hl hT ho hP) fun e w' ⟨b, he, x, hb⟩ => ⟨_, he, hK b w' x hb⟩
set_option maxHeartbeats 2000000 in
theorem lawEscrowSpec (vl u0 u1 u2 vo v0 v1 v2 : Value) (t : TimeD) (f : TariffD) (l : List OrderD) (p : PlanD) (w : World) (hl : Sl w vl t.Lines) (hT : TarR w f u0 u1 u2) (ho : Sl w vo l) (hP : PlanR w p v0 v1 v2) :
    Calls Tryz.prog 3 #[.agg (t.cs vl).toArray, .agg (f.cs u0 u1 u2).toArray, vo, .agg (p.cs v0 v1 v2).toArray] w fun e w' => Yes e ∧ Ext w w' := by
  refine Calls_of_Run (args := [.agg (t.cs vl).toArray, .agg (f.cs u0 u1 u2).toArray, vo, .agg (p.cs v0 v1 v2).toArray]) (n := 45) (rs := [.tmp 8]) Tryz.func3 rfl rfl rfl (by simp) ?_
  (repeat with_reducible first | refine js ?_ | refine ja ?_ | refine jw KL3 [] TF3 fun _ => ?_)
  refine SemW_box fun pt w1 h1 => SemW_box fun pf w2 h2 => SemW_box fun pp w3 h3 => ?_
  have x3 := h1.ext.trans (h2.ext.trans h3.ext)
  have T : ∀ w', Ext w3 w' → AtN w' pt 0 (t.cs vl) := fun w' x => (h1.at_.ext (h2.ext.trans (h3.ext.trans x))).n
  have F : ∀ w', Ext w3 w' → AtN w' pf 0 (f.cs u0 u1 u2) := fun w' x => (h2.at_.ext (h3.ext.trans x)).n
  have P : ∀ w', Ext w3 w' → AtN w' pp 0 (p.cs v0 v1 v2) := fun w' x => (h3.at_.ext x).n
  simp only [TimeD.cs, TariffD.cs, PlanD.cs, AtN, KS, Nat.reduceAdd, Nat.reduceMul, Nat.reduceEqDiff, ↓reduceIte, UT] at T F P
  (repeat with_reducible first | refine js ?_ | refine ja ?_ | refine jw KL3 [] TF3 fun _ => ?_)
  refine saneW fun w4 x4 => ?_
  (repeat with_reducible first | refine js ?_ | refine ja ?_ | refine jw KL3 [] TF3 fun _ => ?_)
  refine Run_condS (fun _ => rfl) (fun h => by cases h) (fun _ => ?_)
  have y4 := x3.trans x4
  have t4 := T w4 x4
  have f4 := F w4 x4
  have p4 := P w4 x4
  (repeat with_reducible first | refine js ?_ | refine ja ?_ | refine jw KL3 [] (aa TF3 (aa t4 (aa f4 p4))) fun _ => ?_)
  refine few39W (hl.ext y4) (hT.ext y4) (ho.ext y4) (hP.ext y4) fun b w5 x5 hb => ?_
  have y5 := y4.trans x5
  (repeat with_reducible first | refine js ?_ | refine ja ?_ | refine jw KL3 [] TF3 fun _ => ?_)
  refine Run_condS (fun _ => rfl) (fun h => ?_) (fun h => ?_)
  · (repeat with_reducible first | refine js ?_ | refine ja ?_ | refine jw KL3 [] TF3 fun _ => ?_)
    refine Run_ret ?_
    simp [Rets, RetM, resV, fnd, oneOr, y5]
  have z5 := x4.trans x5
  have t5 := T w5 z5
  have f5 := F w5 z5
  have p5 := P w5 z5
  (repeat with_reducible first | refine js ?_ | refine ja ?_ | refine jw KL3 [] (aa TF3 (aa t5 (aa f5 p5))) fun _ => ?_)
  refine postW rfl (hl.ext y5) (hT.ext y5) (ho.ext y5) (hP.ext y5) fun vm w6 x6 sm => ?_
  have y6 := y5.trans x6
  have z6 := z5.trans x6
  have t6 := T w6 z6
  have f6 := F w6 z6
  have p6 := P w6 z6
  (repeat with_reducible first | refine js ?_ | refine ja ?_ | refine jw KL3 [] (aa TF3 (aa t6 (aa f6 p6))) fun _ => ?_)
  refine rpostW rfl (hl.ext y6) (hT.ext y6) (ho.ext y6) (hP.ext y6) fun vn w7 x7 sn => ?_
  have y7 := y6.trans x7
  (repeat with_reducible first | refine js ?_ | refine ja ?_ | refine jw KL3 [] (aa TF3 KX) fun _ => ?_)
  refine sameW (b := true) (by simp) (sm.ext x7) sn fun w8 x8 => ?_
  (repeat with_reducible first | refine js ?_ | refine ja ?_ | refine jw KL3 [] (aa TF3 (aa @beq_self_eq_true.{0} KX)) fun _ => ?_)
  refine Run_ret ?_
  simp [Rets, RetM, resV, fnd, oneOr]
  exact y7.trans x8
set_option maxHeartbeats 2000000 in
theorem lawEscrowPaySpec (vl u0 u1 u2 vo v0 v1 v2 : Value) (t : TimeD) (f : TariffD) (l : List OrderD) (p : PlanD) (run handed : Int) (w : World) (hl : Sl w vl t.Lines) (hT : TarR w f u0 u1 u2) (ho : Sl w vo l) (hP : PlanR w p v0 v1 v2) (hr : I64 run) :
    Calls Tryz.prog 4 #[.agg (t.cs vl).toArray, .agg (f.cs u0 u1 u2).toArray, vo, .agg (p.cs v0 v1 v2).toArray, .int .i64 run, .int .i64 handed] w fun e w' => Yes e ∧ Ext w w' := by
  refine Calls_of_Run (args := [.agg (t.cs vl).toArray, .agg (f.cs u0 u1 u2).toArray, vo, .agg (p.cs v0 v1 v2).toArray, .int .i64 run, .int .i64 handed]) (n := 53) (rs := [.tmp 12]) Tryz.func4 rfl rfl rfl (by simp) ?_
  (repeat with_reducible first | refine js ?_ | refine ja ?_ | refine jw KL4 [] TF4 fun _ => ?_)
  refine SemW_box fun pt w1 h1 => SemW_box fun pf w2 h2 => SemW_box fun pp w3 h3 => ?_
  have x3 := h1.ext.trans (h2.ext.trans h3.ext)
  have T : ∀ w', Ext w3 w' → AtN w' pt 0 (t.cs vl) := fun w' x => (h1.at_.ext (h2.ext.trans (h3.ext.trans x))).n
  have F : ∀ w', Ext w3 w' → AtN w' pf 0 (f.cs u0 u1 u2) := fun w' x => (h2.at_.ext (h3.ext.trans x)).n
  have P : ∀ w', Ext w3 w' → AtN w' pp 0 (p.cs v0 v1 v2) := fun w' x => (h3.at_.ext x).n
  simp only [TimeD.cs, TariffD.cs, PlanD.cs, AtN, KS, Nat.reduceAdd, Nat.reduceMul, Nat.reduceEqDiff, ↓reduceIte, UT] at T F P
  (repeat with_reducible first | refine js ?_ | refine ja ?_ | refine jw KL4 [] TF4 fun _ => ?_)
  refine saneW fun w4 x4 => ?_
  (repeat with_reducible first | refine js ?_ | refine ja ?_ | refine jw KL4 [] TF4 fun _ => ?_)
  refine Run_condS (fun _ => rfl) (fun h => by cases h) (fun _ => ?_)
  have y4 := x3.trans x4
  have t4 := T w4 x4
  have f4 := F w4 x4
  have p4 := P w4 x4
  (repeat with_reducible first | refine js ?_ | refine ja ?_ | refine jw KL4 [] (aa TF4 (aa t4 (aa f4 p4))) fun _ => ?_)
  refine few39W (hl.ext y4) (hT.ext y4) (ho.ext y4) (hP.ext y4) fun b w5 x5 hb => ?_
  have y5 := y4.trans x5
  (repeat with_reducible first | refine js ?_ | refine ja ?_ | refine jw KL4 [] TF4 fun _ => ?_)
  refine Run_condS (fun _ => rfl) (fun h => ?_) (fun h => ?_)
  · (repeat with_reducible first | refine js ?_ | refine ja ?_ | refine jw KL4 [] TF4 fun _ => ?_)
    refine Run_ret ?_
    simp [Rets, RetM, resV, fnd, oneOr, y5]
  have z5 := x4.trans x5
  have t5 := T w5 z5
  have f5 := F w5 z5
  have p5 := P w5 z5
  (repeat with_reducible first | refine js ?_ | refine ja ?_ | refine jw KL4 [] (aa TF4 (aa t5 (aa f5 p5))) fun _ => ?_)
  refine payW rfl (hl.ext y5) (hT.ext y5) (ho.ext y5) (hP.ext y5) hr fun vm w6 x6 sm => ?_
  have y6 := y5.trans x6
  have z6 := z5.trans x6
  have t6 := T w6 z6
  have f6 := F w6 z6
  have p6 := P w6 z6
  (repeat with_reducible first | refine js ?_ | refine ja ?_ | refine jw KL4 [] (aa TF4 (aa t6 (aa f6 p6))) fun _ => ?_)
  refine rpayW rfl (hl.ext y6) (hT.ext y6) (ho.ext y6) (hP.ext y6) hr fun vn w7 x7 sn => ?_
  have y7 := y6.trans x7
  (repeat with_reducible first | refine js ?_ | refine ja ?_ | refine jw KL4 [] (aa TF4 KX) fun _ => ?_)
  refine sameW (b := true) (by simp) (sm.ext x7) sn fun w8 x8 => ?_
  (repeat with_reducible first | refine js ?_ | refine ja ?_ | refine jw KL4 [] (aa TF4 (aa @beq_self_eq_true.{0} KX)) fun _ => ?_)
  refine Run_ret ?_
  simp [Rets, RetM, resV, fnd, oneOr]
  exact y7.trans x8
end Go.Proofs.YtoadfmgnpmcbfaaGreat
