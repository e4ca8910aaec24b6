import Derived.Test.YtbfhenoiienghaaGreatRbX24b
import Derived.Test.YtbfhenoiienghaaGreatRbP24d
namespace Go.Proofs.YtbfhenoiienghaaGreat
open Go Go.Fk
set_option linter.unusedSimpArgs false
set_option linter.unusedVariables false
set_option maxRecDepth 100000
set_option maxHeartbeats 2000000 in
theorem lawLeast24 (vl : Value) (t : TimeD) (f : TariffD) (u0 u1 u2 vo v0 v1 v2 a0 a1 a2 : Value) (l : List OrderD) (covers : Int) (p q : PlanD) (run : Int) (w : World) (hl : Sl w vl t.Lines) (hT : TarR w f u0 u1 u2) (ho : Sl w vo l) (hP : PlanR w p v0 v1 v2) (hQ : PlanR w q a0 a1 a2) (hcv : I64 covers) :
    Calls Tryz.prog 6 #[.agg (t.cs vl).toArray, .agg (f.cs u0 u1 u2).toArray, vo, .int .i64 covers, .agg (p.cs v0 v1 v2).toArray, .agg (q.cs a0 a1 a2).toArray, .int .i64 run] w fun e w' => e = .returned (.bool true) ∧ Ext w w' := by
  refine Calls_of_Run (args := [.agg (t.cs vl).toArray, .agg (f.cs u0 u1 u2).toArray, vo, .int .i64 covers, .agg (p.cs v0 v1 v2).toArray, .agg (q.cs a0 a1 a2).toArray, .int .i64 run]) (n := 93) (rs := [.tmp 14]) Tryz.func6 rfl rfl rfl (by simp) ?_
  (repeat with_reducible first | refine js ?_ | refine ja ?_ | refine jw KL6 [13] TF6 fun _ => ?_)
  refine SemW_box fun pt w1 h1 => SemW_box fun pf w2 h2 => SemW_box fun pp w3 h3 => SemW_box fun pq w4 h4 => ?_
  have x4 := h1.ext.trans (h2.ext.trans (h3.ext.trans h4.ext))
  have T : ∀ w', Ext w4 w' → AtN w' pt 0 (t.cs vl) := fun w' x => (h1.at_.ext (h2.ext.trans (h3.ext.trans (h4.ext.trans x)))).n
  have F : ∀ w', Ext w4 w' → AtN w' pf 0 (f.cs u0 u1 u2) := fun w' x => (h2.at_.ext (h3.ext.trans (h4.ext.trans x))).n
  have P : ∀ w', Ext w4 w' → AtN w' pp 0 (p.cs v0 v1 v2) := fun w' x => (h3.at_.ext (h4.ext.trans x)).n
  have Q : ∀ w', Ext w4 w' → AtN w' pq 0 (q.cs a0 a1 a2) := fun w' x => (h4.at_.ext x).n
  simp only [TimeD.cs, TariffD.cs, PlanD.cs, AtN, KS, Nat.reduceAdd, Nat.reduceMul, Nat.reduceEqDiff, ↓reduceIte, UT] at T F P Q
  (repeat with_reducible first | refine js ?_ | refine ja ?_ | refine jw KL6 [13] TF6 fun _ => ?_)
  refine sane24W fun w5 x5 => ?_
  have y5 := x4.trans x5
  have t5 := T w5 x5
  have f5 := F w5 x5
  have p5 := P w5 x5
  (repeat with_reducible first | refine js ?_ | refine ja ?_ | refine jw KL6 [13] TF6 fun _ => ?_)
  refine Run_condS (fun _ => rfl) (fun h => by cases h) (fun _ => ?_)
  (repeat with_reducible first | refine js ?_ | refine ja ?_ | refine jw KL6 [13] (aa TF6 (aa t5 (aa f5 (aa p5 KX)))) fun _ => ?_)
  refine right24W (hl.ext y5) (hT.ext y5) (ho.ext y5) (hP.ext y5) fun b w7 x7 hb => ?_
  have y7 := y5.trans x7
  have z7 := x5.trans x7
  have p7 := P w7 z7
  have q7 := Q w7 z7
  cases b with
  | false =>
    (repeat with_reducible first | refine js ?_ | refine ja ?_ | refine jw KL6 [13] (aa TF6 (aa p7 (aa q7 KX))) fun _ => ?_)
    refine .inl ?_
    unfold hush
    (repeat with_reducible first | refine js ?_ | refine ja ?_ | refine jw KL6 [13] (aa TF6 (aa p7 (aa q7 KX))) fun _ => ?_)
    refine .inl ?_
    unfold hush
    (repeat with_reducible first | refine js ?_ | refine ja ?_ | refine jw KL6 [13] (aa TF6 (aa p7 (aa q7 KX))) fun _ => ?_)
    refine Run_condS (fun _ => rfl) (fun _ => ?_) (fun h => by cases h)
    (repeat with_reducible first | refine js ?_ | refine ja ?_ | refine jw KL6 [13] TF6 fun _ => ?_)
    refine Run_ret ?_
    simp [Rets, RetM, resV, fnd, oneOr, y7]
  | true =>
  obtain ⟨hfp, he, hr0, hr1⟩ := hb rfl
  obtain ⟨h0, hA⟩ := Rp.err_acc he
  have h64 := (Pl.err_ok h0).n
  (repeat with_reducible first | refine js ?_ | refine ja ?_ | refine jw KL6 [13] (aa TF6 (aa p7 (aa q7 KX))) fun _ => ?_)
  refine .inr ⟨.bool (fewPl q), PC_pure call26 fun w8 x8 => rfFewPlan a0 a1 a2 q w8 (hQ.ext (y7.trans x8)), fun w8 x8 => ?_⟩
  unfold hush
  have y8 := y7.trans x8
  have z8 := z7.trans x8
  have p8 := P w8 z8
  have q8 := Q w8 z8
  (repeat with_reducible first | refine js ?_ | refine ja ?_ | refine jw KL6 [13] (aa TF6 (aa p8 (aa q8 KX))) fun _ => ?_)
  refine .inr ⟨.bool (Rp.isRep l p q run), fun _ => PC_pure call24 fun w9 x9 => rfIs24 vo v0 v1 v2 a0 a1 a2 l p q run w9 (ho.ext (y8.trans x9)) (hP.ext (y8.trans x9)) (hQ.ext (y8.trans x9)) hA.ol hA.ins (by omega), fun w9 x9 => ?_⟩
  unfold hush
  have y9 := y8.trans x9
  have z9 := z8.trans x9
  (repeat with_reducible first | refine js ?_ | refine ja ?_ | refine jw KL6 [13] (aa TF6 KX) fun _ => ?_)
  refine Run_condS (fun _ => rfl) (fun h => ?_) (fun h => ?_)
  · (repeat with_reducible first | refine js ?_ | refine ja ?_ | refine jw KL6 [13] TF6 fun _ => ?_)
    refine Run_ret ?_
    simp [Rets, RetM, resV, fnd, oneOr, y9]
  have hfi : fewPl q = true ∧ Rp.isRep l p q run = true := by
    simpa using h
  clear h
  have t9 := T w9 z9
  have f9 := F w9 z9
  have q9 := Q w9 z9
  (repeat with_reducible first | refine js ?_ | refine ja ?_ | refine jw KL6 [13] (aa TF6 (aa t9 (aa f9 q9))) fun _ => ?_)
  refine plChkW (hl.ext y9) (hT.ext y9) (ho.ext y9) (hQ.ext y9) (q := ((Pl.check t f l covers q).1, 0)) (by rw [← Pl.check_err (covers := covers) (p := q) h0]) fun wA xA => ?_
  have yA := y9.trans xA
  have zA := z9.trans xA
  (try simp (maxSteps := 5000000) only [KS, Nat.reduceAdd, Nat.reduceMul, Nat.reduceEqDiff, ↓reduceIte, forall_const, Int.cast_ofNat_Int, Int.reduceToNat, List.take_succ_cons, List.take_zero, List.drop_succ_cons, List.drop_zero, TF6, KL6]); (try simp (disch := omega) only [wrapI, tmodI, tdivI])
  refine ⟨by simp [tpOf], by simp [tpOf], ?_⟩
  have tA := T wA zA
  have fA := F wA zA
  have pA := P wA zA
  (repeat with_reducible first | refine js ?_ | refine ja ?_ | refine jw KL6 [13] (aa TF6 (aa tA (aa fA pA))) fun _ => ?_)
  rcases Rp.rep_cases he hr0 hr1 with ⟨ho2, hm⟩ | ⟨hoe, hmn, hm⟩ | ⟨of, hoe, hms, hm⟩
  · refine rpRepairW (hl.ext yA) (hT.ext yA) (ho.ext yA) (hP.ext yA) hcv hm fun b0 b1 b2 wB xB hR => ?_
    (try simp (maxSteps := 5000000) only [KS, Nat.reduceAdd, Nat.reduceMul, Nat.reduceEqDiff, ↓reduceIte, forall_const, Int.cast_ofNat_Int, Int.reduceToNat, List.take_succ_cons, List.take_zero, List.drop_succ_cons, List.drop_zero, TF6, KL6]); (try simp (disch := omega) only [wrapI, tmodI, tdivI])
    refine ⟨by decide, by decide, by decide, ?_⟩
    refine planVar hR fun px wC xC _ => ?_
    (repeat with_reducible first | refine js ?_ | refine ja ?_ | refine jw KL6 [13] (aa TF6 KX) fun _ => ?_)
    refine Run_condS (fun _ => rfl) (fun _ => ?_) (fun h => by cases h)
    (repeat with_reducible first | refine js ?_ | refine ja ?_ | refine jw KL6 [13] (aa TF6 KX) fun _ => ?_)
    refine Run_ret ?_
    simp [Rets, RetM, resV, fnd, oneOr]
    exact yA.trans (xB.trans xC)
  · have hno : (Pl.check t f l covers q).1 = false := by
      rw [Bool.eq_false_iff]
      intro hc
      obtain ⟨_, hq, _⟩ := Pl.check_yes hc
      obtain ⟨x, hx, _⟩ := Rp.rep_least he hoe hq hfi.2
      rw [hmn] at hx; cases hx
    rw [hno]
    refine rpRepairW (hl.ext yA) (hT.ext yA) (ho.ext yA) (hP.ext yA) hcv hm fun b0 b1 b2 wB xB hR => ?_
    (try simp (maxSteps := 5000000) only [KS, Nat.reduceAdd, Nat.reduceMul, Nat.reduceEqDiff, ↓reduceIte, forall_const, Int.cast_ofNat_Int, Int.reduceToNat, List.take_succ_cons, List.take_zero, List.drop_succ_cons, List.drop_zero, TF6, KL6]); (try simp (disch := omega) only [wrapI, tmodI, tdivI])
    refine ⟨by decide, by decide, by decide, ?_⟩
    refine planVar hR fun px wC xC _ => ?_
    (repeat with_reducible first | refine js ?_ | refine ja ?_ | refine jw KL6 [13] (aa TF6 KX) fun _ => ?_)
    refine Run_condS (fun _ => rfl) (fun h => by cases h) (fun _ => ?_)
    (repeat with_reducible first | refine js ?_ | refine ja ?_ | refine jw KL6 [13] (aa TF6 KX) fun _ => ?_)
    refine Run_condS (fun _ => rfl) (fun _ => ?_) (fun h => by cases h)
    (repeat with_reducible first | refine js ?_ | refine ja ?_ | refine jw KL6 [13] (aa TF6 KX) fun _ => ?_)
    refine Run_ret ?_
    simp [Rets, RetM, resV, fnd, oneOr]
    exact yA.trans (xB.trans xC)
  · refine rpRepairW (hl.ext yA) (hT.ext yA) (ho.ext yA) (hP.ext yA) hcv hm fun b0 b1 b2 wB xB hR => ?_
    (try simp (maxSteps := 5000000) only [KS, Nat.reduceAdd, Nat.reduceMul, Nat.reduceEqDiff, ↓reduceIte, forall_const, Int.cast_ofNat_Int, Int.reduceToNat, List.take_succ_cons, List.take_zero, List.drop_succ_cons, List.drop_zero, TF6, KL6]); (try simp (disch := omega) only [wrapI, tmodI, tdivI])
    refine ⟨by decide, by decide, by decide, ?_⟩
    refine planVar (p := Pl.planOf l of) hR fun px wC xC PX => ?_
    have hk := Rp.mend_ok he hoe hms
    have hx := Pl.good_acc hk.good
    have his := Rp.mend_is hk
    obtain ⟨c0, c1, c2, rx, hX⟩ := PX
    have zC := zA.trans (xB.trans xC)
    have yC := x4.trans zC
    (repeat with_reducible first | refine js ?_ | refine ja ?_ | refine jw KL6 [13] (aa TF6 KX) fun _ => ?_)
    refine Run_condS (fun _ => rfl) (fun h => by cases h) (fun _ => ?_)
    cases hc : (Pl.check t f l covers q).1 with
    | false =>
      (repeat with_reducible first | refine js ?_ | refine ja ?_ | refine jw KL6 [13] (aa TF6 KX) fun _ => ?_)
      refine Run_condS (fun _ => rfl) (fun _ => ?_) (fun h => by cases h)
      (repeat with_reducible first | refine js ?_ | refine ja ?_ | refine jw KL6 [13] (aa TF6 KX) fun _ => ?_)
      refine Run_ret ?_
      simp [Rets, RetM, resV, fnd, oneOr]
      exact yC
    | true =>
      obtain ⟨_, hq, _⟩ := Pl.check_yes hc
      obtain ⟨x, hx2, hle⟩ := Rp.rep_least he hoe hq hfi.2
      rw [hms] at hx2
      obtain rfl : of = x := Option.some.inj hx2
      (repeat with_reducible first | refine js ?_ | refine ja ?_ | refine jw KL6 [13] (aa TF6 KX) fun _ => ?_)
      refine Run_condS (fun _ => rfl) (fun h => by cases h) (fun _ => ?_)
      have pC := P wC zC
      have rxn := rx.n
      simp only [PlanD.cs, AtN, KS, Nat.reduceAdd, Nat.reduceMul, Nat.reduceEqDiff, ↓reduceIte, UT] at rxn
      (repeat with_reducible first | refine js ?_ | refine ja ?_ | refine jw KL6 [13] (aa TF6 (aa pC (aa rxn KX))) fun _ => ?_)
      refine .inl (is24W (b := true) (ho.ext yC) (hP.ext yC) hX hA.ol hA.ins (by omega) his fun wD xD => ?_)
      unfold hush
      have zD := zC.trans xD
      have yD := x4.trans zD
      (repeat with_reducible first | refine js ?_ | refine ja ?_ | refine jw KL6 [13] (aa TF6 KX) fun _ => ?_)
      refine Run_condS (fun _ => rfl) (fun h => by cases h) (fun _ => ?_)
      let S : Nat → Prop := fun _ => True
      (repeat with_reducible first | refine jq ?_ | refine jk ?_ | refine jc ?_ | refine jl ?_ | refine jb ?_ | refine jo ?_ | refine ji ?_ | refine jx rfl ?_)
      refine Run_eh S [4] [(0, [1, 4]), (2, [3, 4])] (id := 13) KL6 (.first 0 (.first 2 (.alt true 1 (.alt true 3 (.alt true 4 (.free (.first 5 (.first 6 .done))) .stop) .stop) .stop))) mixed (by kernel_rfl) (by kernel_rfl) fun wE xE _ => ?_
      have zE := zD.trans xE
      have yE := x4.trans zE
      have qE := Q wE zE
      have rE := (rx.ext (xD.trans xE)).n
      simp only [PlanD.cs, AtN, KS, Nat.reduceAdd, Nat.reduceMul, Nat.reduceEqDiff, ↓reduceIte, UT] at rE
      (try simp (maxSteps := 5000000) only [KS, Nat.reduceAdd, Nat.reduceMul, Nat.reduceEqDiff, ↓reduceIte, forall_const, Int.cast_ofNat_Int, Int.reduceToNat, List.take_succ_cons, List.take_zero, List.drop_succ_cons, List.drop_zero, TF6, KL6, eh, gres, qopS, putL, ung, qE, rE]); (try simp (disch := omega) only [wrapI, tmodI, tdivI])
      refine ⟨trivial, trivial, Keep.refl _ _, ?_⟩
      refine ofW (hQ.ext yE) hq.ins (by have := hq.ol; omega) fun va wF xF sa => ⟨Keep.of_ext xF, ?_⟩
      refine ofW (p := Pl.planOf l of) (hX.ext (xD.trans (xE.trans xF))) hx.ins (by have := hx.ol; omega) fun vb wG xG sb => ⟨Keep.of_ext (xF.trans xG), ?_⟩
      rw [hk.ofs] at sb
      refine lessW (sa.ext xG) sb (by rw [Pl.ofs_len, hq.ol, hk.n]; exact Nat.le_refl _) fun wH xH => ?_
      rw [hle]
      refine ⟨rfl, ?_⟩
      (repeat with_reducible first | refine js ?_ | refine ja ?_ | refine jw KL6 [13] (aa TF6 KX) fun _ => ?_)
      refine Run_ret ?_
      simp [Rets, RetM, resV, fnd, oneOr]
      exact yE.trans (xF.trans (xG.trans xH))
end Go.Proofs.YtbfhenoiienghaaGreat
