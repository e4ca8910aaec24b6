import Derived.Test.YtbfhenoiienghaaGreatRbX24b
import Derived.Test.YtbfhenoiienghaaGreatRbP24d
namespace Go.Proofs.YtbfhenoiienghaaGreat
open Go Go.Fk
set_option linter.unusedSimpArgs false
set_option linter.unusedVariables false
set_option maxRecDepth 100000
set_option maxHeartbeats 2000000 in
theorem lawMore24 (vl : Value) (t : TimeD) (f : TariffD) (u0 u1 u2 vo v0 v1 v2 : Value) (l : List OrderD) (covers : Int) (p : PlanD) (run m : Int) (w : World) (hl : Sl w vl t.Lines) (hT : TarR w f u0 u1 u2) (ho : Sl w vo l) (hP : PlanR w p v0 v1 v2) (hcv : I64 covers) (hm0 : 0 ≤ m ∧ m ≤ 255) :
    Calls Tryz.prog 7 #[.agg (t.cs vl).toArray, .agg (f.cs u0 u1 u2).toArray, vo, .int .i64 covers, .agg (p.cs v0 v1 v2).toArray, .int .i64 run, .int .u8 m] w fun e w' => e = .returned (.bool true) ∧ Ext w w' := by
  refine Calls_of_Run (args := [.agg (t.cs vl).toArray, .agg (f.cs u0 u1 u2).toArray, vo, .int .i64 covers, .agg (p.cs v0 v1 v2).toArray, .int .i64 run, .int .u8 m]) (n := 92) (rs := [.tmp 14]) Tryz.func7 rfl rfl rfl (by simp) ?_
  (repeat with_reducible first | refine js ?_ | refine ja ?_ | refine jw KL7 [11] TF7 fun _ => ?_)
  refine SemW_box fun pt w1 h1 => SemW_box fun pf w2 h2 => SemW_box fun pp w3 h3 => ?_
  have x4 := h1.ext.trans (h2.ext.trans h3.ext)
  have T : ∀ w', Ext w3 w' → AtN w' pt 0 (t.cs vl) := fun w' x => (h1.at_.ext (h2.ext.trans (h3.ext.trans x))).n
  have F : ∀ w', Ext w3 w' → AtN w' pf 0 (f.cs u0 u1 u2) := fun w' x => (h2.at_.ext (h3.ext.trans x)).n
  have P : ∀ w', Ext w3 w' → AtN w' pp 0 (p.cs v0 v1 v2) := fun w' x => (h3.at_.ext x).n
  simp only [TimeD.cs, TariffD.cs, PlanD.cs, AtN, KS, Nat.reduceAdd, Nat.reduceMul, Nat.reduceEqDiff, ↓reduceIte, UT] at T F P
  (repeat with_reducible first | refine js ?_ | refine ja ?_ | refine jw KL7 [11] TF7 fun _ => ?_)
  refine sane24W fun w5 x5 => ?_
  have y5 := x4.trans x5
  have t5 := T w5 x5
  have f5 := F w5 x5
  have p5 := P w5 x5
  (repeat with_reducible first | refine js ?_ | refine ja ?_ | refine jw KL7 [11] TF7 fun _ => ?_)
  refine Run_condS (fun _ => rfl) (fun h => by cases h) (fun _ => ?_)
  (repeat with_reducible first | refine js ?_ | refine ja ?_ | refine jw KL7 [11] (aa TF7 (aa t5 (aa f5 (aa p5 KX)))) fun _ => ?_)
  refine right24W (hl.ext y5) (hT.ext y5) (ho.ext y5) (hP.ext y5) fun b w7 x7 hb => ?_
  have y7 := y5.trans x7
  have z7 := x5.trans x7
  (repeat with_reducible first | refine js ?_ | refine ja ?_ | refine jw KL7 [11] (aa TF7 KX) fun _ => ?_)
  refine Run_condS (fun _ => rfl) (fun h => ?_) (fun h => ?_)
  · (repeat with_reducible first | refine js ?_ | refine ja ?_ | refine jw KL7 [11] TF7 fun _ => ?_)
    refine Run_ret ?_
    simp [Rets, RetM, resV, fnd, oneOr, y7]
  have hbc : b = true ∧ covers ≤ 1099511627776 := by
    simp at h
    exact ⟨h.1, by omega⟩
  clear h
  obtain ⟨rfl, hc40⟩ := hbc
  obtain ⟨hfp, he, hr0, hr1⟩ := hb rfl
  obtain ⟨h0, hA⟩ := Rp.err_acc he
  have h64 := (Pl.err_ok h0).n
  have hcv' : -9223372036854775808 ≤ covers ∧ covers ≤ 9223372036854775807 := hcv
  have hcv2 : I64 (covers + m) := by unfold I64; omega
  have he2 := Rp.acc_more (show covers ≤ covers + m by omega) he
  have t7 := T w7 z7
  have f7 := F w7 z7
  have p7 := P w7 z7
  (repeat with_reducible first | refine js ?_ | refine ja ?_ | refine jw KL7 [11] (aa TF7 (aa t7 (aa f7 p7))) fun _ => ?_)
  rcases Rp.rep_cases he hr0 hr1 with ⟨hoe, hm⟩ | ⟨hoe, hmn, hm⟩ | ⟨of, hoe, hms, hm⟩
  · have hm2 : Rp.repair t f l (covers + m) p run = (Pl.noPlan, false, 2) := by
      rcases Rp.rep_cases he2 hr0 hr1 with ⟨_, h⟩ | ⟨h, _⟩ | ⟨_, h, _⟩
      · exact h
      · exact (hoe h).elim
      · exact (hoe h).elim
    refine rpRepairW (hl.ext y7) (hT.ext y7) (ho.ext y7) (hP.ext y7) hcv hm fun b0 b1 b2 wB xB hR => ?_
    (try simp (maxSteps := 5000000) only [KS, Nat.reduceAdd, Nat.reduceMul, Nat.reduceEqDiff, ↓reduceIte, forall_const, Int.cast_ofNat_Int, Int.reduceToNat, List.take_succ_cons, List.take_zero, List.drop_succ_cons, List.drop_zero, TF7, KL7]); (try simp (disch := omega) only [wrapI, tmodI, tdivI])
    refine ⟨by decide, by decide, by decide, ?_⟩
    refine planVar hR fun px wC xC _ => ?_
    have xBC := xB.trans xC
    have zC := z7.trans xBC
    have yC := x4.trans zC
    have tC := T wC zC
    have fC := F wC zC
    have pC := P wC zC
    (repeat with_reducible first | refine js ?_ | refine ja ?_ | refine jw KL7 [11] (aa TF7 (aa tC (aa fC pC))) fun _ => ?_)
    refine rpRepairW (hl.ext yC) (hT.ext yC) (ho.ext yC) (hP.ext yC) hcv2 hm2 fun b0 b1 b2 wD xD hR2 => ?_
    (try simp (maxSteps := 5000000) only [KS, Nat.reduceAdd, Nat.reduceMul, Nat.reduceEqDiff, ↓reduceIte, forall_const, Int.cast_ofNat_Int, Int.reduceToNat, List.take_succ_cons, List.take_zero, List.drop_succ_cons, List.drop_zero, TF7, KL7]); (try simp (disch := omega) only [wrapI, tmodI, tdivI])
    refine ⟨by decide, by decide, by decide, ?_⟩
    refine planVar hR2 fun py wE xE PY => ?_
    (repeat with_reducible first | refine js ?_ | refine ja ?_ | refine jw KL7 [11] (aa TF7 KX) fun _ => ?_)
    refine Run_condS (fun _ => rfl) (fun h => by cases h) (fun _ => ?_)
    (repeat with_reducible first | refine js ?_ | refine ja ?_ | refine jw KL7 [11] (aa TF7 KX) fun _ => ?_)
    refine Run_condS (fun _ => rfl) (fun _ => ?_) (fun h => by cases h)
    (repeat with_reducible first | refine js ?_ | refine ja ?_ | refine jw KL7 [11] (aa TF7 KX) fun _ => ?_)
    refine Run_ret ?_
    simp [Rets, RetM, resV, fnd, oneOr]
    exact yC.trans (xD.trans xE)
  · refine rpRepairW (hl.ext y7) (hT.ext y7) (ho.ext y7) (hP.ext y7) hcv hm fun b0 b1 b2 wB xB hR => ?_
    (try simp (maxSteps := 5000000) only [KS, Nat.reduceAdd, Nat.reduceMul, Nat.reduceEqDiff, ↓reduceIte, forall_const, Int.cast_ofNat_Int, Int.reduceToNat, List.take_succ_cons, List.take_zero, List.drop_succ_cons, List.drop_zero, TF7, KL7]); (try simp (disch := omega) only [wrapI, tmodI, tdivI])
    refine ⟨by decide, by decide, by decide, ?_⟩
    refine planVar hR fun px wC xC _ => ?_
    have xBC := xB.trans xC
    have zC := z7.trans xBC
    have yC := x4.trans zC
    have tC := T wC zC
    have fC := F wC zC
    have pC := P wC zC
    (repeat with_reducible first | refine js ?_ | refine ja ?_ | refine jw KL7 [11] (aa TF7 (aa tC (aa fC pC))) fun _ => ?_)
    have hm3 : ∃ pl ok, Rp.repair t f l (covers + m) p run = (pl, ok, 0) := by
      rcases Rp.rep_cases he2 hr0 hr1 with ⟨h, _⟩ | ⟨_, _, h⟩ | ⟨_, _, _, h⟩
      · exact (h hoe).elim
      · exact ⟨_, _, h⟩
      · exact ⟨_, _, h⟩
    obtain ⟨pl, ok2, hm2⟩ := hm3
    refine rpRepairW (hl.ext yC) (hT.ext yC) (ho.ext yC) (hP.ext yC) hcv2 hm2 fun b0 b1 b2 wD xD hR2 => ?_
    (try simp (maxSteps := 5000000) only [KS, Nat.reduceAdd, Nat.reduceMul, Nat.reduceEqDiff, ↓reduceIte, forall_const, Int.cast_ofNat_Int, Int.reduceToNat, List.take_succ_cons, List.take_zero, List.drop_succ_cons, List.drop_zero, TF7, KL7]); (try simp (disch := omega) only [wrapI, tmodI, tdivI])
    refine ⟨by decide, by decide, by decide, ?_⟩
    refine planVar hR2 fun py wE xE PY => ?_
    (repeat with_reducible first | refine js ?_ | refine ja ?_ | refine jw KL7 [11] (aa TF7 KX) fun _ => ?_)
    refine Run_condS (fun _ => rfl) (fun h => by cases h) (fun _ => ?_)
    (repeat with_reducible first | refine js ?_ | refine ja ?_ | refine jw KL7 [11] (aa TF7 KX) fun _ => ?_)
    refine Run_condS (fun _ => rfl) (fun _ => ?_) (fun h => by cases h)
    (repeat with_reducible first | refine js ?_ | refine ja ?_ | refine jw KL7 [11] (aa TF7 KX) fun _ => ?_)
    refine Run_ret ?_
    simp [Rets, RetM, resV, fnd, oneOr]
    exact yC.trans (xD.trans xE)
  · obtain ⟨of2, hms2, hle⟩ := Rp.rep_more (show covers ≤ covers + m by omega) he hoe hms
    have hm2 : Rp.repair t f l (covers + m) p run = (Pl.planOf l of2, true, 0) := by
      rcases Rp.rep_cases he2 hr0 hr1 with ⟨h, _⟩ | ⟨_, h, _⟩ | ⟨y, _, h, h2⟩
      · exact (h hoe).elim
      · rw [hms2] at h; cases h
      · rw [hms2] at h
        obtain rfl := Option.some.inj h
        exact h2
    have hk := Rp.mend_ok he hoe hms
    have hk2 := Rp.mend_ok he2 hoe hms2
    have hx := Pl.good_acc hk.good
    have hx2 := Pl.good_acc hk2.good
    have his := Rp.mend_is hk
    have his2 := Rp.mend_is hk2
    refine rpRepairW (hl.ext y7) (hT.ext y7) (ho.ext y7) (hP.ext y7) hcv hm fun b0 b1 b2 wB xB hR => ?_
    (try simp (maxSteps := 5000000) only [KS, Nat.reduceAdd, Nat.reduceMul, Nat.reduceEqDiff, ↓reduceIte, forall_const, Int.cast_ofNat_Int, Int.reduceToNat, List.take_succ_cons, List.take_zero, List.drop_succ_cons, List.drop_zero, TF7, KL7]); (try simp (disch := omega) only [wrapI, tmodI, tdivI])
    refine ⟨by decide, by decide, by decide, ?_⟩
    refine planVar (p := Pl.planOf l of) hR fun px wC xC PX => ?_
    have xBC := xB.trans xC
    have zC := z7.trans xBC
    have yC := x4.trans zC
    have tC := T wC zC
    have fC := F wC zC
    have pC := P wC zC
    (repeat with_reducible first | refine js ?_ | refine ja ?_ | refine jw KL7 [11] (aa TF7 (aa tC (aa fC pC))) fun _ => ?_)
    refine rpRepairW (hl.ext yC) (hT.ext yC) (ho.ext yC) (hP.ext yC) hcv2 hm2 fun b0 b1 b2 wD xD hR2 => ?_
    (try simp (maxSteps := 5000000) only [KS, Nat.reduceAdd, Nat.reduceMul, Nat.reduceEqDiff, ↓reduceIte, forall_const, Int.cast_ofNat_Int, Int.reduceToNat, List.take_succ_cons, List.take_zero, List.drop_succ_cons, List.drop_zero, TF7, KL7]); (try simp (disch := omega) only [wrapI, tmodI, tdivI])
    refine ⟨by decide, by decide, by decide, ?_⟩
    refine planVar (p := Pl.planOf l of2) hR2 fun py wE xE PY => ?_
    (repeat with_reducible first | refine js ?_ | refine ja ?_ | refine jw KL7 [11] (aa TF7 KX) fun _ => ?_)
    refine Run_condS (fun _ => rfl) (fun h => by cases h) (fun _ => ?_)
    (repeat with_reducible first | refine js ?_ | refine ja ?_ | refine jw KL7 [11] (aa TF7 KX) fun _ => ?_)
    refine Run_condS (fun _ => rfl) (fun h => by cases h) (fun _ => ?_)
    have xDE := xD.trans xE
    have zE := zC.trans xDE
    have yE := x4.trans zE
    obtain ⟨c0, c1, c2, rx, hX⟩ := PX.ext xDE
    obtain ⟨d0, d1, d2, ry, hY⟩ := PY
    let S : Nat → Prop := fun _ => True
    (repeat with_reducible first | refine jq ?_ | refine jk ?_ | refine jc ?_ | refine jl ?_ | refine jb ?_ | refine jo ?_ | refine ji ?_ | refine jx rfl ?_)
    refine Run_eh S [20] [(3, [6, 8, 13, 15, 20]), (4, [6, 8, 13, 15, 20]), (10, [13, 15, 20]), (11, [13, 15, 20]), (16, [17, 20]), (18, [19, 20])] (id := 11) KL7 (.first 0 (.first 1 (.first 2 (.first 3 (.first 4 (.first 5 (.alt true 6 (.alt true 7 (.first 8 (.first 9 (.first 10 (.first 11 (.first 12 (.alt true 13 (.alt true 14 (.first 15 (.first 16 (.first 18 (.alt true 17 (.alt true 19 (.alt true 20 (.first 21 (.free (.alt 22 (.first 23 .done) .stop))) .stop) .stop) .stop)))) .stop) .stop)))))) .stop) .stop))))))) mixed (by kernel_rfl) (by kernel_rfl) fun w12 x12 _ => ?_
    have p12 := P w12 (zE.trans x12)
    have px12 := (rx.ext x12).n
    have py12 := (ry.ext x12).n
    simp only [AtN, KS, Nat.reduceAdd, Nat.reduceMul, Nat.reduceEqDiff, ↓reduceIte, UT, PlanD.cs] at px12 py12
    (repeat first | with_reducible exact eh_stop | (with_reducible refine And.intro ?_ ?_; (first | exact trivial | exact rfl | omega)) | refine eh_skip1 rfl rfl rfl rfl rfl rfl ?_ | (refine eh_go1 rfl rfl rfl rfl rfl rfl fun _ => ?_; try (try simp (maxSteps := 5000000) only [KS, Nat.reduceAdd, Nat.reduceMul, Nat.reduceEqDiff, ↓reduceIte, forall_const, Int.cast_ofNat_Int, Int.reduceToNat, List.take_succ_cons, List.take_zero, List.drop_succ_cons, List.drop_zero, TF7, KL7, gres, qopS, putL, ung, p12, px12, py12]); (try simp (disch := omega) only [wrapI, tmodI, tdivI])) | (refine eh_fr1 rfl rfl fun _ => ?_; try (try simp (maxSteps := 5000000) only [KS, Nat.reduceAdd, Nat.reduceMul, Nat.reduceEqDiff, ↓reduceIte, forall_const, Int.cast_ofNat_Int, Int.reduceToNat, List.take_succ_cons, List.take_zero, List.drop_succ_cons, List.drop_zero, TF7, KL7, gres, qopS, putL, ung, p12, px12, py12]); (try simp (disch := omega) only [wrapI, tmodI, tdivI])) | (refine eh_frA rfl rfl (fun _ => by first | exact Keep.refl _ _ | assumption) (fun _ => ?_) eh_stop; try (try simp (maxSteps := 5000000) only [KS, Nat.reduceAdd, Nat.reduceMul, Nat.reduceEqDiff, ↓reduceIte, forall_const, Int.cast_ofNat_Int, Int.reduceToNat, List.take_succ_cons, List.take_zero, List.drop_succ_cons, List.drop_zero, TF7, KL7, gres, qopS, putL, ung, p12, px12, py12]); (try simp (disch := omega) only [wrapI, tmodI, tdivI])) | (refine eh_goA rfl rfl rfl rfl rfl rfl (fun _ => by first | exact Keep.refl _ _ | assumption) (fun _ => ?_) eh_stop; try (try simp (maxSteps := 5000000) only [KS, Nat.reduceAdd, Nat.reduceMul, Nat.reduceEqDiff, ↓reduceIte, forall_const, Int.cast_ofNat_Int, Int.reduceToNat, List.take_succ_cons, List.take_zero, List.drop_succ_cons, List.drop_zero, TF7, KL7, gres, qopS, putL, ung, p12, px12, py12]); (try simp (disch := omega) only [wrapI, tmodI, tdivI])) | (refine eh_skipA rfl rfl rfl rfl rfl rfl (fun _ => by first | exact Keep.refl _ _ | assumption) ?_ eh_stop))
    refine is24W (b := true) (ho.ext (yE.trans x12)) (hP.ext (yE.trans x12)) (hX.ext x12) hA.ol hA.ins (by omega) his fun w13 x13 => ?_
    have p13 := P w13 (zE.trans (x12.trans x13))
    have px13 := (rx.ext (x12.trans x13)).n
    have py13 := (ry.ext (x12.trans x13)).n
    simp only [AtN, KS, Nat.reduceAdd, Nat.reduceMul, Nat.reduceEqDiff, ↓reduceIte, UT, PlanD.cs] at px13 py13
    have k13 : Keep S w12 w13 := Keep.of_ext x13
    (repeat first | with_reducible exact eh_stop | (with_reducible refine And.intro ?_ ?_; (first | exact trivial | exact rfl | omega)) | refine eh_skip1 rfl rfl rfl rfl rfl rfl ?_ | (refine eh_go1 rfl rfl rfl rfl rfl rfl fun _ => ?_; try (try simp (maxSteps := 5000000) only [KS, Nat.reduceAdd, Nat.reduceMul, Nat.reduceEqDiff, ↓reduceIte, forall_const, Int.cast_ofNat_Int, Int.reduceToNat, List.take_succ_cons, List.take_zero, List.drop_succ_cons, List.drop_zero, TF7, KL7, gres, qopS, putL, ung, p12, px12, py12, p13, px13, py13]); (try simp (disch := omega) only [wrapI, tmodI, tdivI])) | (refine eh_fr1 rfl rfl fun _ => ?_; try (try simp (maxSteps := 5000000) only [KS, Nat.reduceAdd, Nat.reduceMul, Nat.reduceEqDiff, ↓reduceIte, forall_const, Int.cast_ofNat_Int, Int.reduceToNat, List.take_succ_cons, List.take_zero, List.drop_succ_cons, List.drop_zero, TF7, KL7, gres, qopS, putL, ung, p12, px12, py12, p13, px13, py13]); (try simp (disch := omega) only [wrapI, tmodI, tdivI])) | (refine eh_frA rfl rfl (fun _ => by first | exact Keep.refl _ _ | assumption) (fun _ => ?_) eh_stop; try (try simp (maxSteps := 5000000) only [KS, Nat.reduceAdd, Nat.reduceMul, Nat.reduceEqDiff, ↓reduceIte, forall_const, Int.cast_ofNat_Int, Int.reduceToNat, List.take_succ_cons, List.take_zero, List.drop_succ_cons, List.drop_zero, TF7, KL7, gres, qopS, putL, ung, p12, px12, py12, p13, px13, py13]); (try simp (disch := omega) only [wrapI, tmodI, tdivI])) | (refine eh_goA rfl rfl rfl rfl rfl rfl (fun _ => by first | exact Keep.refl _ _ | assumption) (fun _ => ?_) eh_stop; try (try simp (maxSteps := 5000000) only [KS, Nat.reduceAdd, Nat.reduceMul, Nat.reduceEqDiff, ↓reduceIte, forall_const, Int.cast_ofNat_Int, Int.reduceToNat, List.take_succ_cons, List.take_zero, List.drop_succ_cons, List.drop_zero, TF7, KL7, gres, qopS, putL, ung, p12, px12, py12, p13, px13, py13]); (try simp (disch := omega) only [wrapI, tmodI, tdivI])) | (refine eh_skipA rfl rfl rfl rfl rfl rfl (fun _ => by first | exact Keep.refl _ _ | assumption) ?_ eh_stop))
    refine is24W (b := true) (ho.ext (yE.trans (x12.trans x13))) (hP.ext (yE.trans (x12.trans x13))) (hY.ext (x12.trans x13)) hA.ol hA.ins (by omega) his2 fun w14 x14 => ?_
    have p14 := P w14 (zE.trans (x12.trans (x13.trans x14)))
    have px14 := (rx.ext (x12.trans (x13.trans x14))).n
    have py14 := (ry.ext (x12.trans (x13.trans x14))).n
    simp only [AtN, KS, Nat.reduceAdd, Nat.reduceMul, Nat.reduceEqDiff, ↓reduceIte, UT, PlanD.cs] at px14 py14
    have k14 : Keep S w12 w14 := Keep.of_ext (x13.trans x14)
    (repeat first | with_reducible exact eh_stop | (with_reducible refine And.intro ?_ ?_; (first | exact trivial | exact rfl | omega)) | refine eh_skip1 rfl rfl rfl rfl rfl rfl ?_ | (refine eh_go1 rfl rfl rfl rfl rfl rfl fun _ => ?_; try (try simp (maxSteps := 5000000) only [KS, Nat.reduceAdd, Nat.reduceMul, Nat.reduceEqDiff, ↓reduceIte, forall_const, Int.cast_ofNat_Int, Int.reduceToNat, List.take_succ_cons, List.take_zero, List.drop_succ_cons, List.drop_zero, TF7, KL7, gres, qopS, putL, ung, p12, px12, py12, p13, px13, py13, p14, px14, py14]); (try simp (disch := omega) only [wrapI, tmodI, tdivI])) | (refine eh_fr1 rfl rfl fun _ => ?_; try (try simp (maxSteps := 5000000) only [KS, Nat.reduceAdd, Nat.reduceMul, Nat.reduceEqDiff, ↓reduceIte, forall_const, Int.cast_ofNat_Int, Int.reduceToNat, List.take_succ_cons, List.take_zero, List.drop_succ_cons, List.drop_zero, TF7, KL7, gres, qopS, putL, ung, p12, px12, py12, p13, px13, py13, p14, px14, py14]); (try simp (disch := omega) only [wrapI, tmodI, tdivI])) | (refine eh_frA rfl rfl (fun _ => by first | exact Keep.refl _ _ | assumption) (fun _ => ?_) eh_stop; try (try simp (maxSteps := 5000000) only [KS, Nat.reduceAdd, Nat.reduceMul, Nat.reduceEqDiff, ↓reduceIte, forall_const, Int.cast_ofNat_Int, Int.reduceToNat, List.take_succ_cons, List.take_zero, List.drop_succ_cons, List.drop_zero, TF7, KL7, gres, qopS, putL, ung, p12, px12, py12, p13, px13, py13, p14, px14, py14]); (try simp (disch := omega) only [wrapI, tmodI, tdivI])) | (refine eh_goA rfl rfl rfl rfl rfl rfl (fun _ => by first | exact Keep.refl _ _ | assumption) (fun _ => ?_) eh_stop; try (try simp (maxSteps := 5000000) only [KS, Nat.reduceAdd, Nat.reduceMul, Nat.reduceEqDiff, ↓reduceIte, forall_const, Int.cast_ofNat_Int, Int.reduceToNat, List.take_succ_cons, List.take_zero, List.drop_succ_cons, List.drop_zero, TF7, KL7, gres, qopS, putL, ung, p12, px12, py12, p13, px13, py13, p14, px14, py14]); (try simp (disch := omega) only [wrapI, tmodI, tdivI])) | (refine eh_skipA rfl rfl rfl rfl rfl rfl (fun _ => by first | exact Keep.refl _ _ | assumption) ?_ eh_stop))
    refine ofW (p := Pl.planOf l of) (hX.ext (x12.trans (x13.trans x14))) hx.ins (by have := hx.ol; omega) fun va w15 x15 sa => ?_
    rw [hk.ofs] at sa
    have k15 : Keep S w12 w15 := Keep.of_ext (x13.trans (x14.trans x15))
    have py15 := (ry.ext (x12.trans (x13.trans (x14.trans x15)))).n
    simp only [AtN, KS, Nat.reduceAdd, Nat.reduceMul, Nat.reduceEqDiff, ↓reduceIte, UT, PlanD.cs] at py15
    (repeat first | with_reducible exact eh_stop | (with_reducible refine And.intro ?_ ?_; (first | exact trivial | exact rfl | omega)) | refine eh_skip1 rfl rfl rfl rfl rfl rfl ?_ | (refine eh_go1 rfl rfl rfl rfl rfl rfl fun _ => ?_; try (try simp (maxSteps := 5000000) only [KS, Nat.reduceAdd, Nat.reduceMul, Nat.reduceEqDiff, ↓reduceIte, forall_const, Int.cast_ofNat_Int, Int.reduceToNat, List.take_succ_cons, List.take_zero, List.drop_succ_cons, List.drop_zero, TF7, KL7, gres, qopS, putL, ung, p12, px12, py12, p13, px13, py13, p14, px14, py14, py15]); (try simp (disch := omega) only [wrapI, tmodI, tdivI])) | (refine eh_fr1 rfl rfl fun _ => ?_; try (try simp (maxSteps := 5000000) only [KS, Nat.reduceAdd, Nat.reduceMul, Nat.reduceEqDiff, ↓reduceIte, forall_const, Int.cast_ofNat_Int, Int.reduceToNat, List.take_succ_cons, List.take_zero, List.drop_succ_cons, List.drop_zero, TF7, KL7, gres, qopS, putL, ung, p12, px12, py12, p13, px13, py13, p14, px14, py14, py15]); (try simp (disch := omega) only [wrapI, tmodI, tdivI])) | (refine eh_frA rfl rfl (fun _ => by first | exact Keep.refl _ _ | assumption) (fun _ => ?_) eh_stop; try (try simp (maxSteps := 5000000) only [KS, Nat.reduceAdd, Nat.reduceMul, Nat.reduceEqDiff, ↓reduceIte, forall_const, Int.cast_ofNat_Int, Int.reduceToNat, List.take_succ_cons, List.take_zero, List.drop_succ_cons, List.drop_zero, TF7, KL7, gres, qopS, putL, ung, p12, px12, py12, p13, px13, py13, p14, px14, py14, py15]); (try simp (disch := omega) only [wrapI, tmodI, tdivI])) | (refine eh_goA rfl rfl rfl rfl rfl rfl (fun _ => by first | exact Keep.refl _ _ | assumption) (fun _ => ?_) eh_stop; try (try simp (maxSteps := 5000000) only [KS, Nat.reduceAdd, Nat.reduceMul, Nat.reduceEqDiff, ↓reduceIte, forall_const, Int.cast_ofNat_Int, Int.reduceToNat, List.take_succ_cons, List.take_zero, List.drop_succ_cons, List.drop_zero, TF7, KL7, gres, qopS, putL, ung, p12, px12, py12, p13, px13, py13, p14, px14, py14, py15]); (try simp (disch := omega) only [wrapI, tmodI, tdivI])) | (refine eh_skipA rfl rfl rfl rfl rfl rfl (fun _ => by first | exact Keep.refl _ _ | assumption) ?_ eh_stop))
    refine ofW (p := Pl.planOf l of2) (hY.ext (x12.trans (x13.trans (x14.trans x15)))) hx2.ins (by have := hx2.ol; omega) fun vb w16 x16 sb => ?_
    rw [hk2.ofs] at sb
    have k16 : Keep S w12 w16 := Keep.of_ext (x13.trans (x14.trans (x15.trans x16)))
    (repeat first | with_reducible exact eh_stop | (with_reducible refine And.intro ?_ ?_; (first | exact trivial | exact rfl | omega)) | refine eh_skip1 rfl rfl rfl rfl rfl rfl ?_ | (refine eh_go1 rfl rfl rfl rfl rfl rfl fun _ => ?_; try (try simp (maxSteps := 5000000) only [KS, Nat.reduceAdd, Nat.reduceMul, Nat.reduceEqDiff, ↓reduceIte, forall_const, Int.cast_ofNat_Int, Int.reduceToNat, List.take_succ_cons, List.take_zero, List.drop_succ_cons, List.drop_zero, TF7, KL7, gres, qopS, putL, ung, p12, px12, py12, p13, px13, py13, p14, px14, py14]); (try simp (disch := omega) only [wrapI, tmodI, tdivI])) | (refine eh_fr1 rfl rfl fun _ => ?_; try (try simp (maxSteps := 5000000) only [KS, Nat.reduceAdd, Nat.reduceMul, Nat.reduceEqDiff, ↓reduceIte, forall_const, Int.cast_ofNat_Int, Int.reduceToNat, List.take_succ_cons, List.take_zero, List.drop_succ_cons, List.drop_zero, TF7, KL7, gres, qopS, putL, ung, p12, px12, py12, p13, px13, py13, p14, px14, py14]); (try simp (disch := omega) only [wrapI, tmodI, tdivI])) | (refine eh_frA rfl rfl (fun _ => by first | exact Keep.refl _ _ | assumption) (fun _ => ?_) eh_stop; try (try simp (maxSteps := 5000000) only [KS, Nat.reduceAdd, Nat.reduceMul, Nat.reduceEqDiff, ↓reduceIte, forall_const, Int.cast_ofNat_Int, Int.reduceToNat, List.take_succ_cons, List.take_zero, List.drop_succ_cons, List.drop_zero, TF7, KL7, gres, qopS, putL, ung, p12, px12, py12, p13, px13, py13, p14, px14, py14]); (try simp (disch := omega) only [wrapI, tmodI, tdivI])) | (refine eh_goA rfl rfl rfl rfl rfl rfl (fun _ => by first | exact Keep.refl _ _ | assumption) (fun _ => ?_) eh_stop; try (try simp (maxSteps := 5000000) only [KS, Nat.reduceAdd, Nat.reduceMul, Nat.reduceEqDiff, ↓reduceIte, forall_const, Int.cast_ofNat_Int, Int.reduceToNat, List.take_succ_cons, List.take_zero, List.drop_succ_cons, List.drop_zero, TF7, KL7, gres, qopS, putL, ung, p12, px12, py12, p13, px13, py13, p14, px14, py14]); (try simp (disch := omega) only [wrapI, tmodI, tdivI])) | (refine eh_skipA rfl rfl rfl rfl rfl rfl (fun _ => by first | exact Keep.refl _ _ | assumption) ?_ eh_stop))
    refine lessW (sa.ext x16) sb (by rw [hk.n, hk2.n]; exact Nat.le_refl _) fun w17 x17 => ?_
    rw [hle]
    have k17 : Keep S w12 w17 := Keep.of_ext (x13.trans (x14.trans (x15.trans (x16.trans x17))))
    (repeat first | with_reducible exact eh_stop | (with_reducible refine And.intro ?_ ?_; (first | exact trivial | exact rfl | omega)) | refine eh_skip1 rfl rfl rfl rfl rfl rfl ?_ | (refine eh_go1 rfl rfl rfl rfl rfl rfl fun _ => ?_; try (try simp (maxSteps := 5000000) only [KS, Nat.reduceAdd, Nat.reduceMul, Nat.reduceEqDiff, ↓reduceIte, forall_const, Int.cast_ofNat_Int, Int.reduceToNat, List.take_succ_cons, List.take_zero, List.drop_succ_cons, List.drop_zero, TF7, KL7, gres, qopS, putL, ung, p12, px12, py12, p13, px13, py13, p14, px14, py14]); (try simp (disch := omega) only [wrapI, tmodI, tdivI])) | (refine eh_fr1 rfl rfl fun _ => ?_; try (try simp (maxSteps := 5000000) only [KS, Nat.reduceAdd, Nat.reduceMul, Nat.reduceEqDiff, ↓reduceIte, forall_const, Int.cast_ofNat_Int, Int.reduceToNat, List.take_succ_cons, List.take_zero, List.drop_succ_cons, List.drop_zero, TF7, KL7, gres, qopS, putL, ung, p12, px12, py12, p13, px13, py13, p14, px14, py14]); (try simp (disch := omega) only [wrapI, tmodI, tdivI])) | (refine eh_frA rfl rfl (fun _ => by first | exact Keep.refl _ _ | assumption) (fun _ => ?_) eh_stop; try (try simp (maxSteps := 5000000) only [KS, Nat.reduceAdd, Nat.reduceMul, Nat.reduceEqDiff, ↓reduceIte, forall_const, Int.cast_ofNat_Int, Int.reduceToNat, List.take_succ_cons, List.take_zero, List.drop_succ_cons, List.drop_zero, TF7, KL7, gres, qopS, putL, ung, p12, px12, py12, p13, px13, py13, p14, px14, py14]); (try simp (disch := omega) only [wrapI, tmodI, tdivI])) | (refine eh_goA rfl rfl rfl rfl rfl rfl (fun _ => by first | exact Keep.refl _ _ | assumption) (fun _ => ?_) eh_stop; try (try simp (maxSteps := 5000000) only [KS, Nat.reduceAdd, Nat.reduceMul, Nat.reduceEqDiff, ↓reduceIte, forall_const, Int.cast_ofNat_Int, Int.reduceToNat, List.take_succ_cons, List.take_zero, List.drop_succ_cons, List.drop_zero, TF7, KL7, gres, qopS, putL, ung, p12, px12, py12, p13, px13, py13, p14, px14, py14]); (try simp (disch := omega) only [wrapI, tmodI, tdivI])) | (refine eh_skipA rfl rfl rfl rfl rfl rfl (fun _ => by first | exact Keep.refl _ _ | assumption) ?_ eh_stop))
    (try simp (maxSteps := 5000000) only [KS, Nat.reduceAdd, Nat.reduceMul, Nat.reduceEqDiff, ↓reduceIte, forall_const, Int.cast_ofNat_Int, Int.reduceToNat, List.take_succ_cons, List.take_zero, List.drop_succ_cons, List.drop_zero, TF7, KL7, eh, gres, qopS, putL, ung]); (try simp (disch := omega) only [wrapI, tmodI, tdivI])
    refine Run_ret ?_
    simp [Rets, RetM, resV, fnd, oneOr]
    exact yE.trans (x12.trans (x13.trans (x14.trans (x15.trans (x16.trans x17)))))
end Go.Proofs.YtbfhenoiienghaaGreat
