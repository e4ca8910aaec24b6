/- Chapter 21: the reference's Check. -/
import Derived.Test.YtoadfmgnpmcbfaaGreatW21a
namespace Go.Proofs.YtoadfmgnpmcbfaaGreat
open Go Go.Fk
set_option linter.unusedSimpArgs false
set_option linter.unusedVariables false
set_option maxRecDepth 100000

theorem rfPrice (n : Int) (w : World) : Calls Tryz.prog 190 #[.int .i64 n] w fun e w' => e = .returned (.bool (Tf.price n)) ∧ Ext w w' := by
  refine Calls_of_Run (args := [.int .i64 n]) (n := 9) (rs := [.tmp 2]) Tryz.func190 rfl rfl rfl (by simp) ?_
  (repeat with_reducible first | refine js ?_ | refine ja ?_ | refine jw KL190 [] TF190 fun _ => ?_)
  refine Run_ret ?_
  simp [Rets, RetM, resV, fnd, oneOr, Ext.refl, Tf.price]
theorem priW {n : Int} {w : World} {K : Value → World → Prop} (hK : ∀ w', Ext w w' → K (.bool (Tf.price n)) w') : CallW Tryz.prog (.func (.func 190) #[] #[]) [.int .i64 n] w K :=
  CallW_pure call190 (rfPrice n w) hK
set_option maxHeartbeats 1000000 in
theorem rfCheck21 (f : TariffD) (v0 v1 v2 : Value) (w : World) (hT : TarR w f v0 v1 v2) :
    Calls Tryz.prog 162 #[.agg (f.cs v0 v1 v2).toArray] w fun e w' => e = .returned (.int .i64 (Tf.chk f)) ∧ Ext w w' := by
  have b0 := hT.b.small
  have b1 := hT.l.small
  have b2 := hT.t.small
  have l0 := hT.b.len
  have l1 := hT.l.len
  have l2 := hT.t.len
  have hk := okT_eq f
  refine Calls_of_Run (args := [.agg (f.cs v0 v1 v2).toArray]) (n := 97) (rs := [.tmp 2]) Tryz.func162 rfl rfl rfl (by simp) ?_
  (repeat with_reducible first | refine js ?_ | refine ja ?_ | refine jw KL162 [11] TF162 fun _ => ?_)
  refine SemW_box fun p w1 hN => ?_
  have x1 := hN.ext
  have G : ∀ w', Ext w1 w' → AtN w' p 0 (f.cs v0 v1 v2) := fun w' x => (hN.at_.ext x).n
  simp only [TariffD.cs, AtN, KS, Nat.reduceAdd, Nat.reduceMul, Nat.reduceEqDiff, ↓reduceIte, UT] at G
  have g1 := G w1 (Ext.refl _)
  (repeat with_reducible first | refine js ?_ | refine ja ?_ | refine jw KL162 [11] (aa TF162 (aa g1 (aa hT.b.s (aa hT.b.len (aa hT.l.s (aa hT.l.len (aa hT.t.s hT.t.len))))))) fun _ => ?_)
  refine Run_condS (fun _ => rfl) (fun h => ?_) (fun h => ?_)
  · (repeat with_reducible first | refine js ?_ | refine ja ?_ | refine jw KL162 [11] TF162 fun _ => ?_)
    refine Run_ret ?_
    have : Tf.chk f = 210 := by
      unfold Tf.chk
      rw [if_neg]
      intro hh
      rw [hk] at hh
      simp only [Bool.and_eq_true, decide_eq_true_eq] at hh
      simp only [Bool.or_eq_true, bne_iff_ne, ne_eq, decide_eq_true_eq] at h
      omega
    simp [Rets, RetM, resV, fnd, oneOr, this, x1]
  simp only [Bool.or_eq_false_iff, decide_eq_false_iff_not, bne_eq_false_iff_eq] at h
  have hn : f.Base.length = f.Leg.length ∧ 1 ≤ f.Base.length ∧ f.Base.length ≤ 8 ∧ f.Tiers.length ≤ 16 := by omega
  have hres : Tf.okT f = (allN f.Base.length (fun k => Tf.price (f.Base.getD k 0)) && allN f.Leg.length (fun k => Tf.price (f.Leg.getD k 0)) && allN f.Tiers.length (tierP f.Tiers)) := by rw [hk, decide_eq_true hn, Bool.true_and]
  (repeat with_reducible first | refine js ?_ | refine ja ?_ | refine jw KL162 [11] TF162 fun _ => ?_)
  refine Run_loopV [2, 3, 34, 52] (σ := Nat) (fun k => [(3, some (.int .i64 k)), (2, some (.int .i64 0))]) (fun k w' => k ≤ f.Base.length ∧ (∀ j, j < k → Tf.price (f.Base.getD j 0) = true ∧ Tf.price (f.Leg.getD j 0) = true) ∧ Ext w1 w') (fun k => f.Base.length - k) 0 (by simp [SubB, fnd]) ⟨by omega, by simp, Ext.refl _⟩ ?_
  rintro k w3 ⟨hkk, hf, x3⟩
  have y3 := x1.trans x3
  have g3 := G w3 x3
  (repeat with_reducible first | refine js ?_ | refine ja ?_ | refine jw KL162 [11] (aa TF162 (aa g3 (aa hT.b.s hT.b.len))) fun _ => ?_)
  refine Run_condS (fun _ => rfl) (fun h => ?_) (fun h => ?_)
  · simp at h
    have hkl := h
    obtain ⟨f1, f2, f3⟩ := (hT.b.ext y3).get hkl
    have e1 : f.Base[k] = f.Base.getD k 0 := by simp [List.getD_eq_getElem?_getD, hkl]
    rw [e1] at f1
    (repeat with_reducible first | refine js ?_ | refine ja ?_ | refine jw KL162 [11] (aa TF162 (aa g3 (aa hT.b.s (aa hT.b.len (aa f1 f2))))) fun _ => ?_)
    refine priW fun w4 x4 => ?_
    have y4 := y3.trans x4
    have g4 := G w4 (x3.trans x4)
    obtain ⟨q1, q2, q3⟩ := (hT.l.ext y4).get (show k < f.Leg.length by omega)
    have e2 : f.Leg[k]'(by omega) = f.Leg.getD k 0 := by simp [List.getD_eq_getElem?_getD, show k < f.Leg.length by omega]
    rw [e2] at q1
    (repeat with_reducible first | refine js ?_ | refine ja ?_ | refine jw KL162 [11] (aa TF162 (aa g4 (aa hT.l.s (aa hT.l.len (aa q1 q2))))) fun _ => ?_)
    refine .inr ⟨.bool (Tf.price (f.Leg.getD k 0)), fun _ => PC_pure call190 fun w5 x5 => rfPrice _ w5, fun w5 x5 => ?_⟩
    unfold hush
    have y5 := y4.trans x5
    (repeat with_reducible first | refine js ?_ | refine ja ?_ | refine jw KL162 [11] (aa TF162 (aa g4 (aa hT.l.s (aa hT.l.len (aa q1 q2))))) fun _ => ?_)
    refine Run_condS (fun _ => rfl) (fun h => ?_) (fun h => ?_)
    · (repeat with_reducible first | refine js ?_ | refine ja ?_ | refine jw KL162 [11] TF162 fun _ => ?_)
      refine Run_ret ?_
      have : Tf.chk f = 210 := by
        unfold Tf.chk
        rw [if_neg]
        intro hh
        rw [hres] at hh
        simp only [Bool.and_eq_true] at hh
        rw [allN_iff.1 hh.1.1 k hkl, allN_iff.1 hh.1.2 k (by omega)] at h
        cases h
      simp [Rets, RetM, resV, fnd, oneOr, this, y5]
    · simp at h
      (repeat with_reducible first | refine js ?_ | refine ja ?_ | refine jw KL162 [11] TF162 fun _ => ?_)
      refine Run_lp ⟨k + 1, ?_, ⟨by omega, fun j hj => ?_, x3.trans (x4.trans x5)⟩, by omega⟩
      · simp [SubB, fnd, strike, has]
      · by_cases e : j = k
        · subst e; simpa using h
        · exact hf j (by omega)
  simp at h
  obtain rfl : k = f.Base.length := by omega
  have ha : allN f.Base.length (fun k => Tf.price (f.Base.getD k 0)) = true := allN_iff.2 fun j hj => (hf j hj).1
  have hb : allN f.Leg.length (fun k => Tf.price (f.Leg.getD k 0)) = true := allN_iff.2 fun j hj => (hf j (by omega)).2
  rw [ha, hb, Bool.true_and, Bool.true_and] at hres
  (repeat with_reducible first | refine js ?_ | refine ja ?_ | refine jw KL162 [11] TF162 fun _ => ?_)
  refine Run_loopV [2, 4, 57, 96] (σ := Nat) (fun k => [(4, some (.int .i64 k)), (2, some (.int .i64 0))]) (fun k w' => k ≤ f.Tiers.length ∧ (∀ j, j < k → tierP f.Tiers j = true) ∧ Ext w1 w') (fun k => f.Tiers.length - k) 0 (by simp [SubB, fnd]) ⟨by omega, by simp, x3⟩ ?_
  rintro k w4 ⟨hkk, hf, x4⟩
  have y4 := x1.trans x4
  have g4 := G w4 x4
  (repeat with_reducible first | refine js ?_ | refine ja ?_ | refine jw KL162 [11] (aa TF162 (aa g4 (aa hT.t.s hT.t.len))) fun _ => ?_)
  refine Run_condS (fun _ => rfl) (fun h => ?_) (fun h => ?_)
  · simp at h
    have hkl := h
    obtain ⟨f1, f2⟩ := (hT.t.ext y4).tierD hkl
    have hgk : f.Tiers.getD k default = f.Tiers[k] := by simp [List.getD_eq_getElem?_getD, hkl]
    simp only [TierD.cs, AtN, KS, Nat.reduceAdd, Nat.reduceMul, Nat.reduceEqDiff, ↓reduceIte, UT] at f1
    have hbef : Tf.bef f.Tiers k = if h : 0 < k then (f.Tiers[k - 1]'(by omega)).From else 0 := by
      unfold Tf.bef
      by_cases k0 : k = 0
      · rw [if_pos k0, dif_neg (by omega)]
      · rw [if_neg k0, dif_pos (by omega)]; simp [List.getD_eq_getElem?_getD, show k - 1 < f.Tiers.length by omega]
    have htp : ∀ j, j < k → 1 ≤ (f.Tiers.getD j default).From := by
      intro j
      induction j with
      | zero =>
        intro hj
        have := hf 0 hj
        simp only [tierP, Bool.and_eq_true, decide_eq_true_eq, Tf.bef, if_pos] at this; omega
      | succ j ih =>
        intro hj
        have := hf (j + 1) hj
        have := ih (by omega)
        simp only [tierP, Bool.and_eq_true, decide_eq_true_eq, Tf.bef, Nat.add_sub_cancel, if_neg (show ¬ j + 1 = 0 by omega)] at *; omega
    by_cases k0 : k = 0
    · subst k0
      rw [dif_neg (by omega)] at hbef
      simp only [Nat.zero_mul, add_zero, Nat.zero_add] at f1
      have e0 : decide ((0 : Int) < 0) = false := by decide
      (repeat with_reducible first | refine js ?_ | refine ja ?_ | refine jw KL162 [11] (aa TF162 (aa g4 (aa hT.t.s (aa hT.t.len (aa f1 (aa e0 (aa @Nat.zero_mul KX))))))) fun _ => ?_)
      refine ⟨.bool (Tf.price f.Tiers[0].Extra), fun _ => PC_pure call190 fun w5 x5 => rfPrice _ w5, fun _ => rfl, fun w5 x5 => ?_⟩
      have hb : (decide (f.Tiers[0].From < 1) || !bOf (Value.bool (Tf.price f.Tiers[0].Extra))) = !tierP f.Tiers 0 := by
        simp only [tierP, hbef, hgk, bOf_mk]
        by_cases hh : f.Tiers[0].From < 1
        · rw [decide_eq_true hh, decide_eq_false (by omega)]; simp
        · rw [decide_eq_false hh, decide_eq_true (by omega)]; simp
      rw [hb]
      have y5 := y4.trans x5
      refine Run_condS (fun _ => rfl) (fun h => ?_) (fun h => ?_)
      · (repeat with_reducible first | refine js ?_ | refine ja ?_ | refine jw KL162 [11] TF162 fun _ => ?_)
        refine Run_ret ?_
        have : Tf.chk f = 210 := by
          unfold Tf.chk
          rw [if_neg]
          intro hh
          rw [hres] at hh
          rw [allN_iff.1 hh _ hkl] at h; cases h
        simp [Rets, RetM, resV, fnd, oneOr, this, y5]
      · have hpk : tierP f.Tiers 0 = true := by simpa using h
        (repeat with_reducible first | refine js ?_ | refine ja ?_ | refine jw KL162 [11] TF162 fun _ => ?_)
        refine Run_lp ⟨0 + 1, ?_, ⟨by omega, fun j hj => ?_, x4.trans x5⟩, by omega⟩
        · simp [SubB, fnd, strike, has]
        · by_cases e : j = 0
          · rw [e]; exact hpk
          · exact hf j (by omega)
    · rw [dif_pos (by omega)] at hbef
      obtain ⟨q1, q2⟩ := (hT.t.ext y4).tierD (show k - 1 < f.Tiers.length by omega)
      simp only [TierD.cs, AtN, KS, Nat.reduceAdd, Nat.reduceMul, Nat.reduceEqDiff, ↓reduceIte, UT] at q1
      have e0 : decide (0 < (k : Int)) = true := by simp; omega
      have e1 : ((k : Int) - 1).toNat = k - 1 := by omega
      (repeat with_reducible first | refine js ?_ | refine ja ?_ | refine jw KL162 [11] (aa TF162 (aa g4 (aa hT.t.s (aa hT.t.len (aa f1 (aa q1 (aa e0 (aa e1 KX)))))))) fun _ => ?_)
      refine ⟨.bool (Tf.price f.Tiers[k].Extra), fun _ => PC_pure call190 fun w5 x5 => rfPrice _ w5, fun _ => rfl, fun w5 x5 => ?_⟩
      have h1k := htp (k - 1) (by omega)
      have hgk1 : f.Tiers.getD (k - 1) default = f.Tiers[k - 1] := by simp [List.getD_eq_getElem?_getD, show k - 1 < f.Tiers.length by omega]
      rw [hgk1] at h1k
      have hb : (decide (f.Tiers[k].From < 1) || decide (f.Tiers[k].From ≤ f.Tiers[k - 1].From) || !bOf (Value.bool (Tf.price f.Tiers[k].Extra))) = !tierP f.Tiers k := by
        have e : decide (f.Tiers[k - 1].From < f.Tiers[k].From) = !(decide (f.Tiers[k].From < 1) || decide (f.Tiers[k].From ≤ f.Tiers[k - 1].From)) := by rw [Bool.eq_iff_iff]; simp; omega
        simp only [tierP, hbef, hgk, bOf_mk, e]; simp
      rw [hb]
      have y5 := y4.trans x5
      refine Run_condS (fun _ => rfl) (fun h => ?_) (fun h => ?_)
      · (repeat with_reducible first | refine js ?_ | refine ja ?_ | refine jw KL162 [11] TF162 fun _ => ?_)
        refine Run_ret ?_
        have : Tf.chk f = 210 := by
          unfold Tf.chk
          rw [if_neg]
          intro hh
          rw [hres] at hh
          rw [allN_iff.1 hh _ hkl] at h; cases h
        simp [Rets, RetM, resV, fnd, oneOr, this, y5]
      · have hpk : tierP f.Tiers k = true := by simpa using h
        (repeat with_reducible first | refine js ?_ | refine ja ?_ | refine jw KL162 [11] TF162 fun _ => ?_)
        refine Run_lp ⟨k + 1, ?_, ⟨by omega, fun j hj => ?_, x4.trans x5⟩, by omega⟩
        · simp [SubB, fnd, strike, has]
        · by_cases e : j = k
          · rw [e]; exact hpk
          · exact hf j (by omega)
  · simp at h
    obtain rfl : k = f.Tiers.length := by omega
    (repeat with_reducible first | refine js ?_ | refine ja ?_ | refine jw KL162 [11] TF162 fun _ => ?_)
    refine Run_ret ?_
    have : Tf.chk f = 0 := by
      unfold Tf.chk
      rw [if_pos]
      rw [hres]; exact allN_iff.2 hf
    simp [Rets, RetM, resV, fnd, oneOr, this, y4]
end Go.Proofs.YtoadfmgnpmcbfaaGreat
