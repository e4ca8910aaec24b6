/- Chapters 18, 22: the references' Right, Error and fits. -/
import Derived.Test.YtoadfmgnpmcbfaaGreatW22g
import Derived.Test.YtoadfmgnpmcbfaaGreatW20x
namespace Go.Proofs.YtoadfmgnpmcbfaaGreat
open Go Go.Fk
set_option linter.unusedSimpArgs false
set_option linter.unusedVariables false
set_option maxRecDepth 100000

set_option maxHeartbeats 2000000 in
theorem rfRight18 (o : OrderD) (v0 : Value) (n p c : Int) (w : World) (hO : OrdR w o v0) :
    Calls Tryz.prog 163 #[.agg (o.cs v0).toArray, .int .i64 n, .int .i64 p, .int .i64 c] w fun e w' => e = .returned (.bool (Pl.oright o n p c)) ∧ Ext w w' := by
  have hgl := hO.g.len
  have hgs := hO.g.small
  refine Calls_of_Run (args := [.agg (o.cs v0).toArray, .int .i64 n, .int .i64 p, .int .i64 c]) (n := 147) (rs := [.tmp 8]) Tryz.func163 rfl rfl rfl (by simp) ?_
  (repeat with_reducible first | refine js ?_ | refine ja ?_ | refine jw KL163 [8] TF163 fun _ => ?_)
  refine SemW_box fun po w1 h1 => ?_
  have x1 := h1.ext
  have O : ∀ w', Ext w1 w' → AtN w' po 0 (o.cs v0) := fun w' x => (h1.at_.ext x).n
  simp only [OrderD.cs, AtN, KS, Nat.reduceAdd, Nat.reduceMul, Nat.reduceEqDiff, ↓reduceIte, UT] at O
  have o1 := O w1 (Ext.refl _)
  (repeat with_reducible first | refine js ?_ | refine ja ?_ | refine jw KL163 [8] (aa TF163 o1) fun _ => ?_)
  refine Run_condS (fun _ => rfl) (fun h => ?_) (fun h => ?_)
  · (repeat with_reducible first | refine js ?_ | refine ja ?_ | refine jw KL163 [8] TF163 fun _ => ?_)
    refine Run_ret ?_
    have : Pl.oright o n p c = false := by
      have : Pl.oNum o n p c = false := by
        unfold Pl.oNum
        simp only [Bool.or_eq_true, decide_eq_true_eq, beq_iff_eq] at h
        simp only [decide_eq_false_iff_not]; omega
      simp [Pl.oright, this]
    simp [Rets, RetM, resV, fnd, oneOr, this, x1]
  simp only [Bool.or_eq_false_iff, decide_eq_false_iff_not, beq_eq_false_iff_ne, ne_eq] at h
  have hA := h
  clear h
  (repeat with_reducible first | refine js ?_ | refine ja ?_ | refine jw KL163 [8] (aa TF163 o1) fun _ => ?_)
  refine Run_condS (fun _ => rfl) (fun h => ?_) (fun h => ?_)
  · (repeat with_reducible first | refine js ?_ | refine ja ?_ | refine jw KL163 [8] TF163 fun _ => ?_)
    refine Run_ret ?_
    have : Pl.oright o n p c = false := by
      have : Pl.oNum o n p c = false := by
        unfold Pl.oNum
        simp only [Bool.or_eq_true, decide_eq_true_eq] at h
        simp only [decide_eq_false_iff_not]; omega
      simp [Pl.oright, this]
    simp [Rets, RetM, resV, fnd, oneOr, this, x1]
  simp only [Bool.or_eq_false_iff, decide_eq_false_iff_not] at h
  have hB := h
  clear h
  have hag := agF_all n o.Against
  (repeat with_reducible first | refine js ?_ | refine ja ?_ | refine jw KL163 [8] TF163 fun _ => ?_)
  refine Run_loopV [8, 9, 98, 133] (σ := Nat) (fun k => [(9, some (.int .i64 k)), (8, some (.bool false))]) (fun k w' => k ≤ o.Against.length ∧ (∀ j, j < k → agP n o.Against j = true) ∧ Ext w1 w') (fun k => o.Against.length - k) 0 (by simp [SubB, fnd]) ⟨by omega, by simp, Ext.refl _⟩ ?_
  rintro k w2 ⟨hk, hf, x2⟩
  have y2 := x1.trans x2
  have o2 := O w2 x2
  (repeat with_reducible first | refine js ?_ | refine ja ?_ | refine jw KL163 [8] (aa TF163 (aa o2 (aa hO.g.s hO.g.len))) fun _ => ?_)
  refine Run_condS (fun _ => rfl) (fun h => ?_) (fun h => ?_)
  · simp at h
    have hkl := h
    obtain ⟨f1, f2, f3⟩ := (hO.g.ext y2).get hkl
    have e1 : o.Against[k] = o.Against.getD k 0 := by simp [List.getD_eq_getElem?_getD, hkl]
    rw [e1] at f1
    have hbad : agP n o.Against k = false → Pl.oright o n p c = false := fun hh => by
      rw [Pl.oright, hag, allN_false hkl hh, Bool.and_false]
    by_cases k0 : k = 0
    · have e0 : decide (0 < (k : Int)) = false := by simp; omega
      have hp : (decide (o.Against.getD k 0 < 0) || decide (n ≤ o.Against.getD k 0)) = !agP n o.Against k := by
        rw [Bool.eq_iff_iff]; simp [agP, k0]
      (repeat with_reducible first | refine js ?_ | refine ja ?_ | refine jw KL163 [8] (aa TF163 (aa o2 (aa hO.g.s (aa hO.g.len (aa f1 (aa f2 (aa e0 KX))))))) fun _ => ?_)
      intro w3 x3
      have y3 := y2.trans x3
      refine Run_condS (fun _ => rfl) (fun h => ?_) (fun h => ?_)
      · have h2 : (!agP n o.Against k) = true := hp.symm.trans h
        (repeat with_reducible first | refine js ?_ | refine ja ?_ | refine jw KL163 [8] TF163 fun _ => ?_)
        refine Run_ret ?_
        simp [Rets, RetM, resV, fnd, oneOr, hbad (by simpa using h2), y3]
      · have h2 : (!agP n o.Against k) = false := hp.symm.trans h
        (repeat with_reducible first | refine js ?_ | refine ja ?_ | refine jw KL163 [8] TF163 fun _ => ?_)
        refine Run_lp ⟨k + 1, ?_, ⟨by omega, fun j hj => ?_, x2.trans x3⟩, by omega⟩
        · simp [SubB, fnd, strike, has]
        · by_cases e : j = k
          · rw [e]; simpa using h2
          · exact hf j (by omega)
    · have e0 : decide (0 < (k : Int)) = true := by simp; omega
      have e2 : ((k : Int) - 1).toNat = k - 1 := by omega
      obtain ⟨g1, g2, g3⟩ := (hO.g.ext y2).get (show k - 1 < o.Against.length by omega)
      have e3 : o.Against[k - 1]'(by omega) = o.Against.getD (k - 1) 0 := by simp [List.getD_eq_getElem?_getD, show k - 1 < o.Against.length by omega]
      rw [e3] at g1
      have hp : (decide (o.Against.getD k 0 < 0) || decide (n ≤ o.Against.getD k 0) || decide (o.Against.getD k 0 ≤ o.Against.getD (k - 1) 0)) = !agP n o.Against k := by
        rw [Bool.eq_iff_iff]
        simp only [agP, Bool.or_eq_true, decide_eq_true_eq, Bool.not_eq_true', Bool.and_eq_false_iff, decide_eq_false_iff_not, Bool.or_eq_false_iff]
        omega
      (repeat with_reducible first | refine js ?_ | refine ja ?_ | refine jw KL163 [8] (aa TF163 (aa o2 (aa hO.g.s (aa hO.g.len (aa f1 (aa f2 (aa g1 (aa g2 (aa e0 (aa e2 KX)))))))))) fun _ => ?_)
      intro w3 x3
      have y3 := y2.trans x3
      refine Run_condS (fun _ => rfl) (fun h => ?_) (fun h => ?_)
      · have h2 : (!agP n o.Against k) = true := hp.symm.trans h
        (repeat with_reducible first | refine js ?_ | refine ja ?_ | refine jw KL163 [8] TF163 fun _ => ?_)
        refine Run_ret ?_
        simp [Rets, RetM, resV, fnd, oneOr, hbad (by simpa using h2), y3]
      · have h2 : (!agP n o.Against k) = false := hp.symm.trans h
        (repeat with_reducible first | refine js ?_ | refine ja ?_ | refine jw KL163 [8] TF163 fun _ => ?_)
        refine Run_lp ⟨k + 1, ?_, ⟨by omega, fun j hj => ?_, x2.trans x3⟩, by omega⟩
        · simp [SubB, fnd, strike, has]
        · by_cases e : j = k
          · rw [e]; simpa using h2
          · exact hf j (by omega)
  · simp at h
    obtain rfl : k = o.Against.length := by omega
    (repeat with_reducible first | refine js ?_ | refine ja ?_ | refine jw KL163 [8] (aa TF163 o2) fun _ => ?_)
    refine Run_ret ?_
    simp only [Rets, RetM, resV, fnd, oneOr, ↓reduceIte]
    refine ⟨_, rfl, ?_, y2⟩
    congr 2
    rw [Pl.oright, hag, allN_true hf, Bool.and_true]
    unfold Pl.oNum
    rw [Bool.eq_iff_iff]
    simp only [Bool.or_eq_true, beq_iff_eq, decide_eq_true_eq]
    omega
theorem rfError22 (vl u0 u1 u2 vo : Value) (t : TimeD) (f : TariffD) (l : List OrderD) (w : World) (hl : Sl w vl t.Lines) (hT : TarR w f u0 u1 u2) (ho : Sl w vo l) :
    Calls Tryz.prog 104 #[.agg (t.cs vl).toArray, .agg (f.cs u0 u1 u2).toArray, vo] w fun e w' => e = .returned (.int .i64 (Pl.err t f l)) ∧ Ext w w' := by
  have hn := ho.small
  have hol := ho.len
  refine Calls_of_Run (args := [.agg (t.cs vl).toArray, .agg (f.cs u0 u1 u2).toArray, vo]) (n := 38) (rs := [.tmp 6]) Tryz.func104 rfl rfl rfl (by simp) ?_
  (repeat with_reducible first | refine js ?_ | refine ja ?_ | refine jw KL104 [11] TF104 fun _ => ?_)
  refine SemW_box fun pt w1 h1 => SemW_box fun pf w2 h2 => ?_
  have x2 := h1.ext.trans h2.ext
  have T : ∀ w', Ext w2 w' → AtN w' pt 0 (t.cs vl) := fun w' x => (h1.at_.ext (h2.ext.trans x)).n
  have F : ∀ w', Ext w2 w' → AtN w' pf 0 (f.cs u0 u1 u2) := fun w' x => (h2.at_.ext x).n
  simp only [TimeD.cs, TariffD.cs, AtN, KS, Nat.reduceAdd, Nat.reduceMul, Nat.reduceEqDiff, ↓reduceIte, UT] at T F
  have t2 := T w2 (Ext.refl _)
  (repeat with_reducible first | refine js ?_ | refine ja ?_ | refine jw KL104 [11] (aa TF104 t2) fun _ => ?_)
  refine chk20W rfl (hl.ext x2) fun w3 x3 => ?_
  have y3 := x2.trans x3
  have f3 := F w3 x3
  (repeat with_reducible first | refine js ?_ | refine ja ?_ | refine jw KL104 [11] TF104 fun _ => ?_)
  refine Run_cutV [7, 12] (σ := Unit) (fun _ => [(7, some (.int .i64 (if Tt.chk t ≠ 0 then Tt.chk t else Tf.chk f)))]) (fun _ w' => Ext w3 w') ?_ ?_
  · refine Run_condS (fun _ => rfl) (fun h => ?_) (fun h => ?_)
    · have hc : Tt.chk t = 0 := by simpa using h
      (repeat with_reducible first | refine js ?_ | refine ja ?_ | refine jw KL104 [11] (aa TF104 f3) fun _ => ?_)
      refine CallW_pure call162 (rfCheck21 f u0 u1 u2 w3 (hT.ext y3)) fun w4 x4 => ?_
      (repeat with_reducible first | refine js ?_ | refine ja ?_ | refine jw KL104 [11] TF104 fun _ => ?_)
      refine Run_lp ⟨(), ?_, x4⟩
      rw [if_neg (by simp [hc])]
      simp [SubB, fnd, strike, has]
    · have hc : Tt.chk t ≠ 0 := by simpa using h
      (repeat with_reducible first | refine js ?_ | refine ja ?_ | refine jw KL104 [11] TF104 fun _ => ?_)
      refine Run_lp ⟨(), ?_, Ext.refl _⟩
      rw [if_pos hc]
      simp [SubB, fnd, strike, has]
  rintro _ w4 x4
  have y4 := y3.trans x4
  (repeat with_reducible first | refine js ?_ | refine ja ?_ | refine jw KL104 [11] TF104 fun _ => ?_)
  refine Run_condS (fun _ => rfl) (fun h => ?_) (fun h => ?_)
  · (repeat with_reducible first | refine js ?_ | refine ja ?_ | refine jw KL104 [11] TF104 fun _ => ?_)
    refine Run_ret ?_
    have : Pl.err t f l = if Tt.chk t ≠ 0 then Tt.chk t else Tf.chk f := by
      unfold Pl.err
      by_cases hc : Tt.chk t = 0
      · rw [if_neg (show ¬ (Tt.chk t ≠ 0) by simp [hc]), if_neg (show ¬ (Tt.chk t ≠ 0) by simp [hc])]
        have hc2 : Tf.chk f ≠ 0 := by
          rw [if_neg (by simp [hc])] at h
          simpa using h
        rw [if_pos hc2]
      · rw [if_pos hc, if_pos hc]
    simp only [Rets, RetM, resV, fnd, oneOr, ↓reduceIte]
    exact ⟨_, rfl, by rw [this], y4⟩
  have hcc : Tt.chk t = 0 ∧ Tf.chk f = 0 := by
    by_cases hc : Tt.chk t = 0
    · rw [if_neg (by simp [hc])] at h
      exact ⟨hc, by simpa using h⟩
    · rw [if_pos hc] at h
      exact (hc (by simpa using h)).elim
  clear h
  have hres : Pl.err t f l = if 64 < l.length then 220 else if l.all (fun o => Pl.oright o t.Offices 1024 f.Base.length) then 0 else 220 := by
    unfold Pl.err; rw [if_neg (by simp [hcc.1]), if_neg (by simp [hcc.2])]
  (repeat with_reducible first | refine js ?_ | refine ja ?_ | refine jw KL104 [11] (aa TF104 (aa ho.s ho.len)) fun _ => ?_)
  refine Run_condS (fun _ => rfl) (fun h => ?_) (fun h => ?_)
  · simp at h
    (repeat with_reducible first | refine js ?_ | refine ja ?_ | refine jw KL104 [11] TF104 fun _ => ?_)
    refine Run_ret ?_
    rw [if_pos (by omega)] at hres
    simp [Rets, RetM, resV, fnd, oneOr, hres, y4]
  simp at h
  rw [if_neg (by omega)] at hres
  (repeat with_reducible first | refine js ?_ | refine ja ?_ | refine jw KL104 [11] TF104 fun _ => ?_)
  refine Run_loopV [6, 8, 24, 37] (σ := Nat) (fun k => [(8, some (.int .i64 k)), (6, some (.int .i64 0))]) (fun k w' => k ≤ l.length ∧ (∀ j (h : j < l.length), j < k → Pl.oright l[j] t.Offices 1024 f.Base.length = true) ∧ Ext w4 w') (fun k => l.length - k) 0 (by simp [SubB, fnd]) ⟨by omega, by simp, Ext.refl _⟩ ?_
  rintro k w5 ⟨hk, hf, x5⟩
  have y5 := y4.trans x5
  (repeat with_reducible first | refine js ?_ | refine ja ?_ | refine jw KL104 [11] (aa TF104 (aa ho.s ho.len)) fun _ => ?_)
  refine Run_condS (fun _ => rfl) (fun h => ?_) (fun h => ?_)
  · simp at h
    have hkl : k < l.length := by omega
    obtain ⟨g, o1, o2, hO⟩ := (ho.ext y5).ord hkl
    have t5 := T w5 (x3.trans (x4.trans x5))
    have f5 := F w5 (x3.trans (x4.trans x5))
    have hall : l.all (fun o => Pl.oright o t.Offices 1024 f.Base.length) = true → Pl.oright l[k] t.Offices 1024 f.Base.length = true := fun hs => List.all_eq_true.1 hs _ (List.getElem_mem hkl)
    generalize hoo : l[k] = o at *
    simp only [OrderD.cs, AtN, KS, Nat.reduceAdd, Nat.reduceMul, Nat.reduceEqDiff, ↓reduceIte, UT] at o1
    (repeat with_reducible first | refine js ?_ | refine ja ?_ | refine jw KL104 [11] (aa TF104 (aa ho.s (aa ho.len (aa o1 (aa t5 (aa f5 (aa hT.b.s hT.b.len))))))) fun _ => ?_)
    refine ⟨.bool (Pl.oright o t.Offices 1024 f.Base.length), PC_pure call163 fun w6 x6 => rfRight18 o g t.Offices 1024 f.Base.length w6 (hO.ext x6), rfl, fun w6 x6 => ?_⟩
    have y6 := y5.trans x6
    refine Run_condS (fun _ => rfl) (fun h => ?_) (fun h => ?_)
    · (repeat with_reducible first | refine js ?_ | refine ja ?_ | refine jw KL104 [11] TF104 fun _ => ?_)
      refine Run_ret ?_
      rw [if_neg (fun hs => by have := hall hs; rw [this] at h; cases h)] at hres
      simp [Rets, RetM, resV, fnd, oneOr, hres, y6]
    · have hr : Pl.oright o t.Offices 1024 f.Base.length = true := by simpa using h
      (repeat with_reducible first | refine js ?_ | refine ja ?_ | refine jw KL104 [11] TF104 fun _ => ?_)
      refine Run_lp ⟨k + 1, ?_, ⟨by omega, fun j hj hjk => ?_, x5.trans x6⟩, by omega⟩
      · simp [SubB, fnd, strike, has]
      · by_cases e : j = k
        · subst e; rw [hoo]; exact hr
        · exact hf j hj (by omega)
  · simp at h
    obtain rfl : k = l.length := by omega
    (repeat with_reducible first | refine js ?_ | refine ja ?_ | refine jw KL104 [11] TF104 fun _ => ?_)
    refine Run_ret ?_
    rw [if_pos (List.all_eq_true.2 fun x hx => by
      obtain ⟨j, hj, rfl⟩ := List.getElem_of_mem hx
      exact hf j hj hj)] at hres
    simp [Rets, RetM, resV, fnd, oneOr, hres, y5]
end Go.Proofs.YtoadfmgnpmcbfaaGreat
