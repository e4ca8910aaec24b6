import Derived.Test.YtldjfebokojmfaaGreatRgHm
set_option linter.unusedSimpArgs false
set_option linter.unusedVariables false
set_option maxRecDepth 100000
namespace Go.Proofs.YtldjfebokojmfaaGreat
open Go Go.Fk
theorem insW {v : Value} {l : List RunD} {i a z : Int} {w : World} {K : Value → World → Prop} (hl : Sl w v l) (hr : RunI ⟨i, a, z⟩) (hn : l.length ≤ 1000000) (hK : ∀ v' w', Ext w w' → Sl w' v' (Tt.insR ⟨i, a, z⟩ l) → K v' w') : CallW Tryz.prog (.func (.func 73) #[] #[]) [v, .agg #[.int .i64 i, .int .i64 a, .int .i64 z]] w K :=
  CallW_gen call73 (rfInsert v l ⟨i, a, z⟩ w hl hr hn) fun e w' ⟨v', he, hx, hs⟩ => ⟨_, he, hK v' w' hx hs⟩
theorem sortF_snoc (a l : List RunD) (r : RunD) : Tt.sortF a (l ++ [r]) = Tt.insR r (Tt.sortF a l) := by simp [Tt.sortF]
set_option maxHeartbeats 1000000 in
theorem rfRuns (vl : Value) (t : TimeD) (a b : Int) (w : World) (hl : Sl w vl t.Lines) :
    Calls Tryz.prog 53 #[.agg (t.cs vl).toArray, .int .i64 a, .int .i64 b] w fun e w' => ∃ v, e = .returned (.tuple #[v, .int .i64 (Tt.runs t a b).2]) ∧ Ext w w' ∧ Sl w' v (Tt.runs t a b).1 := by
  have hn := hl.small
  have hlen := hl.len
  refine Calls_of_Run (args := [.agg (t.cs vl).toArray, .int .i64 a, .int .i64 b]) (n := 91) (rs := [.tmp 6, .tmp 7]) Tryz.func53 rfl rfl rfl (by simp) ?_
  (repeat with_reducible first | refine jy ?_ | refine jw KL53 [10, 16] TF53 fun _ => ?_)
  refine SemW_box fun p w1 hN => ?_
  have x1 := hN.ext
  have G : ∀ w', Ext w1 w' → AtN w' p 0 (t.cs vl) := fun w' x => (hN.at_.ext x).n
  simp only [TimeD.cs, AtN, KS, Nat.reduceAdd, Nat.reduceMul, Nat.reduceEqDiff, ↓reduceIte, UT] at G
  have g1 := G w1 (Ext.refl _)
  (repeat with_reducible first | refine jy ?_ | refine jw KL53 [10, 16] (aa TF53 g1) fun _ => ?_)
  refine chk20W rfl (hl.ext x1) fun w2 x2 => ?_
  have y2 := x1.trans x2
  (repeat with_reducible first | refine jy ?_ | refine jw KL53 [10, 16] TF53 fun _ => ?_)
  refine Run_condS (fun _ => rfl) (fun h => ?_) (fun h => ?_)
  · simp at h
    (repeat with_reducible first | refine jy ?_ | refine jw KL53 [10, 16] TF53 fun _ => ?_)
    refine Run_ret ?_
    have : Tt.runs t a b = ([], Tt.chk t) := by unfold Tt.runs; rw [if_pos h]
    simp [Rets, RetM, resV, fnd, oneOr, this]
    exact ⟨y2, Sl.nil _⟩
  simp at h
  have hc := h
  have ht := Tt.chk_ok hc
  (repeat with_reducible first | refine jy ?_ | refine jw KL53 [10, 16] (aa TF53 KX) fun _ => ?_)
  refine Run_condS (fun _ => rfl) (fun h => ?_) (fun h => ?_)
  · have h4 : a < 0 ∨ b < a ∨ 2097152 < b := by simp at h; omega
    (repeat with_reducible first | refine jy ?_ | refine jw KL53 [10, 16] TF53 fun _ => ?_)
    refine Run_ret ?_
    have : Tt.runs t a b = ([], 1) := by unfold Tt.runs; rw [if_neg (by simp [hc]), if_pos h4]
    simp [Rets, RetM, resV, fnd, oneOr, this]
    exact ⟨y2, Sl.nil _⟩
  have h4 : ¬ (a < 0 ∨ b < a ∨ 2097152 < b) := by simp at h; omega
  have hres := betweenOk hc h4
  (repeat with_reducible first | refine jy ?_ | refine jw KL53 [10, 16] TF53 fun _ => ?_)
  refine SemW_buildF (α := RunD) (W := w2) Tryz.underlying59 ti34 rfl (by decide) (Ext.refl _) [] [] rfl rfl (Cs.nil _) (by simp) fun po w3 b3 s3 x3 => ?_
  (repeat with_reducible first | refine jy ?_ | refine jw KL53 [10, 16] TF53 fun _ => ?_)
  refine Run_loopV [6, 7, 9, 10, 11, 12, 13, 14, 36, 58, 62, 77] (σ := Nat × Value) (fun s => [(10, some (.int .i64 s.1)), (9, some s.2)]) (fun s w' => s.1 ≤ t.Lines.length ∧ (∀ j (h : j < t.Lines.length), j < s.1 → (Cal.moments t.Lines[j].Rules t.Lines[j].Off a b).2 = 0) ∧ Sl w' s.2 (Tt.sortF [] (Tt.allRuns a b 0 (t.Lines.take s.1))) ∧ Ext w1 w') (fun s => t.Lines.length - s.1) (0, .slice (some po) 0 0) (by simp [SubB, fnd]) ⟨by omega, by simp, s3, x2.trans x3⟩ ?_
  rintro ⟨k, v⟩ w4 ⟨hk, hf, hs, x4⟩
  simp only at hk hf hs
  have y4 := x1.trans x4
  have g4 := G w4 x4
  (repeat with_reducible first | refine jy ?_ | refine jw KL53 [10, 16] (aa TF53 (aa g4 (aa hl.s hl.len))) fun _ => ?_)
  refine Run_condS (fun _ => rfl) (fun h => ?_) (fun h => ?_)
  · simp at h
    have hkl := h
    obtain ⟨v0, v1, v2, v3, f0, f2, hR0⟩ := hl.line hkl
    have F : ∀ w', Ext w w' → AtN w' ((slAt vl).add (k * 6)) 0 (t.Lines[k].cs v0 v1 v2 v3) := fun w' x => (f2.ext x).n
    have hmem := List.getElem_mem hkl
    have hxo := Tt.right_ok (ht.r _ hmem)
    have hxc := ht.c _ hmem
    have htk := all_take (a := a) (b := b) hkl
    have hms := moments_ok (a := a) (b := b) hxc h4
    have hal : (Tt.allRuns a b 0 (t.Lines.take k)).length ≤ 2000 * k := by
      have := all_len (a := a) (b := b) (l := t.Lines.take k) (i := 0) fun y hy => by
        obtain ⟨j, hj, rfl⟩ := List.getElem_of_mem hy
        simp only [List.length_take] at hj
        rw [List.getElem_take]
        have h0 := hf j (by omega) (by omega)
        rcases moments_ok (a := a) (b := b) (ht.c _ (List.getElem_mem (by omega : j < t.Lines.length))) h4 with h | ⟨h, hh⟩
        · rw [h] at h0; cases h0
        · exact hh
      rw [List.length_take] at this
      omega
    have hn64 := ht.n
    generalize hxx : t.Lines[k] = x at *
    obtain ⟨hl9, hbd⟩ := sums_bd hxo (a := 0) (by omega) (by omega)
    have hle := hbd x.Legs.length (Nat.le_refl _)
    rw [List.take_length] at hle
    simp only [LineD.cs, AtN, KS, Nat.reduceAdd, Nat.reduceMul, Nat.reduceEqDiff, ↓reduceIte, UT] at f0 F
    (repeat with_reducible refine js ?_)
    refine Run_cutV [11, 12] (σ := Value) (fun u => [(11, some u), (12, some (.int .i64 (Cal.moments x.Rules x.Off a b).2))]) (fun u w' => Ext w4 w' ∧ Sl w' u (Cal.moments x.Rules x.Off a b).1) ?_ ?_
    · refine Run_ep (id := 10) [0, 1, 2, 3, 6, 7, 8, 9, 10, 11, 12, 13, 14, 18, 30, 36, 58, 62, 77, 89] (.first 0 (.first 2 (.first 6 (.first 8 (.first 12 (.first 13 (.alt 1 (.first 3 (.first 4 (.alt 5 (.alt 7 (.first 9 (.first 10 (.alt 11 (.alt 14 (.first 15 (.first 16 (.first 17 (.first 18 (.first 19 .done))))) .stop) .stop))) .stop) (.alt 7 (.first 9 (.first 10 (.alt 5 (.alt 11 (.alt 14 (.first 15 (.first 16 (.first 17 (.first 18 (.first 19 .done))))) .stop) .stop) (.alt 11 (.alt 5 (.alt 14 (.first 15 (.first 16 (.first 17 (.first 18 (.first 19 .done))))) .stop) .stop) .stop)))) .stop)))) (.alt 7 (.first 9 (.first 10 (.alt 1 (.first 3 (.first 4 (.alt 5 (.alt 11 (.alt 14 (.first 15 (.first 16 (.first 17 (.first 18 (.first 19 .done))))) .stop) .stop) (.alt 11 (.alt 5 (.alt 14 (.first 15 (.first 16 (.first 17 (.first 18 (.first 19 .done))))) .stop) .stop) .stop)))) (.alt 11 (.alt 1 (.first 3 (.first 4 (.alt 5 (.alt 14 (.first 15 (.first 16 (.first 17 (.first 18 (.first 19 .done))))) .stop) .stop))) .stop) .stop)))) .stop)))))))) mixed (by kernel_rfl) (by kernel_rfl) fun w5 x5 _ => ?_
      have F5 := F w5 (y4.trans x5)
      have g5 := G w5 (x4.trans x5)
      (try simp (maxSteps := 5000000) only [KS, Nat.reduceAdd, Nat.reduceMul, Nat.reduceEqDiff, ↓reduceIte, forall_const, Int.cast_ofNat_Int, Int.reduceToNat, List.take_succ_cons, List.take_zero, List.drop_succ_cons, List.drop_zero, TF53, KL53, F5, g5, hl.s, hl.len]); (try simp (disch := omega) only [wrapI, tmodI, tdivI])
      repeat' (first | with_reducible refine And.intro ?_ ?_ | omega | (with_reducible refine momW (hR0.r.ext (y4.trans x5)) (hR0.g.ext (y4.trans x5)) fun vm w7 x7 s7 => ?_; (try simp (maxSteps := 5000000) only [KS, Nat.reduceAdd, Nat.reduceMul, Nat.reduceEqDiff, ↓reduceIte, forall_const, Int.cast_ofNat_Int, Int.reduceToNat, List.take_succ_cons, List.take_zero, List.drop_succ_cons, List.drop_zero, TF53, KL53]); (try simp (disch := omega) only [wrapI, tmodI, tdivI])))
      all_goals
        refine Run_lp ⟨vm, ?_, x5.trans x7, s7⟩
        simp [SubB, fnd, strike, has]
    rintro vm w5 ⟨x5, s5⟩
    have y5 := y4.trans x5
    (repeat with_reducible first | refine jy ?_ | refine jw KL53 [10, 16] TF53 fun _ => ?_)
    refine Run_condS (fun _ => rfl) (fun h => ?_) (fun h => ?_)
    · have he2 : (Cal.moments x.Rules x.Off a b).2 = 2 := by
        rcases hms with h' | ⟨h', _⟩
        · rw [h']
        · simp [h'] at h
      (repeat with_reducible first | refine jy ?_ | refine jw KL53 [10, 16] TF53 fun _ => ?_)
      refine Run_ret ?_
      have : Tt.runs t a b = ([], 2) := by
        rw [hres, if_pos (anyErr_iff.2 ⟨x, hmem, by omega⟩)]
      simp [Rets, RetM, resV, fnd, oneOr, this]
      exact ⟨y5, Sl.nil _⟩
    have hz : (Cal.moments x.Rules x.Off a b).2 = 0 := by simpa using h
    rcases hms with h' | ⟨hm, hml⟩
    · rw [h'] at hz; cases hz
    rw [hm] at s5
    simp only at s5
    (repeat with_reducible first | refine jy ?_ | refine jw KL53 [10, 16] TF53 fun _ => ?_)
    generalize hD : Cal.deps x.Rules x.Off a b = D at *
    have hdb : ∀ y ∈ D, 0 ≤ y ∧ y ≤ 2097152 := fun y hy => by
      rw [← hD] at hy
      have := (Cal.deps_mem (by omega)).1 hy
      omega
    refine Run_loopV [9, 13, 14, 62, 77] (σ := Nat × Value) (fun s => [(13, some (.int .i64 s.1)), (9, some s.2)]) (fun s w' => s.1 ≤ D.length ∧ Sl w' s.2 (Tt.sortF [] (Tt.allRuns a b 0 (t.Lines.take k) ++ Tt.runsL k x (D.take s.1))) ∧ Ext w5 w') (fun s => D.length - s.1) (0, v) (by simp [SubB, fnd]) ⟨by omega, by simpa [Tt.runsL] using hs.ext x5, Ext.refl _⟩ ?_
    rintro ⟨m, u⟩ w6 ⟨hmk, s6, x6⟩
    simp only at hmk s6
    (repeat with_reducible first | refine jy ?_ | refine jw KL53 [10, 16] (aa TF53 (aa s5.s s5.len)) fun _ => ?_)
    refine Run_condS (fun _ => rfl) (fun h => ?_) (fun h => ?_)
    · simp at h
      have hml2 := h
      have y6 := y5.trans x6
      obtain ⟨d1, d2, d3⟩ := (s5.ext x6).get hml2
      have hdm := hdb _ (List.getElem_mem hml2)
      have F6 := F w6 y6
      have g6 := G w6 (x4.trans (x5.trans x6))
      (repeat with_reducible first | refine jy ?_ | refine jw KL53 [10, 16] (aa TF53 (aa s5.s (aa s5.len (aa d1 (aa d2 (aa F6 (aa g6 (aa hl.s hl.len)))))))) fun _ => ?_)
      refine ⟨.int .i64 (Tt.leng x), PC_pure call78 fun w7 x7 => rfLength x v0 v1 v2 v3 w7 (hR0.ext (y6.trans x7)) t.Offices hxo, rfl, fun w7 x7 => ?_⟩
      simp only [iOf_mk]
      rw [wrapI (by unfold Tt.leng; omega) (by unfold Tt.leng; omega)]
      have s7 := s6.ext x7
      obtain ⟨d1, d2, d3⟩ := (s5.ext (x6.trans x7)).get hml2
      have hrl := runsL_take (i := k) (x := x) hml2
      have hlen6 : (Tt.sortF [] (Tt.allRuns a b 0 (t.Lines.take k) ++ Tt.runsL k x (D.take m))).length ≤ 200000 := by
        have h1 := (Tt.sortR_perm (Tt.allRuns a b 0 (t.Lines.take k) ++ Tt.runsL k x (D.take m))).length_eq
        have h2 : (Tt.runsL k x (D.take m)).length ≤ (D.take m).length := List.length_filterMap_le _ _
        unfold Tt.sortR at h1
        rw [h1, List.length_append]
        simp only [List.length_take] at h2
        omega
      (repeat with_reducible first | refine jy ?_ | refine jw KL53 [10, 16] TF53 fun _ => ?_)
      refine Run_condS (fun _ => rfl) (fun h => ?_) (fun h => ?_)
      · have hlt : D[m] + Tt.leng x < 2097152 := by simpa using h
        rw [if_pos hlt] at hrl
        (repeat with_reducible first | refine jy ?_ | refine jw KL53 [10, 16] (aa TF53 (aa s5.s (aa s5.len (aa d1 d2)))) fun _ => ?_)
        refine ⟨.agg #[.int .i64 k, .int .i64 D[m], .int .i64 (D[m] + Tt.leng x)], fun _ => by kernel_rfl, ?_⟩
        refine insW (i := k) (a := D[m]) (z := D[m] + Tt.leng x) s7 (by simp only [RunI, I64]; unfold Tt.leng at *; omega) (by omega) fun v' w8 x8 s8 => ?_
        rw [← sortF_snoc, List.append_assoc, ← hrl] at s8
        (repeat with_reducible first | refine jy ?_ | refine jw KL53 [10, 16] TF53 fun _ => ?_)
        refine Run_lp ⟨(m + 1, v'), ?_, ⟨by simp only; omega, s8, x6.trans (x7.trans x8)⟩, by simp only; omega⟩
        simp [SubB, fnd, strike, has]
      · have hlt : ¬ D[m] + Tt.leng x < 2097152 := by simpa using h
        rw [if_neg hlt, List.append_nil] at hrl
        (repeat with_reducible first | refine jy ?_ | refine jw KL53 [10, 16] TF53 fun _ => ?_)
        refine Run_lp ⟨(m + 1, u), ?_, ⟨by simp only; omega, ?_, x6.trans x7⟩, by simp only; omega⟩
        · simp [SubB, fnd, strike, has]
        · simp only; rw [hrl]; exact s7
    · simp at h
      obtain rfl : m = D.length := by omega
      rw [List.take_length, show Tt.runsL k x D = Tt.lineRuns a b k x by unfold Tt.lineRuns; rw [hD], ← htk] at s6
      (repeat with_reducible first | refine jy ?_ | refine jw KL53 [10, 16] TF53 fun _ => ?_)
      refine Run_lp ⟨(k + 1, u), ?_, ⟨by simp only; omega, fun j hj hjk => ?_, s6, x4.trans (x5.trans x6)⟩, by simp only; omega⟩
      · simp [SubB, fnd, strike, has]
      · by_cases e : j = k
        · subst e; rw [hxx]; exact hz
        · exact hf j hj (by simp only at hjk; omega)
  · simp at h
    obtain rfl : k = t.Lines.length := by omega
    rw [List.take_length] at hs
    have hne : Tt.anyErr a b t.Lines = false := by
      rw [← Bool.not_eq_true, anyErr_iff]
      rintro ⟨x, hx, h0⟩
      obtain ⟨j, hj, rfl⟩ := List.getElem_of_mem hx
      exact h0 (hf j hj hj)
    rw [if_neg (by simp [hne])] at hres
    have hsl : (Tt.sortF [] (Tt.allRuns a b 0 t.Lines)).length = (Tt.allRuns a b 0 t.Lines).length := (Tt.sortR_perm (Tt.allRuns a b 0 t.Lines)).length_eq
    (repeat with_reducible first | refine jy ?_ | refine jw KL53 [10, 16] (aa TF53 (aa hs.s hs.len)) fun _ => ?_)
    refine Run_condS (fun _ => rfl) (fun h => ?_) (fun h => ?_)
    · simp at h
      (repeat with_reducible first | refine jy ?_ | refine jw KL53 [10, 16] TF53 fun _ => ?_)
      refine Run_ret ?_
      rw [if_pos (by omega)] at hres
      simp [Rets, RetM, resV, fnd, oneOr, hres]
      exact ⟨y4, Sl.nil _⟩
    · simp at h
      rw [if_neg (by omega)] at hres
      (repeat with_reducible first | refine jy ?_ | refine jw KL53 [10, 16] TF53 fun _ => ?_)
      refine Run_ret ?_
      simp [Rets, RetM, resV, fnd, oneOr, hres]
      exact ⟨y4, hs⟩
end Go.Proofs.YtldjfebokojmfaaGreat
