/- Chapter 20: Check; sums, arrival, is, Is. -/
import Derived.Test.YtcncbmdkifdggaaW20a
namespace Go.Proofs.Ytcncbmdkifdggaa
open Go Go.Fk
set_option linter.unusedSimpArgs false
set_option linter.unusedVariables false
set_option maxRecDepth 100000

theorem ttCheck (vl : Value) (t : TimeD) (w : World) (hl : Sl w vl t.Lines) :
    Calls Try.prog 22 #[.agg (t.cs vl).toArray] w fun e w' => e = .returned (.int .i64 (Tt.chk t)) ∧ Ext w w' := by
  have hn := hl.small
  have hlen := hl.len
  refine Calls_of_Run (args := [.agg (t.cs vl).toArray]) (n := 45) (rs := [.tmp 2]) Try.func22 rfl rfl rfl (by simp) ?_
  (repeat first | with_reducible first | refine jq ?_ | refine jk ?_ | refine jc ?_ | refine jl ?_ | refine jb ?_ | refine jo ?_ | refine ji ?_ | refine jx rfl ?_ | refine And.intro (by first | assumption | omega | (intros; omega)) ?_ | ((first | refine jR KL22 (by kernel_rfl) fun _ => ?_ | skip); simp only [KS, Nat.reduceAdd, Nat.reduceMul, Nat.reduceEqDiff, ↓reduceIte, forall_const, Int.cast_ofNat_Int, Int.reduceToNat, TF22, KL22]; (try simp (disch := omega) only [wrapI, tmodI, tdivI]); (fail_if_success (with_reducible show False))))
  refine SemW_box fun p w1 hN => ?_
  have x1 := hN.ext
  have G : ∀ w', Ext w1 w' → AtN w' p 0 (t.cs vl) := fun w' x => (hN.at_.ext x).n
  simp only [TimeD.cs, AtN, KS, Nat.reduceAdd, Nat.reduceMul, Nat.reduceEqDiff, ↓reduceIte, UT] at G
  have g1 := G w1 (Ext.refl _)
  (repeat first | with_reducible first | refine jq ?_ | refine jk ?_ | refine jc ?_ | refine jl ?_ | refine jb ?_ | refine jo ?_ | refine ji ?_ | refine jx rfl ?_ | refine And.intro (by first | assumption | omega | (intros; omega)) ?_ | ((first | refine jR KL22 (by kernel_rfl) fun _ => ?_ | skip); simp only [KS, Nat.reduceAdd, Nat.reduceMul, Nat.reduceEqDiff, ↓reduceIte, forall_const, Int.cast_ofNat_Int, Int.reduceToNat, TF22, KL22, g1, hl.s, hl.len]; (try simp (disch := omega) only [wrapI, tmodI, tdivI]); (fail_if_success (with_reducible show False))))
  refine Run_condS (fun _ => rfl) (fun h => ?_) (fun h => ?_)
  · simp at h
    (repeat first | with_reducible first | refine jq ?_ | refine jk ?_ | refine jc ?_ | refine jl ?_ | refine jb ?_ | refine jo ?_ | refine ji ?_ | refine jx rfl ?_ | refine And.intro (by first | assumption | omega | (intros; omega)) ?_ | ((first | refine jR KL22 (by kernel_rfl) fun _ => ?_ | skip); simp only [KS, Nat.reduceAdd, Nat.reduceMul, Nat.reduceEqDiff, ↓reduceIte, forall_const, Int.cast_ofNat_Int, Int.reduceToNat, TF22, KL22]; (try simp (disch := omega) only [wrapI, tmodI, tdivI]); (fail_if_success (with_reducible show False))))
    refine Run_ret ?_
    have : Tt.chk t = 2 := by unfold Tt.chk; rw [if_pos (by omega)]
    simp [Rets, RetM, resV, fnd, oneOr, this, x1]
  simp at h
  (repeat first | with_reducible first | refine jq ?_ | refine jk ?_ | refine jc ?_ | refine jl ?_ | refine jb ?_ | refine jo ?_ | refine ji ?_ | refine jx rfl ?_ | refine And.intro (by first | assumption | omega | (intros; omega)) ?_ | ((first | refine jR KL22 (by kernel_rfl) fun _ => ?_ | skip); simp only [KS, Nat.reduceAdd, Nat.reduceMul, Nat.reduceEqDiff, ↓reduceIte, forall_const, Int.cast_ofNat_Int, Int.reduceToNat, TF22, KL22, g1]; (try simp (disch := omega) only [wrapI, tmodI, tdivI]); (fail_if_success (with_reducible show False))))
  refine betW fun w2 x2 => ?_
  have y2 := x1.trans x2
  (repeat first | with_reducible first | refine jq ?_ | refine jk ?_ | refine jc ?_ | refine jl ?_ | refine jb ?_ | refine jo ?_ | refine ji ?_ | refine jx rfl ?_ | refine And.intro (by first | assumption | omega | (intros; omega)) ?_ | ((first | refine jR KL22 (by kernel_rfl) fun _ => ?_ | skip); simp only [KS, Nat.reduceAdd, Nat.reduceMul, Nat.reduceEqDiff, ↓reduceIte, forall_const, Int.cast_ofNat_Int, Int.reduceToNat, TF22, KL22]; (try simp (disch := omega) only [wrapI, tmodI, tdivI]); (fail_if_success (with_reducible show False))))
  refine Run_condS (fun _ => rfl) (fun h => ?_) (fun h => ?_)
  · simp at h
    (repeat first | with_reducible first | refine jq ?_ | refine jk ?_ | refine jc ?_ | refine jl ?_ | refine jb ?_ | refine jo ?_ | refine ji ?_ | refine jx rfl ?_ | refine And.intro (by first | assumption | omega | (intros; omega)) ?_ | ((first | refine jR KL22 (by kernel_rfl) fun _ => ?_ | skip); simp only [KS, Nat.reduceAdd, Nat.reduceMul, Nat.reduceEqDiff, ↓reduceIte, forall_const, Int.cast_ofNat_Int, Int.reduceToNat, TF22, KL22]; (try simp (disch := omega) only [wrapI, tmodI, tdivI]); (fail_if_success (with_reducible show False))))
    refine Run_ret ?_
    have : Tt.chk t = 200 := by unfold Tt.chk; rw [if_neg (by omega), if_pos (by omega)]
    simp [Rets, RetM, resV, fnd, oneOr, this, y2]
  simp at h
  have hchk : Tt.chk t = if t.Lines.all (Tt.right · t.Offices) then Tt.calL t.Lines else 200 := by unfold Tt.chk; rw [if_neg (by omega), if_neg (by omega)]
  have ho := h
  have g2 := G w2 x2
  (repeat first | with_reducible first | refine jq ?_ | refine jk ?_ | refine jc ?_ | refine jl ?_ | refine jb ?_ | refine jo ?_ | refine ji ?_ | refine jx rfl ?_ | refine And.intro (by first | assumption | omega | (intros; omega)) ?_ | ((first | refine jR KL22 (by kernel_rfl) fun _ => ?_ | skip); simp only [KS, Nat.reduceAdd, Nat.reduceMul, Nat.reduceEqDiff, ↓reduceIte, forall_const, Int.cast_ofNat_Int, Int.reduceToNat, TF22, KL22, g2, hl.s, hl.len]; (try simp (disch := omega) only [wrapI, tmodI, tdivI]); (fail_if_success (with_reducible show False))))
  refine Run_loopV [2, 4, 18, 19, 27] (σ := Nat) (fun k => [(18, some (.int .i64 k)), (2, some (.int .i64 0))]) (fun k w' => k ≤ t.Lines.length ∧ (∀ j (h : j < t.Lines.length), j < k → Tt.right t.Lines[j] t.Offices = true) ∧ Ext w2 w') (fun k => t.Lines.length - k) 0 (by simp [SubB, fnd]) ⟨by omega, by simp, Ext.refl _⟩ ?_
  rintro k w3 ⟨hk, hf, x3⟩
  have y3 := y2.trans x3
  (repeat first | with_reducible first | refine jq ?_ | refine jk ?_ | refine jc ?_ | refine jl ?_ | refine jb ?_ | refine jo ?_ | refine ji ?_ | refine jx rfl ?_ | refine And.intro (by first | assumption | omega | (intros; omega)) ?_ | ((first | refine jR KL22 (by kernel_rfl) fun _ => ?_ | skip); simp only [KS, Nat.reduceAdd, Nat.reduceMul, Nat.reduceEqDiff, ↓reduceIte, forall_const, Int.cast_ofNat_Int, Int.reduceToNat, TF22, KL22]; (try simp (disch := omega) only [wrapI, tmodI, tdivI]); (fail_if_success (with_reducible show False))))
  refine Run_condS (fun _ => rfl) (fun h => ?_) (fun h => ?_)
  · simp at h
    have hkl := h
    obtain ⟨v0, v1, v2, v3, f1, f2, hR⟩ := (hl.ext y3).line hkl
    simp only [LineD.cs, AtN, KS, Nat.reduceAdd, Nat.reduceMul, Nat.reduceEqDiff, ↓reduceIte, UT] at f1
    have hone := hR.one
    simp only [LineD.cs] at hone
    have hgo : t.Lines.all (Tt.right · t.Offices) = true → Tt.right t.Lines[k] t.Offices = true := fun hs => List.all_eq_true.1 hs _ (List.getElem_mem hkl)
    generalize hxx : t.Lines[k] = x at *
    (repeat first | with_reducible first | refine jq ?_ | refine jk ?_ | refine jc ?_ | refine jl ?_ | refine jb ?_ | refine jo ?_ | refine ji ?_ | refine jx rfl ?_ | refine And.intro (by first | assumption | omega | (intros; omega)) ?_ | ((first | refine jR KL22 (by kernel_rfl) fun _ => ?_ | skip); simp only [KS, Nat.reduceAdd, Nat.reduceMul, Nat.reduceEqDiff, ↓reduceIte, forall_const, Int.cast_ofNat_Int, Int.reduceToNat, TF22, KL22, hl.s, hl.len, f1]; (try simp (disch := omega) only [wrapI, tmodI, tdivI]); (fail_if_success (with_reducible show False))))
    refine SemW_var ti55 rfl rfl (by decide) (by simpa [Value.cells] using hone) fun px w4 h4 => ?_
    have q4 := h4.at_.n
    have g4 := G w4 (x2.trans (x3.trans h4.ext))
    simp only [AtN, KS, Nat.reduceAdd, Nat.reduceMul, Nat.reduceEqDiff, ↓reduceIte, UT] at q4
    (repeat first | with_reducible first | refine jq ?_ | refine jk ?_ | refine jc ?_ | refine jl ?_ | refine jb ?_ | refine jo ?_ | refine ji ?_ | refine jx rfl ?_ | refine And.intro (by first | assumption | omega | (intros; omega)) ?_ | ((first | refine jR KL22 (by kernel_rfl) fun _ => ?_ | skip); simp only [KS, Nat.reduceAdd, Nat.reduceMul, Nat.reduceEqDiff, ↓reduceIte, forall_const, Int.cast_ofNat_Int, Int.reduceToNat, TF22, KL22, q4, g4]; (try simp (disch := omega) only [wrapI, tmodI, tdivI]); (fail_if_success (with_reducible show False))))
    refine ⟨.agg (lcs x v0 v1 v2 v3 t.Offices).toArray, fun w' => by kernel_rfl, ?_⟩
    refine CallW_pure call42 (ttRight x v0 v1 v2 v3 t.Offices w4 (hR.ext h4.ext) ho.1 ho.2) fun w5 x5 => ?_
    have y5 := y3.trans (h4.ext.trans x5)
    (repeat first | with_reducible first | refine jq ?_ | refine jk ?_ | refine jc ?_ | refine jl ?_ | refine jb ?_ | refine jo ?_ | refine ji ?_ | refine jx rfl ?_ | refine And.intro (by first | assumption | omega | (intros; omega)) ?_ | ((first | refine jR KL22 (by kernel_rfl) fun _ => ?_ | skip); simp only [KS, Nat.reduceAdd, Nat.reduceMul, Nat.reduceEqDiff, ↓reduceIte, forall_const, Int.cast_ofNat_Int, Int.reduceToNat, TF22, KL22]; (try simp (disch := omega) only [wrapI, tmodI, tdivI]); (fail_if_success (with_reducible show False))))
    refine Run_condS (fun _ => rfl) (fun h => ?_) (fun h => ?_)
    · (repeat first | with_reducible first | refine jq ?_ | refine jk ?_ | refine jc ?_ | refine jl ?_ | refine jb ?_ | refine jo ?_ | refine ji ?_ | refine jx rfl ?_ | refine And.intro (by first | assumption | omega | (intros; omega)) ?_ | ((first | refine jR KL22 (by kernel_rfl) fun _ => ?_ | skip); simp only [KS, Nat.reduceAdd, Nat.reduceMul, Nat.reduceEqDiff, ↓reduceIte, forall_const, Int.cast_ofNat_Int, Int.reduceToNat, TF22, KL22]; (try simp (disch := omega) only [wrapI, tmodI, tdivI]); (fail_if_success (with_reducible show False))))
      refine Run_ret ?_
      have : Tt.chk t = 200 := by
        rw [hchk, if_neg]
        intro hs; rw [hgo hs] at h; cases h
      simp [Rets, RetM, resV, fnd, oneOr, this, y5]
    · have hr5 : Tt.right x t.Offices = true := by simpa using h
      (repeat first | with_reducible first | refine jq ?_ | refine jk ?_ | refine jc ?_ | refine jl ?_ | refine jb ?_ | refine jo ?_ | refine ji ?_ | refine jx rfl ?_ | refine And.intro (by first | assumption | omega | (intros; omega)) ?_ | ((first | refine jR KL22 (by kernel_rfl) fun _ => ?_ | skip); simp only [KS, Nat.reduceAdd, Nat.reduceMul, Nat.reduceEqDiff, ↓reduceIte, forall_const, Int.cast_ofNat_Int, Int.reduceToNat, TF22, KL22]; (try simp (disch := omega) only [wrapI, tmodI, tdivI]); (fail_if_success (with_reducible show False))))
      refine Run_lp ⟨k + 1, ?_, ⟨by omega, fun j hj hjk => ?_, x3.trans (h4.ext.trans x5)⟩, by omega⟩
      · simp [SubB, fnd, strike, has]
      · by_cases e : j = k
        · subst e; rw [hxx]; exact hr5
        · exact hf j hj (by omega)
  simp at h
  obtain rfl : k = t.Lines.length := by omega
  have hall : t.Lines.all (Tt.right · t.Offices) = true := List.all_eq_true.2 fun x hx => by
    obtain ⟨j, hj, rfl⟩ := List.getElem_of_mem hx
    exact hf j hj hj
  rw [if_pos hall] at hchk
  have g3 := G w3 (x2.trans x3)
  (repeat first | with_reducible first | refine jq ?_ | refine jk ?_ | refine jc ?_ | refine jl ?_ | refine jb ?_ | refine jo ?_ | refine ji ?_ | refine jx rfl ?_ | refine And.intro (by first | assumption | omega | (intros; omega)) ?_ | ((first | refine jR KL22 (by kernel_rfl) fun _ => ?_ | skip); simp only [KS, Nat.reduceAdd, Nat.reduceMul, Nat.reduceEqDiff, ↓reduceIte, forall_const, Int.cast_ofNat_Int, Int.reduceToNat, TF22, KL22, g3, hl.s, hl.len]; (try simp (disch := omega) only [wrapI, tmodI, tdivI]); (fail_if_success (with_reducible show False))))
  refine Run_loopV [2, 6, 32, 33, 42] (σ := Nat × Int) (fun s => [(32, some (.int .i64 s.1)), (2, some (.int .i64 s.2))]) (fun s w' => s.1 ≤ t.Lines.length ∧ Tt.calL t.Lines = Tt.calL (t.Lines.drop s.1) ∧ Ext w2 w') (fun s => t.Lines.length - s.1) (0, 0) (by simp [SubB, fnd]) ⟨by simp, by simp, x3⟩ ?_
  rintro ⟨k, ec⟩ w4 ⟨hk, hf, x4⟩
  simp only at hk hf
  have y4 := y2.trans x4
  (repeat first | with_reducible first | refine jq ?_ | refine jk ?_ | refine jc ?_ | refine jl ?_ | refine jb ?_ | refine jo ?_ | refine ji ?_ | refine jx rfl ?_ | refine And.intro (by first | assumption | omega | (intros; omega)) ?_ | ((first | refine jR KL22 (by kernel_rfl) fun _ => ?_ | skip); simp only [KS, Nat.reduceAdd, Nat.reduceMul, Nat.reduceEqDiff, ↓reduceIte, forall_const, Int.cast_ofNat_Int, Int.reduceToNat, TF22, KL22]; (try simp (disch := omega) only [wrapI, tmodI, tdivI]); (fail_if_success (with_reducible show False))))
  refine Run_condS (fun _ => rfl) (fun h => ?_) (fun h => ?_)
  · simp at h
    have hkl := h
    obtain ⟨v0, v1, v2, v3, f1, f2, hR⟩ := (hl.ext y4).line hkl
    simp only [LineD.cs, AtN, KS, Nat.reduceAdd, Nat.reduceMul, Nat.reduceEqDiff, ↓reduceIte, UT] at f1
    have hone := hR.one
    simp only [LineD.cs] at hone
    rw [Tt.calL_drop hkl] at hf
    generalize hxx : t.Lines[k] = x at *
    (repeat first | with_reducible first | refine jq ?_ | refine jk ?_ | refine jc ?_ | refine jl ?_ | refine jb ?_ | refine jo ?_ | refine ji ?_ | refine jx rfl ?_ | refine And.intro (by first | assumption | omega | (intros; omega)) ?_ | ((first | refine jR KL22 (by kernel_rfl) fun _ => ?_ | skip); simp only [KS, Nat.reduceAdd, Nat.reduceMul, Nat.reduceEqDiff, ↓reduceIte, forall_const, Int.cast_ofNat_Int, Int.reduceToNat, TF22, KL22, hl.s, hl.len, f1]; (try simp (disch := omega) only [wrapI, tmodI, tdivI]); (fail_if_success (with_reducible show False))))
    refine SemW_var ti55 rfl rfl (by decide) (by simpa [Value.cells] using hone) fun px w5 h5 => ?_
    have q5 := h5.at_.n
    simp only [AtN, KS, Nat.reduceAdd, Nat.reduceMul, Nat.reduceEqDiff, ↓reduceIte, UT] at q5
    (repeat first | with_reducible first | refine jq ?_ | refine jk ?_ | refine jc ?_ | refine jl ?_ | refine jb ?_ | refine jo ?_ | refine ji ?_ | refine jx rfl ?_ | refine And.intro (by first | assumption | omega | (intros; omega)) ?_ | ((first | refine jR KL22 (by kernel_rfl) fun _ => ?_ | skip); simp only [KS, Nat.reduceAdd, Nat.reduceMul, Nat.reduceEqDiff, ↓reduceIte, forall_const, Int.cast_ofNat_Int, Int.reduceToNat, TF22, KL22, q5]; (try simp (disch := omega) only [wrapI, tmodI, tdivI]); (fail_if_success (with_reducible show False))))
    refine CallW_pure call43 (calCheck v2 v3 x.Rules x.Off w5 (hR.r.ext h5.ext) (hR.g.ext h5.ext)) fun w6 x6 => ?_
    have y6 := y4.trans (h5.ext.trans x6)
    (repeat first | with_reducible first | refine jq ?_ | refine jk ?_ | refine jc ?_ | refine jl ?_ | refine jb ?_ | refine jo ?_ | refine ji ?_ | refine jx rfl ?_ | refine And.intro (by first | assumption | omega | (intros; omega)) ?_ | ((first | refine jR KL22 (by kernel_rfl) fun _ => ?_ | skip); simp only [KS, Nat.reduceAdd, Nat.reduceMul, Nat.reduceEqDiff, ↓reduceIte, forall_const, Int.cast_ofNat_Int, Int.reduceToNat, TF22, KL22]; (try simp (disch := omega) only [wrapI, tmodI, tdivI]); (fail_if_success (with_reducible show False))))
    refine Run_condS (fun _ => rfl) (fun h => ?_) (fun h => ?_)
    · simp at h
      (repeat first | with_reducible first | refine jq ?_ | refine jk ?_ | refine jc ?_ | refine jl ?_ | refine jb ?_ | refine jo ?_ | refine ji ?_ | refine jx rfl ?_ | refine And.intro (by first | assumption | omega | (intros; omega)) ?_ | ((first | refine jR KL22 (by kernel_rfl) fun _ => ?_ | skip); simp only [KS, Nat.reduceAdd, Nat.reduceMul, Nat.reduceEqDiff, ↓reduceIte, forall_const, Int.cast_ofNat_Int, Int.reduceToNat, TF22, KL22]; (try simp (disch := omega) only [wrapI, tmodI, tdivI]); (fail_if_success (with_reducible show False))))
      refine Run_ret ?_
      rw [if_pos h] at hf
      simp [Rets, RetM, resV, fnd, oneOr, hchk, hf, y6]
    · simp at h
      rw [if_neg (by simp [h])] at hf
      (repeat first | with_reducible first | refine jq ?_ | refine jk ?_ | refine jc ?_ | refine jl ?_ | refine jb ?_ | refine jo ?_ | refine ji ?_ | refine jx rfl ?_ | refine And.intro (by first | assumption | omega | (intros; omega)) ?_ | ((first | refine jR KL22 (by kernel_rfl) fun _ => ?_ | skip); simp only [KS, Nat.reduceAdd, Nat.reduceMul, Nat.reduceEqDiff, ↓reduceIte, forall_const, Int.cast_ofNat_Int, Int.reduceToNat, TF22, KL22]; (try simp (disch := omega) only [wrapI, tmodI, tdivI]); (fail_if_success (with_reducible show False))))
      refine Run_lp ⟨(k + 1, Cal.chk x.Rules x.Off), ?_, ⟨by simp only; omega, hf, x4.trans (h5.ext.trans x6)⟩, by simp only; omega⟩
      simp [SubB, fnd, strike, has]
  simp at h
  obtain rfl : k = t.Lines.length := by omega
  (repeat first | with_reducible first | refine jq ?_ | refine jk ?_ | refine jc ?_ | refine jl ?_ | refine jb ?_ | refine jo ?_ | refine ji ?_ | refine jx rfl ?_ | refine And.intro (by first | assumption | omega | (intros; omega)) ?_ | ((first | refine jR KL22 (by kernel_rfl) fun _ => ?_ | skip); simp only [KS, Nat.reduceAdd, Nat.reduceMul, Nat.reduceEqDiff, ↓reduceIte, forall_const, Int.cast_ofNat_Int, Int.reduceToNat, TF22, KL22]; (try simp (disch := omega) only [wrapI, tmodI, tdivI]); (fail_if_success (with_reducible show False))))
  refine Run_ret ?_
  rw [List.drop_length] at hf
  simp [Rets, RetM, resV, fnd, oneOr, hchk, hf, Tt.calL, y4]

/-- the sums of the beginnings of a list -/
def sumsL (a : Int) (l : List Int) (k : Nat) : List Int := (List.range (k + 1)).map fun i => a + Tt.sm (l.take i)
theorem sumsL_len (a : Int) (l : List Int) (k : Nat) : (sumsL a l k).length = k + 1 := by simp [sumsL]
theorem sumsL_succ (a : Int) (l : List Int) (k : Nat) : sumsL a l (k + 1) = sumsL a l k ++ [a + Tt.sm (l.take (k + 1))] := by
  simp [sumsL, List.range_succ]
theorem ttSums (v : Value) (l : List Int) (a : Int) (w : World) (hx : Sl w v l) (hb : l.length ≤ 1000) (hI : ∀ i, i ≤ l.length → I64 (a + Tt.sm (l.take i))) :
    Calls Try.prog 89 #[.int .i64 a, v] w fun e w' => ∃ v', e = .returned v' ∧ Ext w w' ∧ BufL (α := Int) 3 w w' v' (sumsL a l l.length) := by
  have h0 := hI 0 (by omega)
  simp only [List.take_zero, Tt.sm, Int.add_zero] at h0
  refine Calls_of_Run (args := [.int .i64 a, v]) (n := 25) (rs := [.tmp 4]) Try.func89 rfl rfl rfl (by simp) ?_
  (repeat first | with_reducible first | refine jq ?_ | refine jk ?_ | refine jc ?_ | refine jl ?_ | refine jb ?_ | refine jo ?_ | refine ji ?_ | refine jx rfl ?_ | refine And.intro (by first | assumption | omega | (intros; omega)) ?_ | ((first | refine jR KL89 (by kernel_rfl) fun _ => ?_ | skip); simp only [KS, Nat.reduceAdd, Nat.reduceMul, Nat.reduceEqDiff, ↓reduceIte, forall_const, Int.cast_ofNat_Int, Int.reduceToNat, TF89, KL89]; (try simp (disch := omega) only [wrapI, tmodI, tdivI]); (fail_if_success (with_reducible show False))))
  refine SemW_buildF (α := Int) (W := w) Try.underlying25 ti3 rfl (by decide) (Ext.refl _) [.int .i64 a] [a] rfl rfl (Cs.one ⟨rfl, h0⟩) (by simp [Enc.n]) fun p w1 b1 s1 x1 => ?_
  (repeat first | with_reducible first | refine jq ?_ | refine jk ?_ | refine jc ?_ | refine jl ?_ | refine jb ?_ | refine jo ?_ | refine ji ?_ | refine jx rfl ?_ | refine And.intro (by first | assumption | omega | (intros; omega)) ?_ | ((first | refine jR KL89 (by kernel_rfl) fun _ => ?_ | skip); simp only [KS, Nat.reduceAdd, Nat.reduceMul, Nat.reduceEqDiff, ↓reduceIte, forall_const, Int.cast_ofNat_Int, Int.reduceToNat, TF89, KL89, hx.s, hx.len]; (try simp (disch := omega) only [wrapI, tmodI, tdivI]); (fail_if_success (with_reducible show False))))
  refine Run_loopV [0, 5, 7, 12, 13] (σ := Nat × Value) (fun s => [(12, some (.int .i64 s.1)), (5, some s.2), (0, some (.int .i64 (a + Tt.sm (l.take s.1))))]) (fun s w' => s.1 ≤ l.length ∧ BufL (α := Int) 3 w w' s.2 (sumsL a l s.1)) (fun s => l.length - s.1) (0, .slice (some p) 1 1) (by simp [SubB, fnd, Tt.sm]) ⟨by simp, by simpa [sumsL, Tt.sm, List.range, List.range.loop] using b1⟩ ?_
  rintro ⟨k, vo⟩ w2 ⟨hk, b2⟩
  simp only at hk b2
  (repeat first | with_reducible first | refine jq ?_ | refine jk ?_ | refine jc ?_ | refine jl ?_ | refine jb ?_ | refine jo ?_ | refine ji ?_ | refine jx rfl ?_ | refine And.intro (by first | assumption | omega | (intros; omega)) ?_ | ((first | refine jR KL89 (by kernel_rfl) fun _ => ?_ | skip); simp only [KS, Nat.reduceAdd, Nat.reduceMul, Nat.reduceEqDiff, ↓reduceIte, forall_const, Int.cast_ofNat_Int, Int.reduceToNat, TF89, KL89]; (try simp (disch := omega) only [wrapI, tmodI, tdivI]); (fail_if_success (with_reducible show False))))
  refine Run_condS (fun _ => rfl) (fun h => ?_) (fun h => ?_)
  · simp at h
    have hkl : k < l.length := by omega
    obtain ⟨f1, f2, f3⟩ := (hx.ext b2.ext0).get hkl
    have hI1 := hI (k + 1) hkl
    rw [Tt.sm_take l k hkl] at hI1
    unfold I64 at hI1
    (repeat first | with_reducible first | refine jq ?_ | refine jk ?_ | refine jc ?_ | refine jl ?_ | refine jb ?_ | refine jo ?_ | refine ji ?_ | refine jx rfl ?_ | refine And.intro (by first | assumption | omega | (intros; omega)) ?_ | ((first | refine jR KL89 (by kernel_rfl) fun _ => ?_ | skip); simp only [KS, Nat.reduceAdd, Nat.reduceMul, Nat.reduceEqDiff, ↓reduceIte, forall_const, Int.cast_ofNat_Int, Int.reduceToNat, TF89, KL89, hx.s, hx.len, f1, f2]; (try simp (disch := omega) only [wrapI, tmodI, tdivI]); (fail_if_success (with_reducible show False))))
    have e1 : a + Tt.sm (l.take k) + l[k] = a + Tt.sm (l.take (k + 1)) := by rw [Tt.sm_take l k hkl]; omega
    rw [e1]
    refine SemW_append1F (α := Int) (X := .int .i64 (a + Tt.sm (l.take (k + 1)))) (x := a + Tt.sm (l.take (k + 1))) Try.underlying25 ti3 rfl (by decide) b2 ⟨rfl, hI (k + 1) hkl⟩ (by simp [maxLen, sumsL_len]; omega) fun s v' w3 b3 _ x3 _ => ?_
    rw [← sumsL_succ] at b3
    (repeat first | with_reducible first | refine jq ?_ | refine jk ?_ | refine jc ?_ | refine jl ?_ | refine jb ?_ | refine jo ?_ | refine ji ?_ | refine jx rfl ?_ | refine And.intro (by first | assumption | omega | (intros; omega)) ?_ | ((first | refine jR KL89 (by kernel_rfl) fun _ => ?_ | skip); simp only [KS, Nat.reduceAdd, Nat.reduceMul, Nat.reduceEqDiff, ↓reduceIte, forall_const, Int.cast_ofNat_Int, Int.reduceToNat, TF89, KL89]; (try simp (disch := omega) only [wrapI, tmodI, tdivI]); (fail_if_success (with_reducible show False))))
    refine Run_lp ⟨(k + 1, v'), ?_, ⟨by simp only; omega, b3⟩, by simp only; omega⟩
    simp [SubB, fnd, strike, has]
  · simp at h
    obtain rfl : k = l.length := by omega
    (repeat first | with_reducible first | refine jq ?_ | refine jk ?_ | refine jc ?_ | refine jl ?_ | refine jb ?_ | refine jo ?_ | refine ji ?_ | refine jx rfl ?_ | refine And.intro (by first | assumption | omega | (intros; omega)) ?_ | ((first | refine jR KL89 (by kernel_rfl) fun _ => ?_ | skip); simp only [KS, Nat.reduceAdd, Nat.reduceMul, Nat.reduceEqDiff, ↓reduceIte, forall_const, Int.cast_ofNat_Int, Int.reduceToNat, TF89, KL89]; (try simp (disch := omega) only [wrapI, tmodI, tdivI]); (fail_if_success (with_reducible show False))))
    refine Run_ret ?_
    simp [Rets, RetM, resV, fnd, oneOr]
    exact ⟨b2.ext0, b2⟩
theorem ttArrival (x : LineD) (v0 v1 v2 v3 : Value) (a : Int) (w : World) (hR : LineR w x v0 v1 v2 v3) (n : Int) (hx : Tt.LOk x n) (h0 : 0 ≤ a) (h1 : a ≤ 2097152) :
    Calls Try.prog 87 #[.agg (x.cs v0 v1 v2 v3).toArray, .int .i64 a] w fun e w' => e = .returned (.int .i64 (a + Tt.leng x)) ∧ Ext w w' := by
  have hl9 : x.Legs.length ≤ 8 := by have := hx.l1; have := hx.o9; omega
  have hbd := Tt.sm_bd hx.l
  refine Calls_of_Run (args := [.agg (x.cs v0 v1 v2 v3).toArray, .int .i64 a]) (n := 16) (rs := [.tmp 4]) Try.func87 rfl rfl rfl (by simp) ?_
  (repeat first | with_reducible first | refine jq ?_ | refine jk ?_ | refine jc ?_ | refine jl ?_ | refine jb ?_ | refine jo ?_ | refine ji ?_ | refine jx rfl ?_ | refine And.intro (by first | assumption | omega | (intros; omega)) ?_ | ((first | refine jR KL87 (by kernel_rfl) fun _ => ?_ | skip); simp only [KS, Nat.reduceAdd, Nat.reduceMul, Nat.reduceEqDiff, ↓reduceIte, forall_const, Int.cast_ofNat_Int, Int.reduceToNat, TF87, KL87]; (try simp (disch := omega) only [wrapI, tmodI, tdivI]); (fail_if_success (with_reducible show False))))
  refine SemW_box fun p w1 hN => ?_
  have g1 := hN.at_.n
  simp only [LineD.cs, AtN, KS, Nat.reduceAdd, Nat.reduceMul, Nat.reduceEqDiff, ↓reduceIte, UT] at g1
  (repeat first | with_reducible first | refine jq ?_ | refine jk ?_ | refine jc ?_ | refine jl ?_ | refine jb ?_ | refine jo ?_ | refine ji ?_ | refine jx rfl ?_ | refine And.intro (by first | assumption | omega | (intros; omega)) ?_ | ((first | refine jR KL87 (by kernel_rfl) fun _ => ?_ | skip); simp only [KS, Nat.reduceAdd, Nat.reduceMul, Nat.reduceEqDiff, ↓reduceIte, forall_const, Int.cast_ofNat_Int, Int.reduceToNat, TF87, KL87, g1]; (try simp (disch := omega) only [wrapI, tmodI, tdivI]); (fail_if_success (with_reducible show False))))
  refine CallW_gen call89 (ttSums v1 x.Legs a w1 (hR.l.ext hN.ext) (by omega) (fun i hi => by have := hbd i hi; unfold I64; omega)) fun e w2 ⟨v', he, x2, b2⟩ => ⟨_, he, ?_⟩
  have s2 := b2.sl (by rw [sumsL_len]; omega)
  have hl2 := s2.len
  rw [sumsL_len] at hl2
  obtain ⟨f1, f2, f3⟩ := s2.get (i := x.Legs.length) (by rw [sumsL_len]; omega)
  have e1 : (sumsL a x.Legs x.Legs.length)[x.Legs.length]'(by rw [sumsL_len]; omega) = a + Tt.leng x := by simp [sumsL, Tt.leng]
  rw [e1] at f1
  have e2 : (((x.Legs.length + 1 : Nat) : Int) - 1).toNat = x.Legs.length := by omega
  (repeat first | with_reducible first | refine jq ?_ | refine jk ?_ | refine jc ?_ | refine jl ?_ | refine jb ?_ | refine jo ?_ | refine ji ?_ | refine jx rfl ?_ | refine And.intro (by first | assumption | omega | (intros; omega)) ?_ | ((first | refine jR KL87 (by kernel_rfl) fun _ => ?_ | skip); simp only [KS, Nat.reduceAdd, Nat.reduceMul, Nat.reduceEqDiff, ↓reduceIte, forall_const, Int.cast_ofNat_Int, Int.reduceToNat, TF87, KL87, s2.s, hl2, f1, f2, e2]; (try simp (disch := omega) only [wrapI, tmodI, tdivI]); (fail_if_success (with_reducible show False))))
  refine Run_ret ?_
  simp [Rets, RetM, resV, fnd, oneOr]
  exact hN.ext.trans x2
theorem deps_one (rules : List Rule) (off : List Gap) (a : Int) : Cal.deps rules off a (a + 1) = if Cal.departs rules off a = true then [a] else [] := by
  unfold Cal.deps
  rw [show (a + 1 - a).toNat = 1 by omega]
  simp [Cal.depsN]
theorem moments_one {rules : List Rule} {off : List Gap} {a : Int} (hc : Cal.chk rules off = 0) (h0 : 0 ≤ a) (h1 : a < 2097152) : Cal.moments rules off a (a + 1) = (if Cal.departs rules off a = true then [a] else [], 0) := by
  unfold Cal.moments
  rw [if_neg (by simp [hc]), if_neg (by omega), deps_one]
  by_cases h : Cal.departs rules off a = true
  · rw [if_pos h, if_neg (by simp)]
  · rw [if_neg h, if_neg (by simp)]
/-- a run's fields -/
def RunI (r : RunD) : Prop := I64 r.Line ∧ I64 r.At ∧ I64 r.Arrive
theorem ttis (vl : Value) (t : TimeD) (r : RunD) (w : World) (hl : Sl w vl t.Lines) (ht : Tt.Ok t) (hr : RunI r) :
    Calls Try.prog 79 #[.agg (t.cs vl).toArray, .agg r.cs.toArray] w fun e w' => e = .returned (.bool (Tt.isR t r)) ∧ Ext w w' := by
  have hn := ht.n
  have hlen := hl.len
  refine Calls_of_Run (args := [.agg (t.cs vl).toArray, .agg r.cs.toArray]) (n := 62) (rs := [.tmp 4]) Try.func79 rfl rfl rfl (by simp) ?_
  (repeat first | with_reducible first | refine jq ?_ | refine jk ?_ | refine jc ?_ | refine jl ?_ | refine jb ?_ | refine jo ?_ | refine ji ?_ | refine jx rfl ?_ | refine And.intro (by first | assumption | omega | (intros; omega)) ?_ | ((first | refine jR KL79 (by kernel_rfl) fun _ => ?_ | refine jD (id := 5) KL79 mixed (by kernel_rfl) (by kernel_rfl) fun _ => ?_ | skip); simp only [KS, Nat.reduceAdd, Nat.reduceMul, Nat.reduceEqDiff, ↓reduceIte, forall_const, Int.cast_ofNat_Int, Int.reduceToNat, TF79, KL79]; (try simp (disch := omega) only [wrapI, tmodI, tdivI]); (fail_if_success (with_reducible show False))))
  refine SemW_box fun p w1 hN => SemW_box fun q w2 hQ => ?_
  have x2 := hN.ext.trans hQ.ext
  have G : ∀ w', Ext w2 w' → AtN w' p 0 (t.cs vl) := fun w' x => (hN.at_.ext (hQ.ext.trans x)).n
  have G' : ∀ w', Ext w2 w' → AtN w' q 0 r.cs := fun w' x => (hQ.at_.ext x).n
  simp only [TimeD.cs, RunD.cs, AtN, KS, Nat.reduceAdd, Nat.reduceMul, Nat.reduceEqDiff, ↓reduceIte, UT] at G G'
  have g2 := G w2 (Ext.refl _)
  have k2 := G' w2 (Ext.refl _)
  (repeat first | with_reducible first | refine jq ?_ | refine jk ?_ | refine jc ?_ | refine jl ?_ | refine jb ?_ | refine jo ?_ | refine ji ?_ | refine jx rfl ?_ | refine And.intro (by first | assumption | omega | (intros; omega)) ?_ | ((first | refine jR KL79 (by kernel_rfl) fun _ => ?_ | refine jD (id := 5) KL79 mixed (by kernel_rfl) (by kernel_rfl) fun _ => ?_ | skip); simp only [KS, Nat.reduceAdd, Nat.reduceMul, Nat.reduceEqDiff, ↓reduceIte, forall_const, Int.cast_ofNat_Int, Int.reduceToNat, TF79, KL79, g2, k2, hl.s, hl.len]; (try simp (disch := omega) only [wrapI, tmodI, tdivI]); (fail_if_success (with_reducible show False))))
  refine betW fun w3 x3 => ?_
  have k3 := G' w3 x3
  (repeat first | with_reducible first | refine jq ?_ | refine jk ?_ | refine jc ?_ | refine jl ?_ | refine jb ?_ | refine jo ?_ | refine ji ?_ | refine jx rfl ?_ | refine And.intro (by first | assumption | omega | (intros; omega)) ?_ | ((first | refine jR KL79 (by kernel_rfl) fun _ => ?_ | refine jD (id := 5) KL79 mixed (by kernel_rfl) (by kernel_rfl) fun _ => ?_ | skip); simp only [KS, Nat.reduceAdd, Nat.reduceMul, Nat.reduceEqDiff, ↓reduceIte, forall_const, Int.cast_ofNat_Int, Int.reduceToNat, TF79, KL79, k3]; (try simp (disch := omega) only [wrapI, tmodI, tdivI]); (fail_if_success (with_reducible show False))))
  refine .inr ⟨.bool (decide (0 ≤ r.At ∧ r.At ≤ 2097151)), fun _ => PC_pure call41 fun w4 x4 => ttBetween _ _ _ w4, fun w4 x4 => ?_⟩
  unfold hush
  have x24 := x3.trans x4
  have y4 := x2.trans x24
  (repeat first | with_reducible first | refine jq ?_ | refine jk ?_ | refine jc ?_ | refine jl ?_ | refine jb ?_ | refine jo ?_ | refine ji ?_ | refine jx rfl ?_ | refine And.intro (by first | assumption | omega | (intros; omega)) ?_ | ((first | refine jR KL79 (by kernel_rfl) fun _ => ?_ | refine jD (id := 5) KL79 mixed (by kernel_rfl) (by kernel_rfl) fun _ => ?_ | skip); simp only [KS, Nat.reduceAdd, Nat.reduceMul, Nat.reduceEqDiff, ↓reduceIte, forall_const, Int.cast_ofNat_Int, Int.reduceToNat, TF79, KL79, k3]; (try simp (disch := omega) only [wrapI, tmodI, tdivI]); (fail_if_success (with_reducible show False))))
  refine Run_condS (fun _ => rfl) (fun h => ?_) (fun h => ?_)
  · (repeat first | with_reducible first | refine jq ?_ | refine jk ?_ | refine jc ?_ | refine jl ?_ | refine jb ?_ | refine jo ?_ | refine ji ?_ | refine jx rfl ?_ | refine And.intro (by first | assumption | omega | (intros; omega)) ?_ | ((first | refine jR KL79 (by kernel_rfl) fun _ => ?_ | refine jD (id := 5) KL79 mixed (by kernel_rfl) (by kernel_rfl) fun _ => ?_ | skip); simp only [KS, Nat.reduceAdd, Nat.reduceMul, Nat.reduceEqDiff, ↓reduceIte, forall_const, Int.cast_ofNat_Int, Int.reduceToNat, TF79, KL79]; (try simp (disch := omega) only [wrapI, tmodI, tdivI]); (fail_if_success (with_reducible show False))))
    refine Run_ret ?_
    have : Tt.isR t r = false := by
      unfold Tt.isR
      rw [Bool.and_eq_false_iff]; left
      simp at h ⊢; omega
    simp [Rets, RetM, resV, fnd, oneOr, this, y4]
  · simp at h
    have hlt : r.Line.toNat < t.Lines.length := by omega
    obtain ⟨v0, v1, v2, v3, f1, f2, hR⟩ := (hl.ext y4).line hlt
    simp only [LineD.cs, AtN, KS, Nat.reduceAdd, Nat.reduceMul, Nat.reduceEqDiff, ↓reduceIte, UT] at f1
    have hone := hR.one
    simp only [LineD.cs] at hone
    have hgd : t.Lines.getD r.Line.toNat default = t.Lines[r.Line.toNat] := by simp [List.getD_eq_getElem?_getD, hlt]
    have hxo := Tt.right_ok (ht.r _ (List.getElem_mem hlt))
    have hxc := ht.c _ (List.getElem_mem hlt)
    have g4 := G w4 x24
    have k4 := G' w4 x24
    have hres : Tt.isR t r = (Cal.departs (t.Lines.getD r.Line.toNat default).Rules (t.Lines.getD r.Line.toNat default).Off r.At && decide (r.Arrive = r.At + Tt.leng (t.Lines.getD r.Line.toNat default) ∧ r.Arrive < 2097152)) := by
      unfold Tt.isR
      rw [show decide (0 ≤ r.Line ∧ r.Line < t.Lines.length ∧ 0 ≤ r.At ∧ r.At < 2097152) = true by simp; omega]; rfl
    rw [hgd] at hres
    generalize hxx : t.Lines[r.Line.toNat] = x at *
    (repeat first | with_reducible first | refine jq ?_ | refine jk ?_ | refine jc ?_ | refine jl ?_ | refine jb ?_ | refine jo ?_ | refine ji ?_ | refine jx rfl ?_ | refine And.intro (by first | assumption | omega | (intros; omega)) ?_ | ((first | refine jR KL79 (by kernel_rfl) fun _ => ?_ | refine jD (id := 5) KL79 mixed (by kernel_rfl) (by kernel_rfl) fun _ => ?_ | skip); simp only [KS, Nat.reduceAdd, Nat.reduceMul, Nat.reduceEqDiff, ↓reduceIte, forall_const, Int.cast_ofNat_Int, Int.reduceToNat, TF79, KL79, g4, k4, hl.s, hl.len, f1]; (try simp (disch := omega) only [wrapI, tmodI, tdivI]); (fail_if_success (with_reducible show False))))
    refine SemW_var ti55 rfl rfl (by decide) (by simpa [Value.cells] using hone) fun px w5 h5 => ?_
    have q5 := h5.at_.n
    simp only [AtN, KS, Nat.reduceAdd, Nat.reduceMul, Nat.reduceEqDiff, ↓reduceIte, UT] at q5
    have k5 := G' w5 (x24.trans h5.ext)
    (repeat first | with_reducible first | refine jq ?_ | refine jk ?_ | refine jc ?_ | refine jl ?_ | refine jb ?_ | refine jo ?_ | refine ji ?_ | refine jx rfl ?_ | refine And.intro (by first | assumption | omega | (intros; omega)) ?_ | ((first | refine jR KL79 (by kernel_rfl) fun _ => ?_ | refine jD (id := 5) KL79 mixed (by kernel_rfl) (by kernel_rfl) fun _ => ?_ | skip); simp only [KS, Nat.reduceAdd, Nat.reduceMul, Nat.reduceEqDiff, ↓reduceIte, forall_const, Int.cast_ofNat_Int, Int.reduceToNat, TF79, KL79, q5, k5]; (try simp (disch := omega) only [wrapI, tmodI, tdivI]); (fail_if_success (with_reducible show False))))
    refine CallW_gen call86 (calMoments v2 v3 x.Rules x.Off r.At (r.At + 1) w5 (hR.r.ext h5.ext) (hR.g.ext h5.ext)) fun e w6 ⟨vm, he, x6, s6⟩ => ⟨_, he, ?_⟩
    rw [moments_one hxc (by omega) (by omega)] at s6 ⊢
    simp only at s6
    have y6 := y4.trans (h5.ext.trans x6)
    have q6 := (h5.at_.ext x6).n
    simp only [AtN, KS, Nat.reduceAdd, Nat.reduceMul, Nat.reduceEqDiff, ↓reduceIte, UT] at q6
    have k6 := G' w6 (x24.trans (h5.ext.trans x6))
    have hbd := Tt.sm_bd hxo.l x.Legs.length (Nat.le_refl _)
    rw [List.take_length] at hbd
    by_cases hd : Cal.departs x.Rules x.Off r.At = true
    · rw [if_pos hd] at s6
      rw [hd, Bool.true_and] at hres
      (repeat first | with_reducible first | refine jq ?_ | refine jk ?_ | refine jc ?_ | refine jl ?_ | refine jb ?_ | refine jo ?_ | refine ji ?_ | refine jx rfl ?_ | refine And.intro (by first | assumption | omega | (intros; omega)) ?_ | ((first | refine jR KL79 (by kernel_rfl) fun _ => ?_ | refine jD (id := 5) KL79 mixed (by kernel_rfl) (by kernel_rfl) fun _ => ?_ | skip); simp only [KS, Nat.reduceAdd, Nat.reduceMul, Nat.reduceEqDiff, ↓reduceIte, forall_const, Int.cast_ofNat_Int, Int.reduceToNat, TF79, KL79, k6, q6, s6.s, s6.len, List.length_cons, List.length_nil, beq_self_eq_true, pk_true, pk_false, false_or, or_false, false_imp_iff, true_imp_iff, not_true_eq_false, not_false_eq_true, Bool.true_or, Bool.false_or, Bool.or_true, Bool.or_false, Bool.true_and, Bool.false_and, Bool.and_true, Bool.and_false]; (try simp (disch := omega) only [wrapI, tmodI, tdivI]); (fail_if_success (with_reducible show False))))
      refine ⟨.int .i64 (r.At + Tt.leng x), PC_pure call87 fun w7 x7 => ttArrival x v0 v1 v2 v3 r.At w7 (hR.ext (h5.ext.trans (x6.trans x7))) t.Offices hxo (by omega) (by omega), rfl, fun w7 x7 => ?_⟩
      refine Run_ret ?_
      simp only [Rets, RetM, resV, fnd, oneOr, ↓reduceIte]
      refine ⟨_, rfl, ?_, y6.trans x7⟩
      rw [hres]
      congr 2
      rw [Bool.eq_iff_iff]; simp
    · rw [if_neg hd] at s6
      simp only [Bool.not_eq_true] at hd
      rw [hd, Bool.false_and] at hres
      (repeat first | with_reducible first | refine jq ?_ | refine jk ?_ | refine jc ?_ | refine jl ?_ | refine jb ?_ | refine jo ?_ | refine ji ?_ | refine jx rfl ?_ | refine And.intro (by first | assumption | omega | (intros; omega)) ?_ | ((first | refine jR KL79 (by kernel_rfl) fun _ => ?_ | refine jD (id := 5) KL79 mixed (by kernel_rfl) (by kernel_rfl) fun _ => ?_ | skip); simp only [KS, Nat.reduceAdd, Nat.reduceMul, Nat.reduceEqDiff, ↓reduceIte, forall_const, Int.cast_ofNat_Int, Int.reduceToNat, TF79, KL79, k6, q6, s6.s, s6.len, List.length_nil, beq_self_eq_true, pk_true, pk_false, false_or, or_false, false_imp_iff, true_imp_iff, not_true_eq_false, not_false_eq_true, Bool.true_or, Bool.false_or, Bool.or_true, Bool.or_false, Bool.true_and, Bool.false_and, Bool.and_true, Bool.and_false]; (try simp (disch := omega) only [wrapI, tmodI, tdivI]); (fail_if_success (with_reducible show False))))
      have e01 : ((0 : Int) == 1) = false := by decide
      refine ⟨.int .i64 0, (fun h => by cases h), (fun h => by cases h), fun w7 x7 => ?_⟩
      refine Run_ret ?_
      simp only [Rets, RetM, resV, fnd, oneOr, ↓reduceIte, e01]
      refine ⟨_, rfl, ?_, y6.trans x7⟩
      rw [hres]; rfl
theorem chkW {vl : Value} {t : TimeD} {w : World} {e : Int} {K : Value → World → Prop} (h : Tt.chk t = e) (hl : Sl w vl t.Lines) (hK : ∀ w', Ext w w' → K (.int .i64 e) w') : CallW Try.prog (.func (.func 22) #[] #[]) [.agg #[.int .i64 t.Offices, vl]] w K := by
  subst h; exact CallW_pure call22 (ttCheck vl t w hl) hK
theorem ttIs (vl : Value) (t : TimeD) (r : RunD) (w : World) (hl : Sl w vl t.Lines) (hr : RunI r) :
    Calls Try.prog 52 #[.agg (t.cs vl).toArray, .agg r.cs.toArray] w fun e w' => e = .returned (.bool (Tt.isRun t r)) ∧ Ext w w' := by
  refine Calls_of_Run (args := [.agg (t.cs vl).toArray, .agg r.cs.toArray]) (n := 13) (rs := [.tmp 4]) Try.func52 rfl rfl rfl (by simp) ?_
  (repeat first | with_reducible first | refine jq ?_ | refine jk ?_ | refine jc ?_ | refine jl ?_ | refine jb ?_ | refine jo ?_ | refine ji ?_ | refine jx rfl ?_ | refine And.intro (by first | assumption | omega | (intros; omega)) ?_ | ((first | refine jR KL52 (by kernel_rfl) fun _ => ?_ | skip); simp only [KS, Nat.reduceAdd, Nat.reduceMul, Nat.reduceEqDiff, ↓reduceIte, forall_const, Int.cast_ofNat_Int, Int.reduceToNat, TF52, KL52]; (try simp (disch := omega) only [wrapI, tmodI, tdivI]); (fail_if_success (with_reducible show False))))
  refine SemW_box fun p w1 hN => SemW_box fun q w2 hQ => ?_
  have x2 := hN.ext.trans hQ.ext
  have G : ∀ w', Ext w2 w' → AtN w' p 0 (t.cs vl) := fun w' x => (hN.at_.ext (hQ.ext.trans x)).n
  have G' : ∀ w', Ext w2 w' → AtN w' q 0 r.cs := fun w' x => (hQ.at_.ext x).n
  simp only [TimeD.cs, RunD.cs, AtN, KS, Nat.reduceAdd, Nat.reduceMul, Nat.reduceEqDiff, ↓reduceIte, UT] at G G'
  have g2 := G w2 (Ext.refl _)
  (repeat first | with_reducible first | refine jq ?_ | refine jk ?_ | refine jc ?_ | refine jl ?_ | refine jb ?_ | refine jo ?_ | refine ji ?_ | refine jx rfl ?_ | refine And.intro (by first | assumption | omega | (intros; omega)) ?_ | ((first | refine jR KL52 (by kernel_rfl) fun _ => ?_ | skip); simp only [KS, Nat.reduceAdd, Nat.reduceMul, Nat.reduceEqDiff, ↓reduceIte, forall_const, Int.cast_ofNat_Int, Int.reduceToNat, TF52, KL52, g2]; (try simp (disch := omega) only [wrapI, tmodI, tdivI]); (fail_if_success (with_reducible show False))))
  refine chkW rfl (hl.ext x2) fun w3 x3 => ?_
  have g3 := G w3 x3
  have k3 := G' w3 x3
  (repeat first | with_reducible first | refine jq ?_ | refine jk ?_ | refine jc ?_ | refine jl ?_ | refine jb ?_ | refine jo ?_ | refine ji ?_ | refine jx rfl ?_ | refine And.intro (by first | assumption | omega | (intros; omega)) ?_ | ((first | refine jR KL52 (by kernel_rfl) fun _ => ?_ | skip); simp only [KS, Nat.reduceAdd, Nat.reduceMul, Nat.reduceEqDiff, ↓reduceIte, forall_const, Int.cast_ofNat_Int, Int.reduceToNat, TF52, KL52, g3, k3]; (try simp (disch := omega) only [wrapI, tmodI, tdivI]); (fail_if_success (with_reducible show False))))
  by_cases hc : Tt.chk t = 0
  · have hb : (Tt.chk t == 0) = true := by simp [hc]
    refine .inr ⟨.bool (Tt.isR t r), fun _ => PC_pure call79 fun w4 x4 => ttis vl t r w4 (hl.ext (x2.trans (x3.trans x4))) (Tt.chk_ok hc) hr, fun w4 x4 => ?_⟩
    unfold hush
    (repeat first | with_reducible first | refine jq ?_ | refine jk ?_ | refine jc ?_ | refine jl ?_ | refine jb ?_ | refine jo ?_ | refine ji ?_ | refine jx rfl ?_ | refine And.intro (by first | assumption | omega | (intros; omega)) ?_ | ((first | refine jR KL52 (by kernel_rfl) fun _ => ?_ | skip); simp only [KS, Nat.reduceAdd, Nat.reduceMul, Nat.reduceEqDiff, ↓reduceIte, forall_const, Int.cast_ofNat_Int, Int.reduceToNat, TF52, KL52, hb, pk_true, pk_false, false_or, or_false, false_imp_iff, true_imp_iff, not_true_eq_false, not_false_eq_true, Bool.true_or, Bool.false_or, Bool.or_true, Bool.or_false, Bool.true_and, Bool.false_and, Bool.and_true, Bool.and_false]; (try simp (disch := omega) only [wrapI, tmodI, tdivI]); (fail_if_success (with_reducible show False))))
    refine Run_ret ?_
    simp [Rets, RetM, resV, fnd, oneOr, Tt.isRun, hc]
    exact x2.trans (x3.trans x4)
  · have hb : (Tt.chk t == 0) = false := by simp [hc]
    refine .inr ⟨undef, (fun h => absurd h (by simp [hb])), fun w4 x4 => ?_⟩
    unfold hush
    (repeat first | with_reducible first | refine jq ?_ | refine jk ?_ | refine jc ?_ | refine jl ?_ | refine jb ?_ | refine jo ?_ | refine ji ?_ | refine jx rfl ?_ | refine And.intro (by first | assumption | omega | (intros; omega)) ?_ | ((first | refine jR KL52 (by kernel_rfl) fun _ => ?_ | skip); simp only [KS, Nat.reduceAdd, Nat.reduceMul, Nat.reduceEqDiff, ↓reduceIte, forall_const, Int.cast_ofNat_Int, Int.reduceToNat, TF52, KL52, hb, pk_true, pk_false, false_or, or_false, false_imp_iff, true_imp_iff, not_true_eq_false, not_false_eq_true, Bool.true_or, Bool.false_or, Bool.or_true, Bool.or_false, Bool.true_and, Bool.false_and, Bool.and_true, Bool.and_false]; (try simp (disch := omega) only [wrapI, tmodI, tdivI]); (fail_if_success (with_reducible show False))))
    refine Run_ret ?_
    simp [Rets, RetM, resV, fnd, oneOr, Tt.isRun, hc]
    exact x2.trans (x3.trans x4)
end Go.Proofs.Ytcncbmdkifdggaa
