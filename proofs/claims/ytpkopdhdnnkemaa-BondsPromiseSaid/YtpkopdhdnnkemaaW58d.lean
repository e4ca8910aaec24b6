/- Chapter 58: the reference. -/
import Derived.Test.YtpkopdhdnnkemaaW58c
namespace Go.Proofs.Ytpkopdhdnnkemaa
open Go Go.Fk
set_option linter.unusedSimpArgs false
set_option linter.unusedVariables false
set_option maxRecDepth 100000

theorem rfAmount (n : Int) (w : World) : Calls Try.prog 22 #[.int .i64 n] w fun e w' => e = .returned (.bool (Bd.am n)) ∧ Ext w w' := by
  refine Calls_of_Run (args := [.int .i64 n]) (n := 9) (rs := [.tmp 2]) Try.func22 rfl rfl rfl (by simp) ?_
  (repeat first | with_reducible first | refine jq ?_ | refine jk ?_ | refine jc ?_ | refine jl ?_ | refine jb ?_ | refine jo ?_ | refine ji ?_ | refine jx rfl ?_ | refine And.intro (by first | assumption | omega | (intros; omega)) ?_ | ((first | refine jR KL22 (by kernel_rfl) fun _ => ?_ | skip); simp only [KS, Nat.reduceAdd, Nat.reduceMul, Nat.reduceEqDiff, ↓reduceIte, forall_const, Int.cast_ofNat_Int, Int.reduceToNat, TF22, KL22]; (try simp (disch := omega) only [wrapI, tmodI, tdivI]); (fail_if_success (with_reducible show False))))
  refine Run_ret ?_
  simp [Rets, RetM, resV, fnd, oneOr, Ext.refl, Bd.am]

theorem rfHas (v : Value) (xs : List Int) (n : Int) (w : World) (hx : Sl w v xs) : Calls Try.prog 45 #[v, .int .i64 n] w fun e w' => e = .returned (.bool (xs.contains n)) ∧ Ext w w' := by
  have hn := hx.small
  refine Calls_of_Run (args := [v, .int .i64 n]) (n := 18) (rs := [.tmp 4]) Try.func45 rfl rfl rfl (by simp) ?_
  (repeat first | with_reducible first | refine jq ?_ | refine jk ?_ | refine jc ?_ | refine jl ?_ | refine jb ?_ | refine jo ?_ | refine ji ?_ | refine jx rfl ?_ | refine And.intro (by first | assumption | omega | (intros; omega)) ?_ | ((first | refine jR KL45 (by kernel_rfl) fun _ => ?_ | skip); simp only [KS, Nat.reduceAdd, Nat.reduceMul, Nat.reduceEqDiff, ↓reduceIte, forall_const, Int.cast_ofNat_Int, Int.reduceToNat, TF45, KL45]; (try simp (disch := omega) only [wrapI, tmodI, tdivI]); (fail_if_success (with_reducible show False))))
  refine Run_loopV [4, 5, 9, 17] (σ := Nat) (fun k => [(5, some (.int .i64 k))]) (fun k w' => k ≤ xs.length ∧ (∀ j (h : j < xs.length), j < k → xs[j] ≠ n) ∧ Ext w w') (fun k => xs.length - k) 0 (by simp [SubB, fnd]) ⟨by omega, by simp, Ext.refl _⟩ ?_
  rintro k w1 ⟨hk, hf, x1⟩
  (repeat first | with_reducible first | refine jq ?_ | refine jk ?_ | refine jc ?_ | refine jl ?_ | refine jb ?_ | refine jo ?_ | refine ji ?_ | refine jx rfl ?_ | refine And.intro (by first | assumption | omega | (intros; omega)) ?_ | ((first | refine jR KL45 (by kernel_rfl) fun _ => ?_ | skip); simp only [KS, Nat.reduceAdd, Nat.reduceMul, Nat.reduceEqDiff, ↓reduceIte, forall_const, Int.cast_ofNat_Int, Int.reduceToNat, TF45, KL45, hx.s, hx.len]; (try simp (disch := omega) only [wrapI, tmodI, tdivI]); (fail_if_success (with_reducible show False))))
  refine Run_condS (fun _ => rfl) (fun h => ?_) (fun h => ?_)
  · simp at h
    have hkl := h
    obtain ⟨f1, f2, f3⟩ := (hx.ext x1).get h
    (repeat first | with_reducible first | refine jq ?_ | refine jk ?_ | refine jc ?_ | refine jl ?_ | refine jb ?_ | refine jo ?_ | refine ji ?_ | refine jx rfl ?_ | refine And.intro (by first | assumption | omega | (intros; omega)) ?_ | ((first | refine jR KL45 (by kernel_rfl) fun _ => ?_ | skip); simp only [KS, Nat.reduceAdd, Nat.reduceMul, Nat.reduceEqDiff, ↓reduceIte, forall_const, Int.cast_ofNat_Int, Int.reduceToNat, TF45, KL45, hx.s, hx.len, f1, f2]; (try simp (disch := omega) only [wrapI, tmodI, tdivI]); (fail_if_success (with_reducible show False))))
    refine Run_condS (fun _ => rfl) (fun h => ?_) (fun h => ?_)
    · (repeat first | with_reducible first | refine jq ?_ | refine jk ?_ | refine jc ?_ | refine jl ?_ | refine jb ?_ | refine jo ?_ | refine ji ?_ | refine jx rfl ?_ | refine And.intro (by first | assumption | omega | (intros; omega)) ?_ | ((first | refine jR KL45 (by kernel_rfl) fun _ => ?_ | skip); simp only [KS, Nat.reduceAdd, Nat.reduceMul, Nat.reduceEqDiff, ↓reduceIte, forall_const, Int.cast_ofNat_Int, Int.reduceToNat, TF45, KL45]; (try simp (disch := omega) only [wrapI, tmodI, tdivI]); (fail_if_success (with_reducible show False))))
      refine Run_ret ?_
      have h2 := of_decide_eq_true h
      have : xs.contains n = true := by rw [List.contains_iff_mem, ← h2]; exact List.getElem_mem hkl
      simp [Rets, RetM, resV, fnd, oneOr, x1]
      simpa using this
    · (repeat first | with_reducible first | refine jq ?_ | refine jk ?_ | refine jc ?_ | refine jl ?_ | refine jb ?_ | refine jo ?_ | refine ji ?_ | refine jx rfl ?_ | refine And.intro (by first | assumption | omega | (intros; omega)) ?_ | ((first | refine jR KL45 (by kernel_rfl) fun _ => ?_ | skip); simp only [KS, Nat.reduceAdd, Nat.reduceMul, Nat.reduceEqDiff, ↓reduceIte, forall_const, Int.cast_ofNat_Int, Int.reduceToNat, TF45, KL45]; (try simp (disch := omega) only [wrapI, tmodI, tdivI]); (fail_if_success (with_reducible show False))))
      have h2 := of_decide_eq_false h
      refine Run_lp ⟨k + 1, ?_, ⟨by omega, fun j hj hjk => ?_, x1⟩, by omega⟩
      · simp [SubB, fnd, strike, has]
      · by_cases e : j = k
        · subst e; exact h2
        · exact hf j hj (by omega)
  · simp at h
    obtain rfl : k = xs.length := by omega
    (repeat first | with_reducible first | refine jq ?_ | refine jk ?_ | refine jc ?_ | refine jl ?_ | refine jb ?_ | refine jo ?_ | refine ji ?_ | refine jx rfl ?_ | refine And.intro (by first | assumption | omega | (intros; omega)) ?_ | ((first | refine jR KL45 (by kernel_rfl) fun _ => ?_ | skip); simp only [KS, Nat.reduceAdd, Nat.reduceMul, Nat.reduceEqDiff, ↓reduceIte, forall_const, Int.cast_ofNat_Int, Int.reduceToNat, TF45, KL45]; (try simp (disch := omega) only [wrapI, tmodI, tdivI]); (fail_if_success (with_reducible show False))))
    refine Run_ret ?_
    have : xs.contains n = false := by
      rw [List.contains_eq_mem, decide_eq_false_iff_not]
      intro hm
      obtain ⟨j, hj, e⟩ := List.getElem_of_mem hm
      exact hf j hj hj e
    simp [Rets, RetM, resV, fnd, oneOr, x1]
    simpa using this
theorem diff_take {l : List Int} : Bd.diff l = true ↔ ∀ j (h : j < l.length), (l.take j).contains l[j] = false := by
  rw [Bd.diff_iff]
  constructor
  · intro h2 j h
    simp only [List.contains_eq_mem, decide_eq_false_iff_not]
    intro hm
    obtain ⟨i, hi, e⟩ := List.getElem_of_mem hm
    simp at hi e
    exact h2 j h i (by omega) e
  · intro h j hj i hi e
    have := h j hj
    simp only [List.contains_eq_mem, decide_eq_false_iff_not] at this
    exact this (List.mem_of_getElem (i := i) (h := by simp; omega) (by simp [e]))
theorem rfDiff (va : Value) (l : List Int) (w : World) (hx : Sl w va l) : Calls Try.prog 29 #[va] w fun e w' => e = .returned (.bool (Bd.diff l)) ∧ Ext w w' := by
  have hn := hx.small
  have hcap := hx.cap
  refine Calls_of_Run (args := [va]) (n := 18) (rs := [.tmp 2]) Try.func29 rfl rfl rfl (by simp) ?_
  (repeat first | with_reducible first | refine jq ?_ | refine jk ?_ | refine jc ?_ | refine jl ?_ | refine jb ?_ | refine jo ?_ | refine ji ?_ | refine jx rfl ?_ | refine And.intro (by first | assumption | omega | (intros; omega)) ?_ | ((first | refine jR KL29 (by kernel_rfl) fun _ => ?_ | refine jD (id := 4) KL29 mixed (by kernel_rfl) (by kernel_rfl) fun _ => ?_ | skip); simp only [KS, Nat.reduceAdd, Nat.reduceMul, Nat.reduceEqDiff, ↓reduceIte, forall_const, Int.cast_ofNat_Int, Int.reduceToNat, TF29, KL29]; (try simp (disch := omega) only [wrapI, tmodI, tdivI]); (fail_if_success (with_reducible show False))))
  refine Run_loopV [2, 3, 7, 17] (σ := Nat) (fun k => [(3, some (.int .i64 k))]) (fun k w' => k ≤ l.length ∧ (∀ j (h : j < l.length), j < k → (l.take j).contains l[j] = false) ∧ Ext w w') (fun k => l.length - k) 0 (by simp [SubB, fnd]) ⟨by omega, by simp, Ext.refl _⟩ ?_
  rintro k w1 ⟨hk, hf, x1⟩
  (repeat first | with_reducible first | refine jq ?_ | refine jk ?_ | refine jc ?_ | refine jl ?_ | refine jb ?_ | refine jo ?_ | refine ji ?_ | refine jx rfl ?_ | refine And.intro (by first | assumption | omega | (intros; omega)) ?_ | ((first | refine jR KL29 (by kernel_rfl) fun _ => ?_ | refine jD (id := 4) KL29 mixed (by kernel_rfl) (by kernel_rfl) fun _ => ?_ | skip); simp only [KS, Nat.reduceAdd, Nat.reduceMul, Nat.reduceEqDiff, ↓reduceIte, forall_const, Int.cast_ofNat_Int, Int.reduceToNat, TF29, KL29, hx.s, hx.len]; (try simp (disch := omega) only [wrapI, tmodI, tdivI]); (fail_if_success (with_reducible show False))))
  refine Run_condS (fun _ => rfl) (fun h => ?_) (fun h => ?_)
  · simp at h
    have hkl := h
    obtain ⟨f1, f2, f3⟩ := (hx.ext x1).get h
    have hsub := fun w' (x : Ext w w') => (hx.ext x).sub (l := 0) (r := k) (m := slCap va) (by omega) (by omega) (by omega) (Nat.le_refl _)
    simp only [List.drop_zero] at hsub
    (repeat first | with_reducible first | refine jq ?_ | refine jk ?_ | refine jc ?_ | refine jl ?_ | refine jb ?_ | refine jo ?_ | refine ji ?_ | refine jx rfl ?_ | refine And.intro (by first | assumption | omega | (intros; omega)) ?_ | ((first | refine jR KL29 (by kernel_rfl) fun _ => ?_ | refine jD (id := 4) KL29 mixed (by kernel_rfl) (by kernel_rfl) fun _ => ?_ | skip); simp only [KS, Nat.reduceAdd, Nat.reduceMul, Nat.reduceEqDiff, ↓reduceIte, forall_const, Int.cast_ofNat_Int, Int.reduceToNat, TF29, KL29, hx.s, hx.len, f1, f2]; (try simp (disch := omega) only [wrapI, tmodI, tdivI]); (fail_if_success (with_reducible show False))))
    refine ⟨.bool ((l.take k).contains l[k]), PC_pure call45 fun w2 x2 => rfHas _ _ _ w2 (hsub w2 (x1.trans x2)), fun w2 x2 => ?_⟩
    refine Run_condS (fun _ => rfl) (fun h => ?_) (fun h => ?_)
    · (repeat first | with_reducible first | refine jq ?_ | refine jk ?_ | refine jc ?_ | refine jl ?_ | refine jb ?_ | refine jo ?_ | refine ji ?_ | refine jx rfl ?_ | refine And.intro (by first | assumption | omega | (intros; omega)) ?_ | ((first | refine jR KL29 (by kernel_rfl) fun _ => ?_ | refine jD (id := 4) KL29 mixed (by kernel_rfl) (by kernel_rfl) fun _ => ?_ | skip); simp only [KS, Nat.reduceAdd, Nat.reduceMul, Nat.reduceEqDiff, ↓reduceIte, forall_const, Int.cast_ofNat_Int, Int.reduceToNat, TF29, KL29]; (try simp (disch := omega) only [wrapI, tmodI, tdivI]); (fail_if_success (with_reducible show False))))
      refine Run_ret ?_
      have : Bd.diff l = false := by
        cases ho : Bd.diff l with
        | false => rfl
        | true => rw [diff_take.1 ho k hkl] at h; cases h
      simp [Rets, RetM, resV, fnd, oneOr, this]
      exact x1.trans x2
    · (repeat first | with_reducible first | refine jq ?_ | refine jk ?_ | refine jc ?_ | refine jl ?_ | refine jb ?_ | refine jo ?_ | refine ji ?_ | refine jx rfl ?_ | refine And.intro (by first | assumption | omega | (intros; omega)) ?_ | ((first | refine jR KL29 (by kernel_rfl) fun _ => ?_ | refine jD (id := 4) KL29 mixed (by kernel_rfl) (by kernel_rfl) fun _ => ?_ | skip); simp only [KS, Nat.reduceAdd, Nat.reduceMul, Nat.reduceEqDiff, ↓reduceIte, forall_const, Int.cast_ofNat_Int, Int.reduceToNat, TF29, KL29]; (try simp (disch := omega) only [wrapI, tmodI, tdivI]); (fail_if_success (with_reducible show False))))
      refine Run_lp ⟨k + 1, ?_, ⟨by omega, fun j hj hjk => ?_, x1.trans x2⟩, by omega⟩
      · simp [SubB, fnd, strike, has]
      · by_cases e : j = k
        · subst e; exact h
        · exact hf j hj (by omega)
  · simp at h
    obtain rfl : k = l.length := by omega
    (repeat first | with_reducible first | refine jq ?_ | refine jk ?_ | refine jc ?_ | refine jl ?_ | refine jb ?_ | refine jo ?_ | refine ji ?_ | refine jx rfl ?_ | refine And.intro (by first | assumption | omega | (intros; omega)) ?_ | ((first | refine jR KL29 (by kernel_rfl) fun _ => ?_ | refine jD (id := 4) KL29 mixed (by kernel_rfl) (by kernel_rfl) fun _ => ?_ | skip); simp only [KS, Nat.reduceAdd, Nat.reduceMul, Nat.reduceEqDiff, ↓reduceIte, forall_const, Int.cast_ofNat_Int, Int.reduceToNat, TF29, KL29]; (try simp (disch := omega) only [wrapI, tmodI, tdivI]); (fail_if_success (with_reducible show False))))
    refine Run_ret ?_
    have := diff_take.2 fun j hj => hf j hj hj
    simp [Rets, RetM, resV, fnd, oneOr, this, x1]
theorem rfFormed (va : Value) (l : List Int) (x : VerdictD) (w : World) (hx : Sl w va l) : Calls Try.prog 16 #[va, .agg x.cs.toArray] w fun e w' => e = .returned (.bool (Bd.formed l x)) ∧ Ext w w' := by
  have hn := hx.len
  refine Calls_of_Run (args := [va, .agg x.cs.toArray]) (n := 63) (rs := [.tmp 4]) Try.func16 rfl rfl rfl (by simp) ?_
  (repeat first | with_reducible first | refine jq ?_ | refine jk ?_ | refine jc ?_ | refine jl ?_ | refine jb ?_ | refine jo ?_ | refine ji ?_ | refine jx rfl ?_ | refine And.intro (by first | assumption | omega | (intros; omega)) ?_ | ((first | refine jR KL16 (by kernel_rfl) fun _ => ?_ | skip); simp only [KS, Nat.reduceAdd, Nat.reduceMul, Nat.reduceEqDiff, ↓reduceIte, forall_const, Int.cast_ofNat_Int, Int.reduceToNat, TF16, KL16]; (try simp (disch := omega) only [wrapI, tmodI, tdivI]); (fail_if_success (with_reducible show False))))
  refine SemW_box fun p w1 hN => ?_
  have x1 := hN.ext
  (repeat first | with_reducible first | refine jq ?_ | refine jk ?_ | refine jc ?_ | refine jl ?_ | refine jb ?_ | refine jo ?_ | refine ji ?_ | refine jx rfl ?_ | refine And.intro (by first | assumption | omega | (intros; omega)) ?_ | ((first | refine jR KL16 (by kernel_rfl) fun _ => ?_ | skip); simp only [KS, Nat.reduceAdd, Nat.reduceMul, Nat.reduceEqDiff, ↓reduceIte, forall_const, Int.cast_ofNat_Int, Int.reduceToNat, TF16, KL16, hx.s, hx.len]; (try simp (disch := omega) only [wrapI, tmodI, tdivI]); (fail_if_success (with_reducible show False))))
  refine .inr ⟨.bool (Bd.diff l), fun _ => PC_pure call29 fun w3 x3 => rfDiff va l w3 (hx.ext (x1.trans x3)), fun w2 x2 => ?_⟩
  unfold hush
  have y2 := x1.trans x2
  (repeat first | with_reducible first | refine jq ?_ | refine jk ?_ | refine jc ?_ | refine jl ?_ | refine jb ?_ | refine jo ?_ | refine ji ?_ | refine jx rfl ?_ | refine And.intro (by first | assumption | omega | (intros; omega)) ?_ | ((first | refine jR KL16 (by kernel_rfl) fun _ => ?_ | skip); simp only [KS, Nat.reduceAdd, Nat.reduceMul, Nat.reduceEqDiff, ↓reduceIte, forall_const, Int.cast_ofNat_Int, Int.reduceToNat, TF16, KL16]; (try simp (disch := omega) only [wrapI, tmodI, tdivI]); (fail_if_success (with_reducible show False))))
  refine Run_condS (fun _ => rfl) (fun h => ?_) (fun h => ?_)
  · (repeat first | with_reducible first | refine jq ?_ | refine jk ?_ | refine jc ?_ | refine jl ?_ | refine jb ?_ | refine jo ?_ | refine ji ?_ | refine jx rfl ?_ | refine And.intro (by first | assumption | omega | (intros; omega)) ?_ | ((first | refine jR KL16 (by kernel_rfl) fun _ => ?_ | skip); simp only [KS, Nat.reduceAdd, Nat.reduceMul, Nat.reduceEqDiff, ↓reduceIte, forall_const, Int.cast_ofNat_Int, Int.reduceToNat, TF16, KL16]; (try simp (disch := omega) only [wrapI, tmodI, tdivI]); (fail_if_success (with_reducible show False))))
    refine Run_ret ?_
    have : Bd.formed l x = false := by
      cases ho : Bd.offs l with
      | false => unfold Bd.formed; rw [ho]; rfl
      | true =>
        have h1 := Bd.offs_len ho
        unfold Bd.offs at ho
        rw [Bool.and_eq_true] at ho
        rw [ho.2] at h
        simp at h; omega
    simp [Rets, RetM, resV, fnd, oneOr, this, y2]
  · simp only [Bool.or_eq_false_iff, decide_eq_false_iff_not, Bool.not_eq_false'] at h
    have hd := h.2
    (repeat first | with_reducible first | refine jq ?_ | refine jk ?_ | refine jc ?_ | refine jl ?_ | refine jb ?_ | refine jo ?_ | refine ji ?_ | refine jx rfl ?_ | refine And.intro (by first | assumption | omega | (intros; omega)) ?_ | ((first | refine jR KL16 (by kernel_rfl) fun _ => ?_ | skip); simp only [KS, Nat.reduceAdd, Nat.reduceMul, Nat.reduceEqDiff, ↓reduceIte, forall_const, Int.cast_ofNat_Int, Int.reduceToNat, TF16, KL16]; (try simp (disch := omega) only [wrapI, tmodI, tdivI]); (fail_if_success (with_reducible show False))))
    refine Run_loopV [4, 5, 17, 31] (σ := Nat) (fun k => [(5, some (.int .i64 k))]) (fun k w' => k ≤ l.length ∧ (∀ j (h : j < l.length), j < k → 0 ≤ l[j] ∧ l[j] < 24) ∧ Ext w1 w') (fun k => l.length - k) 0 (by simp [SubB, fnd]) ⟨by omega, by simp, x2⟩ ?_
    rintro k w3 ⟨hk, hf, x3⟩
    have y3 := x1.trans x3
    (repeat first | with_reducible first | refine jq ?_ | refine jk ?_ | refine jc ?_ | refine jl ?_ | refine jb ?_ | refine jo ?_ | refine ji ?_ | refine jx rfl ?_ | refine And.intro (by first | assumption | omega | (intros; omega)) ?_ | ((first | refine jR KL16 (by kernel_rfl) fun _ => ?_ | skip); simp only [KS, Nat.reduceAdd, Nat.reduceMul, Nat.reduceEqDiff, ↓reduceIte, forall_const, Int.cast_ofNat_Int, Int.reduceToNat, TF16, KL16, hx.s, hx.len]; (try simp (disch := omega) only [wrapI, tmodI, tdivI]); (fail_if_success (with_reducible show False))))
    refine Run_condS (fun _ => rfl) (fun h => ?_) (fun h => ?_)
    · simp at h
      have hkl := h
      obtain ⟨f1, f2, f3⟩ := (hx.ext y3).get h
      (repeat first | with_reducible first | refine jq ?_ | refine jk ?_ | refine jc ?_ | refine jl ?_ | refine jb ?_ | refine jo ?_ | refine ji ?_ | refine jx rfl ?_ | refine And.intro (by first | assumption | omega | (intros; omega)) ?_ | ((first | refine jR KL16 (by kernel_rfl) fun _ => ?_ | skip); simp only [KS, Nat.reduceAdd, Nat.reduceMul, Nat.reduceEqDiff, ↓reduceIte, forall_const, Int.cast_ofNat_Int, Int.reduceToNat, TF16, KL16, hx.s, hx.len, f1, f2]; (try simp (disch := omega) only [wrapI, tmodI, tdivI]); (fail_if_success (with_reducible show False))))
      refine Run_condS (fun _ => rfl) (fun h => ?_) (fun h => ?_)
      · (repeat first | with_reducible first | refine jq ?_ | refine jk ?_ | refine jc ?_ | refine jl ?_ | refine jb ?_ | refine jo ?_ | refine ji ?_ | refine jx rfl ?_ | refine And.intro (by first | assumption | omega | (intros; omega)) ?_ | ((first | refine jR KL16 (by kernel_rfl) fun _ => ?_ | skip); simp only [KS, Nat.reduceAdd, Nat.reduceMul, Nat.reduceEqDiff, ↓reduceIte, forall_const, Int.cast_ofNat_Int, Int.reduceToNat, TF16, KL16]; (try simp (disch := omega) only [wrapI, tmodI, tdivI]); (fail_if_success (with_reducible show False))))
        refine Run_ret ?_
        have : Bd.formed l x = false := by
          have : Bd.offs l = false := by
            cases ho : Bd.offs l with
            | false => rfl
            | true =>
              have hh := (offs_take.1 ho k hkl).1
              simp at h; omega
          unfold Bd.formed; rw [this]; rfl
        simp [Rets, RetM, resV, fnd, oneOr, this, y3]
      · (repeat first | with_reducible first | refine jq ?_ | refine jk ?_ | refine jc ?_ | refine jl ?_ | refine jb ?_ | refine jo ?_ | refine ji ?_ | refine jx rfl ?_ | refine And.intro (by first | assumption | omega | (intros; omega)) ?_ | ((first | refine jR KL16 (by kernel_rfl) fun _ => ?_ | skip); simp only [KS, Nat.reduceAdd, Nat.reduceMul, Nat.reduceEqDiff, ↓reduceIte, forall_const, Int.cast_ofNat_Int, Int.reduceToNat, TF16, KL16]; (try simp (disch := omega) only [wrapI, tmodI, tdivI]); (fail_if_success (with_reducible show False))))
        simp at h
        refine Run_lp ⟨k + 1, ?_, ⟨by omega, fun j hj hjk => ?_, x3⟩, by omega⟩
        · simp [SubB, fnd, strike, has]
        · by_cases e : j = k
          · subst e; omega
          · exact hf j hj (by omega)
    · simp at h
      obtain rfl : k = l.length := by omega
      have ho : Bd.offs l = true := by
        unfold Bd.offs
        rw [hd, Bool.and_true, List.all_eq_true]
        intro y hy
        obtain ⟨j, hj, rfl⟩ := List.getElem_of_mem hy
        exact decide_eq_true (hf j hj hj)
      have g2 := (hN.at_.ext x3).n
      simp only [VerdictD.cs, AtN, KS, Nat.reduceAdd, Nat.reduceMul, Nat.reduceEqDiff, ↓reduceIte, UT] at g2
      have hfm : Bd.formed l x = (if x.Why = 0 ∨ x.Why = 1 then decide (x.Office = -1) else decide (2 ≤ x.Why ∧ x.Why ≤ 5 ∧ 0 ≤ x.Office ∧ x.Office < l.length)) := by unfold Bd.formed; rw [ho]; rfl
      (repeat first | with_reducible first | refine jq ?_ | refine jk ?_ | refine jc ?_ | refine jl ?_ | refine jb ?_ | refine jo ?_ | refine ji ?_ | refine jx rfl ?_ | refine And.intro (by first | assumption | omega | (intros; omega)) ?_ | ((first | refine jR KL16 (by kernel_rfl) fun _ => ?_ | skip); simp only [KS, Nat.reduceAdd, Nat.reduceMul, Nat.reduceEqDiff, ↓reduceIte, forall_const, Int.cast_ofNat_Int, Int.reduceToNat, TF16, KL16, g2]; (try simp (disch := omega) only [wrapI, tmodI, tdivI]); (fail_if_success (with_reducible show False))))
      refine Run_condS (fun _ => rfl) (fun h => ?_) (fun h => ?_)
      · (repeat first | with_reducible first | refine jq ?_ | refine jk ?_ | refine jc ?_ | refine jl ?_ | refine jb ?_ | refine jo ?_ | refine ji ?_ | refine jx rfl ?_ | refine And.intro (by first | assumption | omega | (intros; omega)) ?_ | ((first | refine jR KL16 (by kernel_rfl) fun _ => ?_ | skip); simp only [KS, Nat.reduceAdd, Nat.reduceMul, Nat.reduceEqDiff, ↓reduceIte, forall_const, Int.cast_ofNat_Int, Int.reduceToNat, TF16, KL16, g2]; (try simp (disch := omega) only [wrapI, tmodI, tdivI]); (fail_if_success (with_reducible show False))))
        refine Run_ret ?_
        simp at h
        simp [Rets, RetM, resV, fnd, oneOr, y3, hfm, h]
        rfl
      · (repeat first | with_reducible first | refine jq ?_ | refine jk ?_ | refine jc ?_ | refine jl ?_ | refine jb ?_ | refine jo ?_ | refine ji ?_ | refine jx rfl ?_ | refine And.intro (by first | assumption | omega | (intros; omega)) ?_ | ((first | refine jR KL16 (by kernel_rfl) fun _ => ?_ | skip); simp only [KS, Nat.reduceAdd, Nat.reduceMul, Nat.reduceEqDiff, ↓reduceIte, forall_const, Int.cast_ofNat_Int, Int.reduceToNat, TF16, KL16, g2, hx.s, hx.len]; (try simp (disch := omega) only [wrapI, tmodI, tdivI]); (fail_if_success (with_reducible show False))))
        refine Run_ret ?_
        simp at h
        simp [Rets, RetM, resV, fnd, oneOr, y3, hfm, h]
        rw [Bool.eq_iff_iff]; simp; omega
theorem amtW {n : Int} {w : World} {K : Value → World → Prop} (hK : ∀ w', Ext w w' → K (.bool (Bd.am n)) w') : CallW Try.prog (.func (.func 22) #[] #[]) [.int .i64 n] w K :=
  CallW_pure call22 (rfAmount n w) hK
theorem rfDeposit (n a : Int) (w : World) (ha : I64 a) : Calls Try.prog 9 #[.int .i64 n, .int .i64 a] w (MvRet w (Bd.deposit n a)) := by
  refine Calls_of_Run (args := [.int .i64 n, .int .i64 a]) (n := 33) (rs := [.tmp 4, .tmp 5]) Try.func9 rfl rfl rfl (by simp) ?_
  (repeat first | with_reducible first | refine jq ?_ | refine jk ?_ | refine jc ?_ | refine jl ?_ | refine jb ?_ | refine jo ?_ | refine ji ?_ | refine jx rfl ?_ | refine And.intro (by first | assumption | omega | (intros; omega)) ?_ | ((first | refine jR KL9 (by kernel_rfl) fun _ => ?_ | skip); simp only [KS, Nat.reduceAdd, Nat.reduceMul, Nat.reduceEqDiff, ↓reduceIte, forall_const, Int.cast_ofNat_Int, Int.reduceToNat, TF9, KL9]; (try simp (disch := omega) only [wrapI, tmodI, tdivI]); (fail_if_success (with_reducible show False))))
  refine .inr ⟨.bool (Bd.am a), fun _ => PC_pure call22 fun w3 x3 => rfAmount a w3, fun w1 x1 => ?_⟩
  unfold hush
  (repeat first | with_reducible first | refine jq ?_ | refine jk ?_ | refine jc ?_ | refine jl ?_ | refine jb ?_ | refine jo ?_ | refine ji ?_ | refine jx rfl ?_ | refine And.intro (by first | assumption | omega | (intros; omega)) ?_ | ((first | refine jR KL9 (by kernel_rfl) fun _ => ?_ | skip); simp only [KS, Nat.reduceAdd, Nat.reduceMul, Nat.reduceEqDiff, ↓reduceIte, forall_const, Int.cast_ofNat_Int, Int.reduceToNat, TF9, KL9]; (try simp (disch := omega) only [wrapI, tmodI, tdivI]); (fail_if_success (with_reducible show False))))
  refine Run_condS (fun _ => rfl) (fun h => ?_) (fun h => ?_)
  · (repeat first | with_reducible first | refine jq ?_ | refine jk ?_ | refine jc ?_ | refine jl ?_ | refine jb ?_ | refine jo ?_ | refine ji ?_ | refine jx rfl ?_ | refine And.intro (by first | assumption | omega | (intros; omega)) ?_ | ((first | refine jR KL9 (by kernel_rfl) fun _ => ?_ | skip); simp only [KS, Nat.reduceAdd, Nat.reduceMul, Nat.reduceEqDiff, ↓reduceIte, forall_const, Int.cast_ofNat_Int, Int.reduceToNat, TF9, KL9]; (try simp (disch := omega) only [wrapI, tmodI, tdivI]); (fail_if_success (with_reducible show False))))
    refine Run_ret ?_
    have : Bd.deposit n a = ([], 1) := by
      unfold Bd.deposit; rw [if_neg]; rintro ⟨h1, h2, h3⟩; simp [h3] at h; omega
    simp [Rets, RetM, resV, fnd, oneOr, MvRet, this]
    exact ⟨x1, Sl.nil _, BufO.nil⟩
  · simp only [Bool.or_eq_false_iff, decide_eq_false_iff_not, Bool.not_eq_false'] at h
    have hd : Bd.deposit n a = (Bd.mk (Bd.depM a) (List.replicate n.toNat 0), 0) := by
      unfold Bd.deposit; rw [if_pos]; exact ⟨by omega, by omega, h.2⟩
    generalize hxs : List.replicate n.toNat (0 : Int) = xs at *
    have hl : xs.length = n.toNat := by rw [← hxs]; simp
    (repeat first | with_reducible first | refine jq ?_ | refine jk ?_ | refine jc ?_ | refine jl ?_ | refine jb ?_ | refine jo ?_ | refine ji ?_ | refine jx rfl ?_ | refine And.intro (by first | assumption | omega | (intros; omega)) ?_ | ((first | refine jR KL9 (by kernel_rfl) fun _ => ?_ | skip); simp only [KS, Nat.reduceAdd, Nat.reduceMul, Nat.reduceEqDiff, ↓reduceIte, forall_const, Int.cast_ofNat_Int, Int.reduceToNat, TF9, KL9]; (try simp (disch := omega) only [wrapI, tmodI, tdivI]); (fail_if_success (with_reducible show False))))
    refine Run_loopV [6, 7, 21] (σ := Nat × Value) (fun s => [(7, some (.int .i64 s.1)), (6, some s.2)]) (fun s w' => s.1 ≤ xs.length ∧ BufL (α := MoveD) 36 w1 w' s.2 ((Bd.mk (Bd.depM a) xs).take s.1)) (fun s => xs.length - s.1) (0, .slice none 0 0) (by simp [SubB, fnd]) ⟨by omega, by simpa using BufL.nil (Ext.refl _)⟩ ?_
    rintro ⟨k, vm⟩ w2 ⟨hk, hb⟩
    simp only at hk hb
    have hbl := hb.isS
    rw [List.length_take, Bd.mk_len] at hbl
    (repeat first | with_reducible first | refine jq ?_ | refine jk ?_ | refine jc ?_ | refine jl ?_ | refine jb ?_ | refine jo ?_ | refine ji ?_ | refine jx rfl ?_ | refine And.intro (by first | assumption | omega | (intros; omega)) ?_ | ((first | refine jR KL9 (by kernel_rfl) fun _ => ?_ | skip); simp only [KS, Nat.reduceAdd, Nat.reduceMul, Nat.reduceEqDiff, ↓reduceIte, forall_const, Int.cast_ofNat_Int, Int.reduceToNat, TF9, KL9]; (try simp (disch := omega) only [wrapI, tmodI, tdivI]); (fail_if_success (with_reducible show False))))
    refine Run_condS (fun _ => rfl) (fun h => ?_) (fun h => ?_)
    · simp at h
      have hkl : k < xs.length := by omega
      (repeat first | with_reducible first | refine jq ?_ | refine jk ?_ | refine jc ?_ | refine jl ?_ | refine jb ?_ | refine jo ?_ | refine ji ?_ | refine jx rfl ?_ | refine And.intro (by first | assumption | omega | (intros; omega)) ?_ | ((first | refine jR KL9 (by kernel_rfl) fun _ => ?_ | skip); simp only [KS, Nat.reduceAdd, Nat.reduceMul, Nat.reduceEqDiff, ↓reduceIte, forall_const, Int.cast_ofNat_Int, Int.reduceToNat, TF9, KL9]; (try simp (disch := omega) only [wrapI, tmodI, tdivI]); (fail_if_success (with_reducible show False))))
      refine ⟨.agg (Bd.numb k (Bd.depM a k xs[k])).cs.toArray, fun w' => by kernel_rfl, ?_⟩
      refine SemW_append1F (α := MoveD) (X := .agg (Bd.numb k (Bd.depM a k xs[k])).cs.toArray) (x := Bd.numb k (Bd.depM a k xs[k])) Try.underlying24 ti36 rfl (by decide) hb ⟨rfl, ?_⟩ (by simp [maxLen, Bd.mk_len]; omega) fun s v' w3 b3 _ x3 _ => ?_
      · simp [Bd.numb, Bd.depM, I64]; unfold I64 at ha; omega
      rw [← Bd.mk_take hkl] at b3
      (repeat first | with_reducible first | refine jq ?_ | refine jk ?_ | refine jc ?_ | refine jl ?_ | refine jb ?_ | refine jo ?_ | refine ji ?_ | refine jx rfl ?_ | refine And.intro (by first | assumption | omega | (intros; omega)) ?_ | ((first | refine jR KL9 (by kernel_rfl) fun _ => ?_ | skip); simp only [KS, Nat.reduceAdd, Nat.reduceMul, Nat.reduceEqDiff, ↓reduceIte, forall_const, Int.cast_ofNat_Int, Int.reduceToNat, TF9, KL9]; (try simp (disch := omega) only [wrapI, tmodI, tdivI]); (fail_if_success (with_reducible show False))))
      refine Run_lp ⟨(k + 1, v'), ?_, ⟨by simp only; omega, b3⟩, by simp only; omega⟩
      simp [SubB, fnd, strike, has]
    · simp at h
      obtain rfl : k = xs.length := by omega
      rw [List.take_of_length_le (by rw [Bd.mk_len]; exact Nat.le_refl _)] at hb
      (repeat first | with_reducible first | refine jq ?_ | refine jk ?_ | refine jc ?_ | refine jl ?_ | refine jb ?_ | refine jo ?_ | refine ji ?_ | refine jx rfl ?_ | refine And.intro (by first | assumption | omega | (intros; omega)) ?_ | ((first | refine jR KL9 (by kernel_rfl) fun _ => ?_ | skip); simp only [KS, Nat.reduceAdd, Nat.reduceMul, Nat.reduceEqDiff, ↓reduceIte, forall_const, Int.cast_ofNat_Int, Int.reduceToNat, TF9, KL9]; (try simp (disch := omega) only [wrapI, tmodI, tdivI]); (fail_if_success (with_reducible show False))))
      refine Run_ret ?_
      simp [Rets, RetM, resV, fnd, oneOr, MvRet, hd]
      exact ⟨x1.trans hb.ext0, hb.sl (by rw [Bd.mk_len]; omega), hb.o.mono x1.size⟩
theorem rfFree (v : Value) (xs : List Int) (w : World) (hx : Sl w v xs) : Calls Try.prog 11 #[v] w (MvRet w (Bd.free xs)) := by
  have hl := hx.len
  refine Calls_of_Run (args := [v]) (n := 33) (rs := [.tmp 2, .tmp 3]) Try.func11 rfl rfl rfl (by simp) ?_
  (repeat first | with_reducible first | refine jq ?_ | refine jk ?_ | refine jc ?_ | refine jl ?_ | refine jb ?_ | refine jo ?_ | refine ji ?_ | refine jx rfl ?_ | refine And.intro (by first | assumption | omega | (intros; omega)) ?_ | ((first | refine jR KL11 (by kernel_rfl) fun _ => ?_ | skip); simp only [KS, Nat.reduceAdd, Nat.reduceMul, Nat.reduceEqDiff, ↓reduceIte, forall_const, Int.cast_ofNat_Int, Int.reduceToNat, TF11, KL11, hx.s, hx.len]; (try simp (disch := omega) only [wrapI, tmodI, tdivI]); (fail_if_success (with_reducible show False))))
  refine Run_condS (fun _ => rfl) (fun h => ?_) (fun h => ?_)
  · (repeat first | with_reducible first | refine jq ?_ | refine jk ?_ | refine jc ?_ | refine jl ?_ | refine jb ?_ | refine jo ?_ | refine ji ?_ | refine jx rfl ?_ | refine And.intro (by first | assumption | omega | (intros; omega)) ?_ | ((first | refine jR KL11 (by kernel_rfl) fun _ => ?_ | skip); simp only [KS, Nat.reduceAdd, Nat.reduceMul, Nat.reduceEqDiff, ↓reduceIte, forall_const, Int.cast_ofNat_Int, Int.reduceToNat, TF11, KL11]; (try simp (disch := omega) only [wrapI, tmodI, tdivI]); (fail_if_success (with_reducible show False))))
    refine Run_ret ?_
    simp at h
    have : Bd.free xs = ([], 1) := by unfold Bd.free; rw [if_neg]; omega
    simp [Rets, RetM, resV, fnd, oneOr, MvRet, this]
    exact ⟨Ext.refl _, Sl.nil _, BufO.nil⟩
  · simp at h
    have hn : xs.length ≤ 24 := by omega
    (repeat first | with_reducible first | refine jq ?_ | refine jk ?_ | refine jc ?_ | refine jl ?_ | refine jb ?_ | refine jo ?_ | refine ji ?_ | refine jx rfl ?_ | refine And.intro (by first | assumption | omega | (intros; omega)) ?_ | ((first | refine jR KL11 (by kernel_rfl) fun _ => ?_ | skip); simp only [KS, Nat.reduceAdd, Nat.reduceMul, Nat.reduceEqDiff, ↓reduceIte, forall_const, Int.cast_ofNat_Int, Int.reduceToNat, TF11, KL11]; (try simp (disch := omega) only [wrapI, tmodI, tdivI]); (fail_if_success (with_reducible show False))))
    refine Run_loopV [2, 3, 4, 5, 12, 20] (σ := Nat × Value) (fun s => [(5, some (.int .i64 s.1)), (4, some s.2)]) (fun s w' => s.1 ≤ xs.length ∧ (∀ j (h : j < xs.length), j < s.1 → Bd.am xs[j] = true) ∧ BufL (α := MoveD) 36 w w' s.2 ((Bd.mk Bd.freeM xs).take s.1)) (fun s => xs.length - s.1) (0, .slice none 0 0) (by simp [SubB, fnd]) ⟨by omega, by simp, by simpa using BufL.nil (Ext.refl _)⟩ ?_
    rintro ⟨k, vm⟩ w2 ⟨hk, hf, hb⟩
    simp only at hk hb hf
    have x2 := hb.ext0
    (repeat first | with_reducible first | refine jq ?_ | refine jk ?_ | refine jc ?_ | refine jl ?_ | refine jb ?_ | refine jo ?_ | refine ji ?_ | refine jx rfl ?_ | refine And.intro (by first | assumption | omega | (intros; omega)) ?_ | ((first | refine jR KL11 (by kernel_rfl) fun _ => ?_ | skip); simp only [KS, Nat.reduceAdd, Nat.reduceMul, Nat.reduceEqDiff, ↓reduceIte, forall_const, Int.cast_ofNat_Int, Int.reduceToNat, TF11, KL11, hx.s, hx.len]; (try simp (disch := omega) only [wrapI, tmodI, tdivI]); (fail_if_success (with_reducible show False))))
    refine Run_condS (fun _ => rfl) (fun h => ?_) (fun h => ?_)
    · simp at h
      have hkl : k < xs.length := by omega
      obtain ⟨f1, f2, f3⟩ := (hx.ext x2).get h
      (repeat first | with_reducible first | refine jq ?_ | refine jk ?_ | refine jc ?_ | refine jl ?_ | refine jb ?_ | refine jo ?_ | refine ji ?_ | refine jx rfl ?_ | refine And.intro (by first | assumption | omega | (intros; omega)) ?_ | ((first | refine jR KL11 (by kernel_rfl) fun _ => ?_ | skip); simp only [KS, Nat.reduceAdd, Nat.reduceMul, Nat.reduceEqDiff, ↓reduceIte, forall_const, Int.cast_ofNat_Int, Int.reduceToNat, TF11, KL11, hx.s, hx.len, f1, f2]; (try simp (disch := omega) only [wrapI, tmodI, tdivI]); (fail_if_success (with_reducible show False))))
      refine amtW fun w3 x3 => ?_
      have b3 := hb.ext x3
      obtain ⟨f1, f2, f3⟩ := (hx.ext (x2.trans x3)).get hkl
      (repeat first | with_reducible first | refine jq ?_ | refine jk ?_ | refine jc ?_ | refine jl ?_ | refine jb ?_ | refine jo ?_ | refine ji ?_ | refine jx rfl ?_ | refine And.intro (by first | assumption | omega | (intros; omega)) ?_ | ((first | refine jR KL11 (by kernel_rfl) fun _ => ?_ | skip); simp only [KS, Nat.reduceAdd, Nat.reduceMul, Nat.reduceEqDiff, ↓reduceIte, forall_const, Int.cast_ofNat_Int, Int.reduceToNat, TF11, KL11]; (try simp (disch := omega) only [wrapI, tmodI, tdivI]); (fail_if_success (with_reducible show False))))
      refine Run_condS (fun _ => rfl) (fun h => ?_) (fun h => ?_)
      · (repeat first | with_reducible first | refine jq ?_ | refine jk ?_ | refine jc ?_ | refine jl ?_ | refine jb ?_ | refine jo ?_ | refine ji ?_ | refine jx rfl ?_ | refine And.intro (by first | assumption | omega | (intros; omega)) ?_ | ((first | refine jR KL11 (by kernel_rfl) fun _ => ?_ | skip); simp only [KS, Nat.reduceAdd, Nat.reduceMul, Nat.reduceEqDiff, ↓reduceIte, forall_const, Int.cast_ofNat_Int, Int.reduceToNat, TF11, KL11]; (try simp (disch := omega) only [wrapI, tmodI, tdivI]); (fail_if_success (with_reducible show False))))
        refine Run_ret ?_
        simp at h
        have : Bd.free xs = ([], 1) := by
          unfold Bd.free; rw [if_neg]; rintro ⟨_, h2⟩
          rw [List.all_eq_true] at h2
          rw [h2 _ (List.getElem_mem hkl)] at h; cases h
        simp [Rets, RetM, resV, fnd, oneOr, MvRet, this]
        exact ⟨x2.trans x3, Sl.nil _, BufO.nil⟩
      · simp at h
        (repeat first | with_reducible first | refine jq ?_ | refine jk ?_ | refine jc ?_ | refine jl ?_ | refine jb ?_ | refine jo ?_ | refine ji ?_ | refine jx rfl ?_ | refine And.intro (by first | assumption | omega | (intros; omega)) ?_ | ((first | refine jR KL11 (by kernel_rfl) fun _ => ?_ | skip); simp only [KS, Nat.reduceAdd, Nat.reduceMul, Nat.reduceEqDiff, ↓reduceIte, forall_const, Int.cast_ofNat_Int, Int.reduceToNat, TF11, KL11, hx.s, hx.len, f1, f2]; (try simp (disch := omega) only [wrapI, tmodI, tdivI]); (fail_if_success (with_reducible show False))))
        refine ⟨.agg (Bd.numb k (Bd.freeM k xs[k])).cs.toArray, fun w' => by kernel_rfl, ?_⟩
        refine SemW_append1F (α := MoveD) (X := .agg (Bd.numb k (Bd.freeM k xs[k])).cs.toArray) (x := Bd.numb k (Bd.freeM k xs[k])) Try.underlying24 ti36 rfl (by decide) b3 ⟨rfl, ?_⟩ (by simp [maxLen, Bd.mk_len]; omega) fun s v' w4 b4 _ x4 _ => ?_
        · simp [Bd.numb, Bd.freeM, I64]; unfold I64 at f3; omega
        rw [← Bd.mk_take hkl] at b4
        (repeat first | with_reducible first | refine jq ?_ | refine jk ?_ | refine jc ?_ | refine jl ?_ | refine jb ?_ | refine jo ?_ | refine ji ?_ | refine jx rfl ?_ | refine And.intro (by first | assumption | omega | (intros; omega)) ?_ | ((first | refine jR KL11 (by kernel_rfl) fun _ => ?_ | skip); simp only [KS, Nat.reduceAdd, Nat.reduceMul, Nat.reduceEqDiff, ↓reduceIte, forall_const, Int.cast_ofNat_Int, Int.reduceToNat, TF11, KL11]; (try simp (disch := omega) only [wrapI, tmodI, tdivI]); (fail_if_success (with_reducible show False))))
        refine Run_lp ⟨(k + 1, v'), ?_, ⟨by simp only; omega, fun j hj hjk => ?_, b4⟩, by simp only; omega⟩
        · simp [SubB, fnd, strike, has]
        · simp only at hjk
          by_cases e : j = k
          · subst e; exact h
          · exact hf j hj (by omega)
    · simp at h
      obtain rfl : k = xs.length := by omega
      rw [List.take_of_length_le (by rw [Bd.mk_len]; exact Nat.le_refl _)] at hb
      (repeat first | with_reducible first | refine jq ?_ | refine jk ?_ | refine jc ?_ | refine jl ?_ | refine jb ?_ | refine jo ?_ | refine ji ?_ | refine jx rfl ?_ | refine And.intro (by first | assumption | omega | (intros; omega)) ?_ | ((first | refine jR KL11 (by kernel_rfl) fun _ => ?_ | skip); simp only [KS, Nat.reduceAdd, Nat.reduceMul, Nat.reduceEqDiff, ↓reduceIte, forall_const, Int.cast_ofNat_Int, Int.reduceToNat, TF11, KL11]; (try simp (disch := omega) only [wrapI, tmodI, tdivI]); (fail_if_success (with_reducible show False))))
      refine Run_ret ?_
      have hd : Bd.free xs = (Bd.mk Bd.freeM xs, 0) := by
        unfold Bd.free; rw [if_pos]
        refine ⟨hn, List.all_eq_true.2 fun y hy => ?_⟩
        obtain ⟨j, hj, rfl⟩ := List.getElem_of_mem hy
        exact hf j hj hj
      simp [Rets, RetM, resV, fnd, oneOr, MvRet, hd]
      exact ⟨hb.ext0, hb.sl (by rw [Bd.mk_len]; omega), hb.o⟩
theorem rfPay (va : Value) (l : List Int) (x : VerdictD) (s p b : Int) (w : World) (hx : Sl w va l) (hp : I64 p) (hb : I64 b) :
    Calls Try.prog 14 #[va, .agg x.cs.toArray, .int .i64 s, .int .i64 p, .int .i64 b] w (MvRet w (Bd.pay l x s p b)) := by
  have hlen := hx.len
  refine Calls_of_Run (args := [va, .agg x.cs.toArray, .int .i64 s, .int .i64 p, .int .i64 b]) (n := 48) (rs := [.tmp 10, .tmp 11]) Try.func14 rfl rfl rfl (by simp) ?_
  (repeat first | with_reducible first | refine jq ?_ | refine jk ?_ | refine jc ?_ | refine jl ?_ | refine jb ?_ | refine jo ?_ | refine ji ?_ | refine jx rfl ?_ | refine And.intro (by first | assumption | omega | (intros; omega)) ?_ | ((first | refine jR KL14 (by kernel_rfl) fun _ => ?_ | skip); simp only [KS, Nat.reduceAdd, Nat.reduceMul, Nat.reduceEqDiff, ↓reduceIte, forall_const, Int.cast_ofNat_Int, Int.reduceToNat, TF14, KL14]; (try simp (disch := omega) only [wrapI, tmodI, tdivI]); (fail_if_success (with_reducible show False))))
  refine SemW_box fun pv w0 h0 => ?_
  have x0 := h0.ext
  (repeat first | with_reducible first | refine jq ?_ | refine jk ?_ | refine jc ?_ | refine jl ?_ | refine jb ?_ | refine jo ?_ | refine ji ?_ | refine jx rfl ?_ | refine And.intro (by first | assumption | omega | (intros; omega)) ?_ | ((first | refine jR KL14 (by kernel_rfl) fun _ => ?_ | skip); simp only [KS, Nat.reduceAdd, Nat.reduceMul, Nat.reduceEqDiff, ↓reduceIte, forall_const, Int.cast_ofNat_Int, Int.reduceToNat, TF14, KL14]; (try simp (disch := omega) only [wrapI, tmodI, tdivI]); (fail_if_success (with_reducible show False))))
  refine .inr ⟨.bool (Bd.am p), fun _ => PC_pure call22 fun w3 x3 => rfAmount p w3, fun w1 x1 => ?_⟩
  unfold hush
  (repeat first | with_reducible first | refine jq ?_ | refine jk ?_ | refine jc ?_ | refine jl ?_ | refine jb ?_ | refine jo ?_ | refine ji ?_ | refine jx rfl ?_ | refine And.intro (by first | assumption | omega | (intros; omega)) ?_ | ((first | refine jR KL14 (by kernel_rfl) fun _ => ?_ | skip); simp only [KS, Nat.reduceAdd, Nat.reduceMul, Nat.reduceEqDiff, ↓reduceIte, forall_const, Int.cast_ofNat_Int, Int.reduceToNat, TF14, KL14]; (try simp (disch := omega) only [wrapI, tmodI, tdivI]); (fail_if_success (with_reducible show False))))
  refine .inr ⟨.bool (Bd.am b), fun _ => PC_pure call22 fun w3 x3 => rfAmount b w3, fun w2 x2 => ?_⟩
  unfold hush
  have y2 := x0.trans (x1.trans x2)
  have g2 := (h0.at_.ext (x1.trans x2)).n
  simp only [AtN, VerdictD.cs, KS, Nat.reduceAdd, Nat.reduceMul, Nat.reduceEqDiff, ↓reduceIte, UT] at g2
  (repeat first | with_reducible first | refine jq ?_ | refine jk ?_ | refine jc ?_ | refine jl ?_ | refine jb ?_ | refine jo ?_ | refine ji ?_ | refine jx rfl ?_ | refine And.intro (by first | assumption | omega | (intros; omega)) ?_ | ((first | refine jR KL14 (by kernel_rfl) fun _ => ?_ | skip); simp only [KS, Nat.reduceAdd, Nat.reduceMul, Nat.reduceEqDiff, ↓reduceIte, forall_const, Int.cast_ofNat_Int, Int.reduceToNat, TF14, KL14]; (try simp (disch := omega) only [wrapI, tmodI, tdivI]); (fail_if_success (with_reducible show False))))
  refine Run_condS (fun _ => rfl) (fun h => ?_) (fun h => ?_)
  · (repeat first | with_reducible first | refine jq ?_ | refine jk ?_ | refine jc ?_ | refine jl ?_ | refine jb ?_ | refine jo ?_ | refine ji ?_ | refine jx rfl ?_ | refine And.intro (by first | assumption | omega | (intros; omega)) ?_ | ((first | refine jR KL14 (by kernel_rfl) fun _ => ?_ | skip); simp only [KS, Nat.reduceAdd, Nat.reduceMul, Nat.reduceEqDiff, ↓reduceIte, forall_const, Int.cast_ofNat_Int, Int.reduceToNat, TF14, KL14]; (try simp (disch := omega) only [wrapI, tmodI, tdivI]); (fail_if_success (with_reducible show False))))
    refine Run_ret ?_
    have : Bd.pay l x s p b = ([], 1) := by
      unfold Bd.pay; rw [if_neg]; rintro ⟨_, _, h1, h2⟩; simp [h1, h2] at h; omega
    simp [Rets, RetM, resV, fnd, oneOr, MvRet, this]
    exact ⟨y2, Sl.nil _, BufO.nil⟩
  · simp only [Bool.or_eq_false_iff, decide_eq_false_iff_not, Bool.not_eq_false'] at h
    have hs : 0 ≤ s ∧ s < 64 := by omega
    have hd : Bd.pay l x s p b = if Bd.formed l x = true then if x.Office < 0 then ([], 0) else (Bd.mk (Bd.payM (l.getD x.Office.toNat 0) s) [min p b], 0) else ([], 580) := by
      unfold Bd.pay; rw [if_pos]; exact ⟨hs.1, hs.2, h.1.2, h.2⟩
    (repeat first | with_reducible first | refine jq ?_ | refine jk ?_ | refine jc ?_ | refine jl ?_ | refine jb ?_ | refine jo ?_ | refine ji ?_ | refine jx rfl ?_ | refine And.intro (by first | assumption | omega | (intros; omega)) ?_ | ((first | refine jR KL14 (by kernel_rfl) fun _ => ?_ | skip); simp only [KS, Nat.reduceAdd, Nat.reduceMul, Nat.reduceEqDiff, ↓reduceIte, forall_const, Int.cast_ofNat_Int, Int.reduceToNat, TF14, KL14, g2]; (try simp (disch := omega) only [wrapI, tmodI, tdivI]); (fail_if_success (with_reducible show False))))
    refine CallW_pure call16 (rfFormed va l x w2 (hx.ext y2)) fun w4 x4 => ?_
    have y4 := y2.trans x4
    have g4 := (h0.at_.ext (x1.trans (x2.trans x4))).n
    simp only [AtN, VerdictD.cs, KS, Nat.reduceAdd, Nat.reduceMul, Nat.reduceEqDiff, ↓reduceIte, UT] at g4
    (repeat first | with_reducible first | refine jq ?_ | refine jk ?_ | refine jc ?_ | refine jl ?_ | refine jb ?_ | refine jo ?_ | refine ji ?_ | refine jx rfl ?_ | refine And.intro (by first | assumption | omega | (intros; omega)) ?_ | ((first | refine jR KL14 (by kernel_rfl) fun _ => ?_ | skip); simp only [KS, Nat.reduceAdd, Nat.reduceMul, Nat.reduceEqDiff, ↓reduceIte, forall_const, Int.cast_ofNat_Int, Int.reduceToNat, TF14, KL14]; (try simp (disch := omega) only [wrapI, tmodI, tdivI]); (fail_if_success (with_reducible show False))))
    refine Run_condS (fun _ => rfl) (fun h => ?_) (fun h => ?_)
    · (repeat first | with_reducible first | refine jq ?_ | refine jk ?_ | refine jc ?_ | refine jl ?_ | refine jb ?_ | refine jo ?_ | refine ji ?_ | refine jx rfl ?_ | refine And.intro (by first | assumption | omega | (intros; omega)) ?_ | ((first | refine jR KL14 (by kernel_rfl) fun _ => ?_ | skip); simp only [KS, Nat.reduceAdd, Nat.reduceMul, Nat.reduceEqDiff, ↓reduceIte, forall_const, Int.cast_ofNat_Int, Int.reduceToNat, TF14, KL14]; (try simp (disch := omega) only [wrapI, tmodI, tdivI]); (fail_if_success (with_reducible show False))))
      refine Run_ret ?_
      simp at h
      simp [Rets, RetM, resV, fnd, oneOr, MvRet, hd, h]
      exact ⟨y4, Sl.nil _, BufO.nil⟩
    · simp at h
      have hf := h
      have hfm := hf
      unfold Bd.formed at hfm
      rw [Bool.and_eq_true] at hfm
      have hof := offs_take.1 hfm.1
      have hw : x.Office < l.length ∧ -1 ≤ x.Office := by
        have := hfm.2
        split at this
        · have := of_decide_eq_true this; omega
        · have := of_decide_eq_true this; omega
      (repeat first | with_reducible first | refine jq ?_ | refine jk ?_ | refine jc ?_ | refine jl ?_ | refine jb ?_ | refine jo ?_ | refine ji ?_ | refine jx rfl ?_ | refine And.intro (by first | assumption | omega | (intros; omega)) ?_ | ((first | refine jR KL14 (by kernel_rfl) fun _ => ?_ | skip); simp only [KS, Nat.reduceAdd, Nat.reduceMul, Nat.reduceEqDiff, ↓reduceIte, forall_const, Int.cast_ofNat_Int, Int.reduceToNat, TF14, KL14, g4]; (try simp (disch := omega) only [wrapI, tmodI, tdivI]); (fail_if_success (with_reducible show False))))
      refine Run_condS (fun _ => rfl) (fun h => ?_) (fun h => ?_)
      · (repeat first | with_reducible first | refine jq ?_ | refine jk ?_ | refine jc ?_ | refine jl ?_ | refine jb ?_ | refine jo ?_ | refine ji ?_ | refine jx rfl ?_ | refine And.intro (by first | assumption | omega | (intros; omega)) ?_ | ((first | refine jR KL14 (by kernel_rfl) fun _ => ?_ | skip); simp only [KS, Nat.reduceAdd, Nat.reduceMul, Nat.reduceEqDiff, ↓reduceIte, forall_const, Int.cast_ofNat_Int, Int.reduceToNat, TF14, KL14]; (try simp (disch := omega) only [wrapI, tmodI, tdivI]); (fail_if_success (with_reducible show False))))
        refine Run_ret ?_
        simp at h
        simp [Rets, RetM, resV, fnd, oneOr, MvRet, hd, h, hf]
        exact ⟨y4, Sl.nil _, BufO.nil⟩
      · simp at h
        obtain ⟨f1, f2, f3⟩ := (hx.ext y4).get (show x.Office.toNat < l.length by omega)
        have ho := (hof x.Office.toNat (by omega)).1
        have hg : l.getD x.Office.toNat 0 = l[x.Office.toNat] := by simp [List.getD_eq_getElem?_getD, show x.Office.toNat < l.length by omega]
        rw [hg, if_pos hf, if_neg (by omega)] at hd
        generalize l[x.Office.toNat]'(by omega) = o at *
        (repeat first | with_reducible first | refine jq ?_ | refine jk ?_ | refine jc ?_ | refine jl ?_ | refine jb ?_ | refine jo ?_ | refine ji ?_ | refine jx rfl ?_ | refine And.intro (by first | assumption | omega | (intros; omega)) ?_ | ((first | refine jR KL14 (by kernel_rfl) fun _ => ?_ | skip); simp only [KS, Nat.reduceAdd, Nat.reduceMul, Nat.reduceEqDiff, ↓reduceIte, forall_const, Int.cast_ofNat_Int, Int.reduceToNat, TF14, KL14, g4, hx.s, hx.len, f1, f2]; (try simp (disch := omega) only [wrapI, tmodI, tdivI]); (fail_if_success (with_reducible show False))))
        refine ⟨.agg (Bd.numb 0 (Bd.payM o s 0 (min p b))).cs.toArray, fun w' => by kernel_rfl, ?_⟩
        have hI : I64 (min p b) := by unfold I64 at *; omega
        refine SemW_buildF (α := MoveD) (W := w4) Try.underlying24 ti36 rfl (by decide) (Ext.refl _) [.agg (Bd.numb 0 (Bd.payM o s 0 (min p b))).cs.toArray] [Bd.numb 0 (Bd.payM o s 0 (min p b))] rfl rfl (Cs.one ⟨rfl, ?_⟩) (by simp [Enc.n]) fun pp w6 b6 s6 x6 => ?_
        · simp [Bd.numb, Bd.payM, I64]; unfold I64 at hI; omega
        (repeat first | with_reducible first | refine jq ?_ | refine jk ?_ | refine jc ?_ | refine jl ?_ | refine jb ?_ | refine jo ?_ | refine ji ?_ | refine jx rfl ?_ | refine And.intro (by first | assumption | omega | (intros; omega)) ?_ | ((first | refine jR KL14 (by kernel_rfl) fun _ => ?_ | skip); simp only [KS, Nat.reduceAdd, Nat.reduceMul, Nat.reduceEqDiff, ↓reduceIte, forall_const, Int.cast_ofNat_Int, Int.reduceToNat, TF14, KL14]; (try simp (disch := omega) only [wrapI, tmodI, tdivI]); (fail_if_success (with_reducible show False))))
        refine Run_ret ?_
        simp [Rets, RetM, resV, fnd, oneOr, MvRet, hd]
        exact ⟨y4.trans x6, s6, b6.o.mono y4.size⟩
theorem eqM (a b : MoveD) : (a.No == b.No && (a.From == b.From && (a.To == b.To && (a.Amount == b.Amount && (a.Why == b.Why && (a.Run == b.Run && true)))))) = decide (a = b) := by
  rw [Bool.eq_iff_iff]
  cases a; cases b
  simp
theorem rfSame (va vb : Value) (l m : List MoveD) (w : World) (hx : Sl w va l) (hy : Sl w vb m) : Calls Try.prog 12 #[va, vb] w fun e w' => e = .returned (.bool (decide (l = m))) ∧ Ext w w' := by
  have hn := hx.small
  refine Calls_of_Run (args := [va, vb]) (n := 26) (rs := [.tmp 4]) Try.func12 rfl rfl rfl (by simp) ?_
  (repeat first | with_reducible first | refine jq ?_ | refine jk ?_ | refine jc ?_ | refine jl ?_ | refine jb ?_ | refine jo ?_ | refine ji ?_ | refine jx rfl ?_ | refine And.intro (by first | assumption | omega | (intros; omega)) ?_ | ((first | refine jR KL12 (by kernel_rfl) fun _ => ?_ | refine jD (id := 6) KL12 mixed (by kernel_rfl) (by kernel_rfl) fun _ => ?_ | skip); simp only [KS, Nat.reduceAdd, Nat.reduceMul, Nat.reduceEqDiff, ↓reduceIte, forall_const, Int.cast_ofNat_Int, Int.reduceToNat, TF12, KL12, hx.s, hx.len, hy.s, hy.len]; (try simp (disch := omega) only [wrapI, tmodI, tdivI]); (fail_if_success (with_reducible show False))))
  refine Run_condS (fun _ => rfl) (fun h => ?_) (fun h => ?_)
  · (repeat first | with_reducible first | refine jq ?_ | refine jk ?_ | refine jc ?_ | refine jl ?_ | refine jb ?_ | refine jo ?_ | refine ji ?_ | refine jx rfl ?_ | refine And.intro (by first | assumption | omega | (intros; omega)) ?_ | ((first | refine jR KL12 (by kernel_rfl) fun _ => ?_ | refine jD (id := 6) KL12 mixed (by kernel_rfl) (by kernel_rfl) fun _ => ?_ | skip); simp only [KS, Nat.reduceAdd, Nat.reduceMul, Nat.reduceEqDiff, ↓reduceIte, forall_const, Int.cast_ofNat_Int, Int.reduceToNat, TF12, KL12]; (try simp (disch := omega) only [wrapI, tmodI, tdivI]); (fail_if_success (with_reducible show False))))
    refine Run_ret ?_
    simp at h
    have : decide (l = m) = false := by simp; intro e; subst e; omega
    simp [Rets, RetM, resV, fnd, oneOr, this, Ext.refl]
  · simp at h
    have hl : l.length = m.length := by omega
    (repeat first | with_reducible first | refine jq ?_ | refine jk ?_ | refine jc ?_ | refine jl ?_ | refine jb ?_ | refine jo ?_ | refine ji ?_ | refine jx rfl ?_ | refine And.intro (by first | assumption | omega | (intros; omega)) ?_ | ((first | refine jR KL12 (by kernel_rfl) fun _ => ?_ | refine jD (id := 6) KL12 mixed (by kernel_rfl) (by kernel_rfl) fun _ => ?_ | skip); simp only [KS, Nat.reduceAdd, Nat.reduceMul, Nat.reduceEqDiff, ↓reduceIte, forall_const, Int.cast_ofNat_Int, Int.reduceToNat, TF12, KL12]; (try simp (disch := omega) only [wrapI, tmodI, tdivI]); (fail_if_success (with_reducible show False))))
    refine Run_loopV [4, 5, 14, 25] (σ := Nat) (fun k => [(5, some (.int .i64 k))]) (fun k w' => k ≤ l.length ∧ (∀ j (h : j < l.length), j < k → l[j] = m[j]) ∧ Ext w w') (fun k => l.length - k) 0 (by simp [SubB, fnd]) ⟨by omega, by simp, Ext.refl _⟩ ?_
    rintro k w3 ⟨hk, hf, x3⟩
    (repeat first | with_reducible first | refine jq ?_ | refine jk ?_ | refine jc ?_ | refine jl ?_ | refine jb ?_ | refine jo ?_ | refine ji ?_ | refine jx rfl ?_ | refine And.intro (by first | assumption | omega | (intros; omega)) ?_ | ((first | refine jR KL12 (by kernel_rfl) fun _ => ?_ | refine jD (id := 6) KL12 mixed (by kernel_rfl) (by kernel_rfl) fun _ => ?_ | skip); simp only [KS, Nat.reduceAdd, Nat.reduceMul, Nat.reduceEqDiff, ↓reduceIte, forall_const, Int.cast_ofNat_Int, Int.reduceToNat, TF12, KL12, hx.s, hx.len, hy.s, hy.len]; (try simp (disch := omega) only [wrapI, tmodI, tdivI]); (fail_if_success (with_reducible show False))))
    refine Run_condS (fun _ => rfl) (fun h => ?_) (fun h => ?_)
    · simp at h
      have hkl := h
      obtain ⟨f1, f2⟩ := (hx.ext x3).moveD h
      obtain ⟨g1, g2⟩ := (hy.ext x3).moveD (show k < m.length by omega)
      simp only [MoveD.cs, AtN, KS, Nat.reduceAdd, Nat.reduceMul, Nat.reduceEqDiff, ↓reduceIte, UT] at f1 g1
      (repeat first | with_reducible first | refine jq ?_ | refine jk ?_ | refine jc ?_ | refine jl ?_ | refine jb ?_ | refine jo ?_ | refine ji ?_ | refine jx rfl ?_ | refine And.intro (by first | assumption | omega | (intros; omega)) ?_ | ((first | refine jR KL12 (by kernel_rfl) fun _ => ?_ | refine jD (id := 6) KL12 mixed (by kernel_rfl) (by kernel_rfl) fun _ => ?_ | skip); simp only [KS, Nat.reduceAdd, Nat.reduceMul, Nat.reduceEqDiff, ↓reduceIte, forall_const, Int.cast_ofNat_Int, Int.reduceToNat, TF12, KL12, hx.s, hx.len, hy.s, hy.len, f1, g1]; (try simp (disch := omega) only [wrapI, tmodI, tdivI]); (fail_if_success (with_reducible show False))))
      refine ⟨by kernel_rfl, fun w4 x4 => ?_⟩
      rw [eqM]
      refine Run_condS (fun _ => rfl) (fun h => ?_) (fun h => ?_)
      · (repeat first | with_reducible first | refine jq ?_ | refine jk ?_ | refine jc ?_ | refine jl ?_ | refine jb ?_ | refine jo ?_ | refine ji ?_ | refine jx rfl ?_ | refine And.intro (by first | assumption | omega | (intros; omega)) ?_ | ((first | refine jR KL12 (by kernel_rfl) fun _ => ?_ | refine jD (id := 6) KL12 mixed (by kernel_rfl) (by kernel_rfl) fun _ => ?_ | skip); simp only [KS, Nat.reduceAdd, Nat.reduceMul, Nat.reduceEqDiff, ↓reduceIte, forall_const, Int.cast_ofNat_Int, Int.reduceToNat, TF12, KL12]; (try simp (disch := omega) only [wrapI, tmodI, tdivI]); (fail_if_success (with_reducible show False))))
        refine Run_ret ?_
        have : decide (l = m) = false := by
          simp at h ⊢; intro e; subst e; exact h rfl
        simp [Rets, RetM, resV, fnd, oneOr, this]
        exact x3.trans x4
      · (repeat first | with_reducible first | refine jq ?_ | refine jk ?_ | refine jc ?_ | refine jl ?_ | refine jb ?_ | refine jo ?_ | refine ji ?_ | refine jx rfl ?_ | refine And.intro (by first | assumption | omega | (intros; omega)) ?_ | ((first | refine jR KL12 (by kernel_rfl) fun _ => ?_ | refine jD (id := 6) KL12 mixed (by kernel_rfl) (by kernel_rfl) fun _ => ?_ | skip); simp only [KS, Nat.reduceAdd, Nat.reduceMul, Nat.reduceEqDiff, ↓reduceIte, forall_const, Int.cast_ofNat_Int, Int.reduceToNat, TF12, KL12]; (try simp (disch := omega) only [wrapI, tmodI, tdivI]); (fail_if_success (with_reducible show False))))
        refine Run_lp ⟨k + 1, ?_, ⟨by omega, fun j hj hjk => ?_, x3.trans x4⟩, by omega⟩
        · simp [SubB, fnd, strike, has]
        · by_cases e : j = k
          · subst e; simpa using h
          · exact hf j hj (by omega)
    · simp at h
      obtain rfl : k = l.length := by omega
      (repeat first | with_reducible first | refine jq ?_ | refine jk ?_ | refine jc ?_ | refine jl ?_ | refine jb ?_ | refine jo ?_ | refine ji ?_ | refine jx rfl ?_ | refine And.intro (by first | assumption | omega | (intros; omega)) ?_ | ((first | refine jR KL12 (by kernel_rfl) fun _ => ?_ | refine jD (id := 6) KL12 mixed (by kernel_rfl) (by kernel_rfl) fun _ => ?_ | skip); simp only [KS, Nat.reduceAdd, Nat.reduceMul, Nat.reduceEqDiff, ↓reduceIte, forall_const, Int.cast_ofNat_Int, Int.reduceToNat, TF12, KL12]; (try simp (disch := omega) only [wrapI, tmodI, tdivI]); (fail_if_success (with_reducible show False))))
      refine Run_ret ?_
      have : decide (l = m) = true := decide_eq_true (List.ext_getElem hl fun j h1 h2 => hf j h1 h1)
      simp [Rets, RetM, resV, fnd, oneOr, this, x3]
end Go.Proofs.Ytpkopdhdnnkemaa
