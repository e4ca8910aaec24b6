/- Chapter 20: the reference's Check and Is. -/
import Derived.Test.YtcncbmdkifdggaaW20b
namespace Go.Proofs.Ytcncbmdkifdggaa
open Go Go.Fk
set_option linter.unusedSimpArgs false
set_option linter.unusedVariables false
set_option maxRecDepth 100000

/-- where a number is -/
def idx (n : Int) : List Int → Int → Int
  | [], _ => -1
  | x :: r, k => if x = n then k else idx n r (k + 1)
theorem idx_drop {n : Int} {xs : List Int} {k : Nat} (h : k < xs.length) : idx n (xs.drop k) k = if xs[k] = n then (k : Int) else idx n (xs.drop (k + 1)) (k + 1 : Nat) := by
  rw [List.drop_eq_getElem_cons h]; simp [idx]
theorem idx_mem {n : Int} : ∀ {xs : List Int} {k : Int}, 0 ≤ k → decide (0 ≤ idx n xs k) = xs.contains n
  | [], k, _ => by simp [idx]
  | x :: r, k, h => by
    unfold idx
    split
    · rename_i e; subst e; simp; exact h
    · rename_i e
      rw [idx_mem (by omega), Bool.eq_iff_iff]
      simp; intro e2; exact (e e2.symm).elim
theorem rfIndex (v : Value) (xs : List Int) (n : Int) (w : World) (hx : Sl w v xs) : Calls Try.prog 81 #[v, .int .i64 n] w fun e w' => e = .returned (.int .i64 (idx n xs 0)) ∧ Ext w w' := by
  have hn := hx.small
  refine Calls_of_Run (args := [v, .int .i64 n]) (n := 19) (rs := [.tmp 4]) Try.func81 rfl rfl rfl (by simp) ?_
  (repeat first | with_reducible first | refine jq ?_ | refine jk ?_ | refine jc ?_ | refine jl ?_ | refine jb ?_ | refine jo ?_ | refine ji ?_ | refine jx rfl ?_ | refine And.intro (by first | assumption | omega | (intros; omega)) ?_ | ((first | refine jR KL81 (by kernel_rfl) fun _ => ?_ | skip); simp only [KS, Nat.reduceAdd, Nat.reduceMul, Nat.reduceEqDiff, ↓reduceIte, forall_const, Int.cast_ofNat_Int, Int.reduceToNat, TF81, KL81]; (try simp (disch := omega) only [wrapI, tmodI, tdivI]); (fail_if_success (with_reducible show False))))
  refine Run_loopV [4, 5, 9, 17] (σ := Nat) (fun k => [(5, some (.int .i64 k))]) (fun k w' => k ≤ xs.length ∧ idx n xs 0 = idx n (xs.drop k) k ∧ Ext w w') (fun k => xs.length - k) 0 (by simp [SubB, fnd]) ⟨by omega, by simp, Ext.refl _⟩ ?_
  rintro k w1 ⟨hk, hf, x1⟩
  (repeat first | with_reducible first | refine jq ?_ | refine jk ?_ | refine jc ?_ | refine jl ?_ | refine jb ?_ | refine jo ?_ | refine ji ?_ | refine jx rfl ?_ | refine And.intro (by first | assumption | omega | (intros; omega)) ?_ | ((first | refine jR KL81 (by kernel_rfl) fun _ => ?_ | skip); simp only [KS, Nat.reduceAdd, Nat.reduceMul, Nat.reduceEqDiff, ↓reduceIte, forall_const, Int.cast_ofNat_Int, Int.reduceToNat, TF81, KL81, hx.s, hx.len]; (try simp (disch := omega) only [wrapI, tmodI, tdivI]); (fail_if_success (with_reducible show False))))
  refine Run_condS (fun _ => rfl) (fun h => ?_) (fun h => ?_)
  · simp at h
    have hkl := h
    obtain ⟨f1, f2, f3⟩ := (hx.ext x1).get hkl
    rw [idx_drop hkl] at hf
    (repeat first | with_reducible first | refine jq ?_ | refine jk ?_ | refine jc ?_ | refine jl ?_ | refine jb ?_ | refine jo ?_ | refine ji ?_ | refine jx rfl ?_ | refine And.intro (by first | assumption | omega | (intros; omega)) ?_ | ((first | refine jR KL81 (by kernel_rfl) fun _ => ?_ | skip); simp only [KS, Nat.reduceAdd, Nat.reduceMul, Nat.reduceEqDiff, ↓reduceIte, forall_const, Int.cast_ofNat_Int, Int.reduceToNat, TF81, KL81, hx.s, hx.len, f1, f2]; (try simp (disch := omega) only [wrapI, tmodI, tdivI]); (fail_if_success (with_reducible show False))))
    refine Run_condS (fun _ => rfl) (fun h => ?_) (fun h => ?_)
    · (repeat first | with_reducible first | refine jq ?_ | refine jk ?_ | refine jc ?_ | refine jl ?_ | refine jb ?_ | refine jo ?_ | refine ji ?_ | refine jx rfl ?_ | refine And.intro (by first | assumption | omega | (intros; omega)) ?_ | ((first | refine jR KL81 (by kernel_rfl) fun _ => ?_ | skip); simp only [KS, Nat.reduceAdd, Nat.reduceMul, Nat.reduceEqDiff, ↓reduceIte, forall_const, Int.cast_ofNat_Int, Int.reduceToNat, TF81, KL81]; (try simp (disch := omega) only [wrapI, tmodI, tdivI]); (fail_if_success (with_reducible show False))))
      refine Run_ret ?_
      rw [if_pos (of_decide_eq_true h)] at hf
      simp [Rets, RetM, resV, fnd, oneOr, hf, x1]
    · rw [if_neg (of_decide_eq_false h)] at hf
      (repeat first | with_reducible first | refine jq ?_ | refine jk ?_ | refine jc ?_ | refine jl ?_ | refine jb ?_ | refine jo ?_ | refine ji ?_ | refine jx rfl ?_ | refine And.intro (by first | assumption | omega | (intros; omega)) ?_ | ((first | refine jR KL81 (by kernel_rfl) fun _ => ?_ | skip); simp only [KS, Nat.reduceAdd, Nat.reduceMul, Nat.reduceEqDiff, ↓reduceIte, forall_const, Int.cast_ofNat_Int, Int.reduceToNat, TF81, KL81]; (try simp (disch := omega) only [wrapI, tmodI, tdivI]); (fail_if_success (with_reducible show False))))
      refine Run_lp ⟨k + 1, ?_, ⟨by omega, hf, x1⟩, by omega⟩
      simp [SubB, fnd, strike, has]
  · simp at h
    obtain rfl : k = xs.length := by omega
    rw [List.drop_length] at hf
    (repeat first | with_reducible first | refine jq ?_ | refine jk ?_ | refine jc ?_ | refine jl ?_ | refine jb ?_ | refine jo ?_ | refine ji ?_ | refine jx rfl ?_ | refine And.intro (by first | assumption | omega | (intros; omega)) ?_ | ((first | refine jR KL81 (by kernel_rfl) fun _ => ?_ | skip); simp only [KS, Nat.reduceAdd, Nat.reduceMul, Nat.reduceEqDiff, ↓reduceIte, forall_const, Int.cast_ofNat_Int, Int.reduceToNat, TF81, KL81]; (try simp (disch := omega) only [wrapI, tmodI, tdivI]); (fail_if_success (with_reducible show False))))
    refine Run_ret ?_
    simp [Rets, RetM, resV, fnd, oneOr, hf, idx, x1]
theorem rfRight (x : LineD) (v0 v1 v2 v3 : Value) (n : Int) (w : World) (hR : LineR w x v0 v1 v2 v3) :
    Calls Try.prog 57 #[.agg (x.cs v0 v1 v2 v3).toArray, .int .i64 n] w fun e w' => e = .returned (.bool (Tt.right x n)) ∧ Ext w w' := by
  have b0 := hR.o.small
  have b1 := hR.l.small
  have c0 := hR.o.cap
  have l0 := hR.o.len
  have l1 := hR.l.len
  refine Calls_of_Run (args := [.agg (x.cs v0 v1 v2 v3).toArray, .int .i64 n]) (n := 98) (rs := [.tmp 4]) Try.func57 rfl rfl rfl (by simp) ?_
  (repeat first | with_reducible first | refine jq ?_ | refine jk ?_ | refine jc ?_ | refine jl ?_ | refine jb ?_ | refine jo ?_ | refine ji ?_ | refine jx rfl ?_ | refine And.intro (by first | assumption | omega | (intros; omega)) ?_ | ((first | refine jR KL57 (by kernel_rfl) fun _ => ?_ | refine jD (id := 7) KL57 mixed (by kernel_rfl) (by kernel_rfl) fun _ => ?_ | skip); simp only [KS, Nat.reduceAdd, Nat.reduceMul, Nat.reduceEqDiff, ↓reduceIte, forall_const, Int.cast_ofNat_Int, Int.reduceToNat, TF57, KL57]; (try simp (disch := omega) only [wrapI, tmodI, tdivI]); (fail_if_success (with_reducible show False))))
  refine SemW_box fun p w1 hN => ?_
  have x1 := hN.ext
  have G : ∀ w', Ext w1 w' → AtN w' p 0 (x.cs v0 v1 v2 v3) := fun w' x => (hN.at_.ext x).n
  simp only [LineD.cs, AtN, KS, Nat.reduceAdd, Nat.reduceMul, Nat.reduceEqDiff, ↓reduceIte, UT] at G
  have g1 := G w1 (Ext.refl _)
  (repeat first | with_reducible first | refine jq ?_ | refine jk ?_ | refine jc ?_ | refine jl ?_ | refine jb ?_ | refine jo ?_ | refine ji ?_ | refine jx rfl ?_ | refine And.intro (by first | assumption | omega | (intros; omega)) ?_ | ((first | refine jR KL57 (by kernel_rfl) fun _ => ?_ | refine jD (id := 7) KL57 mixed (by kernel_rfl) (by kernel_rfl) fun _ => ?_ | skip); simp only [KS, Nat.reduceAdd, Nat.reduceMul, Nat.reduceEqDiff, ↓reduceIte, forall_const, Int.cast_ofNat_Int, Int.reduceToNat, TF57, KL57, g1, hR.o.s, hR.o.len, hR.l.s, hR.l.len]; (try simp (disch := omega) only [wrapI, tmodI, tdivI]); (fail_if_success (with_reducible show False))))
  refine Run_condS (fun _ => rfl) (fun h => ?_) (fun h => ?_)
  · (repeat first | with_reducible first | refine jq ?_ | refine jk ?_ | refine jc ?_ | refine jl ?_ | refine jb ?_ | refine jo ?_ | refine ji ?_ | refine jx rfl ?_ | refine And.intro (by first | assumption | omega | (intros; omega)) ?_ | ((first | refine jR KL57 (by kernel_rfl) fun _ => ?_ | refine jD (id := 7) KL57 mixed (by kernel_rfl) (by kernel_rfl) fun _ => ?_ | skip); simp only [KS, Nat.reduceAdd, Nat.reduceMul, Nat.reduceEqDiff, ↓reduceIte, forall_const, Int.cast_ofNat_Int, Int.reduceToNat, TF57, KL57]; (try simp (disch := omega) only [wrapI, tmodI, tdivI]); (fail_if_success (with_reducible show False))))
    refine Run_ret ?_
    have : Tt.right x n = false := by
      have : (Tt.sized x && Tt.numbers x) = false := by
        simp only [Tt.sized, Tt.numbers]
        simp at h ⊢
        omega
      simp [Tt.right, this]
    simp [Rets, RetM, resV, fnd, oneOr, this, x1]
  have hsn : Tt.sized x = true ∧ Tt.numbers x = true := by
    simp only [Tt.sized, Tt.numbers]
    simp at h ⊢
    omega
  have hres : Tt.right x n = (Tt.stops x n && Tt.legs x) := by simp [Tt.right, hsn.1, hsn.2]
  have hsz : 2 ≤ x.Offices.length ∧ x.Offices.length ≤ 9 ∧ x.Legs.length + 1 = x.Offices.length := by have := hsn.1; simp only [Tt.sized, decide_eq_true_eq] at this; exact this
  (repeat first | with_reducible first | refine jq ?_ | refine jk ?_ | refine jc ?_ | refine jl ?_ | refine jb ?_ | refine jo ?_ | refine ji ?_ | refine jx rfl ?_ | refine And.intro (by first | assumption | omega | (intros; omega)) ?_ | ((first | refine jR KL57 (by kernel_rfl) fun _ => ?_ | refine jD (id := 7) KL57 mixed (by kernel_rfl) (by kernel_rfl) fun _ => ?_ | skip); simp only [KS, Nat.reduceAdd, Nat.reduceMul, Nat.reduceEqDiff, ↓reduceIte, forall_const, Int.cast_ofNat_Int, Int.reduceToNat, TF57, KL57]; (try simp (disch := omega) only [wrapI, tmodI, tdivI]); (fail_if_success (with_reducible show False))))
  refine Run_loopV [4, 6, 47, 77] (σ := Nat) (fun k => [(6, some (.int .i64 k))]) (fun k w' => k ≤ x.Offices.length ∧ (∀ j (h : j < x.Offices.length), j < k → (0 ≤ x.Offices[j] ∧ x.Offices[j] < n) ∧ (x.Offices.take j).contains x.Offices[j] = false) ∧ Ext w1 w') (fun k => x.Offices.length - k) 0 (by simp [SubB, fnd]) ⟨by omega, by simp, Ext.refl _⟩ ?_
  rintro k w3 ⟨hk, hf, x3⟩
  have y3 := x1.trans x3
  (repeat first | with_reducible first | refine jq ?_ | refine jk ?_ | refine jc ?_ | refine jl ?_ | refine jb ?_ | refine jo ?_ | refine ji ?_ | refine jx rfl ?_ | refine And.intro (by first | assumption | omega | (intros; omega)) ?_ | ((first | refine jR KL57 (by kernel_rfl) fun _ => ?_ | refine jD (id := 7) KL57 mixed (by kernel_rfl) (by kernel_rfl) fun _ => ?_ | skip); simp only [KS, Nat.reduceAdd, Nat.reduceMul, Nat.reduceEqDiff, ↓reduceIte, forall_const, Int.cast_ofNat_Int, Int.reduceToNat, TF57, KL57]; (try simp (disch := omega) only [wrapI, tmodI, tdivI]); (fail_if_success (with_reducible show False))))
  refine Run_condS (fun _ => rfl) (fun h => ?_) (fun h => ?_)
  · simp at h
    have hkl := h
    obtain ⟨f1, f2, f3⟩ := (hR.o.ext y3).get hkl
    have hst : Tt.stops x n = true → (0 ≤ x.Offices[k] ∧ x.Offices[k] < n) ∧ (x.Offices.take k).contains x.Offices[k] = false := fun hs => Tt.stops_take.1 hs k hkl
    have hsub := fun w' (y : Ext w w') => (hR.o.ext y).sub (l := 0) (r := k) (m := slCap v0) (by omega) (by omega) (by omega) (Nat.le_refl _)
    simp only [List.drop_zero] at hsub
    generalize hgo : x.Offices[k] = o at *
    have g3 := G w3 x3
    (repeat first | with_reducible first | refine jq ?_ | refine jk ?_ | refine jc ?_ | refine jl ?_ | refine jb ?_ | refine jo ?_ | refine ji ?_ | refine jx rfl ?_ | refine And.intro (by first | assumption | omega | (intros; omega)) ?_ | ((first | refine jR KL57 (by kernel_rfl) fun _ => ?_ | refine jD (id := 7) KL57 mixed (by kernel_rfl) (by kernel_rfl) fun _ => ?_ | skip); simp only [KS, Nat.reduceAdd, Nat.reduceMul, Nat.reduceEqDiff, ↓reduceIte, forall_const, Int.cast_ofNat_Int, Int.reduceToNat, TF57, KL57, g3, hR.o.s, hR.o.len, f1, f2]; (try simp (disch := omega) only [wrapI, tmodI, tdivI]); (fail_if_success (with_reducible show False))))
    refine ⟨.int .i64 (idx o (x.Offices.take k) 0), fun _ => PC_pure call81 fun w4 x4 => rfIndex _ _ _ w4 (hsub w4 (y3.trans x4)), fun _ => rfl, fun w4 x4 => ?_⟩
    have him : decide (0 ≤ iOf (Value.int .i64 (idx o (x.Offices.take k) 0))) = (x.Offices.take k).contains o := idx_mem (by omega)
    rw [him]
    refine Run_condS (fun _ => rfl) (fun h => ?_) (fun h => ?_)
    · (repeat first | with_reducible first | refine jq ?_ | refine jk ?_ | refine jc ?_ | refine jl ?_ | refine jb ?_ | refine jo ?_ | refine ji ?_ | refine jx rfl ?_ | refine And.intro (by first | assumption | omega | (intros; omega)) ?_ | ((first | refine jR KL57 (by kernel_rfl) fun _ => ?_ | refine jD (id := 7) KL57 mixed (by kernel_rfl) (by kernel_rfl) fun _ => ?_ | skip); simp only [KS, Nat.reduceAdd, Nat.reduceMul, Nat.reduceEqDiff, ↓reduceIte, forall_const, Int.cast_ofNat_Int, Int.reduceToNat, TF57, KL57]; (try simp (disch := omega) only [wrapI, tmodI, tdivI]); (fail_if_success (with_reducible show False))))
      refine Run_ret ?_
      have : Tt.stops x n = false := by
        cases hs : Tt.stops x n with
        | false => rfl
        | true =>
          have := hst hs
          simp only [this.2, Bool.or_false, Bool.or_eq_true, decide_eq_true_eq] at h; omega
      simp [Rets, RetM, resV, fnd, oneOr, hres, this]
      exact y3.trans x4
    · (repeat first | with_reducible first | refine jq ?_ | refine jk ?_ | refine jc ?_ | refine jl ?_ | refine jb ?_ | refine jo ?_ | refine ji ?_ | refine jx rfl ?_ | refine And.intro (by first | assumption | omega | (intros; omega)) ?_ | ((first | refine jR KL57 (by kernel_rfl) fun _ => ?_ | refine jD (id := 7) KL57 mixed (by kernel_rfl) (by kernel_rfl) fun _ => ?_ | skip); simp only [KS, Nat.reduceAdd, Nat.reduceMul, Nat.reduceEqDiff, ↓reduceIte, forall_const, Int.cast_ofNat_Int, Int.reduceToNat, TF57, KL57]; (try simp (disch := omega) only [wrapI, tmodI, tdivI]); (fail_if_success (with_reducible show False))))
      simp only [Bool.or_eq_false_iff, decide_eq_false_iff_not] at h
      have ha : 0 ≤ o ∧ o < n := by omega
      have hb := h.2
      refine Run_lp ⟨k + 1, ?_, ⟨by omega, fun j hj hjk => ?_, x3.trans x4⟩, by omega⟩
      · simp [SubB, fnd, strike, has]
      · by_cases e : j = k
        · subst e; rw [hgo]; exact ⟨ha, hb⟩
        · exact hf j hj (by omega)
  simp at h
  obtain rfl : k = x.Offices.length := by omega
  have hst : Tt.stops x n = true := Tt.stops_take.2 fun j hj => hf j hj hj
  rw [hst, Bool.true_and] at hres
  (repeat first | with_reducible first | refine jq ?_ | refine jk ?_ | refine jc ?_ | refine jl ?_ | refine jb ?_ | refine jo ?_ | refine ji ?_ | refine jx rfl ?_ | refine And.intro (by first | assumption | omega | (intros; omega)) ?_ | ((first | refine jR KL57 (by kernel_rfl) fun _ => ?_ | refine jD (id := 7) KL57 mixed (by kernel_rfl) (by kernel_rfl) fun _ => ?_ | skip); simp only [KS, Nat.reduceAdd, Nat.reduceMul, Nat.reduceEqDiff, ↓reduceIte, forall_const, Int.cast_ofNat_Int, Int.reduceToNat, TF57, KL57]; (try simp (disch := omega) only [wrapI, tmodI, tdivI]); (fail_if_success (with_reducible show False))))
  refine Run_loopV [4, 7, 81, 97] (σ := Nat) (fun k => [(7, some (.int .i64 k))]) (fun k w' => k ≤ x.Legs.length ∧ (∀ j (h : j < x.Legs.length), j < k → Tt.legOk x.Legs[j] = true) ∧ Ext w1 w') (fun k => x.Legs.length - k) 0 (by simp [SubB, fnd]) ⟨by omega, by simp, x3⟩ ?_
  rintro k w5 ⟨hk, hg, x5⟩
  have y5 := x1.trans x5
  (repeat first | with_reducible first | refine jq ?_ | refine jk ?_ | refine jc ?_ | refine jl ?_ | refine jb ?_ | refine jo ?_ | refine ji ?_ | refine jx rfl ?_ | refine And.intro (by first | assumption | omega | (intros; omega)) ?_ | ((first | refine jR KL57 (by kernel_rfl) fun _ => ?_ | refine jD (id := 7) KL57 mixed (by kernel_rfl) (by kernel_rfl) fun _ => ?_ | skip); simp only [KS, Nat.reduceAdd, Nat.reduceMul, Nat.reduceEqDiff, ↓reduceIte, forall_const, Int.cast_ofNat_Int, Int.reduceToNat, TF57, KL57]; (try simp (disch := omega) only [wrapI, tmodI, tdivI]); (fail_if_success (with_reducible show False))))
  refine Run_condS (fun _ => rfl) (fun h => ?_) (fun h => ?_)
  · simp at h
    have hkl : k < x.Legs.length := by omega
    obtain ⟨f1, f2, f3⟩ := (hR.l.ext y5).get hkl
    have hst : Tt.legs x = true → Tt.legOk x.Legs[k] = true := fun hs => List.all_eq_true.1 hs _ (List.getElem_mem hkl)
    generalize hgo : x.Legs[k] = o at *
    have g5 := G w5 x5
    (repeat first | with_reducible first | refine jq ?_ | refine jk ?_ | refine jc ?_ | refine jl ?_ | refine jb ?_ | refine jo ?_ | refine ji ?_ | refine jx rfl ?_ | refine And.intro (by first | assumption | omega | (intros; omega)) ?_ | ((first | refine jR KL57 (by kernel_rfl) fun _ => ?_ | refine jD (id := 7) KL57 mixed (by kernel_rfl) (by kernel_rfl) fun _ => ?_ | skip); simp only [KS, Nat.reduceAdd, Nat.reduceMul, Nat.reduceEqDiff, ↓reduceIte, forall_const, Int.cast_ofNat_Int, Int.reduceToNat, TF57, KL57, g5, hR.l.s, hR.l.len, f1, f2]; (try simp (disch := omega) only [wrapI, tmodI, tdivI]); (fail_if_success (with_reducible show False))))
    refine Run_condS (fun _ => rfl) (fun h => ?_) (fun h => ?_)
    · (repeat first | with_reducible first | refine jq ?_ | refine jk ?_ | refine jc ?_ | refine jl ?_ | refine jb ?_ | refine jo ?_ | refine ji ?_ | refine jx rfl ?_ | refine And.intro (by first | assumption | omega | (intros; omega)) ?_ | ((first | refine jR KL57 (by kernel_rfl) fun _ => ?_ | refine jD (id := 7) KL57 mixed (by kernel_rfl) (by kernel_rfl) fun _ => ?_ | skip); simp only [KS, Nat.reduceAdd, Nat.reduceMul, Nat.reduceEqDiff, ↓reduceIte, forall_const, Int.cast_ofNat_Int, Int.reduceToNat, TF57, KL57]; (try simp (disch := omega) only [wrapI, tmodI, tdivI]); (fail_if_success (with_reducible show False))))
      refine Run_ret ?_
      have : Tt.legs x = false := by
        cases hs : Tt.legs x with
        | false => rfl
        | true =>
          have := hst hs
          simp only [Tt.legOk, decide_eq_true_eq] at this
          simp at h; omega
      simp [Rets, RetM, resV, fnd, oneOr, hres, this, y5]
    · (repeat first | with_reducible first | refine jq ?_ | refine jk ?_ | refine jc ?_ | refine jl ?_ | refine jb ?_ | refine jo ?_ | refine ji ?_ | refine jx rfl ?_ | refine And.intro (by first | assumption | omega | (intros; omega)) ?_ | ((first | refine jR KL57 (by kernel_rfl) fun _ => ?_ | refine jD (id := 7) KL57 mixed (by kernel_rfl) (by kernel_rfl) fun _ => ?_ | skip); simp only [KS, Nat.reduceAdd, Nat.reduceMul, Nat.reduceEqDiff, ↓reduceIte, forall_const, Int.cast_ofNat_Int, Int.reduceToNat, TF57, KL57]; (try simp (disch := omega) only [wrapI, tmodI, tdivI]); (fail_if_success (with_reducible show False))))
      have hb : Tt.legOk o = true := by simp [Tt.legOk]; simp at h; omega
      refine Run_lp ⟨k + 1, ?_, ⟨by omega, fun j hj hjk => ?_, x5⟩, by omega⟩
      · simp [SubB, fnd, strike, has]
      · by_cases e : j = k
        · subst e; rw [hgo]; exact hb
        · exact hg j hj (by omega)
  simp at h
  (repeat first | with_reducible first | refine jq ?_ | refine jk ?_ | refine jc ?_ | refine jl ?_ | refine jb ?_ | refine jo ?_ | refine ji ?_ | refine jx rfl ?_ | refine And.intro (by first | assumption | omega | (intros; omega)) ?_ | ((first | refine jR KL57 (by kernel_rfl) fun _ => ?_ | refine jD (id := 7) KL57 mixed (by kernel_rfl) (by kernel_rfl) fun _ => ?_ | skip); simp only [KS, Nat.reduceAdd, Nat.reduceMul, Nat.reduceEqDiff, ↓reduceIte, forall_const, Int.cast_ofNat_Int, Int.reduceToNat, TF57, KL57]; (try simp (disch := omega) only [wrapI, tmodI, tdivI]); (fail_if_success (with_reducible show False))))
  refine Run_ret ?_
  have : Tt.legs x = true := List.all_eq_true.2 fun y hy => by
    obtain ⟨j, hj, rfl⟩ := List.getElem_of_mem hy
    exact hg j hj (by omega)
  simp [Rets, RetM, resV, fnd, oneOr, hres, this, y5]
theorem rfCheck20 (vl : Value) (t : TimeD) (w : World) (hl : Sl w vl t.Lines) :
    Calls Try.prog 27 #[.agg (t.cs vl).toArray] w fun e w' => e = .returned (.int .i64 (Tt.chk t)) ∧ Ext w w' := by
  have hn := hl.small
  have hlen := hl.len
  refine Calls_of_Run (args := [.agg (t.cs vl).toArray]) (n := 57) (rs := [.tmp 2]) Try.func27 rfl rfl rfl (by simp) ?_
  (repeat first | with_reducible first | refine jq ?_ | refine jk ?_ | refine jc ?_ | refine jl ?_ | refine jb ?_ | refine jo ?_ | refine ji ?_ | refine jx rfl ?_ | refine And.intro (by first | assumption | omega | (intros; omega)) ?_ | ((first | refine jR KL27 (by kernel_rfl) fun _ => ?_ | refine jD (id := 8) KL27 mixed (by kernel_rfl) (by kernel_rfl) fun _ => ?_ | refine jD (id := 13) KL27 mixed (by kernel_rfl) (by kernel_rfl) fun _ => ?_ | skip); simp only [KS, Nat.reduceAdd, Nat.reduceMul, Nat.reduceEqDiff, ↓reduceIte, forall_const, Int.cast_ofNat_Int, Int.reduceToNat, TF27, KL27]; (try simp (disch := omega) only [wrapI, tmodI, tdivI]); (fail_if_success (with_reducible show False))))
  refine SemW_box fun p w1 hN => ?_
  have x1 := hN.ext
  have G : ∀ w', Ext w1 w' → AtN w' p 0 (t.cs vl) := fun w' x => (hN.at_.ext x).n
  simp only [TimeD.cs, AtN, KS, Nat.reduceAdd, Nat.reduceMul, Nat.reduceEqDiff, ↓reduceIte, UT] at G
  have g1 := G w1 (Ext.refl _)
  (repeat first | with_reducible first | refine jq ?_ | refine jk ?_ | refine jc ?_ | refine jl ?_ | refine jb ?_ | refine jo ?_ | refine ji ?_ | refine jx rfl ?_ | refine And.intro (by first | assumption | omega | (intros; omega)) ?_ | ((first | refine jR KL27 (by kernel_rfl) fun _ => ?_ | refine jD (id := 8) KL27 mixed (by kernel_rfl) (by kernel_rfl) fun _ => ?_ | refine jD (id := 13) KL27 mixed (by kernel_rfl) (by kernel_rfl) fun _ => ?_ | skip); simp only [KS, Nat.reduceAdd, Nat.reduceMul, Nat.reduceEqDiff, ↓reduceIte, forall_const, Int.cast_ofNat_Int, Int.reduceToNat, TF27, KL27, g1, hl.s, hl.len]; (try simp (disch := omega) only [wrapI, tmodI, tdivI]); (fail_if_success (with_reducible show False))))
  refine Run_condS (fun _ => rfl) (fun h => ?_) (fun h => ?_)
  · simp at h
    (repeat first | with_reducible first | refine jq ?_ | refine jk ?_ | refine jc ?_ | refine jl ?_ | refine jb ?_ | refine jo ?_ | refine ji ?_ | refine jx rfl ?_ | refine And.intro (by first | assumption | omega | (intros; omega)) ?_ | ((first | refine jR KL27 (by kernel_rfl) fun _ => ?_ | refine jD (id := 8) KL27 mixed (by kernel_rfl) (by kernel_rfl) fun _ => ?_ | refine jD (id := 13) KL27 mixed (by kernel_rfl) (by kernel_rfl) fun _ => ?_ | skip); simp only [KS, Nat.reduceAdd, Nat.reduceMul, Nat.reduceEqDiff, ↓reduceIte, forall_const, Int.cast_ofNat_Int, Int.reduceToNat, TF27, KL27]; (try simp (disch := omega) only [wrapI, tmodI, tdivI]); (fail_if_success (with_reducible show False))))
    refine Run_ret ?_
    have : Tt.chk t = 2 := by unfold Tt.chk; rw [if_pos (by omega)]
    simp [Rets, RetM, resV, fnd, oneOr, this, x1]
  simp at h
  (repeat first | with_reducible first | refine jq ?_ | refine jk ?_ | refine jc ?_ | refine jl ?_ | refine jb ?_ | refine jo ?_ | refine ji ?_ | refine jx rfl ?_ | refine And.intro (by first | assumption | omega | (intros; omega)) ?_ | ((first | refine jR KL27 (by kernel_rfl) fun _ => ?_ | refine jD (id := 8) KL27 mixed (by kernel_rfl) (by kernel_rfl) fun _ => ?_ | refine jD (id := 13) KL27 mixed (by kernel_rfl) (by kernel_rfl) fun _ => ?_ | skip); simp only [KS, Nat.reduceAdd, Nat.reduceMul, Nat.reduceEqDiff, ↓reduceIte, forall_const, Int.cast_ofNat_Int, Int.reduceToNat, TF27, KL27, g1]; (try simp (disch := omega) only [wrapI, tmodI, tdivI]); (fail_if_success (with_reducible show False))))
  refine Run_condS (fun _ => rfl) (fun h => ?_) (fun h => ?_)
  · simp at h
    (repeat first | with_reducible first | refine jq ?_ | refine jk ?_ | refine jc ?_ | refine jl ?_ | refine jb ?_ | refine jo ?_ | refine ji ?_ | refine jx rfl ?_ | refine And.intro (by first | assumption | omega | (intros; omega)) ?_ | ((first | refine jR KL27 (by kernel_rfl) fun _ => ?_ | refine jD (id := 8) KL27 mixed (by kernel_rfl) (by kernel_rfl) fun _ => ?_ | refine jD (id := 13) KL27 mixed (by kernel_rfl) (by kernel_rfl) fun _ => ?_ | skip); simp only [KS, Nat.reduceAdd, Nat.reduceMul, Nat.reduceEqDiff, ↓reduceIte, forall_const, Int.cast_ofNat_Int, Int.reduceToNat, TF27, KL27]; (try simp (disch := omega) only [wrapI, tmodI, tdivI]); (fail_if_success (with_reducible show False))))
    refine Run_ret ?_
    have : Tt.chk t = 200 := by unfold Tt.chk; rw [if_neg (by omega), if_pos (by omega)]
    simp [Rets, RetM, resV, fnd, oneOr, this, x1]
  simp at h
  have hchk : Tt.chk t = if t.Lines.all (Tt.right · t.Offices) then Tt.calL t.Lines else 200 := by unfold Tt.chk; rw [if_neg (by omega), if_neg (by omega)]
  (repeat first | with_reducible first | refine jq ?_ | refine jk ?_ | refine jc ?_ | refine jl ?_ | refine jb ?_ | refine jo ?_ | refine ji ?_ | refine jx rfl ?_ | refine And.intro (by first | assumption | omega | (intros; omega)) ?_ | ((first | refine jR KL27 (by kernel_rfl) fun _ => ?_ | refine jD (id := 8) KL27 mixed (by kernel_rfl) (by kernel_rfl) fun _ => ?_ | refine jD (id := 13) KL27 mixed (by kernel_rfl) (by kernel_rfl) fun _ => ?_ | skip); simp only [KS, Nat.reduceAdd, Nat.reduceMul, Nat.reduceEqDiff, ↓reduceIte, forall_const, Int.cast_ofNat_Int, Int.reduceToNat, TF27, KL27]; (try simp (disch := omega) only [wrapI, tmodI, tdivI]); (fail_if_success (with_reducible show False))))
  refine Run_loopV [2, 3, 22, 33] (σ := Nat) (fun k => [(3, some (.int .i64 k)), (2, some (.int .i64 0))]) (fun k w' => k ≤ t.Lines.length ∧ (∀ j (h : j < t.Lines.length), j < k → Tt.right t.Lines[j] t.Offices = true) ∧ Ext w1 w') (fun k => t.Lines.length - k) 0 (by simp [SubB, fnd]) ⟨by omega, by simp, Ext.refl _⟩ ?_
  rintro k w3 ⟨hk, hf, x3⟩
  have y3 := x1.trans x3
  have g3 := G w3 x3
  (repeat first | with_reducible first | refine jq ?_ | refine jk ?_ | refine jc ?_ | refine jl ?_ | refine jb ?_ | refine jo ?_ | refine ji ?_ | refine jx rfl ?_ | refine And.intro (by first | assumption | omega | (intros; omega)) ?_ | ((first | refine jR KL27 (by kernel_rfl) fun _ => ?_ | refine jD (id := 8) KL27 mixed (by kernel_rfl) (by kernel_rfl) fun _ => ?_ | refine jD (id := 13) KL27 mixed (by kernel_rfl) (by kernel_rfl) fun _ => ?_ | skip); simp only [KS, Nat.reduceAdd, Nat.reduceMul, Nat.reduceEqDiff, ↓reduceIte, forall_const, Int.cast_ofNat_Int, Int.reduceToNat, TF27, KL27, g3, hl.s, hl.len]; (try simp (disch := omega) only [wrapI, tmodI, tdivI]); (fail_if_success (with_reducible show False))))
  refine Run_condS (fun _ => rfl) (fun h => ?_) (fun h => ?_)
  · simp at h
    have hkl := h
    obtain ⟨v0, v1, v2, v3, f1, f2, hR⟩ := (hl.ext y3).line hkl
    simp only [LineD.cs, AtN, KS, Nat.reduceAdd, Nat.reduceMul, Nat.reduceEqDiff, ↓reduceIte, UT] at f1
    have hgo : t.Lines.all (Tt.right · t.Offices) = true → Tt.right t.Lines[k] t.Offices = true := fun hs => List.all_eq_true.1 hs _ (List.getElem_mem hkl)
    generalize hxx : t.Lines[k] = x at *
    (repeat first | with_reducible first | refine jq ?_ | refine jk ?_ | refine jc ?_ | refine jl ?_ | refine jb ?_ | refine jo ?_ | refine ji ?_ | refine jx rfl ?_ | refine And.intro (by first | assumption | omega | (intros; omega)) ?_ | ((first | refine jR KL27 (by kernel_rfl) fun _ => ?_ | refine jD (id := 8) KL27 mixed (by kernel_rfl) (by kernel_rfl) fun _ => ?_ | refine jD (id := 13) KL27 mixed (by kernel_rfl) (by kernel_rfl) fun _ => ?_ | skip); simp only [KS, Nat.reduceAdd, Nat.reduceMul, Nat.reduceEqDiff, ↓reduceIte, forall_const, Int.cast_ofNat_Int, Int.reduceToNat, TF27, KL27, hl.s, hl.len, f1, g3]; (try simp (disch := omega) only [wrapI, tmodI, tdivI]); (fail_if_success (with_reducible show False))))
    refine ⟨.bool (Tt.right x t.Offices), PC_pure call57 fun w4 x4 => rfRight x v0 v1 v2 v3 t.Offices w4 (hR.ext x4), rfl, fun w4 x4 => ?_⟩
    have y4 := y3.trans x4
    refine Run_condS (fun _ => rfl) (fun h => ?_) (fun h => ?_)
    · (repeat first | with_reducible first | refine jq ?_ | refine jk ?_ | refine jc ?_ | refine jl ?_ | refine jb ?_ | refine jo ?_ | refine ji ?_ | refine jx rfl ?_ | refine And.intro (by first | assumption | omega | (intros; omega)) ?_ | ((first | refine jR KL27 (by kernel_rfl) fun _ => ?_ | refine jD (id := 8) KL27 mixed (by kernel_rfl) (by kernel_rfl) fun _ => ?_ | refine jD (id := 13) KL27 mixed (by kernel_rfl) (by kernel_rfl) fun _ => ?_ | skip); simp only [KS, Nat.reduceAdd, Nat.reduceMul, Nat.reduceEqDiff, ↓reduceIte, forall_const, Int.cast_ofNat_Int, Int.reduceToNat, TF27, KL27]; (try simp (disch := omega) only [wrapI, tmodI, tdivI]); (fail_if_success (with_reducible show False))))
      refine Run_ret ?_
      have : Tt.chk t = 200 := by
        rw [hchk, if_neg]
        intro hs; simp [hgo hs] at h
      simp [Rets, RetM, resV, fnd, oneOr, this, y4]
    · have hr5 : Tt.right x t.Offices = true := by simpa using h
      (repeat first | with_reducible first | refine jq ?_ | refine jk ?_ | refine jc ?_ | refine jl ?_ | refine jb ?_ | refine jo ?_ | refine ji ?_ | refine jx rfl ?_ | refine And.intro (by first | assumption | omega | (intros; omega)) ?_ | ((first | refine jR KL27 (by kernel_rfl) fun _ => ?_ | refine jD (id := 8) KL27 mixed (by kernel_rfl) (by kernel_rfl) fun _ => ?_ | refine jD (id := 13) KL27 mixed (by kernel_rfl) (by kernel_rfl) fun _ => ?_ | skip); simp only [KS, Nat.reduceAdd, Nat.reduceMul, Nat.reduceEqDiff, ↓reduceIte, forall_const, Int.cast_ofNat_Int, Int.reduceToNat, TF27, KL27]; (try simp (disch := omega) only [wrapI, tmodI, tdivI]); (fail_if_success (with_reducible show False))))
      refine Run_lp ⟨k + 1, ?_, ⟨by omega, fun j hj hjk => ?_, x3.trans x4⟩, by omega⟩
      · simp [SubB, fnd, strike, has]
      · by_cases e : j = k
        · subst e; rw [hxx]; exact hr5
        · exact hf j hj (by omega)
  simp at h
  obtain rfl : k = t.Lines.length := by omega
  have hall : t.Lines.all (Tt.right · t.Offices) = true := List.all_eq_true.2 fun x hx => by
    obtain ⟨j, hj, rfl⟩ := List.getElem_of_mem hx
    exact hf j hj hj
  rw [if_pos hall] at hchk
  (repeat first | with_reducible first | refine jq ?_ | refine jk ?_ | refine jc ?_ | refine jl ?_ | refine jb ?_ | refine jo ?_ | refine ji ?_ | refine jx rfl ?_ | refine And.intro (by first | assumption | omega | (intros; omega)) ?_ | ((first | refine jR KL27 (by kernel_rfl) fun _ => ?_ | refine jD (id := 8) KL27 mixed (by kernel_rfl) (by kernel_rfl) fun _ => ?_ | refine jD (id := 13) KL27 mixed (by kernel_rfl) (by kernel_rfl) fun _ => ?_ | skip); simp only [KS, Nat.reduceAdd, Nat.reduceMul, Nat.reduceEqDiff, ↓reduceIte, forall_const, Int.cast_ofNat_Int, Int.reduceToNat, TF27, KL27]; (try simp (disch := omega) only [wrapI, tmodI, tdivI]); (fail_if_success (with_reducible show False))))
  refine Run_loopV [2, 4, 5, 38, 55] (σ := Nat) (fun k => [(4, some (.int .i64 k)), (2, some (.int .i64 0))]) (fun k w' => k ≤ t.Lines.length ∧ Tt.calL t.Lines = Tt.calL (t.Lines.drop k) ∧ Ext w1 w') (fun k => t.Lines.length - k) 0 (by simp [SubB, fnd]) ⟨by omega, by simp, x3⟩ ?_
  rintro k w4 ⟨hk, hf, x4⟩
  have y4 := x1.trans x4
  have g4 := G w4 x4
  (repeat first | with_reducible first | refine jq ?_ | refine jk ?_ | refine jc ?_ | refine jl ?_ | refine jb ?_ | refine jo ?_ | refine ji ?_ | refine jx rfl ?_ | refine And.intro (by first | assumption | omega | (intros; omega)) ?_ | ((first | refine jR KL27 (by kernel_rfl) fun _ => ?_ | refine jD (id := 8) KL27 mixed (by kernel_rfl) (by kernel_rfl) fun _ => ?_ | refine jD (id := 13) KL27 mixed (by kernel_rfl) (by kernel_rfl) fun _ => ?_ | skip); simp only [KS, Nat.reduceAdd, Nat.reduceMul, Nat.reduceEqDiff, ↓reduceIte, forall_const, Int.cast_ofNat_Int, Int.reduceToNat, TF27, KL27, g4, hl.s, hl.len]; (try simp (disch := omega) only [wrapI, tmodI, tdivI]); (fail_if_success (with_reducible show False))))
  refine Run_condS (fun _ => rfl) (fun h => ?_) (fun h => ?_)
  · simp at h
    have hkl := h
    obtain ⟨v0, v1, v2, v3, f1, f2, hR⟩ := (hl.ext y4).line hkl
    simp only [LineD.cs, AtN, KS, Nat.reduceAdd, Nat.reduceMul, Nat.reduceEqDiff, ↓reduceIte, UT] at f1
    rw [Tt.calL_drop hkl] at hf
    generalize hxx : t.Lines[k] = x at *
    (repeat first | with_reducible first | refine jq ?_ | refine jk ?_ | refine jc ?_ | refine jl ?_ | refine jb ?_ | refine jo ?_ | refine ji ?_ | refine jx rfl ?_ | refine And.intro (by first | assumption | omega | (intros; omega)) ?_ | ((first | refine jR KL27 (by kernel_rfl) fun _ => ?_ | refine jD (id := 8) KL27 mixed (by kernel_rfl) (by kernel_rfl) fun _ => ?_ | refine jD (id := 13) KL27 mixed (by kernel_rfl) (by kernel_rfl) fun _ => ?_ | skip); simp only [KS, Nat.reduceAdd, Nat.reduceMul, Nat.reduceEqDiff, ↓reduceIte, forall_const, Int.cast_ofNat_Int, Int.reduceToNat, TF27, KL27, hl.s, hl.len, f1, g4]; (try simp (disch := omega) only [wrapI, tmodI, tdivI]); (fail_if_success (with_reducible show False))))
    refine ⟨.int .i64 (Cal.chk x.Rules x.Off), PC_pure call58 fun w5 x5 => refCheck v2 v3 x.Rules x.Off w5 (hR.r.ext x5) (hR.g.ext x5), fun w5 x5 => ?_⟩
    have y5 := y4.trans x5
    (repeat first | with_reducible first | refine jq ?_ | refine jk ?_ | refine jc ?_ | refine jl ?_ | refine jb ?_ | refine jo ?_ | refine ji ?_ | refine jx rfl ?_ | refine And.intro (by first | assumption | omega | (intros; omega)) ?_ | ((first | refine jR KL27 (by kernel_rfl) fun _ => ?_ | refine jD (id := 8) KL27 mixed (by kernel_rfl) (by kernel_rfl) fun _ => ?_ | refine jD (id := 13) KL27 mixed (by kernel_rfl) (by kernel_rfl) fun _ => ?_ | skip); simp only [KS, Nat.reduceAdd, Nat.reduceMul, Nat.reduceEqDiff, ↓reduceIte, forall_const, Int.cast_ofNat_Int, Int.reduceToNat, TF27, KL27]; (try simp (disch := omega) only [wrapI, tmodI, tdivI]); (fail_if_success (with_reducible show False))))
    refine Run_condS (fun _ => rfl) (fun h => ?_) (fun h => ?_)
    · simp at h
      (repeat first | with_reducible first | refine jq ?_ | refine jk ?_ | refine jc ?_ | refine jl ?_ | refine jb ?_ | refine jo ?_ | refine ji ?_ | refine jx rfl ?_ | refine And.intro (by first | assumption | omega | (intros; omega)) ?_ | ((first | refine jR KL27 (by kernel_rfl) fun _ => ?_ | refine jD (id := 8) KL27 mixed (by kernel_rfl) (by kernel_rfl) fun _ => ?_ | refine jD (id := 13) KL27 mixed (by kernel_rfl) (by kernel_rfl) fun _ => ?_ | skip); simp only [KS, Nat.reduceAdd, Nat.reduceMul, Nat.reduceEqDiff, ↓reduceIte, forall_const, Int.cast_ofNat_Int, Int.reduceToNat, TF27, KL27]; (try simp (disch := omega) only [wrapI, tmodI, tdivI]); (fail_if_success (with_reducible show False))))
      refine Run_ret ?_
      rw [if_pos h] at hf
      simp [Rets, RetM, resV, fnd, oneOr, hchk, hf, y5]
    · simp at h
      rw [if_neg (by simp [h])] at hf
      (repeat first | with_reducible first | refine jq ?_ | refine jk ?_ | refine jc ?_ | refine jl ?_ | refine jb ?_ | refine jo ?_ | refine ji ?_ | refine jx rfl ?_ | refine And.intro (by first | assumption | omega | (intros; omega)) ?_ | ((first | refine jR KL27 (by kernel_rfl) fun _ => ?_ | refine jD (id := 8) KL27 mixed (by kernel_rfl) (by kernel_rfl) fun _ => ?_ | refine jD (id := 13) KL27 mixed (by kernel_rfl) (by kernel_rfl) fun _ => ?_ | skip); simp only [KS, Nat.reduceAdd, Nat.reduceMul, Nat.reduceEqDiff, ↓reduceIte, forall_const, Int.cast_ofNat_Int, Int.reduceToNat, TF27, KL27]; (try simp (disch := omega) only [wrapI, tmodI, tdivI]); (fail_if_success (with_reducible show False))))
      refine Run_lp ⟨k + 1, ?_, ⟨by omega, hf, x4.trans x5⟩, by omega⟩
      simp [SubB, fnd, strike, has]
  simp at h
  obtain rfl : k = t.Lines.length := by omega
  (repeat first | with_reducible first | refine jq ?_ | refine jk ?_ | refine jc ?_ | refine jl ?_ | refine jb ?_ | refine jo ?_ | refine ji ?_ | refine jx rfl ?_ | refine And.intro (by first | assumption | omega | (intros; omega)) ?_ | ((first | refine jR KL27 (by kernel_rfl) fun _ => ?_ | refine jD (id := 8) KL27 mixed (by kernel_rfl) (by kernel_rfl) fun _ => ?_ | refine jD (id := 13) KL27 mixed (by kernel_rfl) (by kernel_rfl) fun _ => ?_ | skip); simp only [KS, Nat.reduceAdd, Nat.reduceMul, Nat.reduceEqDiff, ↓reduceIte, forall_const, Int.cast_ofNat_Int, Int.reduceToNat, TF27, KL27]; (try simp (disch := omega) only [wrapI, tmodI, tdivI]); (fail_if_success (with_reducible show False))))
  refine Run_ret ?_
  rw [List.drop_length] at hf
  simp [Rets, RetM, resV, fnd, oneOr, hchk, hf, Tt.calL, y4]
end Go.Proofs.Ytcncbmdkifdggaa
