/- Chapter 40: least, formed. -/
import Derived.Test.YtcncbmdkifdggaaW20d
import Derived.Test.YtcncbmdkifdggaaW21b
import Derived.Test.YtcncbmdkifdggaaP40
import Derived.Test.YtcncbmdkifdggaaFe
namespace Go.Proofs.Ytcncbmdkifdggaa
open Go Go.Fk
set_option linter.unusedSimpArgs false
set_option linter.unusedVariables false
set_option maxRecDepth 100000

def optI : Option Int → Int | none => 0 | some x => x
theorem fdLeast (fv v : Value) (l : List Int) (ok : Nat → Bool) (w : World) (hx : Sl w v l) (hp : ∀ k (hk : k < l.length), Pred Try.prog fv [.int .i64 (k : Int)] w (ok k)) :
    Calls Try.prog 25 #[v, fv] w fun e w' => e = .returned (.tuple #[.int .i64 (optI (Fd.least ok l)), .bool (Fd.least ok l).isSome]) ∧ Ext w w' := by
  have hn := hx.small
  refine Calls_of_Run (args := [v, fv]) (n := 31) (rs := [.tmp 4, .tmp 5]) Try.func25 rfl rfl rfl (by simp) ?_
  (repeat first | with_reducible first | refine jq ?_ | refine jk ?_ | refine jc ?_ | refine jl ?_ | refine jb ?_ | refine jo ?_ | refine ji ?_ | refine jx rfl ?_ | refine And.intro (by first | assumption | omega | (intros; omega)) ?_ | ((first | refine jR KL25 (by kernel_rfl) fun _ => ?_ | skip); simp only [KS, Nat.reduceAdd, Nat.reduceMul, Nat.reduceEqDiff, ↓reduceIte, forall_const, Int.cast_ofNat_Int, Int.reduceToNat, TF25, KL25, hx.s, hx.len]; (try simp (disch := omega) only [wrapI, tmodI, tdivI]); (fail_if_success (with_reducible show False))))
  refine Run_loopV [4, 5, 6, 7, 10, 11, 26] (σ := Nat × Option Int) (fun s => [(10, some (.int .i64 s.1)), (4, some (.int .i64 (optI s.2))), (5, some (.bool s.2.isSome))]) (fun s w' => s.1 ≤ l.length ∧ Fd.least ok l = Fd.leastF ok s.1 (l.drop s.1) s.2 ∧ Ext w w') (fun s => l.length - s.1) (0, none) (by simp [SubB, fnd, optI]) ⟨by simp, by simp [Fd.least], Ext.refl _⟩ ?_
  rintro ⟨k, a⟩ w1 ⟨hk, hf, x1⟩
  simp only at hk hf
  (repeat first | with_reducible first | refine jq ?_ | refine jk ?_ | refine jc ?_ | refine jl ?_ | refine jb ?_ | refine jo ?_ | refine ji ?_ | refine jx rfl ?_ | refine And.intro (by first | assumption | omega | (intros; omega)) ?_ | ((first | refine jR KL25 (by kernel_rfl) fun _ => ?_ | skip); simp only [KS, Nat.reduceAdd, Nat.reduceMul, Nat.reduceEqDiff, ↓reduceIte, forall_const, Int.cast_ofNat_Int, Int.reduceToNat, TF25, KL25]; (try simp (disch := omega) only [wrapI, tmodI, tdivI]); (fail_if_success (with_reducible show False))))
  refine Run_condS (fun _ => rfl) (fun h => ?_) (fun h => ?_)
  · simp at h
    have hkl := h
    obtain ⟨f1, f2, f3⟩ := (hx.ext x1).get h
    rw [Fd.leastF_drop hkl] at hf
    (repeat first | with_reducible first | refine jq ?_ | refine jk ?_ | refine jc ?_ | refine jl ?_ | refine jb ?_ | refine jo ?_ | refine ji ?_ | refine jx rfl ?_ | refine And.intro (by first | assumption | omega | (intros; omega)) ?_ | ((first | refine jR KL25 (by kernel_rfl) fun _ => ?_ | skip); simp only [KS, Nat.reduceAdd, Nat.reduceMul, Nat.reduceEqDiff, ↓reduceIte, forall_const, Int.cast_ofNat_Int, Int.reduceToNat, TF25, KL25, hx.s, hx.len, f1, f2]; (try simp (disch := omega) only [wrapI, tmodI, tdivI]); (fail_if_success (with_reducible show False))))
    refine (hp k h w1 x1).mono fun u w2 ⟨hu, x2⟩ => ?_
    subst hu
    have y2 := x1.trans x2
    have hb : Fd.better a l[k] = (!a.isSome || decide (l[k] < optI a)) := by cases a <;> simp [Fd.better] <;> rfl
    (repeat first | with_reducible first | refine jq ?_ | refine jk ?_ | refine jc ?_ | refine jl ?_ | refine jb ?_ | refine jo ?_ | refine ji ?_ | refine jx rfl ?_ | refine And.intro (by first | assumption | omega | (intros; omega)) ?_ | ((first | refine jR KL25 (by kernel_rfl) fun _ => ?_ | skip); simp only [KS, Nat.reduceAdd, Nat.reduceMul, Nat.reduceEqDiff, ↓reduceIte, forall_const, Int.cast_ofNat_Int, Int.reduceToNat, TF25, KL25]; (try simp (disch := omega) only [wrapI, tmodI, tdivI]); (fail_if_success (with_reducible show False))))
    rw [show ((ok k && (!a.isSome || decide (l[k] < optI a)))) = (ok k && Fd.better a l[k]) by rw [hb]]
    refine Run_condS (fun _ => rfl) (fun h => ?_) (fun h => ?_)
    · (repeat first | with_reducible first | refine jq ?_ | refine jk ?_ | refine jc ?_ | refine jl ?_ | refine jb ?_ | refine jo ?_ | refine ji ?_ | refine jx rfl ?_ | refine And.intro (by first | assumption | omega | (intros; omega)) ?_ | ((first | refine jR KL25 (by kernel_rfl) fun _ => ?_ | skip); simp only [KS, Nat.reduceAdd, Nat.reduceMul, Nat.reduceEqDiff, ↓reduceIte, forall_const, Int.cast_ofNat_Int, Int.reduceToNat, TF25, KL25]; (try simp (disch := omega) only [wrapI, tmodI, tdivI]); (fail_if_success (with_reducible show False))))
      rw [if_pos h] at hf
      refine Run_lp ⟨(k + 1, some l[k]), ?_, ⟨by simp only; omega, hf, y2⟩, by simp only; omega⟩
      simp [SubB, fnd, strike, has, optI]
    · (repeat first | with_reducible first | refine jq ?_ | refine jk ?_ | refine jc ?_ | refine jl ?_ | refine jb ?_ | refine jo ?_ | refine ji ?_ | refine jx rfl ?_ | refine And.intro (by first | assumption | omega | (intros; omega)) ?_ | ((first | refine jR KL25 (by kernel_rfl) fun _ => ?_ | skip); simp only [KS, Nat.reduceAdd, Nat.reduceMul, Nat.reduceEqDiff, ↓reduceIte, forall_const, Int.cast_ofNat_Int, Int.reduceToNat, TF25, KL25]; (try simp (disch := omega) only [wrapI, tmodI, tdivI]); (fail_if_success (with_reducible show False))))
      rw [if_neg (by simp [h])] at hf
      refine Run_lp ⟨(k + 1, a), ?_, ⟨by simp only; omega, hf, y2⟩, by simp only; omega⟩
      simp [SubB, fnd, strike, has]
  · simp at h
    obtain rfl : k = l.length := by omega
    rw [List.drop_length] at hf
    (repeat first | with_reducible first | refine jq ?_ | refine jk ?_ | refine jc ?_ | refine jl ?_ | refine jb ?_ | refine jo ?_ | refine ji ?_ | refine jx rfl ?_ | refine And.intro (by first | assumption | omega | (intros; omega)) ?_ | ((first | refine jR KL25 (by kernel_rfl) fun _ => ?_ | skip); simp only [KS, Nat.reduceAdd, Nat.reduceMul, Nat.reduceEqDiff, ↓reduceIte, forall_const, Int.cast_ofNat_Int, Int.reduceToNat, TF25, KL25]; (try simp (disch := omega) only [wrapI, tmodI, tdivI]); (fail_if_success (with_reducible show False))))
    refine Run_ret ?_
    simp [Rets, RetM, resV, fnd, oneOr, hf, Fd.leastF, x1]
theorem fdBit (i : Nat) (c : Int) (p : Addr) (w : World) (hp : At w p [.int .i64 c]) : Calls Try.prog 26 #[.int .i64 (i : Int), .pointer (some p)] w fun e w' => e = .returned (.bool (Fd.bit c i)) ∧ Ext w w' := by
  have g1 := hp.n
  simp only [AtN, add_zero] at g1
  refine Calls_of_Run (args := [.int .i64 (i : Int), .pointer (some p)]) (n := 9) (rs := [.tmp 3]) Try.func26 rfl rfl rfl (by simp) ?_
  (repeat first | with_reducible first | refine jq ?_ | refine jk ?_ | refine jc ?_ | refine jl ?_ | refine jb ?_ | refine jo ?_ | refine ji ?_ | refine jx rfl ?_ | refine And.intro (by first | assumption | omega | (intros; omega)) ?_ | ((first | refine jR KL26 (by kernel_rfl) fun _ => ?_ | skip); simp only [KS, Nat.reduceAdd, Nat.reduceMul, Nat.reduceEqDiff, ↓reduceIte, forall_const, Int.cast_ofNat_Int, Int.reduceToNat, TF26, KL26, g1.1, g1.2.1]; (try simp (disch := omega) only [wrapI, tmodI, tdivI]); (fail_if_success (with_reducible show False))))
  refine Run_ret ?_
  simp [Rets, RetM, resV, fnd, oneOr, Ext.refl, Fd.bit]
  first | done | rfl
/-! formed -/
theorem idxRun (vs fv : Value) (xs : List RunD) (p : Nat → Bool) (w : World) (hs : Sl w vs xs) (hp : ∀ k (hk : k < xs.length), Pred Try.prog fv [.agg xs[k].cs.toArray] w (p k)) :
    Calls Try.prog 78 #[vs, fv] w fun e w' => ∃ r, e = .returned (.int .i64 r) ∧ Ext w w' ∧ decide (0 ≤ r) = anyN xs.length p := by
  have hn := hs.small
  refine Calls_of_Run (args := [vs, fv]) (n := 19) (rs := [.tmp 4]) Try.func78 rfl rfl rfl (by simp) ?_
  (repeat first | with_reducible first | refine jq ?_ | refine jk ?_ | refine jc ?_ | refine jl ?_ | refine jb ?_ | refine jo ?_ | refine ji ?_ | refine jx rfl ?_ | refine And.intro (by first | assumption | omega | (intros; omega)) ?_ | ((first | refine jR KL78 (by kernel_rfl) fun _ => ?_ | skip); simp only [KS, Nat.reduceAdd, Nat.reduceMul, Nat.reduceEqDiff, ↓reduceIte, forall_const, Int.cast_ofNat_Int, Int.reduceToNat, TF78, KL78, hs.s, hs.len]; (try simp (disch := omega) only [wrapI, tmodI, tdivI]); (fail_if_success (with_reducible show False))))
  refine Run_loopV [4, 5, 8, 9, 16] (σ := Nat) (fun k => [(8, some (.int .i64 k))]) (fun k w' => k ≤ xs.length ∧ (∀ j, j < k → p j = false) ∧ Ext w w') (fun k => xs.length - k) 0 (by simp [SubB, fnd]) ⟨by omega, by simp, Ext.refl _⟩ ?_
  rintro k w1 ⟨hk, hf, x1⟩
  (repeat first | with_reducible first | refine jq ?_ | refine jk ?_ | refine jc ?_ | refine jl ?_ | refine jb ?_ | refine jo ?_ | refine ji ?_ | refine jx rfl ?_ | refine And.intro (by first | assumption | omega | (intros; omega)) ?_ | ((first | refine jR KL78 (by kernel_rfl) fun _ => ?_ | skip); simp only [KS, Nat.reduceAdd, Nat.reduceMul, Nat.reduceEqDiff, ↓reduceIte, forall_const, Int.cast_ofNat_Int, Int.reduceToNat, TF78, KL78]; (try simp (disch := omega) only [wrapI, tmodI, tdivI]); (fail_if_success (with_reducible show False))))
  refine Run_condS (fun _ => rfl) (fun h => ?_) (fun h => ?_)
  · simp at h
    obtain ⟨f1, f2⟩ := (hs.ext x1).runD h
    simp only [RunD.cs, AtN, KS, Nat.reduceAdd, Nat.reduceMul, Nat.reduceEqDiff, ↓reduceIte, UT] at f1
    (repeat first | with_reducible first | refine jq ?_ | refine jk ?_ | refine jc ?_ | refine jl ?_ | refine jb ?_ | refine jo ?_ | refine ji ?_ | refine jx rfl ?_ | refine And.intro (by first | assumption | omega | (intros; omega)) ?_ | ((first | refine jR KL78 (by kernel_rfl) fun _ => ?_ | skip); simp only [KS, Nat.reduceAdd, Nat.reduceMul, Nat.reduceEqDiff, ↓reduceIte, forall_const, Int.cast_ofNat_Int, Int.reduceToNat, TF78, KL78, hs.s, hs.len, f1]; (try simp (disch := omega) only [wrapI, tmodI, tdivI]); (fail_if_success (with_reducible show False))))
    refine (hp k h w1 x1).mono fun v w2 ⟨hv, x2⟩ => ?_
    subst hv
    have hkl := h
    (repeat first | with_reducible first | refine jq ?_ | refine jk ?_ | refine jc ?_ | refine jl ?_ | refine jb ?_ | refine jo ?_ | refine ji ?_ | refine jx rfl ?_ | refine And.intro (by first | assumption | omega | (intros; omega)) ?_ | ((first | refine jR KL78 (by kernel_rfl) fun _ => ?_ | skip); simp only [KS, Nat.reduceAdd, Nat.reduceMul, Nat.reduceEqDiff, ↓reduceIte, forall_const, Int.cast_ofNat_Int, Int.reduceToNat, TF78, KL78]; (try simp (disch := omega) only [wrapI, tmodI, tdivI]); (fail_if_success (with_reducible show False))))
    refine Run_condS (fun _ => rfl) (fun h => ?_) (fun h => ?_)
    · (repeat first | with_reducible first | refine jq ?_ | refine jk ?_ | refine jc ?_ | refine jl ?_ | refine jb ?_ | refine jo ?_ | refine ji ?_ | refine jx rfl ?_ | refine And.intro (by first | assumption | omega | (intros; omega)) ?_ | ((first | refine jR KL78 (by kernel_rfl) fun _ => ?_ | skip); simp only [KS, Nat.reduceAdd, Nat.reduceMul, Nat.reduceEqDiff, ↓reduceIte, forall_const, Int.cast_ofNat_Int, Int.reduceToNat, TF78, KL78]; (try simp (disch := omega) only [wrapI, tmodI, tdivI]); (fail_if_success (with_reducible show False))))
      refine Run_ret ?_
      simp [Rets, RetM, resV, fnd, oneOr, anyN_true hkl (by assumption : p k = true)]
      exact x1.trans x2
    · have hpk := h
      (repeat first | with_reducible first | refine jq ?_ | refine jk ?_ | refine jc ?_ | refine jl ?_ | refine jb ?_ | refine jo ?_ | refine ji ?_ | refine jx rfl ?_ | refine And.intro (by first | assumption | omega | (intros; omega)) ?_ | ((first | refine jR KL78 (by kernel_rfl) fun _ => ?_ | skip); simp only [KS, Nat.reduceAdd, Nat.reduceMul, Nat.reduceEqDiff, ↓reduceIte, forall_const, Int.cast_ofNat_Int, Int.reduceToNat, TF78, KL78]; (try simp (disch := omega) only [wrapI, tmodI, tdivI]); (fail_if_success (with_reducible show False))))
      refine Run_lp ⟨k + 1, ?_, ⟨by omega, fun j hj => ?_, x1.trans x2⟩, by omega⟩
      · simp [SubB, fnd, strike, has]
      · by_cases e : j = k
        · subst e; exact hpk
        · exact hf j (by omega)
  · simp at h
    obtain rfl : k = xs.length := by omega
    (repeat first | with_reducible first | refine jq ?_ | refine jk ?_ | refine jc ?_ | refine jl ?_ | refine jb ?_ | refine jo ?_ | refine ji ?_ | refine jx rfl ?_ | refine And.intro (by first | assumption | omega | (intros; omega)) ?_ | ((first | refine jR KL78 (by kernel_rfl) fun _ => ?_ | skip); simp only [KS, Nat.reduceAdd, Nat.reduceMul, Nat.reduceEqDiff, ↓reduceIte, forall_const, Int.cast_ofNat_Int, Int.reduceToNat, TF78, KL78]; (try simp (disch := omega) only [wrapI, tmodI, tdivI]); (fail_if_success (with_reducible show False))))
    refine Run_ret ?_
    simp [Rets, RetM, resV, fnd, oneOr, anyN_false hf, x1]
theorem hasRun (vs fv : Value) (xs : List RunD) (p : Nat → Bool) (w : World) (hs : Sl w vs xs) (hp : ∀ k (hk : k < xs.length), Pred Try.prog fv [.agg xs[k].cs.toArray] w (p k)) :
    Calls Try.prog 50 #[vs, fv] w fun e w' => e = .returned (.bool (anyN xs.length p)) ∧ Ext w w' := by
  refine Calls_of_Run (args := [vs, fv]) (n := 9) (rs := [.tmp 4]) Try.func50 rfl rfl rfl (by simp) ?_
  (repeat first | with_reducible first | refine jq ?_ | refine jk ?_ | refine jc ?_ | refine jl ?_ | refine jb ?_ | refine jo ?_ | refine ji ?_ | refine jx rfl ?_ | refine And.intro (by first | assumption | omega | (intros; omega)) ?_ | ((first | refine jR KL50 (by kernel_rfl) fun _ => ?_ | skip); simp only [KS, Nat.reduceAdd, Nat.reduceMul, Nat.reduceEqDiff, ↓reduceIte, forall_const, Int.cast_ofNat_Int, Int.reduceToNat, TF50, KL50]; (try simp (disch := omega) only [wrapI, tmodI, tdivI]); (fail_if_success (with_reducible show False))))
  refine CallW_gen call78 (idxRun vs fv xs p w hs hp) fun e w1 ⟨r, he, x1, hr⟩ => ⟨_, he, ?_⟩
  (repeat first | with_reducible first | refine jq ?_ | refine jk ?_ | refine jc ?_ | refine jl ?_ | refine jb ?_ | refine jo ?_ | refine ji ?_ | refine jx rfl ?_ | refine And.intro (by first | assumption | omega | (intros; omega)) ?_ | ((first | refine jR KL50 (by kernel_rfl) fun _ => ?_ | skip); simp only [KS, Nat.reduceAdd, Nat.reduceMul, Nat.reduceEqDiff, ↓reduceIte, forall_const, Int.cast_ofNat_Int, Int.reduceToNat, TF50, KL50]; (try simp (disch := omega) only [wrapI, tmodI, tdivI]); (fail_if_success (with_reducible show False))))
  refine Run_ret ?_
  simp [Rets, RetM, resV, fnd, oneOr, x1]
  simpa using hr
/-- where a plan lies that closures see -/
structure PlanP (w : World) (q : Addr) (p : PlanD) (v0 v1 v2 : Value) : Prop where
  at_ : At w q (p.cs v0 v1 v2)
  r : PlanR w p v0 v1 v2
theorem PlanP.ext {w w' : World} {q : Addr} {p : PlanD} {v0 v1 v2 : Value} (h : PlanP w q p v0 v1 v2) (hx : Ext w w') : PlanP w' q p v0 v1 v2 := ⟨h.at_.ext hx, h.r.ext hx⟩
theorem fdF1 (q : Addr) (p : PlanD) (v0 v1 v2 : Value) (w : World) (h : PlanP w q p v0 v1 v2) :
    Calls Try.prog 48 #[.pointer (some q)] w fun e w' => e = .returned (.bool (decide (p.Covers.length = p.Runs.length))) ∧ Ext w w' := by
  have g := h.at_.n
  simp only [PlanD.cs, AtN, KS, Nat.reduceAdd, Nat.reduceMul, Nat.reduceEqDiff, ↓reduceIte, UT] at g
  refine Calls_of_Run (args := [.pointer (some q)]) (n := 9) (rs := [.tmp 1]) Try.func48 rfl rfl rfl (by simp) ?_
  (repeat first | with_reducible first | refine jq ?_ | refine jk ?_ | refine jc ?_ | refine jl ?_ | refine jb ?_ | refine jo ?_ | refine ji ?_ | refine jx rfl ?_ | refine And.intro (by first | assumption | omega | (intros; omega)) ?_ | ((first | refine jR KL48 (by kernel_rfl) fun _ => ?_ | skip); simp only [KS, Nat.reduceAdd, Nat.reduceMul, Nat.reduceEqDiff, ↓reduceIte, forall_const, Int.cast_ofNat_Int, Int.reduceToNat, TF48, KL48, g, h.r.c.s, h.r.c.len, h.r.r.s, h.r.r.len]; (try simp (disch := omega) only [wrapI, tmodI, tdivI]); (fail_if_success (with_reducible show False))))
  refine Run_ret ?_
  simp [Rets, RetM, resV, fnd, oneOr, Ext.refl]
  rw [Bool.eq_iff_iff]; simp; omega
theorem fdF21 (r : RunD) (pt : Addr) (t : TimeD) (vl : Value) (w : World) (hat : At w pt (t.cs vl)) (hl : Sl w vl t.Lines) (hr : RunI r) :
    Calls Try.prog 51 #[.agg r.cs.toArray, .pointer (some pt)] w fun e w' => e = .returned (.bool (!Tt.isRun t r)) ∧ Ext w w' := by
  refine Calls_of_Run (args := [.agg r.cs.toArray, .pointer (some pt)]) (n := 8) (rs := [.tmp 3]) Try.func51 rfl rfl rfl (by simp) ?_
  (repeat first | with_reducible first | refine jq ?_ | refine jk ?_ | refine jc ?_ | refine jl ?_ | refine jb ?_ | refine jo ?_ | refine ji ?_ | refine jx rfl ?_ | refine And.intro (by first | assumption | omega | (intros; omega)) ?_ | ((first | refine jR KL51 (by kernel_rfl) fun _ => ?_ | skip); simp only [KS, Nat.reduceAdd, Nat.reduceMul, Nat.reduceEqDiff, ↓reduceIte, forall_const, Int.cast_ofNat_Int, Int.reduceToNat, TF51, KL51]; (try simp (disch := omega) only [wrapI, tmodI, tdivI]); (fail_if_success (with_reducible show False))))
  refine SemW_box fun q w1 hN => ?_
  have x1 := hN.ext
  have g := (hat.ext x1).n
  have q1 := hN.at_.n
  simp only [TimeD.cs, RunD.cs, AtN, KS, Nat.reduceAdd, Nat.reduceMul, Nat.reduceEqDiff, ↓reduceIte, UT] at g q1
  (repeat first | with_reducible first | refine jq ?_ | refine jk ?_ | refine jc ?_ | refine jl ?_ | refine jb ?_ | refine jo ?_ | refine ji ?_ | refine jx rfl ?_ | refine And.intro (by first | assumption | omega | (intros; omega)) ?_ | ((first | refine jR KL51 (by kernel_rfl) fun _ => ?_ | skip); simp only [KS, Nat.reduceAdd, Nat.reduceMul, Nat.reduceEqDiff, ↓reduceIte, forall_const, Int.cast_ofNat_Int, Int.reduceToNat, TF51, KL51, g, q1]; (try simp (disch := omega) only [wrapI, tmodI, tdivI]); (fail_if_success (with_reducible show False))))
  refine CallW_pure call52 (ttIs vl t r w1 (hl.ext x1) hr) fun w2 x2 => ?_
  (repeat first | with_reducible first | refine jq ?_ | refine jk ?_ | refine jc ?_ | refine jl ?_ | refine jb ?_ | refine jo ?_ | refine ji ?_ | refine jx rfl ?_ | refine And.intro (by first | assumption | omega | (intros; omega)) ?_ | ((first | refine jR KL51 (by kernel_rfl) fun _ => ?_ | skip); simp only [KS, Nat.reduceAdd, Nat.reduceMul, Nat.reduceEqDiff, ↓reduceIte, forall_const, Int.cast_ofNat_Int, Int.reduceToNat, TF51, KL51]; (try simp (disch := omega) only [wrapI, tmodI, tdivI]); (fail_if_success (with_reducible show False))))
  refine Run_ret ?_
  simp [Rets, RetM, resV, fnd, oneOr]
  exact x1.trans x2
theorem runI {w : World} {v : Value} {xs : List RunD} (h : Sl w v xs) {k : Nat} (hk : k < xs.length) : RunI xs[k] := (h.runD hk).2
theorem fdF2 (q pt : Addr) (p : PlanD) (t : TimeD) (v0 v1 v2 vl : Value) (w : World) (h : PlanP w q p v0 v1 v2) (hat : At w pt (t.cs vl)) (hl : Sl w vl t.Lines) :
    Calls Try.prog 49 #[.pointer (some q), .pointer (some pt)] w fun e w' => e = .returned (.bool (p.Runs.all (Tt.isRun t))) ∧ Ext w w' := by
  have g := h.at_.n
  simp only [PlanD.cs, AtN, KS, Nat.reduceAdd, Nat.reduceMul, Nat.reduceEqDiff, ↓reduceIte, UT] at g
  refine Calls_of_Run (args := [.pointer (some q), .pointer (some pt)]) (n := 8) (rs := [.tmp 2]) Try.func49 rfl rfl rfl (by simp) ?_
  (repeat first | with_reducible first | refine jq ?_ | refine jk ?_ | refine jc ?_ | refine jl ?_ | refine jb ?_ | refine jo ?_ | refine ji ?_ | refine jx rfl ?_ | refine And.intro (by first | assumption | omega | (intros; omega)) ?_ | ((first | refine jR KL49 (by kernel_rfl) fun _ => ?_ | skip); simp only [KS, Nat.reduceAdd, Nat.reduceMul, Nat.reduceEqDiff, ↓reduceIte, forall_const, Int.cast_ofNat_Int, Int.reduceToNat, TF49, KL49, g]; (try simp (disch := omega) only [wrapI, tmodI, tdivI]); (fail_if_success (with_reducible show False))))
  refine CallW_pure call50 (hasRun v0 _ p.Runs (fun k => !Tt.isRun t (p.Runs.getD k default)) w h.r.r fun k hk w1 x1 => ?_) fun w2 x2 => ?_
  · have e : p.Runs.getD k default = p.Runs[k] := by simp [List.getD_eq_getElem?_getD, hk]
    rw [e]
    exact CallW_cap (cap := [.pointer (some pt)]) call51 (fdF21 _ pt t vl w1 (hat.ext x1) (hl.ext x1) (runI h.r.r hk)) fun w3 x3 => ⟨rfl, x3⟩
  (repeat first | with_reducible first | refine jq ?_ | refine jk ?_ | refine jc ?_ | refine jl ?_ | refine jb ?_ | refine jo ?_ | refine ji ?_ | refine jx rfl ?_ | refine And.intro (by first | assumption | omega | (intros; omega)) ?_ | ((first | refine jR KL49 (by kernel_rfl) fun _ => ?_ | skip); simp only [KS, Nat.reduceAdd, Nat.reduceMul, Nat.reduceEqDiff, ↓reduceIte, forall_const, Int.cast_ofNat_Int, Int.reduceToNat, TF49, KL49]; (try simp (disch := omega) only [wrapI, tmodI, tdivI]); (fail_if_success (with_reducible show False))))
  refine Run_ret ?_
  simp only [Rets, RetM, resV, fnd, oneOr, ↓reduceIte]
  refine ⟨_, rfl, ?_, x2⟩
  congr 2
  rw [Bool.eq_iff_iff]
  simp only [anyN, Bool.not_eq_true', List.any_eq_false, List.mem_range, List.all_eq_true, Bool.not_eq_true, Bool.not_eq_false']
  constructor
  · intro hh r hr
    obtain ⟨k, hk, rfl⟩ := List.getElem_of_mem hr
    have := hh k hk
    simpa [List.getD_eq_getElem?_getD, hk] using this
  · intro hh k hk
    have e : p.Runs.getD k default = p.Runs[k] := by simp [List.getD_eq_getElem?_getD, hk]
    rw [e]; simp [hh _ (List.getElem_mem hk)]
theorem fdF41 (n : Int) (w : World) : Calls Try.prog 56 #[.int .i64 n] w fun e w' => e = .returned (.bool (!Fd.covOk n)) ∧ Ext w w' := by
  refine Calls_of_Run (args := [.int .i64 n]) (n := 9) (rs := [.tmp 2]) Try.func56 rfl rfl rfl (by simp) ?_
  (repeat first | with_reducible first | refine jq ?_ | refine jk ?_ | refine jc ?_ | refine jl ?_ | refine jb ?_ | refine jo ?_ | refine ji ?_ | refine jx rfl ?_ | refine And.intro (by first | assumption | omega | (intros; omega)) ?_ | ((first | refine jR KL56 (by kernel_rfl) fun _ => ?_ | skip); simp only [KS, Nat.reduceAdd, Nat.reduceMul, Nat.reduceEqDiff, ↓reduceIte, forall_const, Int.cast_ofNat_Int, Int.reduceToNat, TF56, KL56]; (try simp (disch := omega) only [wrapI, tmodI, tdivI]); (fail_if_success (with_reducible show False))))
  refine Run_ret ?_
  simp [Rets, RetM, resV, fnd, oneOr, Ext.refl, Fd.covOk]
  rw [Bool.eq_iff_iff]; simp
theorem fdF4 (q : Addr) (p : PlanD) (v0 v1 v2 : Value) (w : World) (h : PlanP w q p v0 v1 v2) :
    Calls Try.prog 54 #[.pointer (some q)] w fun e w' => e = .returned (.bool (p.Covers.all Fd.covOk)) ∧ Ext w w' := by
  have g := h.at_.n
  simp only [PlanD.cs, AtN, KS, Nat.reduceAdd, Nat.reduceMul, Nat.reduceEqDiff, ↓reduceIte, UT] at g
  refine Calls_of_Run (args := [.pointer (some q)]) (n := 6) (rs := [.tmp 1]) Try.func54 rfl rfl rfl (by simp) ?_
  (repeat first | with_reducible first | refine jq ?_ | refine jk ?_ | refine jc ?_ | refine jl ?_ | refine jb ?_ | refine jo ?_ | refine ji ?_ | refine jx rfl ?_ | refine And.intro (by first | assumption | omega | (intros; omega)) ?_ | ((first | refine jR KL54 (by kernel_rfl) fun _ => ?_ | skip); simp only [KS, Nat.reduceAdd, Nat.reduceMul, Nat.reduceEqDiff, ↓reduceIte, forall_const, Int.cast_ofNat_Int, Int.reduceToNat, TF54, KL54, g]; (try simp (disch := omega) only [wrapI, tmodI, tdivI]); (fail_if_success (with_reducible show False))))
  refine CallW_pure call55 (hasNot h.r.c call56 fdF41) fun w2 x2 => ?_
  (repeat first | with_reducible first | refine jq ?_ | refine jk ?_ | refine jc ?_ | refine jl ?_ | refine jb ?_ | refine jo ?_ | refine ji ?_ | refine jx rfl ?_ | refine And.intro (by first | assumption | omega | (intros; omega)) ?_ | ((first | refine jR KL54 (by kernel_rfl) fun _ => ?_ | skip); simp only [KS, Nat.reduceAdd, Nat.reduceMul, Nat.reduceEqDiff, ↓reduceIte, forall_const, Int.cast_ofNat_Int, Int.reduceToNat, TF54, KL54]; (try simp (disch := omega) only [wrapI, tmodI, tdivI]); (fail_if_success (with_reducible show False))))
  refine Run_ret ?_
  simp [Rets, RetM, resV, fnd, oneOr, x2]
theorem ord_iff {l : List RunD} : Fd.ordOk l = true ↔ ∀ k, 1 ≤ k → k < l.length → Tt.before (l.getD (k - 1) default) (l.getD k default) = true := by
  unfold Fd.ordOk
  rw [List.all_eq_true]
  constructor
  · intro h k h1 h2
    have := h (k - 1) (by simp; omega)
    rwa [show k - 1 + 1 = k by omega] at this
  · intro h k hk
    simp at hk
    have := h (k + 1) (by omega) (by omega)
    rwa [show k + 1 - 1 = k by omega] at this
theorem fdF3 (q : Addr) (p : PlanD) (v0 v1 v2 : Value) (w : World) (h : PlanP w q p v0 v1 v2) :
    Calls Try.prog 53 #[.pointer (some q)] w fun e w' => e = .returned (.bool (Fd.ordOk p.Runs)) ∧ Ext w w' := by
  have hn := h.r.r.small
  have hlen := h.r.r.len
  have G : ∀ w', Ext w w' → AtN w' q 0 (p.cs v0 v1 v2) := fun w' x => (h.at_.ext x).n
  simp only [PlanD.cs, AtN, KS, Nat.reduceAdd, Nat.reduceMul, Nat.reduceEqDiff, ↓reduceIte, UT] at G
  refine Calls_of_Run (args := [.pointer (some q)]) (n := 42) (rs := [.tmp 1]) Try.func53 rfl rfl rfl (by simp) ?_
  (repeat first | with_reducible first | refine jq ?_ | refine jk ?_ | refine jc ?_ | refine jl ?_ | refine jb ?_ | refine jo ?_ | refine ji ?_ | refine jx rfl ?_ | refine And.intro (by first | assumption | omega | (intros; omega)) ?_ | ((first | refine jR KL53 (by kernel_rfl) fun _ => ?_ | skip); simp only [KS, Nat.reduceAdd, Nat.reduceMul, Nat.reduceEqDiff, ↓reduceIte, forall_const, Int.cast_ofNat_Int, Int.reduceToNat, TF53, KL53, List.take_succ_cons, List.take_zero, List.drop_succ_cons, List.drop_zero]; (try simp (disch := omega) only [wrapI, tmodI, tdivI]); (fail_if_success (with_reducible show False))))
  refine Run_loopV [1, 2, 3, 4, 9, 41] (σ := Nat) (fun k => [(2, some (.int .i64 k))]) (fun k w' => 1 ≤ k ∧ (∀ j, 1 ≤ j → j < k → j < p.Runs.length → Tt.before (p.Runs.getD (j - 1) default) (p.Runs.getD j default) = true) ∧ Ext w w') (fun k => p.Runs.length + 1 - k) 1 (by simp [SubB, fnd]) ⟨by omega, fun j h1 h2 => by omega, Ext.refl _⟩ ?_
  rintro k w1 ⟨hk, hf, x1⟩
  have g1 := G w1 x1
  (repeat first | with_reducible first | refine jq ?_ | refine jk ?_ | refine jc ?_ | refine jl ?_ | refine jb ?_ | refine jo ?_ | refine ji ?_ | refine jx rfl ?_ | refine And.intro (by first | assumption | omega | (intros; omega)) ?_ | ((first | refine jR KL53 (by kernel_rfl) fun _ => ?_ | skip); simp only [KS, Nat.reduceAdd, Nat.reduceMul, Nat.reduceEqDiff, ↓reduceIte, forall_const, Int.cast_ofNat_Int, Int.reduceToNat, TF53, KL53, List.take_succ_cons, List.take_zero, List.drop_succ_cons, List.drop_zero, g1, h.r.r.s, h.r.r.len]; (try simp (disch := omega) only [wrapI, tmodI, tdivI]); (fail_if_success (with_reducible show False))))
  have hR := h.r
  refine Run_condS (fun _ => rfl) (fun h => ?_) (fun h => ?_)
  · simp at h
    have hkl := h
    obtain ⟨f1, _⟩ := (hR.r.ext x1).runD hkl
    obtain ⟨e1, _⟩ := (hR.r.ext x1).runD (show k - 1 < p.Runs.length by omega)
    have ha : p.Runs.getD (k - 1) default = p.Runs[k - 1] := by simp [List.getD_eq_getElem?_getD, show k - 1 < p.Runs.length by omega]
    have hb : p.Runs.getD k default = p.Runs[k] := by simp [List.getD_eq_getElem?_getD, hkl]
    simp only [RunD.cs, AtN, KS, Nat.reduceAdd, Nat.reduceMul, Nat.reduceEqDiff, ↓reduceIte, UT] at f1 e1
    have ek : ((k : Int) - 1).toNat = k - 1 := by omega
    (repeat with_reducible first | refine jq ?_ | refine jk ?_ | refine jc ?_ | refine jl ?_ | refine jb ?_ | refine jo ?_ | refine ji ?_ | refine jx rfl ?_)
    refine Run_ec (id := 4) KL53 (.first 0 (.first 1 (.first 2 (.first 3 (.first 4 (.first 5 (.first 6 (.first 7 (.first 8 (.first 9 (.first 10 (.alt 11 (.alt 12 (.alt 13 (.alt 14 .done .stop) .stop) .stop) (.alt 12 (.alt 11 (.alt 13 (.alt 14 .done .stop) .stop) .stop) .stop))))))))))))) mixed (by kernel_rfl) (by kernel_rfl) fun w2 x2 _ => ?_
    have g2 := G w2 (x1.trans x2)
    obtain ⟨f1, _⟩ := (hR.r.ext (x1.trans x2)).runD hkl
    obtain ⟨e1, _⟩ := (hR.r.ext (x1.trans x2)).runD (show k - 1 < p.Runs.length by omega)
    simp only [RunD.cs, AtN, KS, Nat.reduceAdd, Nat.reduceMul, Nat.reduceEqDiff, ↓reduceIte, UT] at f1 e1
    (try simp only [KS, Nat.reduceAdd, Nat.reduceMul, Nat.reduceEqDiff, ↓reduceIte, forall_const, Int.cast_ofNat_Int, Int.reduceToNat, List.take_succ_cons, List.take_zero, List.drop_succ_cons, List.drop_zero, TF53, KL53, ec, g2, f1, e1, ek, hR.r.s, hR.r.len]); (try simp (disch := omega) only [wrapI, tmodI, tdivI])
    (try simp only [KS, Nat.reduceAdd, Nat.reduceMul, Nat.reduceEqDiff, ↓reduceIte, forall_const, Int.cast_ofNat_Int, Int.reduceToNat, List.take_succ_cons, List.take_zero, List.drop_succ_cons, List.drop_zero, TF53, KL53, ec, g2, f1, e1, ek, hR.r.s, hR.r.len]); (try simp (disch := omega) only [wrapI, tmodI, tdivI])
    repeat' (first | with_reducible refine And.intro ?_ ?_ | omega | exact Ext.refl _)
    · refine SemW_allocT ti51 fun p3 w3 h3 => ⟨h3.ext, SemW_allocT ti51 fun p4 w4 h4 => ⟨h3.ext.trans h4.ext, ?_⟩⟩
      have b3 := h3.blk
      have b4 := h4.blk
      have z3 := h3.size
      have z4 := h4.size
      refine SemW_setW (by rw [cells51]; decide) (by rw [cells51]; rfl) (h3.row.ext h4.ext) (by rw [cells51]; rfl) rfl fun w5 r5 k5 z5 => ?_
      have x5 : Ext w2 w5 := Keep.ext (h3.ext.trans h4.ext) k5 fun q hq => by omega
      refine ⟨x5, SemW_setW (by rw [cells51]; decide) (by rw [cells51]; rfl) ((h4.row.ext (Ext.refl _)).keep k5 (by omega)) (by rw [cells51]; rfl) rfl fun w6 r6 k6 z6 => ?_⟩
      have x6 : Ext w2 w6 := Keep.ext x5 k6 fun q hq => by omega
      refine ⟨x6, ?_⟩
      have ra : Row w6 p3 51 p.Runs[k - 1].cs := r5.keep k6 (by omega)
      have rb : Row w6 p4 51 p.Runs[k].cs := r6
      have y6 := x1.trans (x2.trans x6)
      have qa := ra.n
      have qb := rb.n
      simp only [RunD.cs, AtN, KS, Nat.reduceAdd, Nat.reduceMul, Nat.reduceEqDiff, ↓reduceIte, UT] at qa qb
      (repeat first | with_reducible first | refine jq ?_ | refine jk ?_ | refine jc ?_ | refine jl ?_ | refine jb ?_ | refine jo ?_ | refine ji ?_ | refine jx rfl ?_ | refine And.intro (by first | assumption | omega | (intros; omega)) ?_ | ((first | refine jR KL53 (by kernel_rfl) fun _ => ?_ | skip); simp only [KS, Nat.reduceAdd, Nat.reduceMul, Nat.reduceEqDiff, ↓reduceIte, forall_const, Int.cast_ofNat_Int, Int.reduceToNat, TF53, KL53, List.take_succ_cons, List.take_zero, List.drop_succ_cons, List.drop_zero, qa, qb]; (try simp (disch := omega) only [wrapI, tmodI, tdivI]); (fail_if_success (with_reducible show False))))
      refine Run_condS (fun _ => rfl) (fun h => ?_) (fun h => ?_)
      · (repeat first | with_reducible first | refine jq ?_ | refine jk ?_ | refine jc ?_ | refine jl ?_ | refine jb ?_ | refine jo ?_ | refine ji ?_ | refine jx rfl ?_ | refine And.intro (by first | assumption | omega | (intros; omega)) ?_ | ((first | refine jR KL53 (by kernel_rfl) fun _ => ?_ | skip); simp only [KS, Nat.reduceAdd, Nat.reduceMul, Nat.reduceEqDiff, ↓reduceIte, forall_const, Int.cast_ofNat_Int, Int.reduceToNat, TF53, KL53, List.take_succ_cons, List.take_zero, List.drop_succ_cons, List.drop_zero]; (try simp (disch := omega) only [wrapI, tmodI, tdivI]); (fail_if_success (with_reducible show False))))
        refine Run_ret ?_
        have : Fd.ordOk p.Runs = false := by
          cases ho : Fd.ordOk p.Runs with
          | false => rfl
          | true =>
            have := ord_iff.1 ho k hk hkl
            rw [ha, hb] at this
            simp [Tt.before] at this
            simp at h
            omega
        simp [Rets, RetM, resV, fnd, oneOr, this, y6]
      · have hbe : Tt.before p.Runs[k - 1] p.Runs[k] = true := by
          simp at h
          simp [Tt.before]; omega
        (repeat first | with_reducible first | refine jq ?_ | refine jk ?_ | refine jc ?_ | refine jl ?_ | refine jb ?_ | refine jo ?_ | refine ji ?_ | refine jx rfl ?_ | refine And.intro (by first | assumption | omega | (intros; omega)) ?_ | ((first | refine jR KL53 (by kernel_rfl) fun _ => ?_ | skip); simp only [KS, Nat.reduceAdd, Nat.reduceMul, Nat.reduceEqDiff, ↓reduceIte, forall_const, Int.cast_ofNat_Int, Int.reduceToNat, TF53, KL53, List.take_succ_cons, List.take_zero, List.drop_succ_cons, List.drop_zero]; (try simp (disch := omega) only [wrapI, tmodI, tdivI]); (fail_if_success (with_reducible show False))))
        refine Run_lp ⟨k + 1, ?_, ⟨by omega, fun j hj1 hj2 hj3 => ?_, y6⟩, by omega⟩
        · simp [SubB, fnd, strike, has]
        · by_cases e : j = k
          · subst e; rw [ha, hb]; exact hbe
          · exact hf j hj1 (by omega) hj3
    · refine SemW_allocT ti51 fun p3 w3 h3 => ⟨h3.ext, SemW_allocT ti51 fun p4 w4 h4 => ⟨h3.ext.trans h4.ext, ?_⟩⟩
      have b3 := h3.blk
      have b4 := h4.blk
      have z3 := h3.size
      have z4 := h4.size
      refine SemW_setW (by rw [cells51]; decide) (by rw [cells51]; rfl) (h4.row.ext (Ext.refl _)) (by rw [cells51]; rfl) rfl fun w5 r5 k5 z5 => ?_
      have x5 : Ext w2 w5 := Keep.ext (h3.ext.trans h4.ext) k5 fun q hq => by omega
      refine ⟨x5, SemW_setW (by rw [cells51]; decide) (by rw [cells51]; rfl) ((h3.row.ext h4.ext).keep k5 (by omega)) (by rw [cells51]; rfl) rfl fun w6 r6 k6 z6 => ?_⟩
      have x6 : Ext w2 w6 := Keep.ext x5 k6 fun q hq => by omega
      refine ⟨x6, ?_⟩
      have ra : Row w6 p4 51 p.Runs[k - 1].cs := r5.keep k6 (by omega)
      have rb : Row w6 p3 51 p.Runs[k].cs := r6
      have y6 := x1.trans (x2.trans x6)
      have qa := ra.n
      have qb := rb.n
      simp only [RunD.cs, AtN, KS, Nat.reduceAdd, Nat.reduceMul, Nat.reduceEqDiff, ↓reduceIte, UT] at qa qb
      (repeat first | with_reducible first | refine jq ?_ | refine jk ?_ | refine jc ?_ | refine jl ?_ | refine jb ?_ | refine jo ?_ | refine ji ?_ | refine jx rfl ?_ | refine And.intro (by first | assumption | omega | (intros; omega)) ?_ | ((first | refine jR KL53 (by kernel_rfl) fun _ => ?_ | skip); simp only [KS, Nat.reduceAdd, Nat.reduceMul, Nat.reduceEqDiff, ↓reduceIte, forall_const, Int.cast_ofNat_Int, Int.reduceToNat, TF53, KL53, List.take_succ_cons, List.take_zero, List.drop_succ_cons, List.drop_zero, qa, qb]; (try simp (disch := omega) only [wrapI, tmodI, tdivI]); (fail_if_success (with_reducible show False))))
      refine Run_condS (fun _ => rfl) (fun h => ?_) (fun h => ?_)
      · (repeat first | with_reducible first | refine jq ?_ | refine jk ?_ | refine jc ?_ | refine jl ?_ | refine jb ?_ | refine jo ?_ | refine ji ?_ | refine jx rfl ?_ | refine And.intro (by first | assumption | omega | (intros; omega)) ?_ | ((first | refine jR KL53 (by kernel_rfl) fun _ => ?_ | skip); simp only [KS, Nat.reduceAdd, Nat.reduceMul, Nat.reduceEqDiff, ↓reduceIte, forall_const, Int.cast_ofNat_Int, Int.reduceToNat, TF53, KL53, List.take_succ_cons, List.take_zero, List.drop_succ_cons, List.drop_zero]; (try simp (disch := omega) only [wrapI, tmodI, tdivI]); (fail_if_success (with_reducible show False))))
        refine Run_ret ?_
        have : Fd.ordOk p.Runs = false := by
          cases ho : Fd.ordOk p.Runs with
          | false => rfl
          | true =>
            have := ord_iff.1 ho k hk hkl
            rw [ha, hb] at this
            simp [Tt.before] at this
            simp at h
            omega
        simp [Rets, RetM, resV, fnd, oneOr, this, y6]
      · have hbe : Tt.before p.Runs[k - 1] p.Runs[k] = true := by
          simp at h
          simp [Tt.before]; omega
        (repeat first | with_reducible first | refine jq ?_ | refine jk ?_ | refine jc ?_ | refine jl ?_ | refine jb ?_ | refine jo ?_ | refine ji ?_ | refine jx rfl ?_ | refine And.intro (by first | assumption | omega | (intros; omega)) ?_ | ((first | refine jR KL53 (by kernel_rfl) fun _ => ?_ | skip); simp only [KS, Nat.reduceAdd, Nat.reduceMul, Nat.reduceEqDiff, ↓reduceIte, forall_const, Int.cast_ofNat_Int, Int.reduceToNat, TF53, KL53, List.take_succ_cons, List.take_zero, List.drop_succ_cons, List.drop_zero]; (try simp (disch := omega) only [wrapI, tmodI, tdivI]); (fail_if_success (with_reducible show False))))
        refine Run_lp ⟨k + 1, ?_, ⟨by omega, fun j hj1 hj2 hj3 => ?_, y6⟩, by omega⟩
        · simp [SubB, fnd, strike, has]
        · by_cases e : j = k
          · subst e; rw [ha, hb]; exact hbe
          · exact hf j hj1 (by omega) hj3
  · simp at h
    (repeat first | with_reducible first | refine jq ?_ | refine jk ?_ | refine jc ?_ | refine jl ?_ | refine jb ?_ | refine jo ?_ | refine ji ?_ | refine jx rfl ?_ | refine And.intro (by first | assumption | omega | (intros; omega)) ?_ | ((first | refine jR KL53 (by kernel_rfl) fun _ => ?_ | skip); simp only [KS, Nat.reduceAdd, Nat.reduceMul, Nat.reduceEqDiff, ↓reduceIte, forall_const, Int.cast_ofNat_Int, Int.reduceToNat, TF53, KL53, List.take_succ_cons, List.take_zero, List.drop_succ_cons, List.drop_zero]; (try simp (disch := omega) only [wrapI, tmodI, tdivI]); (fail_if_success (with_reducible show False))))
    refine Run_ret ?_
    have : Fd.ordOk p.Runs = true := ord_iff.2 fun j h1 h2 => hf j h1 (by omega) h2
    simp [Rets, RetM, resV, fnd, oneOr, this, x1]
end Go.Proofs.Ytcncbmdkifdggaa
