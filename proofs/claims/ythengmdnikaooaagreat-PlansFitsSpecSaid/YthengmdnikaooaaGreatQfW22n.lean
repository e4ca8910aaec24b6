import Derived.Test.YthengmdnikaooaaGreatQfW22f
import Derived.Test.YthengmdnikaooaaGreatQfP22e
import Derived.Test.YthengmdnikaooaaGreatQfCl
import Derived.Test.YthengmdnikaooaaGreatQfGb
import Derived.Test.YthengmdnikaooaaGreatQfAn
namespace Go.Proofs.YthengmdnikaooaaGreat
open Go Go.Fk
set_option linter.unusedSimpArgs false
set_option linter.unusedVariables false
set_option maxRecDepth 100000
theorem clnRuns (v : Value) (xs : List RunD) (w : World) (hx : Sl w v xs) (hn : xs.length ≤ 1000000) :
    Calls Tryz.prog 42 #[v] w fun e w' => ∃ v', e = .returned v' ∧ BufL (α := RunD) 32 w w' v' xs := by
  have hs := hx.s
  refine Calls_of_Run (args := [v]) (n := 8) (rs := [.tmp 2]) Tryz.func42 rfl rfl rfl (by simp) ?_
  rcases hs.ex with rfl | ⟨a, n, c, rfl⟩
  · have : xs = [] := List.eq_nil_of_length_eq_zero (by have := hx.len; simpa using this.symm)
    subst this
    (repeat with_reducible first | refine js ?_ | refine ja ?_ | refine jw KL42 [] (aa TF42 KX) fun _ => ?_)
    refine Run_condS (fun _ => rfl) (fun _ => ?_) (fun h => by cases h)
    (repeat with_reducible first | refine js ?_ | refine ja ?_ | refine jw KL42 [] TF42 fun _ => ?_)
    refine Run_ret ?_
    simp [Rets, RetM, resV, fnd, oneOr]
    exact BufL.nil (Ext.refl _)
  · (repeat with_reducible first | refine js ?_ | refine ja ?_ | refine jw KL42 [] (aa TF42 KX) fun _ => ?_)
    refine Run_condS (fun _ => rfl) (fun h => by cases h) (fun _ => ?_)
    (repeat with_reducible first | refine js ?_ | refine ja ?_ | refine jw KL42 [] TF42 fun _ => ?_)
    refine SemW_buildF (α := RunD) (W := w) Tryz.underlying39 ti32 rfl (by decide) (Ext.refl _) [] [] rfl rfl (Cs.nil _) (by decide) fun p0 w1 b1 _ x1 => ?_
    refine SemW_appendF (α := RunD) Tryz.underlying39 ti32 rfl (by decide) b1 (hx.ext x1) (by simp only [maxLen, List.length_nil]; omega) fun v' w2 b2 _ x2 => ?_
    (repeat with_reducible first | refine js ?_ | refine ja ?_ | refine jw KL42 [] TF42 fun _ => ?_)
    refine Run_ret ?_
    simp [Rets, RetM, resV, fnd, oneOr]
    simpa using b2
def fstR (p : RunD → Bool) : List RunD → Nat → Int
  | [], _ => -1
  | r :: l, k => if p r then (k : Int) else fstR p l (k + 1)
theorem fstR_drop {p : RunD → Bool} {l : List RunD} {k : Nat} (h : k < l.length) : fstR p (l.drop k) k = if p l[k] then (k : Int) else fstR p (l.drop (k + 1)) (k + 1) := by
  rw [List.drop_eq_getElem_cons h]; rfl
set_option maxHeartbeats 1000000 in
theorem idxFR (v fv : Value) (xs : List RunD) (p : RunD → Bool) (w : World) (hx : Sl w v xs) (hp : ∀ r ∈ xs, ∀ w', Ext w w' → ∀ K : Value → World → Prop, (∀ w'', Ext w' w'' → K (.bool (p r)) w'') → CallW Tryz.prog fv [.agg r.cs.toArray] w' K) :
    Calls Tryz.prog 79 #[v, fv] w fun e w' => e = .returned (.int .i64 (fstR p xs 0)) ∧ Ext w w' := by
  have hs := hx.s
  have hl := hx.len
  have hsm := hx.small
  refine Calls_of_Run (args := [v, fv]) (n := 19) (rs := [.tmp 4]) Tryz.func79 rfl rfl rfl (by simp) ?_
  (repeat with_reducible first | refine js ?_ | refine ja ?_ | refine jw KL79 [] (aa TF79 (aa hs hl)) fun _ => ?_)
  refine Run_loopV [4, 5, 8, 9, 16] (σ := Nat) (fun k => [(8, some (.int .i64 k)), (4, some (.int .i64 0))]) (fun k w' => k ≤ xs.length ∧ fstR p (xs.drop k) k = fstR p xs 0 ∧ Ext w w') (fun k => xs.length - k) 0 (by simp [SubB, fnd]) ⟨by omega, rfl, Ext.refl _⟩ ?_
  rintro k w1 ⟨hk, hf, x1⟩
  (repeat with_reducible first | refine js ?_ | refine ja ?_ | refine jw KL79 [] TF79 fun _ => ?_)
  refine Run_condS (fun _ => rfl) (fun h => ?_) (fun h => ?_)
  · simp at h
    have hkl : k < xs.length := by omega
    have hkc : (k : Int) < xs.length := by omega
    clear h
    obtain ⟨r1, r2⟩ := (hx.ext x1).runD hkl
    rw [fstR_drop hkl] at hf
    have hpk := hp _ (List.getElem_mem hkl) w1 x1
    generalize xs[k] = r at *
    simp only [RunD.cs, AtN, KS, Nat.reduceAdd, Nat.reduceMul, Nat.reduceEqDiff, ↓reduceIte, UT] at r1
    (repeat with_reducible first | refine js ?_ | refine ja ?_ | refine jw KL79 [] (aa TF79 (aa hs (aa hl r1))) fun _ => ?_)
    refine hpk _ fun w2 x2 => ?_
    (repeat with_reducible first | refine js ?_ | refine ja ?_ | refine jw KL79 [] TF79 fun _ => ?_)
    refine Run_condS (fun _ => rfl) (fun h => ?_) (fun h => ?_)
    · rw [if_pos h] at hf
      (repeat with_reducible first | refine js ?_ | refine ja ?_ | refine jw KL79 [] TF79 fun _ => ?_)
      refine Run_ret ?_
      simp [Rets, RetM, resV, fnd, oneOr, hf]
      exact x1.trans x2
    · rw [if_neg (by simp [h])] at hf
      (repeat with_reducible first | refine js ?_ | refine ja ?_ | refine jw KL79 [] TF79 fun _ => ?_)
      exact Run_lp ⟨k + 1, by simp [SubB, fnd, strike, has], ⟨by omega, hf, x1.trans x2⟩, by omega⟩
  · simp at h
    obtain rfl : k = xs.length := by omega
    rw [List.drop_length] at hf
    (repeat with_reducible first | refine js ?_ | refine ja ?_ | refine jw KL79 [] TF79 fun _ => ?_)
    refine Run_ret ?_
    simp [Rets, RetM, resV, fnd, oneOr, ← hf, fstR, x1]
structure DelI (p : RunD → Bool) (xs ys : List RunD) (i j : Nat) : Prop where
  n : ys.length = xs.length
  ij : i ≤ j ∧ j ≤ xs.length
  k : ys.take i = (xs.take j).filter fun r => !p r
  r : ∀ m, j ≤ m → m < xs.length → ys[m]? = xs[m]?
theorem DelI.skip {p : RunD → Bool} {xs ys : List RunD} {i j : Nat} (h : DelI p xs ys i j) (hj : j < xs.length) (hp : p xs[j] = true) : DelI p xs ys i (j + 1) := by
  refine ⟨h.n, ⟨by have := h.ij; omega, hj⟩, ?_, fun m h1 h2 => h.r m (by omega) h2⟩
  rw [List.take_add_one, List.getElem?_eq_getElem hj, List.filter_append, h.k]
  simp [hp]
theorem DelI.put {p : RunD → Bool} {xs ys : List RunD} {i j : Nat} (h : DelI p xs ys i j) (hj : j < xs.length) (hp : p xs[j] = false) : DelI p xs (ys.set i xs[j]) (i + 1) (j + 1) := by
  have hi := h.ij
  have hn := h.n
  refine ⟨by rw [List.length_set]; exact hn, ⟨by omega, hj⟩, ?_, fun m h1 h2 => ?_⟩
  · rw [List.take_add_one, List.take_set_of_le (Nat.le_refl i), List.getElem?_set_self (by omega), h.k, List.take_add_one, List.getElem?_eq_getElem hj, List.filter_append]
    simp [hp]
  · rw [List.getElem?_set_ne (by omega)]
    exact h.r m (by omega) h2
end Go.Proofs.YthengmdnikaooaaGreat
