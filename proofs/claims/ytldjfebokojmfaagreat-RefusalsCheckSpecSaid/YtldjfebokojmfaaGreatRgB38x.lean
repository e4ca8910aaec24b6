import Derived.Test.YtldjfebokojmfaaGreatRgFacts
import Derived.Test.YtldjfebokojmfaaGreatRgGp
namespace Go.Proofs.YtldjfebokojmfaaGreat
open Go Go.Fk
set_option linter.unusedSimpArgs false
set_option linter.unusedVariables false
set_option maxRecDepth 100000
structure Raw where
  v : Value
instance : Enc Raw where
  n := 1
  rep _ cs x := cs = [x.v]
  len _ _ _ h := by rw [h]; rfl
  ext _ _ _ _ _ h := h
theorem slRaw {w : World} {v : Value} {xs : List Raw} (h : Sl w v xs) {i : Nat} (hi : i < xs.length) : mem w ((slAt v).add i) = xs[i].v ∧ has1 w ((slAt v).add i) := by
  obtain ⟨cs, rfl, ha⟩ := h.at_ i hi
  have h1 := ha.mem (j := 0) (by simp)
  have h2 := ha.has (j := 0) (by simp)
  rw [add_zero, show i * Enc.n Raw = i from Nat.mul_one i] at h1 h2
  exact ⟨h1, h2⟩
def Pred (P : Program) (f : Value) (args : List Value) (w : World) (b : Bool) : Prop := ∀ w1, Ext w w1 → CallW P f args w1 fun v w2 => v = .bool b ∧ Ext w1 w2
def anyN (n : Nat) (p : Nat → Bool) : Bool := (List.range n).any p
theorem anyN_false {n : Nat} {p : Nat → Bool} (h : ∀ k, k < n → p k = false) : anyN n p = false := by
  unfold anyN; rw [List.any_eq_false]; intro k hk; rw [h k (by simpa using hk)]; simp
theorem anyN_true {n k : Nat} {p : Nat → Bool} (hk : k < n) (h : p k = true) : anyN n p = true := by
  unfold anyN; rw [List.any_eq_true]; exact ⟨k, by simpa using hk, h⟩
section
variable (m : MoveD)
end
abbrev fnv (k : Nat) : Value := .func (.func k) #[] #[]
theorem Pred_fn {g : FuncId} {args : List Value} {w : World} {b : Bool} (hc : callable Tryz.prog g = true) (h : ∀ w, Calls Tryz.prog g args.toArray w fun e w' => e = .returned (.bool b) ∧ Ext w w') : Pred Tryz.prog (fnv g) args w b :=
  fun w1 _ => CallW_pure hc (h w1) fun w2 x2 => ⟨rfl, x2⟩
theorem CallW_cap {g : FuncId} {args cap : List Value} {w : World} {K : Value → World → Prop} {v : Value} (hc : callable Tryz.prog g = true) (h : Calls Tryz.prog g (args ++ cap).toArray w fun e w' => e = .returned v ∧ Ext w w') (hK : ∀ w', Ext w w' → K v w') :
    CallW Tryz.prog (.func (.func g) #[] cap.toArray) args w K := by
  refine ⟨hc, ?_⟩
  have e : (#[] ++ args.toArray ++ cap.toArray : Array Value) = (args ++ cap).toArray := by simp
  rw [e]
  exact h.mono fun e w' ⟨he, hw⟩ => ⟨v, he, hK w' hw⟩
theorem idxInt (vs fv : Value) (xs : List Int) (p : Nat → Bool) (w : World) (hs : Sl w vs xs) (hp : ∀ k (hk : k < xs.length), Pred Tryz.prog fv [.int .i64 xs[k]] w (p k)) :
    Calls Tryz.prog 146 #[vs, fv] w fun e w' => ∃ r, e = .returned (.int .i64 r) ∧ Ext w w' ∧ decide (0 ≤ r) = anyN xs.length p := by
  have hn := hs.small
  refine Calls_of_Run (args := [vs, fv]) (n := 19) (rs := [.tmp 4]) Tryz.func146 rfl rfl rfl (by simp) ?_
  (repeat with_reducible first | refine jy ?_ | refine jw KL146 [] (aa TF146 (aa hs.s hs.len)) fun _ => ?_)
  refine Run_loopV [4, 5, 8, 9, 16] (σ := Nat) (fun k => [(8, some (.int .i64 k))]) (fun k w' => k ≤ xs.length ∧ (∀ j, j < k → p j = false) ∧ Ext w w') (fun k => xs.length - k) 0 (by simp [SubB, fnd]) ⟨by omega, by simp, Ext.refl _⟩ ?_
  rintro k w1 ⟨hk, hf, x1⟩
  (repeat with_reducible first | refine jy ?_ | refine jw KL146 [] TF146 fun _ => ?_)
  refine Run_condS (fun _ => rfl) (fun h => ?_) (fun h => ?_)
  · simp at h
    obtain ⟨f1, f2, f3⟩ := (hs.ext x1).get h
    (repeat with_reducible first | refine jy ?_ | refine jw KL146 [] (aa TF146 (aa hs.s (aa hs.len (aa f1 f2)))) fun _ => ?_)
    refine (hp k h w1 x1).mono fun v w2 ⟨hv, x2⟩ => ?_
    subst hv
    (repeat with_reducible first | refine jy ?_ | refine jw KL146 [] TF146 fun _ => ?_)
    refine Run_condS (fun _ => rfl) (fun h => ?_) (fun h => ?_)
    · (repeat with_reducible first | refine jy ?_ | refine jw KL146 [] TF146 fun _ => ?_)
      refine Run_ret ?_
      simp [Rets, RetM, resV, fnd, oneOr, anyN_true (by assumption) (by assumption : p k = true)]
      exact x1.trans x2
    · (repeat with_reducible first | refine jy ?_ | refine jw KL146 [] TF146 fun _ => ?_)
      refine Run_lp ⟨k + 1, ?_, ⟨by omega, fun j hj => ?_, x1.trans x2⟩, by omega⟩
      · simp [SubB, fnd, strike, has]
      · by_cases e : j = k
        · subst e; assumption
        · exact hf j (by omega)
  · simp at h
    obtain rfl : k = xs.length := by omega
    (repeat with_reducible first | refine jy ?_ | refine jw KL146 [] TF146 fun _ => ?_)
    refine Run_ret ?_
    simp [Rets, RetM, resV, fnd, oneOr, anyN_false hf, x1]
theorem hasInt (vs fv : Value) (xs : List Int) (p : Nat → Bool) (w : World) (hs : Sl w vs xs) (hp : ∀ k (hk : k < xs.length), Pred Tryz.prog fv [.int .i64 xs[k]] w (p k)) :
    Calls Tryz.prog 122 #[vs, fv] w fun e w' => e = .returned (.bool (anyN xs.length p)) ∧ Ext w w' := by
  refine Calls_of_Run (args := [vs, fv]) (n := 9) (rs := [.tmp 4]) Tryz.func122 rfl rfl rfl (by simp) ?_
  (repeat with_reducible first | refine jy ?_ | refine jw KL122 [] TF122 fun _ => ?_)
  refine CallW_gen call146 (idxInt vs fv xs p w hs hp) fun e w1 ⟨r, he, x1, hr⟩ => ⟨_, he, ?_⟩
  (repeat with_reducible first | refine jy ?_ | refine jw KL122 [] TF122 fun _ => ?_)
  refine Run_ret ?_
  simp [Rets, RetM, resV, fnd, oneOr, x1]
  simpa using hr
theorem anyN_list {xs : List Int} {q : Int → Bool} {p : Nat → Bool} (h : ∀ k (hk : k < xs.length), p k = q xs[k]) : anyN xs.length p = xs.any q := by
  rw [Bool.eq_iff_iff]
  simp only [anyN, List.any_eq_true, List.mem_range]
  constructor
  · rintro ⟨k, hk, hp⟩; exact ⟨xs[k], List.getElem_mem hk, by rw [← h k hk]; exact hp⟩
  · rintro ⟨x, hx, hq⟩
    obtain ⟨k, hk, rfl⟩ := List.getElem_of_mem hx
    exact ⟨k, hk, by rw [h k hk]; exact hq⟩
def items (s : List Int) (l : List MoveD) : List (List Value) := (List.range l.length).map fun (k : Nat) => [.int .i64 (k : Int), .agg (ints (Bk.after s (l.take (k + 1)))).toArray]
theorem row1 {w : World} {p : Addr} {t : TypeId} {v : Value} (h : Row w p t [v]) : mem w p = v ∧ has1 w p := by
  have := h.n
  simp only [AtN, add_zero] at this
  exact ⟨this.2.1, this.1⟩
end Go.Proofs.YtldjfebokojmfaaGreat
