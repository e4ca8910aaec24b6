/- B38a, B38b, B38c, B38d, B38e, joined. -/
import Derived.Test.YtpiijpgfgcbfaaaFacts
import Derived.Test.YtpiijpgfgcbfaaaP38
/- Books (chapter 38), for other seats: what must hold for a move; Check; the reference's Check. -/
namespace Go.Proofs.Ytpiijpgfgcbfaaa
open Go Go.Fk
set_option linter.unusedSimpArgs false
set_option linter.unusedVariables false
set_option maxRecDepth 100000

/-- values as they are -/
structure Raw where
  v : Value
instance : Enc Raw where
  n := 1
  rep _ cs x := cs = [x.v]
  len _ _ _ h := by rw [h]; rfl
  ext _ _ _ _ _ h := h
theorem slRaw {w : World} {v : Value} {xs : List Raw} (h : Sl w v xs) {i : Nat} (hi : i < xs.length) : mem w ((slAt v).add i) = xs[i].v ∧ has1 w ((slAt v).add i) := by
  obtain ⟨cs, rfl, ha⟩ := h.at_ i hi
  have h1 := ha.mem (j := 0) (by simp)
  have h2 := ha.has (j := 0) (by simp)
  rw [add_zero, show i * Enc.n Raw = i from Nat.mul_one i] at h1 h2
  exact ⟨h1, h2⟩
/-- a function that answers a bool and leaves what was -/
def Pred (P : Program) (f : Value) (args : List Value) (w : World) (b : Bool) : Prop := ∀ w1, Ext w w1 → CallW P f args w1 fun v w2 => v = .bool b ∧ Ext w1 w2
def anyN (n : Nat) (p : Nat → Bool) : Bool := (List.range n).any p
theorem anyN_false {n : Nat} {p : Nat → Bool} (h : ∀ k, k < n → p k = false) : anyN n p = false := by
  unfold anyN; rw [List.any_eq_false]; intro k hk; rw [h k (by simpa using hk)]; simp
theorem anyN_true {n k : Nat} {p : Nat → Bool} (hk : k < n) (h : p k = true) : anyN n p = true := by
  unfold anyN; rw [List.any_eq_true]; exact ⟨k, by simpa using hk, h⟩

section
variable (m : MoveD)
def cond1 : Bool := decide (0 ≤ m.From ∧ m.From ≤ 114) && decide (0 ≤ m.To ∧ m.To ≤ 114)
def cond2 : Bool := m.From != m.To
def cond3 : Bool := decide (0 ≤ m.Amount ∧ m.Amount ≤ 1099511627776)
def cond4 : Bool := decide (1 ≤ m.Why ∧ m.Why ≤ 9)
def cond5 : Bool := decide (-1 ≤ m.Run ∧ m.Run ≤ 1999)
end
abbrev fnv (k : Nat) : Value := .func (.func k) #[] #[]
end Go.Proofs.Ytpiijpgfgcbfaaa

/- Books (chapter 38), for other seats: the two Checks; Start. -/
namespace Go.Proofs.Ytpiijpgfgcbfaaa
open Go Go.Fk
set_option linter.unusedSimpArgs false
set_option linter.unusedVariables false
set_option maxRecDepth 100000

theorem CallW_fnv {g : FuncId} {args : List Value} {w : World} {K : Value → World → Prop} {v : Value} (hc : callable Try.prog g = true) (h : Calls Try.prog g args.toArray w fun e w' => e = .returned v ∧ Ext w w') (hK : ∀ w', Ext w w' → K v w') : CallW Try.prog (fnv g) args w K := CallW_pure hc h hK
theorem Pred_fn {g : FuncId} {args : List Value} {w : World} {b : Bool} (hc : callable Try.prog g = true) (h : ∀ w, Calls Try.prog g args.toArray w fun e w' => e = .returned (.bool b) ∧ Ext w w') : Pred Try.prog (fnv g) args w b :=
  fun w1 _ => CallW_pure hc (h w1) fun w2 x2 => ⟨rfl, x2⟩
/-- a function that has captured values -/
theorem CallW_cap {g : FuncId} {args cap : List Value} {w : World} {K : Value → World → Prop} {v : Value} (hc : callable Try.prog g = true) (h : Calls Try.prog g (args ++ cap).toArray w fun e w' => e = .returned v ∧ Ext w w') (hK : ∀ w', Ext w w' → K v w') :
    CallW Try.prog (.func (.func g) #[] cap.toArray) args w K := by
  refine ⟨hc, ?_⟩
  have e : (#[] ++ args.toArray ++ cap.toArray : Array Value) = (args ++ cap).toArray := by simp
  rw [e]
  exact h.mono fun e w' ⟨he, hw⟩ => ⟨v, he, hK w' hw⟩

def condN (m : MoveD) : Nat → Bool
  | 0 => cond1 m
  | 1 => cond2 m
  | 2 => cond3 m
  | 3 => cond4 m
  | _ => cond5 m
theorem mOk_eq (m : MoveD) (i : Int) : Bk.mOk m i = (decide (m.No = i) && !anyN 5 (fun k => !condN m k)) := by
  have : anyN 5 (fun k => !condN m k) = (!cond1 m || (!cond2 m || (!cond3 m || (!cond4 m || !cond5 m)))) := by simp [anyN, List.range, List.range.loop, condN]
  rw [this, Bool.eq_iff_iff]
  simp [Bk.mOk, cond1, cond2, cond3, cond4, cond5]
  omega
end Go.Proofs.Ytpiijpgfgcbfaaa

/- Books (chapter 38), for other seats: open, paid, the function that yields balances. -/
namespace Go.Proofs.Ytpiijpgfgcbfaaa
open Go Go.Fk
set_option linter.unusedSimpArgs false
set_option linter.unusedVariables false
set_option maxRecDepth 100000

theorem idxInt (vs fv : Value) (xs : List Int) (p : Nat → Bool) (w : World) (hs : Sl w vs xs) (hp : ∀ k (hk : k < xs.length), Pred Try.prog fv [.int .i64 xs[k]] w (p k)) :
    Calls Try.prog 75 #[vs, fv] w fun e w' => ∃ r, e = .returned (.int .i64 r) ∧ Ext w w' ∧ decide (0 ≤ r) = anyN xs.length p := by
  have hn := hs.small
  refine Calls_of_Run (args := [vs, fv]) (n := 19) (rs := [.tmp 4]) Try.func75 rfl rfl rfl (by simp) ?_
  (repeat with_reducible first | refine js ?_ | refine ja ?_ | refine jw KL75 [] (aa TF75 (aa hs.s hs.len)) fun _ => ?_)
  refine Run_loopV [4, 5, 8, 9, 16] (σ := Nat) (fun k => [(8, some (.int .i64 k))]) (fun k w' => k ≤ xs.length ∧ (∀ j, j < k → p j = false) ∧ Ext w w') (fun k => xs.length - k) 0 (by simp [SubB, fnd]) ⟨by omega, by simp, Ext.refl _⟩ ?_
  rintro k w1 ⟨hk, hf, x1⟩
  (repeat with_reducible first | refine js ?_ | refine ja ?_ | refine jw KL75 [] TF75 fun _ => ?_)
  refine Run_condS (fun _ => rfl) (fun h => ?_) (fun h => ?_)
  · simp at h
    obtain ⟨f1, f2, f3⟩ := (hs.ext x1).get h
    (repeat with_reducible first | refine js ?_ | refine ja ?_ | refine jw KL75 [] (aa TF75 (aa hs.s (aa hs.len (aa f1 f2)))) fun _ => ?_)
    refine (hp k h w1 x1).mono fun v w2 ⟨hv, x2⟩ => ?_
    subst hv
    (repeat with_reducible first | refine js ?_ | refine ja ?_ | refine jw KL75 [] TF75 fun _ => ?_)
    refine Run_condS (fun _ => rfl) (fun h => ?_) (fun h => ?_)
    · (repeat with_reducible first | refine js ?_ | refine ja ?_ | refine jw KL75 [] TF75 fun _ => ?_)
      refine Run_ret ?_
      simp [Rets, RetM, resV, fnd, oneOr, anyN_true (by assumption) (by assumption : p k = true)]
      exact x1.trans x2
    · (repeat with_reducible first | refine js ?_ | refine ja ?_ | refine jw KL75 [] TF75 fun _ => ?_)
      refine Run_lp ⟨k + 1, ?_, ⟨by omega, fun j hj => ?_, x1.trans x2⟩, by omega⟩
      · simp [SubB, fnd, strike, has]
      · by_cases e : j = k
        · subst e; assumption
        · exact hf j (by omega)
  · simp at h
    obtain rfl : k = xs.length := by omega
    (repeat with_reducible first | refine js ?_ | refine ja ?_ | refine jw KL75 [] TF75 fun _ => ?_)
    refine Run_ret ?_
    simp [Rets, RetM, resV, fnd, oneOr, anyN_false hf, x1]
theorem hasInt (vs fv : Value) (xs : List Int) (p : Nat → Bool) (w : World) (hs : Sl w vs xs) (hp : ∀ k (hk : k < xs.length), Pred Try.prog fv [.int .i64 xs[k]] w (p k)) :
    Calls Try.prog 68 #[vs, fv] w fun e w' => e = .returned (.bool (anyN xs.length p)) ∧ Ext w w' := by
  refine Calls_of_Run (args := [vs, fv]) (n := 9) (rs := [.tmp 4]) Try.func68 rfl rfl rfl (by simp) ?_
  (repeat with_reducible first | refine js ?_ | refine ja ?_ | refine jw KL68 [] TF68 fun _ => ?_)
  refine CallW_gen call75 (idxInt vs fv xs p w hs hp) fun e w1 ⟨r, he, x1, hr⟩ => ⟨_, he, ?_⟩
  (repeat with_reducible first | refine js ?_ | refine ja ?_ | refine jw KL68 [] TF68 fun _ => ?_)
  refine Run_ret ?_
  simp [Rets, RetM, resV, fnd, oneOr, x1]
  simpa using hr
theorem anyN_list {xs : List Int} {q : Int → Bool} {p : Nat → Bool} (h : ∀ k (hk : k < xs.length), p k = q xs[k]) : anyN xs.length p = xs.any q := by
  rw [Bool.eq_iff_iff]
  simp only [anyN, List.any_eq_true, List.mem_range]
  constructor
  · rintro ⟨k, hk, hp⟩; exact ⟨xs[k], List.getElem_mem hk, by rw [← h k hk]; exact hp⟩
  · rintro ⟨x, hx, hq⟩
    obtain ⟨k, hk, rfl⟩ := List.getElem_of_mem hx
    exact ⟨k, hk, by rw [h k hk]; exact hq⟩
def zeros : List Int := List.replicate 115 0
theorem one_ints (l : List Int) : (ints l).all Value.oneCell' = true := by
  induction l with
  | nil => rfl
  | cons x l ih => simp [Value.oneCell']
end Go.Proofs.Ytpiijpgfgcbfaaa

/- Books (chapter 38), for other seats: paid; the function that yields balances. -/
namespace Go.Proofs.Ytpiijpgfgcbfaaa
open Go Go.Fk
set_option linter.unusedSimpArgs false
set_option linter.unusedVariables false
set_option maxRecDepth 100000

theorem lo_get {b : List Int} {k : Int} (h0 : 0 ≤ k) (h : k.toNat < b.length) : b[k.toNat] = Bk.lo b k := by simp [Bk.lo, List.getD_eq_getElem?_getD, h]
def items (s : List Int) (l : List MoveD) : List (List Value) := (List.range l.length).map fun (k : Nat) => [.int .i64 (k : Int), .agg (ints (Bk.after s (l.take (k + 1)))).toArray]
theorem items_len (s : List Int) (l : List MoveD) : (items s l).length = l.length := by simp [items]
theorem items_get {s : List Int} {l : List MoveD} {k : Nat} (h : k < (items s l).length) : (items s l)[k] = [.int .i64 (k : Int), .agg (ints (Bk.after s (l.take (k + 1)))).toArray] := by simp [items]

theorem setLo {b : List Int} (hb : b.length = 115) {k : Int} (x : Int) : (ints b).set k.toNat (.int .i64 x) = ints (b.set k.toNat x) := ints_set b _ x

end Go.Proofs.Ytpiijpgfgcbfaaa

/- Books (chapter 38), for other seats: Balances and First. -/
namespace Go.Proofs.Ytpiijpgfgcbfaaa
open Go Go.Fk
set_option linter.unusedSimpArgs false
set_option linter.unusedVariables false
set_option maxRecDepth 100000

theorem bad_prefix {s : List Int} {l : List MoveD} : ∀ (l : List MoveD) (b : List Int) (i : Nat), (∀ k (h : k < l.length), Bk.paid (Bk.after b (l.take (k + 1))) l[k] = true) → Bk.bad b i l = none
  | [], b, i, _ => rfl
  | m :: r, b, i, h => by
    unfold Bk.bad
    have h0 := h 0 (by simp)
    simp [Bk.after] at h0
    rw [if_pos h0]
    exact bad_prefix (s := s) (l := l) r (Bk.step b m) (i + 1) fun k hk => by
      have := h (k + 1) (by simpa using hk)
      simpa [Bk.after] using this
theorem bad_at : ∀ (l : List MoveD) (b : List Int) (i k : Nat) (hk : k < l.length), (∀ j (h : j < l.length), j < k → Bk.paid (Bk.after b (l.take (j + 1))) l[j] = true) → Bk.paid (Bk.after b (l.take (k + 1))) l[k] = false → Bk.bad b i l = some (i + k)
  | m :: r, b, i, 0, hk, _, hp => by
    unfold Bk.bad
    simp [Bk.after] at hp
    rw [if_neg (by simp [hp])]; rfl
  | m :: r, b, i, k + 1, hk, h, hp => by
    unfold Bk.bad
    have h0 := h 0 (by simp) (by omega)
    simp [Bk.after] at h0
    rw [if_pos h0, bad_at r (Bk.step b m) (i + 1) k (by simpa using hk) (fun j hj hjk => by
      have := h (j + 1) (by simpa using hj) (by omega)
      simpa [Bk.after] using this) (by simpa [Bk.after] using hp)]
    congr 1; omega

def BalRet (w : World) (r : List Int × Int) (e : Ending) (w' : World) : Prop := ∃ v, e = .returned (.tuple #[v, .int .i64 r.2]) ∧ Ext w w' ∧ Sl w' v r.1

theorem rowInts {w : World} {p : Addr} {t : TypeId} {xs : List Int} (h : Row w p t (ints xs)) (hI : ∀ x ∈ xs, I64 x) (hb : xs.length ≤ 140737488355328) : Sl w (.slice (some p) xs.length xs.length) xs := by
  have e : ∀ xs : List Int, ints xs = (xs.map fun x => [Value.int .i64 x]).flatten := fun xs => by
    induction xs with
    | nil => rfl
    | cons x xs ih => simpa using ih
  rw [e xs] at h
  exact h.sl ⟨by simp, fun i h1 h2 => by simpa using ⟨rfl, hI _ (List.getElem_mem h2)⟩⟩ hb
theorem row1 {w : World} {p : Addr} {t : TypeId} {v : Value} (h : Row w p t [v]) : mem w p = v ∧ has1 w p := by
  have := h.n
  simp only [AtN, add_zero] at this
  exact ⟨this.2.1, this.1⟩
theorem moveAt {va : Value} {l : List MoveD} {w : World} (h : Sl w va l) {i : Nat} (hi : i < l.length) : AtN w ((slAt va).add (i * 6)) 0 l[i].cs := (h.moveD hi).1

end Go.Proofs.Ytpiijpgfgcbfaaa
