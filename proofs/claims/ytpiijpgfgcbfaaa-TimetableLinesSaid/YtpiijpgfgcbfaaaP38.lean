/- Chapter 38: books, in plain Lean. No program in sight. -/
import Derived.Test.YtpiijpgfgcbfaaaApiM
namespace Go.Fk
open Go
namespace Bk
def mOk (m : MoveD) (i : Int) : Bool := decide (m.No = i ∧ 0 ≤ m.From ∧ m.From ≤ 114 ∧ 0 ≤ m.To ∧ m.To ≤ 114 ∧ m.From ≠ m.To ∧ 0 ≤ m.Amount ∧ m.Amount ≤ 1099511627776 ∧ 1 ≤ m.Why ∧ m.Why ≤ 9 ∧ -1 ≤ m.Run ∧ m.Run ≤ 1999)
def allOk : Int → List MoveD → Bool
  | _, [] => true
  | i, m :: r => mOk m i && allOk (i + 1) r
def chk (l : List MoveD) : Int := if 4096 < l.length then 2 else if allOk 0 l then 0 else 380
theorem allOk_drop {i : Int} {l : List MoveD} {k : Nat} (h : k < l.length) : allOk i (l.drop k) = (mOk l[k] i && allOk (i + 1) (l.drop (k + 1))) := by
  rw [List.drop_eq_getElem_cons h]; rfl
theorem allOk_get : ∀ {l : List MoveD} {i : Int} {k : Nat} (h : k < l.length), allOk i l = true → mOk l[k] (i + k) = true
  | m :: r, i, 0, h, ha => by simp only [allOk, Bool.and_eq_true] at ha; simpa using ha.1
  | m :: r, i, k + 1, h, ha => by
    simp only [allOk, Bool.and_eq_true] at ha
    have := allOk_get (l := r) (i := i + 1) (k := k) (by simpa using h) ha.2
    simp only [List.getElem_cons_succ]
    rw [show i + ((k + 1 : Nat) : Int) = i + 1 + k by omega]; exact this
def lo (b : List Int) (k : Int) : Int := b.getD k.toNat 0
def step (b : List Int) (m : MoveD) : List Int :=
  let b1 := b.set m.From.toNat (lo b m.From - m.Amount)
  b1.set m.To.toNat (lo b1 m.To + m.Amount)
def after (b : List Int) (l : List MoveD) : List Int := l.foldl step b
theorem step_len (b : List Int) (m : MoveD) : (step b m).length = b.length := by simp [step]
theorem after_len (l : List MoveD) : ∀ b, (after b l).length = b.length := by
  induction l with
  | nil => intro b; rfl
  | cons m l ih => intro b; show (after (step b m) l).length = _; rw [ih, step_len]
theorem after_take {l : List MoveD} {k : Nat} (h : k < l.length) (b : List Int) : after b (l.take (k + 1)) = step (after b (l.take k)) l[k] := by
  unfold after; rw [List.take_succ_eq_append_getElem h, List.foldl_append]; rfl
def startOk (s : List Int) : Bool := decide (s.length = 115) && s.all fun n => decide (0 ≤ n ∧ n ≤ 1125899906842624)
def paid (b : List Int) (m : MoveD) : Bool := decide (m.From = 0) || decide (0 ≤ lo b m.From)
/-- the first move that is not paid -/
def bad (b : List Int) : Nat → List MoveD → Option Nat
  | _, [] => none
  | i, m :: r => if paid (step b m) m then bad (step b m) (i + 1) r else some i
def wrong (s : List Int) (l : List MoveD) : Int := if chk l ≠ 0 then chk l else if startOk s then 0 else 1
def balances (s : List Int) (l : List MoveD) : List Int × Int :=
  if wrong s l ≠ 0 then ([], wrong s l) else match bad s 0 l with
    | some _ => ([], 381)
    | none => (after s l, 0)
def first (s : List Int) (l : List MoveD) : Int × Bool × Int :=
  if wrong s l ≠ 0 then (0, false, wrong s l) else match bad s 0 l with
    | some i => ((i : Int), true, 0)
    | none => (0, false, 0)

theorem lo_set {b : List Int} {i : Nat} {x : Int} {k : Int} (hk : 0 ≤ k) (hi : i < b.length) : lo (b.set i x) k = if k = i then x else lo b k := by
  unfold lo
  simp only [List.getD_eq_getElem?_getD, List.getElem?_set]
  by_cases h : i = k.toNat
  · subst h; simp [hi]; intro h; omega
  · rw [if_neg h, if_neg (by omega)]
/-- what a move does to an account -/
theorem lo_step {b : List Int} {m : MoveD} (hb : b.length = 115) {i : Int} (h : mOk m i = true) {k : Int} (hk : 0 ≤ k) : lo (step b m) k = lo b k - (if m.From = k then m.Amount else 0) + (if m.To = k then m.Amount else 0) := by
  simp only [mOk, decide_eq_true_eq] at h
  unfold step
  have e1 : (m.From.toNat : Int) = m.From := Int.toNat_of_nonneg (by omega)
  have e2 : (m.To.toNat : Int) = m.To := Int.toNat_of_nonneg (by omega)
  rw [lo_set hk (by simp; omega), lo_set hk (by omega), lo_set (by omega) (by omega), e1, e2]
  by_cases a : k = m.To
  · subst a
    rw [if_pos rfl, if_neg (show ¬ m.To = m.From by omega), if_neg (show ¬ m.From = m.To by omega), if_pos rfl]; omega
  · by_cases c : k = m.From
    · subst c; rw [if_neg a, if_pos rfl, if_pos rfl, if_neg (by omega)]; omega
    · rw [if_neg a, if_neg c, if_neg (by omega), if_neg (by omega)]; omega
/-- no account but the bank has less than nothing -/
def Pos (b : List Int) : Prop := ∀ k : Int, 0 < k → k < 115 → 0 ≤ lo b k
theorem pos_step {b : List Int} {m : MoveD} (hb : b.length = 115) {i : Int} (h : mOk m i = true) (hp : Pos b) : Pos (step b m) ↔ paid (step b m) m = true := by
  have h' := h
  simp only [mOk, decide_eq_true_eq] at h'
  unfold paid Pos
  simp only [Bool.or_eq_true, decide_eq_true_eq]
  constructor
  · intro hq
    by_cases h0 : m.From = 0
    · exact .inl h0
    · exact .inr (hq m.From (by omega) (by omega))
  · intro hq k k0 k1
    rw [lo_step hb h (by omega)]
    have := hp k k0 k1
    by_cases e : m.From = k
    · subst e
      rcases hq with hq | hq
      · omega
      · rwa [lo_step hb h (by omega)] at hq
    · rw [if_neg e]; split <;> omega
/-- no number grows too great -/
def Lim (b : List Int) (n : Nat) : Prop := ∀ k : Int, 0 ≤ k → -(1099511627776 * n : Int) ≤ lo b k ∧ lo b k ≤ 1125899906842624 + 1099511627776 * n
theorem lim_start {s : List Int} (h : startOk s = true) : Lim s 0 := by
  simp only [startOk, Bool.and_eq_true, decide_eq_true_eq, List.all_eq_true] at h
  intro k _
  unfold lo
  rw [List.getD_eq_getElem?_getD]
  cases hq : s[k.toNat]? with
  | none => simp
  | some x =>
    have := h.2 x (List.mem_of_getElem? hq)
    simp; omega
theorem lim_step {b : List Int} {m : MoveD} (hb : b.length = 115) {i : Int} (h : mOk m i = true) {n : Nat} (hl : Lim b n) : Lim (step b m) (n + 1) := by
  intro k hk
  have := hl k hk
  rw [lo_step hb h hk]
  simp only [mOk, decide_eq_true_eq] at h
  have e : (1099511627776 * ((n + 1 : Nat) : Int)) = 1099511627776 * n + 1099511627776 := by omega
  rw [e]
  repeat' split
  all_goals omega
theorem lim_after {s : List Int} {l : List MoveD} (hs : startOk s = true) (hl : allOk 0 l = true) : ∀ k, k ≤ l.length → Lim (after s (l.take k)) k ∧ (after s (l.take k)).length = 115 := by
  have h115 : s.length = 115 := by simp only [startOk, Bool.and_eq_true, decide_eq_true_eq] at hs; exact hs.1
  intro k
  induction k with
  | zero => intro _; exact ⟨by simpa [after] using lim_start hs, by simpa [after] using h115⟩
  | succ k ih =>
    intro hk
    obtain ⟨h1, h2⟩ := ih (by omega)
    rw [after_take (by omega)]
    have hm := allOk_get (k := k) (by omega) hl
    exact ⟨lim_step h2 hm h1, by rw [step_len]; exact h2⟩
theorem pos_start {s : List Int} (h : startOk s = true) : Pos s := fun k k0 k1 => by
  have := lim_start h k (by omega)
  simp only [startOk, Bool.and_eq_true, decide_eq_true_eq, List.all_eq_true] at h
  unfold lo
  rw [List.getD_eq_getElem?_getD]
  cases hq : s[k.toNat]? with
  | none => simp
  | some x => have := h.2 x (List.mem_of_getElem? hq); simp; omega
/-- the first move after which an account has less than nothing -/
theorem bad_none : ∀ (l : List MoveD) (b : List Int) (i : Nat) (j : Int), b.length = 115 → Pos b → allOk j l = true → (bad b i l = none ↔ ∀ k, k ≤ l.length → Pos (after b (l.take k)))
  | [], b, i, j, _, hp, _ => by simp [bad, after]; exact hp
  | m :: r, b, i, j, hb, hp, ha => by
    simp only [allOk, Bool.and_eq_true] at ha
    have hs := pos_step hb ha.1 hp
    unfold bad
    by_cases hq : paid (step b m) m = true
    · rw [if_pos hq, bad_none r (step b m) (i + 1) (j + 1) (by rw [step_len]; exact hb) (hs.2 hq) ha.2]
      constructor
      · intro h k hk
        cases k with
        | zero => simpa [after] using hp
        | succ k => exact h k (by simpa using hk)
      · intro h k hk
        exact h (k + 1) (by simpa using hk)
    · rw [if_neg hq]
      constructor
      · intro h; cases h
      · intro h
        exact (hq (hs.1 (by simpa [after] using h 1 (by simp)))).elim
end Bk
end Go.Fk
