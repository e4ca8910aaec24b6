/- Chapters 41, 42: the book of a period, in plain Lean. No program in sight. -/
import Derived.Test.YtoadfmgnpmcbfaaGreatP39x
import Derived.Test.YtoadfmgnpmcbfaaGreatP40b
set_option linter.unusedVariables false
set_option linter.unusedSimpArgs false
namespace Go.Fk
open Go
namespace Au
open Bk (lo)
open Ec (eff gain MvOk numd)
/-- how far letters were handed on -/
def hOk (t : TimeD) (p : PlanD) (h : List Int) : Bool := (List.range h.length).all fun k => decide (0 ≤ h.getD k 0 ∧ h.getD k 0 ≤ ((Ec.lineP t p k).Legs.length : Int))
/-- the error of a period -/
def err (t : TimeD) (f : TariffD) (l : List OrderD) (p : PlanD) (h : List Int) : Int := if Ec.err t f l p ≠ 0 then Ec.err t f l p else if h.length ≠ p.Runs.length then 1 else if hOk t p h then 0 else 1
def num : Nat → List MoveD → List MoveD
  | _, [] => []
  | i, m :: r => { m with No := (i : Int) } :: num (i + 1) r
theorem num_len : ∀ (l : List MoveD) (i : Nat), (num i l).length = l.length
  | [], _ => rfl
  | m :: r, i => by simp [num, num_len r]
theorem num_append : ∀ (a b : List MoveD) (i : Nat), num i (a ++ b) = num i a ++ num (i + a.length) b
  | [], b, i => by simp [num]
  | m :: a, b, i => by simp only [List.cons_append, num, num_append a b (i + 1), List.length_cons]; rw [show i + 1 + a.length = i + (a.length + 1) by omega]
theorem num_get : ∀ (l : List MoveD) (i k : Nat), (num i l)[k]? = l[k]?.map fun m => { m with No := ((i + k : Nat) : Int) }
  | [], i, k => by simp [num]
  | m :: r, i, 0 => by simp [num]
  | m :: r, i, k + 1 => by
    simp only [num, List.getElem?_cons_succ]
    rw [num_get r (i + 1) k, show i + 1 + k = i + (k + 1) by omega]
theorem num_take : ∀ (l : List MoveD) (i k : Nat), (num i l).take k = num i (l.take k)
  | [], i, k => by simp [num]
  | m :: r, i, 0 => by simp [num]
  | m :: r, i, k + 1 => by simp [num, num_take r (i + 1) k]
theorem num_eff (j : Int) : ∀ (l : List MoveD) (i : Nat), eff (num i l) j = eff l j
  | [], _ => rfl
  | m :: r, i => by simp only [num, eff, num_eff j r]; rfl
/-- the least price of a leg -/
def cheapF (ok : Nat → Bool) : Nat → List Int → Int → Int
  | _, [], a => a
  | i, y :: r, a => cheapF ok (i + 1) r (if ok i then min a y else a)
def cheap (f : TariffD) (cl : Int) : Int := cheapF (Fd.bit cl) 0 f.Leg 1099511627776
theorem cheapF_drop {ok : Nat → Bool} {l : List Int} {k : Nat} {a : Int} (h : k < l.length) : cheapF ok k (l.drop k) a = cheapF ok (k + 1) (l.drop (k + 1)) (if ok k then min a l[k] else a) := by
  rw [List.drop_eq_getElem_cons h]; rfl
theorem cheapF_bd (ok : Nat → Bool) : ∀ (l : List Int) (i : Nat) (a : Int), (∀ x ∈ l, 0 ≤ x) → 0 ≤ a ∧ a ≤ 1099511627776 → 0 ≤ cheapF ok i l a ∧ cheapF ok i l a ≤ 1099511627776
  | [], _, a, _, h => h
  | y :: r, i, a, hl, h => by
    have := hl y (List.mem_cons_self ..)
    refine cheapF_bd ok r (i + 1) _ (fun x hx => hl x (List.mem_cons_of_mem _ hx)) ?_
    split <;> omega
/-- what was found is what 'least' finds -/
theorem cheapF_least (ok : Nat → Bool) : ∀ (l : List Int) (i : Nat) (a : Int) (o : Option Int), (∀ x ∈ l, x ≤ 1099511627776) → (o = none ∧ a = 1099511627776 ∨ o = some a) → (Fd.leastF ok i l o = none ∧ cheapF ok i l a = 1099511627776 ∨ Fd.leastF ok i l o = some (cheapF ok i l a))
  | [], _, a, o, _, h => h
  | y :: r, i, a, o, hl, h => by
    have hy := hl y (List.mem_cons_self ..)
    simp only [Fd.leastF, cheapF]
    refine cheapF_least ok r (i + 1) _ _ (fun x hx => hl x (List.mem_cons_of_mem _ hx)) ?_
    rcases h with ⟨rfl, rfl⟩ | rfl
    · cases hk : ok i with
      | true => right; simp [Fd.better]; omega
      | false => left; simp
    · right
      cases hk : ok i with
      | true =>
        by_cases hya : y < a
        · simp [Fd.better, hya]; omega
        · simp [Fd.better, hya]; omega
      | false => simp
/-- in the order of a number -/
def cat (g : Nat → List MoveD) : Nat → List MoveD
  | 0 => []
  | k + 1 => cat g k ++ g k
theorem cat_mem {g : Nat → List MoveD} {m : MoveD} : ∀ {n : Nat}, m ∈ cat g n → ∃ k, k < n ∧ m ∈ g k
  | 0, h => by simp [cat] at h
  | n + 1, h => by
    rcases List.mem_append.1 h with h | h
    · obtain ⟨k, hk, hm⟩ := cat_mem h; exact ⟨k, by omega, hm⟩
    · exact ⟨n, by omega, h⟩
theorem cat_pre (g : Nat → List MoveD) {k n : Nat} (h : k ≤ n) : cat g k <+: cat g n := by
  induction n with
  | zero => have : k = 0 := by omega
            subst this; exact List.prefix_refl _
  | succ n ih =>
    by_cases e : k = n + 1
    · subst e; exact List.prefix_refl _
    · exact (ih (by omega)).trans (List.prefix_append _ _)
theorem cat_eff (g : Nat → List MoveD) (j : Int) : ∀ n, eff (cat g (n + 1)) j = eff (cat g n) j + eff (g n) j := fun n => by simp only [cat, Ec.eff_append]
/-- what was handed on of a run -/
def hn (h : List Int) (r : Nat) : Nat := (h.getD r 0).toNat
def runPays (t : TimeD) (f : TariffD) (l : List OrderD) (p : PlanD) (h : List Int) (r : Nat) : List MoveD := Ec.pays t f l p r (hn h r) l.length
def covA (t : TimeD) (f : TariffD) (p : PlanD) (r : Nat) : Int := p.Covers.getD r 0 * cheap f (Ec.lineP t p r).Classes
def covM (t : TimeD) (f : TariffD) (p : PlanD) (r k : Nat) : MoveD := ⟨k, 1, 3 + (Ec.lineP t p r).Offices.getD k 0, covA t f p r, 5, r⟩
def runCovs (t : TimeD) (f : TariffD) (p : PlanD) (h : List Int) (r : Nat) : List MoveD := (List.range (hn h r)).map (covM t f p r)
def shM (a : Int) (n i : Nat) : MoveD := ⟨i, 1, 51 + i, a.tdiv n + (if (i : Int) < a.tmod n then 1 else 0), 6, -1⟩
def shs (a : Int) (n : Nat) : List MoveD := (List.range n).map (shM a n)
/-- what is asked ahead of the shares -/
def pre (t : TimeD) (f : TariffD) (l : List OrderD) (p : PlanD) (h : List Int) : List MoveD :=
  Ec.posts t f l p l.length ++ (cat (runPays t f l p h) p.Runs.length ++ cat (runCovs t f p h) p.Runs.length)
/-- what is asked -/
def asked (t : TimeD) (f : TariffD) (l : List OrderD) (p : PlanD) (h : List Int) : List MoveD := pre t f l p h ++ shs (eff (pre t f l p h) 1) l.length
/-- the book: without the shares where the fund is negative before them -/
def book (t : TimeD) (f : TariffD) (l : List OrderD) (p : PlanD) (h : List Int) : List MoveD := num 0 (if eff (pre t f l p h) 1 < 0 then pre t f l p h else asked t f l p h)
/-- moves against a book -/
def scan : Nat → Int → List MoveD → List MoveD → Nat × Bool
  | _, _, [], [] => (0, true)
  | i, _, [], _ :: _ => (i, false)
  | i, _, _ :: _, [] => (i, false)
  | i, a, b :: bs, m :: ms => if m = b ∧ 0 ≤ a + gain b 1 then scan (i + 1) (a + gain b 1) bs ms else (i, false)
def check (t : TimeD) (f : TariffD) (l : List OrderD) (p : PlanD) (h : List Int) (m : List MoveD) : Int × Bool × Int :=
  if err t f l p h ≠ 0 then (0, false, err t f l p h) else (((scan 0 0 (book t f l p h) m).1 : Int), (scan 0 0 (book t f l p h) m).2, 0)
theorem scan_neg : ∀ (b x y m : List MoveD) (i : Nat) (a : Int), 0 ≤ a → a + eff b 1 < 0 → scan i a (b ++ x) m = scan i a (b ++ y) m
  | [], x, y, m, i, a, h0, h1 => by simp [eff] at h1; omega
  | b :: bs, x, y, [], i, a, h0, h1 => rfl
  | b :: bs, x, y, m :: ms, i, a, h0, h1 => by
    simp only [List.cons_append, scan]
    split
    · rename_i h
      refine scan_neg bs x y ms (i + 1) _ h.2 ?_
      simp only [eff] at h1; omega
    · rfl
/-- the book and all that is asked answer alike -/
theorem scan_asked (t : TimeD) (f : TariffD) (l : List OrderD) (p : PlanD) (h : List Int) (m : List MoveD) : scan 0 0 (num 0 (asked t f l p h)) m = scan 0 0 (book t f l p h) m := by
  unfold book
  split
  · rename_i hn
    unfold asked
    rw [num_append]
    have := scan_neg (num 0 (pre t f l p h)) (num (0 + (pre t f l p h).length) (shs (eff (pre t f l p h) 1) l.length)) [] m 0 0 (by omega) (by rw [num_eff]; omega)
    rw [this, List.append_nil]
  · rfl
/-- what is accepted is the book, and the fund is never overdrawn -/
theorem scan_ok : ∀ (b m : List MoveD) (i : Nat) (a : Int), (scan i a b m).2 = true ↔ m = b ∧ ∀ k, k < b.length → 0 ≤ a + eff (b.take (k + 1)) 1
  | [], [], i, a => by simp [scan]
  | [], m :: ms, i, a => by simp [scan]
  | b :: bs, [], i, a => by simp [scan]
  | b :: bs, m :: ms, i, a => by
    simp only [scan]
    by_cases h : m = b ∧ 0 ≤ a + gain b 1
    · rw [if_pos h, scan_ok bs ms (i + 1) (a + gain b 1)]
      obtain ⟨rfl, h2⟩ := h
      simp only [List.cons.injEq, true_and, List.length_cons, List.take_succ_cons, eff]
      constructor
      · rintro ⟨h3, h4⟩
        refine ⟨h3, fun k hk => ?_⟩
        cases k with
        | zero => simp [eff]; omega
        | succ k => have := h4 k (by omega); omega
      · rintro ⟨h3, h4⟩
        refine ⟨h3, fun k hk => ?_⟩
        have := h4 (k + 1) (by omega)
        omega
    · rw [if_neg h]
      simp only [Bool.false_eq_true, List.cons.injEq, false_iff, not_and]
      rintro ⟨rfl, rfl⟩ h4
      have := h4 0 (by simp)
      simp [eff] at this
      exact h ⟨rfl, this⟩
/-- the first wrong move -/
theorem scan_at : ∀ (b m : List MoveD) (i k : Nat) (a : Int), (∀ j, j < k → j < b.length ∧ m[j]? = b[j]? ∧ 0 ≤ a + eff (b.take (j + 1)) 1) → k ≤ m.length → k ≤ b.length → (m[k]? ≠ b[k]?) → scan i a b m = (i + k, false)
  | [], [], i, k, a, h, h1, h2, hne => by simp at hne
  | [], m :: ms, i, k, a, h, h1, h2, hne => by
    have : k = 0 := by simpa using h2
    subst this; rfl
  | b :: bs, [], i, k, a, h, h1, h2, hne => by
    have : k = 0 := by simpa using h1
    subst this; rfl
  | b :: bs, m :: ms, i, 0, a, h, h1, h2, hne => by
    simp only [scan]
    rw [if_neg (fun h => hne (by simp [h.1]))]; rfl
  | b :: bs, m :: ms, i, k + 1, a, h, h1, h2, hne => by
    simp only [scan]
    have h0 := h 0 (by omega)
    simp [eff] at h0
    rw [if_pos h0, scan_at bs ms (i + 1) k (a + gain b 1) (fun j hj => ?_) (by simpa using h1) (by simpa using h2) (by simpa using hne)]
    · rw [show i + 1 + k = i + (k + 1) by omega]
    · have := h (j + 1) (by omega)
      simp only [List.length_cons, List.getElem?_cons_succ, List.take_succ_cons, eff] at this
      exact ⟨by omega, this.2.1, by omega⟩
/-- the book of settle -/
def negAt (l : List MoveD) : Bool := (List.range (l.length + 1)).any fun k => decide (eff (l.take k) 1 < 0)
def all (t : TimeD) (f : TariffD) (l : List OrderD) (p : PlanD) (h : List Int) : List MoveD × Int :=
  if err t f l p h ≠ 0 then ([], err t f l p h) else if negAt (pre t f l p h) then ([], 381) else (num 0 (asked t f l p h), 0)
structure Ok (t : TimeD) (f : TariffD) (l : List OrderD) (p : PlanD) (h : List Int) : Prop where
  e : Ec.Ok t f l p
  hl : h.length = p.Runs.length
  h : ∀ k, k < p.Runs.length → hn h k ≤ (Ec.lineP t p k).Legs.length ∧ (hn h k : Int) = h.getD k 0
theorem err_ok {t : TimeD} {f : TariffD} {l : List OrderD} {p : PlanD} {h : List Int} (he : err t f l p h = 0) : Ok t f l p h := by
  unfold err at he
  by_cases h1 : Ec.err t f l p = 0
  · rw [if_neg (by simp [h1])] at he
    by_cases h2 : h.length = p.Runs.length
    · rw [if_neg (by simp [h2])] at he
      by_cases h3 : hOk t p h = true
      · refine ⟨Ec.err_ok h1, h2, fun k hk => ?_⟩
        have := List.all_eq_true.1 h3 k (by simp; omega)
        simp only [decide_eq_true_eq] at this
        unfold hn
        omega
      · rw [if_neg h3] at he; cases he
    · rw [if_pos h2] at he; cases he
  · rw [if_pos (by simpa using h1)] at he; exact (h1 he).elim
end Au
end Go.Fk
