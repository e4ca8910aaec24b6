/- Chapter 20: timetables, in plain Lean. No program in sight. -/
import Derived.Test.YtpiijpgfgcbfaaaP19
import Derived.Test.YtpiijpgfgcbfaaaApiT
set_option linter.unusedVariables false
namespace Go.Fk
open Go
namespace Tt
def diff : List Int → Bool
  | [] => true
  | x :: r => !r.contains x && diff r
theorem diff_iff : ∀ {l : List Int}, diff l = true ↔ ∀ j (h : j < l.length), ∀ i (h' : i < j), l[i] ≠ l[j]
  | [] => by simp [diff]
  | x :: r => by
    simp only [diff, Bool.and_eq_true, Bool.not_eq_true', List.contains_eq_mem, decide_eq_false_iff_not, diff_iff (l := r)]
    constructor
    · rintro ⟨h1, h2⟩ j hj i hi e
      cases j with
      | zero => omega
      | succ j =>
        cases i with
        | zero => simp only [List.getElem_cons_zero, List.getElem_cons_succ] at e; exact h1 (e ▸ List.getElem_mem _)
        | succ i => exact h2 j (by simpa using hj) i (by omega) (by simpa using e)
    · intro h
      refine ⟨fun hx => ?_, fun j hj i hi => ?_⟩
      · obtain ⟨k, hk, e⟩ := List.getElem_of_mem hx
        exact h (k + 1) (by simpa using hk) 0 (by omega) (by simpa using e.symm)
      · have := h (j + 1) (by simpa using hj) (i + 1) (by omega)
        simpa using this
theorem diff_nodup : ∀ {l : List Int}, diff l = true ↔ l.Nodup
  | [] => by simp [diff]
  | x :: r => by simp [diff, diff_nodup (l := r)]
theorem diff_take {l : List Int} : diff l = true ↔ ∀ j (h : j < l.length), (l.take j).contains l[j] = false := by
  rw [diff_iff]
  constructor
  · intro h2 j h
    simp only [List.contains_eq_mem, decide_eq_false_iff_not]
    intro hm
    obtain ⟨i, hi, e⟩ := List.getElem_of_mem hm
    simp at hi e
    exact h2 j h i (by omega) e
  · intro h j hj i hi e
    have := h j hj
    simp only [List.contains_eq_mem, decide_eq_false_iff_not] at this
    exact this (List.mem_of_getElem (i := i) (h := by simp; omega) (by simp [e]))
def sized (x : LineD) : Bool := decide (2 ≤ x.Offices.length ∧ x.Offices.length ≤ 9 ∧ x.Legs.length + 1 = x.Offices.length)
def numbers (x : LineD) : Bool := decide (1 ≤ x.Classes ∧ x.Classes ≤ 255 ∧ 1 ≤ x.Room ∧ x.Room ≤ 64)
def inR (n : Int) (o : Int) : Bool := decide (0 ≤ o ∧ o < n)
def stops (x : LineD) (n : Int) : Bool := x.Offices.all (inR n) && diff x.Offices
def legOk (n : Int) : Bool := decide (1 ≤ n ∧ n ≤ 100000)
def legs (x : LineD) : Bool := x.Legs.all legOk
def right (x : LineD) (n : Int) : Bool := sized x && numbers x && stops x n && legs x
theorem stops_take {x : LineD} {n : Int} : stops x n = true ↔ ∀ j (h : j < x.Offices.length), (0 ≤ x.Offices[j] ∧ x.Offices[j] < n) ∧ (x.Offices.take j).contains x.Offices[j] = false := by
  simp only [stops, Bool.and_eq_true, List.all_eq_true, inR, decide_eq_true_eq, diff_take]
  constructor
  · rintro ⟨h1, h2⟩ j h
    exact ⟨h1 _ (List.getElem_mem h), h2 j h⟩
  · intro h
    refine ⟨fun x hx => ?_, fun j hj => (h j hj).2⟩
    obtain ⟨j, hj, rfl⟩ := List.getElem_of_mem hx
    exact (h j hj).1
def calL : List LineD → Int
  | [] => 0
  | x :: r => if Cal.chk x.Rules x.Off ≠ 0 then Cal.chk x.Rules x.Off else calL r
def chk (t : TimeD) : Int := if 64 < t.Lines.length then 2 else if ¬ (0 ≤ t.Offices ∧ t.Offices ≤ 24) then 200 else if t.Lines.all (right · t.Offices) then calL t.Lines else 200
theorem calL_drop {l : List LineD} {k : Nat} (h : k < l.length) : calL (l.drop k) = if Cal.chk l[k].Rules l[k].Off ≠ 0 then Cal.chk l[k].Rules l[k].Off else calL (l.drop (k + 1)) := by
  rw [List.drop_eq_getElem_cons h]; rfl
theorem calL_all : ∀ {l : List LineD}, calL l = 0 → ∀ x ∈ l, Cal.chk x.Rules x.Off = 0
  | [], _, x, hx => by cases hx
  | y :: r, h, x, hx => by
    unfold calL at h
    split at h
    · rename_i h1; exact (h1 h).elim
    · rename_i h1
      rcases List.mem_cons.1 hx with rfl | hx
      · simpa using h1
      · exact calL_all h x hx
structure Ok (t : TimeD) : Prop where
  n : t.Lines.length ≤ 64
  o : 0 ≤ t.Offices ∧ t.Offices ≤ 24
  r : ∀ x ∈ t.Lines, right x t.Offices = true
  c : ∀ x ∈ t.Lines, Cal.chk x.Rules x.Off = 0
theorem chk_ok {t : TimeD} (h : chk t = 0) : Ok t := by
  unfold chk at h
  split at h
  · cases h
  · split at h
    · cases h
    · split at h
      · rename_i h1 h2 h3
        exact ⟨by omega, by omega, fun x hx => List.all_eq_true.1 h3 x hx, calL_all h⟩
      · cases h
theorem calL_cases : ∀ l : List LineD, calL l = 0 ∨ calL l = 2 ∨ calL l = 190
  | [] => .inl rfl
  | x :: r => by
    unfold calL
    split
    · exact Cal.chk_cases _ _
    · exact calL_cases r
theorem chk_cases (t : TimeD) : chk t = 0 ∨ chk t = 2 ∨ chk t = 190 ∨ chk t = 200 := by
  unfold chk
  split
  · simp
  · split
    · simp
    · split
      · rcases calL_cases t.Lines with h | h | h <;> simp [h]
      · simp
/-- the facts of a right line -/
structure LOk (x : LineD) (n : Int) : Prop where
  o2 : 2 ≤ x.Offices.length
  o9 : x.Offices.length ≤ 9
  l1 : x.Legs.length + 1 = x.Offices.length
  c : 1 ≤ x.Classes ∧ x.Classes ≤ 255
  m : 1 ≤ x.Room ∧ x.Room ≤ 64
  s : ∀ o ∈ x.Offices, 0 ≤ o ∧ o < n
  d : diff x.Offices = true
  l : ∀ k ∈ x.Legs, 1 ≤ k ∧ k ≤ 100000
theorem right_ok {x : LineD} {n : Int} (h : right x n = true) : LOk x n := by
  simp only [right, sized, numbers, stops, legs, Bool.and_eq_true, decide_eq_true_eq, List.all_eq_true, inR, legOk] at h
  obtain ⟨⟨⟨h1, h2⟩, h3, h4⟩, h5⟩ := h
  exact ⟨h1.1, h1.2.1, h1.2.2, ⟨h2.1, h2.2.1⟩, h2.2.2, h3, h4, h5⟩
/-- sums -/
def sm : List Int → Int
  | [] => 0
  | x :: r => x + sm r
theorem sm_take : ∀ (l : List Int) (i : Nat) (h : i < l.length), sm (l.take (i + 1)) = sm (l.take i) + l[i]
  | y :: r, 0, _ => by simp [sm]
  | y :: r, i + 1, h => by
    simp only [List.take_succ_cons, sm, List.getElem_cons_succ]
    rw [sm_take r i (by simpa using h)]; omega
theorem sm_bd {l : List Int} (h : ∀ k ∈ l, 1 ≤ k ∧ k ≤ 100000) : ∀ i, i ≤ l.length → (i : Int) ≤ sm (l.take i) ∧ sm (l.take i) ≤ 100000 * i := by
  intro i
  induction i with
  | zero => intro _; simp [sm]
  | succ i ih =>
    intro hi
    rw [sm_take l i hi]
    have := ih (by omega)
    have := h _ (List.getElem_mem hi)
    omega
def leng (x : LineD) : Int := sm x.Legs
/-- is it a run? for a right timetable -/
def isR (t : TimeD) (r : RunD) : Bool :=
  decide (0 ≤ r.Line ∧ r.Line < t.Lines.length ∧ 0 ≤ r.At ∧ r.At < 2097152) &&
    (let x := t.Lines.getD r.Line.toNat default; Cal.departs x.Rules x.Off r.At && decide (r.Arrive = r.At + leng x ∧ r.Arrive < 2097152))
def isRun (t : TimeD) (r : RunD) : Bool := decide (chk t = 0) && isR t r
def before (a b : RunD) : Bool := decide (a.At < b.At ∨ a.At = b.At ∧ a.Line < b.Line)
/-- bools in a row -/
abbrev bools (l : List Bool) : List Value := l.map Value.bool
def seen (n : Nat) (l : List Int) : List Bool := (List.range n).map fun (i : Nat) => l.contains (i : Int)
theorem seen_len (n : Nat) (l : List Int) : (seen n l).length = n := by simp [seen]
theorem seen_get {n : Nat} {l : List Int} {i : Nat} (h : i < (seen n l).length) : (seen n l)[i] = l.contains (i : Int) := by simp [seen]
theorem seen_set {n : Nat} {l : List Int} {o : Nat} (ho : o < n) : (seen n l).set o true = seen n (l ++ [(o : Int)]) := by
  apply List.ext_getElem (by simp [seen_len])
  intro i h1 h2
  rw [List.getElem_set, seen_get h2]
  by_cases e : o = i
  · subst e; simp
  · rw [if_neg e, seen_get (by simpa [seen_len] using h2)]
    rw [Bool.eq_iff_iff]
    simp
    omega
theorem seen_nil (n : Nat) : seen n [] = List.replicate n false := by
  apply List.ext_getElem (by simp [seen_len])
  intro i h1 h2
  rw [seen_get h1]; simp
end Tt
end Go.Fk
