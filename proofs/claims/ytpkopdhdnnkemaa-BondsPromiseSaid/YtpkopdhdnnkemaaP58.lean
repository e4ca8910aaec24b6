/- Chapter 58: bonds, in plain Lean. No program in sight. -/
import Derived.Test.YtpkopdhdnnkemaaP38
import Derived.Test.YtpkopdhdnnkemaaApi58
namespace Go.Fk
open Go
namespace Bd
def am (n : Int) : Bool := decide (0 ≤ n ∧ n ≤ 1099511627776)
def numb (k : Nat) (m : MoveD) : MoveD := { m with No := (k : Int), Run := -1 }
def mk (F : Int → Int → MoveD) (xs : List Int) : List MoveD := (List.range xs.length).map fun (k : Nat) => numb k (F k (xs.getD k 0))
theorem mk_len (F : Int → Int → MoveD) (xs : List Int) : (mk F xs).length = xs.length := by simp [mk]
theorem mk_get {F : Int → Int → MoveD} {xs : List Int} {k : Nat} (h : k < (mk F xs).length) (h' : k < xs.length) : (mk F xs)[k] = numb k (F k xs[k]) := by simp [mk, h']
theorem mk_take {F : Int → Int → MoveD} {xs : List Int} {k : Nat} (h : k < xs.length) : (mk F xs).take (k + 1) = (mk F xs).take k ++ [numb k (F k xs[k])] := by
  rw [List.take_succ_eq_append_getElem (by rw [mk_len]; exact h), mk_get _ h]
def depM (a : Int) (i _x : Int) : MoveD := ⟨0, 0, 27 + i, a, 7, 0⟩
def freeM (i a : Int) : MoveD := ⟨0, 27 + i, 0, a, 9, 0⟩
def payM (o s : Int) (_i a : Int) : MoveD := ⟨0, 27 + o, 51 + s, a, 8, 0⟩
def deposit (n a : Int) : List MoveD × Int := if 0 ≤ n ∧ n ≤ 24 ∧ am a = true then (mk (depM a) (List.replicate n.toNat 0), 0) else ([], 1)
def free (l : List Int) : List MoveD × Int := if l.length ≤ 24 ∧ l.all am = true then (mk freeM l, 0) else ([], 1)
/-- offices of a line: in range, no two alike -/
def diff : List Int → Bool
  | [] => true
  | x :: r => !r.contains x && diff r
def offs (l : List Int) : Bool := l.all (fun n => decide (0 ≤ n ∧ n < 24)) && diff l
def formed (l : List Int) (v : VerdictD) : Bool := offs l && (if v.Why = 0 ∨ v.Why = 1 then decide (v.Office = -1) else decide (2 ≤ v.Why ∧ v.Why ≤ 5 ∧ 0 ≤ v.Office ∧ v.Office < l.length))
def pay (l : List Int) (v : VerdictD) (s p b : Int) : List MoveD × Int :=
  if 0 ≤ s ∧ s < 64 ∧ am p = true ∧ am b = true then
    if formed l v = true then if v.Office < 0 then ([], 0) else (mk (payM (l.getD v.Office.toNat 0) s) [min p b], 0) else ([], 580)
  else ([], 1)
/-- no two alike: what the walk sees -/
theorem diff_iff : ∀ {l : List Int}, diff l = true ↔ ∀ j (h : j < l.length), ∀ i (h' : i < j), l[i] ≠ l[j]
  | [] => by simp [diff]
  | x :: r => by
    simp only [diff, Bool.and_eq_true, Bool.not_eq_true', List.contains_eq_mem, decide_eq_false_iff_not, diff_iff (l := r)]
    constructor
    · rintro ⟨h1, h2⟩ j hj i hi e
      cases j with
      | zero => omega
      | succ j =>
        cases i with
        | zero => simp only [List.getElem_cons_zero, List.getElem_cons_succ] at e; exact h1 (e ▸ List.getElem_mem _)
        | succ i => exact h2 j (by simpa using hj) i (by omega) (by simpa using e)
    · intro h
      refine ⟨fun hx => ?_, fun j hj i hi => ?_⟩
      · obtain ⟨k, hk, e⟩ := List.getElem_of_mem hx
        exact h (k + 1) (by simpa using hk) 0 (by omega) (by simpa using e.symm)
      · have := h (j + 1) (by simpa using hj) (i + 1) (by omega)
        simpa using this
theorem diff_nodup : ∀ {l : List Int}, diff l = true ↔ l.Nodup
  | [] => by simp [diff]
  | x :: r => by simp [diff, diff_nodup (l := r)]
/-- no more than 24 offices -/
theorem offs_len {l : List Int} (h : offs l = true) : l.length ≤ 24 := by
  simp only [offs, Bool.and_eq_true, List.all_eq_true, decide_eq_true_eq] at h
  have hn := diff_nodup.1 h.2
  have hs : ∀ x ∈ l, x ∈ (List.range 24).map (fun (k : Nat) => (k : Int)) := fun x hx => by
    have := h.1 x hx
    refine List.mem_map.2 ⟨x.toNat, by simp; omega, by omega⟩
  have := List.Nodup.length_le_of_subset hn hs
  simpa using this
end Bd
end Go.Fk
