import Derived.Test.YtoadfmgnpmcbfaaGreatQnP43
set_option linter.unusedVariables false
set_option linter.unusedSimpArgs false
namespace Go.Fk
open Go
namespace Au
open Ec (eff gain MvOk numd)
section
variable {t : TimeD} {f : TariffD} {l : List OrderD} {p : PlanD} {h : List Int}
theorem check_at (h0 : (all t f l p h).2 = 0) (hR : p.Runs.length ≤ 70) (hl : l.length ≤ 64) {m : List MoveD} {k : Nat} (h1 : ∀ j, j < k → m[j]? = (all t f l p h).1[j]?) (h2 : k ≤ m.length) (h3 : k ≤ (all t f l p h).1.length) (hne : m[k]? ≠ (all t f l p h).1[k]?) :
    check t f l p h m = ((k : Int), false, 0) := by
  obtain ⟨he, hn, ha⟩ := all_ok h0
  have hK := err_ok he
  rw [ha] at h1 h3 hne
  simp only at h1 h3 hne
  unfold check
  rw [if_neg (by simp [he]), ← scan_asked]
  have := scan_at (num 0 (asked t f l p h)) m 0 k 0 (fun j hj => ⟨by omega, h1 j hj, by
    rw [num_take, num_eff]
    have := asked_nn hK hR hl hn (j + 1)
    omega⟩) h2 h3 hne
  rw [this]
  simp
theorem check_more (h0 : (all t f l p h).2 = 0) (hR : p.Runs.length ≤ 70) (hl : l.length ≤ 64) (o : MoveD) : check t f l p h ((all t f l p h).1 ++ [o]) = (((all t f l p h).1.length : Int), false, 0) := by
  refine check_at h0 hR hl (fun j hj => by rw [List.getElem?_append_left hj]) (by simp) (Nat.le_refl _) ?_
  rw [List.getElem?_append_right (Nat.le_refl _)]
  simp
theorem check_less (h0 : (all t f l p h).2 = 0) (hR : p.Runs.length ≤ 70) (hl : l.length ≤ 64) {k : Nat} (hk : k < (all t f l p h).1.length) : check t f l p h ((all t f l p h).1.take k) = ((k : Int), false, 0) := by
  refine check_at h0 hR hl (fun j hj => by rw [List.getElem?_take, if_pos hj]) (by rw [List.length_take]; omega) (by omega) ?_
  rw [List.getElem?_take, if_neg (by omega), List.getElem?_eq_getElem hk]
  simp
theorem check_set (h0 : (all t f l p h).2 = 0) (hR : p.Runs.length ≤ 70) (hl : l.length ≤ 64) {k : Nat} (hk : k < (all t f l p h).1.length) {o : MoveD} (ho : o ≠ (all t f l p h).1[k]) : check t f l p h ((all t f l p h).1.set k o) = ((k : Int), false, 0) := by
  refine check_at h0 hR hl (fun j hj => by rw [List.getElem?_set_ne (by omega)]) (by rw [List.length_set]; omega) (by omega) ?_
  rw [List.getElem?_set_self hk, List.getElem?_eq_getElem hk]
  simpa using ho
theorem check_same (h0 : (all t f l p h).2 = 0) (hR : p.Runs.length ≤ 70) (hl : l.length ≤ 64) {k : Nat} (hk : k < (all t f l p h).1.length) {o : MoveD} (ho : o = (all t f l p h).1[k]) : (check t f l p h ((all t f l p h).1.set k o)).2 = (true, 0) := by
  rw [check_yes h0 hR hl]
  subst ho
  simp
end
end Au
end Go.Fk
