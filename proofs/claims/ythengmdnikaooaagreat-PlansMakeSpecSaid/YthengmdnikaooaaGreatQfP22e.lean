import Derived.Test.YthengmdnikaooaaGreatQfP22c
set_option linter.unusedVariables false
set_option linter.unusedSimpArgs false
namespace Go.Fk
open Go
namespace Pl
theorem cov_bd {l : List OrderD} (h : ∀ o ∈ l, 1 ≤ o.Crowd ∧ o.Crowd ≤ 64) (of : List RunD) (r : RunD) : 0 ≤ (load l of r).covers ∧ (load l of r).covers ≤ 65 := by
  have := load_bd h of r
  simp only [LoadD.covers]; omega
theorem totF_le {l : List OrderD} (h : ∀ o ∈ l, 1 ≤ o.Crowd ∧ o.Crowd ≤ 64) : ∀ (s pre : List RunD), totF l pre s ≤ 65 * s.length
  | [], _ => by simp [totF]
  | r :: s, pre => by
    have ih := totF_le h s (pre ++ [r])
    have h1 := cov_bd h (pre ++ [r]) r
    have h2 := cov_bd h pre r
    simp only [totF, List.length_cons]
    omega
theorem tot_bd {l : List OrderD} (h : ∀ o ∈ l, 1 ≤ o.Crowd ∧ o.Crowd ≤ 64) {of : List RunD} (hn : of.length ≤ l.length) : -(of.length : Int) ≤ tot l of ∧ tot l of ≤ 65 * of.length := by
  have h1 := totF_ge (l := l) of [] (by simpa using hn)
  have h2 := totF_le h of []
  exact ⟨h1, h2⟩
theorem findS_skip {α β : Type} {f : α → Option β} {o : List α} {j : Nat} (hj : j < o.length) (h : f o[j] = none) : (o.drop j).findSome? f = (o.drop (j + 1)).findSome? f := by
  rw [List.drop_eq_getElem_cons hj, List.findSome?_cons, h]
theorem findS_hit {α β : Type} {f : α → Option β} {o : List α} {j : Nat} (hj : j < o.length) {x : β} (h : f o[j] = some x) : (o.drop j).findSome? f = some x := by
  rw [List.drop_eq_getElem_cons hj, List.findSome?_cons, h]
end Pl
end Go.Fk
