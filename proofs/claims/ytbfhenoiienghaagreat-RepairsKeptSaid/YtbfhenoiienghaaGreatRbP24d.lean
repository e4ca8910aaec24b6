import Derived.Test.YtbfhenoiienghaaGreatRbGy
set_option linter.unusedVariables false
set_option linter.unusedSimpArgs false
namespace Go.Fk
open Go
namespace Rp
section
variable {t : TimeD} {f : TariffD} {l : List OrderD} {covers : Int} {p : PlanD} {run : Int} {o : OrderD}
theorem opt_lim (h : Pl.err t f l = 0) (ho : o ∈ l) (he : (Pl.options t f o).2 ≠ 0) : (Pl.options t f o).2 = 2 := by
  have hok := Pl.err_ok h
  have h1 : Pl.err t f [o] = 0 := Pl.err_less h (fun x hx => by rw [List.mem_singleton.1 hx]; exact ho) (by have := List.length_pos_of_mem ho; show 1 ≤ l.length; omega)
  have hn := hok.o o ho
  simp only [Pl.oright, Pl.oNum, Bool.and_eq_true, decide_eq_true_eq] at hn
  unfold Pl.options at he ⊢
  rw [if_neg (by simp [h1])] at he ⊢
  by_cases h2 : (Tt.runs t o.After (o.By + 1)).2 = 0
  · rw [if_neg (by simp [h2])] at he; exact (he rfl).elim
  · rw [if_pos h2]
    simp only
    unfold Tt.runs at h2 ⊢
    rw [if_neg (by simp [hok.t])] at h2 ⊢
    rw [if_neg (by omega)] at h2 ⊢
    split
    · rfl
    · split
      · rfl
      · rename_i g1 g2
        rw [if_neg g1, if_neg g2] at h2
        exact (h2 rfl).elim
theorem oErr_lim (h : Pl.err t f l = 0) : ∀ {n k : Nat}, k + n ≤ l.length → oErr t f l p run k n ≠ 0 → oErr t f l p run k n = 2
  | 0, k, _, he => (he rfl).elim
  | n + 1, k, hk, he => by
    unfold oErr at he ⊢
    split
    · rename_i g
      have hkl : k < l.length := by omega
      have e : l.getD k default = l[k] := by simp [List.getD_eq_getElem?_getD, hkl]
      rw [e] at g ⊢
      exact opt_lim h (List.getElem_mem hkl) g.2
    · rename_i g
      rw [if_neg g] at he
      exact oErr_lim h (by omega) he
theorem rep_cases (h : err t f l covers p = 0) (h0 : 0 ≤ run) (h1 : run < p.Runs.length) : (oErr t f l p run 0 l.length ≠ 0 ∧ repair t f l covers p run = (Pl.noPlan, false, 2)) ∨ (oErr t f l p run 0 l.length = 0 ∧ mend t f l covers p run = none ∧ repair t f l covers p run = (Pl.noPlan, false, 0)) ∨ ∃ of, oErr t f l p run 0 l.length = 0 ∧ mend t f l covers p run = some of ∧ repair t f l covers p run = (Pl.planOf l of, true, 0) := by
  have hr : ¬ (run < 0 ∨ p.Runs.length ≤ run) := by omega
  by_cases ho : oErr t f l p run 0 l.length = 0
  · right
    have := repair_ok h hr ho
    cases hm : mend t f l covers p run with
    | none => rw [hm] at this; exact .inl ⟨ho, rfl, this⟩
    | some of => rw [hm] at this; exact .inr ⟨of, ho, rfl, this⟩
  · left
    refine ⟨ho, ?_⟩
    rw [repair_opt h hr ho, oErr_lim (err_acc h).1 (by omega) ho]
end
end Rp
end Go.Fk
