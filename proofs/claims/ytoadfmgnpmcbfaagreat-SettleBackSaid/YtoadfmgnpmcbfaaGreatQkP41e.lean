import Derived.Test.YtoadfmgnpmcbfaaGreatQkP43
import Derived.Test.YtoadfmgnpmcbfaaGreatQkGq
/- Chapter 41: a period in which nothing was handed on, in plain Lean. -/
set_option linter.unusedVariables false
set_option linter.unusedSimpArgs false
namespace Go.Fk
open Go
namespace Au
open Bk (lo)
open Ec (eff gain MvOk numd)
section
variable {t : TimeD} {f : TariffD} {l : List OrderD} {p : PlanD} {h : List Int}
def zer (n : Nat) : List Int := List.replicate n 0
theorem zer_get (n k : Nat) : (zer n).getD k 0 = 0 := by
  unfold zer
  rw [List.getD_eq_getElem?_getD, List.getElem?_replicate]; split <;> rfl
theorem hn_zer (n k : Nat) : hn (zer n) k = 0 := by unfold hn; rw [zer_get]; rfl
theorem zer_ok (he : Ec.err t f l p = 0) : err t f l p (zer p.Runs.length) = 0 := by
  unfold err
  rw [if_neg (by simp [he]), if_neg (by simp [zer]), if_pos]
  unfold hOk
  rw [List.all_eq_true]
  intro k _
  rw [zer_get]
  simp
theorem wantO_z (hk : Ec.Ok t f l p) {i : Nat} (hi : i < l.length) {run : Int} (hr : p.Of.getD i 0 = run) (j : Int) : Ec.wantO t f l p run 0 i j = 0 := by
  obtain ⟨q0, q1, hlo, _⟩ := Ec.price_eq hk hi
  have := hlo.l1
  have := hlo.o2
  unfold Ec.wantO
  rw [← hr, if_neg (show ¬ 0 = (Ec.lineP t p (p.Of.getD i 0)).Legs.length by omega)]
  simp [Ec.legG]
theorem wantR_z (hk : Ec.Ok t f l p) {run : Int} (j : Int) : ∀ k : Nat, k ≤ l.length → Ec.wantR t f l p run 0 j k = 0
  | 0, _ => rfl
  | k + 1, hl => by
    simp only [Ec.wantR]
    rw [wantR_z hk j k (by omega)]
    split
    · rename_i e
      rw [wantO_z hk (by omega) e]; rfl
    · rfl
theorem cov_z (n : Nat) : ∀ r, cat (runCovs t f p (zer n)) r = []
  | 0 => rfl
  | r + 1 => by
    simp only [cat, cov_z n r, runCovs, hn_zer, List.range_zero, List.map_nil, List.append_nil]
theorem pre_z (he : Ec.err t f l p = 0) (hR : p.Runs.length ≤ 70) (j : Int) : eff (pre t f l p (zer p.Runs.length)) j = 0 := by
  have hk := err_ok (zer_ok (t := t) (f := f) (l := l) (p := p) he)
  have h1 := paid_eff hk j
  rw [wantK_sum] at h1
  have hz : ∀ n, n ≤ p.Runs.length → sumK (fun r => Ec.wantR t f l p r (hn (zer p.Runs.length) r) j l.length) n = 0 := by
    intro n
    induction n with
    | zero => intro _; rfl
    | succ n ih =>
      intro hn'
      simp only [sumK, ih (by omega)]
      rw [hn_zer, wantR_z hk.e j _ (Nat.le_refl _)]; rfl
  rw [hz _ (Nat.le_refl _)] at h1
  unfold pre
  rw [Ec.eff_append, Ec.eff_append, cov_z]
  simp only [eff]
  omega
theorem neg_z (he : Ec.err t f l p = 0) (hR : p.Runs.length ≤ 70) : negAt (pre t f l p (zer p.Runs.length)) = false := by
  have hk := err_ok (zer_ok (t := t) (f := f) (l := l) (p := p) he)
  refine negAt_nn fun m hm => ?_
  unfold pre at hm
  rw [cov_z, List.append_nil] at hm
  rcases List.mem_append.1 hm with hm | hm
  · have := posts_mv hk.e hR m hm
    exact ⟨by omega, this.1.2.2.2.1.1⟩
  · obtain ⟨r, hr, hm⟩ := cat_mem hm
    have := pays_mv hk hR hr m hm
    exact ⟨by omega, this.1.2.2.2.1.1⟩
theorem shs_z (n : Nat) (j : Int) : eff (shs 0 n) j = 0 := by
  have h : ∀ X : List MoveD, (∀ m ∈ X, m.Amount = 0) → eff X j = 0 := by
    intro X
    induction X with
    | nil => intro _; rfl
    | cons m X ih =>
      intro hm
      simp only [eff, gain]
      rw [ih fun x hx => hm x (List.mem_cons_of_mem _ hx), hm m (List.mem_cons_self ..)]
      simp
  refine h _ fun m hm => ?_
  simp only [shs, List.mem_map, List.mem_range] at hm
  obtain ⟨i, hi, rfl⟩ := hm
  simp only [shM]
  rw [if_neg (by simp)]
  simp
theorem all_zer (h0 : (all t f l p h).2 = 0) (hR : p.Runs.length ≤ 70) : Ec.err t f l p = 0 ∧ all t f l p (zer p.Runs.length) = (num 0 (asked t f l p (zer p.Runs.length)), 0) ∧ Ok t f l p (zer p.Runs.length) ∧ (∀ j, eff (asked t f l p (zer p.Runs.length)) j = 0) ∧ 0 ≤ eff (pre t f l p (zer p.Runs.length)) 1 := by
  obtain ⟨he, _, _⟩ := all_ok h0
  have he2 : Ec.err t f l p = 0 := Decidable.byContradiction fun e => by unfold err at he; rw [if_pos e] at he; exact e he
  have hz := zer_ok (t := t) (f := f) (l := l) (p := p) he2
  refine ⟨he2, ?_, err_ok hz, fun j => ?_, by rw [pre_z he2 hR]; exact Int.le_refl _⟩
  · unfold all
    rw [if_neg (by simp [hz]), if_neg (by simp [neg_z he2 hR])]
  · unfold asked
    rw [Ec.eff_append, pre_z he2 hR, pre_z he2 hR, shs_z]; rfl
theorem out_take1 {X : List MoveD} {k : Nat} (hk : k < X.length) (j : Int) : out j (X.take (k + 1)) = out j (X.take k) + if X[k].From = j then X[k].Amount else 0 := by
  rw [List.take_add_one, List.getElem?_eq_getElem hk, out_append]; simp [out]
theorem eff_takeS {X : List MoveD} {k : Nat} (hk : k < X.length) (j : Int) : eff (X.take (k + 1)) j = eff (X.take k) j + gain X[k] j := by
  rw [List.take_add_one, List.getElem?_eq_getElem hk, Ec.eff_append]; simp [eff]
theorem out_bd : ∀ {X : List MoveD}, (∀ m ∈ X, 0 ≤ m.Amount ∧ m.Amount ≤ 1099511627776) → ∀ j, 0 ≤ out j X ∧ out j X ≤ 1099511627776 * X.length
  | [], _, j => by simp [out]
  | m :: X, hm, j => by
    have := out_bd (fun x hx => hm x (List.mem_cons_of_mem _ hx)) j
    have := hm m (List.mem_cons_self ..)
    simp only [out, List.length_cons]
    split <;> omega
end
end Au
end Go.Fk
