import Derived.Test.YtoadfmgnpmcbfaaGreatQbP43
import Derived.Test.YtoadfmgnpmcbfaaGreatQbGq
/- Chapter 41: the accounts together, in plain Lean. -/
set_option linter.unusedVariables false
set_option linter.unusedSimpArgs false
namespace Go.Fk
open Go
namespace Au
open Bk (lo)
open Ec (eff gain MvOk numd)
section
variable {t : TimeD} {f : TariffD} {l : List OrderD} {p : PlanD} {h : List Int}
theorem wantO_mid (hk : Ec.Ok t f l p) {i : Nat} (hi : i < l.length) {run : Int} (hr : p.Of.getD i 0 = run) {n : Nat} (hn : n ≤ (Ec.lineP t p run).Legs.length) {j : Int} (hj : 27 ≤ j ∧ j < 51) : Ec.wantO t f l p run n i j = 0 := by
  obtain ⟨q0, q1, hlo, hpe, hcl, hcr⟩ := Ec.price_eq hk hi
  have o1 := hlo.l1
  unfold Ec.wantO
  rw [Ec.legG_no _ _ n fun k hkn e => by
    have := Ec.off_in hk hi (k := k) (by rw [hr] at o1 ⊢; omega)
    rw [hr] at this; omega]
  rw [if_neg (show ¬ j = 51 + (i : Int) by omega)]
  rw [show Ec.ind j 1 = 0 by unfold Ec.ind; rw [if_neg (by omega)], show Ec.ind j (51 + (i : Int)) = 0 by unfold Ec.ind; rw [if_neg (by omega)]]
  split <;> simp
theorem wantR_mid (hk : Ec.Ok t f l p) {run : Int} {n : Nat} (hn : n ≤ (Ec.lineP t p run).Legs.length) {j : Int} (hj : 27 ≤ j ∧ j < 51) : ∀ k : Nat, k ≤ l.length → Ec.wantR t f l p run n j k = 0
  | 0, _ => rfl
  | k + 1, hl => by
    simp only [Ec.wantR]
    rw [wantR_mid hk hn hj k (by omega)]
    split
    · rename_i e
      rw [wantO_mid hk (by omega) e hn hj]; rfl
    · rfl
theorem asked_mid (hk : Ok t f l p h) (hR : p.Runs.length ≤ 70) (ha : 0 ≤ eff (pre t f l p h) 1) {j : Int} (hj : 27 ≤ j ∧ j < 51) : eff (asked t f l p h) j = 0 := by
  have h1 := paid_eff hk j
  rw [wantK_sum] at h1
  have hz : ∀ n, n ≤ p.Runs.length → sumK (fun r => Ec.wantR t f l p r (hn h r) j l.length) n = 0 := by
    intro n
    induction n with
    | zero => intro _; rfl
    | succ n ih =>
      intro hn'
      simp only [sumK, ih (by omega)]
      rw [wantR_mid hk.e (hk.h n (by omega)).1 hj _ (Nat.le_refl _)]; rfl
  rw [hz _ (Nat.le_refl _)] at h1
  have h2 := shs_no hk hR ha (j := j) (by omega) (by omega)
  have h3 := catCovs_two hk hR (j := j) (.inr (.inr (by omega)))
  unfold asked
  rw [Ec.eff_append, h2]
  have e5 : eff (pre t f l p h) j = eff (Ec.posts t f l p l.length) j + (eff (cat (runPays t f l p h) p.Runs.length) j + eff (cat (runCovs t f p h) p.Runs.length) j) := by
    unfold pre; rw [Ec.eff_append, Ec.eff_append]
  omega
theorem asked_oth (hk : Ok t f l p h) (hR : p.Runs.length ≤ 70) (ha : 0 ≤ eff (pre t f l p h) 1) {j : Int} (hj : 0 ≤ j ∧ j < 3 ∨ 27 ≤ j ∧ j < 51) : eff (asked t f l p h) j = 0 := by
  by_cases h0 : j = 0
  · subst h0; exact asked_bank hk hR ha
  by_cases h1 : j = 1
  · subst h1; exact asked_one hk hR ha
  by_cases h2 : j = 2
  · subst h2; exact asked_two hk hR ha
  exact asked_mid hk hR ha (by omega)
end
/-- the first n accounts together -/
def sumE (X : List MoveD) : Nat → Int
  | 0 => 0
  | n + 1 => sumE X n + eff X n
theorem sumE_nil : ∀ n, sumE [] n = 0
  | 0 => rfl
  | n + 1 => by simp [sumE, sumE_nil n, eff]
theorem sumE_cons (m : MoveD) (X : List MoveD) : ∀ n, sumE (m :: X) n = sumE [m] n + sumE X n
  | 0 => rfl
  | n + 1 => by
    simp only [sumE, sumE_cons m X n, eff]; omega
theorem sumE_one {m : MoveD} (h : (0 ≤ m.From ∧ 0 ≤ m.To)) : ∀ n : Nat, sumE [m] n = (if m.To < (n : Int) then m.Amount else 0) - (if m.From < (n : Int) then m.Amount else 0)
  | 0 => by
    rw [if_neg (by omega), if_neg (by omega)]; rfl
  | n + 1 => by
    simp only [sumE, eff, gain]
    rw [sumE_one h n]
    split <;> split <;> split <;> split <;> split <;> split <;> omega
theorem sumE_all : ∀ {X : List MoveD}, (∀ m ∈ X, Mv m) → sumE X 115 = 0
  | [], _ => sumE_nil _
  | m :: X, hm => by
    rw [sumE_cons, sumE_all fun x hx => hm x (List.mem_cons_of_mem _ hx)]
    have := hm m (List.mem_cons_self ..)
    rw [sumE_one ⟨this.1.1, this.2.1.1⟩, if_pos (by have := this.2.1.2; omega), if_pos (by have := this.1.2; omega)]
    omega
/-- a start in which each sender has a large amount -/
def rich : List Int := (List.range 115).map fun j => if 51 ≤ j then 1099511627776 else 0
theorem rich_len : rich.length = 115 := by simp [rich]
theorem rich_lo {j : Int} (hj : 0 ≤ j) : lo rich j = if 51 ≤ j ∧ j < 115 then 1099511627776 else 0 := by
  unfold lo rich
  by_cases h : j.toNat < 115
  · rw [List.getD_eq_getElem?_getD, List.getElem?_map, List.getElem?_range h]
    simp only [Option.map_some, Option.getD_some]
    split <;> split <;> omega
  · rw [List.getD_eq_getElem?_getD, List.getElem?_eq_none (by simp; omega)]
    rw [if_neg (by omega)]; rfl
theorem rich_ok : Bk.startOk rich = true := by decide
end Au
end Go.Fk
