import Derived.Test.YtoadfmgnpmcbfaaGreatQoP43
import Derived.Test.YtoadfmgnpmcbfaaGreatQoGq
/- Chapter 41: what the offices get, in plain Lean. -/
set_option linter.unusedVariables false
set_option linter.unusedSimpArgs false
namespace Go.Fk
open Go
namespace Au
open Bk (lo)
open Ec (eff gain MvOk numd legG gainR)
theorem legG_add (x : LineD) (a b j : Int) : ∀ n, legG x (a + b) j n = legG x a j n + legG x b j n
  | 0 => rfl
  | n + 1 => by
    simp only [legG, legG_add x a b j n]
    split <;> omega
theorem legG_zero (x : LineD) (j : Int) : ∀ n, legG x 0 j n = 0
  | 0 => rfl
  | n + 1 => by
    simp only [legG, legG_zero x j n]
    split <;> rfl
section
variable {t : TimeD} {f : TariffD} {l : List OrderD} {p : PlanD} {h : List Int}
theorem wantR_gain {run : Int} {n : Nat} {j : Int} (hj : 3 ≤ j ∧ j < 27) : ∀ k, Ec.wantR t f l p run n j k = legG (Ec.lineP t p run) (gainR f l p run k) j n
  | 0 => by simp only [Ec.wantR, gainR, legG_zero]
  | k + 1 => by
    simp only [Ec.wantR, gainR, wantR_gain hj k]
    rw [legG_add]
    split
    · rw [wantO_office hj]
    · rw [legG_zero]
theorem covs_leg {j : Int} (hj : 3 ≤ j) (r : Nat) : eff (runCovs t f p h r) j = legG (Ec.lineP t p r) (covA t f p r) j (hn h r) := by
  unfold runCovs
  generalize hn h r = n
  induction n with
  | zero => rfl
  | succ n ih =>
    rw [List.range_succ, List.map_append, Ec.eff_append, ih]
    simp only [List.map_cons, List.map_nil, eff, gain, covM, legG]
    rw [if_neg (show ¬ (1 : Int) = j by omega)]
    split <;> omega
/-- what an office gets for a run -/
def offW (t : TimeD) (f : TariffD) (l : List OrderD) (p : PlanD) (h : List Int) (j : Int) (r : Nat) : Int := legG (Ec.lineP t p r) (covA t f p r + gainR f l p r l.length) j (hn h r)
theorem sumK_congr {a b : Nat → Int} : ∀ n, (∀ r, r < n → a r = b r) → sumK a n = sumK b n
  | 0, _ => rfl
  | n + 1, h => by
    simp only [sumK, sumK_congr n fun r hr => h r (by omega), h n (by omega)]
theorem catCovs_leg {j : Int} (hj : 3 ≤ j) : ∀ n, eff (cat (runCovs t f p h) n) j = sumK (fun r => legG (Ec.lineP t p r) (covA t f p r) j (hn h r)) n
  | 0 => rfl
  | n + 1 => by rw [cat_eff, catCovs_leg hj n, covs_leg hj]; rfl
theorem asked_want (hk : Ok t f l p h) (hR : p.Runs.length ≤ 70) (ha : 0 ≤ eff (pre t f l p h) 1) {j : Int} (hj : 3 ≤ j ∧ j < 27) : inn j (asked t f l p h) = sumK (offW t f l p h j) p.Runs.length := by
  have h1 := paid_eff hk j
  rw [wantK_sum] at h1
  have h2 := shs_no hk hR ha (j := j) (by omega) (by omega)
  have h3 := catCovs_leg (t := t) (f := f) (p := p) (h := h) (j := j) hj.1 p.Runs.length
  have h4 := asked_out hk hR ha (j := j) hj.1
  rw [if_neg (by omega)] at h4
  have h5 := eff_io j (asked t f l p h)
  have e5 : eff (asked t f l p h) j = eff (Ec.posts t f l p l.length) j + (eff (cat (runPays t f l p h) p.Runs.length) j + eff (cat (runCovs t f p h) p.Runs.length) j) + eff (shs (eff (pre t f l p h) 1) l.length) j := by
    unfold asked; rw [Ec.eff_append]
    conv => lhs; arg 1; unfold pre
    rw [Ec.eff_append, Ec.eff_append]
  have e6 : sumK (offW t f l p h j) p.Runs.length = sumK (fun r => legG (Ec.lineP t p r) (covA t f p r) j (hn h r) + Ec.wantR t f l p r (hn h r) j l.length) p.Runs.length := sumK_congr _ fun r _ => by
    unfold offW; rw [legG_add, wantR_gain hj]
  rw [sumK_add] at e6
  omega
theorem asked_from (hk : Ok t f l p h) (hR : p.Runs.length ≤ 70) (hl : l.length ≤ 64) (ha : 0 ≤ eff (pre t f l p h) 1) : ∀ m ∈ asked t f l p h, ¬ (3 ≤ m.From ∧ m.From < 27) := fun m hm => by
  have hp1 := pre_one hk hR
  unfold asked at hm
  rcases List.mem_append.1 hm with hm | hm
  · unfold pre at hm
    rcases List.mem_append.1 hm with hm | hm
    · have := posts_mv hk.e hR m hm; omega
    · rcases List.mem_append.1 hm with hm | hm
      · obtain ⟨r, hr, hm⟩ := cat_mem hm
        have := pays_mv hk hR hr m hm; omega
      · obtain ⟨r, hr, hm⟩ := cat_mem hm
        have := covs_mv hk hR hr m hm; omega
  · have := shs_mv (a := eff (pre t f l p h) 1) (n := l.length) ⟨ha, by omega⟩ hl m hm; omega
theorem offW_bd (hk : Ok t f l p h) (j : Int) {r : Nat} (hr : r < p.Runs.length) (hl : l.length ≤ 64) : 0 ≤ offW t f l p h j r ∧ offW t f l p h j r ≤ 1073741824 := by
  have h1 := covA_bd hk.e hr
  have h2 := Ec.gainR_bd hk.e (r : Int) l.length
  have h3 := Ec.legG_bd (Ec.lineP t p r) (show 0 ≤ covA t f p r + gainR f l p r l.length by omega) j (hn h r)
  have h4 := (hk.h r hr).1
  have h5 := line_ok hk.e hr
  have h6 := h5.l1
  have h7 := h5.o9
  have h8 : ((hn h r : Nat) : Int) * (covA t f p r + gainR f l p r l.length) ≤ 8 * 134217728 := Int.mul_le_mul (by omega) (by omega) (by omega) (by omega)
  unfold offW
  omega
theorem sumK_bd {g : Nat → Int} {c : Int} (hc : 0 ≤ c) : ∀ n : Nat, (∀ r, r < n → 0 ≤ g r ∧ g r ≤ c) → 0 ≤ sumK g n ∧ sumK g n ≤ n * c
  | 0, _ => by simp [sumK]
  | n + 1, h => by
    have h1 := sumK_bd hc n fun r hr => h r (by omega)
    have h2 := h n (by omega)
    simp only [sumK]
    rw [Int.natCast_add, Int.add_mul]
    omega
theorem inn_take1 {X : List MoveD} {k : Nat} (hk : k < X.length) (j : Int) : inn j (X.take (k + 1)) = inn j (X.take k) + if X[k].To = j then X[k].Amount else 0 := by
  rw [List.take_add_one, List.getElem?_eq_getElem hk, inn_append]; simp [inn]
theorem inn_bd : ∀ {X : List MoveD}, (∀ m ∈ X, 0 ≤ m.Amount ∧ m.Amount ≤ 1099511627776) → ∀ j, 0 ≤ inn j X ∧ inn j X ≤ 1099511627776 * X.length
  | [], _, j => by simp [inn]
  | m :: X, hm, j => by
    have := inn_bd (fun x hx => hm x (List.mem_cons_of_mem _ hx)) j
    have := hm m (List.mem_cons_self ..)
    simp only [inn, List.length_cons]
    split <;> omega
end
end Au
end Go.Fk
