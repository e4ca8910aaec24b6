/- Chapter 21: tariffs, in plain Lean. No program in sight. -/
import Derived.Test.YtoadfmgnpmcbfaaGreatApiT
set_option linter.unusedVariables false
namespace Go.Fk
open Go
namespace Tf
def price (n : Int) : Bool := decide (0 ≤ n ∧ n ≤ 1048576)
def tiersOk : Int → List TierD → Bool
  | _, [] => true
  | b, x :: r => decide (b < x.From) && price x.Extra && tiersOk x.From r
def okT (f : TariffD) : Bool := decide (f.Base.length = f.Leg.length ∧ 1 ≤ f.Base.length ∧ f.Base.length ≤ 8 ∧ f.Tiers.length ≤ 16) && f.Base.all price && f.Leg.all price && tiersOk 0 f.Tiers
def chk (f : TariffD) : Int := if okT f then 0 else 210
/-- what goes before a tier -/
def bef (l : List TierD) (k : Nat) : Int := if k = 0 then 0 else (l.getD (k - 1) default).From
theorem tiers_get : ∀ (l : List TierD) (b : Int), tiersOk b l = true ↔ ∀ k (h : k < l.length), (if k = 0 then b else (l.getD (k - 1) default).From) < l[k].From ∧ price l[k].Extra = true
  | [], b => by simp [tiersOk]
  | x :: r, b => by
    simp only [tiersOk, Bool.and_eq_true, decide_eq_true_eq, tiers_get r x.From]
    constructor
    · rintro ⟨⟨h1, h2⟩, h3⟩ k hk
      cases k with
      | zero => simpa using ⟨h1, h2⟩
      | succ k =>
        have := h3 k (by simpa using hk)
        cases k with
        | zero => simpa using this
        | succ k => simpa using this
    · intro h
      have h0 := h 0 (by simp)
      refine ⟨by simpa using h0, fun k hk => ?_⟩
      have := h (k + 1) (by simpa using hk)
      cases k with
      | zero => simpa using this
      | succ k => simpa using this
theorem tiers_at (l : List TierD) : tiersOk 0 l = true ↔ ∀ k (h : k < l.length), bef l k < l[k].From ∧ price l[k].Extra = true := tiers_get l 0
structure Ok (f : TariffD) : Prop where
  n : f.Base.length = f.Leg.length
  n1 : 1 ≤ f.Base.length
  n8 : f.Base.length ≤ 8
  t : f.Tiers.length ≤ 16
  b : ∀ x ∈ f.Base, 0 ≤ x ∧ x ≤ 1048576
  l : ∀ x ∈ f.Leg, 0 ≤ x ∧ x ≤ 1048576
  x : tiersOk 0 f.Tiers = true
theorem chk_ok {f : TariffD} (h : chk f = 0) : Ok f := by
  unfold chk at h
  split at h
  · rename_i h1
    simp only [okT, Bool.and_eq_true, decide_eq_true_eq, List.all_eq_true, price] at h1
    exact ⟨h1.1.1.1.1, h1.1.1.1.2.1, h1.1.1.1.2.2.1, h1.1.1.1.2.2.2, h1.1.1.2, h1.1.2, h1.2⟩
  · cases h
end Tf
end Go.Fk
