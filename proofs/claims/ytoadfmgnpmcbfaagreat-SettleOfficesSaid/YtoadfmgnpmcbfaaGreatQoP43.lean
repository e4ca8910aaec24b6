import Derived.Test.YtoadfmgnpmcbfaaGreatQoGq
/- Chapter 42: what settle.All returns, and what audit.Check accepts, in plain Lean. -/
set_option linter.unusedVariables false
set_option linter.unusedSimpArgs false
namespace Go.Fk
open Go
namespace Au
open Bk (lo)
open Ec (eff gain MvOk numd)
section
variable {t : TimeD} {f : TariffD} {l : List OrderD} {p : PlanD} {h : List Int}
/-- no stop: the book is what is asked -/
theorem all_ok (h0 : (all t f l p h).2 = 0) : err t f l p h = 0 ∧ negAt (pre t f l p h) = false ∧ all t f l p h = (num 0 (asked t f l p h), 0) := by
  have h0' := h0
  unfold all at h0
  split at h0
  · rename_i e; exact (e h0).elim
  · rename_i e
    split at h0
    · cases h0
    · rename_i e2
      refine ⟨by simpa using e, by simpa using e2, ?_⟩
      unfold all; rw [if_neg e, if_neg e2]
end
end Au
end Go.Fk
