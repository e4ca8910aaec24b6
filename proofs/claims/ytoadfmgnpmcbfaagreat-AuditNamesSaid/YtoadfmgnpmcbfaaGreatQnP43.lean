import Derived.Test.YtoadfmgnpmcbfaaGreatQnGq
set_option linter.unusedVariables false
set_option linter.unusedSimpArgs false
namespace Go.Fk
open Go
namespace Au
open Bk (lo)
open Ec (eff gain MvOk numd)
section
variable {t : TimeD} {f : TariffD} {l : List OrderD} {p : PlanD} {h : List Int}
theorem asked_nn (hK : Ok t f l p h) (hR : p.Runs.length ≤ 70) (hl : l.length ≤ 64) (hn : negAt (pre t f l p h) = false) (k : Nat) : 0 ≤ eff ((asked t f l p h).take k) 1 := by
  have hF : 0 ≤ eff (pre t f l p h) 1 := by
    have := negAt_no hn (pre t f l p h).length
    rwa [List.take_length] at this
  have hp1 := pre_one hK hR
  have hone := asked_one hK hR hF
  unfold asked
  rw [List.take_append, Ec.eff_append]
  by_cases hkl : k ≤ (pre t f l p h).length
  · rw [show k - (pre t f l p h).length = 0 by omega, List.take_zero]
    have := negAt_no hn k
    simp only [eff]; omega
  · rw [List.take_of_length_le (l := pre t f l p h) (by omega)]
    unfold asked at hone
    rw [Ec.eff_append] at hone
    have hsm := shs_mv (a := eff (pre t f l p h) 1) (n := l.length) ⟨hF, by omega⟩ hl
    have h1 := out_take 1 (l := shs (eff (pre t f l p h) 1) l.length) (fun m hm => (hsm m hm).1.2.2.2.1.1) (k - (pre t f l p h).length)
    have h2 : inn 1 (shs (eff (pre t f l p h) 1) l.length) = 0 := inn_no 1 fun m hm => by have := hsm m hm; omega
    have h3 : inn 1 ((shs (eff (pre t f l p h) 1) l.length).take (k - (pre t f l p h).length)) = 0 := inn_no 1 fun m hm => by have := hsm m (List.mem_of_mem_take hm); omega
    rw [eff_io 1 (shs _ _)] at hone
    rw [eff_io 1 ((shs _ _).take _)]
    omega
theorem all_ok (h0 : (all t f l p h).2 = 0) : err t f l p h = 0 ∧ negAt (pre t f l p h) = false ∧ all t f l p h = (num 0 (asked t f l p h), 0) := by
  have h0' := h0
  unfold all at h0
  split at h0
  · rename_i e; exact (e h0).elim
  · rename_i e
    split at h0
    · cases h0
    · rename_i e2
      refine ⟨by simpa using e, by simpa using e2, ?_⟩
      unfold all; rw [if_neg e, if_neg e2]
theorem check_yes (h0 : (all t f l p h).2 = 0) (hR : p.Runs.length ≤ 70) (hl : l.length ≤ 64) (m : List MoveD) : (check t f l p h m).2 = (decide (m = (all t f l p h).1), 0) := by
  obtain ⟨he, hn, ha⟩ := all_ok h0
  have hK := err_ok he
  unfold check
  rw [if_neg (by simp [he]), ← scan_asked, ha]
  have h1 := scan_ok (num 0 (asked t f l p h)) m 0 0
  have h2 : (scan 0 0 (num 0 (asked t f l p h)) m).2 = decide (m = num 0 (asked t f l p h)) := by
    rw [Bool.eq_iff_iff, h1, decide_eq_true_eq]
    refine ⟨fun x => x.1, fun x => ⟨x, fun k hk => ?_⟩⟩
    rw [num_take, num_eff]
    have := asked_nn hK hR hl hn (k + 1)
    omega
  simp [h2]
end
end Au
end Go.Fk
