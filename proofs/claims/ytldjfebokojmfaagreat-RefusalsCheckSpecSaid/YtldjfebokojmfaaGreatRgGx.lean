import Derived.Test.YtldjfebokojmfaaGreatRgW22m
import Derived.Test.YtldjfebokojmfaaGreatRgGs
import Derived.Test.YtldjfebokojmfaaGreatRgHh
namespace Go.Proofs.YtldjfebokojmfaaGreat
open Go Go.Fk
set_option linter.unusedSimpArgs false
set_option linter.unusedVariables false
set_option maxRecDepth 100000
end Go.Proofs.YtldjfebokojmfaaGreat
namespace Go.Proofs.YtldjfebokojmfaaGreat
open Go Go.Fk
set_option linter.unusedSimpArgs false
set_option linter.unusedVariables false
set_option maxRecDepth 100000
theorem OpB.at_ {W0 w w9 : World} {vb : Value} {opts : List (List RunD)} {q : Nat} (O : OpB W0 w vb opts q) (x : Ext w w9) : ∃ rs : List RawS, BufO (α := RawS) 59 W0.heap.size w9 vb rs ∧ rs.length = q ∧ (∀ k (h1 : k < rs.length) (h2 : k < opts.length), BufO (α := RunD) 34 0 w9 rs[k].v opts[k]) ∧ Ext W0 w9 ∧ W0.heap.size ≤ w9.heap.size := by
  obtain ⟨rs, c1, c2, c3⟩ := O.b
  have k := Keep.of_ext (S := fun _ => True) x
  exact ⟨rs, c1.keepQ k fun _ _ => trivial, c2, fun i h1 h2 => (c3 i h1 h2).keepQ k fun _ _ => trivial, O.e.trans x, (O.e.trans x).size⟩
theorem OpB.put {W0 w9 w10 : World} {vb v9 v10 : Value} {opts : List (List RunD)} {q : Nat} {rs : List RawS} {xs : List RunD} (x : Ext W0 w9) (c1 : BufO (α := RawS) 59 W0.heap.size w9 vb rs) (c2 : rs.length = q) (c3 : ∀ k (h1 : k < rs.length) (h2 : k < opts.length), BufO (α := RunD) 34 0 w9 rs[k].v opts[k])
    (b9 : BufO (α := RunD) 34 0 w9 v9 xs) (hx : ∀ h : q < opts.length, opts[q] = xs) (b10 : BufO (α := RawS) 59 W0.heap.size w10 v10 (rs ++ [⟨v9⟩])) (k10 : Keep (fun k => some k ≠ vb.ownBlock) w9 w10) : OpB W0 w10 v10 opts (q + 1) := by
  refine ⟨Keep.ext x k10 fun k hk e => by have := (c1.own_lt e.symm).1; omega, rs ++ [⟨v9⟩], b10, by simp [c2], fun k h1 h2 => ?_⟩
  by_cases hk : k < rs.length
  · rw [List.getElem_append_left hk]
    have d := c3 k hk h2
    exact d.keepQ k10 fun g hg => d.ne2 c1 (by decide) hg
  · have e : k = q := by simp at h1; omega
    subst e
    rw [hx h2, List.getElem_append_right (by omega)]
    simp only [c2, Nat.sub_self, List.getElem_cons_zero]
    exact b9.keepQ k10 fun g hg => b9.ne2 c1 (by decide) hg
theorem OpB.sl {W0 w : World} {vb : Value} {opts : List (List RunD)} {q : Nat} (O : OpB W0 w vb opts q) (hq : opts.length = q) (hn : q ≤ 1000000) (hs : ∀ o ∈ opts, o.length ≤ 1000000) : Sl w vb opts := by
  obtain ⟨rs, b1, b2, b3⟩ := O.b
  exact (b1.sl (by omega)).lists (by omega) fun i h1 h2 => (b3 i h1 h2).sl (by have := hs _ (List.getElem_mem h2); omega)
end Go.Proofs.YtldjfebokojmfaaGreat
