import Derived.Test.YtldjfebokojmfaaGreatRgW23h
import Derived.Test.YtldjfebokojmfaaGreatRgHh
import Derived.Test.YtldjfebokojmfaaGreatRgP23
import Derived.Test.YtldjfebokojmfaaGreatRgGs
import Derived.Test.YtldjfebokojmfaaGreatRgHe
import Derived.Test.YtldjfebokojmfaaGreatRgW23f
namespace Go.Fk
open Go
end Go.Fk
namespace Go.Proofs.YtldjfebokojmfaaGreat
open Go Go.Fk
set_option linter.unusedSimpArgs false
set_option linter.unusedVariables false
set_option maxRecDepth 100000
structure SetB (B : Nat) (w : World) (v : Value) (S : List (List Int)) : Prop where
  ex : ∃ rs : List RawS, BufO (α := RawS) 25 B w v rs ∧ rs.length = S.length ∧ ∀ i (h1 : i < rs.length) (h2 : i < S.length), BufO (α := Int) 3 0 w rs[i].v S[i]
theorem SetB.nil {B : Nat} {w : World} : SetB B w (.slice none 0 0) [] := ⟨[], BufO.nil, rfl, fun i h => by simp at h⟩
theorem SetB.ext {B : Nat} {w w' : World} {v : Value} {S : List (List Int)} (h : SetB B w v S) (x : Ext w w') : SetB B w' v S := by
  obtain ⟨rs, a, b, c⟩ := h.ex
  exact ⟨rs, a.keepQ (Keep.of_ext (S := fun _ => True) x) fun _ _ => trivial, b, fun i h1 h2 => (c i h1 h2).keepQ (Keep.of_ext (S := fun _ => True) x) fun _ _ => trivial⟩
theorem SetB.sl {B : Nat} {w : World} {v : Value} {S : List (List Int)} (h : SetB B w v S) (hn : S.length ≤ 100000000) (hm : ∀ s ∈ S, s.length ≤ 1000) : Sl w v S := by
  obtain ⟨rs, a, b, c⟩ := h.ex
  exact Sl.lists (a.sl (by omega)) b fun i h1 h2 => (c i h1 h2).sl (by have := hm _ (List.getElem_mem h2); omega)
end Go.Proofs.YtldjfebokojmfaaGreat
set_option linter.unusedVariables false
set_option linter.unusedSimpArgs false
namespace Go.Fk
open Go
namespace Rf
section
variable {t : TimeD} {f : TariffD} {l : List OrderD} {covers : Int}
end
end Rf
end Go.Fk
