import Derived.Test.YthengmdnikaooaaGreatQhW22x
namespace Go.Fk
open Go
structure RawS where
  v : Value
instance : Enc RawS where
  n := 1
  rep _ cs x := cs = [x.v] ∧ IsS x.v
  len _ _ _ h := by rw [h.1]; rfl
  ext _ _ _ _ _ h := h
instance : Flat RawS := ⟨fun _ _ _ _ h => h, fun _ _ _ h => by rw [h.1]; simpa using isS_o h.2⟩
end Go.Fk
namespace Go.Proofs.YthengmdnikaooaaGreat
open Go Go.Fk
set_option linter.unusedSimpArgs false
set_option linter.unusedVariables false
set_option maxRecDepth 100000
end Go.Proofs.YthengmdnikaooaaGreat
