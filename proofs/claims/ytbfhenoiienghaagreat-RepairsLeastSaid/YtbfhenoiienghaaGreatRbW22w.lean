import Derived.Test.YtbfhenoiienghaaGreatRbW22s
import Derived.Test.YtbfhenoiienghaaGreatRbW22j
import Derived.Test.YtbfhenoiienghaaGreatRbW20t
namespace Go.Fk
open Go
theorem Pl.ddF_snoc (a of : List RunD) (r : RunD) : Pl.ddF a (of ++ [r]) = if (Pl.ddF a of).contains r then Pl.ddF a of else Tt.insR r (Pl.ddF a of) := by simp [Pl.ddF]
theorem Pl.dd_snoc (of : List RunD) (r : RunD) : Pl.dd (of ++ [r]) = if (Pl.dd of).contains r then Pl.dd of else Tt.insR r (Pl.dd of) := Pl.ddF_snoc [] of r
theorem Pl.dd_lenle (of : List RunD) : (Pl.dd of).length ≤ of.length := by
  refine Pl.snoc_ind (P := fun of => (Pl.dd of).length ≤ of.length) (by simp [Pl.dd, Pl.ddF]) (fun a r h => ?_) of
  rw [Pl.dd_snoc]
  split
  · simp; omega
  · rw [(Tt.insR_perm r _).length_eq]; simp; exact h
end Go.Fk
namespace Go.Proofs.YtbfhenoiienghaaGreat
open Go Go.Fk
set_option linter.unusedSimpArgs false
set_option linter.unusedVariables false
set_option maxRecDepth 100000
end Go.Proofs.YtbfhenoiienghaaGreat
