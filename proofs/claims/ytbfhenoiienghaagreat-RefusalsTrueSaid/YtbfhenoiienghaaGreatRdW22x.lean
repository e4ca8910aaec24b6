import Derived.Test.YtbfhenoiienghaaGreatRdW22w
import Derived.Test.YtbfhenoiienghaaGreatRdW22u
import Derived.Test.YtbfhenoiienghaaGreatRdGs
import Derived.Test.YtbfhenoiienghaaGreatRdGe
namespace Go.Proofs.YtbfhenoiienghaaGreat
open Go Go.Fk
set_option linter.unusedSimpArgs false
set_option linter.unusedVariables false
set_option maxRecDepth 100000
section
variable {vl u0 u1 u2 vo vO : Value} {t : TimeD} {f : TariffD} {l : List OrderD} {covers : Int} {opts : List (List RunD)}
end
end Go.Proofs.YtbfhenoiienghaaGreat
