import Derived.Test.YtbfhenoiienghaaGreatRbW22w
import Derived.Test.YtbfhenoiienghaaGreatRbW22u
import Derived.Test.YtbfhenoiienghaaGreatRbGs
import Derived.Test.YtbfhenoiienghaaGreatRbGe
namespace Go.Proofs.YtbfhenoiienghaaGreat
open Go Go.Fk
set_option linter.unusedSimpArgs false
set_option linter.unusedVariables false
set_option maxRecDepth 100000
section
variable {vl u0 u1 u2 vo vO : Value} {t : TimeD} {f : TariffD} {l : List OrderD} {covers : Int} {opts : List (List RunD)}
end
end Go.Proofs.YtbfhenoiienghaaGreat
