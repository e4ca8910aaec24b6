import Derived.Test.YtbfhenoiienghaaGreatRaW22s
import Derived.Test.YtbfhenoiienghaaGreatRaW22q
namespace Go.Proofs.YtbfhenoiienghaaGreat
open Go Go.Fk
set_option linter.unusedSimpArgs false
set_option linter.unusedVariables false
set_option maxRecDepth 100000
end Go.Proofs.YtbfhenoiienghaaGreat
