import Derived.Test.YtbfhenoiienghaaGreatReW22m
import Derived.Test.YtbfhenoiienghaaGreatReGs
namespace Go.Proofs.YtbfhenoiienghaaGreat
open Go Go.Fk
set_option linter.unusedSimpArgs false
set_option linter.unusedVariables false
set_option maxRecDepth 100000
end Go.Proofs.YtbfhenoiienghaaGreat
