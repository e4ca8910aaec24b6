import Derived.Test.YtbfhenoiienghaaGreatReW22s
import Derived.Test.YtbfhenoiienghaaGreatReW22j
import Derived.Test.YtbfhenoiienghaaGreatReW20t
namespace Go.Fk
open Go
end Go.Fk
namespace Go.Proofs.YtbfhenoiienghaaGreat
open Go Go.Fk
set_option linter.unusedSimpArgs false
set_option linter.unusedVariables false
set_option maxRecDepth 100000
end Go.Proofs.YtbfhenoiienghaaGreat
