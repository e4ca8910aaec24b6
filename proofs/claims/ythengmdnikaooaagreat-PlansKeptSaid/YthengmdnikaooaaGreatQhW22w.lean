import Derived.Test.YthengmdnikaooaaGreatQhW22s
import Derived.Test.YthengmdnikaooaaGreatQhW22j
import Derived.Test.YthengmdnikaooaaGreatQhW20t
namespace Go.Fk
open Go
end Go.Fk
namespace Go.Proofs.YthengmdnikaooaaGreat
open Go Go.Fk
set_option linter.unusedSimpArgs false
set_option linter.unusedVariables false
set_option maxRecDepth 100000
end Go.Proofs.YthengmdnikaooaaGreat
