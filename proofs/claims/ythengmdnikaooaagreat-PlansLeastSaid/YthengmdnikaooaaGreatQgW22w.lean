import Derived.Test.YthengmdnikaooaaGreatQgW22s
import Derived.Test.YthengmdnikaooaaGreatQgW22j
import Derived.Test.YthengmdnikaooaaGreatQgW20t
namespace Go.Fk
open Go
end Go.Fk
namespace Go.Proofs.YthengmdnikaooaaGreat
open Go Go.Fk
set_option linter.unusedSimpArgs false
set_option linter.unusedVariables false
set_option maxRecDepth 100000
end Go.Proofs.YthengmdnikaooaaGreat
