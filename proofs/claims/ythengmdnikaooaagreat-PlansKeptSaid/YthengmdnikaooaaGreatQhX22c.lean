import Derived.Test.YthengmdnikaooaaGreatQhX22b
import Derived.Test.YthengmdnikaooaaGreatQhGs
import Derived.Test.YthengmdnikaooaaGreatQhGe
namespace Go.Proofs.YthengmdnikaooaaGreat
open Go Go.Fk
set_option linter.unusedSimpArgs false
set_option linter.unusedVariables false
set_option maxRecDepth 100000
section
variable {vl u0 u1 u2 vo v0 v1 v2 g : Value} {t : TimeD} {f : TariffD} {l : List OrderD} {o : OrderD} {r : RunD} {p : PlanD} {covers : Int} {w : World} {K : Value → World → Prop}
end
end Go.Proofs.YthengmdnikaooaaGreat
