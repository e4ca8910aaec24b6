import Derived.Test.YtoadfmgnpmcbfaaGreatQdW39r
import Derived.Test.YtoadfmgnpmcbfaaGreatQdGq
/- Chapter 42: the reference's bit, cheapest, Fund, ask, Error. -/
namespace Go.Proofs.YtoadfmgnpmcbfaaGreat
open Go Go.Fk
set_option linter.unusedSimpArgs false
set_option linter.unusedVariables false
set_option maxRecDepth 100000
end Go.Proofs.YtoadfmgnpmcbfaaGreat
