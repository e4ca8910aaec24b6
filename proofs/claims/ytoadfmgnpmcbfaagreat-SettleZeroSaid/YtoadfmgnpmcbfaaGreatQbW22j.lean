import Derived.Test.YtoadfmgnpmcbfaaGreatQbG3
import Derived.Test.YtoadfmgnpmcbfaaGreatQbW22f
import Derived.Test.YtoadfmgnpmcbfaaGreatQbGe
import Derived.Test.YtoadfmgnpmcbfaaGreatQbGb
/- Chapter 22: the reference's Check. -/
namespace Go.Proofs.YtoadfmgnpmcbfaaGreat
open Go Go.Fk
set_option linter.unusedSimpArgs false
set_option linter.unusedVariables false
set_option maxRecDepth 100000
end Go.Proofs.YtoadfmgnpmcbfaaGreat
