import Derived.Test.YtoadfmgnpmcbfaaGreatQdG3
import Derived.Test.YtoadfmgnpmcbfaaGreatQdW22f
import Derived.Test.YtoadfmgnpmcbfaaGreatQdGe
import Derived.Test.YtoadfmgnpmcbfaaGreatQdGb
/- Chapter 22: the reference's Check. -/
namespace Go.Proofs.YtoadfmgnpmcbfaaGreat
open Go Go.Fk
set_option linter.unusedSimpArgs false
set_option linter.unusedVariables false
set_option maxRecDepth 100000
end Go.Proofs.YtoadfmgnpmcbfaaGreat
