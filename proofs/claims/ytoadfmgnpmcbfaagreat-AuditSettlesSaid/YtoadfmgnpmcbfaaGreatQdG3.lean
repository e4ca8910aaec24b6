import Derived.Test.YtoadfmgnpmcbfaaGreatQdW22e
import Derived.Test.YtoadfmgnpmcbfaaGreatQdW20x
/- Chapters 18, 21, 22: the references' Right, Price, Error, fits, Load. -/
namespace Go.Proofs.YtoadfmgnpmcbfaaGreat
open Go Go.Fk
set_option linter.unusedSimpArgs false
set_option linter.unusedVariables false
set_option maxRecDepth 100000
end Go.Proofs.YtoadfmgnpmcbfaaGreat
/- Chapters 18, 22: the references' Right, Error and fits. -/
namespace Go.Proofs.YtoadfmgnpmcbfaaGreat
open Go Go.Fk
set_option linter.unusedSimpArgs false
set_option linter.unusedVariables false
set_option maxRecDepth 100000
end Go.Proofs.YtoadfmgnpmcbfaaGreat
/- Chapter 22: the reference's fits and Check. -/
namespace Go.Proofs.YtoadfmgnpmcbfaaGreat
open Go Go.Fk
set_option linter.unusedSimpArgs false
set_option linter.unusedVariables false
set_option maxRecDepth 100000
end Go.Proofs.YtoadfmgnpmcbfaaGreat
