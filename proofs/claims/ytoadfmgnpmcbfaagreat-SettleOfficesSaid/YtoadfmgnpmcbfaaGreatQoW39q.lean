import Derived.Test.YtoadfmgnpmcbfaaGreatQoW39r
/- Chapter 39: the reference's Price, Post. -/
namespace Go.Proofs.YtoadfmgnpmcbfaaGreat
open Go Go.Fk
set_option linter.unusedSimpArgs false
set_option linter.unusedVariables false
set_option maxRecDepth 100000
end Go.Proofs.YtoadfmgnpmcbfaaGreat
/- Chapter 39: the reference's Pay. -/
namespace Go.Proofs.YtoadfmgnpmcbfaaGreat
open Go Go.Fk
set_option linter.unusedSimpArgs false
set_option linter.unusedVariables false
set_option maxRecDepth 100000
end Go.Proofs.YtoadfmgnpmcbfaaGreat
