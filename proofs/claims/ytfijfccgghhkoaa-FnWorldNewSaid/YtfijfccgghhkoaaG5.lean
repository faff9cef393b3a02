/- The walks: TreeAll, VotesFor, copies of votes, lists turned round, votes added. -/
import Derived.Test.YtfijfccgghhkoaaG4
import Derived.Test.YtfijfccgghhkoaaK0
set_option linter.unusedVariables false
set_option linter.unusedSimpArgs false
namespace Go.Proofs.Ytfijfccgghhkoaa
namespace Av
open Go.RowKit
attribute [local irreducible] Valid ValidM
end Av
end Go.Proofs.Ytfijfccgghhkoaa
