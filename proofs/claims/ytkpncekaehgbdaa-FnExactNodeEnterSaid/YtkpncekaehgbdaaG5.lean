/- The walks: TreeAll, VotesFor, copies of votes, lists turned round, votes added. -/
import Derived.Test.YtkpncekaehgbdaaJ29
import Derived.Test.YtkpncekaehgbdaaK0
set_option linter.unusedVariables false
set_option linter.unusedSimpArgs false
namespace Go.Proofs.Ytkpncekaehgbdaa
namespace Av
open Go.RowKit
attribute [local irreducible] Valid ValidM
end Av
end Go.Proofs.Ytkpncekaehgbdaa
