/- The walks: TreeAll, VotesFor, copies of votes, lists turned round, votes added. -/
import Derived.Test.YtdboofnogabefaaG4
import Derived.Test.YtdboofnogabefaaK0
set_option linter.unusedVariables false
set_option linter.unusedSimpArgs false
namespace Go.Proofs.Ytdboofnogabefaa
namespace Av
open Go.RowKit
attribute [local irreducible] Valid ValidM
end Av
end Go.Proofs.Ytdboofnogabefaa
