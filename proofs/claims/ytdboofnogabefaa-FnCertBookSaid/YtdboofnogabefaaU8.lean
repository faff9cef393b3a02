/- The walks: a cert's votes, as the specification has them. -/
import Derived.Test.YtdboofnogabefaaU2
import Derived.Test.YtdboofnogabefaaP4
set_option linter.unusedVariables false
set_option linter.unusedSimpArgs false
namespace Go.Proofs.Ytdboofnogabefaa
namespace Av
open Go.RowKit
end Av
end Go.Proofs.Ytdboofnogabefaa
