/- What the laws on drawn trees share: remainders, lists of sure chains. -/
import Derived.Test.YtdboofnogabefaaT2
set_option linter.unusedVariables false
set_option linter.unusedSimpArgs false
namespace Go.Proofs.Ytdboofnogabefaa
namespace Av
open Go.RowKit
end Av
end Go.Proofs.Ytdboofnogabefaa
