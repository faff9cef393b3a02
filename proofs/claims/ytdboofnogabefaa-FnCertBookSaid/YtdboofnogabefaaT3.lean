/- The walks: drawn votes for tips and what is final. -/
import Derived.Test.YtdboofnogabefaaT2
import Derived.Test.YtdboofnogabefaaG5
import Derived.Test.YtdboofnogabefaaK0
set_option linter.unusedVariables false
set_option linter.unusedSimpArgs false
namespace Go.Proofs.Ytdboofnogabefaa
namespace Av
open Go.RowKit
end Av
end Go.Proofs.Ytdboofnogabefaa
