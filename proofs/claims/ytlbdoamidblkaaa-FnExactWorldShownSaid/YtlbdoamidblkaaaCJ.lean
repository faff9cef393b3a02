/- The contract of what is final of a cert, of one's own. -/
import Derived.Test.YtlbdoamidblkaaaU0
import Derived.Test.YtlbdoamidblkaaaJ15
set_option linter.unusedVariables false
set_option linter.unusedSimpArgs false
namespace Go.Proofs.Ytlbdoamidblkaaa
namespace Av
open Go.RowKit
end Av
end Go.Proofs.Ytlbdoamidblkaaa
