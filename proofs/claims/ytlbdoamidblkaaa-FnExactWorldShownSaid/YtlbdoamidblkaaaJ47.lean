/- Texts of the layer, joined. -/
import Derived.Test.YtlbdoamidblkaaaCJ
import Derived.Test.YtlbdoamidblkaaaD1
import Derived.Test.YtlbdoamidblkaaaProg
import Derived.KernelRfl
import Derived.Test.YtlbdoamidblkaaaU2
import Derived.Test.YtlbdoamidblkaaaFC
set_option linter.unusedVariables false
set_option linter.unusedSimpArgs false
namespace Go.Proofs.Ytlbdoamidblkaaa
namespace Av
end Av
end Go.Proofs.Ytlbdoamidblkaaa

namespace Go.Proofs.Ytlbdoamidblkaaa
namespace Av
open Go.RowKit
end Av
end Go.Proofs.Ytlbdoamidblkaaa

