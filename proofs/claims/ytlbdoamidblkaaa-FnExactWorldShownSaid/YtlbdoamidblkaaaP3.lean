/- What the laws on drawn trees share: remainders, lists of sure chains. -/
import Derived.Test.YtlbdoamidblkaaaT2
set_option linter.unusedVariables false
set_option linter.unusedSimpArgs false
namespace Go.Proofs.Ytlbdoamidblkaaa
namespace Av
open Go.RowKit
end Av
end Go.Proofs.Ytlbdoamidblkaaa
