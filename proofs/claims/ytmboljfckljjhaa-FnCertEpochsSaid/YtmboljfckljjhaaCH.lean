/- What the laws FnCertEpochs, FnCertAgain need of contracts. -/
import Derived.Test.YtmboljfckljjhaaCJ
import Derived.Test.YtmboljfckljjhaaQ4
set_option linter.unusedVariables false
set_option linter.unusedSimpArgs false
namespace Go.Proofs.Ytmboljfckljjhaa
namespace Av
open Go.RowKit

/-- The last item's epoch is later by one. -/
def lateC (c : List It) (d : It) : List It := c.set (c.length - 1) ⟨d.e + 1, d.p⟩
/-- Without the last item but one. -/
def skipC (c : List It) (d : It) : List It := c.take (c.length - 2) ++ [d]
end Av
end Go.Proofs.Ytmboljfckljjhaa
