/- Worlds as they are drawn: what happens in them, in plain words; what keeps them bounded. -/
import Derived.Test.YtkpncekaehgbdaaZE
import Derived.Test.YtkpncekaehgbdaaZC
set_option linter.unusedVariables false
set_option linter.unusedSimpArgs false
namespace Go.Proofs.Ytkpncekaehgbdaa
namespace Av
open Go.RowKit
end Av
end Go.Proofs.Ytkpncekaehgbdaa
