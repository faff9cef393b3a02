/- Texts of the layer, joined. -/
import Derived.Test.YtfijfccgghhkoaaJ13
import Derived.Test.YtfijfccgghhkoaaJ22
import Derived.Test.YtfijfccgghhkoaaProg
import Derived.KernelRfl
set_option linter.unusedVariables false
set_option linter.unusedSimpArgs false
namespace Go.Proofs.Ytfijfccgghhkoaa
namespace Av
open Go.RowKit
/-! ### worlds -/
def WInv (w : Wo) : Prop := In w.ep 0 30 ∧ In w.bad 0 4 ∧ w.nodes.length = 4 ∧ SeenB w.log ∧ ∀ n, n ∈ w.nodes → NdB n
def setN (w : Wo) (i : Nat) (n : Nd) : Wo := ⟨w.ep, w.nodes.set i n, w.log, w.bad⟩
end Av
end Go.Proofs.Ytfijfccgghhkoaa

namespace Go.Proofs.Ytfijfccgghhkoaa
namespace Av
open Go.RowKit
end Av
end Go.Proofs.Ytfijfccgghhkoaa

namespace Go.Proofs.Ytfijfccgghhkoaa
namespace Av
open Go.RowKit
end Av
end Go.Proofs.Ytfijfccgghhkoaa

namespace Go.Proofs.Ytfijfccgghhkoaa
namespace Av
end Av
end Go.Proofs.Ytfijfccgghhkoaa

