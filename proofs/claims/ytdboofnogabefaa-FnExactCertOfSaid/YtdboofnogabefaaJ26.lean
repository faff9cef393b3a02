/- Texts of the layer, joined. -/
import Derived.Test.YtdboofnogabefaaJ9
import Derived.Test.YtdboofnogabefaaD1
import Derived.Test.YtdboofnogabefaaProg
import Derived.KernelRfl
import Derived.Test.YtdboofnogabefaaG2
import Derived.Test.YtdboofnogabefaaP1
set_option linter.unusedVariables false
set_option linter.unusedSimpArgs false
namespace Go.Proofs.Ytdboofnogabefaa
namespace Av
end Av
end Go.Proofs.Ytdboofnogabefaa

namespace Go.Proofs.Ytdboofnogabefaa
namespace Av
open Go.RowKit
def ix1 : AV → Nat
  | .w (.o (.c (.v (.int _ n)))) => (n + 1).toNat
  | _ => 0
attribute [local irreducible] Valid ValidM
end Av
end Go.Proofs.Ytdboofnogabefaa

