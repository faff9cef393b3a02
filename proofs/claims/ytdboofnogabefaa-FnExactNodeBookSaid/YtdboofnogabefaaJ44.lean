/- Texts of the layer, joined. -/
import Derived.Test.YtdboofnogabefaaJ8
import Derived.Test.YtdboofnogabefaaD1
import Derived.Test.YtdboofnogabefaaProg
import Derived.KernelRfl
import Derived.Test.YtdboofnogabefaaW0
import Derived.Test.YtdboofnogabefaaG2
import Derived.Test.YtdboofnogabefaaJ27
set_option linter.unusedVariables false
set_option linter.unusedSimpArgs false
namespace Go.Proofs.Ytdboofnogabefaa
namespace Av
end Av
end Go.Proofs.Ytdboofnogabefaa

namespace Go.Proofs.Ytdboofnogabefaa
namespace Av
open Go.RowKit
end Av
end Go.Proofs.Ytdboofnogabefaa
/- The walks: drawn payments and chains. -/
namespace Go.Proofs.Ytdboofnogabefaa
namespace Av
open Go.RowKit
attribute [local irreducible] Valid ValidM
end Av
end Go.Proofs.Ytdboofnogabefaa
/- The walks: two drawn chains, a drawn vote, votes anew and one more. -/
namespace Go.Proofs.Ytdboofnogabefaa
namespace Av
open Go.RowKit
end Av
end Go.Proofs.Ytdboofnogabefaa
/- The walks: drawn votes. -/
namespace Go.Proofs.Ytdboofnogabefaa
namespace Av
open Go.RowKit
end Av
end Go.Proofs.Ytdboofnogabefaa
/- The walks: votes drawn, some spoilt; the drawing functions of the laws. -/
namespace Go.Proofs.Ytdboofnogabefaa
namespace Av
open Go.RowKit
theorem fit16 {c : List It} (h : c.length ≤ 16) : c.length ≤ LIM := Nat.le_trans h (by decide)
end Av
end Go.Proofs.Ytdboofnogabefaa

namespace Go.Proofs.Ytdboofnogabefaa
namespace Av
open Go.RowKit
attribute [local irreducible] Valid ValidM
end Av
end Go.Proofs.Ytdboofnogabefaa

