/- Texts of the layer, joined. -/
import Derived.Test.YtfijfccgghhkoaaJ42
import Derived.Test.YtfijfccgghhkoaaJ22
import Derived.Test.YtfijfccgghhkoaaZG
import Derived.Test.YtfijfccgghhkoaaWB
import Derived.Test.YtfijfccgghhkoaaJ19
set_option linter.unusedVariables false
set_option linter.unusedSimpArgs false
namespace Go.Proofs.Ytfijfccgghhkoaa
namespace Av
open Go.RowKit
attribute [local irreducible] Valid ValidM
end Av
end Go.Proofs.Ytfijfccgghhkoaa

namespace Go.Proofs.Ytfijfccgghhkoaa
namespace Av
open Go.RowKit
end Av
end Go.Proofs.Ytfijfccgghhkoaa

namespace Go.Proofs.Ytfijfccgghhkoaa
namespace Av
open Go.RowKit
theorem arA_at {α : Type} {F : α → List FV} {l : List α} {i : Nat} {x : α} (h : l[i]? = some x) : (arA F l)[i]? = some ((F x).map AC.c) := by
  simp only [arA, List.getElem?_map, h, Option.map_some]
end Av
end Go.Proofs.Ytfijfccgghhkoaa

