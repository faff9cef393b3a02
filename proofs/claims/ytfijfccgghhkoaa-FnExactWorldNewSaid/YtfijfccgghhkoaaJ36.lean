/- Texts of the layer, joined. -/
import Derived.Test.YtfijfccgghhkoaaO0
import Derived.Test.YtfijfccgghhkoaaJ13
import Derived.Test.YtfijfccgghhkoaaProg
import Derived.KernelRfl
import Derived.Test.YtfijfccgghhkoaaJ31
set_option linter.unusedVariables false
set_option linter.unusedSimpArgs false
namespace Go.Proofs.Ytfijfccgghhkoaa
namespace Av
end Av
end Go.Proofs.Ytfijfccgghhkoaa

namespace Go.Proofs.Ytfijfccgghhkoaa
namespace Av
end Av
end Go.Proofs.Ytfijfccgghhkoaa

namespace Go.Proofs.Ytfijfccgghhkoaa
namespace Av
end Av
end Go.Proofs.Ytfijfccgghhkoaa

namespace Go.Proofs.Ytfijfccgghhkoaa
namespace Av
open Go.RowKit
/-- How a sure chain begins is sure. -/
theorem Sure.take {l : List Vo} {c : List It} (h : Sure l c) (k : Nat) : Sure l (c.take k) := by
  intro n h1 h2
  simp only [List.length_take] at h2
  unfold SureAt
  rw [List.take_take, Nat.min_eq_left (by omega)]
  exact h n h1 (by omega)
end Av
end Go.Proofs.Ytfijfccgghhkoaa

