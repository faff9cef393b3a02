/- Texts of the layer, joined. -/
import Derived.Test.YtkpncekaehgbdaaJ28
import Derived.Test.YtkpncekaehgbdaaP1
import Derived.Test.YtkpncekaehgbdaaT0
import Derived.Test.YtkpncekaehgbdaaD1
import Derived.Test.YtkpncekaehgbdaaProg
import Derived.KernelRfl
set_option linter.unusedVariables false
set_option linter.unusedSimpArgs false
namespace Go.Proofs.Ytkpncekaehgbdaa
namespace Av
open Go.RowKit
attribute [local irreducible] Valid ValidM
end Av
end Go.Proofs.Ytkpncekaehgbdaa

namespace Go.Proofs.Ytkpncekaehgbdaa
namespace Av
end Av
end Go.Proofs.Ytkpncekaehgbdaa

namespace Go.Proofs.Ytkpncekaehgbdaa
namespace Av
open Go.RowKit
/-- How a sure chain begins is sure. -/
theorem Sure.take {l : List Vo} {c : List It} (h : Sure l c) (k : Nat) : Sure l (c.take k) := by
  intro n h1 h2
  simp only [List.length_take] at h2
  unfold SureAt
  rw [List.take_take, Nat.min_eq_left (by omega)]
  exact h n h1 (by omega)
end Av
end Go.Proofs.Ytkpncekaehgbdaa

namespace Go.Proofs.Ytkpncekaehgbdaa
namespace Av
open Go.RowKit
attribute [local irreducible] Valid ValidM
end Av
end Go.Proofs.Ytkpncekaehgbdaa

