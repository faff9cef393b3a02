/- The walks: votes drawn, some spoilt; the drawing functions of the laws. -/
import Derived.Test.YtmboljfckljjhaaK3
set_option linter.unusedVariables false
set_option linter.unusedSimpArgs false
namespace Go.Proofs.Ytmboljfckljjhaa
namespace Av
open Go.RowKit

theorem cost_Spoilt : S_spec_l71Spoilt.cost = 6000 := rfl
theorem cost_Some : S_spec_l71Some.cost = 7000 := rfl
theorem cost_Open : S_spec_l6Open.cost = 0 := rfl
theorem cost_l1Copy : S_spec_l1Copy.cost = 0 := rfl
theorem fit16 {c : List It} (h : c.length ≤ 16) : c.length ≤ LIM := Nat.le_trans h (by decide)

end Av
end Go.Proofs.Ytmboljfckljjhaa
