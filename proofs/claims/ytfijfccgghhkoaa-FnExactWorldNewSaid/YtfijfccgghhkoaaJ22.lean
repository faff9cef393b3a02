/- Texts of the layer, joined. -/
import Derived.Test.YtfijfccgghhkoaaJ21
import Derived.Test.YtfijfccgghhkoaaJ13
import Derived.Test.YtfijfccgghhkoaaW0
import Derived.Test.YtfijfccgghhkoaaJ20
set_option linter.unusedVariables false
set_option linter.unusedSimpArgs false
namespace Go.Proofs.Ytfijfccgghhkoaa
namespace Av
open Go.RowKit
attribute [local irreducible] Valid ValidM
end Av
end Go.Proofs.Ytfijfccgghhkoaa

namespace Go.Proofs.Ytfijfccgghhkoaa
namespace Av
open Go.RowKit
theorem K_impl_within {a : (Int) × (Int) × (Int)} {r : AV} (h : S_impl_within.post ([I a.1, I a.2.1, I a.2.2]) r) : (In a.1 a.2.1 a.2.2 ∧ r = B true) ∨ (¬ (In a.1 a.2.1 a.2.2) ∧ r = B false) :=
  tF_post (hcl := fun _ => rfl) (a := a) (by rintro ⟨x0, x1, x2⟩ ⟨y0, y1, y2⟩ h; simp only [List.cons.injEq, and_true, true_and, one_inj, agg_inj, paF_inj, itF_inj, chF_inj, voF_inj, vsF_inj, csF_inj, nsF_inj, nssF_inj, ndF_inj, ceF_inj, woF_inj, evF_inj, byF_inj, ndsF_inj, evsF_inj, pasF_inj, aI_inj, aB_inj, aRp_inj, fI_inj, fBo_inj] at h; obtain ⟨rfl, rfl, rfl⟩ := h; rfl) h
attribute [local irreducible] Valid ValidM
end Av
end Go.Proofs.Ytfijfccgghhkoaa

