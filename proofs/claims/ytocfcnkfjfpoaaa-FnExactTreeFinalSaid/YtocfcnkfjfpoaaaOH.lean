/- The contract of the law FnExactTreeFinal. -/
import Derived.Test.YtocfcnkfjfpoaaaO2
set_option linter.unusedVariables false
set_option linter.unusedSimpArgs false
namespace Go.Proofs.Ytocfcnkfjfpoaaa
namespace Av
open Go.RowKit

noncomputable def S_laws_FnExactTreeFinal : FSpec := tF (α := (List Vo)) (fun a => [one (vsF a)]) (fun a => BigVs a) (fun a => True) (fun _ => rfl)
theorem K_laws_FnExactTreeFinal {a : (List Vo)} {r : AV} (h : S_laws_FnExactTreeFinal.post ([one (vsF a)]) r) : (True ∧ r = B true) ∨ (¬ (True) ∧ r = B false) :=
  tF_post (hcl := fun _ => rfl) (a := a) (by intro a b h; simpa only [List.cons.injEq, and_true, true_and, one_inj, agg_inj, paF_inj, itF_inj, chF_inj, voF_inj, vsF_inj, csF_inj, nsF_inj, nssF_inj, ndF_inj, ceF_inj, woF_inj, evF_inj, byF_inj, ndsF_inj, evsF_inj, pasF_inj, aI_inj, aB_inj, aRp_inj, fI_inj, fBo_inj] using h) h
end Av
end Go.Proofs.Ytocfcnkfjfpoaaa
