/- The contract of the law FnExactVotesAdd. -/
import Derived.Test.YtmboljfckljjhaaVD
set_option linter.unusedVariables false
set_option linter.unusedSimpArgs false
namespace Go.Proofs.Ytmboljfckljjhaa
namespace Av
open Go.RowKit

noncomputable def S_laws_FnExactVotesAdd : FSpec := tF (α := (List Vo) × (Vo)) (fun a => [one (vsF a.1), agg (voF a.2)]) (fun a => BigVs a.1 ∧ a.2.c.length ≤ BIG) (fun a => True) (fun _ => rfl)
theorem K_laws_FnExactVotesAdd {a : (List Vo) × (Vo)} {r : AV} (h : S_laws_FnExactVotesAdd.post ([one (vsF a.1), agg (voF a.2)]) r) : (True ∧ r = B true) ∨ (¬ (True) ∧ r = B false) :=
  tF_post (hcl := fun _ => rfl) (a := a) (by rintro ⟨x0, x1⟩ ⟨y0, y1⟩ h; simp only [List.cons.injEq, and_true, true_and, one_inj, agg_inj, paF_inj, itF_inj, chF_inj, voF_inj, vsF_inj, csF_inj, nsF_inj, nssF_inj, ndF_inj, ceF_inj, woF_inj, evF_inj, byF_inj, ndsF_inj, evsF_inj, pasF_inj, aI_inj, aB_inj, aRp_inj, fI_inj, fBo_inj] at h; obtain ⟨rfl, rfl⟩ := h; rfl) h
end Av
end Go.Proofs.Ytmboljfckljjhaa
