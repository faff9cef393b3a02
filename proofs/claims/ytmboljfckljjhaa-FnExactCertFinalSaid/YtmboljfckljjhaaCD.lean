/- The contract of the law FnExactCertFinal. -/
import Derived.Test.YtmboljfckljjhaaCC
set_option linter.unusedVariables false
set_option linter.unusedSimpArgs false
namespace Go.Proofs.Ytmboljfckljjhaa
namespace Av
open Go.RowKit

noncomputable def S_laws_FnExactCertFinal : FSpec := tF (α := (Ce)) (fun a => [agg (ceF a)]) (fun a => BigCe a) (fun a => True) (fun _ => rfl)
theorem K_laws_FnExactCertFinal {a : (Ce)} {r : AV} (h : S_laws_FnExactCertFinal.post ([agg (ceF a)]) r) : (True ∧ r = B true) ∨ (¬ (True) ∧ r = B false) :=
  tF_post (hcl := fun _ => rfl) (a := a) (by intro a b h; simpa only [List.cons.injEq, and_true, true_and, one_inj, agg_inj, paF_inj, itF_inj, chF_inj, voF_inj, vsF_inj, csF_inj, nsF_inj, nssF_inj, ndF_inj, ceF_inj, woF_inj, evF_inj, byF_inj, ndsF_inj, evsF_inj, pasF_inj, aI_inj, aB_inj, aRp_inj, fI_inj, fBo_inj] using h) h
theorem certFin_sm {c : Ce} (h : SmCe c) : (certFin c).length ≤ SM := by
  unfold certFin
  split
  · rw [List.length_take]; exact Nat.le_trans (Nat.min_le_right _ _) h.1
  · exact Nat.zero_le _
end Av
end Go.Proofs.Ytmboljfckljjhaa
