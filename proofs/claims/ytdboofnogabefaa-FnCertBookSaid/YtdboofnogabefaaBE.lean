/- The contract of the law FnCertBook. -/
import Derived.Test.YtdboofnogabefaaBB
import Derived.Test.YtdboofnogabefaaQ0
import Derived.Test.YtdboofnogabefaaU0
set_option linter.unusedVariables false
set_option linter.unusedSimpArgs false
namespace Go.Proofs.Ytdboofnogabefaa
namespace Av
open Go.RowKit
def R_laws_FnCertBook (a : (List Int)) (r : AV) : Prop := r = B true
theorem inh_laws_FnCertBook : ∀ a : List Int, LawB a → ∃ r, R_laws_FnCertBook a r ∧ okV noN r := inh_yes (R := R_laws_FnCertBook) fun _ => rfl
noncomputable def S_laws_FnCertBook : FSpec := mkR (α := (List Int)) (fun a => [one (byF a)]) (fun a => LawB a) R_laws_FnCertBook 200000 false (fun h => by cases h) inh_laws_FnCertBook (fun _ => rfl)
theorem K_laws_FnCertBook {a : (List Int)} {r : AV} (h : S_laws_FnCertBook.post ([one (byF a)]) r) : R_laws_FnCertBook a r :=
  mkR_post (a := a) (by intro a b h; simpa only [List.cons.injEq, and_true, true_and, one_inj, agg_inj, paF_inj, itF_inj, chF_inj, voF_inj, vsF_inj, csF_inj, nsF_inj, nssF_inj, ndF_inj, ceF_inj, woF_inj, evF_inj, byF_inj, ndsF_inj, evsF_inj, pasF_inj, aI_inj, aB_inj, aRp_inj, fI_inj, fBo_inj] using h) h
end Av
end Go.Proofs.Ytdboofnogabefaa
