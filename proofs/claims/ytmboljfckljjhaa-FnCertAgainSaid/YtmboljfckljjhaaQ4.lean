/- The contracts of the laws on certs: they say yes. -/
import Derived.Test.YtmboljfckljjhaaQ0
import Derived.Test.YtmboljfckljjhaaU0
set_option linter.unusedVariables false
set_option linter.unusedSimpArgs false
namespace Go.Proofs.Ytmboljfckljjhaa
namespace Av
open Go.RowKit

def R_laws_FnCertOf (a : (List Int)) (r : AV) : Prop := r = B true
def R_laws_FnCertFinal (a : (List Int)) (r : AV) : Prop := r = B true
def R_laws_FnCertVotes (a : (List Int)) (r : AV) : Prop := r = B true
def R_laws_FnCertEpochs (a : (List Int)) (r : AV) : Prop := r = B true
def R_laws_FnCertAgain (a : (List Int)) (r : AV) : Prop := r = B true
def R_laws_FnCertOrder (a : (List Int)) (r : AV) : Prop := r = B true
def R_laws_FnCertLonger (a : (List Int) × (List Int)) (r : AV) : Prop := r = B true
theorem inh_laws_FnCertOf : ∀ a : List Int, LawB a → ∃ r, R_laws_FnCertOf a r ∧ okV noN r := inh_yes (R := R_laws_FnCertOf) fun _ => rfl
theorem inh_laws_FnCertFinal : ∀ a : List Int, LawB a → ∃ r, R_laws_FnCertFinal a r ∧ okV noN r := inh_yes (R := R_laws_FnCertFinal) fun _ => rfl
theorem inh_laws_FnCertVotes : ∀ a : List Int, LawB a → ∃ r, R_laws_FnCertVotes a r ∧ okV noN r := inh_yes (R := R_laws_FnCertVotes) fun _ => rfl
theorem inh_laws_FnCertEpochs : ∀ a : List Int, LawB a → ∃ r, R_laws_FnCertEpochs a r ∧ okV noN r := inh_yes (R := R_laws_FnCertEpochs) fun _ => rfl
theorem inh_laws_FnCertAgain : ∀ a : List Int, LawB a → ∃ r, R_laws_FnCertAgain a r ∧ okV noN r := inh_yes (R := R_laws_FnCertAgain) fun _ => rfl
theorem inh_laws_FnCertOrder : ∀ a : List Int, LawB a → ∃ r, R_laws_FnCertOrder a r ∧ okV noN r := inh_yes (R := R_laws_FnCertOrder) fun _ => rfl
theorem inh_laws_FnCertLonger : ∀ a : List Int × List Int, LawB a.1 ∧ LawB a.2 → ∃ r, R_laws_FnCertLonger a r ∧ okV noN r := inh_yes (R := R_laws_FnCertLonger) fun _ => rfl
noncomputable def S_laws_FnCertOf : FSpec := mkR (α := (List Int)) (fun a => [one (byF a)]) (fun a => LawB a) R_laws_FnCertOf 200000 false (fun h => by cases h) inh_laws_FnCertOf (fun _ => rfl)
noncomputable def S_laws_FnCertFinal : FSpec := mkR (α := (List Int)) (fun a => [one (byF a)]) (fun a => LawB a) R_laws_FnCertFinal 200000 false (fun h => by cases h) inh_laws_FnCertFinal (fun _ => rfl)
noncomputable def S_laws_FnCertVotes : FSpec := mkR (α := (List Int)) (fun a => [one (byF a)]) (fun a => LawB a) R_laws_FnCertVotes 200000 false (fun h => by cases h) inh_laws_FnCertVotes (fun _ => rfl)
noncomputable def S_laws_FnCertEpochs : FSpec := mkR (α := (List Int)) (fun a => [one (byF a)]) (fun a => LawB a) R_laws_FnCertEpochs 200000 false (fun h => by cases h) inh_laws_FnCertEpochs (fun _ => rfl)
noncomputable def S_laws_FnCertAgain : FSpec := mkR (α := (List Int)) (fun a => [one (byF a)]) (fun a => LawB a) R_laws_FnCertAgain 200000 false (fun h => by cases h) inh_laws_FnCertAgain (fun _ => rfl)
noncomputable def S_laws_FnCertOrder : FSpec := mkR (α := (List Int)) (fun a => [one (byF a)]) (fun a => LawB a) R_laws_FnCertOrder 200000 false (fun h => by cases h) inh_laws_FnCertOrder (fun _ => rfl)
noncomputable def S_laws_FnCertLonger : FSpec := mkR (α := (List Int) × (List Int)) (fun a => [one (byF a.1), one (byF a.2)]) (fun a => LawB a.1 ∧ LawB a.2) R_laws_FnCertLonger 200000 false (fun h => by cases h) inh_laws_FnCertLonger (fun _ => rfl)
theorem K_laws_FnCertOf {a : (List Int)} {r : AV} (h : S_laws_FnCertOf.post ([one (byF a)]) r) : R_laws_FnCertOf a r :=
  mkR_post (a := a) (by intro a b h; simpa only [List.cons.injEq, and_true, true_and, one_inj, agg_inj, paF_inj, itF_inj, chF_inj, voF_inj, vsF_inj, csF_inj, nsF_inj, nssF_inj, ndF_inj, ceF_inj, woF_inj, evF_inj, byF_inj, ndsF_inj, evsF_inj, pasF_inj, aI_inj, aB_inj, aRp_inj, fI_inj, fBo_inj] using h) h
theorem K_laws_FnCertFinal {a : (List Int)} {r : AV} (h : S_laws_FnCertFinal.post ([one (byF a)]) r) : R_laws_FnCertFinal a r :=
  mkR_post (a := a) (by intro a b h; simpa only [List.cons.injEq, and_true, true_and, one_inj, agg_inj, paF_inj, itF_inj, chF_inj, voF_inj, vsF_inj, csF_inj, nsF_inj, nssF_inj, ndF_inj, ceF_inj, woF_inj, evF_inj, byF_inj, ndsF_inj, evsF_inj, pasF_inj, aI_inj, aB_inj, aRp_inj, fI_inj, fBo_inj] using h) h
theorem K_laws_FnCertVotes {a : (List Int)} {r : AV} (h : S_laws_FnCertVotes.post ([one (byF a)]) r) : R_laws_FnCertVotes a r :=
  mkR_post (a := a) (by intro a b h; simpa only [List.cons.injEq, and_true, true_and, one_inj, agg_inj, paF_inj, itF_inj, chF_inj, voF_inj, vsF_inj, csF_inj, nsF_inj, nssF_inj, ndF_inj, ceF_inj, woF_inj, evF_inj, byF_inj, ndsF_inj, evsF_inj, pasF_inj, aI_inj, aB_inj, aRp_inj, fI_inj, fBo_inj] using h) h
theorem K_laws_FnCertEpochs {a : (List Int)} {r : AV} (h : S_laws_FnCertEpochs.post ([one (byF a)]) r) : R_laws_FnCertEpochs a r :=
  mkR_post (a := a) (by intro a b h; simpa only [List.cons.injEq, and_true, true_and, one_inj, agg_inj, paF_inj, itF_inj, chF_inj, voF_inj, vsF_inj, csF_inj, nsF_inj, nssF_inj, ndF_inj, ceF_inj, woF_inj, evF_inj, byF_inj, ndsF_inj, evsF_inj, pasF_inj, aI_inj, aB_inj, aRp_inj, fI_inj, fBo_inj] using h) h
theorem K_laws_FnCertAgain {a : (List Int)} {r : AV} (h : S_laws_FnCertAgain.post ([one (byF a)]) r) : R_laws_FnCertAgain a r :=
  mkR_post (a := a) (by intro a b h; simpa only [List.cons.injEq, and_true, true_and, one_inj, agg_inj, paF_inj, itF_inj, chF_inj, voF_inj, vsF_inj, csF_inj, nsF_inj, nssF_inj, ndF_inj, ceF_inj, woF_inj, evF_inj, byF_inj, ndsF_inj, evsF_inj, pasF_inj, aI_inj, aB_inj, aRp_inj, fI_inj, fBo_inj] using h) h
theorem K_laws_FnCertOrder {a : (List Int)} {r : AV} (h : S_laws_FnCertOrder.post ([one (byF a)]) r) : R_laws_FnCertOrder a r :=
  mkR_post (a := a) (by intro a b h; simpa only [List.cons.injEq, and_true, true_and, one_inj, agg_inj, paF_inj, itF_inj, chF_inj, voF_inj, vsF_inj, csF_inj, nsF_inj, nssF_inj, ndF_inj, ceF_inj, woF_inj, evF_inj, byF_inj, ndsF_inj, evsF_inj, pasF_inj, aI_inj, aB_inj, aRp_inj, fI_inj, fBo_inj] using h) h
theorem K_laws_FnCertLonger {a : (List Int) × (List Int)} {r : AV} (h : S_laws_FnCertLonger.post ([one (byF a.1), one (byF a.2)]) r) : R_laws_FnCertLonger a r :=
  mkR_post (a := a) (by rintro ⟨x0, x1⟩ ⟨y0, y1⟩ h; simp only [List.cons.injEq, and_true, true_and, one_inj, agg_inj, paF_inj, itF_inj, chF_inj, voF_inj, vsF_inj, csF_inj, nsF_inj, nssF_inj, ndF_inj, ceF_inj, woF_inj, evF_inj, byF_inj, ndsF_inj, evsF_inj, pasF_inj, aI_inj, aB_inj, aRp_inj, fI_inj, fBo_inj] at h; obtain ⟨rfl, rfl⟩ := h; rfl) h
end Av
end Go.Proofs.Ytmboljfckljjhaa
