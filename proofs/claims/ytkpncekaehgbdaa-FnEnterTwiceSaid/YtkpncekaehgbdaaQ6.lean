/- The contracts of the laws on drawn nodes: they say yes. -/
import Derived.Test.YtkpncekaehgbdaaQ0
import Derived.Test.YtkpncekaehgbdaaZK
set_option linter.unusedVariables false
set_option linter.unusedSimpArgs false
namespace Go.Proofs.Ytkpncekaehgbdaa
namespace Av
open Go.RowKit

def R_laws_FnNodeEnter (a : (List Int)) (r : AV) : Prop := r = B true
def R_laws_FnEnterTwice (a : (List Int) × (List Int)) (r : AV) : Prop := r = B true
def R_laws_FnHearOther (a : (List Int)) (r : AV) : Prop := r = B true
def R_laws_FnHearTwice (a : (List Int)) (r : AV) : Prop := r = B true
def R_laws_FnHearSees (a : (List Int)) (r : AV) : Prop := r = B true
theorem inh_laws_FnNodeEnter : ∀ a : List Int, LawB a → ∃ r, R_laws_FnNodeEnter a r ∧ okV noN r := inh_yes (R := R_laws_FnNodeEnter) fun _ => rfl
theorem inh_laws_FnEnterTwice : ∀ a : List Int × List Int, LawB a.1 ∧ LawB a.2 → ∃ r, R_laws_FnEnterTwice a r ∧ okV noN r := inh_yes (R := R_laws_FnEnterTwice) fun _ => rfl
theorem inh_laws_FnHearOther : ∀ a : List Int, LawB a → ∃ r, R_laws_FnHearOther a r ∧ okV noN r := inh_yes (R := R_laws_FnHearOther) fun _ => rfl
theorem inh_laws_FnHearTwice : ∀ a : List Int, LawB a → ∃ r, R_laws_FnHearTwice a r ∧ okV noN r := inh_yes (R := R_laws_FnHearTwice) fun _ => rfl
theorem inh_laws_FnHearSees : ∀ a : List Int, LawB a → ∃ r, R_laws_FnHearSees a r ∧ okV noN r := inh_yes (R := R_laws_FnHearSees) fun _ => rfl
noncomputable def S_laws_FnNodeEnter : FSpec := mkR (α := (List Int)) (fun a => [one (byF a)]) (fun a => LawB a) R_laws_FnNodeEnter 200000 false (fun h => by cases h) inh_laws_FnNodeEnter (fun _ => rfl)
noncomputable def S_laws_FnEnterTwice : FSpec := mkR (α := (List Int) × (List Int)) (fun a => [one (byF a.1), one (byF a.2)]) (fun a => LawB a.1 ∧ LawB a.2) R_laws_FnEnterTwice 200000 false (fun h => by cases h) inh_laws_FnEnterTwice (fun _ => rfl)
noncomputable def S_laws_FnHearOther : FSpec := mkR (α := (List Int)) (fun a => [one (byF a)]) (fun a => LawB a) R_laws_FnHearOther 200000 false (fun h => by cases h) inh_laws_FnHearOther (fun _ => rfl)
noncomputable def S_laws_FnHearTwice : FSpec := mkR (α := (List Int)) (fun a => [one (byF a)]) (fun a => LawB a) R_laws_FnHearTwice 200000 false (fun h => by cases h) inh_laws_FnHearTwice (fun _ => rfl)
noncomputable def S_laws_FnHearSees : FSpec := mkR (α := (List Int)) (fun a => [one (byF a)]) (fun a => LawB a) R_laws_FnHearSees 200000 false (fun h => by cases h) inh_laws_FnHearSees (fun _ => rfl)
theorem K_laws_FnNodeEnter {a : (List Int)} {r : AV} (h : S_laws_FnNodeEnter.post ([one (byF a)]) r) : R_laws_FnNodeEnter a r :=
  mkR_post (a := a) (by intro a b h; simpa only [List.cons.injEq, and_true, true_and, one_inj, agg_inj, paF_inj, itF_inj, chF_inj, voF_inj, vsF_inj, csF_inj, nsF_inj, nssF_inj, ndF_inj, ceF_inj, woF_inj, evF_inj, byF_inj, ndsF_inj, evsF_inj, pasF_inj, aI_inj, aB_inj, aRp_inj, fI_inj, fBo_inj] using h) h
theorem K_laws_FnEnterTwice {a : (List Int) × (List Int)} {r : AV} (h : S_laws_FnEnterTwice.post ([one (byF a.1), one (byF a.2)]) r) : R_laws_FnEnterTwice a r :=
  mkR_post (a := a) (by rintro ⟨x0, x1⟩ ⟨y0, y1⟩ h; simp only [List.cons.injEq, and_true, true_and, one_inj, agg_inj, paF_inj, itF_inj, chF_inj, voF_inj, vsF_inj, csF_inj, nsF_inj, nssF_inj, ndF_inj, ceF_inj, woF_inj, evF_inj, byF_inj, ndsF_inj, evsF_inj, pasF_inj, aI_inj, aB_inj, aRp_inj, fI_inj, fBo_inj] at h; obtain ⟨rfl, rfl⟩ := h; rfl) h
theorem K_laws_FnHearOther {a : (List Int)} {r : AV} (h : S_laws_FnHearOther.post ([one (byF a)]) r) : R_laws_FnHearOther a r :=
  mkR_post (a := a) (by intro a b h; simpa only [List.cons.injEq, and_true, true_and, one_inj, agg_inj, paF_inj, itF_inj, chF_inj, voF_inj, vsF_inj, csF_inj, nsF_inj, nssF_inj, ndF_inj, ceF_inj, woF_inj, evF_inj, byF_inj, ndsF_inj, evsF_inj, pasF_inj, aI_inj, aB_inj, aRp_inj, fI_inj, fBo_inj] using h) h
theorem K_laws_FnHearTwice {a : (List Int)} {r : AV} (h : S_laws_FnHearTwice.post ([one (byF a)]) r) : R_laws_FnHearTwice a r :=
  mkR_post (a := a) (by intro a b h; simpa only [List.cons.injEq, and_true, true_and, one_inj, agg_inj, paF_inj, itF_inj, chF_inj, voF_inj, vsF_inj, csF_inj, nsF_inj, nssF_inj, ndF_inj, ceF_inj, woF_inj, evF_inj, byF_inj, ndsF_inj, evsF_inj, pasF_inj, aI_inj, aB_inj, aRp_inj, fI_inj, fBo_inj] using h) h
theorem K_laws_FnHearSees {a : (List Int)} {r : AV} (h : S_laws_FnHearSees.post ([one (byF a)]) r) : R_laws_FnHearSees a r :=
  mkR_post (a := a) (by intro a b h; simpa only [List.cons.injEq, and_true, true_and, one_inj, agg_inj, paF_inj, itF_inj, chF_inj, voF_inj, vsF_inj, csF_inj, nsF_inj, nssF_inj, ndF_inj, ceF_inj, woF_inj, evF_inj, byF_inj, ndsF_inj, evsF_inj, pasF_inj, aI_inj, aB_inj, aRp_inj, fI_inj, fBo_inj] using h) h
end Av
end Go.Proofs.Ytkpncekaehgbdaa
