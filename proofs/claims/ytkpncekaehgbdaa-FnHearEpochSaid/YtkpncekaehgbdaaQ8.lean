/- The contract of the law FnHearEpoch: it says yes. -/
import Derived.Test.YtkpncekaehgbdaaQ0
import Derived.Test.YtkpncekaehgbdaaZK
set_option linter.unusedVariables false
set_option linter.unusedSimpArgs false
namespace Go.Proofs.Ytkpncekaehgbdaa
namespace Av
open Go.RowKit

noncomputable def tipT (l : List Vo) : List It := if tb (VotesOk l) = true then tip l else []
theorem tip_ok {l : List Vo} (h : VotesOk l) : tipT l = tip l := by unfold tipT; rw [tb_pos h]; rfl
noncomputable def S_impl_TreeTip : FSpec := oF (α := (List Vo)) (fun a => [one (vsF a)]) (fun a => FitVs a ∧ a.length < LIM) (fun a => chF (tipT a)) (fun _ => rfl)
theorem K_impl_TreeTip {a : (List Vo)} {r : AV} (h : S_impl_TreeTip.post ([one (vsF a)]) r) : r = one (chF (tipT a)) :=
  oF_post (hcl := fun _ => rfl) (a := a) (by intro a b h; simpa only [List.cons.injEq, and_true, true_and, one_inj, agg_inj, paF_inj, itF_inj, chF_inj, voF_inj, vsF_inj, csF_inj, nsF_inj, nssF_inj, ndF_inj, ceF_inj, woF_inj, evF_inj, byF_inj, ndsF_inj, evsF_inj, pasF_inj, aI_inj, aB_inj, aRp_inj, fI_inj, fBo_inj] using h) h
def R_laws_FnHearEpoch (a : (List Int) × (List Int)) (r : AV) : Prop := r = B true
theorem inh_laws_FnHearEpoch : ∀ a : List Int × List Int, LawB a.1 ∧ LawB a.2 → ∃ r, R_laws_FnHearEpoch a r ∧ okV noN r := inh_yes (R := R_laws_FnHearEpoch) fun _ => rfl
noncomputable def S_laws_FnHearEpoch : FSpec := mkR (α := (List Int) × (List Int)) (fun a => [one (byF a.1), one (byF a.2)]) (fun a => LawB a.1 ∧ LawB a.2) R_laws_FnHearEpoch 200000 false (fun h => by cases h) inh_laws_FnHearEpoch (fun _ => rfl)
theorem K_laws_FnHearEpoch {a : (List Int) × (List Int)} {r : AV} (h : S_laws_FnHearEpoch.post ([one (byF a.1), one (byF a.2)]) r) : R_laws_FnHearEpoch a r :=
  mkR_post (a := a) (by rintro ⟨x0, x1⟩ ⟨y0, y1⟩ h; simp only [List.cons.injEq, and_true, true_and, one_inj, agg_inj, paF_inj, itF_inj, chF_inj, voF_inj, vsF_inj, csF_inj, nsF_inj, nssF_inj, ndF_inj, ceF_inj, woF_inj, evF_inj, byF_inj, ndsF_inj, evsF_inj, pasF_inj, aI_inj, aB_inj, aRp_inj, fI_inj, fBo_inj] at h; obtain ⟨rfl, rfl⟩ := h; rfl) h
end Av
end Go.Proofs.Ytkpncekaehgbdaa
