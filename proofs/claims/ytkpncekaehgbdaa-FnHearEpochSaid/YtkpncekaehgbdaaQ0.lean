/- The contracts of the laws on drawn votes: they say yes. -/
import Derived.Test.YtkpncekaehgbdaaE8
set_option linter.unusedVariables false
set_option linter.unusedSimpArgs false
namespace Go.Proofs.Ytkpncekaehgbdaa
namespace Av
open Go.RowKit

def LawB (b : List Int) : Prop := b.length ≤ BIG ∧ Bytes b
theorem LawB.code {b : List Int} (h : LawB b) (h' : (b.length : Int) ≤ 1048576) : CodeOk b := ⟨by simp only [LIM]; omega, h.2⟩
theorem inh_yes {α : Sort _} {p : α → Prop} {R : α → AV → Prop} (h : ∀ a, R a (B true)) : ∀ a, p a → ∃ r, R a r ∧ okV noN r := fun a _ => ⟨B true, h a, trivial⟩
def R_laws_FnSureMore (a : (List Int) × (List Int)) (r : AV) : Prop := r = B true
def R_laws_FnAllSure (a : (List Int)) (r : AV) : Prop := r = B true
def R_laws_FnVotesAdd (a : (List Int)) (r : AV) : Prop := r = B true
def R_laws_FnForAdd (a : (List Int) × (List Int)) (r : AV) : Prop := r = B true
def R_laws_FnVotesOrder (a : (List Int) × (List Int)) (r : AV) : Prop := r = B true
theorem inh_laws_FnSureMore : ∀ a : List Int × List Int, LawB a.1 ∧ LawB a.2 → ∃ r, R_laws_FnSureMore a r ∧ okV noN r := inh_yes (R := R_laws_FnSureMore) fun _ => rfl
theorem inh_laws_FnAllSure : ∀ a : List Int, LawB a → ∃ r, R_laws_FnAllSure a r ∧ okV noN r := inh_yes (R := R_laws_FnAllSure) fun _ => rfl
theorem inh_laws_FnVotesAdd : ∀ a : List Int, LawB a → ∃ r, R_laws_FnVotesAdd a r ∧ okV noN r := inh_yes (R := R_laws_FnVotesAdd) fun _ => rfl
theorem inh_laws_FnForAdd : ∀ a : List Int × List Int, LawB a.1 ∧ LawB a.2 → ∃ r, R_laws_FnForAdd a r ∧ okV noN r := inh_yes (R := R_laws_FnForAdd) fun _ => rfl
theorem inh_laws_FnVotesOrder : ∀ a : List Int × List Int, LawB a.1 ∧ LawB a.2 → ∃ r, R_laws_FnVotesOrder a r ∧ okV noN r := inh_yes (R := R_laws_FnVotesOrder) fun _ => rfl
noncomputable def S_laws_FnSureMore : FSpec := mkR (α := (List Int) × (List Int)) (fun a => [one (byF a.1), one (byF a.2)]) (fun a => LawB a.1 ∧ LawB a.2) R_laws_FnSureMore 50000 false (fun h => by cases h) inh_laws_FnSureMore (fun _ => rfl)
noncomputable def S_laws_FnAllSure : FSpec := mkR (α := (List Int)) (fun a => [one (byF a)]) (fun a => LawB a) R_laws_FnAllSure 50000 false (fun h => by cases h) inh_laws_FnAllSure (fun _ => rfl)
noncomputable def S_laws_FnVotesAdd : FSpec := mkR (α := (List Int)) (fun a => [one (byF a)]) (fun a => LawB a) R_laws_FnVotesAdd 50000 false (fun h => by cases h) inh_laws_FnVotesAdd (fun _ => rfl)
noncomputable def S_laws_FnForAdd : FSpec := mkR (α := (List Int) × (List Int)) (fun a => [one (byF a.1), one (byF a.2)]) (fun a => LawB a.1 ∧ LawB a.2) R_laws_FnForAdd 50000 false (fun h => by cases h) inh_laws_FnForAdd (fun _ => rfl)
noncomputable def S_laws_FnVotesOrder : FSpec := mkR (α := (List Int) × (List Int)) (fun a => [one (byF a.1), one (byF a.2)]) (fun a => LawB a.1 ∧ LawB a.2) R_laws_FnVotesOrder 50000 false (fun h => by cases h) inh_laws_FnVotesOrder (fun _ => rfl)
theorem K_laws_FnSureMore {a : (List Int) × (List Int)} {r : AV} (h : S_laws_FnSureMore.post ([one (byF a.1), one (byF a.2)]) r) : R_laws_FnSureMore a r :=
  mkR_post (a := a) (by rintro ⟨x0, x1⟩ ⟨y0, y1⟩ h; simp only [List.cons.injEq, and_true, true_and, one_inj, agg_inj, paF_inj, itF_inj, chF_inj, voF_inj, vsF_inj, csF_inj, nsF_inj, nssF_inj, ndF_inj, ceF_inj, woF_inj, evF_inj, byF_inj, ndsF_inj, evsF_inj, pasF_inj, aI_inj, aB_inj, aRp_inj, fI_inj, fBo_inj] at h; obtain ⟨rfl, rfl⟩ := h; rfl) h
theorem K_laws_FnAllSure {a : (List Int)} {r : AV} (h : S_laws_FnAllSure.post ([one (byF a)]) r) : R_laws_FnAllSure a r :=
  mkR_post (a := a) (by intro a b h; simpa only [List.cons.injEq, and_true, true_and, one_inj, agg_inj, paF_inj, itF_inj, chF_inj, voF_inj, vsF_inj, csF_inj, nsF_inj, nssF_inj, ndF_inj, ceF_inj, woF_inj, evF_inj, byF_inj, ndsF_inj, evsF_inj, pasF_inj, aI_inj, aB_inj, aRp_inj, fI_inj, fBo_inj] using h) h
theorem K_laws_FnVotesAdd {a : (List Int)} {r : AV} (h : S_laws_FnVotesAdd.post ([one (byF a)]) r) : R_laws_FnVotesAdd a r :=
  mkR_post (a := a) (by intro a b h; simpa only [List.cons.injEq, and_true, true_and, one_inj, agg_inj, paF_inj, itF_inj, chF_inj, voF_inj, vsF_inj, csF_inj, nsF_inj, nssF_inj, ndF_inj, ceF_inj, woF_inj, evF_inj, byF_inj, ndsF_inj, evsF_inj, pasF_inj, aI_inj, aB_inj, aRp_inj, fI_inj, fBo_inj] using h) h
theorem K_laws_FnForAdd {a : (List Int) × (List Int)} {r : AV} (h : S_laws_FnForAdd.post ([one (byF a.1), one (byF a.2)]) r) : R_laws_FnForAdd a r :=
  mkR_post (a := a) (by rintro ⟨x0, x1⟩ ⟨y0, y1⟩ h; simp only [List.cons.injEq, and_true, true_and, one_inj, agg_inj, paF_inj, itF_inj, chF_inj, voF_inj, vsF_inj, csF_inj, nsF_inj, nssF_inj, ndF_inj, ceF_inj, woF_inj, evF_inj, byF_inj, ndsF_inj, evsF_inj, pasF_inj, aI_inj, aB_inj, aRp_inj, fI_inj, fBo_inj] at h; obtain ⟨rfl, rfl⟩ := h; rfl) h
theorem K_laws_FnVotesOrder {a : (List Int) × (List Int)} {r : AV} (h : S_laws_FnVotesOrder.post ([one (byF a.1), one (byF a.2)]) r) : R_laws_FnVotesOrder a r :=
  mkR_post (a := a) (by rintro ⟨x0, x1⟩ ⟨y0, y1⟩ h; simp only [List.cons.injEq, and_true, true_and, one_inj, agg_inj, paF_inj, itF_inj, chF_inj, voF_inj, vsF_inj, csF_inj, nsF_inj, nssF_inj, ndF_inj, ceF_inj, woF_inj, evF_inj, byF_inj, ndsF_inj, evsF_inj, pasF_inj, aI_inj, aB_inj, aRp_inj, fI_inj, fBo_inj] at h; obtain ⟨rfl, rfl⟩ := h; rfl) h
end Av
end Go.Proofs.Ytkpncekaehgbdaa
