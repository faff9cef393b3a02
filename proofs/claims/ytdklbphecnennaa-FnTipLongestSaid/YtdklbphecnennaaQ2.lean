/- The contracts of the laws on drawn votes and trees: they say yes. -/
import Derived.Test.YtdklbphecnennaaQ0
import Derived.Test.YtdklbphecnennaaT0
set_option linter.unusedVariables false
set_option linter.unusedSimpArgs false
namespace Go.Proofs.Ytdklbphecnennaa
namespace Av
open Go.RowKit

def R_laws_FnAllBack (a : (List Int)) (r : AV) : Prop := r = B true
def R_laws_FnLongMore (a : (List Int) × (List Int)) (r : AV) : Prop := r = B true
def R_laws_FnSureBoth (a : (List Int) × (List Int)) (r : AV) : Prop := r = B true
def R_laws_FnTreeNone (a : (List Int) × (List Int)) (r : AV) : Prop := r = B true
def R_laws_FnTipLongest (a : (List Int)) (r : AV) : Prop := r = B true
def R_laws_FnFinalThree (a : (List Int) × (List Int)) (r : AV) : Prop := r = B true
def R_laws_FnFinalMost (a : (List Int)) (r : AV) : Prop := r = B true
def R_laws_FnTipNew (a : (List Int) × (List Int)) (r : AV) : Prop := r = B true
def R_laws_FnFinalMore (a : (List Int) × (List Int)) (r : AV) : Prop := r = B true
def R_laws_FnFinalSure (a : (List Int)) (r : AV) : Prop := r = B true
theorem inh_laws_FnAllBack : ∀ a : List Int, LawB a → ∃ r, R_laws_FnAllBack a r ∧ okV noN r := inh_yes (R := R_laws_FnAllBack) fun _ => rfl
theorem inh_laws_FnLongMore : ∀ a : List Int × List Int, LawB a.1 ∧ LawB a.2 → ∃ r, R_laws_FnLongMore a r ∧ okV noN r := inh_yes (R := R_laws_FnLongMore) fun _ => rfl
theorem inh_laws_FnSureBoth : ∀ a : List Int × List Int, LawB a.1 ∧ LawB a.2 → ∃ r, R_laws_FnSureBoth a r ∧ okV noN r := inh_yes (R := R_laws_FnSureBoth) fun _ => rfl
theorem inh_laws_FnTreeNone : ∀ a : List Int × List Int, LawB a.1 ∧ LawB a.2 → ∃ r, R_laws_FnTreeNone a r ∧ okV noN r := inh_yes (R := R_laws_FnTreeNone) fun _ => rfl
theorem inh_laws_FnTipLongest : ∀ a : List Int, LawB a → ∃ r, R_laws_FnTipLongest a r ∧ okV noN r := inh_yes (R := R_laws_FnTipLongest) fun _ => rfl
theorem inh_laws_FnFinalThree : ∀ a : List Int × List Int, LawB a.1 ∧ LawB a.2 → ∃ r, R_laws_FnFinalThree a r ∧ okV noN r := inh_yes (R := R_laws_FnFinalThree) fun _ => rfl
theorem inh_laws_FnFinalMost : ∀ a : List Int, LawB a → ∃ r, R_laws_FnFinalMost a r ∧ okV noN r := inh_yes (R := R_laws_FnFinalMost) fun _ => rfl
theorem inh_laws_FnTipNew : ∀ a : List Int × List Int, LawB a.1 ∧ LawB a.2 → ∃ r, R_laws_FnTipNew a r ∧ okV noN r := inh_yes (R := R_laws_FnTipNew) fun _ => rfl
theorem inh_laws_FnFinalMore : ∀ a : List Int × List Int, LawB a.1 ∧ LawB a.2 → ∃ r, R_laws_FnFinalMore a r ∧ okV noN r := inh_yes (R := R_laws_FnFinalMore) fun _ => rfl
theorem inh_laws_FnFinalSure : ∀ a : List Int, LawB a → ∃ r, R_laws_FnFinalSure a r ∧ okV noN r := inh_yes (R := R_laws_FnFinalSure) fun _ => rfl
noncomputable def S_laws_FnAllBack : FSpec := mkR (α := (List Int)) (fun a => [one (byF a)]) (fun a => LawB a) R_laws_FnAllBack 200000 false (fun h => by cases h) inh_laws_FnAllBack (fun _ => rfl)
noncomputable def S_laws_FnLongMore : FSpec := mkR (α := (List Int) × (List Int)) (fun a => [one (byF a.1), one (byF a.2)]) (fun a => LawB a.1 ∧ LawB a.2) R_laws_FnLongMore 200000 false (fun h => by cases h) inh_laws_FnLongMore (fun _ => rfl)
noncomputable def S_laws_FnSureBoth : FSpec := mkR (α := (List Int) × (List Int)) (fun a => [one (byF a.1), one (byF a.2)]) (fun a => LawB a.1 ∧ LawB a.2) R_laws_FnSureBoth 200000 false (fun h => by cases h) inh_laws_FnSureBoth (fun _ => rfl)
noncomputable def S_laws_FnTreeNone : FSpec := mkR (α := (List Int) × (List Int)) (fun a => [one (byF a.1), one (byF a.2)]) (fun a => LawB a.1 ∧ LawB a.2) R_laws_FnTreeNone 200000 false (fun h => by cases h) inh_laws_FnTreeNone (fun _ => rfl)
noncomputable def S_laws_FnTipLongest : FSpec := mkR (α := (List Int)) (fun a => [one (byF a)]) (fun a => LawB a) R_laws_FnTipLongest 200000 false (fun h => by cases h) inh_laws_FnTipLongest (fun _ => rfl)
noncomputable def S_laws_FnFinalThree : FSpec := mkR (α := (List Int) × (List Int)) (fun a => [one (byF a.1), one (byF a.2)]) (fun a => LawB a.1 ∧ LawB a.2) R_laws_FnFinalThree 200000 false (fun h => by cases h) inh_laws_FnFinalThree (fun _ => rfl)
noncomputable def S_laws_FnFinalMost : FSpec := mkR (α := (List Int)) (fun a => [one (byF a)]) (fun a => LawB a) R_laws_FnFinalMost 200000 false (fun h => by cases h) inh_laws_FnFinalMost (fun _ => rfl)
noncomputable def S_laws_FnTipNew : FSpec := mkR (α := (List Int) × (List Int)) (fun a => [one (byF a.1), one (byF a.2)]) (fun a => LawB a.1 ∧ LawB a.2) R_laws_FnTipNew 200000 false (fun h => by cases h) inh_laws_FnTipNew (fun _ => rfl)
noncomputable def S_laws_FnFinalMore : FSpec := mkR (α := (List Int) × (List Int)) (fun a => [one (byF a.1), one (byF a.2)]) (fun a => LawB a.1 ∧ LawB a.2) R_laws_FnFinalMore 200000 false (fun h => by cases h) inh_laws_FnFinalMore (fun _ => rfl)
noncomputable def S_laws_FnFinalSure : FSpec := mkR (α := (List Int)) (fun a => [one (byF a)]) (fun a => LawB a) R_laws_FnFinalSure 200000 false (fun h => by cases h) inh_laws_FnFinalSure (fun _ => rfl)
theorem K_laws_FnAllBack {a : (List Int)} {r : AV} (h : S_laws_FnAllBack.post ([one (byF a)]) r) : R_laws_FnAllBack a r :=
  mkR_post (a := a) (by intro a b h; simpa only [List.cons.injEq, and_true, true_and, one_inj, agg_inj, paF_inj, itF_inj, chF_inj, voF_inj, vsF_inj, csF_inj, nsF_inj, nssF_inj, ndF_inj, ceF_inj, woF_inj, evF_inj, byF_inj, ndsF_inj, evsF_inj, pasF_inj, aI_inj, aB_inj, aRp_inj, fI_inj, fBo_inj] using h) h
theorem K_laws_FnLongMore {a : (List Int) × (List Int)} {r : AV} (h : S_laws_FnLongMore.post ([one (byF a.1), one (byF a.2)]) r) : R_laws_FnLongMore a r :=
  mkR_post (a := a) (by rintro ⟨x0, x1⟩ ⟨y0, y1⟩ h; simp only [List.cons.injEq, and_true, true_and, one_inj, agg_inj, paF_inj, itF_inj, chF_inj, voF_inj, vsF_inj, csF_inj, nsF_inj, nssF_inj, ndF_inj, ceF_inj, woF_inj, evF_inj, byF_inj, ndsF_inj, evsF_inj, pasF_inj, aI_inj, aB_inj, aRp_inj, fI_inj, fBo_inj] at h; obtain ⟨rfl, rfl⟩ := h; rfl) h
theorem K_laws_FnSureBoth {a : (List Int) × (List Int)} {r : AV} (h : S_laws_FnSureBoth.post ([one (byF a.1), one (byF a.2)]) r) : R_laws_FnSureBoth a r :=
  mkR_post (a := a) (by rintro ⟨x0, x1⟩ ⟨y0, y1⟩ h; simp only [List.cons.injEq, and_true, true_and, one_inj, agg_inj, paF_inj, itF_inj, chF_inj, voF_inj, vsF_inj, csF_inj, nsF_inj, nssF_inj, ndF_inj, ceF_inj, woF_inj, evF_inj, byF_inj, ndsF_inj, evsF_inj, pasF_inj, aI_inj, aB_inj, aRp_inj, fI_inj, fBo_inj] at h; obtain ⟨rfl, rfl⟩ := h; rfl) h
theorem K_laws_FnTreeNone {a : (List Int) × (List Int)} {r : AV} (h : S_laws_FnTreeNone.post ([one (byF a.1), one (byF a.2)]) r) : R_laws_FnTreeNone a r :=
  mkR_post (a := a) (by rintro ⟨x0, x1⟩ ⟨y0, y1⟩ h; simp only [List.cons.injEq, and_true, true_and, one_inj, agg_inj, paF_inj, itF_inj, chF_inj, voF_inj, vsF_inj, csF_inj, nsF_inj, nssF_inj, ndF_inj, ceF_inj, woF_inj, evF_inj, byF_inj, ndsF_inj, evsF_inj, pasF_inj, aI_inj, aB_inj, aRp_inj, fI_inj, fBo_inj] at h; obtain ⟨rfl, rfl⟩ := h; rfl) h
theorem K_laws_FnTipLongest {a : (List Int)} {r : AV} (h : S_laws_FnTipLongest.post ([one (byF a)]) r) : R_laws_FnTipLongest a r :=
  mkR_post (a := a) (by intro a b h; simpa only [List.cons.injEq, and_true, true_and, one_inj, agg_inj, paF_inj, itF_inj, chF_inj, voF_inj, vsF_inj, csF_inj, nsF_inj, nssF_inj, ndF_inj, ceF_inj, woF_inj, evF_inj, byF_inj, ndsF_inj, evsF_inj, pasF_inj, aI_inj, aB_inj, aRp_inj, fI_inj, fBo_inj] using h) h
theorem K_laws_FnFinalThree {a : (List Int) × (List Int)} {r : AV} (h : S_laws_FnFinalThree.post ([one (byF a.1), one (byF a.2)]) r) : R_laws_FnFinalThree a r :=
  mkR_post (a := a) (by rintro ⟨x0, x1⟩ ⟨y0, y1⟩ h; simp only [List.cons.injEq, and_true, true_and, one_inj, agg_inj, paF_inj, itF_inj, chF_inj, voF_inj, vsF_inj, csF_inj, nsF_inj, nssF_inj, ndF_inj, ceF_inj, woF_inj, evF_inj, byF_inj, ndsF_inj, evsF_inj, pasF_inj, aI_inj, aB_inj, aRp_inj, fI_inj, fBo_inj] at h; obtain ⟨rfl, rfl⟩ := h; rfl) h
theorem K_laws_FnFinalMost {a : (List Int)} {r : AV} (h : S_laws_FnFinalMost.post ([one (byF a)]) r) : R_laws_FnFinalMost a r :=
  mkR_post (a := a) (by intro a b h; simpa only [List.cons.injEq, and_true, true_and, one_inj, agg_inj, paF_inj, itF_inj, chF_inj, voF_inj, vsF_inj, csF_inj, nsF_inj, nssF_inj, ndF_inj, ceF_inj, woF_inj, evF_inj, byF_inj, ndsF_inj, evsF_inj, pasF_inj, aI_inj, aB_inj, aRp_inj, fI_inj, fBo_inj] using h) h
theorem K_laws_FnTipNew {a : (List Int) × (List Int)} {r : AV} (h : S_laws_FnTipNew.post ([one (byF a.1), one (byF a.2)]) r) : R_laws_FnTipNew a r :=
  mkR_post (a := a) (by rintro ⟨x0, x1⟩ ⟨y0, y1⟩ h; simp only [List.cons.injEq, and_true, true_and, one_inj, agg_inj, paF_inj, itF_inj, chF_inj, voF_inj, vsF_inj, csF_inj, nsF_inj, nssF_inj, ndF_inj, ceF_inj, woF_inj, evF_inj, byF_inj, ndsF_inj, evsF_inj, pasF_inj, aI_inj, aB_inj, aRp_inj, fI_inj, fBo_inj] at h; obtain ⟨rfl, rfl⟩ := h; rfl) h
theorem K_laws_FnFinalMore {a : (List Int) × (List Int)} {r : AV} (h : S_laws_FnFinalMore.post ([one (byF a.1), one (byF a.2)]) r) : R_laws_FnFinalMore a r :=
  mkR_post (a := a) (by rintro ⟨x0, x1⟩ ⟨y0, y1⟩ h; simp only [List.cons.injEq, and_true, true_and, one_inj, agg_inj, paF_inj, itF_inj, chF_inj, voF_inj, vsF_inj, csF_inj, nsF_inj, nssF_inj, ndF_inj, ceF_inj, woF_inj, evF_inj, byF_inj, ndsF_inj, evsF_inj, pasF_inj, aI_inj, aB_inj, aRp_inj, fI_inj, fBo_inj] at h; obtain ⟨rfl, rfl⟩ := h; rfl) h
theorem K_laws_FnFinalSure {a : (List Int)} {r : AV} (h : S_laws_FnFinalSure.post ([one (byF a)]) r) : R_laws_FnFinalSure a r :=
  mkR_post (a := a) (by intro a b h; simpa only [List.cons.injEq, and_true, true_and, one_inj, agg_inj, paF_inj, itF_inj, chF_inj, voF_inj, vsF_inj, csF_inj, nsF_inj, nssF_inj, ndF_inj, ceF_inj, woF_inj, evF_inj, byF_inj, ndsF_inj, evsF_inj, pasF_inj, aI_inj, aB_inj, aRp_inj, fI_inj, fBo_inj] using h) h
end Av
end Go.Proofs.Ytdklbphecnennaa
