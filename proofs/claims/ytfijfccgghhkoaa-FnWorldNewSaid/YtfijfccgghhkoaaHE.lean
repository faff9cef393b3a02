/- The contracts of the law FnWorldNew: a world that begins is ok. -/
import Derived.Test.YtfijfccgghhkoaaWQ
import Derived.Test.YtfijfccgghhkoaaQ0
import Derived.Test.YtfijfccgghhkoaaT0
set_option linter.unusedVariables false
set_option linter.unusedSimpArgs false
namespace Go.Proofs.Ytfijfccgghhkoaa
namespace Av
open Go.RowKit
def fnW (w : Wo) : AV := .fn (.func n_impl_WorldOk_1) [] [.o (.ep (woF w))]
theorem encW_inj (a b : Wo) (h : [one (vsF []), fnW a] = [one (vsF []), fnW b]) : a = b :=
  woF_inj.1 (AC.ep.inj (AW.o.inj (List.cons.inj (AV.fn.inj (List.cons.inj (List.cons.inj h).2).1).2.2).1))
noncomputable def S_slices_IndexFunc_VoteS_s : FSpec := iF (α := Wo) (fun w => [one (vsF []), fnW w]) (fun _ => True) (fun _ => -1) (fun _ => rfl)
theorem K_slices_IndexFunc_VoteS_s {w : Wo} {r : AV} (h : S_slices_IndexFunc_VoteS_s.post [one (vsF []), fnW w] r) : r = I (-1) :=
  iF_post (hcl := fun _ => rfl) (a := w) encW_inj h
noncomputable def S_slices_ContainsFunc_VoteS_s : FSpec := tF (α := Wo) (fun w => [one (vsF []), fnW w]) (fun _ => True) (fun _ => False) (fun _ => rfl)
theorem K_slices_ContainsFunc_VoteS_s {w : Wo} {r : AV} (h : S_slices_ContainsFunc_VoteS_s.post [one (vsF []), fnW w] r) : (False ∧ r = B true) ∨ (¬ False ∧ r = B false) :=
  tF_post (hcl := fun _ => rfl) (a := w) encW_inj h
def NewWo (w : Wo) : Prop := In w.ep 0 30 ∧ In w.bad 0 4 ∧ w.nodes.length = 4 ∧ w.log.length ≤ 80 ∧ VotesOk w.log ∧ FitVs w.log ∧ ∀ (i : Nat) (x : Nd), w.nodes[i]? = some x → NodeOk x ∧ x.id = (i : Int) + 1 ∧ x.ep = w.ep ∧ x.seen = []
theorem votesOk_nil : VotesOk [] := fun i v h => by simp at h
theorem nodeOk_new {i : Int} (h : In i 1 4) : NodeOk ⟨i, 0, 0, []⟩ :=
  ⟨h, ⟨Int.le_refl 0, (by decide : (0 : Int) ≤ 30)⟩, ⟨Int.le_refl 0, Int.le_refl 0⟩, Nat.zero_le _, votesOk_nil, fun v hv => by cases hv⟩
theorem newW_new {bad : Int} (h : In bad 0 4) : NewWo (newW bad) := by
  refine ⟨⟨Int.le_refl 0, (by decide : (0 : Int) ≤ 30)⟩, h, rfl, Nat.zero_le _, votesOk_nil, ⟨Nat.zero_le _, fun v hv => by cases hv⟩, fun i n hn => ?_⟩
  match i, hn with
  | 0, hn => cases hn; exact ⟨nodeOk_new ⟨by decide, by decide⟩, rfl, rfl, rfl⟩
  | 1, hn => cases hn; exact ⟨nodeOk_new ⟨by decide, by decide⟩, rfl, rfl, rfl⟩
  | 2, hn => cases hn; exact ⟨nodeOk_new ⟨by decide, by decide⟩, rfl, rfl, rfl⟩
  | 3, hn => cases hn; exact ⟨nodeOk_new ⟨by decide, by decide⟩, rfl, rfl, rfl⟩
  | i + 4, hn => simp [newW] at hn
def R_spec_DrawWorldNew (a : (List Int)) (r : AV) : Prop := ∃ k : Int, r = I k ∧ In k (-1) 5
theorem inh_spec_DrawWorldNew : ∀ a : List Int, CodeOk a → ∃ r, R_spec_DrawWorldNew a r ∧ okV noN r := fun a _ => ⟨_, ⟨0, rfl, by decide, by decide⟩, trivial⟩
noncomputable def S_impl_WorldOk_s : FSpec := tF (α := (Wo)) (fun a => [agg (woF a)]) (fun a => NewWo a) (fun a => True) (fun _ => rfl)
noncomputable def S_spec_DrawWorldNew : FSpec := mkR (α := (List Int)) (fun a => [one (byF a)]) (fun a => CodeOk a) R_spec_DrawWorldNew 1 false (fun h => by cases h) inh_spec_DrawWorldNew (fun _ => rfl)
noncomputable def S_laws_lwFits : FSpec := tF (α := (List It) × (List It)) (fun a => [one (chF a.1), one (chF a.2)]) (fun a => a.1 = [] ∧ a.2 = []) (fun a => True) (fun _ => rfl)
noncomputable def S_laws_lwAgreed : FSpec := tF (α := (Wo)) (fun a => [agg (woF a)]) (fun a => (∀ n, n ∈ a.nodes → n.seen = []) ∧ a.nodes.length ≤ 4) (fun a => True) (fun _ => rfl)
theorem K_impl_WorldOk_s {a : (Wo)} {r : AV} (h : S_impl_WorldOk_s.post ([agg (woF a)]) r) : (True ∧ r = B true) ∨ (¬ (True) ∧ r = B false) :=
  tF_post (hcl := fun _ => rfl) (a := a) (by intro a b h; simpa only [List.cons.injEq, and_true, true_and, one_inj, agg_inj, paF_inj, itF_inj, chF_inj, voF_inj, vsF_inj, csF_inj, nsF_inj, nssF_inj, ndF_inj, ceF_inj, woF_inj, evF_inj, byF_inj, ndsF_inj, evsF_inj, pasF_inj, aI_inj, aB_inj, aRp_inj, fI_inj, fBo_inj] using h) h
theorem K_spec_DrawWorldNew {a : (List Int)} {r : AV} (h : S_spec_DrawWorldNew.post ([one (byF a)]) r) : R_spec_DrawWorldNew a r :=
  mkR_post (a := a) (by intro a b h; simpa only [List.cons.injEq, and_true, true_and, one_inj, agg_inj, paF_inj, itF_inj, chF_inj, voF_inj, vsF_inj, csF_inj, nsF_inj, nssF_inj, ndF_inj, ceF_inj, woF_inj, evF_inj, byF_inj, ndsF_inj, evsF_inj, pasF_inj, aI_inj, aB_inj, aRp_inj, fI_inj, fBo_inj] using h) h
theorem K_laws_lwFits {a : (List It) × (List It)} {r : AV} (h : S_laws_lwFits.post ([one (chF a.1), one (chF a.2)]) r) : (True ∧ r = B true) ∨ (¬ (True) ∧ r = B false) :=
  tF_post (hcl := fun _ => rfl) (a := a) (by rintro ⟨x0, x1⟩ ⟨y0, y1⟩ h; simp only [List.cons.injEq, and_true, true_and, one_inj, agg_inj, paF_inj, itF_inj, chF_inj, voF_inj, vsF_inj, csF_inj, nsF_inj, nssF_inj, ndF_inj, ceF_inj, woF_inj, evF_inj, byF_inj, ndsF_inj, evsF_inj, pasF_inj, aI_inj, aB_inj, aRp_inj, fI_inj, fBo_inj] at h; obtain ⟨rfl, rfl⟩ := h; rfl) h
theorem K_laws_lwAgreed {a : (Wo)} {r : AV} (h : S_laws_lwAgreed.post ([agg (woF a)]) r) : (True ∧ r = B true) ∨ (¬ (True) ∧ r = B false) :=
  tF_post (hcl := fun _ => rfl) (a := a) (by intro a b h; simpa only [List.cons.injEq, and_true, true_and, one_inj, agg_inj, paF_inj, itF_inj, chF_inj, voF_inj, vsF_inj, csF_inj, nsF_inj, nssF_inj, ndF_inj, ceF_inj, woF_inj, evF_inj, byF_inj, ndsF_inj, evsF_inj, pasF_inj, aI_inj, aB_inj, aRp_inj, fI_inj, fBo_inj] using h) h
def R_laws_FnWorldNew (a : (List Int)) (r : AV) : Prop := r = B true
theorem inh_laws_FnWorldNew : ∀ a : List Int, LawB a → ∃ r, R_laws_FnWorldNew a r ∧ okV noN r := inh_yes (R := R_laws_FnWorldNew) fun _ => rfl
noncomputable def S_laws_FnWorldNew : FSpec := mkR (α := (List Int)) (fun a => [one (byF a)]) (fun a => LawB a) R_laws_FnWorldNew 200000 false (fun h => by cases h) inh_laws_FnWorldNew (fun _ => rfl)
theorem K_laws_FnWorldNew {a : (List Int)} {r : AV} (h : S_laws_FnWorldNew.post ([one (byF a)]) r) : R_laws_FnWorldNew a r :=
  mkR_post (a := a) (by intro a b h; simpa only [List.cons.injEq, and_true, true_and, one_inj, agg_inj, paF_inj, itF_inj, chF_inj, voF_inj, vsF_inj, csF_inj, nsF_inj, nssF_inj, ndF_inj, ceF_inj, woF_inj, evF_inj, byF_inj, ndsF_inj, evsF_inj, pasF_inj, aI_inj, aB_inj, aRp_inj, fI_inj, fBo_inj] using h) h
end Av
end Go.Proofs.Ytfijfccgghhkoaa
