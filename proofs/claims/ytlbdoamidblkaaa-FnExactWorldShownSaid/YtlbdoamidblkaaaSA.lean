/- The contracts of what is shown in a world. -/
import Derived.Test.YtlbdoamidblkaaaV0
import Derived.Test.YtlbdoamidblkaaaCA
set_option linter.unusedVariables false
set_option linter.unusedSimpArgs false
namespace Go.Proofs.Ytlbdoamidblkaaa
namespace Av
open Go.RowKit
/-- The question that a cert's votes are asked. -/
def fnS (w : Wo) : AV := .fn (.func n_impl_WorldShown_1) [] [.o (.ep (woF w))]
theorem encS_inj (a b : List Vo × Wo) (h : [one (vsF a.1), fnS a.2] = [one (vsF b.1), fnS b.2]) : a = b := by
  obtain ⟨l, q⟩ := a; obtain ⟨m, p⟩ := b
  have h1 := vsF_inj.1 (one_inj.1 (List.cons.inj h).1)
  have h2 := woF_inj.1 (AC.ep.inj (AW.o.inj (List.cons.inj (AV.fn.inj (List.cons.inj (List.cons.inj h).2).1).2.2).1))
  dsimp only at h1 h2
  rw [h1, h2]
def R_idxS (a : List Vo × Wo) (r : AV) : Prop := ∃ k : Int, r = I k ∧ (0 ≤ k ↔ ∃ v, v ∈ a.1 ∧ ¬ ShownW a.2 v)
theorem sc_idxS : true = true → ∀ a r, R_idxS a r → scal r := fun _ a r ⟨k, h, _⟩ => by rw [h]; trivial
theorem inh_idxS : ∀ a : List Vo × Wo, FitVs a.1 ∧ FitVs a.2.log → ∃ r, R_idxS a r ∧ okV noN r := fun a _ => by
  by_cases h : ∃ v, v ∈ a.1 ∧ ¬ ShownW a.2 v
  · exact ⟨I 0, ⟨0, rfl, iff_of_true (by decide) h⟩, trivial⟩
  · exact ⟨I (-1), ⟨-1, rfl, iff_of_false (by decide) h⟩, trivial⟩
noncomputable def S_slices_IndexFunc_VoteS_s : FSpec := mkR (α := List Vo × Wo) (fun a => [one (vsF a.1), fnS a.2]) (fun a => FitVs a.1 ∧ FitVs a.2.log) R_idxS 0 true sc_idxS inh_idxS (fun _ => rfl)
theorem K_slices_IndexFunc_VoteS_s {a : List Vo × Wo} {r : AV} (h : S_slices_IndexFunc_VoteS_s.post [one (vsF a.1), fnS a.2] r) : R_idxS a r :=
  mkR_post (hsc := sc_idxS) (hinh := inh_idxS) (hcl := fun _ => rfl) (a := a) encS_inj h
noncomputable def S_slices_ContainsFunc_VoteS_s : FSpec := tF (α := List Vo × Wo) (fun a => [one (vsF a.1), fnS a.2]) (fun a => FitVs a.1 ∧ FitVs a.2.log) (fun a => ∃ v, v ∈ a.1 ∧ ¬ ShownW a.2 v) (fun _ => rfl)
theorem K_slices_ContainsFunc_VoteS_s {a : List Vo × Wo} {r : AV} (h : S_slices_ContainsFunc_VoteS_s.post [one (vsF a.1), fnS a.2] r) : ((∃ v, v ∈ a.1 ∧ ¬ ShownW a.2 v) ∧ r = B true) ∨ (¬ (∃ v, v ∈ a.1 ∧ ¬ ShownW a.2 v) ∧ r = B false) :=
  tF_post (hcl := fun _ => rfl) (a := a) encS_inj h
def WShown (w : Wo) (c : Ce) : Prop := WorldOk w ∧ CertOk c ∧ ShownAll w (certVotes c)
noncomputable def S_impl_WorldShown_1 : FSpec := tF (α := (Vo) × (Wo)) (fun a => [agg (voF a.1), .w (.o (.ep (woF a.2)))]) (fun a => FitV a.1 ∧ FitVs a.2.log) (fun a => ¬ ShownW a.2 a.1) (fun _ => rfl)
noncomputable def S_impl_WorldShown : FSpec := tF (α := (Wo) × (Ce)) (fun a => [agg (woF a.1), agg (ceF a.2)]) (fun a => FitNs a.1.nodes ∧ FitVs a.1.log ∧ FitCe a.2) (fun a => WShown a.1 a.2) (fun _ => rfl)
noncomputable def S_spec_WorldShown : FSpec := tF (α := (Wo) × (Ce)) (fun a => [agg (woF a.1), agg (ceF a.2)]) (fun a => FitNs a.1.nodes ∧ FitVs a.1.log ∧ FitCe a.2) (fun a => WShown a.1 a.2) (fun _ => rfl)
noncomputable def S_laws_FnExactWorldShown : FSpec := tF (α := (Wo) × (Ce)) (fun a => [agg (woF a.1), agg (ceF a.2)]) (fun a => BigNs a.1.nodes ∧ BigVs a.1.log ∧ BigCe a.2) (fun a => True) (fun _ => rfl)
theorem K_impl_WorldShown_1 {a : (Vo) × (Wo)} {r : AV} (h : S_impl_WorldShown_1.post ([agg (voF a.1), .w (.o (.ep (woF a.2)))]) r) : (¬ ShownW a.2 a.1 ∧ r = B true) ∨ (¬ (¬ ShownW a.2 a.1) ∧ r = B false) :=
  tF_post (hcl := fun _ => rfl) (a := a) (by rintro ⟨x0, x1⟩ ⟨y0, y1⟩ h; simp only [aEp_inj, List.cons.injEq, and_true, true_and, one_inj, agg_inj, paF_inj, itF_inj, chF_inj, voF_inj, vsF_inj, csF_inj, nsF_inj, nssF_inj, ndF_inj, ceF_inj, woF_inj, evF_inj, byF_inj, ndsF_inj, evsF_inj, pasF_inj, aI_inj, aB_inj, aRp_inj, fI_inj, fBo_inj] at h; obtain ⟨rfl, rfl⟩ := h; rfl) h
theorem K_impl_WorldShown {a : (Wo) × (Ce)} {r : AV} (h : S_impl_WorldShown.post ([agg (woF a.1), agg (ceF a.2)]) r) : (WShown a.1 a.2 ∧ r = B true) ∨ (¬ (WShown a.1 a.2) ∧ r = B false) :=
  tF_post (hcl := fun _ => rfl) (a := a) (by rintro ⟨x0, x1⟩ ⟨y0, y1⟩ h; simp only [List.cons.injEq, and_true, true_and, one_inj, agg_inj, paF_inj, itF_inj, chF_inj, voF_inj, vsF_inj, csF_inj, nsF_inj, nssF_inj, ndF_inj, ceF_inj, woF_inj, evF_inj, byF_inj, ndsF_inj, evsF_inj, pasF_inj, aI_inj, aB_inj, aRp_inj, fI_inj, fBo_inj] at h; obtain ⟨rfl, rfl⟩ := h; rfl) h
theorem K_spec_WorldShown {a : (Wo) × (Ce)} {r : AV} (h : S_spec_WorldShown.post ([agg (woF a.1), agg (ceF a.2)]) r) : (WShown a.1 a.2 ∧ r = B true) ∨ (¬ (WShown a.1 a.2) ∧ r = B false) :=
  tF_post (hcl := fun _ => rfl) (a := a) (by rintro ⟨x0, x1⟩ ⟨y0, y1⟩ h; simp only [List.cons.injEq, and_true, true_and, one_inj, agg_inj, paF_inj, itF_inj, chF_inj, voF_inj, vsF_inj, csF_inj, nsF_inj, nssF_inj, ndF_inj, ceF_inj, woF_inj, evF_inj, byF_inj, ndsF_inj, evsF_inj, pasF_inj, aI_inj, aB_inj, aRp_inj, fI_inj, fBo_inj] at h; obtain ⟨rfl, rfl⟩ := h; rfl) h
theorem K_laws_FnExactWorldShown {a : (Wo) × (Ce)} {r : AV} (h : S_laws_FnExactWorldShown.post ([agg (woF a.1), agg (ceF a.2)]) r) : (True ∧ r = B true) ∨ (¬ (True) ∧ r = B false) :=
  tF_post (hcl := fun _ => rfl) (a := a) (by rintro ⟨x0, x1⟩ ⟨y0, y1⟩ h; simp only [List.cons.injEq, and_true, true_and, one_inj, agg_inj, paF_inj, itF_inj, chF_inj, voF_inj, vsF_inj, csF_inj, nsF_inj, nssF_inj, ndF_inj, ceF_inj, woF_inj, evF_inj, byF_inj, ndsF_inj, evsF_inj, pasF_inj, aI_inj, aB_inj, aRp_inj, fI_inj, fBo_inj] at h; obtain ⟨rfl, rfl⟩ := h; rfl) h
end Av
end Go.Proofs.Ytlbdoamidblkaaa
