/- The contracts of the laws' own functions: size, copies, equality. -/
import Derived.Test.YtfijfccgghhkoaaE2
set_option linter.unusedVariables false
set_option linter.unusedSimpArgs false
namespace Go.Proofs.Ytfijfccgghhkoaa
namespace Av
open Go.RowKit
abbrev BIG : Nat := 9223372036854775807
abbrev SM : Nat := 1048576
def BigVs (l : List Vo) : Prop := l.length ≤ BIG ∧ ∀ v, v ∈ l → v.c.length ≤ BIG
def SmVs (l : List Vo) : Prop := l.length ≤ SM ∧ ∀ v, v ∈ l → v.c.length ≤ SM
theorem SmVs.fit {l : List Vo} (h : SmVs l) : FitVs l := ⟨Nat.le_trans h.1 (by decide), fun v hv => Nat.le_trans (h.2 v hv) (by decide)⟩
theorem SmVs.lt {l : List Vo} (h : SmVs l) : l.length < LIM := Nat.lt_of_le_of_lt h.1 (by decide)
theorem BigVs.get {l : List Vo} {i : Nat} {v : Vo} (h : BigVs l) (hv : l[i]? = some v) : v.c.length ≤ BIG := h.2 v (List.mem_of_getElem? hv)
noncomputable def S_laws_eqPay : FSpec := tF (α := (Pa) × (Pa)) (fun a => [agg (paF a.1), agg (paF a.2)]) (fun a => True) (fun a => a.1 = a.2) (fun _ => rfl)
noncomputable def S_laws_eqItem : FSpec := tF (α := (It) × (It)) (fun a => [agg (itF a.1), agg (itF a.2)]) (fun a => True) (fun a => a.1 = a.2) (fun _ => rfl)
noncomputable def S_laws_eqItemS : FSpec := tF (α := (List It) × (List It)) (fun a => [one (chF a.1), one (chF a.2)]) (fun a => a.1.length ≤ LIM ∧ a.2.length ≤ LIM) (fun a => a.1 = a.2) (fun _ => rfl)
noncomputable def S_laws_eqVote : FSpec := tF (α := (Vo) × (Vo)) (fun a => [agg (voF a.1), agg (voF a.2)]) (fun a => FitV a.1 ∧ FitV a.2) (fun a => a.1 = a.2) (fun _ => rfl)
noncomputable def S_laws_eqVoteS : FSpec := tF (α := (List Vo) × (List Vo)) (fun a => [one (vsF a.1), one (vsF a.2)]) (fun a => FitVs a.1 ∧ FitVs a.2) (fun a => a.1 = a.2) (fun _ => rfl)
theorem K_laws_eqPay {a : (Pa) × (Pa)} {r : AV} (h : S_laws_eqPay.post ([agg (paF a.1), agg (paF a.2)]) r) : (a.1 = a.2 ∧ r = B true) ∨ (¬ (a.1 = a.2) ∧ r = B false) :=
  tF_post (hcl := fun _ => rfl) (a := a) (by rintro ⟨x0, x1⟩ ⟨y0, y1⟩ h; simp only [List.cons.injEq, and_true, true_and, one_inj, agg_inj, paF_inj, itF_inj, chF_inj, voF_inj, vsF_inj, csF_inj, nsF_inj, nssF_inj, ndF_inj, ceF_inj, woF_inj, evF_inj, byF_inj, ndsF_inj, evsF_inj, pasF_inj, aI_inj, aB_inj, aRp_inj, fI_inj, fBo_inj] at h; obtain ⟨rfl, rfl⟩ := h; rfl) h
theorem K_laws_eqItem {a : (It) × (It)} {r : AV} (h : S_laws_eqItem.post ([agg (itF a.1), agg (itF a.2)]) r) : (a.1 = a.2 ∧ r = B true) ∨ (¬ (a.1 = a.2) ∧ r = B false) :=
  tF_post (hcl := fun _ => rfl) (a := a) (by rintro ⟨x0, x1⟩ ⟨y0, y1⟩ h; simp only [List.cons.injEq, and_true, true_and, one_inj, agg_inj, paF_inj, itF_inj, chF_inj, voF_inj, vsF_inj, csF_inj, nsF_inj, nssF_inj, ndF_inj, ceF_inj, woF_inj, evF_inj, byF_inj, ndsF_inj, evsF_inj, pasF_inj, aI_inj, aB_inj, aRp_inj, fI_inj, fBo_inj] at h; obtain ⟨rfl, rfl⟩ := h; rfl) h
theorem K_laws_eqItemS {a : (List It) × (List It)} {r : AV} (h : S_laws_eqItemS.post ([one (chF a.1), one (chF a.2)]) r) : (a.1 = a.2 ∧ r = B true) ∨ (¬ (a.1 = a.2) ∧ r = B false) :=
  tF_post (hcl := fun _ => rfl) (a := a) (by rintro ⟨x0, x1⟩ ⟨y0, y1⟩ h; simp only [List.cons.injEq, and_true, true_and, one_inj, agg_inj, paF_inj, itF_inj, chF_inj, voF_inj, vsF_inj, csF_inj, nsF_inj, nssF_inj, ndF_inj, ceF_inj, woF_inj, evF_inj, byF_inj, ndsF_inj, evsF_inj, pasF_inj, aI_inj, aB_inj, aRp_inj, fI_inj, fBo_inj] at h; obtain ⟨rfl, rfl⟩ := h; rfl) h
theorem K_laws_eqVote {a : (Vo) × (Vo)} {r : AV} (h : S_laws_eqVote.post ([agg (voF a.1), agg (voF a.2)]) r) : (a.1 = a.2 ∧ r = B true) ∨ (¬ (a.1 = a.2) ∧ r = B false) :=
  tF_post (hcl := fun _ => rfl) (a := a) (by rintro ⟨x0, x1⟩ ⟨y0, y1⟩ h; simp only [List.cons.injEq, and_true, true_and, one_inj, agg_inj, paF_inj, itF_inj, chF_inj, voF_inj, vsF_inj, csF_inj, nsF_inj, nssF_inj, ndF_inj, ceF_inj, woF_inj, evF_inj, byF_inj, ndsF_inj, evsF_inj, pasF_inj, aI_inj, aB_inj, aRp_inj, fI_inj, fBo_inj] at h; obtain ⟨rfl, rfl⟩ := h; rfl) h
theorem K_laws_eqVoteS {a : (List Vo) × (List Vo)} {r : AV} (h : S_laws_eqVoteS.post ([one (vsF a.1), one (vsF a.2)]) r) : (a.1 = a.2 ∧ r = B true) ∨ (¬ (a.1 = a.2) ∧ r = B false) :=
  tF_post (hcl := fun _ => rfl) (a := a) (by rintro ⟨x0, x1⟩ ⟨y0, y1⟩ h; simp only [List.cons.injEq, and_true, true_and, one_inj, agg_inj, paF_inj, itF_inj, chF_inj, voF_inj, vsF_inj, csF_inj, nsF_inj, nssF_inj, ndF_inj, ceF_inj, woF_inj, evF_inj, byF_inj, ndsF_inj, evsF_inj, pasF_inj, aI_inj, aB_inj, aRp_inj, fI_inj, fBo_inj] at h; obtain ⟨rfl, rfl⟩ := h; rfl) h
/-- An array that is filled from its head. -/
def fill {α : Type} (f : α → List AC) (z : List AC) (l : List α) (i : Nat) : List (List AC) := (l.take i).map f ++ List.replicate (l.length - i) z
theorem fill_at {α : Type} {f : α → List AC} {z : List AC} {l : List α} {i : Nat} (h : i < l.length) : (fill f z l i)[i]? = some z := by
  unfold fill
  rw [List.getElem?_append_right (by simp only [List.length_map, List.length_take]; omega)]
  rw [List.getElem?_replicate_of_lt]
  simp only [List.length_map, List.length_take]; omega
end Av
end Go.Proofs.Ytfijfccgghhkoaa
