/- The contracts of the laws' helpers, and of the functions on sure chains and on votes that are added. -/
import Derived.Test.YtdboofnogabefaaE6
set_option linter.unusedVariables false
set_option linter.unusedSimpArgs false
namespace Go.Proofs.Ytdboofnogabefaa
namespace Av
open Go.RowKit
theorem FitCs.get {l : List (List It)} {i : Nat} {c : List It} (h : FitCs l) (hc : l[i]? = some c) : c.length ≤ LIM := h.2 c (List.mem_of_getElem? hc)
def TSure (l : List Vo) (c : List It) : Prop := VotesOk l ∧ ChainOk c ∧ Sure l c
noncomputable def votesFor (l : List Vo) (c : List It) : List Int := if tb (VotesOk l) = true then voters l c else []
noncomputable def S_laws_lwSame : FSpec := tF (α := (List It) × (List It)) (fun a => [one (chF a.1), one (chF a.2)]) (fun a => a.1.length ≤ LIM ∧ a.2.length ≤ LIM) (fun a => a.1 = a.2) (fun _ => rfl)
noncomputable def S_laws_lwInts : FSpec := tF (α := (List Int) × (List Int)) (fun a => [one (nsF a.1), one (nsF a.2)]) (fun a => a.1.length ≤ LIM ∧ a.2.length ≤ LIM) (fun a => a.1 = a.2) (fun _ => rfl)
theorem K_impl_nodeOk {a : (Int)} {r : AV} (h : S_impl_nodeOk.post ([I a]) r) : (In a 1 4 ∧ r = B true) ∨ (¬ (In a 1 4) ∧ r = B false) :=
  tF_post (hcl := fun _ => rfl) (a := a) (by intro a b h; simpa only [List.cons.injEq, and_true, true_and, one_inj, agg_inj, paF_inj, itF_inj, chF_inj, voF_inj, vsF_inj, csF_inj, nsF_inj, nssF_inj, ndF_inj, ceF_inj, woF_inj, evF_inj, byF_inj, ndsF_inj, evsF_inj, pasF_inj, aI_inj, aB_inj, aRp_inj, fI_inj, fBo_inj] using h) h
theorem K_impl_PayOk {a : (Pa)} {r : AV} (h : S_impl_PayOk.post ([agg (paF a)]) r) : (PayOk a ∧ r = B true) ∨ (¬ (PayOk a) ∧ r = B false) :=
  tF_post (hcl := fun _ => rfl) (a := a) (by intro a b h; simpa only [List.cons.injEq, and_true, true_and, one_inj, agg_inj, paF_inj, itF_inj, chF_inj, voF_inj, vsF_inj, csF_inj, nsF_inj, nssF_inj, ndF_inj, ceF_inj, woF_inj, evF_inj, byF_inj, ndsF_inj, evsF_inj, pasF_inj, aI_inj, aB_inj, aRp_inj, fI_inj, fBo_inj] using h) h
theorem K_impl_ChainOk {a : (List It)} {r : AV} (h : S_impl_ChainOk.post ([one (chF a)]) r) : (ChainOk a ∧ r = B true) ∨ (¬ (ChainOk a) ∧ r = B false) :=
  tF_post (hcl := fun _ => rfl) (a := a) (by intro a b h; simpa only [List.cons.injEq, and_true, true_and, one_inj, agg_inj, paF_inj, itF_inj, chF_inj, voF_inj, vsF_inj, csF_inj, nsF_inj, nssF_inj, ndF_inj, ceF_inj, woF_inj, evF_inj, byF_inj, ndsF_inj, evsF_inj, pasF_inj, aI_inj, aB_inj, aRp_inj, fI_inj, fBo_inj] using h) h
theorem K_impl_copied {a : (List It)} {r : AV} (h : S_impl_copied.post ([one (chF a)]) r) : r = one (chF a) :=
  oF_post (hcl := fun _ => rfl) (a := a) (by intro a b h; simpa only [List.cons.injEq, and_true, true_and, one_inj, agg_inj, paF_inj, itF_inj, chF_inj, voF_inj, vsF_inj, csF_inj, nsF_inj, nssF_inj, ndF_inj, ceF_inj, woF_inj, evF_inj, byF_inj, ndsF_inj, evsF_inj, pasF_inj, aI_inj, aB_inj, aRp_inj, fI_inj, fBo_inj] using h) h
theorem K_laws_lwSame {a : (List It) × (List It)} {r : AV} (h : S_laws_lwSame.post ([one (chF a.1), one (chF a.2)]) r) : (a.1 = a.2 ∧ r = B true) ∨ (¬ (a.1 = a.2) ∧ r = B false) :=
  tF_post (hcl := fun _ => rfl) (a := a) (by rintro ⟨x0, x1⟩ ⟨y0, y1⟩ h; simp only [List.cons.injEq, and_true, true_and, one_inj, agg_inj, paF_inj, itF_inj, chF_inj, voF_inj, vsF_inj, csF_inj, nsF_inj, nssF_inj, ndF_inj, ceF_inj, woF_inj, evF_inj, byF_inj, ndsF_inj, evsF_inj, pasF_inj, aI_inj, aB_inj, aRp_inj, fI_inj, fBo_inj] at h; obtain ⟨rfl, rfl⟩ := h; rfl) h
theorem K_laws_lwInts {a : (List Int) × (List Int)} {r : AV} (h : S_laws_lwInts.post ([one (nsF a.1), one (nsF a.2)]) r) : (a.1 = a.2 ∧ r = B true) ∨ (¬ (a.1 = a.2) ∧ r = B false) :=
  tF_post (hcl := fun _ => rfl) (a := a) (by rintro ⟨x0, x1⟩ ⟨y0, y1⟩ h; simp only [List.cons.injEq, and_true, true_and, one_inj, agg_inj, paF_inj, itF_inj, chF_inj, voF_inj, vsF_inj, csF_inj, nsF_inj, nssF_inj, ndF_inj, ceF_inj, woF_inj, evF_inj, byF_inj, ndsF_inj, evsF_inj, pasF_inj, aI_inj, aB_inj, aRp_inj, fI_inj, fBo_inj] at h; obtain ⟨rfl, rfl⟩ := h; rfl) h
end Av
end Go.Proofs.Ytdboofnogabefaa
