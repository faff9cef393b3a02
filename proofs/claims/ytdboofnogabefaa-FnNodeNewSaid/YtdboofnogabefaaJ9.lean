/- Texts of the layer, joined. -/
import Derived.Test.YtdboofnogabefaaE6
set_option linter.unusedVariables false
set_option linter.unusedSimpArgs false
namespace Go.Proofs.Ytdboofnogabefaa
namespace Av
open Go.RowKit
theorem FitCs.get {l : List (List It)} {i : Nat} {c : List It} (h : FitCs l) (hc : l[i]? = some c) : c.length ≤ LIM := h.2 c (List.mem_of_getElem? hc)
def TSure (l : List Vo) (c : List It) : Prop := VotesOk l ∧ ChainOk c ∧ Sure l c
noncomputable def votesFor (l : List Vo) (c : List It) : List Int := if tb (VotesOk l) = true then voters l c else []
/-- An array in; its votes out, for good. -/
noncomputable def S_slices_Clip_VoteS : MSpec := mkM (α := List Vo) (fun _ => [ow0]) (fun l => [voO l]) (fun l => l.length ≤ LIM) (fun l r obs' => r = one (vsF l) ∧ obs' = [some (.tok ty_impl_Vote 2 l.length)]) 0
  (fun l _ => ⟨_, _, ⟨rfl, rfl⟩, trivial, ok_sg trivial⟩) (fun b r obs' ⟨_, h⟩ => by rw [h]; exact ⟨by simp, by simp⟩)
theorem K_slices_Clip_VoteS {l : List Vo} {r : AV} {obs' : List (Option Ob)} (h : S_slices_Clip_VoteS.post [ow0] [voO l] r obs') : r = one (vsF l) ∧ obs' = [some (.tok ty_impl_Vote 2 l.length)] :=
  mkM_post (enc := fun _ => [ow0]) (ob := fun l => [voO l]) (a := l) (fun _ _ _ h => voO_inj h) h
noncomputable def S_laws_lwSame : FSpec := tF (α := (List It) × (List It)) (fun a => [one (chF a.1), one (chF a.2)]) (fun a => a.1.length ≤ LIM ∧ a.2.length ≤ LIM) (fun a => a.1 = a.2) (fun _ => rfl)
noncomputable def S_laws_lwVote : FSpec := tF (α := (Vo) × (Vo)) (fun a => [agg (voF a.1), agg (voF a.2)]) (fun a => FitV a.1 ∧ FitV a.2) (fun a => a.1 = a.2) (fun _ => rfl)
noncomputable def S_laws_lwVotes : FSpec := tF (α := (List Vo) × (List Vo)) (fun a => [one (vsF a.1), one (vsF a.2)]) (fun a => FitVs a.1 ∧ FitVs a.2) (fun a => a.1 = a.2) (fun _ => rfl)
noncomputable def S_laws_lwInts : FSpec := tF (α := (List Int) × (List Int)) (fun a => [one (nsF a.1), one (nsF a.2)]) (fun a => a.1.length ≤ LIM ∧ a.2.length ≤ LIM) (fun a => a.1 = a.2) (fun _ => rfl)
noncomputable def S_impl_Vote_copied : FSpec := gF (α := (Vo)) (fun a => [agg (voF a)]) (fun a => FitV a) (fun a => voF a) (fun _ => rfl)
noncomputable def S_impl_votes_copied : FSpec := oF (α := (List Vo)) (fun a => [one (vsF a)]) (fun a => FitVs a) (fun a => vsF a) (fun _ => rfl)
noncomputable def S_impl_votes_with : FSpec := oF (α := (List Vo) × (Vo)) (fun a => [one (vsF a.1), agg (voF a.2)]) (fun a => FitVs a.1 ∧ FitV a.2 ∧ a.1.length < LIM) (fun a => vsF (a.1 ++ [a.2])) (fun _ => rfl)
theorem K_impl_epochOk {a : (Int)} {r : AV} (h : S_impl_epochOk.post ([I a]) r) : (EpochOk a ∧ r = B true) ∨ (¬ (EpochOk a) ∧ r = B false) :=
  tF_post (hcl := fun _ => rfl) (a := a) (by intro a b h; simpa only [List.cons.injEq, and_true, true_and, one_inj, agg_inj, paF_inj, itF_inj, chF_inj, voF_inj, vsF_inj, csF_inj, nsF_inj, nssF_inj, ndF_inj, ceF_inj, woF_inj, evF_inj, byF_inj, ndsF_inj, evsF_inj, pasF_inj, aI_inj, aB_inj, aRp_inj, fI_inj, fBo_inj] using h) h
theorem K_impl_nodeOk {a : (Int)} {r : AV} (h : S_impl_nodeOk.post ([I a]) r) : (In a 1 4 ∧ r = B true) ∨ (¬ (In a 1 4) ∧ r = B false) :=
  tF_post (hcl := fun _ => rfl) (a := a) (by intro a b h; simpa only [List.cons.injEq, and_true, true_and, one_inj, agg_inj, paF_inj, itF_inj, chF_inj, voF_inj, vsF_inj, csF_inj, nsF_inj, nssF_inj, ndF_inj, ceF_inj, woF_inj, evF_inj, byF_inj, ndsF_inj, evsF_inj, pasF_inj, aI_inj, aB_inj, aRp_inj, fI_inj, fBo_inj] using h) h
theorem K_impl_PayOk {a : (Pa)} {r : AV} (h : S_impl_PayOk.post ([agg (paF a)]) r) : (PayOk a ∧ r = B true) ∨ (¬ (PayOk a) ∧ r = B false) :=
  tF_post (hcl := fun _ => rfl) (a := a) (by intro a b h; simpa only [List.cons.injEq, and_true, true_and, one_inj, agg_inj, paF_inj, itF_inj, chF_inj, voF_inj, vsF_inj, csF_inj, nsF_inj, nssF_inj, ndF_inj, ceF_inj, woF_inj, evF_inj, byF_inj, ndsF_inj, evsF_inj, pasF_inj, aI_inj, aB_inj, aRp_inj, fI_inj, fBo_inj] using h) h
theorem K_impl_ChainOk {a : (List It)} {r : AV} (h : S_impl_ChainOk.post ([one (chF a)]) r) : (ChainOk a ∧ r = B true) ∨ (¬ (ChainOk a) ∧ r = B false) :=
  tF_post (hcl := fun _ => rfl) (a := a) (by intro a b h; simpa only [List.cons.injEq, and_true, true_and, one_inj, agg_inj, paF_inj, itF_inj, chF_inj, voF_inj, vsF_inj, csF_inj, nsF_inj, nssF_inj, ndF_inj, ceF_inj, woF_inj, evF_inj, byF_inj, ndsF_inj, evsF_inj, pasF_inj, aI_inj, aB_inj, aRp_inj, fI_inj, fBo_inj] using h) h
theorem K_impl_copied {a : (List It)} {r : AV} (h : S_impl_copied.post ([one (chF a)]) r) : r = one (chF a) :=
  oF_post (hcl := fun _ => rfl) (a := a) (by intro a b h; simpa only [List.cons.injEq, and_true, true_and, one_inj, agg_inj, paF_inj, itF_inj, chF_inj, voF_inj, vsF_inj, csF_inj, nsF_inj, nssF_inj, ndF_inj, ceF_inj, woF_inj, evF_inj, byF_inj, ndsF_inj, evsF_inj, pasF_inj, aI_inj, aB_inj, aRp_inj, fI_inj, fBo_inj] using h) h
theorem K_impl_votes_all {a : (List Vo)} {r : AV} (h : S_impl_votes_all.post ([one (vsF a)]) r) : r = one (csF (allS a)) :=
  oF_post (hcl := fun _ => rfl) (a := a) (by intro a b h; simpa only [List.cons.injEq, and_true, true_and, one_inj, agg_inj, paF_inj, itF_inj, chF_inj, voF_inj, vsF_inj, csF_inj, nsF_inj, nssF_inj, ndF_inj, ceF_inj, woF_inj, evF_inj, byF_inj, ndsF_inj, evsF_inj, pasF_inj, aI_inj, aB_inj, aRp_inj, fI_inj, fBo_inj] using h) h
theorem K_laws_lwSame {a : (List It) × (List It)} {r : AV} (h : S_laws_lwSame.post ([one (chF a.1), one (chF a.2)]) r) : (a.1 = a.2 ∧ r = B true) ∨ (¬ (a.1 = a.2) ∧ r = B false) :=
  tF_post (hcl := fun _ => rfl) (a := a) (by rintro ⟨x0, x1⟩ ⟨y0, y1⟩ h; simp only [List.cons.injEq, and_true, true_and, one_inj, agg_inj, paF_inj, itF_inj, chF_inj, voF_inj, vsF_inj, csF_inj, nsF_inj, nssF_inj, ndF_inj, ceF_inj, woF_inj, evF_inj, byF_inj, ndsF_inj, evsF_inj, pasF_inj, aI_inj, aB_inj, aRp_inj, fI_inj, fBo_inj] at h; obtain ⟨rfl, rfl⟩ := h; rfl) h
theorem K_laws_lwVote {a : (Vo) × (Vo)} {r : AV} (h : S_laws_lwVote.post ([agg (voF a.1), agg (voF a.2)]) r) : (a.1 = a.2 ∧ r = B true) ∨ (¬ (a.1 = a.2) ∧ r = B false) :=
  tF_post (hcl := fun _ => rfl) (a := a) (by rintro ⟨x0, x1⟩ ⟨y0, y1⟩ h; simp only [List.cons.injEq, and_true, true_and, one_inj, agg_inj, paF_inj, itF_inj, chF_inj, voF_inj, vsF_inj, csF_inj, nsF_inj, nssF_inj, ndF_inj, ceF_inj, woF_inj, evF_inj, byF_inj, ndsF_inj, evsF_inj, pasF_inj, aI_inj, aB_inj, aRp_inj, fI_inj, fBo_inj] at h; obtain ⟨rfl, rfl⟩ := h; rfl) h
theorem K_laws_lwVotes {a : (List Vo) × (List Vo)} {r : AV} (h : S_laws_lwVotes.post ([one (vsF a.1), one (vsF a.2)]) r) : (a.1 = a.2 ∧ r = B true) ∨ (¬ (a.1 = a.2) ∧ r = B false) :=
  tF_post (hcl := fun _ => rfl) (a := a) (by rintro ⟨x0, x1⟩ ⟨y0, y1⟩ h; simp only [List.cons.injEq, and_true, true_and, one_inj, agg_inj, paF_inj, itF_inj, chF_inj, voF_inj, vsF_inj, csF_inj, nsF_inj, nssF_inj, ndF_inj, ceF_inj, woF_inj, evF_inj, byF_inj, ndsF_inj, evsF_inj, pasF_inj, aI_inj, aB_inj, aRp_inj, fI_inj, fBo_inj] at h; obtain ⟨rfl, rfl⟩ := h; rfl) h
theorem K_laws_lwInts {a : (List Int) × (List Int)} {r : AV} (h : S_laws_lwInts.post ([one (nsF a.1), one (nsF a.2)]) r) : (a.1 = a.2 ∧ r = B true) ∨ (¬ (a.1 = a.2) ∧ r = B false) :=
  tF_post (hcl := fun _ => rfl) (a := a) (by rintro ⟨x0, x1⟩ ⟨y0, y1⟩ h; simp only [List.cons.injEq, and_true, true_and, one_inj, agg_inj, paF_inj, itF_inj, chF_inj, voF_inj, vsF_inj, csF_inj, nsF_inj, nssF_inj, ndF_inj, ceF_inj, woF_inj, evF_inj, byF_inj, ndsF_inj, evsF_inj, pasF_inj, aI_inj, aB_inj, aRp_inj, fI_inj, fBo_inj] at h; obtain ⟨rfl, rfl⟩ := h; rfl) h
theorem K_impl_Vote_copied {a : (Vo)} {r : AV} (h : S_impl_Vote_copied.post ([agg (voF a)]) r) : r = agg (voF a) :=
  gF_post (hcl := fun _ => rfl) (a := a) (by intro a b h; simpa only [List.cons.injEq, and_true, true_and, one_inj, agg_inj, paF_inj, itF_inj, chF_inj, voF_inj, vsF_inj, csF_inj, nsF_inj, nssF_inj, ndF_inj, ceF_inj, woF_inj, evF_inj, byF_inj, ndsF_inj, evsF_inj, pasF_inj, aI_inj, aB_inj, aRp_inj, fI_inj, fBo_inj] using h) h
theorem K_impl_votes_copied {a : (List Vo)} {r : AV} (h : S_impl_votes_copied.post ([one (vsF a)]) r) : r = one (vsF a) :=
  oF_post (hcl := fun _ => rfl) (a := a) (by intro a b h; simpa only [List.cons.injEq, and_true, true_and, one_inj, agg_inj, paF_inj, itF_inj, chF_inj, voF_inj, vsF_inj, csF_inj, nsF_inj, nssF_inj, ndF_inj, ceF_inj, woF_inj, evF_inj, byF_inj, ndsF_inj, evsF_inj, pasF_inj, aI_inj, aB_inj, aRp_inj, fI_inj, fBo_inj] using h) h
theorem K_impl_votes_with {a : (List Vo) × (Vo)} {r : AV} (h : S_impl_votes_with.post ([one (vsF a.1), agg (voF a.2)]) r) : r = one (vsF (a.1 ++ [a.2])) :=
  oF_post (hcl := fun _ => rfl) (a := a) (by rintro ⟨x0, x1⟩ ⟨y0, y1⟩ h; simp only [List.cons.injEq, and_true, true_and, one_inj, agg_inj, paF_inj, itF_inj, chF_inj, voF_inj, vsF_inj, csF_inj, nsF_inj, nssF_inj, ndF_inj, ceF_inj, woF_inj, evF_inj, byF_inj, ndsF_inj, evsF_inj, pasF_inj, aI_inj, aB_inj, aRp_inj, fI_inj, fBo_inj] at h; obtain ⟨rfl, rfl⟩ := h; rfl) h
end Av
end Go.Proofs.Ytdboofnogabefaa

namespace Go.Proofs.Ytdboofnogabefaa
namespace Av
open Go.RowKit
def LawB (b : List Int) : Prop := b.length ≤ BIG ∧ Bytes b
theorem LawB.code {b : List Int} (h : LawB b) (h' : (b.length : Int) ≤ 1048576) : CodeOk b := ⟨by simp only [LIM]; omega, h.2⟩
theorem inh_yes {α : Sort _} {p : α → Prop} {R : α → AV → Prop} (h : ∀ a, R a (B true)) : ∀ a, p a → ∃ r, R a r ∧ okV noN r := fun a _ => ⟨B true, h a, trivial⟩
end Av
end Go.Proofs.Ytdboofnogabefaa

