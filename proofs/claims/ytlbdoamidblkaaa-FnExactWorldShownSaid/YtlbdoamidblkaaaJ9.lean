/- Texts of the layer, joined. -/
import Derived.Test.YtlbdoamidblkaaaE4
import Derived.Test.YtlbdoamidblkaaaW1
set_option linter.unusedVariables false
set_option linter.unusedSimpArgs false
namespace Go.Proofs.Ytlbdoamidblkaaa
namespace Av
open Go.RowKit
def Bytes (b : List Int) : Prop := ∀ x, x ∈ b → 0 ≤ x ∧ x ≤ 255
def CodeOk (b : List Int) : Prop := b.length ≤ LIM ∧ Bytes b
def DrV (l : List Vo) : Prop := l.length ≤ 400 ∧ ∀ v, v ∈ l → v.c.length ≤ 16
theorem DrV.fit {l : List Vo} (h : DrV l) : FitVs l := ⟨Nat.le_trans h.1 (by decide), fun v hv => Nat.le_trans (h.2 v hv) (by decide)⟩
theorem DrV.lt {l : List Vo} (h : DrV l) : l.length < LIM := Nat.lt_of_le_of_lt h.1 (by decide)
theorem DrV.get {l : List Vo} {i : Nat} {v : Vo} (h : DrV l) (hv : l[i]? = some v) : v.c.length ≤ 16 := h.2 v (List.mem_of_getElem? hv)
abbrev ow0 : AV := .w (.o (.ow 0))
abbrev voO (l : List Vo) : Ob := .arr ty_impl_Vote 2 (arA voF l)
theorem voO_inj {a b : List Vo} (h : [voO a] = [voO b]) : a = b := by
  have := (List.cons.inj h).1
  exact arA_inj (fun _ _ => voF_inj.1) (Ob.arr.inj this).2.2
theorem ok_sg {D : Nat → Prop} {o1 : Ob} (h1 : okOb D o1) : ∀ (j : Nat) o, [some o1][j]? = some (some o) → okOb D o
  | 0, o, h => by cases h; exact h1
  | j + 1, o, h => by simp at h
def noV : Vo := ⟨0, []⟩
end Av
end Go.Proofs.Ytlbdoamidblkaaa

namespace Go.Proofs.Ytlbdoamidblkaaa
namespace Av
open Go.RowKit
theorem FitCs.get {l : List (List It)} {i : Nat} {c : List It} (h : FitCs l) (hc : l[i]? = some c) : c.length ≤ LIM := h.2 c (List.mem_of_getElem? hc)
/-- An array in; its votes out, for good. -/
noncomputable def S_slices_Clip_VoteS : MSpec := mkM (α := List Vo) (fun _ => [ow0]) (fun l => [voO l]) (fun l => l.length ≤ LIM) (fun l r obs' => r = one (vsF l) ∧ obs' = [some (.tok ty_impl_Vote 2 l.length)]) 0
  (fun l _ => ⟨_, _, ⟨rfl, rfl⟩, trivial, ok_sg trivial⟩) (fun b r obs' ⟨_, h⟩ => by rw [h]; exact ⟨by simp, by simp⟩)
theorem K_slices_Clip_VoteS {l : List Vo} {r : AV} {obs' : List (Option Ob)} (h : S_slices_Clip_VoteS.post [ow0] [voO l] r obs') : r = one (vsF l) ∧ obs' = [some (.tok ty_impl_Vote 2 l.length)] :=
  mkM_post (enc := fun _ => [ow0]) (ob := fun l => [voO l]) (a := l) (fun _ _ _ h => voO_inj h) h
theorem K_impl_nodeOk {a : (Int)} {r : AV} (h : S_impl_nodeOk.post ([I a]) r) : (In a 1 4 ∧ r = B true) ∨ (¬ (In a 1 4) ∧ r = B false) :=
  tF_post (hcl := fun _ => rfl) (a := a) (by intro a b h; simpa only [List.cons.injEq, and_true, true_and, one_inj, agg_inj, paF_inj, itF_inj, chF_inj, voF_inj, vsF_inj, csF_inj, nsF_inj, nssF_inj, ndF_inj, ceF_inj, woF_inj, evF_inj, byF_inj, ndsF_inj, evsF_inj, pasF_inj, aI_inj, aB_inj, aRp_inj, fI_inj, fBo_inj] using h) h
theorem K_impl_ChainOk {a : (List It)} {r : AV} (h : S_impl_ChainOk.post ([one (chF a)]) r) : (ChainOk a ∧ r = B true) ∨ (¬ (ChainOk a) ∧ r = B false) :=
  tF_post (hcl := fun _ => rfl) (a := a) (by intro a b h; simpa only [List.cons.injEq, and_true, true_and, one_inj, agg_inj, paF_inj, itF_inj, chF_inj, voF_inj, vsF_inj, csF_inj, nsF_inj, nssF_inj, ndF_inj, ceF_inj, woF_inj, evF_inj, byF_inj, ndsF_inj, evsF_inj, pasF_inj, aI_inj, aB_inj, aRp_inj, fI_inj, fBo_inj] using h) h
theorem K_impl_votes_has {a : (List Vo) × (Vo)} {r : AV} (h : S_impl_votes_has.post ([one (vsF a.1), agg (voF a.2)]) r) : (a.2 ∈ a.1 ∧ r = B true) ∨ (¬ (a.2 ∈ a.1) ∧ r = B false) :=
  tF_post (hcl := fun _ => rfl) (a := a) (by rintro ⟨x0, x1⟩ ⟨y0, y1⟩ h; simp only [List.cons.injEq, and_true, true_and, one_inj, agg_inj, paF_inj, itF_inj, chF_inj, voF_inj, vsF_inj, csF_inj, nsF_inj, nssF_inj, ndF_inj, ceF_inj, woF_inj, evF_inj, byF_inj, ndsF_inj, evsF_inj, pasF_inj, aI_inj, aB_inj, aRp_inj, fI_inj, fBo_inj] at h; obtain ⟨rfl, rfl⟩ := h; rfl) h
theorem K_impl_copied {a : (List It)} {r : AV} (h : S_impl_copied.post ([one (chF a)]) r) : r = one (chF a) :=
  oF_post (hcl := fun _ => rfl) (a := a) (by intro a b h; simpa only [List.cons.injEq, and_true, true_and, one_inj, agg_inj, paF_inj, itF_inj, chF_inj, voF_inj, vsF_inj, csF_inj, nsF_inj, nssF_inj, ndF_inj, ceF_inj, woF_inj, evF_inj, byF_inj, ndsF_inj, evsF_inj, pasF_inj, aI_inj, aB_inj, aRp_inj, fI_inj, fBo_inj] using h) h
end Av
end Go.Proofs.Ytlbdoamidblkaaa

