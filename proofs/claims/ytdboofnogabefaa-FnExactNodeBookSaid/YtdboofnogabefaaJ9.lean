/- Texts of the layer, joined. -/
import Derived.Test.YtdboofnogabefaaJ8
set_option linter.unusedVariables false
set_option linter.unusedSimpArgs false
namespace Go.Proofs.Ytdboofnogabefaa
namespace Av
open Go.RowKit
theorem FitCs.get {l : List (List It)} {i : Nat} {c : List It} (h : FitCs l) (hc : l[i]? = some c) : c.length ≤ LIM := h.2 c (List.mem_of_getElem? hc)
theorem K_impl_nodeOk {a : (Int)} {r : AV} (h : S_impl_nodeOk.post ([I a]) r) : (In a 1 4 ∧ r = B true) ∨ (¬ (In a 1 4) ∧ r = B false) :=
  tF_post (hcl := fun _ => rfl) (a := a) (by intro a b h; simpa only [List.cons.injEq, and_true, true_and, one_inj, agg_inj, paF_inj, itF_inj, chF_inj, voF_inj, vsF_inj, csF_inj, nsF_inj, nssF_inj, ndF_inj, ceF_inj, woF_inj, evF_inj, byF_inj, ndsF_inj, evsF_inj, pasF_inj, aI_inj, aB_inj, aRp_inj, fI_inj, fBo_inj] using h) h
theorem K_impl_ChainOk {a : (List It)} {r : AV} (h : S_impl_ChainOk.post ([one (chF a)]) r) : (ChainOk a ∧ r = B true) ∨ (¬ (ChainOk a) ∧ r = B false) :=
  tF_post (hcl := fun _ => rfl) (a := a) (by intro a b h; simpa only [List.cons.injEq, and_true, true_and, one_inj, agg_inj, paF_inj, itF_inj, chF_inj, voF_inj, vsF_inj, csF_inj, nsF_inj, nssF_inj, ndF_inj, ceF_inj, woF_inj, evF_inj, byF_inj, ndsF_inj, evsF_inj, pasF_inj, aI_inj, aB_inj, aRp_inj, fI_inj, fBo_inj] using h) h
theorem K_impl_copied {a : (List It)} {r : AV} (h : S_impl_copied.post ([one (chF a)]) r) : r = one (chF a) :=
  oF_post (hcl := fun _ => rfl) (a := a) (by intro a b h; simpa only [List.cons.injEq, and_true, true_and, one_inj, agg_inj, paF_inj, itF_inj, chF_inj, voF_inj, vsF_inj, csF_inj, nsF_inj, nssF_inj, ndF_inj, ceF_inj, woF_inj, evF_inj, byF_inj, ndsF_inj, evsF_inj, pasF_inj, aI_inj, aB_inj, aRp_inj, fI_inj, fBo_inj] using h) h
theorem K_impl_votes_all {a : (List Vo)} {r : AV} (h : S_impl_votes_all.post ([one (vsF a)]) r) : r = one (csF (allS a)) :=
  oF_post (hcl := fun _ => rfl) (a := a) (by intro a b h; simpa only [List.cons.injEq, and_true, true_and, one_inj, agg_inj, paF_inj, itF_inj, chF_inj, voF_inj, vsF_inj, csF_inj, nsF_inj, nssF_inj, ndF_inj, ceF_inj, woF_inj, evF_inj, byF_inj, ndsF_inj, evsF_inj, pasF_inj, aI_inj, aB_inj, aRp_inj, fI_inj, fBo_inj] using h) h
end Av
end Go.Proofs.Ytdboofnogabefaa

namespace Go.Proofs.Ytdboofnogabefaa
namespace Av
open Go.RowKit
def LawB (b : List Int) : Prop := b.length ≤ BIG ∧ Bytes b
theorem LawB.code {b : List Int} (h : LawB b) (h' : (b.length : Int) ≤ 1048576) : CodeOk b := ⟨by simp only [LIM]; omega, h.2⟩
end Av
end Go.Proofs.Ytdboofnogabefaa

