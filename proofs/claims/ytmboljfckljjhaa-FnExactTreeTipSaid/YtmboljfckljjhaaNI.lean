/- The contracts of the laws FnExactTreeTip, FnExactTreeAll. -/
import Derived.Test.YtmboljfckljjhaaNH
set_option linter.unusedVariables false
set_option linter.unusedSimpArgs false
namespace Go.Proofs.Ytmboljfckljjhaa
namespace Av
open Go.RowKit

noncomputable def S_laws_FnExactTreeTip : FSpec := tF (α := (List Vo)) (fun a => [one (vsF a)]) (fun a => BigVs a) (fun a => True) (fun _ => rfl)
noncomputable def S_laws_FnExactTreeAll : FSpec := tF (α := (List Vo)) (fun a => [one (vsF a)]) (fun a => BigVs a) (fun a => True) (fun _ => rfl)
theorem K_laws_FnExactTreeTip {a : (List Vo)} {r : AV} (h : S_laws_FnExactTreeTip.post ([one (vsF a)]) r) : (True ∧ r = B true) ∨ (¬ (True) ∧ r = B false) :=
  tF_post (hcl := fun _ => rfl) (a := a) (by intro a b h; simpa only [List.cons.injEq, and_true, true_and, one_inj, agg_inj, paF_inj, itF_inj, chF_inj, voF_inj, vsF_inj, csF_inj, nsF_inj, nssF_inj, ndF_inj, ceF_inj, woF_inj, evF_inj, byF_inj, ndsF_inj, evsF_inj, pasF_inj, aI_inj, aB_inj, aRp_inj, fI_inj, fBo_inj] using h) h
theorem K_laws_FnExactTreeAll {a : (List Vo)} {r : AV} (h : S_laws_FnExactTreeAll.post ([one (vsF a)]) r) : (True ∧ r = B true) ∨ (¬ (True) ∧ r = B false) :=
  tF_post (hcl := fun _ => rfl) (a := a) (by intro a b h; simpa only [List.cons.injEq, and_true, true_and, one_inj, agg_inj, paF_inj, itF_inj, chF_inj, voF_inj, vsF_inj, csF_inj, nsF_inj, nssF_inj, ndF_inj, ceF_inj, woF_inj, evF_inj, byF_inj, ndsF_inj, evsF_inj, pasF_inj, aI_inj, aB_inj, aRp_inj, fI_inj, fBo_inj] using h) h
theorem allS_sm {l : List Vo} (h : SmVs l) : ∀ c : List It, c ∈ allS l → c.length ≤ SM := by
  intro c hc
  rcases mem_allS.1 hc with rfl | ⟨v, hv, rfl, _⟩
  · exact Nat.zero_le _
  · exact h.2 v hv
theorem tipT_sm {l : List Vo} (h : SmVs l) : (tipT l).length ≤ SM := by
  unfold tipT
  split
  · exact allS_sm h _ (tip_mem l)
  · exact Nat.zero_le _
theorem allT_sm {l : List Vo} (h : SmVs l) : SmCs (allT l) := by
  refine ⟨?_, ?_⟩
  · have := allT_len l
    have := h.1
    simp only [SM] at *; omega
  · unfold allT
    split
    · exact allS_sm h
    · intro c hc; cases hc
theorem one0 : (0 : Int) ≤ 1 := by decide
theorem oneM : (1 : Int) ≤ MK := by decide
theorem oneM2 : (1 : Int) ≤ 1099511627776 := by decide
end Av
end Go.Proofs.Ytmboljfckljjhaa
