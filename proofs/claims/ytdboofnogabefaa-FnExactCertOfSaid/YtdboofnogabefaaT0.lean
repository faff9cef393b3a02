/- The contracts of the functions on the tip and on what is final. -/
import Derived.Test.YtdboofnogabefaaJ9
import Derived.Test.YtdboofnogabefaaP1
set_option linter.unusedVariables false
set_option linter.unusedSimpArgs false
namespace Go.Proofs.Ytdboofnogabefaa
namespace Av
open Go.RowKit
/-- One number behind the other, as the machine adds. -/
def Nxt (a b : Int) : Prop := IntKind.i64.wrap (a + 1) = b
/-- Three epochs, one behind the other, the last one at place i + 2. -/
def Con3 (c : List It) (i : Nat) : Prop := ∃ x y z : It, c[i]? = some x ∧ c[i + 1]? = some y ∧ c[i + 2]? = some z ∧ Nxt x.e y.e ∧ Nxt y.e z.e
/-- How much is final, of the first m + 2 items. -/
noncomputable def finAt (c : List It) : Nat → Nat
  | 0 => 0
  | m + 1 => if tb (Con3 c m) = true then m + 2 else finAt c m
noncomputable def finIn (c : List It) : Nat := finAt c (c.length - 2)
noncomputable def shwn (o c : List It) : List It := if finIn o < finIn c then c else o
noncomputable def shown (l : List Vo) : List It := (allS l).foldl shwn []
noncomputable def fin (l : List Vo) : List It := (shown l).take (finIn (shown l))
noncomputable def fnlM (o c : List It) : List It := if o.length < finIn c then c.take (finIn c) else o
noncomputable def finM (l : List Vo) : List It := (allM l).foldl fnlM []
theorem con3_lt {c : List It} {i : Nat} (h : Con3 c i) : i + 2 < c.length := by
  obtain ⟨x, y, z, _, _, h3, _⟩ := h
  exact (List.getElem?_eq_some_iff.1 h3).1
theorem finAt_lt {c : List It} : ∀ {m : Nat}, finAt c m ≠ 0 → finAt c m < c.length
  | 0, h => absurd rfl h
  | m + 1, h => by
    unfold finAt at h ⊢
    split
    · rename_i ht
      have := con3_lt (tb_iff.1 ht)
      omega
    · rename_i ht
      rw [if_neg ht] at h
      exact finAt_lt h
theorem finIn_le (c : List It) : finIn c ≤ c.length := by
  by_cases h : finAt c (c.length - 2) = 0
  · unfold finIn; omega
  · exact Nat.le_of_lt (finAt_lt h)
theorem finAt_yes {c : List It} {m : Nat} (h : Con3 c m) : finAt c (m + 1) = m + 2 := by unfold finAt; rw [tb_pos h]; rfl
theorem finAt_no {c : List It} {m : Nat} (h : ¬ Con3 c m) : finAt c (m + 1) = finAt c m := by
  conv => lhs; unfold finAt
  rw [tb_neg h]; rfl
/-- What folds over a list keeps. -/
theorem foldl_mem {α β : Type} {f : β → α → β} {Q : β → Prop} : ∀ {l : List α} {b : β}, Q b → (∀ b a, a ∈ l → Q b → Q (f b a)) → Q (l.foldl f b)
  | [], b, h, _ => h
  | a :: l, b, h, hf => foldl_mem (f := f) (l := l) (hf b a (by simp) h) (fun b a' ha => hf b a' (by simp [ha]))
theorem fnl_eq : ∀ (l : List (List It)) (o : List It), (l.foldl fnlM (o.take (finIn o))) = (l.foldl shwn o).take (finIn (l.foldl shwn o))
  | [], o => rfl
  | c :: l, o => by
    simp only [List.foldl_cons]
    have h1 : (o.take (finIn o)).length = finIn o := by have := finIn_le o; simp only [List.length_take]; omega
    unfold shwn fnlM
    rw [h1]
    by_cases h : finIn o < finIn c
    · rw [if_pos h, if_pos h]; exact fnl_eq l c
    · rw [if_neg h, if_neg h]; exact fnl_eq l o
theorem finM_eq {l : List Vo} (h : VotesOk l) : finM l = fin l := by
  unfold finM fin shown
  rw [allM_eq h]
  exact fnl_eq (allS l) []
noncomputable def S_impl_final : FSpec := iF (α := (List It)) (fun a => [one (chF a)]) (fun a => a.length ≤ LIM) (fun a => (finIn a : Int)) (fun _ => rfl)
noncomputable def S_impl_votes_shown : FSpec := oF (α := (List Vo)) (fun a => [one (vsF a)]) (fun a => FitVs a ∧ a.length < LIM) (fun a => chF (shown a)) (fun _ => rfl)
noncomputable def S_spec_l11FinalIn : FSpec := iF (α := (List It)) (fun a => [one (chF a)]) (fun a => a.length ≤ LIM) (fun a => (finIn a : Int)) (fun _ => rfl)
noncomputable def S_spec_l11Final : FSpec := oF (α := (List Vo)) (fun a => [one (vsF a)]) (fun a => FitVs a ∧ a.length < LIM) (fun a => chF (finM a)) (fun _ => rfl)
theorem K_impl_final {a : (List It)} {r : AV} (h : S_impl_final.post ([one (chF a)]) r) : r = I ((finIn a : Int)) :=
  iF_post (hcl := fun _ => rfl) (a := a) (by intro a b h; simpa only [List.cons.injEq, and_true, true_and, one_inj, agg_inj, paF_inj, itF_inj, chF_inj, voF_inj, vsF_inj, csF_inj, nsF_inj, nssF_inj, ndF_inj, ceF_inj, woF_inj, evF_inj, byF_inj, ndsF_inj, evsF_inj, pasF_inj, aI_inj, aB_inj, aRp_inj, fI_inj, fBo_inj] using h) h
theorem K_impl_votes_shown {a : (List Vo)} {r : AV} (h : S_impl_votes_shown.post ([one (vsF a)]) r) : r = one (chF (shown a)) :=
  oF_post (hcl := fun _ => rfl) (a := a) (by intro a b h; simpa only [List.cons.injEq, and_true, true_and, one_inj, agg_inj, paF_inj, itF_inj, chF_inj, voF_inj, vsF_inj, csF_inj, nsF_inj, nssF_inj, ndF_inj, ceF_inj, woF_inj, evF_inj, byF_inj, ndsF_inj, evsF_inj, pasF_inj, aI_inj, aB_inj, aRp_inj, fI_inj, fBo_inj] using h) h
theorem K_spec_l11FinalIn {a : (List It)} {r : AV} (h : S_spec_l11FinalIn.post ([one (chF a)]) r) : r = I ((finIn a : Int)) :=
  iF_post (hcl := fun _ => rfl) (a := a) (by intro a b h; simpa only [List.cons.injEq, and_true, true_and, one_inj, agg_inj, paF_inj, itF_inj, chF_inj, voF_inj, vsF_inj, csF_inj, nsF_inj, nssF_inj, ndF_inj, ceF_inj, woF_inj, evF_inj, byF_inj, ndsF_inj, evsF_inj, pasF_inj, aI_inj, aB_inj, aRp_inj, fI_inj, fBo_inj] using h) h
theorem K_spec_l11Final {a : (List Vo)} {r : AV} (h : S_spec_l11Final.post ([one (vsF a)]) r) : r = one (chF (finM a)) :=
  oF_post (hcl := fun _ => rfl) (a := a) (by intro a b h; simpa only [List.cons.injEq, and_true, true_and, one_inj, agg_inj, paF_inj, itF_inj, chF_inj, voF_inj, vsF_inj, csF_inj, nsF_inj, nssF_inj, ndF_inj, ceF_inj, woF_inj, evF_inj, byF_inj, ndsF_inj, evsF_inj, pasF_inj, aI_inj, aB_inj, aRp_inj, fI_inj, fBo_inj] using h) h
end Av
end Go.Proofs.Ytdboofnogabefaa
