/- The plain laws: tips, what is final, with more votes, with votes turned round. -/
import Derived.Test.YtdboofnogabefaaT0
set_option linter.unusedVariables false
set_option linter.unusedSimpArgs false
namespace Go.Proofs.Ytdboofnogabefaa
namespace Av
open Go.RowKit
theorem nil_mem_allS (l : List Vo) : [] ∈ allS l := mem_allS.2 (.inl rfl)
/-- How a sure chain begins is sure. -/
theorem Sure.take {l : List Vo} {c : List It} (h : Sure l c) (k : Nat) : Sure l (c.take k) := by
  intro n h1 h2
  simp only [List.length_take] at h2
  unfold SureAt
  rw [List.take_take, Nat.min_eq_left (by omega)]
  exact h n h1 (by omega)
theorem Sure.vote {l : List Vo} {c : List It} (h : Sure l c) (h0 : c ≠ []) : ∃ v, v ∈ l ∧ v.c = c := by
  have h1 := h c.length (by cases c with | nil => exact absurd rfl h0 | cons a c => simp) (Nat.le_refl _)
  unfold SureAt at h1
  rw [List.take_length] at h1
  cases hv : voters l c with
  | nil => rw [hv] at h1; simp at h1
  | cons n r =>
    have := (mem_voters (l := l) (c := c) (n := n)).1 (by rw [hv]; simp)
    exact ⟨_, this.2, rfl⟩
theorem mem_allS_iff {l : List Vo} {c : List It} : c ∈ allS l ↔ Sure l c := by
  rw [mem_allS]
  constructor
  · rintro (rfl | ⟨v, _, _, h⟩)
    · exact sure_nil l
    · exact h
  · intro h
    by_cases h0 : c = []
    · exact .inl h0
    · obtain ⟨v, hv, e⟩ := h.vote h0
      exact .inr ⟨v, hv, e, h⟩
theorem shwn_mem {Q : List It → Prop} {L : List (List It)} {o : List It} (ho : Q o) (h : ∀ c, c ∈ L → Q c) : Q (L.foldl shwn o) :=
  foldl_mem ho fun b a ha hb => by unfold shwn; split; exact h a ha; exact hb
theorem shown_mem (l : List Vo) : shown l ∈ allS l := shwn_mem (Q := fun c => c ∈ allS l) (nil_mem_allS l) fun c h => h
theorem fin_len (l : List Vo) : (fin l).length = finIn (shown l) := by
  unfold fin
  have := finIn_le (shown l)
  simp only [List.length_take]; omega
/-- Behind what is final there is an item more. -/
theorem finAt_con {c : List It} : ∀ {m : Nat}, finAt c m ≠ 0 → ∃ k, finAt c m = k + 2 ∧ Con3 c k
  | 0, h => absurd rfl h
  | m + 1, h => by
    by_cases e : Con3 c m
    · exact ⟨m, finAt_yes e, e⟩
    · rw [finAt_no e] at h ⊢
      exact finAt_con h
end Av
end Go.Proofs.Ytdboofnogabefaa
