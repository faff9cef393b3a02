/- The plain laws: tips, what is final, with more votes, with votes turned round. -/
import Derived.Test.YtfijfccgghhkoaaT0
set_option linter.unusedVariables false
set_option linter.unusedSimpArgs false
namespace Go.Proofs.Ytfijfccgghhkoaa
namespace Av
open Go.RowKit
/-- How a sure chain begins is sure. -/
theorem Sure.take {l : List Vo} {c : List It} (h : Sure l c) (k : Nat) : Sure l (c.take k) := by
  intro n h1 h2
  simp only [List.length_take] at h2
  unfold SureAt
  rw [List.take_take, Nat.min_eq_left (by omega)]
  exact h n h1 (by omega)
theorem shwn_mem {Q : List It → Prop} {L : List (List It)} {o : List It} (ho : Q o) (h : ∀ c, c ∈ L → Q c) : Q (L.foldl shwn o) :=
  foldl_mem ho fun b a ha hb => by unfold shwn; split; exact h a ha; exact hb
theorem votesOk_nil : VotesOk [] := fun i v h => by simp at h
theorem finT_nil : finT [] = [] := by
  rw [fin_ok votesOk_nil]
  unfold fin shown
  rw [show allS [] = [[]] from rfl]
  rfl
end Av
end Go.Proofs.Ytfijfccgghhkoaa
