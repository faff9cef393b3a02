/- The walks: the reference's l6In, PayOk, ChainOk. -/
import Derived.Test.YtfijfccgghhkoaaE3
import Derived.Test.YtfijfccgghhkoaaW0
set_option linter.unusedVariables false
set_option linter.unusedSimpArgs false
namespace Go.Proofs.Ytfijfccgghhkoaa
namespace Av
open Go.RowKit
attribute [local irreducible] Valid ValidM
set_option maxHeartbeats 4000000 in
set_option maxRecDepth 100000 in
theorem v_spec_l6In : Valid Try.prog n_spec_l6In S_spec_l6In := by
  refine valid_of_swp mixed is_spec_l6In (by rintro _ ⟨a, rfl, _⟩; exact Nat.le_of_ble_eq_true rfl) ?_
  rintro _ rm ⟨⟨n, lo, hi⟩, rfl, hpre⟩ hl
  try dsimp only at hpre
  have hpre0 := hpre
  have hp1 := hpre
  repeat' ((conv => whnf); first
    | refine ⟨rfl, ?_⟩
    | (refine ⟨fun hc => ?_, fun hc => ?_⟩ <;> (try simp (disch := omega) only [List.length_map, wrap64] at hc))
    | exact ⟨⟨_, rfl, rfl, (n, lo, hi), rfl, (by refine congrArg B (Eq.symm (tb_pos ?_)); (try dsimp only); first | done | exact absurd True.intro hj | ((unfold In; omega)))⟩, (by first | exact Nat.le_refl _ | omega), (by exact h0_)⟩
    | exact ⟨⟨_, rfl, rfl, (n, lo, hi), rfl, (by refine congrArg B (Eq.symm (tb_neg ?_)); (try dsimp only); first | done | exact absurd True.intro hj | ((unfold In; omega)))⟩, (by first | exact Nat.le_refl _ | omega), (by exact h0_)⟩
    | fail)
end Av
end Go.Proofs.Ytfijfccgghhkoaa
