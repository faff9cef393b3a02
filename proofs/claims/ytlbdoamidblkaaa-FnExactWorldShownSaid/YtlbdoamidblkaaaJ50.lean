/- Texts of the layer, joined. -/
import Derived.Test.YtlbdoamidblkaaaJ24
import Derived.Test.YtlbdoamidblkaaaJ49
import Derived.Test.YtlbdoamidblkaaaT2
set_option linter.unusedVariables false
set_option linter.unusedSimpArgs false
namespace Go.Proofs.Ytlbdoamidblkaaa
namespace Av
open Go.RowKit
attribute [local irreducible] Valid ValidM
set_option maxHeartbeats 4000000 in
set_option maxRecDepth 100000 in
theorem v_slices_Clip_VoteS : ValidM Try.prog n_slices_Clip_VoteS S_slices_Clip_VoteS := by
  refine validM_of_swp mixed is_slices_Clip_VoteS (by rintro _ _ ⟨a, rfl, _⟩; exact Nat.le_of_ble_eq_true rfl) ?_
  rintro _ _ rm ⟨l, rfl, rfl, hpre⟩ hl
  try dsimp only at hpre
  change swp _ _ _ _ _ 1 _
  repeat' ((conv => whnf); first
    | refine ⟨_, rfl, ?_⟩
    | refine ⟨rfl, ?_⟩
    | (refine ⟨fun hc => ?_, fun hc => ?_⟩ <;> (try simp (disch := omega) only [List.length_map, wrap64] at hc))
    | (refine ⟨_, slc_to rfl (by first | omega | (simp only [List.length_map] at *; omega)), ?_⟩; rw [map_take'])
    | (refine ⟨_, slc_toI rfl (by omega) (by first | omega | (simp only [List.length_map] at *; omega)), ?_⟩; rw [map_take'])
    | fail)
  refine .inl ⟨0, ty_impl_Vote, 2, arA voF l, _, rfl, rfl, fcellss_f voF l, .inr ?_⟩
  conv => whnf
  refine ⟨_, slc_clipS (sz := 2) (xs := l.map voF) rfl rfl, ?_⟩
  cases l with
  | nil =>
    conv => whnf
    exact finM_clip (Nat.le_refl _) hupd_at ⟨⟨_, rfl, .inr ⟨rfl, rfl⟩⟩, trivial⟩ ⟨[], rfl, rfl, rfl, rfl⟩
  | cons a r =>
    conv => whnf
    exact finM_clip (Nat.le_refl _) (hupd_at.trans (by rw [List.length_map])) ⟨⟨_, rfl, .inl rfl⟩, trivial⟩ ⟨a :: r, rfl, rfl, rfl, rfl⟩
end Av
end Go.Proofs.Ytlbdoamidblkaaa

namespace Go.Proofs.Ytlbdoamidblkaaa
namespace Av
open Go.RowKit
end Av
end Go.Proofs.Ytlbdoamidblkaaa

