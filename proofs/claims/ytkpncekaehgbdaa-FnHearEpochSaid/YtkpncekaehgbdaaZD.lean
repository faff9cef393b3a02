/- The walk: a node hears. -/
import Derived.Test.YtkpncekaehgbdaaZC
set_option linter.unusedVariables false
set_option linter.unusedSimpArgs false
namespace Go.Proofs.Ytkpncekaehgbdaa
namespace Av
open Go.RowKit

attribute [local irreducible] Valid ValidM
set_option maxHeartbeats 4000000 in
set_option maxRecDepth 100000 in
theorem v_impl_NodeHear : Valid Try.prog n_impl_NodeHear S_impl_NodeHear := by
  refine valid_of_swp mixed is_impl_NodeHear (by rintro _ ⟨a, rfl, _⟩; exact Nat.le_of_ble_eq_true rfl) ?_
  rintro _ rm ⟨⟨n, v⟩, rfl, hpre⟩ hl
  try dsimp only at hpre
  have hpre0 := hpre
  obtain ⟨hp1, hp2⟩ := hpre
  by_cases hok : NodeOk n
  · have e2 : hearT n v = hearN false n v := by unfold hearT; rw [tb_pos hok]; rfl
    repeat' ((conv => whnf); first
      | refine ⟨_, rfl, ?_⟩
      | refine ⟨_, _, rfl, rfl, rfl, Nat.le_of_ble_eq_true rfl, ?_⟩
      | (refine callt (b := [agg (ndF ⟨_, _, _, _⟩)]) v_impl_NodeOk rfl ⟨⟨_, _, _, _⟩, rfl, (by exact pr_)⟩ (.inl rfl) (by first | assumption | omega) (fun r hr => K_impl_NodeOk (a := ⟨_, _, _, _⟩) hr) (fun hj => ?_) (fun hj => ?_) <;> (try simp only [etaPa, etaIt, etaVo] at hj) <;> (try simp only [etaNd, etaWo] at hj) <;> (try contradiction))
      | (refine calle (b := [agg (ndF ⟨_, _, _, _⟩)]) v_impl_Node_copied rfl ⟨⟨_, _, _, _⟩, rfl, (by exact pr_)⟩ (.inl rfl) (by first | assumption | omega) (fun r hr => K_impl_Node_copied (a := ⟨_, _, _, _⟩) hr) ?_)
      | (refine callk (b := [agg (ndF ⟨_, _, _, _⟩), agg (voF ⟨_, _⟩)]) v_impl_Node_hear rfl ⟨(⟨_, _, _, _⟩, ⟨_, _⟩), rfl, (by refine ⟨?_, ?_⟩ <;> (exact pr_))⟩ (.inl rfl) (by first | assumption | omega) (fun r hr => ?_); have hj := K_impl_Node_hear (a := (⟨_, _, _, _⟩, ⟨_, _⟩)) hr; clear hr; unfold R_impl_Node_hear at hj; dsimp only at hj; (try simp only [etaNd, etaVo] at hj); (try rw [eO1] at hj); (try rw [eO2] at hj); subst hj)
      | exact ⟨⟨_, rfl, rfl, (n, v), rfl, (by show _ = trip (hearT n v); rw [e2]; rfl)⟩, Nat.le_refl _, h0_⟩
      | fail)
  · have e2 : hearT n v = (zNd, zVo, false) := by unfold hearT; rw [tb_neg hok]; rfl
    repeat' ((conv => whnf); first
      | refine ⟨_, rfl, ?_⟩
      | refine ⟨_, _, rfl, rfl, rfl, Nat.le_of_ble_eq_true rfl, ?_⟩
      | (refine callt (b := [agg (ndF ⟨_, _, _, _⟩)]) v_impl_NodeOk rfl ⟨⟨_, _, _, _⟩, rfl, (by exact pr_)⟩ (.inl rfl) (by first | assumption | omega) (fun r hr => K_impl_NodeOk (a := ⟨_, _, _, _⟩) hr) (fun hj => ?_) (fun hj => ?_) <;> (try simp only [etaPa, etaIt, etaVo] at hj) <;> (try simp only [etaNd, etaWo] at hj) <;> (try contradiction))
      | exact ⟨⟨_, rfl, rfl, (n, v), rfl, (by show _ = trip (hearT n v); rw [e2]; rfl)⟩, Nat.le_refl _, h0_⟩
      | fail)
end Av
end Go.Proofs.Ytkpncekaehgbdaa
