/- The law FnExactWorldOk: the walk through the law's own code. -/
import Derived.Test.YtocfcnkfjfpoaaaV3
import Derived.Test.YtocfcnkfjfpoaaaV4
set_option linter.unusedVariables false
set_option linter.unusedSimpArgs false
namespace Go.Proofs.Ytocfcnkfjfpoaaa
namespace Av
open Go.RowKit

attribute [local irreducible] Valid ValidM
set_option maxHeartbeats 4000000 in
set_option maxRecDepth 100000 in
theorem v_laws_FnExactWorldOk : Valid Try.prog n_laws_FnExactWorldOk S_laws_FnExactWorldOk := by
  refine valid_of_swp mixed is_laws_FnExactWorldOk (by rintro _ ⟨a, rfl, _⟩; exact Nat.le_of_ble_eq_true rfl) ?_
  rintro _ rm ⟨w, rfl, hpre⟩ hl
  try dsimp only at hpre
  have hpre0 := hpre
  obtain ⟨hp1, hp2⟩ := hpre
  repeat' ((conv => whnf); first
    | refine ⟨_, rfl, ?_⟩
    | refine ⟨rfl, ?_⟩
    | refine ⟨_, ldc_cells hupd_at (Nat.le_of_ble_eq_true rfl), ?_⟩
    | refine ⟨_, ldc_cells (by first | assumption | exact zk ‹_› (by omega) | exact zk (zk ‹_› (by omega)) (by omega)) (Nat.le_of_ble_eq_true rfl), ?_⟩
    | refine ⟨_, _, hupd_at, rfl, rfl, Nat.le_of_ble_eq_true rfl, ?_⟩
    | refine ⟨_, _, rfl, rfl, rfl, Nat.le_of_ble_eq_true rfl, ?_⟩
    | (refine ⟨fun hc => ?_, fun hc => ?_⟩ <;> (try simp (disch := omega) only [List.length_map, wrap64] at hc))
    | (refine callk (b := [agg (woF ⟨_, _, _, _⟩), I _]) v_laws_szWorld rfl ⟨(⟨_, _, _, _⟩, _), rfl, (by refine ⟨?_, ?_, ?_, ?_⟩ <;> (exact pr_))⟩ (.inl rfl) (by first | assumption | omega) (fun r hr => ?_); have hj := K_laws_szWorld (a := (⟨_, _, _, _⟩, _)) hr; clear hr; obtain ⟨k, rfl, hk1, hk2⟩ := hj)
    | exact ⟨⟨_, rfl, rfl, w, rfl, (by refine congrArg B (Eq.symm (tb_pos ?_)); (try dsimp only); first | done | exact absurd True.intro hj | (exact True.intro))⟩, (by first | exact Nat.le_refl _ | omega), (by exact h0_)⟩
    | exact ⟨⟨_, rfl, rfl, w, rfl, (by refine congrArg B (Eq.symm (tb_neg ?_)); (try dsimp only); first | done | exact absurd True.intro hj | (exact True.intro))⟩, (by first | exact Nat.le_refl _ | omega), (by exact h0_)⟩
    | fail)
  have hsm : SmW w := hk2 hc
  have hf1 : FitNs w.nodes := hsm.1.fit
  have hf2 : FitVs w.log := hsm.2.fit
  by_cases hW : WorldOk w
  · have hW0 := hW
    repeat' ((conv => whnf); first
      | refine ⟨_, rfl, ?_⟩
      | refine ⟨rfl, ?_⟩
      | refine ⟨_, ldc_cells hupd_at (Nat.le_of_ble_eq_true rfl), ?_⟩
      | refine ⟨_, ldc_cells (by first | assumption | exact zk ‹_› (by omega) | exact zk (zk ‹_› (by omega)) (by omega)) (Nat.le_of_ble_eq_true rfl), ?_⟩
      | refine ⟨_, _, hupd_at, rfl, rfl, Nat.le_of_ble_eq_true rfl, ?_⟩
      | refine ⟨_, _, rfl, rfl, rfl, Nat.le_of_ble_eq_true rfl, ?_⟩
      | (refine ⟨fun hc => ?_, fun hc => ?_⟩ <;> (try simp (disch := omega) only [List.length_map, wrap64] at hc) <;> (try (exfalso; first | contradiction | omega)))
      | (refine calle (b := [agg (woF ⟨_, _, _, _⟩)]) v_laws_toWorld rfl ⟨⟨_, _, _, _⟩, rfl, (by refine ⟨?_, ?_⟩ <;> (exact pr_))⟩ (.inl rfl) (by first | assumption | omega) (fun r hr => K_laws_toWorld (a := ⟨_, _, _, _⟩) hr) ?_)
      | (refine callt (b := [agg (woF ⟨_, _, _, _⟩)]) v_spec_WorldOk rfl ⟨⟨_, _, _, _⟩, rfl, (by refine ⟨?_, ?_⟩ <;> (exact pr_))⟩ (.inl rfl) (by first | assumption | omega) (fun r hr => K_spec_WorldOk (a := ⟨_, _, _, _⟩) hr) (fun hj => ?_) (fun hj => ?_) <;> (try simp only [etaPa, etaIt, etaVo] at hj) <;> (try simp only [etaNd, etaWo] at hj) <;> (try contradiction))
      | (refine callt (b := [agg (woF ⟨_, _, _, _⟩)]) v_impl_WorldOk rfl ⟨⟨_, _, _, _⟩, rfl, (by refine ⟨?_, ?_⟩ <;> (exact pr_))⟩ (.inl rfl) (by first | assumption | omega) (fun r hr => K_impl_WorldOk (a := ⟨_, _, _, _⟩) hr) (fun hj => ?_) (fun hj => ?_) <;> (try simp only [etaPa, etaIt, etaVo] at hj) <;> (try simp only [etaNd, etaWo] at hj) <;> (try contradiction))
      | (refine callt (b := [agg (woF ⟨_, _, _, _⟩), agg (woF ⟨_, _, _, _⟩)]) v_laws_eqWorld rfl ⟨(⟨_, _, _, _⟩, ⟨_, _, _, _⟩), rfl, (by refine ⟨?_, ?_, ?_, ?_⟩ <;> (exact pr_))⟩ (.inl rfl) (by first | assumption | omega) (fun r hr => K_laws_eqWorld (a := (⟨_, _, _, _⟩, ⟨_, _, _, _⟩)) hr) (fun hj => ?_) (fun hj => ?_) <;> (try simp only [etaPa, etaIt, etaVo] at hj) <;> (try simp only [etaNd, etaWo] at hj) <;> (try contradiction))
      | exact ⟨⟨_, rfl, rfl, w, rfl, (by refine congrArg B (Eq.symm (tb_pos ?_)); (try dsimp only); first | done | exact absurd True.intro hj | (first | exact True.intro | exact absurd rfl hj))⟩, (by first | exact Nat.le_refl _ | omega), (by exact h0_)⟩
      | exact ⟨⟨_, rfl, rfl, w, rfl, (by refine congrArg B (Eq.symm (tb_neg ?_)); (try dsimp only); first | done | exact absurd True.intro hj | (first | exact True.intro | exact absurd rfl hj))⟩, (by first | exact Nat.le_refl _ | omega), (by exact h0_)⟩
      | fail)
  · have hW0 := hW
    repeat' ((conv => whnf); first
      | refine ⟨_, rfl, ?_⟩
      | refine ⟨rfl, ?_⟩
      | refine ⟨_, ldc_cells hupd_at (Nat.le_of_ble_eq_true rfl), ?_⟩
      | refine ⟨_, ldc_cells (by first | assumption | exact zk ‹_› (by omega) | exact zk (zk ‹_› (by omega)) (by omega)) (Nat.le_of_ble_eq_true rfl), ?_⟩
      | refine ⟨_, _, hupd_at, rfl, rfl, Nat.le_of_ble_eq_true rfl, ?_⟩
      | refine ⟨_, _, rfl, rfl, rfl, Nat.le_of_ble_eq_true rfl, ?_⟩
      | (refine ⟨fun hc => ?_, fun hc => ?_⟩ <;> (try simp (disch := omega) only [List.length_map, wrap64] at hc) <;> (try (exfalso; first | contradiction | omega)))
      | (refine calle (b := [agg (woF ⟨_, _, _, _⟩)]) v_laws_toWorld rfl ⟨⟨_, _, _, _⟩, rfl, (by refine ⟨?_, ?_⟩ <;> (exact pr_))⟩ (.inl rfl) (by first | assumption | omega) (fun r hr => K_laws_toWorld (a := ⟨_, _, _, _⟩) hr) ?_)
      | (refine callt (b := [agg (woF ⟨_, _, _, _⟩)]) v_spec_WorldOk rfl ⟨⟨_, _, _, _⟩, rfl, (by refine ⟨?_, ?_⟩ <;> (exact pr_))⟩ (.inl rfl) (by first | assumption | omega) (fun r hr => K_spec_WorldOk (a := ⟨_, _, _, _⟩) hr) (fun hj => ?_) (fun hj => ?_) <;> (try simp only [etaPa, etaIt, etaVo] at hj) <;> (try simp only [etaNd, etaWo] at hj) <;> (try contradiction))
      | (refine callt (b := [agg (woF ⟨_, _, _, _⟩)]) v_impl_WorldOk rfl ⟨⟨_, _, _, _⟩, rfl, (by refine ⟨?_, ?_⟩ <;> (exact pr_))⟩ (.inl rfl) (by first | assumption | omega) (fun r hr => K_impl_WorldOk (a := ⟨_, _, _, _⟩) hr) (fun hj => ?_) (fun hj => ?_) <;> (try simp only [etaPa, etaIt, etaVo] at hj) <;> (try simp only [etaNd, etaWo] at hj) <;> (try contradiction))
      | (refine callt (b := [agg (woF ⟨_, _, _, _⟩), agg (woF ⟨_, _, _, _⟩)]) v_laws_eqWorld rfl ⟨(⟨_, _, _, _⟩, ⟨_, _, _, _⟩), rfl, (by refine ⟨?_, ?_, ?_, ?_⟩ <;> (exact pr_))⟩ (.inl rfl) (by first | assumption | omega) (fun r hr => K_laws_eqWorld (a := (⟨_, _, _, _⟩, ⟨_, _, _, _⟩)) hr) (fun hj => ?_) (fun hj => ?_) <;> (try simp only [etaPa, etaIt, etaVo] at hj) <;> (try simp only [etaNd, etaWo] at hj) <;> (try contradiction))
      | exact ⟨⟨_, rfl, rfl, w, rfl, (by refine congrArg B (Eq.symm (tb_pos ?_)); (try dsimp only); first | done | exact absurd True.intro hj | (first | exact True.intro | exact absurd rfl hj))⟩, (by first | exact Nat.le_refl _ | omega), (by exact h0_)⟩
      | exact ⟨⟨_, rfl, rfl, w, rfl, (by refine congrArg B (Eq.symm (tb_neg ?_)); (try dsimp only); first | done | exact absurd True.intro hj | (first | exact True.intro | exact absurd rfl hj))⟩, (by first | exact Nat.le_refl _ | omega), (by exact h0_)⟩
      | fail)
end Av
end Go.Proofs.Ytocfcnkfjfpoaaa
