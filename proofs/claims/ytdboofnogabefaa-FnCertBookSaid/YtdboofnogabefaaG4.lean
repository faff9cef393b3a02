/- The walks: the laws' own helpers on chains and votes; TreeSure and TreeAll. -/
import Derived.Test.YtdboofnogabefaaG2
import Derived.Test.YtdboofnogabefaaP1
import Derived.Test.YtdboofnogabefaaE9
set_option linter.unusedVariables false
set_option linter.unusedSimpArgs false
namespace Go.Proofs.Ytdboofnogabefaa
namespace Av
open Go.RowKit
def ix1 : AV → Nat
  | .w (.o (.c (.v (.int _ n)))) => (n + 1).toNat
  | _ => 0
attribute [local irreducible] Valid ValidM
set_option maxHeartbeats 4000000 in
set_option maxRecDepth 100000 in
theorem v_laws_lwSame : Valid Try.prog n_laws_lwSame S_laws_lwSame := by
  refine valid_of_swp mixed is_laws_lwSame (by rintro _ ⟨a, rfl, _⟩; exact Nat.le_of_ble_eq_true rfl) ?_
  rintro _ rm ⟨⟨c, d⟩, rfl, hpre⟩ hl
  try dsimp only at hpre
  have hpre0 := hpre
  obtain ⟨hp1, hp2⟩ := hpre
  repeat' ((conv => whnf); first
    | refine ⟨_, rfl, ?_⟩
    | refine ⟨rfl, ?_⟩
    | refine ⟨_, _, rfl, at_map (by assumption), ?_⟩
    | refine idx_mapX (i := 0) rfl (by assumption) ?_
    | refine idx_map (by omega) (fun x hx => ?_)
    | refine idx_mapX (wrap_dn (by omega) (by omega)) (by assumption) ?_
    | refine idx_mapE (wrap_dn (by omega) (by omega)) (by omega) (fun x hx => ?_)
    | refine idx_mapL (by omega) (by first | assumption | (simp only [LIM]; omega)) (fun x hx => ?_)
    | refine idx_mapI (by omega) (by first | omega | (simp only [List.length_map] at *; omega)) (fun x hx => ?_)
    | refine ⟨_, ldc_cells hupd_at (Nat.le_of_ble_eq_true rfl), ?_⟩
    | refine ⟨_, ldc_cells (by first | assumption | exact zk ‹_› (by omega) | exact zk (zk ‹_› (by omega)) (by omega)) (Nat.le_of_ble_eq_true rfl), ?_⟩
    | (refine ⟨fun hc => ?_, fun hc => ?_⟩ <;> (try simp (disch := omega) only [List.length_map, wrap64] at hc))
    | exact ⟨⟨_, rfl, rfl, (c, d), rfl, (by refine congrArg B (Eq.symm (tb_pos ?_)); (try dsimp only); first | done | exact absurd True.intro hj | ((rintro rfl; omega)))⟩, (by first | exact Nat.le_refl _ | omega), (by exact h0_)⟩
    | exact ⟨⟨_, rfl, rfl, (c, d), rfl, (by refine congrArg B (Eq.symm (tb_neg ?_)); (try dsimp only); first | done | exact absurd True.intro hj | ((rintro rfl; omega)))⟩, (by first | exact Nat.le_refl _ | omega), (by exact h0_)⟩
    | fail)
  conv => whnf
  refine ⟨fun fr H nx rm' => ∃ (i : Nat), Has fr [(0, one (chF c)), (1, one (chF d)), (5, I i)] ∧ i ≤ c.length ∧ (∀ j x, j < i → c[j]? = some x → d[j]? = some x) ∧ 1 ≤ nx ∧ H 0 = none ∧ rm' = rm,
    fun fr _ _ _ => c.length - ix (fr 5), ⟨0, ⟨(by first | rfl | (show I _ = I _; simp)), (by first | rfl | (show I _ = I _; simp)), (by first | rfl | (show I _ = I _; simp)), trivial⟩, Nat.zero_le _, (by first | trivial | rfl | (intros; omega) | simp), (by first | decide | omega), (by exact h0_), rfl⟩, ?_⟩
  rintro fr H nx rm' ⟨i, hfr, hi, hq, hnx, hH, rfl⟩
  rw [hfr.eq]
  repeat' ((conv => whnf); first
    | refine ⟨_, rfl, ?_⟩
    | refine ⟨rfl, ?_⟩
    | refine ⟨_, _, rfl, at_map (by assumption), ?_⟩
    | refine idx_mapX (i := 0) rfl (by assumption) ?_
    | refine idx_map (by omega) (fun x hx => ?_)
    | refine idx_mapX (wrap_dn (by omega) (by omega)) (by assumption) ?_
    | refine idx_mapE (wrap_dn (by omega) (by omega)) (by omega) (fun x hx => ?_)
    | refine idx_mapL (by omega) (by first | assumption | (simp only [LIM]; omega)) (fun x hx => ?_)
    | refine idx_mapI (by omega) (by first | omega | (simp only [List.length_map] at *; omega)) (fun x hx => ?_)
    | refine ⟨_, ldc_cells hupd_at (Nat.le_of_ble_eq_true rfl), ?_⟩
    | refine ⟨_, ldc_cells (by first | assumption | exact zk ‹_› (by omega) | exact zk (zk ‹_› (by omega)) (by omega)) (Nat.le_of_ble_eq_true rfl), ?_⟩
    | (refine ⟨fun hc => ?_, fun hc => ?_⟩ <;> (try simp (disch := omega) only [List.length_map, wrap64] at hc))
    | (refine ⟨eqI, (by assumption), fun r hr => ?_⟩; rcases J_neq (x := ⟨_, ⟨_, _, _⟩⟩) (y := ⟨_, ⟨_, _, _⟩⟩) hr with ⟨hj, rfl⟩ | ⟨hj, rfl⟩ <;> clear hr <;> (try simp only [etaPa, etaIt, etaVo] at hj))
    | (refine ⟨⟨i + 1, ⟨rfl, rfl, congrArg I (wrap_up (n := c.length) (by omega) (hp1)), trivial⟩, (by omega), (by grind), (by omega), (by exact h0_), rfl⟩, ?_⟩; show c.length - ix (I _) < c.length - ix (I _); simp only [wrap_up (n := c.length) (i := i) (by omega) (hp1), ix, Int.toNat_natCast]; omega)
    | exact ⟨⟨_, rfl, rfl, (c, d), rfl, (by refine congrArg B (Eq.symm (tb_pos ?_)); (try dsimp only); first | done | exact absurd True.intro hj | (first | (exact same_of (by omega) (pre_eq (by grind))) | (rintro rfl; grind)))⟩, (by first | exact Nat.le_refl _ | omega), (by exact h0_)⟩
    | exact ⟨⟨_, rfl, rfl, (c, d), rfl, (by refine congrArg B (Eq.symm (tb_neg ?_)); (try dsimp only); first | done | exact absurd True.intro hj | (first | (exact same_of (by omega) (pre_eq (by grind))) | (rintro rfl; grind)))⟩, (by first | exact Nat.le_refl _ | omega), (by exact h0_)⟩
    | fail)
set_option maxHeartbeats 4000000 in
set_option maxRecDepth 100000 in
theorem v_laws_lwInts : Valid Try.prog n_laws_lwInts S_laws_lwInts := by
  refine valid_of_swp mixed is_laws_lwInts (by rintro _ ⟨a, rfl, _⟩; exact Nat.le_of_ble_eq_true rfl) ?_
  rintro _ rm ⟨⟨a1, b1⟩, rfl, hpre⟩ hl
  try dsimp only at hpre
  have hpre0 := hpre
  obtain ⟨hp1, hp2⟩ := hpre
  repeat' ((conv => whnf); first
    | refine ⟨_, rfl, ?_⟩
    | refine ⟨rfl, ?_⟩
    | refine ⟨_, _, rfl, at_map (by assumption), ?_⟩
    | refine idx_mapX (i := 0) rfl (by assumption) ?_
    | refine idx_map (by omega) (fun x hx => ?_)
    | refine idx_mapX (wrap_dn (by omega) (by omega)) (by assumption) ?_
    | refine idx_mapE (wrap_dn (by omega) (by omega)) (by omega) (fun x hx => ?_)
    | refine idx_mapL (by omega) (by first | assumption | (simp only [LIM]; omega)) (fun x hx => ?_)
    | refine idx_mapI (by omega) (by first | omega | (simp only [List.length_map] at *; omega)) (fun x hx => ?_)
    | refine ⟨_, ldc_cells hupd_at (Nat.le_of_ble_eq_true rfl), ?_⟩
    | refine ⟨_, ldc_cells (by first | assumption | exact zk ‹_› (by omega) | exact zk (zk ‹_› (by omega)) (by omega)) (Nat.le_of_ble_eq_true rfl), ?_⟩
    | (refine ⟨fun hc => ?_, fun hc => ?_⟩ <;> (try simp (disch := omega) only [List.length_map, wrap64] at hc))
    | exact ⟨⟨_, rfl, rfl, (a1, b1), rfl, (by refine congrArg B (Eq.symm (tb_pos ?_)); (try dsimp only); first | done | exact absurd True.intro hj | ((rintro rfl; omega)))⟩, (by first | exact Nat.le_refl _ | omega), (by exact h0_)⟩
    | exact ⟨⟨_, rfl, rfl, (a1, b1), rfl, (by refine congrArg B (Eq.symm (tb_neg ?_)); (try dsimp only); first | done | exact absurd True.intro hj | ((rintro rfl; omega)))⟩, (by first | exact Nat.le_refl _ | omega), (by exact h0_)⟩
    | fail)
  conv => whnf
  refine ⟨fun fr H nx rm' => ∃ (i : Nat), Has fr [(0, one (nsF a1)), (1, one (nsF b1)), (5, I i)] ∧ i ≤ a1.length ∧ (∀ j x, j < i → a1[j]? = some x → b1[j]? = some x) ∧ 1 ≤ nx ∧ H 0 = none ∧ rm' = rm,
    fun fr _ _ _ => a1.length - ix (fr 5), ⟨0, ⟨(by first | rfl | (show I _ = I _; simp)), (by first | rfl | (show I _ = I _; simp)), (by first | rfl | (show I _ = I _; simp)), trivial⟩, Nat.zero_le _, (by first | trivial | rfl | (intros; omega) | simp), (by first | decide | omega), (by exact h0_), rfl⟩, ?_⟩
  rintro fr H nx rm' ⟨i, hfr, hi, hq, hnx, hH, rfl⟩
  rw [hfr.eq]
  repeat' ((conv => whnf); first
    | refine ⟨_, rfl, ?_⟩
    | refine ⟨rfl, ?_⟩
    | refine ⟨_, _, rfl, at_map (by assumption), ?_⟩
    | refine idx_mapX (i := 0) rfl (by assumption) ?_
    | refine idx_map (by omega) (fun x hx => ?_)
    | refine idx_mapX (wrap_dn (by omega) (by omega)) (by assumption) ?_
    | refine idx_mapE (wrap_dn (by omega) (by omega)) (by omega) (fun x hx => ?_)
    | refine idx_mapL (by omega) (by first | assumption | (simp only [LIM]; omega)) (fun x hx => ?_)
    | refine idx_mapI (by omega) (by first | omega | (simp only [List.length_map] at *; omega)) (fun x hx => ?_)
    | refine ⟨_, ldc_cells hupd_at (Nat.le_of_ble_eq_true rfl), ?_⟩
    | refine ⟨_, ldc_cells (by first | assumption | exact zk ‹_› (by omega) | exact zk (zk ‹_› (by omega)) (by omega)) (Nat.le_of_ble_eq_true rfl), ?_⟩
    | (refine ⟨fun hc => ?_, fun hc => ?_⟩ <;> (try simp (disch := omega) only [List.length_map, wrap64] at hc))
    | (refine ⟨⟨i + 1, ⟨rfl, rfl, congrArg I (wrap_up (n := a1.length) (by omega) (hp1)), trivial⟩, (by omega), (by grind), (by omega), (by exact h0_), rfl⟩, ?_⟩; show a1.length - ix (I _) < a1.length - ix (I _); simp only [wrap_up (n := a1.length) (i := i) (by omega) (hp1), ix, Int.toNat_natCast]; omega)
    | exact ⟨⟨_, rfl, rfl, (a1, b1), rfl, (by refine congrArg B (Eq.symm (tb_pos ?_)); (try dsimp only); first | done | exact absurd True.intro hj | (first | (exact same_of (by omega) (pre_eq (by grind))) | (rintro rfl; grind)))⟩, (by first | exact Nat.le_refl _ | omega), (by exact h0_)⟩
    | exact ⟨⟨_, rfl, rfl, (a1, b1), rfl, (by refine congrArg B (Eq.symm (tb_neg ?_)); (try dsimp only); first | done | exact absurd True.intro hj | (first | (exact same_of (by omega) (pre_eq (by grind))) | (rintro rfl; grind)))⟩, (by first | exact Nat.le_refl _ | omega), (by exact h0_)⟩
    | fail)
end Av
end Go.Proofs.Ytdboofnogabefaa
