/- The walk: the law FnExactNodeBook. -/
import Derived.Test.YtdboofnogabefaaJ51
import Derived.Test.YtdboofnogabefaaJ42
import Derived.Test.YtdboofnogabefaaCC
set_option linter.unusedVariables false
set_option linter.unusedSimpArgs false
namespace Go.Proofs.Ytdboofnogabefaa
namespace Av
open Go.RowKit
theorem one0 : (0 : Int) ≤ 1 := by decide
theorem oneM2 : (1 : Int) ≤ 1099511627776 := by decide
set_option maxHeartbeats 4000000 in
set_option maxRecDepth 100000 in
theorem v_laws_heldIntS : Valid Try.prog n_laws_heldIntS S_laws_heldIntS := by
  refine valid_of_swp mixed is_laws_heldIntS (by rintro _ ⟨a, rfl, _⟩; exact Nat.le_of_ble_eq_true rfl) ?_
  rintro _ rm ⟨⟨m, k0⟩, rfl, hm, hk0, hkM⟩ hl
  dsimp only at hm hk0 hkM
  have hm' : m ≤ 1048576 := hm
  simp only [MK] at hkM
  repeat' ((conv => whnf); first
    | refine ⟨_, rfl, ?_⟩
    | refine ⟨rfl, ?_⟩
    | refine ⟨_, _, rfl, at_map (by assumption), ?_⟩
    | refine idx_mapX (i := 0) rfl (by assumption) ?_
    | refine idx_map (by omega) (fun x hx => ?_)
    | refine idx_mapX (wrap_dn (by omega) (by omega)) (by assumption) ?_
    | refine idx_mapE (wrap_dn (by omega) (by omega)) (by omega) (fun x hx => ?_)
    | refine idx_mapL (by omega) (by first | assumption | (simp only [LIM]; omega)) (fun x hx => ?_)
    | refine idx_mapI (by omega) (by first | omega | (simp only [List.length_map] at *; omega)) (fun x hx => ?_)
    | refine ⟨_, ldc_cells hupd_at (Nat.le_of_ble_eq_true rfl), ?_⟩
    | refine ⟨_, ldc_cells (by first | assumption | exact zk ‹_› (by omega) | exact zk (zk ‹_› (by omega)) (by omega)) (Nat.le_of_ble_eq_true rfl), ?_⟩
    | (refine ⟨fun hc => ?_, fun hc => ?_⟩ <;> (try simp (disch := omega) only [List.length_map, wrap64] at hc))
    | fail)
  conv => whnf
  refine ⟨fun fr H nx rm' => ∃ i : Nat, Has fr [(0, one (nsF (mkI m k0))), (1, I (k0 + i)), (5, I i)] ∧ i ≤ m ∧ 1 ≤ nx ∧ H 0 = none ∧ rm' = rm,
    fun fr _ _ _ => m - ix (fr 5), ⟨0, ⟨rfl, congrArg I (by omega), rfl, trivial⟩, Nat.zero_le _, ln_, ne_, rfl⟩, ?_⟩
  rintro fr H nx rm' ⟨i, hfr, hi, hnx, hH, rfl⟩
  rw [hfr.eq]
  have hL := mkI_len m k0
  rcases Nat.lt_or_ge i m with hi' | hi'
  · have hx := mkI_at m k0 i hi'
    have w1 : IntKind.i64.wrap (k0 + (i : Int) + 1) = k0 + ((i + 1 : Nat) : Int) := by rw [wrap64] <;> omega
    repeat' ((conv => whnf); first
      | refine ⟨_, _, rfl, at_map hx, ?_⟩
      | (refine ⟨⟨i + 1, ⟨rfl, congrArg I w1, congrArg I (wrap_up hi' (Nat.le_trans hm (by decide))), trivial⟩, hi', by omega, (by first | assumption | exact ne_), rfl⟩, ?_⟩; show m - ix (I _) < m - ix (I _); simp only [wrap_up hi' (Nat.le_trans hm (by decide)), ix, Int.toNat_natCast]; omega)
      | refine ⟨_, rfl, ?_⟩
      | refine ⟨rfl, ?_⟩
      | refine ⟨_, _, rfl, at_map (by assumption), ?_⟩
      | refine idx_mapX (i := 0) rfl (by assumption) ?_
      | refine idx_map (by omega) (fun x hx => ?_)
      | refine idx_mapX (wrap_dn (by omega) (by omega)) (by assumption) ?_
      | refine idx_mapE (wrap_dn (by omega) (by omega)) (by omega) (fun x hx => ?_)
      | refine idx_mapL (by omega) (by first | assumption | (simp only [LIM]; omega)) (fun x hx => ?_)
      | refine idx_mapI (by omega) (by first | omega | (simp only [List.length_map] at *; omega)) (fun x hx => ?_)
      | refine ⟨_, ldc_cells hupd_at (Nat.le_of_ble_eq_true rfl), ?_⟩
      | refine ⟨_, ldc_cells (by first | assumption | exact zk ‹_› (by omega) | exact zk (zk ‹_› (by omega)) (by omega)) (Nat.le_of_ble_eq_true rfl), ?_⟩
      | (refine ⟨fun hc => ?_, fun hc => ?_⟩ <;> (try simp (disch := omega) only [List.length_map, wrap64] at hc) <;> (try (exfalso; first | contradiction | omega)))
      | fail)
  · have hie : i = m := by omega
    subst hie
    repeat' ((conv => whnf); first
      | refine ⟨_, rfl, ?_⟩
      | refine ⟨rfl, ?_⟩
      | refine ⟨_, _, rfl, at_map (by assumption), ?_⟩
      | refine idx_mapX (i := 0) rfl (by assumption) ?_
      | refine idx_map (by omega) (fun x hx => ?_)
      | refine idx_mapX (wrap_dn (by omega) (by omega)) (by assumption) ?_
      | refine idx_mapE (wrap_dn (by omega) (by omega)) (by omega) (fun x hx => ?_)
      | refine idx_mapL (by omega) (by first | assumption | (simp only [LIM]; omega)) (fun x hx => ?_)
      | refine idx_mapI (by omega) (by first | omega | (simp only [List.length_map] at *; omega)) (fun x hx => ?_)
      | refine ⟨_, ldc_cells hupd_at (Nat.le_of_ble_eq_true rfl), ?_⟩
      | refine ⟨_, ldc_cells (by first | assumption | exact zk ‹_› (by omega) | exact zk (zk ‹_› (by omega)) (by omega)) (Nat.le_of_ble_eq_true rfl), ?_⟩
      | (refine ⟨fun hc => ?_, fun hc => ?_⟩ <;> (try simp (disch := omega) only [List.length_map, wrap64] at hc) <;> (try (exfalso; first | contradiction | omega)))
      | exact ⟨⟨_, rfl, rfl, (i, k0), rfl, rfl⟩, (by first | exact Nat.le_refl _ | exact Nat.le_add_right _ _), (by first | assumption | exact ne_)⟩
      | fail)
attribute [local irreducible] mkVs endV mkI
attribute [local irreducible] Valid ValidM
end Av
end Go.Proofs.Ytdboofnogabefaa
