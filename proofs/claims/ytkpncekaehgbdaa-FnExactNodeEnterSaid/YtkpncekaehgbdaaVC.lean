/- The walks: votes of one's own, copied, added to; the marks on them stand. -/
import Derived.Test.YtkpncekaehgbdaaVB
import Derived.Test.YtkpncekaehgbdaaG5
set_option linter.unusedVariables false
set_option linter.unusedSimpArgs false
namespace Go.Proofs.Ytkpncekaehgbdaa
namespace Av
open Go.RowKit
attribute [local irreducible] mkC mkVs endV
set_option maxHeartbeats 4000000 in
set_option maxRecDepth 100000 in
theorem v_laws_heldVoteS : Valid Try.prog n_laws_heldVoteS S_laws_heldVoteS := by
  refine valid_of_swp mixed is_laws_heldVoteS (by rintro _ ⟨a, rfl, _⟩; exact Nat.le_of_ble_eq_true rfl) ?_
  rintro _ rm ⟨⟨l, k0⟩, rfl, hsm, hk0, hkM⟩ hl
  dsimp only at hsm hk0 hkM
  have hlen : l.length ≤ 2097152 := hsm.1
  have hlenL : l.length ≤ LIM := Nat.le_trans hlen (by decide)
  have hml := mkVs_len l k0
  have hbd := fun i => endV_bounds (l.take i) k0 fun v hv => hsm.2 v (List.mem_of_mem_take hv)
  have htl : ∀ i, (l.take i).length ≤ l.length := fun i => by rw [List.length_take]; omega
  have hE0 : endV (l.take 0) k0 = k0 := by simp [endV]
  repeat' ((conv => whnf); first
    | refine ⟨_, rfl, ?_⟩
    | refine ⟨rfl, ?_⟩
    | refine ⟨_, _, rfl, at_map (by assumption), ?_⟩
    | refine idx_mapX (i := 0) rfl (by assumption) ?_
    | refine idx_map (by omega) (fun x hx => ?_)
    | refine idx_mapX (wrap_dn (by omega) (by omega)) (by assumption) ?_
    | refine idx_mapE (wrap_dn (by omega) (by omega)) (by omega) (fun x hx => ?_)
    | refine idx_mapL (by omega) (by first | assumption | (simp only [LIM]; omega)) (fun x hx => ?_)
    | refine idx_mapI (by omega) (by first | omega | (simp only [List.length_map] at *; omega)) (fun x hx => ?_)
    | refine ⟨_, ldc_cells hupd_at (Nat.le_of_ble_eq_true rfl), ?_⟩
    | refine ⟨_, ldc_cells (by first | assumption | exact zk ‹_› (by omega) | exact zk (zk ‹_› (by omega)) (by omega)) (Nat.le_of_ble_eq_true rfl), ?_⟩
    | (refine ⟨fun hc => ?_, fun hc => ?_⟩ <;> (try simp (disch := omega) only [List.length_map, wrap64] at hc))
    | fail)
  conv => whnf
  refine ⟨fun fr H nx rm' => ∃ i : Nat, Has fr [(0, one (vsF (mkVs l k0))), (1, I (endV (l.take i) k0)), (5, I i)] ∧ i ≤ l.length ∧ 1 ≤ nx ∧ H 0 = none ∧ rm' = rm,
    fun fr _ _ _ => l.length - ix (fr 5), ⟨0, ⟨rfl, congrArg I hE0.symm, rfl, trivial⟩, Nat.zero_le _, ln_, ne_, rfl⟩, ?_⟩
  rintro fr H nx rm' ⟨i, hfr, hi, hnx, hH, rfl⟩
  rw [hfr.eq]
  have hb := hbd i
  have ht := htl i
  rcases Nat.lt_or_ge i l.length with hi' | hi'
  · obtain ⟨x, hx⟩ : ∃ x, l[i]? = some x := ⟨_, List.getElem?_eq_getElem hi'⟩
    have hxc : x.c.length ≤ SM := hsm.2 x (List.mem_of_getElem? hx)
    have hxc' := hxc
    simp only [SM] at hxc'
    have hat := mkVs_at (k := k0) hx
    have hb' := hbd (i + 1)
    have ht' := htl (i + 1)
    have hee := endV_take hx k0
    have w1 : IntKind.i64.wrap (endV (l.take i) k0 + 1) = endV (l.take i) k0 + 1 := by rw [wrap64] <;> omega
    repeat' ((conv => whnf); first
      | refine ⟨_, _, rfl, at_map hat, ?_⟩
      | (refine calle (b := [one (chF (mkC x.c.length (endV (l.take i) k0 + 1))), I (endV (l.take i) k0 + 1)]) v_laws_heldItemS (l2 rfl (congrArg I w1)) ⟨(x.c.length, endV (l.take i) k0 + 1), rfl, hxc, by dsimp only; omega, by dsimp only [MK]; omega⟩ (.inl rfl) (by exact hl) (fun r hr => K_laws_heldItemS hr) ?_)
      | (refine ⟨⟨i + 1, ⟨rfl, congrArg I hee.symm, congrArg I (wrap_up hi' hlenL), trivial⟩, hi', by omega, h0_, rfl⟩, ?_⟩; show l.length - ix (I _) < l.length - ix (I _); simp only [wrap_up hi' hlenL, ix, Int.toNat_natCast]; omega)
      | refine ⟨_, rfl, ?_⟩
      | refine ⟨rfl, ?_⟩
      | refine ⟨_, _, rfl, at_map (by assumption), ?_⟩
      | refine idx_mapX (i := 0) rfl (by assumption) ?_
      | refine idx_map (by omega) (fun x hx => ?_)
      | refine idx_mapX (wrap_dn (by omega) (by omega)) (by assumption) ?_
      | refine idx_mapE (wrap_dn (by omega) (by omega)) (by omega) (fun x hx => ?_)
      | refine idx_mapL (by omega) (by first | assumption | (simp only [LIM]; omega)) (fun x hx => ?_)
      | refine idx_mapI (by omega) (by first | omega | (simp only [List.length_map] at *; omega)) (fun x hx => ?_)
      | refine ⟨_, ldc_cells hupd_at (Nat.le_of_ble_eq_true rfl), ?_⟩
      | refine ⟨_, ldc_cells (by first | assumption | exact zk ‹_› (by omega) | exact zk (zk ‹_› (by omega)) (by omega)) (Nat.le_of_ble_eq_true rfl), ?_⟩
      | (refine ⟨fun hc => ?_, fun hc => ?_⟩ <;> (try simp (disch := omega) only [List.length_map, wrap64] at hc) <;> (try (exfalso; first | contradiction | omega)))
      | fail)
  · have hie : i = l.length := by omega
    subst hie
    rw [List.take_length] at hfr ⊢
    repeat' ((conv => whnf); first
      | exact ⟨⟨_, rfl, rfl, (l, k0), rfl, rfl⟩, Nat.le_refl _, h0_⟩
      | refine ⟨_, rfl, ?_⟩
      | refine ⟨rfl, ?_⟩
      | refine ⟨_, _, rfl, at_map (by assumption), ?_⟩
      | refine idx_mapX (i := 0) rfl (by assumption) ?_
      | refine idx_map (by omega) (fun x hx => ?_)
      | refine idx_mapX (wrap_dn (by omega) (by omega)) (by assumption) ?_
      | refine idx_mapE (wrap_dn (by omega) (by omega)) (by omega) (fun x hx => ?_)
      | refine idx_mapL (by omega) (by first | assumption | (simp only [LIM]; omega)) (fun x hx => ?_)
      | refine idx_mapI (by omega) (by first | omega | (simp only [List.length_map] at *; omega)) (fun x hx => ?_)
      | refine ⟨_, ldc_cells hupd_at (Nat.le_of_ble_eq_true rfl), ?_⟩
      | refine ⟨_, ldc_cells (by first | assumption | exact zk ‹_› (by omega) | exact zk (zk ‹_› (by omega)) (by omega)) (Nat.le_of_ble_eq_true rfl), ?_⟩
      | (refine ⟨fun hc => ?_, fun hc => ?_⟩ <;> (try simp (disch := omega) only [List.length_map, wrap64] at hc) <;> (try (exfalso; first | contradiction | omega)))
      | fail)
attribute [local irreducible] Valid ValidM
set_option maxHeartbeats 4000000 in
set_option maxRecDepth 100000 in
theorem v_impl_Vote_copied_o : ValidM Try.prog n_impl_Vote_copied_o S_impl_Vote_copied_o := by
  refine validM_of_swp mixed is_impl_Vote_copied_o (by rintro _ _ ⟨a, rfl, _⟩; exact Nat.le_of_ble_eq_true rfl) ?_
  rintro _ _ rm ⟨v, rfl, rfl, hpre⟩ hl
  try dsimp only at hpre
  change swp _ _ _ _ _ 0 _
  repeat' ((conv => whnf); first
    | refine ⟨_, rfl, ?_⟩
    | refine ⟨rfl, ?_⟩
    | refine ⟨_, _, rfl, at_map (by assumption), ?_⟩
    | refine idx_mapX (i := 0) rfl (by assumption) ?_
    | refine idx_map (by omega) (fun x hx => ?_)
    | refine idx_mapX (wrap_dn (by omega) (by omega)) (by assumption) ?_
    | refine idx_mapE (wrap_dn (by omega) (by omega)) (by omega) (fun x hx => ?_)
    | refine idx_mapL (by omega) (by first | assumption | (simp only [LIM]; omega)) (fun x hx => ?_)
    | refine idx_mapI (by omega) (by first | omega | (simp only [List.length_map] at *; omega)) (fun x hx => ?_)
    | refine ⟨_, ldc_cells hupd_at (Nat.le_of_ble_eq_true rfl), ?_⟩
    | refine ⟨_, ldc_cells (by first | assumption | exact zk ‹_› (by omega) | exact zk (zk ‹_› (by omega)) (by omega)) (Nat.le_of_ble_eq_true rfl), ?_⟩
    | refine ⟨_, _, hupd_at, rfl, rfl, Nat.le_of_ble_eq_true rfl, ?_⟩
    | refine ⟨_, _, rfl, rfl, rfl, Nat.le_of_ble_eq_true rfl, ?_⟩
    | (refine ⟨?_, _, (?_ : (_ : Option Ob) = _), rfl, rfl, ?_, ?_⟩; rotate_left; (exact hk_); exact Nat.le_of_ble_eq_true rfl)
    | refine ⟨_, _, _, _, ((by exact hk_) : (_ : Option Ob) = _), rfl, at_mapA (by assumption), ?_⟩
    | refine idx_ow (by exact hk_) (by omega) (fun x hx => ?_)
    | refine ⟨_, _, _, _, ((by exact hk_) : (_ : Option Ob) = _), rfl, fill_at (by omega), ?_⟩
    | refine ⟨_, _, _, _, ((by exact hk_) : (_ : Option Ob) = _), fill_at (by omega), rfl, rfl, Nat.le_of_ble_eq_true rfl, ?_⟩
    | refine idx_owL (by exact hk_) (by omega) (by simp only [LIM]; omega) (fun x hx => ?_)
    | refine idx_owI (by exact hk_) (by omega) (by first | omega | (simp only [List.length_map] at *; omega)) (fun x hx => ?_)
    | refine ⟨_, _, _, _, ((by exact hk_) : (_ : Option Ob) = _), at_mapA (by assumption), rfl, rfl, Nat.le_of_ble_eq_true rfl, ?_⟩
    | refine ⟨_, ldc_pa (by exact hk_) (at_mapA (by assumption)) (Nat.le_of_ble_eq_true rfl), ?_⟩
    | refine ⟨_, rfl, rfl, _, ((by exact hk_) : (_ : Option Ob) = _), (by exact ap_), ?_⟩
    | refine ⟨_, news_ow hupd_at, newsz_ow hupd_at, _, ((by exact hk_) : (_ : Option Ob) = _), (by exact ap_), ?_⟩
    | refine ⟨_, _, _, ((by exact hk_) : (_ : Option Ob) = _), ?_⟩
    | refine ⟨_, ((by exact hk_) : (_ : Option Ob) = _), ?_⟩
    | refine ⟨(show _ ≠ _ from (by first | decide | omega)), ?_⟩
    | refine ⟨(show _ ≤ _ from (by exact ap_)), ?_⟩
    | (refine ⟨fun hc => ?_, fun hc => ?_⟩ <;> (try simp (disch := omega) only [List.length_map, wrap64] at hc))
    | (refine ⟨⟨(by omega), (by omega), (by simp only [List.length_map] at *; simp only [LIM] at *; omega), (by simp only [List.length_map] at *; simp only [LIM] at *; omega)⟩, ?_⟩; (try simp only [List.length_map, Int.toNat_natCast]))
    | (refine ⟨_, slc_to rfl (by first | omega | (simp only [List.length_map] at *; omega)), ?_⟩; rw [map_take'])
    | (refine ⟨_, slc_toI rfl (by omega) (by first | omega | (simp only [List.length_map] at *; omega)), ?_⟩; rw [map_take'])
    | fail)
  conv => whnf
  refine OQ.mk1 (ar := [one (chF v.c)]) (by rfl) ⟨v.c, rfl, hpre⟩ vO_impl_copied (so_impl_copied v.c) ?_
  repeat' ((conv => whnf); first
    | refine ⟨_, rfl, ?_⟩
    | refine ⟨rfl, ?_⟩
    | refine ⟨_, _, rfl, at_map (by assumption), ?_⟩
    | refine idx_mapX (i := 0) rfl (by assumption) ?_
    | refine idx_map (by omega) (fun x hx => ?_)
    | refine idx_mapX (wrap_dn (by omega) (by omega)) (by assumption) ?_
    | refine idx_mapE (wrap_dn (by omega) (by omega)) (by omega) (fun x hx => ?_)
    | refine idx_mapL (by omega) (by first | assumption | (simp only [LIM]; omega)) (fun x hx => ?_)
    | refine idx_mapI (by omega) (by first | omega | (simp only [List.length_map] at *; omega)) (fun x hx => ?_)
    | refine ⟨_, ldc_cells hupd_at (Nat.le_of_ble_eq_true rfl), ?_⟩
    | refine ⟨_, ldc_cells (by first | assumption | exact zk ‹_› (by omega) | exact zk (zk ‹_› (by omega)) (by omega)) (Nat.le_of_ble_eq_true rfl), ?_⟩
    | refine ⟨_, _, hupd_at, rfl, rfl, Nat.le_of_ble_eq_true rfl, ?_⟩
    | refine ⟨_, _, rfl, rfl, rfl, Nat.le_of_ble_eq_true rfl, ?_⟩
    | (refine ⟨?_, _, (?_ : (_ : Option Ob) = _), rfl, rfl, ?_, ?_⟩; rotate_left; (exact hk_); exact Nat.le_of_ble_eq_true rfl)
    | refine ⟨_, _, _, _, ((by exact hk_) : (_ : Option Ob) = _), rfl, at_mapA (by assumption), ?_⟩
    | refine idx_ow (by exact hk_) (by omega) (fun x hx => ?_)
    | refine ⟨_, _, _, _, ((by exact hk_) : (_ : Option Ob) = _), rfl, fill_at (by omega), ?_⟩
    | refine ⟨_, _, _, _, ((by exact hk_) : (_ : Option Ob) = _), fill_at (by omega), rfl, rfl, Nat.le_of_ble_eq_true rfl, ?_⟩
    | refine idx_owL (by exact hk_) (by omega) (by simp only [LIM]; omega) (fun x hx => ?_)
    | refine idx_owI (by exact hk_) (by omega) (by first | omega | (simp only [List.length_map] at *; omega)) (fun x hx => ?_)
    | refine ⟨_, _, _, _, ((by exact hk_) : (_ : Option Ob) = _), at_mapA (by assumption), rfl, rfl, Nat.le_of_ble_eq_true rfl, ?_⟩
    | refine ⟨_, ldc_pa (by exact hk_) (at_mapA (by assumption)) (Nat.le_of_ble_eq_true rfl), ?_⟩
    | refine ⟨_, rfl, rfl, _, ((by exact hk_) : (_ : Option Ob) = _), (by exact ap_), ?_⟩
    | refine ⟨_, news_ow hupd_at, newsz_ow hupd_at, _, ((by exact hk_) : (_ : Option Ob) = _), (by exact ap_), ?_⟩
    | refine ⟨_, _, _, ((by exact hk_) : (_ : Option Ob) = _), ?_⟩
    | refine ⟨_, ((by exact hk_) : (_ : Option Ob) = _), ?_⟩
    | refine ⟨(show _ ≠ _ from (by first | decide | omega)), ?_⟩
    | refine ⟨(show _ ≤ _ from (by exact ap_)), ?_⟩
    | (refine ⟨fun hc => ?_, fun hc => ?_⟩ <;> (try simp (disch := omega) only [List.length_map, wrap64] at hc))
    | (refine ⟨⟨(by omega), (by omega), (by simp only [List.length_map] at *; simp only [LIM] at *; omega), (by simp only [List.length_map] at *; simp only [LIM] at *; omega)⟩, ?_⟩; (try simp only [List.length_map, Int.toNat_natCast]))
    | (refine ⟨_, slc_to rfl (by first | omega | (simp only [List.length_map] at *; omega)), ?_⟩; rw [map_take'])
    | (refine ⟨_, slc_toI rfl (by omega) (by first | omega | (simp only [List.length_map] at *; omega)), ?_⟩; rw [map_take'])
    | fail)
  conv => whnf
  exact finM_vo (Nat.le_refl _) hk_ ⟨⟨_, rfl, .inl rfl⟩, trivial⟩ ⟨v, rfl, rfl, rfl, rfl⟩
set_option maxHeartbeats 4000000 in
set_option maxRecDepth 100000 in
theorem v_impl_votes_copied_o : ValidM Try.prog n_impl_votes_copied_o S_impl_votes_copied_o := by
  refine validM_of_swp mixed is_impl_votes_copied_o (by rintro _ _ ⟨a, rfl, _⟩; exact Nat.le_of_ble_eq_true rfl) ?_
  rintro _ _ rm ⟨l, rfl, rfl, hpre⟩ hl
  try dsimp only at hpre
  change swp _ _ _ _ _ 0 _
  obtain ⟨hfit, hsm⟩ := hpre
  have hlen : l.length ≤ LIM := hfit.1
  have hlen' : l.length ≤ 1048576 := hsm
  repeat' ((conv => whnf); first
    | refine ⟨_, rfl, ?_⟩
    | refine ⟨rfl, ?_⟩
    | refine ⟨_, _, rfl, at_map (by assumption), ?_⟩
    | refine idx_mapX (i := 0) rfl (by assumption) ?_
    | refine idx_map (by omega) (fun x hx => ?_)
    | refine idx_mapX (wrap_dn (by omega) (by omega)) (by assumption) ?_
    | refine idx_mapE (wrap_dn (by omega) (by omega)) (by omega) (fun x hx => ?_)
    | refine idx_mapL (by omega) (by first | assumption | (simp only [LIM]; omega)) (fun x hx => ?_)
    | refine idx_mapI (by omega) (by first | omega | (simp only [List.length_map] at *; omega)) (fun x hx => ?_)
    | refine ⟨_, ldc_cells hupd_at (Nat.le_of_ble_eq_true rfl), ?_⟩
    | refine ⟨_, ldc_cells (by first | assumption | exact zk ‹_› (by omega) | exact zk (zk ‹_› (by omega)) (by omega)) (Nat.le_of_ble_eq_true rfl), ?_⟩
    | refine ⟨_, _, hupd_at, rfl, rfl, Nat.le_of_ble_eq_true rfl, ?_⟩
    | refine ⟨_, _, rfl, rfl, rfl, Nat.le_of_ble_eq_true rfl, ?_⟩
    | (refine ⟨?_, _, (?_ : (_ : Option Ob) = _), rfl, rfl, ?_, ?_⟩; rotate_left; (exact hk_); exact Nat.le_of_ble_eq_true rfl)
    | refine ⟨_, _, _, _, ((by exact hk_) : (_ : Option Ob) = _), rfl, at_mapA (by assumption), ?_⟩
    | refine idx_ow (by exact hk_) (by omega) (fun x hx => ?_)
    | refine ⟨_, _, _, _, ((by exact hk_) : (_ : Option Ob) = _), rfl, fill_at (by omega), ?_⟩
    | refine ⟨_, _, _, _, ((by exact hk_) : (_ : Option Ob) = _), fill_at (by omega), rfl, rfl, Nat.le_of_ble_eq_true rfl, ?_⟩
    | refine idx_owL (by exact hk_) (by omega) (by simp only [LIM]; omega) (fun x hx => ?_)
    | refine idx_owI (by exact hk_) (by omega) (by first | omega | (simp only [List.length_map] at *; omega)) (fun x hx => ?_)
    | refine ⟨_, _, _, _, ((by exact hk_) : (_ : Option Ob) = _), at_mapA (by assumption), rfl, rfl, Nat.le_of_ble_eq_true rfl, ?_⟩
    | refine ⟨_, ldc_pa (by exact hk_) (at_mapA (by assumption)) (Nat.le_of_ble_eq_true rfl), ?_⟩
    | refine ⟨_, rfl, rfl, _, ((by exact hk_) : (_ : Option Ob) = _), (by exact ap_), ?_⟩
    | refine ⟨_, news_ow hupd_at, newsz_ow hupd_at, _, ((by exact hk_) : (_ : Option Ob) = _), (by exact ap_), ?_⟩
    | refine ⟨_, _, _, ((by exact hk_) : (_ : Option Ob) = _), ?_⟩
    | refine ⟨_, ((by exact hk_) : (_ : Option Ob) = _), ?_⟩
    | refine ⟨(show _ ≠ _ from (by first | decide | omega)), ?_⟩
    | refine ⟨(show _ ≤ _ from (by exact ap_)), ?_⟩
    | (refine ⟨fun hc => ?_, fun hc => ?_⟩ <;> (try simp (disch := omega) only [List.length_map, wrap64] at hc))
    | (refine ⟨⟨(by omega), (by omega), (by simp only [List.length_map] at *; simp only [LIM] at *; omega), (by simp only [List.length_map] at *; simp only [LIM] at *; omega)⟩, ?_⟩; (try simp only [List.length_map, Int.toNat_natCast]))
    | (refine ⟨_, slc_to rfl (by first | omega | (simp only [List.length_map] at *; omega)), ?_⟩; rw [map_take'])
    | (refine ⟨_, slc_toI rfl (by omega) (by first | omega | (simp only [List.length_map] at *; omega)), ?_⟩; rw [map_take'])
    | fail)
  conv => whnf
  refine ⟨fun fr H nx rm' => ∃ (i ko : Nat) (f : Nat → Nat), Has fr [(3, .w (.o (.ow ko))), (9, one (vsF l)), (10, I l.length), (11, I i)] ∧ i ≤ l.length ∧ nV.At H nx ko f (l.take i) ∧ rm' = rm,
    fun fr _ _ _ => l.length - ix (fr 11), ⟨0, _, id, ⟨rfl, rfl, congrArg (fun n : Nat => I (n : Int)) (List.length_map ..), rfl, trivial⟩, Nat.zero_le _, ⟨hk_, fun j v h => by simp at h, fun j h => by simp at h, fun j j' h => by simp at h, ln_, fun j h => by simp at h⟩, rfl⟩, ?_⟩
  rintro fr H nx rm' ⟨i, ko, f, hfr, hi, hA, rfl⟩
  rw [hfr.eq]
  have hkon := hA.lt
  have htl : (l.take i).length = i := by rw [List.length_take]; omega
  rcases Nat.lt_or_ge i l.length with hi' | hi'
  · obtain ⟨x, hx⟩ : ∃ x, l[i]? = some x := ⟨_, List.getElem?_eq_getElem hi'⟩
    have hxv : FitV x := hfit.2 x (List.mem_of_getElem? hx)
    repeat' ((conv => whnf); first
      | refine ⟨_, _, rfl, at_map hx, ?_⟩
      | refine ⟨_, rfl, ?_⟩
      | refine ⟨rfl, ?_⟩
      | refine ⟨_, _, rfl, at_map (by assumption), ?_⟩
      | refine idx_mapX (i := 0) rfl (by assumption) ?_
      | refine idx_map (by omega) (fun x hx => ?_)
      | refine idx_mapX (wrap_dn (by omega) (by omega)) (by assumption) ?_
      | refine idx_mapE (wrap_dn (by omega) (by omega)) (by omega) (fun x hx => ?_)
      | refine idx_mapL (by omega) (by first | assumption | (simp only [LIM]; omega)) (fun x hx => ?_)
      | refine idx_mapI (by omega) (by first | omega | (simp only [List.length_map] at *; omega)) (fun x hx => ?_)
      | refine ⟨_, ldc_cells hupd_at (Nat.le_of_ble_eq_true rfl), ?_⟩
      | refine ⟨_, ldc_cells (by first | assumption | exact zk ‹_› (by omega) | exact zk (zk ‹_› (by omega)) (by omega)) (Nat.le_of_ble_eq_true rfl), ?_⟩
      | refine ⟨_, _, hupd_at, rfl, rfl, Nat.le_of_ble_eq_true rfl, ?_⟩
      | refine ⟨_, _, rfl, rfl, rfl, Nat.le_of_ble_eq_true rfl, ?_⟩
      | (refine ⟨?_, _, (?_ : (_ : Option Ob) = _), rfl, rfl, ?_, ?_⟩; rotate_left; (exact hk_); exact Nat.le_of_ble_eq_true rfl)
      | refine ⟨_, _, _, _, ((by exact hk_) : (_ : Option Ob) = _), rfl, at_mapA (by assumption), ?_⟩
      | refine idx_ow (by exact hk_) (by omega) (fun x hx => ?_)
      | refine ⟨_, _, _, _, ((by exact hk_) : (_ : Option Ob) = _), rfl, fill_at (by omega), ?_⟩
      | refine ⟨_, _, _, _, ((by exact hk_) : (_ : Option Ob) = _), fill_at (by omega), rfl, rfl, Nat.le_of_ble_eq_true rfl, ?_⟩
      | refine idx_owL (by exact hk_) (by omega) (by simp only [LIM]; omega) (fun x hx => ?_)
      | refine idx_owI (by exact hk_) (by omega) (by first | omega | (simp only [List.length_map] at *; omega)) (fun x hx => ?_)
      | refine ⟨_, _, _, _, ((by exact hk_) : (_ : Option Ob) = _), at_mapA (by assumption), rfl, rfl, Nat.le_of_ble_eq_true rfl, ?_⟩
      | refine ⟨_, ldc_pa (by exact hk_) (at_mapA (by assumption)) (Nat.le_of_ble_eq_true rfl), ?_⟩
      | refine ⟨_, rfl, rfl, _, ((by exact hk_) : (_ : Option Ob) = _), (by exact ap_), ?_⟩
      | refine ⟨_, news_ow hupd_at, newsz_ow hupd_at, _, ((by exact hk_) : (_ : Option Ob) = _), (by exact ap_), ?_⟩
      | refine ⟨_, _, _, ((by exact hk_) : (_ : Option Ob) = _), ?_⟩
      | refine ⟨_, ((by exact hk_) : (_ : Option Ob) = _), ?_⟩
      | refine ⟨(show _ ≠ _ from (by first | decide | omega)), ?_⟩
      | refine ⟨(show _ ≤ _ from (by exact ap_)), ?_⟩
      | (refine ⟨fun hc => ?_, fun hc => ?_⟩ <;> (try simp (disch := omega) only [List.length_map, wrap64] at hc) <;> (try (exfalso; first | contradiction | omega)))
      | (refine ⟨⟨(by omega), (by omega), (by simp only [List.length_map] at *; simp only [LIM] at *; omega), (by simp only [List.length_map] at *; simp only [LIM] at *; omega)⟩, ?_⟩; (try simp only [List.length_map, Int.toNat_natCast]))
      | (refine ⟨_, slc_to rfl (by first | omega | (simp only [List.length_map] at *; omega)), ?_⟩; rw [map_take'])
      | (refine ⟨_, slc_toI rfl (by omega) (by first | omega | (simp only [List.length_map] at *; omega)), ?_⟩; rw [map_take'])
      | fail)
    conv => whnf
    refine mq_vo (v := x) v_impl_Vote_copied_o (by exact hl) (by rfl) ⟨x, rfl, rfl, hxv⟩ (fun r obs' h => K_impl_Vote_copied_o h) ?_
    conv => whnf
    refine ⟨_, news_ow hupd_at, newsz_ow hupd_at, nV.K f (l.take i), ?_, ?_, ?_⟩
    · exact zk (zk (zk (zk hA.out (by omega)) (by omega)) (by omega)) (by omega)
    · rw [Nest.K_len]
      simp only [List.length_cons, List.length_nil]
      omega
    · have hS := fun H1 n1 n2 n3 b' o2 (hA1 : nV.At H1 nx ko f (l.take i)) h1 h2 h3 h4 => Nest.At.snoc (N := nV) hA1 (x := x) (n := n1) (n' := n3) (n2 := n2) (b' := b') (o2 := o2) h1 h2 h3 h4
      rw [show l.take i ++ [x] = l.take (i + 1) by rw [List.take_add_one, hx]; rfl] at hS
      repeat' ((conv => whnf); first
        | refine ⟨_, rfl, ?_⟩
        | refine ⟨rfl, ?_⟩
        | refine ⟨_, _, rfl, at_map (by assumption), ?_⟩
        | refine idx_mapX (i := 0) rfl (by assumption) ?_
        | refine idx_map (by omega) (fun x hx => ?_)
        | refine idx_mapX (wrap_dn (by omega) (by omega)) (by assumption) ?_
        | refine idx_mapE (wrap_dn (by omega) (by omega)) (by omega) (fun x hx => ?_)
        | refine idx_mapL (by omega) (by first | assumption | (simp only [LIM]; omega)) (fun x hx => ?_)
        | refine idx_mapI (by omega) (by first | omega | (simp only [List.length_map] at *; omega)) (fun x hx => ?_)
        | refine ⟨_, ldc_cells hupd_at (Nat.le_of_ble_eq_true rfl), ?_⟩
        | refine ⟨_, ldc_cells (by first | assumption | exact zk ‹_› (by omega) | exact zk (zk ‹_› (by omega)) (by omega)) (Nat.le_of_ble_eq_true rfl), ?_⟩
        | refine ⟨_, _, hupd_at, rfl, rfl, Nat.le_of_ble_eq_true rfl, ?_⟩
        | refine ⟨_, _, rfl, rfl, rfl, Nat.le_of_ble_eq_true rfl, ?_⟩
        | (refine ⟨?_, _, (?_ : (_ : Option Ob) = _), rfl, rfl, ?_, ?_⟩; rotate_left; (exact hk_); exact Nat.le_of_ble_eq_true rfl)
        | refine ⟨_, _, _, _, ((by exact hk_) : (_ : Option Ob) = _), rfl, at_mapA (by assumption), ?_⟩
        | refine idx_ow (by exact hk_) (by omega) (fun x hx => ?_)
        | refine ⟨_, _, _, _, ((by exact hk_) : (_ : Option Ob) = _), rfl, fill_at (by omega), ?_⟩
        | refine ⟨_, _, _, _, ((by exact hk_) : (_ : Option Ob) = _), fill_at (by omega), rfl, rfl, Nat.le_of_ble_eq_true rfl, ?_⟩
        | refine idx_owL (by exact hk_) (by omega) (by simp only [LIM]; omega) (fun x hx => ?_)
        | refine idx_owI (by exact hk_) (by omega) (by first | omega | (simp only [List.length_map] at *; omega)) (fun x hx => ?_)
        | refine ⟨_, _, _, _, ((by exact hk_) : (_ : Option Ob) = _), at_mapA (by assumption), rfl, rfl, Nat.le_of_ble_eq_true rfl, ?_⟩
        | refine ⟨_, ldc_pa (by exact hk_) (at_mapA (by assumption)) (Nat.le_of_ble_eq_true rfl), ?_⟩
        | refine ⟨_, rfl, rfl, _, ((by exact hk_) : (_ : Option Ob) = _), (by exact ap_), ?_⟩
        | refine ⟨_, news_ow hupd_at, newsz_ow hupd_at, _, ((by exact hk_) : (_ : Option Ob) = _), (by exact ap_), ?_⟩
        | refine ⟨_, _, _, ((by exact hk_) : (_ : Option Ob) = _), ?_⟩
        | refine ⟨_, ((by exact hk_) : (_ : Option Ob) = _), ?_⟩
        | refine ⟨(show _ ≠ _ from (by first | decide | omega)), ?_⟩
        | refine ⟨(show _ ≤ _ from (by exact ap_)), ?_⟩
        | (refine ⟨fun hc => ?_, fun hc => ?_⟩ <;> (try simp (disch := omega) only [List.length_map, wrap64] at hc) <;> (try (exfalso; first | contradiction | omega)))
        | (refine ⟨⟨(by omega), (by omega), (by simp only [List.length_map] at *; simp only [LIM] at *; omega), (by simp only [List.length_map] at *; simp only [LIM] at *; omega)⟩, ?_⟩; (try simp only [List.length_map, Int.toNat_natCast]))
        | (refine ⟨_, slc_to rfl (by first | omega | (simp only [List.length_map] at *; omega)), ?_⟩; rw [map_take'])
        | (refine ⟨_, slc_toI rfl (by omega) (by first | omega | (simp only [List.length_map] at *; omega)), ?_⟩; rw [map_take'])
        | fail)
      conv => whnf
      refine ⟨⟨i + 1, _, _, ⟨rfl, rfl, rfl, congrArg I (wrap_up hi' hlen), trivial⟩, by omega, hS _ _ _ _ _ _ (hA.mono (Nat.le_refl _) fun j hj => by rw [hupd_ne (by omega), hupd_ne (by omega)]) (by omega) (by omega) (by omega) (by omega), rfl⟩, ?_⟩
      show l.length - ix (I _) < l.length - ix (I _)
      simp only [wrap_up hi' hlen, ix, Int.toNat_natCast]; omega
  · have hie : i = l.length := by omega
    subst hie
    rw [List.take_length] at hA
    repeat' ((conv => whnf); first
      | refine ⟨_, rfl, ?_⟩
      | refine ⟨rfl, ?_⟩
      | refine ⟨_, _, rfl, at_map (by assumption), ?_⟩
      | refine idx_mapX (i := 0) rfl (by assumption) ?_
      | refine idx_map (by omega) (fun x hx => ?_)
      | refine idx_mapX (wrap_dn (by omega) (by omega)) (by assumption) ?_
      | refine idx_mapE (wrap_dn (by omega) (by omega)) (by omega) (fun x hx => ?_)
      | refine idx_mapL (by omega) (by first | assumption | (simp only [LIM]; omega)) (fun x hx => ?_)
      | refine idx_mapI (by omega) (by first | omega | (simp only [List.length_map] at *; omega)) (fun x hx => ?_)
      | refine ⟨_, ldc_cells hupd_at (Nat.le_of_ble_eq_true rfl), ?_⟩
      | refine ⟨_, ldc_cells (by first | assumption | exact zk ‹_› (by omega) | exact zk (zk ‹_› (by omega)) (by omega)) (Nat.le_of_ble_eq_true rfl), ?_⟩
      | refine ⟨_, _, hupd_at, rfl, rfl, Nat.le_of_ble_eq_true rfl, ?_⟩
      | refine ⟨_, _, rfl, rfl, rfl, Nat.le_of_ble_eq_true rfl, ?_⟩
      | (refine ⟨?_, _, (?_ : (_ : Option Ob) = _), rfl, rfl, ?_, ?_⟩; rotate_left; (exact hk_); exact Nat.le_of_ble_eq_true rfl)
      | refine ⟨_, _, _, _, ((by exact hk_) : (_ : Option Ob) = _), rfl, at_mapA (by assumption), ?_⟩
      | refine idx_ow (by exact hk_) (by omega) (fun x hx => ?_)
      | refine ⟨_, _, _, _, ((by exact hk_) : (_ : Option Ob) = _), rfl, fill_at (by omega), ?_⟩
      | refine ⟨_, _, _, _, ((by exact hk_) : (_ : Option Ob) = _), fill_at (by omega), rfl, rfl, Nat.le_of_ble_eq_true rfl, ?_⟩
      | refine idx_owL (by exact hk_) (by omega) (by simp only [LIM]; omega) (fun x hx => ?_)
      | refine idx_owI (by exact hk_) (by omega) (by first | omega | (simp only [List.length_map] at *; omega)) (fun x hx => ?_)
      | refine ⟨_, _, _, _, ((by exact hk_) : (_ : Option Ob) = _), at_mapA (by assumption), rfl, rfl, Nat.le_of_ble_eq_true rfl, ?_⟩
      | refine ⟨_, ldc_pa (by exact hk_) (at_mapA (by assumption)) (Nat.le_of_ble_eq_true rfl), ?_⟩
      | refine ⟨_, rfl, rfl, _, ((by exact hk_) : (_ : Option Ob) = _), (by exact ap_), ?_⟩
      | refine ⟨_, news_ow hupd_at, newsz_ow hupd_at, _, ((by exact hk_) : (_ : Option Ob) = _), (by exact ap_), ?_⟩
      | refine ⟨_, _, _, ((by exact hk_) : (_ : Option Ob) = _), ?_⟩
      | refine ⟨_, ((by exact hk_) : (_ : Option Ob) = _), ?_⟩
      | refine ⟨(show _ ≠ _ from (by first | decide | omega)), ?_⟩
      | refine ⟨(show _ ≤ _ from (by exact ap_)), ?_⟩
      | (refine ⟨fun hc => ?_, fun hc => ?_⟩ <;> (try simp (disch := omega) only [List.length_map, wrap64] at hc) <;> (try (exfalso; first | contradiction | omega)))
      | (refine ⟨⟨(by omega), (by omega), (by simp only [List.length_map] at *; simp only [LIM] at *; omega), (by simp only [List.length_map] at *; simp only [LIM] at *; omega)⟩, ?_⟩; (try simp only [List.length_map, Int.toNat_natCast]))
      | (refine ⟨_, slc_to rfl (by first | omega | (simp only [List.length_map] at *; omega)), ?_⟩; rw [map_take'])
      | (refine ⟨_, slc_toI rfl (by omega) (by first | omega | (simp only [List.length_map] at *; omega)), ?_⟩; rw [map_take'])
      | fail)
    conv => whnf
    refine And.right (finM_nest (N := nV) (f := f) (l := l) (rm' := rm') (lim := rm') (post := S_impl_votes_copied_o.post [one (vsF l)] []) (res := c_impl_votes_copied_o.res) (Nat.le_refl rm') hA ?_ ⟨l, rfl, rfl, hsm, rfl, rfl⟩)
    exact ⟨⟨_, rfl, .inl rfl⟩, trivial⟩
/-! ### Clone -/
section
variable {H : Hp} {b k : Nat} {f : Nat → Nat} {l : List Vo}
variable {P : Program} {g : Nat} {fr : Env} {nm nx rm rm' lim : Nat} {K : KV} {xs : List (X × List (Option Nat))} {res : List Rs} {post : AV → List (Option Ob) → Prop}
end
section
variable {H : Hp} {b k : Nat} {f : Nat → Nat} {l : List Vo} {v : Vo}
variable {P : Program} {g : Nat} {fr : Env} {nm nx rm rm' lim : Nat} {K : KV} {xs : List (X × List (Option Nat))}
end
end Av
end Go.Proofs.Ytkpncekaehgbdaa
