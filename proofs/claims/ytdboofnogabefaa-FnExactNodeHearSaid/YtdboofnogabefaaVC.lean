/- The walks: votes of one's own, copied, added to; the marks on them stand. -/
import Derived.Test.YtdboofnogabefaaJ36
set_option linter.unusedVariables false
set_option linter.unusedSimpArgs false
namespace Go.Proofs.Ytdboofnogabefaa
namespace Av
open Go.RowKit
set_option maxHeartbeats 4000000 in
set_option maxRecDepth 100000 in
theorem v_slices_Clip_VoteS_o : ValidM Try.prog n_slices_Clip_VoteS_o S_slices_Clip_VoteS_o := by
  refine validM_of_swp mixed is_slices_Clip_VoteS_o (by rintro _ _ ⟨a, rfl, _⟩; exact Nat.le_of_ble_eq_true rfl) ?_
  rintro _ _ rm ⟨l, rfl, rfl, -⟩ hl
  have hE1 : ∀ j v, l[j]? = some v → (nV.In l)[j + 1]? = some (nV.ob1 v) := fun j v h => Nest.In_at h
  have hlen : (nV.In l).length = l.length + 1 := Nest.In_len
  have hkl : (nV.K (· + 1) l).length = l.length := Nest.K_len
  conv => whnf
  refine ⟨_, _, _, rfl, ?_⟩
  conv => whnf
  refine ⟨_, _, _, rfl, ?_⟩
  conv => whnf
  refine .inl ⟨0, _, nV.K (· + 1) l, rfl, rfl, rfl, rfl, ?_⟩
  conv => whnf
  refine finM_nclip (l := l) hlen (Nat.le_refl _) ?_ hupd_at (by omega) (fun j v hj => ?_) ⟨⟨_, rfl, .inl rfl⟩, trivial⟩ ⟨l, rfl, rfl, rfl, rfl⟩
  · rw [hupd_ne (by omega)]; exact hupd_at
  · have hj' := (List.getElem?_eq_some_iff.1 hj).1
    rw [hupd_ne (by omega), hupd_ne (by omega)]; exact hE1 j v hj
attribute [local irreducible] mkC mkVs endV
set_option maxHeartbeats 4000000 in
set_option maxRecDepth 100000 in
theorem v_laws_heldVoteS : Valid Try.prog n_laws_heldVoteS S_laws_heldVoteS := by
  refine valid_of_swp mixed is_laws_heldVoteS (by rintro _ ⟨a, rfl, _⟩; exact Nat.le_of_ble_eq_true rfl) ?_
  rintro _ rm ⟨⟨l, k0⟩, rfl, hsm, hk0, hkM⟩ hl
  dsimp only at hsm hk0 hkM
  have hlen : l.length ≤ 2097152 := hsm.1
  have hlenL : l.length ≤ LIM := Nat.le_trans hlen (by decide)
  have hml := mkVs_len l k0
  have hbd := fun i => endV_bounds (l.take i) k0 fun v hv => hsm.2 v (List.mem_of_mem_take hv)
  have htl : ∀ i, (l.take i).length ≤ l.length := fun i => by rw [List.length_take]; omega
  have hE0 : endV (l.take 0) k0 = k0 := by simp [endV]
  repeat' ((conv => whnf); first
    | refine ⟨_, rfl, ?_⟩
    | refine ⟨rfl, ?_⟩
    | refine ⟨_, _, rfl, at_map (by assumption), ?_⟩
    | refine idx_mapX (i := 0) rfl (by assumption) ?_
    | refine idx_map (by omega) (fun x hx => ?_)
    | refine idx_mapX (wrap_dn (by omega) (by omega)) (by assumption) ?_
    | refine idx_mapE (wrap_dn (by omega) (by omega)) (by omega) (fun x hx => ?_)
    | refine idx_mapL (by omega) (by first | assumption | (simp only [LIM]; omega)) (fun x hx => ?_)
    | refine idx_mapI (by omega) (by first | omega | (simp only [List.length_map] at *; omega)) (fun x hx => ?_)
    | refine ⟨_, ldc_cells hupd_at (Nat.le_of_ble_eq_true rfl), ?_⟩
    | refine ⟨_, ldc_cells (by first | assumption | exact zk ‹_› (by omega) | exact zk (zk ‹_› (by omega)) (by omega)) (Nat.le_of_ble_eq_true rfl), ?_⟩
    | (refine ⟨fun hc => ?_, fun hc => ?_⟩ <;> (try simp (disch := omega) only [List.length_map, wrap64] at hc))
    | fail)
  conv => whnf
  refine ⟨fun fr H nx rm' => ∃ i : Nat, Has fr [(0, one (vsF (mkVs l k0))), (1, I (endV (l.take i) k0)), (5, I i)] ∧ i ≤ l.length ∧ 1 ≤ nx ∧ H 0 = none ∧ rm' = rm,
    fun fr _ _ _ => l.length - ix (fr 5), ⟨0, ⟨rfl, congrArg I hE0.symm, rfl, trivial⟩, Nat.zero_le _, ln_, ne_, rfl⟩, ?_⟩
  rintro fr H nx rm' ⟨i, hfr, hi, hnx, hH, rfl⟩
  rw [hfr.eq]
  have hb := hbd i
  have ht := htl i
  rcases Nat.lt_or_ge i l.length with hi' | hi'
  · obtain ⟨x, hx⟩ : ∃ x, l[i]? = some x := ⟨_, List.getElem?_eq_getElem hi'⟩
    have hxc : x.c.length ≤ SM := hsm.2 x (List.mem_of_getElem? hx)
    have hxc' := hxc
    simp only [SM] at hxc'
    have hat := mkVs_at (k := k0) hx
    have hb' := hbd (i + 1)
    have ht' := htl (i + 1)
    have hee := endV_take hx k0
    have w1 : IntKind.i64.wrap (endV (l.take i) k0 + 1) = endV (l.take i) k0 + 1 := by rw [wrap64] <;> omega
    repeat' ((conv => whnf); first
      | refine ⟨_, _, rfl, at_map hat, ?_⟩
      | (refine calle (b := [one (chF (mkC x.c.length (endV (l.take i) k0 + 1))), I (endV (l.take i) k0 + 1)]) v_laws_heldItemS (l2 rfl (congrArg I w1)) ⟨(x.c.length, endV (l.take i) k0 + 1), rfl, hxc, by dsimp only; omega, by dsimp only [MK]; omega⟩ (.inl rfl) (by exact hl) (fun r hr => K_laws_heldItemS hr) ?_)
      | (refine ⟨⟨i + 1, ⟨rfl, congrArg I hee.symm, congrArg I (wrap_up hi' hlenL), trivial⟩, hi', by omega, h0_, rfl⟩, ?_⟩; show l.length - ix (I _) < l.length - ix (I _); simp only [wrap_up hi' hlenL, ix, Int.toNat_natCast]; omega)
      | refine ⟨_, rfl, ?_⟩
      | refine ⟨rfl, ?_⟩
      | refine ⟨_, _, rfl, at_map (by assumption), ?_⟩
      | refine idx_mapX (i := 0) rfl (by assumption) ?_
      | refine idx_map (by omega) (fun x hx => ?_)
      | refine idx_mapX (wrap_dn (by omega) (by omega)) (by assumption) ?_
      | refine idx_mapE (wrap_dn (by omega) (by omega)) (by omega) (fun x hx => ?_)
      | refine idx_mapL (by omega) (by first | assumption | (simp only [LIM]; omega)) (fun x hx => ?_)
      | refine idx_mapI (by omega) (by first | omega | (simp only [List.length_map] at *; omega)) (fun x hx => ?_)
      | refine ⟨_, ldc_cells hupd_at (Nat.le_of_ble_eq_true rfl), ?_⟩
      | refine ⟨_, ldc_cells (by first | assumption | exact zk ‹_› (by omega) | exact zk (zk ‹_› (by omega)) (by omega)) (Nat.le_of_ble_eq_true rfl), ?_⟩
      | (refine ⟨fun hc => ?_, fun hc => ?_⟩ <;> (try simp (disch := omega) only [List.length_map, wrap64] at hc) <;> (try (exfalso; first | contradiction | omega)))
      | fail)
  · have hie : i = l.length := by omega
    subst hie
    rw [List.take_length] at hfr ⊢
    repeat' ((conv => whnf); first
      | exact ⟨⟨_, rfl, rfl, (l, k0), rfl, rfl⟩, Nat.le_refl _, h0_⟩
      | refine ⟨_, rfl, ?_⟩
      | refine ⟨rfl, ?_⟩
      | refine ⟨_, _, rfl, at_map (by assumption), ?_⟩
      | refine idx_mapX (i := 0) rfl (by assumption) ?_
      | refine idx_map (by omega) (fun x hx => ?_)
      | refine idx_mapX (wrap_dn (by omega) (by omega)) (by assumption) ?_
      | refine idx_mapE (wrap_dn (by omega) (by omega)) (by omega) (fun x hx => ?_)
      | refine idx_mapL (by omega) (by first | assumption | (simp only [LIM]; omega)) (fun x hx => ?_)
      | refine idx_mapI (by omega) (by first | omega | (simp only [List.length_map] at *; omega)) (fun x hx => ?_)
      | refine ⟨_, ldc_cells hupd_at (Nat.le_of_ble_eq_true rfl), ?_⟩
      | refine ⟨_, ldc_cells (by first | assumption | exact zk ‹_› (by omega) | exact zk (zk ‹_› (by omega)) (by omega)) (Nat.le_of_ble_eq_true rfl), ?_⟩
      | (refine ⟨fun hc => ?_, fun hc => ?_⟩ <;> (try simp (disch := omega) only [List.length_map, wrap64] at hc) <;> (try (exfalso; first | contradiction | omega)))
      | fail)
attribute [local irreducible] Valid ValidM
set_option maxHeartbeats 4000000 in
set_option maxRecDepth 100000 in
theorem v_impl_Vote_copied_o : ValidM Try.prog n_impl_Vote_copied_o S_impl_Vote_copied_o := by
  refine validM_of_swp mixed is_impl_Vote_copied_o (by rintro _ _ ⟨a, rfl, _⟩; exact Nat.le_of_ble_eq_true rfl) ?_
  rintro _ _ rm ⟨v, rfl, rfl, hpre⟩ hl
  try dsimp only at hpre
  change swp _ _ _ _ _ 0 _
  repeat' ((conv => whnf); first
    | refine ⟨_, rfl, ?_⟩
    | refine ⟨rfl, ?_⟩
    | refine ⟨_, _, rfl, at_map (by assumption), ?_⟩
    | refine idx_mapX (i := 0) rfl (by assumption) ?_
    | refine idx_map (by omega) (fun x hx => ?_)
    | refine idx_mapX (wrap_dn (by omega) (by omega)) (by assumption) ?_
    | refine idx_mapE (wrap_dn (by omega) (by omega)) (by omega) (fun x hx => ?_)
    | refine idx_mapL (by omega) (by first | assumption | (simp only [LIM]; omega)) (fun x hx => ?_)
    | refine idx_mapI (by omega) (by first | omega | (simp only [List.length_map] at *; omega)) (fun x hx => ?_)
    | refine ⟨_, ldc_cells hupd_at (Nat.le_of_ble_eq_true rfl), ?_⟩
    | refine ⟨_, ldc_cells (by first | assumption | exact zk ‹_› (by omega) | exact zk (zk ‹_› (by omega)) (by omega)) (Nat.le_of_ble_eq_true rfl), ?_⟩
    | refine ⟨_, _, hupd_at, rfl, rfl, Nat.le_of_ble_eq_true rfl, ?_⟩
    | refine ⟨_, _, rfl, rfl, rfl, Nat.le_of_ble_eq_true rfl, ?_⟩
    | (refine ⟨?_, _, (?_ : (_ : Option Ob) = _), rfl, rfl, ?_, ?_⟩; rotate_left; (exact hk_); exact Nat.le_of_ble_eq_true rfl)
    | refine ⟨_, _, _, _, ((by exact hk_) : (_ : Option Ob) = _), rfl, at_mapA (by assumption), ?_⟩
    | refine idx_ow (by exact hk_) (by omega) (fun x hx => ?_)
    | refine ⟨_, _, _, _, ((by exact hk_) : (_ : Option Ob) = _), rfl, fill_at (by omega), ?_⟩
    | refine ⟨_, _, _, _, ((by exact hk_) : (_ : Option Ob) = _), fill_at (by omega), rfl, rfl, Nat.le_of_ble_eq_true rfl, ?_⟩
    | refine idx_owL (by exact hk_) (by omega) (by simp only [LIM]; omega) (fun x hx => ?_)
    | refine idx_owI (by exact hk_) (by omega) (by first | omega | (simp only [List.length_map] at *; omega)) (fun x hx => ?_)
    | refine ⟨_, _, _, _, ((by exact hk_) : (_ : Option Ob) = _), at_mapA (by assumption), rfl, rfl, Nat.le_of_ble_eq_true rfl, ?_⟩
    | refine ⟨_, ldc_pa (by exact hk_) (at_mapA (by assumption)) (Nat.le_of_ble_eq_true rfl), ?_⟩
    | refine ⟨_, rfl, rfl, _, ((by exact hk_) : (_ : Option Ob) = _), (by exact ap_), ?_⟩
    | refine ⟨_, news_ow hupd_at, newsz_ow hupd_at, _, ((by exact hk_) : (_ : Option Ob) = _), (by exact ap_), ?_⟩
    | refine ⟨_, _, _, ((by exact hk_) : (_ : Option Ob) = _), ?_⟩
    | refine ⟨_, ((by exact hk_) : (_ : Option Ob) = _), ?_⟩
    | refine ⟨(show _ ≠ _ from (by first | decide | omega)), ?_⟩
    | refine ⟨(show _ ≤ _ from (by exact ap_)), ?_⟩
    | (refine ⟨fun hc => ?_, fun hc => ?_⟩ <;> (try simp (disch := omega) only [List.length_map, wrap64] at hc))
    | (refine ⟨⟨(by omega), (by omega), (by simp only [List.length_map] at *; simp only [LIM] at *; omega), (by simp only [List.length_map] at *; simp only [LIM] at *; omega)⟩, ?_⟩; (try simp only [List.length_map, Int.toNat_natCast]))
    | (refine ⟨_, slc_to rfl (by first | omega | (simp only [List.length_map] at *; omega)), ?_⟩; rw [map_take'])
    | (refine ⟨_, slc_toI rfl (by omega) (by first | omega | (simp only [List.length_map] at *; omega)), ?_⟩; rw [map_take'])
    | fail)
  conv => whnf
  refine OQ.mk1 (ar := [one (chF v.c)]) (by rfl) ⟨v.c, rfl, hpre⟩ vO_impl_copied (so_impl_copied v.c) ?_
  repeat' ((conv => whnf); first
    | refine ⟨_, rfl, ?_⟩
    | refine ⟨rfl, ?_⟩
    | refine ⟨_, _, rfl, at_map (by assumption), ?_⟩
    | refine idx_mapX (i := 0) rfl (by assumption) ?_
    | refine idx_map (by omega) (fun x hx => ?_)
    | refine idx_mapX (wrap_dn (by omega) (by omega)) (by assumption) ?_
    | refine idx_mapE (wrap_dn (by omega) (by omega)) (by omega) (fun x hx => ?_)
    | refine idx_mapL (by omega) (by first | assumption | (simp only [LIM]; omega)) (fun x hx => ?_)
    | refine idx_mapI (by omega) (by first | omega | (simp only [List.length_map] at *; omega)) (fun x hx => ?_)
    | refine ⟨_, ldc_cells hupd_at (Nat.le_of_ble_eq_true rfl), ?_⟩
    | refine ⟨_, ldc_cells (by first | assumption | exact zk ‹_› (by omega) | exact zk (zk ‹_› (by omega)) (by omega)) (Nat.le_of_ble_eq_true rfl), ?_⟩
    | refine ⟨_, _, hupd_at, rfl, rfl, Nat.le_of_ble_eq_true rfl, ?_⟩
    | refine ⟨_, _, rfl, rfl, rfl, Nat.le_of_ble_eq_true rfl, ?_⟩
    | (refine ⟨?_, _, (?_ : (_ : Option Ob) = _), rfl, rfl, ?_, ?_⟩; rotate_left; (exact hk_); exact Nat.le_of_ble_eq_true rfl)
    | refine ⟨_, _, _, _, ((by exact hk_) : (_ : Option Ob) = _), rfl, at_mapA (by assumption), ?_⟩
    | refine idx_ow (by exact hk_) (by omega) (fun x hx => ?_)
    | refine ⟨_, _, _, _, ((by exact hk_) : (_ : Option Ob) = _), rfl, fill_at (by omega), ?_⟩
    | refine ⟨_, _, _, _, ((by exact hk_) : (_ : Option Ob) = _), fill_at (by omega), rfl, rfl, Nat.le_of_ble_eq_true rfl, ?_⟩
    | refine idx_owL (by exact hk_) (by omega) (by simp only [LIM]; omega) (fun x hx => ?_)
    | refine idx_owI (by exact hk_) (by omega) (by first | omega | (simp only [List.length_map] at *; omega)) (fun x hx => ?_)
    | refine ⟨_, _, _, _, ((by exact hk_) : (_ : Option Ob) = _), at_mapA (by assumption), rfl, rfl, Nat.le_of_ble_eq_true rfl, ?_⟩
    | refine ⟨_, ldc_pa (by exact hk_) (at_mapA (by assumption)) (Nat.le_of_ble_eq_true rfl), ?_⟩
    | refine ⟨_, rfl, rfl, _, ((by exact hk_) : (_ : Option Ob) = _), (by exact ap_), ?_⟩
    | refine ⟨_, news_ow hupd_at, newsz_ow hupd_at, _, ((by exact hk_) : (_ : Option Ob) = _), (by exact ap_), ?_⟩
    | refine ⟨_, _, _, ((by exact hk_) : (_ : Option Ob) = _), ?_⟩
    | refine ⟨_, ((by exact hk_) : (_ : Option Ob) = _), ?_⟩
    | refine ⟨(show _ ≠ _ from (by first | decide | omega)), ?_⟩
    | refine ⟨(show _ ≤ _ from (by exact ap_)), ?_⟩
    | (refine ⟨fun hc => ?_, fun hc => ?_⟩ <;> (try simp (disch := omega) only [List.length_map, wrap64] at hc))
    | (refine ⟨⟨(by omega), (by omega), (by simp only [List.length_map] at *; simp only [LIM] at *; omega), (by simp only [List.length_map] at *; simp only [LIM] at *; omega)⟩, ?_⟩; (try simp only [List.length_map, Int.toNat_natCast]))
    | (refine ⟨_, slc_to rfl (by first | omega | (simp only [List.length_map] at *; omega)), ?_⟩; rw [map_take'])
    | (refine ⟨_, slc_toI rfl (by omega) (by first | omega | (simp only [List.length_map] at *; omega)), ?_⟩; rw [map_take'])
    | fail)
  conv => whnf
  exact finM_vo (Nat.le_refl _) hk_ ⟨⟨_, rfl, .inl rfl⟩, trivial⟩ ⟨v, rfl, rfl, rfl, rfl⟩
set_option maxHeartbeats 4000000 in
set_option maxRecDepth 100000 in
theorem v_impl_votes_copied_o : ValidM Try.prog n_impl_votes_copied_o S_impl_votes_copied_o := by
  refine validM_of_swp mixed is_impl_votes_copied_o (by rintro _ _ ⟨a, rfl, _⟩; exact Nat.le_of_ble_eq_true rfl) ?_
  rintro _ _ rm ⟨l, rfl, rfl, hpre⟩ hl
  try dsimp only at hpre
  change swp _ _ _ _ _ 0 _
  obtain ⟨hfit, hsm⟩ := hpre
  have hlen : l.length ≤ LIM := hfit.1
  have hlen' : l.length ≤ 1048576 := hsm
  repeat' ((conv => whnf); first
    | refine ⟨_, rfl, ?_⟩
    | refine ⟨rfl, ?_⟩
    | refine ⟨_, _, rfl, at_map (by assumption), ?_⟩
    | refine idx_mapX (i := 0) rfl (by assumption) ?_
    | refine idx_map (by omega) (fun x hx => ?_)
    | refine idx_mapX (wrap_dn (by omega) (by omega)) (by assumption) ?_
    | refine idx_mapE (wrap_dn (by omega) (by omega)) (by omega) (fun x hx => ?_)
    | refine idx_mapL (by omega) (by first | assumption | (simp only [LIM]; omega)) (fun x hx => ?_)
    | refine idx_mapI (by omega) (by first | omega | (simp only [List.length_map] at *; omega)) (fun x hx => ?_)
    | refine ⟨_, ldc_cells hupd_at (Nat.le_of_ble_eq_true rfl), ?_⟩
    | refine ⟨_, ldc_cells (by first | assumption | exact zk ‹_› (by omega) | exact zk (zk ‹_› (by omega)) (by omega)) (Nat.le_of_ble_eq_true rfl), ?_⟩
    | refine ⟨_, _, hupd_at, rfl, rfl, Nat.le_of_ble_eq_true rfl, ?_⟩
    | refine ⟨_, _, rfl, rfl, rfl, Nat.le_of_ble_eq_true rfl, ?_⟩
    | (refine ⟨?_, _, (?_ : (_ : Option Ob) = _), rfl, rfl, ?_, ?_⟩; rotate_left; (exact hk_); exact Nat.le_of_ble_eq_true rfl)
    | refine ⟨_, _, _, _, ((by exact hk_) : (_ : Option Ob) = _), rfl, at_mapA (by assumption), ?_⟩
    | refine idx_ow (by exact hk_) (by omega) (fun x hx => ?_)
    | refine ⟨_, _, _, _, ((by exact hk_) : (_ : Option Ob) = _), rfl, fill_at (by omega), ?_⟩
    | refine ⟨_, _, _, _, ((by exact hk_) : (_ : Option Ob) = _), fill_at (by omega), rfl, rfl, Nat.le_of_ble_eq_true rfl, ?_⟩
    | refine idx_owL (by exact hk_) (by omega) (by simp only [LIM]; omega) (fun x hx => ?_)
    | refine idx_owI (by exact hk_) (by omega) (by first | omega | (simp only [List.length_map] at *; omega)) (fun x hx => ?_)
    | refine ⟨_, _, _, _, ((by exact hk_) : (_ : Option Ob) = _), at_mapA (by assumption), rfl, rfl, Nat.le_of_ble_eq_true rfl, ?_⟩
    | refine ⟨_, ldc_pa (by exact hk_) (at_mapA (by assumption)) (Nat.le_of_ble_eq_true rfl), ?_⟩
    | refine ⟨_, rfl, rfl, _, ((by exact hk_) : (_ : Option Ob) = _), (by exact ap_), ?_⟩
    | refine ⟨_, news_ow hupd_at, newsz_ow hupd_at, _, ((by exact hk_) : (_ : Option Ob) = _), (by exact ap_), ?_⟩
    | refine ⟨_, _, _, ((by exact hk_) : (_ : Option Ob) = _), ?_⟩
    | refine ⟨_, ((by exact hk_) : (_ : Option Ob) = _), ?_⟩
    | refine ⟨(show _ ≠ _ from (by first | decide | omega)), ?_⟩
    | refine ⟨(show _ ≤ _ from (by exact ap_)), ?_⟩
    | (refine ⟨fun hc => ?_, fun hc => ?_⟩ <;> (try simp (disch := omega) only [List.length_map, wrap64] at hc))
    | (refine ⟨⟨(by omega), (by omega), (by simp only [List.length_map] at *; simp only [LIM] at *; omega), (by simp only [List.length_map] at *; simp only [LIM] at *; omega)⟩, ?_⟩; (try simp only [List.length_map, Int.toNat_natCast]))
    | (refine ⟨_, slc_to rfl (by first | omega | (simp only [List.length_map] at *; omega)), ?_⟩; rw [map_take'])
    | (refine ⟨_, slc_toI rfl (by omega) (by first | omega | (simp only [List.length_map] at *; omega)), ?_⟩; rw [map_take'])
    | fail)
  conv => whnf
  refine ⟨fun fr H nx rm' => ∃ (i ko : Nat) (f : Nat → Nat), Has fr [(3, .w (.o (.ow ko))), (9, one (vsF l)), (10, I l.length), (11, I i)] ∧ i ≤ l.length ∧ nV.At H nx ko f (l.take i) ∧ rm' = rm,
    fun fr _ _ _ => l.length - ix (fr 11), ⟨0, _, id, ⟨rfl, rfl, congrArg (fun n : Nat => I (n : Int)) (List.length_map ..), rfl, trivial⟩, Nat.zero_le _, ⟨hk_, fun j v h => by simp at h, fun j h => by simp at h, fun j j' h => by simp at h, ln_, fun j h => by simp at h⟩, rfl⟩, ?_⟩
  rintro fr H nx rm' ⟨i, ko, f, hfr, hi, hA, rfl⟩
  rw [hfr.eq]
  have hkon := hA.lt
  have htl : (l.take i).length = i := by rw [List.length_take]; omega
  rcases Nat.lt_or_ge i l.length with hi' | hi'
  · obtain ⟨x, hx⟩ : ∃ x, l[i]? = some x := ⟨_, List.getElem?_eq_getElem hi'⟩
    have hxv : FitV x := hfit.2 x (List.mem_of_getElem? hx)
    repeat' ((conv => whnf); first
      | refine ⟨_, _, rfl, at_map hx, ?_⟩
      | refine ⟨_, rfl, ?_⟩
      | refine ⟨rfl, ?_⟩
      | refine ⟨_, _, rfl, at_map (by assumption), ?_⟩
      | refine idx_mapX (i := 0) rfl (by assumption) ?_
      | refine idx_map (by omega) (fun x hx => ?_)
      | refine idx_mapX (wrap_dn (by omega) (by omega)) (by assumption) ?_
      | refine idx_mapE (wrap_dn (by omega) (by omega)) (by omega) (fun x hx => ?_)
      | refine idx_mapL (by omega) (by first | assumption | (simp only [LIM]; omega)) (fun x hx => ?_)
      | refine idx_mapI (by omega) (by first | omega | (simp only [List.length_map] at *; omega)) (fun x hx => ?_)
      | refine ⟨_, ldc_cells hupd_at (Nat.le_of_ble_eq_true rfl), ?_⟩
      | refine ⟨_, ldc_cells (by first | assumption | exact zk ‹_› (by omega) | exact zk (zk ‹_› (by omega)) (by omega)) (Nat.le_of_ble_eq_true rfl), ?_⟩
      | refine ⟨_, _, hupd_at, rfl, rfl, Nat.le_of_ble_eq_true rfl, ?_⟩
      | refine ⟨_, _, rfl, rfl, rfl, Nat.le_of_ble_eq_true rfl, ?_⟩
      | (refine ⟨?_, _, (?_ : (_ : Option Ob) = _), rfl, rfl, ?_, ?_⟩; rotate_left; (exact hk_); exact Nat.le_of_ble_eq_true rfl)
      | refine ⟨_, _, _, _, ((by exact hk_) : (_ : Option Ob) = _), rfl, at_mapA (by assumption), ?_⟩
      | refine idx_ow (by exact hk_) (by omega) (fun x hx => ?_)
      | refine ⟨_, _, _, _, ((by exact hk_) : (_ : Option Ob) = _), rfl, fill_at (by omega), ?_⟩
      | refine ⟨_, _, _, _, ((by exact hk_) : (_ : Option Ob) = _), fill_at (by omega), rfl, rfl, Nat.le_of_ble_eq_true rfl, ?_⟩
      | refine idx_owL (by exact hk_) (by omega) (by simp only [LIM]; omega) (fun x hx => ?_)
      | refine idx_owI (by exact hk_) (by omega) (by first | omega | (simp only [List.length_map] at *; omega)) (fun x hx => ?_)
      | refine ⟨_, _, _, _, ((by exact hk_) : (_ : Option Ob) = _), at_mapA (by assumption), rfl, rfl, Nat.le_of_ble_eq_true rfl, ?_⟩
      | refine ⟨_, ldc_pa (by exact hk_) (at_mapA (by assumption)) (Nat.le_of_ble_eq_true rfl), ?_⟩
      | refine ⟨_, rfl, rfl, _, ((by exact hk_) : (_ : Option Ob) = _), (by exact ap_), ?_⟩
      | refine ⟨_, news_ow hupd_at, newsz_ow hupd_at, _, ((by exact hk_) : (_ : Option Ob) = _), (by exact ap_), ?_⟩
      | refine ⟨_, _, _, ((by exact hk_) : (_ : Option Ob) = _), ?_⟩
      | refine ⟨_, ((by exact hk_) : (_ : Option Ob) = _), ?_⟩
      | refine ⟨(show _ ≠ _ from (by first | decide | omega)), ?_⟩
      | refine ⟨(show _ ≤ _ from (by exact ap_)), ?_⟩
      | (refine ⟨fun hc => ?_, fun hc => ?_⟩ <;> (try simp (disch := omega) only [List.length_map, wrap64] at hc) <;> (try (exfalso; first | contradiction | omega)))
      | (refine ⟨⟨(by omega), (by omega), (by simp only [List.length_map] at *; simp only [LIM] at *; omega), (by simp only [List.length_map] at *; simp only [LIM] at *; omega)⟩, ?_⟩; (try simp only [List.length_map, Int.toNat_natCast]))
      | (refine ⟨_, slc_to rfl (by first | omega | (simp only [List.length_map] at *; omega)), ?_⟩; rw [map_take'])
      | (refine ⟨_, slc_toI rfl (by omega) (by first | omega | (simp only [List.length_map] at *; omega)), ?_⟩; rw [map_take'])
      | fail)
    conv => whnf
    refine mq_vo (v := x) v_impl_Vote_copied_o (by exact hl) (by rfl) ⟨x, rfl, rfl, hxv⟩ (fun r obs' h => K_impl_Vote_copied_o h) ?_
    conv => whnf
    refine ⟨_, news_ow hupd_at, newsz_ow hupd_at, nV.K f (l.take i), ?_, ?_, ?_⟩
    · exact zk (zk (zk (zk hA.out (by omega)) (by omega)) (by omega)) (by omega)
    · rw [Nest.K_len]
      simp only [List.length_cons, List.length_nil]
      omega
    · have hS := fun H1 n1 n2 n3 b' o2 (hA1 : nV.At H1 nx ko f (l.take i)) h1 h2 h3 h4 => Nest.At.snoc (N := nV) hA1 (x := x) (n := n1) (n' := n3) (n2 := n2) (b' := b') (o2 := o2) h1 h2 h3 h4
      rw [show l.take i ++ [x] = l.take (i + 1) by rw [List.take_add_one, hx]; rfl] at hS
      repeat' ((conv => whnf); first
        | refine ⟨_, rfl, ?_⟩
        | refine ⟨rfl, ?_⟩
        | refine ⟨_, _, rfl, at_map (by assumption), ?_⟩
        | refine idx_mapX (i := 0) rfl (by assumption) ?_
        | refine idx_map (by omega) (fun x hx => ?_)
        | refine idx_mapX (wrap_dn (by omega) (by omega)) (by assumption) ?_
        | refine idx_mapE (wrap_dn (by omega) (by omega)) (by omega) (fun x hx => ?_)
        | refine idx_mapL (by omega) (by first | assumption | (simp only [LIM]; omega)) (fun x hx => ?_)
        | refine idx_mapI (by omega) (by first | omega | (simp only [List.length_map] at *; omega)) (fun x hx => ?_)
        | refine ⟨_, ldc_cells hupd_at (Nat.le_of_ble_eq_true rfl), ?_⟩
        | refine ⟨_, ldc_cells (by first | assumption | exact zk ‹_› (by omega) | exact zk (zk ‹_› (by omega)) (by omega)) (Nat.le_of_ble_eq_true rfl), ?_⟩
        | refine ⟨_, _, hupd_at, rfl, rfl, Nat.le_of_ble_eq_true rfl, ?_⟩
        | refine ⟨_, _, rfl, rfl, rfl, Nat.le_of_ble_eq_true rfl, ?_⟩
        | (refine ⟨?_, _, (?_ : (_ : Option Ob) = _), rfl, rfl, ?_, ?_⟩; rotate_left; (exact hk_); exact Nat.le_of_ble_eq_true rfl)
        | refine ⟨_, _, _, _, ((by exact hk_) : (_ : Option Ob) = _), rfl, at_mapA (by assumption), ?_⟩
        | refine idx_ow (by exact hk_) (by omega) (fun x hx => ?_)
        | refine ⟨_, _, _, _, ((by exact hk_) : (_ : Option Ob) = _), rfl, fill_at (by omega), ?_⟩
        | refine ⟨_, _, _, _, ((by exact hk_) : (_ : Option Ob) = _), fill_at (by omega), rfl, rfl, Nat.le_of_ble_eq_true rfl, ?_⟩
        | refine idx_owL (by exact hk_) (by omega) (by simp only [LIM]; omega) (fun x hx => ?_)
        | refine idx_owI (by exact hk_) (by omega) (by first | omega | (simp only [List.length_map] at *; omega)) (fun x hx => ?_)
        | refine ⟨_, _, _, _, ((by exact hk_) : (_ : Option Ob) = _), at_mapA (by assumption), rfl, rfl, Nat.le_of_ble_eq_true rfl, ?_⟩
        | refine ⟨_, ldc_pa (by exact hk_) (at_mapA (by assumption)) (Nat.le_of_ble_eq_true rfl), ?_⟩
        | refine ⟨_, rfl, rfl, _, ((by exact hk_) : (_ : Option Ob) = _), (by exact ap_), ?_⟩
        | refine ⟨_, news_ow hupd_at, newsz_ow hupd_at, _, ((by exact hk_) : (_ : Option Ob) = _), (by exact ap_), ?_⟩
        | refine ⟨_, _, _, ((by exact hk_) : (_ : Option Ob) = _), ?_⟩
        | refine ⟨_, ((by exact hk_) : (_ : Option Ob) = _), ?_⟩
        | refine ⟨(show _ ≠ _ from (by first | decide | omega)), ?_⟩
        | refine ⟨(show _ ≤ _ from (by exact ap_)), ?_⟩
        | (refine ⟨fun hc => ?_, fun hc => ?_⟩ <;> (try simp (disch := omega) only [List.length_map, wrap64] at hc) <;> (try (exfalso; first | contradiction | omega)))
        | (refine ⟨⟨(by omega), (by omega), (by simp only [List.length_map] at *; simp only [LIM] at *; omega), (by simp only [List.length_map] at *; simp only [LIM] at *; omega)⟩, ?_⟩; (try simp only [List.length_map, Int.toNat_natCast]))
        | (refine ⟨_, slc_to rfl (by first | omega | (simp only [List.length_map] at *; omega)), ?_⟩; rw [map_take'])
        | (refine ⟨_, slc_toI rfl (by omega) (by first | omega | (simp only [List.length_map] at *; omega)), ?_⟩; rw [map_take'])
        | fail)
      conv => whnf
      refine ⟨⟨i + 1, _, _, ⟨rfl, rfl, rfl, congrArg I (wrap_up hi' hlen), trivial⟩, by omega, hS _ _ _ _ _ _ (hA.mono (Nat.le_refl _) fun j hj => by rw [hupd_ne (by omega), hupd_ne (by omega)]) (by omega) (by omega) (by omega) (by omega), rfl⟩, ?_⟩
      show l.length - ix (I _) < l.length - ix (I _)
      simp only [wrap_up hi' hlen, ix, Int.toNat_natCast]; omega
  · have hie : i = l.length := by omega
    subst hie
    rw [List.take_length] at hA
    repeat' ((conv => whnf); first
      | refine ⟨_, rfl, ?_⟩
      | refine ⟨rfl, ?_⟩
      | refine ⟨_, _, rfl, at_map (by assumption), ?_⟩
      | refine idx_mapX (i := 0) rfl (by assumption) ?_
      | refine idx_map (by omega) (fun x hx => ?_)
      | refine idx_mapX (wrap_dn (by omega) (by omega)) (by assumption) ?_
      | refine idx_mapE (wrap_dn (by omega) (by omega)) (by omega) (fun x hx => ?_)
      | refine idx_mapL (by omega) (by first | assumption | (simp only [LIM]; omega)) (fun x hx => ?_)
      | refine idx_mapI (by omega) (by first | omega | (simp only [List.length_map] at *; omega)) (fun x hx => ?_)
      | refine ⟨_, ldc_cells hupd_at (Nat.le_of_ble_eq_true rfl), ?_⟩
      | refine ⟨_, ldc_cells (by first | assumption | exact zk ‹_› (by omega) | exact zk (zk ‹_› (by omega)) (by omega)) (Nat.le_of_ble_eq_true rfl), ?_⟩
      | refine ⟨_, _, hupd_at, rfl, rfl, Nat.le_of_ble_eq_true rfl, ?_⟩
      | refine ⟨_, _, rfl, rfl, rfl, Nat.le_of_ble_eq_true rfl, ?_⟩
      | (refine ⟨?_, _, (?_ : (_ : Option Ob) = _), rfl, rfl, ?_, ?_⟩; rotate_left; (exact hk_); exact Nat.le_of_ble_eq_true rfl)
      | refine ⟨_, _, _, _, ((by exact hk_) : (_ : Option Ob) = _), rfl, at_mapA (by assumption), ?_⟩
      | refine idx_ow (by exact hk_) (by omega) (fun x hx => ?_)
      | refine ⟨_, _, _, _, ((by exact hk_) : (_ : Option Ob) = _), rfl, fill_at (by omega), ?_⟩
      | refine ⟨_, _, _, _, ((by exact hk_) : (_ : Option Ob) = _), fill_at (by omega), rfl, rfl, Nat.le_of_ble_eq_true rfl, ?_⟩
      | refine idx_owL (by exact hk_) (by omega) (by simp only [LIM]; omega) (fun x hx => ?_)
      | refine idx_owI (by exact hk_) (by omega) (by first | omega | (simp only [List.length_map] at *; omega)) (fun x hx => ?_)
      | refine ⟨_, _, _, _, ((by exact hk_) : (_ : Option Ob) = _), at_mapA (by assumption), rfl, rfl, Nat.le_of_ble_eq_true rfl, ?_⟩
      | refine ⟨_, ldc_pa (by exact hk_) (at_mapA (by assumption)) (Nat.le_of_ble_eq_true rfl), ?_⟩
      | refine ⟨_, rfl, rfl, _, ((by exact hk_) : (_ : Option Ob) = _), (by exact ap_), ?_⟩
      | refine ⟨_, news_ow hupd_at, newsz_ow hupd_at, _, ((by exact hk_) : (_ : Option Ob) = _), (by exact ap_), ?_⟩
      | refine ⟨_, _, _, ((by exact hk_) : (_ : Option Ob) = _), ?_⟩
      | refine ⟨_, ((by exact hk_) : (_ : Option Ob) = _), ?_⟩
      | refine ⟨(show _ ≠ _ from (by first | decide | omega)), ?_⟩
      | refine ⟨(show _ ≤ _ from (by exact ap_)), ?_⟩
      | (refine ⟨fun hc => ?_, fun hc => ?_⟩ <;> (try simp (disch := omega) only [List.length_map, wrap64] at hc) <;> (try (exfalso; first | contradiction | omega)))
      | (refine ⟨⟨(by omega), (by omega), (by simp only [List.length_map] at *; simp only [LIM] at *; omega), (by simp only [List.length_map] at *; simp only [LIM] at *; omega)⟩, ?_⟩; (try simp only [List.length_map, Int.toNat_natCast]))
      | (refine ⟨_, slc_to rfl (by first | omega | (simp only [List.length_map] at *; omega)), ?_⟩; rw [map_take'])
      | (refine ⟨_, slc_toI rfl (by omega) (by first | omega | (simp only [List.length_map] at *; omega)), ?_⟩; rw [map_take'])
      | fail)
    conv => whnf
    refine And.right (finM_nest (N := nV) (f := f) (l := l) (rm' := rm') (lim := rm') (post := S_impl_votes_copied_o.post [one (vsF l)] []) (res := c_impl_votes_copied_o.res) (Nat.le_refl rm') hA ?_ ⟨l, rfl, rfl, hsm, rfl, rfl⟩)
    exact ⟨⟨_, rfl, .inl rfl⟩, trivial⟩
/-! ### Clone -/
section
variable {H : Hp} {b k : Nat} {f : Nat → Nat} {l : List Vo}
variable {P : Program} {g : Nat} {fr : Env} {nm nx rm rm' lim : Nat} {K : KV} {xs : List (X × List (Option Nat))} {res : List Rs} {post : AV → List (Option Ob) → Prop}
theorem finM_nsame {M : Nat} (hM : M = l.length + 1) (hrm : rm' ≤ lim) (h0 : H 0 = some (nV.ob (· + 1) l)) (hf : ∀ j v, l[j]? = some v → H (j + 1) = some (nV.ob1 v)) (hres : resM (List.range (l.length + 1)) fr H res [.o .e0])
    (hpost : post (.w (.o .e0)) (nV.obs l)) :
    rm' ≤ lim ∧ ∃ (ks : List Nat) (az : List AW) (r : AV) (obs' : List (Option Ob)), resM ks fr H res az ∧ resV az = r.ren (nmap ks nx) ∧ post r obs' ∧
      ks.Nodup ∧ (∀ i, i < M → ks[i]? = some i) ∧ obs'.length = ks.length ∧
      ∀ (i k : Nat), ks[i]? = some k → (∃ ob : Ob, obs'[i]? = some (some ob) ∧ H k = some (ob.ren (nmap ks nx))) ∨ (obs'[i]? = some none ∧ H k = none) := by
  have hat : ∀ j, j < l.length + 1 → (List.range (l.length + 1))[j]? = some j := fun j hj => List.getElem?_range hj
  refine ⟨hrm, List.range (l.length + 1), _, .w (.o .e0), _, hres, rfl, hpost, List.nodup_range, fun i hi => hat i (by omega), by rw [Nest.obs_len]; simp, fun i k' hi => ?_⟩
  have hi2 : i < l.length + 1 := by
    have := (List.getElem?_eq_some_iff.1 hi).1
    simpa using this
  rw [hat i hi2] at hi
  cases hi
  left
  cases i with
  | zero => exact ⟨_, Nest.obs_at0, by rw [Nest.ob_ren (f := (· + 1)) (fun j hj => nmap_lt (hat (j + 1) (by omega)))]; exact h0⟩
  | succ j =>
    have hx := List.getElem?_eq_getElem (show j < l.length by omega)
    exact ⟨_, Nest.obs_at hx, by rw [Nest.ob1_ren]; exact hf j _ hx⟩
theorem finM_nclone {M : Nat} (hM : M = l.length + 1) (hrm : rm' ≤ lim) (h0 : H 0 = some (nV.ob (· + 1) l)) (hk : H k = some (nV.ob (· + 1) l)) (hkl : l.length < k) (hf : ∀ j v, l[j]? = some v → H (j + 1) = some (nV.ob1 v)) (hres : resM (List.range (l.length + 1) ++ [k]) fr H res [.o (.ow k)])
    (hpost : post (.w (.o (.ow (l.length + 1)))) (cloneO l)) :
    rm' ≤ lim ∧ ∃ (ks : List Nat) (az : List AW) (r : AV) (obs' : List (Option Ob)), resM ks fr H res az ∧ resV az = r.ren (nmap ks nx) ∧ post r obs' ∧
      ks.Nodup ∧ (∀ i, i < M → ks[i]? = some i) ∧ obs'.length = ks.length ∧
      ∀ (i k : Nat), ks[i]? = some k → (∃ ob : Ob, obs'[i]? = some (some ob) ∧ H k = some (ob.ren (nmap ks nx))) ∨ (obs'[i]? = some none ∧ H k = none) := by
  have hat : ∀ j, j < l.length + 1 → (List.range (l.length + 1) ++ [k])[j]? = some j := fun j hj => by rw [List.getElem?_append_left (by simpa using hj)]; exact List.getElem?_range hj
  have hate : (List.range (l.length + 1) ++ [k])[l.length + 1]? = some k := by rw [List.getElem?_append_right (by simp)]; simp
  refine ⟨hrm, List.range (l.length + 1) ++ [k], _, .w (.o (.ow (l.length + 1))), _, hres, ?_, hpost, ?_, fun i hi => hat i (by omega), by rw [cloneO_len]; simp, fun i k' hi => ?_⟩
  · show AV.w (.o (.ow k)) = AV.w (.o (.ow (nmap _ nx (l.length + 1))))
    have e : nmap (List.range (l.length + 1) ++ [k]) nx (l.length + 1) = k := nmap_lt (s := 0) hate
    rw [e]
  · rw [List.nodup_append]
    refine ⟨List.nodup_range, by simp, fun x hx y hy e => ?_⟩
    have := List.mem_range.1 hx
    simp only [List.mem_cons, List.not_mem_nil, or_false] at hy
    omega
  · left
    have hi2 : i < l.length + 2 := by
      have := (List.getElem?_eq_some_iff.1 hi).1
      simpa using this
    rcases Nat.lt_or_ge i (l.length + 1) with hlt | hge
    · rw [hat i hlt] at hi
      cases hi
      cases i with
      | zero => exact ⟨_, (cloneO_lt (by omega)).trans Nest.obs_at0, by rw [Nest.ob_ren (f := (· + 1)) (fun j hj => nmap_lt (hat (j + 1) (by omega)))]; exact h0⟩
      | succ j =>
        have hx := List.getElem?_eq_getElem (show j < l.length by omega)
        exact ⟨_, (cloneO_lt hlt).trans (Nest.obs_at hx), by rw [Nest.ob1_ren]; exact hf j _ hx⟩
    · have : i = l.length + 1 := by omega
      subst this
      rw [hate] at hi
      cases hi
      exact ⟨_, cloneO_end, by rw [Nest.ob_ren (f := (· + 1)) (fun j hj => nmap_lt (hat (j + 1) (by omega)))]; exact hk⟩
/-- What a call of Clone comes to: the old array stays. -/
theorem mq_nclone (hv : ValidM P g S_slices_Clone_VoteS_o) (hl : rm ≤ LIM) (hlen : l.length ≤ LIM) (h : nV.At H b k f l) (hb : b ≤ nm) (ha : nrmArgs fr xs = [.w (.o (.ow k))])
    (hK : ∀ (n : Nat) (H' : Hp), nm = n → nV.At H' (n + 1) n f l → (∀ i, i ≠ n → H' i = H i) → K (.w (.o (.ow n))) H' rm) : MQ P nm fr H rm K g S_slices_Clone_VoteS_o xs := by
  have hρ0 : nmapS 0 (nks k f l.length) nm 0 = k := nmap_lt (s := 0) rfl
  have hρ : ∀ j, j < l.length → nmapS 0 (nks k f l.length) nm (j + 1) = f j := fun j hj => nmap_lt (nks_at hj)
  have hρe : nmapS 0 (nks k f l.length) nm (l.length + 1) = nm := by
    have := nmap_next (s := 0) (ks := nks k f l.length) (nm := nm)
    rwa [nks_len] at this
  have hkb := h.lt
  refine ⟨⟨hv, hl, nks k f l.length, [ow0], nV.In l, h.nodup, by rw [Nest.In_len, nks_len], fun i k' hi => ?_, ?_, ⟨l, rfl, rfl, hlen⟩, fun r obs' hp _ _ => ?_⟩⟩
  · cases i with
    | zero => cases hi; exact ⟨_, rfl, by rw [show S_slices_Clone_VoteS_o.st = 0 from rfl, Nest.ob_ren (f := f) hρ]; exact h.out⟩
    | succ j =>
      have hj : j < l.length := by
        have := (List.getElem?_eq_some_iff.1 hi).1
        rw [nks_len] at this; omega
      rw [nks_at hj] at hi
      cases hi
      have hx := List.getElem?_eq_getElem hj
      exact ⟨_, Nest.In_at hx, by rw [Nest.ob1_ren]; exact h.inn j _ hx⟩
  · rw [ha]
    show [AV.w (.o (.ow (nmapS 0 _ nm 0)))] = _
    rw [hρ0]
  · obtain ⟨rfl, rfl⟩ := K_clone_o hp
    rw [show S_slices_Clone_VoteS_o.st = 0 from rfl]
    have hcase : ∀ j, j < l.length + 2 → (j = 0 ∧ nmapS 0 (nks k f l.length) nm j = k) ∨ (∃ i, i < l.length ∧ j = i + 1 ∧ nmapS 0 (nks k f l.length) nm j = f i) ∨ (j = l.length + 1 ∧ nmapS 0 (nks k f l.length) nm j = nm) := by
      intro j hj
      cases j with
      | zero => exact .inl ⟨rfl, hρ0⟩
      | succ i =>
        rcases Nat.lt_or_ge i l.length with hi | hi
        · exact .inr (.inl ⟨i, hi, rfl, hρ i hi⟩)
        · have : i = l.length := by omega
          subst this
          exact .inr (.inr ⟨rfl, hρe⟩)
    have hget := hput_at (nmapS 0 (nks k f l.length) nm) (cloneO l) 0 H (fun j j' _ h1 _ h2 e => by
      rw [cloneO_len] at h1 h2
      rcases hcase j (by omega) with ⟨rfl, e1⟩ | ⟨i, hi, rfl, e1⟩ | ⟨rfl, e1⟩ <;> rcases hcase j' (by omega) with ⟨rfl, e2⟩ | ⟨i', hi', rfl, e2⟩ | ⟨rfl, e2⟩ <;> replace e := e1.symm.trans (e.trans e2)
      · rfl
      · exact absurd e.symm (h.ne i' hi')
      · omega
      · exact absurd e (h.ne i hi)
      · rw [h.inj i i' hi hi' e]
      · have := h.lts i hi; omega
      · omega
      · have := h.lts i' hi'; omega
      · rfl)
    have e0 : (AV.w (.o (.ow nm))) = (AV.w (.o (.ow (l.length + 1)))).ren (nmapS 0 (nks k f l.length) nm) := by
      show AV.w (.o (.ow nm)) = AV.w (.o (.ow (nmapS 0 (nks k f l.length) nm (l.length + 1))))
      rw [hρe]
    have hin : ∀ j v, l[j]? = some v → hput (nmapS 0 (nks k f l.length) nm) 0 (cloneO l) H (f j) = some (nV.ob1 v) := by
      intro j v hj
      have hlt := (List.getElem?_eq_some_iff.1 hj).1
      have := hget.1 (j + 1) _ ((cloneO_lt (by omega)).trans (Nest.obs_at hj))
      rw [Nat.zero_add, hρ j (by omega)] at this
      rw [this]
      show some ((nV.ob1 v).ren _) = _
      rw [Nest.ob1_ren]
    have hou : hput (nmapS 0 (nks k f l.length) nm) 0 (cloneO l) H k = H k := by
      have := hget.1 0 _ ((cloneO_lt (by omega)).trans Nest.obs_at0)
      rw [Nat.zero_add, hρ0] at this
      rw [this, h.out]
      show some ((nV.ob (· + 1) l).ren _) = _
      rw [Nest.ob_ren (f := f) hρ]
    rw [← e0]
    refine hK nm _ rfl ⟨?_, hin, fun j hj => by have := h.lts j hj; omega, h.inj, by omega, fun j hj => by have := h.lts j hj; omega⟩ fun i hi => ?_
    · have := hget.1 (l.length + 1) _ cloneO_end
      rw [Nat.zero_add, hρe] at this
      refine this.trans ?_
      show some ((nV.ob (· + 1) l).ren _) = _
      rw [Nest.ob_ren (f := f) hρ]
    · by_cases hik : i = k
      · rw [hik]; exact hou
      · by_cases hif : ∃ j, j < l.length ∧ f j = i
        · obtain ⟨j, hj, rfl⟩ := hif
          have hx := List.getElem?_eq_getElem hj
          rw [hin j _ hx, h.inn j _ hx]
        · refine hget.2 i fun j _ hj e => ?_
          rw [cloneO_len] at hj
          rcases hcase j (by omega) with ⟨rfl, e1⟩ | ⟨q, hq, rfl, e1⟩ | ⟨rfl, e1⟩
          · exact hik (e.symm.trans e1)
          · exact hif ⟨q, hq, e1.symm.trans e⟩
          · exact hi (e.symm.trans e1)
/-- What a function ends with that puts one more behind a nest: the old array stays. -/
theorem finM_with {M n : Nat} {v : Vo} (hM : M = l.length + 1) (hrm : rm' ≤ lim) (h0 : H 0 = some (nV.ob (· + 1) l)) (hin : ∀ j v, l[j]? = some v → H (j + 1) = some (nV.ob1 v)) (hn : H n = some (itO v.c)) (hA : nV.At H b k f (l ++ [v]))
    (hf : ∀ j, j < l.length → f j = j + 1) (hfn : f l.length = n) (hln : l.length < n) (hlk : l.length < k) (hres : resM (List.range (l.length + 1) ++ [n, k]) fr H res [.o (.ow k)])
    (hpost : post (.w (.o (.ow (l.length + 2)))) (withO l v)) :
    rm' ≤ lim ∧ ∃ (ks : List Nat) (az : List AW) (r : AV) (obs' : List (Option Ob)), resM ks fr H res az ∧ resV az = r.ren (nmap ks nx) ∧ post r obs' ∧
      ks.Nodup ∧ (∀ i, i < M → ks[i]? = some i) ∧ obs'.length = ks.length ∧
      ∀ (i k : Nat), ks[i]? = some k → (∃ ob : Ob, obs'[i]? = some (some ob) ∧ H k = some (ob.ren (nmap ks nx))) ∨ (obs'[i]? = some none ∧ H k = none) := by
  have hat : ∀ j, j < l.length + 1 → (List.range (l.length + 1) ++ [n, k])[j]? = some j := fun j hj => by rw [List.getElem?_append_left (by simpa using hj)]; exact List.getElem?_range hj
  have hat1 : (List.range (l.length + 1) ++ [n, k])[l.length + 1]? = some n := by rw [List.getElem?_append_right (by simp)]; simp
  have hat2 : (List.range (l.length + 1) ++ [n, k])[l.length + 2]? = some k := by rw [List.getElem?_append_right (by simp)]; simp
  have hnk : n ≠ k := by
    have := hA.ne l.length (by simp)
    rwa [hfn] at this
  refine ⟨hrm, List.range (l.length + 1) ++ [n, k], _, .w (.o (.ow (l.length + 2))), _, hres, ?_, hpost, ?_, fun i hi => hat i (by omega), by rw [withO_len]; simp, fun i k' hi => ?_⟩
  · show AV.w (.o (.ow k)) = AV.w (.o (.ow (nmap _ nx (l.length + 2))))
    have e : nmap (List.range (l.length + 1) ++ [n, k]) nx (l.length + 2) = k := nmap_lt (s := 0) hat2
    rw [e]
  · rw [List.nodup_append]
    refine ⟨List.nodup_range, by simp [hnk], fun x hx y hy e => ?_⟩
    have := List.mem_range.1 hx
    simp only [List.mem_cons, List.not_mem_nil, or_false] at hy
    omega
  · left
    have hi2 : i < l.length + 3 := by
      have := (List.getElem?_eq_some_iff.1 hi).1
      simpa using this
    by_cases h1 : i < l.length + 1
    · rw [hat i h1] at hi
      cases hi
      cases i with
      | zero => exact ⟨_, (withO_lt (by omega)).trans Nest.obs_at0, by rw [Nest.ob_ren (f := (· + 1)) (fun j hj => nmap_lt (hat (j + 1) (by omega)))]; exact h0⟩
      | succ j =>
        have hx := List.getElem?_eq_getElem (show j < l.length by omega)
        exact ⟨_, (withO_lt h1).trans (Nest.obs_at hx), by rw [Nest.ob1_ren]; exact hin j _ hx⟩
    · by_cases h2 : i = l.length + 1
      · subst h2
        rw [hat1] at hi
        cases hi
        exact ⟨_, withO_new, by rw [hn]; exact congrArg some (arr_ren ..).symm⟩
      · have h3 : i = l.length + 2 := by omega
        subst h3
        rw [hat2] at hi
        cases hi
        refine ⟨_, withO_end, ?_⟩
        rw [Nest.ob_ren (f := f) (fun j hj => ?_)]
        · exact hA.out
        · rw [List.length_append] at hj
          simp only [List.length_cons, List.length_nil] at hj
          by_cases hj' : j < l.length
          · rw [hf j hj']; exact nmap_lt (hat (j + 1) (by omega))
          · have : j = l.length := by omega
            subst this
            rw [hfn]; exact nmap_lt hat1
end
set_option maxHeartbeats 4000000 in
set_option maxRecDepth 100000 in
theorem v_slices_Clone_VoteS_e : ValidM Try.prog n_slices_Clone_VoteS_o S_slices_Clone_VoteS_e := by
  refine validM_of_swp mixed is_slices_Clone_VoteS_o (by rintro _ _ ⟨a, rfl, _⟩; exact Nat.le_of_ble_eq_true rfl) ?_
  rintro _ _ rm ⟨l, rfl, rfl, hp0⟩ hl
  have hE1 : ∀ j v, l[j]? = some v → (nV.In l)[j + 1]? = some (nV.ob1 v) := fun j v h => Nest.In_at h
  have hlen : (nV.In l).length = l.length + 1 := Nest.In_len
  have hkl : (nV.K (· + 1) l).length = l.length := Nest.K_len
  conv => whnf
  refine ⟨trivial, hl, ?_⟩
  rintro r ⟨t, rfl, ht⟩
  conv => whnf
  cases t with
  | true =>
    have hl0 : l = [] := by
      have := ht rfl
      have h2 := congrArg List.length this
      rw [hkl] at h2
      exact List.eq_nil_of_length_eq_zero h2
    conv => whnf
    exact finM_nsame hlen (Nat.le_refl _) rfl hE1 ⟨⟨_, rfl, .inl rfl⟩, trivial⟩ ⟨l, rfl, rfl, .inl ⟨hl0, rfl, rfl⟩⟩
  | false =>
    conv => whnf
    have h0 : (fun k => (nV.In l)[k]?) 0 = some (nV.ob (· + 1) l) := rfl
    refine ⟨_, news_ow (zk h0 (by omega)), newsz_ow (zk h0 (by omega)), [], hupd_at, (by rw [hkl]; simp only [LIM] at hp0; simp only [List.length_nil]; omega), ?_⟩
    rw [List.nil_append]
    conv => whnf
    refine finM_nclone (l := l) hlen (Nat.le_refl _) (zk (zk (zk h0 (by omega)) (by omega)) (by omega)) hupd_at (by omega) (fun j v hj => ?_) ⟨⟨_, rfl, .inl rfl⟩, trivial⟩ ⟨l, rfl, rfl, .inr ⟨rfl, rfl⟩⟩
    have hj' := (List.getElem?_eq_some_iff.1 hj).1
    rw [hupd_ne (by omega), hupd_ne (by omega), hupd_ne (by omega)]; exact hE1 j v hj
theorem v_slices_Clone_VoteS_o : ValidM Try.prog n_slices_Clone_VoteS_o S_slices_Clone_VoteS_o := by
  refine valid_e0o v_slices_Clone_VoteS_e rfl (fun args obs ⟨l, h, h0, hp⟩ => ⟨l, h, h0, hp⟩) fun args obs r obs' ⟨l, h, h0, hp⟩ hq => ?_
  subst h h0
  rcases K_clone_e hq with ⟨rfl, h1, h2⟩ | ⟨h1, h2⟩
  · refine .inl ⟨h1, ty_impl_Vote, 2, [], rfl, rfl, ?_, ?_⟩
    · rw [h2, Nest.obs_len]
    · rw [h2]; rfl
  · exact .inr ⟨l, rfl, rfl, h1, h2⟩
/-! ### one more -/
section
variable {P : Program} {g : Nat} {fr : Env} {H : Hp} {nm rm : Nat} {K : KV} {xs : List (X × List (Option Nat))}
/-- A copy of a vote that is lent. -/
theorem bq_vo {v : Vo} (hv : ValidM P g S_impl_Vote_copied_o) (ha : borArgs fr H xs = [agg (voF v)]) (hf : FitV v) (hK : K (.w (.g (voK v nm))) (hupd nm (some (itO v.c)) H) rm) : BQ P nm fr H rm K g S_impl_Vote_copied_o xs := by
  refine BQ.mk1 ha hv rfl ⟨v, rfl, rfl, hf⟩ rfl (fun r obs' hp => ?_) fun r obs' hp => ?_
  · obtain ⟨rfl, rfl⟩ := K_impl_Vote_copied_o hp
    refine ⟨fun c hc => ?_, fun j ob hj => ?_⟩
    · simp only [voK, List.mem_cons, List.not_mem_nil, or_false] at hc
      rcases hc with rfl | rfl <;> trivial
    · cases j with
      | zero =>
        cases hj
        intro x hx y hy
        obtain ⟨v, rfl⟩ := itO_flat _ x hx y hy
        trivial
      | succ j => simp at hj
  · obtain ⟨rfl, rfl⟩ := K_impl_Vote_copied_o hp
    show K (.w (.g [.c (fI v.n), .ow (nmapS 0 [] nm 0)])) (hupd (nmapS 0 [] nm 0) (some ((itO v.c).ren _)) H) _
    rw [arr_ren, show nmapS 0 [] nm 0 = nm from nmap_next (ks := [])]
    exact hK
theorem bor_acX {l : List Vo} {n : Int} {x : List It ⊕ Nat} {f : Nat → Nat} (hx : okX l x) (h : ∀ i u, l[i]? = some u → H (f i) = some (nV.ob1 u)) : borV H [none, some 4] (.w (.g [cI n, acF f x])) = agg (voF ⟨n, chX l x⟩) := by
  cases x with
  | inl c => rfl
  | inr i =>
    obtain ⟨u, hu, _⟩ := hx
    show AV.w (.g [cI n, bor H (some 4) (.ow (f i))]) = _
    rw [bor_ow (h i u hu) (fcellss_f itF u.c)]
    simp only [chX, hu]; rfl
end
set_option maxHeartbeats 4000000 in
set_option maxRecDepth 100000 in
theorem v_impl_votes_with_o : ValidM Try.prog n_impl_votes_with_o S_impl_votes_with_o := by
  refine validM_of_swp mixed is_impl_votes_with_o (by rintro _ _ ⟨a, rfl, _⟩; exact Nat.le_of_ble_eq_true rfl) ?_
  rintro _ _ rm ⟨⟨l, n0, x0⟩, rfl, rfl, hx0, hp0⟩ hl
  dsimp only at hx0 hp0
  have hv := okX_fit hx0
  have hlen : (nV.In l).length = l.length + 1 := Nest.In_len
  have hlen2 : ((fun a : List Vo × Int × (List It ⊕ Nat) => nV.In a.1) (l, n0, x0)).length = l.length + 1 := Nest.In_len
  have hA0 : nV.At (fun k => (nV.In l)[k]?) (l.length + 1) 0 (· + 1) l := ⟨rfl, fun j v h => Nest.In_at h, fun j hj => by omega, fun j j' _ _ e => by omega, by omega, fun j hj => by omega⟩
  conv => whnf
  refine ⟨⟨.inr rfl, trivial⟩, ?_⟩
  conv => whnf
  refine mq_nclone (l := l) (f := (· + 1)) (k := 0) (b := l.length + 1) v_slices_Clone_VoteS_o (by exact hl) (Nat.le_trans hp0 (by decide)) (hA0.mono (Nat.le_refl _) fun i hi => hupd_ne (by show i ≠ (nV.In l).length; omega)) (by show l.length + 1 ≤ (nV.In l).length + 16 + 16 + 16; omega) (by rfl) fun n1 H1 e1 hA1 ho1 => ?_
  replace e1 : (nV.In l).length + 16 + 16 + 16 = n1 := e1
  have hs1 : ∀ j, j < l.length + 1 → H1 j = (nV.In l)[j]? := fun j hj => (ho1 j (by omega)).trans (hupd_ne (by show j ≠ (nV.In l).length; omega))
  conv => whnf
  refine ⟨_, ldc_cells ((ho1 (nV.In l).length (by omega)).trans hupd_at) (Nat.le_of_ble_eq_true rfl), ?_⟩
  conv => whnf
  refine bq_vo (v := ⟨n0, chX l x0⟩) v_impl_Vote_copied_o (congrArg (fun z => [z]) (bor_acX hx0 fun i u hu => (hs1 (i + 1) (by have := (List.getElem?_eq_some_iff.1 hu).1; omega)).trans (Nest.In_at hu))) hv ?_
  obtain ⟨v, hvv⟩ : ∃ v : Vo, v = ⟨n0, chX l x0⟩ := ⟨_, rfl⟩
  rw [← hvv]
  conv => whnf
  have hA1o := hA1.out
  refine ⟨_, news_ow hupd_at, newsz_ow hupd_at, nV.K (· + 1) l, ?_, ?_, ?_⟩
  · exact zk (zk hA1o (by omega)) (by omega)
  · rw [Nest.K_len]
    simp only [List.length_cons, List.length_nil]
    simp only [SM] at hp0
    omega
  have hS := fun H0 n0 n2 n3 b' o2 (hA : nV.At H0 n0 n1 (· + 1) l) h1 h2 h3 h4 => Nest.At.snoc (N := nV) hA (x := v) (n := n0) (n' := n3) (n2 := n2) (b' := b') (o2 := o2) h1 h2 h3 h4
  conv => whnf
  refine mq_nclip (N := nV) (f := updF (· + 1) l.length _) (l := l ++ [v]) v_slices_Clip_VoteS_o (by exact hl) (hS _ _ _ _ _ _ (hA1.mono (by omega) fun _ _ => rfl) (Nat.le_refl _) (by omega) (by omega) (Nat.lt_succ_self _)) (by omega) (by rfl) fun n5 H5 e5 hA5 ho5 => ?_
  have hu : ∀ (n0 j : Nat), updF (· + 1) l.length n0 j ≠ 0 ∨ n0 = 0 := fun n0 j => by
    unfold updF
    by_cases e : j = l.length
    · rw [if_pos e]; omega
    · rw [if_neg e]; exact .inl (Nat.succ_ne_zero _)
  have hul : ∀ (n0 j : Nat), j < l.length → updF (· + 1) l.length n0 j = j + 1 := fun n0 j hj => if_neg (by omega)
  have hue : ∀ n0 : Nat, updF (· + 1) l.length n0 l.length = n0 := fun n0 => if_pos rfl
  have hlast : (l ++ [v])[l.length]? = some v := by simp
  have hn := hA5.inn l.length v hlast
  rw [hue] at hn
  have hin : ∀ j v, l[j]? = some v → H5 (j + 1) = some (nV.ob1 v) := fun j u hj => by
    have hj' := (List.getElem?_eq_some_iff.1 hj).1
    have := hA5.inn j u (by rw [List.getElem?_append_left hj']; exact hj)
    rwa [hul _ _ hj'] at this
  have h50 : H5 0 = some (nV.ob (· + 1) l) := by
    rw [ho5 0 (by omega) ⟨by omega, fun j _ => (hu _ j).resolve_right (by omega)⟩]
    rw [hupd_ne (by omega), hupd_ne (by omega), hupd_ne (by omega), hupd_ne (by omega), hs1 0 (by omega)]
    rfl
  conv => whnf
  exact finM_with (l := l) (v := v) (k := n5) hlen2 (Nat.le_refl _) h50 hin hn hA5 (hul _) (hue _) (by omega) (by omega) ⟨⟨_, rfl, .inl rfl⟩, trivial⟩ ⟨(l, n0, x0), rfl, rfl, rfl, by rw [hvv]⟩
section
variable {H : Hp} {b k : Nat} {f : Nat → Nat} {l : List Vo} {v : Vo}
variable {P : Program} {g : Nat} {fr : Env} {nm nx rm rm' lim : Nat} {K : KV} {xs : List (X × List (Option Nat))}
theorem mq_withX {n0 : Int} {x0 : List It ⊕ Nat} (hvv : v = ⟨n0, chX l x0⟩) (hv : ValidM P g S_impl_votes_with_o) (hl : rm ≤ LIM) (hx : okX l x0) (hlen : l.length ≤ SM) (h : nV.At H b k f l) (hb : b ≤ nm) (ha : nrmArgs fr xs = [.w (.o (.ow k)), .w (.g [cI n0, acF f x0])])
    (hK : ∀ (n : Nat) (H' : Hp), nm = n → nV.At H' (n + 2) (n + 1) (updF f l.length n) (l ++ [v]) → (∀ i, i ≠ n → i ≠ n + 1 → H' i = H i) → K (.w (.o (.ow (n + 1)))) H' rm) : MQ P nm fr H rm K g S_impl_votes_with_o xs := by
  have hρ0 : nmapS 0 (nks k f l.length) nm 0 = k := nmap_lt (s := 0) rfl
  have hρ : ∀ j, j < l.length → nmapS 0 (nks k f l.length) nm (j + 1) = f j := fun j hj => nmap_lt (nks_at hj)
  have hρe : nmapS 0 (nks k f l.length) nm (l.length + 1) = nm := by
    have := nmap_next (s := 0) (ks := nks k f l.length) (nm := nm)
    rwa [nks_len] at this
  have hρg : nmapS 0 (nks k f l.length) nm (l.length + 2) = nm + 1 := by
    unfold nmapS
    rw [dif_neg (by rw [nks_len]; omega), nks_len, show l.length + 2 - (l.length + 1) = 1 by omega]; rfl
  have hkb := h.lt
  refine ⟨⟨hv, hl, nks k f l.length, [ow0, .w (.g [cI n0, acF (· + 1) x0])], nV.In l, h.nodup, by rw [Nest.In_len, nks_len], fun i k' hi => ?_, ?_, ⟨(l, n0, x0), rfl, rfl, hx, hlen⟩, fun r obs' hp _ _ => ?_⟩⟩
  · cases i with
    | zero => cases hi; exact ⟨_, rfl, by rw [show S_impl_votes_with_o.st = 0 from rfl, Nest.ob_ren (f := f) hρ]; exact h.out⟩
    | succ j =>
      have hj : j < l.length := by
        have := (List.getElem?_eq_some_iff.1 hi).1
        rw [nks_len] at this; omega
      rw [nks_at hj] at hi
      cases hi
      have hx := List.getElem?_eq_getElem hj
      exact ⟨_, Nest.In_at hx, by rw [Nest.ob1_ren]; exact h.inn j _ hx⟩
  · rw [ha]
    show [AV.w (.o (.ow (nmapS 0 _ nm 0))), AV.w (.g [cI n0, (acF (· + 1) x0).ren (nmapS 0 _ nm)])] = _
    rw [hρ0, acF_ren hx hρ]
  · obtain ⟨rfl, rfl⟩ := K_impl_votes_with_x hp
    rw [← hvv]
    rw [show S_impl_votes_with_o.st = 0 from rfl]
    have hcase : ∀ j, j < l.length + 3 → (j = 0 ∧ nmapS 0 (nks k f l.length) nm j = k) ∨ (∃ i, i < l.length ∧ j = i + 1 ∧ nmapS 0 (nks k f l.length) nm j = f i) ∨ (j = l.length + 1 ∧ nmapS 0 (nks k f l.length) nm j = nm) ∨ (j = l.length + 2 ∧ nmapS 0 (nks k f l.length) nm j = nm + 1) := by
      intro j hj
      cases j with
      | zero => exact .inl ⟨rfl, hρ0⟩
      | succ i =>
        rcases Nat.lt_or_ge i l.length with hi | hi
        · exact .inr (.inl ⟨i, hi, rfl, hρ i hi⟩)
        · by_cases e : i = l.length
          · subst e; exact .inr (.inr (.inl ⟨rfl, hρe⟩))
          · have : i = l.length + 1 := by omega
            subst this
            exact .inr (.inr (.inr ⟨rfl, hρg⟩))
    have hget := hput_at (nmapS 0 (nks k f l.length) nm) (withO l v) 0 H (fun j j' _ h1 _ h2 e => by
      rw [withO_len] at h1 h2
      rcases hcase j (by omega) with ⟨rfl, e1⟩ | ⟨i, hi, rfl, e1⟩ | ⟨rfl, e1⟩ | ⟨rfl, e1⟩ <;> rcases hcase j' (by omega) with ⟨rfl, e2⟩ | ⟨i', hi', rfl, e2⟩ | ⟨rfl, e2⟩ | ⟨rfl, e2⟩ <;> replace e := e1.symm.trans (e.trans e2)
      · rfl
      · exact absurd e.symm (h.ne i' hi')
      · omega
      · omega
      · exact absurd e (h.ne i hi)
      · rw [h.inj i i' hi hi' e]
      · have := h.lts i hi; omega
      · have := h.lts i hi; omega
      · omega
      · have := h.lts i' hi'; omega
      · rfl
      · omega
      · omega
      · have := h.lts i' hi'; omega
      · omega
      · rfl)
    have e0 : (AV.w (.o (.ow (nm + 1)))) = (AV.w (.o (.ow (l.length + 2)))).ren (nmapS 0 (nks k f l.length) nm) := by
      show AV.w (.o (.ow (nm + 1))) = AV.w (.o (.ow (nmapS 0 (nks k f l.length) nm (l.length + 2))))
      rw [hρg]
    have hin : ∀ j v', l[j]? = some v' → hput (nmapS 0 (nks k f l.length) nm) 0 (withO l v) H (f j) = some (nV.ob1 v') := by
      intro j v' hj
      have hlt := (List.getElem?_eq_some_iff.1 hj).1
      have := hget.1 (j + 1) _ ((withO_lt (by omega)).trans (Nest.obs_at hj))
      rw [Nat.zero_add, hρ j (by omega)] at this
      rw [this]
      show some ((nV.ob1 v').ren _) = _
      rw [Nest.ob1_ren]
    have hnew : hput (nmapS 0 (nks k f l.length) nm) 0 (withO l v) H nm = some (nV.ob1 v) := by
      have := hget.1 (l.length + 1) _ withO_new
      rw [Nat.zero_add, hρe] at this
      rw [this]
      show some ((nV.ob1 v).ren _) = _
      rw [Nest.ob1_ren]
    have hou : hput (nmapS 0 (nks k f l.length) nm) 0 (withO l v) H k = H k := by
      have := hget.1 0 _ ((withO_lt (by omega)).trans Nest.obs_at0)
      rw [Nat.zero_add, hρ0] at this
      rw [this, h.out]
      show some ((nV.ob (· + 1) l).ren _) = _
      rw [Nest.ob_ren (f := f) hρ]
    have hU1 : ∀ j, j < l.length → updF f l.length nm j = f j := fun j hj => if_neg (by omega)
    have hU2 : updF f l.length nm l.length = nm := if_pos rfl
    have hsp : ∀ j, j < (l ++ [v]).length → j < l.length ∨ j = l.length := fun j hj => by
      rw [List.length_append] at hj
      simp only [List.length_cons, List.length_nil] at hj; omega
    rw [← e0]
    refine hK nm _ rfl ⟨?_, fun j v' hj => ?_, fun j hj => ?_, fun j j' hj hj' e => ?_, by omega, fun j hj => ?_⟩ fun i hi hi' => ?_
    · have := hget.1 (l.length + 2) _ withO_end
      rw [Nat.zero_add, hρg] at this
      refine this.trans ?_
      show some ((nV.ob (· + 1) (l ++ [v])).ren _) = _
      rw [Nest.ob_ren (f := updF f l.length nm) (fun j hj => ?_)]
      rcases hsp j hj with e | rfl
      · rw [hU1 j e]; exact hρ j e
      · rw [hU2]; exact hρe
    · rcases hsp j (List.getElem?_eq_some_iff.1 hj).1 with e | rfl
      · rw [hU1 j e]
        rw [List.getElem?_append_left e] at hj
        exact hin j v' hj
      · rw [hU2]
        simp only [List.getElem?_append_right (Nat.le_refl _), Nat.sub_self, List.getElem?_cons_zero, Option.some.injEq] at hj
        subst hj; exact hnew
    · rcases hsp j hj with e | rfl
      · rw [hU1 j e]; have := h.lts j e; omega
      · rw [hU2]; omega
    · rcases hsp j hj with q | rfl <;> rcases hsp j' hj' with q' | rfl
      · rw [hU1 j q, hU1 j' q'] at e; exact h.inj j j' q q' e
      · rw [hU1 j q, hU2] at e; have := h.lts j q; omega
      · rw [hU2, hU1 j' q'] at e; have := h.lts j' q'; omega
      · rfl
    · rcases hsp j hj with e | rfl
      · rw [hU1 j e]; have := h.lts j e; omega
      · rw [hU2]; omega
    · by_cases hik : i = k
      · rw [hik]; exact hou
      · by_cases hif : ∃ j, j < l.length ∧ f j = i
        · obtain ⟨j, hj, rfl⟩ := hif
          have hx := List.getElem?_eq_getElem hj
          rw [hin j _ hx, h.inn j _ hx]
        · refine hget.2 i fun j _ hj e => ?_
          rw [withO_len] at hj
          rcases hcase j (by omega) with ⟨rfl, e1⟩ | ⟨q, hq, rfl, e1⟩ | ⟨rfl, e1⟩ | ⟨rfl, e1⟩
          · exact hik (e.symm.trans e1)
          · exact hif ⟨q, hq, e1.symm.trans e⟩
          · exact hi (e.symm.trans e1)
          · exact hi' (e.symm.trans e1)
theorem mq_with (hv : ValidM P g S_impl_votes_with_o) (hl : rm ≤ LIM) (hfit : FitV v) (hlen : l.length ≤ SM) (h : nV.At H b k f l) (hb : b ≤ nm) (ha : nrmArgs fr xs = [.w (.o (.ow k)), agg (voF v)])
    (hK : ∀ (n : Nat) (H' : Hp), nm = n → nV.At H' (n + 2) (n + 1) (updF f l.length n) (l ++ [v]) → (∀ i, i ≠ n → i ≠ n + 1 → H' i = H i) → K (.w (.o (.ow (n + 1)))) H' rm) : MQ P nm fr H rm K g S_impl_votes_with_o xs :=
  mq_withX (v := v) (n0 := v.n) (x0 := .inl v.c) rfl hv hl hfit hlen h hb ha hK
end
end Av
end Go.Proofs.Ytdboofnogabefaa
