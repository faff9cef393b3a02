/- The walks: drawn votes. -/
import Derived.Test.YtmboljfckljjhaaK2
set_option linter.unusedVariables false
set_option linter.unusedSimpArgs false
namespace Go.Proofs.Ytmboljfckljjhaa
namespace Av
open Go.RowKit

theorem cost_Votes : S_spec_l71Votes.cost = 5000 := rfl
theorem cost_Add : S_spec_l3Add.cost = 0 := rfl
theorem cost_ChainOk : S_spec_ChainOk.cost = 0 := rfl

set_option maxRecDepth 100000 in
theorem vO_spec_l1Copy : ValidM Try.prog n_spec_l1Copy SO_spec_l1Copy.toM := by
  refine validM_of_swp mixed is_spec_l1Copy (by rintro _ _ ⟨_, a, rfl, _⟩; exact Nat.le_of_ble_eq_true rfl) ?_
  rintro _ _ rm ⟨rfl, c, rfl, hpre⟩ hl
  change swp _ _ _ _ _ 0 _
  repeat' ((conv => whnf); first
    | refine ⟨_, rfl, ?_⟩
    | refine ⟨rfl, ?_⟩
    | refine ⟨_, _, rfl, at_map (by assumption), ?_⟩
    | refine idx_mapX (i := 0) rfl (by assumption) ?_
    | refine idx_map (by omega) (fun x hx => ?_)
    | refine idx_mapX (wrap_dn (by omega) (by omega)) (by assumption) ?_
    | refine idx_mapE (wrap_dn (by omega) (by omega)) (by omega) (fun x hx => ?_)
    | refine idx_mapL (by omega) (by first | assumption | (simp only [LIM]; omega)) (fun x hx => ?_)
    | refine idx_mapI (by omega) (by first | omega | (simp only [List.length_map] at *; omega)) (fun x hx => ?_)
    | refine ⟨_, ldc_cells hupd_at (Nat.le_of_ble_eq_true rfl), ?_⟩
    | refine ⟨_, ldc_cells (by first | assumption | exact zk ‹_› (by omega) | exact zk (zk ‹_› (by omega)) (by omega)) (Nat.le_of_ble_eq_true rfl), ?_⟩
    | refine ⟨_, _, hupd_at, rfl, rfl, Nat.le_of_ble_eq_true rfl, ?_⟩
    | refine ⟨_, _, rfl, rfl, rfl, Nat.le_of_ble_eq_true rfl, ?_⟩
    | (refine ⟨?_, _, (?_ : (_ : Option Ob) = _), rfl, rfl, ?_, ?_⟩; rotate_left; (exact hk_); exact Nat.le_of_ble_eq_true rfl)
    | refine ⟨_, _, _, _, ((by exact hk_) : (_ : Option Ob) = _), rfl, at_mapA (by assumption), ?_⟩
    | refine idx_ow (by exact hk_) (by omega) (fun x hx => ?_)
    | refine ⟨_, _, _, _, ((by exact hk_) : (_ : Option Ob) = _), rfl, fill_at (by omega), ?_⟩
    | refine ⟨_, _, _, _, ((by exact hk_) : (_ : Option Ob) = _), fill_at (by omega), rfl, rfl, Nat.le_of_ble_eq_true rfl, ?_⟩
    | refine idx_owL (by exact hk_) (by omega) (by simp only [LIM]; omega) (fun x hx => ?_)
    | refine idx_owI (by exact hk_) (by omega) (by first | omega | (simp only [List.length_map] at *; omega)) (fun x hx => ?_)
    | refine ⟨_, _, _, _, ((by exact hk_) : (_ : Option Ob) = _), at_mapA (by assumption), rfl, rfl, Nat.le_of_ble_eq_true rfl, ?_⟩
    | refine ⟨_, ldc_pa (by exact hk_) (at_mapA (by assumption)) (Nat.le_of_ble_eq_true rfl), ?_⟩
    | refine ⟨_, rfl, rfl, _, ((by exact hk_) : (_ : Option Ob) = _), (by exact ap_), ?_⟩
    | refine ⟨_, news_ow hupd_at, newsz_ow hupd_at, _, ((by exact hk_) : (_ : Option Ob) = _), (by exact ap_), ?_⟩
    | refine ⟨_, _, _, ((by exact hk_) : (_ : Option Ob) = _), ?_⟩
    | refine ⟨_, ((by exact hk_) : (_ : Option Ob) = _), ?_⟩
    | refine ⟨(show _ ≠ _ from (by first | decide | omega)), ?_⟩
    | refine ⟨(show _ ≤ _ from (by exact ap_)), ?_⟩
    | (refine ⟨fun hc => ?_, fun hc => ?_⟩ <;> (try simp (disch := omega) only [List.length_map, wrap64] at hc))
    | (refine ⟨⟨(by omega), (by omega), (by simp only [List.length_map] at *; simp only [LIM] at *; omega), (by simp only [List.length_map] at *; simp only [LIM] at *; omega)⟩, ?_⟩; (try simp only [List.length_map, Int.toNat_natCast]))
    | (refine ⟨_, slc_to rfl (by first | omega | (simp only [List.length_map] at *; omega)), ?_⟩; rw [map_take'])
    | (refine ⟨_, slc_toI rfl (by omega) (by first | omega | (simp only [List.length_map] at *; omega)), ?_⟩; rw [map_take'])
    | fail)
  conv => whnf
  exact finM_new (F := itF) (T := ty_impl_Item) (sz := 4) (l := c) (by first | exact Nat.le_refl _ | omega) (hupd_at.trans (by simp [arA])) ⟨⟨_, rfl, .inl rfl⟩, trivial⟩ ⟨rfl, rfl, by rw [so_spec_l1Copy]⟩

attribute [local irreducible] Valid ValidM
set_option maxHeartbeats 4000000 in
set_option maxRecDepth 100000 in
theorem v_spec_l71Votes : ValidM Try.prog n_spec_l71Votes S_spec_l71Votes := by
  refine validM_of_swp mixed is_spec_l71Votes (by rintro _ _ ⟨a, rfl, _⟩; exact Nat.le_of_ble_eq_true rfl) ?_
  rintro _ _ rm ⟨b, rfl, rfl, hpre⟩ hl
  try dsimp only at hpre
  change swp _ _ _ _ _ 1 _
  have h1 := cost_pick
  have h2 := cost_Pay
  have h3 := cost_Chain
  have h4 := cost_Two
  have h5 := cost_Votes
  have h6 := cost_Add
  have h8 := cost_ChainOk
  repeat' ((conv => whnf); first
    | refine ⟨_, rfl, ?_⟩
    | refine ⟨rfl, ?_⟩
    | refine ⟨_, _, rfl, at_map (by assumption), ?_⟩
    | refine idx_mapX (i := 0) rfl (by assumption) ?_
    | refine idx_map (by omega) (fun x hx => ?_)
    | refine idx_mapX (wrap_dn (by omega) (by omega)) (by assumption) ?_
    | refine idx_mapE (wrap_dn (by omega) (by omega)) (by omega) (fun x hx => ?_)
    | refine idx_mapL (by omega) (by first | assumption | (simp only [LIM]; omega)) (fun x hx => ?_)
    | refine idx_mapI (by omega) (by first | omega | (simp only [List.length_map] at *; omega)) (fun x hx => ?_)
    | refine ⟨_, ldc_cells hupd_at (Nat.le_of_ble_eq_true rfl), ?_⟩
    | refine ⟨_, ldc_cells (by first | assumption | exact zk ‹_› (by omega) | exact zk (zk ‹_› (by omega)) (by omega)) (Nat.le_of_ble_eq_true rfl), ?_⟩
    | refine ⟨_, _, _, _, ((by exact hk_) : (_ : Option Ob) = _), rfl, at_mapA (by assumption), ?_⟩
    | refine idx_ow (by exact hk_) (by omega) (fun x hx => ?_)
    | refine ⟨_, _, _, _, ((by exact hk_) : (_ : Option Ob) = _), rfl, fill_at (by omega), ?_⟩
    | refine idx_owL (by exact hk_) (by omega) (by simp only [LIM]; omega) (fun x hx => ?_)
    | refine idx_owI (by exact hk_) (by omega) (by first | omega | (simp only [List.length_map] at *; omega)) (fun x hx => ?_)
    | refine ⟨_, ldc_pa (by exact hk_) (at_mapA (by assumption)) (Nat.le_of_ble_eq_true rfl), ?_⟩
    | refine ⟨_, rfl, rfl, _, ((by exact hk_) : (_ : Option Ob) = _), (by exact ap_), ?_⟩
    | refine ⟨_, news_ow hupd_at, newsz_ow hupd_at, _, ((by exact hk_) : (_ : Option Ob) = _), (by exact ap_), ?_⟩
    | refine ⟨_, _, _, ((by exact hk_) : (_ : Option Ob) = _), ?_⟩
    | refine ⟨_, ((by exact hk_) : (_ : Option Ob) = _), ?_⟩
    | refine ⟨(show _ ≤ _ from (by exact ap_)), ?_⟩
    | (refine ⟨fun hc => ?_, fun hc => ?_⟩ <;> (try simp (disch := omega) only [List.length_map, wrap64] at hc))
    | (refine ⟨_, slc_to rfl (by first | omega | (simp only [List.length_map] at *; omega)), ?_⟩; rw [map_take'])
    | (refine ⟨_, slc_toI rfl (by omega) (by first | omega | (simp only [List.length_map] at *; omega)), ?_⟩; rw [map_take'])
    | (refine mq_rd (F := itF) (Q := fun c => c.length ≤ 6) v_spec_l71Chain (by omega) (by exact hk_) rfl ⟨_, rfl, rfl, (by assumption)⟩ (fun r obs' h => rdItM_post h) (fun c hc => ?_))
    | (refine .inl ⟨_, _, _, _, _, rfl, (by exact hk_), fcellss_f itF _, .inr ?_⟩)
    | (refine callrd (by exact hk_) rfl rfl ⟨(_, _), rfl, (by exact pr_)⟩ v_spec_l6Rd_pick (by omega) (fun r hr => ?_); have hj := K_spec_l6Rd_pick (a := (_, _)) hr; clear hr; obtain ⟨k, rfl, hk0, hk1⟩ := hj; dsimp only at hk1; (try simp (disch := omega) only [List.length_map, ncast, wrap64] at hk1))
    | fail)
  have hw1 : IntKind.i64.wrap (1 + k) = 1 + k := by rw [wrap64] <;> omega
  conv => whnf
  refine ⟨fun fr H nx r2 => ∃ (n : Int) (ko : Nat) (l : List Vo) (c : List It), Has fr [(0, pt0), (3, .w (.o (.ow ko))), (4, one (chF c)), (5, I n)] ∧ 0 ≤ n ∧ c.length ≤ 16 ∧ (l.length : Int) + 64 * n ≤ 192 ∧ (∀ v, v ∈ l → v.c.length ≤ 16) ∧
      H ko = some (voO l) ∧ 1 ≤ ko ∧ ko < nx ∧ H 0 = some (rdO b) ∧ (r2 : Int) + 1000 * n ≤ rm + 3200,
    fun fr _ _ _ => ix (fr 5), ⟨1 + k, _, [], c, ⟨rfl, rfl, rfl, congrArg I hw1, trivial⟩, by omega, by omega, (by show (0 : Int) + 64 * (1 + k) ≤ 192; omega), (fun v h => by cases h), ne_, ln_, ln_, ne_, by omega⟩, ?_⟩
  rintro fr H nx r2 ⟨n, ko, l, c, hfr, hn, hc16, hl192, hlv, hko, hko1, hkon, hH, hrm⟩
  rw [hfr.eq]
  have hwn : 0 < n → IntKind.i64.wrap (n - 1) = n - 1 := fun h => by rw [wrap64] <;> omega
  have hcL : c.length ≤ LIM := by simp only [LIM]; omega
  repeat' ((conv => whnf); first
    | refine ⟨_, rfl, ?_⟩
    | refine ⟨rfl, ?_⟩
    | refine ⟨_, _, rfl, at_map (by assumption), ?_⟩
    | refine idx_mapX (i := 0) rfl (by assumption) ?_
    | refine idx_map (by omega) (fun x hx => ?_)
    | refine idx_mapX (wrap_dn (by omega) (by omega)) (by assumption) ?_
    | refine idx_mapE (wrap_dn (by omega) (by omega)) (by omega) (fun x hx => ?_)
    | refine idx_mapL (by omega) (by first | assumption | (simp only [LIM]; omega)) (fun x hx => ?_)
    | refine idx_mapI (by omega) (by first | omega | (simp only [List.length_map] at *; omega)) (fun x hx => ?_)
    | refine ⟨_, ldc_cells hupd_at (Nat.le_of_ble_eq_true rfl), ?_⟩
    | refine ⟨_, ldc_cells (by first | assumption | exact zk ‹_› (by omega) | exact zk (zk ‹_› (by omega)) (by omega)) (Nat.le_of_ble_eq_true rfl), ?_⟩
    | refine ⟨_, _, _, _, ((by exact hk_) : (_ : Option Ob) = _), rfl, at_mapA (by assumption), ?_⟩
    | refine idx_ow (by exact hk_) (by omega) (fun x hx => ?_)
    | refine ⟨_, _, _, _, ((by exact hk_) : (_ : Option Ob) = _), rfl, fill_at (by omega), ?_⟩
    | refine idx_owL (by exact hk_) (by omega) (by simp only [LIM]; omega) (fun x hx => ?_)
    | refine idx_owI (by exact hk_) (by omega) (by first | omega | (simp only [List.length_map] at *; omega)) (fun x hx => ?_)
    | refine ⟨_, ldc_pa (by exact hk_) (at_mapA (by assumption)) (Nat.le_of_ble_eq_true rfl), ?_⟩
    | refine ⟨_, rfl, rfl, _, ((by exact hk_) : (_ : Option Ob) = _), (by exact ap_), ?_⟩
    | refine ⟨_, news_ow hupd_at, newsz_ow hupd_at, _, ((by exact hk_) : (_ : Option Ob) = _), (by exact ap_), ?_⟩
    | refine ⟨_, _, _, ((by exact hk_) : (_ : Option Ob) = _), ?_⟩
    | refine ⟨_, ((by exact hk_) : (_ : Option Ob) = _), ?_⟩
    | refine ⟨(show _ ≤ _ from (by exact ap_)), ?_⟩
    | (refine ⟨fun hc => ?_, fun hc => ?_⟩ <;> (try simp (disch := omega) only [List.length_map, wrap64] at hc))
    | (refine ⟨_, slc_to rfl (by first | omega | (simp only [List.length_map] at *; omega)), ?_⟩; rw [map_take'])
    | (refine ⟨_, slc_toI rfl (by omega) (by first | omega | (simp only [List.length_map] at *; omega)), ?_⟩; rw [map_take'])
    | (exact finM_rd (by omega) hH hko hko1 ⟨⟨_, rfl, .inl rfl⟩, trivial⟩ ⟨b, rfl, rfl, l, rfl, rfl, (by omega), hlv⟩)
    | fail)
  conv => whnf
  refine ⟨fun fr H nx r3 => ∃ (i k1 : Nat) (l1 : List Vo), Has fr [(0, pt0), (3, .w (.o (.ow k1))), (4, one (chF c)), (5, I n), (6, I ((i + 1 : Nat) : Int))] ∧ i ≤ c.length ∧ (l1.length : Int) + 64 * n ≤ 192 + 4 * i ∧ (∀ v, v ∈ l1 → v.c.length ≤ 16) ∧
      H k1 = some (voO l1) ∧ 1 ≤ k1 ∧ k1 < nx ∧ H 0 = some (rdO b) ∧ (r3 : Int) ≤ r2 + 4 * i,
    fun fr _ _ _ => c.length + 1 - ix (fr 6), ⟨0, ko, l, ⟨rfl, rfl, rfl, rfl, rfl, trivial⟩, Nat.zero_le _, by omega, hlv, hko, hko1, by omega, hH, by omega⟩, ?_⟩
  rintro fr H nx r3 ⟨i, k1, l1, hfr, hi, hl1, hlv1, hk1', hk11, hk1n, hH, hr3⟩
  rw [hfr.eq]
  repeat' ((conv => whnf); first
    | refine ⟨_, rfl, ?_⟩
    | refine ⟨rfl, ?_⟩
    | refine ⟨_, _, rfl, at_map (by assumption), ?_⟩
    | refine idx_mapX (i := 0) rfl (by assumption) ?_
    | refine idx_map (by omega) (fun x hx => ?_)
    | refine idx_mapX (wrap_dn (by omega) (by omega)) (by assumption) ?_
    | refine idx_mapE (wrap_dn (by omega) (by omega)) (by omega) (fun x hx => ?_)
    | refine idx_mapL (by omega) (by first | assumption | (simp only [LIM]; omega)) (fun x hx => ?_)
    | refine idx_mapI (by omega) (by first | omega | (simp only [List.length_map] at *; omega)) (fun x hx => ?_)
    | refine ⟨_, ldc_cells hupd_at (Nat.le_of_ble_eq_true rfl), ?_⟩
    | refine ⟨_, ldc_cells (by first | assumption | exact zk ‹_› (by omega) | exact zk (zk ‹_› (by omega)) (by omega)) (Nat.le_of_ble_eq_true rfl), ?_⟩
    | refine ⟨_, _, _, _, ((by exact hk_) : (_ : Option Ob) = _), rfl, at_mapA (by assumption), ?_⟩
    | refine idx_ow (by exact hk_) (by omega) (fun x hx => ?_)
    | refine ⟨_, _, _, _, ((by exact hk_) : (_ : Option Ob) = _), rfl, fill_at (by omega), ?_⟩
    | refine idx_owL (by exact hk_) (by omega) (by simp only [LIM]; omega) (fun x hx => ?_)
    | refine idx_owI (by exact hk_) (by omega) (by first | omega | (simp only [List.length_map] at *; omega)) (fun x hx => ?_)
    | refine ⟨_, ldc_pa (by exact hk_) (at_mapA (by assumption)) (Nat.le_of_ble_eq_true rfl), ?_⟩
    | refine ⟨_, rfl, rfl, _, ((by exact hk_) : (_ : Option Ob) = _), (by exact ap_), ?_⟩
    | refine ⟨_, news_ow hupd_at, newsz_ow hupd_at, _, ((by exact hk_) : (_ : Option Ob) = _), (by exact ap_), ?_⟩
    | refine ⟨_, _, _, ((by exact hk_) : (_ : Option Ob) = _), ?_⟩
    | refine ⟨_, ((by exact hk_) : (_ : Option Ob) = _), ?_⟩
    | refine ⟨(show _ ≤ _ from (by exact ap_)), ?_⟩
    | (refine ⟨fun hc => ?_, fun hc => ?_⟩ <;> (try simp (disch := omega) only [List.length_map, wrap64] at hc))
    | (refine ⟨_, slc_to rfl (by first | omega | (simp only [List.length_map] at *; omega)), ?_⟩; rw [map_take'])
    | (refine ⟨_, slc_toI rfl (by omega) (by first | omega | (simp only [List.length_map] at *; omega)), ?_⟩; rw [map_take'])
    | (refine callrd (by exact hk_) rfl rfl ⟨_, rfl, (by exact pr_)⟩ v_spec_l71Two (by omega) (fun r hr => ?_); have hj := K_spec_l71Two (a := _) hr; clear hr; obtain ⟨c2, d2, rfl, hc2, hd2⟩ := hj)
    | (refine callrd (by exact hk_) rfl rfl ⟨(_, _), rfl, (by exact pr_)⟩ v_spec_l6Rd_pick (by omega) (fun r hr => ?_); have hj := K_spec_l6Rd_pick (a := (_, _)) hr; clear hr; obtain ⟨k, rfl, hk0, hk1⟩ := hj; dsimp only at hk1; (try simp (disch := omega) only [List.length_map, ncast, wrap64] at hk1))
    | (refine callrd (by exact hk_) rfl rfl ⟨_, rfl, (by exact pr_)⟩ v_spec_l71Pay (by omega) (fun r hr => ?_); have hj := K_spec_l71Pay (a := _) hr; clear hr; obtain ⟨p, rfl⟩ := hj)
    | (refine OQ.mk1 (ar := [one (chF _)]) rfl ⟨_, rfl, (by first | assumption | (simp only [LIM, List.length_take] at *; omega))⟩ vO_spec_l1Copy (so_spec_l1Copy _) ?_)
    | (refine .inl ⟨_, _, _, _, _, rfl, (by exact hk_), fcellss_f itF _, .inr ?_⟩)
    | (refine callt (b := [one (chF _)]) v_spec_ChainOk rfl ⟨_, rfl, (by exact pr_)⟩ (.inl rfl) (by first | assumption | omega) (fun r hr => K_spec_ChainOk (a := _) hr) (fun hj => ?_) (fun hj => ?_) <;> (try simp only [etaPa, etaIt, etaVo] at hj))
    | (refine .inl ⟨_, ty_impl_Item, 4, arA itF (c.take _ ++ [⟨_, p⟩]), _, rfl, hupd_at.trans (arr_snoc rfl), fcellss_f itF _, .inr ?_⟩)
    | refine .inr ?_
    | (refine ⟨⟨n - 1, _, l1, c, ⟨rfl, rfl, rfl, congrArg I (hwn (by omega)), trivial⟩, (by omega), (by omega), (by omega), hlv1, hk_, (by omega), ln_, ne_, (by omega)⟩, (by show ix (I _) < ix (I _); rw [hwn (by omega)]; simp only [ix]; omega)⟩)
    | (refine ⟨⟨n - 1, _, l1, _, ⟨rfl, rfl, rfl, congrArg I (hwn (by omega)), trivial⟩, (by omega), hj.2, (by omega), hlv1, hk_, (by omega), ln_, ne_, (by omega)⟩, (by show ix (I _) < ix (I _); rw [hwn (by omega)]; simp only [ix]; omega)⟩)
    | fail)
  conv => whnf
  refine ⟨fun fr H nx r4 => ∃ (q k2 : Nat) (l2 : List Vo), Has fr [(0, pt0), (3, .w (.o (.ow k2))), (4, one (chF c)), (5, I n), (6, I ((i + 1 : Nat) : Int)), (7, I ((q + 1 : Nat) : Int))] ∧ q ≤ 4 ∧ (l2.length : Int) + 64 * n ≤ 192 + 4 * i + q ∧ (∀ v, v ∈ l2 → v.c.length ≤ 16) ∧
      H k2 = some (voO l2) ∧ 1 ≤ k2 ∧ k2 < nx ∧ H 0 = some (rdO b) ∧ (r4 : Int) ≤ r2 + 4 * i + q,
    fun fr _ _ _ => 5 - ix (fr 7), ⟨0, k1, l1, ⟨rfl, rfl, rfl, rfl, rfl, rfl, trivial⟩, Nat.zero_le _, by omega, hlv1, hk1', hk11, by omega, hH, by omega⟩, ?_⟩
  rintro fr H nx r4 ⟨q, k2, l2, hfr, hq4, hl2, hlv2, hk2, hk21, hk2n, hH, hr4⟩
  rw [hfr.eq]
  have hfit : FitVs l2 := ⟨by simp only [LIM]; omega, fun v hv => Nat.le_trans (hlv2 v hv) (by decide)⟩
  have hfv : ∀ z : Int, FitV ⟨z, c.take (i + 1)⟩ := fun z => by show (c.take (i + 1)).length ≤ LIM; simp only [List.length_take, LIM]; omega
  have hflt : l2.length < LIM := by simp only [LIM]; omega
  have hlv3 : ∀ v, v ∈ l2 ++ [(⟨((q + 1 : Nat) : Int), c.take (i + 1)⟩ : Vo)] → v.c.length ≤ 16 := by
    intro v hv
    rcases List.mem_append.1 hv with hv | hv
    · exact hlv2 v hv
    · rw [List.mem_singleton.1 hv]; simp only [List.length_take]; omega
  repeat' ((conv => whnf); first
    | refine ⟨_, rfl, ?_⟩
    | refine ⟨rfl, ?_⟩
    | refine ⟨_, _, rfl, at_map (by assumption), ?_⟩
    | refine idx_mapX (i := 0) rfl (by assumption) ?_
    | refine idx_map (by omega) (fun x hx => ?_)
    | refine idx_mapX (wrap_dn (by omega) (by omega)) (by assumption) ?_
    | refine idx_mapE (wrap_dn (by omega) (by omega)) (by omega) (fun x hx => ?_)
    | refine idx_mapL (by omega) (by first | assumption | (simp only [LIM]; omega)) (fun x hx => ?_)
    | refine idx_mapI (by omega) (by first | omega | (simp only [List.length_map] at *; omega)) (fun x hx => ?_)
    | refine ⟨_, ldc_cells hupd_at (Nat.le_of_ble_eq_true rfl), ?_⟩
    | refine ⟨_, ldc_cells (by first | assumption | exact zk ‹_› (by omega) | exact zk (zk ‹_› (by omega)) (by omega)) (Nat.le_of_ble_eq_true rfl), ?_⟩
    | refine ⟨_, _, _, _, ((by exact hk_) : (_ : Option Ob) = _), rfl, at_mapA (by assumption), ?_⟩
    | refine idx_ow (by exact hk_) (by omega) (fun x hx => ?_)
    | refine ⟨_, _, _, _, ((by exact hk_) : (_ : Option Ob) = _), rfl, fill_at (by omega), ?_⟩
    | refine idx_owL (by exact hk_) (by omega) (by simp only [LIM]; omega) (fun x hx => ?_)
    | refine idx_owI (by exact hk_) (by omega) (by first | omega | (simp only [List.length_map] at *; omega)) (fun x hx => ?_)
    | refine ⟨_, ldc_pa (by exact hk_) (at_mapA (by assumption)) (Nat.le_of_ble_eq_true rfl), ?_⟩
    | refine ⟨_, rfl, rfl, _, ((by exact hk_) : (_ : Option Ob) = _), (by exact ap_), ?_⟩
    | refine ⟨_, news_ow hupd_at, newsz_ow hupd_at, _, ((by exact hk_) : (_ : Option Ob) = _), (by exact ap_), ?_⟩
    | refine ⟨_, _, _, ((by exact hk_) : (_ : Option Ob) = _), ?_⟩
    | refine ⟨_, ((by exact hk_) : (_ : Option Ob) = _), ?_⟩
    | refine ⟨(show _ ≤ _ from (by exact ap_)), ?_⟩
    | (refine ⟨fun hc => ?_, fun hc => ?_⟩ <;> (try simp (disch := omega) only [List.length_map, wrap64] at hc))
    | (refine ⟨_, slc_to rfl (by first | omega | (simp only [List.length_map] at *; omega)), ?_⟩; rw [map_take'])
    | (refine ⟨_, slc_toI rfl (by omega) (by first | omega | (simp only [List.length_map] at *; omega)), ?_⟩; rw [map_take'])
    | (refine callrd (by exact hk_) rfl rfl ⟨(_, _), rfl, (by exact pr_)⟩ v_spec_l6Rd_pick (by omega) (fun r hr => ?_); have hj := K_spec_l6Rd_pick (a := (_, _)) hr; clear hr; obtain ⟨k, rfl, hk0, hk1⟩ := hj; dsimp only at hk1; (try simp (disch := omega) only [List.length_map, ncast, wrap64] at hk1))
    | (refine mq_add (F := voF) (Q0 := True) (Q1 := True) (l := l2) (l' := l2 ++ [⟨((q + 1 : Nat) : Int), c.take (i + 1)⟩]) (fs := voF ⟨((q + 1 : Nat) : Int), c.take (i + 1)⟩) v_spec_l3Add (by omega) hk_ rfl ⟨(l2, ⟨((q + 1 : Nat) : Int), c.take (i + 1)⟩), rfl, rfl, hfit, hfv _, hflt⟩ (fun r obs' h => by rcases K_spec_l3Add h with ⟨_, h1, h2⟩ | ⟨_, h1, h2⟩; exact .inl ⟨h1, h2, True.intro⟩; exact .inr ⟨h1, h2, True.intro⟩) (fun _ => ?_) (fun _ => ?_))
    | (refine ⟨⟨q + 1, _, l2, ⟨rfl, rfl, rfl, rfl, rfl, congrArg I (wrap_up1 (n := 4) (by omega) (by decide)), trivial⟩, (by omega), (by omega), hlv2, hk_, (by omega), ln_, ne_, (by omega)⟩, (by show 5 - ix (I _) < 5 - ix (I _); simp only [wrap_up1 (n := 4) (i := q) (by omega) (by decide), ix, Int.toNat_natCast]; omega)⟩)
    | (refine ⟨⟨q + 1, _, l2 ++ [⟨((q + 1 : Nat) : Int), c.take (i + 1)⟩], ⟨rfl, rfl, rfl, rfl, rfl, congrArg I (wrap_up1 (n := 4) (by omega) (by decide)), trivial⟩, (by omega), (by simp only [List.length_append, List.length_cons, List.length_nil]; omega), hlv3, hupd_at, (by omega), ln_, ne_, (by omega)⟩, (by show 5 - ix (I _) < 5 - ix (I _); simp only [wrap_up1 (n := 4) (i := q) (by omega) (by decide), ix, Int.toNat_natCast]; omega)⟩)
    | (refine ⟨⟨i + 1, _, l2, ⟨rfl, rfl, rfl, rfl, congrArg I (wrap_up1 (n := c.length) (by omega) hcL), trivial⟩, (by omega), (by omega), hlv2, hk_, (by omega), ln_, ne_, (by omega)⟩, (by show c.length + 1 - ix (I _) < c.length + 1 - ix (I _); simp only [wrap_up1 (n := c.length) (i := i) (by omega) hcL, ix, Int.toNat_natCast]; omega)⟩)
    | fail)

end Av
end Go.Proofs.Ytmboljfckljjhaa
