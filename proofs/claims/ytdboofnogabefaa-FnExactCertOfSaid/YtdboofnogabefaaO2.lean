/- The walks: chains of one's own. -/
import Derived.Test.YtdboofnogabefaaO1
import Derived.Test.YtdboofnogabefaaFC
import Derived.Test.YtdboofnogabefaaT2
import Derived.Test.YtdboofnogabefaaG3
import Derived.Test.YtdboofnogabefaaW0
set_option linter.unusedVariables false
set_option linter.unusedSimpArgs false
namespace Go.Proofs.Ytdboofnogabefaa
namespace Av
open Go.RowKit
attribute [local irreducible] Valid ValidM
end Av
end Go.Proofs.Ytdboofnogabefaa
/- The walks: the laws' copies that are written later. -/
namespace Go.Proofs.Ytdboofnogabefaa
namespace Av
open Go.RowKit
set_option maxHeartbeats 4000000 in
set_option maxRecDepth 100000 in
theorem v_laws_toItemS_o : ValidM Try.prog n_laws_toItemS_o S_laws_toItemS_o := by
  refine validM_of_swp mixed is_laws_toItemS_o (by rintro _ _ ⟨a, rfl, _⟩; exact Nat.le_of_ble_eq_true rfl) ?_
  rintro _ _ rm ⟨c, rfl, rfl, hpre⟩ hl
  try dsimp only at hpre
  change swp _ _ _ _ _ 0 _
  have hp1 := hpre
  repeat' ((conv => whnf); first
    | refine ⟨_, rfl, ?_⟩
    | refine ⟨rfl, ?_⟩
    | refine ⟨_, _, rfl, at_map (by assumption), ?_⟩
    | refine idx_mapX (i := 0) rfl (by assumption) ?_
    | refine idx_map (by omega) (fun x hx => ?_)
    | refine idx_mapX (wrap_dn (by omega) (by omega)) (by assumption) ?_
    | refine idx_mapE (wrap_dn (by omega) (by omega)) (by omega) (fun x hx => ?_)
    | refine idx_mapL (by omega) (by first | assumption | (simp only [LIM]; omega)) (fun x hx => ?_)
    | refine idx_mapI (by omega) (by first | omega | (simp only [List.length_map] at *; omega)) (fun x hx => ?_)
    | refine ⟨_, ldc_cells hupd_at (Nat.le_of_ble_eq_true rfl), ?_⟩
    | refine ⟨_, ldc_cells (by first | assumption | exact zk ‹_› (by omega) | exact zk (zk ‹_› (by omega)) (by omega)) (Nat.le_of_ble_eq_true rfl), ?_⟩
    | refine ⟨_, _, hupd_at, rfl, rfl, Nat.le_of_ble_eq_true rfl, ?_⟩
    | refine ⟨_, _, rfl, rfl, rfl, Nat.le_of_ble_eq_true rfl, ?_⟩
    | (refine ⟨?_, _, (?_ : (_ : Option Ob) = _), rfl, rfl, ?_, ?_⟩; rotate_left; (exact hk_); exact Nat.le_of_ble_eq_true rfl)
    | refine ⟨_, _, _, _, ((by exact hk_) : (_ : Option Ob) = _), rfl, at_mapA (by assumption), ?_⟩
    | refine idx_ow (by exact hk_) (by omega) (fun x hx => ?_)
    | refine ⟨_, _, _, _, ((by exact hk_) : (_ : Option Ob) = _), rfl, fill_at (by omega), ?_⟩
    | refine ⟨_, _, _, _, ((by exact hk_) : (_ : Option Ob) = _), fill_at (by omega), rfl, rfl, Nat.le_of_ble_eq_true rfl, ?_⟩
    | refine idx_owL (by exact hk_) (by omega) (by simp only [LIM]; omega) (fun x hx => ?_)
    | refine idx_owI (by exact hk_) (by omega) (by first | omega | (simp only [List.length_map] at *; omega)) (fun x hx => ?_)
    | refine ⟨_, _, _, _, ((by exact hk_) : (_ : Option Ob) = _), at_mapA (by assumption), rfl, rfl, Nat.le_of_ble_eq_true rfl, ?_⟩
    | refine ⟨_, ldc_pa (by exact hk_) (at_mapA (by assumption)) (Nat.le_of_ble_eq_true rfl), ?_⟩
    | refine ⟨_, rfl, rfl, _, ((by exact hk_) : (_ : Option Ob) = _), (by exact ap_), ?_⟩
    | refine ⟨_, news_ow hupd_at, newsz_ow hupd_at, _, ((by exact hk_) : (_ : Option Ob) = _), (by exact ap_), ?_⟩
    | refine ⟨_, _, _, ((by exact hk_) : (_ : Option Ob) = _), ?_⟩
    | refine ⟨_, ((by exact hk_) : (_ : Option Ob) = _), ?_⟩
    | refine ⟨(show _ ≠ _ from (by first | decide | omega)), ?_⟩
    | refine ⟨(show _ ≤ _ from (by exact ap_)), ?_⟩
    | (refine ⟨fun hc => ?_, fun hc => ?_⟩ <;> (try simp (disch := omega) only [List.length_map, wrap64] at hc))
    | (refine ⟨⟨(by omega), (by omega), (by simp only [List.length_map] at *; simp only [LIM] at *; omega), (by simp only [List.length_map] at *; simp only [LIM] at *; omega)⟩, ?_⟩; (try simp only [List.length_map, Int.toNat_natCast]))
    | (refine ⟨_, slc_to rfl (by first | omega | (simp only [List.length_map] at *; omega)), ?_⟩; rw [map_take'])
    | (refine ⟨_, slc_toI rfl (by omega) (by first | omega | (simp only [List.length_map] at *; omega)), ?_⟩; rw [map_take'])
    | fail)
  conv => whnf
  refine ⟨fun fr H nx rm' => ∃ (i : Nat) (k : Nat), Has fr [(0, one (chF c)), (3, .w (.o (.ow k))), (4, I i)] ∧ i ≤ c.length ∧ (True) ∧ H k = some (.arr ty_impl_Item 4 (fill (fun x => (itF x).map AC.c) [cI 0, cI 0, cI 0, cI 0] c i)) ∧ 1 ≤ k ∧ k < nx ∧ 1 ≤ nx ∧ H 0 = none ∧ rm' = rm,
    fun fr _ _ _ => c.length - ix (fr 4), ⟨0, _, ⟨(by first | rfl | (show I _ = I _; simp)), (by first | rfl | (show I _ = I _; simp)), (by first | rfl | (show I _ = I _; simp)), trivial⟩, Nat.zero_le _, (by trivial), hupd_at.trans (by simp [fill, ofV]), (by decide), (by decide), (by first | decide | omega), (by exact h0_), rfl⟩, ?_⟩
  rintro fr H nx rm' ⟨i, k, hfr, hi, hq, hk, hk1, hkn, hnx, hH, rfl⟩
  rw [hfr.eq]
  repeat' ((conv => whnf); first
    | refine ⟨_, rfl, ?_⟩
    | refine ⟨rfl, ?_⟩
    | refine ⟨_, _, rfl, at_map (by assumption), ?_⟩
    | refine idx_mapX (i := 0) rfl (by assumption) ?_
    | refine idx_map (by omega) (fun x hx => ?_)
    | refine idx_mapX (wrap_dn (by omega) (by omega)) (by assumption) ?_
    | refine idx_mapE (wrap_dn (by omega) (by omega)) (by omega) (fun x hx => ?_)
    | refine idx_mapL (by omega) (by first | assumption | (simp only [LIM]; omega)) (fun x hx => ?_)
    | refine idx_mapI (by omega) (by first | omega | (simp only [List.length_map] at *; omega)) (fun x hx => ?_)
    | refine ⟨_, ldc_cells hupd_at (Nat.le_of_ble_eq_true rfl), ?_⟩
    | refine ⟨_, ldc_cells (by first | assumption | exact zk ‹_› (by omega) | exact zk (zk ‹_› (by omega)) (by omega)) (Nat.le_of_ble_eq_true rfl), ?_⟩
    | refine ⟨_, _, hupd_at, rfl, rfl, Nat.le_of_ble_eq_true rfl, ?_⟩
    | refine ⟨_, _, rfl, rfl, rfl, Nat.le_of_ble_eq_true rfl, ?_⟩
    | (refine ⟨?_, _, (?_ : (_ : Option Ob) = _), rfl, rfl, ?_, ?_⟩; rotate_left; (exact hk_); exact Nat.le_of_ble_eq_true rfl)
    | refine ⟨_, _, _, _, ((by exact hk_) : (_ : Option Ob) = _), rfl, at_mapA (by assumption), ?_⟩
    | refine idx_ow (by exact hk_) (by omega) (fun x hx => ?_)
    | refine ⟨_, _, _, _, ((by exact hk_) : (_ : Option Ob) = _), rfl, fill_at (by omega), ?_⟩
    | refine ⟨_, _, _, _, ((by exact hk_) : (_ : Option Ob) = _), fill_at (by omega), rfl, rfl, Nat.le_of_ble_eq_true rfl, ?_⟩
    | refine idx_owL (by exact hk_) (by omega) (by simp only [LIM]; omega) (fun x hx => ?_)
    | refine idx_owI (by exact hk_) (by omega) (by first | omega | (simp only [List.length_map] at *; omega)) (fun x hx => ?_)
    | refine ⟨_, _, _, _, ((by exact hk_) : (_ : Option Ob) = _), at_mapA (by assumption), rfl, rfl, Nat.le_of_ble_eq_true rfl, ?_⟩
    | refine ⟨_, ldc_pa (by exact hk_) (at_mapA (by assumption)) (Nat.le_of_ble_eq_true rfl), ?_⟩
    | refine ⟨_, rfl, rfl, _, ((by exact hk_) : (_ : Option Ob) = _), (by exact ap_), ?_⟩
    | refine ⟨_, news_ow hupd_at, newsz_ow hupd_at, _, ((by exact hk_) : (_ : Option Ob) = _), (by exact ap_), ?_⟩
    | refine ⟨_, _, _, ((by exact hk_) : (_ : Option Ob) = _), ?_⟩
    | refine ⟨_, ((by exact hk_) : (_ : Option Ob) = _), ?_⟩
    | refine ⟨(show _ ≠ _ from (by first | decide | omega)), ?_⟩
    | refine ⟨(show _ ≤ _ from (by exact ap_)), ?_⟩
    | (refine ⟨fun hc => ?_, fun hc => ?_⟩ <;> (try simp (disch := omega) only [List.length_map, wrap64] at hc))
    | (refine ⟨⟨(by omega), (by omega), (by simp only [List.length_map] at *; simp only [LIM] at *; omega), (by simp only [List.length_map] at *; simp only [LIM] at *; omega)⟩, ?_⟩; (try simp only [List.length_map, Int.toNat_natCast]))
    | (refine ⟨_, slc_to rfl (by first | omega | (simp only [List.length_map] at *; omega)), ?_⟩; rw [map_take'])
    | (refine ⟨_, slc_toI rfl (by omega) (by first | omega | (simp only [List.length_map] at *; omega)), ?_⟩; rw [map_take'])
    | (refine calle (b := [agg (itF ⟨_, ⟨_, _, _⟩⟩)]) v_laws_toItem rfl ⟨⟨_, ⟨_, _, _⟩⟩, rfl, (by exact True.intro)⟩ (.inl rfl) (by first | assumption | omega) (fun r hr => K_laws_toItem (a := ⟨_, ⟨_, _, _⟩⟩) hr) ?_)
    | (refine ⟨⟨i + 1, k, ⟨rfl, rfl, congrArg I (wrap_up (n := c.length) (by omega) (hp1)), trivial⟩, (by omega), (by trivial), hupd_at.trans (by rw [← fill_set hx]; rfl), (by omega), (by omega), (by omega), (by exact h0_), rfl⟩, ?_⟩; show c.length - ix (I _) < c.length - ix (I _); simp only [wrap_up (n := c.length) (i := i) (by omega) (hp1), ix, Int.toNat_natCast]; omega)
    | (exact finM_new (F := itF) (T := ty_impl_Item) (sz := 4) (l := c) (by first | exact Nat.le_refl _ | omega) (by rw [fill_end (by omega)] at hk; exact hk) ⟨⟨_, rfl, .inl rfl⟩, trivial⟩ ⟨c, rfl, rfl, rfl, rfl⟩)
    | fail)
set_option maxHeartbeats 4000000 in
set_option maxRecDepth 100000 in
theorem v_laws_toVote_o : ValidM Try.prog n_laws_toVote_o S_laws_toVote_o := by
  refine validM_of_swp mixed is_laws_toVote_o (by rintro _ _ ⟨a, rfl, _⟩; exact Nat.le_of_ble_eq_true rfl) ?_
  rintro _ _ rm ⟨v, rfl, rfl, hpre⟩ hl
  try dsimp only at hpre
  change swp _ _ _ _ _ 0 _
  repeat' ((conv => whnf); first
    | refine ⟨_, rfl, ?_⟩
    | refine ⟨rfl, ?_⟩
    | refine ⟨_, _, rfl, at_map (by assumption), ?_⟩
    | refine idx_mapX (i := 0) rfl (by assumption) ?_
    | refine idx_map (by omega) (fun x hx => ?_)
    | refine idx_mapX (wrap_dn (by omega) (by omega)) (by assumption) ?_
    | refine idx_mapE (wrap_dn (by omega) (by omega)) (by omega) (fun x hx => ?_)
    | refine idx_mapL (by omega) (by first | assumption | (simp only [LIM]; omega)) (fun x hx => ?_)
    | refine idx_mapI (by omega) (by first | omega | (simp only [List.length_map] at *; omega)) (fun x hx => ?_)
    | refine ⟨_, ldc_cells hupd_at (Nat.le_of_ble_eq_true rfl), ?_⟩
    | refine ⟨_, ldc_cells (by first | assumption | exact zk ‹_› (by omega) | exact zk (zk ‹_› (by omega)) (by omega)) (Nat.le_of_ble_eq_true rfl), ?_⟩
    | refine ⟨_, _, hupd_at, rfl, rfl, Nat.le_of_ble_eq_true rfl, ?_⟩
    | refine ⟨_, _, rfl, rfl, rfl, Nat.le_of_ble_eq_true rfl, ?_⟩
    | (refine ⟨?_, _, (?_ : (_ : Option Ob) = _), rfl, rfl, ?_, ?_⟩; rotate_left; (exact hk_); exact Nat.le_of_ble_eq_true rfl)
    | refine ⟨_, _, _, _, ((by exact hk_) : (_ : Option Ob) = _), rfl, at_mapA (by assumption), ?_⟩
    | refine idx_ow (by exact hk_) (by omega) (fun x hx => ?_)
    | refine ⟨_, _, _, _, ((by exact hk_) : (_ : Option Ob) = _), rfl, fill_at (by omega), ?_⟩
    | refine ⟨_, _, _, _, ((by exact hk_) : (_ : Option Ob) = _), fill_at (by omega), rfl, rfl, Nat.le_of_ble_eq_true rfl, ?_⟩
    | refine idx_owL (by exact hk_) (by omega) (by simp only [LIM]; omega) (fun x hx => ?_)
    | refine idx_owI (by exact hk_) (by omega) (by first | omega | (simp only [List.length_map] at *; omega)) (fun x hx => ?_)
    | refine ⟨_, _, _, _, ((by exact hk_) : (_ : Option Ob) = _), at_mapA (by assumption), rfl, rfl, Nat.le_of_ble_eq_true rfl, ?_⟩
    | refine ⟨_, ldc_pa (by exact hk_) (at_mapA (by assumption)) (Nat.le_of_ble_eq_true rfl), ?_⟩
    | refine ⟨_, rfl, rfl, _, ((by exact hk_) : (_ : Option Ob) = _), (by exact ap_), ?_⟩
    | refine ⟨_, news_ow hupd_at, newsz_ow hupd_at, _, ((by exact hk_) : (_ : Option Ob) = _), (by exact ap_), ?_⟩
    | refine ⟨_, _, _, ((by exact hk_) : (_ : Option Ob) = _), ?_⟩
    | refine ⟨_, ((by exact hk_) : (_ : Option Ob) = _), ?_⟩
    | refine ⟨(show _ ≠ _ from (by first | decide | omega)), ?_⟩
    | refine ⟨(show _ ≤ _ from (by exact ap_)), ?_⟩
    | (refine ⟨fun hc => ?_, fun hc => ?_⟩ <;> (try simp (disch := omega) only [List.length_map, wrap64] at hc))
    | (refine ⟨⟨(by omega), (by omega), (by simp only [List.length_map] at *; simp only [LIM] at *; omega), (by simp only [List.length_map] at *; simp only [LIM] at *; omega)⟩, ?_⟩; (try simp only [List.length_map, Int.toNat_natCast]))
    | (refine ⟨_, slc_to rfl (by first | omega | (simp only [List.length_map] at *; omega)), ?_⟩; rw [map_take'])
    | (refine ⟨_, slc_toI rfl (by omega) (by first | omega | (simp only [List.length_map] at *; omega)), ?_⟩; rw [map_take'])
    | fail)
  conv => whnf
  refine mq_new (F := itF) (T := ty_impl_Item) (sz := 4) (Q := fun m => m = v.c) v_laws_toItemS_o (by exact hl) rfl rfl ⟨v.c, rfl, rfl, hpre⟩ (fun r obs' h => by obtain ⟨h1, h2⟩ := K_laws_toItemS_o h; exact ⟨_, h1, h2, rfl⟩) (fun m hm => ?_)
  subst hm
  repeat' ((conv => whnf); first
    | refine ⟨_, rfl, ?_⟩
    | refine ⟨rfl, ?_⟩
    | refine ⟨_, _, rfl, at_map (by assumption), ?_⟩
    | refine idx_mapX (i := 0) rfl (by assumption) ?_
    | refine idx_map (by omega) (fun x hx => ?_)
    | refine idx_mapX (wrap_dn (by omega) (by omega)) (by assumption) ?_
    | refine idx_mapE (wrap_dn (by omega) (by omega)) (by omega) (fun x hx => ?_)
    | refine idx_mapL (by omega) (by first | assumption | (simp only [LIM]; omega)) (fun x hx => ?_)
    | refine idx_mapI (by omega) (by first | omega | (simp only [List.length_map] at *; omega)) (fun x hx => ?_)
    | refine ⟨_, ldc_cells hupd_at (Nat.le_of_ble_eq_true rfl), ?_⟩
    | refine ⟨_, ldc_cells (by first | assumption | exact zk ‹_› (by omega) | exact zk (zk ‹_› (by omega)) (by omega)) (Nat.le_of_ble_eq_true rfl), ?_⟩
    | refine ⟨_, _, hupd_at, rfl, rfl, Nat.le_of_ble_eq_true rfl, ?_⟩
    | refine ⟨_, _, rfl, rfl, rfl, Nat.le_of_ble_eq_true rfl, ?_⟩
    | (refine ⟨?_, _, (?_ : (_ : Option Ob) = _), rfl, rfl, ?_, ?_⟩; rotate_left; (exact hk_); exact Nat.le_of_ble_eq_true rfl)
    | refine ⟨_, _, _, _, ((by exact hk_) : (_ : Option Ob) = _), rfl, at_mapA (by assumption), ?_⟩
    | refine idx_ow (by exact hk_) (by omega) (fun x hx => ?_)
    | refine ⟨_, _, _, _, ((by exact hk_) : (_ : Option Ob) = _), rfl, fill_at (by omega), ?_⟩
    | refine ⟨_, _, _, _, ((by exact hk_) : (_ : Option Ob) = _), fill_at (by omega), rfl, rfl, Nat.le_of_ble_eq_true rfl, ?_⟩
    | refine idx_owL (by exact hk_) (by omega) (by simp only [LIM]; omega) (fun x hx => ?_)
    | refine idx_owI (by exact hk_) (by omega) (by first | omega | (simp only [List.length_map] at *; omega)) (fun x hx => ?_)
    | refine ⟨_, _, _, _, ((by exact hk_) : (_ : Option Ob) = _), at_mapA (by assumption), rfl, rfl, Nat.le_of_ble_eq_true rfl, ?_⟩
    | refine ⟨_, ldc_pa (by exact hk_) (at_mapA (by assumption)) (Nat.le_of_ble_eq_true rfl), ?_⟩
    | refine ⟨_, rfl, rfl, _, ((by exact hk_) : (_ : Option Ob) = _), (by exact ap_), ?_⟩
    | refine ⟨_, news_ow hupd_at, newsz_ow hupd_at, _, ((by exact hk_) : (_ : Option Ob) = _), (by exact ap_), ?_⟩
    | refine ⟨_, _, _, ((by exact hk_) : (_ : Option Ob) = _), ?_⟩
    | refine ⟨_, ((by exact hk_) : (_ : Option Ob) = _), ?_⟩
    | refine ⟨(show _ ≠ _ from (by first | decide | omega)), ?_⟩
    | refine ⟨(show _ ≤ _ from (by exact ap_)), ?_⟩
    | (refine ⟨fun hc => ?_, fun hc => ?_⟩ <;> (try simp (disch := omega) only [List.length_map, wrap64] at hc))
    | (refine ⟨⟨(by omega), (by omega), (by simp only [List.length_map] at *; simp only [LIM] at *; omega), (by simp only [List.length_map] at *; simp only [LIM] at *; omega)⟩, ?_⟩; (try simp only [List.length_map, Int.toNat_natCast]))
    | (refine ⟨_, slc_to rfl (by first | omega | (simp only [List.length_map] at *; omega)), ?_⟩; rw [map_take'])
    | (refine ⟨_, slc_toI rfl (by omega) (by first | omega | (simp only [List.length_map] at *; omega)), ?_⟩; rw [map_take'])
    | fail)
  conv => whnf
  exact finM_vo (Nat.le_refl _) hk_ ⟨⟨_, rfl, .inl rfl⟩, trivial⟩ ⟨v, rfl, rfl, rfl, rfl⟩
/-- The first i votes are there. -/
def vosF (f : Nat → Nat) (l : List Vo) (i : Nat) : List (List AC) := l.mapIdx fun j v => if j < i then voK v (f j) else [cI 0, .e0]
def updF (f : Nat → Nat) (i n : Nat) : Nat → Nat := fun j => if j = i then n else f j
theorem vosF_zero (f : Nat → Nat) (l : List Vo) : List.replicate l.length [cI 0, AC.e0] = vosF f l 0 := by
  apply List.ext_getElem?
  intro j
  simp only [vosF, List.getElem?_mapIdx, List.getElem?_replicate, Nat.not_lt_zero, if_false]
  by_cases h : j < l.length
  · rw [if_pos h, List.getElem?_eq_getElem h]; rfl
  · rw [if_neg h, List.getElem?_eq_none (by omega)]; rfl
theorem vosF_at {f : Nat → Nat} {l : List Vo} {i : Nat} (h : i < l.length) : (vosF f l i)[i]? = some [cI 0, .e0] := by
  simp only [vosF, List.getElem?_mapIdx, List.getElem?_eq_getElem h, Option.map_some, Nat.lt_irrefl, if_false]
theorem vosF_set {f : Nat → Nat} {l : List Vo} {i n : Nat} {x : Vo} (hx : l[i]? = some x) : (vosF f l i).set i (voK x n) = vosF (updF f i n) l (i + 1) := by
  apply List.ext_getElem?
  intro j
  have hi := (List.getElem?_eq_some_iff.1 hx).1
  rw [List.getElem?_set]
  by_cases e : i = j
  · subst e
    rw [if_pos rfl, if_pos (by simp [vosF]; exact hi)]
    simp [vosF, List.getElem?_mapIdx, hx, updF]
  · rw [if_neg e]
    simp only [vosF, List.getElem?_mapIdx, updF, if_neg (Ne.symm e)]
    cases l[j]? with
    | none => rfl
    | some v =>
      simp only [Option.map_some]
      by_cases h : j < i
      · rw [if_pos h, if_pos (by omega)]
      · rw [if_neg h, if_neg (by omega)]
theorem vosF_end {f : Nat → Nat} {l : List Vo} {i : Nat} (h : l.length ≤ i) : vosF f l i = vosK f l := by
  apply List.ext_getElem?
  intro j
  simp only [vosF, vosK, List.getElem?_mapIdx]
  cases hj : l[j]? with
  | none => rfl
  | some v =>
    have := (List.getElem?_eq_some_iff.1 hj).1
    simp only [Option.map_some, if_pos (show j < i by omega)]
theorem vosK_ren {f : Nat → Nat} {l : List Vo} {ρ : Nat → Nat} (h : ∀ j, j < l.length → ρ (j + 1) = f j) : (vosO (· + 1) l).ren ρ = vosO f l := by
  show Ob.arr _ _ _ = Ob.arr _ _ _
  congr 1
  apply List.ext_getElem?
  intro j
  simp only [vosK, List.getElem?_map, List.getElem?_mapIdx]
  cases hj : l[j]? with
  | none => rfl
  | some v =>
    have := (List.getElem?_eq_some_iff.1 hj).1
    simp only [Option.map_some, voK, List.map_cons, List.map_nil, AC.ren, h j this]
section
variable {P : Program} {g : Nat} {S : MSpec} {fr : Env} {H : Hp} {nm nx rm rm' lim : Nat} {K : KV} {xs : List (X × List (Option Nat))} {res : List Rs} {post : AV → List (Option Ob) → Prop}
theorem mq_vo {v : Vo} (hv : ValidM P g S) (hl : rm + S.cost ≤ LIM) (ha : nrmArgs fr xs = [agg (voF v)]) (hpre : S.pre [agg (voF v)] [])
    (hpost : ∀ r obs', S.post [agg (voF v)] [] r obs' → r = .w (.g (voK v 0)) ∧ obs' = [some (itO v.c)])
    (hK : K (.w (.g (voK v nm))) (hupd nm (some (itO v.c)) H) (rm + S.cost)) : MQ P nm fr H rm K g S xs := by
  refine ⟨⟨hv, hl, [], [agg (voF v)], [], by simp, rfl, fun i k' h => by simp at h, by rw [ha]; rfl, hpre, fun r obs' hp _ _ => ?_⟩⟩
  obtain ⟨rfl, rfl⟩ := hpost r obs' hp
  show K (.w (.g [.c (fI v.n), .ow (nmapS S.st [] nm 0)])) (hupd (nmapS S.st [] nm 0) (some ((itO v.c).ren _)) H) _
  rw [arr_ren, show nmapS S.st [] nm 0 = nm from nmap_next (ks := [])]
  exact hK
theorem finM_vos {l : List Vo} {k : Nat} {f : Nat → Nat} (hrm : rm' ≤ lim) (hk : H k = some (vosO f l)) (hf1 : ∀ j v, l[j]? = some v → H (f j) = some (itO v.c)) (hf2 : ∀ j, j < l.length → f j ≠ k) (hf3 : ∀ j j', j < l.length → j' < l.length → f j = f j' → j = j')
    (hres : resM (k :: (List.range l.length).map f) fr H res [.o (.ow k)]) (hpost : post ow0 (vosObs l)) :
    rm' ≤ lim ∧ ∃ (ks : List Nat) (az : List AW) (r : AV) (obs' : List (Option Ob)), resM ks fr H res az ∧ resV az = r.ren (nmap ks nx) ∧ post r obs' ∧
      ks.Nodup ∧ (∀ i, i < 0 → ks[i]? = some i) ∧ obs'.length = ks.length ∧
      ∀ (i k : Nat), ks[i]? = some k → (∃ ob : Ob, obs'[i]? = some (some ob) ∧ H k = some (ob.ren (nmap ks nx))) ∨ (obs'[i]? = some none ∧ H k = none) := by
  have hat : ∀ j, j < l.length → (k :: (List.range l.length).map f)[j + 1]? = some (f j) := by
    intro j hj
    rw [List.getElem?_cons_succ, List.getElem?_map, List.getElem?_range hj]; rfl
  refine ⟨hrm, k :: (List.range l.length).map f, _, ow0, _, hres, ?_, hpost, ?_, fun i hi => by omega, by rw [vosObs_len]; simp, fun i k' h => ?_⟩
  · show AV.w (.o (.ow k)) = AV.w (.o (.ow (nmap _ nx 0)))
    have e : nmap (k :: (List.range l.length).map f) nx 0 = k := nmap_lt (s := 0) rfl
    rw [e]
  · rw [List.nodup_cons]
    refine ⟨fun h => ?_, ?_⟩
    · obtain ⟨j, hj, e⟩ := List.mem_map.1 h
      exact hf2 j (List.mem_range.1 hj) e
    · rw [List.Nodup, List.pairwise_iff_getElem]
      intro i j hi hj hij e
      simp only [List.length_map, List.length_range] at hi hj
      simp only [List.getElem_map, List.getElem_range] at e
      have := hf3 i j hi hj e
      omega
  · left
    cases i with
    | zero =>
      cases h
      refine ⟨vosO (· + 1) l, rfl, ?_⟩
      rw [vosK_ren (f := f) (fun j hj => nmap_lt (hat j hj))]; exact hk
    | succ j =>
      have hj : j < l.length := by
        have := (List.getElem?_eq_some_iff.1 h).1
        simpa using this
      rw [hat j hj] at h
      cases h
      refine ⟨itO l[j].c, by simp [vosObs, hj], ?_⟩
      rw [arr_ren]; exact hf1 j _ (List.getElem?_eq_getElem hj)
end
theorem vos_g1 {H : Hp} {k nm i : Nat} {f : Nat → Nat} {l : List Vo} {x : Vo} {ob : Option Ob} (hx : l[i]? = some x) (hf1 : ∀ j v, j < i → l[j]? = some v → H (f j) = some (itO v.c)) (hf2 : ∀ j, j < i → f j ≠ k) (hf4 : ∀ j, j < i → f j ≠ nm) (hnk : nm ≠ k) :
    ∀ j v, j < i + 1 → l[j]? = some v → hupd k ob (hupd nm (some (itO x.c)) H) (updF f i nm j) = some (itO v.c) := by
  intro j v hj hv
  by_cases e : j = i
  · subst e
    rw [show updF f j nm j = nm from if_pos rfl, hupd_ne hnk, hupd_at]
    rw [hx] at hv; cases hv; rfl
  · rw [show updF f i nm j = f j from if_neg e, hupd_ne (hf2 j (by omega)), hupd_ne (hf4 j (by omega))]
    exact hf1 j v (by omega) hv
theorem vos_g2 {k nm nx nx' i : Nat} {f : Nat → Nat} (hf2 : ∀ j, j < i → f j < nx ∧ f j ≠ k) (h1 : nx ≤ nx') (h2 : nm < nx') (hnk : nm ≠ k) : ∀ j, j < i + 1 → updF f i nm j < nx' ∧ updF f i nm j ≠ k := by
  intro j hj
  by_cases e : j = i
  · subst e; rw [show updF f j nm j = nm from if_pos rfl]; exact ⟨h2, hnk⟩
  · rw [show updF f i nm j = f j from if_neg e]
    have := hf2 j (by omega)
    exact ⟨by omega, this.2⟩
theorem vos_g3 {nm i : Nat} {f : Nat → Nat} (hf3 : ∀ j j', j < i → j' < i → f j = f j' → j = j') (hf4 : ∀ j, j < i → f j ≠ nm) : ∀ j j', j < i + 1 → j' < i + 1 → updF f i nm j = updF f i nm j' → j = j' := by
  intro j j' hj hj' e
  by_cases h1 : j = i
  · by_cases h2 : j' = i
    · omega
    · rw [show updF f i nm j = nm from if_pos h1, show updF f i nm j' = f j' from if_neg h2] at e
      exact absurd e.symm (hf4 j' (by omega))
  · by_cases h2 : j' = i
    · rw [show updF f i nm j = f j from if_neg h1, show updF f i nm j' = nm from if_pos h2] at e
      exact absurd e (hf4 j (by omega))
    · rw [show updF f i nm j = f j from if_neg h1, show updF f i nm j' = f j' from if_neg h2] at e
      exact hf3 j j' (by omega) (by omega) e
set_option maxHeartbeats 4000000 in
set_option maxRecDepth 100000 in
theorem v_laws_toVoteS_o : ValidM Try.prog n_laws_toVoteS_o S_laws_toVoteS_o := by
  refine validM_of_swp mixed is_laws_toVoteS_o (by rintro _ _ ⟨a, rfl, _⟩; exact Nat.le_of_ble_eq_true rfl) ?_
  rintro _ _ rm ⟨l, rfl, rfl, hpre⟩ hl
  try dsimp only at hpre
  change swp _ _ _ _ _ 0 _
  have hfit : FitVs l := hpre.fit
  have hlen : l.length ≤ LIM := hfit.1
  repeat' ((conv => whnf); first
    | refine ⟨_, rfl, ?_⟩
    | refine ⟨rfl, ?_⟩
    | refine ⟨_, _, rfl, at_map (by assumption), ?_⟩
    | refine idx_mapX (i := 0) rfl (by assumption) ?_
    | refine idx_map (by omega) (fun x hx => ?_)
    | refine idx_mapX (wrap_dn (by omega) (by omega)) (by assumption) ?_
    | refine idx_mapE (wrap_dn (by omega) (by omega)) (by omega) (fun x hx => ?_)
    | refine idx_mapL (by omega) (by first | assumption | (simp only [LIM]; omega)) (fun x hx => ?_)
    | refine idx_mapI (by omega) (by first | omega | (simp only [List.length_map] at *; omega)) (fun x hx => ?_)
    | refine ⟨_, ldc_cells hupd_at (Nat.le_of_ble_eq_true rfl), ?_⟩
    | refine ⟨_, ldc_cells (by first | assumption | exact zk ‹_› (by omega) | exact zk (zk ‹_› (by omega)) (by omega)) (Nat.le_of_ble_eq_true rfl), ?_⟩
    | refine ⟨_, _, hupd_at, rfl, rfl, Nat.le_of_ble_eq_true rfl, ?_⟩
    | refine ⟨_, _, rfl, rfl, rfl, Nat.le_of_ble_eq_true rfl, ?_⟩
    | (refine ⟨?_, _, (?_ : (_ : Option Ob) = _), rfl, rfl, ?_, ?_⟩; rotate_left; (exact hk_); exact Nat.le_of_ble_eq_true rfl)
    | refine ⟨_, _, _, _, ((by exact hk_) : (_ : Option Ob) = _), rfl, at_mapA (by assumption), ?_⟩
    | refine idx_ow (by exact hk_) (by omega) (fun x hx => ?_)
    | refine ⟨_, _, _, _, ((by exact hk_) : (_ : Option Ob) = _), rfl, fill_at (by omega), ?_⟩
    | refine ⟨_, _, _, _, ((by exact hk_) : (_ : Option Ob) = _), fill_at (by omega), rfl, rfl, Nat.le_of_ble_eq_true rfl, ?_⟩
    | refine idx_owL (by exact hk_) (by omega) (by simp only [LIM]; omega) (fun x hx => ?_)
    | refine idx_owI (by exact hk_) (by omega) (by first | omega | (simp only [List.length_map] at *; omega)) (fun x hx => ?_)
    | refine ⟨_, _, _, _, ((by exact hk_) : (_ : Option Ob) = _), at_mapA (by assumption), rfl, rfl, Nat.le_of_ble_eq_true rfl, ?_⟩
    | refine ⟨_, ldc_pa (by exact hk_) (at_mapA (by assumption)) (Nat.le_of_ble_eq_true rfl), ?_⟩
    | refine ⟨_, rfl, rfl, _, ((by exact hk_) : (_ : Option Ob) = _), (by exact ap_), ?_⟩
    | refine ⟨_, news_ow hupd_at, newsz_ow hupd_at, _, ((by exact hk_) : (_ : Option Ob) = _), (by exact ap_), ?_⟩
    | refine ⟨_, _, _, ((by exact hk_) : (_ : Option Ob) = _), ?_⟩
    | refine ⟨_, ((by exact hk_) : (_ : Option Ob) = _), ?_⟩
    | refine ⟨(show _ ≠ _ from (by first | decide | omega)), ?_⟩
    | refine ⟨(show _ ≤ _ from (by exact ap_)), ?_⟩
    | (refine ⟨fun hc => ?_, fun hc => ?_⟩ <;> (try simp (disch := omega) only [List.length_map, wrap64] at hc))
    | (refine ⟨⟨(by omega), (by omega), (by simp only [List.length_map] at *; simp only [LIM] at *; omega), (by simp only [List.length_map] at *; simp only [LIM] at *; omega)⟩, ?_⟩; (try simp only [List.length_map, Int.toNat_natCast]))
    | (refine ⟨_, slc_to rfl (by first | omega | (simp only [List.length_map] at *; omega)), ?_⟩; rw [map_take'])
    | (refine ⟨_, slc_toI rfl (by omega) (by first | omega | (simp only [List.length_map] at *; omega)), ?_⟩; rw [map_take'])
    | fail)
  conv => whnf
  refine ⟨fun fr H nx rm' => ∃ (i k : Nat) (f : Nat → Nat), Has fr [(0, one (vsF l)), (3, .w (.o (.ow k))), (4, I i)] ∧ i ≤ l.length ∧ H k = some (.arr ty_impl_Vote 2 (vosF f l i)) ∧ (∀ j v, j < i → l[j]? = some v → H (f j) = some (itO v.c)) ∧ (∀ j, j < i → f j < nx ∧ f j ≠ k) ∧ (∀ j j', j < i → j' < i → f j = f j' → j = j') ∧ k < nx ∧ rm' = rm,
    fun fr _ _ _ => l.length - ix (fr 4), ⟨0, _, id, ⟨rfl, rfl, rfl, trivial⟩, Nat.zero_le _, hupd_at.trans (by rw [← vosF_zero]; simp [ofV]), fun j v h => by omega, fun j h => by omega, fun j j' h => by omega, ln_, rfl⟩, ?_⟩
  rintro fr H nx rm' ⟨i, k, f, hfr, hi, hk, hf1, hf2, hf3, hkn, rfl⟩
  rw [hfr.eq]
  rcases Nat.lt_or_ge i l.length with hi' | hi'
  · obtain ⟨x, hx⟩ : ∃ x, l[i]? = some x := ⟨_, List.getElem?_eq_getElem hi'⟩
    have hxv : FitV x := hfit.2 x (List.mem_of_getElem? hx)
    repeat' ((conv => whnf); first
      | refine ⟨_, _, rfl, at_map hx, ?_⟩
      | (refine mq_vo (v := x) v_laws_toVote_o (by exact hl) rfl ⟨x, rfl, rfl, hxv⟩ (fun r obs' h => K_laws_toVote_o h) ?_)
      | (refine ⟨_, _, _, _, (zk hk (by omega)), rfl, vosF_at hi', ?_⟩)
      | (refine ⟨_, _, _, _, (zk hk (by omega)), vosF_at hi', rfl, rfl, Nat.le_of_ble_eq_true rfl, ?_⟩)
      | refine ⟨_, rfl, ?_⟩
      | refine ⟨rfl, ?_⟩
      | refine ⟨_, _, rfl, at_map (by assumption), ?_⟩
      | refine idx_mapX (i := 0) rfl (by assumption) ?_
      | refine idx_map (by omega) (fun x hx => ?_)
      | refine idx_mapX (wrap_dn (by omega) (by omega)) (by assumption) ?_
      | refine idx_mapE (wrap_dn (by omega) (by omega)) (by omega) (fun x hx => ?_)
      | refine idx_mapL (by omega) (by first | assumption | (simp only [LIM]; omega)) (fun x hx => ?_)
      | refine idx_mapI (by omega) (by first | omega | (simp only [List.length_map] at *; omega)) (fun x hx => ?_)
      | refine ⟨_, ldc_cells hupd_at (Nat.le_of_ble_eq_true rfl), ?_⟩
      | refine ⟨_, ldc_cells (by first | assumption | exact zk ‹_› (by omega) | exact zk (zk ‹_› (by omega)) (by omega)) (Nat.le_of_ble_eq_true rfl), ?_⟩
      | refine ⟨_, _, hupd_at, rfl, rfl, Nat.le_of_ble_eq_true rfl, ?_⟩
      | refine ⟨_, _, rfl, rfl, rfl, Nat.le_of_ble_eq_true rfl, ?_⟩
      | (refine ⟨?_, _, (?_ : (_ : Option Ob) = _), rfl, rfl, ?_, ?_⟩; rotate_left; (exact hk_); exact Nat.le_of_ble_eq_true rfl)
      | refine ⟨_, _, _, _, ((by exact hk_) : (_ : Option Ob) = _), rfl, at_mapA (by assumption), ?_⟩
      | refine idx_ow (by exact hk_) (by omega) (fun x hx => ?_)
      | refine ⟨_, _, _, _, ((by exact hk_) : (_ : Option Ob) = _), rfl, fill_at (by omega), ?_⟩
      | refine ⟨_, _, _, _, ((by exact hk_) : (_ : Option Ob) = _), fill_at (by omega), rfl, rfl, Nat.le_of_ble_eq_true rfl, ?_⟩
      | refine idx_owL (by exact hk_) (by omega) (by simp only [LIM]; omega) (fun x hx => ?_)
      | refine idx_owI (by exact hk_) (by omega) (by first | omega | (simp only [List.length_map] at *; omega)) (fun x hx => ?_)
      | refine ⟨_, _, _, _, ((by exact hk_) : (_ : Option Ob) = _), at_mapA (by assumption), rfl, rfl, Nat.le_of_ble_eq_true rfl, ?_⟩
      | refine ⟨_, ldc_pa (by exact hk_) (at_mapA (by assumption)) (Nat.le_of_ble_eq_true rfl), ?_⟩
      | refine ⟨_, rfl, rfl, _, ((by exact hk_) : (_ : Option Ob) = _), (by exact ap_), ?_⟩
      | refine ⟨_, news_ow hupd_at, newsz_ow hupd_at, _, ((by exact hk_) : (_ : Option Ob) = _), (by exact ap_), ?_⟩
      | refine ⟨_, _, _, ((by exact hk_) : (_ : Option Ob) = _), ?_⟩
      | refine ⟨_, ((by exact hk_) : (_ : Option Ob) = _), ?_⟩
      | refine ⟨(show _ ≠ _ from (by first | decide | omega)), ?_⟩
      | refine ⟨(show _ ≤ _ from (by exact ap_)), ?_⟩
      | (refine ⟨fun hc => ?_, fun hc => ?_⟩ <;> (try simp (disch := omega) only [List.length_map, wrap64] at hc) <;> (try (exfalso; first | contradiction | omega)))
      | (refine ⟨⟨(by omega), (by omega), (by simp only [List.length_map] at *; simp only [LIM] at *; omega), (by simp only [List.length_map] at *; simp only [LIM] at *; omega)⟩, ?_⟩; (try simp only [List.length_map, Int.toNat_natCast]))
      | (refine ⟨_, slc_to rfl (by first | omega | (simp only [List.length_map] at *; omega)), ?_⟩; rw [map_take'])
      | (refine ⟨_, slc_toI rfl (by omega) (by first | omega | (simp only [List.length_map] at *; omega)), ?_⟩; rw [map_take'])
      | fail)
    conv => whnf
    refine ⟨⟨i + 1, k, updF f i _, ⟨rfl, rfl, congrArg I (wrap_up hi' hlen), trivial⟩, hi', hupd_at.trans (congrArg (fun z => some (Ob.arr ty_impl_Vote 2 z)) (vosF_set hx)), vos_g1 hx hf1 (fun j h => (hf2 j h).2) (fun j h => by have := (hf2 j h).1; omega) (by omega), vos_g2 hf2 (by omega) (by omega) (by omega), vos_g3 hf3 (fun j h => by have := (hf2 j h).1; omega), by omega, rfl⟩, ?_⟩
    show l.length - ix (I _) < l.length - ix (I _)
    simp only [wrap_up hi' hlen, ix, Int.toNat_natCast]
    omega
  · have hie : i = l.length := by omega
    subst hie
    repeat' ((conv => whnf); first
      | refine ⟨_, rfl, ?_⟩
      | refine ⟨rfl, ?_⟩
      | refine ⟨_, _, rfl, at_map (by assumption), ?_⟩
      | refine idx_mapX (i := 0) rfl (by assumption) ?_
      | refine idx_map (by omega) (fun x hx => ?_)
      | refine idx_mapX (wrap_dn (by omega) (by omega)) (by assumption) ?_
      | refine idx_mapE (wrap_dn (by omega) (by omega)) (by omega) (fun x hx => ?_)
      | refine idx_mapL (by omega) (by first | assumption | (simp only [LIM]; omega)) (fun x hx => ?_)
      | refine idx_mapI (by omega) (by first | omega | (simp only [List.length_map] at *; omega)) (fun x hx => ?_)
      | refine ⟨_, ldc_cells hupd_at (Nat.le_of_ble_eq_true rfl), ?_⟩
      | refine ⟨_, ldc_cells (by first | assumption | exact zk ‹_› (by omega) | exact zk (zk ‹_› (by omega)) (by omega)) (Nat.le_of_ble_eq_true rfl), ?_⟩
      | refine ⟨_, _, hupd_at, rfl, rfl, Nat.le_of_ble_eq_true rfl, ?_⟩
      | refine ⟨_, _, rfl, rfl, rfl, Nat.le_of_ble_eq_true rfl, ?_⟩
      | (refine ⟨?_, _, (?_ : (_ : Option Ob) = _), rfl, rfl, ?_, ?_⟩; rotate_left; (exact hk_); exact Nat.le_of_ble_eq_true rfl)
      | refine ⟨_, _, _, _, ((by exact hk_) : (_ : Option Ob) = _), rfl, at_mapA (by assumption), ?_⟩
      | refine idx_ow (by exact hk_) (by omega) (fun x hx => ?_)
      | refine ⟨_, _, _, _, ((by exact hk_) : (_ : Option Ob) = _), rfl, fill_at (by omega), ?_⟩
      | refine ⟨_, _, _, _, ((by exact hk_) : (_ : Option Ob) = _), fill_at (by omega), rfl, rfl, Nat.le_of_ble_eq_true rfl, ?_⟩
      | refine idx_owL (by exact hk_) (by omega) (by simp only [LIM]; omega) (fun x hx => ?_)
      | refine idx_owI (by exact hk_) (by omega) (by first | omega | (simp only [List.length_map] at *; omega)) (fun x hx => ?_)
      | refine ⟨_, _, _, _, ((by exact hk_) : (_ : Option Ob) = _), at_mapA (by assumption), rfl, rfl, Nat.le_of_ble_eq_true rfl, ?_⟩
      | refine ⟨_, ldc_pa (by exact hk_) (at_mapA (by assumption)) (Nat.le_of_ble_eq_true rfl), ?_⟩
      | refine ⟨_, rfl, rfl, _, ((by exact hk_) : (_ : Option Ob) = _), (by exact ap_), ?_⟩
      | refine ⟨_, news_ow hupd_at, newsz_ow hupd_at, _, ((by exact hk_) : (_ : Option Ob) = _), (by exact ap_), ?_⟩
      | refine ⟨_, _, _, ((by exact hk_) : (_ : Option Ob) = _), ?_⟩
      | refine ⟨_, ((by exact hk_) : (_ : Option Ob) = _), ?_⟩
      | refine ⟨(show _ ≠ _ from (by first | decide | omega)), ?_⟩
      | refine ⟨(show _ ≤ _ from (by exact ap_)), ?_⟩
      | (refine ⟨fun hc => ?_, fun hc => ?_⟩ <;> (try simp (disch := omega) only [List.length_map, wrap64] at hc) <;> (try (exfalso; first | contradiction | omega)))
      | (refine ⟨⟨(by omega), (by omega), (by simp only [List.length_map] at *; simp only [LIM] at *; omega), (by simp only [List.length_map] at *; simp only [LIM] at *; omega)⟩, ?_⟩; (try simp only [List.length_map, Int.toNat_natCast]))
      | (refine ⟨_, slc_to rfl (by first | omega | (simp only [List.length_map] at *; omega)), ?_⟩; rw [map_take'])
      | (refine ⟨_, slc_toI rfl (by omega) (by first | omega | (simp only [List.length_map] at *; omega)), ?_⟩; rw [map_take'])
      | fail)
    conv => whnf
    exact finM_vos (f := f) (Nat.le_refl _) (by rw [vosF_end (Nat.le_refl _)] at hk; exact hk) (fun j v hv => hf1 j v (List.getElem?_eq_some_iff.1 hv).1 hv) (fun j hj => (hf2 j hj).2) hf3 ⟨⟨_, rfl, .inl rfl⟩, trivial⟩ ⟨l, rfl, rfl, hpre.1, rfl, rfl⟩
end Av
end Go.Proofs.Ytdboofnogabefaa
/- Owned votes, seen by a callee that only reads; and what a call of the copy comes to. -/
namespace Go.Proofs.Ytdboofnogabefaa
namespace Av
open Go.RowKit
theorem allO_mk {α β : Type} {g : α → Option β} : ∀ {l : List α} {ys : List β}, l.length = ys.length → (∀ (i : Nat) x y, l[i]? = some x → ys[i]? = some y → g x = some y) → allO g l = some ys
  | [], [], _, _ => rfl
  | x :: r, y :: ys, h, hg => by
    have h1 := hg 0 x y rfl rfl
    have h2 : allO g r = some ys := allO_mk (by simpa using h) fun i a b ha hb => hg (i + 1) a b (by simpa using ha) (by simpa using hb)
    simp only [allO, h1, h2, Option.bind_some, Option.map_some]
  | [], _ :: _, h, _ => by simp at h
  | _ :: _, [], h, _ => by simp at h
theorem deep_c {H : Hp} {d s : Nat} (l : List FV) : allO (deep H (d + 1) s) (l.map AC.c) = some l := by
  refine allO_mk (by simp) fun i x y hx hy => ?_
  rw [List.getElem?_map, hy] at hx
  cases hx; rfl
theorem arA_deep {α : Type} {F : α → List FV} {H : Hp} {d s : Nat} (l : List α) : allO (allO (deep H (d + 1) s)) (arA F l) = some (l.map F) := by
  refine allO_mk (by simp [arA]) fun i x y hx hy => ?_
  rw [arA, List.getElem?_map] at hx
  rw [List.getElem?_map] at hy
  cases ha : l[i]? with
  | none => rw [ha] at hx; cases hx
  | some a =>
    rw [ha] at hx hy
    cases hx; cases hy
    exact deep_c _
theorem bor_deep {H : Hp} {k T sz : Nat} {xs : List (List AC)} {ys : List (List FV)} {sh : Option Nat} (h : H k = some (.arr T sz xs)) (hy : allO (allO (deep H 3 sz)) xs = some ys) : bor H sh (.ow k) = .c (.sl sz ys) := by
  simp only [bor, h]
  cases hz : fcellss xs with
  | none => simp only [hy]
  | some zs =>
    simp only
    have h1 := fcellss_eq hz
    have h2 : allO (allO (deep H 3 sz)) xs = some zs := by
      rw [h1]
      refine allO_mk (by simp) fun i x y hx hy => ?_
      rw [List.getElem?_map, hy] at hx
      cases hx; exact deep_c _
    rw [h2] at hy; cases hy; rfl
theorem deep_ow {H : Hp} {d sz k T s : Nat} {xs : List (List AC)} (h : H k = some (.arr T s xs)) : deep H (d + 1) sz (.ow k) = (allO (allO (deep H d s)) xs).map (.sl s ·) := by
  unfold deep
  simp only [h]
section
variable {P : Program} {g : Nat} {S : MSpec} {fr : Env} {H : Hp} {nm rm : Nat} {K : KV} {xs : List (X × List (Option Nat))}
end
end Av
end Go.Proofs.Ytdboofnogabefaa
/- The walks: the marks on chains. -/
namespace Go.Proofs.Ytdboofnogabefaa
namespace Av
open Go.RowKit
theorem set_at {xs : List (List AC)} {i : Nat} {a : List AC} (h : i < xs.length) : (xs.set i a)[i]? = some a := by rw [List.getElem?_set_self h]
theorem mk_at {c : List It} {k : Int} {i : Nat} (h : i < c.length) : ∃ x : It, (mkC i k ++ c.drop i)[i]? = some x ∧ (arA itF (mkC i k ++ c.drop i))[i]? = some ((itF x).map AC.c) := by
  have hl : i < (mkC i k ++ c.drop i).length := by rw [List.length_append, mkC_len, List.length_drop]; omega
  exact ⟨_, List.getElem?_eq_getElem hl, by rw [arA, List.getElem?_map, List.getElem?_eq_getElem hl]; rfl⟩
theorem mk_step {c : List It} {k : Int} {i : Nat} (h : i < c.length) : (mkC i k ++ c.drop i).set i ⟨k + 4 * i, ⟨k + 4 * i + 1, k + 4 * i + 2, k + 4 * i + 3⟩⟩ = mkC (i + 1) k ++ c.drop (i + 1) := by
  rw [mkC_snoc, List.append_assoc, List.set_append_right _ _ (by rw [mkC_len]; exact Nat.le_refl _), mkC_len, Nat.sub_self]
  congr 1
  rw [List.drop_eq_getElem_cons h]; rfl
set_option maxHeartbeats 4000000 in
set_option maxRecDepth 100000 in
theorem v_laws_markItemS_o : ValidM Try.prog n_laws_markItemS_o S_laws_markItemS_o := by
  refine validM_of_swp mixed is_laws_markItemS_o (by rintro _ _ ⟨⟨_ | c, k⟩, rfl, _⟩ <;> exact Nat.le_of_ble_eq_true rfl) ?_
  rintro _ _ rm ⟨⟨_ | c, k0⟩, rfl, rfl, hc, hk0, hkM⟩ hl
  · change swp _ _ _ _ _ 0 _
    repeat' ((conv => whnf); first
      | refine ⟨_, rfl, ?_⟩
      | refine ⟨rfl, ?_⟩
      | refine ⟨_, _, rfl, at_map (by assumption), ?_⟩
      | refine idx_mapX (i := 0) rfl (by assumption) ?_
      | refine idx_map (by omega) (fun x hx => ?_)
      | refine idx_mapX (wrap_dn (by omega) (by omega)) (by assumption) ?_
      | refine idx_mapE (wrap_dn (by omega) (by omega)) (by omega) (fun x hx => ?_)
      | refine idx_mapL (by omega) (by first | assumption | (simp only [LIM]; omega)) (fun x hx => ?_)
      | refine idx_mapI (by omega) (by first | omega | (simp only [List.length_map] at *; omega)) (fun x hx => ?_)
      | refine ⟨_, ldc_cells hupd_at (Nat.le_of_ble_eq_true rfl), ?_⟩
      | refine ⟨_, ldc_cells (by first | assumption | exact zk ‹_› (by omega) | exact zk (zk ‹_› (by omega)) (by omega)) (Nat.le_of_ble_eq_true rfl), ?_⟩
      | refine ⟨_, _, hupd_at, rfl, rfl, Nat.le_of_ble_eq_true rfl, ?_⟩
      | refine ⟨_, _, rfl, rfl, rfl, Nat.le_of_ble_eq_true rfl, ?_⟩
      | (refine ⟨?_, _, (?_ : (_ : Option Ob) = _), rfl, rfl, ?_, ?_⟩; rotate_left; (exact hk_); exact Nat.le_of_ble_eq_true rfl)
      | refine ⟨_, _, _, _, ((by exact hk_) : (_ : Option Ob) = _), rfl, at_mapA (by assumption), ?_⟩
      | refine idx_ow (by exact hk_) (by omega) (fun x hx => ?_)
      | refine ⟨_, _, _, _, ((by exact hk_) : (_ : Option Ob) = _), rfl, fill_at (by omega), ?_⟩
      | refine ⟨_, _, _, _, ((by exact hk_) : (_ : Option Ob) = _), fill_at (by omega), rfl, rfl, Nat.le_of_ble_eq_true rfl, ?_⟩
      | refine idx_owL (by exact hk_) (by omega) (by simp only [LIM]; omega) (fun x hx => ?_)
      | refine idx_owI (by exact hk_) (by omega) (by first | omega | (simp only [List.length_map] at *; omega)) (fun x hx => ?_)
      | refine ⟨_, _, _, _, ((by exact hk_) : (_ : Option Ob) = _), at_mapA (by assumption), rfl, rfl, Nat.le_of_ble_eq_true rfl, ?_⟩
      | refine ⟨_, ldc_pa (by exact hk_) (at_mapA (by assumption)) (Nat.le_of_ble_eq_true rfl), ?_⟩
      | refine ⟨_, rfl, rfl, _, ((by exact hk_) : (_ : Option Ob) = _), (by exact ap_), ?_⟩
      | refine ⟨_, news_ow hupd_at, newsz_ow hupd_at, _, ((by exact hk_) : (_ : Option Ob) = _), (by exact ap_), ?_⟩
      | refine ⟨_, _, _, ((by exact hk_) : (_ : Option Ob) = _), ?_⟩
      | refine ⟨_, ((by exact hk_) : (_ : Option Ob) = _), ?_⟩
      | refine ⟨(show _ ≠ _ from (by first | decide | omega)), ?_⟩
      | refine ⟨(show _ ≤ _ from (by exact ap_)), ?_⟩
      | (refine ⟨fun hc => ?_, fun hc => ?_⟩ <;> (try simp (disch := omega) only [List.length_map, wrap64] at hc))
      | (refine ⟨⟨(by omega), (by omega), (by simp only [List.length_map] at *; simp only [LIM] at *; omega), (by simp only [List.length_map] at *; simp only [LIM] at *; omega)⟩, ?_⟩; (try simp only [List.length_map, Int.toNat_natCast]))
      | (refine ⟨_, slc_to rfl (by first | omega | (simp only [List.length_map] at *; omega)), ?_⟩; rw [map_take'])
      | (refine ⟨_, slc_toI rfl (by omega) (by first | omega | (simp only [List.length_map] at *; omega)), ?_⟩; rw [map_take'])
      | fail)
    conv => whnf
    refine ⟨fun fr H nx rm' => Has fr [(0, one (chF [])), (1, I k0), (5, I 0)] ∧ rm' = rm, fun fr _ _ _ => 0, ⟨⟨rfl, rfl, rfl, trivial⟩, rfl⟩, ?_⟩
    rintro fr H nx rm' ⟨hfr, rfl⟩
    rw [hfr.eq]
    repeat' ((conv => whnf); first
      | exact finM_s0 (Nat.le_refl _) ⟨⟨_, rfl, .inl rfl⟩, trivial⟩ ⟨(none, k0), rfl, rfl, rfl, rfl⟩
      | refine ⟨_, rfl, ?_⟩
      | refine ⟨rfl, ?_⟩
      | refine ⟨_, _, rfl, at_map (by assumption), ?_⟩
      | refine idx_mapX (i := 0) rfl (by assumption) ?_
      | refine idx_map (by omega) (fun x hx => ?_)
      | refine idx_mapX (wrap_dn (by omega) (by omega)) (by assumption) ?_
      | refine idx_mapE (wrap_dn (by omega) (by omega)) (by omega) (fun x hx => ?_)
      | refine idx_mapL (by omega) (by first | assumption | (simp only [LIM]; omega)) (fun x hx => ?_)
      | refine idx_mapI (by omega) (by first | omega | (simp only [List.length_map] at *; omega)) (fun x hx => ?_)
      | refine ⟨_, ldc_cells hupd_at (Nat.le_of_ble_eq_true rfl), ?_⟩
      | refine ⟨_, ldc_cells (by first | assumption | exact zk ‹_› (by omega) | exact zk (zk ‹_› (by omega)) (by omega)) (Nat.le_of_ble_eq_true rfl), ?_⟩
      | refine ⟨_, _, hupd_at, rfl, rfl, Nat.le_of_ble_eq_true rfl, ?_⟩
      | refine ⟨_, _, rfl, rfl, rfl, Nat.le_of_ble_eq_true rfl, ?_⟩
      | (refine ⟨?_, _, (?_ : (_ : Option Ob) = _), rfl, rfl, ?_, ?_⟩; rotate_left; (exact hk_); exact Nat.le_of_ble_eq_true rfl)
      | refine ⟨_, _, _, _, ((by exact hk_) : (_ : Option Ob) = _), rfl, at_mapA (by assumption), ?_⟩
      | refine idx_ow (by exact hk_) (by omega) (fun x hx => ?_)
      | refine ⟨_, _, _, _, ((by exact hk_) : (_ : Option Ob) = _), rfl, fill_at (by omega), ?_⟩
      | refine ⟨_, _, _, _, ((by exact hk_) : (_ : Option Ob) = _), fill_at (by omega), rfl, rfl, Nat.le_of_ble_eq_true rfl, ?_⟩
      | refine idx_owL (by exact hk_) (by omega) (by simp only [LIM]; omega) (fun x hx => ?_)
      | refine idx_owI (by exact hk_) (by omega) (by first | omega | (simp only [List.length_map] at *; omega)) (fun x hx => ?_)
      | refine ⟨_, _, _, _, ((by exact hk_) : (_ : Option Ob) = _), at_mapA (by assumption), rfl, rfl, Nat.le_of_ble_eq_true rfl, ?_⟩
      | refine ⟨_, ldc_pa (by exact hk_) (at_mapA (by assumption)) (Nat.le_of_ble_eq_true rfl), ?_⟩
      | refine ⟨_, rfl, rfl, _, ((by exact hk_) : (_ : Option Ob) = _), (by exact ap_), ?_⟩
      | refine ⟨_, news_ow hupd_at, newsz_ow hupd_at, _, ((by exact hk_) : (_ : Option Ob) = _), (by exact ap_), ?_⟩
      | refine ⟨_, _, _, ((by exact hk_) : (_ : Option Ob) = _), ?_⟩
      | refine ⟨_, ((by exact hk_) : (_ : Option Ob) = _), ?_⟩
      | refine ⟨(show _ ≠ _ from (by first | decide | omega)), ?_⟩
      | refine ⟨(show _ ≤ _ from (by exact ap_)), ?_⟩
      | (refine ⟨fun hc => ?_, fun hc => ?_⟩ <;> (try simp (disch := omega) only [List.length_map, wrap64] at hc) <;> (try (exfalso; first | contradiction | omega)))
      | (refine ⟨⟨(by omega), (by omega), (by simp only [List.length_map] at *; simp only [LIM] at *; omega), (by simp only [List.length_map] at *; simp only [LIM] at *; omega)⟩, ?_⟩; (try simp only [List.length_map, Int.toNat_natCast]))
      | (refine ⟨_, slc_to rfl (by first | omega | (simp only [List.length_map] at *; omega)), ?_⟩; rw [map_take'])
      | (refine ⟨_, slc_toI rfl (by omega) (by first | omega | (simp only [List.length_map] at *; omega)), ?_⟩; rw [map_take'])
      | fail)
  · change swp _ _ _ _ _ 1 _
    have hcl : c.length ≤ SM := hc c rfl
    have hcl' := hcl
    simp only [SM] at hcl'
    dsimp only at hk0 hkM
    simp only [MK] at hkM
    repeat' ((conv => whnf); first
      | refine ⟨_, rfl, ?_⟩
      | refine ⟨rfl, ?_⟩
      | refine ⟨_, _, rfl, at_map (by assumption), ?_⟩
      | refine idx_mapX (i := 0) rfl (by assumption) ?_
      | refine idx_map (by omega) (fun x hx => ?_)
      | refine idx_mapX (wrap_dn (by omega) (by omega)) (by assumption) ?_
      | refine idx_mapE (wrap_dn (by omega) (by omega)) (by omega) (fun x hx => ?_)
      | refine idx_mapL (by omega) (by first | assumption | (simp only [LIM]; omega)) (fun x hx => ?_)
      | refine idx_mapI (by omega) (by first | omega | (simp only [List.length_map] at *; omega)) (fun x hx => ?_)
      | refine ⟨_, ldc_cells hupd_at (Nat.le_of_ble_eq_true rfl), ?_⟩
      | refine ⟨_, ldc_cells (by first | assumption | exact zk ‹_› (by omega) | exact zk (zk ‹_› (by omega)) (by omega)) (Nat.le_of_ble_eq_true rfl), ?_⟩
      | refine ⟨_, _, hupd_at, rfl, rfl, Nat.le_of_ble_eq_true rfl, ?_⟩
      | refine ⟨_, _, rfl, rfl, rfl, Nat.le_of_ble_eq_true rfl, ?_⟩
      | (refine ⟨?_, _, (?_ : (_ : Option Ob) = _), rfl, rfl, ?_, ?_⟩; rotate_left; (exact hk_); exact Nat.le_of_ble_eq_true rfl)
      | refine ⟨_, _, _, _, ((by exact hk_) : (_ : Option Ob) = _), rfl, at_mapA (by assumption), ?_⟩
      | refine idx_ow (by exact hk_) (by omega) (fun x hx => ?_)
      | refine ⟨_, _, _, _, ((by exact hk_) : (_ : Option Ob) = _), rfl, fill_at (by omega), ?_⟩
      | refine ⟨_, _, _, _, ((by exact hk_) : (_ : Option Ob) = _), fill_at (by omega), rfl, rfl, Nat.le_of_ble_eq_true rfl, ?_⟩
      | refine idx_owL (by exact hk_) (by omega) (by simp only [LIM]; omega) (fun x hx => ?_)
      | refine idx_owI (by exact hk_) (by omega) (by first | omega | (simp only [List.length_map] at *; omega)) (fun x hx => ?_)
      | refine ⟨_, _, _, _, ((by exact hk_) : (_ : Option Ob) = _), at_mapA (by assumption), rfl, rfl, Nat.le_of_ble_eq_true rfl, ?_⟩
      | refine ⟨_, ldc_pa (by exact hk_) (at_mapA (by assumption)) (Nat.le_of_ble_eq_true rfl), ?_⟩
      | refine ⟨_, rfl, rfl, _, ((by exact hk_) : (_ : Option Ob) = _), (by exact ap_), ?_⟩
      | refine ⟨_, news_ow hupd_at, newsz_ow hupd_at, _, ((by exact hk_) : (_ : Option Ob) = _), (by exact ap_), ?_⟩
      | refine ⟨_, _, _, ((by exact hk_) : (_ : Option Ob) = _), ?_⟩
      | refine ⟨_, ((by exact hk_) : (_ : Option Ob) = _), ?_⟩
      | refine ⟨(show _ ≠ _ from (by first | decide | omega)), ?_⟩
      | refine ⟨(show _ ≤ _ from (by exact ap_)), ?_⟩
      | (refine ⟨fun hc => ?_, fun hc => ?_⟩ <;> (try simp (disch := omega) only [List.length_map, wrap64] at hc))
      | (refine ⟨⟨(by omega), (by omega), (by simp only [List.length_map] at *; simp only [LIM] at *; omega), (by simp only [List.length_map] at *; simp only [LIM] at *; omega)⟩, ?_⟩; (try simp only [List.length_map, Int.toNat_natCast]))
      | (refine ⟨_, slc_to rfl (by first | omega | (simp only [List.length_map] at *; omega)), ?_⟩; rw [map_take'])
      | (refine ⟨_, slc_toI rfl (by omega) (by first | omega | (simp only [List.length_map] at *; omega)), ?_⟩; rw [map_take'])
      | fail)
    conv => whnf
    refine ⟨fun fr H nx rm' => ∃ i : Nat, Has fr [(0, ow0), (1, I (k0 + 4 * i)), (5, I i)] ∧ i ≤ c.length ∧ H 0 = some (itO (mkC i k0 ++ c.drop i)) ∧ 1 ≤ nx ∧ rm' = rm,
      fun fr _ _ _ => c.length - ix (fr 5), ⟨0, ⟨rfl, congrArg I (by omega), rfl, trivial⟩, Nat.zero_le _, rfl, ln_, rfl⟩, ?_⟩
    rintro fr H nx rm' ⟨i, hfr, hi, hH0, hnx, rfl⟩
    rw [hfr.eq]
    have hlL : (mkC i k0 ++ c.drop i).length = c.length := by rw [List.length_append, mkC_len, List.length_drop]; omega
    have hll : (arA itF (mkC i k0 ++ c.drop i)).length = c.length := by rw [arA, List.length_map, List.length_append, mkC_len, List.length_drop]; omega
    rcases Nat.lt_or_ge i c.length with hi' | hi'
    · obtain ⟨x, hx, hax⟩ := mk_at (k := k0) hi'
      have w1 : IntKind.i64.wrap (k0 + 4 * (i : Int) + 1) = k0 + 4 * (i : Int) + 1 := by rw [wrap64] <;> omega
      have w2 : IntKind.i64.wrap (k0 + 4 * (i : Int) + 1 + 1) = k0 + 4 * (i : Int) + 2 := by rw [wrap64] <;> omega
      have w3 : IntKind.i64.wrap (k0 + 4 * (i : Int) + 2 + 1) = k0 + 4 * (i : Int) + 3 := by rw [wrap64] <;> omega
      have w4 : IntKind.i64.wrap (k0 + 4 * (i : Int) + 3 + 1) = k0 + 4 * ((i + 1 : Nat) : Int) := by rw [wrap64] <;> omega
      repeat' ((conv => whnf); first
        | (refine ⟨_, _, _, _, hH0, rfl, hax, ?_⟩)
        | (refine ⟨_, _, _, _, hH0, hax, rfl, rfl, Nat.le_of_ble_eq_true rfl, ?_⟩)
        | (refine ⟨_, _, _, _, hupd_at, rfl, set_at (by (try simp only [List.length_set]); omega), ?_⟩)
        | (refine ⟨_, _, _, _, hupd_at, set_at (by (try simp only [List.length_set]); omega), rfl, rfl, Nat.le_of_ble_eq_true rfl, ?_⟩)
        | (refine ⟨⟨i + 1, ⟨rfl, congrArg I (by rw [w1, w2, w3, w4]), congrArg I (wrap_up hi' (Nat.le_trans hcl (by decide))), trivial⟩, hi', hupd_at.trans (by rw [List.set_set, List.set_set, List.set_set, ← mk_step hi']; exact arr_set (F := itF) (x := ⟨k0 + 4 * i, ⟨k0 + 4 * i + 1, k0 + 4 * i + 2, k0 + 4 * i + 3⟩⟩) (by simp [put, itF, w1, w2, w3])), by omega, rfl⟩, ?_⟩; show c.length - ix (I _) < c.length - ix (I _); simp only [wrap_up hi' (Nat.le_trans hcl (by decide)), ix, Int.toNat_natCast]; omega)
        | refine ⟨_, rfl, ?_⟩
        | refine ⟨rfl, ?_⟩
        | refine ⟨_, _, rfl, at_map (by assumption), ?_⟩
        | refine idx_mapX (i := 0) rfl (by assumption) ?_
        | refine idx_map (by omega) (fun x hx => ?_)
        | refine idx_mapX (wrap_dn (by omega) (by omega)) (by assumption) ?_
        | refine idx_mapE (wrap_dn (by omega) (by omega)) (by omega) (fun x hx => ?_)
        | refine idx_mapL (by omega) (by first | assumption | (simp only [LIM]; omega)) (fun x hx => ?_)
        | refine idx_mapI (by omega) (by first | omega | (simp only [List.length_map] at *; omega)) (fun x hx => ?_)
        | refine ⟨_, ldc_cells hupd_at (Nat.le_of_ble_eq_true rfl), ?_⟩
        | refine ⟨_, ldc_cells (by first | assumption | exact zk ‹_› (by omega) | exact zk (zk ‹_› (by omega)) (by omega)) (Nat.le_of_ble_eq_true rfl), ?_⟩
        | refine ⟨_, _, hupd_at, rfl, rfl, Nat.le_of_ble_eq_true rfl, ?_⟩
        | refine ⟨_, _, rfl, rfl, rfl, Nat.le_of_ble_eq_true rfl, ?_⟩
        | (refine ⟨?_, _, (?_ : (_ : Option Ob) = _), rfl, rfl, ?_, ?_⟩; rotate_left; (exact hk_); exact Nat.le_of_ble_eq_true rfl)
        | refine ⟨_, _, _, _, ((by exact hk_) : (_ : Option Ob) = _), rfl, at_mapA (by assumption), ?_⟩
        | refine idx_ow (by exact hk_) (by omega) (fun x hx => ?_)
        | refine ⟨_, _, _, _, ((by exact hk_) : (_ : Option Ob) = _), rfl, fill_at (by omega), ?_⟩
        | refine ⟨_, _, _, _, ((by exact hk_) : (_ : Option Ob) = _), fill_at (by omega), rfl, rfl, Nat.le_of_ble_eq_true rfl, ?_⟩
        | refine idx_owL (by exact hk_) (by omega) (by simp only [LIM]; omega) (fun x hx => ?_)
        | refine idx_owI (by exact hk_) (by omega) (by first | omega | (simp only [List.length_map] at *; omega)) (fun x hx => ?_)
        | refine ⟨_, _, _, _, ((by exact hk_) : (_ : Option Ob) = _), at_mapA (by assumption), rfl, rfl, Nat.le_of_ble_eq_true rfl, ?_⟩
        | refine ⟨_, ldc_pa (by exact hk_) (at_mapA (by assumption)) (Nat.le_of_ble_eq_true rfl), ?_⟩
        | refine ⟨_, rfl, rfl, _, ((by exact hk_) : (_ : Option Ob) = _), (by exact ap_), ?_⟩
        | refine ⟨_, news_ow hupd_at, newsz_ow hupd_at, _, ((by exact hk_) : (_ : Option Ob) = _), (by exact ap_), ?_⟩
        | refine ⟨_, _, _, ((by exact hk_) : (_ : Option Ob) = _), ?_⟩
        | refine ⟨_, ((by exact hk_) : (_ : Option Ob) = _), ?_⟩
        | refine ⟨(show _ ≠ _ from (by first | decide | omega)), ?_⟩
        | refine ⟨(show _ ≤ _ from (by exact ap_)), ?_⟩
        | (refine ⟨fun hc => ?_, fun hc => ?_⟩ <;> (try simp (disch := omega) only [List.length_map, wrap64] at hc) <;> (try (exfalso; first | contradiction | omega)))
        | (refine ⟨⟨(by omega), (by omega), (by simp only [List.length_map] at *; simp only [LIM] at *; omega), (by simp only [List.length_map] at *; simp only [LIM] at *; omega)⟩, ?_⟩; (try simp only [List.length_map, Int.toNat_natCast]))
        | (refine ⟨_, slc_to rfl (by first | omega | (simp only [List.length_map] at *; omega)), ?_⟩; rw [map_take'])
        | (refine ⟨_, slc_toI rfl (by omega) (by first | omega | (simp only [List.length_map] at *; omega)), ?_⟩; rw [map_take'])
        | fail)
    · have hie : i = c.length := by omega
      subst hie
      rw [List.drop_length, List.append_nil] at hH0
      have hmL := mkC_len c.length k0
      have hmA : (arA itF (mkC c.length k0)).length = c.length := by rw [arA, List.length_map, mkC_len]
      repeat' ((conv => whnf); first
        | exact finM_s1 (F := itF) (T := ty_impl_Item) (sz := 4) (l := mkC c.length k0) (Nat.le_refl _) hH0 ⟨⟨_, rfl, .inl rfl⟩, trivial⟩ ⟨(some c, k0), rfl, rfl, rfl, rfl⟩
        | refine ⟨_, rfl, ?_⟩
        | refine ⟨rfl, ?_⟩
        | refine ⟨_, _, rfl, at_map (by assumption), ?_⟩
        | refine idx_mapX (i := 0) rfl (by assumption) ?_
        | refine idx_map (by omega) (fun x hx => ?_)
        | refine idx_mapX (wrap_dn (by omega) (by omega)) (by assumption) ?_
        | refine idx_mapE (wrap_dn (by omega) (by omega)) (by omega) (fun x hx => ?_)
        | refine idx_mapL (by omega) (by first | assumption | (simp only [LIM]; omega)) (fun x hx => ?_)
        | refine idx_mapI (by omega) (by first | omega | (simp only [List.length_map] at *; omega)) (fun x hx => ?_)
        | refine ⟨_, ldc_cells hupd_at (Nat.le_of_ble_eq_true rfl), ?_⟩
        | refine ⟨_, ldc_cells (by first | assumption | exact zk ‹_› (by omega) | exact zk (zk ‹_› (by omega)) (by omega)) (Nat.le_of_ble_eq_true rfl), ?_⟩
        | refine ⟨_, _, hupd_at, rfl, rfl, Nat.le_of_ble_eq_true rfl, ?_⟩
        | refine ⟨_, _, rfl, rfl, rfl, Nat.le_of_ble_eq_true rfl, ?_⟩
        | (refine ⟨?_, _, (?_ : (_ : Option Ob) = _), rfl, rfl, ?_, ?_⟩; rotate_left; (exact hk_); exact Nat.le_of_ble_eq_true rfl)
        | refine ⟨_, _, _, _, ((by exact hk_) : (_ : Option Ob) = _), rfl, at_mapA (by assumption), ?_⟩
        | refine idx_ow (by exact hk_) (by omega) (fun x hx => ?_)
        | refine ⟨_, _, _, _, ((by exact hk_) : (_ : Option Ob) = _), rfl, fill_at (by omega), ?_⟩
        | refine ⟨_, _, _, _, ((by exact hk_) : (_ : Option Ob) = _), fill_at (by omega), rfl, rfl, Nat.le_of_ble_eq_true rfl, ?_⟩
        | refine idx_owL (by exact hk_) (by omega) (by simp only [LIM]; omega) (fun x hx => ?_)
        | refine idx_owI (by exact hk_) (by omega) (by first | omega | (simp only [List.length_map] at *; omega)) (fun x hx => ?_)
        | refine ⟨_, _, _, _, ((by exact hk_) : (_ : Option Ob) = _), at_mapA (by assumption), rfl, rfl, Nat.le_of_ble_eq_true rfl, ?_⟩
        | refine ⟨_, ldc_pa (by exact hk_) (at_mapA (by assumption)) (Nat.le_of_ble_eq_true rfl), ?_⟩
        | refine ⟨_, rfl, rfl, _, ((by exact hk_) : (_ : Option Ob) = _), (by exact ap_), ?_⟩
        | refine ⟨_, news_ow hupd_at, newsz_ow hupd_at, _, ((by exact hk_) : (_ : Option Ob) = _), (by exact ap_), ?_⟩
        | refine ⟨_, _, _, ((by exact hk_) : (_ : Option Ob) = _), ?_⟩
        | refine ⟨_, ((by exact hk_) : (_ : Option Ob) = _), ?_⟩
        | refine ⟨(show _ ≠ _ from (by first | decide | omega)), ?_⟩
        | refine ⟨(show _ ≤ _ from (by exact ap_)), ?_⟩
        | (refine ⟨fun hc => ?_, fun hc => ?_⟩ <;> (try simp (disch := omega) only [List.length_map, wrap64] at hc) <;> (try (exfalso; first | contradiction | omega)))
        | (refine ⟨⟨(by omega), (by omega), (by simp only [List.length_map] at *; simp only [LIM] at *; omega), (by simp only [List.length_map] at *; simp only [LIM] at *; omega)⟩, ?_⟩; (try simp only [List.length_map, Int.toNat_natCast]))
        | (refine ⟨_, slc_to rfl (by first | omega | (simp only [List.length_map] at *; omega)), ?_⟩; rw [map_take'])
        | (refine ⟨_, slc_toI rfl (by omega) (by first | omega | (simp only [List.length_map] at *; omega)), ?_⟩; rw [map_take'])
        | fail)
end Av
end Go.Proofs.Ytdboofnogabefaa
/- The walk: 'the marks stand' on chains. -/
namespace Go.Proofs.Ytdboofnogabefaa
namespace Av
open Go.RowKit
attribute [local irreducible] mkC
set_option maxHeartbeats 4000000 in
set_option maxRecDepth 100000 in
theorem v_laws_heldItemS : Valid Try.prog n_laws_heldItemS S_laws_heldItemS := by
  refine valid_of_swp mixed is_laws_heldItemS (by rintro _ ⟨a, rfl, _⟩; exact Nat.le_of_ble_eq_true rfl) ?_
  rintro _ rm ⟨⟨n, k0⟩, rfl, hn, hk0, hkM⟩ hl
  dsimp only at hn hk0 hkM
  have hn' := hn
  simp only [SM] at hn'
  simp only [MK] at hkM
  have hml := mkC_len n k0
  repeat' ((conv => whnf); first
    | refine ⟨_, rfl, ?_⟩
    | refine ⟨rfl, ?_⟩
    | refine ⟨_, _, rfl, at_map (by assumption), ?_⟩
    | refine idx_mapX (i := 0) rfl (by assumption) ?_
    | refine idx_map (by omega) (fun x hx => ?_)
    | refine idx_mapX (wrap_dn (by omega) (by omega)) (by assumption) ?_
    | refine idx_mapE (wrap_dn (by omega) (by omega)) (by omega) (fun x hx => ?_)
    | refine idx_mapL (by omega) (by first | assumption | (simp only [LIM]; omega)) (fun x hx => ?_)
    | refine idx_mapI (by omega) (by first | omega | (simp only [List.length_map] at *; omega)) (fun x hx => ?_)
    | refine ⟨_, ldc_cells hupd_at (Nat.le_of_ble_eq_true rfl), ?_⟩
    | refine ⟨_, ldc_cells (by first | assumption | exact zk ‹_› (by omega) | exact zk (zk ‹_› (by omega)) (by omega)) (Nat.le_of_ble_eq_true rfl), ?_⟩
    | (refine ⟨fun hc => ?_, fun hc => ?_⟩ <;> (try simp (disch := omega) only [List.length_map, wrap64] at hc))
    | fail)
  conv => whnf
  refine ⟨fun fr H nx rm' => ∃ i : Nat, Has fr [(0, one (chF (mkC n k0))), (1, I (k0 + 4 * i)), (5, I i)] ∧ i ≤ n ∧ 1 ≤ nx ∧ H 0 = none ∧ rm' = rm,
    fun fr _ _ _ => n - ix (fr 5), ⟨0, ⟨rfl, congrArg I (by omega), rfl, trivial⟩, Nat.zero_le _, ln_, ne_, rfl⟩, ?_⟩
  rintro fr H nx rm' ⟨i, hfr, hi, hnx, hH, rfl⟩
  rw [hfr.eq]
  rcases Nat.lt_or_ge i n with hi' | hi'
  · have hx := mkC_at n k0 i hi'
    have w1 : IntKind.i64.wrap (k0 + 4 * (i : Int) + 1) = k0 + 4 * (i : Int) + 1 := by rw [wrap64] <;> omega
    have w2 : IntKind.i64.wrap (k0 + 4 * (i : Int) + 1 + 1) = k0 + 4 * (i : Int) + 2 := by rw [wrap64] <;> omega
    have w3 : IntKind.i64.wrap (k0 + 4 * (i : Int) + 2 + 1) = k0 + 4 * (i : Int) + 3 := by rw [wrap64] <;> omega
    have w4 : IntKind.i64.wrap (k0 + 4 * (i : Int) + 3 + 1) = k0 + 4 * ((i + 1 : Nat) : Int) := by rw [wrap64] <;> omega
    repeat' ((conv => whnf); first
      | refine ⟨_, _, rfl, at_map hx, ?_⟩
      | (refine ⟨fun hc => ?_, fun hc => ?_⟩ <;> (try simp only [w1, w2, w3, w4, List.length_map] at hc) <;> (try (exfalso; first | contradiction | omega)))
      | (refine ⟨⟨i + 1, ⟨rfl, congrArg I (by rw [w1, w2, w3, w4]), congrArg I (wrap_up hi' (Nat.le_trans hn (by decide))), trivial⟩, hi', by omega, h0_, rfl⟩, ?_⟩; show n - ix (I _) < n - ix (I _); simp only [wrap_up hi' (Nat.le_trans hn (by decide)), ix, Int.toNat_natCast]; omega)
      | refine ⟨_, rfl, ?_⟩
      | refine ⟨rfl, ?_⟩
      | refine ⟨_, _, rfl, at_map (by assumption), ?_⟩
      | refine idx_mapX (i := 0) rfl (by assumption) ?_
      | refine idx_map (by omega) (fun x hx => ?_)
      | refine idx_mapX (wrap_dn (by omega) (by omega)) (by assumption) ?_
      | refine idx_mapE (wrap_dn (by omega) (by omega)) (by omega) (fun x hx => ?_)
      | refine idx_mapL (by omega) (by first | assumption | (simp only [LIM]; omega)) (fun x hx => ?_)
      | refine idx_mapI (by omega) (by first | omega | (simp only [List.length_map] at *; omega)) (fun x hx => ?_)
      | refine ⟨_, ldc_cells hupd_at (Nat.le_of_ble_eq_true rfl), ?_⟩
      | refine ⟨_, ldc_cells (by first | assumption | exact zk ‹_› (by omega) | exact zk (zk ‹_› (by omega)) (by omega)) (Nat.le_of_ble_eq_true rfl), ?_⟩
      | (refine ⟨fun hc => ?_, fun hc => ?_⟩ <;> (try simp (disch := omega) only [List.length_map, wrap64] at hc))
      | fail)
  · have hie : i = n := by omega
    subst hie
    repeat' ((conv => whnf); first
      | exact ⟨⟨_, rfl, rfl, (i, k0), rfl, rfl⟩, Nat.le_refl _, h0_⟩
      | refine ⟨_, rfl, ?_⟩
      | refine ⟨rfl, ?_⟩
      | refine ⟨_, _, rfl, at_map (by assumption), ?_⟩
      | refine idx_mapX (i := 0) rfl (by assumption) ?_
      | refine idx_map (by omega) (fun x hx => ?_)
      | refine idx_mapX (wrap_dn (by omega) (by omega)) (by assumption) ?_
      | refine idx_mapE (wrap_dn (by omega) (by omega)) (by omega) (fun x hx => ?_)
      | refine idx_mapL (by omega) (by first | assumption | (simp only [LIM]; omega)) (fun x hx => ?_)
      | refine idx_mapI (by omega) (by first | omega | (simp only [List.length_map] at *; omega)) (fun x hx => ?_)
      | refine ⟨_, ldc_cells hupd_at (Nat.le_of_ble_eq_true rfl), ?_⟩
      | refine ⟨_, ldc_cells (by first | assumption | exact zk ‹_› (by omega) | exact zk (zk ‹_› (by omega)) (by omega)) (Nat.le_of_ble_eq_true rfl), ?_⟩
      | (refine ⟨fun hc => ?_, fun hc => ?_⟩ <;> (try simp (disch := omega) only [List.length_map, wrap64] at hc) <;> (try (exfalso; first | contradiction | omega)))
      | fail)
end Av
end Go.Proofs.Ytdboofnogabefaa
/- The walk: the marks on votes. -/
namespace Go.Proofs.Ytdboofnogabefaa
namespace Av
open Go.RowKit
theorem vosK_at {f : Nat → Nat} {l : List Vo} {i : Nat} {x : Vo} (hx : l[i]? = some x) : (vosK f l)[i]? = some (voK x (f i)) := by
  simp only [vosK, List.getElem?_mapIdx, hx, Option.map_some]
theorem vosK_set {f : Nat → Nat} {l : List Vo} {i : Nat} {x : Vo} (h : i < l.length) : (vosK f l).set i (voK x (f i)) = vosK f (l.set i x) := by
  apply List.ext_getElem?
  intro j
  simp only [vosK, List.getElem?_set, List.getElem?_mapIdx, List.length_mapIdx]
  by_cases e : i = j
  · subst e; simp [h]
  · simp [e]
theorem vosK_len {f : Nat → Nat} {l : List Vo} : (vosK f l).length = l.length := by simp [vosK]
theorem mark_heap {H : Hp} {l : List Vo} {k0 e : Int} {i : Nat} {x : Vo} {ob : Option Ob} (hx : l[i]? = some x) (he : e = endV (l.take i) k0) (hH1 : ∀ j v, (partV l k0 i)[j]? = some v → H (j + 1) = some (itO v.c)) :
    ∀ j v, (partV l k0 (i + 1))[j]? = some v → hupd (i + 1) (some (itO (mkC x.c.length (e + 1)))) (hupd 0 ob H) (j + 1) = some (itO v.c) := by
  intro j v hj
  have hi := (List.getElem?_eq_some_iff.1 hx).1
  rw [← partV_step hx, List.getElem?_set, partV_len (Nat.le_of_lt hi)] at hj
  by_cases h : i = j
  · subst h
    rw [if_pos rfl, if_pos hi] at hj
    cases hj
    rw [hupd_at, he]
  · rw [if_neg h] at hj
    rw [hupd_ne (by omega), hupd_ne (by omega)]
    exact hH1 j v hj
section
variable {fr : Env} {H : Hp} {nx rm' lim : Nat} {res : List Rs} {post : AV → List (Option Ob) → Prop}
theorem finM_in {l : List Vo} {n : Int} {N : Nat} (hrm : rm' ≤ lim) (hN : N = l.length + 1) (hk : H 0 = some (vosO (· + 1) l)) (hf : ∀ j v, l[j]? = some v → H (j + 1) = some (itO v.c)) (hres : resM (List.range (l.length + 1)) fr H res [.o (.c (fI n))]) (hpost : post (I n) (vosObs l)) :
    rm' ≤ lim ∧ ∃ (ks : List Nat) (az : List AW) (r : AV) (obs' : List (Option Ob)), resM ks fr H res az ∧ resV az = r.ren (nmap ks nx) ∧ post r obs' ∧
      ks.Nodup ∧ (∀ i, i < N → ks[i]? = some i) ∧ obs'.length = ks.length ∧
      ∀ (i k : Nat), ks[i]? = some k → (∃ ob : Ob, obs'[i]? = some (some ob) ∧ H k = some (ob.ren (nmap ks nx))) ∨ (obs'[i]? = some none ∧ H k = none) := by
  have hat : ∀ j, j < l.length + 1 → (List.range (l.length + 1))[j]? = some j := fun j hj => List.getElem?_range hj
  refine ⟨hrm, List.range (l.length + 1), _, I n, _, hres, rfl, hpost, List.nodup_range, fun i hi => hat i (by omega), by rw [vosObs_len]; simp, fun i k' h => ?_⟩
  left
  have hi : i < l.length + 1 := by
    have := (List.getElem?_eq_some_iff.1 h).1
    simpa using this
  rw [hat i hi] at h
  cases h
  cases i with
  | zero =>
    refine ⟨vosO (· + 1) l, rfl, ?_⟩
    rw [vosK_ren (f := (· + 1)) (fun j hj => nmap_lt (hat (j + 1) (by omega)))]; exact hk
  | succ j =>
    have hj : j < l.length := by omega
    refine ⟨itO l[j].c, by simp [vosObs, hj], ?_⟩
    rw [arr_ren]; exact hf j _ (List.getElem?_eq_getElem hj)
end
set_option maxHeartbeats 4000000 in
set_option maxRecDepth 100000 in
theorem v_laws_markVoteS_o : ValidM Try.prog n_laws_markVoteS_o S_laws_markVoteS_o := by
  refine validM_of_swp mixed is_laws_markVoteS_o (by rintro _ _ ⟨a, rfl, _⟩; exact Nat.le_of_ble_eq_true rfl) ?_
  rintro _ _ rm ⟨⟨l, k0⟩, rfl, rfl, hpre⟩ hl
  try dsimp only at hpre
  obtain ⟨hsm, hk0, hkM⟩ := hpre
  have hlen : l.length ≤ 2097152 := hsm.1
  have hE1 : ∀ j v, l[j]? = some v → (vosIn l)[j + 1]? = some (itO v.c) := fun j v hj => by simp [vosIn, hj]
  have hE0 : (vosIn l)[0]? = some (vosO (· + 1) l) := rfl
  have hEl : (vosIn l).length = l.length + 1 := by simp [vosIn]
  have hbd := fun i => endV_bounds (l.take i) k0 fun v hv => hsm.2 v (List.mem_of_mem_take hv)
  have htl : ∀ i, (l.take i).length ≤ l.length := fun i => by rw [List.length_take]; omega
  conv => whnf
  conv => whnf
  refine ⟨fun fr H nx rm' => ∃ i : Nat, Has fr [(0, ow0), (1, I (endV (l.take i) k0)), (5, I i)] ∧ i ≤ l.length ∧ H 0 = some (vosO (· + 1) (partV l k0 i)) ∧ (∀ j v, (partV l k0 i)[j]? = some v → H (j + 1) = some (itO v.c)) ∧ l.length < nx ∧ rm' = rm,
    fun fr _ _ _ => l.length - ix (fr 5), ⟨0, ⟨rfl, rfl, rfl, trivial⟩, Nat.zero_le _, by rw [partV_zero]; exact hE0, by rw [partV_zero]; exact hE1, by show _ < (vosIn l).length + 16 + 16; omega, rfl⟩, ?_⟩
  rintro fr H nx rm' ⟨i, hfr, hi, hH0, hH1, hnx, rfl⟩
  rw [hfr.eq]
  have hpl := partV_len (k := k0) hi
  have hvl : (vosK (· + 1) (partV l k0 i)).length = l.length := by rw [vosK_len, hpl]
  rcases Nat.lt_or_ge i l.length with hi' | hi'
  · obtain ⟨x, hx⟩ : ∃ x, l[i]? = some x := ⟨_, List.getElem?_eq_getElem hi'⟩
    have hax := partV_at (k := k0) hx
    have hvat := vosK_at (f := (· + 1)) hax
    have hb := hbd i
    have ht := htl i
    have hxc : x.c.length ≤ SM := hsm.2 x (List.mem_of_getElem? hx)
    have hxc' := hxc
    simp only [SM] at hxc'
    have w1 : IntKind.i64.wrap (endV (l.take i) k0 + 1) = endV (l.take i) k0 + 1 := by rw [wrap64] <;> omega
    repeat' ((conv => whnf); first
      | (refine ⟨_, _, _, _, hH0, rfl, hvat, ?_⟩)
      | (refine ⟨_, _, _, _, hH0, hvat, rfl, rfl, Nat.le_of_ble_eq_true rfl, ?_⟩)
      | (refine ⟨_, _, _, _, hupd_at, rfl, set_at (by (try simp only [List.length_set]); omega), ?_⟩)
      | (refine ⟨_, ldc_pa hupd_at (set_at (by (try simp only [List.length_set]); omega)) (Nat.le_of_ble_eq_true rfl), ?_⟩)
      | (refine mq_mark (F := itF) (T := ty_impl_Item) (sz := 4) (k := i + 1) (l := x.c) (l' := mkC x.c.length (IntKind.i64.wrap (endV (l.take i) k0 + 1))) (n := IntKind.i64.wrap (endV (l.take i) k0 + 1)) v_laws_markItemS_o (by exact hl) (zk (hH1 i x hax) (by omega)) rfl ⟨(some x.c, _), rfl, rfl, fun c hc => by cases hc; exact hxc, by dsimp only; rw [w1]; omega, by dsimp only [MK]; rw [w1]; omega⟩ (fun r obs' h => K_mark_o h) ?_)
      | refine ⟨_, rfl, ?_⟩
      | refine ⟨rfl, ?_⟩
      | refine ⟨_, _, rfl, at_map (by assumption), ?_⟩
      | refine idx_mapX (i := 0) rfl (by assumption) ?_
      | refine idx_map (by omega) (fun x hx => ?_)
      | refine idx_mapX (wrap_dn (by omega) (by omega)) (by assumption) ?_
      | refine idx_mapE (wrap_dn (by omega) (by omega)) (by omega) (fun x hx => ?_)
      | refine idx_mapL (by omega) (by first | assumption | (simp only [LIM]; omega)) (fun x hx => ?_)
      | refine idx_mapI (by omega) (by first | omega | (simp only [List.length_map] at *; omega)) (fun x hx => ?_)
      | refine ⟨_, ldc_cells hupd_at (Nat.le_of_ble_eq_true rfl), ?_⟩
      | refine ⟨_, ldc_cells (by first | assumption | exact zk ‹_› (by omega) | exact zk (zk ‹_› (by omega)) (by omega)) (Nat.le_of_ble_eq_true rfl), ?_⟩
      | refine ⟨_, _, hupd_at, rfl, rfl, Nat.le_of_ble_eq_true rfl, ?_⟩
      | refine ⟨_, _, rfl, rfl, rfl, Nat.le_of_ble_eq_true rfl, ?_⟩
      | (refine ⟨?_, _, (?_ : (_ : Option Ob) = _), rfl, rfl, ?_, ?_⟩; rotate_left; (exact hk_); exact Nat.le_of_ble_eq_true rfl)
      | refine ⟨_, _, _, _, ((by exact hk_) : (_ : Option Ob) = _), rfl, at_mapA (by assumption), ?_⟩
      | refine idx_ow (by exact hk_) (by omega) (fun x hx => ?_)
      | refine ⟨_, _, _, _, ((by exact hk_) : (_ : Option Ob) = _), rfl, fill_at (by omega), ?_⟩
      | refine ⟨_, _, _, _, ((by exact hk_) : (_ : Option Ob) = _), fill_at (by omega), rfl, rfl, Nat.le_of_ble_eq_true rfl, ?_⟩
      | refine idx_owL (by exact hk_) (by omega) (by simp only [LIM]; omega) (fun x hx => ?_)
      | refine idx_owI (by exact hk_) (by omega) (by first | omega | (simp only [List.length_map] at *; omega)) (fun x hx => ?_)
      | refine ⟨_, _, _, _, ((by exact hk_) : (_ : Option Ob) = _), at_mapA (by assumption), rfl, rfl, Nat.le_of_ble_eq_true rfl, ?_⟩
      | refine ⟨_, ldc_pa (by exact hk_) (at_mapA (by assumption)) (Nat.le_of_ble_eq_true rfl), ?_⟩
      | refine ⟨_, rfl, rfl, _, ((by exact hk_) : (_ : Option Ob) = _), (by exact ap_), ?_⟩
      | refine ⟨_, news_ow hupd_at, newsz_ow hupd_at, _, ((by exact hk_) : (_ : Option Ob) = _), (by exact ap_), ?_⟩
      | refine ⟨_, _, _, ((by exact hk_) : (_ : Option Ob) = _), ?_⟩
      | refine ⟨_, ((by exact hk_) : (_ : Option Ob) = _), ?_⟩
      | refine ⟨(show _ ≠ _ from (by first | decide | omega)), ?_⟩
      | refine ⟨(show _ ≤ _ from (by exact ap_)), ?_⟩
      | (refine ⟨fun hc => ?_, fun hc => ?_⟩ <;> (try simp (disch := omega) only [List.length_map, wrap64] at hc) <;> (try (exfalso; first | contradiction | omega)))
      | (refine ⟨⟨(by omega), (by omega), (by simp only [List.length_map] at *; simp only [LIM] at *; omega), (by simp only [List.length_map] at *; simp only [LIM] at *; omega)⟩, ?_⟩; (try simp only [List.length_map, Int.toNat_natCast]))
      | (refine ⟨_, slc_to rfl (by first | omega | (simp only [List.length_map] at *; omega)), ?_⟩; rw [map_take'])
      | (refine ⟨_, slc_toI rfl (by omega) (by first | omega | (simp only [List.length_map] at *; omega)), ?_⟩; rw [map_take'])
      | fail)
    conv => whnf
    refine ⟨⟨i + 1, ⟨rfl, congrArg I (by rw [w1, endV_take hx]), congrArg I (wrap_up hi' (Nat.le_trans hlen (by decide))), trivial⟩, hi', ?_, ?_, by omega, rfl⟩, ?_⟩
    · rw [hupd_ne (by omega), hupd_at]
      exact congrArg (fun z => some (Ob.arr ty_impl_Vote 2 z)) ((vosK_set (f := (· + 1)) (x := ⟨endV (l.take i) k0, mkC x.c.length (endV (l.take i) k0 + 1)⟩) (by omega)).trans (by rw [partV_step hx]))
    · rw [w1]
      exact mark_heap hx rfl hH1
    · show l.length - ix (I _) < l.length - ix (I _)
      simp only [wrap_up hi' (Nat.le_trans hlen (by decide)), ix, Int.toNat_natCast]
      omega
  · have hie : i = l.length := by omega
    subst hie
    rw [partV_end] at hH0 hH1
    rw [List.take_length] at hfr ⊢
    have hml := mkVs_len l k0
    have hvm : (vosK (· + 1) (mkVs l k0)).length = l.length := by rw [vosK_len, hml]
    repeat' ((conv => whnf); first
      | exact finM_in (l := mkVs l k0) (Nat.le_refl _) (by rw [hml]; exact hEl) hH0 hH1 ⟨⟨_, rfl, .inl rfl⟩, trivial⟩ ⟨(l, k0), rfl, rfl, rfl, rfl⟩
      | refine ⟨_, rfl, ?_⟩
      | refine ⟨rfl, ?_⟩
      | refine ⟨_, _, rfl, at_map (by assumption), ?_⟩
      | refine idx_mapX (i := 0) rfl (by assumption) ?_
      | refine idx_map (by omega) (fun x hx => ?_)
      | refine idx_mapX (wrap_dn (by omega) (by omega)) (by assumption) ?_
      | refine idx_mapE (wrap_dn (by omega) (by omega)) (by omega) (fun x hx => ?_)
      | refine idx_mapL (by omega) (by first | assumption | (simp only [LIM]; omega)) (fun x hx => ?_)
      | refine idx_mapI (by omega) (by first | omega | (simp only [List.length_map] at *; omega)) (fun x hx => ?_)
      | refine ⟨_, ldc_cells hupd_at (Nat.le_of_ble_eq_true rfl), ?_⟩
      | refine ⟨_, ldc_cells (by first | assumption | exact zk ‹_› (by omega) | exact zk (zk ‹_› (by omega)) (by omega)) (Nat.le_of_ble_eq_true rfl), ?_⟩
      | refine ⟨_, _, hupd_at, rfl, rfl, Nat.le_of_ble_eq_true rfl, ?_⟩
      | refine ⟨_, _, rfl, rfl, rfl, Nat.le_of_ble_eq_true rfl, ?_⟩
      | (refine ⟨?_, _, (?_ : (_ : Option Ob) = _), rfl, rfl, ?_, ?_⟩; rotate_left; (exact hk_); exact Nat.le_of_ble_eq_true rfl)
      | refine ⟨_, _, _, _, ((by exact hk_) : (_ : Option Ob) = _), rfl, at_mapA (by assumption), ?_⟩
      | refine idx_ow (by exact hk_) (by omega) (fun x hx => ?_)
      | refine ⟨_, _, _, _, ((by exact hk_) : (_ : Option Ob) = _), rfl, fill_at (by omega), ?_⟩
      | refine ⟨_, _, _, _, ((by exact hk_) : (_ : Option Ob) = _), fill_at (by omega), rfl, rfl, Nat.le_of_ble_eq_true rfl, ?_⟩
      | refine idx_owL (by exact hk_) (by omega) (by simp only [LIM]; omega) (fun x hx => ?_)
      | refine idx_owI (by exact hk_) (by omega) (by first | omega | (simp only [List.length_map] at *; omega)) (fun x hx => ?_)
      | refine ⟨_, _, _, _, ((by exact hk_) : (_ : Option Ob) = _), at_mapA (by assumption), rfl, rfl, Nat.le_of_ble_eq_true rfl, ?_⟩
      | refine ⟨_, ldc_pa (by exact hk_) (at_mapA (by assumption)) (Nat.le_of_ble_eq_true rfl), ?_⟩
      | refine ⟨_, rfl, rfl, _, ((by exact hk_) : (_ : Option Ob) = _), (by exact ap_), ?_⟩
      | refine ⟨_, news_ow hupd_at, newsz_ow hupd_at, _, ((by exact hk_) : (_ : Option Ob) = _), (by exact ap_), ?_⟩
      | refine ⟨_, _, _, ((by exact hk_) : (_ : Option Ob) = _), ?_⟩
      | refine ⟨_, ((by exact hk_) : (_ : Option Ob) = _), ?_⟩
      | refine ⟨(show _ ≠ _ from (by first | decide | omega)), ?_⟩
      | refine ⟨(show _ ≤ _ from (by exact ap_)), ?_⟩
      | (refine ⟨fun hc => ?_, fun hc => ?_⟩ <;> (try simp (disch := omega) only [List.length_map, wrap64] at hc) <;> (try (exfalso; first | contradiction | omega)))
      | (refine ⟨⟨(by omega), (by omega), (by simp only [List.length_map] at *; simp only [LIM] at *; omega), (by simp only [List.length_map] at *; simp only [LIM] at *; omega)⟩, ?_⟩; (try simp only [List.length_map, Int.toNat_natCast]))
      | (refine ⟨_, slc_to rfl (by first | omega | (simp only [List.length_map] at *; omega)), ?_⟩; rw [map_take'])
      | (refine ⟨_, slc_toI rfl (by omega) (by first | omega | (simp only [List.length_map] at *; omega)), ?_⟩; rw [map_take'])
      | fail)
end Av
end Go.Proofs.Ytdboofnogabefaa
/- Chains of one's own as the answer of an operation; the marks on votes, as a call. -/
namespace Go.Proofs.Ytdboofnogabefaa
namespace Av
open Go.RowKit
section
variable {P : Program} {g : Nat} {S : MSpec} {fr : Env} {H : Hp} {nm rm : Nat} {K : KV} {xs : List (X × List (Option Nat))}
end
section
variable {P : Program} {f : Nat} {S : OSpec} {fr : Env} {H : Hp} {nm rm : Nat} {K : KV} {x : X} {sh : List (Option Nat)}
end
section
variable {P : Program} {g : Nat} {S : MSpec} {fr : Env} {H : Hp} {nm rm : Nat} {K : KV} {xs : List (X × List (Option Nat))}
end
end Av
end Go.Proofs.Ytdboofnogabefaa
