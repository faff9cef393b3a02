/- Texts of the layer, joined. -/
import Derived.Test.YtdboofnogabefaaVC
import Derived.Test.YtdboofnogabefaaD1
import Derived.Test.YtdboofnogabefaaProg
import Derived.KernelRfl
import Derived.Test.YtdboofnogabefaaJ8
import Derived.Test.YtdboofnogabefaaJ51
set_option linter.unusedVariables false
set_option linter.unusedSimpArgs false
namespace Go.Proofs.Ytdboofnogabefaa
namespace Av
open Go.RowKit
section
variable {α : Type} {N : Nest α} {H : Hp} {b k : Nat} {f : Nat → Nat} {l : List α}
variable {fr : Env} {nx rm' lim : Nat} {res : List Rs} {post : AV → List (Option Ob) → Prop}
end
set_option maxHeartbeats 4000000 in
set_option maxRecDepth 100000 in
theorem v_laws_markVote_o : ValidM Try.prog n_laws_markVote_o S_laws_markVote_o := by
  refine validM_of_swp mixed is_laws_markVote_o (by rintro _ _ ⟨a, rfl, _⟩; exact Nat.le_of_ble_eq_true rfl) ?_
  rintro _ _ rm ⟨⟨v, k⟩, rfl, rfl, hv, hk0, hkM⟩ hl
  dsimp only at hv hk0 hkM
  change swp _ _ _ _ _ 1 _
  repeat' ((conv => whnf); first
    | refine ⟨_, rfl, ?_⟩
    | refine ⟨rfl, ?_⟩
    | refine ⟨_, _, rfl, at_map (by assumption), ?_⟩
    | refine idx_mapX (i := 0) rfl (by assumption) ?_
    | refine idx_map (by omega) (fun x hx => ?_)
    | refine idx_mapX (wrap_dn (by omega) (by omega)) (by assumption) ?_
    | refine idx_mapE (wrap_dn (by omega) (by omega)) (by omega) (fun x hx => ?_)
    | refine idx_mapL (by omega) (by first | assumption | (simp only [LIM]; omega)) (fun x hx => ?_)
    | refine idx_mapI (by omega) (by first | omega | (simp only [List.length_map] at *; omega)) (fun x hx => ?_)
    | refine ⟨_, ldc_cells hupd_at (Nat.le_of_ble_eq_true rfl), ?_⟩
    | refine ⟨_, ldc_cells (by first | assumption | exact zk ‹_› (by omega) | exact zk (zk ‹_› (by omega)) (by omega)) (Nat.le_of_ble_eq_true rfl), ?_⟩
    | refine ⟨_, _, hupd_at, rfl, rfl, Nat.le_of_ble_eq_true rfl, ?_⟩
    | refine ⟨_, _, rfl, rfl, rfl, Nat.le_of_ble_eq_true rfl, ?_⟩
    | (refine ⟨?_, _, (?_ : (_ : Option Ob) = _), rfl, rfl, ?_, ?_⟩; rotate_left; (exact hk_); exact Nat.le_of_ble_eq_true rfl)
    | refine ⟨_, _, _, _, ((by exact hk_) : (_ : Option Ob) = _), rfl, at_mapA (by assumption), ?_⟩
    | refine idx_ow (by exact hk_) (by omega) (fun x hx => ?_)
    | refine ⟨_, _, _, _, ((by exact hk_) : (_ : Option Ob) = _), rfl, fill_at (by omega), ?_⟩
    | refine ⟨_, _, _, _, ((by exact hk_) : (_ : Option Ob) = _), fill_at (by omega), rfl, rfl, Nat.le_of_ble_eq_true rfl, ?_⟩
    | refine idx_owL (by exact hk_) (by omega) (by simp only [LIM]; omega) (fun x hx => ?_)
    | refine idx_owI (by exact hk_) (by omega) (by first | omega | (simp only [List.length_map] at *; omega)) (fun x hx => ?_)
    | refine ⟨_, _, _, _, ((by exact hk_) : (_ : Option Ob) = _), at_mapA (by assumption), rfl, rfl, Nat.le_of_ble_eq_true rfl, ?_⟩
    | refine ⟨_, ldc_pa (by exact hk_) (at_mapA (by assumption)) (Nat.le_of_ble_eq_true rfl), ?_⟩
    | refine ⟨_, rfl, rfl, _, ((by exact hk_) : (_ : Option Ob) = _), (by exact ap_), ?_⟩
    | refine ⟨_, news_ow hupd_at, newsz_ow hupd_at, _, ((by exact hk_) : (_ : Option Ob) = _), (by exact ap_), ?_⟩
    | refine ⟨_, _, _, ((by exact hk_) : (_ : Option Ob) = _), ?_⟩
    | refine ⟨_, ((by exact hk_) : (_ : Option Ob) = _), ?_⟩
    | refine ⟨(show _ ≠ _ from (by first | decide | omega)), ?_⟩
    | refine ⟨(show _ ≤ _ from (by exact ap_)), ?_⟩
    | (refine ⟨fun hc => ?_, fun hc => ?_⟩ <;> (try simp (disch := omega) only [List.length_map, wrap64] at hc))
    | (refine ⟨⟨(by omega), (by omega), (by simp only [List.length_map] at *; simp only [LIM] at *; omega), (by simp only [List.length_map] at *; simp only [LIM] at *; omega)⟩, ?_⟩; (try simp only [List.length_map, Int.toNat_natCast]))
    | (refine ⟨_, slc_to rfl (by first | omega | (simp only [List.length_map] at *; omega)), ?_⟩; rw [map_take'])
    | (refine ⟨_, slc_toI rfl (by omega) (by first | omega | (simp only [List.length_map] at *; omega)), ?_⟩; rw [map_take'])
    | fail)
  conv => whnf
  refine mq_mark (F := itF) (T := ty_impl_Item) (sz := 4) (k := 0) (l := v.c) (l' := mkC v.c.length k) (n := k) (m := k + 4 * v.c.length) v_laws_markItemS_o (by exact hl) (zk (by rfl) (by omega)) (by rfl) ⟨(some v.c, k), rfl, rfl, fun d hd => by cases hd; exact hv, hk0, hkM⟩ (fun r obs' h => K_mark_o h) ?_
  repeat' ((conv => whnf); first
    | refine ⟨_, rfl, ?_⟩
    | refine ⟨rfl, ?_⟩
    | refine ⟨_, _, rfl, at_map (by assumption), ?_⟩
    | refine idx_mapX (i := 0) rfl (by assumption) ?_
    | refine idx_map (by omega) (fun x hx => ?_)
    | refine idx_mapX (wrap_dn (by omega) (by omega)) (by assumption) ?_
    | refine idx_mapE (wrap_dn (by omega) (by omega)) (by omega) (fun x hx => ?_)
    | refine idx_mapL (by omega) (by first | assumption | (simp only [LIM]; omega)) (fun x hx => ?_)
    | refine idx_mapI (by omega) (by first | omega | (simp only [List.length_map] at *; omega)) (fun x hx => ?_)
    | refine ⟨_, ldc_cells hupd_at (Nat.le_of_ble_eq_true rfl), ?_⟩
    | refine ⟨_, ldc_cells (by first | assumption | exact zk ‹_› (by omega) | exact zk (zk ‹_› (by omega)) (by omega)) (Nat.le_of_ble_eq_true rfl), ?_⟩
    | refine ⟨_, _, hupd_at, rfl, rfl, Nat.le_of_ble_eq_true rfl, ?_⟩
    | refine ⟨_, _, rfl, rfl, rfl, Nat.le_of_ble_eq_true rfl, ?_⟩
    | (refine ⟨?_, _, (?_ : (_ : Option Ob) = _), rfl, rfl, ?_, ?_⟩; rotate_left; (exact hk_); exact Nat.le_of_ble_eq_true rfl)
    | refine ⟨_, _, _, _, ((by exact hk_) : (_ : Option Ob) = _), rfl, at_mapA (by assumption), ?_⟩
    | refine idx_ow (by exact hk_) (by omega) (fun x hx => ?_)
    | refine ⟨_, _, _, _, ((by exact hk_) : (_ : Option Ob) = _), rfl, fill_at (by omega), ?_⟩
    | refine ⟨_, _, _, _, ((by exact hk_) : (_ : Option Ob) = _), fill_at (by omega), rfl, rfl, Nat.le_of_ble_eq_true rfl, ?_⟩
    | refine idx_owL (by exact hk_) (by omega) (by simp only [LIM]; omega) (fun x hx => ?_)
    | refine idx_owI (by exact hk_) (by omega) (by first | omega | (simp only [List.length_map] at *; omega)) (fun x hx => ?_)
    | refine ⟨_, _, _, _, ((by exact hk_) : (_ : Option Ob) = _), at_mapA (by assumption), rfl, rfl, Nat.le_of_ble_eq_true rfl, ?_⟩
    | refine ⟨_, ldc_pa (by exact hk_) (at_mapA (by assumption)) (Nat.le_of_ble_eq_true rfl), ?_⟩
    | refine ⟨_, rfl, rfl, _, ((by exact hk_) : (_ : Option Ob) = _), (by exact ap_), ?_⟩
    | refine ⟨_, news_ow hupd_at, newsz_ow hupd_at, _, ((by exact hk_) : (_ : Option Ob) = _), (by exact ap_), ?_⟩
    | refine ⟨_, _, _, ((by exact hk_) : (_ : Option Ob) = _), ?_⟩
    | refine ⟨_, ((by exact hk_) : (_ : Option Ob) = _), ?_⟩
    | refine ⟨(show _ ≠ _ from (by first | decide | omega)), ?_⟩
    | refine ⟨(show _ ≤ _ from (by exact ap_)), ?_⟩
    | (refine ⟨fun hc => ?_, fun hc => ?_⟩ <;> (try simp (disch := omega) only [List.length_map, wrap64] at hc))
    | (refine ⟨⟨(by omega), (by omega), (by simp only [List.length_map] at *; simp only [LIM] at *; omega), (by simp only [List.length_map] at *; simp only [LIM] at *; omega)⟩, ?_⟩; (try simp only [List.length_map, Int.toNat_natCast]))
    | (refine ⟨_, slc_to rfl (by first | omega | (simp only [List.length_map] at *; omega)), ?_⟩; rw [map_take'])
    | (refine ⟨_, slc_toI rfl (by omega) (by first | omega | (simp only [List.length_map] at *; omega)), ?_⟩; rw [map_take'])
    | fail)
  conv => whnf
  exact finM_s1 (F := itF) (l := mkC v.c.length k) (n := k + 4 * v.c.length) (Nat.le_refl _) hupd_at ⟨⟨_, rfl, .inl rfl⟩, trivial⟩ ⟨(v, k), rfl, rfl, rfl, rfl⟩
end Av
end Go.Proofs.Ytdboofnogabefaa

namespace Go.Proofs.Ytdboofnogabefaa
namespace Av
open Go.RowKit
end Av
end Go.Proofs.Ytdboofnogabefaa

namespace Go.Proofs.Ytdboofnogabefaa
namespace Av
end Av
end Go.Proofs.Ytdboofnogabefaa

namespace Go.Proofs.Ytdboofnogabefaa
namespace Av
open Go.RowKit
section
variable {H : Hp} {l : List Vo} {v : Vo} {k : Nat}
variable {P : Program} {g : Nat} {S : MSpec} {fr : Env} {nm rm : Nat} {K : KV} {xs : List (X × List (Option Nat))}
theorem bor_vo (h : H k = some (itO v.c)) : borV H [none, some 4] (.w (.g (voK v k))) = agg (voF v) := by
  show AV.w (.g [.c (fI v.n), bor H (some 4) (.ow k)]) = _
  rw [bor_ow h (fcellss_f itF v.c)]
  rfl
theorem mq_vo' {v : Vo} (hv : ValidM P g S) (hl : rm + S.cost ≤ LIM) (ha : nrmArgs fr xs = [agg (voF v)]) (hpre : S.pre [agg (voF v)] [])
    (hpost : ∀ r obs', S.post [agg (voF v)] [] r obs' → r = .w (.g (voK v 0)) ∧ obs' = [some (itO v.c)])
    (hK : ∀ (n : Nat) (H' : Hp), nm = n → H' n = some (itO v.c) → (∀ j, j ≠ n → H' j = H j) → K (.w (.g (voK v n))) H' (rm + S.cost)) : MQ P nm fr H rm K g S xs :=
  mq_vo hv hl ha hpre hpost (hK nm _ rfl hupd_at fun j hj => hupd_ne hj)
/-- Marks on a vote. -/
theorem mq_vmark {v : Vo} {k : Nat} {n m : Int} {c : List It} (hv : ValidM P g S) (hl : rm + S.cost ≤ LIM) (hk : H k = some (itO v.c)) (ha : nrmArgs fr xs = [.w (.g (voK v k)), I n]) (hpre : S.pre [.w (.g (voK v 0)), I n] [itO v.c])
    (hpost : ∀ r obs', S.post [.w (.g (voK v 0)), I n] [itO v.c] r obs' → r = I m ∧ obs' = [some (itO c)])
    (hK : ∀ H' : Hp, H' k = some (itO c) → (∀ j, j ≠ k → H' j = H j) → K (I m) H' (rm + S.cost)) : MQ P nm fr H rm K g S xs := by
  have e0 : nmapS S.st [k] nm 0 = k := nmap_lt (s := S.st) rfl
  refine ⟨⟨hv, hl, [k], [.w (.g (voK v 0)), I n], [itO v.c], by simp, rfl, fun i k' h => ?_, ?_, hpre, fun r obs' hp _ _ => ?_⟩⟩
  · match i, h with
    | 0, h => cases h; exact ⟨_, rfl, by rw [hk]; exact congrArg some (arr_ren ..).symm⟩
    | i + 1, h => simp at h
  · rw [ha]
    show [AV.w (.g [.c (fI v.n), .ow (nmapS S.st [k] nm 0)]), I n] = _
    rw [e0]; rfl
  · obtain ⟨rfl, rfl⟩ := hpost r obs' hp
    show K (I m) (hupd (nmapS S.st [k] nm 0) (some ((itO c).ren _)) H) _
    rw [e0]
    exact hK _ (hupd_at.trans (congrArg some (arr_ren ..))) fun j hj => hupd_ne hj
theorem SmVs2.fit {l : List Vo} (h : SmVs2 l) : FitVs l := ⟨Nat.le_trans h.1 (by decide), fun v hv => Nat.le_trans (h.2 v hv) (by decide)⟩
theorem one0 : (0 : Int) ≤ 1 := by decide
theorem oneM2 : (1 : Int) ≤ 1099511627776 := by decide
end
attribute [local irreducible] mkC mkVs endV
end Av
end Go.Proofs.Ytdboofnogabefaa

namespace Go.Proofs.Ytdboofnogabefaa
namespace Av
open Go.RowKit
set_option maxHeartbeats 4000000 in
set_option maxRecDepth 100000 in
theorem v_laws_heldVote : Valid Try.prog n_laws_heldVote S_laws_heldVote := by
  refine valid_of_swp mixed is_laws_heldVote (by rintro _ ⟨a, rfl, _⟩; exact Nat.le_of_ble_eq_true rfl) ?_
  rintro _ rm ⟨⟨v, k⟩, rfl, hsm, hk0, hkM⟩ hl
  dsimp only at hsm hk0 hkM
  repeat' ((conv => whnf); first
    | (refine calle (b := [one (chF (mkC v.c.length k)), I k]) v_laws_heldItemS rfl ⟨(v.c.length, k), rfl, hsm, hk0, hkM⟩ (.inl rfl) (by first | assumption | omega) (fun r hr => K_laws_heldItemS hr) ?_)
    | refine ⟨_, rfl, ?_⟩
    | refine ⟨rfl, ?_⟩
    | refine ⟨_, ldc_cells hupd_at (Nat.le_of_ble_eq_true rfl), ?_⟩
    | refine ⟨_, ldc_cells (by first | assumption | exact zk ‹_› (by omega) | exact zk (zk ‹_› (by omega)) (by omega)) (Nat.le_of_ble_eq_true rfl), ?_⟩
    | (refine ⟨fun hc => ?_, fun hc => ?_⟩ <;> (try simp (disch := omega) only [List.length_map, wrap64] at hc))
    | fail)
  · exfalso; omega
  · exact ⟨⟨_, rfl, rfl, (v, k), rfl, rfl⟩, (by first | exact Nat.le_refl _ | exact Nat.le_add_right _ _), h0_⟩
attribute [local irreducible] mkC mkVs endV
attribute [local irreducible] Valid ValidM
end Av
end Go.Proofs.Ytdboofnogabefaa

