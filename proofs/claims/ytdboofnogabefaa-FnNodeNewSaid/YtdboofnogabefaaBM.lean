/- The walk: the law FnNodeNew. -/
import Derived.Test.YtdboofnogabefaaJ46
import Derived.Test.YtdboofnogabefaaJ47
import Derived.Test.YtdboofnogabefaaPC
import Derived.Test.YtdboofnogabefaaG5
set_option linter.unusedVariables false
set_option linter.unusedSimpArgs false
namespace Go.Proofs.Ytdboofnogabefaa
namespace Av
open Go.RowKit
theorem new_ok {i : Int} (h : In i 1 4) : NodeOk ⟨i, 0, 0, []⟩ :=
  ⟨h, ⟨Int.le_refl 0, (by decide : (0 : Int) ≤ 30)⟩, ⟨Int.le_refl 0, Int.le_refl 0⟩, Nat.zero_le _, fun i v h => by simp at h, fun v hv => by cases hv⟩
theorem new_prop {i : Int} (h : In i 1 4) : propT ⟨i, 0, 0, []⟩ ⟨1, 2, 1⟩ = (⟨i, 0, 0, []⟩, zVo, false) := by
  unfold propT propN
  rw [tb_pos ⟨new_ok h, ⟨by decide, by decide⟩, ⟨by decide, by decide⟩, by decide, ⟨by decide, by decide⟩⟩]
  show (if tb _ = true then _ else _) = _
  rw [tb_neg (fun h => absurd (show (0 : Int) < 0 from h.1.1) (by decide))]; rfl
theorem new_book {i : Int} (h : In i 1 4) : bookN ⟨i, 0, 0, []⟩ = newB := by
  unfold bookN
  rw [tb_pos (new_ok h)]
  show bookOf (fin []) = _
  have e : fin [] = [] := by
    have := finT_nil
    rwa [fin_ok (fun i v h => by simp at h)] at this
  rw [e]
  unfold bookOf
  rw [tb_pos ⟨fun i x h => by simp at h, Nat.zero_le _⟩]; rfl
attribute [local irreducible] bookN propT newR
attribute [local irreducible] Valid ValidM
set_option maxHeartbeats 4000000 in
set_option maxRecDepth 100000 in
theorem v_laws_FnNodeNew : Valid Try.prog n_laws_FnNodeNew S_laws_FnNodeNew := by
  refine valid_of_swp mixed is_laws_FnNodeNew (by rintro _ ⟨a, rfl, _⟩; exact Nat.le_of_ble_eq_true rfl) ?_
  rintro _ rm ⟨code, rfl, hpre⟩ hl
  try dsimp only at hpre
  have hpre0 := hpre
  have hp1 := hpre
  have cc_laws_FnNodeNew : S_laws_FnNodeNew.cost = 200000 := rfl
  have cc_spec_DrawNodeNew : S_spec_DrawNodeNew.cost = 1 := rfl
  have cc_impl_NodeNew : S_impl_NodeNew.cost = 0 := rfl
  have cc_spec_NodeNew_s : S_spec_NodeNew_s.cost = 0 := rfl
  have cc_laws_lwNode : S_laws_lwNode.cost = 0 := rfl
  have cc_impl_NodePropose : S_impl_NodePropose.cost = 0 := rfl
  have cc_impl_NodeOk : S_impl_NodeOk.cost = 0 := rfl
  have cc_laws_lwInts : S_laws_lwInts.cost = 0 := rfl
  repeat' ((conv => whnf); first
    | refine ⟨_, rfl, ?_⟩
    | refine ⟨rfl, ?_⟩
    | refine ⟨_, ldc_cells hupd_at (Nat.le_of_ble_eq_true rfl), ?_⟩
    | refine ⟨_, ldc_cells (by first | assumption | exact zk ‹_› (by omega) | exact zk (zk ‹_› (by omega)) (by omega)) (Nat.le_of_ble_eq_true rfl), ?_⟩
    | refine ⟨_, _, hupd_at, rfl, rfl, Nat.le_of_ble_eq_true rfl, ?_⟩
    | refine ⟨_, _, rfl, rfl, rfl, Nat.le_of_ble_eq_true rfl, ?_⟩
    | (refine ⟨?_, _, (?_ : (_ : Option Ob) = _), rfl, rfl, ?_, ?_⟩; rotate_left; (exact hk_); exact Nat.le_of_ble_eq_true rfl)
    | refine ⟨_, _, _, _, ((by exact hk_) : (_ : Option Ob) = _), fill_at (by omega), rfl, rfl, Nat.le_of_ble_eq_true rfl, ?_⟩
    | refine ⟨_, _, _, _, ((by exact hk_) : (_ : Option Ob) = _), at_mapA (by assumption), rfl, rfl, Nat.le_of_ble_eq_true rfl, ?_⟩
    | refine ⟨_, ldc_pa (by exact hk_) (at_mapA (by assumption)) (Nat.le_of_ble_eq_true rfl), ?_⟩
    | refine ⟨_, _, _, ((by exact hk_) : (_ : Option Ob) = _), ?_⟩
    | refine ⟨_, ((by exact hk_) : (_ : Option Ob) = _), ?_⟩
    | (refine ⟨fun hc => ?_, fun hc => ?_⟩ <;> (try simp (disch := omega) only [List.length_map, wrap64] at hc))
    | (refine callk (b := [one (byF _)]) v_spec_DrawNodeNew rfl ⟨_, rfl, (by exact pr_)⟩ (.inl rfl) (by omega) (fun r hr => ?_); have hj := K_spec_DrawNodeNew (a := _) hr; clear hr; obtain ⟨k, rfl, hk⟩ := hj)
    | exact ⟨⟨_, rfl, rfl, code, rfl, (by unfold R_laws_FnNodeNew; dsimp only; first | done | exact absurd True.intro hj | (rfl))⟩, (by first | exact Nat.le_refl _ | omega), (by exact h0_)⟩
    | fail)
  by_cases hb : In k 1 4
  · have e1 := newR_yes hb
    have e2 := new_prop hb
    have e3 := new_book hb
    have e4 := new_ok hb
    have hid : (⟨k, 0, 0, []⟩ : Nd).id = k := rfl
    have hep : (⟨k, 0, 0, []⟩ : Nd).ep = 0 := rfl
    have hse : (⟨k, 0, 0, []⟩ : Nd).seen.length = 0 := rfl
    have hfs : FitVs (⟨k, 0, 0, []⟩ : Nd).seen := e4.fit
    generalize (⟨k, 0, 0, []⟩ : Nd) = n at *
    repeat' ((conv => whnf); first
      | (refine calle (b := [I k]) v_impl_NodeNew rfl ⟨k, rfl, trivial⟩ (.inl rfl) (by first | assumption | omega) (fun r hr => (show r = newR k from K_impl_NodeNew (a := k) hr).trans e1) ?_)
      | (refine calle (b := [I k]) v_spec_NodeNew_s rfl ⟨k, rfl, trivial⟩ (.inl rfl) (by first | assumption | omega) (fun r hr => (show r = newR k from K_spec_NodeNew_s (a := k) hr).trans e1) ?_)
      | (refine calle (b := [agg (ndF n), agg (paF ⟨1, 2, 1⟩)]) v_impl_NodePropose rfl ⟨(n, ⟨1, 2, 1⟩), rfl, hfs⟩ (.inl rfl) (by first | assumption | omega) (fun r hr => (show r = trip (propT n ⟨1, 2, 1⟩) from K_impl_NodePropose (a := (n, ⟨1, 2, 1⟩)) hr).trans (congrArg trip e2)) ?_)
      | (refine OQ.mk1 (ar := [agg (ndF n)]) (by rfl) ⟨n, rfl, hfs⟩ vO_impl_NodeBook ((so_impl_NodeBook n).trans (by rw [e3])) ?_)
      | (refine OQ.mk1 (ar := []) (by rfl) ⟨(), rfl, trivial⟩ vO_impl_BookNew so_impl_BookNew ?_)
      | (refine callt (b := [one (nsF newB), one (nsF newB)]) v_laws_lwInts (l2 (congrArg (fun z => AV.w (.o z)) (bor_ow hk_ (fcellss_f inF _))) (congrArg (fun z => AV.w (.o z)) (bor_ow hk_ (fcellss_f inF _)))) ⟨(_, _), rfl, (by decide), (by decide)⟩ (.inr ⟨rfl, rfl⟩) (by omega) (fun r hr => K_laws_lwInts (a := (newB, newB)) hr) (fun hj => ?_) (fun hj => absurd rfl hj))
      | refine ⟨_, rfl, ?_⟩
      | refine ⟨rfl, ?_⟩
      | refine ⟨_, ldc_cells hupd_at (Nat.le_of_ble_eq_true rfl), ?_⟩
      | refine ⟨_, ldc_cells (by first | assumption | exact zk ‹_› (by omega) | exact zk (zk ‹_› (by omega)) (by omega)) (Nat.le_of_ble_eq_true rfl), ?_⟩
      | refine ⟨_, _, hupd_at, rfl, rfl, Nat.le_of_ble_eq_true rfl, ?_⟩
      | refine ⟨_, _, rfl, rfl, rfl, Nat.le_of_ble_eq_true rfl, ?_⟩
      | (refine ⟨?_, _, (?_ : (_ : Option Ob) = _), rfl, rfl, ?_, ?_⟩; rotate_left; (exact hk_); exact Nat.le_of_ble_eq_true rfl)
      | refine ⟨_, _, _, _, ((by exact hk_) : (_ : Option Ob) = _), fill_at (by omega), rfl, rfl, Nat.le_of_ble_eq_true rfl, ?_⟩
      | refine ⟨_, _, _, _, ((by exact hk_) : (_ : Option Ob) = _), at_mapA (by assumption), rfl, rfl, Nat.le_of_ble_eq_true rfl, ?_⟩
      | refine ⟨_, ldc_pa (by exact hk_) (at_mapA (by assumption)) (Nat.le_of_ble_eq_true rfl), ?_⟩
      | refine ⟨_, _, _, ((by exact hk_) : (_ : Option Ob) = _), ?_⟩
      | refine ⟨_, ((by exact hk_) : (_ : Option Ob) = _), ?_⟩
      | (refine ⟨fun hc => ?_, fun hc => ?_⟩ <;> (try simp (disch := omega) only [List.length_map, wrap64] at hc) <;> (try (exfalso; first | contradiction | omega)))
      | (refine callt (b := [agg (ndF ⟨_, _, _, _⟩), agg (ndF ⟨_, _, _, _⟩)]) v_laws_lwNode rfl ⟨(⟨_, _, _, _⟩, ⟨_, _, _, _⟩), rfl, (by refine ⟨?_, ?_⟩ <;> (exact pr_))⟩ (.inl rfl) (by first | assumption | omega) (fun r hr => K_laws_lwNode (a := (⟨_, _, _, _⟩, ⟨_, _, _, _⟩)) hr) (fun hj => ?_) (fun hj => ?_) <;> (try simp only [etaPa, etaIt, etaVo] at hj) <;> (try simp only [etaNd] at hj) <;> (try contradiction))
      | (refine ⟨⟨n, rfl, (by exact pr_)⟩, v_impl_NodeOk, (.inl rfl), (by first | assumption | omega), fun r hr => ?_⟩; rcases K_impl_NodeOk (a := n) hr with ⟨hj, rfl⟩ | ⟨hj, rfl⟩ <;> clear hr <;> (try simp only [etaPa, etaIt, etaVo] at hj) <;> (try simp only [etaNd, etaWo] at hj) <;> (try contradiction))
      | (refine callt (b := [one (nsF _), one (nsF _)]) v_laws_lwInts rfl ⟨(_, _), rfl, (by refine ⟨?_, ?_⟩ <;> (exact pr_))⟩ (.inl rfl) (by first | assumption | omega) (fun r hr => K_laws_lwInts (a := (_, _)) hr) (fun hj => ?_) (fun hj => ?_) <;> (try simp only [etaPa, etaIt, etaVo] at hj) <;> (try contradiction))
      | fail)
    all_goals (try exact ⟨⟨_, rfl, rfl, code, rfl, rfl⟩, (by omega), h0_⟩)
    all_goals (try (exfalso; first | contradiction | omega))
  · have e1 := newR_no hb
    have hfz : FitVs zNd.seen := ⟨Nat.zero_le _, fun v h => by cases h⟩
    repeat' ((conv => whnf); first
      | (refine calle (b := [I k]) v_impl_NodeNew rfl ⟨k, rfl, trivial⟩ (.inl rfl) (by first | assumption | omega) (fun r hr => (show r = newR k from K_impl_NodeNew (a := k) hr).trans e1) ?_)
      | (refine calle (b := [I k]) v_spec_NodeNew_s rfl ⟨k, rfl, trivial⟩ (.inl rfl) (by first | assumption | omega) (fun r hr => (show r = newR k from K_spec_NodeNew_s (a := k) hr).trans e1) ?_)
      | refine ⟨_, rfl, ?_⟩
      | refine ⟨rfl, ?_⟩
      | refine ⟨_, ldc_cells hupd_at (Nat.le_of_ble_eq_true rfl), ?_⟩
      | refine ⟨_, ldc_cells (by first | assumption | exact zk ‹_› (by omega) | exact zk (zk ‹_› (by omega)) (by omega)) (Nat.le_of_ble_eq_true rfl), ?_⟩
      | refine ⟨_, _, hupd_at, rfl, rfl, Nat.le_of_ble_eq_true rfl, ?_⟩
      | refine ⟨_, _, rfl, rfl, rfl, Nat.le_of_ble_eq_true rfl, ?_⟩
      | (refine ⟨?_, _, (?_ : (_ : Option Ob) = _), rfl, rfl, ?_, ?_⟩; rotate_left; (exact hk_); exact Nat.le_of_ble_eq_true rfl)
      | refine ⟨_, _, _, _, ((by exact hk_) : (_ : Option Ob) = _), fill_at (by omega), rfl, rfl, Nat.le_of_ble_eq_true rfl, ?_⟩
      | refine ⟨_, _, _, _, ((by exact hk_) : (_ : Option Ob) = _), at_mapA (by assumption), rfl, rfl, Nat.le_of_ble_eq_true rfl, ?_⟩
      | refine ⟨_, ldc_pa (by exact hk_) (at_mapA (by assumption)) (Nat.le_of_ble_eq_true rfl), ?_⟩
      | refine ⟨_, _, _, ((by exact hk_) : (_ : Option Ob) = _), ?_⟩
      | refine ⟨_, ((by exact hk_) : (_ : Option Ob) = _), ?_⟩
      | (refine ⟨fun hc => ?_, fun hc => ?_⟩ <;> (try simp (disch := omega) only [List.length_map, wrap64] at hc) <;> (try (exfalso; first | contradiction | omega)))
      | (refine callt (b := [agg (ndF ⟨_, _, _, _⟩), agg (ndF ⟨_, _, _, _⟩)]) v_laws_lwNode rfl ⟨(⟨_, _, _, _⟩, ⟨_, _, _, _⟩), rfl, (by refine ⟨?_, ?_⟩ <;> (exact pr_))⟩ (.inl rfl) (by first | assumption | omega) (fun r hr => K_laws_lwNode (a := (⟨_, _, _, _⟩, ⟨_, _, _, _⟩)) hr) (fun hj => ?_) (fun hj => ?_) <;> (try simp only [etaPa, etaIt, etaVo] at hj) <;> (try simp only [etaNd] at hj) <;> (try contradiction))
      | exact ⟨⟨_, rfl, rfl, code, rfl, (by unfold R_laws_FnNodeNew; dsimp only; first | done | exact absurd True.intro hj | (first | rfl | (exfalso; first | contradiction | omega | grind)))⟩, (by first | exact Nat.le_refl _ | omega), (by exact h0_)⟩
      | fail)
end Av
end Go.Proofs.Ytdboofnogabefaa
