/- The walk: the law FnExactWorldNew. -/
import Derived.Test.YtfijfccgghhkoaaHC
import Derived.Test.YtfijfccgghhkoaaWM
import Derived.Test.YtfijfccgghhkoaaWD
set_option linter.unusedVariables false
set_option linter.unusedSimpArgs false
namespace Go.Proofs.Ytfijfccgghhkoaa
namespace Av
open Go.RowKit
theorem bor_I {H : Hp} {w : Wo} {k : Nat} (h : H k = some (nsO w)) : borV H [none, some 4, some 2] (.w (.g (wiC w k))) = agg (woF w) :=
  congrArg (fun x => AV.w (.g [cI w.ep, x, .c (vsF w.log), cI w.bad])) (bor_ow (sz := 4) (xs := arA ndF w.nodes) h (fcellss_f ndF w.nodes))
theorem newW_fit (bad : Int) : FitNs (newW bad).nodes ∧ FitVs (newW bad).log := by
  have h0 : FitVs [] := ⟨Nat.zero_le _, fun v h => by cases h⟩
  refine ⟨⟨(by decide : 4 ≤ LIM), fun n hn => ?_⟩, h0⟩
  simp only [newW, List.mem_cons, List.not_mem_nil, or_false] at hn
  rcases hn with rfl | rfl | rfl | rfl <;> exact h0
theorem zWo_fitN : FitNs zWo.nodes ∧ FitVs zWo.log := ⟨⟨Nat.zero_le _, fun v h => by cases h⟩, ⟨Nat.zero_le _, fun v h => by cases h⟩⟩
attribute [local irreducible] Valid ValidM
set_option maxHeartbeats 4000000 in
set_option maxRecDepth 100000 in
theorem v_laws_FnExactWorldNew : Valid Try.prog n_laws_FnExactWorldNew S_laws_FnExactWorldNew := by
  refine valid_of_swp mixed is_laws_FnExactWorldNew (by rintro _ ⟨a, rfl, _⟩; exact Nat.le_of_ble_eq_true rfl) ?_
  rintro _ rm ⟨bad, rfl, hpre⟩ hl
  try dsimp only at hpre
  have hpre0 := hpre
  have hp1 := hpre
  have c1 : S_laws_eqWorld.cost = 0 := rfl
  have c2 : S_laws_heldWorld.cost = 0 := rfl
  have c3 : S_laws_markWorld.cost = 0 := rfl
  have c4 : S_laws_FnExactWorldNew.cost = 0 := rfl
  have s1 : S_spec_WorldNew_s.st = 0 := rfl
  have s2 : S_impl_WorldNew_s.st = 0 := rfl
  have s3 : S_laws_markWorld.st = 0 := rfl
  by_cases hb : In bad 0 4
  · have hf := newW_fit bad
    repeat' ((conv => whnf); first
      | refine ⟨_, rfl, ?_⟩
      | refine ⟨rfl, ?_⟩
      | refine ⟨_, ldc_cells hupd_at (Nat.le_of_ble_eq_true rfl), ?_⟩
      | refine ⟨_, ldc_cells (by first | assumption | exact zk ‹_› (by omega) | exact zk (zk ‹_› (by omega)) (by omega)) (Nat.le_of_ble_eq_true rfl), ?_⟩
      | refine ⟨_, _, hupd_at, rfl, rfl, Nat.le_of_ble_eq_true rfl, ?_⟩
      | refine ⟨_, _, rfl, rfl, rfl, Nat.le_of_ble_eq_true rfl, ?_⟩
      | (refine ⟨?_, _, (?_ : (_ : Option Ob) = _), rfl, rfl, ?_, ?_⟩; rotate_left; (exact hk_); exact Nat.le_of_ble_eq_true rfl)
      | refine ⟨_, _, _, _, ((by exact hk_) : (_ : Option Ob) = _), fill_at (by omega), rfl, rfl, Nat.le_of_ble_eq_true rfl, ?_⟩
      | refine ⟨_, _, _, _, ((by exact hk_) : (_ : Option Ob) = _), at_mapA (by assumption), rfl, rfl, Nat.le_of_ble_eq_true rfl, ?_⟩
      | refine ⟨_, ldc_pa (by exact hk_) (at_mapA (by assumption)) (Nat.le_of_ble_eq_true rfl), ?_⟩
      | refine ⟨_, ((by exact hk_) : (_ : Option Ob) = _), ?_⟩
      | (refine ⟨fun hc => ?_, fun hc => ?_⟩ <;> (try simp (disch := omega) only [List.length_map, wrap64] at hc))
      | fail)
    refine mq_nWs v_spec_WorldNew_s (by first | assumption | omega) hb rfl (fun H1 hW1 h1o => ?_)
    repeat' ((conv => whnf); first
      | refine ⟨_, rfl, ?_⟩
      | refine ⟨rfl, ?_⟩
      | refine ⟨_, ldc_cells hupd_at (Nat.le_of_ble_eq_true rfl), ?_⟩
      | refine ⟨_, ldc_cells (by first | assumption | exact zk ‹_› (by omega) | exact zk (zk ‹_› (by omega)) (by omega)) (Nat.le_of_ble_eq_true rfl), ?_⟩
      | refine ⟨_, _, hupd_at, rfl, rfl, Nat.le_of_ble_eq_true rfl, ?_⟩
      | refine ⟨_, _, rfl, rfl, rfl, Nat.le_of_ble_eq_true rfl, ?_⟩
      | (refine ⟨?_, _, (?_ : (_ : Option Ob) = _), rfl, rfl, ?_, ?_⟩; rotate_left; (exact hk_); exact Nat.le_of_ble_eq_true rfl)
      | refine ⟨_, _, _, _, ((by exact hk_) : (_ : Option Ob) = _), fill_at (by omega), rfl, rfl, Nat.le_of_ble_eq_true rfl, ?_⟩
      | refine ⟨_, _, _, _, ((by exact hk_) : (_ : Option Ob) = _), at_mapA (by assumption), rfl, rfl, Nat.le_of_ble_eq_true rfl, ?_⟩
      | refine ⟨_, ldc_pa (by exact hk_) (at_mapA (by assumption)) (Nat.le_of_ble_eq_true rfl), ?_⟩
      | refine ⟨_, ((by exact hk_) : (_ : Option Ob) = _), ?_⟩
      | (refine ⟨fun hc => ?_, fun hc => ?_⟩ <;> (try simp (disch := omega) only [List.length_map, wrap64] at hc))
      | fail)
    refine mq_newI (bad := bad) v_WorldNew_s (by first | assumption | omega) rfl (fun hb2 => ?_) (fun hb2 => absurd hb hb2)
    repeat' ((conv => whnf); first
      | (refine callt (b := [agg (woF (newW bad)), agg (woF (newW bad))]) v_laws_eqWorld (l2 (bor_I (w := newW bad) hk_) (bor_W (w := newW bad) (f := fun j => 1 + 16 + 16 + 1 + j) (by (repeat (refine (hupd_ne (by omega)).trans ?_)); exact hW1.arr) rfl)) ⟨(newW bad, newW bad), rfl, hf.1, hf.2, hf.1, hf.2⟩ (.inr ⟨rfl, rfl⟩) (by first | assumption | omega) (fun r hr => K_laws_eqWorld (a := (newW bad, newW bad)) hr) (fun hj => ?_) (fun hj => ?_) <;> (try (exact absurd rfl hj)))
      | refine ⟨_, rfl, ?_⟩
      | refine ⟨rfl, ?_⟩
      | refine ⟨_, ldc_cells hupd_at (Nat.le_of_ble_eq_true rfl), ?_⟩
      | refine ⟨_, ldc_cells (by first | assumption | exact zk ‹_› (by omega) | exact zk (zk ‹_› (by omega)) (by omega)) (Nat.le_of_ble_eq_true rfl), ?_⟩
      | refine ⟨_, _, hupd_at, rfl, rfl, Nat.le_of_ble_eq_true rfl, ?_⟩
      | refine ⟨_, _, rfl, rfl, rfl, Nat.le_of_ble_eq_true rfl, ?_⟩
      | (refine ⟨?_, _, (?_ : (_ : Option Ob) = _), rfl, rfl, ?_, ?_⟩; rotate_left; (exact hk_); exact Nat.le_of_ble_eq_true rfl)
      | refine ⟨_, _, _, _, ((by exact hk_) : (_ : Option Ob) = _), fill_at (by omega), rfl, rfl, Nat.le_of_ble_eq_true rfl, ?_⟩
      | refine ⟨_, _, _, _, ((by exact hk_) : (_ : Option Ob) = _), at_mapA (by assumption), rfl, rfl, Nat.le_of_ble_eq_true rfl, ?_⟩
      | refine ⟨_, ldc_pa (by exact hk_) (at_mapA (by assumption)) (Nat.le_of_ble_eq_true rfl), ?_⟩
      | refine ⟨_, ((by exact hk_) : (_ : Option Ob) = _), ?_⟩
      | (refine ⟨fun hc => ?_, fun hc => ?_⟩ <;> (try simp (disch := omega) only [List.length_map, wrap64] at hc) <;> (try (exfalso; first | contradiction | omega)))
      | fail)
    refine mq_1 (o := mArr 0) (o' := mArr 4) (r0 := I 13) (A := fun k => [.w (.g (wiC (newW bad) k)), I 1]) (k := 161) v_laws_markWorld rfl (by omega) (fun _ => rfl) mArr_ren mArr_ren (fun _ => rfl) hk_ rfl ⟨some bad, rfl, rfl, trivial⟩ (fun r obs' h => K_laws_markWorld (b := some bad) h) ?_
    repeat' ((conv => whnf); first
      | (refine calle (b := [agg (woF (mkdW bad)), I 1]) v_laws_heldWorld (l2 (bor_I (w := mkdW bad) hk_) rfl) ⟨(mkdW bad, 1), rfl, rfl, mp_mk, rfl⟩ (.inr ⟨rfl, rfl⟩) (by first | assumption | omega) (fun r hr => K_laws_heldWorld (a := (mkdW bad, 1)) hr) ?_)
      | refine ⟨_, rfl, ?_⟩
      | refine ⟨rfl, ?_⟩
      | refine ⟨_, ldc_cells hupd_at (Nat.le_of_ble_eq_true rfl), ?_⟩
      | refine ⟨_, ldc_cells (by first | assumption | exact zk ‹_› (by omega) | exact zk (zk ‹_› (by omega)) (by omega)) (Nat.le_of_ble_eq_true rfl), ?_⟩
      | refine ⟨_, _, hupd_at, rfl, rfl, Nat.le_of_ble_eq_true rfl, ?_⟩
      | refine ⟨_, _, rfl, rfl, rfl, Nat.le_of_ble_eq_true rfl, ?_⟩
      | (refine ⟨?_, _, (?_ : (_ : Option Ob) = _), rfl, rfl, ?_, ?_⟩; rotate_left; (exact hk_); exact Nat.le_of_ble_eq_true rfl)
      | refine ⟨_, _, _, _, ((by exact hk_) : (_ : Option Ob) = _), fill_at (by omega), rfl, rfl, Nat.le_of_ble_eq_true rfl, ?_⟩
      | refine ⟨_, _, _, _, ((by exact hk_) : (_ : Option Ob) = _), at_mapA (by assumption), rfl, rfl, Nat.le_of_ble_eq_true rfl, ?_⟩
      | refine ⟨_, ldc_pa (by exact hk_) (at_mapA (by assumption)) (Nat.le_of_ble_eq_true rfl), ?_⟩
      | refine ⟨_, ((by exact hk_) : (_ : Option Ob) = _), ?_⟩
      | (refine ⟨fun hc => ?_, fun hc => ?_⟩ <;> (try simp (disch := omega) only [List.length_map, wrap64] at hc) <;> (try (exfalso; first | contradiction | omega)))
      | fail)
    refine mq_newI (bad := bad) v_WorldNew_s (by first | assumption | omega) rfl (fun hb2 => ?_) (fun hb2 => absurd hb hb2)
    repeat' ((conv => whnf); first
      | (refine callt (b := [agg (woF (newW bad)), agg (woF (newW bad))]) v_laws_eqWorld (l2 (bor_I (w := newW bad) hk_) (bor_W (w := newW bad) (f := fun j => 1 + 16 + 16 + 1 + j) (by (repeat (refine (hupd_ne (by omega)).trans ?_)); exact hW1.arr) rfl)) ⟨(newW bad, newW bad), rfl, hf.1, hf.2, hf.1, hf.2⟩ (.inr ⟨rfl, rfl⟩) (by first | assumption | omega) (fun r hr => K_laws_eqWorld (a := (newW bad, newW bad)) hr) (fun hj => ?_) (fun hj => ?_) <;> (try (exact absurd rfl hj)))
      | (refine calle (b := [agg (woF (mkdW bad)), I 1]) v_laws_heldWorld (l2 (bor_I (w := mkdW bad) hk_) rfl) ⟨(mkdW bad, 1), rfl, rfl, mp_mk, rfl⟩ (.inr ⟨rfl, rfl⟩) (by first | assumption | omega) (fun r hr => K_laws_heldWorld (a := (mkdW bad, 1)) hr) ?_)
      | refine ⟨_, rfl, ?_⟩
      | refine ⟨rfl, ?_⟩
      | refine ⟨_, ldc_cells hupd_at (Nat.le_of_ble_eq_true rfl), ?_⟩
      | refine ⟨_, ldc_cells (by first | assumption | exact zk ‹_› (by omega) | exact zk (zk ‹_› (by omega)) (by omega)) (Nat.le_of_ble_eq_true rfl), ?_⟩
      | refine ⟨_, _, hupd_at, rfl, rfl, Nat.le_of_ble_eq_true rfl, ?_⟩
      | refine ⟨_, _, rfl, rfl, rfl, Nat.le_of_ble_eq_true rfl, ?_⟩
      | (refine ⟨?_, _, (?_ : (_ : Option Ob) = _), rfl, rfl, ?_, ?_⟩; rotate_left; (exact hk_); exact Nat.le_of_ble_eq_true rfl)
      | refine ⟨_, _, _, _, ((by exact hk_) : (_ : Option Ob) = _), fill_at (by omega), rfl, rfl, Nat.le_of_ble_eq_true rfl, ?_⟩
      | refine ⟨_, _, _, _, ((by exact hk_) : (_ : Option Ob) = _), at_mapA (by assumption), rfl, rfl, Nat.le_of_ble_eq_true rfl, ?_⟩
      | refine ⟨_, ldc_pa (by exact hk_) (at_mapA (by assumption)) (Nat.le_of_ble_eq_true rfl), ?_⟩
      | refine ⟨_, ((by exact hk_) : (_ : Option Ob) = _), ?_⟩
      | (refine ⟨fun hc => ?_, fun hc => ?_⟩ <;> (try simp (disch := omega) only [List.length_map, wrap64] at hc) <;> (try (exfalso; first | contradiction | omega)))
      | fail)
    exact ⟨⟨_, rfl, rfl, bad, rfl, (by refine congrArg B (Eq.symm (tb_pos ?_)); exact True.intro)⟩, (by omega), (by (repeat (refine (hupd_ne (by omega)).trans ?_)); exact h1o 0 (by omega))⟩
  · have hf := zWo_fitN
    repeat' ((conv => whnf); first
      | refine ⟨_, rfl, ?_⟩
      | refine ⟨rfl, ?_⟩
      | refine ⟨_, ldc_cells hupd_at (Nat.le_of_ble_eq_true rfl), ?_⟩
      | refine ⟨_, ldc_cells (by first | assumption | exact zk ‹_› (by omega) | exact zk (zk ‹_› (by omega)) (by omega)) (Nat.le_of_ble_eq_true rfl), ?_⟩
      | refine ⟨_, _, hupd_at, rfl, rfl, Nat.le_of_ble_eq_true rfl, ?_⟩
      | refine ⟨_, _, rfl, rfl, rfl, Nat.le_of_ble_eq_true rfl, ?_⟩
      | (refine ⟨?_, _, (?_ : (_ : Option Ob) = _), rfl, rfl, ?_, ?_⟩; rotate_left; (exact hk_); exact Nat.le_of_ble_eq_true rfl)
      | refine ⟨_, _, _, _, ((by exact hk_) : (_ : Option Ob) = _), fill_at (by omega), rfl, rfl, Nat.le_of_ble_eq_true rfl, ?_⟩
      | refine ⟨_, _, _, _, ((by exact hk_) : (_ : Option Ob) = _), at_mapA (by assumption), rfl, rfl, Nat.le_of_ble_eq_true rfl, ?_⟩
      | refine ⟨_, ldc_pa (by exact hk_) (at_mapA (by assumption)) (Nat.le_of_ble_eq_true rfl), ?_⟩
      | refine ⟨_, ((by exact hk_) : (_ : Option Ob) = _), ?_⟩
      | (refine ⟨fun hc => ?_, fun hc => ?_⟩ <;> (try simp (disch := omega) only [List.length_map, wrap64] at hc))
      | fail)
    refine mq_nWn v_spec_WorldNew_s (by first | assumption | omega) hb rfl ?_
    repeat' ((conv => whnf); first
      | refine ⟨_, rfl, ?_⟩
      | refine ⟨rfl, ?_⟩
      | refine ⟨_, ldc_cells hupd_at (Nat.le_of_ble_eq_true rfl), ?_⟩
      | refine ⟨_, ldc_cells (by first | assumption | exact zk ‹_› (by omega) | exact zk (zk ‹_› (by omega)) (by omega)) (Nat.le_of_ble_eq_true rfl), ?_⟩
      | refine ⟨_, _, hupd_at, rfl, rfl, Nat.le_of_ble_eq_true rfl, ?_⟩
      | refine ⟨_, _, rfl, rfl, rfl, Nat.le_of_ble_eq_true rfl, ?_⟩
      | (refine ⟨?_, _, (?_ : (_ : Option Ob) = _), rfl, rfl, ?_, ?_⟩; rotate_left; (exact hk_); exact Nat.le_of_ble_eq_true rfl)
      | refine ⟨_, _, _, _, ((by exact hk_) : (_ : Option Ob) = _), fill_at (by omega), rfl, rfl, Nat.le_of_ble_eq_true rfl, ?_⟩
      | refine ⟨_, _, _, _, ((by exact hk_) : (_ : Option Ob) = _), at_mapA (by assumption), rfl, rfl, Nat.le_of_ble_eq_true rfl, ?_⟩
      | refine ⟨_, ldc_pa (by exact hk_) (at_mapA (by assumption)) (Nat.le_of_ble_eq_true rfl), ?_⟩
      | refine ⟨_, ((by exact hk_) : (_ : Option Ob) = _), ?_⟩
      | (refine ⟨fun hc => ?_, fun hc => ?_⟩ <;> (try simp (disch := omega) only [List.length_map, wrap64] at hc))
      | fail)
    refine mq_newI (bad := bad) v_WorldNew_s (by first | assumption | omega) rfl (fun hb2 => absurd hb2 hb) (fun hb2 => ?_)
    repeat' ((conv => whnf); first
      | (refine callt (b := [agg (woF zWo), agg (woF zWo)]) v_laws_eqWorld rfl ⟨(zWo, zWo), rfl, hf.1, hf.2, hf.1, hf.2⟩ (.inr ⟨rfl, rfl⟩) (by first | assumption | omega) (fun r hr => K_laws_eqWorld (a := (zWo, zWo)) hr) (fun hj => ?_) (fun hj => ?_) <;> (try (exact absurd rfl hj)))
      | refine ⟨_, rfl, ?_⟩
      | refine ⟨rfl, ?_⟩
      | refine ⟨_, ldc_cells hupd_at (Nat.le_of_ble_eq_true rfl), ?_⟩
      | refine ⟨_, ldc_cells (by first | assumption | exact zk ‹_› (by omega) | exact zk (zk ‹_› (by omega)) (by omega)) (Nat.le_of_ble_eq_true rfl), ?_⟩
      | refine ⟨_, _, hupd_at, rfl, rfl, Nat.le_of_ble_eq_true rfl, ?_⟩
      | refine ⟨_, _, rfl, rfl, rfl, Nat.le_of_ble_eq_true rfl, ?_⟩
      | (refine ⟨?_, _, (?_ : (_ : Option Ob) = _), rfl, rfl, ?_, ?_⟩; rotate_left; (exact hk_); exact Nat.le_of_ble_eq_true rfl)
      | refine ⟨_, _, _, _, ((by exact hk_) : (_ : Option Ob) = _), fill_at (by omega), rfl, rfl, Nat.le_of_ble_eq_true rfl, ?_⟩
      | refine ⟨_, _, _, _, ((by exact hk_) : (_ : Option Ob) = _), at_mapA (by assumption), rfl, rfl, Nat.le_of_ble_eq_true rfl, ?_⟩
      | refine ⟨_, ldc_pa (by exact hk_) (at_mapA (by assumption)) (Nat.le_of_ble_eq_true rfl), ?_⟩
      | refine ⟨_, ((by exact hk_) : (_ : Option Ob) = _), ?_⟩
      | (refine ⟨fun hc => ?_, fun hc => ?_⟩ <;> (try simp (disch := omega) only [List.length_map, wrap64] at hc) <;> (try (exfalso; first | contradiction | omega)))
      | fail)
    refine mq_0 (r0 := I 1) (b := mwEnc none) v_laws_markWorld rfl (by omega) (fun _ => rfl) (fun _ => rfl) rfl ⟨none, rfl, rfl, trivial⟩ (fun r obs' h => K_laws_markWorld (b := none) h) ?_
    repeat' ((conv => whnf); first
      | (refine calle (b := [agg (woF zWo), I 1]) v_laws_heldWorld rfl ⟨(zWo, 1), rfl, rfl, ⟨Nat.zero_le _, fun i n h => by cases h⟩, rfl⟩ (.inr ⟨rfl, rfl⟩) (by first | assumption | omega) (fun r hr => K_laws_heldWorld (a := (zWo, 1)) hr) ?_)
      | refine ⟨_, rfl, ?_⟩
      | refine ⟨rfl, ?_⟩
      | refine ⟨_, ldc_cells hupd_at (Nat.le_of_ble_eq_true rfl), ?_⟩
      | refine ⟨_, ldc_cells (by first | assumption | exact zk ‹_› (by omega) | exact zk (zk ‹_› (by omega)) (by omega)) (Nat.le_of_ble_eq_true rfl), ?_⟩
      | refine ⟨_, _, hupd_at, rfl, rfl, Nat.le_of_ble_eq_true rfl, ?_⟩
      | refine ⟨_, _, rfl, rfl, rfl, Nat.le_of_ble_eq_true rfl, ?_⟩
      | (refine ⟨?_, _, (?_ : (_ : Option Ob) = _), rfl, rfl, ?_, ?_⟩; rotate_left; (exact hk_); exact Nat.le_of_ble_eq_true rfl)
      | refine ⟨_, _, _, _, ((by exact hk_) : (_ : Option Ob) = _), fill_at (by omega), rfl, rfl, Nat.le_of_ble_eq_true rfl, ?_⟩
      | refine ⟨_, _, _, _, ((by exact hk_) : (_ : Option Ob) = _), at_mapA (by assumption), rfl, rfl, Nat.le_of_ble_eq_true rfl, ?_⟩
      | refine ⟨_, ldc_pa (by exact hk_) (at_mapA (by assumption)) (Nat.le_of_ble_eq_true rfl), ?_⟩
      | refine ⟨_, ((by exact hk_) : (_ : Option Ob) = _), ?_⟩
      | (refine ⟨fun hc => ?_, fun hc => ?_⟩ <;> (try simp (disch := omega) only [List.length_map, wrap64] at hc) <;> (try (exfalso; first | contradiction | omega)))
      | fail)
    refine mq_newI (bad := bad) v_WorldNew_s (by first | assumption | omega) rfl (fun hb2 => absurd hb2 hb) (fun hb2 => ?_)
    repeat' ((conv => whnf); first
      | (refine callt (b := [agg (woF zWo), agg (woF zWo)]) v_laws_eqWorld rfl ⟨(zWo, zWo), rfl, hf.1, hf.2, hf.1, hf.2⟩ (.inr ⟨rfl, rfl⟩) (by first | assumption | omega) (fun r hr => K_laws_eqWorld (a := (zWo, zWo)) hr) (fun hj => ?_) (fun hj => ?_) <;> (try (exact absurd rfl hj)))
      | (refine calle (b := [agg (woF zWo), I 1]) v_laws_heldWorld rfl ⟨(zWo, 1), rfl, rfl, ⟨Nat.zero_le _, fun i n h => by cases h⟩, rfl⟩ (.inr ⟨rfl, rfl⟩) (by first | assumption | omega) (fun r hr => K_laws_heldWorld (a := (zWo, 1)) hr) ?_)
      | refine ⟨_, rfl, ?_⟩
      | refine ⟨rfl, ?_⟩
      | refine ⟨_, ldc_cells hupd_at (Nat.le_of_ble_eq_true rfl), ?_⟩
      | refine ⟨_, ldc_cells (by first | assumption | exact zk ‹_› (by omega) | exact zk (zk ‹_› (by omega)) (by omega)) (Nat.le_of_ble_eq_true rfl), ?_⟩
      | refine ⟨_, _, hupd_at, rfl, rfl, Nat.le_of_ble_eq_true rfl, ?_⟩
      | refine ⟨_, _, rfl, rfl, rfl, Nat.le_of_ble_eq_true rfl, ?_⟩
      | (refine ⟨?_, _, (?_ : (_ : Option Ob) = _), rfl, rfl, ?_, ?_⟩; rotate_left; (exact hk_); exact Nat.le_of_ble_eq_true rfl)
      | refine ⟨_, _, _, _, ((by exact hk_) : (_ : Option Ob) = _), fill_at (by omega), rfl, rfl, Nat.le_of_ble_eq_true rfl, ?_⟩
      | refine ⟨_, _, _, _, ((by exact hk_) : (_ : Option Ob) = _), at_mapA (by assumption), rfl, rfl, Nat.le_of_ble_eq_true rfl, ?_⟩
      | refine ⟨_, ldc_pa (by exact hk_) (at_mapA (by assumption)) (Nat.le_of_ble_eq_true rfl), ?_⟩
      | refine ⟨_, ((by exact hk_) : (_ : Option Ob) = _), ?_⟩
      | (refine ⟨fun hc => ?_, fun hc => ?_⟩ <;> (try simp (disch := omega) only [List.length_map, wrap64] at hc) <;> (try (exfalso; first | contradiction | omega)))
      | exact ⟨⟨_, rfl, rfl, bad, rfl, (by refine congrArg B (Eq.symm (tb_pos ?_)); (try dsimp only); first | done | exact absurd True.intro hj | (exact True.intro))⟩, (by first | exact Nat.le_refl _ | omega), (by exact h0_)⟩
      | exact ⟨⟨_, rfl, rfl, bad, rfl, (by refine congrArg B (Eq.symm (tb_neg ?_)); (try dsimp only); first | done | exact absurd True.intro hj | (exact True.intro))⟩, (by first | exact Nat.le_refl _ | omega), (by exact h0_)⟩
      | fail)
end Av
end Go.Proofs.Ytfijfccgghhkoaa
