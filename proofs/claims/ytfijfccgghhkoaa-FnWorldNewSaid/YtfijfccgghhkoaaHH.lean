/- The walk: the law FnWorldNew. -/
import Derived.Test.YtfijfccgghhkoaaHG
import Derived.Test.YtfijfccgghhkoaaWM
import Derived.Test.YtfijfccgghhkoaaWD
set_option linter.unusedVariables false
set_option linter.unusedSimpArgs false
namespace Go.Proofs.Ytfijfccgghhkoaa
namespace Av
open Go.RowKit
theorem bor_IW {H : Hp} {w : Wo} {k : Nat} (h : H k = some (nsO w)) : borV H [none, some 4, some 2] (.w (.g (wiC w k))) = agg (woF w) :=
  congrArg (fun x => AV.w (.g [cI w.ep, x, .c (vsF w.log), cI w.bad])) (bor_ow (sz := 4) (xs := arA ndF w.nodes) h (fcellss_f ndF w.nodes))
theorem newW_fitW (bad : Int) : FitW (newW bad) := by
  have h0 : FitVs [] := ⟨Nat.zero_le _, fun v h => by cases h⟩
  refine ⟨(by decide : 4 ≤ LIM), fun n hn => ?_, h0⟩
  simp only [newW, List.mem_cons, List.not_mem_nil, or_false] at hn
  rcases hn with rfl | rfl | rfl | rfl <;> exact h0
theorem newW_seen (bad : Int) : (∀ n, n ∈ (newW bad).nodes → n.seen = []) ∧ (newW bad).nodes.length ≤ 4 := by
  refine ⟨fun n hn => ?_, Nat.le_refl 4⟩
  simp only [newW, List.mem_cons, List.not_mem_nil, or_false] at hn
  rcases hn with rfl | rfl | rfl | rfl <;> rfl
attribute [local irreducible] Valid ValidM
set_option maxHeartbeats 4000000 in
set_option maxRecDepth 100000 in
theorem v_laws_FnWorldNew : Valid Try.prog n_laws_FnWorldNew S_laws_FnWorldNew := by
  refine valid_of_swp mixed is_laws_FnWorldNew (by rintro _ ⟨a, rfl, _⟩; exact Nat.le_of_ble_eq_true rfl) ?_
  rintro _ rm ⟨code, rfl, hpre⟩ hl
  try dsimp only at hpre
  have hpre0 := hpre
  have hp1 := hpre
  have cc_laws_FnWorldNew : S_laws_FnWorldNew.cost = 200000 := rfl
  have cc_spec_DrawWorldNew : S_spec_DrawWorldNew.cost = 1 := rfl
  have cc_laws_lwWorld : S_laws_lwWorld.cost = 0 := rfl
  have cc_impl_WorldOk_s : S_impl_WorldOk_s.cost = 0 := rfl
  have cc_laws_lwAgreed : S_laws_lwAgreed.cost = 0 := rfl
  have s1 : S_spec_WorldNew_s.st = 0 := rfl
  have s2 : S_impl_WorldNew_s.st = 0 := rfl
  repeat' ((conv => whnf); first
    | refine ⟨_, rfl, ?_⟩
    | refine ⟨rfl, ?_⟩
    | refine ⟨_, ldc_cells hupd_at (Nat.le_of_ble_eq_true rfl), ?_⟩
    | refine ⟨_, ldc_cells (by first | assumption | exact zk ‹_› (by omega) | exact zk (zk ‹_› (by omega)) (by omega)) (Nat.le_of_ble_eq_true rfl), ?_⟩
    | refine ⟨_, _, hupd_at, rfl, rfl, Nat.le_of_ble_eq_true rfl, ?_⟩
    | refine ⟨_, _, rfl, rfl, rfl, Nat.le_of_ble_eq_true rfl, ?_⟩
    | (refine ⟨?_, _, (?_ : (_ : Option Ob) = _), rfl, rfl, ?_, ?_⟩; rotate_left; (exact hk_); exact Nat.le_of_ble_eq_true rfl)
    | refine ⟨_, _, _, _, ((by exact hk_) : (_ : Option Ob) = _), fill_at (by omega), rfl, rfl, Nat.le_of_ble_eq_true rfl, ?_⟩
    | refine ⟨_, _, _, _, ((by exact hk_) : (_ : Option Ob) = _), at_mapA (by assumption), rfl, rfl, Nat.le_of_ble_eq_true rfl, ?_⟩
    | refine ⟨_, ldc_pa (by exact hk_) (at_mapA (by assumption)) (Nat.le_of_ble_eq_true rfl), ?_⟩
    | refine ⟨_, _, _, ((by exact hk_) : (_ : Option Ob) = _), ?_⟩
    | refine ⟨_, ((by exact hk_) : (_ : Option Ob) = _), ?_⟩
    | (refine ⟨fun hc => ?_, fun hc => ?_⟩ <;> (try simp (disch := omega) only [List.length_map, wrap64] at hc))
    | (refine callk (b := [one (byF _)]) v_spec_DrawWorldNew rfl ⟨_, rfl, (by exact pr_)⟩ (.inl rfl) (by omega) (fun r hr => ?_); have hj := K_spec_DrawWorldNew (a := _) hr; clear hr; obtain ⟨k, rfl, hk⟩ := hj)
    | exact ⟨⟨_, rfl, rfl, code, rfl, (by unfold R_laws_FnWorldNew; dsimp only; first | done | exact absurd True.intro hj | (rfl))⟩, (by first | exact Nat.le_refl _ | omega), (by exact h0_)⟩
    | fail)
  by_cases hb : In k 0 4
  · have hf := newW_fitW k
    refine mq_nWs v_spec_WorldNew_s (by first | assumption | omega) hb rfl (fun H1 hW1 h1o => ?_)
    repeat' ((conv => whnf); first
      | refine ⟨_, rfl, ?_⟩
      | refine ⟨rfl, ?_⟩
      | refine ⟨_, ldc_cells hupd_at (Nat.le_of_ble_eq_true rfl), ?_⟩
      | refine ⟨_, ldc_cells (by first | assumption | exact zk ‹_› (by omega) | exact zk (zk ‹_› (by omega)) (by omega)) (Nat.le_of_ble_eq_true rfl), ?_⟩
      | refine ⟨_, _, hupd_at, rfl, rfl, Nat.le_of_ble_eq_true rfl, ?_⟩
      | refine ⟨_, _, rfl, rfl, rfl, Nat.le_of_ble_eq_true rfl, ?_⟩
      | (refine ⟨?_, _, (?_ : (_ : Option Ob) = _), rfl, rfl, ?_, ?_⟩; rotate_left; (exact hk_); exact Nat.le_of_ble_eq_true rfl)
      | refine ⟨_, _, _, _, ((by exact hk_) : (_ : Option Ob) = _), fill_at (by omega), rfl, rfl, Nat.le_of_ble_eq_true rfl, ?_⟩
      | refine ⟨_, _, _, _, ((by exact hk_) : (_ : Option Ob) = _), at_mapA (by assumption), rfl, rfl, Nat.le_of_ble_eq_true rfl, ?_⟩
      | refine ⟨_, ldc_pa (by exact hk_) (at_mapA (by assumption)) (Nat.le_of_ble_eq_true rfl), ?_⟩
      | refine ⟨_, _, _, ((by exact hk_) : (_ : Option Ob) = _), ?_⟩
      | refine ⟨_, ((by exact hk_) : (_ : Option Ob) = _), ?_⟩
      | (refine ⟨fun hc => ?_, fun hc => ?_⟩ <;> (try simp (disch := omega) only [List.length_map, wrap64] at hc))
      | fail)
    refine mq_newI (bad := k) v_WorldNew_s (by first | assumption | omega) rfl (fun hb2 => ?_) (fun hb2 => absurd hb hb2)
    have e0 : (newW k).ep = 0 := rfl
    have e1 : (newW k).nodes.length = 4 := rfl
    have e2 : (newW k).log.length = 0 := rfl
    have e3 := newW_seen k
    repeat' ((conv => whnf); first
      | (refine callt (b := [agg (woF (newW k)), agg (woF (newW k))]) v_laws_lwWorld (l2 (bor_IW (w := newW k) hk_) (bor_W (w := newW k) (f := fun j => 1 + 16 + 16 + 16 + 16 + 16 + 16 + 16 + 16 + 1 + j) (by (repeat (refine (hupd_ne (by omega)).trans ?_)); exact hW1.arr) rfl)) ⟨(newW k, newW k), rfl, hf, hf⟩ (.inr ⟨rfl, rfl⟩) (by first | assumption | omega) (fun r hr => K_laws_lwWorld (a := (newW k, newW k)) hr) (fun hj => ?_) (fun hj => ?_) <;> (try (exact absurd rfl hj)))
      | (refine callt (b := [agg (woF (newW k))]) v_impl_WorldOk_s (congrArg (fun z => [z]) (bor_IW (w := newW k) hk_)) ⟨newW k, rfl, newW_new hb⟩ (.inr ⟨rfl, rfl⟩) (by first | assumption | omega) (fun r hr => K_impl_WorldOk_s (a := newW k) hr) (fun hj => ?_) (fun hj => ?_) <;> (try (exact absurd trivial hj)))
      | (refine callt (b := [agg (woF (newW k))]) v_laws_lwAgreed (congrArg (fun z => [z]) (bor_IW (w := newW k) hk_)) ⟨newW k, rfl, e3.1, e3.2⟩ (.inr ⟨rfl, rfl⟩) (by first | assumption | omega) (fun r hr => K_laws_lwAgreed (a := newW k) hr) (fun hj => ?_) (fun hj => ?_) <;> (try (exact absurd trivial hj)))
      | refine ⟨_, _, _, (hk_ : (_ : Option Ob) = _), ?_⟩
      | refine ⟨_, ldc_cells hk_ (Nat.le_of_ble_eq_true rfl), ?_⟩
      | refine ⟨_, rfl, ?_⟩
      | refine ⟨rfl, ?_⟩
      | refine ⟨_, ldc_cells hupd_at (Nat.le_of_ble_eq_true rfl), ?_⟩
      | refine ⟨_, ldc_cells (by first | assumption | exact zk ‹_› (by omega) | exact zk (zk ‹_› (by omega)) (by omega)) (Nat.le_of_ble_eq_true rfl), ?_⟩
      | refine ⟨_, _, hupd_at, rfl, rfl, Nat.le_of_ble_eq_true rfl, ?_⟩
      | refine ⟨_, _, rfl, rfl, rfl, Nat.le_of_ble_eq_true rfl, ?_⟩
      | (refine ⟨?_, _, (?_ : (_ : Option Ob) = _), rfl, rfl, ?_, ?_⟩; rotate_left; (exact hk_); exact Nat.le_of_ble_eq_true rfl)
      | refine ⟨_, _, _, _, ((by exact hk_) : (_ : Option Ob) = _), fill_at (by omega), rfl, rfl, Nat.le_of_ble_eq_true rfl, ?_⟩
      | refine ⟨_, _, _, _, ((by exact hk_) : (_ : Option Ob) = _), at_mapA (by assumption), rfl, rfl, Nat.le_of_ble_eq_true rfl, ?_⟩
      | refine ⟨_, ldc_pa (by exact hk_) (at_mapA (by assumption)) (Nat.le_of_ble_eq_true rfl), ?_⟩
      | refine ⟨_, _, _, ((by exact hk_) : (_ : Option Ob) = _), ?_⟩
      | refine ⟨_, ((by exact hk_) : (_ : Option Ob) = _), ?_⟩
      | (refine ⟨fun hc => ?_, fun hc => ?_⟩ <;> (try simp (disch := omega) only [List.length_map, wrap64] at hc) <;> (try (exfalso; first | contradiction | omega)))
      | fail)
    exact ⟨⟨_, rfl, rfl, code, rfl, rfl⟩, (by omega), (by (repeat (refine (hupd_ne (by omega)).trans ?_)); exact h1o 0 (by omega))⟩
  · have hf := zWo_fit
    refine mq_nWn v_spec_WorldNew_s (by first | assumption | omega) hb rfl ?_
    repeat' ((conv => whnf); first
      | refine ⟨_, rfl, ?_⟩
      | refine ⟨rfl, ?_⟩
      | refine ⟨_, ldc_cells hupd_at (Nat.le_of_ble_eq_true rfl), ?_⟩
      | refine ⟨_, ldc_cells (by first | assumption | exact zk ‹_› (by omega) | exact zk (zk ‹_› (by omega)) (by omega)) (Nat.le_of_ble_eq_true rfl), ?_⟩
      | refine ⟨_, _, hupd_at, rfl, rfl, Nat.le_of_ble_eq_true rfl, ?_⟩
      | refine ⟨_, _, rfl, rfl, rfl, Nat.le_of_ble_eq_true rfl, ?_⟩
      | (refine ⟨?_, _, (?_ : (_ : Option Ob) = _), rfl, rfl, ?_, ?_⟩; rotate_left; (exact hk_); exact Nat.le_of_ble_eq_true rfl)
      | refine ⟨_, _, _, _, ((by exact hk_) : (_ : Option Ob) = _), fill_at (by omega), rfl, rfl, Nat.le_of_ble_eq_true rfl, ?_⟩
      | refine ⟨_, _, _, _, ((by exact hk_) : (_ : Option Ob) = _), at_mapA (by assumption), rfl, rfl, Nat.le_of_ble_eq_true rfl, ?_⟩
      | refine ⟨_, ldc_pa (by exact hk_) (at_mapA (by assumption)) (Nat.le_of_ble_eq_true rfl), ?_⟩
      | refine ⟨_, _, _, ((by exact hk_) : (_ : Option Ob) = _), ?_⟩
      | refine ⟨_, ((by exact hk_) : (_ : Option Ob) = _), ?_⟩
      | (refine ⟨fun hc => ?_, fun hc => ?_⟩ <;> (try simp (disch := omega) only [List.length_map, wrap64] at hc))
      | fail)
    refine mq_newI (bad := k) v_WorldNew_s (by first | assumption | omega) rfl (fun hb2 => absurd hb2 hb) (fun hb2 => ?_)
    repeat' ((conv => whnf); first
      | (refine callt (b := [agg (woF zWo), agg (woF zWo)]) v_laws_lwWorld rfl ⟨(zWo, zWo), rfl, hf, hf⟩ (.inr ⟨rfl, rfl⟩) (by first | assumption | omega) (fun r hr => K_laws_lwWorld (a := (zWo, zWo)) hr) (fun hj => ?_) (fun hj => ?_) <;> (try (exact absurd rfl hj)))
      | refine ⟨_, rfl, ?_⟩
      | refine ⟨rfl, ?_⟩
      | refine ⟨_, ldc_cells hupd_at (Nat.le_of_ble_eq_true rfl), ?_⟩
      | refine ⟨_, ldc_cells (by first | assumption | exact zk ‹_› (by omega) | exact zk (zk ‹_› (by omega)) (by omega)) (Nat.le_of_ble_eq_true rfl), ?_⟩
      | refine ⟨_, _, hupd_at, rfl, rfl, Nat.le_of_ble_eq_true rfl, ?_⟩
      | refine ⟨_, _, rfl, rfl, rfl, Nat.le_of_ble_eq_true rfl, ?_⟩
      | (refine ⟨?_, _, (?_ : (_ : Option Ob) = _), rfl, rfl, ?_, ?_⟩; rotate_left; (exact hk_); exact Nat.le_of_ble_eq_true rfl)
      | refine ⟨_, _, _, _, ((by exact hk_) : (_ : Option Ob) = _), fill_at (by omega), rfl, rfl, Nat.le_of_ble_eq_true rfl, ?_⟩
      | refine ⟨_, _, _, _, ((by exact hk_) : (_ : Option Ob) = _), at_mapA (by assumption), rfl, rfl, Nat.le_of_ble_eq_true rfl, ?_⟩
      | refine ⟨_, ldc_pa (by exact hk_) (at_mapA (by assumption)) (Nat.le_of_ble_eq_true rfl), ?_⟩
      | refine ⟨_, _, _, ((by exact hk_) : (_ : Option Ob) = _), ?_⟩
      | refine ⟨_, ((by exact hk_) : (_ : Option Ob) = _), ?_⟩
      | (refine ⟨fun hc => ?_, fun hc => ?_⟩ <;> (try simp (disch := omega) only [List.length_map, wrap64] at hc) <;> (try (exfalso; first | contradiction | omega)))
      | fail)
    exact ⟨⟨_, rfl, rfl, code, rfl, rfl⟩, (by omega), h0_⟩
end Av
end Go.Proofs.Ytfijfccgghhkoaa
