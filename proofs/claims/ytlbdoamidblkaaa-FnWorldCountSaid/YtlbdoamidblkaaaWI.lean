/- The walk: the law FnWorldCount. -/
import Derived.Test.YtlbdoamidblkaaaWF
import Derived.Test.YtlbdoamidblkaaaWD
import Derived.Test.YtlbdoamidblkaaaWG
set_option linter.unusedVariables false
set_option linter.unusedSimpArgs false
namespace Go.Proofs.Ytlbdoamidblkaaa
namespace Av
open Go.RowKit
attribute [local irreducible] Valid ValidM
/-- How many of somebody's votes are among the first. -/
def cntV (l : List Vo) (b : Int) (k : Nat) : Nat := ((l.take k).filter fun v => decide (v.n = b)).length
theorem cntV_yes {l : List Vo} {b : Int} {k : Nat} {v : Vo} (h : l[k]? = some v) (hb : v.n = b) : cntV l b (k + 1) = cntV l b k + 1 := by
  unfold cntV; rw [List.take_add_one, h, List.filter_append]; simp [hb]
theorem cntV_no {l : List Vo} {b : Int} {k : Nat} {v : Vo} (h : l[k]? = some v) (hb : ¬ v.n = b) : cntV l b (k + 1) = cntV l b k := by
  unfold cntV; rw [List.take_add_one, h, List.filter_append]; simp [hb]
theorem cntV_le (l : List Vo) (b : Int) (k : Nat) : cntV l b k ≤ k := by
  unfold cntV
  exact Nat.le_trans (List.length_filter_le _ _) (by rw [List.length_take]; omega)
noncomputable def lpN : A := (.loop
 (.seq
 (.seq
 (.rg [⟨some 57, none, .mv (.t 11)⟩,
   ⟨some 58, none, .fld 2 (.t 5)⟩,
   ⟨some 59, none, .load none (.t 58)⟩,
   ⟨some 60, none, .len (.t 59)⟩,
   ⟨some 61, none, .bin 0 .lss (.t 57) (.t 60)⟩])
 (.cond (.t 61)
 .skip
 (.exit 2)))
 (.seq
 (.block 3
 (.seq
 (.rg [⟨some 64, none, .fld 2 (.t 5)⟩,
   ⟨some 65, none, .load none (.t 64)⟩,
   ⟨some 66, none, .mv (.t 11)⟩,
   ⟨some 67, none, .idx 2 (.t 65) (.t 66)⟩,
   ⟨some 68, none, .fld 0 (.t 67)⟩,
   ⟨some 69, none, .load none (.t 68)⟩,
   ⟨some 70, none, .mv (.t 9)⟩,
   ⟨some 71, none, .bin 0 .eql (.t 69) (.t 70)⟩])
 (.cond (.t 71)
 (.rg [⟨some 72, none, .mv (.t 10)⟩,
   ⟨some 73, none, .bin 0 .add (.t 72) (.k (.int .i64 1))⟩,
   ⟨some 10, none, .mv (.t 73)⟩])
 .skip)))
 (.rg [⟨some 62, none, .mv (.t 11)⟩,
   ⟨some 63, none, .bin 0 .add (.t 62) (.k (.int .i64 1))⟩,
   ⟨some 11, none, .mv (.t 63)⟩]))))
set_option maxHeartbeats 4000000 in
set_option maxRecDepth 100000 in
theorem lpN_ok {w : Wo} {bad b : Int} {Q : Post} {fr : Env} {H : Hp} {nx rm : Nat} (hl80 : w.log.length ≤ 80) (hfr : Has fr [(3, I bad), (5, .w (.o (.ptr 273 0))), (9, I b), (10, I 0), (11, I 0)]) (hH : H 0 = none) (h5 : 274 ≤ nx) (hH5 : H 273 = some (.cells ((woF w).map AC.c)))
    (hE : ∀ fr' H' nx', Has fr' [(3, I bad), (5, .w (.o (.ptr 273 0))), (9, I b), (10, I ((cntV w.log b w.log.length : Nat) : Int))] → 274 ≤ nx' → H' 0 = none → H' 273 = some (.cells ((woF w).map AC.c)) → Q (.exit 2) fr' H' nx' rm) : swp Try.prog lpN Q fr H nx rm := by
  conv => whnf
  refine ⟨fun fr H nx rm' => ∃ (k : Nat), Has fr [(3, I bad), (5, .w (.o (.ptr 273 0))), (9, I b), (10, I ((cntV w.log b k : Nat) : Int)), (11, I k)] ∧ k ≤ w.log.length ∧ 274 ≤ nx ∧ H 273 = some (.cells ((woF w).map AC.c)) ∧ H 0 = none ∧ rm' = rm,
    fun fr _ _ _ => w.log.length - ix (fr 11), ⟨0, hfr, Nat.zero_le _, h5, hH5, hH, rfl⟩, ?_⟩
  clear hfr hH h5 hH5
  rintro fr H nx rm' ⟨k, hfr, hk, h5, hH5, hH, rfl⟩
  rw [hfr.eq]
  have hlL : w.log.length ≤ LIM := Nat.le_trans hl80 (by decide)
  rcases Nat.lt_or_ge k w.log.length with hk' | hk'
  · obtain ⟨v, hv⟩ : ∃ v, w.log[k]? = some v := ⟨_, List.getElem?_eq_getElem hk'⟩
    have hc := cntV_le w.log b k
    have hcw : IntKind.i64.wrap (((cntV w.log b k : Nat) : Int) + 1) = ((cntV w.log b k + 1 : Nat) : Int) := by rw [wrap64] <;> omega
    by_cases hb : v.n = b
    · have e := cntV_yes hv hb
      repeat' ((conv => whnf); first
        | refine ⟨rfl, k, _, rfl, at_map hv, ?_⟩
        | refine ⟨_, rfl, ?_⟩
        | refine ⟨rfl, ?_⟩
        | refine ⟨_, ldc_cells (by first | assumption | exact zk ‹_› (by omega) | exact zk (zk ‹_› (by omega)) (by omega)) (Nat.le_of_ble_eq_true rfl), ?_⟩
        | (refine ⟨fun hc => ?_, fun hc => ?_⟩ <;> (try simp (disch := omega) only [List.length_map, wrap64] at hc) <;> (try (exfalso; first | contradiction | omega)))
        | (refine ⟨⟨k + 1, ⟨rfl, rfl, rfl, (by rw [e]; exact congrArg I hcw), congrArg I (wrap_up (n := w.log.length) (by omega) hlL), trivial⟩, (by omega), (by omega), (by first | assumption | exact hk_), (by first | assumption | exact ne_), rfl⟩, ?_⟩; show w.log.length - ix (I _) < w.log.length - ix (I _); simp only [wrap_up (n := w.log.length) (i := k) (by omega) hlL, ix, Int.toNat_natCast]; omega)
        | fail)
    · have e := cntV_no hv hb
      repeat' ((conv => whnf); first
        | refine ⟨rfl, k, _, rfl, at_map hv, ?_⟩
        | refine ⟨_, rfl, ?_⟩
        | refine ⟨rfl, ?_⟩
        | refine ⟨_, ldc_cells (by first | assumption | exact zk ‹_› (by omega) | exact zk (zk ‹_› (by omega)) (by omega)) (Nat.le_of_ble_eq_true rfl), ?_⟩
        | (refine ⟨fun hc => ?_, fun hc => ?_⟩ <;> (try simp (disch := omega) only [List.length_map, wrap64] at hc) <;> (try (exfalso; first | contradiction | omega)))
        | (refine ⟨⟨k + 1, ⟨rfl, rfl, rfl, (by rw [e]; rfl), congrArg I (wrap_up (n := w.log.length) (by omega) hlL), trivial⟩, (by omega), (by omega), (by first | assumption | exact hk_), (by first | assumption | exact ne_), rfl⟩, ?_⟩; show w.log.length - ix (I _) < w.log.length - ix (I _); simp only [wrap_up (n := w.log.length) (i := k) (by omega) hlL, ix, Int.toNat_natCast]; omega)
        | fail)
  · have hke : k = w.log.length := by omega
    subst hke
    repeat' ((conv => whnf); first
      | refine ⟨rfl, ?_⟩
      | refine ⟨_, ldc_cells (by first | assumption | exact zk ‹_› (by omega) | exact zk (zk ‹_› (by omega)) (by omega)) (Nat.le_of_ble_eq_true rfl), ?_⟩
      | (refine ⟨fun hc => ?_, fun hc => ?_⟩ <;> (try simp (disch := omega) only [List.length_map, wrap64] at hc) <;> (try (exfalso; first | contradiction | omega)))
      | exact hE _ _ _ ⟨rfl, rfl, rfl, rfl, trivial⟩ (by omega) (by first | assumption | exact ne_) (by first | assumption | exact hk_)
      | fail)
set_option maxHeartbeats 4000000 in
set_option maxRecDepth 100000 in
theorem v_laws_FnWorldCount : Valid Try.prog n_laws_FnWorldCount S_laws_FnWorldCount := by
  refine valid_of_swp mixed is_laws_FnWorldCount (by rintro _ ⟨a, rfl, _⟩; exact Nat.le_of_ble_eq_true rfl) ?_
  rintro _ rm ⟨code, rfl, hpre⟩ hl
  try dsimp only at hpre
  have hpre0 := hpre
  have hp1 := hpre
  have cc_laws_FnWorldCount : S_laws_FnWorldCount.cost = 200000 := rfl
  have cc_spec_DrawWorldPlay : S_spec_DrawWorldPlay.cost = 60000 := rfl
  have cc_impl_WorldPlay : S_impl_WorldPlay.cost = 0 := rfl
  have cc_spec_WorldPlay : S_spec_WorldPlay.cost = 0 := rfl
  have cc_laws_lwWorld : S_laws_lwWorld.cost = 0 := rfl
  repeat' ((conv => whnf); first
    | refine ⟨rfl, ?_⟩
    | (refine ⟨fun hc => ?_, fun hc => ?_⟩ <;> (try simp (disch := omega) only [List.length_map, wrap64] at hc))
    | (refine callk (b := [one (byF _)]) v_spec_DrawWorldPlay rfl ⟨_, rfl, (by exact pr_)⟩ (.inl rfl) (by omega) (fun r hr => ?_); have hj := K_spec_DrawWorldPlay (a := _) hr; clear hr; obtain ⟨bad, es, rfl, hes⟩ := hj)
    | exact ⟨⟨_, rfl, rfl, code, rfl, (by unfold R_laws_FnWorldCount; dsimp only; first | done | exact absurd True.intro hj | (rfl))⟩, (by first | exact Nat.le_refl _ | omega), (by exact h0_)⟩
    | fail)
  by_cases hb : In bad 0 4 ∧ es.length ≤ 70
  · have eP := playT_yes hb
    have hJ := playW_wj hb.1 es
    have hbad := playW_bad bad es
    have hfw : FitW (playW bad es) := hJ.inv.fitW
    generalize playW bad es = w at *
    have hs : SeenB w.log := hJ.inv.2.2.2.1
    have hl80 : w.log.length ≤ 80 := hs.1
    repeat' ((conv => whnf); first
      | refine ⟨_, rfl, ?_⟩
      | refine ⟨_, _, hupd_at, rfl, rfl, Nat.le_of_ble_eq_true rfl, ?_⟩
      | (refine callk (b := [I _, one (evsF _)]) v_impl_WorldPlay rfl ⟨(_, _), rfl, (by exact pr_)⟩ (.inl rfl) (by first | assumption | omega) (fun r hr => ?_); have hj := K_impl_WorldPlay (a := (_, _)) hr; clear hr; unfold R_impl_WorldPlay at hj; dsimp only at hj; (try rw [eP] at hj); subst hj)
      | (refine callk (b := [I _, one (evsF _)]) v_spec_WorldPlay rfl ⟨(_, _), rfl, (by exact pr_)⟩ (.inl rfl) (by first | assumption | omega) (fun r hr => ?_); have hj := K_spec_WorldPlay (a := (_, _)) hr; clear hr; unfold R_spec_WorldPlay at hj; dsimp only at hj; (try rw [eP] at hj); subst hj)
      | (refine callt (b := [agg (woF ⟨_, _, _, _⟩), agg (woF ⟨_, _, _, _⟩)]) v_laws_lwWorld rfl ⟨(⟨_, _, _, _⟩, ⟨_, _, _, _⟩), rfl, (by refine ⟨?_, ?_⟩ <;> (exact pr_))⟩ (.inl rfl) (by first | assumption | omega) (fun r hr => K_laws_lwWorld (a := (⟨_, _, _, _⟩, ⟨_, _, _, _⟩)) hr) (fun hj => ?_) (fun hj => ?_) <;> (try simp only [etaPa, etaIt, etaVo] at hj) <;> (try simp only [etaWo] at hj) <;> (try contradiction))
      | fail)
    subst hbad
    conv => whnf
    refine ⟨fun fr H nx rm' => ∃ (i : Nat), Has fr [(3, I w.bad), (5, .w (.o (.ptr 273 0))), (9, I ((i + 1 : Nat) : Int))] ∧ i ≤ 4 ∧ 274 ≤ nx ∧ H 273 = some (.cells ((woF w).map AC.c)) ∧ H 0 = none ∧ rm' ≤ rm + 100000,
      fun fr _ _ _ => 5 - ix (fr 9), ⟨0, ⟨rfl, rfl, rfl, trivial⟩, Nat.zero_le _, ln_, hk_, ne_, (by omega)⟩, ?_⟩
    rintro fr H nx rm' ⟨i, hfr, hi, hnx, hH5, hH0, hrm⟩
    rw [hfr.eq]
    rcases Nat.lt_or_ge i 4 with hi' | hi'
    · have hw : IntKind.i64.wrap (((i + 1 : Nat) : Int) + 1) = ((i + 1 + 1 : Nat) : Int) := by rw [wrap64] <;> omega
      have hcnt : ((i + 1 : Nat) : Int) ≠ w.bad → ((cntV w.log ((i + 1 : Nat) : Int) w.log.length : Nat) : Int) ≤ w.ep := fun h => by
        unfold cntV; rw [List.take_length]; exact hJ.count h
      repeat' ((conv => whnf); first
        | refine ⟨rfl, ?_⟩
        | (refine ⟨fun hc => ?_, fun hc => ?_⟩ <;> (try simp (disch := omega) only [List.length_map, wrap64] at hc) <;> (try (exfalso; first | contradiction | omega)))
        | fail)
      refine lpN_ok (w := w) (bad := w.bad) (b := ((i + 1 : Nat) : Int)) hl80 ⟨rfl, rfl, rfl, rfl, rfl, trivial⟩ (by first | assumption | exact ne_) (by omega) (by first | assumption | exact hk_) (fun fr2 H2 nx2 hfr2 hnx2 h02 h52 => ?_)
      rw [hfr2.eq]
      by_cases hbd : ((i + 1 : Nat) : Int) = w.bad
      · skip
        repeat' ((conv => whnf); first
          | refine ⟨rfl, ?_⟩
          | (refine ⟨fun hc => ?_, fun hc => ?_⟩ <;> (try simp (disch := omega) only [List.length_map, wrap64] at hc) <;> (try (exfalso; first | contradiction | omega)))
          | (refine ⟨⟨i + 1, ⟨rfl, rfl, congrArg I hw, trivial⟩, (by omega), (by omega), (by first | assumption | exact hk_), (by first | assumption | exact ne_), (by omega)⟩, ?_⟩; show 5 - ix (I _) < 5 - ix (I _); simp only [hw, ix, Int.toNat_natCast]; omega)
          | fail)
      · have hc2 := hcnt hbd
        repeat' ((conv => whnf); first
          | refine ⟨rfl, ?_⟩
          | refine ⟨_, ldc_cells (by first | assumption | exact zk ‹_› (by omega) | exact zk (zk ‹_› (by omega)) (by omega)) (Nat.le_of_ble_eq_true rfl), ?_⟩
          | (refine ⟨fun hc => ?_, fun hc => ?_⟩ <;> (try simp (disch := omega) only [List.length_map, wrap64] at hc) <;> (try (exfalso; first | contradiction | omega)))
          | (refine ⟨⟨i + 1, ⟨rfl, rfl, congrArg I hw, trivial⟩, (by omega), (by omega), (by first | assumption | exact hk_), (by first | assumption | exact ne_), (by omega)⟩, ?_⟩; show 5 - ix (I _) < 5 - ix (I _); simp only [hw, ix, Int.toNat_natCast]; omega)
          | fail)
    · have hi4 : i = 4 := by omega
      subst hi4
      have hdl : decide (((w.log.map voF).length : Int) ≤ 80) = true := by rw [List.length_map]; exact decide_eq_true (by omega)
      repeat' ((conv => whnf); first
        | refine ⟨rfl, ?_⟩
        | refine ⟨_, ldc_cells (by first | assumption | exact zk ‹_› (by omega) | exact zk (zk ‹_› (by omega)) (by omega)) (Nat.le_of_ble_eq_true rfl), ?_⟩
        | (refine ⟨fun hc => ?_, fun hc => ?_⟩ <;> (try simp (disch := omega) only [List.length_map, wrap64] at hc) <;> (try (exfalso; first | contradiction | omega)))
        | exact ⟨⟨_, rfl, rfl, code, rfl, rfl⟩, (by omega), (by first | assumption | exact ne_)⟩
        | fail)
      all_goals exact absurd hdl (by simp only [List.length_map, decide_eq_true_eq]; omega)
  · have eP := playT_no hb
    have hfz := zWo_fit
    repeat' ((conv => whnf); first
      | refine ⟨_, rfl, ?_⟩
      | refine ⟨_, _, hupd_at, rfl, rfl, Nat.le_of_ble_eq_true rfl, ?_⟩
      | (refine callk (b := [I _, one (evsF _)]) v_impl_WorldPlay rfl ⟨(_, _), rfl, (by exact pr_)⟩ (.inl rfl) (by first | assumption | omega) (fun r hr => ?_); have hj := K_impl_WorldPlay (a := (_, _)) hr; clear hr; unfold R_impl_WorldPlay at hj; dsimp only at hj; (try rw [eP] at hj); subst hj)
      | (refine callk (b := [I _, one (evsF _)]) v_spec_WorldPlay rfl ⟨(_, _), rfl, (by exact pr_)⟩ (.inl rfl) (by first | assumption | omega) (fun r hr => ?_); have hj := K_spec_WorldPlay (a := (_, _)) hr; clear hr; unfold R_spec_WorldPlay at hj; dsimp only at hj; (try rw [eP] at hj); subst hj)
      | (refine callt (b := [agg (woF ⟨_, _, _, _⟩), agg (woF ⟨_, _, _, _⟩)]) v_laws_lwWorld rfl ⟨(⟨_, _, _, _⟩, ⟨_, _, _, _⟩), rfl, (by refine ⟨?_, ?_⟩ <;> (exact pr_))⟩ (.inl rfl) (by first | assumption | omega) (fun r hr => K_laws_lwWorld (a := (⟨_, _, _, _⟩, ⟨_, _, _, _⟩)) hr) (fun hj => ?_) (fun hj => ?_) <;> (try simp only [etaPa, etaIt, etaVo] at hj) <;> (try simp only [etaWo] at hj) <;> (try contradiction))
      | exact ⟨⟨_, rfl, rfl, code, rfl, (by unfold R_laws_FnWorldCount; dsimp only; first | done | exact absurd True.intro hj | (first | rfl | (exfalso; first | contradiction | omega | grind)))⟩, (by first | exact Nat.le_refl _ | omega), (by exact h0_)⟩
      | fail)
end Av
end Go.Proofs.Ytlbdoamidblkaaa
