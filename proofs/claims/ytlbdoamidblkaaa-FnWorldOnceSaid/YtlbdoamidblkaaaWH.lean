/- The walk: the law FnWorldOnce. -/
import Derived.Test.YtlbdoamidblkaaaWF
import Derived.Test.YtlbdoamidblkaaaWD
import Derived.Test.YtlbdoamidblkaaaWE
set_option linter.unusedVariables false
set_option linter.unusedSimpArgs false
namespace Go.Proofs.Ytlbdoamidblkaaa
namespace Av
open Go.RowKit
attribute [local irreducible] Valid ValidM
noncomputable def lpO : A := (.loop
 (.seq
 (.seq
 (.rg [⟨some 84, none, .mv (.t 12)⟩,
   ⟨some 85, none, .mv (.t 9)⟩,
   ⟨some 86, none, .bin 0 .lss (.t 84) (.t 85)⟩])
 (.cond (.t 86)
 .skip
 (.exit 2)))
 (.seq
 (.block 3
 (.seq
 (.rg [⟨some 89, none, .fld 2 (.t 5)⟩,
   ⟨some 90, none, .load none (.t 89)⟩,
   ⟨some 91, none, .mv (.t 12)⟩,
   ⟨some 92, none, .idx 2 (.t 90) (.t 91)⟩,
   ⟨some 93, none, .load (some 2) (.t 92)⟩,
   ⟨some 13, none, .alloc [.int .i64 0, .slice none 0 0]⟩,
   ⟨none, none, .store 2 (.t 13) (.t 93)⟩])
 (.seq
 (.rg [⟨some 94, none, .fld 0 (.t 13)⟩,
   ⟨some 95, none, .load none (.t 94)⟩,
   ⟨some 96, none, .fld 0 (.t 10)⟩,
   ⟨some 97, none, .load none (.t 96)⟩,
   ⟨some 98, none, .bin 0 .eql (.t 95) (.t 97)⟩,
   ⟨some 99, none, .mv (.t 98)⟩,
   ⟨some 100, some (99, true), .fld 1 (.t 13)⟩,
   ⟨some 101, some (99, true), .load none (.t 100)⟩,
   ⟨some 102, some (99, true), .fld 1 (.t 13)⟩,
   ⟨some 103, some (99, true), .load none (.t 102)⟩,
   ⟨some 104, some (99, true), .len (.t 103)⟩,
   ⟨some 105, some (99, true), .bin 0 .sub (.t 104) (.k (.int .i64 1))⟩,
   ⟨some 106, some (99, true), .idx 4 (.t 101) (.t 105)⟩,
   ⟨some 107, some (99, true), .fld 0 (.t 106)⟩,
   ⟨some 108, some (99, true), .load none (.t 107)⟩,
   ⟨some 109, some (99, true), .mv (.t 11)⟩,
   ⟨some 110, some (99, true), .bin 0 .eql (.t 108) (.t 109)⟩,
   ⟨some 111, none, .pick (.t 99) (.t 110) (.k (.bool false))⟩])
 (.cond (.t 111)
 (.seq
 (.rg [⟨some 2, none, .mv (.k (.bool false))⟩])
 .ret)
 .skip))))
 (.rg [⟨some 87, none, .mv (.t 12)⟩,
   ⟨some 88, none, .bin 0 .add (.t 87) (.k (.int .i64 1))⟩,
   ⟨some 12, none, .mv (.t 88)⟩]))))
set_option maxHeartbeats 4000000 in
set_option maxRecDepth 100000 in
theorem lpO_ok {w : Wo} {a : Vo} {bad : Int} {k5 p i : Nat} {Q : Post} {fr : Env} {H : Hp} {nx rm : Nat} (hs : SeenB w.log) (hi : i ≤ w.log.length) (hno : ∀ k b, k < i → w.log[k]? = some b → ¬ (b.n = a.n ∧ lastE b = lastE a)) (hfr : Has fr [(3, I bad), (5, .w (.o (.ptr k5 0))), (9, I i), (10, .w (.o (.ptr p 0))), (11, I (lastE a)), (12, I 0)]) (hH : H 0 = none) (h1 : 1 ≤ k5) (h5 : k5 < nx) (hp : p < nx) (hp1 : 1 ≤ p) (hH5 : H k5 = some (.cells ((woF w).map AC.c))) (hHp : H p = some (.cells ((voF a).map AC.c)))
    (hE : ∀ fr' H' nx', Has fr' [(3, I bad), (5, .w (.o (.ptr k5 0))), (9, I i)] → nx ≤ nx' → H' 0 = none → H' k5 = some (.cells ((woF w).map AC.c)) → Q (.exit 2) fr' H' nx' rm) : swp Try.prog lpO Q fr H nx rm := by
  have hl80 := hs.1
  obtain ⟨nx0, hnx0⟩ : ∃ z, z = nx := ⟨_, rfl⟩
  rw [← hnx0] at hE
  conv => whnf
  refine ⟨fun fr H nx rm' => ∃ (k : Nat), Has fr [(3, I bad), (5, .w (.o (.ptr k5 0))), (9, I i), (10, .w (.o (.ptr p 0))), (11, I (lastE a)), (12, I k)] ∧ k ≤ i ∧ nx0 ≤ nx ∧ k5 < nx ∧ p < nx ∧ H k5 = some (.cells ((woF w).map AC.c)) ∧ H p = some (.cells ((voF a).map AC.c)) ∧ H 0 = none ∧ rm' = rm,
    fun fr _ _ _ => i - ix (fr 12), ⟨0, hfr, Nat.zero_le _, by omega, h5, hp, hH5, hHp, hH, rfl⟩, ?_⟩
  clear hfr hH h5 hp hH5 hHp hnx0
  rintro fr H nx rm' ⟨k, hfr, hk, hnx, h5, hp, hH5, hHp, hH, rfl⟩
  rw [hfr.eq]
  have hiL : i ≤ LIM := Nat.le_trans hi (Nat.le_trans hl80 (by decide))
  rcases Nat.lt_or_ge k i with hk' | hk'
  · obtain ⟨b, hb⟩ : ∃ b, w.log[k]? = some b := ⟨_, List.getElem?_eq_getElem (by omega)⟩
    have hbo := hs.2 b (List.mem_of_getElem? hb)
    have hb0 : 0 < b.c.length := List.length_pos_iff.2 hbo.2.1
    have hbL : b.c.length ≤ LIM := Nat.le_trans hbo.2.2.2 (by decide)
    obtain ⟨z, hz⟩ : ∃ y, b.c[b.c.length - 1]? = some y := ⟨_, List.getElem?_eq_getElem (by omega)⟩
    have hlz := lastE_at hz
    have hw : IntKind.i64.wrap (((b.c.map itF).length : Int) - 1) = ((b.c.length - 1 : Nat) : Int) := by rw [List.length_map]; exact wrap_dn hb0 hbL
    have g := hno k b hk' hb
    rw [hlz] at g
    repeat' ((conv => whnf); first
      | refine ⟨_, _, rfl, at_map hb, ?_⟩
      | refine idx_mapX hw hz ?_
      | refine ⟨_, ldc_cells hk_ (Nat.le_of_ble_eq_true rfl), ?_⟩
      | refine ⟨_, rfl, ?_⟩
      | refine ⟨rfl, ?_⟩
      | refine ⟨_, _, hupd_at, rfl, rfl, Nat.le_of_ble_eq_true rfl, ?_⟩
      | (refine ⟨fun hc => ?_, fun hc => ?_⟩ <;> (try simp (disch := omega) only [List.length_map, wrap64] at hc) <;> (try (exfalso; first | contradiction | omega)))
      | (refine ⟨⟨k + 1, ⟨rfl, rfl, rfl, rfl, rfl, congrArg I (wrap_up (n := i) (by omega) hiL), trivial⟩, (by omega), (by omega), (by omega), (by omega), hk_, hk_, (by first | assumption | exact ne_), rfl⟩, ?_⟩; show i - ix (I _) < i - ix (I _); simp only [wrap_up (n := i) (i := k) (by omega) hiL, ix, Int.toNat_natCast]; omega)
      | fail)
  · skip
    repeat' ((conv => whnf); first
      | refine ⟨rfl, ?_⟩
      | (refine ⟨fun hc => ?_, fun hc => ?_⟩ <;> (try simp (disch := omega) only [List.length_map, wrap64] at hc) <;> (try (exfalso; first | contradiction | omega)))
      | exact hE _ _ _ ⟨rfl, rfl, rfl, trivial⟩ (by omega) (by first | assumption | exact ne_) (by first | assumption | exact hk_)
      | fail)
set_option maxHeartbeats 4000000 in
set_option maxRecDepth 100000 in
theorem v_laws_FnWorldOnce : Valid Try.prog n_laws_FnWorldOnce S_laws_FnWorldOnce := by
  refine valid_of_swp mixed is_laws_FnWorldOnce (by rintro _ ⟨a, rfl, _⟩; exact Nat.le_of_ble_eq_true rfl) ?_
  rintro _ rm ⟨code, rfl, hpre⟩ hl
  try dsimp only at hpre
  have hpre0 := hpre
  have hp1 := hpre
  have cc_laws_FnWorldOnce : S_laws_FnWorldOnce.cost = 200000 := rfl
  have cc_spec_DrawWorldPlay : S_spec_DrawWorldPlay.cost = 60000 := rfl
  have cc_impl_WorldPlay : S_impl_WorldPlay.cost = 0 := rfl
  have cc_spec_WorldPlay : S_spec_WorldPlay.cost = 0 := rfl
  have cc_laws_lwWorld : S_laws_lwWorld.cost = 0 := rfl
  repeat' ((conv => whnf); first
    | refine ⟨rfl, ?_⟩
    | (refine ⟨fun hc => ?_, fun hc => ?_⟩ <;> (try simp (disch := omega) only [List.length_map, wrap64] at hc))
    | (refine callk (b := [one (byF _)]) v_spec_DrawWorldPlay rfl ⟨_, rfl, (by exact pr_)⟩ (.inl rfl) (by omega) (fun r hr => ?_); have hj := K_spec_DrawWorldPlay (a := _) hr; clear hr; obtain ⟨bad, es, rfl, hes⟩ := hj)
    | exact ⟨⟨_, rfl, rfl, code, rfl, (by unfold R_laws_FnWorldOnce; dsimp only; first | done | exact absurd True.intro hj | (rfl))⟩, (by first | exact Nat.le_refl _ | omega), (by exact h0_)⟩
    | fail)
  by_cases hb : In bad 0 4 ∧ es.length ≤ 70
  · have eP := playT_yes hb
    have hJ := playW_wj hb.1 es
    have hbad := playW_bad bad es
    have hfw : FitW (playW bad es) := hJ.inv.fitW
    generalize playW bad es = w at *
    have hs : SeenB w.log := hJ.inv.2.2.2.1
    repeat' ((conv => whnf); first
      | refine ⟨_, rfl, ?_⟩
      | refine ⟨_, _, hupd_at, rfl, rfl, Nat.le_of_ble_eq_true rfl, ?_⟩
      | (refine callk (b := [I _, one (evsF _)]) v_impl_WorldPlay rfl ⟨(_, _), rfl, (by exact pr_)⟩ (.inl rfl) (by first | assumption | omega) (fun r hr => ?_); have hj := K_impl_WorldPlay (a := (_, _)) hr; clear hr; unfold R_impl_WorldPlay at hj; dsimp only at hj; (try rw [eP] at hj); subst hj)
      | (refine callk (b := [I _, one (evsF _)]) v_spec_WorldPlay rfl ⟨(_, _), rfl, (by exact pr_)⟩ (.inl rfl) (by first | assumption | omega) (fun r hr => ?_); have hj := K_spec_WorldPlay (a := (_, _)) hr; clear hr; unfold R_spec_WorldPlay at hj; dsimp only at hj; (try rw [eP] at hj); subst hj)
      | (refine callt (b := [agg (woF ⟨_, _, _, _⟩), agg (woF ⟨_, _, _, _⟩)]) v_laws_lwWorld rfl ⟨(⟨_, _, _, _⟩, ⟨_, _, _, _⟩), rfl, (by refine ⟨?_, ?_⟩ <;> (exact pr_))⟩ (.inl rfl) (by first | assumption | omega) (fun r hr => K_laws_lwWorld (a := (⟨_, _, _, _⟩, ⟨_, _, _, _⟩)) hr) (fun hj => ?_) (fun hj => ?_) <;> (try simp only [etaPa, etaIt, etaVo] at hj) <;> (try simp only [etaWo] at hj) <;> (try contradiction))
      | fail)
    subst hbad
    conv => whnf
    refine ⟨fun fr H nx rm' => ∃ (i : Nat), Has fr [(3, I w.bad), (5, .w (.o (.ptr 273 0))), (9, I i)] ∧ i ≤ w.log.length ∧ 274 ≤ nx ∧ H 273 = some (.cells ((woF w).map AC.c)) ∧ H 0 = none ∧ rm' ≤ rm + 100000,
      fun fr _ _ _ => w.log.length - ix (fr 9), ⟨0, ⟨rfl, rfl, rfl, trivial⟩, Nat.zero_le _, ln_, hk_, ne_, (by omega)⟩, ?_⟩
    rintro fr H nx rm' ⟨i, hfr, hi, hnx, hH5, hH0, hrm⟩
    rw [hfr.eq]
    have hlL : w.log.length ≤ LIM := Nat.le_trans hs.1 (by decide)
    rcases Nat.lt_or_ge i w.log.length with hi' | hi'
    · obtain ⟨a, ha⟩ : ∃ a, w.log[i]? = some a := ⟨_, List.getElem?_eq_getElem hi'⟩
      have ham := List.mem_of_getElem? ha
      have hao := hs.2 a ham
      have ha0 : 0 < a.c.length := List.length_pos_iff.2 hao.2.1
      have haL : a.c.length ≤ LIM := Nat.le_trans hao.2.2.2 (by decide)
      obtain ⟨z, hz⟩ : ∃ y, a.c[a.c.length - 1]? = some y := ⟨_, List.getElem?_eq_getElem (by omega)⟩
      have hlz := lastE_at hz
      have hw : IntKind.i64.wrap (((a.c.map itF).length : Int) - 1) = ((a.c.length - 1 : Nat) : Int) := by rw [List.length_map]; exact wrap_dn ha0 haL
      by_cases hab : a.n = w.bad
      · skip
        repeat' ((conv => whnf); first
          | refine ⟨_, _, rfl, at_map ha, ?_⟩
          | refine ⟨_, ldc_cells hk_ (Nat.le_of_ble_eq_true rfl), ?_⟩
          | refine ⟨_, rfl, ?_⟩
          | refine ⟨rfl, ?_⟩
          | refine ⟨_, _, hupd_at, rfl, rfl, Nat.le_of_ble_eq_true rfl, ?_⟩
          | (refine ⟨fun hc => ?_, fun hc => ?_⟩ <;> (try simp (disch := omega) only [List.length_map, wrap64] at hc) <;> (try (exfalso; first | contradiction | omega)))
          | (refine ⟨⟨i + 1, ⟨rfl, rfl, congrArg I (wrap_up (n := w.log.length) (by omega) hlL), trivial⟩, (by omega), (by omega), hk_, (by first | assumption | exact ne_), (by omega)⟩, ?_⟩; show w.log.length - ix (I _) < w.log.length - ix (I _); simp only [wrap_up (n := w.log.length) (i := i) (by omega) hlL, ix, Int.toNat_natCast]; omega)
          | fail)
      · obtain ⟨hl1, hl2⟩ := hJ.last ham hab
        have hno : ∀ k b, k < i → w.log[k]? = some b → ¬ (b.n = a.n ∧ lastE b = lastE a) := fun k b hk hb hh => by
          have hp := (List.pairwise_iff_getElem.1 hJ.dif) k i (by omega) hi' hk
          have eb : w.log[k]'(by omega) = b := (List.getElem?_eq_some_iff.1 hb).2
          have ea : w.log[i]'hi' = a := (List.getElem?_eq_some_iff.1 ha).2
          rw [eb, ea] at hp
          exact hp hh.1 (by rw [hh.1]; exact hab) hh.2
        rw [hlz] at hl2
        repeat' ((conv => whnf); first
          | refine ⟨_, _, rfl, at_map ha, ?_⟩
          | refine idx_mapX hw hz ?_
          | refine ⟨_, ldc_cells hk_ (Nat.le_of_ble_eq_true rfl), ?_⟩
          | refine ⟨_, rfl, ?_⟩
          | refine ⟨rfl, ?_⟩
          | refine ⟨_, _, hupd_at, rfl, rfl, Nat.le_of_ble_eq_true rfl, ?_⟩
          | (refine ⟨fun hc => ?_, fun hc => ?_⟩ <;> (try simp (disch := omega) only [List.length_map, wrap64] at hc) <;> (try (exfalso; first | contradiction | omega)))
          | fail)
        refine lpO_ok (w := w) (a := a) (i := i) hs hi hno ⟨rfl, rfl, rfl, rfl, congrArg I hlz.symm, rfl, trivial⟩ (by first | assumption | exact ne_) (by omega) (by omega) (by omega) (by omega) hk_ hk_ (fun fr2 H2 nx2 hfr2 hnx2 h02 h52 => ?_)
        rw [hfr2.eq]
        repeat' ((conv => whnf); first
          | refine ⟨rfl, ?_⟩
          | (refine ⟨⟨i + 1, ⟨rfl, rfl, congrArg I (wrap_up (n := w.log.length) (by omega) hlL), trivial⟩, (by omega), (by omega), (by first | assumption | exact hk_), (by first | assumption | exact ne_), (by omega)⟩, ?_⟩; show w.log.length - ix (I _) < w.log.length - ix (I _); simp only [wrap_up (n := w.log.length) (i := i) (by omega) hlL, ix, Int.toNat_natCast]; omega)
          | fail)
    · skip
      repeat' ((conv => whnf); first
        | refine ⟨rfl, ?_⟩
        | refine ⟨_, ldc_cells (by first | assumption | exact zk ‹_› (by omega) | exact zk (zk ‹_› (by omega)) (by omega)) (Nat.le_of_ble_eq_true rfl), ?_⟩
        | (refine ⟨fun hc => ?_, fun hc => ?_⟩ <;> (try simp (disch := omega) only [List.length_map, wrap64] at hc) <;> (try (exfalso; first | contradiction | omega)))
        | exact ⟨⟨_, rfl, rfl, code, rfl, rfl⟩, (by omega), (by first | assumption | exact ne_)⟩
        | fail)
  · have eP := playT_no hb
    have hfz := zWo_fit
    repeat' ((conv => whnf); first
      | refine ⟨_, rfl, ?_⟩
      | refine ⟨_, _, hupd_at, rfl, rfl, Nat.le_of_ble_eq_true rfl, ?_⟩
      | (refine callk (b := [I _, one (evsF _)]) v_impl_WorldPlay rfl ⟨(_, _), rfl, (by exact pr_)⟩ (.inl rfl) (by first | assumption | omega) (fun r hr => ?_); have hj := K_impl_WorldPlay (a := (_, _)) hr; clear hr; unfold R_impl_WorldPlay at hj; dsimp only at hj; (try rw [eP] at hj); subst hj)
      | (refine callk (b := [I _, one (evsF _)]) v_spec_WorldPlay rfl ⟨(_, _), rfl, (by exact pr_)⟩ (.inl rfl) (by first | assumption | omega) (fun r hr => ?_); have hj := K_spec_WorldPlay (a := (_, _)) hr; clear hr; unfold R_spec_WorldPlay at hj; dsimp only at hj; (try rw [eP] at hj); subst hj)
      | (refine callt (b := [agg (woF ⟨_, _, _, _⟩), agg (woF ⟨_, _, _, _⟩)]) v_laws_lwWorld rfl ⟨(⟨_, _, _, _⟩, ⟨_, _, _, _⟩), rfl, (by refine ⟨?_, ?_⟩ <;> (exact pr_))⟩ (.inl rfl) (by first | assumption | omega) (fun r hr => K_laws_lwWorld (a := (⟨_, _, _, _⟩, ⟨_, _, _, _⟩)) hr) (fun hj => ?_) (fun hj => ?_) <;> (try simp only [etaPa, etaIt, etaVo] at hj) <;> (try simp only [etaWo] at hj) <;> (try contradiction))
      | exact ⟨⟨_, rfl, rfl, code, rfl, (by unfold R_laws_FnWorldOnce; dsimp only; first | done | exact absurd True.intro hj | (first | rfl | (exfalso; first | contradiction | omega | grind)))⟩, (by first | exact Nat.le_refl _ | omega), (by exact h0_)⟩
      | fail)
end Av
end Go.Proofs.Ytlbdoamidblkaaa
