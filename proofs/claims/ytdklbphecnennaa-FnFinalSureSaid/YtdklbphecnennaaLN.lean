/- The walks: the law FnFinalSure. -/
import Derived.Test.YtdklbphecnennaaP3
import Derived.Test.YtdklbphecnennaaQ3
set_option linter.unusedVariables false
set_option linter.unusedSimpArgs false
namespace Go.Proofs.Ytdklbphecnennaa
namespace Av
open Go.RowKit

attribute [local irreducible] allT finT
attribute [local irreducible] Valid ValidM
set_option maxHeartbeats 4000000 in
set_option maxRecDepth 100000 in
theorem v_laws_FnFinalSure : Valid Try.prog n_laws_FnFinalSure S_laws_FnFinalSure := by
  refine valid_of_swp mixed is_laws_FnFinalSure (by rintro _ ⟨a, rfl, _⟩; exact Nat.le_of_ble_eq_true rfl) ?_
  rintro _ rm ⟨code, rfl, hpre⟩ hl
  try dsimp only at hpre
  have hpre0 := hpre
  have hp1 := hpre
  have cc_laws_FnFinalSure : S_laws_FnFinalSure.cost = 200000 := rfl
  have cc_spec_DrawTreeFinal : S_spec_DrawTreeFinal.cost = 60000 := rfl
  have cc_impl_TreeFinal : S_impl_TreeFinal.cost = 0 := rfl
  have cc_spec_TreeFinal : S_spec_TreeFinal.cost = 0 := rfl
  have cc_laws_lwSame : S_laws_lwSame.cost = 0 := rfl
  have cc_impl_TreeAll : S_impl_TreeAll.cost = 0 := rfl
  have cc_impl_ChainIn : S_impl_ChainIn.cost = 0 := rfl
  have cc_impl_TreeSure : S_impl_TreeSure.cost = 0 := rfl
  have cc_impl_TreeLong : S_impl_TreeLong.cost = 0 := rfl
  repeat' ((conv => whnf); first
    | refine ⟨_, rfl, ?_⟩
    | refine ⟨rfl, ?_⟩
    | refine ⟨_, _, rfl, at_map (by assumption), ?_⟩
    | refine idx_mapX (i := 0) rfl (by assumption) ?_
    | refine idx_map (by omega) (fun x hx => ?_)
    | refine idx_mapX (wrap_dn (by omega) (by omega)) (by assumption) ?_
    | refine idx_mapE (wrap_dn (by omega) (by omega)) (by omega) (fun x hx => ?_)
    | refine idx_mapL (by omega) (by first | assumption | (simp only [LIM]; omega)) (fun x hx => ?_)
    | refine idx_mapI (by omega) (by first | omega | (simp only [List.length_map] at *; omega)) (fun x hx => ?_)
    | refine ⟨_, ldc_cells hupd_at (Nat.le_of_ble_eq_true rfl), ?_⟩
    | refine ⟨_, ldc_cells (by first | assumption | exact zk ‹_› (by omega) | exact zk (zk ‹_› (by omega)) (by omega)) (Nat.le_of_ble_eq_true rfl), ?_⟩
    | (refine ⟨fun hc => ?_, fun hc => ?_⟩ <;> (try simp (disch := omega) only [List.length_map, wrap64] at hc))
    | (refine callk (b := [one (byF _)]) v_spec_DrawTreeFinal rfl ⟨_, rfl, (by exact pr_)⟩ (.inl rfl) (by omega) (fun r hr => ?_); have hj := K_spec_DrawTreeFinal (a := _) hr; clear hr; obtain ⟨l, rfl, hdl⟩ := hj)
    | exact ⟨⟨_, rfl, rfl, code, rfl, (by unfold R_laws_FnFinalSure; dsimp only; first | done | exact absurd True.intro hj | (rfl))⟩, (by first | exact Nat.le_refl _ | omega), (by exact h0_)⟩
    | fail)
  have hfl : FitVs l := hdl.fit
  have hln : l.length < LIM := hdl.lt
  have hll : l.length ≤ 400 := hdl.1
  have hft := finT_len hfl
  have hfa := allS_fit hdl
  by_cases h0 : finT l = []
  · have hl0 : (finT l).length = 0 := by rw [h0]; rfl
    repeat' ((conv => whnf); first
      | refine ⟨_, rfl, ?_⟩
      | refine ⟨rfl, ?_⟩
      | refine ⟨_, _, rfl, at_map (by assumption), ?_⟩
      | refine idx_mapX (i := 0) rfl (by assumption) ?_
      | refine idx_map (by omega) (fun x hx => ?_)
      | refine idx_mapX (wrap_dn (by omega) (by omega)) (by assumption) ?_
      | refine idx_mapE (wrap_dn (by omega) (by omega)) (by omega) (fun x hx => ?_)
      | refine idx_mapL (by omega) (by first | assumption | (simp only [LIM]; omega)) (fun x hx => ?_)
      | refine idx_mapI (by omega) (by first | omega | (simp only [List.length_map] at *; omega)) (fun x hx => ?_)
      | refine ⟨_, ldc_cells hupd_at (Nat.le_of_ble_eq_true rfl), ?_⟩
      | refine ⟨_, ldc_cells (by first | assumption | exact zk ‹_› (by omega) | exact zk (zk ‹_› (by omega)) (by omega)) (Nat.le_of_ble_eq_true rfl), ?_⟩
      | (refine ⟨fun hc => ?_, fun hc => ?_⟩ <;> (try simp (disch := omega) only [List.length_map, wrap64] at hc) <;> (try (exfalso; first | contradiction | omega)))
      | (refine calle (b := [one (vsF _)]) v_impl_TreeFinal rfl ⟨_, rfl, (by refine ⟨?_, ?_⟩ <;> (exact pr_))⟩ (.inl rfl) (by first | assumption | omega) (fun r hr => K_impl_TreeFinal (a := _) hr) ?_)
      | (refine calle (b := [one (vsF _)]) v_spec_TreeFinal rfl ⟨_, rfl, (by refine ⟨?_, ?_⟩ <;> (exact pr_))⟩ (.inl rfl) (by first | assumption | omega) (fun r hr => K_spec_TreeFinal (a := _) hr) ?_)
      | (refine callt (b := [one (chF _), one (chF _)]) v_laws_lwSame rfl ⟨(_, _), rfl, (by refine ⟨?_, ?_⟩ <;> (exact pr_))⟩ (.inl rfl) (by first | assumption | omega) (fun r hr => K_laws_lwSame (a := (_, _)) hr) (fun hj => ?_) (fun hj => ?_) <;> (try simp only [etaPa, etaIt, etaVo] at hj) <;> (try contradiction))
      | exact ⟨⟨_, rfl, rfl, code, rfl, (by unfold R_laws_FnFinalSure; dsimp only; first | done | exact absurd True.intro hj | (first | rfl | (exfalso; first | contradiction | omega | grind)))⟩, (by first | exact Nat.le_refl _ | omega), (by exact h0_)⟩
      | fail)
  · have hV := finT_pos h0
    have hs := finT_sure hV
    have hlen0 : (finT l).length ≠ 0 := fun e => h0 (List.eq_nil_of_length_eq_zero e)
    obtain ⟨k, hk, hcon⟩ := fin_shown (l := l) (by rw [← fin_ok hV]; exact h0)
    rw [← fin_ok hV] at hk
    have hwm : shown l ∈ allT l := by rw [allT_ok hV]; exact shown_mem l
    have hpre : finT l = (shown l).take (finT l).length := by rw [fin_ok hV]; exact fin_prefix l
    have hwlt := con3_lt hcon
    have hcw : ChIn (finT l) (shown l) := ⟨hs.2.1, (allS_ok hV (shown_mem l)).2.1, hpre⟩
    have hlg : ∀ c, c ∈ allT l → (c.length : Int) ≤ long l := fun c hc => by rw [allT_ok hV] at hc; rw [long_ok hV]; exact Int.ofNat_le.2 (tip_max hc)
    have hkl : k + 2 ≤ LIM := by omega
    simp only [LIM] at hkl
    have w2 : IntKind.i64.wrap (((k + 2 : Nat) : Int) - 2) = (k : Int) := by rw [wrap64] <;> omega
    have w1 : IntKind.i64.wrap (((k + 2 : Nat) : Int) - 1) = ((k + 1 : Nat) : Int) := by rw [wrap64] <;> omega
    repeat' ((conv => whnf); first
      | refine ⟨_, rfl, ?_⟩
      | refine ⟨rfl, ?_⟩
      | refine ⟨_, _, rfl, at_map (by assumption), ?_⟩
      | refine idx_mapX (i := 0) rfl (by assumption) ?_
      | refine idx_map (by omega) (fun x hx => ?_)
      | refine idx_mapX (wrap_dn (by omega) (by omega)) (by assumption) ?_
      | refine idx_mapE (wrap_dn (by omega) (by omega)) (by omega) (fun x hx => ?_)
      | refine idx_mapL (by omega) (by first | assumption | (simp only [LIM]; omega)) (fun x hx => ?_)
      | refine idx_mapI (by omega) (by first | omega | (simp only [List.length_map] at *; omega)) (fun x hx => ?_)
      | refine ⟨_, ldc_cells hupd_at (Nat.le_of_ble_eq_true rfl), ?_⟩
      | refine ⟨_, ldc_cells (by first | assumption | exact zk ‹_› (by omega) | exact zk (zk ‹_› (by omega)) (by omega)) (Nat.le_of_ble_eq_true rfl), ?_⟩
      | (refine ⟨fun hc => ?_, fun hc => ?_⟩ <;> (try simp (disch := omega) only [List.length_map, wrap64] at hc) <;> (try (exfalso; first | contradiction | omega)))
      | (refine calle (b := [one (vsF _)]) v_impl_TreeFinal rfl ⟨_, rfl, (by refine ⟨?_, ?_⟩ <;> (exact pr_))⟩ (.inl rfl) (by first | assumption | omega) (fun r hr => K_impl_TreeFinal (a := _) hr) ?_)
      | (refine calle (b := [one (vsF _)]) v_spec_TreeFinal rfl ⟨_, rfl, (by refine ⟨?_, ?_⟩ <;> (exact pr_))⟩ (.inl rfl) (by first | assumption | omega) (fun r hr => K_spec_TreeFinal (a := _) hr) ?_)
      | (refine callt (b := [one (chF _), one (chF _)]) v_laws_lwSame rfl ⟨(_, _), rfl, (by refine ⟨?_, ?_⟩ <;> (exact pr_))⟩ (.inl rfl) (by first | assumption | omega) (fun r hr => K_laws_lwSame (a := (_, _)) hr) (fun hj => ?_) (fun hj => ?_) <;> (try simp only [etaPa, etaIt, etaVo] at hj) <;> (try contradiction))
      | (refine calle (b := [one (vsF _)]) v_impl_TreeAll rfl ⟨_, rfl, (by refine ⟨?_, ?_⟩ <;> (exact pr_))⟩ (.inl rfl) (by first | assumption | omega) (fun r hr => K_impl_TreeAll (a := _) hr) ?_)
      | fail)
    conv => whnf
    refine ⟨fun fr H nx rm' => ∃ (i : Nat), Has fr [(3, one (vsF l)), (4, one (chF (finT l))), (5, I ((k + 2 : Nat) : Int)), (6, one (csF (allT l))), (7, I i)] ∧ i ≤ (allT l).length ∧ (∀ j c, j < i → (allT l)[j]? = some c → ¬ (k + 2 < c.length ∧ ChIn (finT l) c ∧ Con3 c k)) ∧ 1 ≤ nx ∧ H 0 = none ∧ rm' ≤ rm + 100000,
      fun fr _ _ _ => (allT l).length - ix (fr 7), ⟨0, ⟨(by first | rfl | (show I _ = I _; simp)), (by first | rfl | (show I _ = I _; simp)), (by exact congrArg I (by rw [List.length_map, hk])), (by first | rfl | (show I _ = I _; simp)), (by first | rfl | (show I _ = I _; simp)), trivial⟩, Nat.zero_le _, (by intro j c h; omega), (by first | decide | omega), (by exact h0_), (by omega)⟩, ?_⟩
    rintro fr H nx rm' ⟨i, hfr, hi, hq, hnx, hH, hrm⟩
    rw [hfr.eq]
    rcases Nat.lt_or_ge i (allT l).length with hi' | hi'
    · obtain ⟨x, hx⟩ : ∃ x, (allT l)[i]? = some x := ⟨_, List.getElem?_eq_getElem hi'⟩
      have hxl := hfa.get hx
      have hxg := hlg x (List.mem_of_getElem? hx)
      rcases Nat.lt_or_ge (k + 2) x.length with h2 | h2
      · obtain ⟨a, ha⟩ : ∃ a, x[k]? = some a := ⟨_, List.getElem?_eq_getElem (by omega)⟩
        obtain ⟨b, hb⟩ : ∃ a, x[k + 1]? = some a := ⟨_, List.getElem?_eq_getElem (by omega)⟩
        obtain ⟨d, hd⟩ : ∃ a, x[k + 2]? = some a := ⟨_, List.getElem?_eq_getElem (by omega)⟩
        have hci := con3_iff ha hb hd
        by_cases hchi : ChIn (finT l) x
        · by_cases hc3 : Nxt a.e b.e ∧ Nxt b.e d.e
          · obtain ⟨hc31, hc32⟩ := hc3
            repeat' ((conv => whnf); first
              | refine idx_mapX w2 ha ?_
              | refine idx_mapX w1 hb ?_
              | refine idx_mapX rfl hd ?_
              | refine ⟨_, rfl, ?_⟩
              | refine ⟨rfl, ?_⟩
              | refine ⟨_, _, rfl, at_map (by assumption), ?_⟩
              | refine idx_mapX (i := 0) rfl (by assumption) ?_
              | refine idx_map (by omega) (fun x hx => ?_)
              | refine idx_mapX (wrap_dn (by omega) (by omega)) (by assumption) ?_
              | refine idx_mapE (wrap_dn (by omega) (by omega)) (by omega) (fun x hx => ?_)
              | refine idx_mapL (by omega) (by first | assumption | (simp only [LIM]; omega)) (fun x hx => ?_)
              | refine idx_mapI (by omega) (by first | omega | (simp only [List.length_map] at *; omega)) (fun x hx => ?_)
              | refine ⟨_, ldc_cells hupd_at (Nat.le_of_ble_eq_true rfl), ?_⟩
              | refine ⟨_, ldc_cells (by first | assumption | exact zk ‹_› (by omega) | exact zk (zk ‹_› (by omega)) (by omega)) (Nat.le_of_ble_eq_true rfl), ?_⟩
              | (refine ⟨fun hc => ?_, fun hc => ?_⟩ <;> (try simp (disch := omega) only [List.length_map, wrap64] at hc) <;> (try (exfalso; first | contradiction | omega)))
              | (refine callt (b := [one (chF _), one (chF _)]) v_impl_ChainIn rfl ⟨(_, _), rfl, (by refine ⟨?_, ?_⟩ <;> (exact pr_))⟩ (.inl rfl) (by first | assumption | omega) (fun r hr => K_impl_ChainIn (a := (_, _)) hr) (fun hj => ?_) (fun hj => ?_) <;> (try simp only [etaPa, etaIt, etaVo] at hj) <;> (try contradiction))
              | (refine callt (b := [one (vsF _), one (chF _)]) v_impl_TreeSure rfl ⟨(_, _), rfl, (by refine ⟨?_, ?_⟩ <;> (exact pr_))⟩ (.inl rfl) (by first | assumption | omega) (fun r hr => K_impl_TreeSure (a := (_, _)) hr) (fun hj => ?_) (fun hj => ?_) <;> (try simp only [etaPa, etaIt, etaVo] at hj) <;> (try contradiction))
              | (refine calle (b := [one (vsF _)]) v_impl_TreeLong rfl ⟨_, rfl, (by refine ⟨?_, ?_⟩ <;> (exact pr_))⟩ (.inl rfl) (by first | assumption | omega) (fun r hr => K_impl_TreeLong (a := _) hr) ?_)
              | (refine ⟨⟨i + 1, ⟨rfl, rfl, rfl, rfl, congrArg I (wrap_up (n := (allT l).length) (by omega) (hfa.1)), trivial⟩, (by omega), (by intro j c hj' hc'; rcases Nat.lt_or_ge j i with h | h; exact hq j c h hc'; rw [show j = i from by omega, hx] at hc'; cases hc'; exact hbad), (by omega), (by exact h0_), (by first | assumption | omega)⟩, ?_⟩; show (allT l).length - ix (I _) < (allT l).length - ix (I _); simp only [wrap_up (n := (allT l).length) (i := i) (by omega) (hfa.1), ix, Int.toNat_natCast]; omega)
              | exact ⟨⟨_, rfl, rfl, code, rfl, (by unfold R_laws_FnFinalSure; dsimp only; first | done | exact absurd True.intro hj | (first | rfl | (exfalso; first | contradiction | omega | exact hc hc31 | exact hc hc32 | grind)))⟩, (by first | exact Nat.le_refl _ | omega), (by exact h0_)⟩
              | (exfalso; first | exact hc hc31 | exact hc hc32)
              | fail)
          · have hbad : ¬ (k + 2 < x.length ∧ ChIn (finT l) x ∧ Con3 x k) := fun h => hc3 (hci.1 h.2.2)
            repeat' ((conv => whnf); first
              | refine idx_mapX w2 ha ?_
              | refine idx_mapX w1 hb ?_
              | refine idx_mapX rfl hd ?_
              | refine ⟨_, rfl, ?_⟩
              | refine ⟨rfl, ?_⟩
              | refine ⟨_, _, rfl, at_map (by assumption), ?_⟩
              | refine idx_mapX (i := 0) rfl (by assumption) ?_
              | refine idx_map (by omega) (fun x hx => ?_)
              | refine idx_mapX (wrap_dn (by omega) (by omega)) (by assumption) ?_
              | refine idx_mapE (wrap_dn (by omega) (by omega)) (by omega) (fun x hx => ?_)
              | refine idx_mapL (by omega) (by first | assumption | (simp only [LIM]; omega)) (fun x hx => ?_)
              | refine idx_mapI (by omega) (by first | omega | (simp only [List.length_map] at *; omega)) (fun x hx => ?_)
              | refine ⟨_, ldc_cells hupd_at (Nat.le_of_ble_eq_true rfl), ?_⟩
              | refine ⟨_, ldc_cells (by first | assumption | exact zk ‹_› (by omega) | exact zk (zk ‹_› (by omega)) (by omega)) (Nat.le_of_ble_eq_true rfl), ?_⟩
              | (refine ⟨fun hc => ?_, fun hc => ?_⟩ <;> (try simp (disch := omega) only [List.length_map, wrap64] at hc) <;> (try (exfalso; first | contradiction | omega)))
              | (refine callt (b := [one (chF _), one (chF _)]) v_impl_ChainIn rfl ⟨(_, _), rfl, (by refine ⟨?_, ?_⟩ <;> (exact pr_))⟩ (.inl rfl) (by first | assumption | omega) (fun r hr => K_impl_ChainIn (a := (_, _)) hr) (fun hj => ?_) (fun hj => ?_) <;> (try simp only [etaPa, etaIt, etaVo] at hj) <;> (try contradiction))
              | (refine callt (b := [one (vsF _), one (chF _)]) v_impl_TreeSure rfl ⟨(_, _), rfl, (by refine ⟨?_, ?_⟩ <;> (exact pr_))⟩ (.inl rfl) (by first | assumption | omega) (fun r hr => K_impl_TreeSure (a := (_, _)) hr) (fun hj => ?_) (fun hj => ?_) <;> (try simp only [etaPa, etaIt, etaVo] at hj) <;> (try contradiction))
              | (refine calle (b := [one (vsF _)]) v_impl_TreeLong rfl ⟨_, rfl, (by refine ⟨?_, ?_⟩ <;> (exact pr_))⟩ (.inl rfl) (by first | assumption | omega) (fun r hr => K_impl_TreeLong (a := _) hr) ?_)
              | (refine ⟨⟨i + 1, ⟨rfl, rfl, rfl, rfl, congrArg I (wrap_up (n := (allT l).length) (by omega) (hfa.1)), trivial⟩, (by omega), (by intro j c hj' hc'; rcases Nat.lt_or_ge j i with h | h; exact hq j c h hc'; rw [show j = i from by omega, hx] at hc'; cases hc'; exact hbad), (by omega), (by exact h0_), (by first | assumption | omega)⟩, ?_⟩; show (allT l).length - ix (I _) < (allT l).length - ix (I _); simp only [wrap_up (n := (allT l).length) (i := i) (by omega) (hfa.1), ix, Int.toNat_natCast]; omega)
              | exact ⟨⟨_, rfl, rfl, code, rfl, (by unfold R_laws_FnFinalSure; dsimp only; first | done | exact absurd True.intro hj | (first | rfl | (exfalso; first | contradiction | omega | exact hc3 ⟨‹_›, ‹_›⟩ | grind)))⟩, (by first | exact Nat.le_refl _ | omega), (by exact h0_)⟩
              | fail)
        · have hbad : ¬ (k + 2 < x.length ∧ ChIn (finT l) x ∧ Con3 x k) := fun h => hchi h.2.1
          repeat' ((conv => whnf); first
            | refine ⟨_, rfl, ?_⟩
            | refine ⟨rfl, ?_⟩
            | refine ⟨_, _, rfl, at_map (by assumption), ?_⟩
            | refine idx_mapX (i := 0) rfl (by assumption) ?_
            | refine idx_map (by omega) (fun x hx => ?_)
            | refine idx_mapX (wrap_dn (by omega) (by omega)) (by assumption) ?_
            | refine idx_mapE (wrap_dn (by omega) (by omega)) (by omega) (fun x hx => ?_)
            | refine idx_mapL (by omega) (by first | assumption | (simp only [LIM]; omega)) (fun x hx => ?_)
            | refine idx_mapI (by omega) (by first | omega | (simp only [List.length_map] at *; omega)) (fun x hx => ?_)
            | refine ⟨_, ldc_cells hupd_at (Nat.le_of_ble_eq_true rfl), ?_⟩
            | refine ⟨_, ldc_cells (by first | assumption | exact zk ‹_› (by omega) | exact zk (zk ‹_› (by omega)) (by omega)) (Nat.le_of_ble_eq_true rfl), ?_⟩
            | (refine ⟨fun hc => ?_, fun hc => ?_⟩ <;> (try simp (disch := omega) only [List.length_map, wrap64] at hc) <;> (try (exfalso; first | contradiction | omega)))
            | (refine callt (b := [one (chF _), one (chF _)]) v_impl_ChainIn rfl ⟨(_, _), rfl, (by refine ⟨?_, ?_⟩ <;> (exact pr_))⟩ (.inl rfl) (by first | assumption | omega) (fun r hr => K_impl_ChainIn (a := (_, _)) hr) (fun hj => ?_) (fun hj => ?_) <;> (try simp only [etaPa, etaIt, etaVo] at hj) <;> (try contradiction))
            | (refine ⟨⟨i + 1, ⟨rfl, rfl, rfl, rfl, congrArg I (wrap_up (n := (allT l).length) (by omega) (hfa.1)), trivial⟩, (by omega), (by intro j c hj' hc'; rcases Nat.lt_or_ge j i with h | h; exact hq j c h hc'; rw [show j = i from by omega, hx] at hc'; cases hc'; exact hbad), (by omega), (by exact h0_), (by first | assumption | omega)⟩, ?_⟩; show (allT l).length - ix (I _) < (allT l).length - ix (I _); simp only [wrap_up (n := (allT l).length) (i := i) (by omega) (hfa.1), ix, Int.toNat_natCast]; omega)
            | exact ⟨⟨_, rfl, rfl, code, rfl, (by unfold R_laws_FnFinalSure; dsimp only; first | done | exact absurd True.intro hj | (first | rfl | (exfalso; first | contradiction | omega | grind)))⟩, (by first | exact Nat.le_refl _ | omega), (by exact h0_)⟩
            | fail)
      · have hbad : ¬ (k + 2 < x.length ∧ ChIn (finT l) x ∧ Con3 x k) := fun h => by omega
        repeat' ((conv => whnf); first
          | refine ⟨_, rfl, ?_⟩
          | refine ⟨rfl, ?_⟩
          | refine ⟨_, _, rfl, at_map (by assumption), ?_⟩
          | refine idx_mapX (i := 0) rfl (by assumption) ?_
          | refine idx_map (by omega) (fun x hx => ?_)
          | refine idx_mapX (wrap_dn (by omega) (by omega)) (by assumption) ?_
          | refine idx_mapE (wrap_dn (by omega) (by omega)) (by omega) (fun x hx => ?_)
          | refine idx_mapL (by omega) (by first | assumption | (simp only [LIM]; omega)) (fun x hx => ?_)
          | refine idx_mapI (by omega) (by first | omega | (simp only [List.length_map] at *; omega)) (fun x hx => ?_)
          | refine ⟨_, ldc_cells hupd_at (Nat.le_of_ble_eq_true rfl), ?_⟩
          | refine ⟨_, ldc_cells (by first | assumption | exact zk ‹_› (by omega) | exact zk (zk ‹_› (by omega)) (by omega)) (Nat.le_of_ble_eq_true rfl), ?_⟩
          | (refine ⟨fun hc => ?_, fun hc => ?_⟩ <;> (try simp (disch := omega) only [List.length_map, wrap64] at hc) <;> (try (exfalso; first | contradiction | omega)))
          | (refine callt (b := [one (chF _), one (chF _)]) v_impl_ChainIn rfl ⟨(_, _), rfl, (by refine ⟨?_, ?_⟩ <;> (exact pr_))⟩ (.inl rfl) (by first | assumption | omega) (fun r hr => K_impl_ChainIn (a := (_, _)) hr) (fun hj => ?_) (fun hj => ?_) <;> (try simp only [etaPa, etaIt, etaVo] at hj) <;> (try contradiction))
          | (refine ⟨⟨i + 1, ⟨rfl, rfl, rfl, rfl, congrArg I (wrap_up (n := (allT l).length) (by omega) (hfa.1)), trivial⟩, (by omega), (by intro j c hj' hc'; rcases Nat.lt_or_ge j i with h | h; exact hq j c h hc'; rw [show j = i from by omega, hx] at hc'; cases hc'; exact hbad), (by omega), (by exact h0_), (by first | assumption | omega)⟩, ?_⟩; show (allT l).length - ix (I _) < (allT l).length - ix (I _); simp only [wrap_up (n := (allT l).length) (i := i) (by omega) (hfa.1), ix, Int.toNat_natCast]; omega)
          | exact ⟨⟨_, rfl, rfl, code, rfl, (by unfold R_laws_FnFinalSure; dsimp only; first | done | exact absurd True.intro hj | (first | rfl | (exfalso; first | contradiction | omega | grind)))⟩, (by first | exact Nat.le_refl _ | omega), (by exact h0_)⟩
          | fail)
    · exfalso
      obtain ⟨j, hj⟩ := List.mem_iff_getElem?.1 hwm
      have hjl : j < (allT l).length := (List.getElem?_eq_some_iff.1 hj).1
      exact hq j _ (by omega) hj ⟨hwlt, hcw, hcon⟩
end Av
end Go.Proofs.Ytdklbphecnennaa
