/- The walks: the law FnTipLongest. -/
import Derived.Test.YtdklbphecnennaaP3
import Derived.Test.YtdklbphecnennaaQ3
set_option linter.unusedVariables false
set_option linter.unusedSimpArgs false
namespace Go.Proofs.Ytdklbphecnennaa
namespace Av
open Go.RowKit

theorem tl_first {l : List Vo} (hV : VotesOk l) {i : Nat} {c : List It} (h : (allT l)[i]? = some c) : c.length ≤ (tipT l).length ∧ (tipT l ∈ (allT l).take i ∨ c.length ≠ (tipT l).length ∨ c = tipT l) := by
  rw [allT_ok hV] at h ⊢; rw [tip_ok hV]
  exact ⟨tip_max (List.mem_of_getElem? h), tip_first h⟩
theorem tl_mem {l : List Vo} (hV : VotesOk l) : tipT l ∈ allT l := by rw [allT_ok hV, tip_ok hV]; exact tip_mem l
attribute [local irreducible] allT tipT
attribute [local irreducible] Valid ValidM
set_option maxHeartbeats 4000000 in
set_option maxRecDepth 100000 in
theorem v_laws_FnTipLongest : Valid Try.prog n_laws_FnTipLongest S_laws_FnTipLongest := by
  refine valid_of_swp mixed is_laws_FnTipLongest (by rintro _ ⟨a, rfl, _⟩; exact Nat.le_of_ble_eq_true rfl) ?_
  rintro _ rm ⟨code, rfl, hpre⟩ hl
  try dsimp only at hpre
  have hpre0 := hpre
  have hp1 := hpre
  have cc_laws_FnTipLongest : S_laws_FnTipLongest.cost = 200000 := rfl
  have cc_spec_DrawTreeTip : S_spec_DrawTreeTip.cost = 10000 := rfl
  have cc_impl_TreeTip : S_impl_TreeTip.cost = 0 := rfl
  have cc_spec_TreeTip : S_spec_TreeTip.cost = 0 := rfl
  have cc_laws_lwSame : S_laws_lwSame.cost = 0 := rfl
  have cc_spec_VotesOk : S_spec_VotesOk.cost = 0 := rfl
  have cc_impl_TreeAll : S_impl_TreeAll.cost = 0 := rfl
  have cc_impl_TreeSure : S_impl_TreeSure.cost = 0 := rfl
  have cc_impl_TreeLong : S_impl_TreeLong.cost = 0 := rfl
  repeat' ((conv => whnf); first
    | refine ⟨_, rfl, ?_⟩
    | refine ⟨rfl, ?_⟩
    | refine ⟨_, _, rfl, at_map (by assumption), ?_⟩
    | refine idx_mapX (i := 0) rfl (by assumption) ?_
    | refine idx_map (by omega) (fun x hx => ?_)
    | refine idx_mapX (wrap_dn (by omega) (by omega)) (by assumption) ?_
    | refine idx_mapE (wrap_dn (by omega) (by omega)) (by omega) (fun x hx => ?_)
    | refine idx_mapL (by omega) (by first | assumption | (simp only [LIM]; omega)) (fun x hx => ?_)
    | refine idx_mapI (by omega) (by first | omega | (simp only [List.length_map] at *; omega)) (fun x hx => ?_)
    | refine ⟨_, ldc_cells hupd_at (Nat.le_of_ble_eq_true rfl), ?_⟩
    | refine ⟨_, ldc_cells (by first | assumption | exact zk ‹_› (by omega) | exact zk (zk ‹_› (by omega)) (by omega)) (Nat.le_of_ble_eq_true rfl), ?_⟩
    | (refine ⟨fun hc => ?_, fun hc => ?_⟩ <;> (try simp (disch := omega) only [List.length_map, wrap64] at hc))
    | (refine callk (b := [one (byF _)]) v_spec_DrawTreeTip rfl ⟨_, rfl, (by exact pr_)⟩ (.inl rfl) (by omega) (fun r hr => ?_); have hj := K_spec_DrawTreeTip (a := _) hr; clear hr; obtain ⟨l, rfl, hdl⟩ := hj)
    | exact ⟨⟨_, rfl, rfl, code, rfl, (by unfold R_laws_FnTipLongest; dsimp only; first | done | exact absurd True.intro hj | (rfl))⟩, (by first | exact Nat.le_refl _ | omega), (by exact h0_)⟩
    | fail)
  have hfl : FitVs l := hdl.fit
  have hln : l.length < LIM := hdl.lt
  have hll : l.length ≤ 400 := hdl.1
  have htl := tipT_len' hfl
  by_cases hV : VotesOk l
  · have hfa := allS_fit hdl
    have hmem := tl_mem hV
    have hsure := tipT_sure hV
    have hlong := tipT_len hV
    repeat' ((conv => whnf); first
      | refine ⟨_, rfl, ?_⟩
      | refine ⟨rfl, ?_⟩
      | refine ⟨_, _, rfl, at_map (by assumption), ?_⟩
      | refine idx_mapX (i := 0) rfl (by assumption) ?_
      | refine idx_map (by omega) (fun x hx => ?_)
      | refine idx_mapX (wrap_dn (by omega) (by omega)) (by assumption) ?_
      | refine idx_mapE (wrap_dn (by omega) (by omega)) (by omega) (fun x hx => ?_)
      | refine idx_mapL (by omega) (by first | assumption | (simp only [LIM]; omega)) (fun x hx => ?_)
      | refine idx_mapI (by omega) (by first | omega | (simp only [List.length_map] at *; omega)) (fun x hx => ?_)
      | refine ⟨_, ldc_cells hupd_at (Nat.le_of_ble_eq_true rfl), ?_⟩
      | refine ⟨_, ldc_cells (by first | assumption | exact zk ‹_› (by omega) | exact zk (zk ‹_› (by omega)) (by omega)) (Nat.le_of_ble_eq_true rfl), ?_⟩
      | (refine ⟨fun hc => ?_, fun hc => ?_⟩ <;> (try simp (disch := omega) only [List.length_map, wrap64] at hc) <;> (try (exfalso; first | contradiction | omega)))
      | (refine calle (b := [one (vsF _)]) v_impl_TreeTip rfl ⟨_, rfl, (by refine ⟨?_, ?_⟩ <;> (exact pr_))⟩ (.inl rfl) (by first | assumption | omega) (fun r hr => K_impl_TreeTip (a := _) hr) ?_)
      | (refine calle (b := [one (vsF _)]) v_spec_TreeTip rfl ⟨_, rfl, (by refine ⟨?_, ?_⟩ <;> (exact pr_))⟩ (.inl rfl) (by first | assumption | omega) (fun r hr => K_spec_TreeTip (a := _) hr) ?_)
      | (refine callt (b := [one (chF _), one (chF _)]) v_laws_lwSame rfl ⟨(_, _), rfl, (by refine ⟨?_, ?_⟩ <;> (exact pr_))⟩ (.inl rfl) (by first | assumption | omega) (fun r hr => K_laws_lwSame (a := (_, _)) hr) (fun hj => ?_) (fun hj => ?_) <;> (try simp only [etaPa, etaIt, etaVo] at hj) <;> (try contradiction))
      | (refine callt (b := [one (vsF _)]) v_spec_VotesOk rfl ⟨_, rfl, (by exact pr_)⟩ (.inl rfl) (by first | assumption | omega) (fun r hr => K_spec_VotesOk (a := _) hr) (fun hj => ?_) (fun hj => ?_) <;> (try simp only [etaPa, etaIt, etaVo] at hj) <;> (try contradiction))
      | (refine calle (b := [one (vsF _)]) v_impl_TreeAll rfl ⟨_, rfl, (by refine ⟨?_, ?_⟩ <;> (exact pr_))⟩ (.inl rfl) (by first | assumption | omega) (fun r hr => K_impl_TreeAll (a := _) hr) ?_)
      | fail)
    conv => whnf
    refine ⟨fun fr H nx rm' => ∃ (i : Nat) (b : Bool), Has fr [(3, one (vsF l)), (4, one (chF (tipT l))), (5, one (csF (allT l))), (6, B b), (7, I i)] ∧ i ≤ (allT l).length ∧ (b = true ↔ tipT l ∈ (allT l).take i) ∧ 1 ≤ nx ∧ H 0 = none ∧ rm' ≤ rm + 100000,
      fun fr _ _ _ => (allT l).length - ix (fr 7), ⟨0, false, ⟨(by first | rfl | (show I _ = I _; simp)), (by first | rfl | (show I _ = I _; simp)), (by first | rfl | (show I _ = I _; simp)), (by first | rfl | (show I _ = I _; simp)), (by first | rfl | (show I _ = I _; simp)), trivial⟩, Nat.zero_le _, (by simp), (by first | decide | omega), (by exact h0_), (by omega)⟩, ?_⟩
    rintro fr H nx rm' ⟨i, b, hfr, hi, hq, hnx, hH, hrm⟩
    rw [hfr.eq]
    rcases Nat.lt_or_ge i (allT l).length with hi' | hi'
    · obtain ⟨x, hx⟩ : ∃ x, (allT l)[i]? = some x := ⟨_, List.getElem?_eq_getElem hi'⟩
      have hxl := hfa.get hx
      obtain ⟨hmx, hfi⟩ := tl_first hV hx
      cases b with
      | true =>
        have hin := hq.1 rfl
        repeat' ((conv => whnf); first
          | refine ⟨_, rfl, ?_⟩
          | refine ⟨rfl, ?_⟩
          | refine ⟨_, _, rfl, at_map (by assumption), ?_⟩
          | refine idx_mapX (i := 0) rfl (by assumption) ?_
          | refine idx_map (by omega) (fun x hx => ?_)
          | refine idx_mapX (wrap_dn (by omega) (by omega)) (by assumption) ?_
          | refine idx_mapE (wrap_dn (by omega) (by omega)) (by omega) (fun x hx => ?_)
          | refine idx_mapL (by omega) (by first | assumption | (simp only [LIM]; omega)) (fun x hx => ?_)
          | refine idx_mapI (by omega) (by first | omega | (simp only [List.length_map] at *; omega)) (fun x hx => ?_)
          | refine ⟨_, ldc_cells hupd_at (Nat.le_of_ble_eq_true rfl), ?_⟩
          | refine ⟨_, ldc_cells (by first | assumption | exact zk ‹_› (by omega) | exact zk (zk ‹_› (by omega)) (by omega)) (Nat.le_of_ble_eq_true rfl), ?_⟩
          | (refine ⟨fun hc => ?_, fun hc => ?_⟩ <;> (try simp (disch := omega) only [List.length_map, wrap64] at hc) <;> (try (exfalso; first | contradiction | omega)))
          | (refine callt (b := [one (chF _), one (chF _)]) v_laws_lwSame rfl ⟨(_, _), rfl, (by refine ⟨?_, ?_⟩ <;> (exact pr_))⟩ (.inl rfl) (by first | assumption | omega) (fun r hr => K_laws_lwSame (a := (_, _)) hr) (fun hj => ?_) (fun hj => ?_) <;> (try simp only [etaPa, etaIt, etaVo] at hj) <;> (try contradiction))
          | (first | (refine ⟨⟨i + 1, true, ⟨rfl, rfl, rfl, rfl, congrArg I (wrap_up (n := (allT l).length) (by omega) (hfa.1)), trivial⟩, (by omega), (by rw [mem_take_succ hx]; first | exact iff_of_true rfl (.inl ‹_›) | exact iff_of_true rfl (.inr ‹_›)), (by omega), (by exact h0_), (by first | assumption | omega)⟩, ?_⟩; show (allT l).length - ix (I _) < (allT l).length - ix (I _); simp only [wrap_up (n := (allT l).length) (i := i) (by omega) (hfa.1), ix, Int.toNat_natCast]; omega) | (refine ⟨⟨i + 1, false, ⟨rfl, rfl, rfl, rfl, congrArg I (wrap_up (n := (allT l).length) (by omega) (hfa.1)), trivial⟩, (by omega), (by rw [mem_take_succ hx]; exact iff_of_false (by decide) (fun h => h.elim (fun h => by contradiction) (fun h => by contradiction))), (by omega), (by exact h0_), (by first | assumption | omega)⟩, ?_⟩; show (allT l).length - ix (I _) < (allT l).length - ix (I _); simp only [wrap_up (n := (allT l).length) (i := i) (by omega) (hfa.1), ix, Int.toNat_natCast]; omega))
          | fail)
      | false =>
        have hin : tipT l ∉ (allT l).take i := fun h => by have := hq.2 h; cases this
        have hfj : x.length ≠ (tipT l).length ∨ x = tipT l := by rcases hfi with h | h; exact absurd h hin; exact h
        repeat' ((conv => whnf); first
          | refine ⟨_, rfl, ?_⟩
          | refine ⟨rfl, ?_⟩
          | refine ⟨_, _, rfl, at_map (by assumption), ?_⟩
          | refine idx_mapX (i := 0) rfl (by assumption) ?_
          | refine idx_map (by omega) (fun x hx => ?_)
          | refine idx_mapX (wrap_dn (by omega) (by omega)) (by assumption) ?_
          | refine idx_mapE (wrap_dn (by omega) (by omega)) (by omega) (fun x hx => ?_)
          | refine idx_mapL (by omega) (by first | assumption | (simp only [LIM]; omega)) (fun x hx => ?_)
          | refine idx_mapI (by omega) (by first | omega | (simp only [List.length_map] at *; omega)) (fun x hx => ?_)
          | refine ⟨_, ldc_cells hupd_at (Nat.le_of_ble_eq_true rfl), ?_⟩
          | refine ⟨_, ldc_cells (by first | assumption | exact zk ‹_› (by omega) | exact zk (zk ‹_› (by omega)) (by omega)) (Nat.le_of_ble_eq_true rfl), ?_⟩
          | (refine ⟨fun hc => ?_, fun hc => ?_⟩ <;> (try simp (disch := omega) only [List.length_map, wrap64] at hc) <;> (try (exfalso; first | contradiction | omega)))
          | (refine callt (b := [one (chF _), one (chF _)]) v_laws_lwSame rfl ⟨(_, _), rfl, (by refine ⟨?_, ?_⟩ <;> (exact pr_))⟩ (.inl rfl) (by first | assumption | omega) (fun r hr => K_laws_lwSame (a := (_, _)) hr) (fun hj => ?_) (fun hj => ?_) <;> (try simp only [etaPa, etaIt, etaVo] at hj) <;> (try contradiction))
          | (first | (refine ⟨⟨i + 1, true, ⟨rfl, rfl, rfl, rfl, congrArg I (wrap_up (n := (allT l).length) (by omega) (hfa.1)), trivial⟩, (by omega), (by rw [mem_take_succ hx]; first | exact iff_of_true rfl (.inl ‹_›) | exact iff_of_true rfl (.inr ‹_›)), (by omega), (by exact h0_), (by first | assumption | omega)⟩, ?_⟩; show (allT l).length - ix (I _) < (allT l).length - ix (I _); simp only [wrap_up (n := (allT l).length) (i := i) (by omega) (hfa.1), ix, Int.toNat_natCast]; omega) | (refine ⟨⟨i + 1, false, ⟨rfl, rfl, rfl, rfl, congrArg I (wrap_up (n := (allT l).length) (by omega) (hfa.1)), trivial⟩, (by omega), (by rw [mem_take_succ hx]; exact iff_of_false (by decide) (fun h => h.elim (fun h => by contradiction) (fun h => by contradiction))), (by omega), (by exact h0_), (by first | assumption | omega)⟩, ?_⟩; show (allT l).length - ix (I _) < (allT l).length - ix (I _); simp only [wrap_up (n := (allT l).length) (i := i) (by omega) (hfa.1), ix, Int.toNat_natCast]; omega))
          | (exfalso; rcases hfj with h | h; omega; exact hj h)
          | fail)
    · have hb : b = true := by rw [hq, List.take_of_length_le hi']; exact hmem
      subst hb
      repeat' ((conv => whnf); first
        | refine ⟨_, rfl, ?_⟩
        | refine ⟨rfl, ?_⟩
        | refine ⟨_, _, rfl, at_map (by assumption), ?_⟩
        | refine idx_mapX (i := 0) rfl (by assumption) ?_
        | refine idx_map (by omega) (fun x hx => ?_)
        | refine idx_mapX (wrap_dn (by omega) (by omega)) (by assumption) ?_
        | refine idx_mapE (wrap_dn (by omega) (by omega)) (by omega) (fun x hx => ?_)
        | refine idx_mapL (by omega) (by first | assumption | (simp only [LIM]; omega)) (fun x hx => ?_)
        | refine idx_mapI (by omega) (by first | omega | (simp only [List.length_map] at *; omega)) (fun x hx => ?_)
        | refine ⟨_, ldc_cells hupd_at (Nat.le_of_ble_eq_true rfl), ?_⟩
        | refine ⟨_, ldc_cells (by first | assumption | exact zk ‹_› (by omega) | exact zk (zk ‹_› (by omega)) (by omega)) (Nat.le_of_ble_eq_true rfl), ?_⟩
        | (refine ⟨fun hc => ?_, fun hc => ?_⟩ <;> (try simp (disch := omega) only [List.length_map, wrap64] at hc) <;> (try (exfalso; first | contradiction | omega)))
        | (refine callt (b := [one (vsF _), one (chF _)]) v_impl_TreeSure rfl ⟨(_, _), rfl, (by refine ⟨?_, ?_⟩ <;> (exact pr_))⟩ (.inl rfl) (by first | assumption | omega) (fun r hr => K_impl_TreeSure (a := (_, _)) hr) (fun hj => ?_) (fun hj => ?_) <;> (try simp only [etaPa, etaIt, etaVo] at hj) <;> (try contradiction))
        | (refine calle (b := [one (vsF _)]) v_impl_TreeLong rfl ⟨_, rfl, (by refine ⟨?_, ?_⟩ <;> (exact pr_))⟩ (.inl rfl) (by first | assumption | omega) (fun r hr => K_impl_TreeLong (a := _) hr) ?_)
        | (first | (refine ⟨⟨i + 1, true, ⟨rfl, rfl, rfl, rfl, congrArg I (wrap_up (n := (allT l).length) (by omega) (hfa.1)), trivial⟩, (by omega), (by rw [mem_take_succ hx]; first | exact iff_of_true rfl (.inl ‹_›) | exact iff_of_true rfl (.inr ‹_›)), (by omega), (by exact h0_), (by first | assumption | omega)⟩, ?_⟩; show (allT l).length - ix (I _) < (allT l).length - ix (I _); simp only [wrap_up (n := (allT l).length) (i := i) (by omega) (hfa.1), ix, Int.toNat_natCast]; omega) | (refine ⟨⟨i + 1, false, ⟨rfl, rfl, rfl, rfl, congrArg I (wrap_up (n := (allT l).length) (by omega) (hfa.1)), trivial⟩, (by omega), (by rw [mem_take_succ hx]; exact iff_of_false (by decide) (fun h => h.elim (fun h => by contradiction) (fun h => by contradiction))), (by omega), (by exact h0_), (by first | assumption | omega)⟩, ?_⟩; show (allT l).length - ix (I _) < (allT l).length - ix (I _); simp only [wrap_up (n := (allT l).length) (i := i) (by omega) (hfa.1), ix, Int.toNat_natCast]; omega))
        | exact ⟨⟨_, rfl, rfl, code, rfl, (by unfold R_laws_FnTipLongest; dsimp only; first | done | exact absurd True.intro hj | (first | rfl | (exfalso; first | contradiction | omega | grind)))⟩, (by first | exact Nat.le_refl _ | omega), (by exact h0_)⟩
        | fail)
  · have hA0 := tipT_no hV
    repeat' ((conv => whnf); first
      | refine ⟨_, rfl, ?_⟩
      | refine ⟨rfl, ?_⟩
      | refine ⟨_, _, rfl, at_map (by assumption), ?_⟩
      | refine idx_mapX (i := 0) rfl (by assumption) ?_
      | refine idx_map (by omega) (fun x hx => ?_)
      | refine idx_mapX (wrap_dn (by omega) (by omega)) (by assumption) ?_
      | refine idx_mapE (wrap_dn (by omega) (by omega)) (by omega) (fun x hx => ?_)
      | refine idx_mapL (by omega) (by first | assumption | (simp only [LIM]; omega)) (fun x hx => ?_)
      | refine idx_mapI (by omega) (by first | omega | (simp only [List.length_map] at *; omega)) (fun x hx => ?_)
      | refine ⟨_, ldc_cells hupd_at (Nat.le_of_ble_eq_true rfl), ?_⟩
      | refine ⟨_, ldc_cells (by first | assumption | exact zk ‹_› (by omega) | exact zk (zk ‹_› (by omega)) (by omega)) (Nat.le_of_ble_eq_true rfl), ?_⟩
      | (refine ⟨fun hc => ?_, fun hc => ?_⟩ <;> (try simp (disch := omega) only [List.length_map, wrap64] at hc) <;> (try (exfalso; first | contradiction | omega)))
      | (refine calle (b := [one (vsF _)]) v_impl_TreeTip rfl ⟨_, rfl, (by refine ⟨?_, ?_⟩ <;> (exact pr_))⟩ (.inl rfl) (by first | assumption | omega) (fun r hr => K_impl_TreeTip (a := _) hr) ?_)
      | (refine calle (b := [one (vsF _)]) v_spec_TreeTip rfl ⟨_, rfl, (by refine ⟨?_, ?_⟩ <;> (exact pr_))⟩ (.inl rfl) (by first | assumption | omega) (fun r hr => K_spec_TreeTip (a := _) hr) ?_)
      | (refine callt (b := [one (chF _), one (chF _)]) v_laws_lwSame rfl ⟨(_, _), rfl, (by refine ⟨?_, ?_⟩ <;> (exact pr_))⟩ (.inl rfl) (by first | assumption | omega) (fun r hr => K_laws_lwSame (a := (_, _)) hr) (fun hj => ?_) (fun hj => ?_) <;> (try simp only [etaPa, etaIt, etaVo] at hj) <;> (try contradiction))
      | (refine callt (b := [one (vsF _)]) v_spec_VotesOk rfl ⟨_, rfl, (by exact pr_)⟩ (.inl rfl) (by first | assumption | omega) (fun r hr => K_spec_VotesOk (a := _) hr) (fun hj => ?_) (fun hj => ?_) <;> (try simp only [etaPa, etaIt, etaVo] at hj) <;> (try contradiction))
      | (first | (refine ⟨⟨i + 1, true, ⟨rfl, rfl, rfl, rfl, congrArg I (wrap_up (n := (allT l).length) (by omega) (hfa.1)), trivial⟩, (by omega), (by rw [mem_take_succ hx]; first | exact iff_of_true rfl (.inl ‹_›) | exact iff_of_true rfl (.inr ‹_›)), (by omega), (by exact h0_), (by first | assumption | omega)⟩, ?_⟩; show (allT l).length - ix (I _) < (allT l).length - ix (I _); simp only [wrap_up (n := (allT l).length) (i := i) (by omega) (hfa.1), ix, Int.toNat_natCast]; omega) | (refine ⟨⟨i + 1, false, ⟨rfl, rfl, rfl, rfl, congrArg I (wrap_up (n := (allT l).length) (by omega) (hfa.1)), trivial⟩, (by omega), (by rw [mem_take_succ hx]; exact iff_of_false (by decide) (fun h => h.elim (fun h => by contradiction) (fun h => by contradiction))), (by omega), (by exact h0_), (by first | assumption | omega)⟩, ?_⟩; show (allT l).length - ix (I _) < (allT l).length - ix (I _); simp only [wrap_up (n := (allT l).length) (i := i) (by omega) (hfa.1), ix, Int.toNat_natCast]; omega))
      | exact ⟨⟨_, rfl, rfl, code, rfl, (by unfold R_laws_FnTipLongest; dsimp only; first | done | exact absurd True.intro hj | (first | rfl | (exfalso; first | contradiction | omega | grind)))⟩, (by first | exact Nat.le_refl _ | omega), (by exact h0_)⟩
      | fail)
end Av
end Go.Proofs.Ytdklbphecnennaa
