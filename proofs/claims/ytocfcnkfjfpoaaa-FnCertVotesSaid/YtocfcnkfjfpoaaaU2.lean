/- The walks: certs. -/
import Derived.Test.YtocfcnkfjfpoaaaU1
import Derived.Test.YtocfcnkfjfpoaaaP5
set_option linter.unusedVariables false
set_option linter.unusedSimpArgs false
namespace Go.Proofs.Ytocfcnkfjfpoaaa
namespace Av
open Go.RowKit

theorem vt_step {b : List Int} {i : Nat} {n : Int} (hn : b[i]? = some n) (h1 : In n 1 4) (h2 : ∀ m, 0 < i → b[i - 1]? = some m → m < n) : VtAt b i n :=
  ⟨h1, fun j m e hm => h2 m (by omega) (by rw [e]; exact hm)⟩
attribute [local irreducible] Valid ValidM
set_option maxHeartbeats 4000000 in
set_option maxRecDepth 100000 in
theorem v_impl_votersOk : Valid Try.prog n_impl_votersOk S_impl_votersOk := by
  refine valid_of_swp mixed is_impl_votersOk (by rintro _ ⟨a, rfl, _⟩; exact Nat.le_of_ble_eq_true rfl) ?_
  rintro _ rm ⟨b1, rfl, hpre⟩ hl
  try dsimp only at hpre
  have hpre0 := hpre
  have hp1 := hpre
  have hL := hp1
  simp only [LIM] at hL
  repeat' ((conv => whnf); first
    | refine ⟨_, rfl, ?_⟩
    | refine ⟨rfl, ?_⟩
    | refine ⟨_, _, rfl, at_map (by assumption), ?_⟩
    | refine idx_mapX (i := 0) rfl (by assumption) ?_
    | refine idx_map (by omega) (fun x hx => ?_)
    | refine idx_mapX (wrap_dn (by omega) (by omega)) (by assumption) ?_
    | refine idx_mapE (wrap_dn (by omega) (by omega)) (by omega) (fun x hx => ?_)
    | refine idx_mapL (by omega) (by first | assumption | (simp only [LIM]; omega)) (fun x hx => ?_)
    | refine idx_mapI (by omega) (by first | omega | (simp only [List.length_map] at *; omega)) (fun x hx => ?_)
    | refine ⟨_, ldc_cells hupd_at (Nat.le_of_ble_eq_true rfl), ?_⟩
    | refine ⟨_, ldc_cells (by first | assumption | exact zk ‹_› (by omega) | exact zk (zk ‹_› (by omega)) (by omega)) (Nat.le_of_ble_eq_true rfl), ?_⟩
    | (refine ⟨fun hc => ?_, fun hc => ?_⟩ <;> (try simp (disch := omega) only [List.length_map, wrap64] at hc))
    | fail)
  conv => whnf
  refine ⟨fun fr H nx rm' => ∃ (i : Nat), Has fr [(0, one (nsF b1)), (5, one (nsF b1)), (6, I b1.length), (7, I i)] ∧ i ≤ b1.length ∧ (∀ j n, j < i → b1[j]? = some n → VtAt b1 j n) ∧ 1 ≤ nx ∧ H 0 = none ∧ rm' = rm,
    fun fr _ _ _ => b1.length - ix (fr 7), ⟨0, ⟨(by first | rfl | (show I _ = I _; simp)), (by first | rfl | (show I _ = I _; simp)), (by first | rfl | (show I _ = I _; simp)), (by first | rfl | (show I _ = I _; simp)), trivial⟩, Nat.zero_le _, (by intro j n h; omega), (by first | decide | omega), (by exact h0_), rfl⟩, ?_⟩
  rintro fr H nx rm' ⟨i, hfr, hi, hq, hnx, hH, rfl⟩
  rw [hfr.eq]
  rcases Nat.lt_or_ge i b1.length with hi' | hi'
  · obtain ⟨x, hx⟩ : ∃ x, b1[i]? = some x := ⟨_, List.getElem?_eq_getElem hi'⟩
    rcases Nat.eq_zero_or_pos i with h0 | h0
    · by_cases hin : In x 1 4
      · have hv : VtAt b1 i x := vt_step hx hin (fun m h => by omega)
        repeat' ((conv => whnf); first
          | refine ⟨_, rfl, ?_⟩
          | refine ⟨rfl, ?_⟩
          | refine ⟨_, _, rfl, at_map (by assumption), ?_⟩
          | refine idx_mapX (i := 0) rfl (by assumption) ?_
          | refine idx_map (by omega) (fun x hx => ?_)
          | refine idx_mapX (wrap_dn (by omega) (by omega)) (by assumption) ?_
          | refine idx_mapE (wrap_dn (by omega) (by omega)) (by omega) (fun x hx => ?_)
          | refine idx_mapL (by omega) (by first | assumption | (simp only [LIM]; omega)) (fun x hx => ?_)
          | refine idx_mapI (by omega) (by first | omega | (simp only [List.length_map] at *; omega)) (fun x hx => ?_)
          | refine ⟨_, ldc_cells hupd_at (Nat.le_of_ble_eq_true rfl), ?_⟩
          | refine ⟨_, ldc_cells (by first | assumption | exact zk ‹_› (by omega) | exact zk (zk ‹_› (by omega)) (by omega)) (Nat.le_of_ble_eq_true rfl), ?_⟩
          | (refine ⟨fun hc => ?_, fun hc => ?_⟩ <;> (try simp (disch := omega) only [List.length_map, wrap64] at hc) <;> (try (exfalso; first | contradiction | omega)))
          | (refine callt (b := [I _]) v_impl_nodeOk rfl ⟨_, rfl, (by exact True.intro)⟩ (.inl rfl) (by first | assumption | omega) (fun r hr => K_impl_nodeOk (a := _) hr) (fun hj => ?_) (fun hj => ?_) <;> (try simp only [etaPa, etaIt, etaVo] at hj) <;> (try contradiction))
          | (refine ⟨⟨i + 1, ⟨rfl, rfl, rfl, congrArg I (wrap_up (n := b1.length) (by omega) (hp1)), trivial⟩, (by omega), (by intro j n hj' hn'; rcases Nat.lt_or_ge j i with h | h; exact hq j n h hn'; have e : j = i := (by omega); rw [e] at hn' ⊢; rw [hx] at hn'; cases hn'; exact hv), (by omega), (by exact h0_), rfl⟩, ?_⟩; show b1.length - ix (I _) < b1.length - ix (I _); simp only [wrap_up (n := b1.length) (i := i) (by omega) (hp1), ix, Int.toNat_natCast]; omega)
          | exact ⟨⟨_, rfl, rfl, b1, rfl, (by refine congrArg B (Eq.symm (tb_pos ?_)); (try dsimp only); first | done | exact absurd True.intro hj | (skip))⟩, (by first | exact Nat.le_refl _ | omega), (by exact h0_)⟩
          | exact ⟨⟨_, rfl, rfl, b1, rfl, (by refine congrArg B (Eq.symm (tb_neg ?_)); (try dsimp only); first | done | exact absurd True.intro hj | (skip))⟩, (by first | exact Nat.le_refl _ | omega), (by exact h0_)⟩
          | fail)
      · have hbad : ¬ VtOk b1 := fun h => hin (h.1 i x hx).1
        repeat' ((conv => whnf); first
          | refine ⟨_, rfl, ?_⟩
          | refine ⟨rfl, ?_⟩
          | refine ⟨_, _, rfl, at_map (by assumption), ?_⟩
          | refine idx_mapX (i := 0) rfl (by assumption) ?_
          | refine idx_map (by omega) (fun x hx => ?_)
          | refine idx_mapX (wrap_dn (by omega) (by omega)) (by assumption) ?_
          | refine idx_mapE (wrap_dn (by omega) (by omega)) (by omega) (fun x hx => ?_)
          | refine idx_mapL (by omega) (by first | assumption | (simp only [LIM]; omega)) (fun x hx => ?_)
          | refine idx_mapI (by omega) (by first | omega | (simp only [List.length_map] at *; omega)) (fun x hx => ?_)
          | refine ⟨_, ldc_cells hupd_at (Nat.le_of_ble_eq_true rfl), ?_⟩
          | refine ⟨_, ldc_cells (by first | assumption | exact zk ‹_› (by omega) | exact zk (zk ‹_› (by omega)) (by omega)) (Nat.le_of_ble_eq_true rfl), ?_⟩
          | (refine ⟨fun hc => ?_, fun hc => ?_⟩ <;> (try simp (disch := omega) only [List.length_map, wrap64] at hc) <;> (try (exfalso; first | contradiction | omega)))
          | (refine callt (b := [I _]) v_impl_nodeOk rfl ⟨_, rfl, (by exact True.intro)⟩ (.inl rfl) (by first | assumption | omega) (fun r hr => K_impl_nodeOk (a := _) hr) (fun hj => ?_) (fun hj => ?_) <;> (try simp only [etaPa, etaIt, etaVo] at hj) <;> (try contradiction))
          | (refine ⟨⟨i + 1, ⟨rfl, rfl, rfl, congrArg I (wrap_up (n := b1.length) (by omega) (hp1)), trivial⟩, (by omega), (by intro j n hj' hn'; rcases Nat.lt_or_ge j i with h | h; exact hq j n h hn'; have e : j = i := (by omega); rw [e] at hn' ⊢; rw [hx] at hn'; cases hn'; exact hv), (by omega), (by exact h0_), rfl⟩, ?_⟩; show b1.length - ix (I _) < b1.length - ix (I _); simp only [wrap_up (n := b1.length) (i := i) (by omega) (hp1), ix, Int.toNat_natCast]; omega)
          | exact ⟨⟨_, rfl, rfl, b1, rfl, (by refine congrArg B (Eq.symm (tb_pos ?_)); (try dsimp only); first | done | exact absurd True.intro hj | (exact hbad))⟩, (by first | exact Nat.le_refl _ | omega), (by exact h0_)⟩
          | exact ⟨⟨_, rfl, rfl, b1, rfl, (by refine congrArg B (Eq.symm (tb_neg ?_)); (try dsimp only); first | done | exact absurd True.intro hj | (exact hbad))⟩, (by first | exact Nat.le_refl _ | omega), (by exact h0_)⟩
          | fail)
    · obtain ⟨y, hy⟩ : ∃ x, b1[i - 1]? = some x := ⟨_, List.getElem?_eq_getElem (by omega)⟩
      by_cases hin : In x 1 4
      · by_cases hlt : y < x
        · have hv : VtAt b1 i x := vt_step hx hin (fun m h hm => by rw [hy] at hm; cases hm; exact hlt)
          repeat' ((conv => whnf); first
            | refine ⟨_, rfl, ?_⟩
            | refine ⟨rfl, ?_⟩
            | refine ⟨_, _, rfl, at_map (by assumption), ?_⟩
            | refine idx_mapX (i := 0) rfl (by assumption) ?_
            | refine idx_map (by omega) (fun x hx => ?_)
            | refine idx_mapX (wrap_dn (by omega) (by omega)) (by assumption) ?_
            | refine idx_mapE (wrap_dn (by omega) (by omega)) (by omega) (fun x hx => ?_)
            | refine idx_mapL (by omega) (by first | assumption | (simp only [LIM]; omega)) (fun x hx => ?_)
            | refine idx_mapI (by omega) (by first | omega | (simp only [List.length_map] at *; omega)) (fun x hx => ?_)
            | refine ⟨_, ldc_cells hupd_at (Nat.le_of_ble_eq_true rfl), ?_⟩
            | refine ⟨_, ldc_cells (by first | assumption | exact zk ‹_› (by omega) | exact zk (zk ‹_› (by omega)) (by omega)) (Nat.le_of_ble_eq_true rfl), ?_⟩
            | (refine ⟨fun hc => ?_, fun hc => ?_⟩ <;> (try simp (disch := omega) only [List.length_map, wrap64] at hc) <;> (try (exfalso; first | contradiction | omega)))
            | (refine callt (b := [I _]) v_impl_nodeOk rfl ⟨_, rfl, (by exact True.intro)⟩ (.inl rfl) (by first | assumption | omega) (fun r hr => K_impl_nodeOk (a := _) hr) (fun hj => ?_) (fun hj => ?_) <;> (try simp only [etaPa, etaIt, etaVo] at hj) <;> (try contradiction))
            | (refine ⟨⟨i + 1, ⟨rfl, rfl, rfl, congrArg I (wrap_up (n := b1.length) (by omega) (hp1)), trivial⟩, (by omega), (by intro j n hj' hn'; rcases Nat.lt_or_ge j i with h | h; exact hq j n h hn'; have e : j = i := (by omega); rw [e] at hn' ⊢; rw [hx] at hn'; cases hn'; exact hv), (by omega), (by exact h0_), rfl⟩, ?_⟩; show b1.length - ix (I _) < b1.length - ix (I _); simp only [wrap_up (n := b1.length) (i := i) (by omega) (hp1), ix, Int.toNat_natCast]; omega)
            | exact ⟨⟨_, rfl, rfl, b1, rfl, (by refine congrArg B (Eq.symm (tb_pos ?_)); (try dsimp only); first | done | exact absurd True.intro hj | (skip))⟩, (by first | exact Nat.le_refl _ | omega), (by exact h0_)⟩
            | exact ⟨⟨_, rfl, rfl, b1, rfl, (by refine congrArg B (Eq.symm (tb_neg ?_)); (try dsimp only); first | done | exact absurd True.intro hj | (skip))⟩, (by first | exact Nat.le_refl _ | omega), (by exact h0_)⟩
            | fail)
        · have hbad : ¬ VtOk b1 := fun h => hlt ((h.1 i x hx).2 (i - 1) y (by omega) hy)
          repeat' ((conv => whnf); first
            | refine ⟨_, rfl, ?_⟩
            | refine ⟨rfl, ?_⟩
            | refine ⟨_, _, rfl, at_map (by assumption), ?_⟩
            | refine idx_mapX (i := 0) rfl (by assumption) ?_
            | refine idx_map (by omega) (fun x hx => ?_)
            | refine idx_mapX (wrap_dn (by omega) (by omega)) (by assumption) ?_
            | refine idx_mapE (wrap_dn (by omega) (by omega)) (by omega) (fun x hx => ?_)
            | refine idx_mapL (by omega) (by first | assumption | (simp only [LIM]; omega)) (fun x hx => ?_)
            | refine idx_mapI (by omega) (by first | omega | (simp only [List.length_map] at *; omega)) (fun x hx => ?_)
            | refine ⟨_, ldc_cells hupd_at (Nat.le_of_ble_eq_true rfl), ?_⟩
            | refine ⟨_, ldc_cells (by first | assumption | exact zk ‹_› (by omega) | exact zk (zk ‹_› (by omega)) (by omega)) (Nat.le_of_ble_eq_true rfl), ?_⟩
            | (refine ⟨fun hc => ?_, fun hc => ?_⟩ <;> (try simp (disch := omega) only [List.length_map, wrap64] at hc) <;> (try (exfalso; first | contradiction | omega)))
            | (refine callt (b := [I _]) v_impl_nodeOk rfl ⟨_, rfl, (by exact True.intro)⟩ (.inl rfl) (by first | assumption | omega) (fun r hr => K_impl_nodeOk (a := _) hr) (fun hj => ?_) (fun hj => ?_) <;> (try simp only [etaPa, etaIt, etaVo] at hj) <;> (try contradiction))
            | (refine ⟨⟨i + 1, ⟨rfl, rfl, rfl, congrArg I (wrap_up (n := b1.length) (by omega) (hp1)), trivial⟩, (by omega), (by intro j n hj' hn'; rcases Nat.lt_or_ge j i with h | h; exact hq j n h hn'; have e : j = i := (by omega); rw [e] at hn' ⊢; rw [hx] at hn'; cases hn'; exact hv), (by omega), (by exact h0_), rfl⟩, ?_⟩; show b1.length - ix (I _) < b1.length - ix (I _); simp only [wrap_up (n := b1.length) (i := i) (by omega) (hp1), ix, Int.toNat_natCast]; omega)
            | exact ⟨⟨_, rfl, rfl, b1, rfl, (by refine congrArg B (Eq.symm (tb_pos ?_)); (try dsimp only); first | done | exact absurd True.intro hj | (exact hbad))⟩, (by first | exact Nat.le_refl _ | omega), (by exact h0_)⟩
            | exact ⟨⟨_, rfl, rfl, b1, rfl, (by refine congrArg B (Eq.symm (tb_neg ?_)); (try dsimp only); first | done | exact absurd True.intro hj | (exact hbad))⟩, (by first | exact Nat.le_refl _ | omega), (by exact h0_)⟩
            | fail)
      · have hbad : ¬ VtOk b1 := fun h => hin (h.1 i x hx).1
        repeat' ((conv => whnf); first
          | refine ⟨_, rfl, ?_⟩
          | refine ⟨rfl, ?_⟩
          | refine ⟨_, _, rfl, at_map (by assumption), ?_⟩
          | refine idx_mapX (i := 0) rfl (by assumption) ?_
          | refine idx_map (by omega) (fun x hx => ?_)
          | refine idx_mapX (wrap_dn (by omega) (by omega)) (by assumption) ?_
          | refine idx_mapE (wrap_dn (by omega) (by omega)) (by omega) (fun x hx => ?_)
          | refine idx_mapL (by omega) (by first | assumption | (simp only [LIM]; omega)) (fun x hx => ?_)
          | refine idx_mapI (by omega) (by first | omega | (simp only [List.length_map] at *; omega)) (fun x hx => ?_)
          | refine ⟨_, ldc_cells hupd_at (Nat.le_of_ble_eq_true rfl), ?_⟩
          | refine ⟨_, ldc_cells (by first | assumption | exact zk ‹_› (by omega) | exact zk (zk ‹_› (by omega)) (by omega)) (Nat.le_of_ble_eq_true rfl), ?_⟩
          | (refine ⟨fun hc => ?_, fun hc => ?_⟩ <;> (try simp (disch := omega) only [List.length_map, wrap64] at hc) <;> (try (exfalso; first | contradiction | omega)))
          | (refine callt (b := [I _]) v_impl_nodeOk rfl ⟨_, rfl, (by exact True.intro)⟩ (.inl rfl) (by first | assumption | omega) (fun r hr => K_impl_nodeOk (a := _) hr) (fun hj => ?_) (fun hj => ?_) <;> (try simp only [etaPa, etaIt, etaVo] at hj) <;> (try contradiction))
          | (refine ⟨⟨i + 1, ⟨rfl, rfl, rfl, congrArg I (wrap_up (n := b1.length) (by omega) (hp1)), trivial⟩, (by omega), (by intro j n hj' hn'; rcases Nat.lt_or_ge j i with h | h; exact hq j n h hn'; have e : j = i := (by omega); rw [e] at hn' ⊢; rw [hx] at hn'; cases hn'; exact hv), (by omega), (by exact h0_), rfl⟩, ?_⟩; show b1.length - ix (I _) < b1.length - ix (I _); simp only [wrap_up (n := b1.length) (i := i) (by omega) (hp1), ix, Int.toNat_natCast]; omega)
          | exact ⟨⟨_, rfl, rfl, b1, rfl, (by refine congrArg B (Eq.symm (tb_pos ?_)); (try dsimp only); first | done | exact absurd True.intro hj | (exact hbad))⟩, (by first | exact Nat.le_refl _ | omega), (by exact h0_)⟩
          | exact ⟨⟨_, rfl, rfl, b1, rfl, (by refine congrArg B (Eq.symm (tb_neg ?_)); (try dsimp only); first | done | exact absurd True.intro hj | (exact hbad))⟩, (by first | exact Nat.le_refl _ | omega), (by exact h0_)⟩
          | fail)
  · have hall : ∀ j n, b1[j]? = some n → VtAt b1 j n := fun j n hn => hq j n (by have := (List.getElem?_eq_some_iff.1 hn).1; omega) hn
    repeat' ((conv => whnf); first
      | refine ⟨_, rfl, ?_⟩
      | refine ⟨rfl, ?_⟩
      | refine ⟨_, _, rfl, at_map (by assumption), ?_⟩
      | refine idx_mapX (i := 0) rfl (by assumption) ?_
      | refine idx_map (by omega) (fun x hx => ?_)
      | refine idx_mapX (wrap_dn (by omega) (by omega)) (by assumption) ?_
      | refine idx_mapE (wrap_dn (by omega) (by omega)) (by omega) (fun x hx => ?_)
      | refine idx_mapL (by omega) (by first | assumption | (simp only [LIM]; omega)) (fun x hx => ?_)
      | refine idx_mapI (by omega) (by first | omega | (simp only [List.length_map] at *; omega)) (fun x hx => ?_)
      | refine ⟨_, ldc_cells hupd_at (Nat.le_of_ble_eq_true rfl), ?_⟩
      | refine ⟨_, ldc_cells (by first | assumption | exact zk ‹_› (by omega) | exact zk (zk ‹_› (by omega)) (by omega)) (Nat.le_of_ble_eq_true rfl), ?_⟩
      | (refine ⟨fun hc => ?_, fun hc => ?_⟩ <;> (try simp (disch := omega) only [List.length_map, wrap64] at hc) <;> (try (exfalso; first | contradiction | omega)))
      | (refine ⟨⟨i + 1, ⟨rfl, rfl, rfl, congrArg I (wrap_up (n := b1.length) (by omega) (hp1)), trivial⟩, (by omega), (by intro j n hj' hn'; rcases Nat.lt_or_ge j i with h | h; exact hq j n h hn'; have e : j = i := (by omega); rw [e] at hn' ⊢; rw [hx] at hn'; cases hn'; exact hv), (by omega), (by exact h0_), rfl⟩, ?_⟩; show b1.length - ix (I _) < b1.length - ix (I _); simp only [wrap_up (n := b1.length) (i := i) (by omega) (hp1), ix, Int.toNat_natCast]; omega)
      | exact ⟨⟨_, rfl, rfl, b1, rfl, (by refine congrArg B (Eq.symm (tb_pos ?_)); (try dsimp only); first | done | exact absurd True.intro hj | (first | exact ⟨hall, by omega⟩ | exact fun h => by have := h.2; omega))⟩, (by first | exact Nat.le_refl _ | omega), (by exact h0_)⟩
      | exact ⟨⟨_, rfl, rfl, b1, rfl, (by refine congrArg B (Eq.symm (tb_neg ?_)); (try dsimp only); first | done | exact absurd True.intro hj | (first | exact ⟨hall, by omega⟩ | exact fun h => by have := h.2; omega))⟩, (by first | exact Nat.le_refl _ | omega), (by exact h0_)⟩
      | fail)
set_option maxHeartbeats 4000000 in
set_option maxRecDepth 100000 in
theorem v_spec_l13By : Valid Try.prog n_spec_l13By S_spec_l13By := by
  refine valid_of_swp mixed is_spec_l13By (by rintro _ ⟨a, rfl, _⟩; exact Nat.le_of_ble_eq_true rfl) ?_
  rintro _ rm ⟨b1, rfl, hpre⟩ hl
  try dsimp only at hpre
  have hpre0 := hpre
  have hp1 := hpre
  have hL := hp1
  simp only [LIM] at hL
  repeat' ((conv => whnf); first
    | refine ⟨_, rfl, ?_⟩
    | refine ⟨rfl, ?_⟩
    | refine ⟨_, _, rfl, at_map (by assumption), ?_⟩
    | refine idx_mapX (i := 0) rfl (by assumption) ?_
    | refine idx_map (by omega) (fun x hx => ?_)
    | refine idx_mapX (wrap_dn (by omega) (by omega)) (by assumption) ?_
    | refine idx_mapE (wrap_dn (by omega) (by omega)) (by omega) (fun x hx => ?_)
    | refine idx_mapL (by omega) (by first | assumption | (simp only [LIM]; omega)) (fun x hx => ?_)
    | refine idx_mapI (by omega) (by first | omega | (simp only [List.length_map] at *; omega)) (fun x hx => ?_)
    | refine ⟨_, ldc_cells hupd_at (Nat.le_of_ble_eq_true rfl), ?_⟩
    | refine ⟨_, ldc_cells (by first | assumption | exact zk ‹_› (by omega) | exact zk (zk ‹_› (by omega)) (by omega)) (Nat.le_of_ble_eq_true rfl), ?_⟩
    | (refine ⟨fun hc => ?_, fun hc => ?_⟩ <;> (try simp (disch := omega) only [List.length_map, wrap64] at hc))
    | fail)
  conv => whnf
  refine ⟨fun fr H nx rm' => ∃ (i : Nat), Has fr [(0, one (nsF b1)), (3, I i)] ∧ i ≤ b1.length ∧ (∀ j n, j < i → b1[j]? = some n → VtAt b1 j n) ∧ 1 ≤ nx ∧ H 0 = none ∧ rm' = rm,
    fun fr _ _ _ => b1.length - ix (fr 3), ⟨0, ⟨(by first | rfl | (show I _ = I _; simp)), (by first | rfl | (show I _ = I _; simp)), trivial⟩, Nat.zero_le _, (by intro j n h; omega), (by first | decide | omega), (by exact h0_), rfl⟩, ?_⟩
  rintro fr H nx rm' ⟨i, hfr, hi, hq, hnx, hH, rfl⟩
  rw [hfr.eq]
  rcases Nat.lt_or_ge i b1.length with hi' | hi'
  · obtain ⟨x, hx⟩ : ∃ x, b1[i]? = some x := ⟨_, List.getElem?_eq_getElem hi'⟩
    rcases Nat.eq_zero_or_pos i with h0 | h0
    · by_cases hin : In x 1 4
      · have hv : VtAt b1 i x := vt_step hx hin (fun m h => by omega)
        repeat' ((conv => whnf); first
          | refine ⟨_, rfl, ?_⟩
          | refine ⟨rfl, ?_⟩
          | refine ⟨_, _, rfl, at_map (by assumption), ?_⟩
          | refine idx_mapX (i := 0) rfl (by assumption) ?_
          | refine idx_map (by omega) (fun x hx => ?_)
          | refine idx_mapX (wrap_dn (by omega) (by omega)) (by assumption) ?_
          | refine idx_mapE (wrap_dn (by omega) (by omega)) (by omega) (fun x hx => ?_)
          | refine idx_mapL (by omega) (by first | assumption | (simp only [LIM]; omega)) (fun x hx => ?_)
          | refine idx_mapI (by omega) (by first | omega | (simp only [List.length_map] at *; omega)) (fun x hx => ?_)
          | refine ⟨_, ldc_cells hupd_at (Nat.le_of_ble_eq_true rfl), ?_⟩
          | refine ⟨_, ldc_cells (by first | assumption | exact zk ‹_› (by omega) | exact zk (zk ‹_› (by omega)) (by omega)) (Nat.le_of_ble_eq_true rfl), ?_⟩
          | (refine ⟨fun hc => ?_, fun hc => ?_⟩ <;> (try simp (disch := omega) only [List.length_map, wrap64] at hc) <;> (try (exfalso; first | contradiction | omega)))
          | (refine callt (b := [I _, I _, I _]) v_spec_l6In rfl ⟨(_, _, _), rfl, (by exact True.intro)⟩ (.inl rfl) (by first | assumption | omega) (fun r hr => K_spec_l6In (a := (_, _, _)) hr) (fun hj => ?_) (fun hj => ?_) <;> (try simp only [etaPa, etaIt, etaVo] at hj) <;> (try contradiction))
          | (refine ⟨⟨i + 1, ⟨rfl, congrArg I (wrap_up (n := b1.length) (by omega) (hp1)), trivial⟩, (by omega), (by intro j n hj' hn'; rcases Nat.lt_or_ge j i with h | h; exact hq j n h hn'; have e : j = i := (by omega); rw [e] at hn' ⊢; rw [hx] at hn'; cases hn'; exact hv), (by omega), (by exact h0_), rfl⟩, ?_⟩; show b1.length - ix (I _) < b1.length - ix (I _); simp only [wrap_up (n := b1.length) (i := i) (by omega) (hp1), ix, Int.toNat_natCast]; omega)
          | exact ⟨⟨_, rfl, rfl, b1, rfl, (by refine congrArg B (Eq.symm (tb_pos ?_)); (try dsimp only); first | done | exact absurd True.intro hj | (skip))⟩, (by first | exact Nat.le_refl _ | omega), (by exact h0_)⟩
          | exact ⟨⟨_, rfl, rfl, b1, rfl, (by refine congrArg B (Eq.symm (tb_neg ?_)); (try dsimp only); first | done | exact absurd True.intro hj | (skip))⟩, (by first | exact Nat.le_refl _ | omega), (by exact h0_)⟩
          | fail)
      · have hbad : ¬ VtOk b1 := fun h => hin (h.1 i x hx).1
        repeat' ((conv => whnf); first
          | refine ⟨_, rfl, ?_⟩
          | refine ⟨rfl, ?_⟩
          | refine ⟨_, _, rfl, at_map (by assumption), ?_⟩
          | refine idx_mapX (i := 0) rfl (by assumption) ?_
          | refine idx_map (by omega) (fun x hx => ?_)
          | refine idx_mapX (wrap_dn (by omega) (by omega)) (by assumption) ?_
          | refine idx_mapE (wrap_dn (by omega) (by omega)) (by omega) (fun x hx => ?_)
          | refine idx_mapL (by omega) (by first | assumption | (simp only [LIM]; omega)) (fun x hx => ?_)
          | refine idx_mapI (by omega) (by first | omega | (simp only [List.length_map] at *; omega)) (fun x hx => ?_)
          | refine ⟨_, ldc_cells hupd_at (Nat.le_of_ble_eq_true rfl), ?_⟩
          | refine ⟨_, ldc_cells (by first | assumption | exact zk ‹_› (by omega) | exact zk (zk ‹_› (by omega)) (by omega)) (Nat.le_of_ble_eq_true rfl), ?_⟩
          | (refine ⟨fun hc => ?_, fun hc => ?_⟩ <;> (try simp (disch := omega) only [List.length_map, wrap64] at hc) <;> (try (exfalso; first | contradiction | omega)))
          | (refine callt (b := [I _, I _, I _]) v_spec_l6In rfl ⟨(_, _, _), rfl, (by exact True.intro)⟩ (.inl rfl) (by first | assumption | omega) (fun r hr => K_spec_l6In (a := (_, _, _)) hr) (fun hj => ?_) (fun hj => ?_) <;> (try simp only [etaPa, etaIt, etaVo] at hj) <;> (try contradiction))
          | (refine ⟨⟨i + 1, ⟨rfl, congrArg I (wrap_up (n := b1.length) (by omega) (hp1)), trivial⟩, (by omega), (by intro j n hj' hn'; rcases Nat.lt_or_ge j i with h | h; exact hq j n h hn'; have e : j = i := (by omega); rw [e] at hn' ⊢; rw [hx] at hn'; cases hn'; exact hv), (by omega), (by exact h0_), rfl⟩, ?_⟩; show b1.length - ix (I _) < b1.length - ix (I _); simp only [wrap_up (n := b1.length) (i := i) (by omega) (hp1), ix, Int.toNat_natCast]; omega)
          | exact ⟨⟨_, rfl, rfl, b1, rfl, (by refine congrArg B (Eq.symm (tb_pos ?_)); (try dsimp only); first | done | exact absurd True.intro hj | (exact hbad))⟩, (by first | exact Nat.le_refl _ | omega), (by exact h0_)⟩
          | exact ⟨⟨_, rfl, rfl, b1, rfl, (by refine congrArg B (Eq.symm (tb_neg ?_)); (try dsimp only); first | done | exact absurd True.intro hj | (exact hbad))⟩, (by first | exact Nat.le_refl _ | omega), (by exact h0_)⟩
          | fail)
    · obtain ⟨y, hy⟩ : ∃ x, b1[i - 1]? = some x := ⟨_, List.getElem?_eq_getElem (by omega)⟩
      by_cases hin : In x 1 4
      · by_cases hlt : y < x
        · have hv : VtAt b1 i x := vt_step hx hin (fun m h hm => by rw [hy] at hm; cases hm; exact hlt)
          repeat' ((conv => whnf); first
            | refine ⟨_, rfl, ?_⟩
            | refine ⟨rfl, ?_⟩
            | refine ⟨_, _, rfl, at_map (by assumption), ?_⟩
            | refine idx_mapX (i := 0) rfl (by assumption) ?_
            | refine idx_map (by omega) (fun x hx => ?_)
            | refine idx_mapX (wrap_dn (by omega) (by omega)) (by assumption) ?_
            | refine idx_mapE (wrap_dn (by omega) (by omega)) (by omega) (fun x hx => ?_)
            | refine idx_mapL (by omega) (by first | assumption | (simp only [LIM]; omega)) (fun x hx => ?_)
            | refine idx_mapI (by omega) (by first | omega | (simp only [List.length_map] at *; omega)) (fun x hx => ?_)
            | refine ⟨_, ldc_cells hupd_at (Nat.le_of_ble_eq_true rfl), ?_⟩
            | refine ⟨_, ldc_cells (by first | assumption | exact zk ‹_› (by omega) | exact zk (zk ‹_› (by omega)) (by omega)) (Nat.le_of_ble_eq_true rfl), ?_⟩
            | (refine ⟨fun hc => ?_, fun hc => ?_⟩ <;> (try simp (disch := omega) only [List.length_map, wrap64] at hc) <;> (try (exfalso; first | contradiction | omega)))
            | (refine callt (b := [I _, I _, I _]) v_spec_l6In rfl ⟨(_, _, _), rfl, (by exact True.intro)⟩ (.inl rfl) (by first | assumption | omega) (fun r hr => K_spec_l6In (a := (_, _, _)) hr) (fun hj => ?_) (fun hj => ?_) <;> (try simp only [etaPa, etaIt, etaVo] at hj) <;> (try contradiction))
            | (refine ⟨⟨i + 1, ⟨rfl, congrArg I (wrap_up (n := b1.length) (by omega) (hp1)), trivial⟩, (by omega), (by intro j n hj' hn'; rcases Nat.lt_or_ge j i with h | h; exact hq j n h hn'; have e : j = i := (by omega); rw [e] at hn' ⊢; rw [hx] at hn'; cases hn'; exact hv), (by omega), (by exact h0_), rfl⟩, ?_⟩; show b1.length - ix (I _) < b1.length - ix (I _); simp only [wrap_up (n := b1.length) (i := i) (by omega) (hp1), ix, Int.toNat_natCast]; omega)
            | exact ⟨⟨_, rfl, rfl, b1, rfl, (by refine congrArg B (Eq.symm (tb_pos ?_)); (try dsimp only); first | done | exact absurd True.intro hj | (skip))⟩, (by first | exact Nat.le_refl _ | omega), (by exact h0_)⟩
            | exact ⟨⟨_, rfl, rfl, b1, rfl, (by refine congrArg B (Eq.symm (tb_neg ?_)); (try dsimp only); first | done | exact absurd True.intro hj | (skip))⟩, (by first | exact Nat.le_refl _ | omega), (by exact h0_)⟩
            | fail)
        · have hbad : ¬ VtOk b1 := fun h => hlt ((h.1 i x hx).2 (i - 1) y (by omega) hy)
          repeat' ((conv => whnf); first
            | refine ⟨_, rfl, ?_⟩
            | refine ⟨rfl, ?_⟩
            | refine ⟨_, _, rfl, at_map (by assumption), ?_⟩
            | refine idx_mapX (i := 0) rfl (by assumption) ?_
            | refine idx_map (by omega) (fun x hx => ?_)
            | refine idx_mapX (wrap_dn (by omega) (by omega)) (by assumption) ?_
            | refine idx_mapE (wrap_dn (by omega) (by omega)) (by omega) (fun x hx => ?_)
            | refine idx_mapL (by omega) (by first | assumption | (simp only [LIM]; omega)) (fun x hx => ?_)
            | refine idx_mapI (by omega) (by first | omega | (simp only [List.length_map] at *; omega)) (fun x hx => ?_)
            | refine ⟨_, ldc_cells hupd_at (Nat.le_of_ble_eq_true rfl), ?_⟩
            | refine ⟨_, ldc_cells (by first | assumption | exact zk ‹_› (by omega) | exact zk (zk ‹_› (by omega)) (by omega)) (Nat.le_of_ble_eq_true rfl), ?_⟩
            | (refine ⟨fun hc => ?_, fun hc => ?_⟩ <;> (try simp (disch := omega) only [List.length_map, wrap64] at hc) <;> (try (exfalso; first | contradiction | omega)))
            | (refine callt (b := [I _, I _, I _]) v_spec_l6In rfl ⟨(_, _, _), rfl, (by exact True.intro)⟩ (.inl rfl) (by first | assumption | omega) (fun r hr => K_spec_l6In (a := (_, _, _)) hr) (fun hj => ?_) (fun hj => ?_) <;> (try simp only [etaPa, etaIt, etaVo] at hj) <;> (try contradiction))
            | (refine ⟨⟨i + 1, ⟨rfl, congrArg I (wrap_up (n := b1.length) (by omega) (hp1)), trivial⟩, (by omega), (by intro j n hj' hn'; rcases Nat.lt_or_ge j i with h | h; exact hq j n h hn'; have e : j = i := (by omega); rw [e] at hn' ⊢; rw [hx] at hn'; cases hn'; exact hv), (by omega), (by exact h0_), rfl⟩, ?_⟩; show b1.length - ix (I _) < b1.length - ix (I _); simp only [wrap_up (n := b1.length) (i := i) (by omega) (hp1), ix, Int.toNat_natCast]; omega)
            | exact ⟨⟨_, rfl, rfl, b1, rfl, (by refine congrArg B (Eq.symm (tb_pos ?_)); (try dsimp only); first | done | exact absurd True.intro hj | (exact hbad))⟩, (by first | exact Nat.le_refl _ | omega), (by exact h0_)⟩
            | exact ⟨⟨_, rfl, rfl, b1, rfl, (by refine congrArg B (Eq.symm (tb_neg ?_)); (try dsimp only); first | done | exact absurd True.intro hj | (exact hbad))⟩, (by first | exact Nat.le_refl _ | omega), (by exact h0_)⟩
            | fail)
      · have hbad : ¬ VtOk b1 := fun h => hin (h.1 i x hx).1
        repeat' ((conv => whnf); first
          | refine ⟨_, rfl, ?_⟩
          | refine ⟨rfl, ?_⟩
          | refine ⟨_, _, rfl, at_map (by assumption), ?_⟩
          | refine idx_mapX (i := 0) rfl (by assumption) ?_
          | refine idx_map (by omega) (fun x hx => ?_)
          | refine idx_mapX (wrap_dn (by omega) (by omega)) (by assumption) ?_
          | refine idx_mapE (wrap_dn (by omega) (by omega)) (by omega) (fun x hx => ?_)
          | refine idx_mapL (by omega) (by first | assumption | (simp only [LIM]; omega)) (fun x hx => ?_)
          | refine idx_mapI (by omega) (by first | omega | (simp only [List.length_map] at *; omega)) (fun x hx => ?_)
          | refine ⟨_, ldc_cells hupd_at (Nat.le_of_ble_eq_true rfl), ?_⟩
          | refine ⟨_, ldc_cells (by first | assumption | exact zk ‹_› (by omega) | exact zk (zk ‹_› (by omega)) (by omega)) (Nat.le_of_ble_eq_true rfl), ?_⟩
          | (refine ⟨fun hc => ?_, fun hc => ?_⟩ <;> (try simp (disch := omega) only [List.length_map, wrap64] at hc) <;> (try (exfalso; first | contradiction | omega)))
          | (refine callt (b := [I _, I _, I _]) v_spec_l6In rfl ⟨(_, _, _), rfl, (by exact True.intro)⟩ (.inl rfl) (by first | assumption | omega) (fun r hr => K_spec_l6In (a := (_, _, _)) hr) (fun hj => ?_) (fun hj => ?_) <;> (try simp only [etaPa, etaIt, etaVo] at hj) <;> (try contradiction))
          | (refine ⟨⟨i + 1, ⟨rfl, congrArg I (wrap_up (n := b1.length) (by omega) (hp1)), trivial⟩, (by omega), (by intro j n hj' hn'; rcases Nat.lt_or_ge j i with h | h; exact hq j n h hn'; have e : j = i := (by omega); rw [e] at hn' ⊢; rw [hx] at hn'; cases hn'; exact hv), (by omega), (by exact h0_), rfl⟩, ?_⟩; show b1.length - ix (I _) < b1.length - ix (I _); simp only [wrap_up (n := b1.length) (i := i) (by omega) (hp1), ix, Int.toNat_natCast]; omega)
          | exact ⟨⟨_, rfl, rfl, b1, rfl, (by refine congrArg B (Eq.symm (tb_pos ?_)); (try dsimp only); first | done | exact absurd True.intro hj | (exact hbad))⟩, (by first | exact Nat.le_refl _ | omega), (by exact h0_)⟩
          | exact ⟨⟨_, rfl, rfl, b1, rfl, (by refine congrArg B (Eq.symm (tb_neg ?_)); (try dsimp only); first | done | exact absurd True.intro hj | (exact hbad))⟩, (by first | exact Nat.le_refl _ | omega), (by exact h0_)⟩
          | fail)
  · have hall : ∀ j n, b1[j]? = some n → VtAt b1 j n := fun j n hn => hq j n (by have := (List.getElem?_eq_some_iff.1 hn).1; omega) hn
    repeat' ((conv => whnf); first
      | refine ⟨_, rfl, ?_⟩
      | refine ⟨rfl, ?_⟩
      | refine ⟨_, _, rfl, at_map (by assumption), ?_⟩
      | refine idx_mapX (i := 0) rfl (by assumption) ?_
      | refine idx_map (by omega) (fun x hx => ?_)
      | refine idx_mapX (wrap_dn (by omega) (by omega)) (by assumption) ?_
      | refine idx_mapE (wrap_dn (by omega) (by omega)) (by omega) (fun x hx => ?_)
      | refine idx_mapL (by omega) (by first | assumption | (simp only [LIM]; omega)) (fun x hx => ?_)
      | refine idx_mapI (by omega) (by first | omega | (simp only [List.length_map] at *; omega)) (fun x hx => ?_)
      | refine ⟨_, ldc_cells hupd_at (Nat.le_of_ble_eq_true rfl), ?_⟩
      | refine ⟨_, ldc_cells (by first | assumption | exact zk ‹_› (by omega) | exact zk (zk ‹_› (by omega)) (by omega)) (Nat.le_of_ble_eq_true rfl), ?_⟩
      | (refine ⟨fun hc => ?_, fun hc => ?_⟩ <;> (try simp (disch := omega) only [List.length_map, wrap64] at hc) <;> (try (exfalso; first | contradiction | omega)))
      | (refine ⟨⟨i + 1, ⟨rfl, congrArg I (wrap_up (n := b1.length) (by omega) (hp1)), trivial⟩, (by omega), (by intro j n hj' hn'; rcases Nat.lt_or_ge j i with h | h; exact hq j n h hn'; have e : j = i := (by omega); rw [e] at hn' ⊢; rw [hx] at hn'; cases hn'; exact hv), (by omega), (by exact h0_), rfl⟩, ?_⟩; show b1.length - ix (I _) < b1.length - ix (I _); simp only [wrap_up (n := b1.length) (i := i) (by omega) (hp1), ix, Int.toNat_natCast]; omega)
      | exact ⟨⟨_, rfl, rfl, b1, rfl, (by refine congrArg B (Eq.symm (tb_pos ?_)); (try dsimp only); first | done | exact absurd True.intro hj | (first | exact ⟨hall, by omega⟩ | exact fun h => by have := h.2; omega))⟩, (by first | exact Nat.le_refl _ | omega), (by exact h0_)⟩
      | exact ⟨⟨_, rfl, rfl, b1, rfl, (by refine congrArg B (Eq.symm (tb_neg ?_)); (try dsimp only); first | done | exact absurd True.intro hj | (first | exact ⟨hall, by omega⟩ | exact fun h => by have := h.2; omega))⟩, (by first | exact Nat.le_refl _ | omega), (by exact h0_)⟩
      | fail)
set_option maxHeartbeats 4000000 in
set_option maxRecDepth 100000 in
theorem v_impl_CertOk_1 : Valid Try.prog n_impl_CertOk_1 S_impl_CertOk_1 := by
  refine valid_of_swp mixed is_impl_CertOk_1 (by rintro _ ⟨a, rfl, _⟩; exact Nat.le_of_ble_eq_true rfl) ?_
  rintro _ rm ⟨b1, rfl, hpre⟩ hl
  try dsimp only at hpre
  have hpre0 := hpre
  have hp1 := hpre
  repeat' ((conv => whnf); first
    | refine ⟨_, rfl, ?_⟩
    | refine ⟨rfl, ?_⟩
    | (refine ⟨fun hc => ?_, fun hc => ?_⟩ <;> (try simp (disch := omega) only [List.length_map, wrap64] at hc))
    | (refine callt (b := [one (nsF _)]) v_impl_votersOk rfl ⟨_, rfl, (by exact pr_)⟩ (.inl rfl) (by first | assumption | omega) (fun r hr => K_impl_votersOk (a := _) hr) (fun hj => ?_) (fun hj => ?_) <;> (try simp only [etaPa, etaIt, etaVo] at hj))
    | exact ⟨⟨_, rfl, rfl, b1, rfl, (by refine congrArg B (Eq.symm (tb_pos ?_)); (try dsimp only); first | done | exact absurd True.intro hj | (first | assumption | exact fun h => h hj))⟩, (by first | exact Nat.le_refl _ | omega), (by exact h0_)⟩
    | exact ⟨⟨_, rfl, rfl, b1, rfl, (by refine congrArg B (Eq.symm (tb_neg ?_)); (try dsimp only); first | done | exact absurd True.intro hj | (first | assumption | exact fun h => h hj))⟩, (by first | exact Nat.le_refl _ | omega), (by exact h0_)⟩
    | fail)
theorem v_slices_IndexFunc_nSS : Valid Try.prog n_slices_IndexFunc_nSS S_slices_IndexFunc_nSS := by
  refine valid_of_swp mixed (is_slices_IndexFunc_nSS S_impl_CertOk_1) (by rintro _ ⟨a, rfl, _⟩; exact Nat.le_of_ble_eq_true rfl) ?_
  rintro _ rm ⟨l, rfl, ⟨hl1, hl2⟩⟩ hl
  conv => whnf
  refine ⟨fun fr H nx rm' => ∃ i : Nat, Has fr [(0, one (nssF l)), (1, fnNoVt), (7, I l.length), (8, I i)] ∧ i ≤ l.length ∧ (∀ x, x ∈ l.take i → VtOk x) ∧ H 0 = none ∧ rm' = rm,
    fun fr _ _ _ => l.length - ix (fr 8), ⟨0, ⟨rfl, rfl, by show I _ = I _; simp, rfl, trivial⟩, Nat.zero_le _, by simp, rfl, rfl⟩, ?_⟩
  rintro fr H nx rm' ⟨i, hfr, hi, hq, hH, rfl⟩
  rw [hfr.eq]
  conv => whnf
  refine ⟨rfl, ?_⟩
  conv => whnf
  refine ⟨fun h2 => ?_, fun h2 => ?_⟩
  · have h2 : i < l.length := by simpa using h2
    obtain ⟨x, hx⟩ : ∃ x, l[i]? = some x := ⟨_, List.getElem?_eq_getElem h2⟩
    have hxm : x ∈ l := List.mem_of_getElem? hx
    conv => whnf
    refine ⟨rfl, i, _, rfl, at_map hx, ?_⟩
    conv => whnf
    refine ⟨_, rfl, ?_⟩
    conv => whnf
    refine ⟨⟨⟨x, rfl, hl2 x hxm⟩, rfl, rfl, v_impl_CertOk_1⟩, hl, fun r hr => ?_⟩
    rcases K_impl_CertOk_1 (a := x) hr.1 with ⟨h3, rfl⟩ | ⟨h3, rfl⟩
    · conv => whnf
      exact ⟨⟨_, rfl, rfl, l, rfl, i, rfl, iff_of_true (Int.natCast_nonneg i) ⟨x, hxm, h3⟩⟩, Nat.le_refl _, hH⟩
    · conv => whnf
      refine ⟨rfl, ?_⟩
      conv => whnf
      refine ⟨⟨i + 1, ⟨rfl, rfl, rfl, congrArg I (wrap_up h2 hl1), trivial⟩, h2, ?_, hH, rfl⟩, ?_⟩
      · intro y hy
        rcases (mem_take_succ hx).1 hy with hy | rfl
        · exact hq y hy
        · exact Classical.not_not.1 h3
      · show l.length - ix (I _) < l.length - ix (I _)
        simp only [wrap_up h2 hl1, ix, Int.toNat_natCast]
        omega
  · conv => whnf
    refine ⟨⟨_, rfl, rfl, l, rfl, -1, rfl, iff_of_false (by decide) ?_⟩, Nat.le_refl _, hH⟩
    have h2 : l.length ≤ i := by simpa using h2
    rw [List.take_of_length_le h2] at hq
    rintro ⟨x, hx, hn⟩
    exact hn (hq x hx)
theorem v_slices_ContainsFunc_nSS : Valid Try.prog n_slices_ContainsFunc_nSS S_slices_ContainsFunc_nSS := by
  refine valid_of_swp mixed is_slices_ContainsFunc_nSS (by rintro _ ⟨a, rfl, _⟩; exact Nat.le_of_ble_eq_true rfl) ?_
  rintro _ rm ⟨l, rfl, hfit⟩ hl
  conv => whnf
  refine ⟨⟨l, rfl, hfit⟩, v_slices_IndexFunc_nSS, .inl rfl, hl, fun r hr => ?_⟩
  obtain ⟨k, rfl, hk⟩ := K_slices_IndexFunc_nSS (a := l) hr
  conv => whnf
  refine ⟨rfl, ?_⟩
  conv => whnf
  refine ⟨fun h => ?_, fun h => ?_⟩
  · conv => whnf
    exact ⟨⟨_, rfl, rfl, l, rfl, congrArg B (tb_pos (hk.1 h)).symm⟩, Nat.le_refl _, rfl⟩
  · conv => whnf
    exact ⟨⟨_, rfl, rfl, l, rfl, congrArg B (tb_neg fun q => absurd (hk.2 q) (Int.not_le.2 h)).symm⟩, Nat.le_refl _, rfl⟩
theorem certOk_iff {c : Ce} (h3 : 3 ≤ c.c.length) : CertOk c ↔ ChainOk c.c ∧ finIn c.c = c.c.length - 1 ∧ c.b.length = 3 ∧ ¬ ∃ x, x ∈ c.b ∧ ¬ VtOk x := by
  unfold CertOk
  rw [fin_last h3]
  constructor
  · rintro ⟨h1, _, h4, h5, h6⟩; exact ⟨h1, h4, h5, fun ⟨x, hx, hn⟩ => hn (h6 x hx)⟩
  · rintro ⟨h1, h4, h5, h6⟩; exact ⟨h1, h3, h4, h5, fun x hx => Classical.not_not.1 fun hn => h6 ⟨x, hx, hn⟩⟩
set_option maxHeartbeats 4000000 in
set_option maxRecDepth 100000 in
theorem v_impl_CertOk : Valid Try.prog n_impl_CertOk S_impl_CertOk := by
  refine valid_of_swp mixed is_impl_CertOk (by rintro _ ⟨a, rfl, _⟩; exact Nat.le_of_ble_eq_true rfl) ?_
  rintro _ rm ⟨c, rfl, hpre⟩ hl
  try dsimp only at hpre
  have hpre0 := hpre
  have hp1 := hpre
  have cc_slices_ContainsFunc_nSS : S_slices_ContainsFunc_nSS.cost = 0 := rfl
  have hfc := hp1.1
  have hfb := hp1.2
  have hL := hfc
  simp only [LIM] at hL
  by_cases h3 : 3 ≤ c.c.length
  · have hw : IntKind.i64.wrap ((c.c.length : Int) - 1) = ((c.c.length - 1 : Nat) : Int) := by rw [wrap64] <;> omega
    have hiff := certOk_iff h3
    repeat' ((conv => whnf); first
      | (refine callt (b := [one (nssF _), fnNoVt]) v_slices_ContainsFunc_nSS rfl ⟨_, rfl, hfb⟩ (.inl rfl) (by first | assumption | omega) (fun r hr => K_slices_ContainsFunc_nSS hr) (fun hj => ?_) (fun hj => ?_))
      | refine ⟨_, rfl, ?_⟩
      | refine ⟨rfl, ?_⟩
      | refine ⟨_, ldc_cells hupd_at (Nat.le_of_ble_eq_true rfl), ?_⟩
      | refine ⟨_, ldc_cells (by first | assumption | exact zk ‹_› (by omega) | exact zk (zk ‹_› (by omega)) (by omega)) (Nat.le_of_ble_eq_true rfl), ?_⟩
      | (refine ⟨fun hc => ?_, fun hc => ?_⟩ <;> (try simp (disch := omega) only [List.length_map, wrap64] at hc))
      | (refine callt (b := [one (chF _)]) v_impl_ChainOk rfl ⟨_, rfl, (by exact pr_)⟩ (.inl rfl) (by first | assumption | omega) (fun r hr => K_impl_ChainOk (a := _) hr) (fun hj => ?_) (fun hj => ?_) <;> (try simp only [etaPa, etaIt, etaVo] at hj))
      | (refine calle (b := [one (chF _)]) v_impl_final rfl ⟨_, rfl, (by exact pr_)⟩ (.inl rfl) (by first | assumption | omega) (fun r hr => K_impl_final (a := _) hr) ?_)
      | exact ⟨⟨_, rfl, rfl, c, rfl, (by refine congrArg B (Eq.symm (tb_pos ?_)); (try dsimp only); first | done | exact absurd True.intro hj | ((rw [hiff]; first | exact ⟨by assumption, by omega, by omega, by assumption⟩ | (rintro ⟨q1, q2, q3, q4⟩; first | contradiction | omega | exact q4 hj))))⟩, (by first | exact Nat.le_refl _ | omega), (by exact h0_)⟩
      | exact ⟨⟨_, rfl, rfl, c, rfl, (by refine congrArg B (Eq.symm (tb_neg ?_)); (try dsimp only); first | done | exact absurd True.intro hj | ((rw [hiff]; first | exact ⟨by assumption, by omega, by omega, by assumption⟩ | (rintro ⟨q1, q2, q3, q4⟩; first | contradiction | omega | exact q4 hj))))⟩, (by first | exact Nat.le_refl _ | omega), (by exact h0_)⟩
      | fail)
  · have hbad : ¬ CertOk c := fun h => h3 h.2.1
    repeat' ((conv => whnf); first
      | refine ⟨_, rfl, ?_⟩
      | refine ⟨rfl, ?_⟩
      | refine ⟨_, ldc_cells hupd_at (Nat.le_of_ble_eq_true rfl), ?_⟩
      | refine ⟨_, ldc_cells (by first | assumption | exact zk ‹_› (by omega) | exact zk (zk ‹_› (by omega)) (by omega)) (Nat.le_of_ble_eq_true rfl), ?_⟩
      | (refine ⟨fun hc => ?_, fun hc => ?_⟩ <;> (try simp (disch := omega) only [List.length_map, wrap64] at hc) <;> (try (exfalso; first | contradiction | omega)))
      | (refine callt (b := [one (chF _)]) v_impl_ChainOk rfl ⟨_, rfl, (by exact pr_)⟩ (.inl rfl) (by first | assumption | omega) (fun r hr => K_impl_ChainOk (a := _) hr) (fun hj => ?_) (fun hj => ?_) <;> (try simp only [etaPa, etaIt, etaVo] at hj) <;> (try contradiction))
      | (refine calle (b := [one (chF _)]) v_impl_final rfl ⟨_, rfl, (by exact pr_)⟩ (.inl rfl) (by first | assumption | omega) (fun r hr => K_impl_final (a := _) hr) ?_)
      | exact ⟨⟨_, rfl, rfl, c, rfl, (by refine congrArg B (Eq.symm (tb_pos ?_)); (try dsimp only); first | done | exact absurd True.intro hj | (exact hbad))⟩, (by first | exact Nat.le_refl _ | omega), (by exact h0_)⟩
      | exact ⟨⟨_, rfl, rfl, c, rfl, (by refine congrArg B (Eq.symm (tb_neg ?_)); (try dsimp only); first | done | exact absurd True.intro hj | (exact hbad))⟩, (by first | exact Nat.le_refl _ | omega), (by exact h0_)⟩
      | fail)
set_option maxHeartbeats 4000000 in
set_option maxRecDepth 100000 in
theorem v_spec_CertOk : Valid Try.prog n_spec_CertOk S_spec_CertOk := by
  refine valid_of_swp mixed is_spec_CertOk (by rintro _ ⟨a, rfl, _⟩; exact Nat.le_of_ble_eq_true rfl) ?_
  rintro _ rm ⟨c, rfl, hpre⟩ hl
  try dsimp only at hpre
  have hpre0 := hpre
  have hp1 := hpre
  have hfc := hp1.1
  have hfb := hp1.2
  have hL := hfc
  simp only [LIM] at hL
  by_cases h3 : 3 ≤ c.c.length ∧ c.b.length = 3 ∧ ChainOk c.c
  · obtain ⟨h3, h4, h5⟩ := h3
    have w3 : IntKind.i64.wrap (((c.c.map itF).length : Int) - 3) = ((c.c.length - 3 : Nat) : Int) := by rw [List.length_map, wrap64] <;> omega
    have w2 : IntKind.i64.wrap (((c.c.map itF).length : Int) - 2) = ((c.c.length - 3 + 1 : Nat) : Int) := by rw [List.length_map, wrap64] <;> omega
    have w1 : IntKind.i64.wrap (((c.c.map itF).length : Int) - 1) = ((c.c.length - 3 + 2 : Nat) : Int) := by rw [List.length_map, wrap64] <;> omega
    obtain ⟨x, hx⟩ : ∃ x, c.c[c.c.length - 3]? = some x := ⟨_, List.getElem?_eq_getElem (by omega)⟩
    obtain ⟨y, hy⟩ : ∃ x, c.c[c.c.length - 3 + 1]? = some x := ⟨_, List.getElem?_eq_getElem (by omega)⟩
    obtain ⟨z, hz⟩ : ∃ x, c.c[c.c.length - 3 + 2]? = some x := ⟨_, List.getElem?_eq_getElem (by omega)⟩
    have hcon := con3_iff hx hy hz
    repeat' ((conv => whnf); first
      | refine ⟨_, rfl, ?_⟩
      | refine ⟨rfl, ?_⟩
      | refine ⟨_, _, rfl, at_map (by assumption), ?_⟩
      | refine idx_mapX (i := 0) rfl (by assumption) ?_
      | refine idx_map (by omega) (fun x hx => ?_)
      | refine idx_mapX (wrap_dn (by omega) (by omega)) (by assumption) ?_
      | refine idx_mapE (wrap_dn (by omega) (by omega)) (by omega) (fun x hx => ?_)
      | refine idx_mapL (by omega) (by first | assumption | (simp only [LIM]; omega)) (fun x hx => ?_)
      | refine idx_mapI (by omega) (by first | omega | (simp only [List.length_map] at *; omega)) (fun x hx => ?_)
      | refine ⟨_, ldc_cells hupd_at (Nat.le_of_ble_eq_true rfl), ?_⟩
      | refine ⟨_, ldc_cells (by first | assumption | exact zk ‹_› (by omega) | exact zk (zk ‹_› (by omega)) (by omega)) (Nat.le_of_ble_eq_true rfl), ?_⟩
      | (refine ⟨fun hc => ?_, fun hc => ?_⟩ <;> (try simp (disch := omega) only [List.length_map, wrap64] at hc) <;> (try (exfalso; first | contradiction | omega)))
      | (refine callt (b := [one (chF _)]) v_spec_ChainOk rfl ⟨_, rfl, (by exact pr_)⟩ (.inl rfl) (by first | assumption | omega) (fun r hr => K_spec_ChainOk (a := _) hr) (fun hj => ?_) (fun hj => ?_) <;> (try simp only [etaPa, etaIt, etaVo] at hj) <;> (try contradiction))
      | fail)
    conv => whnf
    refine ⟨fun fr H nx rm' => ∃ (i : Nat), Has fr [(1, .w (.o (.ptr 1 0))), (3, I (c.c.map itF).length), (4, I i)] ∧ i ≤ 3 ∧ (∀ j b, j < i → c.b[j]? = some b → VtOk b) ∧ H 1 = some (.cells ((ceF c).map AC.c)) ∧ 1 ≤ nx ∧ H 0 = none ∧ rm' = rm,
      fun fr _ _ _ => 3 - ix (fr 4), ⟨0, ⟨(by first | rfl | (show I _ = I _; simp)), (by first | rfl | (show I _ = I _; simp)), (by first | rfl | (show I _ = I _; simp)), trivial⟩, Nat.zero_le _, (by intro j b h; omega), rfl, (by first | decide | omega), (by exact h0_), rfl⟩, ?_⟩
    rintro fr H nx rm' ⟨i, hfr, hi, hq, hH1, hnx, hH, rfl⟩
    rw [hfr.eq]
    rcases Nat.lt_or_ge i 3 with hi' | hi'
    · obtain ⟨b, hb⟩ : ∃ x, c.b[i]? = some x := ⟨_, List.getElem?_eq_getElem (by omega)⟩
      have hbl := hp1.b hb
      by_cases hv : VtOk b
      · skip
        repeat' ((conv => whnf); first
          | refine ⟨_, _, rfl, at_map hb, ?_⟩
          | refine ⟨_, rfl, ?_⟩
          | refine ⟨rfl, ?_⟩
          | refine ⟨_, _, rfl, at_map (by assumption), ?_⟩
          | refine idx_mapX (i := 0) rfl (by assumption) ?_
          | refine idx_map (by omega) (fun x hx => ?_)
          | refine idx_mapX (wrap_dn (by omega) (by omega)) (by assumption) ?_
          | refine idx_mapE (wrap_dn (by omega) (by omega)) (by omega) (fun x hx => ?_)
          | refine idx_mapL (by omega) (by first | assumption | (simp only [LIM]; omega)) (fun x hx => ?_)
          | refine idx_mapI (by omega) (by first | omega | (simp only [List.length_map] at *; omega)) (fun x hx => ?_)
          | refine ⟨_, ldc_cells hupd_at (Nat.le_of_ble_eq_true rfl), ?_⟩
          | refine ⟨_, ldc_cells (by first | assumption | exact zk ‹_› (by omega) | exact zk (zk ‹_› (by omega)) (by omega)) (Nat.le_of_ble_eq_true rfl), ?_⟩
          | (refine ⟨fun hc => ?_, fun hc => ?_⟩ <;> (try simp (disch := omega) only [List.length_map, wrap64] at hc) <;> (try (exfalso; first | contradiction | omega)))
          | (refine callt (b := [one (nsF _)]) v_spec_l13By rfl ⟨_, rfl, (by exact pr_)⟩ (.inl rfl) (by first | assumption | omega) (fun r hr => K_spec_l13By (a := _) hr) (fun hj => ?_) (fun hj => ?_) <;> (try simp only [etaPa, etaIt, etaVo] at hj) <;> (try contradiction))
          | (refine ⟨⟨i + 1, ⟨rfl, rfl, congrArg I (wrap_up (n := 3) (by omega) (by decide)), trivial⟩, (by omega), (by intro j b hj' hb'; rcases Nat.lt_or_ge j i with h | h; exact hq j b h hb'; have e : j = i := (by omega); rw [e] at hb'; rw [hb] at hb'; cases hb'; exact hv), (by first | assumption | exact zk ‹_› (by omega)), (by omega), (by exact h0_), rfl⟩, ?_⟩; show 3 - ix (I _) < 3 - ix (I _); simp only [wrap_up (n := 3) (i := i) (by omega) (by decide), ix, Int.toNat_natCast]; omega)
          | fail)
      · have hbad : ¬ CertOk c := fun h => hv (h.2.2.2.2 b (List.mem_of_getElem? hb))
        repeat' ((conv => whnf); first
          | refine ⟨_, _, rfl, at_map hb, ?_⟩
          | refine ⟨_, rfl, ?_⟩
          | refine ⟨rfl, ?_⟩
          | refine ⟨_, _, rfl, at_map (by assumption), ?_⟩
          | refine idx_mapX (i := 0) rfl (by assumption) ?_
          | refine idx_map (by omega) (fun x hx => ?_)
          | refine idx_mapX (wrap_dn (by omega) (by omega)) (by assumption) ?_
          | refine idx_mapE (wrap_dn (by omega) (by omega)) (by omega) (fun x hx => ?_)
          | refine idx_mapL (by omega) (by first | assumption | (simp only [LIM]; omega)) (fun x hx => ?_)
          | refine idx_mapI (by omega) (by first | omega | (simp only [List.length_map] at *; omega)) (fun x hx => ?_)
          | refine ⟨_, ldc_cells hupd_at (Nat.le_of_ble_eq_true rfl), ?_⟩
          | refine ⟨_, ldc_cells (by first | assumption | exact zk ‹_› (by omega) | exact zk (zk ‹_› (by omega)) (by omega)) (Nat.le_of_ble_eq_true rfl), ?_⟩
          | (refine ⟨fun hc => ?_, fun hc => ?_⟩ <;> (try simp (disch := omega) only [List.length_map, wrap64] at hc) <;> (try (exfalso; first | contradiction | omega)))
          | (refine callt (b := [one (nsF _)]) v_spec_l13By rfl ⟨_, rfl, (by exact pr_)⟩ (.inl rfl) (by first | assumption | omega) (fun r hr => K_spec_l13By (a := _) hr) (fun hj => ?_) (fun hj => ?_) <;> (try simp only [etaPa, etaIt, etaVo] at hj) <;> (try contradiction))
          | (refine ⟨⟨i + 1, ⟨rfl, rfl, congrArg I (wrap_up (n := 3) (by omega) (by decide)), trivial⟩, (by omega), (by intro j b hj' hb'; rcases Nat.lt_or_ge j i with h | h; exact hq j b h hb'; have e : j = i := (by omega); rw [e] at hb'; rw [hb] at hb'; cases hb'; exact hv), (by first | assumption | exact zk ‹_› (by omega)), (by omega), (by exact h0_), rfl⟩, ?_⟩; show 3 - ix (I _) < 3 - ix (I _); simp only [wrap_up (n := 3) (i := i) (by omega) (by decide), ix, Int.toNat_natCast]; omega)
          | exact ⟨⟨_, rfl, rfl, c, rfl, (by refine congrArg B (Eq.symm (tb_pos ?_)); (try dsimp only); first | done | exact absurd True.intro hj | (exact hbad))⟩, (by first | exact Nat.le_refl _ | omega), (by exact h0_)⟩
          | exact ⟨⟨_, rfl, rfl, c, rfl, (by refine congrArg B (Eq.symm (tb_neg ?_)); (try dsimp only); first | done | exact absurd True.intro hj | (exact hbad))⟩, (by first | exact Nat.le_refl _ | omega), (by exact h0_)⟩
          | fail)
    · have hall : ∀ b, b ∈ c.b → VtOk b := by
        intro b hb
        obtain ⟨j, hj⟩ := List.mem_iff_getElem?.1 hb
        exact hq j b (by have := (List.getElem?_eq_some_iff.1 hj).1; omega) hj
      have hiff : CertOk c ↔ Nxt x.e y.e ∧ Nxt y.e z.e := by
        rw [← hcon]
        exact ⟨fun h => h.2.2.1, fun h => ⟨h5, h3, h, h4, hall⟩⟩
      repeat' ((conv => whnf); first
        | refine idx_mapX w3 hx ?_
        | refine idx_mapX w2 hy ?_
        | refine idx_mapX w1 hz ?_
        | refine ⟨_, rfl, ?_⟩
        | refine ⟨rfl, ?_⟩
        | refine ⟨_, _, rfl, at_map (by assumption), ?_⟩
        | refine idx_mapX (i := 0) rfl (by assumption) ?_
        | refine idx_map (by omega) (fun x hx => ?_)
        | refine idx_mapX (wrap_dn (by omega) (by omega)) (by assumption) ?_
        | refine idx_mapE (wrap_dn (by omega) (by omega)) (by omega) (fun x hx => ?_)
        | refine idx_mapL (by omega) (by first | assumption | (simp only [LIM]; omega)) (fun x hx => ?_)
        | refine idx_mapI (by omega) (by first | omega | (simp only [List.length_map] at *; omega)) (fun x hx => ?_)
        | refine ⟨_, ldc_cells hupd_at (Nat.le_of_ble_eq_true rfl), ?_⟩
        | refine ⟨_, ldc_cells (by first | assumption | exact zk ‹_› (by omega) | exact zk (zk ‹_› (by omega)) (by omega)) (Nat.le_of_ble_eq_true rfl), ?_⟩
        | (refine ⟨fun hc => ?_, fun hc => ?_⟩ <;> (try simp (disch := omega) only [List.length_map, wrap64] at hc) <;> (try (exfalso; first | contradiction | omega)))
        | (refine ⟨⟨i + 1, ⟨rfl, rfl, congrArg I (wrap_up (n := 3) (by omega) (by decide)), trivial⟩, (by omega), (by intro j b hj' hb'; rcases Nat.lt_or_ge j i with h | h; exact hq j b h hb'; have e : j = i := (by omega); rw [e] at hb'; rw [hb] at hb'; cases hb'; exact hv), (by first | assumption | exact zk ‹_› (by omega)), (by omega), (by exact h0_), rfl⟩, ?_⟩; show 3 - ix (I _) < 3 - ix (I _); simp only [wrap_up (n := 3) (i := i) (by omega) (by decide), ix, Int.toNat_natCast]; omega)
        | exact ⟨⟨_, rfl, rfl, c, rfl, (by refine congrArg B (Eq.symm (tb_pos ?_)); (try dsimp only); first | done | exact absurd True.intro hj | ((rw [hiff]; first | exact ⟨by assumption, by assumption⟩ | exact fun q => hc q.1 | exact fun q => hc q.2)))⟩, (by first | exact Nat.le_refl _ | omega), (by exact h0_)⟩
        | exact ⟨⟨_, rfl, rfl, c, rfl, (by refine congrArg B (Eq.symm (tb_neg ?_)); (try dsimp only); first | done | exact absurd True.intro hj | ((rw [hiff]; first | exact ⟨by assumption, by assumption⟩ | exact fun q => hc q.1 | exact fun q => hc q.2)))⟩, (by first | exact Nat.le_refl _ | omega), (by exact h0_)⟩
        | fail)
  · have hbad : ¬ CertOk c := fun h => h3 ⟨h.2.1, h.2.2.2.1, h.1⟩
    repeat' ((conv => whnf); first
      | refine ⟨_, rfl, ?_⟩
      | refine ⟨rfl, ?_⟩
      | refine ⟨_, _, rfl, at_map (by assumption), ?_⟩
      | refine idx_mapX (i := 0) rfl (by assumption) ?_
      | refine idx_map (by omega) (fun x hx => ?_)
      | refine idx_mapX (wrap_dn (by omega) (by omega)) (by assumption) ?_
      | refine idx_mapE (wrap_dn (by omega) (by omega)) (by omega) (fun x hx => ?_)
      | refine idx_mapL (by omega) (by first | assumption | (simp only [LIM]; omega)) (fun x hx => ?_)
      | refine idx_mapI (by omega) (by first | omega | (simp only [List.length_map] at *; omega)) (fun x hx => ?_)
      | refine ⟨_, ldc_cells hupd_at (Nat.le_of_ble_eq_true rfl), ?_⟩
      | refine ⟨_, ldc_cells (by first | assumption | exact zk ‹_› (by omega) | exact zk (zk ‹_› (by omega)) (by omega)) (Nat.le_of_ble_eq_true rfl), ?_⟩
      | (refine ⟨fun hc => ?_, fun hc => ?_⟩ <;> (try simp (disch := omega) only [List.length_map, wrap64] at hc) <;> (try (exfalso; first | contradiction | omega)))
      | (refine callt (b := [one (chF _)]) v_spec_ChainOk rfl ⟨_, rfl, (by exact pr_)⟩ (.inl rfl) (by first | assumption | omega) (fun r hr => K_spec_ChainOk (a := _) hr) (fun hj => ?_) (fun hj => ?_) <;> (try simp only [etaPa, etaIt, etaVo] at hj) <;> (try contradiction))
      | (refine ⟨⟨i + 1, ⟨rfl, rfl, congrArg I (wrap_up (n := 3) (by omega) (by decide)), trivial⟩, (by omega), (by intro j b hj' hb'; rcases Nat.lt_or_ge j i with h | h; exact hq j b h hb'; have e : j = i := (by omega); rw [e] at hb'; rw [hb] at hb'; cases hb'; exact hv), (by first | assumption | exact zk ‹_› (by omega)), (by omega), (by exact h0_), rfl⟩, ?_⟩; show 3 - ix (I _) < 3 - ix (I _); simp only [wrap_up (n := 3) (i := i) (by omega) (by decide), ix, Int.toNat_natCast]; omega)
      | exact ⟨⟨_, rfl, rfl, c, rfl, (by refine congrArg B (Eq.symm (tb_pos ?_)); (try dsimp only); first | done | exact absurd True.intro hj | (first | exact hbad | (exfalso; exact h3 ⟨by omega, by omega, by assumption⟩)))⟩, (by first | exact Nat.le_refl _ | omega), (by exact h0_)⟩
      | exact ⟨⟨_, rfl, rfl, c, rfl, (by refine congrArg B (Eq.symm (tb_neg ?_)); (try dsimp only); first | done | exact absurd True.intro hj | (first | exact hbad | (exfalso; exact h3 ⟨by omega, by omega, by assumption⟩)))⟩, (by first | exact Nat.le_refl _ | omega), (by exact h0_)⟩
      | (exfalso; exact h3 ⟨by omega, by omega, by assumption⟩)
      | fail)
set_option maxHeartbeats 4000000 in
set_option maxRecDepth 100000 in
theorem v_impl_Cert_prefix : Valid Try.prog n_impl_Cert_prefix S_impl_Cert_prefix := by
  refine valid_of_swp mixed is_impl_Cert_prefix (by rintro _ ⟨a, rfl, _⟩; exact Nat.le_of_ble_eq_true rfl) ?_
  rintro _ rm ⟨⟨c, k⟩, rfl, hpre⟩ hl
  try dsimp only at hpre
  have hpre0 := hpre
  obtain ⟨hp1, hp2, hp3, hp4⟩ := hpre
  have hfc := hp1.1
  have hL := hfc
  simp only [LIM] at hL
  have hw : IntKind.i64.wrap (IntKind.i64.wrap (IntKind.i64.wrap (((c.c.map itF).length : Int) - 3) + 1) + k) = ((c.c.length - 2 + k.toNat : Nat) : Int) := by
    rw [List.length_map, wrap64 (n := (c.c.length : Int) - 3) (by omega) (by omega), wrap64 (n := (c.c.length : Int) - 3 + 1) (by omega) (by omega), wrap64] <;> omega
  repeat' ((conv => whnf); first
    | (refine ⟨_, slc_to (congrArg I hw) (by simp only [List.length_map]; omega), ?_⟩; rw [map_take'])
    | refine ⟨_, rfl, ?_⟩
    | refine ⟨rfl, ?_⟩
    | refine ⟨_, ldc_cells hupd_at (Nat.le_of_ble_eq_true rfl), ?_⟩
    | refine ⟨_, ldc_cells (by first | assumption | exact zk ‹_› (by omega) | exact zk (zk ‹_› (by omega)) (by omega)) (Nat.le_of_ble_eq_true rfl), ?_⟩
    | (refine ⟨fun hc => ?_, fun hc => ?_⟩ <;> (try simp (disch := omega) only [List.length_map, wrap64] at hc))
    | (refine ⟨_, slc_to rfl (by first | omega | (simp only [List.length_map] at *; omega)), ?_⟩; rw [map_take'])
    | (refine ⟨_, slc_toI rfl (by omega) (by first | omega | (simp only [List.length_map] at *; omega)), ?_⟩; rw [map_take'])
    | exact ⟨⟨_, rfl, rfl, (c, k), rfl, rfl⟩, (by first | exact Nat.le_refl _ | omega), (by exact h0_)⟩
    | exact ⟨⟨_, rfl, rfl, (c, k), rfl, (by refine congrArg one (?_ : (_ : FV) = _); (try dsimp only); first | done | exact absurd True.intro hj | (rfl))⟩, (by first | exact Nat.le_refl _ | omega), (by exact h0_)⟩
    | exact ⟨⟨[.o (.c _)], congrArg (fun x => some [AW.o x]) (bor_ow (by exact hk_) (by first | rfl | (exact fcellss_c _))), rfl, (c, k), rfl, (by first | rfl | (refine congrArg one (?_ : (_ : FV) = _); (try dsimp only); first | done | exact absurd True.intro hj | (rfl)))⟩, (by first | exact Nat.le_refl _ | omega), (by exact h0_)⟩
    | fail)
set_option maxHeartbeats 4000000 in
set_option maxRecDepth 100000 in
theorem v_impl_CertFinal : Valid Try.prog n_impl_CertFinal S_impl_CertFinal := by
  refine valid_of_swp mixed is_impl_CertFinal (by rintro _ ⟨a, rfl, _⟩; exact Nat.le_of_ble_eq_true rfl) ?_
  rintro _ rm ⟨c, rfl, hpre⟩ hl
  try dsimp only at hpre
  have hpre0 := hpre
  have hp1 := hpre
  have hfc := hp1.1
  have hL := hfc
  simp only [LIM] at hL
  by_cases hok : CertOk c
  · have h3 := hok.2.1
    have hw : IntKind.i64.wrap (((c.c.map itF).length : Int) - 1) = ((c.c.length - 1 : Nat) : Int) := by rw [List.length_map, wrap64] <;> omega
    have e := certFin_ok hok
    repeat' ((conv => whnf); first
      | (refine ⟨_, slc_to (congrArg I hw) (by simp only [List.length_map]; omega), ?_⟩; rw [map_take'])
      | refine ⟨_, rfl, ?_⟩
      | refine ⟨rfl, ?_⟩
      | refine ⟨_, ldc_cells hupd_at (Nat.le_of_ble_eq_true rfl), ?_⟩
      | refine ⟨_, ldc_cells (by first | assumption | exact zk ‹_› (by omega) | exact zk (zk ‹_› (by omega)) (by omega)) (Nat.le_of_ble_eq_true rfl), ?_⟩
      | (refine ⟨fun hc => ?_, fun hc => ?_⟩ <;> (try simp (disch := omega) only [List.length_map, wrap64] at hc) <;> (try (exfalso; first | contradiction | omega)))
      | (refine ⟨_, slc_to rfl (by first | omega | (simp only [List.length_map] at *; omega)), ?_⟩; rw [map_take'])
      | (refine ⟨_, slc_toI rfl (by omega) (by first | omega | (simp only [List.length_map] at *; omega)), ?_⟩; rw [map_take'])
      | (refine callt (b := [agg (ceF ⟨_, _⟩)]) v_impl_CertOk rfl ⟨⟨_, _⟩, rfl, (by exact pr_)⟩ (.inl rfl) (by first | assumption | omega) (fun r hr => K_impl_CertOk (a := ⟨_, _⟩) hr) (fun hj => ?_) (fun hj => ?_) <;> (try simp only [etaPa, etaIt, etaVo] at hj) <;> (try contradiction))
      | (refine calle (b := [one (chF _)]) v_impl_copied rfl ⟨_, rfl, (by exact pr_)⟩ (.inl rfl) (by first | assumption | omega) (fun r hr => K_impl_copied (a := _) hr) ?_)
      | exact ⟨⟨_, rfl, rfl, c, rfl, rfl⟩, (by first | exact Nat.le_refl _ | omega), (by exact h0_)⟩
      | exact ⟨⟨_, rfl, rfl, c, rfl, (by refine congrArg one (?_ : (_ : FV) = _); (try dsimp only); first | done | exact absurd True.intro hj | (rw [e]))⟩, (by first | exact Nat.le_refl _ | omega), (by exact h0_)⟩
      | exact ⟨⟨[.o (.c _)], congrArg (fun x => some [AW.o x]) (bor_ow (by exact hk_) (by first | rfl | (exact fcellss_c _))), rfl, c, rfl, (by first | rfl | (refine congrArg one (?_ : (_ : FV) = _); (try dsimp only); first | done | exact absurd True.intro hj | (rw [e])))⟩, (by first | exact Nat.le_refl _ | omega), (by exact h0_)⟩
      | fail)
  · have e := certFin_no hok
    repeat' ((conv => whnf); first
      | refine ⟨_, rfl, ?_⟩
      | refine ⟨rfl, ?_⟩
      | refine ⟨_, ldc_cells hupd_at (Nat.le_of_ble_eq_true rfl), ?_⟩
      | refine ⟨_, ldc_cells (by first | assumption | exact zk ‹_› (by omega) | exact zk (zk ‹_› (by omega)) (by omega)) (Nat.le_of_ble_eq_true rfl), ?_⟩
      | (refine ⟨fun hc => ?_, fun hc => ?_⟩ <;> (try simp (disch := omega) only [List.length_map, wrap64] at hc) <;> (try (exfalso; first | contradiction | omega)))
      | (refine ⟨_, slc_to rfl (by first | omega | (simp only [List.length_map] at *; omega)), ?_⟩; rw [map_take'])
      | (refine ⟨_, slc_toI rfl (by omega) (by first | omega | (simp only [List.length_map] at *; omega)), ?_⟩; rw [map_take'])
      | (refine callt (b := [agg (ceF ⟨_, _⟩)]) v_impl_CertOk rfl ⟨⟨_, _⟩, rfl, (by exact pr_)⟩ (.inl rfl) (by first | assumption | omega) (fun r hr => K_impl_CertOk (a := ⟨_, _⟩) hr) (fun hj => ?_) (fun hj => ?_) <;> (try simp only [etaPa, etaIt, etaVo] at hj) <;> (try contradiction))
      | (refine calle (b := [one (chF _)]) v_impl_copied rfl ⟨_, rfl, (by exact pr_)⟩ (.inl rfl) (by first | assumption | omega) (fun r hr => K_impl_copied (a := _) hr) ?_)
      | exact ⟨⟨_, rfl, rfl, c, rfl, rfl⟩, (by first | exact Nat.le_refl _ | omega), (by exact h0_)⟩
      | exact ⟨⟨_, rfl, rfl, c, rfl, (by refine congrArg one (?_ : (_ : FV) = _); (try dsimp only); first | done | exact absurd True.intro hj | ((rw [e]; rfl)))⟩, (by first | exact Nat.le_refl _ | omega), (by exact h0_)⟩
      | exact ⟨⟨[.o (.c _)], congrArg (fun x => some [AW.o x]) (bor_ow (by exact hk_) (by first | rfl | (exact fcellss_c _))), rfl, c, rfl, (by first | rfl | (refine congrArg one (?_ : (_ : FV) = _); (try dsimp only); first | done | exact absurd True.intro hj | ((rw [e]; rfl))))⟩, (by first | exact Nat.le_refl _ | omega), (by exact h0_)⟩
      | fail)
set_option maxHeartbeats 4000000 in
set_option maxRecDepth 100000 in
theorem v_spec_CertFinal : Valid Try.prog n_spec_CertFinal S_spec_CertFinal := by
  refine valid_of_swp mixed is_spec_CertFinal (by rintro _ ⟨a, rfl, _⟩; exact Nat.le_of_ble_eq_true rfl) ?_
  rintro _ rm ⟨c, rfl, hpre⟩ hl
  try dsimp only at hpre
  have hpre0 := hpre
  have hp1 := hpre
  have hfc := hp1.1
  have hL := hfc
  simp only [LIM] at hL
  by_cases hok : CertOk c
  · have h3 := hok.2.1
    have hw : IntKind.i64.wrap (((c.c.map itF).length : Int) - 1) = ((c.c.length - 1 : Nat) : Int) := by rw [List.length_map, wrap64] <;> omega
    have e := certFin_ok hok
    repeat' ((conv => whnf); first
      | (refine ⟨_, slc_to (congrArg I hw) (by simp only [List.length_map]; omega), ?_⟩; rw [map_take'])
      | refine ⟨_, rfl, ?_⟩
      | refine ⟨rfl, ?_⟩
      | refine ⟨_, ldc_cells hupd_at (Nat.le_of_ble_eq_true rfl), ?_⟩
      | refine ⟨_, ldc_cells (by first | assumption | exact zk ‹_› (by omega) | exact zk (zk ‹_› (by omega)) (by omega)) (Nat.le_of_ble_eq_true rfl), ?_⟩
      | refine ⟨_, ldc_pa (by exact hk_) (at_mapA (by assumption)) (Nat.le_of_ble_eq_true rfl), ?_⟩
      | refine ⟨_, _, _, ((by exact hk_) : (_ : Option Ob) = _), ?_⟩
      | refine ⟨_, ((by exact hk_) : (_ : Option Ob) = _), ?_⟩
      | (refine ⟨fun hc => ?_, fun hc => ?_⟩ <;> (try simp (disch := omega) only [List.length_map, wrap64] at hc) <;> (try (exfalso; first | contradiction | omega)))
      | (refine ⟨_, slc_to rfl (by first | omega | (simp only [List.length_map] at *; omega)), ?_⟩; rw [map_take'])
      | (refine ⟨_, slc_toI rfl (by omega) (by first | omega | (simp only [List.length_map] at *; omega)), ?_⟩; rw [map_take'])
      | (refine callt (b := [agg (ceF ⟨_, _⟩)]) v_spec_CertOk rfl ⟨⟨_, _⟩, rfl, (by exact pr_)⟩ (.inl rfl) (by first | assumption | omega) (fun r hr => K_spec_CertOk (a := ⟨_, _⟩) hr) (fun hj => ?_) (fun hj => ?_) <;> (try simp only [etaPa, etaIt, etaVo] at hj) <;> (try contradiction))
      | (refine calle (b := [one (chF _)]) v_spec_l1Copy rfl ⟨_, rfl, (by exact pr_)⟩ (.inl rfl) (by first | assumption | omega) (fun r hr => K_spec_l1Copy (a := _) hr) ?_)
      | exact ⟨⟨_, rfl, rfl, c, rfl, rfl⟩, (by first | exact Nat.le_refl _ | omega), (by exact h0_)⟩
      | exact ⟨⟨_, rfl, rfl, c, rfl, (by refine congrArg one (?_ : (_ : FV) = _); (try dsimp only); first | done | exact absurd True.intro hj | (rw [e]))⟩, (by first | exact Nat.le_refl _ | omega), (by exact h0_)⟩
      | exact ⟨⟨[.o (.c _)], congrArg (fun x => some [AW.o x]) (bor_ow (by exact hk_) (by first | rfl | (exact fcellss_c _))), rfl, c, rfl, (by first | rfl | (refine congrArg one (?_ : (_ : FV) = _); (try dsimp only); first | done | exact absurd True.intro hj | (rw [e])))⟩, (by first | exact Nat.le_refl _ | omega), (by exact h0_)⟩
      | fail)
  · have e := certFin_no hok
    repeat' ((conv => whnf); first
      | refine ⟨_, rfl, ?_⟩
      | refine ⟨rfl, ?_⟩
      | refine ⟨_, ldc_cells hupd_at (Nat.le_of_ble_eq_true rfl), ?_⟩
      | refine ⟨_, ldc_cells (by first | assumption | exact zk ‹_› (by omega) | exact zk (zk ‹_› (by omega)) (by omega)) (Nat.le_of_ble_eq_true rfl), ?_⟩
      | refine ⟨_, ldc_pa (by exact hk_) (at_mapA (by assumption)) (Nat.le_of_ble_eq_true rfl), ?_⟩
      | refine ⟨_, _, _, ((by exact hk_) : (_ : Option Ob) = _), ?_⟩
      | refine ⟨_, ((by exact hk_) : (_ : Option Ob) = _), ?_⟩
      | (refine ⟨fun hc => ?_, fun hc => ?_⟩ <;> (try simp (disch := omega) only [List.length_map, wrap64] at hc) <;> (try (exfalso; first | contradiction | omega)))
      | (refine ⟨_, slc_to rfl (by first | omega | (simp only [List.length_map] at *; omega)), ?_⟩; rw [map_take'])
      | (refine ⟨_, slc_toI rfl (by omega) (by first | omega | (simp only [List.length_map] at *; omega)), ?_⟩; rw [map_take'])
      | (refine callt (b := [agg (ceF ⟨_, _⟩)]) v_spec_CertOk rfl ⟨⟨_, _⟩, rfl, (by exact pr_)⟩ (.inl rfl) (by first | assumption | omega) (fun r hr => K_spec_CertOk (a := ⟨_, _⟩) hr) (fun hj => ?_) (fun hj => ?_) <;> (try simp only [etaPa, etaIt, etaVo] at hj) <;> (try contradiction))
      | (refine calle (b := [one (chF _)]) v_spec_l1Copy rfl ⟨_, rfl, (by exact pr_)⟩ (.inl rfl) (by first | assumption | omega) (fun r hr => K_spec_l1Copy (a := _) hr) ?_)
      | exact ⟨⟨_, rfl, rfl, c, rfl, rfl⟩, (by first | exact Nat.le_refl _ | omega), (by exact h0_)⟩
      | exact ⟨⟨_, rfl, rfl, c, rfl, (by refine congrArg one (?_ : (_ : FV) = _); (try dsimp only); first | done | exact absurd True.intro hj | ((rw [e]; rfl)))⟩, (by first | exact Nat.le_refl _ | omega), (by exact h0_)⟩
      | exact ⟨⟨[.o (.c _)], congrArg (fun x => some [AW.o x]) (bor_ow (by exact hk_) (by first | rfl | (exact fcellss_c _))), rfl, c, rfl, (by first | rfl | (refine congrArg one (?_ : (_ : FV) = _); (try dsimp only); first | done | exact absurd True.intro hj | ((rw [e]; rfl))))⟩, (by first | exact Nat.le_refl _ | omega), (by exact h0_)⟩
      | fail)
theorem bs_at {l : List Vo} {c : List It} (h0 : finIn c ≠ 0) {i : Nat} (hi : i < 3) : (certIn l c).b[i]? = some (voters l ((c.take (finIn c + 1)).take ((c.take (finIn c + 1)).length - 2 + (i : Int).toNat))) := by
  have h2 := finIn_two h0
  have hlt := finIn_lt h0
  have hlen : (c.take (finIn c + 1)).length = finIn c + 1 := by simp only [List.length_take]; omega
  rw [hlen, List.take_take, Int.toNat_natCast, Nat.min_eq_left (by omega)]
  match i, hi with
  | 0, _ => simp only [certIn]; rw [show finIn c + 1 - 2 + 0 = finIn c - 1 from by omega]; rfl
  | 1, _ => simp only [certIn]; rw [show finIn c + 1 - 2 + 1 = finIn c from by omega]; rfl
  | 2, _ => simp only [certIn]; rw [show finIn c + 1 - 2 + 2 = finIn c + 1 from by omega]; rfl
theorem bs_snoc {f : List Int → List FV} {b : List (List Int)} {i : Nat} {v : List Int} (h : b[i]? = some v) : (b.take i).map f ++ [f v] = (b.take (i + 1)).map f := by
  rw [List.take_add_one, h]; simp
theorem v_slices_Clip_nSS : Valid Try.prog n_slices_Clip_nSS S_slices_Clip_nSS := by
  refine valid_of_swp mixed is_slices_Clip_nSS (by rintro _ ⟨a, rfl, _⟩; exact Nat.le_of_ble_eq_true rfl) ?_
  rintro _ rm ⟨c, rfl, hc⟩ hl
  conv => whnf
  refine ⟨_, slc_clipS (sz := 1) (xs := c.map fun n => [nsF n]) rfl rfl, ?_⟩
  cases c with
  | nil =>
    conv => whnf
    exact ⟨⟨_, rfl, rfl, [], rfl, rfl⟩, Nat.le_refl _, rfl⟩
  | cons a r =>
    conv => whnf
    exact ⟨⟨_, rfl, rfl, a :: r, rfl, rfl⟩, Nat.le_refl _, rfl⟩
set_option maxHeartbeats 4000000 in
set_option maxRecDepth 100000 in
theorem v_impl_CertOf : Valid Try.prog n_impl_CertOf S_impl_CertOf := by
  refine valid_of_swp mixed is_impl_CertOf (by rintro _ ⟨a, rfl, _⟩; exact Nat.le_of_ble_eq_true rfl) ?_
  rintro _ rm ⟨l, rfl, hpre⟩ hl
  try dsimp only at hpre
  have hpre0 := hpre
  obtain ⟨hp1, hp2⟩ := hpre
  have hfs : (shown l).length ≤ LIM := allS_fits hp1 _ (shown_mem l)
  by_cases hV : VotesOk l
  · rcases Nat.eq_zero_or_pos (finIn (shown l)) with h0 | h0
    · have e1 : certB l = false := tb_neg fun h => h.2 h0
      have e2 : certOf l = noCe := certOf_no e1
      repeat' ((conv => whnf); first
        | refine ⟨_, rfl, ?_⟩
        | refine ⟨rfl, ?_⟩
        | refine ⟨_, ldc_cells hupd_at (Nat.le_of_ble_eq_true rfl), ?_⟩
        | refine ⟨_, ldc_cells (by first | assumption | exact zk ‹_› (by omega) | exact zk (zk ‹_› (by omega)) (by omega)) (Nat.le_of_ble_eq_true rfl), ?_⟩
        | refine ⟨_, _, hupd_at, rfl, rfl, Nat.le_of_ble_eq_true rfl, ?_⟩
        | refine ⟨_, _, rfl, rfl, rfl, Nat.le_of_ble_eq_true rfl, ?_⟩
        | (refine ⟨?_, _, (?_ : (_ : Option Ob) = _), rfl, rfl, ?_, ?_⟩; rotate_left; (exact hk_); exact Nat.le_of_ble_eq_true rfl)
        | refine ⟨_, _, _, _, ((by exact hk_) : (_ : Option Ob) = _), fill_at (by omega), rfl, rfl, Nat.le_of_ble_eq_true rfl, ?_⟩
        | refine ⟨_, _, _, _, ((by exact hk_) : (_ : Option Ob) = _), at_mapA (by assumption), rfl, rfl, Nat.le_of_ble_eq_true rfl, ?_⟩
        | refine ⟨_, ldc_pa (by exact hk_) (at_mapA (by assumption)) (Nat.le_of_ble_eq_true rfl), ?_⟩
        | refine ⟨_, rfl, rfl, _, ((by exact hk_) : (_ : Option Ob) = _), (by exact ap_), ?_⟩
        | refine ⟨_, news_ow hupd_at, newsz_ow hupd_at, _, ((by exact hk_) : (_ : Option Ob) = _), (by exact ap_), ?_⟩
        | refine ⟨_, ((by exact hk_) : (_ : Option Ob) = _), ?_⟩
        | refine ⟨(show _ ≤ _ from (by exact ap_)), ?_⟩
        | (refine ⟨fun hc => ?_, fun hc => ?_⟩ <;> (try simp (disch := omega) only [List.length_map, wrap64] at hc) <;> (try (exfalso; first | contradiction | omega)))
        | (refine ⟨_, slc_to rfl (by first | omega | (simp only [List.length_map] at *; omega)), ?_⟩; rw [map_take'])
        | (refine ⟨_, slc_toI rfl (by omega) (by first | omega | (simp only [List.length_map] at *; omega)), ?_⟩; rw [map_take'])
        | (refine callt (b := [one (vsF _)]) v_impl_VotesOk rfl ⟨_, rfl, (by exact pr_)⟩ (.inl rfl) (by first | assumption | omega) (fun r hr => K_impl_VotesOk (a := _) hr) (fun hj => ?_) (fun hj => ?_) <;> (try simp only [etaPa, etaIt, etaVo] at hj) <;> (try contradiction))
        | (refine calle (b := [one (vsF _)]) v_impl_votes_shown rfl ⟨_, rfl, (by refine ⟨?_, ?_⟩ <;> (exact pr_))⟩ (.inl rfl) (by first | assumption | omega) (fun r hr => K_impl_votes_shown (a := _) hr) ?_)
        | (refine calle (b := [one (chF _)]) v_impl_final rfl ⟨_, rfl, (by exact pr_)⟩ (.inl rfl) (by first | assumption | omega) (fun r hr => K_impl_final (a := _) hr) ?_)
        | exact ⟨⟨_, rfl, rfl, l, rfl, (by unfold R_impl_CertOf; dsimp only; first | done | exact absurd True.intro hj | ((rw [e1, e2]; rfl)))⟩, (by first | exact Nat.le_refl _ | omega), (by exact h0_)⟩
        | fail)
    · have h0' : finIn (shown l) ≠ 0 := by omega
      have e1 : certB l = true := certB_iff.2 ⟨hV, h0'⟩
      have e2 := certOf_yes e1
      have hlt := finIn_lt h0'
      have h2 := finIn_two h0'
      have hL := hfs
      simp only [LIM] at hL
      have hw : IntKind.i64.wrap ((finIn (shown l) : Int) + 1) = ((finIn (shown l) + 1 : Nat) : Int) := by rw [wrap64] <;> omega
      have hcl : ((shown l).take (finIn (shown l) + 1)).length = finIn (shown l) + 1 := by simp only [List.length_take]; omega
      have hfc : ((shown l).take (finIn (shown l) + 1)).length ≤ LIM := by omega
      repeat' ((conv => whnf); first
        | (refine ⟨_, slc_to (congrArg I hw) (by simp only [List.length_map]; omega), ?_⟩; rw [map_take'])
        | refine ⟨_, rfl, ?_⟩
        | refine ⟨rfl, ?_⟩
        | refine ⟨_, ldc_cells hupd_at (Nat.le_of_ble_eq_true rfl), ?_⟩
        | refine ⟨_, ldc_cells (by first | assumption | exact zk ‹_› (by omega) | exact zk (zk ‹_› (by omega)) (by omega)) (Nat.le_of_ble_eq_true rfl), ?_⟩
        | refine ⟨_, _, hupd_at, rfl, rfl, Nat.le_of_ble_eq_true rfl, ?_⟩
        | refine ⟨_, _, rfl, rfl, rfl, Nat.le_of_ble_eq_true rfl, ?_⟩
        | (refine ⟨?_, _, (?_ : (_ : Option Ob) = _), rfl, rfl, ?_, ?_⟩; rotate_left; (exact hk_); exact Nat.le_of_ble_eq_true rfl)
        | refine ⟨_, _, _, _, ((by exact hk_) : (_ : Option Ob) = _), fill_at (by omega), rfl, rfl, Nat.le_of_ble_eq_true rfl, ?_⟩
        | refine ⟨_, _, _, _, ((by exact hk_) : (_ : Option Ob) = _), at_mapA (by assumption), rfl, rfl, Nat.le_of_ble_eq_true rfl, ?_⟩
        | refine ⟨_, ldc_pa (by exact hk_) (at_mapA (by assumption)) (Nat.le_of_ble_eq_true rfl), ?_⟩
        | refine ⟨_, rfl, rfl, _, ((by exact hk_) : (_ : Option Ob) = _), (by exact ap_), ?_⟩
        | refine ⟨_, news_ow hupd_at, newsz_ow hupd_at, _, ((by exact hk_) : (_ : Option Ob) = _), (by exact ap_), ?_⟩
        | refine ⟨_, ((by exact hk_) : (_ : Option Ob) = _), ?_⟩
        | refine ⟨(show _ ≤ _ from (by exact ap_)), ?_⟩
        | (refine ⟨fun hc => ?_, fun hc => ?_⟩ <;> (try simp (disch := omega) only [List.length_map, wrap64] at hc) <;> (try (exfalso; first | contradiction | omega)))
        | (refine ⟨_, slc_to rfl (by first | omega | (simp only [List.length_map] at *; omega)), ?_⟩; rw [map_take'])
        | (refine ⟨_, slc_toI rfl (by omega) (by first | omega | (simp only [List.length_map] at *; omega)), ?_⟩; rw [map_take'])
        | (refine callt (b := [one (vsF _)]) v_impl_VotesOk rfl ⟨_, rfl, (by exact pr_)⟩ (.inl rfl) (by first | assumption | omega) (fun r hr => K_impl_VotesOk (a := _) hr) (fun hj => ?_) (fun hj => ?_) <;> (try simp only [etaPa, etaIt, etaVo] at hj) <;> (try contradiction))
        | (refine calle (b := [one (vsF _)]) v_impl_votes_shown rfl ⟨_, rfl, (by refine ⟨?_, ?_⟩ <;> (exact pr_))⟩ (.inl rfl) (by first | assumption | omega) (fun r hr => K_impl_votes_shown (a := _) hr) ?_)
        | (refine calle (b := [one (chF _)]) v_impl_final rfl ⟨_, rfl, (by exact pr_)⟩ (.inl rfl) (by first | assumption | omega) (fun r hr => K_impl_final (a := _) hr) ?_)
        | (refine calle (b := [one (chF _)]) v_impl_copied rfl ⟨_, rfl, (by exact pr_)⟩ (.inl rfl) (by first | assumption | omega) (fun r hr => K_impl_copied (a := _) hr) ?_)
        | fail)
      refine ⟨_, _, rfl, hupd_at, rfl, ?_⟩
      repeat' ((conv => whnf); first
        | refine ⟨_, rfl, ?_⟩
        | refine ⟨rfl, ?_⟩
        | refine ⟨_, ldc_cells hupd_at (Nat.le_of_ble_eq_true rfl), ?_⟩
        | refine ⟨_, ldc_cells (by first | assumption | exact zk ‹_› (by omega) | exact zk (zk ‹_› (by omega)) (by omega)) (Nat.le_of_ble_eq_true rfl), ?_⟩
        | refine ⟨_, _, hupd_at, rfl, rfl, Nat.le_of_ble_eq_true rfl, ?_⟩
        | refine ⟨_, _, rfl, rfl, rfl, Nat.le_of_ble_eq_true rfl, ?_⟩
        | (refine ⟨?_, _, (?_ : (_ : Option Ob) = _), rfl, rfl, ?_, ?_⟩; rotate_left; (exact hk_); exact Nat.le_of_ble_eq_true rfl)
        | refine ⟨_, _, _, _, ((by exact hk_) : (_ : Option Ob) = _), fill_at (by omega), rfl, rfl, Nat.le_of_ble_eq_true rfl, ?_⟩
        | refine ⟨_, _, _, _, ((by exact hk_) : (_ : Option Ob) = _), at_mapA (by assumption), rfl, rfl, Nat.le_of_ble_eq_true rfl, ?_⟩
        | refine ⟨_, ldc_pa (by exact hk_) (at_mapA (by assumption)) (Nat.le_of_ble_eq_true rfl), ?_⟩
        | refine ⟨_, rfl, rfl, _, ((by exact hk_) : (_ : Option Ob) = _), (by exact ap_), ?_⟩
        | refine ⟨_, news_ow hupd_at, newsz_ow hupd_at, _, ((by exact hk_) : (_ : Option Ob) = _), (by exact ap_), ?_⟩
        | refine ⟨_, ((by exact hk_) : (_ : Option Ob) = _), ?_⟩
        | refine ⟨(show _ ≤ _ from (by exact ap_)), ?_⟩
        | (refine ⟨fun hc => ?_, fun hc => ?_⟩ <;> (try simp (disch := omega) only [List.length_map, wrap64] at hc))
        | (refine ⟨_, slc_to rfl (by first | omega | (simp only [List.length_map] at *; omega)), ?_⟩; rw [map_take'])
        | (refine ⟨_, slc_toI rfl (by omega) (by first | omega | (simp only [List.length_map] at *; omega)), ?_⟩; rw [map_take'])
        | fail)
      conv => whnf
      refine ⟨fun fr H nx rm' => ∃ (i : Nat) (k6 kb : Nat), Has fr [(0, one (vsF l)), (2, .w (.o (.ptr 1 0))), (6, .w (.o (.ptr k6 0))), (25, I i)] ∧ i ≤ 3 ∧ (True) ∧ H 1 = some (.cells [.e0, .e0]) ∧ H k6 = some (.cells [.c (chF ((shown l).take (finIn (shown l) + 1))), .tk kb 1 (((certIn l (shown l)).b.take i).map fun n => [nsF n])]) ∧ H kb = some (.tok ty_Sint 1 ((certIn l (shown l)).b.take i).length) ∧ k6 ≠ kb ∧ k6 ≠ 1 ∧ kb ≠ 1 ∧ 1 ≤ k6 ∧ k6 < nx ∧ 1 ≤ kb ∧ kb < nx ∧ 1 ≤ nx ∧ H 0 = none ∧ rm' = rm,
        fun fr _ _ _ => 3 - ix (fr 25), ⟨0, _, _, ⟨(by first | rfl | (show I _ = I _; simp)), (by first | rfl | (show I _ = I _; simp)), (by first | rfl | (show I _ = I _; simp)), (by first | rfl | (show I _ = I _; simp)), trivial⟩, Nat.zero_le _, (by trivial), hk_, hk_, hk_, (by simp only [List.length_cons, List.length_nil]; omega), (by simp only [List.length_cons, List.length_nil]; omega), (by simp only [List.length_cons, List.length_nil]; omega), ln_, ln_, ln_, ln_, (by first | decide | omega), (by exact h0_), rfl⟩, ?_⟩
      rintro fr H nx rm' ⟨i, k6, kb, hfr, hi, hq, hk1, hk6, hkb, hne, hn1, hn2, h61, h6n, hb1, hbn, hnx, hH, rfl⟩
      rw [hfr.eq]
      have hb3 : (certIn l (shown l)).b.length = 3 := rfl
      have hkb' : H kb = some (.tok ty_Sint 1 (((certIn l (shown l)).b.take i).map fun n => [nsF n]).length) := by rw [List.length_map]; exact hkb
      have hq3 : 3 ≤ ((shown l).take (finIn (shown l) + 1)).length := by omega
      have hvl : ∀ c, (voters l c).length ≤ LIM := fun c => Nat.le_trans (List.length_filter_le _ _) (by decide)
      have hfb : FitBs (certIn l (shown l)).b := by
        refine ⟨by rw [hb3]; decide, fun x hx => ?_⟩
        simp only [certIn, List.mem_cons, List.not_mem_nil, or_false] at hx
        rcases hx with rfl | rfl | rfl <;> exact hvl _
      have hfbi : FitBs ((certIn l (shown l)).b.take i) := ⟨by rw [List.length_take]; have := hfb.1; omega, fun x hx => hfb.2 x (List.mem_of_mem_take hx)⟩
      have hfce : FitCe ⟨(shown l).take (finIn (shown l) + 1), (certIn l (shown l)).b.take i⟩ := ⟨hfc, hfbi⟩
      have hbil := hfbi.1
      have hi0 : (0 : Int) ≤ (i : Int) := Int.natCast_nonneg i
      rcases Nat.lt_or_ge i 3 with hi' | hi'
      · have hi2 : (i : Int) ≤ 2 := by omega
        repeat' ((conv => whnf); first
          | (refine ⟨_, news_ow hupd_at, newsz_ow hupd_at, _, rfl, hk_, rfl, ap_, ?_⟩)
          | refine ⟨_, rfl, ?_⟩
          | refine ⟨rfl, ?_⟩
          | refine ⟨_, ldc_cells hupd_at (Nat.le_of_ble_eq_true rfl), ?_⟩
          | refine ⟨_, ldc_cells (by first | assumption | exact zk ‹_› (by omega) | exact zk (zk ‹_› (by omega)) (by omega)) (Nat.le_of_ble_eq_true rfl), ?_⟩
          | refine ⟨_, _, hupd_at, rfl, rfl, Nat.le_of_ble_eq_true rfl, ?_⟩
          | refine ⟨_, _, rfl, rfl, rfl, Nat.le_of_ble_eq_true rfl, ?_⟩
          | (refine ⟨?_, _, (?_ : (_ : Option Ob) = _), rfl, rfl, ?_, ?_⟩; rotate_left; (exact hk_); exact Nat.le_of_ble_eq_true rfl)
          | refine ⟨_, _, _, _, ((by exact hk_) : (_ : Option Ob) = _), fill_at (by omega), rfl, rfl, Nat.le_of_ble_eq_true rfl, ?_⟩
          | refine ⟨_, _, _, _, ((by exact hk_) : (_ : Option Ob) = _), at_mapA (by assumption), rfl, rfl, Nat.le_of_ble_eq_true rfl, ?_⟩
          | refine ⟨_, ldc_pa (by exact hk_) (at_mapA (by assumption)) (Nat.le_of_ble_eq_true rfl), ?_⟩
          | refine ⟨_, rfl, rfl, _, ((by exact hk_) : (_ : Option Ob) = _), (by exact ap_), ?_⟩
          | refine ⟨_, news_ow hupd_at, newsz_ow hupd_at, _, ((by exact hk_) : (_ : Option Ob) = _), (by exact ap_), ?_⟩
          | refine ⟨_, ((by exact hk_) : (_ : Option Ob) = _), ?_⟩
          | refine ⟨(show _ ≤ _ from (by exact ap_)), ?_⟩
          | (refine ⟨fun hc => ?_, fun hc => ?_⟩ <;> (try simp (disch := omega) only [List.length_map, wrap64] at hc) <;> (try (exfalso; first | contradiction | omega)))
          | (refine ⟨_, slc_to rfl (by first | omega | (simp only [List.length_map] at *; omega)), ?_⟩; rw [map_take'])
          | (refine ⟨_, slc_toI rfl (by omega) (by first | omega | (simp only [List.length_map] at *; omega)), ?_⟩; rw [map_take'])
          | (refine calle (b := [agg (ceF ⟨_, _⟩), I _]) v_impl_Cert_prefix rfl ⟨(⟨_, _⟩, _), rfl, (by refine ⟨?_, ?_, ?_, ?_⟩ <;> (exact pr_))⟩ (.inl rfl) (by first | assumption | omega) (fun r hr => K_impl_Cert_prefix (a := (⟨_, _⟩, _)) hr) ?_)
          | (refine calle (b := [one (vsF _), one (chF _)]) v_impl_votes_voters rfl ⟨(_, _), rfl, (by refine ⟨?_, ?_⟩ <;> (exact pr_))⟩ (.inl rfl) (by first | assumption | omega) (fun r hr => K_impl_votes_voters (a := (_, _)) hr) ?_)
          | (refine ⟨⟨i + 1, k6, _, ⟨rfl, rfl, rfl, congrArg I (wrap_up (n := 3) (by omega) (by decide)), trivial⟩, (by omega), (by trivial), hk_, (Eq.trans (b := some (.cells [.c _, .tk _ 1 (((certIn l (shown l)).b.take i).map (fun n => [nsF n]) ++ [[nsF _]])])) hk_ (by rw [bs_snoc (f := fun n => [nsF n]) (bs_at h0' hi')])), (Eq.trans (b := some (.tok _ 1 ((((certIn l (shown l)).b.take i).map fun n => [nsF n]).length + 1))) hk_ (by simp only [List.length_map, List.length_take, hb3]; congr 2; omega)), (by simp only [List.length_cons, List.length_nil]; omega), (by omega), (by simp only [List.length_cons, List.length_nil]; omega), (by omega), ln_, (by simp only [List.length_cons, List.length_nil]; omega), ln_, (by omega), (by exact h0_), rfl⟩, ?_⟩; show 3 - ix (I _) < 3 - ix (I _); simp only [wrap_up (n := 3) (i := i) (by omega) (by decide), ix, Int.toNat_natCast]; omega)
          | fail)
      · have hi3 : i = 3 := by omega
        subst hi3
        have e4 : (certIn l (shown l)).b.take 3 = (certIn l (shown l)).b := rfl
        repeat' ((conv => whnf); first
          | refine ⟨_, rfl, ?_⟩
          | refine ⟨rfl, ?_⟩
          | refine ⟨_, ldc_cells hupd_at (Nat.le_of_ble_eq_true rfl), ?_⟩
          | refine ⟨_, ldc_cells (by first | assumption | exact zk ‹_› (by omega) | exact zk (zk ‹_› (by omega)) (by omega)) (Nat.le_of_ble_eq_true rfl), ?_⟩
          | refine ⟨_, _, hupd_at, rfl, rfl, Nat.le_of_ble_eq_true rfl, ?_⟩
          | refine ⟨_, _, rfl, rfl, rfl, Nat.le_of_ble_eq_true rfl, ?_⟩
          | (refine ⟨?_, _, (?_ : (_ : Option Ob) = _), rfl, rfl, ?_, ?_⟩; rotate_left; (exact hk_); exact Nat.le_of_ble_eq_true rfl)
          | refine ⟨_, _, _, _, ((by exact hk_) : (_ : Option Ob) = _), fill_at (by omega), rfl, rfl, Nat.le_of_ble_eq_true rfl, ?_⟩
          | refine ⟨_, _, _, _, ((by exact hk_) : (_ : Option Ob) = _), at_mapA (by assumption), rfl, rfl, Nat.le_of_ble_eq_true rfl, ?_⟩
          | refine ⟨_, ldc_pa (by exact hk_) (at_mapA (by assumption)) (Nat.le_of_ble_eq_true rfl), ?_⟩
          | refine ⟨_, rfl, rfl, _, ((by exact hk_) : (_ : Option Ob) = _), (by exact ap_), ?_⟩
          | refine ⟨_, news_ow hupd_at, newsz_ow hupd_at, _, ((by exact hk_) : (_ : Option Ob) = _), (by exact ap_), ?_⟩
          | refine ⟨_, ((by exact hk_) : (_ : Option Ob) = _), ?_⟩
          | refine ⟨(show _ ≤ _ from (by exact ap_)), ?_⟩
          | (refine ⟨fun hc => ?_, fun hc => ?_⟩ <;> (try simp (disch := omega) only [List.length_map, wrap64] at hc) <;> (try (exfalso; first | contradiction | omega)))
          | (refine ⟨_, slc_to rfl (by first | omega | (simp only [List.length_map] at *; omega)), ?_⟩; rw [map_take'])
          | (refine ⟨_, slc_toI rfl (by omega) (by first | omega | (simp only [List.length_map] at *; omega)), ?_⟩; rw [map_take'])
          | (refine calle (b := [one (nssF _)]) v_slices_Clip_nSS rfl ⟨_, rfl, (by exact pr_)⟩ (.inl rfl) (by first | assumption | omega) (fun r hr => K_slices_Clip_nSS (a := _) hr) ?_)
          | (refine ⟨⟨i + 1, k6, _, ⟨rfl, rfl, rfl, congrArg I (wrap_up (n := 3) (by omega) (by decide)), trivial⟩, (by omega), (by trivial), hk_, (Eq.trans (b := some (.cells [.c _, .tk _ 1 (((certIn l (shown l)).b.take i).map (fun n => [nsF n]) ++ [[nsF _]])])) hk_ (by rw [bs_snoc (f := fun n => [nsF n]) (bs_at h0' hi')])), (Eq.trans (b := some (.tok _ 1 ((((certIn l (shown l)).b.take i).map fun n => [nsF n]).length + 1))) hk_ (by simp only [List.length_map, List.length_take, hb3]; congr 2; omega)), (by simp only [List.length_cons, List.length_nil]; omega), (by omega), (by simp only [List.length_cons, List.length_nil]; omega), (by omega), ln_, (by simp only [List.length_cons, List.length_nil]; omega), ln_, (by omega), (by exact h0_), rfl⟩, ?_⟩; show 3 - ix (I _) < 3 - ix (I _); simp only [wrap_up (n := 3) (i := i) (by omega) (by decide), ix, Int.toNat_natCast]; omega)
          | exact ⟨⟨_, rfl, rfl, l, rfl, (by unfold R_impl_CertOf; dsimp only; first | done | exact absurd True.intro hj | ((rw [e1, e2]; rfl)))⟩, (by first | exact Nat.le_refl _ | omega), (by exact h0_)⟩
          | fail)
  · have e1 : certB l = false := tb_neg fun h => hV h.1
    have e2 : certOf l = noCe := certOf_no e1
    repeat' ((conv => whnf); first
      | refine ⟨_, rfl, ?_⟩
      | refine ⟨rfl, ?_⟩
      | refine ⟨_, ldc_cells hupd_at (Nat.le_of_ble_eq_true rfl), ?_⟩
      | refine ⟨_, ldc_cells (by first | assumption | exact zk ‹_› (by omega) | exact zk (zk ‹_› (by omega)) (by omega)) (Nat.le_of_ble_eq_true rfl), ?_⟩
      | refine ⟨_, _, hupd_at, rfl, rfl, Nat.le_of_ble_eq_true rfl, ?_⟩
      | refine ⟨_, _, rfl, rfl, rfl, Nat.le_of_ble_eq_true rfl, ?_⟩
      | (refine ⟨?_, _, (?_ : (_ : Option Ob) = _), rfl, rfl, ?_, ?_⟩; rotate_left; (exact hk_); exact Nat.le_of_ble_eq_true rfl)
      | refine ⟨_, _, _, _, ((by exact hk_) : (_ : Option Ob) = _), fill_at (by omega), rfl, rfl, Nat.le_of_ble_eq_true rfl, ?_⟩
      | refine ⟨_, _, _, _, ((by exact hk_) : (_ : Option Ob) = _), at_mapA (by assumption), rfl, rfl, Nat.le_of_ble_eq_true rfl, ?_⟩
      | refine ⟨_, ldc_pa (by exact hk_) (at_mapA (by assumption)) (Nat.le_of_ble_eq_true rfl), ?_⟩
      | refine ⟨_, rfl, rfl, _, ((by exact hk_) : (_ : Option Ob) = _), (by exact ap_), ?_⟩
      | refine ⟨_, news_ow hupd_at, newsz_ow hupd_at, _, ((by exact hk_) : (_ : Option Ob) = _), (by exact ap_), ?_⟩
      | refine ⟨_, ((by exact hk_) : (_ : Option Ob) = _), ?_⟩
      | refine ⟨(show _ ≤ _ from (by exact ap_)), ?_⟩
      | (refine ⟨fun hc => ?_, fun hc => ?_⟩ <;> (try simp (disch := omega) only [List.length_map, wrap64] at hc) <;> (try (exfalso; first | contradiction | omega)))
      | (refine ⟨_, slc_to rfl (by first | omega | (simp only [List.length_map] at *; omega)), ?_⟩; rw [map_take'])
      | (refine ⟨_, slc_toI rfl (by omega) (by first | omega | (simp only [List.length_map] at *; omega)), ?_⟩; rw [map_take'])
      | (refine callt (b := [one (vsF _)]) v_impl_VotesOk rfl ⟨_, rfl, (by exact pr_)⟩ (.inl rfl) (by first | assumption | omega) (fun r hr => K_impl_VotesOk (a := _) hr) (fun hj => ?_) (fun hj => ?_) <;> (try simp only [etaPa, etaIt, etaVo] at hj) <;> (try contradiction))
      | (refine calle (b := [one (vsF _)]) v_impl_votes_shown rfl ⟨_, rfl, (by refine ⟨?_, ?_⟩ <;> (exact pr_))⟩ (.inl rfl) (by first | assumption | omega) (fun r hr => K_impl_votes_shown (a := _) hr) ?_)
      | (refine calle (b := [one (chF _)]) v_impl_final rfl ⟨_, rfl, (by exact pr_)⟩ (.inl rfl) (by first | assumption | omega) (fun r hr => K_impl_final (a := _) hr) ?_)
      | (refine ⟨⟨i + 1, k6, _, ⟨rfl, rfl, rfl, congrArg I (wrap_up (n := 3) (by omega) (by decide)), trivial⟩, (by omega), (by trivial), hk_, (Eq.trans (b := some (.cells [.c _, .tk _ 1 (((certIn l (shown l)).b.take i).map (fun n => [nsF n]) ++ [[nsF _]])])) hk_ (by rw [bs_snoc (f := fun n => [nsF n]) (bs_at h0' hi')])), (Eq.trans (b := some (.tok _ 1 ((((certIn l (shown l)).b.take i).map fun n => [nsF n]).length + 1))) hk_ (by simp only [List.length_map, List.length_take, hb3]; congr 2; omega)), (by simp only [List.length_cons, List.length_nil]; omega), (by omega), (by simp only [List.length_cons, List.length_nil]; omega), (by omega), ln_, (by simp only [List.length_cons, List.length_nil]; omega), ln_, (by omega), (by exact h0_), rfl⟩, ?_⟩; show 3 - ix (I _) < 3 - ix (I _); simp only [wrap_up (n := 3) (i := i) (by omega) (by decide), ix, Int.toNat_natCast]; omega)
      | exact ⟨⟨_, rfl, rfl, l, rfl, (by unfold R_impl_CertOf; dsimp only; first | done | exact absurd True.intro hj | ((rw [e1, e2]; rfl)))⟩, (by first | exact Nat.le_refl _ | omega), (by exact h0_)⟩
      | fail)
def vtk (l : List Vo) (c : List It) : Nat → List Int → Prop := fun k b => b = ([1, 2, 3, 4].take k : List Int).filter fun n => tb ((⟨n, c⟩ : Vo) ∈ l)
theorem vtk_yes {l : List Vo} {c : List It} {k : Nat} {b : List Int} (h : vtk l c k b) (hk : k < 4) (hm : (⟨((k + 1 : Nat) : Int), c⟩ : Vo) ∈ l) : vtk l c (k + 1) (b ++ [((k + 1 : Nat) : Int)]) := by
  unfold vtk at *
  have e : ([1, 2, 3, 4] : List Int)[k]? = some ((k + 1 : Nat) : Int) := by
    match k, hk with
    | 0, _ => rfl
    | 1, _ => rfl
    | 2, _ => rfl
    | 3, _ => rfl
  rw [List.take_add_one, e, List.filter_append, ← h]
  simp only [Option.toList, List.filter_cons, List.filter_nil, tb_pos hm, if_true]
theorem vtk_no {l : List Vo} {c : List It} {k : Nat} {b : List Int} (h : vtk l c k b) (hk : k < 4) (hm : (⟨((k + 1 : Nat) : Int), c⟩ : Vo) ∉ l) : vtk l c (k + 1) b := by
  unfold vtk at *
  have e : ([1, 2, 3, 4] : List Int)[k]? = some ((k + 1 : Nat) : Int) := by
    match k, hk with
    | 0, _ => rfl
    | 1, _ => rfl
    | 2, _ => rfl
    | 3, _ => rfl
  rw [List.take_add_one, e, List.filter_append, ← h]
  simp only [Option.toList, List.filter_cons, List.filter_nil, tb_neg hm, Bool.false_eq_true, if_false, List.append_nil]
theorem vtk_end {l : List Vo} {c : List It} {b : List Int} (h : vtk l c 4 b) : b = voters l c := h
theorem vtk_len {l : List Vo} {c : List It} {k : Nat} {b : List Int} (h : vtk l c k b) : b.length ≤ 4 := by
  rw [h]; refine Nat.le_trans (List.length_filter_le _ _) ?_
  simp only [List.length_take, List.length_cons, List.length_nil]; omega
abbrev nsO (b : List Int) : Ob := .arr ty_int 1 (arA (fun n => [fI n]) b)
set_option maxHeartbeats 4000000 in
set_option maxRecDepth 100000 in
theorem v_spec_VotesFor : Valid Try.prog n_spec_VotesFor S_spec_VotesFor := by
  refine valid_of_swp mixed is_spec_VotesFor (by rintro _ ⟨a, rfl, _⟩; exact Nat.le_of_ble_eq_true rfl) ?_
  rintro _ rm ⟨⟨l, c⟩, rfl, hpre⟩ hl
  try dsimp only at hpre
  have hpre0 := hpre
  obtain ⟨hp1, hp2⟩ := hpre
  by_cases hV : VotesOk l
  · have eF : votesFor l c = voters l c := by unfold votesFor; rw [tb_pos hV]; rfl
    repeat' ((conv => whnf); first
      | refine ⟨_, rfl, ?_⟩
      | refine ⟨rfl, ?_⟩
      | refine ⟨_, rfl, rfl, _, ((by exact hk_) : (_ : Option Ob) = _), (by exact ap_), ?_⟩
      | refine ⟨_, news_ow hupd_at, newsz_ow hupd_at, _, ((by exact hk_) : (_ : Option Ob) = _), (by exact ap_), ?_⟩
      | refine ⟨_, ((by exact hk_) : (_ : Option Ob) = _), ?_⟩
      | refine ⟨(show _ ≤ _ from (by exact ap_)), ?_⟩
      | (refine ⟨fun hc => ?_, fun hc => ?_⟩ <;> (try simp (disch := omega) only [List.length_map, wrap64] at hc) <;> (try (exfalso; first | contradiction | omega)))
      | (refine callt (b := [one (vsF _)]) v_spec_VotesOk rfl ⟨_, rfl, (by exact pr_)⟩ (.inl rfl) (by first | assumption | omega) (fun r hr => K_spec_VotesOk (a := _) hr) (fun hj => ?_) (fun hj => ?_) <;> (try simp only [etaPa, etaIt, etaVo] at hj) <;> (try contradiction))
      | fail)
    conv => whnf
    refine ⟨fun fr H nx rm' => ∃ (i : Nat) (k : Nat) (b : List Int), Has fr [(0, one (vsF l)), (1, one (chF c)), (5, .w (.o (.ow k))), (6, I ((i + 1 : Nat) : Int))] ∧ i ≤ 4 ∧ (vtk l c i b) ∧ H k = some (nsO b) ∧ 1 ≤ k ∧ k < nx ∧ 1 ≤ nx ∧ H 0 = none ∧ rm' = rm,
      fun fr _ _ _ => 4 + 1 - ix (fr 6), ⟨0, _, [], ⟨(by first | rfl | (show I _ = I _; simp)), (by first | rfl | (show I _ = I _; simp)), (by first | rfl | (show I _ = I _; simp)), (by first | rfl | (show I _ = I _; simp)), trivial⟩, Nat.zero_le _, (by rfl), hk_, ln_, ln_, (by first | decide | omega), (by exact h0_), rfl⟩, ?_⟩
    rintro fr H nx rm' ⟨i, k, b, hfr, hi, hq, hk, hk1, hkn, hnx, hH, rfl⟩
    rw [hfr.eq]
    have hbl := vtk_len hq
    rcases Nat.lt_or_ge i 4 with hi' | hi'
    · by_cases hm : (⟨((i + 1 : Nat) : Int), c⟩ : Vo) ∈ l
      · skip
        repeat' ((conv => whnf); first
          | refine ⟨_, rfl, ?_⟩
          | refine ⟨rfl, ?_⟩
          | refine ⟨_, rfl, rfl, _, ((by exact hk_) : (_ : Option Ob) = _), (by exact ap_), ?_⟩
          | refine ⟨_, news_ow hupd_at, newsz_ow hupd_at, _, ((by exact hk_) : (_ : Option Ob) = _), (by exact ap_), ?_⟩
          | refine ⟨_, ((by exact hk_) : (_ : Option Ob) = _), ?_⟩
          | refine ⟨(show _ ≤ _ from (by exact ap_)), ?_⟩
          | (refine ⟨fun hc => ?_, fun hc => ?_⟩ <;> (try simp (disch := omega) only [List.length_map, wrap64] at hc) <;> (try (exfalso; first | contradiction | omega)))
          | (refine callt (b := [one (vsF _), agg (voF ⟨_, _⟩)]) v_spec_l3Has rfl ⟨(_, ⟨_, _⟩), rfl, (by refine ⟨?_, ?_⟩ <;> (exact pr_))⟩ (.inl rfl) (by first | assumption | omega) (fun r hr => K_spec_l3Has (a := (_, ⟨_, _⟩)) hr) (fun hj => ?_) (fun hj => ?_) <;> (try simp only [etaPa, etaIt, etaVo] at hj) <;> (try contradiction))
          | (first | (refine ⟨⟨i + 1, _, b ++ [((i + 1 : Nat) : Int)], ⟨rfl, rfl, rfl, congrArg I (wrap_up1 (n := 4) (by omega) (by decide)), trivial⟩, (by omega), (by exact vtk_yes hq hi' hm), (by first | exact hupd_at.trans (arr_snoc rfl) | exact hk_), (by omega), ln_, (by omega), (by exact h0_), rfl⟩, ?_⟩; show 4 + 1 - ix (I _) < 4 + 1 - ix (I _); simp only [wrap_up1 (n := 4) (i := i) (by omega) (by decide), ix, Int.toNat_natCast]; omega) | (refine ⟨⟨i + 1, _, b, ⟨rfl, rfl, rfl, congrArg I (wrap_up1 (n := 4) (by omega) (by decide)), trivial⟩, (by omega), (by exact vtk_no hq hi' hm), (by first | exact hupd_at.trans (arr_snoc rfl) | exact hk_), (by omega), ln_, (by omega), (by exact h0_), rfl⟩, ?_⟩; show 4 + 1 - ix (I _) < 4 + 1 - ix (I _); simp only [wrap_up1 (n := 4) (i := i) (by omega) (by decide), ix, Int.toNat_natCast]; omega))
          | fail)
      · skip
        repeat' ((conv => whnf); first
          | refine ⟨_, rfl, ?_⟩
          | refine ⟨rfl, ?_⟩
          | refine ⟨_, rfl, rfl, _, ((by exact hk_) : (_ : Option Ob) = _), (by exact ap_), ?_⟩
          | refine ⟨_, news_ow hupd_at, newsz_ow hupd_at, _, ((by exact hk_) : (_ : Option Ob) = _), (by exact ap_), ?_⟩
          | refine ⟨_, ((by exact hk_) : (_ : Option Ob) = _), ?_⟩
          | refine ⟨(show _ ≤ _ from (by exact ap_)), ?_⟩
          | (refine ⟨fun hc => ?_, fun hc => ?_⟩ <;> (try simp (disch := omega) only [List.length_map, wrap64] at hc) <;> (try (exfalso; first | contradiction | omega)))
          | (refine callt (b := [one (vsF _), agg (voF ⟨_, _⟩)]) v_spec_l3Has rfl ⟨(_, ⟨_, _⟩), rfl, (by refine ⟨?_, ?_⟩ <;> (exact pr_))⟩ (.inl rfl) (by first | assumption | omega) (fun r hr => K_spec_l3Has (a := (_, ⟨_, _⟩)) hr) (fun hj => ?_) (fun hj => ?_) <;> (try simp only [etaPa, etaIt, etaVo] at hj) <;> (try contradiction))
          | (first | (refine ⟨⟨i + 1, _, b ++ [((i + 1 : Nat) : Int)], ⟨rfl, rfl, rfl, congrArg I (wrap_up1 (n := 4) (by omega) (by decide)), trivial⟩, (by omega), (by exact vtk_yes hq hi' hm), (by first | exact hupd_at.trans (arr_snoc rfl) | exact hk_), (by omega), ln_, (by omega), (by exact h0_), rfl⟩, ?_⟩; show 4 + 1 - ix (I _) < 4 + 1 - ix (I _); simp only [wrap_up1 (n := 4) (i := i) (by omega) (by decide), ix, Int.toNat_natCast]; omega) | (refine ⟨⟨i + 1, _, b, ⟨rfl, rfl, rfl, congrArg I (wrap_up1 (n := 4) (by omega) (by decide)), trivial⟩, (by omega), (by exact vtk_no hq hi' hm), (by first | exact hupd_at.trans (arr_snoc rfl) | exact hk_), (by omega), ln_, (by omega), (by exact h0_), rfl⟩, ?_⟩; show 4 + 1 - ix (I _) < 4 + 1 - ix (I _); simp only [wrap_up1 (n := 4) (i := i) (by omega) (by decide), ix, Int.toNat_natCast]; omega))
          | fail)
    · have hi4 : i = 4 := by omega
      subst hi4
      have hb := vtk_end hq
      repeat' ((conv => whnf); first
        | refine ⟨_, rfl, ?_⟩
        | refine ⟨rfl, ?_⟩
        | refine ⟨_, rfl, rfl, _, ((by exact hk_) : (_ : Option Ob) = _), (by exact ap_), ?_⟩
        | refine ⟨_, news_ow hupd_at, newsz_ow hupd_at, _, ((by exact hk_) : (_ : Option Ob) = _), (by exact ap_), ?_⟩
        | refine ⟨_, ((by exact hk_) : (_ : Option Ob) = _), ?_⟩
        | refine ⟨(show _ ≤ _ from (by exact ap_)), ?_⟩
        | (refine ⟨fun hc => ?_, fun hc => ?_⟩ <;> (try simp (disch := omega) only [List.length_map, wrap64] at hc) <;> (try (exfalso; first | contradiction | omega)))
        | (first | (refine ⟨⟨i + 1, _, b ++ [((i + 1 : Nat) : Int)], ⟨rfl, rfl, rfl, congrArg I (wrap_up1 (n := 4) (by omega) (by decide)), trivial⟩, (by omega), (by exact vtk_yes hq hi' hm), (by first | exact hupd_at.trans (arr_snoc rfl) | exact hk_), (by omega), ln_, (by omega), (by exact h0_), rfl⟩, ?_⟩; show 4 + 1 - ix (I _) < 4 + 1 - ix (I _); simp only [wrap_up1 (n := 4) (i := i) (by omega) (by decide), ix, Int.toNat_natCast]; omega) | (refine ⟨⟨i + 1, _, b, ⟨rfl, rfl, rfl, congrArg I (wrap_up1 (n := 4) (by omega) (by decide)), trivial⟩, (by omega), (by exact vtk_no hq hi' hm), (by first | exact hupd_at.trans (arr_snoc rfl) | exact hk_), (by omega), ln_, (by omega), (by exact h0_), rfl⟩, ?_⟩; show 4 + 1 - ix (I _) < 4 + 1 - ix (I _); simp only [wrap_up1 (n := 4) (i := i) (by omega) (by decide), ix, Int.toNat_natCast]; omega))
        | exact ⟨⟨_, rfl, rfl, (l, c), rfl, rfl⟩, (by first | exact Nat.le_refl _ | omega), (by exact h0_)⟩
        | exact ⟨⟨_, rfl, rfl, (l, c), rfl, (by refine congrArg one (?_ : (_ : FV) = _); (try dsimp only); first | done | exact absurd True.intro hj | ((rw [eF, ← hb]; rfl)))⟩, (by first | exact Nat.le_refl _ | omega), (by exact h0_)⟩
        | exact ⟨⟨[.o (.c _)], congrArg (fun x => some [AW.o x]) (bor_ow (by exact hk_) (by first | rfl | (exact fcellss_f _ _))), rfl, (l, c), rfl, (by first | rfl | (refine congrArg one (?_ : (_ : FV) = _); (try dsimp only); first | done | exact absurd True.intro hj | ((rw [eF, ← hb]; rfl))))⟩, (by first | exact Nat.le_refl _ | omega), (by exact h0_)⟩
        | fail)
  · have eF : votesFor l c = [] := by unfold votesFor; rw [tb_neg hV]; rfl
    repeat' ((conv => whnf); first
      | refine ⟨_, rfl, ?_⟩
      | refine ⟨rfl, ?_⟩
      | refine ⟨_, rfl, rfl, _, ((by exact hk_) : (_ : Option Ob) = _), (by exact ap_), ?_⟩
      | refine ⟨_, news_ow hupd_at, newsz_ow hupd_at, _, ((by exact hk_) : (_ : Option Ob) = _), (by exact ap_), ?_⟩
      | refine ⟨_, ((by exact hk_) : (_ : Option Ob) = _), ?_⟩
      | refine ⟨(show _ ≤ _ from (by exact ap_)), ?_⟩
      | (refine ⟨fun hc => ?_, fun hc => ?_⟩ <;> (try simp (disch := omega) only [List.length_map, wrap64] at hc) <;> (try (exfalso; first | contradiction | omega)))
      | (refine callt (b := [one (vsF _)]) v_spec_VotesOk rfl ⟨_, rfl, (by exact pr_)⟩ (.inl rfl) (by first | assumption | omega) (fun r hr => K_spec_VotesOk (a := _) hr) (fun hj => ?_) (fun hj => ?_) <;> (try simp only [etaPa, etaIt, etaVo] at hj) <;> (try contradiction))
      | (first | (refine ⟨⟨i + 1, _, b ++ [((i + 1 : Nat) : Int)], ⟨rfl, rfl, rfl, congrArg I (wrap_up1 (n := 4) (by omega) (by decide)), trivial⟩, (by omega), (by exact vtk_yes hq hi' hm), (by first | exact hupd_at.trans (arr_snoc rfl) | exact hk_), (by omega), ln_, (by omega), (by exact h0_), rfl⟩, ?_⟩; show 4 + 1 - ix (I _) < 4 + 1 - ix (I _); simp only [wrap_up1 (n := 4) (i := i) (by omega) (by decide), ix, Int.toNat_natCast]; omega) | (refine ⟨⟨i + 1, _, b, ⟨rfl, rfl, rfl, congrArg I (wrap_up1 (n := 4) (by omega) (by decide)), trivial⟩, (by omega), (by exact vtk_no hq hi' hm), (by first | exact hupd_at.trans (arr_snoc rfl) | exact hk_), (by omega), ln_, (by omega), (by exact h0_), rfl⟩, ?_⟩; show 4 + 1 - ix (I _) < 4 + 1 - ix (I _); simp only [wrap_up1 (n := 4) (i := i) (by omega) (by decide), ix, Int.toNat_natCast]; omega))
      | exact ⟨⟨_, rfl, rfl, (l, c), rfl, rfl⟩, (by first | exact Nat.le_refl _ | omega), (by exact h0_)⟩
      | exact ⟨⟨_, rfl, rfl, (l, c), rfl, (by refine congrArg one (?_ : (_ : FV) = _); (try dsimp only); first | done | exact absurd True.intro hj | ((rw [eF]; rfl)))⟩, (by first | exact Nat.le_refl _ | omega), (by exact h0_)⟩
      | exact ⟨⟨[.o (.c _)], congrArg (fun x => some [AW.o x]) (bor_ow (by exact hk_) (by first | rfl | (exact fcellss_f _ _))), rfl, (l, c), rfl, (by first | rfl | (refine congrArg one (?_ : (_ : FV) = _); (try dsimp only); first | done | exact absurd True.intro hj | ((rw [eF]; rfl))))⟩, (by first | exact Nat.le_refl _ | omega), (by exact h0_)⟩
      | fail)
set_option maxHeartbeats 4000000 in
set_option maxRecDepth 100000 in
theorem v_laws_lwCert : Valid Try.prog n_laws_lwCert S_laws_lwCert := by
  refine valid_of_swp mixed is_laws_lwCert (by rintro _ ⟨a, rfl, _⟩; exact Nat.le_of_ble_eq_true rfl) ?_
  rintro _ rm ⟨⟨c, d⟩, rfl, hpre⟩ hl
  try dsimp only at hpre
  have hpre0 := hpre
  obtain ⟨hp1, hp2⟩ := hpre
  dsimp only
  have hfc := hp1
  have hfd := hp2
  have hc1 := hp1.1
  have hd1 := hp2.1
  by_cases hcc : c.c = d.c ∧ c.b.length = d.b.length
  · obtain ⟨hcc, hcb⟩ := hcc
    repeat' ((conv => whnf); first
      | refine ⟨_, rfl, ?_⟩
      | refine ⟨rfl, ?_⟩
      | refine ⟨_, _, rfl, at_map (by assumption), ?_⟩
      | refine idx_mapX (i := 0) rfl (by assumption) ?_
      | refine idx_map (by omega) (fun x hx => ?_)
      | refine idx_mapX (wrap_dn (by omega) (by omega)) (by assumption) ?_
      | refine idx_mapE (wrap_dn (by omega) (by omega)) (by omega) (fun x hx => ?_)
      | refine idx_mapL (by omega) (by first | assumption | (simp only [LIM]; omega)) (fun x hx => ?_)
      | refine idx_mapI (by omega) (by first | omega | (simp only [List.length_map] at *; omega)) (fun x hx => ?_)
      | refine ⟨_, ldc_cells hupd_at (Nat.le_of_ble_eq_true rfl), ?_⟩
      | refine ⟨_, ldc_cells (by first | assumption | exact zk ‹_› (by omega) | exact zk (zk ‹_› (by omega)) (by omega)) (Nat.le_of_ble_eq_true rfl), ?_⟩
      | (refine ⟨fun hc => ?_, fun hc => ?_⟩ <;> (try simp (disch := omega) only [List.length_map, wrap64] at hc) <;> (try (exfalso; first | contradiction | omega)))
      | (refine callt (b := [one (chF _), one (chF _)]) v_laws_lwSame rfl ⟨(_, _), rfl, (by refine ⟨?_, ?_⟩ <;> (exact pr_))⟩ (.inl rfl) (by first | assumption | omega) (fun r hr => K_laws_lwSame (a := (_, _)) hr) (fun hj => ?_) (fun hj => ?_) <;> (try simp only [etaPa, etaIt, etaVo] at hj) <;> (try contradiction))
      | fail)
    conv => whnf
    refine ⟨fun fr H nx rm' => ∃ (i : Nat), Has fr [(2, .w (.o (.ptr 1 0))), (3, .w (.o (.ptr 17 0))), (5, I i)] ∧ i ≤ c.b.length ∧ (∀ j x, j < i → c.b[j]? = some x → d.b[j]? = some x) ∧ H 1 = some (.cells ((ceF c).map AC.c)) ∧ H 17 = some (.cells ((ceF d).map AC.c)) ∧ 1 ≤ nx ∧ H 0 = none ∧ rm' = rm,
      fun fr _ _ _ => c.b.length - ix (fr 5), ⟨0, ⟨(by first | rfl | (show I _ = I _; simp)), (by first | rfl | (show I _ = I _; simp)), (by first | rfl | (show I _ = I _; simp)), trivial⟩, Nat.zero_le _, (by intro j x h; omega), hk_, hk_, (by first | decide | omega), (by exact h0_), rfl⟩, ?_⟩
    rintro fr H nx rm' ⟨i, hfr, hi, hq, hH1, hH2, hnx, hH, rfl⟩
    rw [hfr.eq]
    rcases Nat.lt_or_ge i c.b.length with hi' | hi'
    · obtain ⟨x, hx⟩ : ∃ x, c.b[i]? = some x := ⟨_, List.getElem?_eq_getElem hi'⟩
      obtain ⟨y, hy⟩ : ∃ x, d.b[i]? = some x := ⟨_, List.getElem?_eq_getElem (by omega)⟩
      have hxl := hfc.b hx
      have hyl := hfd.b hy
      by_cases heq : x = y
      · skip
        repeat' ((conv => whnf); first
          | refine ⟨_, _, rfl, at_map hx, ?_⟩
          | refine ⟨_, _, rfl, at_map hy, ?_⟩
          | refine ⟨_, rfl, ?_⟩
          | refine ⟨rfl, ?_⟩
          | refine ⟨_, _, rfl, at_map (by assumption), ?_⟩
          | refine idx_mapX (i := 0) rfl (by assumption) ?_
          | refine idx_map (by omega) (fun x hx => ?_)
          | refine idx_mapX (wrap_dn (by omega) (by omega)) (by assumption) ?_
          | refine idx_mapE (wrap_dn (by omega) (by omega)) (by omega) (fun x hx => ?_)
          | refine idx_mapL (by omega) (by first | assumption | (simp only [LIM]; omega)) (fun x hx => ?_)
          | refine idx_mapI (by omega) (by first | omega | (simp only [List.length_map] at *; omega)) (fun x hx => ?_)
          | refine ⟨_, ldc_cells hupd_at (Nat.le_of_ble_eq_true rfl), ?_⟩
          | refine ⟨_, ldc_cells (by first | assumption | exact zk ‹_› (by omega) | exact zk (zk ‹_› (by omega)) (by omega)) (Nat.le_of_ble_eq_true rfl), ?_⟩
          | (refine ⟨fun hc => ?_, fun hc => ?_⟩ <;> (try simp (disch := omega) only [List.length_map, wrap64] at hc) <;> (try (exfalso; first | contradiction | omega)))
          | (refine callt (b := [one (nsF _), one (nsF _)]) v_laws_lwInts rfl ⟨(_, _), rfl, (by refine ⟨?_, ?_⟩ <;> (exact pr_))⟩ (.inl rfl) (by first | assumption | omega) (fun r hr => K_laws_lwInts (a := (_, _)) hr) (fun hj => ?_) (fun hj => ?_) <;> (try simp only [etaPa, etaIt, etaVo] at hj) <;> (try contradiction))
          | (refine ⟨⟨i + 1, ⟨rfl, rfl, congrArg I (wrap_up (n := c.b.length) (by omega) (hp1.2.1)), trivial⟩, (by omega), (by intro j b hj' hb'; rcases Nat.lt_or_ge j i with h | h; exact hq j b h hb'; have e : j = i := (by omega); rw [e] at hb' ⊢; rw [hx] at hb'; cases hb'; rw [hy, heq]), hk_, hk_, (by omega), (by exact h0_), rfl⟩, ?_⟩; show c.b.length - ix (I _) < c.b.length - ix (I _); simp only [wrap_up (n := c.b.length) (i := i) (by omega) (hp1.2.1), ix, Int.toNat_natCast]; omega)
          | fail)
      · have hbad : ¬ c = d := fun h => by subst h; rw [hx] at hy; cases hy; exact heq rfl
        repeat' ((conv => whnf); first
          | refine ⟨_, _, rfl, at_map hx, ?_⟩
          | refine ⟨_, _, rfl, at_map hy, ?_⟩
          | refine ⟨_, rfl, ?_⟩
          | refine ⟨rfl, ?_⟩
          | refine ⟨_, _, rfl, at_map (by assumption), ?_⟩
          | refine idx_mapX (i := 0) rfl (by assumption) ?_
          | refine idx_map (by omega) (fun x hx => ?_)
          | refine idx_mapX (wrap_dn (by omega) (by omega)) (by assumption) ?_
          | refine idx_mapE (wrap_dn (by omega) (by omega)) (by omega) (fun x hx => ?_)
          | refine idx_mapL (by omega) (by first | assumption | (simp only [LIM]; omega)) (fun x hx => ?_)
          | refine idx_mapI (by omega) (by first | omega | (simp only [List.length_map] at *; omega)) (fun x hx => ?_)
          | refine ⟨_, ldc_cells hupd_at (Nat.le_of_ble_eq_true rfl), ?_⟩
          | refine ⟨_, ldc_cells (by first | assumption | exact zk ‹_› (by omega) | exact zk (zk ‹_› (by omega)) (by omega)) (Nat.le_of_ble_eq_true rfl), ?_⟩
          | (refine ⟨fun hc => ?_, fun hc => ?_⟩ <;> (try simp (disch := omega) only [List.length_map, wrap64] at hc) <;> (try (exfalso; first | contradiction | omega)))
          | (refine callt (b := [one (nsF _), one (nsF _)]) v_laws_lwInts rfl ⟨(_, _), rfl, (by refine ⟨?_, ?_⟩ <;> (exact pr_))⟩ (.inl rfl) (by first | assumption | omega) (fun r hr => K_laws_lwInts (a := (_, _)) hr) (fun hj => ?_) (fun hj => ?_) <;> (try simp only [etaPa, etaIt, etaVo] at hj) <;> (try contradiction))
          | (refine ⟨⟨i + 1, ⟨rfl, rfl, congrArg I (wrap_up (n := c.b.length) (by omega) (hp1.2.1)), trivial⟩, (by omega), (by intro j b hj' hb'; rcases Nat.lt_or_ge j i with h | h; exact hq j b h hb'; have e : j = i := (by omega); rw [e] at hb' ⊢; rw [hx] at hb'; cases hb'; rw [hy, heq]), hk_, hk_, (by omega), (by exact h0_), rfl⟩, ?_⟩; show c.b.length - ix (I _) < c.b.length - ix (I _); simp only [wrap_up (n := c.b.length) (i := i) (by omega) (hp1.2.1), ix, Int.toNat_natCast]; omega)
          | exact ⟨⟨_, rfl, rfl, (c, d), rfl, (by refine congrArg B (Eq.symm (tb_pos ?_)); (try dsimp only); first | done | exact absurd True.intro hj | (exact hbad))⟩, (by first | exact Nat.le_refl _ | omega), (by exact h0_)⟩
          | exact ⟨⟨_, rfl, rfl, (c, d), rfl, (by refine congrArg B (Eq.symm (tb_neg ?_)); (try dsimp only); first | done | exact absurd True.intro hj | (exact hbad))⟩, (by first | exact Nat.le_refl _ | omega), (by exact h0_)⟩
          | fail)
    · have hall : c = d := by
        have hb : c.b = d.b := by
          have := pre_eq (c := c.b) (d := d.b) (fun j x hx => hq j x (by have := (List.getElem?_eq_some_iff.1 hx).1; omega) hx)
          rwa [hcb, List.take_length] at this
        cases c; cases d; simp_all
      repeat' ((conv => whnf); first
        | refine ⟨_, rfl, ?_⟩
        | refine ⟨rfl, ?_⟩
        | refine ⟨_, _, rfl, at_map (by assumption), ?_⟩
        | refine idx_mapX (i := 0) rfl (by assumption) ?_
        | refine idx_map (by omega) (fun x hx => ?_)
        | refine idx_mapX (wrap_dn (by omega) (by omega)) (by assumption) ?_
        | refine idx_mapE (wrap_dn (by omega) (by omega)) (by omega) (fun x hx => ?_)
        | refine idx_mapL (by omega) (by first | assumption | (simp only [LIM]; omega)) (fun x hx => ?_)
        | refine idx_mapI (by omega) (by first | omega | (simp only [List.length_map] at *; omega)) (fun x hx => ?_)
        | refine ⟨_, ldc_cells hupd_at (Nat.le_of_ble_eq_true rfl), ?_⟩
        | refine ⟨_, ldc_cells (by first | assumption | exact zk ‹_› (by omega) | exact zk (zk ‹_› (by omega)) (by omega)) (Nat.le_of_ble_eq_true rfl), ?_⟩
        | (refine ⟨fun hc => ?_, fun hc => ?_⟩ <;> (try simp (disch := omega) only [List.length_map, wrap64] at hc) <;> (try (exfalso; first | contradiction | omega)))
        | (refine ⟨⟨i + 1, ⟨rfl, rfl, congrArg I (wrap_up (n := c.b.length) (by omega) (hp1.2.1)), trivial⟩, (by omega), (by intro j b hj' hb'; rcases Nat.lt_or_ge j i with h | h; exact hq j b h hb'; have e : j = i := (by omega); rw [e] at hb' ⊢; rw [hx] at hb'; cases hb'; rw [hy, heq]), hk_, hk_, (by omega), (by exact h0_), rfl⟩, ?_⟩; show c.b.length - ix (I _) < c.b.length - ix (I _); simp only [wrap_up (n := c.b.length) (i := i) (by omega) (hp1.2.1), ix, Int.toNat_natCast]; omega)
        | exact ⟨⟨_, rfl, rfl, (c, d), rfl, (by refine congrArg B (Eq.symm (tb_pos ?_)); (try dsimp only); first | done | exact absurd True.intro hj | (exact hall))⟩, (by first | exact Nat.le_refl _ | omega), (by exact h0_)⟩
        | exact ⟨⟨_, rfl, rfl, (c, d), rfl, (by refine congrArg B (Eq.symm (tb_neg ?_)); (try dsimp only); first | done | exact absurd True.intro hj | (exact hall))⟩, (by first | exact Nat.le_refl _ | omega), (by exact h0_)⟩
        | fail)
  · have hbad : ¬ c = d := fun h => hcc (by subst h; exact ⟨rfl, rfl⟩)
    by_cases h1 : c.c = d.c
    · have h2 : c.b.length ≠ d.b.length := fun h => hcc ⟨h1, h⟩
      repeat' ((conv => whnf); first
        | refine ⟨_, rfl, ?_⟩
        | refine ⟨rfl, ?_⟩
        | refine ⟨_, _, rfl, at_map (by assumption), ?_⟩
        | refine idx_mapX (i := 0) rfl (by assumption) ?_
        | refine idx_map (by omega) (fun x hx => ?_)
        | refine idx_mapX (wrap_dn (by omega) (by omega)) (by assumption) ?_
        | refine idx_mapE (wrap_dn (by omega) (by omega)) (by omega) (fun x hx => ?_)
        | refine idx_mapL (by omega) (by first | assumption | (simp only [LIM]; omega)) (fun x hx => ?_)
        | refine idx_mapI (by omega) (by first | omega | (simp only [List.length_map] at *; omega)) (fun x hx => ?_)
        | refine ⟨_, ldc_cells hupd_at (Nat.le_of_ble_eq_true rfl), ?_⟩
        | refine ⟨_, ldc_cells (by first | assumption | exact zk ‹_› (by omega) | exact zk (zk ‹_› (by omega)) (by omega)) (Nat.le_of_ble_eq_true rfl), ?_⟩
        | (refine ⟨fun hc => ?_, fun hc => ?_⟩ <;> (try simp (disch := omega) only [List.length_map, wrap64] at hc) <;> (try (exfalso; first | contradiction | omega)))
        | (refine callt (b := [one (chF _), one (chF _)]) v_laws_lwSame rfl ⟨(_, _), rfl, (by refine ⟨?_, ?_⟩ <;> (exact pr_))⟩ (.inl rfl) (by first | assumption | omega) (fun r hr => K_laws_lwSame (a := (_, _)) hr) (fun hj => ?_) (fun hj => ?_) <;> (try simp only [etaPa, etaIt, etaVo] at hj) <;> (try contradiction))
        | (refine ⟨⟨i + 1, ⟨rfl, rfl, congrArg I (wrap_up (n := c.b.length) (by omega) (hp1.2.1)), trivial⟩, (by omega), (by intro j b hj' hb'; rcases Nat.lt_or_ge j i with h | h; exact hq j b h hb'; have e : j = i := (by omega); rw [e] at hb' ⊢; rw [hx] at hb'; cases hb'; rw [hy, heq]), hk_, hk_, (by omega), (by exact h0_), rfl⟩, ?_⟩; show c.b.length - ix (I _) < c.b.length - ix (I _); simp only [wrap_up (n := c.b.length) (i := i) (by omega) (hp1.2.1), ix, Int.toNat_natCast]; omega)
        | exact ⟨⟨_, rfl, rfl, (c, d), rfl, (by refine congrArg B (Eq.symm (tb_pos ?_)); (try dsimp only); first | done | exact absurd True.intro hj | (exact hbad))⟩, (by first | exact Nat.le_refl _ | omega), (by exact h0_)⟩
        | exact ⟨⟨_, rfl, rfl, (c, d), rfl, (by refine congrArg B (Eq.symm (tb_neg ?_)); (try dsimp only); first | done | exact absurd True.intro hj | (exact hbad))⟩, (by first | exact Nat.le_refl _ | omega), (by exact h0_)⟩
        | fail)
    · skip
      repeat' ((conv => whnf); first
        | refine ⟨_, rfl, ?_⟩
        | refine ⟨rfl, ?_⟩
        | refine ⟨_, _, rfl, at_map (by assumption), ?_⟩
        | refine idx_mapX (i := 0) rfl (by assumption) ?_
        | refine idx_map (by omega) (fun x hx => ?_)
        | refine idx_mapX (wrap_dn (by omega) (by omega)) (by assumption) ?_
        | refine idx_mapE (wrap_dn (by omega) (by omega)) (by omega) (fun x hx => ?_)
        | refine idx_mapL (by omega) (by first | assumption | (simp only [LIM]; omega)) (fun x hx => ?_)
        | refine idx_mapI (by omega) (by first | omega | (simp only [List.length_map] at *; omega)) (fun x hx => ?_)
        | refine ⟨_, ldc_cells hupd_at (Nat.le_of_ble_eq_true rfl), ?_⟩
        | refine ⟨_, ldc_cells (by first | assumption | exact zk ‹_› (by omega) | exact zk (zk ‹_› (by omega)) (by omega)) (Nat.le_of_ble_eq_true rfl), ?_⟩
        | (refine ⟨fun hc => ?_, fun hc => ?_⟩ <;> (try simp (disch := omega) only [List.length_map, wrap64] at hc) <;> (try (exfalso; first | contradiction | omega)))
        | (refine callt (b := [one (chF _), one (chF _)]) v_laws_lwSame rfl ⟨(_, _), rfl, (by refine ⟨?_, ?_⟩ <;> (exact pr_))⟩ (.inl rfl) (by first | assumption | omega) (fun r hr => K_laws_lwSame (a := (_, _)) hr) (fun hj => ?_) (fun hj => ?_) <;> (try simp only [etaPa, etaIt, etaVo] at hj) <;> (try contradiction))
        | (refine ⟨⟨i + 1, ⟨rfl, rfl, congrArg I (wrap_up (n := c.b.length) (by omega) (hp1.2.1)), trivial⟩, (by omega), (by intro j b hj' hb'; rcases Nat.lt_or_ge j i with h | h; exact hq j b h hb'; have e : j = i := (by omega); rw [e] at hb' ⊢; rw [hx] at hb'; cases hb'; rw [hy, heq]), hk_, hk_, (by omega), (by exact h0_), rfl⟩, ?_⟩; show c.b.length - ix (I _) < c.b.length - ix (I _); simp only [wrap_up (n := c.b.length) (i := i) (by omega) (hp1.2.1), ix, Int.toNat_natCast]; omega)
        | exact ⟨⟨_, rfl, rfl, (c, d), rfl, (by refine congrArg B (Eq.symm (tb_pos ?_)); (try dsimp only); first | done | exact absurd True.intro hj | (exact hbad))⟩, (by first | exact Nat.le_refl _ | omega), (by exact h0_)⟩
        | exact ⟨⟨_, rfl, rfl, (c, d), rfl, (by refine congrArg B (Eq.symm (tb_neg ?_)); (try dsimp only); first | done | exact absurd True.intro hj | (exact hbad))⟩, (by first | exact Nat.le_refl _ | omega), (by exact h0_)⟩
        | fail)
end Av
end Go.Proofs.Ytocfcnkfjfpoaaa
