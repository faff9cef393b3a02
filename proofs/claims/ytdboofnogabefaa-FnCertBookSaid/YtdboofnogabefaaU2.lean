/- The walks: certs. -/
import Derived.Test.YtdboofnogabefaaU1
import Derived.Test.YtdboofnogabefaaP4
set_option linter.unusedVariables false
set_option linter.unusedSimpArgs false
namespace Go.Proofs.Ytdboofnogabefaa
namespace Av
open Go.RowKit
theorem vt_step {b : List Int} {i : Nat} {n : Int} (hn : b[i]? = some n) (h1 : In n 1 4) (h2 : ∀ m, 0 < i → b[i - 1]? = some m → m < n) : VtAt b i n :=
  ⟨h1, fun j m e hm => h2 m (by omega) (by rw [e]; exact hm)⟩
attribute [local irreducible] Valid ValidM
set_option maxHeartbeats 4000000 in
set_option maxRecDepth 100000 in
theorem v_impl_votersOk : Valid Try.prog n_impl_votersOk S_impl_votersOk := by
  refine valid_of_swp mixed is_impl_votersOk (by rintro _ ⟨a, rfl, _⟩; exact Nat.le_of_ble_eq_true rfl) ?_
  rintro _ rm ⟨b1, rfl, hpre⟩ hl
  try dsimp only at hpre
  have hpre0 := hpre
  have hp1 := hpre
  have hL := hp1
  simp only [LIM] at hL
  repeat' ((conv => whnf); first
    | refine ⟨_, rfl, ?_⟩
    | refine ⟨rfl, ?_⟩
    | refine ⟨_, _, rfl, at_map (by assumption), ?_⟩
    | refine idx_mapX (i := 0) rfl (by assumption) ?_
    | refine idx_map (by omega) (fun x hx => ?_)
    | refine idx_mapX (wrap_dn (by omega) (by omega)) (by assumption) ?_
    | refine idx_mapE (wrap_dn (by omega) (by omega)) (by omega) (fun x hx => ?_)
    | refine idx_mapL (by omega) (by first | assumption | (simp only [LIM]; omega)) (fun x hx => ?_)
    | refine idx_mapI (by omega) (by first | omega | (simp only [List.length_map] at *; omega)) (fun x hx => ?_)
    | refine ⟨_, ldc_cells hupd_at (Nat.le_of_ble_eq_true rfl), ?_⟩
    | refine ⟨_, ldc_cells (by first | assumption | exact zk ‹_› (by omega) | exact zk (zk ‹_› (by omega)) (by omega)) (Nat.le_of_ble_eq_true rfl), ?_⟩
    | (refine ⟨fun hc => ?_, fun hc => ?_⟩ <;> (try simp (disch := omega) only [List.length_map, wrap64] at hc))
    | fail)
  conv => whnf
  refine ⟨fun fr H nx rm' => ∃ (i : Nat), Has fr [(0, one (nsF b1)), (5, one (nsF b1)), (6, I b1.length), (7, I i)] ∧ i ≤ b1.length ∧ (∀ j n, j < i → b1[j]? = some n → VtAt b1 j n) ∧ 1 ≤ nx ∧ H 0 = none ∧ rm' = rm,
    fun fr _ _ _ => b1.length - ix (fr 7), ⟨0, ⟨(by first | rfl | (show I _ = I _; simp)), (by first | rfl | (show I _ = I _; simp)), (by first | rfl | (show I _ = I _; simp)), (by first | rfl | (show I _ = I _; simp)), trivial⟩, Nat.zero_le _, (by intro j n h; omega), (by first | decide | omega), (by exact h0_), rfl⟩, ?_⟩
  rintro fr H nx rm' ⟨i, hfr, hi, hq, hnx, hH, rfl⟩
  rw [hfr.eq]
  rcases Nat.lt_or_ge i b1.length with hi' | hi'
  · obtain ⟨x, hx⟩ : ∃ x, b1[i]? = some x := ⟨_, List.getElem?_eq_getElem hi'⟩
    rcases Nat.eq_zero_or_pos i with h0 | h0
    · by_cases hin : In x 1 4
      · have hv : VtAt b1 i x := vt_step hx hin (fun m h => by omega)
        repeat' ((conv => whnf); first
          | refine ⟨_, rfl, ?_⟩
          | refine ⟨rfl, ?_⟩
          | refine ⟨_, _, rfl, at_map (by assumption), ?_⟩
          | refine idx_mapX (i := 0) rfl (by assumption) ?_
          | refine idx_map (by omega) (fun x hx => ?_)
          | refine idx_mapX (wrap_dn (by omega) (by omega)) (by assumption) ?_
          | refine idx_mapE (wrap_dn (by omega) (by omega)) (by omega) (fun x hx => ?_)
          | refine idx_mapL (by omega) (by first | assumption | (simp only [LIM]; omega)) (fun x hx => ?_)
          | refine idx_mapI (by omega) (by first | omega | (simp only [List.length_map] at *; omega)) (fun x hx => ?_)
          | refine ⟨_, ldc_cells hupd_at (Nat.le_of_ble_eq_true rfl), ?_⟩
          | refine ⟨_, ldc_cells (by first | assumption | exact zk ‹_› (by omega) | exact zk (zk ‹_› (by omega)) (by omega)) (Nat.le_of_ble_eq_true rfl), ?_⟩
          | (refine ⟨fun hc => ?_, fun hc => ?_⟩ <;> (try simp (disch := omega) only [List.length_map, wrap64] at hc) <;> (try (exfalso; first | contradiction | omega)))
          | (refine callt (b := [I _]) v_impl_nodeOk rfl ⟨_, rfl, (by exact True.intro)⟩ (.inl rfl) (by first | assumption | omega) (fun r hr => K_impl_nodeOk (a := _) hr) (fun hj => ?_) (fun hj => ?_) <;> (try simp only [etaPa, etaIt, etaVo] at hj) <;> (try contradiction))
          | (refine ⟨⟨i + 1, ⟨rfl, rfl, rfl, congrArg I (wrap_up (n := b1.length) (by omega) (hp1)), trivial⟩, (by omega), (by intro j n hj' hn'; rcases Nat.lt_or_ge j i with h | h; exact hq j n h hn'; have e : j = i := (by omega); rw [e] at hn' ⊢; rw [hx] at hn'; cases hn'; exact hv), (by omega), (by exact h0_), rfl⟩, ?_⟩; show b1.length - ix (I _) < b1.length - ix (I _); simp only [wrap_up (n := b1.length) (i := i) (by omega) (hp1), ix, Int.toNat_natCast]; omega)
          | exact ⟨⟨_, rfl, rfl, b1, rfl, (by refine congrArg B (Eq.symm (tb_pos ?_)); (try dsimp only); first | done | exact absurd True.intro hj | (skip))⟩, (by first | exact Nat.le_refl _ | omega), (by exact h0_)⟩
          | exact ⟨⟨_, rfl, rfl, b1, rfl, (by refine congrArg B (Eq.symm (tb_neg ?_)); (try dsimp only); first | done | exact absurd True.intro hj | (skip))⟩, (by first | exact Nat.le_refl _ | omega), (by exact h0_)⟩
          | fail)
      · have hbad : ¬ VtOk b1 := fun h => hin (h.1 i x hx).1
        repeat' ((conv => whnf); first
          | refine ⟨_, rfl, ?_⟩
          | refine ⟨rfl, ?_⟩
          | refine ⟨_, _, rfl, at_map (by assumption), ?_⟩
          | refine idx_mapX (i := 0) rfl (by assumption) ?_
          | refine idx_map (by omega) (fun x hx => ?_)
          | refine idx_mapX (wrap_dn (by omega) (by omega)) (by assumption) ?_
          | refine idx_mapE (wrap_dn (by omega) (by omega)) (by omega) (fun x hx => ?_)
          | refine idx_mapL (by omega) (by first | assumption | (simp only [LIM]; omega)) (fun x hx => ?_)
          | refine idx_mapI (by omega) (by first | omega | (simp only [List.length_map] at *; omega)) (fun x hx => ?_)
          | refine ⟨_, ldc_cells hupd_at (Nat.le_of_ble_eq_true rfl), ?_⟩
          | refine ⟨_, ldc_cells (by first | assumption | exact zk ‹_› (by omega) | exact zk (zk ‹_› (by omega)) (by omega)) (Nat.le_of_ble_eq_true rfl), ?_⟩
          | (refine ⟨fun hc => ?_, fun hc => ?_⟩ <;> (try simp (disch := omega) only [List.length_map, wrap64] at hc) <;> (try (exfalso; first | contradiction | omega)))
          | (refine callt (b := [I _]) v_impl_nodeOk rfl ⟨_, rfl, (by exact True.intro)⟩ (.inl rfl) (by first | assumption | omega) (fun r hr => K_impl_nodeOk (a := _) hr) (fun hj => ?_) (fun hj => ?_) <;> (try simp only [etaPa, etaIt, etaVo] at hj) <;> (try contradiction))
          | (refine ⟨⟨i + 1, ⟨rfl, rfl, rfl, congrArg I (wrap_up (n := b1.length) (by omega) (hp1)), trivial⟩, (by omega), (by intro j n hj' hn'; rcases Nat.lt_or_ge j i with h | h; exact hq j n h hn'; have e : j = i := (by omega); rw [e] at hn' ⊢; rw [hx] at hn'; cases hn'; exact hv), (by omega), (by exact h0_), rfl⟩, ?_⟩; show b1.length - ix (I _) < b1.length - ix (I _); simp only [wrap_up (n := b1.length) (i := i) (by omega) (hp1), ix, Int.toNat_natCast]; omega)
          | exact ⟨⟨_, rfl, rfl, b1, rfl, (by refine congrArg B (Eq.symm (tb_pos ?_)); (try dsimp only); first | done | exact absurd True.intro hj | (exact hbad))⟩, (by first | exact Nat.le_refl _ | omega), (by exact h0_)⟩
          | exact ⟨⟨_, rfl, rfl, b1, rfl, (by refine congrArg B (Eq.symm (tb_neg ?_)); (try dsimp only); first | done | exact absurd True.intro hj | (exact hbad))⟩, (by first | exact Nat.le_refl _ | omega), (by exact h0_)⟩
          | fail)
    · obtain ⟨y, hy⟩ : ∃ x, b1[i - 1]? = some x := ⟨_, List.getElem?_eq_getElem (by omega)⟩
      by_cases hin : In x 1 4
      · by_cases hlt : y < x
        · have hv : VtAt b1 i x := vt_step hx hin (fun m h hm => by rw [hy] at hm; cases hm; exact hlt)
          repeat' ((conv => whnf); first
            | refine ⟨_, rfl, ?_⟩
            | refine ⟨rfl, ?_⟩
            | refine ⟨_, _, rfl, at_map (by assumption), ?_⟩
            | refine idx_mapX (i := 0) rfl (by assumption) ?_
            | refine idx_map (by omega) (fun x hx => ?_)
            | refine idx_mapX (wrap_dn (by omega) (by omega)) (by assumption) ?_
            | refine idx_mapE (wrap_dn (by omega) (by omega)) (by omega) (fun x hx => ?_)
            | refine idx_mapL (by omega) (by first | assumption | (simp only [LIM]; omega)) (fun x hx => ?_)
            | refine idx_mapI (by omega) (by first | omega | (simp only [List.length_map] at *; omega)) (fun x hx => ?_)
            | refine ⟨_, ldc_cells hupd_at (Nat.le_of_ble_eq_true rfl), ?_⟩
            | refine ⟨_, ldc_cells (by first | assumption | exact zk ‹_› (by omega) | exact zk (zk ‹_› (by omega)) (by omega)) (Nat.le_of_ble_eq_true rfl), ?_⟩
            | (refine ⟨fun hc => ?_, fun hc => ?_⟩ <;> (try simp (disch := omega) only [List.length_map, wrap64] at hc) <;> (try (exfalso; first | contradiction | omega)))
            | (refine callt (b := [I _]) v_impl_nodeOk rfl ⟨_, rfl, (by exact True.intro)⟩ (.inl rfl) (by first | assumption | omega) (fun r hr => K_impl_nodeOk (a := _) hr) (fun hj => ?_) (fun hj => ?_) <;> (try simp only [etaPa, etaIt, etaVo] at hj) <;> (try contradiction))
            | (refine ⟨⟨i + 1, ⟨rfl, rfl, rfl, congrArg I (wrap_up (n := b1.length) (by omega) (hp1)), trivial⟩, (by omega), (by intro j n hj' hn'; rcases Nat.lt_or_ge j i with h | h; exact hq j n h hn'; have e : j = i := (by omega); rw [e] at hn' ⊢; rw [hx] at hn'; cases hn'; exact hv), (by omega), (by exact h0_), rfl⟩, ?_⟩; show b1.length - ix (I _) < b1.length - ix (I _); simp only [wrap_up (n := b1.length) (i := i) (by omega) (hp1), ix, Int.toNat_natCast]; omega)
            | exact ⟨⟨_, rfl, rfl, b1, rfl, (by refine congrArg B (Eq.symm (tb_pos ?_)); (try dsimp only); first | done | exact absurd True.intro hj | (skip))⟩, (by first | exact Nat.le_refl _ | omega), (by exact h0_)⟩
            | exact ⟨⟨_, rfl, rfl, b1, rfl, (by refine congrArg B (Eq.symm (tb_neg ?_)); (try dsimp only); first | done | exact absurd True.intro hj | (skip))⟩, (by first | exact Nat.le_refl _ | omega), (by exact h0_)⟩
            | fail)
        · have hbad : ¬ VtOk b1 := fun h => hlt ((h.1 i x hx).2 (i - 1) y (by omega) hy)
          repeat' ((conv => whnf); first
            | refine ⟨_, rfl, ?_⟩
            | refine ⟨rfl, ?_⟩
            | refine ⟨_, _, rfl, at_map (by assumption), ?_⟩
            | refine idx_mapX (i := 0) rfl (by assumption) ?_
            | refine idx_map (by omega) (fun x hx => ?_)
            | refine idx_mapX (wrap_dn (by omega) (by omega)) (by assumption) ?_
            | refine idx_mapE (wrap_dn (by omega) (by omega)) (by omega) (fun x hx => ?_)
            | refine idx_mapL (by omega) (by first | assumption | (simp only [LIM]; omega)) (fun x hx => ?_)
            | refine idx_mapI (by omega) (by first | omega | (simp only [List.length_map] at *; omega)) (fun x hx => ?_)
            | refine ⟨_, ldc_cells hupd_at (Nat.le_of_ble_eq_true rfl), ?_⟩
            | refine ⟨_, ldc_cells (by first | assumption | exact zk ‹_› (by omega) | exact zk (zk ‹_› (by omega)) (by omega)) (Nat.le_of_ble_eq_true rfl), ?_⟩
            | (refine ⟨fun hc => ?_, fun hc => ?_⟩ <;> (try simp (disch := omega) only [List.length_map, wrap64] at hc) <;> (try (exfalso; first | contradiction | omega)))
            | (refine callt (b := [I _]) v_impl_nodeOk rfl ⟨_, rfl, (by exact True.intro)⟩ (.inl rfl) (by first | assumption | omega) (fun r hr => K_impl_nodeOk (a := _) hr) (fun hj => ?_) (fun hj => ?_) <;> (try simp only [etaPa, etaIt, etaVo] at hj) <;> (try contradiction))
            | (refine ⟨⟨i + 1, ⟨rfl, rfl, rfl, congrArg I (wrap_up (n := b1.length) (by omega) (hp1)), trivial⟩, (by omega), (by intro j n hj' hn'; rcases Nat.lt_or_ge j i with h | h; exact hq j n h hn'; have e : j = i := (by omega); rw [e] at hn' ⊢; rw [hx] at hn'; cases hn'; exact hv), (by omega), (by exact h0_), rfl⟩, ?_⟩; show b1.length - ix (I _) < b1.length - ix (I _); simp only [wrap_up (n := b1.length) (i := i) (by omega) (hp1), ix, Int.toNat_natCast]; omega)
            | exact ⟨⟨_, rfl, rfl, b1, rfl, (by refine congrArg B (Eq.symm (tb_pos ?_)); (try dsimp only); first | done | exact absurd True.intro hj | (exact hbad))⟩, (by first | exact Nat.le_refl _ | omega), (by exact h0_)⟩
            | exact ⟨⟨_, rfl, rfl, b1, rfl, (by refine congrArg B (Eq.symm (tb_neg ?_)); (try dsimp only); first | done | exact absurd True.intro hj | (exact hbad))⟩, (by first | exact Nat.le_refl _ | omega), (by exact h0_)⟩
            | fail)
      · have hbad : ¬ VtOk b1 := fun h => hin (h.1 i x hx).1
        repeat' ((conv => whnf); first
          | refine ⟨_, rfl, ?_⟩
          | refine ⟨rfl, ?_⟩
          | refine ⟨_, _, rfl, at_map (by assumption), ?_⟩
          | refine idx_mapX (i := 0) rfl (by assumption) ?_
          | refine idx_map (by omega) (fun x hx => ?_)
          | refine idx_mapX (wrap_dn (by omega) (by omega)) (by assumption) ?_
          | refine idx_mapE (wrap_dn (by omega) (by omega)) (by omega) (fun x hx => ?_)
          | refine idx_mapL (by omega) (by first | assumption | (simp only [LIM]; omega)) (fun x hx => ?_)
          | refine idx_mapI (by omega) (by first | omega | (simp only [List.length_map] at *; omega)) (fun x hx => ?_)
          | refine ⟨_, ldc_cells hupd_at (Nat.le_of_ble_eq_true rfl), ?_⟩
          | refine ⟨_, ldc_cells (by first | assumption | exact zk ‹_› (by omega) | exact zk (zk ‹_› (by omega)) (by omega)) (Nat.le_of_ble_eq_true rfl), ?_⟩
          | (refine ⟨fun hc => ?_, fun hc => ?_⟩ <;> (try simp (disch := omega) only [List.length_map, wrap64] at hc) <;> (try (exfalso; first | contradiction | omega)))
          | (refine callt (b := [I _]) v_impl_nodeOk rfl ⟨_, rfl, (by exact True.intro)⟩ (.inl rfl) (by first | assumption | omega) (fun r hr => K_impl_nodeOk (a := _) hr) (fun hj => ?_) (fun hj => ?_) <;> (try simp only [etaPa, etaIt, etaVo] at hj) <;> (try contradiction))
          | (refine ⟨⟨i + 1, ⟨rfl, rfl, rfl, congrArg I (wrap_up (n := b1.length) (by omega) (hp1)), trivial⟩, (by omega), (by intro j n hj' hn'; rcases Nat.lt_or_ge j i with h | h; exact hq j n h hn'; have e : j = i := (by omega); rw [e] at hn' ⊢; rw [hx] at hn'; cases hn'; exact hv), (by omega), (by exact h0_), rfl⟩, ?_⟩; show b1.length - ix (I _) < b1.length - ix (I _); simp only [wrap_up (n := b1.length) (i := i) (by omega) (hp1), ix, Int.toNat_natCast]; omega)
          | exact ⟨⟨_, rfl, rfl, b1, rfl, (by refine congrArg B (Eq.symm (tb_pos ?_)); (try dsimp only); first | done | exact absurd True.intro hj | (exact hbad))⟩, (by first | exact Nat.le_refl _ | omega), (by exact h0_)⟩
          | exact ⟨⟨_, rfl, rfl, b1, rfl, (by refine congrArg B (Eq.symm (tb_neg ?_)); (try dsimp only); first | done | exact absurd True.intro hj | (exact hbad))⟩, (by first | exact Nat.le_refl _ | omega), (by exact h0_)⟩
          | fail)
  · have hall : ∀ j n, b1[j]? = some n → VtAt b1 j n := fun j n hn => hq j n (by have := (List.getElem?_eq_some_iff.1 hn).1; omega) hn
    repeat' ((conv => whnf); first
      | refine ⟨_, rfl, ?_⟩
      | refine ⟨rfl, ?_⟩
      | refine ⟨_, _, rfl, at_map (by assumption), ?_⟩
      | refine idx_mapX (i := 0) rfl (by assumption) ?_
      | refine idx_map (by omega) (fun x hx => ?_)
      | refine idx_mapX (wrap_dn (by omega) (by omega)) (by assumption) ?_
      | refine idx_mapE (wrap_dn (by omega) (by omega)) (by omega) (fun x hx => ?_)
      | refine idx_mapL (by omega) (by first | assumption | (simp only [LIM]; omega)) (fun x hx => ?_)
      | refine idx_mapI (by omega) (by first | omega | (simp only [List.length_map] at *; omega)) (fun x hx => ?_)
      | refine ⟨_, ldc_cells hupd_at (Nat.le_of_ble_eq_true rfl), ?_⟩
      | refine ⟨_, ldc_cells (by first | assumption | exact zk ‹_› (by omega) | exact zk (zk ‹_› (by omega)) (by omega)) (Nat.le_of_ble_eq_true rfl), ?_⟩
      | (refine ⟨fun hc => ?_, fun hc => ?_⟩ <;> (try simp (disch := omega) only [List.length_map, wrap64] at hc) <;> (try (exfalso; first | contradiction | omega)))
      | (refine ⟨⟨i + 1, ⟨rfl, rfl, rfl, congrArg I (wrap_up (n := b1.length) (by omega) (hp1)), trivial⟩, (by omega), (by intro j n hj' hn'; rcases Nat.lt_or_ge j i with h | h; exact hq j n h hn'; have e : j = i := (by omega); rw [e] at hn' ⊢; rw [hx] at hn'; cases hn'; exact hv), (by omega), (by exact h0_), rfl⟩, ?_⟩; show b1.length - ix (I _) < b1.length - ix (I _); simp only [wrap_up (n := b1.length) (i := i) (by omega) (hp1), ix, Int.toNat_natCast]; omega)
      | exact ⟨⟨_, rfl, rfl, b1, rfl, (by refine congrArg B (Eq.symm (tb_pos ?_)); (try dsimp only); first | done | exact absurd True.intro hj | (first | exact ⟨hall, by omega⟩ | exact fun h => by have := h.2; omega))⟩, (by first | exact Nat.le_refl _ | omega), (by exact h0_)⟩
      | exact ⟨⟨_, rfl, rfl, b1, rfl, (by refine congrArg B (Eq.symm (tb_neg ?_)); (try dsimp only); first | done | exact absurd True.intro hj | (first | exact ⟨hall, by omega⟩ | exact fun h => by have := h.2; omega))⟩, (by first | exact Nat.le_refl _ | omega), (by exact h0_)⟩
      | fail)
set_option maxHeartbeats 4000000 in
set_option maxRecDepth 100000 in
theorem v_spec_l13By : Valid Try.prog n_spec_l13By S_spec_l13By := by
  refine valid_of_swp mixed is_spec_l13By (by rintro _ ⟨a, rfl, _⟩; exact Nat.le_of_ble_eq_true rfl) ?_
  rintro _ rm ⟨b1, rfl, hpre⟩ hl
  try dsimp only at hpre
  have hpre0 := hpre
  have hp1 := hpre
  have hL := hp1
  simp only [LIM] at hL
  repeat' ((conv => whnf); first
    | refine ⟨_, rfl, ?_⟩
    | refine ⟨rfl, ?_⟩
    | refine ⟨_, _, rfl, at_map (by assumption), ?_⟩
    | refine idx_mapX (i := 0) rfl (by assumption) ?_
    | refine idx_map (by omega) (fun x hx => ?_)
    | refine idx_mapX (wrap_dn (by omega) (by omega)) (by assumption) ?_
    | refine idx_mapE (wrap_dn (by omega) (by omega)) (by omega) (fun x hx => ?_)
    | refine idx_mapL (by omega) (by first | assumption | (simp only [LIM]; omega)) (fun x hx => ?_)
    | refine idx_mapI (by omega) (by first | omega | (simp only [List.length_map] at *; omega)) (fun x hx => ?_)
    | refine ⟨_, ldc_cells hupd_at (Nat.le_of_ble_eq_true rfl), ?_⟩
    | refine ⟨_, ldc_cells (by first | assumption | exact zk ‹_› (by omega) | exact zk (zk ‹_› (by omega)) (by omega)) (Nat.le_of_ble_eq_true rfl), ?_⟩
    | (refine ⟨fun hc => ?_, fun hc => ?_⟩ <;> (try simp (disch := omega) only [List.length_map, wrap64] at hc))
    | fail)
  conv => whnf
  refine ⟨fun fr H nx rm' => ∃ (i : Nat), Has fr [(0, one (nsF b1)), (3, I i)] ∧ i ≤ b1.length ∧ (∀ j n, j < i → b1[j]? = some n → VtAt b1 j n) ∧ 1 ≤ nx ∧ H 0 = none ∧ rm' = rm,
    fun fr _ _ _ => b1.length - ix (fr 3), ⟨0, ⟨(by first | rfl | (show I _ = I _; simp)), (by first | rfl | (show I _ = I _; simp)), trivial⟩, Nat.zero_le _, (by intro j n h; omega), (by first | decide | omega), (by exact h0_), rfl⟩, ?_⟩
  rintro fr H nx rm' ⟨i, hfr, hi, hq, hnx, hH, rfl⟩
  rw [hfr.eq]
  rcases Nat.lt_or_ge i b1.length with hi' | hi'
  · obtain ⟨x, hx⟩ : ∃ x, b1[i]? = some x := ⟨_, List.getElem?_eq_getElem hi'⟩
    rcases Nat.eq_zero_or_pos i with h0 | h0
    · by_cases hin : In x 1 4
      · have hv : VtAt b1 i x := vt_step hx hin (fun m h => by omega)
        repeat' ((conv => whnf); first
          | refine ⟨_, rfl, ?_⟩
          | refine ⟨rfl, ?_⟩
          | refine ⟨_, _, rfl, at_map (by assumption), ?_⟩
          | refine idx_mapX (i := 0) rfl (by assumption) ?_
          | refine idx_map (by omega) (fun x hx => ?_)
          | refine idx_mapX (wrap_dn (by omega) (by omega)) (by assumption) ?_
          | refine idx_mapE (wrap_dn (by omega) (by omega)) (by omega) (fun x hx => ?_)
          | refine idx_mapL (by omega) (by first | assumption | (simp only [LIM]; omega)) (fun x hx => ?_)
          | refine idx_mapI (by omega) (by first | omega | (simp only [List.length_map] at *; omega)) (fun x hx => ?_)
          | refine ⟨_, ldc_cells hupd_at (Nat.le_of_ble_eq_true rfl), ?_⟩
          | refine ⟨_, ldc_cells (by first | assumption | exact zk ‹_› (by omega) | exact zk (zk ‹_› (by omega)) (by omega)) (Nat.le_of_ble_eq_true rfl), ?_⟩
          | (refine ⟨fun hc => ?_, fun hc => ?_⟩ <;> (try simp (disch := omega) only [List.length_map, wrap64] at hc) <;> (try (exfalso; first | contradiction | omega)))
          | (refine callt (b := [I _, I _, I _]) v_spec_l6In rfl ⟨(_, _, _), rfl, (by exact True.intro)⟩ (.inl rfl) (by first | assumption | omega) (fun r hr => K_spec_l6In (a := (_, _, _)) hr) (fun hj => ?_) (fun hj => ?_) <;> (try simp only [etaPa, etaIt, etaVo] at hj) <;> (try contradiction))
          | (refine ⟨⟨i + 1, ⟨rfl, congrArg I (wrap_up (n := b1.length) (by omega) (hp1)), trivial⟩, (by omega), (by intro j n hj' hn'; rcases Nat.lt_or_ge j i with h | h; exact hq j n h hn'; have e : j = i := (by omega); rw [e] at hn' ⊢; rw [hx] at hn'; cases hn'; exact hv), (by omega), (by exact h0_), rfl⟩, ?_⟩; show b1.length - ix (I _) < b1.length - ix (I _); simp only [wrap_up (n := b1.length) (i := i) (by omega) (hp1), ix, Int.toNat_natCast]; omega)
          | exact ⟨⟨_, rfl, rfl, b1, rfl, (by refine congrArg B (Eq.symm (tb_pos ?_)); (try dsimp only); first | done | exact absurd True.intro hj | (skip))⟩, (by first | exact Nat.le_refl _ | omega), (by exact h0_)⟩
          | exact ⟨⟨_, rfl, rfl, b1, rfl, (by refine congrArg B (Eq.symm (tb_neg ?_)); (try dsimp only); first | done | exact absurd True.intro hj | (skip))⟩, (by first | exact Nat.le_refl _ | omega), (by exact h0_)⟩
          | fail)
      · have hbad : ¬ VtOk b1 := fun h => hin (h.1 i x hx).1
        repeat' ((conv => whnf); first
          | refine ⟨_, rfl, ?_⟩
          | refine ⟨rfl, ?_⟩
          | refine ⟨_, _, rfl, at_map (by assumption), ?_⟩
          | refine idx_mapX (i := 0) rfl (by assumption) ?_
          | refine idx_map (by omega) (fun x hx => ?_)
          | refine idx_mapX (wrap_dn (by omega) (by omega)) (by assumption) ?_
          | refine idx_mapE (wrap_dn (by omega) (by omega)) (by omega) (fun x hx => ?_)
          | refine idx_mapL (by omega) (by first | assumption | (simp only [LIM]; omega)) (fun x hx => ?_)
          | refine idx_mapI (by omega) (by first | omega | (simp only [List.length_map] at *; omega)) (fun x hx => ?_)
          | refine ⟨_, ldc_cells hupd_at (Nat.le_of_ble_eq_true rfl), ?_⟩
          | refine ⟨_, ldc_cells (by first | assumption | exact zk ‹_› (by omega) | exact zk (zk ‹_› (by omega)) (by omega)) (Nat.le_of_ble_eq_true rfl), ?_⟩
          | (refine ⟨fun hc => ?_, fun hc => ?_⟩ <;> (try simp (disch := omega) only [List.length_map, wrap64] at hc) <;> (try (exfalso; first | contradiction | omega)))
          | (refine callt (b := [I _, I _, I _]) v_spec_l6In rfl ⟨(_, _, _), rfl, (by exact True.intro)⟩ (.inl rfl) (by first | assumption | omega) (fun r hr => K_spec_l6In (a := (_, _, _)) hr) (fun hj => ?_) (fun hj => ?_) <;> (try simp only [etaPa, etaIt, etaVo] at hj) <;> (try contradiction))
          | (refine ⟨⟨i + 1, ⟨rfl, congrArg I (wrap_up (n := b1.length) (by omega) (hp1)), trivial⟩, (by omega), (by intro j n hj' hn'; rcases Nat.lt_or_ge j i with h | h; exact hq j n h hn'; have e : j = i := (by omega); rw [e] at hn' ⊢; rw [hx] at hn'; cases hn'; exact hv), (by omega), (by exact h0_), rfl⟩, ?_⟩; show b1.length - ix (I _) < b1.length - ix (I _); simp only [wrap_up (n := b1.length) (i := i) (by omega) (hp1), ix, Int.toNat_natCast]; omega)
          | exact ⟨⟨_, rfl, rfl, b1, rfl, (by refine congrArg B (Eq.symm (tb_pos ?_)); (try dsimp only); first | done | exact absurd True.intro hj | (exact hbad))⟩, (by first | exact Nat.le_refl _ | omega), (by exact h0_)⟩
          | exact ⟨⟨_, rfl, rfl, b1, rfl, (by refine congrArg B (Eq.symm (tb_neg ?_)); (try dsimp only); first | done | exact absurd True.intro hj | (exact hbad))⟩, (by first | exact Nat.le_refl _ | omega), (by exact h0_)⟩
          | fail)
    · obtain ⟨y, hy⟩ : ∃ x, b1[i - 1]? = some x := ⟨_, List.getElem?_eq_getElem (by omega)⟩
      by_cases hin : In x 1 4
      · by_cases hlt : y < x
        · have hv : VtAt b1 i x := vt_step hx hin (fun m h hm => by rw [hy] at hm; cases hm; exact hlt)
          repeat' ((conv => whnf); first
            | refine ⟨_, rfl, ?_⟩
            | refine ⟨rfl, ?_⟩
            | refine ⟨_, _, rfl, at_map (by assumption), ?_⟩
            | refine idx_mapX (i := 0) rfl (by assumption) ?_
            | refine idx_map (by omega) (fun x hx => ?_)
            | refine idx_mapX (wrap_dn (by omega) (by omega)) (by assumption) ?_
            | refine idx_mapE (wrap_dn (by omega) (by omega)) (by omega) (fun x hx => ?_)
            | refine idx_mapL (by omega) (by first | assumption | (simp only [LIM]; omega)) (fun x hx => ?_)
            | refine idx_mapI (by omega) (by first | omega | (simp only [List.length_map] at *; omega)) (fun x hx => ?_)
            | refine ⟨_, ldc_cells hupd_at (Nat.le_of_ble_eq_true rfl), ?_⟩
            | refine ⟨_, ldc_cells (by first | assumption | exact zk ‹_› (by omega) | exact zk (zk ‹_› (by omega)) (by omega)) (Nat.le_of_ble_eq_true rfl), ?_⟩
            | (refine ⟨fun hc => ?_, fun hc => ?_⟩ <;> (try simp (disch := omega) only [List.length_map, wrap64] at hc) <;> (try (exfalso; first | contradiction | omega)))
            | (refine callt (b := [I _, I _, I _]) v_spec_l6In rfl ⟨(_, _, _), rfl, (by exact True.intro)⟩ (.inl rfl) (by first | assumption | omega) (fun r hr => K_spec_l6In (a := (_, _, _)) hr) (fun hj => ?_) (fun hj => ?_) <;> (try simp only [etaPa, etaIt, etaVo] at hj) <;> (try contradiction))
            | (refine ⟨⟨i + 1, ⟨rfl, congrArg I (wrap_up (n := b1.length) (by omega) (hp1)), trivial⟩, (by omega), (by intro j n hj' hn'; rcases Nat.lt_or_ge j i with h | h; exact hq j n h hn'; have e : j = i := (by omega); rw [e] at hn' ⊢; rw [hx] at hn'; cases hn'; exact hv), (by omega), (by exact h0_), rfl⟩, ?_⟩; show b1.length - ix (I _) < b1.length - ix (I _); simp only [wrap_up (n := b1.length) (i := i) (by omega) (hp1), ix, Int.toNat_natCast]; omega)
            | exact ⟨⟨_, rfl, rfl, b1, rfl, (by refine congrArg B (Eq.symm (tb_pos ?_)); (try dsimp only); first | done | exact absurd True.intro hj | (skip))⟩, (by first | exact Nat.le_refl _ | omega), (by exact h0_)⟩
            | exact ⟨⟨_, rfl, rfl, b1, rfl, (by refine congrArg B (Eq.symm (tb_neg ?_)); (try dsimp only); first | done | exact absurd True.intro hj | (skip))⟩, (by first | exact Nat.le_refl _ | omega), (by exact h0_)⟩
            | fail)
        · have hbad : ¬ VtOk b1 := fun h => hlt ((h.1 i x hx).2 (i - 1) y (by omega) hy)
          repeat' ((conv => whnf); first
            | refine ⟨_, rfl, ?_⟩
            | refine ⟨rfl, ?_⟩
            | refine ⟨_, _, rfl, at_map (by assumption), ?_⟩
            | refine idx_mapX (i := 0) rfl (by assumption) ?_
            | refine idx_map (by omega) (fun x hx => ?_)
            | refine idx_mapX (wrap_dn (by omega) (by omega)) (by assumption) ?_
            | refine idx_mapE (wrap_dn (by omega) (by omega)) (by omega) (fun x hx => ?_)
            | refine idx_mapL (by omega) (by first | assumption | (simp only [LIM]; omega)) (fun x hx => ?_)
            | refine idx_mapI (by omega) (by first | omega | (simp only [List.length_map] at *; omega)) (fun x hx => ?_)
            | refine ⟨_, ldc_cells hupd_at (Nat.le_of_ble_eq_true rfl), ?_⟩
            | refine ⟨_, ldc_cells (by first | assumption | exact zk ‹_› (by omega) | exact zk (zk ‹_› (by omega)) (by omega)) (Nat.le_of_ble_eq_true rfl), ?_⟩
            | (refine ⟨fun hc => ?_, fun hc => ?_⟩ <;> (try simp (disch := omega) only [List.length_map, wrap64] at hc) <;> (try (exfalso; first | contradiction | omega)))
            | (refine callt (b := [I _, I _, I _]) v_spec_l6In rfl ⟨(_, _, _), rfl, (by exact True.intro)⟩ (.inl rfl) (by first | assumption | omega) (fun r hr => K_spec_l6In (a := (_, _, _)) hr) (fun hj => ?_) (fun hj => ?_) <;> (try simp only [etaPa, etaIt, etaVo] at hj) <;> (try contradiction))
            | (refine ⟨⟨i + 1, ⟨rfl, congrArg I (wrap_up (n := b1.length) (by omega) (hp1)), trivial⟩, (by omega), (by intro j n hj' hn'; rcases Nat.lt_or_ge j i with h | h; exact hq j n h hn'; have e : j = i := (by omega); rw [e] at hn' ⊢; rw [hx] at hn'; cases hn'; exact hv), (by omega), (by exact h0_), rfl⟩, ?_⟩; show b1.length - ix (I _) < b1.length - ix (I _); simp only [wrap_up (n := b1.length) (i := i) (by omega) (hp1), ix, Int.toNat_natCast]; omega)
            | exact ⟨⟨_, rfl, rfl, b1, rfl, (by refine congrArg B (Eq.symm (tb_pos ?_)); (try dsimp only); first | done | exact absurd True.intro hj | (exact hbad))⟩, (by first | exact Nat.le_refl _ | omega), (by exact h0_)⟩
            | exact ⟨⟨_, rfl, rfl, b1, rfl, (by refine congrArg B (Eq.symm (tb_neg ?_)); (try dsimp only); first | done | exact absurd True.intro hj | (exact hbad))⟩, (by first | exact Nat.le_refl _ | omega), (by exact h0_)⟩
            | fail)
      · have hbad : ¬ VtOk b1 := fun h => hin (h.1 i x hx).1
        repeat' ((conv => whnf); first
          | refine ⟨_, rfl, ?_⟩
          | refine ⟨rfl, ?_⟩
          | refine ⟨_, _, rfl, at_map (by assumption), ?_⟩
          | refine idx_mapX (i := 0) rfl (by assumption) ?_
          | refine idx_map (by omega) (fun x hx => ?_)
          | refine idx_mapX (wrap_dn (by omega) (by omega)) (by assumption) ?_
          | refine idx_mapE (wrap_dn (by omega) (by omega)) (by omega) (fun x hx => ?_)
          | refine idx_mapL (by omega) (by first | assumption | (simp only [LIM]; omega)) (fun x hx => ?_)
          | refine idx_mapI (by omega) (by first | omega | (simp only [List.length_map] at *; omega)) (fun x hx => ?_)
          | refine ⟨_, ldc_cells hupd_at (Nat.le_of_ble_eq_true rfl), ?_⟩
          | refine ⟨_, ldc_cells (by first | assumption | exact zk ‹_› (by omega) | exact zk (zk ‹_› (by omega)) (by omega)) (Nat.le_of_ble_eq_true rfl), ?_⟩
          | (refine ⟨fun hc => ?_, fun hc => ?_⟩ <;> (try simp (disch := omega) only [List.length_map, wrap64] at hc) <;> (try (exfalso; first | contradiction | omega)))
          | (refine callt (b := [I _, I _, I _]) v_spec_l6In rfl ⟨(_, _, _), rfl, (by exact True.intro)⟩ (.inl rfl) (by first | assumption | omega) (fun r hr => K_spec_l6In (a := (_, _, _)) hr) (fun hj => ?_) (fun hj => ?_) <;> (try simp only [etaPa, etaIt, etaVo] at hj) <;> (try contradiction))
          | (refine ⟨⟨i + 1, ⟨rfl, congrArg I (wrap_up (n := b1.length) (by omega) (hp1)), trivial⟩, (by omega), (by intro j n hj' hn'; rcases Nat.lt_or_ge j i with h | h; exact hq j n h hn'; have e : j = i := (by omega); rw [e] at hn' ⊢; rw [hx] at hn'; cases hn'; exact hv), (by omega), (by exact h0_), rfl⟩, ?_⟩; show b1.length - ix (I _) < b1.length - ix (I _); simp only [wrap_up (n := b1.length) (i := i) (by omega) (hp1), ix, Int.toNat_natCast]; omega)
          | exact ⟨⟨_, rfl, rfl, b1, rfl, (by refine congrArg B (Eq.symm (tb_pos ?_)); (try dsimp only); first | done | exact absurd True.intro hj | (exact hbad))⟩, (by first | exact Nat.le_refl _ | omega), (by exact h0_)⟩
          | exact ⟨⟨_, rfl, rfl, b1, rfl, (by refine congrArg B (Eq.symm (tb_neg ?_)); (try dsimp only); first | done | exact absurd True.intro hj | (exact hbad))⟩, (by first | exact Nat.le_refl _ | omega), (by exact h0_)⟩
          | fail)
  · have hall : ∀ j n, b1[j]? = some n → VtAt b1 j n := fun j n hn => hq j n (by have := (List.getElem?_eq_some_iff.1 hn).1; omega) hn
    repeat' ((conv => whnf); first
      | refine ⟨_, rfl, ?_⟩
      | refine ⟨rfl, ?_⟩
      | refine ⟨_, _, rfl, at_map (by assumption), ?_⟩
      | refine idx_mapX (i := 0) rfl (by assumption) ?_
      | refine idx_map (by omega) (fun x hx => ?_)
      | refine idx_mapX (wrap_dn (by omega) (by omega)) (by assumption) ?_
      | refine idx_mapE (wrap_dn (by omega) (by omega)) (by omega) (fun x hx => ?_)
      | refine idx_mapL (by omega) (by first | assumption | (simp only [LIM]; omega)) (fun x hx => ?_)
      | refine idx_mapI (by omega) (by first | omega | (simp only [List.length_map] at *; omega)) (fun x hx => ?_)
      | refine ⟨_, ldc_cells hupd_at (Nat.le_of_ble_eq_true rfl), ?_⟩
      | refine ⟨_, ldc_cells (by first | assumption | exact zk ‹_› (by omega) | exact zk (zk ‹_› (by omega)) (by omega)) (Nat.le_of_ble_eq_true rfl), ?_⟩
      | (refine ⟨fun hc => ?_, fun hc => ?_⟩ <;> (try simp (disch := omega) only [List.length_map, wrap64] at hc) <;> (try (exfalso; first | contradiction | omega)))
      | (refine ⟨⟨i + 1, ⟨rfl, congrArg I (wrap_up (n := b1.length) (by omega) (hp1)), trivial⟩, (by omega), (by intro j n hj' hn'; rcases Nat.lt_or_ge j i with h | h; exact hq j n h hn'; have e : j = i := (by omega); rw [e] at hn' ⊢; rw [hx] at hn'; cases hn'; exact hv), (by omega), (by exact h0_), rfl⟩, ?_⟩; show b1.length - ix (I _) < b1.length - ix (I _); simp only [wrap_up (n := b1.length) (i := i) (by omega) (hp1), ix, Int.toNat_natCast]; omega)
      | exact ⟨⟨_, rfl, rfl, b1, rfl, (by refine congrArg B (Eq.symm (tb_pos ?_)); (try dsimp only); first | done | exact absurd True.intro hj | (first | exact ⟨hall, by omega⟩ | exact fun h => by have := h.2; omega))⟩, (by first | exact Nat.le_refl _ | omega), (by exact h0_)⟩
      | exact ⟨⟨_, rfl, rfl, b1, rfl, (by refine congrArg B (Eq.symm (tb_neg ?_)); (try dsimp only); first | done | exact absurd True.intro hj | (first | exact ⟨hall, by omega⟩ | exact fun h => by have := h.2; omega))⟩, (by first | exact Nat.le_refl _ | omega), (by exact h0_)⟩
      | fail)
set_option maxHeartbeats 4000000 in
set_option maxRecDepth 100000 in
theorem v_impl_CertOk_1 : Valid Try.prog n_impl_CertOk_1 S_impl_CertOk_1 := by
  refine valid_of_swp mixed is_impl_CertOk_1 (by rintro _ ⟨a, rfl, _⟩; exact Nat.le_of_ble_eq_true rfl) ?_
  rintro _ rm ⟨b1, rfl, hpre⟩ hl
  try dsimp only at hpre
  have hpre0 := hpre
  have hp1 := hpre
  repeat' ((conv => whnf); first
    | refine ⟨_, rfl, ?_⟩
    | refine ⟨rfl, ?_⟩
    | (refine ⟨fun hc => ?_, fun hc => ?_⟩ <;> (try simp (disch := omega) only [List.length_map, wrap64] at hc))
    | (refine callt (b := [one (nsF _)]) v_impl_votersOk rfl ⟨_, rfl, (by exact pr_)⟩ (.inl rfl) (by first | assumption | omega) (fun r hr => K_impl_votersOk (a := _) hr) (fun hj => ?_) (fun hj => ?_) <;> (try simp only [etaPa, etaIt, etaVo] at hj))
    | exact ⟨⟨_, rfl, rfl, b1, rfl, (by refine congrArg B (Eq.symm (tb_pos ?_)); (try dsimp only); first | done | exact absurd True.intro hj | (first | assumption | exact fun h => h hj))⟩, (by first | exact Nat.le_refl _ | omega), (by exact h0_)⟩
    | exact ⟨⟨_, rfl, rfl, b1, rfl, (by refine congrArg B (Eq.symm (tb_neg ?_)); (try dsimp only); first | done | exact absurd True.intro hj | (first | assumption | exact fun h => h hj))⟩, (by first | exact Nat.le_refl _ | omega), (by exact h0_)⟩
    | fail)
theorem v_slices_IndexFunc_nSS : Valid Try.prog n_slices_IndexFunc_nSS S_slices_IndexFunc_nSS := by
  refine valid_of_swp mixed (is_slices_IndexFunc_nSS S_impl_CertOk_1) (by rintro _ ⟨a, rfl, _⟩; exact Nat.le_of_ble_eq_true rfl) ?_
  rintro _ rm ⟨l, rfl, ⟨hl1, hl2⟩⟩ hl
  conv => whnf
  refine ⟨fun fr H nx rm' => ∃ i : Nat, Has fr [(0, one (nssF l)), (1, fnNoVt), (7, I l.length), (8, I i)] ∧ i ≤ l.length ∧ (∀ x, x ∈ l.take i → VtOk x) ∧ H 0 = none ∧ rm' = rm,
    fun fr _ _ _ => l.length - ix (fr 8), ⟨0, ⟨rfl, rfl, by show I _ = I _; simp, rfl, trivial⟩, Nat.zero_le _, by simp, rfl, rfl⟩, ?_⟩
  rintro fr H nx rm' ⟨i, hfr, hi, hq, hH, rfl⟩
  rw [hfr.eq]
  conv => whnf
  refine ⟨rfl, ?_⟩
  conv => whnf
  refine ⟨fun h2 => ?_, fun h2 => ?_⟩
  · have h2 : i < l.length := by simpa using h2
    obtain ⟨x, hx⟩ : ∃ x, l[i]? = some x := ⟨_, List.getElem?_eq_getElem h2⟩
    have hxm : x ∈ l := List.mem_of_getElem? hx
    conv => whnf
    refine ⟨rfl, i, _, rfl, at_map hx, ?_⟩
    conv => whnf
    refine ⟨_, rfl, ?_⟩
    conv => whnf
    refine ⟨⟨⟨x, rfl, hl2 x hxm⟩, rfl, rfl, v_impl_CertOk_1⟩, hl, fun r hr => ?_⟩
    rcases K_impl_CertOk_1 (a := x) hr.1 with ⟨h3, rfl⟩ | ⟨h3, rfl⟩
    · conv => whnf
      exact ⟨⟨_, rfl, rfl, l, rfl, i, rfl, iff_of_true (Int.natCast_nonneg i) ⟨x, hxm, h3⟩⟩, Nat.le_refl _, hH⟩
    · conv => whnf
      refine ⟨rfl, ?_⟩
      conv => whnf
      refine ⟨⟨i + 1, ⟨rfl, rfl, rfl, congrArg I (wrap_up h2 hl1), trivial⟩, h2, ?_, hH, rfl⟩, ?_⟩
      · intro y hy
        rcases (mem_take_succ hx).1 hy with hy | rfl
        · exact hq y hy
        · exact Classical.not_not.1 h3
      · show l.length - ix (I _) < l.length - ix (I _)
        simp only [wrap_up h2 hl1, ix, Int.toNat_natCast]
        omega
  · conv => whnf
    refine ⟨⟨_, rfl, rfl, l, rfl, -1, rfl, iff_of_false (by decide) ?_⟩, Nat.le_refl _, hH⟩
    have h2 : l.length ≤ i := by simpa using h2
    rw [List.take_of_length_le h2] at hq
    rintro ⟨x, hx, hn⟩
    exact hn (hq x hx)
theorem v_slices_ContainsFunc_nSS : Valid Try.prog n_slices_ContainsFunc_nSS S_slices_ContainsFunc_nSS := by
  refine valid_of_swp mixed is_slices_ContainsFunc_nSS (by rintro _ ⟨a, rfl, _⟩; exact Nat.le_of_ble_eq_true rfl) ?_
  rintro _ rm ⟨l, rfl, hfit⟩ hl
  conv => whnf
  refine ⟨⟨l, rfl, hfit⟩, v_slices_IndexFunc_nSS, .inl rfl, hl, fun r hr => ?_⟩
  obtain ⟨k, rfl, hk⟩ := K_slices_IndexFunc_nSS (a := l) hr
  conv => whnf
  refine ⟨rfl, ?_⟩
  conv => whnf
  refine ⟨fun h => ?_, fun h => ?_⟩
  · conv => whnf
    exact ⟨⟨_, rfl, rfl, l, rfl, congrArg B (tb_pos (hk.1 h)).symm⟩, Nat.le_refl _, rfl⟩
  · conv => whnf
    exact ⟨⟨_, rfl, rfl, l, rfl, congrArg B (tb_neg fun q => absurd (hk.2 q) (Int.not_le.2 h)).symm⟩, Nat.le_refl _, rfl⟩
theorem certOk_iff {c : Ce} (h3 : 3 ≤ c.c.length) : CertOk c ↔ ChainOk c.c ∧ finIn c.c = c.c.length - 1 ∧ c.b.length = 3 ∧ ¬ ∃ x, x ∈ c.b ∧ ¬ VtOk x := by
  unfold CertOk
  rw [fin_last h3]
  constructor
  · rintro ⟨h1, _, h4, h5, h6⟩; exact ⟨h1, h4, h5, fun ⟨x, hx, hn⟩ => hn (h6 x hx)⟩
  · rintro ⟨h1, h4, h5, h6⟩; exact ⟨h1, h3, h4, h5, fun x hx => Classical.not_not.1 fun hn => h6 ⟨x, hx, hn⟩⟩
set_option maxHeartbeats 4000000 in
set_option maxRecDepth 100000 in
theorem v_impl_CertOk : Valid Try.prog n_impl_CertOk S_impl_CertOk := by
  refine valid_of_swp mixed is_impl_CertOk (by rintro _ ⟨a, rfl, _⟩; exact Nat.le_of_ble_eq_true rfl) ?_
  rintro _ rm ⟨c, rfl, hpre⟩ hl
  try dsimp only at hpre
  have hpre0 := hpre
  have hp1 := hpre
  have cc_slices_ContainsFunc_nSS : S_slices_ContainsFunc_nSS.cost = 0 := rfl
  have hfc := hp1.1
  have hfb := hp1.2
  have hL := hfc
  simp only [LIM] at hL
  by_cases h3 : 3 ≤ c.c.length
  · have hw : IntKind.i64.wrap ((c.c.length : Int) - 1) = ((c.c.length - 1 : Nat) : Int) := by rw [wrap64] <;> omega
    have hiff := certOk_iff h3
    repeat' ((conv => whnf); first
      | (refine callt (b := [one (nssF _), fnNoVt]) v_slices_ContainsFunc_nSS rfl ⟨_, rfl, hfb⟩ (.inl rfl) (by first | assumption | omega) (fun r hr => K_slices_ContainsFunc_nSS hr) (fun hj => ?_) (fun hj => ?_))
      | refine ⟨_, rfl, ?_⟩
      | refine ⟨rfl, ?_⟩
      | refine ⟨_, ldc_cells hupd_at (Nat.le_of_ble_eq_true rfl), ?_⟩
      | refine ⟨_, ldc_cells (by first | assumption | exact zk ‹_› (by omega) | exact zk (zk ‹_› (by omega)) (by omega)) (Nat.le_of_ble_eq_true rfl), ?_⟩
      | (refine ⟨fun hc => ?_, fun hc => ?_⟩ <;> (try simp (disch := omega) only [List.length_map, wrap64] at hc))
      | (refine callt (b := [one (chF _)]) v_impl_ChainOk rfl ⟨_, rfl, (by exact pr_)⟩ (.inl rfl) (by first | assumption | omega) (fun r hr => K_impl_ChainOk (a := _) hr) (fun hj => ?_) (fun hj => ?_) <;> (try simp only [etaPa, etaIt, etaVo] at hj))
      | (refine calle (b := [one (chF _)]) v_impl_final rfl ⟨_, rfl, (by exact pr_)⟩ (.inl rfl) (by first | assumption | omega) (fun r hr => K_impl_final (a := _) hr) ?_)
      | exact ⟨⟨_, rfl, rfl, c, rfl, (by refine congrArg B (Eq.symm (tb_pos ?_)); (try dsimp only); first | done | exact absurd True.intro hj | ((rw [hiff]; first | exact ⟨by assumption, by omega, by omega, by assumption⟩ | (rintro ⟨q1, q2, q3, q4⟩; first | contradiction | omega | exact q4 hj))))⟩, (by first | exact Nat.le_refl _ | omega), (by exact h0_)⟩
      | exact ⟨⟨_, rfl, rfl, c, rfl, (by refine congrArg B (Eq.symm (tb_neg ?_)); (try dsimp only); first | done | exact absurd True.intro hj | ((rw [hiff]; first | exact ⟨by assumption, by omega, by omega, by assumption⟩ | (rintro ⟨q1, q2, q3, q4⟩; first | contradiction | omega | exact q4 hj))))⟩, (by first | exact Nat.le_refl _ | omega), (by exact h0_)⟩
      | fail)
  · have hbad : ¬ CertOk c := fun h => h3 h.2.1
    repeat' ((conv => whnf); first
      | refine ⟨_, rfl, ?_⟩
      | refine ⟨rfl, ?_⟩
      | refine ⟨_, ldc_cells hupd_at (Nat.le_of_ble_eq_true rfl), ?_⟩
      | refine ⟨_, ldc_cells (by first | assumption | exact zk ‹_› (by omega) | exact zk (zk ‹_› (by omega)) (by omega)) (Nat.le_of_ble_eq_true rfl), ?_⟩
      | (refine ⟨fun hc => ?_, fun hc => ?_⟩ <;> (try simp (disch := omega) only [List.length_map, wrap64] at hc) <;> (try (exfalso; first | contradiction | omega)))
      | (refine callt (b := [one (chF _)]) v_impl_ChainOk rfl ⟨_, rfl, (by exact pr_)⟩ (.inl rfl) (by first | assumption | omega) (fun r hr => K_impl_ChainOk (a := _) hr) (fun hj => ?_) (fun hj => ?_) <;> (try simp only [etaPa, etaIt, etaVo] at hj) <;> (try contradiction))
      | (refine calle (b := [one (chF _)]) v_impl_final rfl ⟨_, rfl, (by exact pr_)⟩ (.inl rfl) (by first | assumption | omega) (fun r hr => K_impl_final (a := _) hr) ?_)
      | exact ⟨⟨_, rfl, rfl, c, rfl, (by refine congrArg B (Eq.symm (tb_pos ?_)); (try dsimp only); first | done | exact absurd True.intro hj | (exact hbad))⟩, (by first | exact Nat.le_refl _ | omega), (by exact h0_)⟩
      | exact ⟨⟨_, rfl, rfl, c, rfl, (by refine congrArg B (Eq.symm (tb_neg ?_)); (try dsimp only); first | done | exact absurd True.intro hj | (exact hbad))⟩, (by first | exact Nat.le_refl _ | omega), (by exact h0_)⟩
      | fail)
set_option maxHeartbeats 4000000 in
set_option maxRecDepth 100000 in
theorem v_spec_CertOk : Valid Try.prog n_spec_CertOk S_spec_CertOk := by
  refine valid_of_swp mixed is_spec_CertOk (by rintro _ ⟨a, rfl, _⟩; exact Nat.le_of_ble_eq_true rfl) ?_
  rintro _ rm ⟨c, rfl, hpre⟩ hl
  try dsimp only at hpre
  have hpre0 := hpre
  have hp1 := hpre
  have hfc := hp1.1
  have hfb := hp1.2
  have hL := hfc
  simp only [LIM] at hL
  by_cases h3 : 3 ≤ c.c.length ∧ c.b.length = 3 ∧ ChainOk c.c
  · obtain ⟨h3, h4, h5⟩ := h3
    have w3 : IntKind.i64.wrap (((c.c.map itF).length : Int) - 3) = ((c.c.length - 3 : Nat) : Int) := by rw [List.length_map, wrap64] <;> omega
    have w2 : IntKind.i64.wrap (((c.c.map itF).length : Int) - 2) = ((c.c.length - 3 + 1 : Nat) : Int) := by rw [List.length_map, wrap64] <;> omega
    have w1 : IntKind.i64.wrap (((c.c.map itF).length : Int) - 1) = ((c.c.length - 3 + 2 : Nat) : Int) := by rw [List.length_map, wrap64] <;> omega
    obtain ⟨x, hx⟩ : ∃ x, c.c[c.c.length - 3]? = some x := ⟨_, List.getElem?_eq_getElem (by omega)⟩
    obtain ⟨y, hy⟩ : ∃ x, c.c[c.c.length - 3 + 1]? = some x := ⟨_, List.getElem?_eq_getElem (by omega)⟩
    obtain ⟨z, hz⟩ : ∃ x, c.c[c.c.length - 3 + 2]? = some x := ⟨_, List.getElem?_eq_getElem (by omega)⟩
    have hcon := con3_iff hx hy hz
    repeat' ((conv => whnf); first
      | refine ⟨_, rfl, ?_⟩
      | refine ⟨rfl, ?_⟩
      | refine ⟨_, _, rfl, at_map (by assumption), ?_⟩
      | refine idx_mapX (i := 0) rfl (by assumption) ?_
      | refine idx_map (by omega) (fun x hx => ?_)
      | refine idx_mapX (wrap_dn (by omega) (by omega)) (by assumption) ?_
      | refine idx_mapE (wrap_dn (by omega) (by omega)) (by omega) (fun x hx => ?_)
      | refine idx_mapL (by omega) (by first | assumption | (simp only [LIM]; omega)) (fun x hx => ?_)
      | refine idx_mapI (by omega) (by first | omega | (simp only [List.length_map] at *; omega)) (fun x hx => ?_)
      | refine ⟨_, ldc_cells hupd_at (Nat.le_of_ble_eq_true rfl), ?_⟩
      | refine ⟨_, ldc_cells (by first | assumption | exact zk ‹_› (by omega) | exact zk (zk ‹_› (by omega)) (by omega)) (Nat.le_of_ble_eq_true rfl), ?_⟩
      | (refine ⟨fun hc => ?_, fun hc => ?_⟩ <;> (try simp (disch := omega) only [List.length_map, wrap64] at hc) <;> (try (exfalso; first | contradiction | omega)))
      | (refine callt (b := [one (chF _)]) v_spec_ChainOk rfl ⟨_, rfl, (by exact pr_)⟩ (.inl rfl) (by first | assumption | omega) (fun r hr => K_spec_ChainOk (a := _) hr) (fun hj => ?_) (fun hj => ?_) <;> (try simp only [etaPa, etaIt, etaVo] at hj) <;> (try contradiction))
      | fail)
    conv => whnf
    refine ⟨fun fr H nx rm' => ∃ (i : Nat), Has fr [(1, .w (.o (.ptr 1 0))), (3, I (c.c.map itF).length), (4, I i)] ∧ i ≤ 3 ∧ (∀ j b, j < i → c.b[j]? = some b → VtOk b) ∧ H 1 = some (.cells ((ceF c).map AC.c)) ∧ 1 ≤ nx ∧ H 0 = none ∧ rm' = rm,
      fun fr _ _ _ => 3 - ix (fr 4), ⟨0, ⟨(by first | rfl | (show I _ = I _; simp)), (by first | rfl | (show I _ = I _; simp)), (by first | rfl | (show I _ = I _; simp)), trivial⟩, Nat.zero_le _, (by intro j b h; omega), rfl, (by first | decide | omega), (by exact h0_), rfl⟩, ?_⟩
    rintro fr H nx rm' ⟨i, hfr, hi, hq, hH1, hnx, hH, rfl⟩
    rw [hfr.eq]
    rcases Nat.lt_or_ge i 3 with hi' | hi'
    · obtain ⟨b, hb⟩ : ∃ x, c.b[i]? = some x := ⟨_, List.getElem?_eq_getElem (by omega)⟩
      have hbl := hp1.b hb
      by_cases hv : VtOk b
      · skip
        repeat' ((conv => whnf); first
          | refine ⟨_, _, rfl, at_map hb, ?_⟩
          | refine ⟨_, rfl, ?_⟩
          | refine ⟨rfl, ?_⟩
          | refine ⟨_, _, rfl, at_map (by assumption), ?_⟩
          | refine idx_mapX (i := 0) rfl (by assumption) ?_
          | refine idx_map (by omega) (fun x hx => ?_)
          | refine idx_mapX (wrap_dn (by omega) (by omega)) (by assumption) ?_
          | refine idx_mapE (wrap_dn (by omega) (by omega)) (by omega) (fun x hx => ?_)
          | refine idx_mapL (by omega) (by first | assumption | (simp only [LIM]; omega)) (fun x hx => ?_)
          | refine idx_mapI (by omega) (by first | omega | (simp only [List.length_map] at *; omega)) (fun x hx => ?_)
          | refine ⟨_, ldc_cells hupd_at (Nat.le_of_ble_eq_true rfl), ?_⟩
          | refine ⟨_, ldc_cells (by first | assumption | exact zk ‹_› (by omega) | exact zk (zk ‹_› (by omega)) (by omega)) (Nat.le_of_ble_eq_true rfl), ?_⟩
          | (refine ⟨fun hc => ?_, fun hc => ?_⟩ <;> (try simp (disch := omega) only [List.length_map, wrap64] at hc) <;> (try (exfalso; first | contradiction | omega)))
          | (refine callt (b := [one (nsF _)]) v_spec_l13By rfl ⟨_, rfl, (by exact pr_)⟩ (.inl rfl) (by first | assumption | omega) (fun r hr => K_spec_l13By (a := _) hr) (fun hj => ?_) (fun hj => ?_) <;> (try simp only [etaPa, etaIt, etaVo] at hj) <;> (try contradiction))
          | (refine ⟨⟨i + 1, ⟨rfl, rfl, congrArg I (wrap_up (n := 3) (by omega) (by decide)), trivial⟩, (by omega), (by intro j b hj' hb'; rcases Nat.lt_or_ge j i with h | h; exact hq j b h hb'; have e : j = i := (by omega); rw [e] at hb'; rw [hb] at hb'; cases hb'; exact hv), (by first | assumption | exact zk ‹_› (by omega)), (by omega), (by exact h0_), rfl⟩, ?_⟩; show 3 - ix (I _) < 3 - ix (I _); simp only [wrap_up (n := 3) (i := i) (by omega) (by decide), ix, Int.toNat_natCast]; omega)
          | fail)
      · have hbad : ¬ CertOk c := fun h => hv (h.2.2.2.2 b (List.mem_of_getElem? hb))
        repeat' ((conv => whnf); first
          | refine ⟨_, _, rfl, at_map hb, ?_⟩
          | refine ⟨_, rfl, ?_⟩
          | refine ⟨rfl, ?_⟩
          | refine ⟨_, _, rfl, at_map (by assumption), ?_⟩
          | refine idx_mapX (i := 0) rfl (by assumption) ?_
          | refine idx_map (by omega) (fun x hx => ?_)
          | refine idx_mapX (wrap_dn (by omega) (by omega)) (by assumption) ?_
          | refine idx_mapE (wrap_dn (by omega) (by omega)) (by omega) (fun x hx => ?_)
          | refine idx_mapL (by omega) (by first | assumption | (simp only [LIM]; omega)) (fun x hx => ?_)
          | refine idx_mapI (by omega) (by first | omega | (simp only [List.length_map] at *; omega)) (fun x hx => ?_)
          | refine ⟨_, ldc_cells hupd_at (Nat.le_of_ble_eq_true rfl), ?_⟩
          | refine ⟨_, ldc_cells (by first | assumption | exact zk ‹_› (by omega) | exact zk (zk ‹_› (by omega)) (by omega)) (Nat.le_of_ble_eq_true rfl), ?_⟩
          | (refine ⟨fun hc => ?_, fun hc => ?_⟩ <;> (try simp (disch := omega) only [List.length_map, wrap64] at hc) <;> (try (exfalso; first | contradiction | omega)))
          | (refine callt (b := [one (nsF _)]) v_spec_l13By rfl ⟨_, rfl, (by exact pr_)⟩ (.inl rfl) (by first | assumption | omega) (fun r hr => K_spec_l13By (a := _) hr) (fun hj => ?_) (fun hj => ?_) <;> (try simp only [etaPa, etaIt, etaVo] at hj) <;> (try contradiction))
          | (refine ⟨⟨i + 1, ⟨rfl, rfl, congrArg I (wrap_up (n := 3) (by omega) (by decide)), trivial⟩, (by omega), (by intro j b hj' hb'; rcases Nat.lt_or_ge j i with h | h; exact hq j b h hb'; have e : j = i := (by omega); rw [e] at hb'; rw [hb] at hb'; cases hb'; exact hv), (by first | assumption | exact zk ‹_› (by omega)), (by omega), (by exact h0_), rfl⟩, ?_⟩; show 3 - ix (I _) < 3 - ix (I _); simp only [wrap_up (n := 3) (i := i) (by omega) (by decide), ix, Int.toNat_natCast]; omega)
          | exact ⟨⟨_, rfl, rfl, c, rfl, (by refine congrArg B (Eq.symm (tb_pos ?_)); (try dsimp only); first | done | exact absurd True.intro hj | (exact hbad))⟩, (by first | exact Nat.le_refl _ | omega), (by exact h0_)⟩
          | exact ⟨⟨_, rfl, rfl, c, rfl, (by refine congrArg B (Eq.symm (tb_neg ?_)); (try dsimp only); first | done | exact absurd True.intro hj | (exact hbad))⟩, (by first | exact Nat.le_refl _ | omega), (by exact h0_)⟩
          | fail)
    · have hall : ∀ b, b ∈ c.b → VtOk b := by
        intro b hb
        obtain ⟨j, hj⟩ := List.mem_iff_getElem?.1 hb
        exact hq j b (by have := (List.getElem?_eq_some_iff.1 hj).1; omega) hj
      have hiff : CertOk c ↔ Nxt x.e y.e ∧ Nxt y.e z.e := by
        rw [← hcon]
        exact ⟨fun h => h.2.2.1, fun h => ⟨h5, h3, h, h4, hall⟩⟩
      repeat' ((conv => whnf); first
        | refine idx_mapX w3 hx ?_
        | refine idx_mapX w2 hy ?_
        | refine idx_mapX w1 hz ?_
        | refine ⟨_, rfl, ?_⟩
        | refine ⟨rfl, ?_⟩
        | refine ⟨_, _, rfl, at_map (by assumption), ?_⟩
        | refine idx_mapX (i := 0) rfl (by assumption) ?_
        | refine idx_map (by omega) (fun x hx => ?_)
        | refine idx_mapX (wrap_dn (by omega) (by omega)) (by assumption) ?_
        | refine idx_mapE (wrap_dn (by omega) (by omega)) (by omega) (fun x hx => ?_)
        | refine idx_mapL (by omega) (by first | assumption | (simp only [LIM]; omega)) (fun x hx => ?_)
        | refine idx_mapI (by omega) (by first | omega | (simp only [List.length_map] at *; omega)) (fun x hx => ?_)
        | refine ⟨_, ldc_cells hupd_at (Nat.le_of_ble_eq_true rfl), ?_⟩
        | refine ⟨_, ldc_cells (by first | assumption | exact zk ‹_› (by omega) | exact zk (zk ‹_› (by omega)) (by omega)) (Nat.le_of_ble_eq_true rfl), ?_⟩
        | (refine ⟨fun hc => ?_, fun hc => ?_⟩ <;> (try simp (disch := omega) only [List.length_map, wrap64] at hc) <;> (try (exfalso; first | contradiction | omega)))
        | (refine ⟨⟨i + 1, ⟨rfl, rfl, congrArg I (wrap_up (n := 3) (by omega) (by decide)), trivial⟩, (by omega), (by intro j b hj' hb'; rcases Nat.lt_or_ge j i with h | h; exact hq j b h hb'; have e : j = i := (by omega); rw [e] at hb'; rw [hb] at hb'; cases hb'; exact hv), (by first | assumption | exact zk ‹_› (by omega)), (by omega), (by exact h0_), rfl⟩, ?_⟩; show 3 - ix (I _) < 3 - ix (I _); simp only [wrap_up (n := 3) (i := i) (by omega) (by decide), ix, Int.toNat_natCast]; omega)
        | exact ⟨⟨_, rfl, rfl, c, rfl, (by refine congrArg B (Eq.symm (tb_pos ?_)); (try dsimp only); first | done | exact absurd True.intro hj | ((rw [hiff]; first | exact ⟨by assumption, by assumption⟩ | exact fun q => hc q.1 | exact fun q => hc q.2)))⟩, (by first | exact Nat.le_refl _ | omega), (by exact h0_)⟩
        | exact ⟨⟨_, rfl, rfl, c, rfl, (by refine congrArg B (Eq.symm (tb_neg ?_)); (try dsimp only); first | done | exact absurd True.intro hj | ((rw [hiff]; first | exact ⟨by assumption, by assumption⟩ | exact fun q => hc q.1 | exact fun q => hc q.2)))⟩, (by first | exact Nat.le_refl _ | omega), (by exact h0_)⟩
        | fail)
  · have hbad : ¬ CertOk c := fun h => h3 ⟨h.2.1, h.2.2.2.1, h.1⟩
    repeat' ((conv => whnf); first
      | refine ⟨_, rfl, ?_⟩
      | refine ⟨rfl, ?_⟩
      | refine ⟨_, _, rfl, at_map (by assumption), ?_⟩
      | refine idx_mapX (i := 0) rfl (by assumption) ?_
      | refine idx_map (by omega) (fun x hx => ?_)
      | refine idx_mapX (wrap_dn (by omega) (by omega)) (by assumption) ?_
      | refine idx_mapE (wrap_dn (by omega) (by omega)) (by omega) (fun x hx => ?_)
      | refine idx_mapL (by omega) (by first | assumption | (simp only [LIM]; omega)) (fun x hx => ?_)
      | refine idx_mapI (by omega) (by first | omega | (simp only [List.length_map] at *; omega)) (fun x hx => ?_)
      | refine ⟨_, ldc_cells hupd_at (Nat.le_of_ble_eq_true rfl), ?_⟩
      | refine ⟨_, ldc_cells (by first | assumption | exact zk ‹_› (by omega) | exact zk (zk ‹_› (by omega)) (by omega)) (Nat.le_of_ble_eq_true rfl), ?_⟩
      | (refine ⟨fun hc => ?_, fun hc => ?_⟩ <;> (try simp (disch := omega) only [List.length_map, wrap64] at hc) <;> (try (exfalso; first | contradiction | omega)))
      | (refine callt (b := [one (chF _)]) v_spec_ChainOk rfl ⟨_, rfl, (by exact pr_)⟩ (.inl rfl) (by first | assumption | omega) (fun r hr => K_spec_ChainOk (a := _) hr) (fun hj => ?_) (fun hj => ?_) <;> (try simp only [etaPa, etaIt, etaVo] at hj) <;> (try contradiction))
      | (refine ⟨⟨i + 1, ⟨rfl, rfl, congrArg I (wrap_up (n := 3) (by omega) (by decide)), trivial⟩, (by omega), (by intro j b hj' hb'; rcases Nat.lt_or_ge j i with h | h; exact hq j b h hb'; have e : j = i := (by omega); rw [e] at hb'; rw [hb] at hb'; cases hb'; exact hv), (by first | assumption | exact zk ‹_› (by omega)), (by omega), (by exact h0_), rfl⟩, ?_⟩; show 3 - ix (I _) < 3 - ix (I _); simp only [wrap_up (n := 3) (i := i) (by omega) (by decide), ix, Int.toNat_natCast]; omega)
      | exact ⟨⟨_, rfl, rfl, c, rfl, (by refine congrArg B (Eq.symm (tb_pos ?_)); (try dsimp only); first | done | exact absurd True.intro hj | (first | exact hbad | (exfalso; exact h3 ⟨by omega, by omega, by assumption⟩)))⟩, (by first | exact Nat.le_refl _ | omega), (by exact h0_)⟩
      | exact ⟨⟨_, rfl, rfl, c, rfl, (by refine congrArg B (Eq.symm (tb_neg ?_)); (try dsimp only); first | done | exact absurd True.intro hj | (first | exact hbad | (exfalso; exact h3 ⟨by omega, by omega, by assumption⟩)))⟩, (by first | exact Nat.le_refl _ | omega), (by exact h0_)⟩
      | (exfalso; exact h3 ⟨by omega, by omega, by assumption⟩)
      | fail)
set_option maxHeartbeats 4000000 in
set_option maxRecDepth 100000 in
theorem v_impl_CertFinal : Valid Try.prog n_impl_CertFinal S_impl_CertFinal := by
  refine valid_of_swp mixed is_impl_CertFinal (by rintro _ ⟨a, rfl, _⟩; exact Nat.le_of_ble_eq_true rfl) ?_
  rintro _ rm ⟨c, rfl, hpre⟩ hl
  try dsimp only at hpre
  have hpre0 := hpre
  have hp1 := hpre
  have hfc := hp1.1
  have hL := hfc
  simp only [LIM] at hL
  by_cases hok : CertOk c
  · have h3 := hok.2.1
    have hw : IntKind.i64.wrap (((c.c.map itF).length : Int) - 1) = ((c.c.length - 1 : Nat) : Int) := by rw [List.length_map, wrap64] <;> omega
    have e := certFin_ok hok
    repeat' ((conv => whnf); first
      | (refine ⟨_, slc_to (congrArg I hw) (by simp only [List.length_map]; omega), ?_⟩; rw [map_take'])
      | refine ⟨_, rfl, ?_⟩
      | refine ⟨rfl, ?_⟩
      | refine ⟨_, ldc_cells hupd_at (Nat.le_of_ble_eq_true rfl), ?_⟩
      | refine ⟨_, ldc_cells (by first | assumption | exact zk ‹_› (by omega) | exact zk (zk ‹_› (by omega)) (by omega)) (Nat.le_of_ble_eq_true rfl), ?_⟩
      | (refine ⟨fun hc => ?_, fun hc => ?_⟩ <;> (try simp (disch := omega) only [List.length_map, wrap64] at hc) <;> (try (exfalso; first | contradiction | omega)))
      | (refine ⟨_, slc_to rfl (by first | omega | (simp only [List.length_map] at *; omega)), ?_⟩; rw [map_take'])
      | (refine ⟨_, slc_toI rfl (by omega) (by first | omega | (simp only [List.length_map] at *; omega)), ?_⟩; rw [map_take'])
      | (refine callt (b := [agg (ceF ⟨_, _⟩)]) v_impl_CertOk rfl ⟨⟨_, _⟩, rfl, (by exact pr_)⟩ (.inl rfl) (by first | assumption | omega) (fun r hr => K_impl_CertOk (a := ⟨_, _⟩) hr) (fun hj => ?_) (fun hj => ?_) <;> (try simp only [etaPa, etaIt, etaVo] at hj) <;> (try contradiction))
      | (refine calle (b := [one (chF _)]) v_impl_copied rfl ⟨_, rfl, (by exact pr_)⟩ (.inl rfl) (by first | assumption | omega) (fun r hr => K_impl_copied (a := _) hr) ?_)
      | exact ⟨⟨_, rfl, rfl, c, rfl, rfl⟩, (by first | exact Nat.le_refl _ | omega), (by exact h0_)⟩
      | exact ⟨⟨_, rfl, rfl, c, rfl, (by refine congrArg one (?_ : (_ : FV) = _); (try dsimp only); first | done | exact absurd True.intro hj | (rw [e]))⟩, (by first | exact Nat.le_refl _ | omega), (by exact h0_)⟩
      | exact ⟨⟨[.o (.c _)], congrArg (fun x => some [AW.o x]) (bor_ow (by exact hk_) (by first | rfl | (exact fcellss_c _))), rfl, c, rfl, (by first | rfl | (refine congrArg one (?_ : (_ : FV) = _); (try dsimp only); first | done | exact absurd True.intro hj | (rw [e])))⟩, (by first | exact Nat.le_refl _ | omega), (by exact h0_)⟩
      | fail)
  · have e := certFin_no hok
    repeat' ((conv => whnf); first
      | refine ⟨_, rfl, ?_⟩
      | refine ⟨rfl, ?_⟩
      | refine ⟨_, ldc_cells hupd_at (Nat.le_of_ble_eq_true rfl), ?_⟩
      | refine ⟨_, ldc_cells (by first | assumption | exact zk ‹_› (by omega) | exact zk (zk ‹_› (by omega)) (by omega)) (Nat.le_of_ble_eq_true rfl), ?_⟩
      | (refine ⟨fun hc => ?_, fun hc => ?_⟩ <;> (try simp (disch := omega) only [List.length_map, wrap64] at hc) <;> (try (exfalso; first | contradiction | omega)))
      | (refine ⟨_, slc_to rfl (by first | omega | (simp only [List.length_map] at *; omega)), ?_⟩; rw [map_take'])
      | (refine ⟨_, slc_toI rfl (by omega) (by first | omega | (simp only [List.length_map] at *; omega)), ?_⟩; rw [map_take'])
      | (refine callt (b := [agg (ceF ⟨_, _⟩)]) v_impl_CertOk rfl ⟨⟨_, _⟩, rfl, (by exact pr_)⟩ (.inl rfl) (by first | assumption | omega) (fun r hr => K_impl_CertOk (a := ⟨_, _⟩) hr) (fun hj => ?_) (fun hj => ?_) <;> (try simp only [etaPa, etaIt, etaVo] at hj) <;> (try contradiction))
      | (refine calle (b := [one (chF _)]) v_impl_copied rfl ⟨_, rfl, (by exact pr_)⟩ (.inl rfl) (by first | assumption | omega) (fun r hr => K_impl_copied (a := _) hr) ?_)
      | exact ⟨⟨_, rfl, rfl, c, rfl, rfl⟩, (by first | exact Nat.le_refl _ | omega), (by exact h0_)⟩
      | exact ⟨⟨_, rfl, rfl, c, rfl, (by refine congrArg one (?_ : (_ : FV) = _); (try dsimp only); first | done | exact absurd True.intro hj | ((rw [e]; rfl)))⟩, (by first | exact Nat.le_refl _ | omega), (by exact h0_)⟩
      | exact ⟨⟨[.o (.c _)], congrArg (fun x => some [AW.o x]) (bor_ow (by exact hk_) (by first | rfl | (exact fcellss_c _))), rfl, c, rfl, (by first | rfl | (refine congrArg one (?_ : (_ : FV) = _); (try dsimp only); first | done | exact absurd True.intro hj | ((rw [e]; rfl))))⟩, (by first | exact Nat.le_refl _ | omega), (by exact h0_)⟩
      | fail)
set_option maxHeartbeats 4000000 in
set_option maxRecDepth 100000 in
theorem v_spec_CertFinal : Valid Try.prog n_spec_CertFinal S_spec_CertFinal := by
  refine valid_of_swp mixed is_spec_CertFinal (by rintro _ ⟨a, rfl, _⟩; exact Nat.le_of_ble_eq_true rfl) ?_
  rintro _ rm ⟨c, rfl, hpre⟩ hl
  try dsimp only at hpre
  have hpre0 := hpre
  have hp1 := hpre
  have hfc := hp1.1
  have hL := hfc
  simp only [LIM] at hL
  by_cases hok : CertOk c
  · have h3 := hok.2.1
    have hw : IntKind.i64.wrap (((c.c.map itF).length : Int) - 1) = ((c.c.length - 1 : Nat) : Int) := by rw [List.length_map, wrap64] <;> omega
    have e := certFin_ok hok
    repeat' ((conv => whnf); first
      | (refine ⟨_, slc_to (congrArg I hw) (by simp only [List.length_map]; omega), ?_⟩; rw [map_take'])
      | refine ⟨_, rfl, ?_⟩
      | refine ⟨rfl, ?_⟩
      | refine ⟨_, ldc_cells hupd_at (Nat.le_of_ble_eq_true rfl), ?_⟩
      | refine ⟨_, ldc_cells (by first | assumption | exact zk ‹_› (by omega) | exact zk (zk ‹_› (by omega)) (by omega)) (Nat.le_of_ble_eq_true rfl), ?_⟩
      | refine ⟨_, ldc_pa (by exact hk_) (at_mapA (by assumption)) (Nat.le_of_ble_eq_true rfl), ?_⟩
      | refine ⟨_, _, _, ((by exact hk_) : (_ : Option Ob) = _), ?_⟩
      | refine ⟨_, ((by exact hk_) : (_ : Option Ob) = _), ?_⟩
      | (refine ⟨fun hc => ?_, fun hc => ?_⟩ <;> (try simp (disch := omega) only [List.length_map, wrap64] at hc) <;> (try (exfalso; first | contradiction | omega)))
      | (refine ⟨_, slc_to rfl (by first | omega | (simp only [List.length_map] at *; omega)), ?_⟩; rw [map_take'])
      | (refine ⟨_, slc_toI rfl (by omega) (by first | omega | (simp only [List.length_map] at *; omega)), ?_⟩; rw [map_take'])
      | (refine callt (b := [agg (ceF ⟨_, _⟩)]) v_spec_CertOk rfl ⟨⟨_, _⟩, rfl, (by exact pr_)⟩ (.inl rfl) (by first | assumption | omega) (fun r hr => K_spec_CertOk (a := ⟨_, _⟩) hr) (fun hj => ?_) (fun hj => ?_) <;> (try simp only [etaPa, etaIt, etaVo] at hj) <;> (try contradiction))
      | (refine calle (b := [one (chF _)]) v_spec_l1Copy rfl ⟨_, rfl, (by exact pr_)⟩ (.inl rfl) (by first | assumption | omega) (fun r hr => K_spec_l1Copy (a := _) hr) ?_)
      | exact ⟨⟨_, rfl, rfl, c, rfl, rfl⟩, (by first | exact Nat.le_refl _ | omega), (by exact h0_)⟩
      | exact ⟨⟨_, rfl, rfl, c, rfl, (by refine congrArg one (?_ : (_ : FV) = _); (try dsimp only); first | done | exact absurd True.intro hj | (rw [e]))⟩, (by first | exact Nat.le_refl _ | omega), (by exact h0_)⟩
      | exact ⟨⟨[.o (.c _)], congrArg (fun x => some [AW.o x]) (bor_ow (by exact hk_) (by first | rfl | (exact fcellss_c _))), rfl, c, rfl, (by first | rfl | (refine congrArg one (?_ : (_ : FV) = _); (try dsimp only); first | done | exact absurd True.intro hj | (rw [e])))⟩, (by first | exact Nat.le_refl _ | omega), (by exact h0_)⟩
      | fail)
  · have e := certFin_no hok
    repeat' ((conv => whnf); first
      | refine ⟨_, rfl, ?_⟩
      | refine ⟨rfl, ?_⟩
      | refine ⟨_, ldc_cells hupd_at (Nat.le_of_ble_eq_true rfl), ?_⟩
      | refine ⟨_, ldc_cells (by first | assumption | exact zk ‹_› (by omega) | exact zk (zk ‹_› (by omega)) (by omega)) (Nat.le_of_ble_eq_true rfl), ?_⟩
      | refine ⟨_, ldc_pa (by exact hk_) (at_mapA (by assumption)) (Nat.le_of_ble_eq_true rfl), ?_⟩
      | refine ⟨_, _, _, ((by exact hk_) : (_ : Option Ob) = _), ?_⟩
      | refine ⟨_, ((by exact hk_) : (_ : Option Ob) = _), ?_⟩
      | (refine ⟨fun hc => ?_, fun hc => ?_⟩ <;> (try simp (disch := omega) only [List.length_map, wrap64] at hc) <;> (try (exfalso; first | contradiction | omega)))
      | (refine ⟨_, slc_to rfl (by first | omega | (simp only [List.length_map] at *; omega)), ?_⟩; rw [map_take'])
      | (refine ⟨_, slc_toI rfl (by omega) (by first | omega | (simp only [List.length_map] at *; omega)), ?_⟩; rw [map_take'])
      | (refine callt (b := [agg (ceF ⟨_, _⟩)]) v_spec_CertOk rfl ⟨⟨_, _⟩, rfl, (by exact pr_)⟩ (.inl rfl) (by first | assumption | omega) (fun r hr => K_spec_CertOk (a := ⟨_, _⟩) hr) (fun hj => ?_) (fun hj => ?_) <;> (try simp only [etaPa, etaIt, etaVo] at hj) <;> (try contradiction))
      | (refine calle (b := [one (chF _)]) v_spec_l1Copy rfl ⟨_, rfl, (by exact pr_)⟩ (.inl rfl) (by first | assumption | omega) (fun r hr => K_spec_l1Copy (a := _) hr) ?_)
      | exact ⟨⟨_, rfl, rfl, c, rfl, rfl⟩, (by first | exact Nat.le_refl _ | omega), (by exact h0_)⟩
      | exact ⟨⟨_, rfl, rfl, c, rfl, (by refine congrArg one (?_ : (_ : FV) = _); (try dsimp only); first | done | exact absurd True.intro hj | ((rw [e]; rfl)))⟩, (by first | exact Nat.le_refl _ | omega), (by exact h0_)⟩
      | exact ⟨⟨[.o (.c _)], congrArg (fun x => some [AW.o x]) (bor_ow (by exact hk_) (by first | rfl | (exact fcellss_c _))), rfl, c, rfl, (by first | rfl | (refine congrArg one (?_ : (_ : FV) = _); (try dsimp only); first | done | exact absurd True.intro hj | ((rw [e]; rfl))))⟩, (by first | exact Nat.le_refl _ | omega), (by exact h0_)⟩
      | fail)
end Av
end Go.Proofs.Ytdboofnogabefaa
