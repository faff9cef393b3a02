/- The walks: the law FnCertVotes. -/
import Derived.Test.YtocfcnkfjfpoaaaU5
import Derived.Test.YtocfcnkfjfpoaaaQ5
set_option linter.unusedVariables false
set_option linter.unusedSimpArgs false
namespace Go.Proofs.Ytocfcnkfjfpoaaa
namespace Av
open Go.RowKit

attribute [local irreducible] certVotes votesFor
attribute [local irreducible] Valid ValidM
set_option maxHeartbeats 4000000 in
set_option maxRecDepth 100000 in
theorem v_laws_FnCertVotes : Valid Try.prog n_laws_FnCertVotes S_laws_FnCertVotes := by
  refine valid_of_swp mixed is_laws_FnCertVotes (by rintro _ ⟨a, rfl, _⟩; exact Nat.le_of_ble_eq_true rfl) ?_
  rintro _ rm ⟨code, rfl, hpre⟩ hl
  try dsimp only at hpre
  have hpre0 := hpre
  have hp1 := hpre
  have cc_laws_FnCertVotes : S_laws_FnCertVotes.cost = 200000 := rfl
  have cc_spec_DrawCertVotes : S_spec_DrawCertVotes.cost = 60000 := rfl
  have cc_impl_CertVotes : S_impl_CertVotes.cost = 0 := rfl
  have cc_spec_CertVotes : S_spec_CertVotes.cost = 0 := rfl
  have cc_laws_lwVotes : S_laws_lwVotes.cost = 0 := rfl
  have cc_spec_CertOk : S_spec_CertOk.cost = 0 := rfl
  have cc_impl_VotesFor : S_impl_VotesFor.cost = 0 := rfl
  have cc_laws_lwInts : S_laws_lwInts.cost = 0 := rfl
  have cc_impl_VotesOk : S_impl_VotesOk.cost = 0 := rfl
  repeat' ((conv => whnf); first
    | refine ⟨_, rfl, ?_⟩
    | refine ⟨rfl, ?_⟩
    | refine ⟨_, _, rfl, at_map (by assumption), ?_⟩
    | refine idx_mapX (i := 0) rfl (by assumption) ?_
    | refine idx_map (by omega) (fun x hx => ?_)
    | refine idx_mapX (wrap_dn (by omega) (by omega)) (by assumption) ?_
    | refine idx_mapE (wrap_dn (by omega) (by omega)) (by omega) (fun x hx => ?_)
    | refine idx_mapL (by omega) (by first | assumption | (simp only [LIM]; omega)) (fun x hx => ?_)
    | refine idx_mapI (by omega) (by first | omega | (simp only [List.length_map] at *; omega)) (fun x hx => ?_)
    | refine ⟨_, ldc_cells hupd_at (Nat.le_of_ble_eq_true rfl), ?_⟩
    | refine ⟨_, ldc_cells (by first | assumption | exact zk ‹_› (by omega) | exact zk (zk ‹_› (by omega)) (by omega)) (Nat.le_of_ble_eq_true rfl), ?_⟩
    | refine ⟨_, _, hupd_at, rfl, rfl, Nat.le_of_ble_eq_true rfl, ?_⟩
    | refine ⟨_, _, rfl, rfl, rfl, Nat.le_of_ble_eq_true rfl, ?_⟩
    | (refine ⟨fun hc => ?_, fun hc => ?_⟩ <;> (try simp (disch := omega) only [List.length_map, wrap64] at hc))
    | (refine ⟨_, slc_to rfl (by first | omega | (simp only [List.length_map] at *; omega)), ?_⟩; rw [map_take'])
    | (refine ⟨_, slc_toI rfl (by omega) (by first | omega | (simp only [List.length_map] at *; omega)), ?_⟩; rw [map_take'])
    | (refine callk (b := [one (byF _)]) v_spec_DrawCertVotes rfl ⟨_, rfl, (by exact pr_)⟩ (.inl rfl) (by omega) (fun r hr => ?_); have hj := K_spec_DrawCertVotes (a := _) hr; clear hr; obtain ⟨c, rfl, hdc⟩ := hj)
    | exact ⟨⟨_, rfl, rfl, code, rfl, (by unfold R_laws_FnCertVotes; dsimp only; first | done | exact absurd True.intro hj | (rfl))⟩, (by first | exact Nat.le_refl _ | omega), (by exact h0_)⟩
    | fail)
  have hfc := hdc.fit
  have hc1 := hfc.1
  have hL := hc1
  simp only [LIM] at hL
  by_cases hok : CertOk c
  · obtain ⟨hfv, hfl⟩ := rows_fit hok hfc
    have h3 := hok.2.1
    have hb3 := hok.2.2.2.1
    have hvo := rows_ok hok
    obtain ⟨b0, h0⟩ : ∃ x, c.b[0]? = some x := ⟨_, List.getElem?_eq_getElem (by omega)⟩
    obtain ⟨b1, h1⟩ : ∃ x, c.b[1]? = some x := ⟨_, List.getElem?_eq_getElem (by omega)⟩
    obtain ⟨b2, h2⟩ : ∃ x, c.b[2]? = some x := ⟨_, List.getElem?_eq_getElem (by omega)⟩
    have hbe : c.b = [b0, b1, b2] := by
      have : c.b.length = 3 := hb3
      match hcb : c.b, this, h0, h1, h2 with
      | [x, y, z], _, h0, h1, h2 => simp at h0 h1 h2; rw [h0, h1, h2]
    have hl0 : b0.length ≤ 4 := hdc.2.2 _ (List.mem_of_getElem? h0)
    have hl1 : b1.length ≤ 4 := hdc.2.2 _ (List.mem_of_getElem? h1)
    have hl2 : b2.length ≤ 4 := hdc.2.2 _ (List.mem_of_getElem? h2)
    have hlen : (certVotes c).length = b0.length + b1.length + b2.length := by
      rw [certVotes_ok hok, rows_len, hbe]; simp only [List.map_cons, List.map_nil, List.sum_cons, List.sum_nil]; omega
    have w1 : IntKind.i64.wrap (((b0.map fun n => [fI n]).length : Int) + ((b1.map fun n => [fI n]).length : Int)) = ((b0.length + b1.length : Nat) : Int) := by rw [List.length_map, List.length_map, wrap64] <;> omega
    have w2 : IntKind.i64.wrap (((b0.length + b1.length : Nat) : Int) + ((b2.map fun n => [fI n]).length : Int)) = ((b0.length + b1.length + b2.length : Nat) : Int) := by rw [List.length_map, wrap64] <;> omega
    repeat' ((conv => whnf); first
      | refine ⟨_, rfl, ?_⟩
      | refine ⟨rfl, ?_⟩
      | refine ⟨_, _, rfl, at_map (by assumption), ?_⟩
      | refine idx_mapX (i := 0) rfl (by assumption) ?_
      | refine idx_map (by omega) (fun x hx => ?_)
      | refine idx_mapX (wrap_dn (by omega) (by omega)) (by assumption) ?_
      | refine idx_mapE (wrap_dn (by omega) (by omega)) (by omega) (fun x hx => ?_)
      | refine idx_mapL (by omega) (by first | assumption | (simp only [LIM]; omega)) (fun x hx => ?_)
      | refine idx_mapI (by omega) (by first | omega | (simp only [List.length_map] at *; omega)) (fun x hx => ?_)
      | refine ⟨_, ldc_cells hupd_at (Nat.le_of_ble_eq_true rfl), ?_⟩
      | refine ⟨_, ldc_cells (by first | assumption | exact zk ‹_› (by omega) | exact zk (zk ‹_› (by omega)) (by omega)) (Nat.le_of_ble_eq_true rfl), ?_⟩
      | refine ⟨_, _, hupd_at, rfl, rfl, Nat.le_of_ble_eq_true rfl, ?_⟩
      | refine ⟨_, _, rfl, rfl, rfl, Nat.le_of_ble_eq_true rfl, ?_⟩
      | (refine ⟨fun hc => ?_, fun hc => ?_⟩ <;> (try simp (disch := omega) only [List.length_map, wrap64] at hc) <;> (try (exfalso; first | contradiction | omega)))
      | (refine ⟨_, slc_to rfl (by first | omega | (simp only [List.length_map] at *; omega)), ?_⟩; rw [map_take'])
      | (refine ⟨_, slc_toI rfl (by omega) (by first | omega | (simp only [List.length_map] at *; omega)), ?_⟩; rw [map_take'])
      | (refine calle (b := [agg (ceF ⟨_, _⟩)]) v_impl_CertVotes rfl ⟨⟨_, _⟩, rfl, (by exact pr_)⟩ (.inl rfl) (by first | assumption | omega) (fun r hr => K_impl_CertVotes (a := ⟨_, _⟩) hr) ?_)
      | (refine calle (b := [agg (ceF ⟨_, _⟩)]) v_spec_CertVotes rfl ⟨⟨_, _⟩, rfl, (by exact pr_)⟩ (.inl rfl) (by first | assumption | omega) (fun r hr => K_spec_CertVotes (a := ⟨_, _⟩) hr) ?_)
      | (refine callt (b := [one (vsF _), one (vsF _)]) v_laws_lwVotes rfl ⟨(_, _), rfl, (by refine ⟨?_, ?_⟩ <;> (exact pr_))⟩ (.inl rfl) (by first | assumption | omega) (fun r hr => K_laws_lwVotes (a := (_, _)) hr) (fun hj => ?_) (fun hj => ?_) <;> (try simp only [etaPa, etaIt, etaVo] at hj) <;> (try contradiction))
      | (refine callt (b := [agg (ceF ⟨_, _⟩)]) v_spec_CertOk rfl ⟨⟨_, _⟩, rfl, (by exact pr_)⟩ (.inl rfl) (by first | assumption | omega) (fun r hr => K_spec_CertOk (a := ⟨_, _⟩) hr) (fun hj => ?_) (fun hj => ?_) <;> (try simp only [etaPa, etaIt, etaVo] at hj) <;> (try contradiction))
      | fail)
    conv => whnf
    refine ⟨fun fr H nx rm' => ∃ (i : Nat) (k3 : Nat), Has fr [(3, .w (.o (.ptr k3 0))), (4, one (vsF (certVotes c))), (5, I (c.c.map itF).length), (6, I i)] ∧ i ≤ 3 ∧ (True) ∧ H k3 = some (.cells ((ceF c).map AC.c)) ∧ 1 ≤ k3 ∧ k3 < nx ∧ 1 ≤ nx ∧ H 0 = none ∧ rm' ≤ rm + 100000,
      fun fr _ _ _ => 3 - ix (fr 6), ⟨0, _, ⟨(by first | rfl | (show I _ = I _; simp)), (by first | rfl | (show I _ = I _; simp)), (by first | rfl | (show I _ = I _; simp)), (by first | rfl | (show I _ = I _; simp)), trivial⟩, Nat.zero_le _, (by trivial), hk_, ln_, ln_, (by first | decide | omega), (by exact h0_), (by omega)⟩, ?_⟩
    rintro fr H nx rm' ⟨i, k3, hfr, hi, hq, hk3, hk31, hk3n, hnx, hH, hrm⟩
    rw [hfr.eq]
    rcases Nat.lt_or_ge i 3 with hi' | hi'
    · obtain ⟨b, hb⟩ : ∃ x, c.b[i]? = some x := ⟨_, List.getElem?_eq_getElem (by omega)⟩
      have hbl := hfc.b hb
      have hrf := rows_for hok hb
      have hw : IntKind.i64.wrap (IntKind.i64.wrap (((c.c.map itF).length : Int) - 2) + (i : Int)) = ((c.c.length - 2 + i : Nat) : Int) := by
        rw [List.length_map, wrap64 (n := (c.c.length : Int) - 2) (by omega) (by omega), wrap64] <;> omega
      have hct : (c.c.take (c.c.length - 2 + i)).length ≤ LIM := by simp only [List.length_take]; omega
      have hvl : (votesFor (certVotes c) (c.c.take (c.c.length - 2 + i))).length ≤ LIM := by rw [hrf]; exact hbl
      repeat' ((conv => whnf); first
        | refine ⟨_, _, rfl, at_map hb, ?_⟩
        | (refine ⟨_, slc_to (congrArg I hw) (by simp only [List.length_map]; omega), ?_⟩; rw [map_take'])
        | refine ⟨_, rfl, ?_⟩
        | refine ⟨rfl, ?_⟩
        | refine ⟨_, _, rfl, at_map (by assumption), ?_⟩
        | refine idx_mapX (i := 0) rfl (by assumption) ?_
        | refine idx_map (by omega) (fun x hx => ?_)
        | refine idx_mapX (wrap_dn (by omega) (by omega)) (by assumption) ?_
        | refine idx_mapE (wrap_dn (by omega) (by omega)) (by omega) (fun x hx => ?_)
        | refine idx_mapL (by omega) (by first | assumption | (simp only [LIM]; omega)) (fun x hx => ?_)
        | refine idx_mapI (by omega) (by first | omega | (simp only [List.length_map] at *; omega)) (fun x hx => ?_)
        | refine ⟨_, ldc_cells hupd_at (Nat.le_of_ble_eq_true rfl), ?_⟩
        | refine ⟨_, ldc_cells (by first | assumption | exact zk ‹_› (by omega) | exact zk (zk ‹_› (by omega)) (by omega)) (Nat.le_of_ble_eq_true rfl), ?_⟩
        | refine ⟨_, _, hupd_at, rfl, rfl, Nat.le_of_ble_eq_true rfl, ?_⟩
        | refine ⟨_, _, rfl, rfl, rfl, Nat.le_of_ble_eq_true rfl, ?_⟩
        | (refine ⟨fun hc => ?_, fun hc => ?_⟩ <;> (try simp (disch := omega) only [List.length_map, wrap64] at hc) <;> (try (exfalso; first | contradiction | omega)))
        | (refine ⟨_, slc_to rfl (by first | omega | (simp only [List.length_map] at *; omega)), ?_⟩; rw [map_take'])
        | (refine ⟨_, slc_toI rfl (by omega) (by first | omega | (simp only [List.length_map] at *; omega)), ?_⟩; rw [map_take'])
        | (refine calle (b := [one (vsF _), one (chF _)]) v_impl_VotesFor rfl ⟨(_, _), rfl, (by refine ⟨?_, ?_⟩ <;> (exact pr_))⟩ (.inl rfl) (by first | assumption | omega) (fun r hr => K_impl_VotesFor (a := (_, _)) hr) ?_)
        | (refine callt (b := [one (nsF _), one (nsF _)]) v_laws_lwInts rfl ⟨(_, _), rfl, (by refine ⟨?_, ?_⟩ <;> (exact pr_))⟩ (.inl rfl) (by first | assumption | omega) (fun r hr => K_laws_lwInts (a := (_, _)) hr) (fun hj => ?_) (fun hj => ?_) <;> (try simp only [etaPa, etaIt, etaVo] at hj) <;> (try contradiction))
        | (refine ⟨⟨i + 1, k3, ⟨rfl, rfl, rfl, congrArg I (wrap_up (n := 3) (by omega) (by decide)), trivial⟩, (by omega), (by trivial), hk_, (by omega), ln_, (by omega), (by exact h0_), (by first | assumption | omega)⟩, ?_⟩; show 3 - ix (I _) < 3 - ix (I _); simp only [wrap_up (n := 3) (i := i) (by omega) (by decide), ix, Int.toNat_natCast]; omega)
        | exact ⟨⟨_, rfl, rfl, code, rfl, (by unfold R_laws_FnCertVotes; dsimp only; first | done | exact absurd True.intro hj | (first | rfl | (exfalso; first | contradiction | omega | exact hj hrf | grind)))⟩, (by first | exact Nat.le_refl _ | omega), (by exact h0_)⟩
        | fail)
    · skip
      repeat' ((conv => whnf); first
        | refine ⟨_, _, rfl, at_map h0, ?_⟩
        | refine ⟨_, _, rfl, at_map h1, ?_⟩
        | refine ⟨_, _, rfl, at_map h2, ?_⟩
        | refine ⟨_, rfl, ?_⟩
        | refine ⟨rfl, ?_⟩
        | refine ⟨_, _, rfl, at_map (by assumption), ?_⟩
        | refine idx_mapX (i := 0) rfl (by assumption) ?_
        | refine idx_map (by omega) (fun x hx => ?_)
        | refine idx_mapX (wrap_dn (by omega) (by omega)) (by assumption) ?_
        | refine idx_mapE (wrap_dn (by omega) (by omega)) (by omega) (fun x hx => ?_)
        | refine idx_mapL (by omega) (by first | assumption | (simp only [LIM]; omega)) (fun x hx => ?_)
        | refine idx_mapI (by omega) (by first | omega | (simp only [List.length_map] at *; omega)) (fun x hx => ?_)
        | refine ⟨_, ldc_cells hupd_at (Nat.le_of_ble_eq_true rfl), ?_⟩
        | refine ⟨_, ldc_cells (by first | assumption | exact zk ‹_› (by omega) | exact zk (zk ‹_› (by omega)) (by omega)) (Nat.le_of_ble_eq_true rfl), ?_⟩
        | refine ⟨_, _, hupd_at, rfl, rfl, Nat.le_of_ble_eq_true rfl, ?_⟩
        | refine ⟨_, _, rfl, rfl, rfl, Nat.le_of_ble_eq_true rfl, ?_⟩
        | (refine ⟨fun hc => ?_, fun hc => ?_⟩ <;> (try simp (disch := omega) only [List.length_map, wrap64] at hc) <;> (try (exfalso; first | contradiction | omega)))
        | (refine ⟨_, slc_to rfl (by first | omega | (simp only [List.length_map] at *; omega)), ?_⟩; rw [map_take'])
        | (refine ⟨_, slc_toI rfl (by omega) (by first | omega | (simp only [List.length_map] at *; omega)), ?_⟩; rw [map_take'])
        | (refine callt (b := [one (vsF _)]) v_impl_VotesOk rfl ⟨_, rfl, (by exact pr_)⟩ (.inl rfl) (by first | assumption | omega) (fun r hr => K_impl_VotesOk (a := _) hr) (fun hj => ?_) (fun hj => ?_) <;> (try simp only [etaPa, etaIt, etaVo] at hj) <;> (try contradiction))
        | (refine ⟨⟨i + 1, k3, ⟨rfl, rfl, rfl, congrArg I (wrap_up (n := 3) (by omega) (by decide)), trivial⟩, (by omega), (by trivial), hk_, (by omega), ln_, (by omega), (by exact h0_), (by first | assumption | omega)⟩, ?_⟩; show 3 - ix (I _) < 3 - ix (I _); simp only [wrap_up (n := 3) (i := i) (by omega) (by decide), ix, Int.toNat_natCast]; omega)
        | exact ⟨⟨_, rfl, rfl, code, rfl, (by unfold R_laws_FnCertVotes; dsimp only; first | done | exact absurd True.intro hj | (first | rfl | (exfalso; first | contradiction | omega | (apply hc; rw [w1, w2]; simp only [List.length_map]; omega) | grind)))⟩, (by first | exact Nat.le_refl _ | omega), (by exact h0_)⟩
        | fail)
  · have e := certVotes_no hok
    have hfv : FitVs (certVotes c) := by rw [e]; exact ⟨Nat.zero_le _, fun v h => by cases h⟩
    repeat' ((conv => whnf); first
      | refine ⟨_, rfl, ?_⟩
      | refine ⟨rfl, ?_⟩
      | refine ⟨_, _, rfl, at_map (by assumption), ?_⟩
      | refine idx_mapX (i := 0) rfl (by assumption) ?_
      | refine idx_map (by omega) (fun x hx => ?_)
      | refine idx_mapX (wrap_dn (by omega) (by omega)) (by assumption) ?_
      | refine idx_mapE (wrap_dn (by omega) (by omega)) (by omega) (fun x hx => ?_)
      | refine idx_mapL (by omega) (by first | assumption | (simp only [LIM]; omega)) (fun x hx => ?_)
      | refine idx_mapI (by omega) (by first | omega | (simp only [List.length_map] at *; omega)) (fun x hx => ?_)
      | refine ⟨_, ldc_cells hupd_at (Nat.le_of_ble_eq_true rfl), ?_⟩
      | refine ⟨_, ldc_cells (by first | assumption | exact zk ‹_› (by omega) | exact zk (zk ‹_› (by omega)) (by omega)) (Nat.le_of_ble_eq_true rfl), ?_⟩
      | refine ⟨_, _, hupd_at, rfl, rfl, Nat.le_of_ble_eq_true rfl, ?_⟩
      | refine ⟨_, _, rfl, rfl, rfl, Nat.le_of_ble_eq_true rfl, ?_⟩
      | (refine ⟨fun hc => ?_, fun hc => ?_⟩ <;> (try simp (disch := omega) only [List.length_map, wrap64] at hc) <;> (try (exfalso; first | contradiction | omega)))
      | (refine ⟨_, slc_to rfl (by first | omega | (simp only [List.length_map] at *; omega)), ?_⟩; rw [map_take'])
      | (refine ⟨_, slc_toI rfl (by omega) (by first | omega | (simp only [List.length_map] at *; omega)), ?_⟩; rw [map_take'])
      | (refine calle (b := [agg (ceF ⟨_, _⟩)]) v_impl_CertVotes rfl ⟨⟨_, _⟩, rfl, (by exact pr_)⟩ (.inl rfl) (by first | assumption | omega) (fun r hr => K_impl_CertVotes (a := ⟨_, _⟩) hr) ?_)
      | (refine calle (b := [agg (ceF ⟨_, _⟩)]) v_spec_CertVotes rfl ⟨⟨_, _⟩, rfl, (by exact pr_)⟩ (.inl rfl) (by first | assumption | omega) (fun r hr => K_spec_CertVotes (a := ⟨_, _⟩) hr) ?_)
      | (refine callt (b := [one (vsF _), one (vsF _)]) v_laws_lwVotes rfl ⟨(_, _), rfl, (by refine ⟨?_, ?_⟩ <;> (exact pr_))⟩ (.inl rfl) (by first | assumption | omega) (fun r hr => K_laws_lwVotes (a := (_, _)) hr) (fun hj => ?_) (fun hj => ?_) <;> (try simp only [etaPa, etaIt, etaVo] at hj) <;> (try contradiction))
      | (refine callt (b := [agg (ceF ⟨_, _⟩)]) v_spec_CertOk rfl ⟨⟨_, _⟩, rfl, (by exact pr_)⟩ (.inl rfl) (by first | assumption | omega) (fun r hr => K_spec_CertOk (a := ⟨_, _⟩) hr) (fun hj => ?_) (fun hj => ?_) <;> (try simp only [etaPa, etaIt, etaVo] at hj) <;> (try contradiction))
      | (refine ⟨⟨i + 1, k3, ⟨rfl, rfl, rfl, congrArg I (wrap_up (n := 3) (by omega) (by decide)), trivial⟩, (by omega), (by trivial), hk_, (by omega), ln_, (by omega), (by exact h0_), (by first | assumption | omega)⟩, ?_⟩; show 3 - ix (I _) < 3 - ix (I _); simp only [wrap_up (n := 3) (i := i) (by omega) (by decide), ix, Int.toNat_natCast]; omega)
      | exact ⟨⟨_, rfl, rfl, code, rfl, (by unfold R_laws_FnCertVotes; dsimp only; first | done | exact absurd True.intro hj | (first | rfl | (exfalso; first | contradiction | omega | grind)))⟩, (by first | exact Nat.le_refl _ | omega), (by exact h0_)⟩
      | fail)
end Av
end Go.Proofs.Ytocfcnkfjfpoaaa
