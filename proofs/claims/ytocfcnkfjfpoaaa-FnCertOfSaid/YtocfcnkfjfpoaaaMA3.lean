/- The walks: the law FnCertOf. -/
import Derived.Test.YtocfcnkfjfpoaaaU5
import Derived.Test.YtocfcnkfjfpoaaaQ5
set_option linter.unusedVariables false
set_option linter.unusedSimpArgs false
namespace Go.Proofs.Ytocfcnkfjfpoaaa
namespace Av
open Go.RowKit

theorem certOf_fit {l : List Vo} : FitCe (certOf l) := by
  cases hB : certB l with
  | true =>
    obtain ⟨q1, q2, q3⟩ := certOf_small hB
    exact ⟨Nat.le_trans q1 (by decide), by rw [q2]; decide, fun x hx => Nat.le_trans (q3 x hx) (by decide)⟩
  | false => rw [certOf_no hB]; exact drce0.fit
attribute [local irreducible] certOf certVotes finT certFin
attribute [local irreducible] Valid ValidM
set_option maxHeartbeats 4000000 in
set_option maxRecDepth 100000 in
theorem v_laws_FnCertOf : Valid Try.prog n_laws_FnCertOf S_laws_FnCertOf := by
  refine valid_of_swp mixed is_laws_FnCertOf (by rintro _ ⟨a, rfl, _⟩; exact Nat.le_of_ble_eq_true rfl) ?_
  rintro _ rm ⟨code, rfl, hpre⟩ hl
  try dsimp only at hpre
  have hpre0 := hpre
  have hp1 := hpre
  have cc_laws_FnCertOf : S_laws_FnCertOf.cost = 200000 := rfl
  have cc_spec_DrawCertOf : S_spec_DrawCertOf.cost = 60000 := rfl
  have cc_impl_CertOf : S_impl_CertOf.cost = 0 := rfl
  have cc_laws_lwCert : S_laws_lwCert.cost = 0 := rfl
  have cc_spec_VotesOk : S_spec_VotesOk.cost = 0 := rfl
  have cc_impl_TreeFinal : S_impl_TreeFinal.cost = 0 := rfl
  have cc_impl_CertVotes : S_impl_CertVotes.cost = 0 := rfl
  have cc_laws_lwHas : S_laws_lwHas.cost = 0 := rfl
  have cc_impl_CertOk : S_impl_CertOk.cost = 0 := rfl
  have cc_impl_CertFinal : S_impl_CertFinal.cost = 0 := rfl
  have cc1 : S_spec_CertOf.cost = 0 := rfl
  repeat' ((conv => whnf); first
    | refine ⟨_, rfl, ?_⟩
    | refine ⟨rfl, ?_⟩
    | refine ⟨_, _, rfl, at_map (by assumption), ?_⟩
    | refine idx_mapX (i := 0) rfl (by assumption) ?_
    | refine idx_map (by omega) (fun x hx => ?_)
    | refine idx_mapX (wrap_dn (by omega) (by omega)) (by assumption) ?_
    | refine idx_mapE (wrap_dn (by omega) (by omega)) (by omega) (fun x hx => ?_)
    | refine idx_mapL (by omega) (by first | assumption | (simp only [LIM]; omega)) (fun x hx => ?_)
    | refine idx_mapI (by omega) (by first | omega | (simp only [List.length_map] at *; omega)) (fun x hx => ?_)
    | refine ⟨_, ldc_cells hupd_at (Nat.le_of_ble_eq_true rfl), ?_⟩
    | refine ⟨_, ldc_cells (by first | assumption | exact zk ‹_› (by omega) | exact zk (zk ‹_› (by omega)) (by omega)) (Nat.le_of_ble_eq_true rfl), ?_⟩
    | refine ⟨_, _, hupd_at, rfl, rfl, Nat.le_of_ble_eq_true rfl, ?_⟩
    | refine ⟨_, _, rfl, rfl, rfl, Nat.le_of_ble_eq_true rfl, ?_⟩
    | (refine ⟨?_, _, (?_ : (_ : Option Ob) = _), rfl, rfl, ?_, ?_⟩; rotate_left; (exact hk_); exact Nat.le_of_ble_eq_true rfl)
    | refine ⟨_, _, _, _, ((by exact hk_) : (_ : Option Ob) = _), rfl, at_mapA (by assumption), ?_⟩
    | refine idx_ow (by exact hk_) (by omega) (fun x hx => ?_)
    | refine ⟨_, _, _, _, ((by exact hk_) : (_ : Option Ob) = _), rfl, fill_at (by omega), ?_⟩
    | refine ⟨_, _, _, _, ((by exact hk_) : (_ : Option Ob) = _), fill_at (by omega), rfl, rfl, Nat.le_of_ble_eq_true rfl, ?_⟩
    | refine idx_owL (by exact hk_) (by omega) (by simp only [LIM]; omega) (fun x hx => ?_)
    | refine idx_owI (by exact hk_) (by omega) (by first | omega | (simp only [List.length_map] at *; omega)) (fun x hx => ?_)
    | refine ⟨_, _, _, _, ((by exact hk_) : (_ : Option Ob) = _), at_mapA (by assumption), rfl, rfl, Nat.le_of_ble_eq_true rfl, ?_⟩
    | refine ⟨_, ldc_pa (by exact hk_) (at_mapA (by assumption)) (Nat.le_of_ble_eq_true rfl), ?_⟩
    | refine ⟨_, _, _, ((by exact hk_) : (_ : Option Ob) = _), ?_⟩
    | refine ⟨_, ((by exact hk_) : (_ : Option Ob) = _), ?_⟩
    | (refine ⟨fun hc => ?_, fun hc => ?_⟩ <;> (try simp (disch := omega) only [List.length_map, wrap64] at hc))
    | (refine callk (b := [one (byF _)]) v_spec_DrawCertOf rfl ⟨_, rfl, (by exact pr_)⟩ (.inl rfl) (by omega) (fun r hr => ?_); have hj := K_spec_DrawCertOf (a := _) hr; clear hr; obtain ⟨l, rfl, hdl⟩ := hj)
    | exact ⟨⟨_, rfl, rfl, code, rfl, (by unfold R_laws_FnCertOf; dsimp only; first | done | exact absurd True.intro hj | (rfl))⟩, (by first | exact Nat.le_refl _ | omega), (by exact h0_)⟩
    | fail)
  have hfl : FitVs l := hdl.fit
  have hln : l.length < LIM := hdl.lt
  have hll : l.length ≤ 400 := hdl.1
  have hfc := certOf_fit (l := l)
  have hft := finT_len hfl
  cases hB : certB l with
  | false =>
    have eC := certOf_no hB
    by_cases hV : VotesOk l
    · have eF : (finT l).length = 0 := by
        by_cases h : (finT l).length = 0
        · exact h
        · rw [(certB_fin hV).2 h] at hB; cases hB
      repeat' ((conv => whnf); first
        | (refine mq_of (Q0 := certB l = false) (Q1 := certB l = true) (c := (certOf l).c) (bs := (certOf l).b) v_spec_CertOf (by omega) rfl rfl ⟨l, rfl, rfl, hfl, hln⟩ (fun r obs' h => K_spec_CertOf h) (fun h => ?_) (fun h => ?_) <;> (try (exact absurd (hB.symm.trans h) (by decide))))
        | (refine callt (b := [agg (ceF (certOf l)), agg (ceF noCe)]) v_laws_lwCert rfl ⟨(certOf l, noCe), rfl, hfc, drce0.fit⟩ (.inr ⟨rfl, rfl⟩) (by first | assumption | omega) (fun r hr => K_laws_lwCert (a := (certOf l, noCe)) hr) (fun hj => ?_) (fun hj => ?_) <;> (try (exact absurd eC hj)))
        | refine ⟨_, rfl, ?_⟩
        | refine ⟨rfl, ?_⟩
        | refine ⟨_, _, rfl, at_map (by assumption), ?_⟩
        | refine idx_mapX (i := 0) rfl (by assumption) ?_
        | refine idx_map (by omega) (fun x hx => ?_)
        | refine idx_mapX (wrap_dn (by omega) (by omega)) (by assumption) ?_
        | refine idx_mapE (wrap_dn (by omega) (by omega)) (by omega) (fun x hx => ?_)
        | refine idx_mapL (by omega) (by first | assumption | (simp only [LIM]; omega)) (fun x hx => ?_)
        | refine idx_mapI (by omega) (by first | omega | (simp only [List.length_map] at *; omega)) (fun x hx => ?_)
        | refine ⟨_, ldc_cells hupd_at (Nat.le_of_ble_eq_true rfl), ?_⟩
        | refine ⟨_, ldc_cells (by first | assumption | exact zk ‹_› (by omega) | exact zk (zk ‹_› (by omega)) (by omega)) (Nat.le_of_ble_eq_true rfl), ?_⟩
        | refine ⟨_, _, hupd_at, rfl, rfl, Nat.le_of_ble_eq_true rfl, ?_⟩
        | refine ⟨_, _, rfl, rfl, rfl, Nat.le_of_ble_eq_true rfl, ?_⟩
        | (refine ⟨?_, _, (?_ : (_ : Option Ob) = _), rfl, rfl, ?_, ?_⟩; rotate_left; (exact hk_); exact Nat.le_of_ble_eq_true rfl)
        | refine ⟨_, _, _, _, ((by exact hk_) : (_ : Option Ob) = _), rfl, at_mapA (by assumption), ?_⟩
        | refine idx_ow (by exact hk_) (by omega) (fun x hx => ?_)
        | refine ⟨_, _, _, _, ((by exact hk_) : (_ : Option Ob) = _), rfl, fill_at (by omega), ?_⟩
        | refine ⟨_, _, _, _, ((by exact hk_) : (_ : Option Ob) = _), fill_at (by omega), rfl, rfl, Nat.le_of_ble_eq_true rfl, ?_⟩
        | refine idx_owL (by exact hk_) (by omega) (by simp only [LIM]; omega) (fun x hx => ?_)
        | refine idx_owI (by exact hk_) (by omega) (by first | omega | (simp only [List.length_map] at *; omega)) (fun x hx => ?_)
        | refine ⟨_, _, _, _, ((by exact hk_) : (_ : Option Ob) = _), at_mapA (by assumption), rfl, rfl, Nat.le_of_ble_eq_true rfl, ?_⟩
        | refine ⟨_, ldc_pa (by exact hk_) (at_mapA (by assumption)) (Nat.le_of_ble_eq_true rfl), ?_⟩
        | refine ⟨_, _, _, ((by exact hk_) : (_ : Option Ob) = _), ?_⟩
        | refine ⟨_, ((by exact hk_) : (_ : Option Ob) = _), ?_⟩
        | (refine ⟨fun hc => ?_, fun hc => ?_⟩ <;> (try simp (disch := omega) only [List.length_map, wrap64] at hc) <;> (try (exfalso; first | contradiction | omega)))
        | (refine callk (b := [one (vsF _)]) v_impl_CertOf rfl ⟨_, rfl, (by refine ⟨?_, ?_⟩ <;> (exact pr_))⟩ (.inl rfl) (by first | assumption | omega) (fun r hr => ?_); have hj := K_impl_CertOf (a := _) hr; clear hr; unfold R_impl_CertOf at hj; (try dsimp only at hj); (try rw [hB] at hj); (try rw [hB2] at hj); subst hj)
        | (refine callt (b := [one (vsF _)]) v_spec_VotesOk rfl ⟨_, rfl, (by exact pr_)⟩ (.inl rfl) (by first | assumption | omega) (fun r hr => K_spec_VotesOk (a := _) hr) (fun hj => ?_) (fun hj => ?_) <;> (try simp only [etaPa, etaIt, etaVo] at hj) <;> (try contradiction))
        | (refine calle (b := [one (vsF _)]) v_impl_TreeFinal rfl ⟨_, rfl, (by refine ⟨?_, ?_⟩ <;> (exact pr_))⟩ (.inl rfl) (by first | assumption | omega) (fun r hr => K_impl_TreeFinal (a := _) hr) ?_)
        | exact ⟨⟨_, rfl, rfl, code, rfl, (by unfold R_laws_FnCertOf; dsimp only; first | done | exact absurd True.intro hj | (first | rfl | (exfalso; first | contradiction | omega | grind)))⟩, (by first | exact Nat.le_refl _ | omega), (by exact h0_)⟩
        | fail)
    · skip
      repeat' ((conv => whnf); first
        | (refine mq_of (Q0 := certB l = false) (Q1 := certB l = true) (c := (certOf l).c) (bs := (certOf l).b) v_spec_CertOf (by omega) rfl rfl ⟨l, rfl, rfl, hfl, hln⟩ (fun r obs' h => K_spec_CertOf h) (fun h => ?_) (fun h => ?_) <;> (try (exact absurd (hB.symm.trans h) (by decide))))
        | (refine callt (b := [agg (ceF (certOf l)), agg (ceF noCe)]) v_laws_lwCert rfl ⟨(certOf l, noCe), rfl, hfc, drce0.fit⟩ (.inr ⟨rfl, rfl⟩) (by first | assumption | omega) (fun r hr => K_laws_lwCert (a := (certOf l, noCe)) hr) (fun hj => ?_) (fun hj => ?_) <;> (try (exact absurd eC hj)))
        | refine ⟨_, rfl, ?_⟩
        | refine ⟨rfl, ?_⟩
        | refine ⟨_, _, rfl, at_map (by assumption), ?_⟩
        | refine idx_mapX (i := 0) rfl (by assumption) ?_
        | refine idx_map (by omega) (fun x hx => ?_)
        | refine idx_mapX (wrap_dn (by omega) (by omega)) (by assumption) ?_
        | refine idx_mapE (wrap_dn (by omega) (by omega)) (by omega) (fun x hx => ?_)
        | refine idx_mapL (by omega) (by first | assumption | (simp only [LIM]; omega)) (fun x hx => ?_)
        | refine idx_mapI (by omega) (by first | omega | (simp only [List.length_map] at *; omega)) (fun x hx => ?_)
        | refine ⟨_, ldc_cells hupd_at (Nat.le_of_ble_eq_true rfl), ?_⟩
        | refine ⟨_, ldc_cells (by first | assumption | exact zk ‹_› (by omega) | exact zk (zk ‹_› (by omega)) (by omega)) (Nat.le_of_ble_eq_true rfl), ?_⟩
        | refine ⟨_, _, hupd_at, rfl, rfl, Nat.le_of_ble_eq_true rfl, ?_⟩
        | refine ⟨_, _, rfl, rfl, rfl, Nat.le_of_ble_eq_true rfl, ?_⟩
        | (refine ⟨?_, _, (?_ : (_ : Option Ob) = _), rfl, rfl, ?_, ?_⟩; rotate_left; (exact hk_); exact Nat.le_of_ble_eq_true rfl)
        | refine ⟨_, _, _, _, ((by exact hk_) : (_ : Option Ob) = _), rfl, at_mapA (by assumption), ?_⟩
        | refine idx_ow (by exact hk_) (by omega) (fun x hx => ?_)
        | refine ⟨_, _, _, _, ((by exact hk_) : (_ : Option Ob) = _), rfl, fill_at (by omega), ?_⟩
        | refine ⟨_, _, _, _, ((by exact hk_) : (_ : Option Ob) = _), fill_at (by omega), rfl, rfl, Nat.le_of_ble_eq_true rfl, ?_⟩
        | refine idx_owL (by exact hk_) (by omega) (by simp only [LIM]; omega) (fun x hx => ?_)
        | refine idx_owI (by exact hk_) (by omega) (by first | omega | (simp only [List.length_map] at *; omega)) (fun x hx => ?_)
        | refine ⟨_, _, _, _, ((by exact hk_) : (_ : Option Ob) = _), at_mapA (by assumption), rfl, rfl, Nat.le_of_ble_eq_true rfl, ?_⟩
        | refine ⟨_, ldc_pa (by exact hk_) (at_mapA (by assumption)) (Nat.le_of_ble_eq_true rfl), ?_⟩
        | refine ⟨_, _, _, ((by exact hk_) : (_ : Option Ob) = _), ?_⟩
        | refine ⟨_, ((by exact hk_) : (_ : Option Ob) = _), ?_⟩
        | (refine ⟨fun hc => ?_, fun hc => ?_⟩ <;> (try simp (disch := omega) only [List.length_map, wrap64] at hc) <;> (try (exfalso; first | contradiction | omega)))
        | (refine callk (b := [one (vsF _)]) v_impl_CertOf rfl ⟨_, rfl, (by refine ⟨?_, ?_⟩ <;> (exact pr_))⟩ (.inl rfl) (by first | assumption | omega) (fun r hr => ?_); have hj := K_impl_CertOf (a := _) hr; clear hr; unfold R_impl_CertOf at hj; (try dsimp only at hj); (try rw [hB] at hj); (try rw [hB2] at hj); subst hj)
        | (refine callt (b := [one (vsF _)]) v_spec_VotesOk rfl ⟨_, rfl, (by exact pr_)⟩ (.inl rfl) (by first | assumption | omega) (fun r hr => K_spec_VotesOk (a := _) hr) (fun hj => ?_) (fun hj => ?_) <;> (try simp only [etaPa, etaIt, etaVo] at hj) <;> (try contradiction))
        | (refine calle (b := [one (vsF _)]) v_impl_TreeFinal rfl ⟨_, rfl, (by refine ⟨?_, ?_⟩ <;> (exact pr_))⟩ (.inl rfl) (by first | assumption | omega) (fun r hr => K_impl_TreeFinal (a := _) hr) ?_)
        | exact ⟨⟨_, rfl, rfl, code, rfl, (by unfold R_laws_FnCertOf; dsimp only; first | done | exact absurd True.intro hj | (first | rfl | (exfalso; first | contradiction | omega | grind)))⟩, (by first | exact Nat.le_refl _ | omega), (by exact h0_)⟩
        | fail)
  | true =>
    have hok := certOf_ok hB
    have hV := (certB_iff.1 hB).1
    obtain ⟨hfv, hvl⟩ := rows_fit hok hfc
    have hin := fun v hv => @cert_in l hB v hv
    have hfin := congrArg List.length (certOf_fin hV)
    have hne := (certB_fin hV).1 hB
    repeat' ((conv => whnf); first
      | (refine mq_of (Q0 := certB l = false) (Q1 := certB l = true) (c := (certOf l).c) (bs := (certOf l).b) v_spec_CertOf (by omega) rfl rfl ⟨l, rfl, rfl, hfl, hln⟩ (fun r obs' h => K_spec_CertOf h) (fun h => ?_) (fun h => ?_) <;> (try (exact absurd (hB.symm.trans h) (by decide))))
      | (refine callt (b := [agg (ceF (certOf l)), agg (ceF (certOf l))]) v_laws_lwCert (l2 rfl (congrArg (fun x => AV.w (.g [.c (chF (certOf l).c), x])) (bor_ow hk_ (fcellss_f (fun n => [nsF n]) (certOf l).b)))) ⟨(certOf l, certOf l), rfl, hfc, hfc⟩ (.inr ⟨rfl, rfl⟩) (by first | assumption | omega) (fun r hr => K_laws_lwCert (a := (certOf l, certOf l)) hr) (fun hj => ?_) (fun hj => ?_) <;> (try (exact absurd rfl hj)))
      | refine ⟨_, rfl, ?_⟩
      | refine ⟨rfl, ?_⟩
      | refine ⟨_, _, rfl, at_map (by assumption), ?_⟩
      | refine idx_mapX (i := 0) rfl (by assumption) ?_
      | refine idx_map (by omega) (fun x hx => ?_)
      | refine idx_mapX (wrap_dn (by omega) (by omega)) (by assumption) ?_
      | refine idx_mapE (wrap_dn (by omega) (by omega)) (by omega) (fun x hx => ?_)
      | refine idx_mapL (by omega) (by first | assumption | (simp only [LIM]; omega)) (fun x hx => ?_)
      | refine idx_mapI (by omega) (by first | omega | (simp only [List.length_map] at *; omega)) (fun x hx => ?_)
      | refine ⟨_, ldc_cells hupd_at (Nat.le_of_ble_eq_true rfl), ?_⟩
      | refine ⟨_, ldc_cells (by first | assumption | exact zk ‹_› (by omega) | exact zk (zk ‹_› (by omega)) (by omega)) (Nat.le_of_ble_eq_true rfl), ?_⟩
      | refine ⟨_, _, hupd_at, rfl, rfl, Nat.le_of_ble_eq_true rfl, ?_⟩
      | refine ⟨_, _, rfl, rfl, rfl, Nat.le_of_ble_eq_true rfl, ?_⟩
      | (refine ⟨?_, _, (?_ : (_ : Option Ob) = _), rfl, rfl, ?_, ?_⟩; rotate_left; (exact hk_); exact Nat.le_of_ble_eq_true rfl)
      | refine ⟨_, _, _, _, ((by exact hk_) : (_ : Option Ob) = _), rfl, at_mapA (by assumption), ?_⟩
      | refine idx_ow (by exact hk_) (by omega) (fun x hx => ?_)
      | refine ⟨_, _, _, _, ((by exact hk_) : (_ : Option Ob) = _), rfl, fill_at (by omega), ?_⟩
      | refine ⟨_, _, _, _, ((by exact hk_) : (_ : Option Ob) = _), fill_at (by omega), rfl, rfl, Nat.le_of_ble_eq_true rfl, ?_⟩
      | refine idx_owL (by exact hk_) (by omega) (by simp only [LIM]; omega) (fun x hx => ?_)
      | refine idx_owI (by exact hk_) (by omega) (by first | omega | (simp only [List.length_map] at *; omega)) (fun x hx => ?_)
      | refine ⟨_, _, _, _, ((by exact hk_) : (_ : Option Ob) = _), at_mapA (by assumption), rfl, rfl, Nat.le_of_ble_eq_true rfl, ?_⟩
      | refine ⟨_, ldc_pa (by exact hk_) (at_mapA (by assumption)) (Nat.le_of_ble_eq_true rfl), ?_⟩
      | refine ⟨_, _, _, ((by exact hk_) : (_ : Option Ob) = _), ?_⟩
      | refine ⟨_, ((by exact hk_) : (_ : Option Ob) = _), ?_⟩
      | (refine ⟨fun hc => ?_, fun hc => ?_⟩ <;> (try simp (disch := omega) only [List.length_map, wrap64] at hc) <;> (try (exfalso; first | contradiction | omega)))
      | (refine callk (b := [one (vsF _)]) v_impl_CertOf rfl ⟨_, rfl, (by refine ⟨?_, ?_⟩ <;> (exact pr_))⟩ (.inl rfl) (by first | assumption | omega) (fun r hr => ?_); have hj := K_impl_CertOf (a := _) hr; clear hr; unfold R_impl_CertOf at hj; (try dsimp only at hj); (try rw [hB] at hj); (try rw [hB2] at hj); subst hj)
      | (refine callt (b := [one (vsF _)]) v_spec_VotesOk rfl ⟨_, rfl, (by exact pr_)⟩ (.inl rfl) (by first | assumption | omega) (fun r hr => K_spec_VotesOk (a := _) hr) (fun hj => ?_) (fun hj => ?_) <;> (try simp only [etaPa, etaIt, etaVo] at hj) <;> (try contradiction))
      | (refine calle (b := [one (vsF _)]) v_impl_TreeFinal rfl ⟨_, rfl, (by refine ⟨?_, ?_⟩ <;> (exact pr_))⟩ (.inl rfl) (by first | assumption | omega) (fun r hr => K_impl_TreeFinal (a := _) hr) ?_)
      | (refine calle (b := [agg (ceF ⟨_, _⟩)]) v_impl_CertVotes rfl ⟨⟨_, _⟩, rfl, (by exact pr_)⟩ (.inl rfl) (by first | assumption | omega) (fun r hr => K_impl_CertVotes (a := ⟨_, _⟩) hr) ?_)
      | fail)
    conv => whnf
    refine ⟨fun fr H nx rm' => ∃ (i : Nat) (k6 : Nat), Has fr [(3, one (vsF l)), (6, .w (.o (.ptr k6 0))), (8, one (chF (finT l))), (9, one (vsF (certVotes (certOf l)))), (10, I i)] ∧ i ≤ (certVotes (certOf l)).length ∧ (True) ∧ H k6 = some (.cells ((ceF (certOf l)).map AC.c)) ∧ 1 ≤ k6 ∧ k6 < nx ∧ 1 ≤ nx ∧ H 0 = none ∧ rm' ≤ rm + 100000,
      fun fr _ _ _ => (certVotes (certOf l)).length - ix (fr 10), ⟨0, _, ⟨(by first | rfl | (show I _ = I _; simp)), (by first | rfl | (show I _ = I _; simp)), (by first | rfl | (show I _ = I _; simp)), (by first | rfl | (show I _ = I _; simp)), (by first | rfl | (show I _ = I _; simp)), trivial⟩, Nat.zero_le _, (by trivial), hk_, ln_, ln_, (by first | decide | omega), (by exact h0_), (by omega)⟩, ?_⟩
    rintro fr H nx rm' ⟨i, k6, hfr, hi, hq, hk6, hk61, hk6n, hnx, hH, hrm⟩
    rw [hfr.eq]
    rcases Nat.lt_or_ge i (certVotes (certOf l)).length with hi' | hi'
    · obtain ⟨x, hx⟩ : ∃ x, (certVotes (certOf l))[i]? = some x := ⟨_, List.getElem?_eq_getElem hi'⟩
      have hxin := hin x (List.mem_of_getElem? hx)
      have hxf := hfv.get hx
      repeat' ((conv => whnf); first
        | refine ⟨_, _, rfl, at_map hx, ?_⟩
        | refine ⟨_, rfl, ?_⟩
        | refine ⟨rfl, ?_⟩
        | refine ⟨_, _, rfl, at_map (by assumption), ?_⟩
        | refine idx_mapX (i := 0) rfl (by assumption) ?_
        | refine idx_map (by omega) (fun x hx => ?_)
        | refine idx_mapX (wrap_dn (by omega) (by omega)) (by assumption) ?_
        | refine idx_mapE (wrap_dn (by omega) (by omega)) (by omega) (fun x hx => ?_)
        | refine idx_mapL (by omega) (by first | assumption | (simp only [LIM]; omega)) (fun x hx => ?_)
        | refine idx_mapI (by omega) (by first | omega | (simp only [List.length_map] at *; omega)) (fun x hx => ?_)
        | refine ⟨_, ldc_cells hupd_at (Nat.le_of_ble_eq_true rfl), ?_⟩
        | refine ⟨_, ldc_cells (by first | assumption | exact zk ‹_› (by omega) | exact zk (zk ‹_› (by omega)) (by omega)) (Nat.le_of_ble_eq_true rfl), ?_⟩
        | refine ⟨_, _, hupd_at, rfl, rfl, Nat.le_of_ble_eq_true rfl, ?_⟩
        | refine ⟨_, _, rfl, rfl, rfl, Nat.le_of_ble_eq_true rfl, ?_⟩
        | (refine ⟨?_, _, (?_ : (_ : Option Ob) = _), rfl, rfl, ?_, ?_⟩; rotate_left; (exact hk_); exact Nat.le_of_ble_eq_true rfl)
        | refine ⟨_, _, _, _, ((by exact hk_) : (_ : Option Ob) = _), rfl, at_mapA (by assumption), ?_⟩
        | refine idx_ow (by exact hk_) (by omega) (fun x hx => ?_)
        | refine ⟨_, _, _, _, ((by exact hk_) : (_ : Option Ob) = _), rfl, fill_at (by omega), ?_⟩
        | refine ⟨_, _, _, _, ((by exact hk_) : (_ : Option Ob) = _), fill_at (by omega), rfl, rfl, Nat.le_of_ble_eq_true rfl, ?_⟩
        | refine idx_owL (by exact hk_) (by omega) (by simp only [LIM]; omega) (fun x hx => ?_)
        | refine idx_owI (by exact hk_) (by omega) (by first | omega | (simp only [List.length_map] at *; omega)) (fun x hx => ?_)
        | refine ⟨_, _, _, _, ((by exact hk_) : (_ : Option Ob) = _), at_mapA (by assumption), rfl, rfl, Nat.le_of_ble_eq_true rfl, ?_⟩
        | refine ⟨_, ldc_pa (by exact hk_) (at_mapA (by assumption)) (Nat.le_of_ble_eq_true rfl), ?_⟩
        | refine ⟨_, _, _, ((by exact hk_) : (_ : Option Ob) = _), ?_⟩
        | refine ⟨_, ((by exact hk_) : (_ : Option Ob) = _), ?_⟩
        | (refine ⟨fun hc => ?_, fun hc => ?_⟩ <;> (try simp (disch := omega) only [List.length_map, wrap64] at hc) <;> (try (exfalso; first | contradiction | omega)))
        | (refine callt (b := [one (vsF _), agg (voF ⟨_, _⟩)]) v_laws_lwHas rfl ⟨(_, ⟨_, _⟩), rfl, (by refine ⟨?_, ?_⟩ <;> (exact pr_))⟩ (.inl rfl) (by first | assumption | omega) (fun r hr => K_laws_lwHas (a := (_, ⟨_, _⟩)) hr) (fun hj => ?_) (fun hj => ?_) <;> (try simp only [etaPa, etaIt, etaVo] at hj) <;> (try contradiction))
        | (refine ⟨⟨i + 1, k6, ⟨rfl, rfl, rfl, rfl, congrArg I (wrap_up (n := (certVotes (certOf l)).length) (by omega) (hfv.1)), trivial⟩, (by omega), (by trivial), hk_, (by omega), ln_, (by omega), (by exact h0_), (by first | assumption | omega)⟩, ?_⟩; show (certVotes (certOf l)).length - ix (I _) < (certVotes (certOf l)).length - ix (I _); simp only [wrap_up (n := (certVotes (certOf l)).length) (i := i) (by omega) (hfv.1), ix, Int.toNat_natCast]; omega)
        | exact ⟨⟨_, rfl, rfl, code, rfl, (by unfold R_laws_FnCertOf; dsimp only; first | done | exact absurd True.intro hj | (first | rfl | (exfalso; first | contradiction | omega | exact hj hxin | grind)))⟩, (by first | exact Nat.le_refl _ | omega), (by exact h0_)⟩
        | fail)
    · skip
      repeat' ((conv => whnf); first
        | refine ⟨_, rfl, ?_⟩
        | refine ⟨rfl, ?_⟩
        | refine ⟨_, _, rfl, at_map (by assumption), ?_⟩
        | refine idx_mapX (i := 0) rfl (by assumption) ?_
        | refine idx_map (by omega) (fun x hx => ?_)
        | refine idx_mapX (wrap_dn (by omega) (by omega)) (by assumption) ?_
        | refine idx_mapE (wrap_dn (by omega) (by omega)) (by omega) (fun x hx => ?_)
        | refine idx_mapL (by omega) (by first | assumption | (simp only [LIM]; omega)) (fun x hx => ?_)
        | refine idx_mapI (by omega) (by first | omega | (simp only [List.length_map] at *; omega)) (fun x hx => ?_)
        | refine ⟨_, ldc_cells hupd_at (Nat.le_of_ble_eq_true rfl), ?_⟩
        | refine ⟨_, ldc_cells (by first | assumption | exact zk ‹_› (by omega) | exact zk (zk ‹_› (by omega)) (by omega)) (Nat.le_of_ble_eq_true rfl), ?_⟩
        | refine ⟨_, _, hupd_at, rfl, rfl, Nat.le_of_ble_eq_true rfl, ?_⟩
        | refine ⟨_, _, rfl, rfl, rfl, Nat.le_of_ble_eq_true rfl, ?_⟩
        | (refine ⟨?_, _, (?_ : (_ : Option Ob) = _), rfl, rfl, ?_, ?_⟩; rotate_left; (exact hk_); exact Nat.le_of_ble_eq_true rfl)
        | refine ⟨_, _, _, _, ((by exact hk_) : (_ : Option Ob) = _), rfl, at_mapA (by assumption), ?_⟩
        | refine idx_ow (by exact hk_) (by omega) (fun x hx => ?_)
        | refine ⟨_, _, _, _, ((by exact hk_) : (_ : Option Ob) = _), rfl, fill_at (by omega), ?_⟩
        | refine ⟨_, _, _, _, ((by exact hk_) : (_ : Option Ob) = _), fill_at (by omega), rfl, rfl, Nat.le_of_ble_eq_true rfl, ?_⟩
        | refine idx_owL (by exact hk_) (by omega) (by simp only [LIM]; omega) (fun x hx => ?_)
        | refine idx_owI (by exact hk_) (by omega) (by first | omega | (simp only [List.length_map] at *; omega)) (fun x hx => ?_)
        | refine ⟨_, _, _, _, ((by exact hk_) : (_ : Option Ob) = _), at_mapA (by assumption), rfl, rfl, Nat.le_of_ble_eq_true rfl, ?_⟩
        | refine ⟨_, ldc_pa (by exact hk_) (at_mapA (by assumption)) (Nat.le_of_ble_eq_true rfl), ?_⟩
        | refine ⟨_, _, _, ((by exact hk_) : (_ : Option Ob) = _), ?_⟩
        | refine ⟨_, ((by exact hk_) : (_ : Option Ob) = _), ?_⟩
        | (refine ⟨fun hc => ?_, fun hc => ?_⟩ <;> (try simp (disch := omega) only [List.length_map, wrap64] at hc) <;> (try (exfalso; first | contradiction | omega)))
        | (refine callt (b := [agg (ceF ⟨_, _⟩)]) v_impl_CertOk rfl ⟨⟨_, _⟩, rfl, (by exact pr_)⟩ (.inl rfl) (by first | assumption | omega) (fun r hr => K_impl_CertOk (a := ⟨_, _⟩) hr) (fun hj => ?_) (fun hj => ?_) <;> (try simp only [etaPa, etaIt, etaVo] at hj) <;> (try contradiction))
        | (refine calle (b := [agg (ceF ⟨_, _⟩)]) v_impl_CertFinal rfl ⟨⟨_, _⟩, rfl, (by exact pr_)⟩ (.inl rfl) (by first | assumption | omega) (fun r hr => K_impl_CertFinal (a := ⟨_, _⟩) hr) ?_)
        | (refine ⟨⟨i + 1, k6, ⟨rfl, rfl, rfl, rfl, congrArg I (wrap_up (n := (certVotes (certOf l)).length) (by omega) (hfv.1)), trivial⟩, (by omega), (by trivial), hk_, (by omega), ln_, (by omega), (by exact h0_), (by first | assumption | omega)⟩, ?_⟩; show (certVotes (certOf l)).length - ix (I _) < (certVotes (certOf l)).length - ix (I _); simp only [wrap_up (n := (certVotes (certOf l)).length) (i := i) (by omega) (hfv.1), ix, Int.toNat_natCast]; omega)
        | exact ⟨⟨_, rfl, rfl, code, rfl, (by unfold R_laws_FnCertOf; dsimp only; first | done | exact absurd True.intro hj | (first | rfl | (exfalso; first | contradiction | omega | exact hj hok | exact hc (congrArg Nat.cast hfin) | grind)))⟩, (by first | exact Nat.le_refl _ | omega), (by exact h0_)⟩
        | fail)
end Av
end Go.Proofs.Ytocfcnkfjfpoaaa
