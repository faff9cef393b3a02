/- The walks: the law FnCertOrder. -/
import Derived.Test.YtocfcnkfjfpoaaaU5
import Derived.Test.YtocfcnkfjfpoaaaQ5
set_option linter.unusedVariables false
set_option linter.unusedSimpArgs false
namespace Go.Proofs.Ytocfcnkfjfpoaaa
namespace Av
open Go.RowKit

theorem certOf_fit {l : List Vo} : FitCe (certOf l) := by
  cases hB : certB l with
  | true =>
    obtain ⟨q1, q2, q3⟩ := certOf_small hB
    exact ⟨Nat.le_trans q1 (by decide), by rw [q2]; decide, fun x hx => Nat.le_trans (q3 x hx) (by decide)⟩
  | false => rw [certOf_no hB]; exact drce0.fit
theorem certFin_fl {l : List Vo} (hV : VotesOk l) : (certFin (certOf l)).length = (finT l).length := congrArg List.length (certOf_fin hV)
attribute [local irreducible] certOf certVotes finT certFin
attribute [local irreducible] Valid ValidM
set_option maxHeartbeats 4000000 in
set_option maxRecDepth 100000 in
theorem v_laws_FnCertOrder : Valid Try.prog n_laws_FnCertOrder S_laws_FnCertOrder := by
  refine valid_of_swp mixed is_laws_FnCertOrder (by rintro _ ⟨a, rfl, _⟩; exact Nat.le_of_ble_eq_true rfl) ?_
  rintro _ rm ⟨code, rfl, hpre⟩ hl
  try dsimp only at hpre
  have hpre0 := hpre
  have hp1 := hpre
  have cc_laws_FnCertOrder : S_laws_FnCertOrder.cost = 200000 := rfl
  have cc_spec_DrawCertOf : S_spec_DrawCertOf.cost = 60000 := rfl
  have cc_impl_CertOf : S_impl_CertOf.cost = 0 := rfl
  have cc_laws_lwCert : S_laws_lwCert.cost = 0 := rfl
  have cc_spec_VotesOk : S_spec_VotesOk.cost = 0 := rfl
  have cc_laws_lwBack : S_laws_lwBack.cost = 0 := rfl
  have cc_impl_CertFinal : S_impl_CertFinal.cost = 0 := rfl
  have cc1 : S_spec_CertOf.cost = 0 := rfl
  repeat' ((conv => whnf); first
    | refine ⟨_, rfl, ?_⟩
    | refine ⟨rfl, ?_⟩
    | refine ⟨_, ldc_cells hupd_at (Nat.le_of_ble_eq_true rfl), ?_⟩
    | refine ⟨_, ldc_cells (by first | assumption | exact zk ‹_› (by omega) | exact zk (zk ‹_› (by omega)) (by omega)) (Nat.le_of_ble_eq_true rfl), ?_⟩
    | refine ⟨_, _, hupd_at, rfl, rfl, Nat.le_of_ble_eq_true rfl, ?_⟩
    | refine ⟨_, _, rfl, rfl, rfl, Nat.le_of_ble_eq_true rfl, ?_⟩
    | (refine ⟨?_, _, (?_ : (_ : Option Ob) = _), rfl, rfl, ?_, ?_⟩; rotate_left; (exact hk_); exact Nat.le_of_ble_eq_true rfl)
    | refine ⟨_, _, _, _, ((by exact hk_) : (_ : Option Ob) = _), fill_at (by omega), rfl, rfl, Nat.le_of_ble_eq_true rfl, ?_⟩
    | refine ⟨_, _, _, _, ((by exact hk_) : (_ : Option Ob) = _), at_mapA (by assumption), rfl, rfl, Nat.le_of_ble_eq_true rfl, ?_⟩
    | refine ⟨_, ldc_pa (by exact hk_) (at_mapA (by assumption)) (Nat.le_of_ble_eq_true rfl), ?_⟩
    | refine ⟨_, _, _, ((by exact hk_) : (_ : Option Ob) = _), ?_⟩
    | refine ⟨_, ((by exact hk_) : (_ : Option Ob) = _), ?_⟩
    | (refine ⟨fun hc => ?_, fun hc => ?_⟩ <;> (try simp (disch := omega) only [List.length_map, wrap64] at hc))
    | (refine callk (b := [one (byF _)]) v_spec_DrawCertOf rfl ⟨_, rfl, (by exact pr_)⟩ (.inl rfl) (by omega) (fun r hr => ?_); have hj := K_spec_DrawCertOf (a := _) hr; clear hr; obtain ⟨l, rfl, hdl⟩ := hj)
    | exact ⟨⟨_, rfl, rfl, code, rfl, (by unfold R_laws_FnCertOrder; dsimp only; first | done | exact absurd True.intro hj | (rfl))⟩, (by first | exact Nat.le_refl _ | omega), (by exact h0_)⟩
    | fail)
  have hfl : FitVs l := hdl.fit
  have hln : l.length < LIM := hdl.lt
  have hll : l.length ≤ 400 := hdl.1
  have hfc := certOf_fit (l := l)
  have hfr2 := hfl.rev
  have hlr : l.reverse.length < LIM := by rw [List.length_reverse]; exact hln
  have hfcr := certOf_fit (l := l.reverse)
  by_cases hV : VotesOk l
  · have hfin := (certFin_fl (votesOk_rev hV)).trans ((finT_rev hV).trans (certFin_fl hV).symm)
    cases hB : certB l with
    | false =>
      have eC := certOf_no hB
      have hB2 : certB l.reverse = false := (certB_rev hV).trans hB
      repeat' ((conv => whnf); first
        | (refine mq_of (Q0 := certB l = false) (Q1 := certB l = true) (c := (certOf l).c) (bs := (certOf l).b) v_spec_CertOf (by omega) rfl rfl ⟨l, rfl, rfl, hfl, hln⟩ (fun r obs' h => K_spec_CertOf h) (fun h => ?_) (fun h => ?_) <;> (try (exact absurd (hB.symm.trans h) (by decide))))
        | (refine callt (b := [agg (ceF (certOf l)), agg (ceF noCe)]) v_laws_lwCert rfl ⟨(certOf l, noCe), rfl, hfc, drce0.fit⟩ (.inr ⟨rfl, rfl⟩) (by first | assumption | omega) (fun r hr => K_laws_lwCert (a := (certOf l, noCe)) hr) (fun hj => ?_) (fun hj => ?_) <;> (try (exact absurd eC hj)))
        | refine ⟨_, rfl, ?_⟩
        | refine ⟨rfl, ?_⟩
        | refine ⟨_, ldc_cells hupd_at (Nat.le_of_ble_eq_true rfl), ?_⟩
        | refine ⟨_, ldc_cells (by first | assumption | exact zk ‹_› (by omega) | exact zk (zk ‹_› (by omega)) (by omega)) (Nat.le_of_ble_eq_true rfl), ?_⟩
        | refine ⟨_, _, hupd_at, rfl, rfl, Nat.le_of_ble_eq_true rfl, ?_⟩
        | refine ⟨_, _, rfl, rfl, rfl, Nat.le_of_ble_eq_true rfl, ?_⟩
        | (refine ⟨?_, _, (?_ : (_ : Option Ob) = _), rfl, rfl, ?_, ?_⟩; rotate_left; (exact hk_); exact Nat.le_of_ble_eq_true rfl)
        | refine ⟨_, _, _, _, ((by exact hk_) : (_ : Option Ob) = _), fill_at (by omega), rfl, rfl, Nat.le_of_ble_eq_true rfl, ?_⟩
        | refine ⟨_, _, _, _, ((by exact hk_) : (_ : Option Ob) = _), at_mapA (by assumption), rfl, rfl, Nat.le_of_ble_eq_true rfl, ?_⟩
        | refine ⟨_, ldc_pa (by exact hk_) (at_mapA (by assumption)) (Nat.le_of_ble_eq_true rfl), ?_⟩
        | refine ⟨_, _, _, ((by exact hk_) : (_ : Option Ob) = _), ?_⟩
        | refine ⟨_, ((by exact hk_) : (_ : Option Ob) = _), ?_⟩
        | (refine ⟨fun hc => ?_, fun hc => ?_⟩ <;> (try simp (disch := omega) only [List.length_map, wrap64] at hc) <;> (try (exfalso; first | contradiction | omega)))
        | (refine callk (b := [one (vsF _)]) v_impl_CertOf rfl ⟨_, rfl, (by refine ⟨?_, ?_⟩ <;> (exact pr_))⟩ (.inl rfl) (by first | assumption | omega) (fun r hr => ?_); have hj := K_impl_CertOf (a := _) hr; clear hr; unfold R_impl_CertOf at hj; (try dsimp only at hj); (try rw [hB] at hj); (try rw [hB2] at hj); subst hj)
        | (refine callt (b := [one (vsF _)]) v_spec_VotesOk rfl ⟨_, rfl, (by exact pr_)⟩ (.inl rfl) (by first | assumption | omega) (fun r hr => K_spec_VotesOk (a := _) hr) (fun hj => ?_) (fun hj => ?_) <;> (try simp only [etaPa, etaIt, etaVo] at hj) <;> (try contradiction))
        | (refine calle (b := [one (vsF _)]) v_laws_lwBack rfl ⟨_, rfl, (by exact pr_)⟩ (.inl rfl) (by first | assumption | omega) (fun r hr => K_laws_lwBack (a := _) hr) ?_)
        | (refine calle (b := [agg (ceF ⟨_, _⟩)]) v_impl_CertFinal rfl ⟨⟨_, _⟩, rfl, (by exact pr_)⟩ (.inl rfl) (by first | assumption | omega) (fun r hr => K_impl_CertFinal (a := ⟨_, _⟩) hr) ?_)
        | exact ⟨⟨_, rfl, rfl, code, rfl, (by unfold R_laws_FnCertOrder; dsimp only; first | done | exact absurd True.intro hj | (first | rfl | (exfalso; first | contradiction | omega | exact hc (congrArg Nat.cast hfin) | grind)))⟩, (by first | exact Nat.le_refl _ | omega), (by exact h0_)⟩
        | fail)
    | true =>
      have hB2 : certB l.reverse = true := (certB_rev hV).trans hB
      repeat' ((conv => whnf); first
        | (refine mq_of (Q0 := certB l = false) (Q1 := certB l = true) (c := (certOf l).c) (bs := (certOf l).b) v_spec_CertOf (by omega) rfl rfl ⟨l, rfl, rfl, hfl, hln⟩ (fun r obs' h => K_spec_CertOf h) (fun h => ?_) (fun h => ?_) <;> (try (exact absurd (hB.symm.trans h) (by decide))))
        | (refine callt (b := [agg (ceF (certOf l)), agg (ceF (certOf l))]) v_laws_lwCert (l2 rfl (congrArg (fun x => AV.w (.g [.c (chF (certOf l).c), x])) (bor_ow hk_ (fcellss_f (fun n => [nsF n]) (certOf l).b)))) ⟨(certOf l, certOf l), rfl, hfc, hfc⟩ (.inr ⟨rfl, rfl⟩) (by first | assumption | omega) (fun r hr => K_laws_lwCert (a := (certOf l, certOf l)) hr) (fun hj => ?_) (fun hj => ?_) <;> (try (exact absurd rfl hj)))
        | refine ⟨_, rfl, ?_⟩
        | refine ⟨rfl, ?_⟩
        | refine ⟨_, ldc_cells hupd_at (Nat.le_of_ble_eq_true rfl), ?_⟩
        | refine ⟨_, ldc_cells (by first | assumption | exact zk ‹_› (by omega) | exact zk (zk ‹_› (by omega)) (by omega)) (Nat.le_of_ble_eq_true rfl), ?_⟩
        | refine ⟨_, _, hupd_at, rfl, rfl, Nat.le_of_ble_eq_true rfl, ?_⟩
        | refine ⟨_, _, rfl, rfl, rfl, Nat.le_of_ble_eq_true rfl, ?_⟩
        | (refine ⟨?_, _, (?_ : (_ : Option Ob) = _), rfl, rfl, ?_, ?_⟩; rotate_left; (exact hk_); exact Nat.le_of_ble_eq_true rfl)
        | refine ⟨_, _, _, _, ((by exact hk_) : (_ : Option Ob) = _), fill_at (by omega), rfl, rfl, Nat.le_of_ble_eq_true rfl, ?_⟩
        | refine ⟨_, _, _, _, ((by exact hk_) : (_ : Option Ob) = _), at_mapA (by assumption), rfl, rfl, Nat.le_of_ble_eq_true rfl, ?_⟩
        | refine ⟨_, ldc_pa (by exact hk_) (at_mapA (by assumption)) (Nat.le_of_ble_eq_true rfl), ?_⟩
        | refine ⟨_, _, _, ((by exact hk_) : (_ : Option Ob) = _), ?_⟩
        | refine ⟨_, ((by exact hk_) : (_ : Option Ob) = _), ?_⟩
        | (refine ⟨fun hc => ?_, fun hc => ?_⟩ <;> (try simp (disch := omega) only [List.length_map, wrap64] at hc) <;> (try (exfalso; first | contradiction | omega)))
        | (refine callk (b := [one (vsF _)]) v_impl_CertOf rfl ⟨_, rfl, (by refine ⟨?_, ?_⟩ <;> (exact pr_))⟩ (.inl rfl) (by first | assumption | omega) (fun r hr => ?_); have hj := K_impl_CertOf (a := _) hr; clear hr; unfold R_impl_CertOf at hj; (try dsimp only at hj); (try rw [hB] at hj); (try rw [hB2] at hj); subst hj)
        | (refine callt (b := [one (vsF _)]) v_spec_VotesOk rfl ⟨_, rfl, (by exact pr_)⟩ (.inl rfl) (by first | assumption | omega) (fun r hr => K_spec_VotesOk (a := _) hr) (fun hj => ?_) (fun hj => ?_) <;> (try simp only [etaPa, etaIt, etaVo] at hj) <;> (try contradiction))
        | (refine calle (b := [one (vsF _)]) v_laws_lwBack rfl ⟨_, rfl, (by exact pr_)⟩ (.inl rfl) (by first | assumption | omega) (fun r hr => K_laws_lwBack (a := _) hr) ?_)
        | (refine calle (b := [agg (ceF ⟨_, _⟩)]) v_impl_CertFinal rfl ⟨⟨_, _⟩, rfl, (by exact pr_)⟩ (.inl rfl) (by first | assumption | omega) (fun r hr => K_impl_CertFinal (a := ⟨_, _⟩) hr) ?_)
        | exact ⟨⟨_, rfl, rfl, code, rfl, (by unfold R_laws_FnCertOrder; dsimp only; first | done | exact absurd True.intro hj | (first | rfl | (exfalso; first | contradiction | omega | exact hc (congrArg Nat.cast hfin) | grind)))⟩, (by first | exact Nat.le_refl _ | omega), (by exact h0_)⟩
        | fail)
  · have hB : certB l = false := tb_neg fun h => hV h.1
    have eC := certOf_no hB
    repeat' ((conv => whnf); first
      | (refine mq_of (Q0 := certB l = false) (Q1 := certB l = true) (c := (certOf l).c) (bs := (certOf l).b) v_spec_CertOf (by omega) rfl rfl ⟨l, rfl, rfl, hfl, hln⟩ (fun r obs' h => K_spec_CertOf h) (fun h => ?_) (fun h => ?_) <;> (try (exact absurd (hB.symm.trans h) (by decide))))
      | (refine callt (b := [agg (ceF (certOf l)), agg (ceF noCe)]) v_laws_lwCert rfl ⟨(certOf l, noCe), rfl, hfc, drce0.fit⟩ (.inr ⟨rfl, rfl⟩) (by first | assumption | omega) (fun r hr => K_laws_lwCert (a := (certOf l, noCe)) hr) (fun hj => ?_) (fun hj => ?_) <;> (try (exact absurd eC hj)))
      | refine ⟨_, rfl, ?_⟩
      | refine ⟨rfl, ?_⟩
      | refine ⟨_, ldc_cells hupd_at (Nat.le_of_ble_eq_true rfl), ?_⟩
      | refine ⟨_, ldc_cells (by first | assumption | exact zk ‹_› (by omega) | exact zk (zk ‹_› (by omega)) (by omega)) (Nat.le_of_ble_eq_true rfl), ?_⟩
      | refine ⟨_, _, hupd_at, rfl, rfl, Nat.le_of_ble_eq_true rfl, ?_⟩
      | refine ⟨_, _, rfl, rfl, rfl, Nat.le_of_ble_eq_true rfl, ?_⟩
      | (refine ⟨?_, _, (?_ : (_ : Option Ob) = _), rfl, rfl, ?_, ?_⟩; rotate_left; (exact hk_); exact Nat.le_of_ble_eq_true rfl)
      | refine ⟨_, _, _, _, ((by exact hk_) : (_ : Option Ob) = _), fill_at (by omega), rfl, rfl, Nat.le_of_ble_eq_true rfl, ?_⟩
      | refine ⟨_, _, _, _, ((by exact hk_) : (_ : Option Ob) = _), at_mapA (by assumption), rfl, rfl, Nat.le_of_ble_eq_true rfl, ?_⟩
      | refine ⟨_, ldc_pa (by exact hk_) (at_mapA (by assumption)) (Nat.le_of_ble_eq_true rfl), ?_⟩
      | refine ⟨_, _, _, ((by exact hk_) : (_ : Option Ob) = _), ?_⟩
      | refine ⟨_, ((by exact hk_) : (_ : Option Ob) = _), ?_⟩
      | (refine ⟨fun hc => ?_, fun hc => ?_⟩ <;> (try simp (disch := omega) only [List.length_map, wrap64] at hc) <;> (try (exfalso; first | contradiction | omega)))
      | (refine callk (b := [one (vsF _)]) v_impl_CertOf rfl ⟨_, rfl, (by refine ⟨?_, ?_⟩ <;> (exact pr_))⟩ (.inl rfl) (by first | assumption | omega) (fun r hr => ?_); have hj := K_impl_CertOf (a := _) hr; clear hr; unfold R_impl_CertOf at hj; (try dsimp only at hj); (try rw [hB] at hj); (try rw [hB2] at hj); subst hj)
      | (refine callt (b := [one (vsF _)]) v_spec_VotesOk rfl ⟨_, rfl, (by exact pr_)⟩ (.inl rfl) (by first | assumption | omega) (fun r hr => K_spec_VotesOk (a := _) hr) (fun hj => ?_) (fun hj => ?_) <;> (try simp only [etaPa, etaIt, etaVo] at hj) <;> (try contradiction))
      | exact ⟨⟨_, rfl, rfl, code, rfl, (by unfold R_laws_FnCertOrder; dsimp only; first | done | exact absurd True.intro hj | (first | rfl | (exfalso; first | contradiction | omega | grind)))⟩, (by first | exact Nat.le_refl _ | omega), (by exact h0_)⟩
      | fail)
end Av
end Go.Proofs.Ytocfcnkfjfpoaaa
