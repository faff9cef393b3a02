/- The walks: what is shown in a world. -/
import Derived.Test.YtlbdoamidblkaaaSB
import Derived.Test.YtlbdoamidblkaaaV3
import Derived.Test.YtlbdoamidblkaaaV4
import Derived.Test.YtlbdoamidblkaaaCC
import Derived.Test.YtlbdoamidblkaaaU3
set_option linter.unusedVariables false
set_option linter.unusedSimpArgs false
namespace Go.Proofs.Ytlbdoamidblkaaa
namespace Av
open Go.RowKit
theorem certVotes_fits {c : Ce} (h : FitCe c) : FitVs (certVotes c) := by
  by_cases hc : CertOk c
  · exact (rows_fit hc h).1
  · rw [certVotes_no hc]; exact ⟨Nat.zero_le _, fun v hv => by cases hv⟩
attribute [local irreducible] Valid ValidM
set_option maxHeartbeats 4000000 in
set_option maxRecDepth 100000 in
theorem v_impl_WorldShown_1 : Valid Try.prog n_impl_WorldShown_1 S_impl_WorldShown_1 := by
  refine valid_of_swp mixed is_impl_WorldShown_1 (by rintro _ ⟨a, rfl, _⟩; exact Nat.le_of_ble_eq_true rfl) ?_
  rintro _ rm ⟨⟨v, w⟩, rfl, hpre⟩ hl
  try dsimp only at hpre
  have hpre0 := hpre
  obtain ⟨hp1, hp2⟩ := hpre
  repeat' ((conv => whnf); first
    | refine ⟨_, rfl, ?_⟩
    | refine ⟨rfl, ?_⟩
    | refine ⟨_, ldc_cells hupd_at (Nat.le_of_ble_eq_true rfl), ?_⟩
    | refine ⟨_, ldc_cells (by first | assumption | exact zk ‹_› (by omega) | exact zk (zk ‹_› (by omega)) (by omega)) (Nat.le_of_ble_eq_true rfl), ?_⟩
    | (refine ⟨fun hc => ?_, fun hc => ?_⟩ <;> (try simp (disch := omega) only [List.length_map, wrap64] at hc))
    | (refine callt (b := [.w (.o (.ep (woF ⟨_, _, _, _⟩))), agg (voF ⟨_, _⟩)]) v_impl_World_shown rfl ⟨(⟨_, _, _, _⟩, ⟨_, _⟩), rfl, (by refine ⟨?_, ?_⟩ <;> (exact pr_))⟩ (.inl rfl) (by first | assumption | omega) (fun r hr => K_impl_World_shown (a := (⟨_, _, _, _⟩, ⟨_, _⟩)) hr) (fun hj => ?_) (fun hj => ?_) <;> (try simp only [etaPa, etaIt, etaVo] at hj))
    | exact ⟨⟨_, rfl, rfl, (v, w), rfl, (by refine congrArg B (Eq.symm (tb_pos ?_)); (try dsimp only); first | done | exact absurd True.intro hj | (first | assumption | exact fun h => h hj))⟩, (by first | exact Nat.le_refl _ | omega), (by exact h0_)⟩
    | exact ⟨⟨_, rfl, rfl, (v, w), rfl, (by refine congrArg B (Eq.symm (tb_neg ?_)); (try dsimp only); first | done | exact absurd True.intro hj | (first | assumption | exact fun h => h hj))⟩, (by first | exact Nat.le_refl _ | omega), (by exact h0_)⟩
    | fail)
set_option maxHeartbeats 4000000 in
theorem v_idxS : Valid Try.prog n_slices_IndexFunc_VoteS S_slices_IndexFunc_VoteS_s := by
  refine valid_of_swp mixed (is_slices_IndexFunc_VoteS S_impl_WorldShown_1) (by rintro _ ⟨a, rfl, _⟩; exact Nat.le_of_ble_eq_true rfl) ?_
  rintro _ rm ⟨⟨l, n⟩, rfl, ⟨hl1, hl2⟩, hq0⟩ hl
  dsimp only at hl1 hl2 hq0
  conv => whnf
  refine ⟨fun fr H nx rm' => ∃ i : Nat, Has fr [(0, one (vsF l)), (1, fnS n), (7, I l.length), (8, I i)] ∧ i ≤ l.length ∧ (∀ x, x ∈ l.take i → ¬ ¬ ShownW n x) ∧ H 0 = none ∧ rm' = rm,
    fun fr _ _ _ => l.length - ix (fr 8), ⟨0, ⟨rfl, rfl, by show I _ = I _; simp, rfl, trivial⟩, Nat.zero_le _, by simp, rfl, rfl⟩, ?_⟩
  rintro fr H nx rm' ⟨i, hfr, hi, hq, hH, rfl⟩
  rw [hfr.eq]
  conv => whnf
  refine ⟨rfl, ?_⟩
  conv => whnf
  refine ⟨fun h2 => ?_, fun h2 => ?_⟩
  · have h2 : i < l.length := by simpa using h2
    obtain ⟨x, hx⟩ : ∃ x, l[i]? = some x := ⟨_, List.getElem?_eq_getElem h2⟩
    have hxm : x ∈ l := List.mem_of_getElem? hx
    conv => whnf
    refine ⟨rfl, i, _, rfl, at_map hx, ?_⟩
    conv => whnf
    refine ⟨_, rfl, ?_⟩
    conv => whnf
    refine ⟨⟨⟨(x, n), rfl, hl2 x hxm, hq0⟩, rfl, rfl, v_impl_WorldShown_1⟩, hl, fun r hr => ?_⟩
    rcases K_impl_WorldShown_1 (a := (x, n)) hr.1 with ⟨h3, rfl⟩ | ⟨h3, rfl⟩
    · conv => whnf
      exact ⟨⟨_, rfl, rfl, (l, n), rfl, i, rfl, iff_of_true (Int.natCast_nonneg i) ⟨x, hxm, h3⟩⟩, Nat.le_refl _, hH⟩
    · conv => whnf
      refine ⟨rfl, ?_⟩
      conv => whnf
      refine ⟨⟨i + 1, ⟨rfl, rfl, rfl, congrArg I (wrap_up h2 hl1), trivial⟩, h2, ?_, hH, rfl⟩, ?_⟩
      · intro y hy
        rcases (mem_take_succ hx).1 hy with hy | rfl
        · exact hq y hy
        · exact h3
      · show l.length - ix (I _) < l.length - ix (I _)
        simp only [wrap_up h2 hl1, ix, Int.toNat_natCast]
        omega
  · conv => whnf
    refine ⟨⟨_, rfl, rfl, (l, n), rfl, -1, rfl, iff_of_false (by decide) ?_⟩, Nat.le_refl _, hH⟩
    have h2 : l.length ≤ i := by simpa using h2
    rw [List.take_of_length_le h2] at hq
    rintro ⟨x, hx, hn⟩
    exact hq x hx hn
theorem v_slices_ContainsFunc_VoteS_s : Valid Try.prog n_slices_ContainsFunc_VoteS S_slices_ContainsFunc_VoteS_s := by
  refine valid_of_swp mixed is_slices_ContainsFunc_VoteS_s (by rintro _ ⟨a, rfl, _⟩; exact Nat.le_of_ble_eq_true rfl) ?_
  rintro _ rm ⟨⟨l, w⟩, rfl, h1, h2⟩ hl
  conv => whnf
  refine ⟨⟨(l, w), rfl, h1, h2⟩, v_idxS, .inl rfl, hl, fun r hr => ?_⟩
  obtain ⟨k, rfl, hk⟩ := K_slices_IndexFunc_VoteS_s (a := (l, w)) hr
  conv => whnf
  refine ⟨rfl, ?_⟩
  conv => whnf
  refine ⟨fun h => ?_, fun h => ?_⟩
  · conv => whnf
    exact ⟨⟨_, rfl, rfl, (l, w), rfl, congrArg B (tb_pos (hk.1 h)).symm⟩, Nat.le_refl _, rfl⟩
  · conv => whnf
    exact ⟨⟨_, rfl, rfl, (l, w), rfl, congrArg B (tb_neg fun g => absurd (hk.2 g) (Int.not_le.2 h)).symm⟩, Nat.le_refl _, rfl⟩
set_option maxHeartbeats 4000000 in
set_option maxRecDepth 100000 in
theorem v_impl_WorldShown : Valid Try.prog n_impl_WorldShown S_impl_WorldShown := by
  refine valid_of_swp mixed is_impl_WorldShown (by rintro _ ⟨a, rfl, _⟩; exact Nat.le_of_ble_eq_true rfl) ?_
  rintro _ rm ⟨⟨w, c⟩, rfl, hpre⟩ hl
  try dsimp only at hpre
  have hpre0 := hpre
  obtain ⟨hp1, hp2, hp3⟩ := hpre
  have hfv : FitVs (certVotes c) := certVotes_fits hp3
  have hnS : ¬ ShownAll w (certVotes c) → ∃ v, v ∈ certVotes c ∧ ¬ ShownW w v := fun h => Classical.byContradiction fun g => h fun v hv => Classical.byContradiction fun k => g ⟨v, hv, k⟩
  by_cases hS : ShownAll w (certVotes c)
  · have hno : ¬ ∃ v, v ∈ certVotes c ∧ ¬ ShownW w v := fun ⟨v, hv, h⟩ => h (hS v hv)
    repeat' ((conv => whnf); first
      | (refine callt (b := [one (vsF (certVotes c)), fnS w]) v_slices_ContainsFunc_VoteS_s (l2 rfl (congrArg (fun x => AV.fn (.func n_impl_WorldShown_1) [] [AW.o x]) (bor_cells hk_ (fcells_c (woF w))))) ⟨(certVotes c, w), rfl, hfv, hp2⟩ (.inr ⟨rfl, rfl⟩) (by first | assumption | omega) (fun r hr => K_slices_ContainsFunc_VoteS_s (a := (certVotes c, w)) hr) (fun hj => ?_) (fun hj => ?_) <;> (try (exact absurd hj hno)))
      | refine ⟨_, rfl, ?_⟩
      | refine ⟨rfl, ?_⟩
      | refine ⟨_, ldc_cells hupd_at (Nat.le_of_ble_eq_true rfl), ?_⟩
      | refine ⟨_, ldc_cells (by first | assumption | exact zk ‹_› (by omega) | exact zk (zk ‹_› (by omega)) (by omega)) (Nat.le_of_ble_eq_true rfl), ?_⟩
      | (refine ⟨fun hc => ?_, fun hc => ?_⟩ <;> (try simp (disch := omega) only [List.length_map, wrap64] at hc) <;> (try (exfalso; first | contradiction | omega)))
      | (refine callt (b := [agg (woF ⟨_, _, _, _⟩)]) v_impl_WorldOk rfl ⟨⟨_, _, _, _⟩, rfl, (by refine ⟨?_, ?_⟩ <;> (exact pr_))⟩ (.inl rfl) (by first | assumption | omega) (fun r hr => K_impl_WorldOk (a := ⟨_, _, _, _⟩) hr) (fun hj => ?_) (fun hj => ?_) <;> (try simp only [etaPa, etaIt, etaVo] at hj) <;> (try simp only [etaNd, etaWo] at hj) <;> (try contradiction))
      | (refine callt (b := [agg (ceF ⟨_, _⟩)]) v_impl_CertOk rfl ⟨⟨_, _⟩, rfl, (by exact pr_)⟩ (.inl rfl) (by first | assumption | omega) (fun r hr => K_impl_CertOk (a := ⟨_, _⟩) hr) (fun hj => ?_) (fun hj => ?_) <;> (try simp only [etaPa, etaIt, etaVo] at hj) <;> (try contradiction))
      | (refine calle (b := [agg (ceF ⟨_, _⟩)]) v_impl_CertVotes rfl ⟨⟨_, _⟩, rfl, (by exact pr_)⟩ (.inl rfl) (by first | assumption | omega) (fun r hr => K_impl_CertVotes (a := ⟨_, _⟩) hr) ?_)
      | exact ⟨⟨_, rfl, rfl, (w, c), rfl, (by refine congrArg B (Eq.symm (tb_pos ?_)); (try dsimp only); first | done | exact absurd True.intro hj | (first | exact ⟨by assumption, by assumption, by assumption⟩ | (rintro ⟨q1, q2, q3⟩; contradiction)))⟩, (by first | exact Nat.le_refl _ | omega), (by exact h0_)⟩
      | exact ⟨⟨_, rfl, rfl, (w, c), rfl, (by refine congrArg B (Eq.symm (tb_neg ?_)); (try dsimp only); first | done | exact absurd True.intro hj | (first | exact ⟨by assumption, by assumption, by assumption⟩ | (rintro ⟨q1, q2, q3⟩; contradiction)))⟩, (by first | exact Nat.le_refl _ | omega), (by exact h0_)⟩
      | fail)
  · have hno : ¬ ¬ ∃ v, v ∈ certVotes c ∧ ¬ ShownW w v := fun h => h (hnS hS)
    repeat' ((conv => whnf); first
      | (refine callt (b := [one (vsF (certVotes c)), fnS w]) v_slices_ContainsFunc_VoteS_s (l2 rfl (congrArg (fun x => AV.fn (.func n_impl_WorldShown_1) [] [AW.o x]) (bor_cells hk_ (fcells_c (woF w))))) ⟨(certVotes c, w), rfl, hfv, hp2⟩ (.inr ⟨rfl, rfl⟩) (by first | assumption | omega) (fun r hr => K_slices_ContainsFunc_VoteS_s (a := (certVotes c, w)) hr) (fun hj => ?_) (fun hj => ?_) <;> (try (exact absurd hj hno)))
      | refine ⟨_, rfl, ?_⟩
      | refine ⟨rfl, ?_⟩
      | refine ⟨_, ldc_cells hupd_at (Nat.le_of_ble_eq_true rfl), ?_⟩
      | refine ⟨_, ldc_cells (by first | assumption | exact zk ‹_› (by omega) | exact zk (zk ‹_› (by omega)) (by omega)) (Nat.le_of_ble_eq_true rfl), ?_⟩
      | (refine ⟨fun hc => ?_, fun hc => ?_⟩ <;> (try simp (disch := omega) only [List.length_map, wrap64] at hc) <;> (try (exfalso; first | contradiction | omega)))
      | (refine callt (b := [agg (woF ⟨_, _, _, _⟩)]) v_impl_WorldOk rfl ⟨⟨_, _, _, _⟩, rfl, (by refine ⟨?_, ?_⟩ <;> (exact pr_))⟩ (.inl rfl) (by first | assumption | omega) (fun r hr => K_impl_WorldOk (a := ⟨_, _, _, _⟩) hr) (fun hj => ?_) (fun hj => ?_) <;> (try simp only [etaPa, etaIt, etaVo] at hj) <;> (try simp only [etaNd, etaWo] at hj) <;> (try contradiction))
      | (refine callt (b := [agg (ceF ⟨_, _⟩)]) v_impl_CertOk rfl ⟨⟨_, _⟩, rfl, (by exact pr_)⟩ (.inl rfl) (by first | assumption | omega) (fun r hr => K_impl_CertOk (a := ⟨_, _⟩) hr) (fun hj => ?_) (fun hj => ?_) <;> (try simp only [etaPa, etaIt, etaVo] at hj) <;> (try contradiction))
      | (refine calle (b := [agg (ceF ⟨_, _⟩)]) v_impl_CertVotes rfl ⟨⟨_, _⟩, rfl, (by exact pr_)⟩ (.inl rfl) (by first | assumption | omega) (fun r hr => K_impl_CertVotes (a := ⟨_, _⟩) hr) ?_)
      | exact ⟨⟨_, rfl, rfl, (w, c), rfl, (by refine congrArg B (Eq.symm (tb_pos ?_)); (try dsimp only); first | done | exact absurd True.intro hj | (first | exact ⟨by assumption, by assumption, by assumption⟩ | (rintro ⟨q1, q2, q3⟩; contradiction)))⟩, (by first | exact Nat.le_refl _ | omega), (by exact h0_)⟩
      | exact ⟨⟨_, rfl, rfl, (w, c), rfl, (by refine congrArg B (Eq.symm (tb_neg ?_)); (try dsimp only); first | done | exact absurd True.intro hj | (first | exact ⟨by assumption, by assumption, by assumption⟩ | (rintro ⟨q1, q2, q3⟩; contradiction)))⟩, (by first | exact Nat.le_refl _ | omega), (by exact h0_)⟩
      | fail)
set_option maxHeartbeats 4000000 in
set_option maxRecDepth 100000 in
theorem v_spec_WorldShown : Valid Try.prog n_spec_WorldShown S_spec_WorldShown := by
  refine valid_of_swp mixed is_spec_WorldShown (by rintro _ ⟨a, rfl, _⟩; exact Nat.le_of_ble_eq_true rfl) ?_
  rintro _ rm ⟨⟨w, c⟩, rfl, hpre⟩ hl
  try dsimp only at hpre
  have hpre0 := hpre
  obtain ⟨hp1, hp2, hp3⟩ := hpre
  have hfv : FitVs (certVotes c) := certVotes_fits hp3
  repeat' ((conv => whnf); first
    | refine ⟨_, rfl, ?_⟩
    | refine ⟨rfl, ?_⟩
    | refine ⟨_, ldc_cells hupd_at (Nat.le_of_ble_eq_true rfl), ?_⟩
    | refine ⟨_, ldc_cells (by first | assumption | exact zk ‹_› (by omega) | exact zk (zk ‹_› (by omega)) (by omega)) (Nat.le_of_ble_eq_true rfl), ?_⟩
    | (refine ⟨fun hc => ?_, fun hc => ?_⟩ <;> (try simp (disch := omega) only [List.length_map, wrap64] at hc) <;> (try (exfalso; first | contradiction | omega)))
    | (refine callt (b := [agg (woF ⟨_, _, _, _⟩)]) v_spec_WorldOk rfl ⟨⟨_, _, _, _⟩, rfl, (by refine ⟨?_, ?_⟩ <;> (exact pr_))⟩ (.inl rfl) (by first | assumption | omega) (fun r hr => K_spec_WorldOk (a := ⟨_, _, _, _⟩) hr) (fun hj => ?_) (fun hj => ?_) <;> (try simp only [etaPa, etaIt, etaVo] at hj) <;> (try simp only [etaNd, etaWo] at hj) <;> (try contradiction))
    | (refine callt (b := [agg (ceF ⟨_, _⟩)]) v_spec_CertOk rfl ⟨⟨_, _⟩, rfl, (by exact pr_)⟩ (.inl rfl) (by first | assumption | omega) (fun r hr => K_spec_CertOk (a := ⟨_, _⟩) hr) (fun hj => ?_) (fun hj => ?_) <;> (try simp only [etaPa, etaIt, etaVo] at hj) <;> (try contradiction))
    | (refine calle (b := [agg (ceF ⟨_, _⟩)]) v_spec_CertVotes rfl ⟨⟨_, _⟩, rfl, (by exact pr_)⟩ (.inl rfl) (by first | assumption | omega) (fun r hr => K_spec_CertVotes (a := ⟨_, _⟩) hr) ?_)
    | (refine callt (b := [agg (woF ⟨_, _, _, _⟩), one (vsF _)]) v_spec_l21All rfl ⟨(⟨_, _, _, _⟩, _), rfl, (by refine ⟨?_, ?_⟩ <;> (exact pr_))⟩ (.inl rfl) (by first | assumption | omega) (fun r hr => K_spec_l21All (a := (⟨_, _, _, _⟩, _)) hr) (fun hj => ?_) (fun hj => ?_) <;> (try simp only [etaPa, etaIt, etaVo] at hj) <;> (try simp only [etaNd, etaWo] at hj) <;> (try contradiction))
    | exact ⟨⟨_, rfl, rfl, (w, c), rfl, (by refine congrArg B (Eq.symm (tb_pos ?_)); (try dsimp only); first | done | exact absurd True.intro hj | (first | exact ⟨by assumption, by assumption, by assumption⟩ | (rintro ⟨q1, q2, q3⟩; contradiction)))⟩, (by first | exact Nat.le_refl _ | omega), (by exact h0_)⟩
    | exact ⟨⟨_, rfl, rfl, (w, c), rfl, (by refine congrArg B (Eq.symm (tb_neg ?_)); (try dsimp only); first | done | exact absurd True.intro hj | (first | exact ⟨by assumption, by assumption, by assumption⟩ | (rintro ⟨q1, q2, q3⟩; contradiction)))⟩, (by first | exact Nat.le_refl _ | omega), (by exact h0_)⟩
    | fail)
set_option maxHeartbeats 4000000 in
set_option maxRecDepth 100000 in
theorem v_laws_FnExactWorldShown : Valid Try.prog n_laws_FnExactWorldShown S_laws_FnExactWorldShown := by
  refine valid_of_swp mixed is_laws_FnExactWorldShown (by rintro _ ⟨a, rfl, _⟩; exact Nat.le_of_ble_eq_true rfl) ?_
  rintro _ rm ⟨⟨w, c⟩, rfl, hpre⟩ hl
  try dsimp only at hpre
  have hpre0 := hpre
  obtain ⟨hp1, hp2, hp3⟩ := hpre
  repeat' ((conv => whnf); first
    | refine ⟨_, rfl, ?_⟩
    | refine ⟨rfl, ?_⟩
    | refine ⟨_, ldc_cells hupd_at (Nat.le_of_ble_eq_true rfl), ?_⟩
    | refine ⟨_, ldc_cells (by first | assumption | exact zk ‹_› (by omega) | exact zk (zk ‹_› (by omega)) (by omega)) (Nat.le_of_ble_eq_true rfl), ?_⟩
    | refine ⟨_, _, hupd_at, rfl, rfl, Nat.le_of_ble_eq_true rfl, ?_⟩
    | refine ⟨_, _, rfl, rfl, rfl, Nat.le_of_ble_eq_true rfl, ?_⟩
    | (refine ⟨fun hc => ?_, fun hc => ?_⟩ <;> (try simp (disch := omega) only [List.length_map, wrap64] at hc))
    | (refine callk (b := [agg (woF ⟨_, _, _, _⟩), I _]) v_laws_szWorld rfl ⟨(⟨_, _, _, _⟩, _), rfl, (by refine ⟨?_, ?_, ?_, ?_⟩ <;> (exact pr_))⟩ (.inl rfl) (by first | assumption | omega) (fun r hr => ?_); have hj := K_laws_szWorld (a := (⟨_, _, _, _⟩, _)) hr; clear hr; obtain ⟨k, rfl, hk1, hk2⟩ := hj)
    | exact ⟨⟨_, rfl, rfl, (w, c), rfl, (by refine congrArg B (Eq.symm (tb_pos ?_)); (try dsimp only); first | done | exact absurd True.intro hj | (exact True.intro))⟩, (by first | exact Nat.le_refl _ | omega), (by exact h0_)⟩
    | exact ⟨⟨_, rfl, rfl, (w, c), rfl, (by refine congrArg B (Eq.symm (tb_neg ?_)); (try dsimp only); first | done | exact absurd True.intro hj | (exact True.intro))⟩, (by first | exact Nat.le_refl _ | omega), (by exact h0_)⟩
    | fail)
  have hsmw : SmW w := hk2 hc
  repeat' ((conv => whnf); first
    | refine ⟨_, rfl, ?_⟩
    | refine ⟨rfl, ?_⟩
    | refine ⟨_, ldc_cells hupd_at (Nat.le_of_ble_eq_true rfl), ?_⟩
    | refine ⟨_, ldc_cells (by first | assumption | exact zk ‹_› (by omega) | exact zk (zk ‹_› (by omega)) (by omega)) (Nat.le_of_ble_eq_true rfl), ?_⟩
    | refine ⟨_, _, hupd_at, rfl, rfl, Nat.le_of_ble_eq_true rfl, ?_⟩
    | refine ⟨_, _, rfl, rfl, rfl, Nat.le_of_ble_eq_true rfl, ?_⟩
    | (refine ⟨fun hc => ?_, fun hc => ?_⟩ <;> (try simp (disch := omega) only [List.length_map, wrap64] at hc))
    | (refine callk (b := [agg (ceF ⟨_, _⟩), I _]) v_laws_szCert rfl ⟨(⟨_, _⟩, _), rfl, (by refine ⟨?_, ?_, ?_⟩ <;> (exact pr_))⟩ (.inl rfl) (by first | assumption | omega) (fun r hr => ?_); have hj := K_laws_szCert (a := (⟨_, _⟩, _)) hr; clear hr; obtain ⟨k, rfl, hk1, hk2⟩ := hj)
    | exact ⟨⟨_, rfl, rfl, (w, c), rfl, (by refine congrArg B (Eq.symm (tb_pos ?_)); (try dsimp only); first | done | exact absurd True.intro hj | (exact True.intro))⟩, (by first | exact Nat.le_refl _ | omega), (by exact h0_)⟩
    | exact ⟨⟨_, rfl, rfl, (w, c), rfl, (by refine congrArg B (Eq.symm (tb_neg ?_)); (try dsimp only); first | done | exact absurd True.intro hj | (exact True.intro))⟩, (by first | exact Nat.le_refl _ | omega), (by exact h0_)⟩
    | fail)
  have hsmc : SmCe c := hk2 hc
  have hf1 : FitNs w.nodes := hsmw.1.fit
  have hf2 : FitVs w.log := hsmw.2.fit
  have hf3 : FitCe c := hsmc.fit
  by_cases hS : WShown w c
  · skip
    repeat' ((conv => whnf); first
      | refine ⟨_, rfl, ?_⟩
      | refine ⟨rfl, ?_⟩
      | refine ⟨_, ldc_cells hupd_at (Nat.le_of_ble_eq_true rfl), ?_⟩
      | refine ⟨_, ldc_cells (by first | assumption | exact zk ‹_› (by omega) | exact zk (zk ‹_› (by omega)) (by omega)) (Nat.le_of_ble_eq_true rfl), ?_⟩
      | refine ⟨_, _, hupd_at, rfl, rfl, Nat.le_of_ble_eq_true rfl, ?_⟩
      | refine ⟨_, _, rfl, rfl, rfl, Nat.le_of_ble_eq_true rfl, ?_⟩
      | (refine ⟨fun hc => ?_, fun hc => ?_⟩ <;> (try simp (disch := omega) only [List.length_map, wrap64] at hc) <;> (try (exfalso; first | contradiction | omega)))
      | (refine calle (b := [agg (woF ⟨_, _, _, _⟩)]) v_laws_toWorld rfl ⟨⟨_, _, _, _⟩, rfl, (by refine ⟨?_, ?_⟩ <;> (exact pr_))⟩ (.inl rfl) (by first | assumption | omega) (fun r hr => K_laws_toWorld (a := ⟨_, _, _, _⟩) hr) ?_)
      | (refine calle (b := [agg (ceF ⟨_, _⟩)]) v_laws_toCert rfl ⟨⟨_, _⟩, rfl, (by exact pr_)⟩ (.inl rfl) (by first | assumption | omega) (fun r hr => K_laws_toCert (a := ⟨_, _⟩) hr) ?_)
      | (refine callt (b := [agg (woF ⟨_, _, _, _⟩), agg (ceF ⟨_, _⟩)]) v_spec_WorldShown rfl ⟨(⟨_, _, _, _⟩, ⟨_, _⟩), rfl, (by refine ⟨?_, ?_, ?_⟩ <;> (exact pr_))⟩ (.inl rfl) (by first | assumption | omega) (fun r hr => K_spec_WorldShown (a := (⟨_, _, _, _⟩, ⟨_, _⟩)) hr) (fun hj => ?_) (fun hj => ?_) <;> (try simp only [etaPa, etaIt, etaVo] at hj) <;> (try simp only [etaWo, etaCe] at hj) <;> (try contradiction))
      | (refine callt (b := [agg (woF ⟨_, _, _, _⟩), agg (ceF ⟨_, _⟩)]) v_impl_WorldShown rfl ⟨(⟨_, _, _, _⟩, ⟨_, _⟩), rfl, (by refine ⟨?_, ?_, ?_⟩ <;> (exact pr_))⟩ (.inl rfl) (by first | assumption | omega) (fun r hr => K_impl_WorldShown (a := (⟨_, _, _, _⟩, ⟨_, _⟩)) hr) (fun hj => ?_) (fun hj => ?_) <;> (try simp only [etaPa, etaIt, etaVo] at hj) <;> (try simp only [etaWo, etaCe] at hj) <;> (try contradiction))
      | (refine callt (b := [agg (woF ⟨_, _, _, _⟩), agg (woF ⟨_, _, _, _⟩)]) v_laws_eqWorld rfl ⟨(⟨_, _, _, _⟩, ⟨_, _, _, _⟩), rfl, (by refine ⟨?_, ?_, ?_, ?_⟩ <;> (exact pr_))⟩ (.inl rfl) (by first | assumption | omega) (fun r hr => K_laws_eqWorld (a := (⟨_, _, _, _⟩, ⟨_, _, _, _⟩)) hr) (fun hj => ?_) (fun hj => ?_) <;> (try simp only [etaPa, etaIt, etaVo] at hj) <;> (try simp only [etaNd, etaWo] at hj) <;> (try contradiction))
      | (refine callt (b := [agg (ceF ⟨_, _⟩), agg (ceF ⟨_, _⟩)]) v_laws_eqCert rfl ⟨(⟨_, _⟩, ⟨_, _⟩), rfl, (by refine ⟨?_, ?_⟩ <;> (exact pr_))⟩ (.inl rfl) (by first | assumption | omega) (fun r hr => K_laws_eqCert (a := (⟨_, _⟩, ⟨_, _⟩)) hr) (fun hj => ?_) (fun hj => ?_) <;> (try simp only [etaPa, etaIt, etaVo] at hj) <;> (try simp only [etaCe] at hj) <;> (try contradiction))
      | exact ⟨⟨_, rfl, rfl, (w, c), rfl, (by refine congrArg B (Eq.symm (tb_pos ?_)); (try dsimp only); first | done | exact absurd True.intro hj | (first | exact True.intro | exact absurd rfl hj))⟩, (by first | exact Nat.le_refl _ | omega), (by exact h0_)⟩
      | exact ⟨⟨_, rfl, rfl, (w, c), rfl, (by refine congrArg B (Eq.symm (tb_neg ?_)); (try dsimp only); first | done | exact absurd True.intro hj | (first | exact True.intro | exact absurd rfl hj))⟩, (by first | exact Nat.le_refl _ | omega), (by exact h0_)⟩
      | fail)
  · skip
    repeat' ((conv => whnf); first
      | refine ⟨_, rfl, ?_⟩
      | refine ⟨rfl, ?_⟩
      | refine ⟨_, ldc_cells hupd_at (Nat.le_of_ble_eq_true rfl), ?_⟩
      | refine ⟨_, ldc_cells (by first | assumption | exact zk ‹_› (by omega) | exact zk (zk ‹_› (by omega)) (by omega)) (Nat.le_of_ble_eq_true rfl), ?_⟩
      | refine ⟨_, _, hupd_at, rfl, rfl, Nat.le_of_ble_eq_true rfl, ?_⟩
      | refine ⟨_, _, rfl, rfl, rfl, Nat.le_of_ble_eq_true rfl, ?_⟩
      | (refine ⟨fun hc => ?_, fun hc => ?_⟩ <;> (try simp (disch := omega) only [List.length_map, wrap64] at hc) <;> (try (exfalso; first | contradiction | omega)))
      | (refine calle (b := [agg (woF ⟨_, _, _, _⟩)]) v_laws_toWorld rfl ⟨⟨_, _, _, _⟩, rfl, (by refine ⟨?_, ?_⟩ <;> (exact pr_))⟩ (.inl rfl) (by first | assumption | omega) (fun r hr => K_laws_toWorld (a := ⟨_, _, _, _⟩) hr) ?_)
      | (refine calle (b := [agg (ceF ⟨_, _⟩)]) v_laws_toCert rfl ⟨⟨_, _⟩, rfl, (by exact pr_)⟩ (.inl rfl) (by first | assumption | omega) (fun r hr => K_laws_toCert (a := ⟨_, _⟩) hr) ?_)
      | (refine callt (b := [agg (woF ⟨_, _, _, _⟩), agg (ceF ⟨_, _⟩)]) v_spec_WorldShown rfl ⟨(⟨_, _, _, _⟩, ⟨_, _⟩), rfl, (by refine ⟨?_, ?_, ?_⟩ <;> (exact pr_))⟩ (.inl rfl) (by first | assumption | omega) (fun r hr => K_spec_WorldShown (a := (⟨_, _, _, _⟩, ⟨_, _⟩)) hr) (fun hj => ?_) (fun hj => ?_) <;> (try simp only [etaPa, etaIt, etaVo] at hj) <;> (try simp only [etaWo, etaCe] at hj) <;> (try contradiction))
      | (refine callt (b := [agg (woF ⟨_, _, _, _⟩), agg (ceF ⟨_, _⟩)]) v_impl_WorldShown rfl ⟨(⟨_, _, _, _⟩, ⟨_, _⟩), rfl, (by refine ⟨?_, ?_, ?_⟩ <;> (exact pr_))⟩ (.inl rfl) (by first | assumption | omega) (fun r hr => K_impl_WorldShown (a := (⟨_, _, _, _⟩, ⟨_, _⟩)) hr) (fun hj => ?_) (fun hj => ?_) <;> (try simp only [etaPa, etaIt, etaVo] at hj) <;> (try simp only [etaWo, etaCe] at hj) <;> (try contradiction))
      | (refine callt (b := [agg (woF ⟨_, _, _, _⟩), agg (woF ⟨_, _, _, _⟩)]) v_laws_eqWorld rfl ⟨(⟨_, _, _, _⟩, ⟨_, _, _, _⟩), rfl, (by refine ⟨?_, ?_, ?_, ?_⟩ <;> (exact pr_))⟩ (.inl rfl) (by first | assumption | omega) (fun r hr => K_laws_eqWorld (a := (⟨_, _, _, _⟩, ⟨_, _, _, _⟩)) hr) (fun hj => ?_) (fun hj => ?_) <;> (try simp only [etaPa, etaIt, etaVo] at hj) <;> (try simp only [etaNd, etaWo] at hj) <;> (try contradiction))
      | (refine callt (b := [agg (ceF ⟨_, _⟩), agg (ceF ⟨_, _⟩)]) v_laws_eqCert rfl ⟨(⟨_, _⟩, ⟨_, _⟩), rfl, (by refine ⟨?_, ?_⟩ <;> (exact pr_))⟩ (.inl rfl) (by first | assumption | omega) (fun r hr => K_laws_eqCert (a := (⟨_, _⟩, ⟨_, _⟩)) hr) (fun hj => ?_) (fun hj => ?_) <;> (try simp only [etaPa, etaIt, etaVo] at hj) <;> (try simp only [etaCe] at hj) <;> (try contradiction))
      | exact ⟨⟨_, rfl, rfl, (w, c), rfl, (by refine congrArg B (Eq.symm (tb_pos ?_)); (try dsimp only); first | done | exact absurd True.intro hj | (first | exact True.intro | exact absurd rfl hj))⟩, (by first | exact Nat.le_refl _ | omega), (by exact h0_)⟩
      | exact ⟨⟨_, rfl, rfl, (w, c), rfl, (by refine congrArg B (Eq.symm (tb_neg ?_)); (try dsimp only); first | done | exact absurd True.intro hj | (first | exact True.intro | exact absurd rfl hj))⟩, (by first | exact Nat.le_refl _ | omega), (by exact h0_)⟩
      | fail)
end Av
end Go.Proofs.Ytlbdoamidblkaaa
