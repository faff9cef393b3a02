/- The walks: nodes and worlds that are ok. -/
import Derived.Test.YtlbdoamidblkaaaV1
import Derived.Test.YtlbdoamidblkaaaJ24
import Derived.Test.YtlbdoamidblkaaaJ9
set_option linter.unusedVariables false
set_option linter.unusedSimpArgs false
namespace Go.Proofs.Ytlbdoamidblkaaa
namespace Av
open Go.RowKit
theorem K_impl_within {a : (Int) × (Int) × (Int)} {r : AV} (h : S_impl_within.post ([I a.1, I a.2.1, I a.2.2]) r) : (In a.1 a.2.1 a.2.2 ∧ r = B true) ∨ (¬ (In a.1 a.2.1 a.2.2) ∧ r = B false) :=
  tF_post (hcl := fun _ => rfl) (a := a) (by rintro ⟨x0, x1, x2⟩ ⟨y0, y1, y2⟩ h; simp only [List.cons.injEq, and_true, true_and, one_inj, agg_inj, paF_inj, itF_inj, chF_inj, voF_inj, vsF_inj, csF_inj, nsF_inj, nssF_inj, ndF_inj, ceF_inj, woF_inj, evF_inj, byF_inj, ndsF_inj, evsF_inj, pasF_inj, aI_inj, aB_inj, aRp_inj, fI_inj, fBo_inj] at h; obtain ⟨rfl, rfl, rfl⟩ := h; rfl) h
attribute [local irreducible] Valid ValidM
set_option maxHeartbeats 4000000 in
set_option maxRecDepth 100000 in
theorem v_impl_Vote_last : Valid Try.prog n_impl_Vote_last S_impl_Vote_last := by
  refine valid_of_swp mixed is_impl_Vote_last (by rintro _ ⟨a, rfl, _⟩; exact Nat.le_of_ble_eq_true rfl) ?_
  rintro _ rm ⟨v, rfl, hpre⟩ hl
  try dsimp only at hpre
  have hpre0 := hpre
  obtain ⟨hp1, hp2⟩ := hpre
  repeat' ((conv => whnf); first
    | refine ⟨_, rfl, ?_⟩
    | refine ⟨rfl, ?_⟩
    | refine ⟨_, _, rfl, at_map (by assumption), ?_⟩
    | refine idx_mapX (i := 0) rfl (by assumption) ?_
    | refine idx_map (by omega) (fun x hx => ?_)
    | refine idx_mapX (wrap_dn (by omega) (by omega)) (by assumption) ?_
    | refine idx_mapE (wrap_dn (by omega) (by omega)) (by omega) (fun x hx => ?_)
    | refine idx_mapL (by omega) (by first | assumption | (simp only [LIM]; omega)) (fun x hx => ?_)
    | refine idx_mapI (by omega) (by first | omega | (simp only [List.length_map] at *; omega)) (fun x hx => ?_)
    | refine ⟨_, ldc_cells hupd_at (Nat.le_of_ble_eq_true rfl), ?_⟩
    | refine ⟨_, ldc_cells (by first | assumption | exact zk ‹_› (by omega) | exact zk (zk ‹_› (by omega)) (by omega)) (Nat.le_of_ble_eq_true rfl), ?_⟩
    | (refine ⟨fun hc => ?_, fun hc => ?_⟩ <;> (try simp (disch := omega) only [List.length_map, wrap64] at hc))
    | exact ⟨⟨_, rfl, rfl, v, rfl, rfl⟩, (by first | exact Nat.le_refl _ | omega), (by exact h0_)⟩
    | exact ⟨⟨_, rfl, rfl, v, rfl, (by refine congrArg I (?_ : (_ : Int) = _); (try dsimp only); first | done | exact absurd True.intro hj | ((rw [lastE_at (by assumption)])))⟩, (by first | exact Nat.le_refl _ | omega), (by exact h0_)⟩
    | fail)
set_option maxHeartbeats 4000000 in
set_option maxRecDepth 100000 in
theorem v_impl_NodeOk_1 : Valid Try.prog n_impl_NodeOk_1 S_impl_NodeOk_1 := by
  refine valid_of_swp mixed is_impl_NodeOk_1 (by rintro _ ⟨a, rfl, _⟩; exact Nat.le_of_ble_eq_true rfl) ?_
  rintro _ rm ⟨⟨v, n⟩, rfl, hpre⟩ hl
  try dsimp only at hpre
  have hpre0 := hpre
  obtain ⟨hp1, hp2⟩ := hpre
  repeat' ((conv => whnf); first
    | refine ⟨_, rfl, ?_⟩
    | refine ⟨rfl, ?_⟩
    | refine ⟨_, ldc_cells hupd_at (Nat.le_of_ble_eq_true rfl), ?_⟩
    | refine ⟨_, ldc_cells (by first | assumption | exact zk ‹_› (by omega) | exact zk (zk ‹_› (by omega)) (by omega)) (Nat.le_of_ble_eq_true rfl), ?_⟩
    | (refine ⟨fun hc => ?_, fun hc => ?_⟩ <;> (try simp (disch := omega) only [List.length_map, wrap64] at hc))
    | (refine calle (b := [agg (voF ⟨_, _⟩)]) v_impl_Vote_last rfl ⟨⟨_, _⟩, rfl, (by refine ⟨?_, ?_⟩ <;> (exact pr_))⟩ (.inl rfl) (by first | assumption | omega) (fun r hr => K_impl_Vote_last (a := ⟨_, _⟩) hr) ?_)
    | exact ⟨⟨_, rfl, rfl, (v, n), rfl, (by refine congrArg B (Eq.symm (tb_pos ?_)); (try dsimp only); first | done | exact absurd True.intro hj | (first | exact ⟨by assumption, hc⟩ | exact fun h => absurd h.2 (Int.not_lt.2 hc) | exact fun h => hc h.1))⟩, (by first | exact Nat.le_refl _ | omega), (by exact h0_)⟩
    | exact ⟨⟨_, rfl, rfl, (v, n), rfl, (by refine congrArg B (Eq.symm (tb_neg ?_)); (try dsimp only); first | done | exact absurd True.intro hj | (first | exact ⟨by assumption, hc⟩ | exact fun h => absurd h.2 (Int.not_lt.2 hc) | exact fun h => hc h.1))⟩, (by first | exact Nat.le_refl _ | omega), (by exact h0_)⟩
    | fail)
set_option maxHeartbeats 4000000 in
set_option maxRecDepth 100000 in
theorem v_impl_World_shown : Valid Try.prog n_impl_World_shown S_impl_World_shown := by
  refine valid_of_swp mixed is_impl_World_shown (by rintro _ ⟨a, rfl, _⟩; exact Nat.le_of_ble_eq_true rfl) ?_
  rintro _ rm ⟨⟨w, v⟩, rfl, hpre⟩ hl
  try dsimp only at hpre
  have hpre0 := hpre
  obtain ⟨hp1, hp2⟩ := hpre
  repeat' ((conv => whnf); first
    | refine ⟨_, rfl, ?_⟩
    | refine ⟨rfl, ?_⟩
    | refine ⟨_, ldc_cells hupd_at (Nat.le_of_ble_eq_true rfl), ?_⟩
    | refine ⟨_, ldc_cells (by first | assumption | exact zk ‹_› (by omega) | exact zk (zk ‹_› (by omega)) (by omega)) (Nat.le_of_ble_eq_true rfl), ?_⟩
    | (refine ⟨fun hc => ?_, fun hc => ?_⟩ <;> (try simp (disch := omega) only [List.length_map, wrap64] at hc))
    | (refine callt (b := [one (vsF _), agg (voF ⟨_, _⟩)]) v_impl_votes_has rfl ⟨(_, ⟨_, _⟩), rfl, (by refine ⟨?_, ?_⟩ <;> (exact pr_))⟩ (.inl rfl) (by first | assumption | omega) (fun r hr => K_impl_votes_has (a := (_, ⟨_, _⟩)) hr) (fun hj => ?_) (fun hj => ?_) <;> (try simp only [etaPa, etaIt, etaVo] at hj))
    | exact ⟨⟨_, rfl, rfl, (w, v), rfl, (by refine congrArg B (Eq.symm (tb_pos ?_)); (try dsimp only); first | done | exact absurd True.intro hj | (first | exact .inl hc | exact .inr hj | (intro h; rcases h with h | h <;> contradiction)))⟩, (by first | exact Nat.le_refl _ | omega), (by exact h0_)⟩
    | exact ⟨⟨_, rfl, rfl, (w, v), rfl, (by refine congrArg B (Eq.symm (tb_neg ?_)); (try dsimp only); first | done | exact absurd True.intro hj | (first | exact .inl hc | exact .inr hj | (intro h; rcases h with h | h <;> contradiction)))⟩, (by first | exact Nat.le_refl _ | omega), (by exact h0_)⟩
    | fail)
set_option maxHeartbeats 4000000 in
set_option maxRecDepth 100000 in
theorem v_impl_WorldOk_1 : Valid Try.prog n_impl_WorldOk_1 S_impl_WorldOk_1 := by
  refine valid_of_swp mixed is_impl_WorldOk_1 (by rintro _ ⟨a, rfl, _⟩; exact Nat.le_of_ble_eq_true rfl) ?_
  rintro _ rm ⟨⟨v, w⟩, rfl, hpre⟩ hl
  try dsimp only at hpre
  have hpre0 := hpre
  obtain ⟨hp1, hp2⟩ := hpre
  repeat' ((conv => whnf); first
    | refine ⟨_, rfl, ?_⟩
    | refine ⟨rfl, ?_⟩
    | refine ⟨_, ldc_cells hupd_at (Nat.le_of_ble_eq_true rfl), ?_⟩
    | refine ⟨_, ldc_cells (by first | assumption | exact zk ‹_› (by omega) | exact zk (zk ‹_› (by omega)) (by omega)) (Nat.le_of_ble_eq_true rfl), ?_⟩
    | (refine ⟨fun hc => ?_, fun hc => ?_⟩ <;> (try simp (disch := omega) only [List.length_map, wrap64] at hc))
    | (refine callt (b := [.w (.o (.ep (woF ⟨_, _, _, _⟩))), agg (voF ⟨_, _⟩)]) v_impl_World_shown rfl ⟨(⟨_, _, _, _⟩, ⟨_, _⟩), rfl, (by refine ⟨?_, ?_⟩ <;> (exact pr_))⟩ (.inl rfl) (by first | assumption | omega) (fun r hr => K_impl_World_shown (a := (⟨_, _, _, _⟩, ⟨_, _⟩)) hr) (fun hj => ?_) (fun hj => ?_) <;> (try simp only [etaPa, etaIt, etaVo] at hj))
    | exact ⟨⟨_, rfl, rfl, (v, w), rfl, (by refine congrArg B (Eq.symm (tb_pos ?_)); (try dsimp only); first | done | exact absurd True.intro hj | (first | assumption | exact fun h => h hj))⟩, (by first | exact Nat.le_refl _ | omega), (by exact h0_)⟩
    | exact ⟨⟨_, rfl, rfl, (v, w), rfl, (by refine congrArg B (Eq.symm (tb_neg ?_)); (try dsimp only); first | done | exact absurd True.intro hj | (first | assumption | exact fun h => h hj))⟩, (by first | exact Nat.le_refl _ | omega), (by exact h0_)⟩
    | fail)
set_option maxHeartbeats 4000000 in
theorem v_idxN : Valid Try.prog n_slices_IndexFunc_VoteS (S_idx fun q => ∃ n, q = .inl n) := by
  refine valid_of_swp mixed (is_slices_IndexFunc_VoteS S_impl_NodeOk_1) (by rintro _ ⟨a, rfl, _⟩; exact Nat.le_of_ble_eq_true rfl) ?_
  rintro _ rm ⟨⟨l, q⟩, rfl, ⟨hl1, hl2⟩, hq0, n, rfl⟩ hl
  dsimp only at hl1 hl2 hq0
  conv => whnf
  refine ⟨fun fr H nx rm' => ∃ i : Nat, Has fr [(0, one (vsF l)), (1, fnQ (.inl n)), (7, I l.length), (8, I i)] ∧ i ≤ l.length ∧ (∀ x, x ∈ l.take i → ¬ hitQ (.inl n) x) ∧ H 0 = none ∧ rm' = rm,
    fun fr _ _ _ => l.length - ix (fr 8), ⟨0, ⟨rfl, rfl, by show I _ = I _; simp, rfl, trivial⟩, Nat.zero_le _, by simp, rfl, rfl⟩, ?_⟩
  rintro fr H nx rm' ⟨i, hfr, hi, hq, hH, rfl⟩
  rw [hfr.eq]
  conv => whnf
  refine ⟨rfl, ?_⟩
  conv => whnf
  refine ⟨fun h2 => ?_, fun h2 => ?_⟩
  · have h2 : i < l.length := by simpa using h2
    obtain ⟨x, hx⟩ : ∃ x, l[i]? = some x := ⟨_, List.getElem?_eq_getElem h2⟩
    have hxm : x ∈ l := List.mem_of_getElem? hx
    conv => whnf
    refine ⟨rfl, i, _, rfl, at_map hx, ?_⟩
    conv => whnf
    refine ⟨_, rfl, ?_⟩
    conv => whnf
    refine ⟨⟨⟨(x, n), rfl, hl2 x hxm, hq0 x hxm⟩, rfl, rfl, v_impl_NodeOk_1⟩, hl, fun r hr => ?_⟩
    rcases K_impl_NodeOk_1 (a := (x, n)) hr.1 with ⟨h3, rfl⟩ | ⟨h3, rfl⟩
    · conv => whnf
      exact ⟨⟨_, rfl, rfl, (l, .inl n), rfl, i, rfl, iff_of_true (Int.natCast_nonneg i) ⟨x, hxm, h3⟩⟩, Nat.le_refl _, hH⟩
    · conv => whnf
      refine ⟨rfl, ?_⟩
      conv => whnf
      refine ⟨⟨i + 1, ⟨rfl, rfl, rfl, congrArg I (wrap_up h2 hl1), trivial⟩, h2, ?_, hH, rfl⟩, ?_⟩
      · intro y hy
        rcases (mem_take_succ hx).1 hy with hy | rfl
        · exact hq y hy
        · exact h3
      · show l.length - ix (I _) < l.length - ix (I _)
        simp only [wrap_up h2 hl1, ix, Int.toNat_natCast]
        omega
  · conv => whnf
    refine ⟨⟨_, rfl, rfl, (l, .inl n), rfl, -1, rfl, iff_of_false (by decide) ?_⟩, Nat.le_refl _, hH⟩
    have h2 : l.length ≤ i := by simpa using h2
    rw [List.take_of_length_le h2] at hq
    rintro ⟨x, hx, hn⟩
    exact hq x hx hn
set_option maxHeartbeats 4000000 in
theorem v_idxW : Valid Try.prog n_slices_IndexFunc_VoteS (S_idx fun q => ∃ n, q = .inr n) := by
  refine valid_of_swp mixed (is_slices_IndexFunc_VoteS S_impl_WorldOk_1) (by rintro _ ⟨a, rfl, _⟩; exact Nat.le_of_ble_eq_true rfl) ?_
  rintro _ rm ⟨⟨l, q⟩, rfl, ⟨hl1, hl2⟩, hq0, n, rfl⟩ hl
  dsimp only at hl1 hl2 hq0
  conv => whnf
  refine ⟨fun fr H nx rm' => ∃ i : Nat, Has fr [(0, one (vsF l)), (1, fnQ (.inr n)), (7, I l.length), (8, I i)] ∧ i ≤ l.length ∧ (∀ x, x ∈ l.take i → ¬ hitQ (.inr n) x) ∧ H 0 = none ∧ rm' = rm,
    fun fr _ _ _ => l.length - ix (fr 8), ⟨0, ⟨rfl, rfl, by show I _ = I _; simp, rfl, trivial⟩, Nat.zero_le _, by simp, rfl, rfl⟩, ?_⟩
  rintro fr H nx rm' ⟨i, hfr, hi, hq, hH, rfl⟩
  rw [hfr.eq]
  conv => whnf
  refine ⟨rfl, ?_⟩
  conv => whnf
  refine ⟨fun h2 => ?_, fun h2 => ?_⟩
  · have h2 : i < l.length := by simpa using h2
    obtain ⟨x, hx⟩ : ∃ x, l[i]? = some x := ⟨_, List.getElem?_eq_getElem h2⟩
    have hxm : x ∈ l := List.mem_of_getElem? hx
    conv => whnf
    refine ⟨rfl, i, _, rfl, at_map hx, ?_⟩
    conv => whnf
    refine ⟨_, rfl, ?_⟩
    conv => whnf
    refine ⟨⟨⟨(x, n), rfl, hl2 x hxm, hq0⟩, rfl, rfl, v_impl_WorldOk_1⟩, hl, fun r hr => ?_⟩
    rcases K_impl_WorldOk_1 (a := (x, n)) hr.1 with ⟨h3, rfl⟩ | ⟨h3, rfl⟩
    · conv => whnf
      exact ⟨⟨_, rfl, rfl, (l, .inr n), rfl, i, rfl, iff_of_true (Int.natCast_nonneg i) ⟨x, hxm, h3⟩⟩, Nat.le_refl _, hH⟩
    · conv => whnf
      refine ⟨rfl, ?_⟩
      conv => whnf
      refine ⟨⟨i + 1, ⟨rfl, rfl, rfl, congrArg I (wrap_up h2 hl1), trivial⟩, h2, ?_, hH, rfl⟩, ?_⟩
      · intro y hy
        rcases (mem_take_succ hx).1 hy with hy | rfl
        · exact hq y hy
        · exact h3
      · show l.length - ix (I _) < l.length - ix (I _)
        simp only [wrap_up h2 hl1, ix, Int.toNat_natCast]
        omega
  · conv => whnf
    refine ⟨⟨_, rfl, rfl, (l, .inr n), rfl, -1, rfl, iff_of_false (by decide) ?_⟩, Nat.le_refl _, hH⟩
    have h2 : l.length ≤ i := by simpa using h2
    rw [List.take_of_length_le h2] at hq
    rintro ⟨x, hx, hn⟩
    exact hq x hx hn
theorem v_slices_IndexFunc_VoteS : Valid Try.prog n_slices_IndexFunc_VoteS S_slices_IndexFunc_VoteS :=
  valid_split v_idxN v_idxW rfl rfl fun args hp => by
    obtain ⟨⟨l, n | w⟩, rfl, h1, h2, _⟩ := hp
    · exact .inl ⟨⟨(l, .inl n), rfl, h1, h2, n, rfl⟩, fun r hr => hr⟩
    · exact .inr ⟨⟨(l, .inr w), rfl, h1, h2, w, rfl⟩, fun r hr => hr⟩
theorem v_slices_ContainsFunc_VoteS : Valid Try.prog n_slices_ContainsFunc_VoteS S_slices_ContainsFunc_VoteS := by
  refine valid_of_swp mixed is_slices_ContainsFunc_VoteS (by rintro _ ⟨a, rfl, _⟩; exact Nat.le_of_ble_eq_true rfl) ?_
  rintro _ rm ⟨⟨l, n | w⟩, rfl, h1, h2⟩ hl
  · conv => whnf
    refine ⟨⟨(l, .inl n), rfl, h1, h2, trivial⟩, v_slices_IndexFunc_VoteS, .inl rfl, hl, fun r hr => ?_⟩
    obtain ⟨k, rfl, hk⟩ := K_slices_IndexFunc_VoteS (a := (l, .inl n)) hr
    conv => whnf
    refine ⟨rfl, ?_⟩
    conv => whnf
    refine ⟨fun h => ?_, fun h => ?_⟩
    · conv => whnf
      exact ⟨⟨_, rfl, rfl, (l, .inl n), rfl, congrArg B (tb_pos (hk.1 h)).symm⟩, Nat.le_refl _, rfl⟩
    · conv => whnf
      exact ⟨⟨_, rfl, rfl, (l, .inl n), rfl, congrArg B (tb_neg fun g => absurd (hk.2 g) (Int.not_le.2 h)).symm⟩, Nat.le_refl _, rfl⟩
  · conv => whnf
    refine ⟨⟨(l, .inr w), rfl, h1, h2, trivial⟩, v_slices_IndexFunc_VoteS, .inl rfl, hl, fun r hr => ?_⟩
    obtain ⟨k, rfl, hk⟩ := K_slices_IndexFunc_VoteS (a := (l, .inr w)) hr
    conv => whnf
    refine ⟨rfl, ?_⟩
    conv => whnf
    refine ⟨fun h => ?_, fun h => ?_⟩
    · conv => whnf
      exact ⟨⟨_, rfl, rfl, (l, .inr w), rfl, congrArg B (tb_pos (hk.1 h)).symm⟩, Nat.le_refl _, rfl⟩
    · conv => whnf
      exact ⟨⟨_, rfl, rfl, (l, .inr w), rfl, congrArg B (tb_neg fun g => absurd (hk.2 g) (Int.not_le.2 h)).symm⟩, Nat.le_refl _, rfl⟩
end Av
end Go.Proofs.Ytlbdoamidblkaaa
