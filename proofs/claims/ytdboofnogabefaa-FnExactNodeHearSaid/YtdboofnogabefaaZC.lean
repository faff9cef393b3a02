/- The walks: the program's functions on nodes. -/
import Derived.Test.YtdboofnogabefaaZB
import Derived.Test.YtdboofnogabefaaJ36
import Derived.Test.YtdboofnogabefaaJ19
import Derived.Test.YtdboofnogabefaaJ10
set_option linter.unusedVariables false
set_option linter.unusedSimpArgs false
namespace Go.Proofs.Ytdboofnogabefaa
namespace Av
open Go.RowKit
theorem K_impl_within {a : (Int) × (Int) × (Int)} {r : AV} (h : S_impl_within.post ([I a.1, I a.2.1, I a.2.2]) r) : (In a.1 a.2.1 a.2.2 ∧ r = B true) ∨ (¬ (In a.1 a.2.1 a.2.2) ∧ r = B false) :=
  tF_post (hcl := fun _ => rfl) (a := a) (by rintro ⟨x0, x1, x2⟩ ⟨y0, y1, y2⟩ h; simp only [List.cons.injEq, and_true, true_and, one_inj, agg_inj, paF_inj, itF_inj, chF_inj, voF_inj, vsF_inj, csF_inj, nsF_inj, nssF_inj, ndF_inj, ceF_inj, woF_inj, evF_inj, byF_inj, ndsF_inj, evsF_inj, pasF_inj, aI_inj, aB_inj, aRp_inj, fI_inj, fBo_inj] at h; obtain ⟨rfl, rfl, rfl⟩ := h; rfl) h
attribute [local irreducible] Valid ValidM
set_option maxHeartbeats 4000000 in
set_option maxRecDepth 100000 in
theorem v_impl_Vote_last : Valid Try.prog n_impl_Vote_last S_impl_Vote_last := by
  refine valid_of_swp mixed is_impl_Vote_last (by rintro _ ⟨a, rfl, _⟩; exact Nat.le_of_ble_eq_true rfl) ?_
  rintro _ rm ⟨v, rfl, hpre⟩ hl
  try dsimp only at hpre
  have hpre0 := hpre
  obtain ⟨hp1, hp2⟩ := hpre
  repeat' ((conv => whnf); first
    | refine ⟨_, rfl, ?_⟩
    | refine ⟨rfl, ?_⟩
    | refine ⟨_, _, rfl, at_map (by assumption), ?_⟩
    | refine idx_mapX (i := 0) rfl (by assumption) ?_
    | refine idx_map (by omega) (fun x hx => ?_)
    | refine idx_mapX (wrap_dn (by omega) (by omega)) (by assumption) ?_
    | refine idx_mapE (wrap_dn (by omega) (by omega)) (by omega) (fun x hx => ?_)
    | refine idx_mapL (by omega) (by first | assumption | (simp only [LIM]; omega)) (fun x hx => ?_)
    | refine idx_mapI (by omega) (by first | omega | (simp only [List.length_map] at *; omega)) (fun x hx => ?_)
    | refine ⟨_, ldc_cells hupd_at (Nat.le_of_ble_eq_true rfl), ?_⟩
    | refine ⟨_, ldc_cells (by first | assumption | exact zk ‹_› (by omega) | exact zk (zk ‹_› (by omega)) (by omega)) (Nat.le_of_ble_eq_true rfl), ?_⟩
    | (refine ⟨fun hc => ?_, fun hc => ?_⟩ <;> (try simp (disch := omega) only [List.length_map, wrap64] at hc))
    | exact ⟨⟨_, rfl, rfl, v, rfl, rfl⟩, (by first | exact Nat.le_refl _ | omega), (by exact h0_)⟩
    | exact ⟨⟨_, rfl, rfl, v, rfl, (by refine congrArg I (?_ : (_ : Int) = _); (try dsimp only); first | done | exact absurd True.intro hj | ((rw [lastE_at (by assumption)])))⟩, (by first | exact Nat.le_refl _ | omega), (by exact h0_)⟩
    | fail)
set_option maxHeartbeats 4000000 in
set_option maxRecDepth 100000 in
theorem v_impl_NodeOk_1 : Valid Try.prog n_impl_NodeOk_1 S_impl_NodeOk_1 := by
  refine valid_of_swp mixed is_impl_NodeOk_1 (by rintro _ ⟨a, rfl, _⟩; exact Nat.le_of_ble_eq_true rfl) ?_
  rintro _ rm ⟨⟨v, n⟩, rfl, hpre⟩ hl
  try dsimp only at hpre
  have hpre0 := hpre
  obtain ⟨hp1, hp2⟩ := hpre
  repeat' ((conv => whnf); first
    | refine ⟨_, rfl, ?_⟩
    | refine ⟨rfl, ?_⟩
    | refine ⟨_, ldc_cells hupd_at (Nat.le_of_ble_eq_true rfl), ?_⟩
    | refine ⟨_, ldc_cells (by first | assumption | exact zk ‹_› (by omega) | exact zk (zk ‹_› (by omega)) (by omega)) (Nat.le_of_ble_eq_true rfl), ?_⟩
    | (refine ⟨fun hc => ?_, fun hc => ?_⟩ <;> (try simp (disch := omega) only [List.length_map, wrap64] at hc))
    | (refine calle (b := [agg (voF ⟨_, _⟩)]) v_impl_Vote_last rfl ⟨⟨_, _⟩, rfl, (by refine ⟨?_, ?_⟩ <;> (exact pr_))⟩ (.inl rfl) (by first | assumption | omega) (fun r hr => K_impl_Vote_last (a := ⟨_, _⟩) hr) ?_)
    | exact ⟨⟨_, rfl, rfl, (v, n), rfl, (by refine congrArg B (Eq.symm (tb_pos ?_)); (try dsimp only); first | done | exact absurd True.intro hj | (first | exact ⟨by assumption, hc⟩ | exact fun h => absurd h.2 (Int.not_lt.2 hc) | exact fun h => hc h.1))⟩, (by first | exact Nat.le_refl _ | omega), (by exact h0_)⟩
    | exact ⟨⟨_, rfl, rfl, (v, n), rfl, (by refine congrArg B (Eq.symm (tb_neg ?_)); (try dsimp only); first | done | exact absurd True.intro hj | (first | exact ⟨by assumption, hc⟩ | exact fun h => absurd h.2 (Int.not_lt.2 hc) | exact fun h => hc h.1))⟩, (by first | exact Nat.le_refl _ | omega), (by exact h0_)⟩
    | fail)
set_option maxHeartbeats 4000000 in
theorem v_slices_IndexFunc_VoteS : Valid Try.prog n_slices_IndexFunc_VoteS S_slices_IndexFunc_VoteS := by
  refine valid_of_swp mixed (is_slices_IndexFunc_VoteS S_impl_NodeOk_1) (by rintro _ ⟨a, rfl, _⟩; exact Nat.le_of_ble_eq_true rfl) ?_
  rintro _ rm ⟨⟨l, n⟩, rfl, hl1, hl2⟩ hl
  dsimp only at hl1 hl2
  have hlL := hl1.1
  conv => whnf
  refine ⟨fun fr H nx rm' => ∃ i : Nat, Has fr [(0, one (vsF l)), (1, fnQ n), (7, I l.length), (8, I i)] ∧ i ≤ l.length ∧ (∀ x, x ∈ l.take i → ¬ HitN n x) ∧ H 0 = none ∧ rm' = rm,
    fun fr _ _ _ => l.length - ix (fr 8), ⟨0, ⟨rfl, rfl, by show I _ = I _; simp, rfl, trivial⟩, Nat.zero_le _, by simp, rfl, rfl⟩, ?_⟩
  rintro fr H nx rm' ⟨i, hfr, hi, hq, hH, rfl⟩
  rw [hfr.eq]
  conv => whnf
  refine ⟨rfl, ?_⟩
  conv => whnf
  refine ⟨fun h2 => ?_, fun h2 => ?_⟩
  · have h2 : i < l.length := by simpa using h2
    obtain ⟨x, hx⟩ : ∃ x, l[i]? = some x := ⟨_, List.getElem?_eq_getElem h2⟩
    have hxm : x ∈ l := List.mem_of_getElem? hx
    conv => whnf
    refine ⟨rfl, i, _, rfl, at_map hx, ?_⟩
    conv => whnf
    refine ⟨_, rfl, ?_⟩
    conv => whnf
    refine ⟨⟨⟨(x, n), rfl, hl1.2 x hxm, hl2 x hxm⟩, rfl, rfl, v_impl_NodeOk_1⟩, hl, fun r hr => ?_⟩
    rcases K_impl_NodeOk_1 (a := (x, n)) hr.1 with ⟨h3, rfl⟩ | ⟨h3, rfl⟩
    · conv => whnf
      exact ⟨⟨_, rfl, rfl, (l, n), rfl, i, rfl, iff_of_true (Int.natCast_nonneg i) ⟨x, hxm, h3⟩⟩, Nat.le_refl _, hH⟩
    · conv => whnf
      refine ⟨rfl, ?_⟩
      conv => whnf
      refine ⟨⟨i + 1, ⟨rfl, rfl, rfl, congrArg I (wrap_up h2 hlL), trivial⟩, h2, ?_, hH, rfl⟩, ?_⟩
      · intro y hy
        rcases (mem_take_succ hx).1 hy with hy | rfl
        · exact hq y hy
        · exact h3
      · show l.length - ix (I _) < l.length - ix (I _)
        simp only [wrap_up h2 hlL, ix, Int.toNat_natCast]
        omega
  · conv => whnf
    refine ⟨⟨_, rfl, rfl, (l, n), rfl, -1, rfl, iff_of_false (by decide) ?_⟩, Nat.le_refl _, hH⟩
    have h2 : l.length ≤ i := by simpa using h2
    rw [List.take_of_length_le h2] at hq
    rintro ⟨x, hx, hn⟩
    exact hq x hx hn
theorem v_slices_ContainsFunc_VoteS : Valid Try.prog n_slices_ContainsFunc_VoteS S_slices_ContainsFunc_VoteS := by
  refine valid_of_swp mixed is_slices_ContainsFunc_VoteS (by rintro _ ⟨a, rfl, _⟩; exact Nat.le_of_ble_eq_true rfl) ?_
  rintro _ rm ⟨⟨l, n⟩, rfl, h1, h2⟩ hl
  conv => whnf
  refine ⟨⟨(l, n), rfl, h1, h2⟩, v_slices_IndexFunc_VoteS, .inl rfl, hl, fun r hr => ?_⟩
  obtain ⟨k, rfl, hk⟩ := K_slices_IndexFunc_VoteS (a := (l, n)) hr
  conv => whnf
  refine ⟨rfl, ?_⟩
  conv => whnf
  refine ⟨fun h => ?_, fun h => ?_⟩
  · conv => whnf
    exact ⟨⟨_, rfl, rfl, (l, n), rfl, congrArg B (tb_pos (hk.1 h)).symm⟩, Nat.le_refl _, rfl⟩
  · conv => whnf
    exact ⟨⟨_, rfl, rfl, (l, n), rfl, congrArg B (tb_neg fun g => absurd (hk.2 g) (Int.not_le.2 h)).symm⟩, Nat.le_refl _, rfl⟩
set_option maxHeartbeats 4000000 in
set_option maxRecDepth 100000 in
theorem v_impl_NodeOk : Valid Try.prog n_impl_NodeOk S_impl_NodeOk := by
  refine valid_of_swp mixed is_impl_NodeOk (by rintro _ ⟨a, rfl, _⟩; exact Nat.le_of_ble_eq_true rfl) ?_
  rintro _ rm ⟨n, rfl, hpre⟩ hl
  try dsimp only at hpre
  have hpre0 := hpre
  have hp1 := hpre
  repeat' ((conv => whnf); first
    | refine ⟨_, rfl, ?_⟩
    | refine ⟨rfl, ?_⟩
    | refine ⟨_, ldc_cells hupd_at (Nat.le_of_ble_eq_true rfl), ?_⟩
    | refine ⟨_, ldc_cells (by first | assumption | exact zk ‹_› (by omega) | exact zk (zk ‹_› (by omega)) (by omega)) (Nat.le_of_ble_eq_true rfl), ?_⟩
    | (refine ⟨fun hc => ?_, fun hc => ?_⟩ <;> (try simp (disch := omega) only [List.length_map, wrap64] at hc))
    | (refine callt (b := [I _]) v_impl_nodeOk rfl ⟨_, rfl, (by exact True.intro)⟩ (.inl rfl) (by first | assumption | omega) (fun r hr => K_impl_nodeOk (a := _) hr) (fun hj => ?_) (fun hj => ?_) <;> (try simp only [etaPa, etaIt, etaVo] at hj))
    | (refine callt (b := [I _, I _, I _]) v_impl_within rfl ⟨(_, _, _), rfl, (by exact True.intro)⟩ (.inl rfl) (by first | assumption | omega) (fun r hr => K_impl_within (a := (_, _, _)) hr) (fun hj => ?_) (fun hj => ?_) <;> (try simp only [etaPa, etaIt, etaVo] at hj))
    | (refine callt (b := [one (vsF _)]) v_impl_VotesOk rfl ⟨_, rfl, (by exact pr_)⟩ (.inl rfl) (by first | assumption | omega) (fun r hr => K_impl_VotesOk (a := _) hr) (fun hj => ?_) (fun hj => ?_) <;> (try simp only [etaPa, etaIt, etaVo] at hj))
    | exact ⟨⟨_, rfl, rfl, n, rfl, (by refine congrArg B (Eq.symm (tb_pos ?_)); (try dsimp only); first | done | exact absurd True.intro hj | ((rintro ⟨q1, q2, q3, q4, q5, q6⟩; first | contradiction | omega)))⟩, (by first | exact Nat.le_refl _ | omega), (by exact h0_)⟩
    | exact ⟨⟨_, rfl, rfl, n, rfl, (by refine congrArg B (Eq.symm (tb_neg ?_)); (try dsimp only); first | done | exact absurd True.intro hj | ((rintro ⟨q1, q2, q3, q4, q5, q6⟩; first | contradiction | omega)))⟩, (by first | exact Nat.le_refl _ | omega), (by exact h0_)⟩
    | fail)
  have hV : VotesOk n.seen := hj
  conv => whnf
  refine callt (b := [one (vsF n.seen), fnQ n]) v_slices_ContainsFunc_VoteS (l2 rfl (congrArg (fun x => AV.fn (.func n_impl_NodeOk_1) [] [AW.o x]) (bor_cells hk_ (fcells_c (ndF n))))) ⟨(n.seen, n), rfl, hp1, (fun v hv => votesOk_ne hV hv)⟩ (.inr ⟨rfl, rfl⟩) (by first | assumption | omega) (fun r hr => K_slices_ContainsFunc_VoteS (a := (n.seen, n)) hr) (fun hj => ?_) (fun hj => ?_)
  · have hno : ¬ NodeOk n := fun h => by obtain ⟨v, hv, hh⟩ := hj; exact h.2.2.2.2.2 v hv hh
    repeat' ((conv => whnf); first
      | refine ⟨_, rfl, ?_⟩
      | refine ⟨rfl, ?_⟩
      | refine ⟨_, ldc_cells hupd_at (Nat.le_of_ble_eq_true rfl), ?_⟩
      | refine ⟨_, ldc_cells (by first | assumption | exact zk ‹_› (by omega) | exact zk (zk ‹_› (by omega)) (by omega)) (Nat.le_of_ble_eq_true rfl), ?_⟩
      | (refine ⟨fun hc => ?_, fun hc => ?_⟩ <;> (try simp (disch := omega) only [List.length_map, wrap64] at hc))
      | exact ⟨⟨_, rfl, rfl, n, rfl, (by refine congrArg B (Eq.symm (tb_pos ?_)); (try dsimp only); first | done | exact absurd True.intro hj | (exact hno))⟩, (by first | exact Nat.le_refl _ | omega), (by exact h0_)⟩
      | exact ⟨⟨_, rfl, rfl, n, rfl, (by refine congrArg B (Eq.symm (tb_neg ?_)); (try dsimp only); first | done | exact absurd True.intro hj | (exact hno))⟩, (by first | exact Nat.le_refl _ | omega), (by exact h0_)⟩
      | fail)
  · have hyes : NodeOk n := ⟨by assumption, by assumption, by assumption, by omega, hV, fun v hv h => hj ⟨v, hv, h⟩⟩
    repeat' ((conv => whnf); first
      | refine ⟨_, rfl, ?_⟩
      | refine ⟨rfl, ?_⟩
      | refine ⟨_, ldc_cells hupd_at (Nat.le_of_ble_eq_true rfl), ?_⟩
      | refine ⟨_, ldc_cells (by first | assumption | exact zk ‹_› (by omega) | exact zk (zk ‹_› (by omega)) (by omega)) (Nat.le_of_ble_eq_true rfl), ?_⟩
      | (refine ⟨fun hc => ?_, fun hc => ?_⟩ <;> (try simp (disch := omega) only [List.length_map, wrap64] at hc))
      | exact ⟨⟨_, rfl, rfl, n, rfl, (by refine congrArg B (Eq.symm (tb_pos ?_)); (try dsimp only); first | done | exact absurd True.intro hj | (exact hyes))⟩, (by first | exact Nat.le_refl _ | omega), (by exact h0_)⟩
      | exact ⟨⟨_, rfl, rfl, n, rfl, (by refine congrArg B (Eq.symm (tb_neg ?_)); (try dsimp only); first | done | exact absurd True.intro hj | (exact hyes))⟩, (by first | exact Nat.le_refl _ | omega), (by exact h0_)⟩
      | fail)
set_option maxHeartbeats 4000000 in
set_option maxRecDepth 100000 in
theorem v_spec_NodeOk : Valid Try.prog n_spec_NodeOk S_spec_NodeOk := by
  refine valid_of_swp mixed is_spec_NodeOk (by rintro _ ⟨a, rfl, _⟩; exact Nat.le_of_ble_eq_true rfl) ?_
  rintro _ rm ⟨n, rfl, hpre⟩ hl
  try dsimp only at hpre
  have hpre0 := hpre
  have hp1 := hpre
  have hfs := hp1.1
  repeat' ((conv => whnf); first
    | refine ⟨_, rfl, ?_⟩
    | refine ⟨rfl, ?_⟩
    | refine ⟨_, _, rfl, at_map (by assumption), ?_⟩
    | refine idx_mapX (i := 0) rfl (by assumption) ?_
    | refine idx_map (by omega) (fun x hx => ?_)
    | refine idx_mapX (wrap_dn (by omega) (by omega)) (by assumption) ?_
    | refine idx_mapE (wrap_dn (by omega) (by omega)) (by omega) (fun x hx => ?_)
    | refine idx_mapL (by omega) (by first | assumption | (simp only [LIM]; omega)) (fun x hx => ?_)
    | refine idx_mapI (by omega) (by first | omega | (simp only [List.length_map] at *; omega)) (fun x hx => ?_)
    | refine ⟨_, ldc_cells hupd_at (Nat.le_of_ble_eq_true rfl), ?_⟩
    | refine ⟨_, ldc_cells (by first | assumption | exact zk ‹_› (by omega) | exact zk (zk ‹_› (by omega)) (by omega)) (Nat.le_of_ble_eq_true rfl), ?_⟩
    | refine ⟨_, _, hupd_at, rfl, rfl, Nat.le_of_ble_eq_true rfl, ?_⟩
    | refine ⟨_, _, rfl, rfl, rfl, Nat.le_of_ble_eq_true rfl, ?_⟩
    | (refine ⟨fun hc => ?_, fun hc => ?_⟩ <;> (try simp (disch := omega) only [List.length_map, wrap64] at hc))
    | (refine callt (b := [I _, I _, I _]) v_spec_l6In rfl ⟨(_, _, _), rfl, (by exact True.intro)⟩ (.inl rfl) (by first | assumption | omega) (fun r hr => K_spec_l6In (a := (_, _, _)) hr) (fun hj => ?_) (fun hj => ?_) <;> (try simp only [etaPa, etaIt, etaVo] at hj))
    | (refine callt (b := [one (vsF _)]) v_spec_VotesOk rfl ⟨_, rfl, (by exact pr_)⟩ (.inl rfl) (by first | assumption | omega) (fun r hr => K_spec_VotesOk (a := _) hr) (fun hj => ?_) (fun hj => ?_) <;> (try simp only [etaPa, etaIt, etaVo] at hj))
    | exact ⟨⟨_, rfl, rfl, n, rfl, (by refine congrArg B (Eq.symm (tb_pos ?_)); (try dsimp only); first | done | exact absurd True.intro hj | ((rintro ⟨q1, q2, q3, q4, q5, q6⟩; first | contradiction | omega)))⟩, (by first | exact Nat.le_refl _ | omega), (by exact h0_)⟩
    | exact ⟨⟨_, rfl, rfl, n, rfl, (by refine congrArg B (Eq.symm (tb_neg ?_)); (try dsimp only); first | done | exact absurd True.intro hj | ((rintro ⟨q1, q2, q3, q4, q5, q6⟩; first | contradiction | omega)))⟩, (by first | exact Nat.le_refl _ | omega), (by exact h0_)⟩
    | fail)
  have hV : VotesOk n.seen := by assumption
  conv => whnf
  refine ⟨fun fr H nx rm' => ∃ (i : Nat), Has fr [(1, .w (.o (.ptr 1 0))), (3, I i)] ∧ i ≤ n.seen.length ∧ (∀ j v, j < i → n.seen[j]? = some v → ¬ HitN n v) ∧ H 1 = some (.cells ((ndF n).map AC.c)) ∧ 1 ≤ nx ∧ H 0 = none ∧ rm' = rm,
    fun fr _ _ _ => n.seen.length - ix (fr 3), ⟨0, ⟨(by first | rfl | (show I _ = I _; simp)), (by first | rfl | (show I _ = I _; simp)), trivial⟩, Nat.zero_le _, (by first | trivial | rfl | (intros; omega) | simp), rfl, (by first | decide | omega), (by exact h0_), rfl⟩, ?_⟩
  rintro fr H nx rm' ⟨i, hfr, hi, hq, hH1, hnx, hH, rfl⟩
  rw [hfr.eq]
  rcases Nat.lt_or_ge i n.seen.length with hi' | hi'
  · obtain ⟨x, hx⟩ : ∃ x, n.seen[i]? = some x := ⟨_, List.getElem?_eq_getElem hi'⟩
    have hxm : x ∈ n.seen := List.mem_of_getElem? hx
    have hx0 := votesOk_ne hV hxm
    have hxL : x.c.length ≤ LIM := hp1.2 x hxm
    obtain ⟨y, hy⟩ : ∃ y, x.c[x.c.length - 1]? = some y := ⟨_, List.getElem?_eq_getElem (by omega)⟩
    have hly := lastE_at hy
    have hw : IntKind.i64.wrap (((x.c.map itF).length : Int) - 1) = ((x.c.length - 1 : Nat) : Int) := by rw [List.length_map]; exact wrap_dn hx0 hxL
    have hstep : ¬ HitN n x → ∀ j v, j < i + 1 → n.seen[j]? = some v → ¬ HitN n v := by
      intro hh j v hj1 hj2
      by_cases e : j < i
      · exact hq j v e hj2
      · have e : j = i := by omega
        subst e; cases (hx.symm.trans hj2); exact hh
    by_cases hh : HitN n x
    · obtain ⟨g1, g2⟩ := id hh
      rw [hly] at g2
      repeat' ((conv => whnf); first
        | refine ⟨_, _, rfl, at_map hx, ?_⟩
        | refine idx_mapX hw hy ?_
        | refine ⟨_, rfl, ?_⟩
        | refine ⟨rfl, ?_⟩
        | refine ⟨_, _, rfl, at_map (by assumption), ?_⟩
        | refine idx_mapX (i := 0) rfl (by assumption) ?_
        | refine idx_map (by omega) (fun x hx => ?_)
        | refine idx_mapX (wrap_dn (by omega) (by omega)) (by assumption) ?_
        | refine idx_mapE (wrap_dn (by omega) (by omega)) (by omega) (fun x hx => ?_)
        | refine idx_mapL (by omega) (by first | assumption | (simp only [LIM]; omega)) (fun x hx => ?_)
        | refine idx_mapI (by omega) (by first | omega | (simp only [List.length_map] at *; omega)) (fun x hx => ?_)
        | refine ⟨_, ldc_cells hupd_at (Nat.le_of_ble_eq_true rfl), ?_⟩
        | refine ⟨_, ldc_cells (by first | assumption | exact zk ‹_› (by omega) | exact zk (zk ‹_› (by omega)) (by omega)) (Nat.le_of_ble_eq_true rfl), ?_⟩
        | refine ⟨_, _, hupd_at, rfl, rfl, Nat.le_of_ble_eq_true rfl, ?_⟩
        | refine ⟨_, _, rfl, rfl, rfl, Nat.le_of_ble_eq_true rfl, ?_⟩
        | (refine ⟨fun hc => ?_, fun hc => ?_⟩ <;> (try simp (disch := omega) only [List.length_map, wrap64] at hc) <;> (try (exfalso; first | contradiction | omega)))
        | (refine ⟨⟨i + 1, ⟨rfl, congrArg I (wrap_up (n := n.seen.length) (by omega) (hfs)), trivial⟩, (by omega), (by exact hstep hh), (by first | assumption | exact zk ‹_› (by omega)), (by omega), (by exact h0_), rfl⟩, ?_⟩; show n.seen.length - ix (I _) < n.seen.length - ix (I _); simp only [wrap_up (n := n.seen.length) (i := i) (by omega) (hfs), ix, Int.toNat_natCast]; omega)
        | exact ⟨⟨_, rfl, rfl, n, rfl, (by refine congrArg B (Eq.symm (tb_pos ?_)); (try dsimp only); first | done | exact absurd True.intro hj | (exact fun h => h.2.2.2.2.2 x hxm hh))⟩, (by first | exact Nat.le_refl _ | omega), (by exact h0_)⟩
        | exact ⟨⟨_, rfl, rfl, n, rfl, (by refine congrArg B (Eq.symm (tb_neg ?_)); (try dsimp only); first | done | exact absurd True.intro hj | (exact fun h => h.2.2.2.2.2 x hxm hh))⟩, (by first | exact Nat.le_refl _ | omega), (by exact h0_)⟩
        | fail)
    · have g : ¬ (x.n = n.id ∧ n.vt < y.e) := by rw [← hly]; exact hh
      repeat' ((conv => whnf); first
        | refine ⟨_, _, rfl, at_map hx, ?_⟩
        | refine idx_mapX hw hy ?_
        | refine ⟨_, rfl, ?_⟩
        | refine ⟨rfl, ?_⟩
        | refine ⟨_, _, rfl, at_map (by assumption), ?_⟩
        | refine idx_mapX (i := 0) rfl (by assumption) ?_
        | refine idx_map (by omega) (fun x hx => ?_)
        | refine idx_mapX (wrap_dn (by omega) (by omega)) (by assumption) ?_
        | refine idx_mapE (wrap_dn (by omega) (by omega)) (by omega) (fun x hx => ?_)
        | refine idx_mapL (by omega) (by first | assumption | (simp only [LIM]; omega)) (fun x hx => ?_)
        | refine idx_mapI (by omega) (by first | omega | (simp only [List.length_map] at *; omega)) (fun x hx => ?_)
        | refine ⟨_, ldc_cells hupd_at (Nat.le_of_ble_eq_true rfl), ?_⟩
        | refine ⟨_, ldc_cells (by first | assumption | exact zk ‹_› (by omega) | exact zk (zk ‹_› (by omega)) (by omega)) (Nat.le_of_ble_eq_true rfl), ?_⟩
        | refine ⟨_, _, hupd_at, rfl, rfl, Nat.le_of_ble_eq_true rfl, ?_⟩
        | refine ⟨_, _, rfl, rfl, rfl, Nat.le_of_ble_eq_true rfl, ?_⟩
        | (refine ⟨fun hc => ?_, fun hc => ?_⟩ <;> (try simp (disch := omega) only [List.length_map, wrap64] at hc) <;> (try (exfalso; first | contradiction | omega)))
        | (refine ⟨⟨i + 1, ⟨rfl, congrArg I (wrap_up (n := n.seen.length) (by omega) (hfs)), trivial⟩, (by omega), (by exact hstep hh), (by first | assumption | exact zk ‹_› (by omega)), (by omega), (by exact h0_), rfl⟩, ?_⟩; show n.seen.length - ix (I _) < n.seen.length - ix (I _); simp only [wrap_up (n := n.seen.length) (i := i) (by omega) (hfs), ix, Int.toNat_natCast]; omega)
        | exact ⟨⟨_, rfl, rfl, n, rfl, (by refine congrArg B (Eq.symm (tb_pos ?_)); (try dsimp only); first | done | exact absurd True.intro hj | (exact absurd ⟨by assumption, by omega⟩ g))⟩, (by first | exact Nat.le_refl _ | omega), (by exact h0_)⟩
        | exact ⟨⟨_, rfl, rfl, n, rfl, (by refine congrArg B (Eq.symm (tb_neg ?_)); (try dsimp only); first | done | exact absurd True.intro hj | (exact absurd ⟨by assumption, by omega⟩ g))⟩, (by first | exact Nat.le_refl _ | omega), (by exact h0_)⟩
        | fail)
  · have hall : ∀ v, v ∈ n.seen → ¬ HitN n v := fun v hv => by
      obtain ⟨j, hj⟩ := List.mem_iff_getElem?.1 hv
      exact hq j v (by have := (List.getElem?_eq_some_iff.1 hj).1; omega) hj
    repeat' ((conv => whnf); first
      | refine ⟨_, rfl, ?_⟩
      | refine ⟨rfl, ?_⟩
      | refine ⟨_, _, rfl, at_map (by assumption), ?_⟩
      | refine idx_mapX (i := 0) rfl (by assumption) ?_
      | refine idx_map (by omega) (fun x hx => ?_)
      | refine idx_mapX (wrap_dn (by omega) (by omega)) (by assumption) ?_
      | refine idx_mapE (wrap_dn (by omega) (by omega)) (by omega) (fun x hx => ?_)
      | refine idx_mapL (by omega) (by first | assumption | (simp only [LIM]; omega)) (fun x hx => ?_)
      | refine idx_mapI (by omega) (by first | omega | (simp only [List.length_map] at *; omega)) (fun x hx => ?_)
      | refine ⟨_, ldc_cells hupd_at (Nat.le_of_ble_eq_true rfl), ?_⟩
      | refine ⟨_, ldc_cells (by first | assumption | exact zk ‹_› (by omega) | exact zk (zk ‹_› (by omega)) (by omega)) (Nat.le_of_ble_eq_true rfl), ?_⟩
      | refine ⟨_, _, hupd_at, rfl, rfl, Nat.le_of_ble_eq_true rfl, ?_⟩
      | refine ⟨_, _, rfl, rfl, rfl, Nat.le_of_ble_eq_true rfl, ?_⟩
      | (refine ⟨fun hc => ?_, fun hc => ?_⟩ <;> (try simp (disch := omega) only [List.length_map, wrap64] at hc) <;> (try (exfalso; first | contradiction | omega)))
      | (refine ⟨⟨i + 1, ⟨rfl, congrArg I (wrap_up (n := n.seen.length) (by omega) (hfs)), trivial⟩, (by omega), (by exact hstep hh), (by first | assumption | exact zk ‹_› (by omega)), (by omega), (by exact h0_), rfl⟩, ?_⟩; show n.seen.length - ix (I _) < n.seen.length - ix (I _); simp only [wrap_up (n := n.seen.length) (i := i) (by omega) (hfs), ix, Int.toNat_natCast]; omega)
      | exact ⟨⟨_, rfl, rfl, n, rfl, (by refine congrArg B (Eq.symm (tb_pos ?_)); (try dsimp only); first | done | exact absurd True.intro hj | (exact ⟨by assumption, by assumption, by assumption, by omega, by assumption, hall⟩))⟩, (by first | exact Nat.le_refl _ | omega), (by exact h0_)⟩
      | exact ⟨⟨_, rfl, rfl, n, rfl, (by refine congrArg B (Eq.symm (tb_neg ?_)); (try dsimp only); first | done | exact absurd True.intro hj | (exact ⟨by assumption, by assumption, by assumption, by omega, by assumption, hall⟩))⟩, (by first | exact Nat.le_refl _ | omega), (by exact h0_)⟩
      | fail)
theorem wl {e : Int} (h : In e 0 100) : IntKind.i64.wrap ((IntKind.i64.wrap (e - 1)).tmod 4 + 1) = lead e := by
  obtain ⟨h1, h2⟩ := h
  rw [wrap64 (n := e - 1) (by omega) (by omega)]
  unfold lead
  by_cases h0 : e = 0
  · subst h0; decide
  · have a1 := Int.tmod_nonneg (a := e - 1) 4 (by omega)
    have a2 := Int.tmod_lt_of_pos (a := e - 1) (b := 4) (by decide)
    rw [wrap64 (by omega) (by omega)]
set_option maxHeartbeats 4000000 in
set_option maxRecDepth 100000 in
theorem v_spec_l3Leader : Valid Try.prog n_spec_l3Leader S_spec_l3Leader := by
  refine valid_of_swp mixed is_spec_l3Leader (by rintro _ ⟨a, rfl, _⟩; exact Nat.le_of_ble_eq_true rfl) ?_
  rintro _ rm ⟨e, rfl, hpre⟩ hl
  try dsimp only at hpre
  have hpre0 := hpre
  have hp1 := hpre
  repeat' ((conv => whnf); first
    | refine ⟨_, rfl, ?_⟩
    | refine ⟨rfl, ?_⟩
    | refine ⟨(show _ ≠ _ from (by first | decide | omega)), ?_⟩
    | (refine ⟨fun hc => ?_, fun hc => ?_⟩ <;> (try simp (disch := omega) only [List.length_map, wrap64] at hc))
    | exact ⟨⟨_, rfl, rfl, e, rfl, rfl⟩, (by first | exact Nat.le_refl _ | omega), (by exact h0_)⟩
    | exact ⟨⟨_, rfl, rfl, e, rfl, (by refine congrArg I (?_ : (_ : Int) = _); (try dsimp only); first | done | exact absurd True.intro hj | (exact wl hp1))⟩, (by first | exact Nat.le_refl _ | omega), (by exact h0_)⟩
    | fail)
set_option maxHeartbeats 4000000 in
set_option maxRecDepth 100000 in
theorem v_impl_VoteLeader : Valid Try.prog n_impl_VoteLeader S_impl_VoteLeader := by
  refine valid_of_swp mixed is_impl_VoteLeader (by rintro _ ⟨a, rfl, _⟩; exact Nat.le_of_ble_eq_true rfl) ?_
  rintro _ rm ⟨e, rfl, hpre⟩ hl
  try dsimp only at hpre
  have hpre0 := hpre
  have hp1 := hpre
  repeat' ((conv => whnf); first
    | refine ⟨_, rfl, ?_⟩
    | refine ⟨rfl, ?_⟩
    | refine ⟨(show _ ≠ _ from (by first | decide | omega)), ?_⟩
    | (refine ⟨fun hc => ?_, fun hc => ?_⟩ <;> (try simp (disch := omega) only [List.length_map, wrap64] at hc))
    | (refine callt (b := [I _]) v_impl_epochOk rfl ⟨_, rfl, (by exact True.intro)⟩ (.inl rfl) (by first | assumption | omega) (fun r hr => K_impl_epochOk (a := _) hr) (fun hj => ?_) (fun hj => ?_) <;> (try simp only [etaPa, etaIt, etaVo] at hj))
    | exact ⟨⟨_, rfl, rfl, e, rfl, rfl⟩, (by first | exact Nat.le_refl _ | omega), (by exact h0_)⟩
    | exact ⟨⟨_, rfl, rfl, e, rfl, (by refine congrArg I (?_ : (_ : Int) = _); (try dsimp only); first | done | exact absurd True.intro hj | ((unfold leadV; first | (rw [if_pos (by assumption)]; exact wl hp1) | (rw [if_neg (by assumption)]))))⟩, (by first | exact Nat.le_refl _ | omega), (by exact h0_)⟩
    | fail)
set_option maxHeartbeats 4000000 in
set_option maxRecDepth 100000 in
theorem v_impl_Node_may : Valid Try.prog n_impl_Node_may S_impl_Node_may := by
  refine valid_of_swp mixed is_impl_Node_may (by rintro _ ⟨a, rfl, _⟩; exact Nat.le_of_ble_eq_true rfl) ?_
  rintro _ rm ⟨n, rfl, hpre⟩ hl
  try dsimp only at hpre
  have hpre0 := hpre
  have hp1 := hpre
  repeat' ((conv => whnf); first
    | refine ⟨_, rfl, ?_⟩
    | refine ⟨rfl, ?_⟩
    | refine ⟨_, ldc_cells hupd_at (Nat.le_of_ble_eq_true rfl), ?_⟩
    | refine ⟨_, ldc_cells (by first | assumption | exact zk ‹_› (by omega) | exact zk (zk ‹_› (by omega)) (by omega)) (Nat.le_of_ble_eq_true rfl), ?_⟩
    | (refine ⟨fun hc => ?_, fun hc => ?_⟩ <;> (try simp (disch := omega) only [List.length_map, wrap64] at hc))
    | exact ⟨⟨_, rfl, rfl, n, rfl, (by refine congrArg B (Eq.symm (tb_pos ?_)); (try dsimp only); first | done | exact absurd True.intro hj | ((unfold mayN; first | omega | (constructor <;> omega))))⟩, (by first | exact Nat.le_refl _ | omega), (by exact h0_)⟩
    | exact ⟨⟨_, rfl, rfl, n, rfl, (by refine congrArg B (Eq.symm (tb_neg ?_)); (try dsimp only); first | done | exact absurd True.intro hj | ((unfold mayN; first | omega | (constructor <;> omega))))⟩, (by first | exact Nat.le_refl _ | omega), (by exact h0_)⟩
    | fail)
theorem leadV_in {e : Int} (h : 0 < e) (h' : e ≤ 30) : leadV e = lead e := if_pos ⟨by omega, h'⟩
theorem wrapL {n : Nat} (hn : 0 < n) (hk : n ≤ LIM) : IntKind.i64.wrap ((n : Int) - 1) = ((n - 1 : Nat) : Int) := wrap_dn hn hk
set_option maxHeartbeats 4000000 in
/-- The loop over what is seen, as 'hear' has it. -/
theorem hear_loop_post {n m : Nd} {v : Vo} (h1 : HearsN n v) (hm : m = ⟨n.id, n.ep, n.vt, addV n.seen v⟩) : hearN false n v = tryN false m := by
  unfold hearN; rw [tb_pos h1, hm]; rfl
theorem tryN_no {b : Bool} {m : Nd} (h : ¬ mayN m) : tryN b m = (m, zVo, false) := by unfold tryN; rw [tb_neg h]; rfl
theorem tryN_none {b : Bool} {m : Nd} (h : mayN m) (hq : ∀ j u, j < m.seen.length → m.seen[j]? = some u → ¬ FitsN b m u) : tryN b m = (m, zVo, false) := by unfold tryN; rw [tb_pos h, firstN_no hq]; rfl
theorem tryN_some {b : Bool} {m : Nd} (h : mayN m) {i : Nat} {u : Vo} (hi : m.seen[i]? = some u) (hq : ∀ j u, j < i → m.seen[j]? = some u → ¬ FitsN b m u) (hu : FitsN b m u) : tryN b m = voteN m u.c := by unfold tryN; rw [tb_pos h, firstN_at hi hq hu]; rfl
theorem addV_in {l : List Vo} {v : Vo} (h : v ∈ l) : addV l v = l := by unfold addV; rw [tb_pos h]; rfl
theorem addV_new {l : List Vo} {v : Vo} (h : v ∉ l) : addV l v = l ++ [v] := by unfold addV; rw [tb_neg h]; rfl
theorem addV_ok {l : List Vo} {v : Vo} (h : VotesOk l) (hv : VoteOk v) : VotesOk (addV l v) := by
  by_cases hm : v ∈ l
  · rw [addV_in hm]; exact h
  · rw [addV_new hm]; exact votesOk_snoc h hv hm
theorem addV_len (l : List Vo) (v : Vo) : (addV l v).length ≤ l.length + 1 := by
  unfold addV; split <;> simp
end Av
end Go.Proofs.Ytdboofnogabefaa
