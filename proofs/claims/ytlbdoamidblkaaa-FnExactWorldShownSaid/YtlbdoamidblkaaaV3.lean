/- The walks: nodes and worlds that are ok, in the program and in the reference. -/
import Derived.Test.YtlbdoamidblkaaaV2
set_option linter.unusedVariables false
set_option linter.unusedSimpArgs false
namespace Go.Proofs.Ytlbdoamidblkaaa
namespace Av
open Go.RowKit
attribute [local irreducible] Valid ValidM
set_option maxHeartbeats 4000000 in
set_option maxRecDepth 100000 in
theorem v_impl_NodeOk : Valid Try.prog n_impl_NodeOk S_impl_NodeOk := by
  refine valid_of_swp mixed is_impl_NodeOk (by rintro _ ⟨a, rfl, _⟩; exact Nat.le_of_ble_eq_true rfl) ?_
  rintro _ rm ⟨n, rfl, hpre⟩ hl
  try dsimp only at hpre
  have hpre0 := hpre
  have hp1 := hpre
  repeat' ((conv => whnf); first
    | refine ⟨_, rfl, ?_⟩
    | refine ⟨rfl, ?_⟩
    | refine ⟨_, ldc_cells hupd_at (Nat.le_of_ble_eq_true rfl), ?_⟩
    | refine ⟨_, ldc_cells (by first | assumption | exact zk ‹_› (by omega) | exact zk (zk ‹_› (by omega)) (by omega)) (Nat.le_of_ble_eq_true rfl), ?_⟩
    | (refine ⟨fun hc => ?_, fun hc => ?_⟩ <;> (try simp (disch := omega) only [List.length_map, wrap64] at hc))
    | (refine callt (b := [I _]) v_impl_nodeOk rfl ⟨_, rfl, (by exact True.intro)⟩ (.inl rfl) (by first | assumption | omega) (fun r hr => K_impl_nodeOk (a := _) hr) (fun hj => ?_) (fun hj => ?_) <;> (try simp only [etaPa, etaIt, etaVo] at hj))
    | (refine callt (b := [I _, I _, I _]) v_impl_within rfl ⟨(_, _, _), rfl, (by exact True.intro)⟩ (.inl rfl) (by first | assumption | omega) (fun r hr => K_impl_within (a := (_, _, _)) hr) (fun hj => ?_) (fun hj => ?_) <;> (try simp only [etaPa, etaIt, etaVo] at hj))
    | (refine callt (b := [one (vsF _)]) v_impl_VotesOk rfl ⟨_, rfl, (by exact pr_)⟩ (.inl rfl) (by first | assumption | omega) (fun r hr => K_impl_VotesOk (a := _) hr) (fun hj => ?_) (fun hj => ?_) <;> (try simp only [etaPa, etaIt, etaVo] at hj))
    | exact ⟨⟨_, rfl, rfl, n, rfl, (by refine congrArg B (Eq.symm (tb_pos ?_)); (try dsimp only); first | done | exact absurd True.intro hj | ((rintro ⟨q1, q2, q3, q4, q5, q6⟩; first | contradiction | omega)))⟩, (by first | exact Nat.le_refl _ | omega), (by exact h0_)⟩
    | exact ⟨⟨_, rfl, rfl, n, rfl, (by refine congrArg B (Eq.symm (tb_neg ?_)); (try dsimp only); first | done | exact absurd True.intro hj | ((rintro ⟨q1, q2, q3, q4, q5, q6⟩; first | contradiction | omega)))⟩, (by first | exact Nat.le_refl _ | omega), (by exact h0_)⟩
    | fail)
  have hV : VotesOk n.seen := hj
  conv => whnf
  refine callt (b := [one (vsF n.seen), fnQ (.inl n)]) v_slices_ContainsFunc_VoteS (l2 rfl (congrArg (fun x => AV.fn (.func n_impl_NodeOk_1) [] [AW.o x]) (bor_cells hk_ (fcells_c (ndF n))))) ⟨(n.seen, .inl n), rfl, hp1, (fun v hv => votesOk_ne hV hv)⟩ (.inr ⟨rfl, rfl⟩) (by first | assumption | omega) (fun r hr => K_slices_ContainsFunc_VoteS (a := (n.seen, .inl n)) hr) (fun hj => ?_) (fun hj => ?_)
  · have hno : ¬ NodeOk n := fun h => by obtain ⟨v, hv, hh⟩ := hj; exact h.2.2.2.2.2 v hv hh
    repeat' ((conv => whnf); first
      | refine ⟨_, rfl, ?_⟩
      | refine ⟨rfl, ?_⟩
      | refine ⟨_, ldc_cells hupd_at (Nat.le_of_ble_eq_true rfl), ?_⟩
      | refine ⟨_, ldc_cells (by first | assumption | exact zk ‹_› (by omega) | exact zk (zk ‹_› (by omega)) (by omega)) (Nat.le_of_ble_eq_true rfl), ?_⟩
      | (refine ⟨fun hc => ?_, fun hc => ?_⟩ <;> (try simp (disch := omega) only [List.length_map, wrap64] at hc))
      | exact ⟨⟨_, rfl, rfl, n, rfl, (by refine congrArg B (Eq.symm (tb_pos ?_)); (try dsimp only); first | done | exact absurd True.intro hj | (exact hno))⟩, (by first | exact Nat.le_refl _ | omega), (by exact h0_)⟩
      | exact ⟨⟨_, rfl, rfl, n, rfl, (by refine congrArg B (Eq.symm (tb_neg ?_)); (try dsimp only); first | done | exact absurd True.intro hj | (exact hno))⟩, (by first | exact Nat.le_refl _ | omega), (by exact h0_)⟩
      | fail)
  · have hyes : NodeOk n := ⟨by assumption, by assumption, by assumption, by omega, hV, fun v hv h => hj ⟨v, hv, h⟩⟩
    repeat' ((conv => whnf); first
      | refine ⟨_, rfl, ?_⟩
      | refine ⟨rfl, ?_⟩
      | refine ⟨_, ldc_cells hupd_at (Nat.le_of_ble_eq_true rfl), ?_⟩
      | refine ⟨_, ldc_cells (by first | assumption | exact zk ‹_› (by omega) | exact zk (zk ‹_› (by omega)) (by omega)) (Nat.le_of_ble_eq_true rfl), ?_⟩
      | (refine ⟨fun hc => ?_, fun hc => ?_⟩ <;> (try simp (disch := omega) only [List.length_map, wrap64] at hc))
      | exact ⟨⟨_, rfl, rfl, n, rfl, (by refine congrArg B (Eq.symm (tb_pos ?_)); (try dsimp only); first | done | exact absurd True.intro hj | (exact hyes))⟩, (by first | exact Nat.le_refl _ | omega), (by exact h0_)⟩
      | exact ⟨⟨_, rfl, rfl, n, rfl, (by refine congrArg B (Eq.symm (tb_neg ?_)); (try dsimp only); first | done | exact absurd True.intro hj | (exact hyes))⟩, (by first | exact Nat.le_refl _ | omega), (by exact h0_)⟩
      | fail)
set_option maxHeartbeats 4000000 in
set_option maxRecDepth 100000 in
theorem v_spec_NodeOk : Valid Try.prog n_spec_NodeOk S_spec_NodeOk := by
  refine valid_of_swp mixed is_spec_NodeOk (by rintro _ ⟨a, rfl, _⟩; exact Nat.le_of_ble_eq_true rfl) ?_
  rintro _ rm ⟨n, rfl, hpre⟩ hl
  try dsimp only at hpre
  have hpre0 := hpre
  have hp1 := hpre
  have hfs := hp1.1
  repeat' ((conv => whnf); first
    | refine ⟨_, rfl, ?_⟩
    | refine ⟨rfl, ?_⟩
    | refine ⟨_, _, rfl, at_map (by assumption), ?_⟩
    | refine idx_mapX (i := 0) rfl (by assumption) ?_
    | refine idx_map (by omega) (fun x hx => ?_)
    | refine idx_mapX (wrap_dn (by omega) (by omega)) (by assumption) ?_
    | refine idx_mapE (wrap_dn (by omega) (by omega)) (by omega) (fun x hx => ?_)
    | refine idx_mapL (by omega) (by first | assumption | (simp only [LIM]; omega)) (fun x hx => ?_)
    | refine idx_mapI (by omega) (by first | omega | (simp only [List.length_map] at *; omega)) (fun x hx => ?_)
    | refine ⟨_, ldc_cells hupd_at (Nat.le_of_ble_eq_true rfl), ?_⟩
    | refine ⟨_, ldc_cells (by first | assumption | exact zk ‹_› (by omega) | exact zk (zk ‹_› (by omega)) (by omega)) (Nat.le_of_ble_eq_true rfl), ?_⟩
    | refine ⟨_, _, hupd_at, rfl, rfl, Nat.le_of_ble_eq_true rfl, ?_⟩
    | refine ⟨_, _, rfl, rfl, rfl, Nat.le_of_ble_eq_true rfl, ?_⟩
    | (refine ⟨fun hc => ?_, fun hc => ?_⟩ <;> (try simp (disch := omega) only [List.length_map, wrap64] at hc))
    | (refine callt (b := [I _, I _, I _]) v_spec_l6In rfl ⟨(_, _, _), rfl, (by exact True.intro)⟩ (.inl rfl) (by first | assumption | omega) (fun r hr => K_spec_l6In (a := (_, _, _)) hr) (fun hj => ?_) (fun hj => ?_) <;> (try simp only [etaPa, etaIt, etaVo] at hj))
    | (refine callt (b := [one (vsF _)]) v_spec_VotesOk rfl ⟨_, rfl, (by exact pr_)⟩ (.inl rfl) (by first | assumption | omega) (fun r hr => K_spec_VotesOk (a := _) hr) (fun hj => ?_) (fun hj => ?_) <;> (try simp only [etaPa, etaIt, etaVo] at hj))
    | exact ⟨⟨_, rfl, rfl, n, rfl, (by refine congrArg B (Eq.symm (tb_pos ?_)); (try dsimp only); first | done | exact absurd True.intro hj | ((rintro ⟨q1, q2, q3, q4, q5, q6⟩; first | contradiction | omega)))⟩, (by first | exact Nat.le_refl _ | omega), (by exact h0_)⟩
    | exact ⟨⟨_, rfl, rfl, n, rfl, (by refine congrArg B (Eq.symm (tb_neg ?_)); (try dsimp only); first | done | exact absurd True.intro hj | ((rintro ⟨q1, q2, q3, q4, q5, q6⟩; first | contradiction | omega)))⟩, (by first | exact Nat.le_refl _ | omega), (by exact h0_)⟩
    | fail)
  have hV : VotesOk n.seen := by assumption
  conv => whnf
  refine ⟨fun fr H nx rm' => ∃ (i : Nat), Has fr [(1, .w (.o (.ptr 1 0))), (3, I i)] ∧ i ≤ n.seen.length ∧ (∀ j v, j < i → n.seen[j]? = some v → ¬ HitN n v) ∧ H 1 = some (.cells ((ndF n).map AC.c)) ∧ 1 ≤ nx ∧ H 0 = none ∧ rm' = rm,
    fun fr _ _ _ => n.seen.length - ix (fr 3), ⟨0, ⟨(by first | rfl | (show I _ = I _; simp)), (by first | rfl | (show I _ = I _; simp)), trivial⟩, Nat.zero_le _, (by first | trivial | rfl | (intros; omega) | simp), rfl, (by first | decide | omega), (by exact h0_), rfl⟩, ?_⟩
  rintro fr H nx rm' ⟨i, hfr, hi, hq, hH1, hnx, hH, rfl⟩
  rw [hfr.eq]
  rcases Nat.lt_or_ge i n.seen.length with hi' | hi'
  · obtain ⟨x, hx⟩ : ∃ x, n.seen[i]? = some x := ⟨_, List.getElem?_eq_getElem hi'⟩
    have hxm : x ∈ n.seen := List.mem_of_getElem? hx
    have hx0 := votesOk_ne hV hxm
    have hxL : x.c.length ≤ LIM := hp1.2 x hxm
    obtain ⟨y, hy⟩ : ∃ y, x.c[x.c.length - 1]? = some y := ⟨_, List.getElem?_eq_getElem (by omega)⟩
    have hly := lastE_at hy
    have hw : IntKind.i64.wrap (((x.c.map itF).length : Int) - 1) = ((x.c.length - 1 : Nat) : Int) := by rw [List.length_map]; exact wrap_dn hx0 hxL
    have hstep : ¬ HitN n x → ∀ j v, j < i + 1 → n.seen[j]? = some v → ¬ HitN n v := by
      intro hh j v hj1 hj2
      by_cases e : j < i
      · exact hq j v e hj2
      · have e : j = i := by omega
        subst e; cases (hx.symm.trans hj2); exact hh
    by_cases hh : HitN n x
    · obtain ⟨g1, g2⟩ := id hh
      rw [hly] at g2
      repeat' ((conv => whnf); first
        | refine ⟨_, _, rfl, at_map hx, ?_⟩
        | refine idx_mapX hw hy ?_
        | refine ⟨_, rfl, ?_⟩
        | refine ⟨rfl, ?_⟩
        | refine ⟨_, _, rfl, at_map (by assumption), ?_⟩
        | refine idx_mapX (i := 0) rfl (by assumption) ?_
        | refine idx_map (by omega) (fun x hx => ?_)
        | refine idx_mapX (wrap_dn (by omega) (by omega)) (by assumption) ?_
        | refine idx_mapE (wrap_dn (by omega) (by omega)) (by omega) (fun x hx => ?_)
        | refine idx_mapL (by omega) (by first | assumption | (simp only [LIM]; omega)) (fun x hx => ?_)
        | refine idx_mapI (by omega) (by first | omega | (simp only [List.length_map] at *; omega)) (fun x hx => ?_)
        | refine ⟨_, ldc_cells hupd_at (Nat.le_of_ble_eq_true rfl), ?_⟩
        | refine ⟨_, ldc_cells (by first | assumption | exact zk ‹_› (by omega) | exact zk (zk ‹_› (by omega)) (by omega)) (Nat.le_of_ble_eq_true rfl), ?_⟩
        | refine ⟨_, _, hupd_at, rfl, rfl, Nat.le_of_ble_eq_true rfl, ?_⟩
        | refine ⟨_, _, rfl, rfl, rfl, Nat.le_of_ble_eq_true rfl, ?_⟩
        | (refine ⟨fun hc => ?_, fun hc => ?_⟩ <;> (try simp (disch := omega) only [List.length_map, wrap64] at hc) <;> (try (exfalso; first | contradiction | omega)))
        | (refine ⟨⟨i + 1, ⟨rfl, congrArg I (wrap_up (n := n.seen.length) (by omega) (hfs)), trivial⟩, (by omega), (by exact hstep hh), (by first | assumption | exact zk ‹_› (by omega)), (by omega), (by exact h0_), rfl⟩, ?_⟩; show n.seen.length - ix (I _) < n.seen.length - ix (I _); simp only [wrap_up (n := n.seen.length) (i := i) (by omega) (hfs), ix, Int.toNat_natCast]; omega)
        | exact ⟨⟨_, rfl, rfl, n, rfl, (by refine congrArg B (Eq.symm (tb_pos ?_)); (try dsimp only); first | done | exact absurd True.intro hj | (exact fun h => h.2.2.2.2.2 x hxm hh))⟩, (by first | exact Nat.le_refl _ | omega), (by exact h0_)⟩
        | exact ⟨⟨_, rfl, rfl, n, rfl, (by refine congrArg B (Eq.symm (tb_neg ?_)); (try dsimp only); first | done | exact absurd True.intro hj | (exact fun h => h.2.2.2.2.2 x hxm hh))⟩, (by first | exact Nat.le_refl _ | omega), (by exact h0_)⟩
        | fail)
    · have g : ¬ (x.n = n.id ∧ n.vt < y.e) := by rw [← hly]; exact hh
      repeat' ((conv => whnf); first
        | refine ⟨_, _, rfl, at_map hx, ?_⟩
        | refine idx_mapX hw hy ?_
        | refine ⟨_, rfl, ?_⟩
        | refine ⟨rfl, ?_⟩
        | refine ⟨_, _, rfl, at_map (by assumption), ?_⟩
        | refine idx_mapX (i := 0) rfl (by assumption) ?_
        | refine idx_map (by omega) (fun x hx => ?_)
        | refine idx_mapX (wrap_dn (by omega) (by omega)) (by assumption) ?_
        | refine idx_mapE (wrap_dn (by omega) (by omega)) (by omega) (fun x hx => ?_)
        | refine idx_mapL (by omega) (by first | assumption | (simp only [LIM]; omega)) (fun x hx => ?_)
        | refine idx_mapI (by omega) (by first | omega | (simp only [List.length_map] at *; omega)) (fun x hx => ?_)
        | refine ⟨_, ldc_cells hupd_at (Nat.le_of_ble_eq_true rfl), ?_⟩
        | refine ⟨_, ldc_cells (by first | assumption | exact zk ‹_› (by omega) | exact zk (zk ‹_› (by omega)) (by omega)) (Nat.le_of_ble_eq_true rfl), ?_⟩
        | refine ⟨_, _, hupd_at, rfl, rfl, Nat.le_of_ble_eq_true rfl, ?_⟩
        | refine ⟨_, _, rfl, rfl, rfl, Nat.le_of_ble_eq_true rfl, ?_⟩
        | (refine ⟨fun hc => ?_, fun hc => ?_⟩ <;> (try simp (disch := omega) only [List.length_map, wrap64] at hc) <;> (try (exfalso; first | contradiction | omega)))
        | (refine ⟨⟨i + 1, ⟨rfl, congrArg I (wrap_up (n := n.seen.length) (by omega) (hfs)), trivial⟩, (by omega), (by exact hstep hh), (by first | assumption | exact zk ‹_› (by omega)), (by omega), (by exact h0_), rfl⟩, ?_⟩; show n.seen.length - ix (I _) < n.seen.length - ix (I _); simp only [wrap_up (n := n.seen.length) (i := i) (by omega) (hfs), ix, Int.toNat_natCast]; omega)
        | exact ⟨⟨_, rfl, rfl, n, rfl, (by refine congrArg B (Eq.symm (tb_pos ?_)); (try dsimp only); first | done | exact absurd True.intro hj | (exact absurd ⟨by assumption, by omega⟩ g))⟩, (by first | exact Nat.le_refl _ | omega), (by exact h0_)⟩
        | exact ⟨⟨_, rfl, rfl, n, rfl, (by refine congrArg B (Eq.symm (tb_neg ?_)); (try dsimp only); first | done | exact absurd True.intro hj | (exact absurd ⟨by assumption, by omega⟩ g))⟩, (by first | exact Nat.le_refl _ | omega), (by exact h0_)⟩
        | fail)
  · have hall : ∀ v, v ∈ n.seen → ¬ HitN n v := fun v hv => by
      obtain ⟨j, hj⟩ := List.mem_iff_getElem?.1 hv
      exact hq j v (by have := (List.getElem?_eq_some_iff.1 hj).1; omega) hj
    repeat' ((conv => whnf); first
      | refine ⟨_, rfl, ?_⟩
      | refine ⟨rfl, ?_⟩
      | refine ⟨_, _, rfl, at_map (by assumption), ?_⟩
      | refine idx_mapX (i := 0) rfl (by assumption) ?_
      | refine idx_map (by omega) (fun x hx => ?_)
      | refine idx_mapX (wrap_dn (by omega) (by omega)) (by assumption) ?_
      | refine idx_mapE (wrap_dn (by omega) (by omega)) (by omega) (fun x hx => ?_)
      | refine idx_mapL (by omega) (by first | assumption | (simp only [LIM]; omega)) (fun x hx => ?_)
      | refine idx_mapI (by omega) (by first | omega | (simp only [List.length_map] at *; omega)) (fun x hx => ?_)
      | refine ⟨_, ldc_cells hupd_at (Nat.le_of_ble_eq_true rfl), ?_⟩
      | refine ⟨_, ldc_cells (by first | assumption | exact zk ‹_› (by omega) | exact zk (zk ‹_› (by omega)) (by omega)) (Nat.le_of_ble_eq_true rfl), ?_⟩
      | refine ⟨_, _, hupd_at, rfl, rfl, Nat.le_of_ble_eq_true rfl, ?_⟩
      | refine ⟨_, _, rfl, rfl, rfl, Nat.le_of_ble_eq_true rfl, ?_⟩
      | (refine ⟨fun hc => ?_, fun hc => ?_⟩ <;> (try simp (disch := omega) only [List.length_map, wrap64] at hc) <;> (try (exfalso; first | contradiction | omega)))
      | (refine ⟨⟨i + 1, ⟨rfl, congrArg I (wrap_up (n := n.seen.length) (by omega) (hfs)), trivial⟩, (by omega), (by exact hstep hh), (by first | assumption | exact zk ‹_› (by omega)), (by omega), (by exact h0_), rfl⟩, ?_⟩; show n.seen.length - ix (I _) < n.seen.length - ix (I _); simp only [wrap_up (n := n.seen.length) (i := i) (by omega) (hfs), ix, Int.toNat_natCast]; omega)
      | exact ⟨⟨_, rfl, rfl, n, rfl, (by refine congrArg B (Eq.symm (tb_pos ?_)); (try dsimp only); first | done | exact absurd True.intro hj | (exact ⟨by assumption, by assumption, by assumption, by omega, by assumption, hall⟩))⟩, (by first | exact Nat.le_refl _ | omega), (by exact h0_)⟩
      | exact ⟨⟨_, rfl, rfl, n, rfl, (by refine congrArg B (Eq.symm (tb_neg ?_)); (try dsimp only); first | done | exact absurd True.intro hj | (exact ⟨by assumption, by assumption, by assumption, by omega, by assumption, hall⟩))⟩, (by first | exact Nat.le_refl _ | omega), (by exact h0_)⟩
      | fail)
set_option maxHeartbeats 4000000 in
set_option maxRecDepth 100000 in
theorem v_spec_l21All : Valid Try.prog n_spec_l21All S_spec_l21All := by
  refine valid_of_swp mixed is_spec_l21All (by rintro _ ⟨a, rfl, _⟩; exact Nat.le_of_ble_eq_true rfl) ?_
  rintro _ rm ⟨⟨w, l⟩, rfl, hpre⟩ hl
  try dsimp only at hpre
  have hpre0 := hpre
  obtain ⟨hp1, hp2⟩ := hpre
  have hfs := hp2.1
  conv => whnf
  refine ⟨fun fr H nx rm' => ∃ (i : Nat), Has fr [(1, one (vsF l)), (2, .w (.o (.ptr 1 0))), (5, I i)] ∧ i ≤ l.length ∧ (∀ j v, j < i → l[j]? = some v → ShownW w v) ∧ H 1 = some (.cells ((woF w).map AC.c)) ∧ 1 ≤ nx ∧ H 0 = none ∧ rm' = rm,
    fun fr _ _ _ => l.length - ix (fr 5), ⟨0, ⟨(by first | rfl | (show I _ = I _; simp)), (by first | rfl | (show I _ = I _; simp)), (by first | rfl | (show I _ = I _; simp)), trivial⟩, Nat.zero_le _, (by first | trivial | rfl | (intros; omega) | simp), rfl, (by first | decide | omega), (by exact h0_), rfl⟩, ?_⟩
  rintro fr H nx rm' ⟨i, hfr, hi, hq, hH1, hnx, hH, rfl⟩
  rw [hfr.eq]
  rcases Nat.lt_or_ge i l.length with hi' | hi'
  · obtain ⟨x, hx⟩ : ∃ x, l[i]? = some x := ⟨_, List.getElem?_eq_getElem hi'⟩
    have hxm : x ∈ l := List.mem_of_getElem? hx
    have hxv : FitV x := hp2.2 x hxm
    have hstep : ShownW w x → ∀ j v, j < i + 1 → l[j]? = some v → ShownW w v := by
      intro hh j v hj1 hj2
      by_cases e : j < i
      · exact hq j v e hj2
      · have e : j = i := by omega
        subst e; cases (hx.symm.trans hj2); exact hh
    repeat' ((conv => whnf); first
      | refine ⟨_, _, rfl, at_map hx, ?_⟩
      | refine ⟨_, rfl, ?_⟩
      | refine ⟨rfl, ?_⟩
      | refine ⟨_, _, rfl, at_map (by assumption), ?_⟩
      | refine idx_mapX (i := 0) rfl (by assumption) ?_
      | refine idx_map (by omega) (fun x hx => ?_)
      | refine idx_mapX (wrap_dn (by omega) (by omega)) (by assumption) ?_
      | refine idx_mapE (wrap_dn (by omega) (by omega)) (by omega) (fun x hx => ?_)
      | refine idx_mapL (by omega) (by first | assumption | (simp only [LIM]; omega)) (fun x hx => ?_)
      | refine idx_mapI (by omega) (by first | omega | (simp only [List.length_map] at *; omega)) (fun x hx => ?_)
      | refine ⟨_, ldc_cells hupd_at (Nat.le_of_ble_eq_true rfl), ?_⟩
      | refine ⟨_, ldc_cells (by first | assumption | exact zk ‹_› (by omega) | exact zk (zk ‹_› (by omega)) (by omega)) (Nat.le_of_ble_eq_true rfl), ?_⟩
      | (refine ⟨fun hc => ?_, fun hc => ?_⟩ <;> (try simp (disch := omega) only [List.length_map, wrap64] at hc) <;> (try (exfalso; first | contradiction | omega)))
      | (refine callt (b := [one (vsF _), agg (voF ⟨_, _⟩)]) v_spec_l3Has rfl ⟨(_, ⟨_, _⟩), rfl, (by refine ⟨?_, ?_⟩ <;> (exact pr_))⟩ (.inl rfl) (by first | assumption | omega) (fun r hr => K_spec_l3Has (a := (_, ⟨_, _⟩)) hr) (fun hj => ?_) (fun hj => ?_) <;> (try simp only [etaPa, etaIt, etaVo] at hj) <;> (try contradiction))
      | (refine ⟨⟨i + 1, ⟨rfl, rfl, congrArg I (wrap_up (n := l.length) (by omega) (hfs)), trivial⟩, (by omega), (by exact hstep (by first | exact .inl (by assumption) | exact .inr (by assumption))), (by first | assumption | exact zk ‹_› (by omega)), (by omega), (by exact h0_), rfl⟩, ?_⟩; show l.length - ix (I _) < l.length - ix (I _); simp only [wrap_up (n := l.length) (i := i) (by omega) (hfs), ix, Int.toNat_natCast]; omega)
      | exact ⟨⟨_, rfl, rfl, (w, l), rfl, (by refine congrArg B (Eq.symm (tb_pos ?_)); (try dsimp only); first | done | exact absurd True.intro hj | (exact fun h => (h x hxm).elim hc hj))⟩, (by first | exact Nat.le_refl _ | omega), (by exact h0_)⟩
      | exact ⟨⟨_, rfl, rfl, (w, l), rfl, (by refine congrArg B (Eq.symm (tb_neg ?_)); (try dsimp only); first | done | exact absurd True.intro hj | (exact fun h => (h x hxm).elim hc hj))⟩, (by first | exact Nat.le_refl _ | omega), (by exact h0_)⟩
      | fail)
  · have hall : ShownAll w l := fun v hv => by
      obtain ⟨j, hj⟩ := List.mem_iff_getElem?.1 hv
      exact hq j v (by have := (List.getElem?_eq_some_iff.1 hj).1; omega) hj
    repeat' ((conv => whnf); first
      | refine ⟨_, rfl, ?_⟩
      | refine ⟨rfl, ?_⟩
      | refine ⟨_, _, rfl, at_map (by assumption), ?_⟩
      | refine idx_mapX (i := 0) rfl (by assumption) ?_
      | refine idx_map (by omega) (fun x hx => ?_)
      | refine idx_mapX (wrap_dn (by omega) (by omega)) (by assumption) ?_
      | refine idx_mapE (wrap_dn (by omega) (by omega)) (by omega) (fun x hx => ?_)
      | refine idx_mapL (by omega) (by first | assumption | (simp only [LIM]; omega)) (fun x hx => ?_)
      | refine idx_mapI (by omega) (by first | omega | (simp only [List.length_map] at *; omega)) (fun x hx => ?_)
      | refine ⟨_, ldc_cells hupd_at (Nat.le_of_ble_eq_true rfl), ?_⟩
      | refine ⟨_, ldc_cells (by first | assumption | exact zk ‹_› (by omega) | exact zk (zk ‹_› (by omega)) (by omega)) (Nat.le_of_ble_eq_true rfl), ?_⟩
      | (refine ⟨fun hc => ?_, fun hc => ?_⟩ <;> (try simp (disch := omega) only [List.length_map, wrap64] at hc) <;> (try (exfalso; first | contradiction | omega)))
      | (refine ⟨⟨i + 1, ⟨rfl, rfl, congrArg I (wrap_up (n := l.length) (by omega) (hfs)), trivial⟩, (by omega), (by exact hstep (by first | exact .inl (by assumption) | exact .inr (by assumption))), (by first | assumption | exact zk ‹_› (by omega)), (by omega), (by exact h0_), rfl⟩, ?_⟩; show l.length - ix (I _) < l.length - ix (I _); simp only [wrap_up (n := l.length) (i := i) (by omega) (hfs), ix, Int.toNat_natCast]; omega)
      | exact ⟨⟨_, rfl, rfl, (w, l), rfl, (by refine congrArg B (Eq.symm (tb_pos ?_)); (try dsimp only); first | done | exact absurd True.intro hj | (exact hall))⟩, (by first | exact Nat.le_refl _ | omega), (by exact h0_)⟩
      | exact ⟨⟨_, rfl, rfl, (w, l), rfl, (by refine congrArg B (Eq.symm (tb_neg ?_)); (try dsimp only); first | done | exact absurd True.intro hj | (exact hall))⟩, (by first | exact Nat.le_refl _ | omega), (by exact h0_)⟩
      | fail)
set_option maxHeartbeats 4000000 in
set_option maxRecDepth 100000 in
theorem v_spec_WorldOk : Valid Try.prog n_spec_WorldOk S_spec_WorldOk := by
  refine valid_of_swp mixed is_spec_WorldOk (by rintro _ ⟨a, rfl, _⟩; exact Nat.le_of_ble_eq_true rfl) ?_
  rintro _ rm ⟨w, rfl, hpre⟩ hl
  try dsimp only at hpre
  have hpre0 := hpre
  obtain ⟨hp1, hp2⟩ := hpre
  have hfn := hp1.1
  repeat' ((conv => whnf); first
    | refine ⟨_, rfl, ?_⟩
    | refine ⟨rfl, ?_⟩
    | refine ⟨_, _, rfl, at_map (by assumption), ?_⟩
    | refine idx_mapX (i := 0) rfl (by assumption) ?_
    | refine idx_map (by omega) (fun x hx => ?_)
    | refine idx_mapX (wrap_dn (by omega) (by omega)) (by assumption) ?_
    | refine idx_mapE (wrap_dn (by omega) (by omega)) (by omega) (fun x hx => ?_)
    | refine idx_mapL (by omega) (by first | assumption | (simp only [LIM]; omega)) (fun x hx => ?_)
    | refine idx_mapI (by omega) (by first | omega | (simp only [List.length_map] at *; omega)) (fun x hx => ?_)
    | refine ⟨_, ldc_cells hupd_at (Nat.le_of_ble_eq_true rfl), ?_⟩
    | refine ⟨_, ldc_cells (by first | assumption | exact zk ‹_› (by omega) | exact zk (zk ‹_› (by omega)) (by omega)) (Nat.le_of_ble_eq_true rfl), ?_⟩
    | refine ⟨_, _, hupd_at, rfl, rfl, Nat.le_of_ble_eq_true rfl, ?_⟩
    | refine ⟨_, _, rfl, rfl, rfl, Nat.le_of_ble_eq_true rfl, ?_⟩
    | (refine ⟨fun hc => ?_, fun hc => ?_⟩ <;> (try simp (disch := omega) only [List.length_map, wrap64] at hc))
    | (refine callt (b := [I _, I _, I _]) v_spec_l6In rfl ⟨(_, _, _), rfl, (by exact True.intro)⟩ (.inl rfl) (by first | assumption | omega) (fun r hr => K_spec_l6In (a := (_, _, _)) hr) (fun hj => ?_) (fun hj => ?_) <;> (try simp only [etaPa, etaIt, etaVo] at hj))
    | (refine callt (b := [one (vsF _)]) v_spec_VotesOk rfl ⟨_, rfl, (by exact pr_)⟩ (.inl rfl) (by first | assumption | omega) (fun r hr => K_spec_VotesOk (a := _) hr) (fun hj => ?_) (fun hj => ?_) <;> (try simp only [etaPa, etaIt, etaVo] at hj))
    | exact ⟨⟨_, rfl, rfl, w, rfl, (by refine congrArg B (Eq.symm (tb_pos ?_)); (try dsimp only); first | done | exact absurd True.intro hj | ((rintro ⟨q1, q2, q3, q4, q5, q6⟩; first | contradiction | omega)))⟩, (by first | exact Nat.le_refl _ | omega), (by exact h0_)⟩
    | exact ⟨⟨_, rfl, rfl, w, rfl, (by refine congrArg B (Eq.symm (tb_neg ?_)); (try dsimp only); first | done | exact absurd True.intro hj | ((rintro ⟨q1, q2, q3, q4, q5, q6⟩; first | contradiction | omega)))⟩, (by first | exact Nat.le_refl _ | omega), (by exact h0_)⟩
    | fail)
  have h4 : w.nodes.length = 4 := by omega
  conv => whnf
  refine ⟨fun fr H nx rm' => ∃ (i : Nat), Has fr [(1, .w (.o (.ptr 1 0))), (3, I i)] ∧ i ≤ w.nodes.length ∧ (∀ j n, j < i → w.nodes[j]? = some n → NodeAt w j n) ∧ H 1 = some (.cells ((woF w).map AC.c)) ∧ 1 ≤ nx ∧ H 0 = none ∧ rm' = rm,
    fun fr _ _ _ => w.nodes.length - ix (fr 3), ⟨0, ⟨(by first | rfl | (show I _ = I _; simp)), (by first | rfl | (show I _ = I _; simp)), trivial⟩, Nat.zero_le _, (by first | trivial | rfl | (intros; omega) | simp), rfl, (by first | decide | omega), (by exact h0_), rfl⟩, ?_⟩
  rintro fr H nx rm' ⟨i, hfr, hi, hq, hH1, hnx, hH, rfl⟩
  rw [hfr.eq]
  rcases Nat.lt_or_ge i w.nodes.length with hi' | hi'
  · obtain ⟨x, hx⟩ : ∃ x, w.nodes[i]? = some x := ⟨_, List.getElem?_eq_getElem hi'⟩
    have hxf : FitVs x.seen := hp1.at hx
    have hw : IntKind.i64.wrap ((i : Int) + 1) = (i : Int) + 1 := by rw [wrap64] <;> omega
    have hstep : NodeAt w i x → ∀ j n, j < i + 1 → w.nodes[j]? = some n → NodeAt w j n := by
      intro hh j v hj1 hj2
      by_cases e : j < i
      · exact hq j v e hj2
      · have e : j = i := by omega
        subst e; cases (hx.symm.trans hj2); exact hh
    by_cases hA : NodeAt w i x
    · obtain ⟨a1, a2, a3, a4⟩ := id hA
      rw [← hw] at a2
      repeat' ((conv => whnf); first
        | refine ⟨_, _, rfl, at_map hx, ?_⟩
        | refine ⟨_, rfl, ?_⟩
        | refine ⟨rfl, ?_⟩
        | refine ⟨_, _, rfl, at_map (by assumption), ?_⟩
        | refine idx_mapX (i := 0) rfl (by assumption) ?_
        | refine idx_map (by omega) (fun x hx => ?_)
        | refine idx_mapX (wrap_dn (by omega) (by omega)) (by assumption) ?_
        | refine idx_mapE (wrap_dn (by omega) (by omega)) (by omega) (fun x hx => ?_)
        | refine idx_mapL (by omega) (by first | assumption | (simp only [LIM]; omega)) (fun x hx => ?_)
        | refine idx_mapI (by omega) (by first | omega | (simp only [List.length_map] at *; omega)) (fun x hx => ?_)
        | refine ⟨_, ldc_cells hupd_at (Nat.le_of_ble_eq_true rfl), ?_⟩
        | refine ⟨_, ldc_cells (by first | assumption | exact zk ‹_› (by omega) | exact zk (zk ‹_› (by omega)) (by omega)) (Nat.le_of_ble_eq_true rfl), ?_⟩
        | refine ⟨_, _, hupd_at, rfl, rfl, Nat.le_of_ble_eq_true rfl, ?_⟩
        | refine ⟨_, _, rfl, rfl, rfl, Nat.le_of_ble_eq_true rfl, ?_⟩
        | (refine ⟨fun hc => ?_, fun hc => ?_⟩ <;> (try simp (disch := omega) only [List.length_map, wrap64] at hc) <;> (try (exfalso; first | contradiction | omega)))
        | (refine callt (b := [agg (ndF ⟨_, _, _, _⟩)]) v_spec_NodeOk rfl ⟨⟨_, _, _, _⟩, rfl, (by exact pr_)⟩ (.inl rfl) (by first | assumption | omega) (fun r hr => K_spec_NodeOk (a := ⟨_, _, _, _⟩) hr) (fun hj => ?_) (fun hj => ?_) <;> (try simp only [etaPa, etaIt, etaVo] at hj) <;> (try simp only [etaNd, etaWo] at hj) <;> (try contradiction))
        | (refine callt (b := [agg (woF ⟨_, _, _, _⟩), one (vsF _)]) v_spec_l21All rfl ⟨(⟨_, _, _, _⟩, _), rfl, (by refine ⟨?_, ?_⟩ <;> (exact pr_))⟩ (.inl rfl) (by first | assumption | omega) (fun r hr => K_spec_l21All (a := (⟨_, _, _, _⟩, _)) hr) (fun hj => ?_) (fun hj => ?_) <;> (try simp only [etaPa, etaIt, etaVo] at hj) <;> (try simp only [etaNd, etaWo] at hj) <;> (try contradiction))
        | (refine ⟨⟨i + 1, ⟨rfl, congrArg I (wrap_up (n := w.nodes.length) (by omega) (hfn)), trivial⟩, (by omega), (by exact hstep hA), (by first | assumption | exact zk ‹_› (by omega)), (by omega), (by exact h0_), rfl⟩, ?_⟩; show w.nodes.length - ix (I _) < w.nodes.length - ix (I _); simp only [wrap_up (n := w.nodes.length) (i := i) (by omega) (hfn), ix, Int.toNat_natCast]; omega)
        | exact ⟨⟨_, rfl, rfl, w, rfl, (by refine congrArg B (Eq.symm (tb_pos ?_)); (try dsimp only); first | done | exact absurd True.intro hj | (skip))⟩, (by first | exact Nat.le_refl _ | omega), (by exact h0_)⟩
        | exact ⟨⟨_, rfl, rfl, w, rfl, (by refine congrArg B (Eq.symm (tb_neg ?_)); (try dsimp only); first | done | exact absurd True.intro hj | (skip))⟩, (by first | exact Nat.le_refl _ | omega), (by exact h0_)⟩
        | fail)
    · have hB : ¬ WorldOk w := fun h => hA (h.2.2.2.2.2 i x hx)
      repeat' ((conv => whnf); first
        | refine ⟨_, _, rfl, at_map hx, ?_⟩
        | refine ⟨_, rfl, ?_⟩
        | refine ⟨rfl, ?_⟩
        | refine ⟨_, _, rfl, at_map (by assumption), ?_⟩
        | refine idx_mapX (i := 0) rfl (by assumption) ?_
        | refine idx_map (by omega) (fun x hx => ?_)
        | refine idx_mapX (wrap_dn (by omega) (by omega)) (by assumption) ?_
        | refine idx_mapE (wrap_dn (by omega) (by omega)) (by omega) (fun x hx => ?_)
        | refine idx_mapL (by omega) (by first | assumption | (simp only [LIM]; omega)) (fun x hx => ?_)
        | refine idx_mapI (by omega) (by first | omega | (simp only [List.length_map] at *; omega)) (fun x hx => ?_)
        | refine ⟨_, ldc_cells hupd_at (Nat.le_of_ble_eq_true rfl), ?_⟩
        | refine ⟨_, ldc_cells (by first | assumption | exact zk ‹_› (by omega) | exact zk (zk ‹_› (by omega)) (by omega)) (Nat.le_of_ble_eq_true rfl), ?_⟩
        | refine ⟨_, _, hupd_at, rfl, rfl, Nat.le_of_ble_eq_true rfl, ?_⟩
        | refine ⟨_, _, rfl, rfl, rfl, Nat.le_of_ble_eq_true rfl, ?_⟩
        | (refine ⟨fun hc => ?_, fun hc => ?_⟩ <;> (try simp (disch := omega) only [List.length_map, wrap64] at hc) <;> (try (exfalso; first | contradiction | omega)))
        | (refine callt (b := [agg (ndF ⟨_, _, _, _⟩)]) v_spec_NodeOk rfl ⟨⟨_, _, _, _⟩, rfl, (by exact pr_)⟩ (.inl rfl) (by first | assumption | omega) (fun r hr => K_spec_NodeOk (a := ⟨_, _, _, _⟩) hr) (fun hj => ?_) (fun hj => ?_) <;> (try simp only [etaPa, etaIt, etaVo] at hj) <;> (try simp only [etaNd, etaWo] at hj) <;> (try contradiction))
        | (refine callt (b := [agg (woF ⟨_, _, _, _⟩), one (vsF _)]) v_spec_l21All rfl ⟨(⟨_, _, _, _⟩, _), rfl, (by refine ⟨?_, ?_⟩ <;> (exact pr_))⟩ (.inl rfl) (by first | assumption | omega) (fun r hr => K_spec_l21All (a := (⟨_, _, _, _⟩, _)) hr) (fun hj => ?_) (fun hj => ?_) <;> (try simp only [etaPa, etaIt, etaVo] at hj) <;> (try simp only [etaNd, etaWo] at hj) <;> (try contradiction))
        | (refine ⟨⟨i + 1, ⟨rfl, congrArg I (wrap_up (n := w.nodes.length) (by omega) (hfn)), trivial⟩, (by omega), (by exact hstep hA), (by first | assumption | exact zk ‹_› (by omega)), (by omega), (by exact h0_), rfl⟩, ?_⟩; show w.nodes.length - ix (I _) < w.nodes.length - ix (I _); simp only [wrap_up (n := w.nodes.length) (i := i) (by omega) (hfn), ix, Int.toNat_natCast]; omega)
        | exact ⟨⟨_, rfl, rfl, w, rfl, (by refine congrArg B (Eq.symm (tb_pos ?_)); (try dsimp only); first | done | exact absurd True.intro hj | (exact hB))⟩, (by first | exact Nat.le_refl _ | omega), (by exact h0_)⟩
        | exact ⟨⟨_, rfl, rfl, w, rfl, (by refine congrArg B (Eq.symm (tb_neg ?_)); (try dsimp only); first | done | exact absurd True.intro hj | (exact hB))⟩, (by first | exact Nat.le_refl _ | omega), (by exact h0_)⟩
        | (exfalso; exact hA ⟨by assumption, by omega, by omega, by assumption⟩)
        | fail)
  · have hdone := hq
    repeat' ((conv => whnf); first
      | refine ⟨_, rfl, ?_⟩
      | refine ⟨rfl, ?_⟩
      | refine ⟨_, _, rfl, at_map (by assumption), ?_⟩
      | refine idx_mapX (i := 0) rfl (by assumption) ?_
      | refine idx_map (by omega) (fun x hx => ?_)
      | refine idx_mapX (wrap_dn (by omega) (by omega)) (by assumption) ?_
      | refine idx_mapE (wrap_dn (by omega) (by omega)) (by omega) (fun x hx => ?_)
      | refine idx_mapL (by omega) (by first | assumption | (simp only [LIM]; omega)) (fun x hx => ?_)
      | refine idx_mapI (by omega) (by first | omega | (simp only [List.length_map] at *; omega)) (fun x hx => ?_)
      | refine ⟨_, ldc_cells hupd_at (Nat.le_of_ble_eq_true rfl), ?_⟩
      | refine ⟨_, ldc_cells (by first | assumption | exact zk ‹_› (by omega) | exact zk (zk ‹_› (by omega)) (by omega)) (Nat.le_of_ble_eq_true rfl), ?_⟩
      | refine ⟨_, _, hupd_at, rfl, rfl, Nat.le_of_ble_eq_true rfl, ?_⟩
      | refine ⟨_, _, rfl, rfl, rfl, Nat.le_of_ble_eq_true rfl, ?_⟩
      | (refine ⟨fun hc => ?_, fun hc => ?_⟩ <;> (try simp (disch := omega) only [List.length_map, wrap64] at hc) <;> (try (exfalso; first | contradiction | omega)))
      | (refine ⟨⟨i + 1, ⟨rfl, congrArg I (wrap_up (n := w.nodes.length) (by omega) (hfn)), trivial⟩, (by omega), (by exact hstep hA), (by first | assumption | exact zk ‹_› (by omega)), (by omega), (by exact h0_), rfl⟩, ?_⟩; show w.nodes.length - ix (I _) < w.nodes.length - ix (I _); simp only [wrap_up (n := w.nodes.length) (i := i) (by omega) (hfn), ix, Int.toNat_natCast]; omega)
      | exact ⟨⟨_, rfl, rfl, w, rfl, (by refine congrArg B (Eq.symm (tb_pos ?_)); (try dsimp only); first | done | exact absurd True.intro hj | (exact ⟨by assumption, by assumption, h4, by omega, by assumption, fun j n hn => hq j n (by have := (List.getElem?_eq_some_iff.1 hn).1; omega) hn⟩))⟩, (by first | exact Nat.le_refl _ | omega), (by exact h0_)⟩
      | exact ⟨⟨_, rfl, rfl, w, rfl, (by refine congrArg B (Eq.symm (tb_neg ?_)); (try dsimp only); first | done | exact absurd True.intro hj | (exact ⟨by assumption, by assumption, h4, by omega, by assumption, fun j n hn => hq j n (by have := (List.getElem?_eq_some_iff.1 hn).1; omega) hn⟩))⟩, (by first | exact Nat.le_refl _ | omega), (by exact h0_)⟩
      | fail)
set_option maxHeartbeats 4000000 in
set_option maxRecDepth 100000 in
theorem v_impl_WorldOk : Valid Try.prog n_impl_WorldOk S_impl_WorldOk := by
  refine valid_of_swp mixed is_impl_WorldOk (by rintro _ ⟨a, rfl, _⟩; exact Nat.le_of_ble_eq_true rfl) ?_
  rintro _ rm ⟨w, rfl, hpre⟩ hl
  try dsimp only at hpre
  have hpre0 := hpre
  obtain ⟨hp1, hp2⟩ := hpre
  have hfn := hp1.1
  repeat' ((conv => whnf); first
    | refine ⟨_, rfl, ?_⟩
    | refine ⟨rfl, ?_⟩
    | refine ⟨_, _, rfl, at_map (by assumption), ?_⟩
    | refine idx_mapX (i := 0) rfl (by assumption) ?_
    | refine idx_map (by omega) (fun x hx => ?_)
    | refine idx_mapX (wrap_dn (by omega) (by omega)) (by assumption) ?_
    | refine idx_mapE (wrap_dn (by omega) (by omega)) (by omega) (fun x hx => ?_)
    | refine idx_mapL (by omega) (by first | assumption | (simp only [LIM]; omega)) (fun x hx => ?_)
    | refine idx_mapI (by omega) (by first | omega | (simp only [List.length_map] at *; omega)) (fun x hx => ?_)
    | refine ⟨_, ldc_cells hupd_at (Nat.le_of_ble_eq_true rfl), ?_⟩
    | refine ⟨_, ldc_cells (by first | assumption | exact zk ‹_› (by omega) | exact zk (zk ‹_› (by omega)) (by omega)) (Nat.le_of_ble_eq_true rfl), ?_⟩
    | refine ⟨_, _, hupd_at, rfl, rfl, Nat.le_of_ble_eq_true rfl, ?_⟩
    | refine ⟨_, _, rfl, rfl, rfl, Nat.le_of_ble_eq_true rfl, ?_⟩
    | (refine ⟨fun hc => ?_, fun hc => ?_⟩ <;> (try simp (disch := omega) only [List.length_map, wrap64] at hc))
    | (refine callt (b := [I _, I _, I _]) v_impl_within rfl ⟨(_, _, _), rfl, (by exact True.intro)⟩ (.inl rfl) (by first | assumption | omega) (fun r hr => K_impl_within (a := (_, _, _)) hr) (fun hj => ?_) (fun hj => ?_) <;> (try simp only [etaPa, etaIt, etaVo] at hj))
    | (refine callt (b := [one (vsF _)]) v_impl_VotesOk rfl ⟨_, rfl, (by exact pr_)⟩ (.inl rfl) (by first | assumption | omega) (fun r hr => K_impl_VotesOk (a := _) hr) (fun hj => ?_) (fun hj => ?_) <;> (try simp only [etaPa, etaIt, etaVo] at hj))
    | exact ⟨⟨_, rfl, rfl, w, rfl, (by refine congrArg B (Eq.symm (tb_pos ?_)); (try dsimp only); first | done | exact absurd True.intro hj | ((rintro ⟨q1, q2, q3, q4, q5, q6⟩; first | contradiction | omega)))⟩, (by first | exact Nat.le_refl _ | omega), (by exact h0_)⟩
    | exact ⟨⟨_, rfl, rfl, w, rfl, (by refine congrArg B (Eq.symm (tb_neg ?_)); (try dsimp only); first | done | exact absurd True.intro hj | ((rintro ⟨q1, q2, q3, q4, q5, q6⟩; first | contradiction | omega)))⟩, (by first | exact Nat.le_refl _ | omega), (by exact h0_)⟩
    | fail)
  have h4 : w.nodes.length = 4 := by omega
  conv => whnf
  refine ⟨fun fr H nx rm' => ∃ (i : Nat), Has fr [(1, .w (.o (.ptr 1 0))), (34, one (ndsF w.nodes)), (35, I (w.nodes.map ndF).length), (36, I i)] ∧ i ≤ w.nodes.length ∧ (∀ j n, j < i → w.nodes[j]? = some n → NodeAt w j n) ∧ H 1 = some (.cells ((woF w).map AC.c)) ∧ 1 ≤ nx ∧ H 0 = none ∧ rm' = rm,
    fun fr _ _ _ => w.nodes.length - ix (fr 36), ⟨0, ⟨(by first | rfl | (show I _ = I _; simp)), (by first | rfl | (show I _ = I _; simp)), (by first | rfl | (show I _ = I _; simp)), (by first | rfl | (show I _ = I _; simp)), trivial⟩, Nat.zero_le _, (by first | trivial | rfl | (intros; omega) | simp), rfl, (by first | decide | omega), (by exact h0_), rfl⟩, ?_⟩
  rintro fr H nx rm' ⟨i, hfr, hi, hq, hH1, hnx, hH, rfl⟩
  rw [hfr.eq]
  rcases Nat.lt_or_ge i w.nodes.length with hi' | hi'
  · obtain ⟨x, hx⟩ : ∃ x, w.nodes[i]? = some x := ⟨_, List.getElem?_eq_getElem hi'⟩
    have hxf : FitVs x.seen := hp1.at hx
    have hw : IntKind.i64.wrap ((i : Int) + 1) = (i : Int) + 1 := by rw [wrap64] <;> omega
    have hstep : NodeAt w i x → ∀ j n, j < i + 1 → w.nodes[j]? = some n → NodeAt w j n := by
      intro hh j v hj1 hj2
      by_cases e : j < i
      · exact hq j v e hj2
      · have e : j = i := by omega
        subst e; cases (hx.symm.trans hj2); exact hh
    by_cases hA : NodeAt w i x
    · obtain ⟨a1, a2, a3, a4⟩ := id hA
      rw [← hw] at a2
      have hno : ¬ ∃ v, v ∈ x.seen ∧ hitQ (.inr w) v := fun ⟨v, hv, h⟩ => h (a4 v hv)
      repeat' ((conv => whnf); first
        | refine ⟨_, _, rfl, at_map hx, ?_⟩
        | (refine callt (b := [one (vsF x.seen), fnQ (.inr w)]) v_slices_ContainsFunc_VoteS (l2 rfl (congrArg (fun x => AV.fn (.func n_impl_WorldOk_1) [] [AW.o x]) (bor_cells hk_ (fcells_c (woF w))))) ⟨(x.seen, .inr w), rfl, hxf, hp2⟩ (.inr ⟨rfl, rfl⟩) (by first | assumption | omega) (fun r hr => K_slices_ContainsFunc_VoteS (a := (x.seen, .inr w)) hr) (fun hj => ?_) (fun hj => ?_) <;> (try (exact absurd hj hno)))
        | refine ⟨_, rfl, ?_⟩
        | refine ⟨rfl, ?_⟩
        | refine ⟨_, _, rfl, at_map (by assumption), ?_⟩
        | refine idx_mapX (i := 0) rfl (by assumption) ?_
        | refine idx_map (by omega) (fun x hx => ?_)
        | refine idx_mapX (wrap_dn (by omega) (by omega)) (by assumption) ?_
        | refine idx_mapE (wrap_dn (by omega) (by omega)) (by omega) (fun x hx => ?_)
        | refine idx_mapL (by omega) (by first | assumption | (simp only [LIM]; omega)) (fun x hx => ?_)
        | refine idx_mapI (by omega) (by first | omega | (simp only [List.length_map] at *; omega)) (fun x hx => ?_)
        | refine ⟨_, ldc_cells hupd_at (Nat.le_of_ble_eq_true rfl), ?_⟩
        | refine ⟨_, ldc_cells (by first | assumption | exact zk ‹_› (by omega) | exact zk (zk ‹_› (by omega)) (by omega)) (Nat.le_of_ble_eq_true rfl), ?_⟩
        | refine ⟨_, _, hupd_at, rfl, rfl, Nat.le_of_ble_eq_true rfl, ?_⟩
        | refine ⟨_, _, rfl, rfl, rfl, Nat.le_of_ble_eq_true rfl, ?_⟩
        | (refine ⟨fun hc => ?_, fun hc => ?_⟩ <;> (try simp (disch := omega) only [List.length_map, wrap64] at hc) <;> (try (exfalso; first | contradiction | omega)))
        | (refine callt (b := [agg (ndF ⟨_, _, _, _⟩)]) v_impl_NodeOk rfl ⟨⟨_, _, _, _⟩, rfl, (by exact pr_)⟩ (.inl rfl) (by first | assumption | omega) (fun r hr => K_impl_NodeOk (a := ⟨_, _, _, _⟩) hr) (fun hj => ?_) (fun hj => ?_) <;> (try simp only [etaPa, etaIt, etaVo] at hj) <;> (try simp only [etaNd, etaWo] at hj) <;> (try contradiction))
        | (refine ⟨⟨i + 1, ⟨rfl, rfl, rfl, congrArg I (wrap_up (n := w.nodes.length) (by omega) (hfn)), trivial⟩, (by omega), (by exact hstep hA), (by first | assumption | exact zk ‹_› (by omega)), (by omega), (by exact h0_), rfl⟩, ?_⟩; show w.nodes.length - ix (I _) < w.nodes.length - ix (I _); simp only [wrap_up (n := w.nodes.length) (i := i) (by omega) (hfn), ix, Int.toNat_natCast]; omega)
        | exact ⟨⟨_, rfl, rfl, w, rfl, (by refine congrArg B (Eq.symm (tb_pos ?_)); (try dsimp only); first | done | exact absurd True.intro hj | (skip))⟩, (by first | exact Nat.le_refl _ | omega), (by exact h0_)⟩
        | exact ⟨⟨_, rfl, rfl, w, rfl, (by refine congrArg B (Eq.symm (tb_neg ?_)); (try dsimp only); first | done | exact absurd True.intro hj | (skip))⟩, (by first | exact Nat.le_refl _ | omega), (by exact h0_)⟩
        | fail)
    · have hB : ¬ WorldOk w := fun h => hA (h.2.2.2.2.2 i x hx)
      repeat' ((conv => whnf); first
        | refine ⟨_, _, rfl, at_map hx, ?_⟩
        | (refine callt (b := [one (vsF x.seen), fnQ (.inr w)]) v_slices_ContainsFunc_VoteS (l2 rfl (congrArg (fun x => AV.fn (.func n_impl_WorldOk_1) [] [AW.o x]) (bor_cells hk_ (fcells_c (woF w))))) ⟨(x.seen, .inr w), rfl, hxf, hp2⟩ (.inr ⟨rfl, rfl⟩) (by first | assumption | omega) (fun r hr => K_slices_ContainsFunc_VoteS (a := (x.seen, .inr w)) hr) (fun hj => ?_) (fun hj => ?_))
        | refine ⟨_, rfl, ?_⟩
        | refine ⟨rfl, ?_⟩
        | refine ⟨_, _, rfl, at_map (by assumption), ?_⟩
        | refine idx_mapX (i := 0) rfl (by assumption) ?_
        | refine idx_map (by omega) (fun x hx => ?_)
        | refine idx_mapX (wrap_dn (by omega) (by omega)) (by assumption) ?_
        | refine idx_mapE (wrap_dn (by omega) (by omega)) (by omega) (fun x hx => ?_)
        | refine idx_mapL (by omega) (by first | assumption | (simp only [LIM]; omega)) (fun x hx => ?_)
        | refine idx_mapI (by omega) (by first | omega | (simp only [List.length_map] at *; omega)) (fun x hx => ?_)
        | refine ⟨_, ldc_cells hupd_at (Nat.le_of_ble_eq_true rfl), ?_⟩
        | refine ⟨_, ldc_cells (by first | assumption | exact zk ‹_› (by omega) | exact zk (zk ‹_› (by omega)) (by omega)) (Nat.le_of_ble_eq_true rfl), ?_⟩
        | refine ⟨_, _, hupd_at, rfl, rfl, Nat.le_of_ble_eq_true rfl, ?_⟩
        | refine ⟨_, _, rfl, rfl, rfl, Nat.le_of_ble_eq_true rfl, ?_⟩
        | (refine ⟨fun hc => ?_, fun hc => ?_⟩ <;> (try simp (disch := omega) only [List.length_map, wrap64] at hc) <;> (try (exfalso; first | contradiction | omega)))
        | (refine callt (b := [agg (ndF ⟨_, _, _, _⟩)]) v_impl_NodeOk rfl ⟨⟨_, _, _, _⟩, rfl, (by exact pr_)⟩ (.inl rfl) (by first | assumption | omega) (fun r hr => K_impl_NodeOk (a := ⟨_, _, _, _⟩) hr) (fun hj => ?_) (fun hj => ?_) <;> (try simp only [etaPa, etaIt, etaVo] at hj) <;> (try simp only [etaNd, etaWo] at hj) <;> (try contradiction))
        | (refine ⟨⟨i + 1, ⟨rfl, rfl, rfl, congrArg I (wrap_up (n := w.nodes.length) (by omega) (hfn)), trivial⟩, (by omega), (by exact hstep hA), (by first | assumption | exact zk ‹_› (by omega)), (by omega), (by exact h0_), rfl⟩, ?_⟩; show w.nodes.length - ix (I _) < w.nodes.length - ix (I _); simp only [wrap_up (n := w.nodes.length) (i := i) (by omega) (hfn), ix, Int.toNat_natCast]; omega)
        | exact ⟨⟨_, rfl, rfl, w, rfl, (by refine congrArg B (Eq.symm (tb_pos ?_)); (try dsimp only); first | done | exact absurd True.intro hj | (exact hB))⟩, (by first | exact Nat.le_refl _ | omega), (by exact h0_)⟩
        | exact ⟨⟨_, rfl, rfl, w, rfl, (by refine congrArg B (Eq.symm (tb_neg ?_)); (try dsimp only); first | done | exact absurd True.intro hj | (exact hB))⟩, (by first | exact Nat.le_refl _ | omega), (by exact h0_)⟩
        | (exfalso; exact hA ⟨by assumption, by omega, by omega, fun v hv => Classical.not_not.1 fun h => hj ⟨v, hv, h⟩⟩)
        | fail)
  · have hdone := hq
    repeat' ((conv => whnf); first
      | refine ⟨_, rfl, ?_⟩
      | refine ⟨rfl, ?_⟩
      | refine ⟨_, _, rfl, at_map (by assumption), ?_⟩
      | refine idx_mapX (i := 0) rfl (by assumption) ?_
      | refine idx_map (by omega) (fun x hx => ?_)
      | refine idx_mapX (wrap_dn (by omega) (by omega)) (by assumption) ?_
      | refine idx_mapE (wrap_dn (by omega) (by omega)) (by omega) (fun x hx => ?_)
      | refine idx_mapL (by omega) (by first | assumption | (simp only [LIM]; omega)) (fun x hx => ?_)
      | refine idx_mapI (by omega) (by first | omega | (simp only [List.length_map] at *; omega)) (fun x hx => ?_)
      | refine ⟨_, ldc_cells hupd_at (Nat.le_of_ble_eq_true rfl), ?_⟩
      | refine ⟨_, ldc_cells (by first | assumption | exact zk ‹_› (by omega) | exact zk (zk ‹_› (by omega)) (by omega)) (Nat.le_of_ble_eq_true rfl), ?_⟩
      | refine ⟨_, _, hupd_at, rfl, rfl, Nat.le_of_ble_eq_true rfl, ?_⟩
      | refine ⟨_, _, rfl, rfl, rfl, Nat.le_of_ble_eq_true rfl, ?_⟩
      | (refine ⟨fun hc => ?_, fun hc => ?_⟩ <;> (try simp (disch := omega) only [List.length_map, wrap64] at hc) <;> (try (exfalso; first | contradiction | omega)))
      | (refine ⟨⟨i + 1, ⟨rfl, rfl, rfl, congrArg I (wrap_up (n := w.nodes.length) (by omega) (hfn)), trivial⟩, (by omega), (by exact hstep hA), (by first | assumption | exact zk ‹_› (by omega)), (by omega), (by exact h0_), rfl⟩, ?_⟩; show w.nodes.length - ix (I _) < w.nodes.length - ix (I _); simp only [wrap_up (n := w.nodes.length) (i := i) (by omega) (hfn), ix, Int.toNat_natCast]; omega)
      | exact ⟨⟨_, rfl, rfl, w, rfl, (by refine congrArg B (Eq.symm (tb_pos ?_)); (try dsimp only); first | done | exact absurd True.intro hj | (exact ⟨by assumption, by assumption, h4, by omega, by assumption, fun j n hn => hq j n (by have := (List.getElem?_eq_some_iff.1 hn).1; omega) hn⟩))⟩, (by first | exact Nat.le_refl _ | omega), (by exact h0_)⟩
      | exact ⟨⟨_, rfl, rfl, w, rfl, (by refine congrArg B (Eq.symm (tb_neg ?_)); (try dsimp only); first | done | exact absurd True.intro hj | (exact ⟨by assumption, by assumption, h4, by omega, by assumption, fun j n hn => hq j n (by have := (List.getElem?_eq_some_iff.1 hn).1; omega) hn⟩))⟩, (by first | exact Nat.le_refl _ | omega), (by exact h0_)⟩
      | fail)
end Av
end Go.Proofs.Ytlbdoamidblkaaa
