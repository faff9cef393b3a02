/- The walks: the reference's l1In, l3Same, l3Has, l3Vote, VotesOk, l3Many, l11Sure. -/
import Derived.Test.YtdboofnogabefaaG0
set_option linter.unusedVariables false
set_option linter.unusedSimpArgs false
namespace Go.Proofs.Ytdboofnogabefaa
namespace Av
open Go.RowKit
theorem pre_eq {α : Type} {c d : List α} (h : ∀ (j : Nat) (x : α), c[j]? = some x → d[j]? = some x) : c = d.take c.length := by
  apply List.ext_getElem?
  intro i
  rcases Nat.lt_or_ge i c.length with hi | hi
  · rw [List.getElem?_take_of_lt hi, List.getElem?_eq_getElem hi]
    exact (h i _ (List.getElem?_eq_getElem hi)).symm
  · rw [List.getElem?_eq_none hi, List.getElem?_eq_none]
    simp only [List.length_take]; omega
theorem pre_at {α : Type} {c d : List α} (h : c = d.take c.length) {j : Nat} {x : α} (hx : c[j]? = some x) : d[j]? = some x := by
  have hj : j < c.length := (List.getElem?_eq_some_iff.1 hx).1
  rw [h, List.getElem?_take_of_lt hj] at hx
  exact hx
theorem same_of {α : Type} {c d : List α} (h : c.length = d.length) (h' : c = d.take c.length) : c = d := by
  rw [h, List.take_length] at h'; exact h'
theorem vo_eq {x v : Vo} (h : x.n = v.n) (h' : x.c = v.c) : x = v := by cases x; cases v; simp_all
theorem many_yes {l : List Vo} {i : Nat} {v : Vo} {c : List It} (hv : l[i]? = some v) (h : v.c = c) (hl : l.length ≤ LIM) : IntKind.i64.wrap ((many (l.take i) c : Int) + 1) = (many (l.take (i + 1)) c : Int) := by
  have h1 : many (l.take (i + 1)) c = many (l.take i) c + 1 := by
    unfold many
    rw [List.take_add_one, hv, List.countP_append]
    simp [h]
  have h2 : many (l.take i) c ≤ l.length := by
    unfold many
    refine Nat.le_trans (List.countP_le_length) ?_
    simp only [List.length_take]; omega
  rw [h1, wrap64] <;> (simp only [LIM] at hl; omega)
theorem many_no {l : List Vo} {i : Nat} {v : Vo} {c : List It} (hv : l[i]? = some v) (h : ¬ v.c = c) : (many (l.take i) c : Int) = (many (l.take (i + 1)) c : Int) := by
  unfold many
  rw [List.take_add_one, hv, List.countP_append]
  simp [h]
attribute [local irreducible] Valid ValidM
set_option maxHeartbeats 4000000 in
set_option maxRecDepth 100000 in
theorem v_spec_l1In : Valid Try.prog n_spec_l1In S_spec_l1In := by
  refine valid_of_swp mixed is_spec_l1In (by rintro _ ⟨a, rfl, _⟩; exact Nat.le_of_ble_eq_true rfl) ?_
  rintro _ rm ⟨⟨c, d⟩, rfl, hpre⟩ hl
  try dsimp only at hpre
  have hpre0 := hpre
  obtain ⟨hp1, hp2⟩ := hpre
  repeat' ((conv => whnf); first
    | refine ⟨_, rfl, ?_⟩
    | refine ⟨rfl, ?_⟩
    | refine ⟨_, _, rfl, at_map (by assumption), ?_⟩
    | refine idx_mapX (i := 0) rfl (by assumption) ?_
    | refine idx_map (by omega) (fun x hx => ?_)
    | refine idx_mapX (wrap_dn (by omega) (by omega)) (by assumption) ?_
    | refine idx_mapE (wrap_dn (by omega) (by omega)) (by omega) (fun x hx => ?_)
    | refine idx_mapL (by omega) (by first | assumption | (simp only [LIM]; omega)) (fun x hx => ?_)
    | refine idx_mapI (by omega) (by first | omega | (simp only [List.length_map] at *; omega)) (fun x hx => ?_)
    | refine ⟨_, ldc_cells hupd_at (Nat.le_of_ble_eq_true rfl), ?_⟩
    | refine ⟨_, ldc_cells (by first | assumption | exact zk ‹_› (by omega) | exact zk (zk ‹_› (by omega)) (by omega)) (Nat.le_of_ble_eq_true rfl), ?_⟩
    | (refine ⟨fun hc => ?_, fun hc => ?_⟩ <;> (try simp (disch := omega) only [List.length_map, wrap64] at hc))
    | exact ⟨⟨_, rfl, rfl, (c, d), rfl, (by refine congrArg B (Eq.symm (tb_pos ?_)); (try dsimp only); first | done | exact absurd True.intro hj | ((intro h; have := congrArg List.length h; simp only [List.length_take] at this; omega)))⟩, (by first | exact Nat.le_refl _ | omega), (by exact h0_)⟩
    | exact ⟨⟨_, rfl, rfl, (c, d), rfl, (by refine congrArg B (Eq.symm (tb_neg ?_)); (try dsimp only); first | done | exact absurd True.intro hj | ((intro h; have := congrArg List.length h; simp only [List.length_take] at this; omega)))⟩, (by first | exact Nat.le_refl _ | omega), (by exact h0_)⟩
    | fail)
  conv => whnf
  refine ⟨fun fr H nx rm' => ∃ (i : Nat), Has fr [(0, one (chF c)), (1, one (chF d)), (5, I i)] ∧ i ≤ c.length ∧ (∀ j x, j < i → c[j]? = some x → d[j]? = some x) ∧ 1 ≤ nx ∧ H 0 = none ∧ rm' = rm,
    fun fr _ _ _ => c.length - ix (fr 5), ⟨0, ⟨(by first | rfl | (show I _ = I _; simp)), (by first | rfl | (show I _ = I _; simp)), (by first | rfl | (show I _ = I _; simp)), trivial⟩, Nat.zero_le _, (by first | trivial | rfl | (intros; omega) | simp), (by first | decide | omega), (by exact h0_), rfl⟩, ?_⟩
  rintro fr H nx rm' ⟨i, hfr, hi, hq, hnx, hH, rfl⟩
  rw [hfr.eq]
  repeat' ((conv => whnf); first
    | refine ⟨_, rfl, ?_⟩
    | refine ⟨rfl, ?_⟩
    | refine ⟨_, _, rfl, at_map (by assumption), ?_⟩
    | refine idx_mapX (i := 0) rfl (by assumption) ?_
    | refine idx_map (by omega) (fun x hx => ?_)
    | refine idx_mapX (wrap_dn (by omega) (by omega)) (by assumption) ?_
    | refine idx_mapE (wrap_dn (by omega) (by omega)) (by omega) (fun x hx => ?_)
    | refine idx_mapL (by omega) (by first | assumption | (simp only [LIM]; omega)) (fun x hx => ?_)
    | refine idx_mapI (by omega) (by first | omega | (simp only [List.length_map] at *; omega)) (fun x hx => ?_)
    | refine ⟨_, ldc_cells hupd_at (Nat.le_of_ble_eq_true rfl), ?_⟩
    | refine ⟨_, ldc_cells (by first | assumption | exact zk ‹_› (by omega) | exact zk (zk ‹_› (by omega)) (by omega)) (Nat.le_of_ble_eq_true rfl), ?_⟩
    | (refine ⟨fun hc => ?_, fun hc => ?_⟩ <;> (try simp (disch := omega) only [List.length_map, wrap64] at hc))
    | (refine ⟨eqI, (by assumption), fun r hr => ?_⟩; rcases J_neq (x := ⟨_, ⟨_, _, _⟩⟩) (y := ⟨_, ⟨_, _, _⟩⟩) hr with ⟨hj, rfl⟩ | ⟨hj, rfl⟩ <;> clear hr <;> (try simp only [etaPa, etaIt, etaVo] at hj))
    | (refine ⟨⟨i + 1, ⟨rfl, rfl, congrArg I (wrap_up (n := c.length) (by omega) (hp1)), trivial⟩, (by omega), (by grind), (by omega), (by exact h0_), rfl⟩, ?_⟩; show c.length - ix (I _) < c.length - ix (I _); simp only [wrap_up (n := c.length) (i := i) (by omega) (hp1), ix, Int.toNat_natCast]; omega)
    | exact ⟨⟨_, rfl, rfl, (c, d), rfl, (by refine congrArg B (Eq.symm (tb_pos ?_)); (try dsimp only); first | done | exact absurd True.intro hj | (first | (exact pre_eq (by grind)) | (intro h; have := @pre_at _ _ _ h; grind)))⟩, (by first | exact Nat.le_refl _ | omega), (by exact h0_)⟩
    | exact ⟨⟨_, rfl, rfl, (c, d), rfl, (by refine congrArg B (Eq.symm (tb_neg ?_)); (try dsimp only); first | done | exact absurd True.intro hj | (first | (exact pre_eq (by grind)) | (intro h; have := @pre_at _ _ _ h; grind)))⟩, (by first | exact Nat.le_refl _ | omega), (by exact h0_)⟩
    | fail)
set_option maxHeartbeats 4000000 in
set_option maxRecDepth 100000 in
theorem v_spec_l3Same : Valid Try.prog n_spec_l3Same S_spec_l3Same := by
  refine valid_of_swp mixed is_spec_l3Same (by rintro _ ⟨a, rfl, _⟩; exact Nat.le_of_ble_eq_true rfl) ?_
  rintro _ rm ⟨⟨c, d⟩, rfl, hpre⟩ hl
  try dsimp only at hpre
  have hpre0 := hpre
  obtain ⟨hp1, hp2⟩ := hpre
  repeat' ((conv => whnf); first
    | refine ⟨_, rfl, ?_⟩
    | refine ⟨rfl, ?_⟩
    | (refine ⟨fun hc => ?_, fun hc => ?_⟩ <;> (try simp (disch := omega) only [List.length_map, wrap64] at hc))
    | (refine callt (b := [one (chF _), one (chF _)]) v_spec_l1In rfl ⟨(_, _), rfl, (by refine ⟨?_, ?_⟩ <;> (exact pr_))⟩ (.inl rfl) (by first | assumption | omega) (fun r hr => K_spec_l1In (a := (_, _)) hr) (fun hj => ?_) (fun hj => ?_) <;> (try simp only [etaPa, etaIt, etaVo] at hj))
    | exact ⟨⟨_, rfl, rfl, (c, d), rfl, (by refine congrArg B (Eq.symm (tb_pos ?_)); (try dsimp only); first | done | exact absurd True.intro hj | (first | (exact same_of (by omega) (by assumption)) | (rintro rfl; first | omega | (simp at hj))))⟩, (by first | exact Nat.le_refl _ | omega), (by exact h0_)⟩
    | exact ⟨⟨_, rfl, rfl, (c, d), rfl, (by refine congrArg B (Eq.symm (tb_neg ?_)); (try dsimp only); first | done | exact absurd True.intro hj | (first | (exact same_of (by omega) (by assumption)) | (rintro rfl; first | omega | (simp at hj))))⟩, (by first | exact Nat.le_refl _ | omega), (by exact h0_)⟩
    | fail)
set_option maxHeartbeats 4000000 in
set_option maxRecDepth 100000 in
theorem v_spec_l3Has : Valid Try.prog n_spec_l3Has S_spec_l3Has := by
  refine valid_of_swp mixed is_spec_l3Has (by rintro _ ⟨a, rfl, _⟩; exact Nat.le_of_ble_eq_true rfl) ?_
  rintro _ rm ⟨⟨l, v⟩, rfl, hpre⟩ hl
  try dsimp only at hpre
  have hpre0 := hpre
  obtain ⟨hp1, hp2⟩ := hpre
  conv => whnf
  refine ⟨fun fr H nx rm' => ∃ (i : Nat), Has fr [(0, one (vsF l)), (3, .w (.o (.ptr 1 0))), (5, I i)] ∧ i ≤ l.length ∧ (∀ j x, j < i → l[j]? = some x → x ≠ v) ∧ H 1 = some (.cells ((voF v).map AC.c)) ∧ 1 ≤ nx ∧ H 0 = none ∧ rm' = rm,
    fun fr _ _ _ => l.length - ix (fr 5), ⟨0, ⟨(by first | rfl | (show I _ = I _; simp)), (by first | rfl | (show I _ = I _; simp)), (by first | rfl | (show I _ = I _; simp)), trivial⟩, Nat.zero_le _, (by first | trivial | rfl | (intros; omega) | simp), rfl, (by first | decide | omega), (by exact h0_), rfl⟩, ?_⟩
  rintro fr H nx rm' ⟨i, hfr, hi, hq, hH1, hnx, hH, rfl⟩
  rw [hfr.eq]
  repeat' ((conv => whnf); first
    | refine ⟨_, rfl, ?_⟩
    | refine ⟨rfl, ?_⟩
    | refine ⟨_, _, rfl, at_map (by assumption), ?_⟩
    | refine idx_mapX (i := 0) rfl (by assumption) ?_
    | refine idx_map (by omega) (fun x hx => ?_)
    | refine idx_mapX (wrap_dn (by omega) (by omega)) (by assumption) ?_
    | refine idx_mapE (wrap_dn (by omega) (by omega)) (by omega) (fun x hx => ?_)
    | refine idx_mapL (by omega) (by first | assumption | (simp only [LIM]; omega)) (fun x hx => ?_)
    | refine idx_mapI (by omega) (by first | omega | (simp only [List.length_map] at *; omega)) (fun x hx => ?_)
    | refine ⟨_, ldc_cells hupd_at (Nat.le_of_ble_eq_true rfl), ?_⟩
    | refine ⟨_, ldc_cells (by first | assumption | exact zk ‹_› (by omega) | exact zk (zk ‹_› (by omega)) (by omega)) (Nat.le_of_ble_eq_true rfl), ?_⟩
    | (refine ⟨fun hc => ?_, fun hc => ?_⟩ <;> (try simp (disch := omega) only [List.length_map, wrap64] at hc))
    | (refine callt (b := [one (chF _), one (chF _)]) v_spec_l3Same rfl ⟨(_, _), rfl, (by refine ⟨?_, ?_⟩ <;> (exact pr_))⟩ (.inl rfl) (by first | assumption | omega) (fun r hr => K_spec_l3Same (a := (_, _)) hr) (fun hj => ?_) (fun hj => ?_) <;> (try simp only [etaPa, etaIt, etaVo] at hj))
    | (refine ⟨⟨i + 1, ⟨rfl, rfl, congrArg I (wrap_up (n := l.length) (by omega) (hp1.1)), trivial⟩, (by omega), (by grind), (by first | assumption | exact zk ‹_› (by omega)), (by omega), (by exact h0_), rfl⟩, ?_⟩; show l.length - ix (I _) < l.length - ix (I _); simp only [wrap_up (n := l.length) (i := i) (by omega) (hp1.1), ix, Int.toNat_natCast]; omega)
    | exact ⟨⟨_, rfl, rfl, (l, v), rfl, (by refine congrArg B (Eq.symm (tb_pos ?_)); (try dsimp only); first | done | exact absurd True.intro hj | (first | grind [List.mem_iff_getElem?] | (have := vo_eq hc hj; grind [List.mem_iff_getElem?])))⟩, (by first | exact Nat.le_refl _ | omega), (by exact h0_)⟩
    | exact ⟨⟨_, rfl, rfl, (l, v), rfl, (by refine congrArg B (Eq.symm (tb_neg ?_)); (try dsimp only); first | done | exact absurd True.intro hj | (first | grind [List.mem_iff_getElem?] | (have := vo_eq hc hj; grind [List.mem_iff_getElem?])))⟩, (by first | exact Nat.le_refl _ | omega), (by exact h0_)⟩
    | fail)
set_option maxHeartbeats 4000000 in
set_option maxRecDepth 100000 in
theorem v_spec_l3Vote : Valid Try.prog n_spec_l3Vote S_spec_l3Vote := by
  refine valid_of_swp mixed is_spec_l3Vote (by rintro _ ⟨a, rfl, _⟩; exact Nat.le_of_ble_eq_true rfl) ?_
  rintro _ rm ⟨v, rfl, hpre⟩ hl
  try dsimp only at hpre
  have hpre0 := hpre
  have hp1 := hpre
  repeat' ((conv => whnf); first
    | refine ⟨_, rfl, ?_⟩
    | refine ⟨rfl, ?_⟩
    | refine ⟨_, ldc_cells hupd_at (Nat.le_of_ble_eq_true rfl), ?_⟩
    | refine ⟨_, ldc_cells (by first | assumption | exact zk ‹_› (by omega) | exact zk (zk ‹_› (by omega)) (by omega)) (Nat.le_of_ble_eq_true rfl), ?_⟩
    | (refine ⟨fun hc => ?_, fun hc => ?_⟩ <;> (try simp (disch := omega) only [List.length_map, wrap64] at hc))
    | (refine callt (b := [I _, I _, I _]) v_spec_l6In rfl ⟨(_, _, _), rfl, (by exact True.intro)⟩ (.inl rfl) (by first | assumption | omega) (fun r hr => K_spec_l6In (a := (_, _, _)) hr) (fun hj => ?_) (fun hj => ?_) <;> (try simp only [etaPa, etaIt, etaVo] at hj))
    | (refine callt (b := [one (chF _)]) v_spec_ChainOk rfl ⟨_, rfl, (by exact pr_)⟩ (.inl rfl) (by first | assumption | omega) (fun r hr => K_spec_ChainOk (a := _) hr) (fun hj => ?_) (fun hj => ?_) <;> (try simp only [etaPa, etaIt, etaVo] at hj))
    | exact ⟨⟨_, rfl, rfl, v, rfl, (by refine congrArg B (Eq.symm (tb_pos ?_)); (try dsimp only); first | done | exact absurd True.intro hj | ((unfold VoteOk; first | (refine ⟨by assumption, ?_, by assumption⟩; rintro h; simp [h] at hc) | (rintro ⟨h1, h2, h3⟩; first | contradiction | (apply h2; apply List.eq_nil_of_length_eq_zero; omega)))))⟩, (by first | exact Nat.le_refl _ | omega), (by exact h0_)⟩
    | exact ⟨⟨_, rfl, rfl, v, rfl, (by refine congrArg B (Eq.symm (tb_neg ?_)); (try dsimp only); first | done | exact absurd True.intro hj | ((unfold VoteOk; first | (refine ⟨by assumption, ?_, by assumption⟩; rintro h; simp [h] at hc) | (rintro ⟨h1, h2, h3⟩; first | contradiction | (apply h2; apply List.eq_nil_of_length_eq_zero; omega)))))⟩, (by first | exact Nat.le_refl _ | omega), (by exact h0_)⟩
    | fail)
set_option maxHeartbeats 4000000 in
set_option maxRecDepth 100000 in
theorem v_spec_VotesOk : Valid Try.prog n_spec_VotesOk S_spec_VotesOk := by
  refine valid_of_swp mixed is_spec_VotesOk (by rintro _ ⟨a, rfl, _⟩; exact Nat.le_of_ble_eq_true rfl) ?_
  rintro _ rm ⟨l, rfl, hpre⟩ hl
  try dsimp only at hpre
  have hpre0 := hpre
  have hp1 := hpre
  conv => whnf
  refine ⟨fun fr H nx rm' => ∃ (i : Nat), Has fr [(0, one (vsF l)), (3, I i)] ∧ i ≤ l.length ∧ (∀ j v, j < i → l[j]? = some v → VoteOk v ∧ v ∉ l.take j) ∧ 1 ≤ nx ∧ H 0 = none ∧ rm' = rm,
    fun fr _ _ _ => l.length - ix (fr 3), ⟨0, ⟨(by first | rfl | (show I _ = I _; simp)), (by first | rfl | (show I _ = I _; simp)), trivial⟩, Nat.zero_le _, (by first | trivial | rfl | (intros; omega) | simp), (by first | decide | omega), (by exact h0_), rfl⟩, ?_⟩
  rintro fr H nx rm' ⟨i, hfr, hi, hq, hnx, hH, rfl⟩
  rw [hfr.eq]
  repeat' ((conv => whnf); first
    | refine ⟨_, rfl, ?_⟩
    | refine ⟨rfl, ?_⟩
    | refine ⟨_, _, rfl, at_map (by assumption), ?_⟩
    | refine idx_mapX (i := 0) rfl (by assumption) ?_
    | refine idx_map (by omega) (fun x hx => ?_)
    | refine idx_mapX (wrap_dn (by omega) (by omega)) (by assumption) ?_
    | refine idx_mapE (wrap_dn (by omega) (by omega)) (by omega) (fun x hx => ?_)
    | refine idx_mapL (by omega) (by first | assumption | (simp only [LIM]; omega)) (fun x hx => ?_)
    | refine idx_mapI (by omega) (by first | omega | (simp only [List.length_map] at *; omega)) (fun x hx => ?_)
    | refine ⟨_, ldc_cells hupd_at (Nat.le_of_ble_eq_true rfl), ?_⟩
    | refine ⟨_, ldc_cells (by first | assumption | exact zk ‹_› (by omega) | exact zk (zk ‹_› (by omega)) (by omega)) (Nat.le_of_ble_eq_true rfl), ?_⟩
    | (refine ⟨fun hc => ?_, fun hc => ?_⟩ <;> (try simp (disch := omega) only [List.length_map, wrap64] at hc))
    | (refine ⟨_, slc_to rfl (by first | omega | (simp only [List.length_map] at *; omega)), ?_⟩; rw [map_take'])
    | (refine ⟨_, slc_toI rfl (by omega) (by first | omega | (simp only [List.length_map] at *; omega)), ?_⟩; rw [map_take'])
    | (refine callt (b := [agg (voF ⟨_, _⟩)]) v_spec_l3Vote rfl ⟨⟨_, _⟩, rfl, (by exact pr_)⟩ (.inl rfl) (by first | assumption | omega) (fun r hr => K_spec_l3Vote (a := ⟨_, _⟩) hr) (fun hj => ?_) (fun hj => ?_) <;> (try simp only [etaPa, etaIt, etaVo] at hj))
    | (refine callt (b := [one (vsF _), agg (voF ⟨_, _⟩)]) v_spec_l3Has rfl ⟨(_, ⟨_, _⟩), rfl, (by refine ⟨?_, ?_⟩ <;> (exact pr_))⟩ (.inl rfl) (by first | assumption | omega) (fun r hr => K_spec_l3Has (a := (_, ⟨_, _⟩)) hr) (fun hj => ?_) (fun hj => ?_) <;> (try simp only [etaPa, etaIt, etaVo] at hj))
    | (refine ⟨⟨i + 1, ⟨rfl, congrArg I (wrap_up (n := l.length) (by omega) (hp1.1)), trivial⟩, (by omega), (by grind), (by omega), (by exact h0_), rfl⟩, ?_⟩; show l.length - ix (I _) < l.length - ix (I _); simp only [wrap_up (n := l.length) (i := i) (by omega) (hp1.1), ix, Int.toNat_natCast]; omega)
    | exact ⟨⟨_, rfl, rfl, l, rfl, (by refine congrArg B (Eq.symm (tb_pos ?_)); (try dsimp only); first | done | exact absurd True.intro hj | (grind [VotesOk]))⟩, (by first | exact Nat.le_refl _ | omega), (by exact h0_)⟩
    | exact ⟨⟨_, rfl, rfl, l, rfl, (by refine congrArg B (Eq.symm (tb_neg ?_)); (try dsimp only); first | done | exact absurd True.intro hj | (grind [VotesOk]))⟩, (by first | exact Nat.le_refl _ | omega), (by exact h0_)⟩
    | fail)
set_option maxHeartbeats 4000000 in
set_option maxRecDepth 100000 in
theorem v_spec_l3Many : Valid Try.prog n_spec_l3Many S_spec_l3Many := by
  refine valid_of_swp mixed is_spec_l3Many (by rintro _ ⟨a, rfl, _⟩; exact Nat.le_of_ble_eq_true rfl) ?_
  rintro _ rm ⟨⟨l, c⟩, rfl, hpre⟩ hl
  try dsimp only at hpre
  have hpre0 := hpre
  obtain ⟨hp1, hp2⟩ := hpre
  conv => whnf
  refine ⟨fun fr H nx rm' => ∃ (i : Nat), Has fr [(0, one (vsF l)), (1, one (chF c)), (5, I (many (l.take i) c)), (6, I i)] ∧ i ≤ l.length ∧ (True) ∧ 1 ≤ nx ∧ H 0 = none ∧ rm' = rm,
    fun fr _ _ _ => l.length - ix (fr 6), ⟨0, ⟨(by first | rfl | (show I _ = I _; simp)), (by first | rfl | (show I _ = I _; simp)), (by first | rfl | (show I _ = I _; simp)), (by first | rfl | (show I _ = I _; simp)), trivial⟩, Nat.zero_le _, (by first | trivial | rfl | (intros; omega) | simp), (by first | decide | omega), (by exact h0_), rfl⟩, ?_⟩
  rintro fr H nx rm' ⟨i, hfr, hi, hq, hnx, hH, rfl⟩
  rw [hfr.eq]
  repeat' ((conv => whnf); first
    | refine ⟨_, rfl, ?_⟩
    | refine ⟨rfl, ?_⟩
    | refine ⟨_, _, rfl, at_map (by assumption), ?_⟩
    | refine idx_mapX (i := 0) rfl (by assumption) ?_
    | refine idx_map (by omega) (fun x hx => ?_)
    | refine idx_mapX (wrap_dn (by omega) (by omega)) (by assumption) ?_
    | refine idx_mapE (wrap_dn (by omega) (by omega)) (by omega) (fun x hx => ?_)
    | refine idx_mapL (by omega) (by first | assumption | (simp only [LIM]; omega)) (fun x hx => ?_)
    | refine idx_mapI (by omega) (by first | omega | (simp only [List.length_map] at *; omega)) (fun x hx => ?_)
    | refine ⟨_, ldc_cells hupd_at (Nat.le_of_ble_eq_true rfl), ?_⟩
    | refine ⟨_, ldc_cells (by first | assumption | exact zk ‹_› (by omega) | exact zk (zk ‹_› (by omega)) (by omega)) (Nat.le_of_ble_eq_true rfl), ?_⟩
    | (refine ⟨fun hc => ?_, fun hc => ?_⟩ <;> (try simp (disch := omega) only [List.length_map, wrap64] at hc))
    | (refine callt (b := [one (chF _), one (chF _)]) v_spec_l3Same rfl ⟨(_, _), rfl, (by refine ⟨?_, ?_⟩ <;> (exact pr_))⟩ (.inl rfl) (by first | assumption | omega) (fun r hr => K_spec_l3Same (a := (_, _)) hr) (fun hj => ?_) (fun hj => ?_) <;> (try simp only [etaPa, etaIt, etaVo] at hj))
    | (refine ⟨⟨i + 1, ⟨rfl, rfl, (by first | exact congrArg I (many_yes ‹_› ‹_› hp1.1) | exact congrArg I (many_no ‹_› ‹_›)), congrArg I (wrap_up (n := l.length) (by omega) (hp1.1)), trivial⟩, (by omega), (by trivial), (by omega), (by exact h0_), rfl⟩, ?_⟩; show l.length - ix (I _) < l.length - ix (I _); simp only [wrap_up (n := l.length) (i := i) (by omega) (hp1.1), ix, Int.toNat_natCast]; omega)
    | exact ⟨⟨_, rfl, rfl, (l, c), rfl, rfl⟩, (by first | exact Nat.le_refl _ | omega), (by exact h0_)⟩
    | exact ⟨⟨_, rfl, rfl, (l, c), rfl, (by refine congrArg I (?_ : (_ : Int) = _); (try dsimp only); first | done | exact absurd True.intro hj | ((rw [List.take_of_length_le (by omega)])))⟩, (by first | exact Nat.le_refl _ | omega), (by exact h0_)⟩
    | fail)
set_option maxHeartbeats 4000000 in
set_option maxRecDepth 100000 in
theorem v_spec_l11Sure : Valid Try.prog n_spec_l11Sure S_spec_l11Sure := by
  refine valid_of_swp mixed is_spec_l11Sure (by rintro _ ⟨a, rfl, _⟩; exact Nat.le_of_ble_eq_true rfl) ?_
  rintro _ rm ⟨⟨l, c⟩, rfl, hpre⟩ hl
  try dsimp only at hpre
  have hpre0 := hpre
  obtain ⟨hp1, hp2⟩ := hpre
  conv => whnf
  refine ⟨fun fr H nx rm' => ∃ (i : Nat), Has fr [(0, one (vsF l)), (1, one (chF c)), (5, I ((i + 1 : Nat) : Int))] ∧ i ≤ c.length ∧ (∀ n, 1 ≤ n → n ≤ i → 3 ≤ many l (c.take n)) ∧ 1 ≤ nx ∧ H 0 = none ∧ rm' = rm,
    fun fr _ _ _ => c.length + 1 - ix (fr 5), ⟨0, ⟨(by first | rfl | (show I _ = I _; simp)), (by first | rfl | (show I _ = I _; simp)), (by first | rfl | (show I _ = I _; simp)), trivial⟩, Nat.zero_le _, (by first | trivial | rfl | (intros; omega) | simp), (by first | decide | omega), (by exact h0_), rfl⟩, ?_⟩
  rintro fr H nx rm' ⟨i, hfr, hi, hq, hnx, hH, rfl⟩
  rw [hfr.eq]
  repeat' ((conv => whnf); first
    | refine ⟨_, rfl, ?_⟩
    | refine ⟨rfl, ?_⟩
    | (refine ⟨fun hc => ?_, fun hc => ?_⟩ <;> (try simp (disch := omega) only [List.length_map, wrap64] at hc))
    | (refine ⟨_, slc_to rfl (by first | omega | (simp only [List.length_map] at *; omega)), ?_⟩; rw [map_take'])
    | (refine ⟨_, slc_toI rfl (by omega) (by first | omega | (simp only [List.length_map] at *; omega)), ?_⟩; rw [map_take'])
    | (refine calle (b := [one (vsF _), one (chF _)]) v_spec_l3Many rfl ⟨(_, _), rfl, (by refine ⟨?_, ?_⟩ <;> (exact pr_))⟩ (.inl rfl) (by first | assumption | omega) (fun r hr => K_spec_l3Many (a := (_, _)) hr) ?_)
    | (refine ⟨⟨i + 1, ⟨rfl, rfl, congrArg I (wrap_up1 (n := c.length) (by omega) (hp2)), trivial⟩, (by omega), (by intro n h1 h2; by_cases h : n ≤ i; (exact hq n h1 h); have e : n = i + 1 := (by omega); subst e; omega), (by omega), (by exact h0_), rfl⟩, ?_⟩; show c.length + 1 - ix (I _) < c.length + 1 - ix (I _); simp only [wrap_up1 (n := c.length) (i := i) (by omega) (hp2), ix, Int.toNat_natCast]; omega)
    | exact ⟨⟨_, rfl, rfl, (l, c), rfl, (by refine congrArg B (Eq.symm (tb_pos ?_)); (try dsimp only); first | done | exact absurd True.intro hj | (first | (intro n h1 h2; exact hq n h1 (by omega)) | (intro h; have := h (i + 1) (by omega) (by omega); omega)))⟩, (by first | exact Nat.le_refl _ | omega), (by exact h0_)⟩
    | exact ⟨⟨_, rfl, rfl, (l, c), rfl, (by refine congrArg B (Eq.symm (tb_neg ?_)); (try dsimp only); first | done | exact absurd True.intro hj | (first | (intro n h1 h2; exact hq n h1 (by omega)) | (intro h; have := h (i + 1) (by omega) (by omega); omega)))⟩, (by first | exact Nat.le_refl _ | omega), (by exact h0_)⟩
    | fail)
end Av
end Go.Proofs.Ytdboofnogabefaa
