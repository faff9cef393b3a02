/- The walks: worlds compared, marked, read. -/
import Derived.Test.YtfijfccgghhkoaaHB
import Derived.Test.YtfijfccgghhkoaaJ43
import Derived.Test.YtfijfccgghhkoaaG3
set_option linter.unusedVariables false
set_option linter.unusedSimpArgs false
namespace Go.Proofs.Ytfijfccgghhkoaa
namespace Av
open Go.RowKit
theorem set_row {xs : List (List AC)} {i : Nat} {x y : List AC} (h : xs[i]? = some y) : (xs.set i x)[i]? = some x := by
  have hi := (List.getElem?_eq_some_iff.1 h).1
  rw [List.getElem?_set, if_pos rfl, if_pos hi]
theorem mark_rows {i : Nat} (hi : i < 4) {a b c : Int} (ha : a = ((3 * i + 1 : Nat) : Int)) (hb : b = ((3 * i + 2 : Nat) : Int)) (hc : c = ((3 * i + 3 : Nat) : Int)) :
    (((arA ndF (mp i)).set i (put ((ndF (nd0 i)).map AC.c) 0 [cI a])).set i (put (put ((ndF (nd0 i)).map AC.c) 0 [cI a]) 1 [cI b])).set i (put (put (put ((ndF (nd0 i)).map AC.c) 0 [cI a]) 1 [cI b]) 2 [cI c]) = arA ndF (mp (i + 1)) := by
  subst ha hb hc
  match i, hi with
  | 0, _ => rfl
  | 1, _ => rfl
  | 2, _ => rfl
  | 3, _ => rfl
attribute [local irreducible] Valid ValidM
set_option maxHeartbeats 4000000 in
set_option maxRecDepth 100000 in
theorem v_laws_eqNode : Valid Try.prog n_laws_eqNode S_laws_eqNode := by
  refine valid_of_swp mixed is_laws_eqNode (by rintro _ ⟨a, rfl, _⟩; exact Nat.le_of_ble_eq_true rfl) ?_
  rintro _ rm ⟨⟨n, m⟩, rfl, hpre⟩ hl
  try dsimp only at hpre
  have hpre0 := hpre
  obtain ⟨hp1, hp2⟩ := hpre
  repeat' ((conv => whnf); first
    | refine ⟨_, rfl, ?_⟩
    | refine ⟨rfl, ?_⟩
    | refine ⟨_, ldc_cells hupd_at (Nat.le_of_ble_eq_true rfl), ?_⟩
    | refine ⟨_, ldc_cells (by first | assumption | exact zk ‹_› (by omega) | exact zk (zk ‹_› (by omega)) (by omega)) (Nat.le_of_ble_eq_true rfl), ?_⟩
    | (refine ⟨fun hc => ?_, fun hc => ?_⟩ <;> (try simp (disch := omega) only [List.length_map, wrap64] at hc))
    | (refine callt (b := [one (vsF _), one (vsF _)]) v_laws_eqVoteS rfl ⟨(_, _), rfl, (by refine ⟨?_, ?_⟩ <;> (exact pr_))⟩ (.inl rfl) (by first | assumption | omega) (fun r hr => K_laws_eqVoteS (a := (_, _)) hr) (fun hj => ?_) (fun hj => ?_) <;> (try simp only [etaPa, etaIt, etaVo] at hj))
    | exact ⟨⟨_, rfl, rfl, (n, m), rfl, (by refine congrArg B (Eq.symm (tb_pos ?_)); (try dsimp only); first | done | exact absurd True.intro hj | (first | (cases n; cases m; simp_all)))⟩, (by first | exact Nat.le_refl _ | omega), (by exact h0_)⟩
    | exact ⟨⟨_, rfl, rfl, (n, m), rfl, (by refine congrArg B (Eq.symm (tb_neg ?_)); (try dsimp only); first | done | exact absurd True.intro hj | (first | (cases n; cases m; simp_all)))⟩, (by first | exact Nat.le_refl _ | omega), (by exact h0_)⟩
    | fail)
set_option maxHeartbeats 4000000 in
set_option maxRecDepth 100000 in
theorem v_laws_eqNodeS : Valid Try.prog n_laws_eqNodeS S_laws_eqNodeS := by
  refine valid_of_swp mixed is_laws_eqNodeS (by rintro _ ⟨a, rfl, _⟩; exact Nat.le_of_ble_eq_true rfl) ?_
  rintro _ rm ⟨⟨ns, ms⟩, rfl, hpre⟩ hl
  try dsimp only at hpre
  have hpre0 := hpre
  obtain ⟨hp1, hp2⟩ := hpre
  repeat' ((conv => whnf); first
    | refine ⟨_, rfl, ?_⟩
    | refine ⟨rfl, ?_⟩
    | refine ⟨_, _, rfl, at_map (by assumption), ?_⟩
    | refine idx_mapX (i := 0) rfl (by assumption) ?_
    | refine idx_map (by omega) (fun x hx => ?_)
    | refine idx_mapX (wrap_dn (by omega) (by omega)) (by assumption) ?_
    | refine idx_mapE (wrap_dn (by omega) (by omega)) (by omega) (fun x hx => ?_)
    | refine idx_mapL (by omega) (by first | assumption | (simp only [LIM]; omega)) (fun x hx => ?_)
    | refine idx_mapI (by omega) (by first | omega | (simp only [List.length_map] at *; omega)) (fun x hx => ?_)
    | refine ⟨_, ldc_cells hupd_at (Nat.le_of_ble_eq_true rfl), ?_⟩
    | refine ⟨_, ldc_cells (by first | assumption | exact zk ‹_› (by omega) | exact zk (zk ‹_› (by omega)) (by omega)) (Nat.le_of_ble_eq_true rfl), ?_⟩
    | (refine ⟨fun hc => ?_, fun hc => ?_⟩ <;> (try simp (disch := omega) only [List.length_map, wrap64] at hc))
    | exact ⟨⟨_, rfl, rfl, (ns, ms), rfl, (by refine congrArg B (Eq.symm (tb_pos ?_)); (try dsimp only); first | done | exact absurd True.intro hj | ((rintro rfl; simp at hc)))⟩, (by first | exact Nat.le_refl _ | omega), (by exact h0_)⟩
    | exact ⟨⟨_, rfl, rfl, (ns, ms), rfl, (by refine congrArg B (Eq.symm (tb_neg ?_)); (try dsimp only); first | done | exact absurd True.intro hj | ((rintro rfl; simp at hc)))⟩, (by first | exact Nat.le_refl _ | omega), (by exact h0_)⟩
    | fail)
  conv => whnf
  refine ⟨fun fr H nx rm' => ∃ (i : Nat), Has fr [(0, one (ndsF ns)), (1, one (ndsF ms)), (5, I i)] ∧ i ≤ ns.length ∧ (∀ j x, j < i → ns[j]? = some x → ms[j]? = some x) ∧ 1 ≤ nx ∧ H 0 = none ∧ rm' = rm,
    fun fr _ _ _ => ns.length - ix (fr 5), ⟨0, ⟨(by first | rfl | (show I _ = I _; simp)), (by first | rfl | (show I _ = I _; simp)), (by first | rfl | (show I _ = I _; simp)), trivial⟩, Nat.zero_le _, (by first | trivial | rfl | (intros; omega) | simp), (by first | decide | omega), (by exact h0_), rfl⟩, ?_⟩
  rintro fr H nx rm' ⟨i, hfr, hi, hq, hnx, hH, rfl⟩
  rw [hfr.eq]
  rcases Nat.lt_or_ge i ns.length with hi' | hi'
  · obtain ⟨x, hx⟩ : ∃ x, ns[i]? = some x := ⟨_, List.getElem?_eq_getElem hi'⟩
    obtain ⟨y, hy⟩ : ∃ y, ms[i]? = some y := ⟨_, List.getElem?_eq_getElem (by omega)⟩
    have hxb := hp1.at hx
    have hyb := hp2.at hy
    have hstep : x = y → ∀ j v, j < i + 1 → ns[j]? = some v → ms[j]? = some v := by
      intro hh j v hj1 hj2
      by_cases e : j < i
      · exact hq j v e hj2
      · have e : j = i := by omega
        subst e; subst hh; cases (hx.symm.trans hj2); exact hy
    repeat' ((conv => whnf); first
      | refine ⟨_, _, rfl, at_map hx, ?_⟩
      | refine ⟨_, _, rfl, at_map hy, ?_⟩
      | refine ⟨_, rfl, ?_⟩
      | refine ⟨rfl, ?_⟩
      | refine ⟨_, _, rfl, at_map (by assumption), ?_⟩
      | refine idx_mapX (i := 0) rfl (by assumption) ?_
      | refine idx_map (by omega) (fun x hx => ?_)
      | refine idx_mapX (wrap_dn (by omega) (by omega)) (by assumption) ?_
      | refine idx_mapE (wrap_dn (by omega) (by omega)) (by omega) (fun x hx => ?_)
      | refine idx_mapL (by omega) (by first | assumption | (simp only [LIM]; omega)) (fun x hx => ?_)
      | refine idx_mapI (by omega) (by first | omega | (simp only [List.length_map] at *; omega)) (fun x hx => ?_)
      | refine ⟨_, ldc_cells hupd_at (Nat.le_of_ble_eq_true rfl), ?_⟩
      | refine ⟨_, ldc_cells (by first | assumption | exact zk ‹_› (by omega) | exact zk (zk ‹_› (by omega)) (by omega)) (Nat.le_of_ble_eq_true rfl), ?_⟩
      | (refine ⟨fun hc => ?_, fun hc => ?_⟩ <;> (try simp (disch := omega) only [List.length_map, wrap64] at hc) <;> (try (exfalso; first | contradiction | omega)))
      | (refine callt (b := [agg (ndF ⟨_, _, _, _⟩), agg (ndF ⟨_, _, _, _⟩)]) v_laws_eqNode rfl ⟨(⟨_, _, _, _⟩, ⟨_, _, _, _⟩), rfl, (by refine ⟨?_, ?_⟩ <;> (exact pr_))⟩ (.inl rfl) (by first | assumption | omega) (fun r hr => K_laws_eqNode (a := (⟨_, _, _, _⟩, ⟨_, _, _, _⟩)) hr) (fun hj => ?_) (fun hj => ?_) <;> (try simp only [etaPa, etaIt, etaVo] at hj) <;> (try simp only [etaNd, etaWo] at hj) <;> (try contradiction))
      | (refine ⟨⟨i + 1, ⟨rfl, rfl, congrArg I (wrap_up (n := ns.length) (by omega) (hp1.1)), trivial⟩, (by omega), (by exact hstep hj), (by omega), (by exact h0_), rfl⟩, ?_⟩; show ns.length - ix (I _) < ns.length - ix (I _); simp only [wrap_up (n := ns.length) (i := i) (by omega) (hp1.1), ix, Int.toNat_natCast]; omega)
      | exact ⟨⟨_, rfl, rfl, (ns, ms), rfl, (by refine congrArg B (Eq.symm (tb_pos ?_)); (try dsimp only); first | done | exact absurd True.intro hj | ((rintro rfl; cases (hx.symm.trans hy); exact hj rfl)))⟩, (by first | exact Nat.le_refl _ | omega), (by exact h0_)⟩
      | exact ⟨⟨_, rfl, rfl, (ns, ms), rfl, (by refine congrArg B (Eq.symm (tb_neg ?_)); (try dsimp only); first | done | exact absurd True.intro hj | ((rintro rfl; cases (hx.symm.trans hy); exact hj rfl)))⟩, (by first | exact Nat.le_refl _ | omega), (by exact h0_)⟩
      | fail)
  · have hdone := hi'
    repeat' ((conv => whnf); first
      | refine ⟨_, rfl, ?_⟩
      | refine ⟨rfl, ?_⟩
      | refine ⟨_, _, rfl, at_map (by assumption), ?_⟩
      | refine idx_mapX (i := 0) rfl (by assumption) ?_
      | refine idx_map (by omega) (fun x hx => ?_)
      | refine idx_mapX (wrap_dn (by omega) (by omega)) (by assumption) ?_
      | refine idx_mapE (wrap_dn (by omega) (by omega)) (by omega) (fun x hx => ?_)
      | refine idx_mapL (by omega) (by first | assumption | (simp only [LIM]; omega)) (fun x hx => ?_)
      | refine idx_mapI (by omega) (by first | omega | (simp only [List.length_map] at *; omega)) (fun x hx => ?_)
      | refine ⟨_, ldc_cells hupd_at (Nat.le_of_ble_eq_true rfl), ?_⟩
      | refine ⟨_, ldc_cells (by first | assumption | exact zk ‹_› (by omega) | exact zk (zk ‹_› (by omega)) (by omega)) (Nat.le_of_ble_eq_true rfl), ?_⟩
      | (refine ⟨fun hc => ?_, fun hc => ?_⟩ <;> (try simp (disch := omega) only [List.length_map, wrap64] at hc) <;> (try (exfalso; first | contradiction | omega)))
      | (refine ⟨⟨i + 1, ⟨rfl, rfl, congrArg I (wrap_up (n := ns.length) (by omega) (hp1.1)), trivial⟩, (by omega), (by exact hstep hj), (by omega), (by exact h0_), rfl⟩, ?_⟩; show ns.length - ix (I _) < ns.length - ix (I _); simp only [wrap_up (n := ns.length) (i := i) (by omega) (hp1.1), ix, Int.toNat_natCast]; omega)
      | exact ⟨⟨_, rfl, rfl, (ns, ms), rfl, (by refine congrArg B (Eq.symm (tb_pos ?_)); (try dsimp only); first | done | exact absurd True.intro hj | ((exact ext_of (by omega) (fun j x hx => hq j x (by have := (List.getElem?_eq_some_iff.1 hx).1; omega) hx))))⟩, (by first | exact Nat.le_refl _ | omega), (by exact h0_)⟩
      | exact ⟨⟨_, rfl, rfl, (ns, ms), rfl, (by refine congrArg B (Eq.symm (tb_neg ?_)); (try dsimp only); first | done | exact absurd True.intro hj | ((exact ext_of (by omega) (fun j x hx => hq j x (by have := (List.getElem?_eq_some_iff.1 hx).1; omega) hx))))⟩, (by first | exact Nat.le_refl _ | omega), (by exact h0_)⟩
      | fail)
set_option maxHeartbeats 4000000 in
set_option maxRecDepth 100000 in
theorem v_laws_eqWorld : Valid Try.prog n_laws_eqWorld S_laws_eqWorld := by
  refine valid_of_swp mixed is_laws_eqWorld (by rintro _ ⟨a, rfl, _⟩; exact Nat.le_of_ble_eq_true rfl) ?_
  rintro _ rm ⟨⟨w, u⟩, rfl, hpre⟩ hl
  try dsimp only at hpre
  have hpre0 := hpre
  obtain ⟨hp1, hp2, hp3, hp4⟩ := hpre
  repeat' ((conv => whnf); first
    | refine ⟨_, rfl, ?_⟩
    | refine ⟨rfl, ?_⟩
    | refine ⟨_, ldc_cells hupd_at (Nat.le_of_ble_eq_true rfl), ?_⟩
    | refine ⟨_, ldc_cells (by first | assumption | exact zk ‹_› (by omega) | exact zk (zk ‹_› (by omega)) (by omega)) (Nat.le_of_ble_eq_true rfl), ?_⟩
    | (refine ⟨fun hc => ?_, fun hc => ?_⟩ <;> (try simp (disch := omega) only [List.length_map, wrap64] at hc))
    | (refine callt (b := [one (ndsF _), one (ndsF _)]) v_laws_eqNodeS rfl ⟨(_, _), rfl, (by refine ⟨?_, ?_⟩ <;> (exact pr_))⟩ (.inl rfl) (by first | assumption | omega) (fun r hr => K_laws_eqNodeS (a := (_, _)) hr) (fun hj => ?_) (fun hj => ?_) <;> (try simp only [etaPa, etaIt, etaVo] at hj))
    | (refine callt (b := [one (vsF _), one (vsF _)]) v_laws_eqVoteS rfl ⟨(_, _), rfl, (by refine ⟨?_, ?_⟩ <;> (exact pr_))⟩ (.inl rfl) (by first | assumption | omega) (fun r hr => K_laws_eqVoteS (a := (_, _)) hr) (fun hj => ?_) (fun hj => ?_) <;> (try simp only [etaPa, etaIt, etaVo] at hj))
    | exact ⟨⟨_, rfl, rfl, (w, u), rfl, (by refine congrArg B (Eq.symm (tb_pos ?_)); (try dsimp only); first | done | exact absurd True.intro hj | (first | (cases w; cases u; simp_all)))⟩, (by first | exact Nat.le_refl _ | omega), (by exact h0_)⟩
    | exact ⟨⟨_, rfl, rfl, (w, u), rfl, (by refine congrArg B (Eq.symm (tb_neg ?_)); (try dsimp only); first | done | exact absurd True.intro hj | (first | (cases w; cases u; simp_all)))⟩, (by first | exact Nat.le_refl _ | omega), (by exact h0_)⟩
    | fail)
set_option maxHeartbeats 4000000 in
set_option maxRecDepth 100000 in
theorem v_laws_markVoteS : Valid Try.prog n_laws_markVoteS S_laws_markVoteS := by
  refine valid_of_swp mixed is_laws_markVoteS (by rintro _ ⟨a, rfl, _⟩; exact Nat.le_of_ble_eq_true rfl) ?_
  rintro _ rm ⟨⟨l, k⟩, rfl, hpre⟩ hl
  try dsimp only at hpre
  have hpre0 := hpre
  have hp1 := hpre
  have hl0 : l.length ≤ LIM := by rw [hp1]; exact Nat.zero_le _
  conv => whnf
  refine ⟨fun fr H nx rm' => ∃ (i : Nat), Has fr [(0, one (vsF l)), (1, I k), (5, I i)] ∧ i ≤ l.length ∧ (True) ∧ 1 ≤ nx ∧ H 0 = none ∧ rm' = rm,
    fun fr _ _ _ => l.length - ix (fr 5), ⟨0, ⟨(by first | rfl | (show I _ = I _; simp)), (by first | rfl | (show I _ = I _; simp)), (by first | rfl | (show I _ = I _; simp)), trivial⟩, Nat.zero_le _, (by trivial), (by first | decide | omega), (by exact h0_), rfl⟩, ?_⟩
  rintro fr H nx rm' ⟨i, hfr, hi, hq, hnx, hH, rfl⟩
  rw [hfr.eq]
  rcases Nat.lt_or_ge i l.length with hi' | hi'
  · exfalso; rw [hp1] at hi'; exact absurd hi' (Nat.not_lt_zero i)
  · have hdone := hi'
    repeat' ((conv => whnf); first
      | refine ⟨_, rfl, ?_⟩
      | refine ⟨rfl, ?_⟩
      | refine ⟨_, _, rfl, at_map (by assumption), ?_⟩
      | refine idx_mapX (i := 0) rfl (by assumption) ?_
      | refine idx_map (by omega) (fun x hx => ?_)
      | refine idx_mapX (wrap_dn (by omega) (by omega)) (by assumption) ?_
      | refine idx_mapE (wrap_dn (by omega) (by omega)) (by omega) (fun x hx => ?_)
      | refine idx_mapL (by omega) (by first | assumption | (simp only [LIM]; omega)) (fun x hx => ?_)
      | refine idx_mapI (by omega) (by first | omega | (simp only [List.length_map] at *; omega)) (fun x hx => ?_)
      | refine ⟨_, ldc_cells hupd_at (Nat.le_of_ble_eq_true rfl), ?_⟩
      | refine ⟨_, ldc_cells (by first | assumption | exact zk ‹_› (by omega) | exact zk (zk ‹_› (by omega)) (by omega)) (Nat.le_of_ble_eq_true rfl), ?_⟩
      | refine ⟨_, _, hupd_at, rfl, rfl, Nat.le_of_ble_eq_true rfl, ?_⟩
      | refine ⟨_, _, rfl, rfl, rfl, Nat.le_of_ble_eq_true rfl, ?_⟩
      | (refine ⟨fun hc => ?_, fun hc => ?_⟩ <;> (try simp (disch := omega) only [List.length_map, wrap64] at hc) <;> (try (exfalso; first | contradiction | omega)))
      | (refine ⟨⟨i + 1, ⟨rfl, rfl, congrArg I (wrap_up (n := l.length) (by omega) (hl0)), trivial⟩, (by omega), (by trivial), (by omega), (by exact h0_), rfl⟩, ?_⟩; show l.length - ix (I _) < l.length - ix (I _); simp only [wrap_up (n := l.length) (i := i) (by omega) (hl0), ix, Int.toNat_natCast]; omega)
      | exact ⟨⟨_, rfl, rfl, (l, k), rfl, rfl⟩, (by first | exact Nat.le_refl _ | omega), (by exact h0_)⟩
      | exact ⟨⟨_, rfl, rfl, (l, k), rfl, (by refine congrArg I (?_ : (_ : Int) = _); (try dsimp only); first | done | exact absurd True.intro hj | (first | assumption | grind))⟩, (by first | exact Nat.le_refl _ | omega), (by exact h0_)⟩
      | fail)
set_option maxHeartbeats 4000000 in
set_option maxRecDepth 100000 in
theorem v_laws_heldVoteS : Valid Try.prog n_laws_heldVoteS S_laws_heldVoteS := by
  refine valid_of_swp mixed is_laws_heldVoteS (by rintro _ ⟨a, rfl, _⟩; exact Nat.le_of_ble_eq_true rfl) ?_
  rintro _ rm ⟨⟨l, k⟩, rfl, hpre⟩ hl
  try dsimp only at hpre
  have hpre0 := hpre
  have hp1 := hpre
  have hl0 : l.length ≤ LIM := by rw [hp1]; exact Nat.zero_le _
  conv => whnf
  refine ⟨fun fr H nx rm' => ∃ (i : Nat), Has fr [(0, one (vsF l)), (1, I k), (5, I i)] ∧ i ≤ l.length ∧ (True) ∧ 1 ≤ nx ∧ H 0 = none ∧ rm' = rm,
    fun fr _ _ _ => l.length - ix (fr 5), ⟨0, ⟨(by first | rfl | (show I _ = I _; simp)), (by first | rfl | (show I _ = I _; simp)), (by first | rfl | (show I _ = I _; simp)), trivial⟩, Nat.zero_le _, (by trivial), (by first | decide | omega), (by exact h0_), rfl⟩, ?_⟩
  rintro fr H nx rm' ⟨i, hfr, hi, hq, hnx, hH, rfl⟩
  rw [hfr.eq]
  rcases Nat.lt_or_ge i l.length with hi' | hi'
  · exfalso; rw [hp1] at hi'; exact absurd hi' (Nat.not_lt_zero i)
  · have hdone := hi'
    repeat' ((conv => whnf); first
      | refine ⟨_, rfl, ?_⟩
      | refine ⟨rfl, ?_⟩
      | refine ⟨_, _, rfl, at_map (by assumption), ?_⟩
      | refine idx_mapX (i := 0) rfl (by assumption) ?_
      | refine idx_map (by omega) (fun x hx => ?_)
      | refine idx_mapX (wrap_dn (by omega) (by omega)) (by assumption) ?_
      | refine idx_mapE (wrap_dn (by omega) (by omega)) (by omega) (fun x hx => ?_)
      | refine idx_mapL (by omega) (by first | assumption | (simp only [LIM]; omega)) (fun x hx => ?_)
      | refine idx_mapI (by omega) (by first | omega | (simp only [List.length_map] at *; omega)) (fun x hx => ?_)
      | refine ⟨_, ldc_cells hupd_at (Nat.le_of_ble_eq_true rfl), ?_⟩
      | refine ⟨_, ldc_cells (by first | assumption | exact zk ‹_› (by omega) | exact zk (zk ‹_› (by omega)) (by omega)) (Nat.le_of_ble_eq_true rfl), ?_⟩
      | (refine ⟨fun hc => ?_, fun hc => ?_⟩ <;> (try simp (disch := omega) only [List.length_map, wrap64] at hc) <;> (try (exfalso; first | contradiction | omega)))
      | (refine ⟨⟨i + 1, ⟨rfl, rfl, congrArg I (wrap_up (n := l.length) (by omega) (hl0)), trivial⟩, (by omega), (by trivial), (by omega), (by exact h0_), rfl⟩, ?_⟩; show l.length - ix (I _) < l.length - ix (I _); simp only [wrap_up (n := l.length) (i := i) (by omega) (hl0), ix, Int.toNat_natCast]; omega)
      | exact ⟨⟨_, rfl, rfl, (l, k), rfl, rfl⟩, (by first | exact Nat.le_refl _ | omega), (by exact h0_)⟩
      | exact ⟨⟨_, rfl, rfl, (l, k), rfl, (by refine congrArg I (?_ : (_ : Int) = _); (try dsimp only); first | done | exact absurd True.intro hj | (first | assumption | grind))⟩, (by first | exact Nat.le_refl _ | omega), (by exact h0_)⟩
      | fail)
set_option maxHeartbeats 4000000 in
set_option maxRecDepth 100000 in
theorem v_laws_heldNodeS : Valid Try.prog n_laws_heldNodeS S_laws_heldNodeS := by
  refine valid_of_swp mixed is_laws_heldNodeS (by rintro _ ⟨a, rfl, _⟩; exact Nat.le_of_ble_eq_true rfl) ?_
  rintro _ rm ⟨⟨ns, k⟩, rfl, hpre⟩ hl
  try dsimp only at hpre
  have hpre0 := hpre
  obtain ⟨hp1, hp2⟩ := hpre
  obtain ⟨hm1, hm2⟩ := hp2
  subst hp1
  have hlL : ns.length ≤ LIM := Nat.le_trans hm1 (by decide)
  have cv : S_laws_heldVoteS.cost = 0 := rfl
  conv => whnf
  refine ⟨fun fr H nx rm' => ∃ (i : Nat), Has fr [(0, one (ndsF ns)), (1, I ((3 * i + 1 : Nat) : Int)), (5, I i)] ∧ i ≤ ns.length ∧ 1 ≤ nx ∧ H 0 = none ∧ rm' = rm,
    fun fr _ _ _ => ns.length - ix (fr 5), ⟨0, ⟨rfl, rfl, rfl, trivial⟩, Nat.zero_le _, ln_, ne_, rfl⟩, ?_⟩
  rintro fr H nx rm' ⟨i, hfr, hi, hnx, hH0, rfl⟩
  rw [hfr.eq]
  rcases Nat.lt_or_ge i ns.length with hi' | hi'
  · obtain ⟨x, hx⟩ : ∃ x, ns[i]? = some x := ⟨_, List.getElem?_eq_getElem hi'⟩
    have hxe := hm2 i x hx
    subst hxe
    have w1 : IntKind.i64.wrap (((3 * i + 1 : Nat) : Int) + 1) = ((3 * i + 2 : Nat) : Int) := by rw [wrap64] <;> omega
    have w2 : IntKind.i64.wrap (((3 * i + 2 : Nat) : Int) + 1) = ((3 * i + 3 : Nat) : Int) := by rw [wrap64] <;> omega
    have w3 : IntKind.i64.wrap (((3 * i + 3 : Nat) : Int) + 1) = ((3 * (i + 1) + 1 : Nat) : Int) := by rw [wrap64] <;> omega
    have w4 : IntKind.i64.wrap (IntKind.i64.wrap (IntKind.i64.wrap (((3 * i + 1 : Nat) : Int) + 1) + 1) + 1) = ((3 * (i + 1) + 1 : Nat) : Int) := by rw [w1, w2, w3]
    repeat' ((conv => whnf); first
      | refine ⟨_, _, rfl, at_map hx, ?_⟩
      | (refine calle (b := [one (vsF []), I ((3 * (i + 1) + 1 : Nat) : Int)]) v_laws_heldVoteS (congrArg (fun z => [one (vsF []), I z]) w4) ⟨([], _), rfl, rfl⟩ (.inl rfl) (by first | assumption | omega) (fun r hr => K_laws_heldVoteS (a := ([], _)) hr) ?_)
      | refine ⟨_, rfl, ?_⟩
      | refine ⟨rfl, ?_⟩
      | refine ⟨_, _, rfl, at_map (by assumption), ?_⟩
      | refine idx_mapX (i := 0) rfl (by assumption) ?_
      | refine idx_map (by omega) (fun x hx => ?_)
      | refine idx_mapX (wrap_dn (by omega) (by omega)) (by assumption) ?_
      | refine idx_mapE (wrap_dn (by omega) (by omega)) (by omega) (fun x hx => ?_)
      | refine idx_mapL (by omega) (by first | assumption | (simp only [LIM]; omega)) (fun x hx => ?_)
      | refine idx_mapI (by omega) (by first | omega | (simp only [List.length_map] at *; omega)) (fun x hx => ?_)
      | refine ⟨_, ldc_cells hupd_at (Nat.le_of_ble_eq_true rfl), ?_⟩
      | refine ⟨_, ldc_cells (by first | assumption | exact zk ‹_› (by omega) | exact zk (zk ‹_› (by omega)) (by omega)) (Nat.le_of_ble_eq_true rfl), ?_⟩
      | (refine ⟨fun hc => ?_, fun hc => ?_⟩ <;> (try simp (disch := omega) only [List.length_map, wrap64] at hc) <;> (try (exfalso; first | contradiction | omega)))
      | fail)
    refine ⟨⟨i + 1, ⟨rfl, rfl, congrArg I (wrap_up hi' hlL), trivial⟩, hi', (by omega), ne_, rfl⟩, ?_⟩
    show ns.length - ix (I _) < ns.length - ix (I _)
    simp only [wrap_up (n := ns.length) (i := i) (by omega) hlL, ix, Int.toNat_natCast]
    omega
  · have hie : i = ns.length := by omega
    have hdone := hi'
    repeat' ((conv => whnf); first
      | refine ⟨_, rfl, ?_⟩
      | refine ⟨rfl, ?_⟩
      | refine ⟨_, _, rfl, at_map (by assumption), ?_⟩
      | refine idx_mapX (i := 0) rfl (by assumption) ?_
      | refine idx_map (by omega) (fun x hx => ?_)
      | refine idx_mapX (wrap_dn (by omega) (by omega)) (by assumption) ?_
      | refine idx_mapE (wrap_dn (by omega) (by omega)) (by omega) (fun x hx => ?_)
      | refine idx_mapL (by omega) (by first | assumption | (simp only [LIM]; omega)) (fun x hx => ?_)
      | refine idx_mapI (by omega) (by first | omega | (simp only [List.length_map] at *; omega)) (fun x hx => ?_)
      | refine ⟨_, ldc_cells hupd_at (Nat.le_of_ble_eq_true rfl), ?_⟩
      | refine ⟨_, ldc_cells (by first | assumption | exact zk ‹_› (by omega) | exact zk (zk ‹_› (by omega)) (by omega)) (Nat.le_of_ble_eq_true rfl), ?_⟩
      | (refine ⟨fun hc => ?_, fun hc => ?_⟩ <;> (try simp (disch := omega) only [List.length_map, wrap64] at hc) <;> (try (exfalso; first | contradiction | omega)))
      | fail)
    exact ⟨⟨_, rfl, rfl, (ns, 1), rfl, (show I _ = I _ from congrArg I (by rw [hie]; show ((3 * ns.length + 1 : Nat) : Int) = 1 + 3 * (ns.length : Int); omega))⟩, (by omega), h0_⟩
set_option maxHeartbeats 4000000 in
set_option maxRecDepth 100000 in
theorem v_laws_heldWorld : Valid Try.prog n_laws_heldWorld S_laws_heldWorld := by
  refine valid_of_swp mixed is_laws_heldWorld (by rintro _ ⟨a, rfl, _⟩; exact Nat.le_of_ble_eq_true rfl) ?_
  rintro _ rm ⟨⟨w, k⟩, rfl, hpre⟩ hl
  try dsimp only at hpre
  have hpre0 := hpre
  obtain ⟨hp1, hp2, hp3⟩ := hpre
  subst hp1
  have c1 : S_laws_heldNodeS.cost = 0 := rfl
  have c2 : S_laws_heldVoteS.cost = 0 := rfl
  repeat' ((conv => whnf); first
    | (refine calle (b := [one (ndsF w.nodes), I 1]) v_laws_heldNodeS rfl ⟨(w.nodes, 1), rfl, rfl, hp2⟩ (.inl rfl) (by first | assumption | omega) (fun r hr => K_laws_heldNodeS (a := (w.nodes, 1)) hr) ?_)
    | (refine calle (b := [one (vsF w.log), I (1 + 3 * (w.nodes.length : Int))]) v_laws_heldVoteS rfl ⟨(w.log, _), rfl, hp3⟩ (.inl rfl) (by first | assumption | omega) (fun r hr => K_laws_heldVoteS (a := (w.log, _)) hr) ?_)
    | refine ⟨_, rfl, ?_⟩
    | refine ⟨rfl, ?_⟩
    | refine ⟨_, ldc_cells hupd_at (Nat.le_of_ble_eq_true rfl), ?_⟩
    | refine ⟨_, ldc_cells (by first | assumption | exact zk ‹_› (by omega) | exact zk (zk ‹_› (by omega)) (by omega)) (Nat.le_of_ble_eq_true rfl), ?_⟩
    | (refine ⟨fun hc => ?_, fun hc => ?_⟩ <;> (try simp (disch := omega) only [List.length_map, wrap64] at hc) <;> (try (exfalso; first | contradiction | omega)))
    | fail)
  exact ⟨⟨_, rfl, rfl, (w, 1), rfl, rfl⟩, (by omega), h0_⟩
set_option maxHeartbeats 4000000 in
set_option maxRecDepth 100000 in
theorem v_laws_markNodeS : ValidM Try.prog n_laws_markNodeS S_laws_markNodeS := by
  refine validM_of_swp mixed is_laws_markNodeS (by rintro _ _ ⟨a, rfl, _⟩; cases a <;> exact Nat.le_of_ble_eq_true rfl) ?_
  rintro _ _ rm ⟨b, rfl, rfl, hpre⟩ hl
  have c1 : S_laws_markVoteS.cost = 0 := rfl
  have c2 : S_laws_markNodeS.cost = 0 := rfl
  cases b
  · change swp _ _ _ _ _ 0 _
    dsimp only [mnEnc, mnOb]
    obtain ⟨ns, hns⟩ : ∃ ns : List Nd, ns = [] := ⟨_, rfl⟩
    rw [← hns]
    have hl0 : ns.length = 0 := by rw [hns]; rfl
    conv => whnf
    conv => whnf
    refine ⟨fun fr H nx rm' => ∃ i : Nat, Has fr [(0, one (ndsF ns)), (1, I 1), (5, I i)] ∧ i ≤ ns.length ∧ rm' = rm, fun fr _ _ _ => ns.length - ix (fr 5), ⟨0, ⟨rfl, rfl, rfl, trivial⟩, Nat.zero_le _, rfl⟩, ?_⟩
    rintro fr H nx rm' ⟨i, hfr, hi, rfl⟩
    rw [hfr.eq]
    have hi' : i ≥ ns.length := by omega
    repeat' ((conv => whnf); first
      | refine ⟨_, rfl, ?_⟩
      | refine ⟨rfl, ?_⟩
      | refine ⟨_, _, rfl, at_map (by assumption), ?_⟩
      | refine idx_mapX (i := 0) rfl (by assumption) ?_
      | refine idx_map (by omega) (fun x hx => ?_)
      | refine idx_mapX (wrap_dn (by omega) (by omega)) (by assumption) ?_
      | refine idx_mapE (wrap_dn (by omega) (by omega)) (by omega) (fun x hx => ?_)
      | refine idx_mapL (by omega) (by first | assumption | (simp only [LIM]; omega)) (fun x hx => ?_)
      | refine idx_mapI (by omega) (by first | omega | (simp only [List.length_map] at *; omega)) (fun x hx => ?_)
      | refine ⟨_, ldc_cells hupd_at (Nat.le_of_ble_eq_true rfl), ?_⟩
      | refine ⟨_, ldc_cells (by first | assumption | exact zk ‹_› (by omega) | exact zk (zk ‹_› (by omega)) (by omega)) (Nat.le_of_ble_eq_true rfl), ?_⟩
      | refine ⟨_, _, hupd_at, rfl, rfl, Nat.le_of_ble_eq_true rfl, ?_⟩
      | refine ⟨_, _, rfl, rfl, rfl, Nat.le_of_ble_eq_true rfl, ?_⟩
      | (refine ⟨fun hc => ?_, fun hc => ?_⟩ <;> (try simp (disch := omega) only [List.length_map, wrap64] at hc) <;> (try (exfalso; first | contradiction | omega)))
      | fail)
    exact finM_0 (r0 := I 1) (az := [.o (cI 1)]) (by omega) ⟨⟨_, rfl, .inl rfl⟩, trivial⟩ rfl ⟨false, (by rw [hns]; rfl), rfl, rfl, rfl⟩
  · change swp _ _ _ _ _ 1 _
    dsimp only [mnEnc, mnOb]
    conv => whnf
    conv => whnf
    refine ⟨fun fr H nx rm' => ∃ i : Nat, Has fr [(0, ow0), (1, I ((3 * i + 1 : Nat) : Int)), (5, I i)] ∧ i ≤ 4 ∧ 1 ≤ nx ∧ H 0 = some (.arr ty_impl_Node 4 (arA ndF (mp i))) ∧ rm' = rm, fun fr _ _ _ => 4 - ix (fr 5), ⟨0, ⟨rfl, rfl, rfl, trivial⟩, Nat.zero_le _, ln_, hk_, rfl⟩, ?_⟩
    rintro fr H nx rm' ⟨i, hfr, hi, hnx, hH0, rfl⟩
    rw [hfr.eq]
    have hlr : (mp i).length = 4 := mp_len
    rcases Nat.lt_or_ge i 4 with hi' | hi'
    · have hx := mp_at hi'
      have hx0 : (arA ndF (mp i))[i]? = some ((ndF (nd0 i)).map AC.c) := arA_at hx
      have w1 : IntKind.i64.wrap (((3 * i + 1 : Nat) : Int) + 1) = ((3 * i + 2 : Nat) : Int) := by rw [wrap64] <;> omega
      have w2 : IntKind.i64.wrap (((3 * i + 2 : Nat) : Int) + 1) = ((3 * i + 3 : Nat) : Int) := by rw [wrap64] <;> omega
      have w3 : IntKind.i64.wrap (((3 * i + 3 : Nat) : Int) + 1) = ((3 * (i + 1) + 1 : Nat) : Int) := by rw [wrap64] <;> omega
      have w4 : IntKind.i64.wrap (IntKind.i64.wrap (((3 * i + 1 : Nat) : Int) + 1) + 1) = ((3 * i + 3 : Nat) : Int) := by rw [w1, w2]
      have w5 : IntKind.i64.wrap (IntKind.i64.wrap (IntKind.i64.wrap (((3 * i + 1 : Nat) : Int) + 1) + 1) + 1) = ((3 * (i + 1) + 1 : Nat) : Int) := by rw [w4, w3]
      repeat' ((conv => whnf); first
        | refine ⟨_, _, _, (hk_ : (_ : Option Ob) = _), ?_⟩
        | refine ⟨_, _, i, _, hk_, rfl, set_row (set_row (set_row hx0)), ?_⟩
        | refine ⟨_, _, i, _, hk_, rfl, set_row (set_row hx0), ?_⟩
        | refine ⟨_, _, i, _, hk_, rfl, set_row hx0, ?_⟩
        | refine ⟨_, _, i, _, hk_, rfl, hx0, ?_⟩
        | refine ⟨_, _, _, _, (hk_ : (_ : Option Ob) = _), set_row (set_row hx0), rfl, rfl, Nat.le_of_ble_eq_true rfl, ?_⟩
        | refine ⟨_, _, _, _, (hk_ : (_ : Option Ob) = _), set_row hx0, rfl, rfl, Nat.le_of_ble_eq_true rfl, ?_⟩
        | refine ⟨_, _, _, _, (hk_ : (_ : Option Ob) = _), hx0, rfl, rfl, Nat.le_of_ble_eq_true rfl, ?_⟩
        | refine ⟨_, ldc_pa hk_ (set_row (set_row (set_row hx0))) (Nat.le_of_ble_eq_true rfl), ?_⟩
        | (refine calle (b := [one (vsF []), I ((3 * (i + 1) + 1 : Nat) : Int)]) v_laws_markVoteS (congrArg (fun z => [one (vsF []), I z]) w5) ⟨([], _), rfl, rfl⟩ (.inl rfl) (by first | assumption | omega) (fun r hr => K_laws_markVoteS (a := ([], _)) hr) ?_)
        | refine ⟨_, rfl, ?_⟩
        | refine ⟨rfl, ?_⟩
        | refine ⟨_, _, rfl, at_map (by assumption), ?_⟩
        | refine idx_mapX (i := 0) rfl (by assumption) ?_
        | refine idx_map (by omega) (fun x hx => ?_)
        | refine idx_mapX (wrap_dn (by omega) (by omega)) (by assumption) ?_
        | refine idx_mapE (wrap_dn (by omega) (by omega)) (by omega) (fun x hx => ?_)
        | refine idx_mapL (by omega) (by first | assumption | (simp only [LIM]; omega)) (fun x hx => ?_)
        | refine idx_mapI (by omega) (by first | omega | (simp only [List.length_map] at *; omega)) (fun x hx => ?_)
        | refine ⟨_, ldc_cells hupd_at (Nat.le_of_ble_eq_true rfl), ?_⟩
        | refine ⟨_, ldc_cells (by first | assumption | exact zk ‹_› (by omega) | exact zk (zk ‹_› (by omega)) (by omega)) (Nat.le_of_ble_eq_true rfl), ?_⟩
        | refine ⟨_, _, hupd_at, rfl, rfl, Nat.le_of_ble_eq_true rfl, ?_⟩
        | refine ⟨_, _, rfl, rfl, rfl, Nat.le_of_ble_eq_true rfl, ?_⟩
        | (refine ⟨fun hc => ?_, fun hc => ?_⟩ <;> (try simp (disch := omega) only [List.length_map, wrap64] at hc) <;> (try (exfalso; first | contradiction | omega)))
        | fail)
      refine ⟨⟨i + 1, ⟨rfl, rfl, congrArg I (wrap_up (n := 4) hi' (by decide)), trivial⟩, hi', (by omega), Eq.trans hk_ (congrArg (fun z => some (Ob.arr ty_impl_Node 4 z)) (mark_rows hi' rfl w1 w4)), (by omega)⟩, ?_⟩
      show 4 - ix (I _) < 4 - ix (I _)
      simp only [wrap_up (n := 4) (i := i) (by omega) (by decide), ix, Int.toNat_natCast]
      omega
    · have hie : i = 4 := by omega
      subst hie
      repeat' ((conv => whnf); first
        | refine ⟨_, _, _, (hk_ : (_ : Option Ob) = _), ?_⟩
        | refine ⟨_, rfl, ?_⟩
        | refine ⟨rfl, ?_⟩
        | refine ⟨_, _, rfl, at_map (by assumption), ?_⟩
        | refine idx_mapX (i := 0) rfl (by assumption) ?_
        | refine idx_map (by omega) (fun x hx => ?_)
        | refine idx_mapX (wrap_dn (by omega) (by omega)) (by assumption) ?_
        | refine idx_mapE (wrap_dn (by omega) (by omega)) (by omega) (fun x hx => ?_)
        | refine idx_mapL (by omega) (by first | assumption | (simp only [LIM]; omega)) (fun x hx => ?_)
        | refine idx_mapI (by omega) (by first | omega | (simp only [List.length_map] at *; omega)) (fun x hx => ?_)
        | refine ⟨_, ldc_cells hupd_at (Nat.le_of_ble_eq_true rfl), ?_⟩
        | refine ⟨_, ldc_cells (by first | assumption | exact zk ‹_› (by omega) | exact zk (zk ‹_› (by omega)) (by omega)) (Nat.le_of_ble_eq_true rfl), ?_⟩
        | refine ⟨_, _, hupd_at, rfl, rfl, Nat.le_of_ble_eq_true rfl, ?_⟩
        | refine ⟨_, _, rfl, rfl, rfl, Nat.le_of_ble_eq_true rfl, ?_⟩
        | (refine ⟨fun hc => ?_, fun hc => ?_⟩ <;> (try simp (disch := omega) only [List.length_map, wrap64] at hc) <;> (try (exfalso; first | contradiction | omega)))
        | fail)
      exact finM_1 (r0 := I 13) (az := [.o (cI 13)]) (by omega) hH0 mArr_ren ⟨⟨_, rfl, .inl rfl⟩, trivial⟩ rfl ⟨true, rfl, rfl, rfl, rfl⟩
set_option maxHeartbeats 4000000 in
set_option maxRecDepth 100000 in
theorem v_laws_markWorld : ValidM Try.prog n_laws_markWorld S_laws_markWorld := by
  refine validM_of_swp mixed is_laws_markWorld (by rintro _ _ ⟨a, rfl, _⟩; cases a <;> exact Nat.le_of_ble_eq_true rfl) ?_
  rintro _ _ rm ⟨b, rfl, rfl, hpre⟩ hl
  have c1 : S_laws_markVoteS.cost = 0 := rfl
  have c2 : S_laws_markNodeS.cost = 0 := rfl
  have c3 : S_laws_markWorld.cost = 0 := rfl
  rcases b with _ | bad
  · change swp _ _ _ _ _ 0 _
    dsimp only [mwEnc, mwOb]
    repeat' ((conv => whnf); first
      | refine ⟨_, rfl, ?_⟩
      | refine ⟨rfl, ?_⟩
      | refine ⟨_, ldc_cells hupd_at (Nat.le_of_ble_eq_true rfl), ?_⟩
      | refine ⟨_, ldc_cells (by first | assumption | exact zk ‹_› (by omega) | exact zk (zk ‹_› (by omega)) (by omega)) (Nat.le_of_ble_eq_true rfl), ?_⟩
      | refine ⟨_, ldc_pa (by exact hk_) (at_mapA (by assumption)) (Nat.le_of_ble_eq_true rfl), ?_⟩
      | refine ⟨_, ((by exact hk_) : (_ : Option Ob) = _), ?_⟩
      | (refine ⟨fun hc => ?_, fun hc => ?_⟩ <;> (try simp (disch := omega) only [List.length_map, wrap64] at hc) <;> (try (exfalso; first | contradiction | omega)))
      | fail)
    refine mq_0 (r0 := I 1) (b := mnEnc false) v_laws_markNodeS rfl (by omega) (fun _ => rfl) (fun _ => rfl) rfl ⟨false, rfl, rfl, trivial⟩ (fun r obs' h => K_laws_markNodeS (b := false) h) ?_
    repeat' ((conv => whnf); first
      | (refine calle (b := [one (vsF []), I 1]) v_laws_markVoteS rfl ⟨([], _), rfl, rfl⟩ (.inl rfl) (by first | assumption | omega) (fun r hr => K_laws_markVoteS (a := ([], _)) hr) ?_)
      | refine ⟨_, rfl, ?_⟩
      | refine ⟨rfl, ?_⟩
      | refine ⟨_, ldc_cells hupd_at (Nat.le_of_ble_eq_true rfl), ?_⟩
      | refine ⟨_, ldc_cells (by first | assumption | exact zk ‹_› (by omega) | exact zk (zk ‹_› (by omega)) (by omega)) (Nat.le_of_ble_eq_true rfl), ?_⟩
      | refine ⟨_, ldc_pa (by exact hk_) (at_mapA (by assumption)) (Nat.le_of_ble_eq_true rfl), ?_⟩
      | refine ⟨_, ((by exact hk_) : (_ : Option Ob) = _), ?_⟩
      | (refine ⟨fun hc => ?_, fun hc => ?_⟩ <;> (try simp (disch := omega) only [List.length_map, wrap64] at hc) <;> (try (exfalso; first | contradiction | omega)))
      | fail)
    exact finM_0 (r0 := I 1) (az := [.o (cI 1)]) (by omega) ⟨⟨_, rfl, .inl rfl⟩, trivial⟩ rfl ⟨none, rfl, rfl, rfl, rfl⟩
  · change swp _ _ _ _ _ 1 _
    dsimp only [mwEnc, mwOb]
    repeat' ((conv => whnf); first
      | refine ⟨_, rfl, ?_⟩
      | refine ⟨rfl, ?_⟩
      | refine ⟨_, ldc_cells hupd_at (Nat.le_of_ble_eq_true rfl), ?_⟩
      | refine ⟨_, ldc_cells (by first | assumption | exact zk ‹_› (by omega) | exact zk (zk ‹_› (by omega)) (by omega)) (Nat.le_of_ble_eq_true rfl), ?_⟩
      | refine ⟨_, ldc_pa (by exact hk_) (at_mapA (by assumption)) (Nat.le_of_ble_eq_true rfl), ?_⟩
      | refine ⟨_, ((by exact hk_) : (_ : Option Ob) = _), ?_⟩
      | (refine ⟨fun hc => ?_, fun hc => ?_⟩ <;> (try simp (disch := omega) only [List.length_map, wrap64] at hc) <;> (try (exfalso; first | contradiction | omega)))
      | fail)
    refine mq_1 (o := mArr 0) (o' := mArr 4) (r0 := I 13) (A := fun k => [.w (.o (.ow k)), I 1]) (k := 0) v_laws_markNodeS rfl (by omega) (fun _ => rfl) mArr_ren mArr_ren (fun _ => rfl) hk_ rfl ⟨true, rfl, rfl, trivial⟩ (fun r obs' h => K_laws_markNodeS (b := true) h) ?_
    repeat' ((conv => whnf); first
      | (refine calle (b := [one (vsF []), I 13]) v_laws_markVoteS rfl ⟨([], _), rfl, rfl⟩ (.inl rfl) (by first | assumption | omega) (fun r hr => K_laws_markVoteS (a := ([], _)) hr) ?_)
      | refine ⟨_, rfl, ?_⟩
      | refine ⟨rfl, ?_⟩
      | refine ⟨_, ldc_cells hupd_at (Nat.le_of_ble_eq_true rfl), ?_⟩
      | refine ⟨_, ldc_cells (by first | assumption | exact zk ‹_› (by omega) | exact zk (zk ‹_› (by omega)) (by omega)) (Nat.le_of_ble_eq_true rfl), ?_⟩
      | refine ⟨_, ldc_pa (by exact hk_) (at_mapA (by assumption)) (Nat.le_of_ble_eq_true rfl), ?_⟩
      | refine ⟨_, ((by exact hk_) : (_ : Option Ob) = _), ?_⟩
      | (refine ⟨fun hc => ?_, fun hc => ?_⟩ <;> (try simp (disch := omega) only [List.length_map, wrap64] at hc) <;> (try (exfalso; first | contradiction | omega)))
      | fail)
    exact finM_1 (r0 := I 13) (az := [.o (cI 13)]) (by omega) hk_ mArr_ren ⟨⟨_, rfl, .inl rfl⟩, trivial⟩ rfl ⟨some bad, rfl, rfl, rfl, rfl⟩
end Av
end Go.Proofs.Ytfijfccgghhkoaa
