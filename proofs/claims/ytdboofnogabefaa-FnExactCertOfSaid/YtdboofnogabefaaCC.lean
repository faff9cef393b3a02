/- The walks: sizes, copies, equality and marks of certs; what is final of one. -/
import Derived.Test.YtdboofnogabefaaJ44
import Derived.Test.YtdboofnogabefaaJ45
set_option linter.unusedVariables false
set_option linter.unusedSimpArgs false
namespace Go.Proofs.Ytdboofnogabefaa
namespace Av
open Go.RowKit
attribute [local irreducible] Valid ValidM
set_option maxHeartbeats 4000000 in
set_option maxRecDepth 100000 in
theorem v_laws_eqIntS : Valid Try.prog n_laws_eqIntS S_laws_eqIntS := by
  refine valid_of_swp mixed is_laws_eqIntS (by rintro _ ⟨a, rfl, _⟩; exact Nat.le_of_ble_eq_true rfl) ?_
  rintro _ rm ⟨⟨a1, b1⟩, rfl, hpre⟩ hl
  try dsimp only at hpre
  have hpre0 := hpre
  obtain ⟨hp1, hp2⟩ := hpre
  repeat' ((conv => whnf); first
    | refine ⟨_, rfl, ?_⟩
    | refine ⟨rfl, ?_⟩
    | refine ⟨_, _, rfl, at_map (by assumption), ?_⟩
    | refine idx_mapX (i := 0) rfl (by assumption) ?_
    | refine idx_map (by omega) (fun x hx => ?_)
    | refine idx_mapX (wrap_dn (by omega) (by omega)) (by assumption) ?_
    | refine idx_mapE (wrap_dn (by omega) (by omega)) (by omega) (fun x hx => ?_)
    | refine idx_mapL (by omega) (by first | assumption | (simp only [LIM]; omega)) (fun x hx => ?_)
    | refine idx_mapI (by omega) (by first | omega | (simp only [List.length_map] at *; omega)) (fun x hx => ?_)
    | refine ⟨_, ldc_cells hupd_at (Nat.le_of_ble_eq_true rfl), ?_⟩
    | refine ⟨_, ldc_cells (by first | assumption | exact zk ‹_› (by omega) | exact zk (zk ‹_› (by omega)) (by omega)) (Nat.le_of_ble_eq_true rfl), ?_⟩
    | (refine ⟨fun hc => ?_, fun hc => ?_⟩ <;> (try simp (disch := omega) only [List.length_map, wrap64] at hc))
    | exact ⟨⟨_, rfl, rfl, (a1, b1), rfl, (by refine congrArg B (Eq.symm (tb_pos ?_)); (try dsimp only); first | done | exact absurd True.intro hj | ((rintro rfl; simp at hc)))⟩, (by first | exact Nat.le_refl _ | omega), (by exact h0_)⟩
    | exact ⟨⟨_, rfl, rfl, (a1, b1), rfl, (by refine congrArg B (Eq.symm (tb_neg ?_)); (try dsimp only); first | done | exact absurd True.intro hj | ((rintro rfl; simp at hc)))⟩, (by first | exact Nat.le_refl _ | omega), (by exact h0_)⟩
    | fail)
  conv => whnf
  refine ⟨fun fr H nx rm' => ∃ (i : Nat), Has fr [(0, one (nsF a1)), (1, one (nsF b1)), (5, I i)] ∧ i ≤ a1.length ∧ (∀ j x, j < i → a1[j]? = some x → b1[j]? = some x) ∧ 1 ≤ nx ∧ H 0 = none ∧ rm' = rm,
    fun fr _ _ _ => a1.length - ix (fr 5), ⟨0, ⟨(by first | rfl | (show I _ = I _; simp)), (by first | rfl | (show I _ = I _; simp)), (by first | rfl | (show I _ = I _; simp)), trivial⟩, Nat.zero_le _, (by first | trivial | rfl | (intros; omega) | simp), (by first | decide | omega), (by exact h0_), rfl⟩, ?_⟩
  rintro fr H nx rm' ⟨i, hfr, hi, hq, hnx, hH, rfl⟩
  rw [hfr.eq]
  repeat' ((conv => whnf); first
    | refine ⟨_, rfl, ?_⟩
    | refine ⟨rfl, ?_⟩
    | refine ⟨_, _, rfl, at_map (by assumption), ?_⟩
    | refine idx_mapX (i := 0) rfl (by assumption) ?_
    | refine idx_map (by omega) (fun x hx => ?_)
    | refine idx_mapX (wrap_dn (by omega) (by omega)) (by assumption) ?_
    | refine idx_mapE (wrap_dn (by omega) (by omega)) (by omega) (fun x hx => ?_)
    | refine idx_mapL (by omega) (by first | assumption | (simp only [LIM]; omega)) (fun x hx => ?_)
    | refine idx_mapI (by omega) (by first | omega | (simp only [List.length_map] at *; omega)) (fun x hx => ?_)
    | refine ⟨_, ldc_cells hupd_at (Nat.le_of_ble_eq_true rfl), ?_⟩
    | refine ⟨_, ldc_cells (by first | assumption | exact zk ‹_› (by omega) | exact zk (zk ‹_› (by omega)) (by omega)) (Nat.le_of_ble_eq_true rfl), ?_⟩
    | (refine ⟨fun hc => ?_, fun hc => ?_⟩ <;> (try simp (disch := omega) only [List.length_map, wrap64] at hc))
    | (refine ⟨⟨i + 1, ⟨rfl, rfl, congrArg I (wrap_up (n := a1.length) (by omega) (hp1)), trivial⟩, (by omega), (by grind), (by omega), (by exact h0_), rfl⟩, ?_⟩; show a1.length - ix (I _) < a1.length - ix (I _); simp only [wrap_up (n := a1.length) (i := i) (by omega) (hp1), ix, Int.toNat_natCast]; omega)
    | exact ⟨⟨_, rfl, rfl, (a1, b1), rfl, (by refine congrArg B (Eq.symm (tb_pos ?_)); (try dsimp only); first | done | exact absurd True.intro hj | (first | (exact ext_of (by omega) (by grind)) | (rintro rfl; grind)))⟩, (by first | exact Nat.le_refl _ | omega), (by exact h0_)⟩
    | exact ⟨⟨_, rfl, rfl, (a1, b1), rfl, (by refine congrArg B (Eq.symm (tb_neg ?_)); (try dsimp only); first | done | exact absurd True.intro hj | (first | (exact ext_of (by omega) (by grind)) | (rintro rfl; grind)))⟩, (by first | exact Nat.le_refl _ | omega), (by exact h0_)⟩
    | fail)
set_option maxHeartbeats 4000000 in
set_option maxRecDepth 100000 in
theorem v_laws_eqIntSS : Valid Try.prog n_laws_eqIntSS S_laws_eqIntSS := by
  refine valid_of_swp mixed is_laws_eqIntSS (by rintro _ ⟨a, rfl, _⟩; exact Nat.le_of_ble_eq_true rfl) ?_
  rintro _ rm ⟨⟨l, m⟩, rfl, hpre⟩ hl
  try dsimp only at hpre
  have hpre0 := hpre
  obtain ⟨hp1, hp2⟩ := hpre
  repeat' ((conv => whnf); first
    | refine ⟨_, rfl, ?_⟩
    | refine ⟨rfl, ?_⟩
    | refine ⟨_, _, rfl, at_map (by assumption), ?_⟩
    | refine idx_mapX (i := 0) rfl (by assumption) ?_
    | refine idx_map (by omega) (fun x hx => ?_)
    | refine idx_mapX (wrap_dn (by omega) (by omega)) (by assumption) ?_
    | refine idx_mapE (wrap_dn (by omega) (by omega)) (by omega) (fun x hx => ?_)
    | refine idx_mapL (by omega) (by first | assumption | (simp only [LIM]; omega)) (fun x hx => ?_)
    | refine idx_mapI (by omega) (by first | omega | (simp only [List.length_map] at *; omega)) (fun x hx => ?_)
    | refine ⟨_, ldc_cells hupd_at (Nat.le_of_ble_eq_true rfl), ?_⟩
    | refine ⟨_, ldc_cells (by first | assumption | exact zk ‹_› (by omega) | exact zk (zk ‹_› (by omega)) (by omega)) (Nat.le_of_ble_eq_true rfl), ?_⟩
    | (refine ⟨fun hc => ?_, fun hc => ?_⟩ <;> (try simp (disch := omega) only [List.length_map, wrap64] at hc))
    | exact ⟨⟨_, rfl, rfl, (l, m), rfl, (by refine congrArg B (Eq.symm (tb_pos ?_)); (try dsimp only); first | done | exact absurd True.intro hj | ((rintro rfl; simp at hc)))⟩, (by first | exact Nat.le_refl _ | omega), (by exact h0_)⟩
    | exact ⟨⟨_, rfl, rfl, (l, m), rfl, (by refine congrArg B (Eq.symm (tb_neg ?_)); (try dsimp only); first | done | exact absurd True.intro hj | ((rintro rfl; simp at hc)))⟩, (by first | exact Nat.le_refl _ | omega), (by exact h0_)⟩
    | fail)
  conv => whnf
  refine ⟨fun fr H nx rm' => ∃ (i : Nat), Has fr [(0, one (nssF l)), (1, one (nssF m)), (5, I i)] ∧ i ≤ l.length ∧ (∀ j x, j < i → l[j]? = some x → m[j]? = some x) ∧ 1 ≤ nx ∧ H 0 = none ∧ rm' = rm,
    fun fr _ _ _ => l.length - ix (fr 5), ⟨0, ⟨(by first | rfl | (show I _ = I _; simp)), (by first | rfl | (show I _ = I _; simp)), (by first | rfl | (show I _ = I _; simp)), trivial⟩, Nat.zero_le _, (by first | trivial | rfl | (intros; omega) | simp), (by first | decide | omega), (by exact h0_), rfl⟩, ?_⟩
  rintro fr H nx rm' ⟨i, hfr, hi, hq, hnx, hH, rfl⟩
  rw [hfr.eq]
  rcases Nat.lt_or_ge i l.length with hi' | hi'
  · obtain ⟨x, hx⟩ : ∃ x, l[i]? = some x := ⟨_, List.getElem?_eq_getElem hi'⟩
    obtain ⟨y, hy⟩ : ∃ x, m[i]? = some x := ⟨_, List.getElem?_eq_getElem (by omega)⟩
    have hxl := hp1.2 x (List.mem_of_getElem? hx)
    have hyl := hp2.2 y (List.mem_of_getElem? hy)
    repeat' ((conv => whnf); first
      | refine ⟨_, _, rfl, at_map hx, ?_⟩
      | refine ⟨_, _, rfl, at_map hy, ?_⟩
      | refine ⟨_, rfl, ?_⟩
      | refine ⟨rfl, ?_⟩
      | refine ⟨_, _, rfl, at_map (by assumption), ?_⟩
      | refine idx_mapX (i := 0) rfl (by assumption) ?_
      | refine idx_map (by omega) (fun x hx => ?_)
      | refine idx_mapX (wrap_dn (by omega) (by omega)) (by assumption) ?_
      | refine idx_mapE (wrap_dn (by omega) (by omega)) (by omega) (fun x hx => ?_)
      | refine idx_mapL (by omega) (by first | assumption | (simp only [LIM]; omega)) (fun x hx => ?_)
      | refine idx_mapI (by omega) (by first | omega | (simp only [List.length_map] at *; omega)) (fun x hx => ?_)
      | refine ⟨_, ldc_cells hupd_at (Nat.le_of_ble_eq_true rfl), ?_⟩
      | refine ⟨_, ldc_cells (by first | assumption | exact zk ‹_› (by omega) | exact zk (zk ‹_› (by omega)) (by omega)) (Nat.le_of_ble_eq_true rfl), ?_⟩
      | (refine ⟨fun hc => ?_, fun hc => ?_⟩ <;> (try simp (disch := omega) only [List.length_map, wrap64] at hc) <;> (try (exfalso; first | contradiction | omega)))
      | (refine callt (b := [one (nsF _), one (nsF _)]) v_laws_eqIntS rfl ⟨(_, _), rfl, (by refine ⟨?_, ?_⟩ <;> (exact pr_))⟩ (.inl rfl) (by first | assumption | omega) (fun r hr => K_laws_eqIntS (a := (_, _)) hr) (fun hj => ?_) (fun hj => ?_) <;> (try simp only [etaPa, etaIt, etaVo] at hj) <;> (try contradiction))
      | (refine ⟨⟨i + 1, ⟨rfl, rfl, congrArg I (wrap_up (n := l.length) (by omega) (hp1.1)), trivial⟩, (by omega), (by intro j b hj' hb'; rcases Nat.lt_or_ge j i with h | h; exact hq j b h hb'; have e : j = i := (by omega); rw [e] at hb' ⊢; rw [hx] at hb'; cases hb'; rw [hy, hj]), (by omega), (by exact h0_), rfl⟩, ?_⟩; show l.length - ix (I _) < l.length - ix (I _); simp only [wrap_up (n := l.length) (i := i) (by omega) (hp1.1), ix, Int.toNat_natCast]; omega)
      | exact ⟨⟨_, rfl, rfl, (l, m), rfl, (by refine congrArg B (Eq.symm (tb_pos ?_)); (try dsimp only); first | done | exact absurd True.intro hj | ((rintro rfl; rw [hx] at hy; cases hy; exact hj rfl)))⟩, (by first | exact Nat.le_refl _ | omega), (by exact h0_)⟩
      | exact ⟨⟨_, rfl, rfl, (l, m), rfl, (by refine congrArg B (Eq.symm (tb_neg ?_)); (try dsimp only); first | done | exact absurd True.intro hj | ((rintro rfl; rw [hx] at hy; cases hy; exact hj rfl)))⟩, (by first | exact Nat.le_refl _ | omega), (by exact h0_)⟩
      | fail)
  · have hdone := hi'
    repeat' ((conv => whnf); first
      | refine ⟨_, rfl, ?_⟩
      | refine ⟨rfl, ?_⟩
      | refine ⟨_, _, rfl, at_map (by assumption), ?_⟩
      | refine idx_mapX (i := 0) rfl (by assumption) ?_
      | refine idx_map (by omega) (fun x hx => ?_)
      | refine idx_mapX (wrap_dn (by omega) (by omega)) (by assumption) ?_
      | refine idx_mapE (wrap_dn (by omega) (by omega)) (by omega) (fun x hx => ?_)
      | refine idx_mapL (by omega) (by first | assumption | (simp only [LIM]; omega)) (fun x hx => ?_)
      | refine idx_mapI (by omega) (by first | omega | (simp only [List.length_map] at *; omega)) (fun x hx => ?_)
      | refine ⟨_, ldc_cells hupd_at (Nat.le_of_ble_eq_true rfl), ?_⟩
      | refine ⟨_, ldc_cells (by first | assumption | exact zk ‹_› (by omega) | exact zk (zk ‹_› (by omega)) (by omega)) (Nat.le_of_ble_eq_true rfl), ?_⟩
      | (refine ⟨fun hc => ?_, fun hc => ?_⟩ <;> (try simp (disch := omega) only [List.length_map, wrap64] at hc) <;> (try (exfalso; first | contradiction | omega)))
      | (refine ⟨⟨i + 1, ⟨rfl, rfl, congrArg I (wrap_up (n := l.length) (by omega) (hp1.1)), trivial⟩, (by omega), (by intro j b hj' hb'; rcases Nat.lt_or_ge j i with h | h; exact hq j b h hb'; have e : j = i := (by omega); rw [e] at hb' ⊢; rw [hx] at hb'; cases hb'; rw [hy, hj]), (by omega), (by exact h0_), rfl⟩, ?_⟩; show l.length - ix (I _) < l.length - ix (I _); simp only [wrap_up (n := l.length) (i := i) (by omega) (hp1.1), ix, Int.toNat_natCast]; omega)
      | exact ⟨⟨_, rfl, rfl, (l, m), rfl, (by refine congrArg B (Eq.symm (tb_pos ?_)); (try dsimp only); first | done | exact absurd True.intro hj | (exact ext_of (by omega) (by grind)))⟩, (by first | exact Nat.le_refl _ | omega), (by exact h0_)⟩
      | exact ⟨⟨_, rfl, rfl, (l, m), rfl, (by refine congrArg B (Eq.symm (tb_neg ?_)); (try dsimp only); first | done | exact absurd True.intro hj | (exact ext_of (by omega) (by grind)))⟩, (by first | exact Nat.le_refl _ | omega), (by exact h0_)⟩
      | fail)
set_option maxHeartbeats 4000000 in
set_option maxRecDepth 100000 in
theorem v_laws_eqCert : Valid Try.prog n_laws_eqCert S_laws_eqCert := by
  refine valid_of_swp mixed is_laws_eqCert (by rintro _ ⟨a, rfl, _⟩; exact Nat.le_of_ble_eq_true rfl) ?_
  rintro _ rm ⟨⟨c, d⟩, rfl, hpre⟩ hl
  try dsimp only at hpre
  have hpre0 := hpre
  obtain ⟨hp1, hp2⟩ := hpre
  have hb1 := hp1.1
  have hb2 := hp1.2
  have hb3 := hp2.1
  have hb4 := hp2.2
  repeat' ((conv => whnf); first
    | refine ⟨_, rfl, ?_⟩
    | refine ⟨rfl, ?_⟩
    | refine ⟨_, ldc_cells hupd_at (Nat.le_of_ble_eq_true rfl), ?_⟩
    | refine ⟨_, ldc_cells (by first | assumption | exact zk ‹_› (by omega) | exact zk (zk ‹_› (by omega)) (by omega)) (Nat.le_of_ble_eq_true rfl), ?_⟩
    | (refine ⟨fun hc => ?_, fun hc => ?_⟩ <;> (try simp (disch := omega) only [List.length_map, wrap64] at hc))
    | (refine callt (b := [one (chF _), one (chF _)]) v_laws_eqItemS rfl ⟨(_, _), rfl, (by refine ⟨?_, ?_⟩ <;> (exact pr_))⟩ (.inl rfl) (by first | assumption | omega) (fun r hr => K_laws_eqItemS (a := (_, _)) hr) (fun hj => ?_) (fun hj => ?_) <;> (try simp only [etaPa, etaIt, etaVo] at hj))
    | (refine callt (b := [one (nssF _), one (nssF _)]) v_laws_eqIntSS rfl ⟨(_, _), rfl, (by refine ⟨?_, ?_⟩ <;> (exact pr_))⟩ (.inl rfl) (by first | assumption | omega) (fun r hr => K_laws_eqIntSS (a := (_, _)) hr) (fun hj => ?_) (fun hj => ?_) <;> (try simp only [etaPa, etaIt, etaVo] at hj))
    | exact ⟨⟨_, rfl, rfl, (c, d), rfl, (by refine congrArg B (Eq.symm (tb_pos ?_)); (try dsimp only); first | done | exact absurd True.intro hj | (first | (cases c; cases d; simp_all)))⟩, (by first | exact Nat.le_refl _ | omega), (by exact h0_)⟩
    | exact ⟨⟨_, rfl, rfl, (c, d), rfl, (by refine congrArg B (Eq.symm (tb_neg ?_)); (try dsimp only); first | done | exact absurd True.intro hj | (first | (cases c; cases d; simp_all)))⟩, (by first | exact Nat.le_refl _ | omega), (by exact h0_)⟩
    | fail)
/-! ### marks -/
theorem mkI_step {c : List Int} {k : Int} {i : Nat} (h : i < c.length) : (mkI i k ++ c.drop i).set i (k + i) = mkI (i + 1) k ++ c.drop (i + 1) := by
  rw [mkI_snoc, List.append_assoc, List.set_append_right _ _ (by rw [mkI_len]; exact Nat.le_refl _), mkI_len, Nat.sub_self]
  congr 1
  rw [List.drop_eq_getElem_cons h]; rfl
theorem mkI_at' {c : List Int} {k : Int} {i : Nat} (h : i < c.length) : ∃ x : Int, (mkI i k ++ c.drop i)[i]? = some x ∧ (arA inF (mkI i k ++ c.drop i))[i]? = some ((inF x).map AC.c) := by
  have hl : i < (mkI i k ++ c.drop i).length := by rw [List.length_append, mkI_len, List.length_drop]; omega
  exact ⟨_, List.getElem?_eq_getElem hl, by rw [arA, List.getElem?_map, List.getElem?_eq_getElem hl]; rfl⟩
set_option maxHeartbeats 4000000 in
set_option maxRecDepth 100000 in
theorem v_laws_markIntS : ValidM Try.prog n_laws_markIntS S_laws_markIntS := by
  refine validM_of_swp mixed is_laws_markIntS (by rintro _ _ ⟨a, rfl, _⟩; exact Nat.le_of_ble_eq_true rfl) ?_
  rintro _ _ rm ⟨⟨c, k0⟩, rfl, rfl, hpre⟩ hl
  try dsimp only at hpre
  obtain ⟨hcl, hk0, hkM⟩ := hpre
  have hcl' := hcl
  simp only [SM] at hcl'
  simp only [MK] at hkM
  change swp _ _ _ _ _ 1 _
  repeat' ((conv => whnf); first
    | refine ⟨_, rfl, ?_⟩
    | refine ⟨rfl, ?_⟩
    | refine ⟨_, _, rfl, at_map (by assumption), ?_⟩
    | refine idx_mapX (i := 0) rfl (by assumption) ?_
    | refine idx_map (by omega) (fun x hx => ?_)
    | refine idx_mapX (wrap_dn (by omega) (by omega)) (by assumption) ?_
    | refine idx_mapE (wrap_dn (by omega) (by omega)) (by omega) (fun x hx => ?_)
    | refine idx_mapL (by omega) (by first | assumption | (simp only [LIM]; omega)) (fun x hx => ?_)
    | refine idx_mapI (by omega) (by first | omega | (simp only [List.length_map] at *; omega)) (fun x hx => ?_)
    | refine ⟨_, _, hupd_at, rfl, rfl, Nat.le_of_ble_eq_true rfl, ?_⟩
    | refine ⟨_, _, rfl, rfl, rfl, Nat.le_of_ble_eq_true rfl, ?_⟩
    | (refine ⟨fun hc => ?_, fun hc => ?_⟩ <;> (try simp (disch := omega) only [List.length_map, wrap64] at hc))
    | fail)
  conv => whnf
  refine ⟨fun fr H nx rm' => ∃ i : Nat, Has fr [(0, ow0), (1, I (k0 + i)), (5, I i)] ∧ i ≤ c.length ∧ H 0 = some (isO (mkI i k0 ++ c.drop i)) ∧ 1 ≤ nx ∧ rm' = rm,
    fun fr _ _ _ => c.length - ix (fr 5), ⟨0, ⟨rfl, congrArg I (by omega), rfl, trivial⟩, Nat.zero_le _, rfl, ln_, rfl⟩, ?_⟩
  rintro fr H nx rm' ⟨i, hfr, hi, hH0, hnx, rfl⟩
  rw [hfr.eq]
  have hlL : (mkI i k0 ++ c.drop i).length = c.length := by rw [List.length_append, mkI_len, List.length_drop]; omega
  have hll : (arA inF (mkI i k0 ++ c.drop i)).length = c.length := by rw [arA, List.length_map, List.length_append, mkI_len, List.length_drop]; omega
  rcases Nat.lt_or_ge i c.length with hi' | hi'
  · obtain ⟨x, hx, hax⟩ := mkI_at' (k := k0) hi'
    have w1 : IntKind.i64.wrap (k0 + (i : Int) + 1) = k0 + ((i + 1 : Nat) : Int) := by rw [wrap64] <;> omega
    repeat' ((conv => whnf); first
      | (refine ⟨_, _, _, hH0, ?_⟩)
      | (refine ⟨_, _, _, _, hH0, rfl, hax, ?_⟩)
      | (refine ⟨_, _, _, _, hH0, hax, rfl, rfl, Nat.le_of_ble_eq_true rfl, ?_⟩)
      | (refine ⟨⟨i + 1, ⟨rfl, congrArg I w1, congrArg I (wrap_up hi' (Nat.le_trans hcl (by decide))), trivial⟩, hi', hupd_at.trans (by rw [← mkI_step hi']; exact arr_set (F := inF) (x := k0 + i) rfl), by omega, rfl⟩, ?_⟩; show c.length - ix (I _) < c.length - ix (I _); simp only [wrap_up hi' (Nat.le_trans hcl (by decide)), ix, Int.toNat_natCast]; omega)
      | refine ⟨_, rfl, ?_⟩
      | refine ⟨rfl, ?_⟩
      | refine ⟨_, _, rfl, at_map (by assumption), ?_⟩
      | refine idx_mapX (i := 0) rfl (by assumption) ?_
      | refine idx_map (by omega) (fun x hx => ?_)
      | refine idx_mapX (wrap_dn (by omega) (by omega)) (by assumption) ?_
      | refine idx_mapE (wrap_dn (by omega) (by omega)) (by omega) (fun x hx => ?_)
      | refine idx_mapL (by omega) (by first | assumption | (simp only [LIM]; omega)) (fun x hx => ?_)
      | refine idx_mapI (by omega) (by first | omega | (simp only [List.length_map] at *; omega)) (fun x hx => ?_)
      | refine ⟨_, _, hupd_at, rfl, rfl, Nat.le_of_ble_eq_true rfl, ?_⟩
      | refine ⟨_, _, rfl, rfl, rfl, Nat.le_of_ble_eq_true rfl, ?_⟩
      | (refine ⟨fun hc => ?_, fun hc => ?_⟩ <;> (try simp (disch := omega) only [List.length_map, wrap64] at hc) <;> (try (exfalso; first | contradiction | omega)))
      | fail)
  · have hie : i = c.length := by omega
    subst hie
    rw [List.drop_length, List.append_nil] at hH0
    have hmL := mkI_len c.length k0
    have hmA : (arA inF (mkI c.length k0)).length = c.length := by rw [arA, List.length_map, mkI_len]
    repeat' ((conv => whnf); first
      | (refine ⟨_, _, _, hH0, ?_⟩)
      | exact finM_s1 (F := inF) (T := ty_int) (sz := 1) (l := mkI c.length k0) (Nat.le_refl _) hH0 ⟨⟨_, rfl, .inl rfl⟩, trivial⟩ ⟨(c, k0), rfl, rfl, rfl, rfl⟩
      | refine ⟨_, rfl, ?_⟩
      | refine ⟨rfl, ?_⟩
      | refine ⟨_, _, rfl, at_map (by assumption), ?_⟩
      | refine idx_mapX (i := 0) rfl (by assumption) ?_
      | refine idx_map (by omega) (fun x hx => ?_)
      | refine idx_mapX (wrap_dn (by omega) (by omega)) (by assumption) ?_
      | refine idx_mapE (wrap_dn (by omega) (by omega)) (by omega) (fun x hx => ?_)
      | refine idx_mapL (by omega) (by first | assumption | (simp only [LIM]; omega)) (fun x hx => ?_)
      | refine idx_mapI (by omega) (by first | omega | (simp only [List.length_map] at *; omega)) (fun x hx => ?_)
      | refine ⟨_, _, hupd_at, rfl, rfl, Nat.le_of_ble_eq_true rfl, ?_⟩
      | refine ⟨_, _, rfl, rfl, rfl, Nat.le_of_ble_eq_true rfl, ?_⟩
      | (refine ⟨fun hc => ?_, fun hc => ?_⟩ <;> (try simp (disch := omega) only [List.length_map, wrap64] at hc) <;> (try (exfalso; first | contradiction | omega)))
      | fail)
theorem nS_K {f : Nat → Nat} {l m : List (List Int)} (h : l.length = m.length) : nS.K f l = nS.K f m := by
  apply List.ext_getElem?
  intro j
  simp only [Nest.K, List.getElem?_mapIdx]
  by_cases hj : j < l.length
  · rw [List.getElem?_eq_getElem hj, List.getElem?_eq_getElem (show j < m.length by omega)]; rfl
  · rw [List.getElem?_eq_none (by omega), List.getElem?_eq_none (by omega)]
theorem markI_heap {H : Hp} {l : List (List Int)} {k0 e : Int} {i : Nat} {x : List Int} (hx : l[i]? = some x) (he : e = endIs (l.take i) k0) (hH1 : ∀ j v, (partIs l k0 i)[j]? = some v → H (j + 1) = some (nS.ob1 v)) :
    ∀ j v, (partIs l k0 (i + 1))[j]? = some v → hupd (i + 1) (some (isO (mkI x.length e))) H (j + 1) = some (nS.ob1 v) := by
  intro j v hj
  have hi := (List.getElem?_eq_some_iff.1 hx).1
  rw [← partIs_step hx, List.getElem?_set, partIs_len (Nat.le_of_lt hi)] at hj
  by_cases h : i = j
  · subst h
    rw [if_pos rfl, if_pos hi] at hj
    cases hj
    rw [hupd_at, he]; rfl
  · rw [if_neg h] at hj
    rw [hupd_ne (by omega)]
    exact hH1 j v hj
set_option maxHeartbeats 4000000 in
set_option maxRecDepth 100000 in
theorem v_laws_markIntSS_o : ValidM Try.prog n_laws_markIntSS_o S_laws_markIntSS_o := by
  refine validM_of_swp mixed is_laws_markIntSS_o (by rintro _ _ ⟨a, rfl, _⟩; exact Nat.le_of_ble_eq_true rfl) ?_
  rintro _ _ rm ⟨⟨l, k0⟩, rfl, rfl, hpre⟩ hl
  try dsimp only at hpre
  obtain ⟨hsm, hk0, hkM⟩ := hpre
  have hlen : l.length ≤ 1048576 := hsm.1
  have hlenL : l.length ≤ LIM := Nat.le_trans hlen (by decide)
  have hE1 : ∀ j v, l[j]? = some v → (nS.In l)[j + 1]? = some (nS.ob1 v) := fun j v hj => Nest.In_at hj
  have hE0 : (nS.In l)[0]? = some (nS.ob (· + 1) l) := rfl
  have hEl : (nS.In l).length = l.length + 1 := Nest.In_len
  have hbd := fun i => endIs_bounds (l.take i) k0 fun v hv => hsm.2 v (List.mem_of_mem_take hv)
  have htl : ∀ i, (l.take i).length ≤ l.length := fun i => by rw [List.length_take]; omega
  conv => whnf
  conv => whnf
  refine ⟨fun fr H nx rm' => ∃ i : Nat, Has fr [(0, ow0), (1, I (endIs (l.take i) k0)), (5, I i)] ∧ i ≤ l.length ∧ H 0 = some (nS.ob (· + 1) (partIs l k0 i)) ∧ (∀ j v, (partIs l k0 i)[j]? = some v → H (j + 1) = some (nS.ob1 v)) ∧ l.length < nx ∧ rm' = rm,
    fun fr _ _ _ => l.length - ix (fr 5), ⟨0, ⟨rfl, rfl, rfl, trivial⟩, Nat.zero_le _, by rw [partIs_zero]; exact hE0, by rw [partIs_zero]; exact hE1, by show _ < (nS.In l).length + 16 + 16; omega, rfl⟩, ?_⟩
  rintro fr H nx rm' ⟨i, hfr, hi, hH0, hH1, hnx, rfl⟩
  rw [hfr.eq]
  have hpl := partIs_len (k := k0) hi
  have hvl : (nS.K (· + 1) (partIs l k0 i)).length = l.length := by rw [Nest.K_len, hpl]
  rcases Nat.lt_or_ge i l.length with hi' | hi'
  · obtain ⟨x, hx⟩ : ∃ x, l[i]? = some x := ⟨_, List.getElem?_eq_getElem hi'⟩
    have hax := partIs_at (k := k0) hx
    have hvat := Nest.K_at (N := nS) (f := (· + 1)) hax
    have hb := hbd i
    have ht := htl i
    have hxc : x.length ≤ SM := hsm.2 x (List.mem_of_getElem? hx)
    repeat' ((conv => whnf); first
      | (refine ⟨_, _, _, hH0, ?_⟩)
      | (refine ⟨_, _, _, _, hH0, rfl, hvat, ?_⟩)
      | (refine ⟨_, ldc_pa hH0 hvat (Nat.le_of_ble_eq_true rfl), ?_⟩)
      | (refine mq_mark (F := inF) (T := ty_int) (sz := 1) (k := i + 1) (l := x) (l' := mkI x.length (endIs (l.take i) k0)) (n := endIs (l.take i) k0) v_laws_markIntS (by exact hl) (hH1 i x hax) rfl ⟨(x, _), rfl, rfl, hxc, by dsimp only; omega, by dsimp only [MK]; omega⟩ (fun r obs' h => K_laws_markIntS h) ?_)
      | refine ⟨_, rfl, ?_⟩
      | refine ⟨rfl, ?_⟩
      | refine ⟨_, _, rfl, at_map (by assumption), ?_⟩
      | refine idx_mapX (i := 0) rfl (by assumption) ?_
      | refine idx_map (by omega) (fun x hx => ?_)
      | refine idx_mapX (wrap_dn (by omega) (by omega)) (by assumption) ?_
      | refine idx_mapE (wrap_dn (by omega) (by omega)) (by omega) (fun x hx => ?_)
      | refine idx_mapL (by omega) (by first | assumption | (simp only [LIM]; omega)) (fun x hx => ?_)
      | refine idx_mapI (by omega) (by first | omega | (simp only [List.length_map] at *; omega)) (fun x hx => ?_)
      | refine ⟨_, ldc_cells hupd_at (Nat.le_of_ble_eq_true rfl), ?_⟩
      | refine ⟨_, ldc_cells (by first | assumption | exact zk ‹_› (by omega) | exact zk (zk ‹_› (by omega)) (by omega)) (Nat.le_of_ble_eq_true rfl), ?_⟩
      | refine ⟨_, _, hupd_at, rfl, rfl, Nat.le_of_ble_eq_true rfl, ?_⟩
      | refine ⟨_, _, rfl, rfl, rfl, Nat.le_of_ble_eq_true rfl, ?_⟩
      | (refine ⟨?_, _, (?_ : (_ : Option Ob) = _), rfl, rfl, ?_, ?_⟩; rotate_left; (exact hk_); exact Nat.le_of_ble_eq_true rfl)
      | refine ⟨_, _, _, _, ((by exact hk_) : (_ : Option Ob) = _), rfl, at_mapA (by assumption), ?_⟩
      | refine idx_ow (by exact hk_) (by omega) (fun x hx => ?_)
      | refine ⟨_, _, _, _, ((by exact hk_) : (_ : Option Ob) = _), rfl, fill_at (by omega), ?_⟩
      | refine ⟨_, _, _, _, ((by exact hk_) : (_ : Option Ob) = _), fill_at (by omega), rfl, rfl, Nat.le_of_ble_eq_true rfl, ?_⟩
      | refine idx_owL (by exact hk_) (by omega) (by simp only [LIM]; omega) (fun x hx => ?_)
      | refine idx_owI (by exact hk_) (by omega) (by first | omega | (simp only [List.length_map] at *; omega)) (fun x hx => ?_)
      | refine ⟨_, _, _, _, ((by exact hk_) : (_ : Option Ob) = _), at_mapA (by assumption), rfl, rfl, Nat.le_of_ble_eq_true rfl, ?_⟩
      | refine ⟨_, ldc_pa (by exact hk_) (at_mapA (by assumption)) (Nat.le_of_ble_eq_true rfl), ?_⟩
      | refine ⟨_, rfl, rfl, _, ((by exact hk_) : (_ : Option Ob) = _), (by exact ap_), ?_⟩
      | refine ⟨_, news_ow hupd_at, newsz_ow hupd_at, _, ((by exact hk_) : (_ : Option Ob) = _), (by exact ap_), ?_⟩
      | refine ⟨_, _, _, ((by exact hk_) : (_ : Option Ob) = _), ?_⟩
      | refine ⟨_, ((by exact hk_) : (_ : Option Ob) = _), ?_⟩
      | refine ⟨(show _ ≠ _ from (by first | decide | omega)), ?_⟩
      | refine ⟨(show _ ≤ _ from (by exact ap_)), ?_⟩
      | (refine ⟨fun hc => ?_, fun hc => ?_⟩ <;> (try simp (disch := omega) only [List.length_map, wrap64] at hc) <;> (try (exfalso; first | contradiction | omega)))
      | (refine ⟨⟨(by omega), (by omega), (by simp only [List.length_map] at *; simp only [LIM] at *; omega), (by simp only [List.length_map] at *; simp only [LIM] at *; omega)⟩, ?_⟩; (try simp only [List.length_map, Int.toNat_natCast]))
      | (refine ⟨_, slc_to rfl (by first | omega | (simp only [List.length_map] at *; omega)), ?_⟩; rw [map_take'])
      | (refine ⟨_, slc_toI rfl (by omega) (by first | omega | (simp only [List.length_map] at *; omega)), ?_⟩; rw [map_take'])
      | fail)
    conv => whnf
    refine ⟨⟨i + 1, ⟨rfl, congrArg I (by rw [endIs_take hx]), congrArg I (wrap_up hi' hlenL), trivial⟩, hi', ?_, markI_heap hx rfl hH1, by omega, rfl⟩, ?_⟩
    · rw [hupd_ne (by omega)]
      exact hH0.trans (congrArg (fun z => some (Ob.arr ty_Sint 1 z)) (nS_K (by rw [partIs_len (Nat.le_of_lt hi'), partIs_len hi'])))
    · show l.length - ix (I _) < l.length - ix (I _)
      simp only [wrap_up hi' hlenL, ix, Int.toNat_natCast]
      omega
  · have hie : i = l.length := by omega
    subst hie
    rw [partIs_end] at hH0 hH1
    rw [List.take_length] at hfr ⊢
    have hml := mkIs_len l k0
    have hvm : (nS.K (· + 1) (mkIs l k0)).length = l.length := by rw [Nest.K_len, hml]
    repeat' ((conv => whnf); first
      | (refine ⟨_, _, _, hH0, ?_⟩)
      | exact finM_nin (N := nS) (l := mkIs l k0) (Nat.le_refl _) (by rw [hml]; exact hEl) hH0 hH1 ⟨⟨_, rfl, .inl rfl⟩, trivial⟩ ⟨(l, k0), rfl, rfl, rfl, rfl⟩
      | refine ⟨_, rfl, ?_⟩
      | refine ⟨rfl, ?_⟩
      | refine ⟨_, _, rfl, at_map (by assumption), ?_⟩
      | refine idx_mapX (i := 0) rfl (by assumption) ?_
      | refine idx_map (by omega) (fun x hx => ?_)
      | refine idx_mapX (wrap_dn (by omega) (by omega)) (by assumption) ?_
      | refine idx_mapE (wrap_dn (by omega) (by omega)) (by omega) (fun x hx => ?_)
      | refine idx_mapL (by omega) (by first | assumption | (simp only [LIM]; omega)) (fun x hx => ?_)
      | refine idx_mapI (by omega) (by first | omega | (simp only [List.length_map] at *; omega)) (fun x hx => ?_)
      | refine ⟨_, ldc_cells hupd_at (Nat.le_of_ble_eq_true rfl), ?_⟩
      | refine ⟨_, ldc_cells (by first | assumption | exact zk ‹_› (by omega) | exact zk (zk ‹_› (by omega)) (by omega)) (Nat.le_of_ble_eq_true rfl), ?_⟩
      | refine ⟨_, _, hupd_at, rfl, rfl, Nat.le_of_ble_eq_true rfl, ?_⟩
      | refine ⟨_, _, rfl, rfl, rfl, Nat.le_of_ble_eq_true rfl, ?_⟩
      | (refine ⟨?_, _, (?_ : (_ : Option Ob) = _), rfl, rfl, ?_, ?_⟩; rotate_left; (exact hk_); exact Nat.le_of_ble_eq_true rfl)
      | refine ⟨_, _, _, _, ((by exact hk_) : (_ : Option Ob) = _), rfl, at_mapA (by assumption), ?_⟩
      | refine idx_ow (by exact hk_) (by omega) (fun x hx => ?_)
      | refine ⟨_, _, _, _, ((by exact hk_) : (_ : Option Ob) = _), rfl, fill_at (by omega), ?_⟩
      | refine ⟨_, _, _, _, ((by exact hk_) : (_ : Option Ob) = _), fill_at (by omega), rfl, rfl, Nat.le_of_ble_eq_true rfl, ?_⟩
      | refine idx_owL (by exact hk_) (by omega) (by simp only [LIM]; omega) (fun x hx => ?_)
      | refine idx_owI (by exact hk_) (by omega) (by first | omega | (simp only [List.length_map] at *; omega)) (fun x hx => ?_)
      | refine ⟨_, _, _, _, ((by exact hk_) : (_ : Option Ob) = _), at_mapA (by assumption), rfl, rfl, Nat.le_of_ble_eq_true rfl, ?_⟩
      | refine ⟨_, ldc_pa (by exact hk_) (at_mapA (by assumption)) (Nat.le_of_ble_eq_true rfl), ?_⟩
      | refine ⟨_, rfl, rfl, _, ((by exact hk_) : (_ : Option Ob) = _), (by exact ap_), ?_⟩
      | refine ⟨_, news_ow hupd_at, newsz_ow hupd_at, _, ((by exact hk_) : (_ : Option Ob) = _), (by exact ap_), ?_⟩
      | refine ⟨_, _, _, ((by exact hk_) : (_ : Option Ob) = _), ?_⟩
      | refine ⟨_, ((by exact hk_) : (_ : Option Ob) = _), ?_⟩
      | refine ⟨(show _ ≠ _ from (by first | decide | omega)), ?_⟩
      | refine ⟨(show _ ≤ _ from (by exact ap_)), ?_⟩
      | (refine ⟨fun hc => ?_, fun hc => ?_⟩ <;> (try simp (disch := omega) only [List.length_map, wrap64] at hc) <;> (try (exfalso; first | contradiction | omega)))
      | (refine ⟨⟨(by omega), (by omega), (by simp only [List.length_map] at *; simp only [LIM] at *; omega), (by simp only [List.length_map] at *; simp only [LIM] at *; omega)⟩, ?_⟩; (try simp only [List.length_map, Int.toNat_natCast]))
      | (refine ⟨_, slc_to rfl (by first | omega | (simp only [List.length_map] at *; omega)), ?_⟩; rw [map_take'])
      | (refine ⟨_, slc_toI rfl (by omega) (by first | omega | (simp only [List.length_map] at *; omega)), ?_⟩; rw [map_take'])
      | fail)
/-! ### a cert's parts -/
section
variable {P : Program} {g : Nat} {S : MSpec} {fr : Env} {H : Hp} {a b k nm nx rm rm' lim : Nat} {f : Nat → Nat} {K : KV} {xs : List (X × List (Option Nat))} {res : List Rs} {post : AV → List (Option Ob) → Prop} {c : Ce}
/-- The names of a cert's parts. -/
def cks (a k : Nat) (f : Nat → Nat) (n : Nat) : List Nat := a :: nks k f n
theorem cks_len {n : Nat} : (cks a k f n).length = n + 2 := by simp [cks, nks_len]
theorem cks_at {n j : Nat} (h : j < n) : (cks a k f n)[j + 2]? = some (f j) := by
  rw [cks, List.getElem?_cons_succ, nks_at h]
theorem cks_nodup (h : nS.At H b k f c.b) (h1 : a ≠ k) (h2 : ∀ j, j < c.b.length → f j ≠ a) : (cks a k f c.b.length).Nodup := by
  rw [cks, List.nodup_cons]
  refine ⟨fun hm => ?_, h.nodup⟩
  rw [nks, List.mem_cons] at hm
  rcases hm with hm | hm
  · exact h1 hm
  · obtain ⟨j, hj, e⟩ := List.mem_map.1 hm
    exact h2 j (List.mem_range.1 hj) e
/-- A cert's parts in, and others in their place. -/
theorem mq_cin {c' : Ce} {n m : Int} (hv : ValidM P g S) (hl : rm + S.cost ≤ LIM) (hca : H a = some (itO c.c)) (h : nS.At H b k f c.b) (hak : a ≠ k) (hfa : ∀ j, j < c.b.length → f j ≠ a)
    (ha : nrmArgs fr xs = [ceW a k, I n]) (hpre : S.pre [ceW 0 1, I n] (ceIn c)) (hll : c'.b.length = c.b.length)
    (hpost : ∀ r obs', S.post [ceW 0 1, I n] (ceIn c) r obs' → r = I m ∧ obs' = ceObs c')
    (hK : ∀ H' : Hp, H' a = some (itO c'.c) → nS.At H' b k f c'.b → (∀ i, i ≠ a → nS.Off k f c.b i → H' i = H i) → K (I m) H' (rm + S.cost)) : MQ P nm fr H rm K g S xs := by
  have hρ0 : nmapS S.st (cks a k f c.b.length) nm 0 = a := nmap_lt (s := S.st) rfl
  have hρ1 : nmapS S.st (cks a k f c.b.length) nm 1 = k := nmap_lt (s := S.st) rfl
  have hρ : ∀ j, j < c.b.length → nmapS S.st (cks a k f c.b.length) nm (j + 2) = f j := fun j hj => nmap_lt (cks_at hj)
  refine ⟨⟨hv, hl, cks a k f c.b.length, [ceW 0 1, I n], ceIn c, cks_nodup h hak hfa, by rw [ceIn_len, cks_len], fun i k' hi => ?_, ?_, hpre, fun r obs' hp _ _ => ?_⟩⟩
  · match i, hi with
    | 0, hi => cases hi; exact ⟨_, rfl, by rw [arr_ren]; exact hca⟩
    | 1, hi => cases hi; exact ⟨_, rfl, by rw [Nest.ob_ren (f := f) hρ]; exact h.out⟩
    | j + 2, hi =>
      have hj : j < c.b.length := by
        have := (List.getElem?_eq_some_iff.1 hi).1
        rw [cks_len] at this; omega
      rw [cks_at hj] at hi
      cases hi
      have hx := List.getElem?_eq_getElem hj
      exact ⟨_, ceIn_at hx, by rw [Nest.ob1_ren]; exact h.inn j _ hx⟩
  · rw [ha]
    show [ceW (nmapS S.st _ nm 0) (nmapS S.st _ nm 1), I n] = _
    rw [hρ0, hρ1]
  · obtain ⟨rfl, rfl⟩ := hpost r obs' hp
    have hcase : ∀ j, j < c.b.length + 2 → (j = 0 ∧ nmapS S.st (cks a k f c.b.length) nm j = a) ∨ (j = 1 ∧ nmapS S.st (cks a k f c.b.length) nm j = k) ∨ ∃ i, i < c.b.length ∧ j = i + 2 ∧ nmapS S.st (cks a k f c.b.length) nm j = f i := by
      intro j hj
      match j, hj with
      | 0, _ => exact .inl ⟨rfl, hρ0⟩
      | 1, _ => exact .inr (.inl ⟨rfl, hρ1⟩)
      | i + 2, hj => exact .inr (.inr ⟨i, by omega, rfl, hρ i (by omega)⟩)
    have hget := hput_at (nmapS S.st (cks a k f c.b.length) nm) (ceObs c') 0 H (fun j j' _ h1 _ h2 e => by
      rw [ceObs_len, hll] at h1 h2
      rcases hcase j (by omega) with ⟨rfl, e1⟩ | ⟨rfl, e1⟩ | ⟨i, hi, rfl, e1⟩ <;> rcases hcase j' (by omega) with ⟨rfl, e2⟩ | ⟨rfl, e2⟩ | ⟨i', hi', rfl, e2⟩ <;> replace e := e1.symm.trans (e.trans e2)
      · rfl
      · exact absurd e hak
      · exact absurd e.symm (hfa i' hi')
      · exact absurd e.symm hak
      · rfl
      · exact absurd e.symm (h.ne i' hi')
      · exact absurd e (hfa i hi)
      · exact absurd e (h.ne i hi)
      · rw [h.inj i i' hi hi' e])
    refine hK _ ?_ ⟨?_, fun j v hj => ?_, fun j hj => h.ne j (by omega), fun j j' hj hj' => h.inj j j' (by omega) (by omega), h.lt, fun j hj => h.lts j (by omega)⟩ fun i hi hi' => ?_
    · have := hget.1 0 _ rfl
      rw [Nat.zero_add, hρ0] at this
      refine this.trans ?_
      show some ((itO c'.c).ren _) = _
      rw [arr_ren]
    · have := hget.1 1 _ rfl
      rw [Nat.zero_add, hρ1] at this
      refine this.trans ?_
      show some ((nS.ob (· + 2) c'.b).ren _) = _
      rw [Nest.ob_ren (f := f) (fun j hj => hρ j (by omega))]
    · have hlt := (List.getElem?_eq_some_iff.1 hj).1
      have := hget.1 (j + 2) _ (ceObs_at hj)
      rw [Nat.zero_add, hρ j (by omega)] at this
      rw [this]
      show some ((nS.ob1 v).ren _) = _
      rw [Nest.ob1_ren]
    · refine hget.2 i fun j _ hj e => ?_
      rw [ceObs_len, hll] at hj
      rcases hcase j (by omega) with ⟨rfl, e1⟩ | ⟨rfl, e1⟩ | ⟨q, hq, rfl, e1⟩
      · exact hi (e.symm.trans e1)
      · exact hi'.1 (e.symm.trans e1)
      · exact hi'.2 q hq (e1.symm.trans e)
theorem finM_cin {n : Int} {M : Nat} (hrm : rm' ≤ lim) (hM : M = c.b.length + 2) (h0 : H 0 = some (itO c.c)) (h1 : H 1 = some (nS.ob (· + 2) c.b)) (hf : ∀ j v, c.b[j]? = some v → H (j + 2) = some (nS.ob1 v)) (hres : resM (List.range (c.b.length + 2)) fr H res [.o (.c (fI n))]) (hpost : post (I n) (ceObs c)) :
    rm' ≤ lim ∧ ∃ (ks : List Nat) (az : List AW) (r : AV) (obs' : List (Option Ob)), resM ks fr H res az ∧ resV az = r.ren (nmap ks nx) ∧ post r obs' ∧
      ks.Nodup ∧ (∀ i, i < M → ks[i]? = some i) ∧ obs'.length = ks.length ∧
      ∀ (i k : Nat), ks[i]? = some k → (∃ ob : Ob, obs'[i]? = some (some ob) ∧ H k = some (ob.ren (nmap ks nx))) ∨ (obs'[i]? = some none ∧ H k = none) := by
  have hat : ∀ j, j < c.b.length + 2 → (List.range (c.b.length + 2))[j]? = some j := fun j hj => List.getElem?_range hj
  refine ⟨hrm, List.range (c.b.length + 2), _, I n, _, hres, rfl, hpost, List.nodup_range, fun i hi => hat i (by omega), by rw [ceObs_len]; simp, fun i k' h => ?_⟩
  left
  have hi : i < c.b.length + 2 := by
    have := (List.getElem?_eq_some_iff.1 h).1
    simpa using this
  rw [hat i hi] at h
  cases h
  match i, hi with
  | 0, hi => exact ⟨_, rfl, by rw [arr_ren]; exact h0⟩
  | 1, hi => exact ⟨_, rfl, by rw [Nest.ob_ren (f := (· + 2)) (fun j hj => nmap_lt (hat (j + 2) (by omega)))]; exact h1⟩
  | j + 2, hi =>
    have hx := List.getElem?_eq_getElem (show j < c.b.length by omega)
    exact ⟨_, ceObs_at hx, by rw [Nest.ob1_ren]; exact hf j _ hx⟩
/-- What a reader sees of a cert's parts. -/
theorem bor_cert {s1 s2 : Option Nat} (ha : H a = some (itO c.c)) (h : nS.At H b k f c.b) : borV H [s1, s2] (ceW a k) = agg (ceF c) := by
  show AV.w (.g [bor H s1 (.ow a), bor H s2 (.ow k)]) = _
  rw [bor_ow ha (fcellss_f itF c.c), h.bor]; rfl
end
set_option maxHeartbeats 4000000 in
set_option maxRecDepth 100000 in
theorem v_laws_markCert_o : ValidM Try.prog n_laws_markCert_o S_laws_markCert_o := by
  refine validM_of_swp mixed is_laws_markCert_o (by rintro _ _ ⟨a, rfl, _⟩; exact Nat.le_of_ble_eq_true rfl) ?_
  rintro _ _ rm ⟨⟨c, k0⟩, rfl, rfl, hpre⟩ hl
  try dsimp only at hpre
  obtain ⟨hsm, hk0, hkM⟩ := hpre
  have hE2 : ∀ j v, c.b[j]? = some v → (ceIn c)[j + 2]? = some (nS.ob1 v) := fun j v hj => ceIn_at hj
  have hEl : (ceIn c).length = c.b.length + 2 := ceIn_len
  have hc1 : c.c.length ≤ 1048576 := hsm.1
  have hA : nS.At (fun k => (ceIn c)[k]?) (c.b.length + 2) 1 (· + 2) c.b := ⟨rfl, hE2, fun j _ => by show j + 2 ≠ 1; omega, fun j j' _ _ e => by have : j + 2 = j' + 2 := e; omega, by omega, fun j hj => by show j + 2 < _; omega⟩
  have hEl' : ((fun a : Ce × Int => ceIn a.fst) (c, k0)).length = c.b.length + 2 := ceIn_len
  have hEb := endIs_bounds c.b (k0 + 4 * c.c.length) hsm.2.2
  conv => whnf
  refine ⟨_, ldc_cells hupd_at (Nat.le_of_ble_eq_true rfl), ?_⟩
  conv => whnf
  refine mq_mark (F := itF) (T := ty_impl_Item) (sz := 4) (k := 0) (l := c.c) (l' := mkC c.c.length k0) (n := k0) (m := k0 + 4 * c.c.length) v_laws_markItemS_o (by exact hl) (zk (by rfl) (by omega)) (by rfl) ⟨(some c.c, k0), rfl, rfl, fun d hd => by cases hd; exact hsm.1, hk0, by dsimp only [MK]; omega⟩ (fun r obs' h => K_mark_o h) ?_
  conv => whnf
  refine ⟨_, ldc_cells (zk hupd_at (by omega)) (Nat.le_of_ble_eq_true rfl), ?_⟩
  conv => whnf
  refine mq_nin (N := nS) (f := (· + 2)) (b := c.b.length + 2) (k := 1) (l := c.b) (l' := mkIs c.b (k0 + 4 * c.c.length)) (n := k0 + 4 * c.c.length) (m := endIs c.b (k0 + 4 * c.c.length)) v_laws_markIntSS_o (by exact hl) ((hA.upd ⟨by omega, fun j hj => by show j + 2 ≠ _; omega⟩).upd ⟨by omega, fun j _ => by show j + 2 ≠ 0; omega⟩) (by rfl) ⟨(c.b, k0 + 4 * c.c.length), rfl, rfl, hsm.2, by dsimp only; omega, by dsimp only; omega⟩ (mkIs_len _ _) (fun r obs' h => K_laws_markIntSS_o h) fun H' hA' ho => ?_
  have hml := mkIs_len c.b (k0 + 4 * c.c.length)
  conv => whnf
  exact finM_cin (c := mkCe c k0) (n := endIs c.b (k0 + 4 * c.c.length)) (Nat.le_refl _) (by show _ = (mkIs c.b (k0 + 4 * c.c.length)).length + 2; rw [hml]; exact ceIn_len) ((ho 0 ⟨by omega, fun j _ => by show j + 2 ≠ 0; omega⟩).trans hupd_at) hA'.out hA'.inn ⟨⟨_, rfl, .inl rfl⟩, trivial⟩ ⟨(c, k0), rfl, rfl, rfl, rfl⟩
end Av
end Go.Proofs.Ytdboofnogabefaa
