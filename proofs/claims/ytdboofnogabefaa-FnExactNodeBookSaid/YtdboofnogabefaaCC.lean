/- The walks: sizes, copies, equality and marks of certs; what is final of one. -/
import Derived.Test.YtdboofnogabefaaJ50
set_option linter.unusedVariables false
set_option linter.unusedSimpArgs false
namespace Go.Proofs.Ytdboofnogabefaa
namespace Av
open Go.RowKit
attribute [local irreducible] Valid ValidM
set_option maxHeartbeats 4000000 in
set_option maxRecDepth 100000 in
theorem v_laws_eqIntS : Valid Try.prog n_laws_eqIntS S_laws_eqIntS := by
  refine valid_of_swp mixed is_laws_eqIntS (by rintro _ ⟨a, rfl, _⟩; exact Nat.le_of_ble_eq_true rfl) ?_
  rintro _ rm ⟨⟨a1, b1⟩, rfl, hpre⟩ hl
  try dsimp only at hpre
  have hpre0 := hpre
  obtain ⟨hp1, hp2⟩ := hpre
  repeat' ((conv => whnf); first
    | refine ⟨_, rfl, ?_⟩
    | refine ⟨rfl, ?_⟩
    | refine ⟨_, _, rfl, at_map (by assumption), ?_⟩
    | refine idx_mapX (i := 0) rfl (by assumption) ?_
    | refine idx_map (by omega) (fun x hx => ?_)
    | refine idx_mapX (wrap_dn (by omega) (by omega)) (by assumption) ?_
    | refine idx_mapE (wrap_dn (by omega) (by omega)) (by omega) (fun x hx => ?_)
    | refine idx_mapL (by omega) (by first | assumption | (simp only [LIM]; omega)) (fun x hx => ?_)
    | refine idx_mapI (by omega) (by first | omega | (simp only [List.length_map] at *; omega)) (fun x hx => ?_)
    | refine ⟨_, ldc_cells hupd_at (Nat.le_of_ble_eq_true rfl), ?_⟩
    | refine ⟨_, ldc_cells (by first | assumption | exact zk ‹_› (by omega) | exact zk (zk ‹_› (by omega)) (by omega)) (Nat.le_of_ble_eq_true rfl), ?_⟩
    | (refine ⟨fun hc => ?_, fun hc => ?_⟩ <;> (try simp (disch := omega) only [List.length_map, wrap64] at hc))
    | exact ⟨⟨_, rfl, rfl, (a1, b1), rfl, (by refine congrArg B (Eq.symm (tb_pos ?_)); (try dsimp only); first | done | exact absurd True.intro hj | ((rintro rfl; simp at hc)))⟩, (by first | exact Nat.le_refl _ | omega), (by exact h0_)⟩
    | exact ⟨⟨_, rfl, rfl, (a1, b1), rfl, (by refine congrArg B (Eq.symm (tb_neg ?_)); (try dsimp only); first | done | exact absurd True.intro hj | ((rintro rfl; simp at hc)))⟩, (by first | exact Nat.le_refl _ | omega), (by exact h0_)⟩
    | fail)
  conv => whnf
  refine ⟨fun fr H nx rm' => ∃ (i : Nat), Has fr [(0, one (nsF a1)), (1, one (nsF b1)), (5, I i)] ∧ i ≤ a1.length ∧ (∀ j x, j < i → a1[j]? = some x → b1[j]? = some x) ∧ 1 ≤ nx ∧ H 0 = none ∧ rm' = rm,
    fun fr _ _ _ => a1.length - ix (fr 5), ⟨0, ⟨(by first | rfl | (show I _ = I _; simp)), (by first | rfl | (show I _ = I _; simp)), (by first | rfl | (show I _ = I _; simp)), trivial⟩, Nat.zero_le _, (by first | trivial | rfl | (intros; omega) | simp), (by first | decide | omega), (by exact h0_), rfl⟩, ?_⟩
  rintro fr H nx rm' ⟨i, hfr, hi, hq, hnx, hH, rfl⟩
  rw [hfr.eq]
  repeat' ((conv => whnf); first
    | refine ⟨_, rfl, ?_⟩
    | refine ⟨rfl, ?_⟩
    | refine ⟨_, _, rfl, at_map (by assumption), ?_⟩
    | refine idx_mapX (i := 0) rfl (by assumption) ?_
    | refine idx_map (by omega) (fun x hx => ?_)
    | refine idx_mapX (wrap_dn (by omega) (by omega)) (by assumption) ?_
    | refine idx_mapE (wrap_dn (by omega) (by omega)) (by omega) (fun x hx => ?_)
    | refine idx_mapL (by omega) (by first | assumption | (simp only [LIM]; omega)) (fun x hx => ?_)
    | refine idx_mapI (by omega) (by first | omega | (simp only [List.length_map] at *; omega)) (fun x hx => ?_)
    | refine ⟨_, ldc_cells hupd_at (Nat.le_of_ble_eq_true rfl), ?_⟩
    | refine ⟨_, ldc_cells (by first | assumption | exact zk ‹_› (by omega) | exact zk (zk ‹_› (by omega)) (by omega)) (Nat.le_of_ble_eq_true rfl), ?_⟩
    | (refine ⟨fun hc => ?_, fun hc => ?_⟩ <;> (try simp (disch := omega) only [List.length_map, wrap64] at hc))
    | (refine ⟨⟨i + 1, ⟨rfl, rfl, congrArg I (wrap_up (n := a1.length) (by omega) (hp1)), trivial⟩, (by omega), (by grind), (by omega), (by exact h0_), rfl⟩, ?_⟩; show a1.length - ix (I _) < a1.length - ix (I _); simp only [wrap_up (n := a1.length) (i := i) (by omega) (hp1), ix, Int.toNat_natCast]; omega)
    | exact ⟨⟨_, rfl, rfl, (a1, b1), rfl, (by refine congrArg B (Eq.symm (tb_pos ?_)); (try dsimp only); first | done | exact absurd True.intro hj | (first | (exact ext_of (by omega) (by grind)) | (rintro rfl; grind)))⟩, (by first | exact Nat.le_refl _ | omega), (by exact h0_)⟩
    | exact ⟨⟨_, rfl, rfl, (a1, b1), rfl, (by refine congrArg B (Eq.symm (tb_neg ?_)); (try dsimp only); first | done | exact absurd True.intro hj | (first | (exact ext_of (by omega) (by grind)) | (rintro rfl; grind)))⟩, (by first | exact Nat.le_refl _ | omega), (by exact h0_)⟩
    | fail)
/-! ### marks -/
theorem mkI_step {c : List Int} {k : Int} {i : Nat} (h : i < c.length) : (mkI i k ++ c.drop i).set i (k + i) = mkI (i + 1) k ++ c.drop (i + 1) := by
  rw [mkI_snoc, List.append_assoc, List.set_append_right _ _ (by rw [mkI_len]; exact Nat.le_refl _), mkI_len, Nat.sub_self]
  congr 1
  rw [List.drop_eq_getElem_cons h]; rfl
theorem mkI_at' {c : List Int} {k : Int} {i : Nat} (h : i < c.length) : ∃ x : Int, (mkI i k ++ c.drop i)[i]? = some x ∧ (arA inF (mkI i k ++ c.drop i))[i]? = some ((inF x).map AC.c) := by
  have hl : i < (mkI i k ++ c.drop i).length := by rw [List.length_append, mkI_len, List.length_drop]; omega
  exact ⟨_, List.getElem?_eq_getElem hl, by rw [arA, List.getElem?_map, List.getElem?_eq_getElem hl]; rfl⟩
set_option maxHeartbeats 4000000 in
set_option maxRecDepth 100000 in
theorem v_laws_markIntS : ValidM Try.prog n_laws_markIntS S_laws_markIntS := by
  refine validM_of_swp mixed is_laws_markIntS (by rintro _ _ ⟨a, rfl, _⟩; exact Nat.le_of_ble_eq_true rfl) ?_
  rintro _ _ rm ⟨⟨c, k0⟩, rfl, rfl, hpre⟩ hl
  try dsimp only at hpre
  obtain ⟨hcl, hk0, hkM⟩ := hpre
  have hcl' := hcl
  simp only [SM] at hcl'
  simp only [MK] at hkM
  change swp _ _ _ _ _ 1 _
  repeat' ((conv => whnf); first
    | refine ⟨_, rfl, ?_⟩
    | refine ⟨rfl, ?_⟩
    | refine ⟨_, _, rfl, at_map (by assumption), ?_⟩
    | refine idx_mapX (i := 0) rfl (by assumption) ?_
    | refine idx_map (by omega) (fun x hx => ?_)
    | refine idx_mapX (wrap_dn (by omega) (by omega)) (by assumption) ?_
    | refine idx_mapE (wrap_dn (by omega) (by omega)) (by omega) (fun x hx => ?_)
    | refine idx_mapL (by omega) (by first | assumption | (simp only [LIM]; omega)) (fun x hx => ?_)
    | refine idx_mapI (by omega) (by first | omega | (simp only [List.length_map] at *; omega)) (fun x hx => ?_)
    | refine ⟨_, _, hupd_at, rfl, rfl, Nat.le_of_ble_eq_true rfl, ?_⟩
    | refine ⟨_, _, rfl, rfl, rfl, Nat.le_of_ble_eq_true rfl, ?_⟩
    | (refine ⟨fun hc => ?_, fun hc => ?_⟩ <;> (try simp (disch := omega) only [List.length_map, wrap64] at hc))
    | fail)
  conv => whnf
  refine ⟨fun fr H nx rm' => ∃ i : Nat, Has fr [(0, ow0), (1, I (k0 + i)), (5, I i)] ∧ i ≤ c.length ∧ H 0 = some (isO (mkI i k0 ++ c.drop i)) ∧ 1 ≤ nx ∧ rm' = rm,
    fun fr _ _ _ => c.length - ix (fr 5), ⟨0, ⟨rfl, congrArg I (by omega), rfl, trivial⟩, Nat.zero_le _, rfl, ln_, rfl⟩, ?_⟩
  rintro fr H nx rm' ⟨i, hfr, hi, hH0, hnx, rfl⟩
  rw [hfr.eq]
  have hlL : (mkI i k0 ++ c.drop i).length = c.length := by rw [List.length_append, mkI_len, List.length_drop]; omega
  have hll : (arA inF (mkI i k0 ++ c.drop i)).length = c.length := by rw [arA, List.length_map, List.length_append, mkI_len, List.length_drop]; omega
  rcases Nat.lt_or_ge i c.length with hi' | hi'
  · obtain ⟨x, hx, hax⟩ := mkI_at' (k := k0) hi'
    have w1 : IntKind.i64.wrap (k0 + (i : Int) + 1) = k0 + ((i + 1 : Nat) : Int) := by rw [wrap64] <;> omega
    repeat' ((conv => whnf); first
      | (refine ⟨_, _, _, hH0, ?_⟩)
      | (refine ⟨_, _, _, _, hH0, rfl, hax, ?_⟩)
      | (refine ⟨_, _, _, _, hH0, hax, rfl, rfl, Nat.le_of_ble_eq_true rfl, ?_⟩)
      | (refine ⟨⟨i + 1, ⟨rfl, congrArg I w1, congrArg I (wrap_up hi' (Nat.le_trans hcl (by decide))), trivial⟩, hi', hupd_at.trans (by rw [← mkI_step hi']; exact arr_set (F := inF) (x := k0 + i) rfl), by omega, rfl⟩, ?_⟩; show c.length - ix (I _) < c.length - ix (I _); simp only [wrap_up hi' (Nat.le_trans hcl (by decide)), ix, Int.toNat_natCast]; omega)
      | refine ⟨_, rfl, ?_⟩
      | refine ⟨rfl, ?_⟩
      | refine ⟨_, _, rfl, at_map (by assumption), ?_⟩
      | refine idx_mapX (i := 0) rfl (by assumption) ?_
      | refine idx_map (by omega) (fun x hx => ?_)
      | refine idx_mapX (wrap_dn (by omega) (by omega)) (by assumption) ?_
      | refine idx_mapE (wrap_dn (by omega) (by omega)) (by omega) (fun x hx => ?_)
      | refine idx_mapL (by omega) (by first | assumption | (simp only [LIM]; omega)) (fun x hx => ?_)
      | refine idx_mapI (by omega) (by first | omega | (simp only [List.length_map] at *; omega)) (fun x hx => ?_)
      | refine ⟨_, _, hupd_at, rfl, rfl, Nat.le_of_ble_eq_true rfl, ?_⟩
      | refine ⟨_, _, rfl, rfl, rfl, Nat.le_of_ble_eq_true rfl, ?_⟩
      | (refine ⟨fun hc => ?_, fun hc => ?_⟩ <;> (try simp (disch := omega) only [List.length_map, wrap64] at hc) <;> (try (exfalso; first | contradiction | omega)))
      | fail)
  · have hie : i = c.length := by omega
    subst hie
    rw [List.drop_length, List.append_nil] at hH0
    have hmL := mkI_len c.length k0
    have hmA : (arA inF (mkI c.length k0)).length = c.length := by rw [arA, List.length_map, mkI_len]
    repeat' ((conv => whnf); first
      | (refine ⟨_, _, _, hH0, ?_⟩)
      | exact finM_s1 (F := inF) (T := ty_int) (sz := 1) (l := mkI c.length k0) (Nat.le_refl _) hH0 ⟨⟨_, rfl, .inl rfl⟩, trivial⟩ ⟨(c, k0), rfl, rfl, rfl, rfl⟩
      | refine ⟨_, rfl, ?_⟩
      | refine ⟨rfl, ?_⟩
      | refine ⟨_, _, rfl, at_map (by assumption), ?_⟩
      | refine idx_mapX (i := 0) rfl (by assumption) ?_
      | refine idx_map (by omega) (fun x hx => ?_)
      | refine idx_mapX (wrap_dn (by omega) (by omega)) (by assumption) ?_
      | refine idx_mapE (wrap_dn (by omega) (by omega)) (by omega) (fun x hx => ?_)
      | refine idx_mapL (by omega) (by first | assumption | (simp only [LIM]; omega)) (fun x hx => ?_)
      | refine idx_mapI (by omega) (by first | omega | (simp only [List.length_map] at *; omega)) (fun x hx => ?_)
      | refine ⟨_, _, hupd_at, rfl, rfl, Nat.le_of_ble_eq_true rfl, ?_⟩
      | refine ⟨_, _, rfl, rfl, rfl, Nat.le_of_ble_eq_true rfl, ?_⟩
      | (refine ⟨fun hc => ?_, fun hc => ?_⟩ <;> (try simp (disch := omega) only [List.length_map, wrap64] at hc) <;> (try (exfalso; first | contradiction | omega)))
      | fail)
/-! ### a cert's parts -/
section
variable {P : Program} {g : Nat} {S : MSpec} {fr : Env} {H : Hp} {a b k nm nx rm rm' lim : Nat} {f : Nat → Nat} {K : KV} {xs : List (X × List (Option Nat))} {res : List Rs} {post : AV → List (Option Ob) → Prop} {c : Ce}
end
end Av
end Go.Proofs.Ytdboofnogabefaa
