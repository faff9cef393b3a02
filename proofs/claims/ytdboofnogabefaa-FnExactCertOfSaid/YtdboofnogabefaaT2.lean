/- The walks: the tip, what is final, how chains begin. -/
import Derived.Test.YtdboofnogabefaaJ26
import Derived.Test.YtdboofnogabefaaT1
import Derived.Test.YtdboofnogabefaaP2
set_option linter.unusedVariables false
set_option linter.unusedSimpArgs false
namespace Go.Proofs.Ytdboofnogabefaa
namespace Av
open Go.RowKit
theorem con3_iff {c : List It} {m : Nat} {x y z : It} (hx : c[m]? = some x) (hy : c[m + 1]? = some y) (hz : c[m + 2]? = some z) : Con3 c m ↔ Nxt x.e y.e ∧ Nxt y.e z.e := by
  constructor
  · rintro ⟨a, b, d, h1, h2, h3, h4⟩
    rw [hx] at h1; rw [hy] at h2; rw [hz] at h3
    cases h1; cases h2; cases h3
    exact h4
  · intro h; exact ⟨x, y, z, hx, hy, hz, h⟩
attribute [local irreducible] Valid ValidM
set_option maxHeartbeats 4000000 in
set_option maxRecDepth 100000 in
theorem v_impl_final : Valid Try.prog n_impl_final S_impl_final := by
  refine valid_of_swp mixed is_impl_final (by rintro _ ⟨a, rfl, _⟩; exact Nat.le_of_ble_eq_true rfl) ?_
  rintro _ rm ⟨c, rfl, hpre⟩ hl
  try dsimp only at hpre
  have hpre0 := hpre
  have hp1 := hpre
  repeat' ((conv => whnf); first
    | refine ⟨_, rfl, ?_⟩
    | refine ⟨rfl, ?_⟩
    | refine ⟨_, _, rfl, at_map (by assumption), ?_⟩
    | refine idx_mapX (i := 0) rfl (by assumption) ?_
    | refine idx_map (by omega) (fun x hx => ?_)
    | refine idx_mapX (wrap_dn (by omega) (by omega)) (by assumption) ?_
    | refine idx_mapE (wrap_dn (by omega) (by omega)) (by omega) (fun x hx => ?_)
    | refine idx_mapL (by omega) (by first | assumption | (simp only [LIM]; omega)) (fun x hx => ?_)
    | refine idx_mapI (by omega) (by first | omega | (simp only [List.length_map] at *; omega)) (fun x hx => ?_)
    | refine ⟨_, ldc_cells hupd_at (Nat.le_of_ble_eq_true rfl), ?_⟩
    | refine ⟨_, ldc_cells (by first | assumption | exact zk ‹_› (by omega) | exact zk (zk ‹_› (by omega)) (by omega)) (Nat.le_of_ble_eq_true rfl), ?_⟩
    | (refine ⟨fun hc => ?_, fun hc => ?_⟩ <;> (try simp (disch := omega) only [List.length_map, wrap64] at hc))
    | fail)
  conv => whnf
  refine ⟨fun fr H nx rm' => ∃ (n : Nat), Has fr [(0, one (chF c)), (3, I n)] ∧ n ≤ c.length ∧ finAt c (n - 2) = finIn c ∧ 1 ≤ nx ∧ H 0 = none ∧ rm' = rm,
    fun fr _ _ _ => ix (fr 3), ⟨c.length, ⟨rfl, (show I _ = I _ by simp), trivial⟩, Nat.le_refl _, rfl, (by first | decide | omega), ne_, rfl⟩, ?_⟩
  rintro fr H nx rm' ⟨n, hfr, hn, hq, hnx, hH, rfl⟩
  rw [hfr.eq]
  have hL := hp1
  simp only [LIM] at hL
  rcases Nat.lt_or_ge 2 n with h2 | h2
  · obtain ⟨m, rfl⟩ : ∃ m, n = m + 3 := ⟨n - 3, by omega⟩
    have w3 : IntKind.i64.wrap (((m + 3 : Nat) : Int) - 3) = (m : Int) := by rw [wrap64] <;> omega
    have w2 : IntKind.i64.wrap (((m + 3 : Nat) : Int) - 2) = ((m + 1 : Nat) : Int) := by rw [wrap64] <;> omega
    have w1 : IntKind.i64.wrap (((m + 3 : Nat) : Int) - 1) = ((m + 2 : Nat) : Int) := by rw [wrap64] <;> omega
    obtain ⟨x, hx⟩ : ∃ x, c[m]? = some x := ⟨_, List.getElem?_eq_getElem (by omega)⟩
    obtain ⟨y, hy⟩ : ∃ x, c[m + 1]? = some x := ⟨_, List.getElem?_eq_getElem (by omega)⟩
    obtain ⟨z, hz⟩ : ∃ x, c[m + 2]? = some x := ⟨_, List.getElem?_eq_getElem (by omega)⟩
    have hcon := con3_iff hx hy hz
    have hq : finAt c (m + 1) = finIn c := hq
    repeat' ((conv => whnf); first
      | refine idx_mapX w3 hx ?_
      | refine idx_mapX w2 hy ?_
      | refine idx_mapX w1 hz ?_
      | refine ⟨_, rfl, ?_⟩
      | refine ⟨rfl, ?_⟩
      | refine ⟨_, _, rfl, at_map (by assumption), ?_⟩
      | refine idx_mapX (i := 0) rfl (by assumption) ?_
      | refine idx_map (by omega) (fun x hx => ?_)
      | refine idx_mapX (wrap_dn (by omega) (by omega)) (by assumption) ?_
      | refine idx_mapE (wrap_dn (by omega) (by omega)) (by omega) (fun x hx => ?_)
      | refine idx_mapL (by omega) (by first | assumption | (simp only [LIM]; omega)) (fun x hx => ?_)
      | refine idx_mapI (by omega) (by first | omega | (simp only [List.length_map] at *; omega)) (fun x hx => ?_)
      | refine ⟨_, ldc_cells hupd_at (Nat.le_of_ble_eq_true rfl), ?_⟩
      | refine ⟨_, ldc_cells (by first | assumption | exact zk ‹_› (by omega) | exact zk (zk ‹_› (by omega)) (by omega)) (Nat.le_of_ble_eq_true rfl), ?_⟩
      | (refine ⟨fun hc => ?_, fun hc => ?_⟩ <;> (try simp (disch := omega) only [List.length_map, wrap64] at hc) <;> (try (exfalso; first | contradiction | omega)))
      | exact ⟨⟨_, rfl, rfl, c, rfl, rfl⟩, (by first | exact Nat.le_refl _ | omega), (by exact h0_)⟩
      | exact ⟨⟨_, rfl, rfl, c, rfl, (by refine congrArg I (?_ : (_ : Int) = _); (try dsimp only); first | done | exact absurd True.intro hj | (first | (rw [w1]; exact congrArg Nat.cast ((finAt_yes (hcon.2 ⟨by assumption, by assumption⟩)).symm.trans hq)) | omega))⟩, (by first | exact Nat.le_refl _ | omega), (by exact h0_)⟩
      | (refine ⟨⟨m + 2, ⟨rfl, congrArg I w1, trivial⟩, by omega, (show finAt c m = finIn c from by rw [← hq, finAt_no (fun hcc => by have := hcon.1 hcc; simp only [Nxt] at this; first | exact hc this.1 | exact hc this.2)]), by omega, ne_, rfl⟩, (by show ix (I _) < ix (I _); simp only [w1, ix, Int.toNat_natCast]; omega)⟩)
      | fail)
  · have e0 : finIn c = 0 := by rw [← hq, show n - 2 = 0 from by omega]; rfl
    repeat' ((conv => whnf); first
      | refine ⟨_, rfl, ?_⟩
      | refine ⟨rfl, ?_⟩
      | refine ⟨_, _, rfl, at_map (by assumption), ?_⟩
      | refine idx_mapX (i := 0) rfl (by assumption) ?_
      | refine idx_map (by omega) (fun x hx => ?_)
      | refine idx_mapX (wrap_dn (by omega) (by omega)) (by assumption) ?_
      | refine idx_mapE (wrap_dn (by omega) (by omega)) (by omega) (fun x hx => ?_)
      | refine idx_mapL (by omega) (by first | assumption | (simp only [LIM]; omega)) (fun x hx => ?_)
      | refine idx_mapI (by omega) (by first | omega | (simp only [List.length_map] at *; omega)) (fun x hx => ?_)
      | refine ⟨_, ldc_cells hupd_at (Nat.le_of_ble_eq_true rfl), ?_⟩
      | refine ⟨_, ldc_cells (by first | assumption | exact zk ‹_› (by omega) | exact zk (zk ‹_› (by omega)) (by omega)) (Nat.le_of_ble_eq_true rfl), ?_⟩
      | (refine ⟨fun hc => ?_, fun hc => ?_⟩ <;> (try simp (disch := omega) only [List.length_map, wrap64] at hc) <;> (try (exfalso; first | contradiction | omega)))
      | exact ⟨⟨_, rfl, rfl, c, rfl, rfl⟩, (by first | exact Nat.le_refl _ | omega), (by exact h0_)⟩
      | exact ⟨⟨_, rfl, rfl, c, rfl, (by refine congrArg I (?_ : (_ : Int) = _); (try dsimp only); first | done | exact absurd True.intro hj | (rw [e0]; rfl))⟩, (by first | exact Nat.le_refl _ | omega), (by exact h0_)⟩
      | fail)
set_option maxHeartbeats 4000000 in
set_option maxRecDepth 100000 in
theorem v_spec_l11FinalIn : Valid Try.prog n_spec_l11FinalIn S_spec_l11FinalIn := by
  refine valid_of_swp mixed is_spec_l11FinalIn (by rintro _ ⟨a, rfl, _⟩; exact Nat.le_of_ble_eq_true rfl) ?_
  rintro _ rm ⟨c, rfl, hpre⟩ hl
  try dsimp only at hpre
  have hpre0 := hpre
  have hp1 := hpre
  have hL := hp1
  simp only [LIM] at hL
  have hw0 : IntKind.i64.wrap (((c.map itF).length : Int) - 1) = (c.length : Int) - 1 := by rw [List.length_map, wrap64] <;> omega
  repeat' ((conv => whnf); first
    | refine ⟨_, rfl, ?_⟩
    | refine ⟨rfl, ?_⟩
    | refine ⟨_, _, rfl, at_map (by assumption), ?_⟩
    | refine idx_mapX (i := 0) rfl (by assumption) ?_
    | refine idx_map (by omega) (fun x hx => ?_)
    | refine idx_mapX (wrap_dn (by omega) (by omega)) (by assumption) ?_
    | refine idx_mapE (wrap_dn (by omega) (by omega)) (by omega) (fun x hx => ?_)
    | refine idx_mapL (by omega) (by first | assumption | (simp only [LIM]; omega)) (fun x hx => ?_)
    | refine idx_mapI (by omega) (by first | omega | (simp only [List.length_map] at *; omega)) (fun x hx => ?_)
    | refine ⟨_, ldc_cells hupd_at (Nat.le_of_ble_eq_true rfl), ?_⟩
    | refine ⟨_, ldc_cells (by first | assumption | exact zk ‹_› (by omega) | exact zk (zk ‹_› (by omega)) (by omega)) (Nat.le_of_ble_eq_true rfl), ?_⟩
    | (refine ⟨fun hc => ?_, fun hc => ?_⟩ <;> (try simp (disch := omega) only [List.length_map, wrap64] at hc))
    | fail)
  conv => whnf
  refine ⟨fun fr H nx rm' => ∃ (n : Nat), Has fr [(0, one (chF c)), (3, I ((n : Int) - 1))] ∧ n ≤ c.length ∧ finAt c (n - 2) = finIn c ∧ 1 ≤ nx ∧ H 0 = none ∧ rm' = rm,
    fun fr _ _ _ => ix1 (fr 3), ⟨c.length, ⟨rfl, congrArg I hw0, trivial⟩, Nat.le_refl _, rfl, (by first | decide | omega), ne_, rfl⟩, ?_⟩
  rintro fr H nx rm' ⟨n, hfr, hn, hq, hnx, hH, rfl⟩
  rw [hfr.eq]
  rcases Nat.lt_or_ge 2 n with h2 | h2
  · obtain ⟨m, rfl⟩ : ∃ m, n = m + 3 := ⟨n - 3, by omega⟩
    have w3 : IntKind.i64.wrap (((m + 3 : Nat) : Int) - 1 - 2) = (m : Int) := by rw [wrap64] <;> omega
    have w2 : IntKind.i64.wrap (((m + 3 : Nat) : Int) - 1 - 1) = ((m + 1 : Nat) : Int) := by rw [wrap64] <;> omega
    have w2' : IntKind.i64.wrap (((m + 3 : Nat) : Int) - 1 - 1) = ((m + 2 : Nat) : Int) - 1 := by rw [w2]; omega
    have w1 : ((m + 3 : Nat) : Int) - 1 = ((m + 2 : Nat) : Int) := by omega
    obtain ⟨x, hx⟩ : ∃ x, c[m]? = some x := ⟨_, List.getElem?_eq_getElem (by omega)⟩
    obtain ⟨y, hy⟩ : ∃ x, c[m + 1]? = some x := ⟨_, List.getElem?_eq_getElem (by omega)⟩
    obtain ⟨z, hz⟩ : ∃ x, c[m + 2]? = some x := ⟨_, List.getElem?_eq_getElem (by omega)⟩
    have hcon := con3_iff hx hy hz
    have hq : finAt c (m + 1) = finIn c := hq
    repeat' ((conv => whnf); first
      | refine idx_mapX w3 hx ?_
      | refine idx_mapX w2 hy ?_
      | refine idx_mapX w1 hz ?_
      | refine ⟨_, rfl, ?_⟩
      | refine ⟨rfl, ?_⟩
      | refine ⟨_, _, rfl, at_map (by assumption), ?_⟩
      | refine idx_mapX (i := 0) rfl (by assumption) ?_
      | refine idx_map (by omega) (fun x hx => ?_)
      | refine idx_mapX (wrap_dn (by omega) (by omega)) (by assumption) ?_
      | refine idx_mapE (wrap_dn (by omega) (by omega)) (by omega) (fun x hx => ?_)
      | refine idx_mapL (by omega) (by first | assumption | (simp only [LIM]; omega)) (fun x hx => ?_)
      | refine idx_mapI (by omega) (by first | omega | (simp only [List.length_map] at *; omega)) (fun x hx => ?_)
      | refine ⟨_, ldc_cells hupd_at (Nat.le_of_ble_eq_true rfl), ?_⟩
      | refine ⟨_, ldc_cells (by first | assumption | exact zk ‹_› (by omega) | exact zk (zk ‹_› (by omega)) (by omega)) (Nat.le_of_ble_eq_true rfl), ?_⟩
      | (refine ⟨fun hc => ?_, fun hc => ?_⟩ <;> (try simp (disch := omega) only [List.length_map, wrap64] at hc) <;> (try (exfalso; first | contradiction | omega)))
      | exact ⟨⟨_, rfl, rfl, c, rfl, rfl⟩, (by first | exact Nat.le_refl _ | omega), (by exact h0_)⟩
      | exact ⟨⟨_, rfl, rfl, c, rfl, (by refine congrArg I (?_ : (_ : Int) = _); (try dsimp only); first | done | exact absurd True.intro hj | (first | (rw [w1]; exact congrArg Nat.cast ((finAt_yes (hcon.2 ⟨by assumption, by assumption⟩)).symm.trans hq)) | omega))⟩, (by first | exact Nat.le_refl _ | omega), (by exact h0_)⟩
      | (refine ⟨⟨m + 2, ⟨rfl, congrArg I w2', trivial⟩, by omega, (show finAt c m = finIn c from by rw [← hq, finAt_no (fun hcc => by have := hcon.1 hcc; simp only [Nxt] at this; first | exact hc this.1 | exact hc this.2)]), by omega, ne_, rfl⟩, (by show ix1 (I _) < ix1 (I _); simp only [w2, ix1]; omega)⟩)
      | fail)
  · have e0 : finIn c = 0 := by rw [← hq, show n - 2 = 0 from by omega]; rfl
    repeat' ((conv => whnf); first
      | refine ⟨_, rfl, ?_⟩
      | refine ⟨rfl, ?_⟩
      | refine ⟨_, _, rfl, at_map (by assumption), ?_⟩
      | refine idx_mapX (i := 0) rfl (by assumption) ?_
      | refine idx_map (by omega) (fun x hx => ?_)
      | refine idx_mapX (wrap_dn (by omega) (by omega)) (by assumption) ?_
      | refine idx_mapE (wrap_dn (by omega) (by omega)) (by omega) (fun x hx => ?_)
      | refine idx_mapL (by omega) (by first | assumption | (simp only [LIM]; omega)) (fun x hx => ?_)
      | refine idx_mapI (by omega) (by first | omega | (simp only [List.length_map] at *; omega)) (fun x hx => ?_)
      | refine ⟨_, ldc_cells hupd_at (Nat.le_of_ble_eq_true rfl), ?_⟩
      | refine ⟨_, ldc_cells (by first | assumption | exact zk ‹_› (by omega) | exact zk (zk ‹_› (by omega)) (by omega)) (Nat.le_of_ble_eq_true rfl), ?_⟩
      | (refine ⟨fun hc => ?_, fun hc => ?_⟩ <;> (try simp (disch := omega) only [List.length_map, wrap64] at hc) <;> (try (exfalso; first | contradiction | omega)))
      | exact ⟨⟨_, rfl, rfl, c, rfl, rfl⟩, (by first | exact Nat.le_refl _ | omega), (by exact h0_)⟩
      | exact ⟨⟨_, rfl, rfl, c, rfl, (by refine congrArg I (?_ : (_ : Int) = _); (try dsimp only); first | done | exact absurd True.intro hj | (rw [e0]; rfl))⟩, (by first | exact Nat.le_refl _ | omega), (by exact h0_)⟩
      | fail)
theorem allS_len2 {l : List Vo} (h : l.length < LIM) : (allS l).length ≤ LIM := by have := allS_len l; omega
theorem allS_fits {l : List Vo} (h : FitVs l) : ∀ c : List It, c ∈ allS l → c.length ≤ LIM := by
  intro c hc
  rcases mem_allS.1 hc with rfl | ⟨v, hv, rfl, _⟩
  · exact Nat.zero_le _
  · exact h.2 v hv
set_option maxHeartbeats 4000000 in
set_option maxRecDepth 100000 in
theorem v_impl_votes_shown : Valid Try.prog n_impl_votes_shown S_impl_votes_shown := by
  refine valid_of_swp mixed is_impl_votes_shown (by rintro _ ⟨a, rfl, _⟩; exact Nat.le_of_ble_eq_true rfl) ?_
  rintro _ rm ⟨l, rfl, hpre⟩ hl
  try dsimp only at hpre
  have hpre0 := hpre
  obtain ⟨hp1, hp2⟩ := hpre
  have hlen := allS_len2 hp2
  have hfs := allS_fits hp1
  repeat' ((conv => whnf); first
    | refine ⟨_, rfl, ?_⟩
    | refine ⟨rfl, ?_⟩
    | refine ⟨_, _, rfl, at_map (by assumption), ?_⟩
    | refine idx_mapX (i := 0) rfl (by assumption) ?_
    | refine idx_map (by omega) (fun x hx => ?_)
    | refine idx_mapX (wrap_dn (by omega) (by omega)) (by assumption) ?_
    | refine idx_mapE (wrap_dn (by omega) (by omega)) (by omega) (fun x hx => ?_)
    | refine idx_mapL (by omega) (by first | assumption | (simp only [LIM]; omega)) (fun x hx => ?_)
    | refine idx_mapI (by omega) (by first | omega | (simp only [List.length_map] at *; omega)) (fun x hx => ?_)
    | refine ⟨_, ldc_cells hupd_at (Nat.le_of_ble_eq_true rfl), ?_⟩
    | refine ⟨_, ldc_cells (by first | assumption | exact zk ‹_› (by omega) | exact zk (zk ‹_› (by omega)) (by omega)) (Nat.le_of_ble_eq_true rfl), ?_⟩
    | (refine ⟨fun hc => ?_, fun hc => ?_⟩ <;> (try simp (disch := omega) only [List.length_map, wrap64] at hc))
    | (refine calle (b := [one (vsF _)]) v_impl_votes_all rfl ⟨_, rfl, (by refine ⟨?_, ?_⟩ <;> (exact pr_))⟩ (.inl rfl) (by first | assumption | omega) (fun r hr => K_impl_votes_all (a := _) hr) ?_)
    | fail)
  conv => whnf
  refine ⟨fun fr H nx rm' => ∃ (i : Nat) (o : List It), Has fr [(3, one (chF o)), (8, one (csF (allS l))), (9, I ((allS l).map fun c => [chF c]).length), (10, I i)] ∧ i ≤ (allS l).length ∧ (((allS l).drop i).foldl shwn o = shown l ∧ o.length ≤ LIM) ∧ 1 ≤ nx ∧ H 0 = none ∧ rm' = rm,
    fun fr _ _ _ => (allS l).length - ix (fr 10), ⟨0, [], ⟨(by first | rfl | (show I _ = I _; simp)), (by first | rfl | (show I _ = I _; simp)), (by first | rfl | (show I _ = I _; simp)), (by first | rfl | (show I _ = I _; simp)), trivial⟩, Nat.zero_le _, (by exact ⟨rfl, Nat.zero_le _⟩), (by first | decide | omega), (by exact h0_), rfl⟩, ?_⟩
  rintro fr H nx rm' ⟨i, o, hfr, hi, hq, hnx, hH, rfl⟩
  rw [hfr.eq]
  have hq2 := hq.2
  repeat' ((conv => whnf); first
    | refine ⟨_, rfl, ?_⟩
    | refine ⟨rfl, ?_⟩
    | refine ⟨_, _, rfl, at_map (by assumption), ?_⟩
    | refine idx_mapX (i := 0) rfl (by assumption) ?_
    | refine idx_map (by omega) (fun x hx => ?_)
    | refine idx_mapX (wrap_dn (by omega) (by omega)) (by assumption) ?_
    | refine idx_mapE (wrap_dn (by omega) (by omega)) (by omega) (fun x hx => ?_)
    | refine idx_mapL (by omega) (by first | assumption | (simp only [LIM]; omega)) (fun x hx => ?_)
    | refine idx_mapI (by omega) (by first | omega | (simp only [List.length_map] at *; omega)) (fun x hx => ?_)
    | refine ⟨_, ldc_cells hupd_at (Nat.le_of_ble_eq_true rfl), ?_⟩
    | refine ⟨_, ldc_cells (by first | assumption | exact zk ‹_› (by omega) | exact zk (zk ‹_› (by omega)) (by omega)) (Nat.le_of_ble_eq_true rfl), ?_⟩
    | (refine ⟨fun hc => ?_, fun hc => ?_⟩ <;> (try simp (disch := omega) only [List.length_map, wrap64] at hc))
    | (refine calle (b := [one (chF _)]) v_impl_final rfl ⟨_, rfl, (by exact pr_)⟩ (.inl rfl) (by first | assumption | omega) (fun r hr => K_impl_final (a := _) hr) ?_)
    | (first | (refine ⟨⟨i + 1, o, ⟨rfl, rfl, rfl, congrArg I (wrap_up (n := (allS l).length) (by omega) (hlen)), trivial⟩, (by omega), (by refine ⟨?_, by first | exact hq.2 | exact hfs _ (List.mem_of_getElem? hx)⟩; rw [← hq.1, drop_at hx]; simp only [List.foldl_cons, shwn]; first | rw [if_neg (by omega)] | rw [if_pos (by omega)]), (by omega), (by exact h0_), rfl⟩, ?_⟩; show (allS l).length - ix (I _) < (allS l).length - ix (I _); simp only [wrap_up (n := (allS l).length) (i := i) (by omega) (hlen), ix, Int.toNat_natCast]; omega) | (refine ⟨⟨i + 1, x, ⟨rfl, rfl, rfl, congrArg I (wrap_up (n := (allS l).length) (by omega) (hlen)), trivial⟩, (by omega), (by refine ⟨?_, by first | exact hq.2 | exact hfs _ (List.mem_of_getElem? hx)⟩; rw [← hq.1, drop_at hx]; simp only [List.foldl_cons, shwn]; first | rw [if_neg (by omega)] | rw [if_pos (by omega)]), (by omega), (by exact h0_), rfl⟩, ?_⟩; show (allS l).length - ix (I _) < (allS l).length - ix (I _); simp only [wrap_up (n := (allS l).length) (i := i) (by omega) (hlen), ix, Int.toNat_natCast]; omega))
    | exact ⟨⟨_, rfl, rfl, l, rfl, rfl⟩, (by first | exact Nat.le_refl _ | omega), (by exact h0_)⟩
    | exact ⟨⟨_, rfl, rfl, l, rfl, (by refine congrArg one (?_ : (_ : FV) = _); (try dsimp only); first | done | exact absurd True.intro hj | ((have hq1 := hq.1; rw [List.drop_eq_nil_of_le (by omega)] at hq1; exact congrArg chF hq1)))⟩, (by first | exact Nat.le_refl _ | omega), (by exact h0_)⟩
    | exact ⟨⟨[.o (.c _)], congrArg (fun x => some [AW.o x]) (bor_ow (by exact hk_) (by first | rfl | (exact fcellss_c _))), rfl, l, rfl, (by first | rfl | (refine congrArg one (?_ : (_ : FV) = _); (try dsimp only); first | done | exact absurd True.intro hj | ((have hq1 := hq.1; rw [List.drop_eq_nil_of_le (by omega)] at hq1; exact congrArg chF hq1))))⟩, (by first | exact Nat.le_refl _ | omega), (by exact h0_)⟩
    | fail)
theorem allM_fits {l : List Vo} (h : FitVs l) : ∀ c : List It, c ∈ allM l → c.length ≤ LIM := by
  have : ∀ (r : List Vo) (out : List (List It)), (∀ v, v ∈ r → v ∈ l) → (∀ c, c ∈ out → c.length ≤ LIM) → ∀ c, c ∈ allFromM l r out → c.length ≤ LIM := by
    intro r
    induction r with
    | nil => intro out _ ho c hc; exact ho c hc
    | cons v r ih =>
      intro out hr ho c hc
      simp only [allFromM] at hc
      refine ih _ (fun u hu => hr u (.tail _ hu)) ?_ c hc
      split
      · intro d hd
        rcases List.mem_append.1 hd with hd | hd
        · exact ho d hd
        · rw [List.mem_singleton.1 hd]; exact h.2 v (hr v (by simp))
      · exact ho
  exact this l [[]] (fun v h => h) (by intro c hc; rw [List.mem_singleton.1 hc]; exact Nat.zero_le _)
set_option maxHeartbeats 4000000 in
set_option maxRecDepth 100000 in
theorem v_spec_l11Final : Valid Try.prog n_spec_l11Final S_spec_l11Final := by
  refine valid_of_swp mixed is_spec_l11Final (by rintro _ ⟨a, rfl, _⟩; exact Nat.le_of_ble_eq_true rfl) ?_
  rintro _ rm ⟨l, rfl, hpre⟩ hl
  try dsimp only at hpre
  have hpre0 := hpre
  obtain ⟨hp1, hp2⟩ := hpre
  have hlen : (allM l).length ≤ LIM := by have := allM_len l; omega
  have hfs := allM_fits hp1
  repeat' ((conv => whnf); first
    | refine ⟨_, rfl, ?_⟩
    | refine ⟨rfl, ?_⟩
    | refine ⟨_, _, rfl, at_map (by assumption), ?_⟩
    | refine idx_mapX (i := 0) rfl (by assumption) ?_
    | refine idx_map (by omega) (fun x hx => ?_)
    | refine idx_mapX (wrap_dn (by omega) (by omega)) (by assumption) ?_
    | refine idx_mapE (wrap_dn (by omega) (by omega)) (by omega) (fun x hx => ?_)
    | refine idx_mapL (by omega) (by first | assumption | (simp only [LIM]; omega)) (fun x hx => ?_)
    | refine idx_mapI (by omega) (by first | omega | (simp only [List.length_map] at *; omega)) (fun x hx => ?_)
    | refine ⟨_, ldc_cells hupd_at (Nat.le_of_ble_eq_true rfl), ?_⟩
    | refine ⟨_, ldc_cells (by first | assumption | exact zk ‹_› (by omega) | exact zk (zk ‹_› (by omega)) (by omega)) (Nat.le_of_ble_eq_true rfl), ?_⟩
    | (refine ⟨fun hc => ?_, fun hc => ?_⟩ <;> (try simp (disch := omega) only [List.length_map, wrap64] at hc))
    | (refine ⟨_, slc_to rfl (by first | omega | (simp only [List.length_map] at *; omega)), ?_⟩; rw [map_take'])
    | (refine ⟨_, slc_toI rfl (by omega) (by first | omega | (simp only [List.length_map] at *; omega)), ?_⟩; rw [map_take'])
    | (refine calle (b := [one (vsF _)]) v_spec_l11All rfl ⟨_, rfl, (by refine ⟨?_, ?_⟩ <;> (exact pr_))⟩ (.inl rfl) (by first | assumption | omega) (fun r hr => K_spec_l11All (a := _) hr) ?_)
    | fail)
  conv => whnf
  refine ⟨fun fr H nx rm' => ∃ (i : Nat) (o : List It), Has fr [(3, one (csF (allM l))), (4, one (chF o)), (5, I i)] ∧ i ≤ (allM l).length ∧ (((allM l).drop i).foldl fnlM o = finM l) ∧ 1 ≤ nx ∧ H 0 = none ∧ rm' = rm,
    fun fr _ _ _ => (allM l).length - ix (fr 5), ⟨0, [], ⟨(by first | rfl | (show I _ = I _; simp)), (by first | rfl | (show I _ = I _; simp)), (by first | rfl | (show I _ = I _; simp)), trivial⟩, Nat.zero_le _, (by rfl), (by first | decide | omega), (by exact h0_), rfl⟩, ?_⟩
  rintro fr H nx rm' ⟨i, o, hfr, hi, hq, hnx, hH, rfl⟩
  rw [hfr.eq]
  obtain hi' | hi' := Nat.lt_or_ge i (allM l).length
  · obtain ⟨x, hx⟩ : ∃ x, (allM l)[i]? = some x := ⟨_, List.getElem?_eq_getElem hi'⟩
    have hfx := finIn_le x
    have hxl := hfs x (List.mem_of_getElem? hx)
    repeat' ((conv => whnf); first
      | refine ⟨_, _, rfl, at_map hx, ?_⟩
      | refine ⟨_, rfl, ?_⟩
      | refine ⟨rfl, ?_⟩
      | refine ⟨_, _, rfl, at_map (by assumption), ?_⟩
      | refine idx_mapX (i := 0) rfl (by assumption) ?_
      | refine idx_map (by omega) (fun x hx => ?_)
      | refine idx_mapX (wrap_dn (by omega) (by omega)) (by assumption) ?_
      | refine idx_mapE (wrap_dn (by omega) (by omega)) (by omega) (fun x hx => ?_)
      | refine idx_mapL (by omega) (by first | assumption | (simp only [LIM]; omega)) (fun x hx => ?_)
      | refine idx_mapI (by omega) (by first | omega | (simp only [List.length_map] at *; omega)) (fun x hx => ?_)
      | refine ⟨_, ldc_cells hupd_at (Nat.le_of_ble_eq_true rfl), ?_⟩
      | refine ⟨_, ldc_cells (by first | assumption | exact zk ‹_› (by omega) | exact zk (zk ‹_› (by omega)) (by omega)) (Nat.le_of_ble_eq_true rfl), ?_⟩
      | (refine ⟨fun hc => ?_, fun hc => ?_⟩ <;> (try simp (disch := omega) only [List.length_map, wrap64] at hc) <;> (try (exfalso; first | contradiction | omega)))
      | (refine ⟨_, slc_to rfl (by first | omega | (simp only [List.length_map] at *; omega)), ?_⟩; rw [map_take'])
      | (refine ⟨_, slc_toI rfl (by omega) (by first | omega | (simp only [List.length_map] at *; omega)), ?_⟩; rw [map_take'])
      | (refine calle (b := [one (chF _)]) v_spec_l11FinalIn rfl ⟨_, rfl, (by exact pr_)⟩ (.inl rfl) (by first | assumption | omega) (fun r hr => K_spec_l11FinalIn (a := _) hr) ?_)
      | (refine calle (b := [one (chF _)]) v_spec_l1Copy rfl ⟨_, rfl, (by exact pr_)⟩ (.inl rfl) (by first | assumption | omega) (fun r hr => K_spec_l1Copy (a := _) hr) ?_)
      | (first | (refine ⟨⟨i + 1, o, ⟨rfl, rfl, congrArg I (wrap_up (n := (allM l).length) (by omega) (hlen)), trivial⟩, (by omega), (by rw [← hq, drop_at hx]; simp only [List.foldl_cons, fnlM]; first | rw [if_neg (by omega)] | rw [if_pos (by omega)]), (by omega), (by exact h0_), rfl⟩, ?_⟩; show (allM l).length - ix (I _) < (allM l).length - ix (I _); simp only [wrap_up (n := (allM l).length) (i := i) (by omega) (hlen), ix, Int.toNat_natCast]; omega) | (refine ⟨⟨i + 1, x.take (finIn x), ⟨rfl, rfl, congrArg I (wrap_up (n := (allM l).length) (by omega) (hlen)), trivial⟩, (by omega), (by rw [← hq, drop_at hx]; simp only [List.foldl_cons, fnlM]; first | rw [if_neg (by omega)] | rw [if_pos (by omega)]), (by omega), (by exact h0_), rfl⟩, ?_⟩; show (allM l).length - ix (I _) < (allM l).length - ix (I _); simp only [wrap_up (n := (allM l).length) (i := i) (by omega) (hlen), ix, Int.toNat_natCast]; omega))
      | exact ⟨⟨_, rfl, rfl, l, rfl, rfl⟩, (by first | exact Nat.le_refl _ | omega), (by exact h0_)⟩
      | exact ⟨⟨_, rfl, rfl, l, rfl, (by refine congrArg one (?_ : (_ : FV) = _); (try dsimp only); first | done | exact absurd True.intro hj | (omega))⟩, (by first | exact Nat.le_refl _ | omega), (by exact h0_)⟩
      | exact ⟨⟨[.o (.c _)], congrArg (fun x => some [AW.o x]) (bor_ow (by exact hk_) (by first | rfl | (exact fcellss_c _))), rfl, l, rfl, (by first | rfl | (refine congrArg one (?_ : (_ : FV) = _); (try dsimp only); first | done | exact absurd True.intro hj | (omega)))⟩, (by first | exact Nat.le_refl _ | omega), (by exact h0_)⟩
      | fail)
  · skip
    repeat' ((conv => whnf); first
      | refine ⟨_, rfl, ?_⟩
      | refine ⟨rfl, ?_⟩
      | refine ⟨_, _, rfl, at_map (by assumption), ?_⟩
      | refine idx_mapX (i := 0) rfl (by assumption) ?_
      | refine idx_map (by omega) (fun x hx => ?_)
      | refine idx_mapX (wrap_dn (by omega) (by omega)) (by assumption) ?_
      | refine idx_mapE (wrap_dn (by omega) (by omega)) (by omega) (fun x hx => ?_)
      | refine idx_mapL (by omega) (by first | assumption | (simp only [LIM]; omega)) (fun x hx => ?_)
      | refine idx_mapI (by omega) (by first | omega | (simp only [List.length_map] at *; omega)) (fun x hx => ?_)
      | refine ⟨_, ldc_cells hupd_at (Nat.le_of_ble_eq_true rfl), ?_⟩
      | refine ⟨_, ldc_cells (by first | assumption | exact zk ‹_› (by omega) | exact zk (zk ‹_› (by omega)) (by omega)) (Nat.le_of_ble_eq_true rfl), ?_⟩
      | (refine ⟨fun hc => ?_, fun hc => ?_⟩ <;> (try simp (disch := omega) only [List.length_map, wrap64] at hc) <;> (try (exfalso; first | contradiction | omega)))
      | (refine ⟨_, slc_to rfl (by first | omega | (simp only [List.length_map] at *; omega)), ?_⟩; rw [map_take'])
      | (refine ⟨_, slc_toI rfl (by omega) (by first | omega | (simp only [List.length_map] at *; omega)), ?_⟩; rw [map_take'])
      | (first | (refine ⟨⟨i + 1, o, ⟨rfl, rfl, congrArg I (wrap_up (n := (allM l).length) (by omega) (hlen)), trivial⟩, (by omega), (by rw [← hq, drop_at hx]; simp only [List.foldl_cons, fnlM]; first | rw [if_neg (by omega)] | rw [if_pos (by omega)]), (by omega), (by exact h0_), rfl⟩, ?_⟩; show (allM l).length - ix (I _) < (allM l).length - ix (I _); simp only [wrap_up (n := (allM l).length) (i := i) (by omega) (hlen), ix, Int.toNat_natCast]; omega) | (refine ⟨⟨i + 1, x.take (finIn x), ⟨rfl, rfl, congrArg I (wrap_up (n := (allM l).length) (by omega) (hlen)), trivial⟩, (by omega), (by rw [← hq, drop_at hx]; simp only [List.foldl_cons, fnlM]; first | rw [if_neg (by omega)] | rw [if_pos (by omega)]), (by omega), (by exact h0_), rfl⟩, ?_⟩; show (allM l).length - ix (I _) < (allM l).length - ix (I _); simp only [wrap_up (n := (allM l).length) (i := i) (by omega) (hlen), ix, Int.toNat_natCast]; omega))
      | exact ⟨⟨_, rfl, rfl, l, rfl, rfl⟩, (by first | exact Nat.le_refl _ | omega), (by exact h0_)⟩
      | exact ⟨⟨_, rfl, rfl, l, rfl, (by refine congrArg one (?_ : (_ : FV) = _); (try dsimp only); first | done | exact absurd True.intro hj | ((rw [List.drop_eq_nil_of_le (by omega)] at hq; exact congrArg chF hq)))⟩, (by first | exact Nat.le_refl _ | omega), (by exact h0_)⟩
      | exact ⟨⟨[.o (.c _)], congrArg (fun x => some [AW.o x]) (bor_ow (by exact hk_) (by first | rfl | (exact fcellss_c _))), rfl, l, rfl, (by first | rfl | (refine congrArg one (?_ : (_ : FV) = _); (try dsimp only); first | done | exact absurd True.intro hj | ((rw [List.drop_eq_nil_of_le (by omega)] at hq; exact congrArg chF hq))))⟩, (by first | exact Nat.le_refl _ | omega), (by exact h0_)⟩
      | fail)
end Av
end Go.Proofs.Ytdboofnogabefaa
