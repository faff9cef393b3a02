/- The walks: the tip, what is final, how chains begin. -/
import Derived.Test.YtfijfccgghhkoaaG4
import Derived.Test.YtfijfccgghhkoaaT1
import Derived.Test.YtfijfccgghhkoaaP2
set_option linter.unusedVariables false
set_option linter.unusedSimpArgs false
namespace Go.Proofs.Ytfijfccgghhkoaa
namespace Av
open Go.RowKit
theorem con3_iff {c : List It} {m : Nat} {x y z : It} (hx : c[m]? = some x) (hy : c[m + 1]? = some y) (hz : c[m + 2]? = some z) : Con3 c m ↔ Nxt x.e y.e ∧ Nxt y.e z.e := by
  constructor
  · rintro ⟨a, b, d, h1, h2, h3, h4⟩
    rw [hx] at h1; rw [hy] at h2; rw [hz] at h3
    cases h1; cases h2; cases h3
    exact h4
  · intro h; exact ⟨x, y, z, hx, hy, hz, h⟩
attribute [local irreducible] Valid ValidM
set_option maxHeartbeats 4000000 in
set_option maxRecDepth 100000 in
theorem v_impl_final : Valid Try.prog n_impl_final S_impl_final := by
  refine valid_of_swp mixed is_impl_final (by rintro _ ⟨a, rfl, _⟩; exact Nat.le_of_ble_eq_true rfl) ?_
  rintro _ rm ⟨c, rfl, hpre⟩ hl
  try dsimp only at hpre
  have hpre0 := hpre
  have hp1 := hpre
  skip
  conv => whnf
  refine ⟨fun fr H nx rm' => ∃ (n : Nat), Has fr [(0, one (chF c)), (3, I n)] ∧ n ≤ c.length ∧ finAt c (n - 2) = finIn c ∧ 1 ≤ nx ∧ H 0 = none ∧ rm' = rm,
    fun fr _ _ _ => ix (fr 3), ⟨c.length, ⟨rfl, (show I _ = I _ by simp), trivial⟩, Nat.le_refl _, rfl, (by first | decide | omega), ne_, rfl⟩, ?_⟩
  rintro fr H nx rm' ⟨n, hfr, hn, hq, hnx, hH, rfl⟩
  rw [hfr.eq]
  have hL := hp1
  simp only [LIM] at hL
  rcases Nat.lt_or_ge 2 n with h2 | h2
  · obtain ⟨m, rfl⟩ : ∃ m, n = m + 3 := ⟨n - 3, by omega⟩
    have w3 : IntKind.i64.wrap (((m + 3 : Nat) : Int) - 3) = (m : Int) := by rw [wrap64] <;> omega
    have w2 : IntKind.i64.wrap (((m + 3 : Nat) : Int) - 2) = ((m + 1 : Nat) : Int) := by rw [wrap64] <;> omega
    have w1 : IntKind.i64.wrap (((m + 3 : Nat) : Int) - 1) = ((m + 2 : Nat) : Int) := by rw [wrap64] <;> omega
    obtain ⟨x, hx⟩ : ∃ x, c[m]? = some x := ⟨_, List.getElem?_eq_getElem (by omega)⟩
    obtain ⟨y, hy⟩ : ∃ x, c[m + 1]? = some x := ⟨_, List.getElem?_eq_getElem (by omega)⟩
    obtain ⟨z, hz⟩ : ∃ x, c[m + 2]? = some x := ⟨_, List.getElem?_eq_getElem (by omega)⟩
    have hcon := con3_iff hx hy hz
    have hq : finAt c (m + 1) = finIn c := hq
    repeat' ((conv => whnf); first
      | refine idx_mapX w3 hx ?_
      | refine idx_mapX w2 hy ?_
      | refine idx_mapX w1 hz ?_
      | refine ⟨_, rfl, ?_⟩
      | refine ⟨rfl, ?_⟩
      | (refine ⟨fun hc => ?_, fun hc => ?_⟩ <;> (try simp (disch := omega) only [List.length_map, wrap64] at hc) <;> (try (exfalso; first | contradiction | omega)))
      | exact ⟨⟨_, rfl, rfl, c, rfl, (by refine congrArg I (?_ : (_ : Int) = _); (try dsimp only); first | done | exact absurd True.intro hj | (first | (rw [w1]; exact congrArg Nat.cast ((finAt_yes (hcon.2 ⟨by assumption, by assumption⟩)).symm.trans hq)) | omega))⟩, (by first | exact Nat.le_refl _ | omega), (by exact h0_)⟩
      | (refine ⟨⟨m + 2, ⟨rfl, congrArg I w1, trivial⟩, by omega, (show finAt c m = finIn c from by rw [← hq, finAt_no (fun hcc => by have := hcon.1 hcc; simp only [Nxt] at this; first | exact hc this.1 | exact hc this.2)]), by omega, ne_, rfl⟩, (by show ix (I _) < ix (I _); simp only [w1, ix, Int.toNat_natCast]; omega)⟩)
      | fail)
  · have e0 : finIn c = 0 := by rw [← hq, show n - 2 = 0 from by omega]; rfl
    repeat' ((conv => whnf); first
      | refine ⟨rfl, ?_⟩
      | (refine ⟨fun hc => ?_, fun hc => ?_⟩ <;> (try simp (disch := omega) only [List.length_map, wrap64] at hc) <;> (try (exfalso; first | contradiction | omega)))
      | exact ⟨⟨_, rfl, rfl, c, rfl, (by refine congrArg I (?_ : (_ : Int) = _); (try dsimp only); first | done | exact absurd True.intro hj | (rw [e0]; rfl))⟩, (by first | exact Nat.le_refl _ | omega), (by exact h0_)⟩
      | fail)
theorem allS_len2 {l : List Vo} (h : l.length < LIM) : (allS l).length ≤ LIM := by have := allS_len l; omega
theorem allS_fits {l : List Vo} (h : FitVs l) : ∀ c : List It, c ∈ allS l → c.length ≤ LIM := by
  intro c hc
  rcases mem_allS.1 hc with rfl | ⟨v, hv, rfl, _⟩
  · exact Nat.zero_le _
  · exact h.2 v hv
set_option maxHeartbeats 4000000 in
set_option maxRecDepth 100000 in
theorem v_impl_votes_shown : Valid Try.prog n_impl_votes_shown S_impl_votes_shown := by
  refine valid_of_swp mixed is_impl_votes_shown (by rintro _ ⟨a, rfl, _⟩; exact Nat.le_of_ble_eq_true rfl) ?_
  rintro _ rm ⟨l, rfl, hpre⟩ hl
  try dsimp only at hpre
  have hpre0 := hpre
  obtain ⟨hp1, hp2⟩ := hpre
  have hlen := allS_len2 hp2
  have hfs := allS_fits hp1
  repeat' ((conv => whnf); first
    | (refine calle (b := [one (vsF _)]) v_impl_votes_all rfl ⟨_, rfl, (by refine ⟨?_, ?_⟩ <;> (exact pr_))⟩ (.inl rfl) (by first | assumption | omega) (fun r hr => K_impl_votes_all (a := _) hr) ?_)
    | fail)
  conv => whnf
  refine ⟨fun fr H nx rm' => ∃ (i : Nat) (o : List It), Has fr [(3, one (chF o)), (8, one (csF (allS l))), (9, I ((allS l).map fun c => [chF c]).length), (10, I i)] ∧ i ≤ (allS l).length ∧ (((allS l).drop i).foldl shwn o = shown l ∧ o.length ≤ LIM) ∧ 1 ≤ nx ∧ H 0 = none ∧ rm' = rm,
    fun fr _ _ _ => (allS l).length - ix (fr 10), ⟨0, [], ⟨(by first | rfl | (show I _ = I _; simp)), (by first | rfl | (show I _ = I _; simp)), (by first | rfl | (show I _ = I _; simp)), (by first | rfl | (show I _ = I _; simp)), trivial⟩, Nat.zero_le _, (by exact ⟨rfl, Nat.zero_le _⟩), (by first | decide | omega), (by exact h0_), rfl⟩, ?_⟩
  rintro fr H nx rm' ⟨i, o, hfr, hi, hq, hnx, hH, rfl⟩
  rw [hfr.eq]
  have hq2 := hq.2
  repeat' ((conv => whnf); first
    | refine ⟨_, rfl, ?_⟩
    | refine ⟨rfl, ?_⟩
    | refine idx_map (by omega) (fun x hx => ?_)
    | (refine ⟨fun hc => ?_, fun hc => ?_⟩ <;> (try simp (disch := omega) only [List.length_map, wrap64] at hc))
    | (refine calle (b := [one (chF _)]) v_impl_final rfl ⟨_, rfl, (by exact pr_)⟩ (.inl rfl) (by first | assumption | omega) (fun r hr => K_impl_final (a := _) hr) ?_)
    | (first | (refine ⟨⟨i + 1, o, ⟨rfl, rfl, rfl, congrArg I (wrap_up (n := (allS l).length) (by omega) (hlen)), trivial⟩, (by omega), (by refine ⟨?_, by first | exact hq.2 | exact hfs _ (List.mem_of_getElem? hx)⟩; rw [← hq.1, drop_at hx]; simp only [List.foldl_cons, shwn]; first | rw [if_neg (by omega)] | rw [if_pos (by omega)]), (by omega), (by exact h0_), rfl⟩, ?_⟩; show (allS l).length - ix (I _) < (allS l).length - ix (I _); simp only [wrap_up (n := (allS l).length) (i := i) (by omega) (hlen), ix, Int.toNat_natCast]; omega) | (refine ⟨⟨i + 1, x, ⟨rfl, rfl, rfl, congrArg I (wrap_up (n := (allS l).length) (by omega) (hlen)), trivial⟩, (by omega), (by refine ⟨?_, by first | exact hq.2 | exact hfs _ (List.mem_of_getElem? hx)⟩; rw [← hq.1, drop_at hx]; simp only [List.foldl_cons, shwn]; first | rw [if_neg (by omega)] | rw [if_pos (by omega)]), (by omega), (by exact h0_), rfl⟩, ?_⟩; show (allS l).length - ix (I _) < (allS l).length - ix (I _); simp only [wrap_up (n := (allS l).length) (i := i) (by omega) (hlen), ix, Int.toNat_natCast]; omega))
    | exact ⟨⟨_, rfl, rfl, l, rfl, (by refine congrArg one (?_ : (_ : FV) = _); (try dsimp only); first | done | exact absurd True.intro hj | ((have hq1 := hq.1; rw [List.drop_eq_nil_of_le (by omega)] at hq1; exact congrArg chF hq1)))⟩, (by first | exact Nat.le_refl _ | omega), (by exact h0_)⟩
    | fail)
set_option maxHeartbeats 4000000 in
set_option maxRecDepth 100000 in
theorem v_impl_votes_final : Valid Try.prog n_impl_votes_final S_impl_votes_final := by
  refine valid_of_swp mixed is_impl_votes_final (by rintro _ ⟨a, rfl, _⟩; exact Nat.le_of_ble_eq_true rfl) ?_
  rintro _ rm ⟨l, rfl, hpre⟩ hl
  try dsimp only at hpre
  have hpre0 := hpre
  obtain ⟨hp1, hp2⟩ := hpre
  have h1 := finIn_le (shown l)
  have hfs : (shown l).length ≤ LIM := allS_fits hp1 _ (shwn_mem (Q := fun c => c ∈ allS l) (mem_allS.2 (.inl rfl)) fun c h => h)
  repeat' ((conv => whnf); first
    | (refine ⟨_, slc_to rfl (by first | omega | (simp only [List.length_map] at *; omega)), ?_⟩; rw [map_take'])
    | (refine calle (b := [one (vsF _)]) v_impl_votes_shown rfl ⟨_, rfl, (by refine ⟨?_, ?_⟩ <;> (exact pr_))⟩ (.inl rfl) (by first | assumption | omega) (fun r hr => K_impl_votes_shown (a := _) hr) ?_)
    | (refine calle (b := [one (chF _)]) v_impl_final rfl ⟨_, rfl, (by exact pr_)⟩ (.inl rfl) (by first | assumption | omega) (fun r hr => K_impl_final (a := _) hr) ?_)
    | (refine calle (b := [one (chF _)]) v_impl_copied rfl ⟨_, rfl, (by exact pr_)⟩ (.inl rfl) (by first | assumption | omega) (fun r hr => K_impl_copied (a := _) hr) ?_)
    | exact ⟨⟨_, rfl, rfl, l, rfl, rfl⟩, (by first | exact Nat.le_refl _ | omega), (by exact h0_)⟩
    | fail)
set_option maxHeartbeats 4000000 in
set_option maxRecDepth 100000 in
theorem v_impl_TreeFinal : Valid Try.prog n_impl_TreeFinal S_impl_TreeFinal := by
  refine valid_of_swp mixed is_impl_TreeFinal (by rintro _ ⟨a, rfl, _⟩; exact Nat.le_of_ble_eq_true rfl) ?_
  rintro _ rm ⟨l, rfl, hpre⟩ hl
  try dsimp only at hpre
  have hpre0 := hpre
  obtain ⟨hp1, hp2⟩ := hpre
  repeat' ((conv => whnf); first
    | (refine callt (b := [one (vsF _)]) v_impl_VotesOk rfl ⟨_, rfl, (by exact pr_)⟩ (.inl rfl) (by first | assumption | omega) (fun r hr => K_impl_VotesOk (a := _) hr) (fun hj => ?_) (fun hj => ?_) <;> (try simp only [etaPa, etaIt, etaVo] at hj))
    | (refine calle (b := [one (vsF _)]) v_impl_votes_final rfl ⟨_, rfl, (by refine ⟨?_, ?_⟩ <;> (exact pr_))⟩ (.inl rfl) (by first | assumption | omega) (fun r hr => K_impl_votes_final (a := _) hr) ?_)
    | exact ⟨⟨_, rfl, rfl, l, rfl, (by refine congrArg one (?_ : (_ : FV) = _); (try dsimp only); first | done | exact absurd True.intro hj | ((unfold finT; first | (rw [tb_pos (by assumption)]; rfl) | (rw [tb_neg (by assumption)]; rfl))))⟩, (by first | exact Nat.le_refl _ | omega), (by exact h0_)⟩
    | fail)
set_option maxHeartbeats 4000000 in
set_option maxRecDepth 100000 in
theorem v_impl_begins : Valid Try.prog n_impl_begins S_impl_begins := by
  refine valid_of_swp mixed is_impl_begins (by rintro _ ⟨a, rfl, _⟩; exact Nat.le_of_ble_eq_true rfl) ?_
  rintro _ rm ⟨⟨c, d⟩, rfl, hpre⟩ hl
  try dsimp only at hpre
  have hpre0 := hpre
  obtain ⟨hp1, hp2⟩ := hpre
  dsimp only
  repeat' ((conv => whnf); first
    | refine ⟨rfl, ?_⟩
    | (refine ⟨fun hc => ?_, fun hc => ?_⟩ <;> (try simp (disch := omega) only [List.length_map, wrap64] at hc))
    | (refine ⟨_, slc_to rfl (by first | omega | (simp only [List.length_map] at *; omega)), ?_⟩; rw [map_take'])
    | (refine callt (b := [one (chF _), one (chF _)]) v_slices_Equal_ItemS rfl ⟨(_, _), rfl, (by refine ⟨?_, ?_⟩ <;> (exact pr_))⟩ (.inl rfl) (by first | assumption | omega) (fun r hr => K_slices_Equal_ItemS (a := (_, _)) hr) (fun hj => ?_) (fun hj => ?_) <;> (try simp only [etaPa, etaIt, etaVo] at hj))
    | exact ⟨⟨_, rfl, rfl, (c, d), rfl, (by refine congrArg B (Eq.symm (tb_pos ?_)); (try dsimp only); first | done | exact absurd True.intro hj | (first | assumption | simpa using hj | (intro h; have := congrArg List.length h; simp only [List.length_take] at this; omega)))⟩, (by first | exact Nat.le_refl _ | omega), (by exact h0_)⟩
    | exact ⟨⟨_, rfl, rfl, (c, d), rfl, (by refine congrArg B (Eq.symm (tb_neg ?_)); (try dsimp only); first | done | exact absurd True.intro hj | (first | assumption | simpa using hj | (intro h; have := congrArg List.length h; simp only [List.length_take] at this; omega)))⟩, (by first | exact Nat.le_refl _ | omega), (by exact h0_)⟩
    | fail)
set_option maxHeartbeats 4000000 in
set_option maxRecDepth 100000 in
theorem v_impl_ChainIn : Valid Try.prog n_impl_ChainIn S_impl_ChainIn := by
  refine valid_of_swp mixed is_impl_ChainIn (by rintro _ ⟨a, rfl, _⟩; exact Nat.le_of_ble_eq_true rfl) ?_
  rintro _ rm ⟨⟨c, d⟩, rfl, hpre⟩ hl
  try dsimp only at hpre
  have hpre0 := hpre
  obtain ⟨hp1, hp2⟩ := hpre
  repeat' ((conv => whnf); first
    | (refine callt (b := [one (chF _)]) v_impl_ChainOk rfl ⟨_, rfl, (by exact pr_)⟩ (.inl rfl) (by first | assumption | omega) (fun r hr => K_impl_ChainOk (a := _) hr) (fun hj => ?_) (fun hj => ?_) <;> (try simp only [etaPa, etaIt, etaVo] at hj))
    | (refine callt (b := [one (chF _), one (chF _)]) v_impl_begins rfl ⟨(_, _), rfl, (by refine ⟨?_, ?_⟩ <;> (exact pr_))⟩ (.inl rfl) (by first | assumption | omega) (fun r hr => K_impl_begins (a := (_, _)) hr) (fun hj => ?_) (fun hj => ?_) <;> (try simp only [etaPa, etaIt, etaVo] at hj))
    | exact ⟨⟨_, rfl, rfl, (c, d), rfl, (by refine congrArg B (Eq.symm (tb_pos ?_)); (try dsimp only); first | done | exact absurd True.intro hj | (unfold ChIn; grind))⟩, (by first | exact Nat.le_refl _ | omega), (by exact h0_)⟩
    | exact ⟨⟨_, rfl, rfl, (c, d), rfl, (by refine congrArg B (Eq.symm (tb_neg ?_)); (try dsimp only); first | done | exact absurd True.intro hj | (unfold ChIn; grind))⟩, (by first | exact Nat.le_refl _ | omega), (by exact h0_)⟩
    | fail)
end Av
end Go.Proofs.Ytfijfccgghhkoaa
