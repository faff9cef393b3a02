/- The walks: the program's functions on nodes. -/
import Derived.Test.YtlbdoamidblkaaaZB
import Derived.Test.YtlbdoamidblkaaaG5
import Derived.Test.YtlbdoamidblkaaaJ15
import Derived.Test.YtlbdoamidblkaaaJ17
set_option linter.unusedVariables false
set_option linter.unusedSimpArgs false
namespace Go.Proofs.Ytlbdoamidblkaaa
namespace Av
open Go.RowKit
theorem K_impl_within {a : (Int) × (Int) × (Int)} {r : AV} (h : S_impl_within.post ([I a.1, I a.2.1, I a.2.2]) r) : (In a.1 a.2.1 a.2.2 ∧ r = B true) ∨ (¬ (In a.1 a.2.1 a.2.2) ∧ r = B false) :=
  tF_post (hcl := fun _ => rfl) (a := a) (by rintro ⟨x0, x1, x2⟩ ⟨y0, y1, y2⟩ h; simp only [List.cons.injEq, and_true, true_and, one_inj, agg_inj, paF_inj, itF_inj, chF_inj, voF_inj, vsF_inj, csF_inj, nsF_inj, nssF_inj, ndF_inj, ceF_inj, woF_inj, evF_inj, byF_inj, ndsF_inj, evsF_inj, pasF_inj, aI_inj, aB_inj, aRp_inj, fI_inj, fBo_inj] at h; obtain ⟨rfl, rfl, rfl⟩ := h; rfl) h
attribute [local irreducible] Valid ValidM
set_option maxHeartbeats 4000000 in
set_option maxRecDepth 100000 in
theorem v_impl_Vote_last : Valid Try.prog n_impl_Vote_last S_impl_Vote_last := by
  refine valid_of_swp mixed is_impl_Vote_last (by rintro _ ⟨a, rfl, _⟩; exact Nat.le_of_ble_eq_true rfl) ?_
  rintro _ rm ⟨v, rfl, hpre⟩ hl
  try dsimp only at hpre
  have hpre0 := hpre
  obtain ⟨hp1, hp2⟩ := hpre
  repeat' ((conv => whnf); first
    | refine ⟨_, rfl, ?_⟩
    | refine ⟨rfl, ?_⟩
    | refine idx_mapL (by omega) (by first | assumption | (simp only [LIM]; omega)) (fun x hx => ?_)
    | exact ⟨⟨_, rfl, rfl, v, rfl, (by refine congrArg I (?_ : (_ : Int) = _); (try dsimp only); first | done | exact absurd True.intro hj | ((rw [lastE_at (by assumption)])))⟩, (by first | exact Nat.le_refl _ | omega), (by exact h0_)⟩
    | fail)
theorem wl {e : Int} (h : In e 0 100) : IntKind.i64.wrap ((IntKind.i64.wrap (e - 1)).tmod 4 + 1) = lead e := by
  obtain ⟨h1, h2⟩ := h
  rw [wrap64 (n := e - 1) (by omega) (by omega)]
  unfold lead
  by_cases h0 : e = 0
  · subst h0; decide
  · have a1 := Int.tmod_nonneg (a := e - 1) 4 (by omega)
    have a2 := Int.tmod_lt_of_pos (a := e - 1) (b := 4) (by decide)
    rw [wrap64 (by omega) (by omega)]
set_option maxHeartbeats 4000000 in
set_option maxRecDepth 100000 in
theorem v_spec_l3Leader : Valid Try.prog n_spec_l3Leader S_spec_l3Leader := by
  refine valid_of_swp mixed is_spec_l3Leader (by rintro _ ⟨a, rfl, _⟩; exact Nat.le_of_ble_eq_true rfl) ?_
  rintro _ rm ⟨e, rfl, hpre⟩ hl
  try dsimp only at hpre
  have hpre0 := hpre
  have hp1 := hpre
  repeat' ((conv => whnf); first
    | refine ⟨rfl, ?_⟩
    | refine ⟨(show _ ≠ _ from (by first | decide | omega)), ?_⟩
    | exact ⟨⟨_, rfl, rfl, e, rfl, (by refine congrArg I (?_ : (_ : Int) = _); (try dsimp only); first | done | exact absurd True.intro hj | (exact wl hp1))⟩, (by first | exact Nat.le_refl _ | omega), (by exact h0_)⟩
    | fail)
set_option maxHeartbeats 4000000 in
set_option maxRecDepth 100000 in
theorem v_impl_VoteLeader : Valid Try.prog n_impl_VoteLeader S_impl_VoteLeader := by
  refine valid_of_swp mixed is_impl_VoteLeader (by rintro _ ⟨a, rfl, _⟩; exact Nat.le_of_ble_eq_true rfl) ?_
  rintro _ rm ⟨e, rfl, hpre⟩ hl
  try dsimp only at hpre
  have hpre0 := hpre
  have hp1 := hpre
  repeat' ((conv => whnf); first
    | refine ⟨rfl, ?_⟩
    | refine ⟨(show _ ≠ _ from (by first | decide | omega)), ?_⟩
    | (refine callt (b := [I _]) v_impl_epochOk rfl ⟨_, rfl, (by exact True.intro)⟩ (.inl rfl) (by first | assumption | omega) (fun r hr => K_impl_epochOk (a := _) hr) (fun hj => ?_) (fun hj => ?_) <;> (try simp only [etaPa, etaIt, etaVo] at hj))
    | exact ⟨⟨_, rfl, rfl, e, rfl, (by refine congrArg I (?_ : (_ : Int) = _); (try dsimp only); first | done | exact absurd True.intro hj | ((unfold leadV; first | (rw [if_pos (by assumption)]; exact wl hp1) | (rw [if_neg (by assumption)]))))⟩, (by first | exact Nat.le_refl _ | omega), (by exact h0_)⟩
    | fail)
set_option maxHeartbeats 4000000 in
set_option maxRecDepth 100000 in
theorem v_impl_Node_may : Valid Try.prog n_impl_Node_may S_impl_Node_may := by
  refine valid_of_swp mixed is_impl_Node_may (by rintro _ ⟨a, rfl, _⟩; exact Nat.le_of_ble_eq_true rfl) ?_
  rintro _ rm ⟨n, rfl, hpre⟩ hl
  try dsimp only at hpre
  have hpre0 := hpre
  have hp1 := hpre
  repeat' ((conv => whnf); first
    | refine ⟨_, rfl, ?_⟩
    | refine ⟨rfl, ?_⟩
    | (refine ⟨fun hc => ?_, fun hc => ?_⟩ <;> (try simp (disch := omega) only [List.length_map, wrap64] at hc))
    | exact ⟨⟨_, rfl, rfl, n, rfl, (by refine congrArg B (Eq.symm (tb_pos ?_)); (try dsimp only); first | done | exact absurd True.intro hj | ((unfold mayN; first | omega | (constructor <;> omega))))⟩, (by first | exact Nat.le_refl _ | omega), (by exact h0_)⟩
    | exact ⟨⟨_, rfl, rfl, n, rfl, (by refine congrArg B (Eq.symm (tb_neg ?_)); (try dsimp only); first | done | exact absurd True.intro hj | ((unfold mayN; first | omega | (constructor <;> omega))))⟩, (by first | exact Nat.le_refl _ | omega), (by exact h0_)⟩
    | fail)
set_option maxHeartbeats 4000000 in
set_option maxRecDepth 100000 in
theorem v_impl_Node_copied : Valid Try.prog n_impl_Node_copied S_impl_Node_copied := by
  refine valid_of_swp mixed is_impl_Node_copied (by rintro _ ⟨a, rfl, _⟩; exact Nat.le_of_ble_eq_true rfl) ?_
  rintro _ rm ⟨n, rfl, hpre⟩ hl
  try dsimp only at hpre
  have hpre0 := hpre
  have hp1 := hpre
  repeat' ((conv => whnf); first
    | refine ⟨_, rfl, ?_⟩
    | refine ⟨_, _, rfl, rfl, rfl, Nat.le_of_ble_eq_true rfl, ?_⟩
    | (refine calle (b := [one (vsF _)]) v_impl_votes_copied rfl ⟨_, rfl, (by exact pr_)⟩ (.inl rfl) (by first | assumption | omega) (fun r hr => K_impl_votes_copied (a := _) hr) ?_)
    | exact ⟨⟨_, rfl, rfl, n, rfl, rfl⟩, (by first | exact Nat.le_refl _ | omega), (by exact h0_)⟩
    | fail)
set_option maxHeartbeats 4000000 in
set_option maxRecDepth 100000 in
theorem v_impl_Node_enter : Valid Try.prog n_impl_Node_enter S_impl_Node_enter := by
  refine valid_of_swp mixed is_impl_Node_enter (by rintro _ ⟨a, rfl, _⟩; exact Nat.le_of_ble_eq_true rfl) ?_
  rintro _ rm ⟨⟨n, e⟩, rfl, hpre⟩ hl
  try dsimp only at hpre
  have hpre0 := hpre
  have hp1 := hpre
  have hw : IntKind.i64.wrap (n.ep + 1) = n.ep + 1 := by obtain ⟨h1, h2⟩ := hp1; rw [wrap64] <;> omega
  repeat' ((conv => whnf); first
    | refine ⟨_, rfl, ?_⟩
    | refine ⟨rfl, ?_⟩
    | refine ⟨_, _, hupd_at, rfl, rfl, Nat.le_of_ble_eq_true rfl, ?_⟩
    | refine ⟨_, _, rfl, rfl, rfl, Nat.le_of_ble_eq_true rfl, ?_⟩
    | (refine callt (b := [I _, I _, I _]) v_impl_within rfl ⟨(_, _, _), rfl, (by exact True.intro)⟩ (.inl rfl) (by first | assumption | omega) (fun r hr => K_impl_within (a := (_, _, _)) hr) (fun hj => ?_) (fun hj => ?_) <;> (try simp only [etaPa, etaIt, etaVo] at hj))
    | fail)
  · have hj2 : In e (IntKind.i64.wrap (n.ep + 1)) 30 := hj
    rw [hw] at hj2
    have e2 : entN n e = ⟨n.id, e, n.vt, n.seen⟩ := if_pos hj2
    repeat' ((conv => whnf); first
      | exact ⟨⟨_, rfl, rfl, (n, e), rfl, (by show _ = agg (ndF (entN n e)); rw [e2]; rfl)⟩, Nat.le_refl _, h0_⟩
      | fail)
  · have hj2 : ¬ In e (IntKind.i64.wrap (n.ep + 1)) 30 := hj
    rw [hw] at hj2
    have e2 : entN n e = n := if_neg hj2
    repeat' ((conv => whnf); first
      | exact ⟨⟨_, rfl, rfl, (n, e), rfl, (by show _ = agg (ndF (entN n e)); rw [e2]; rfl)⟩, Nat.le_refl _, h0_⟩
      | fail)
set_option maxHeartbeats 4000000 in
set_option maxRecDepth 100000 in
theorem v_impl_Node_vote : Valid Try.prog n_impl_Node_vote S_impl_Node_vote := by
  refine valid_of_swp mixed is_impl_Node_vote (by rintro _ ⟨a, rfl, _⟩; exact Nat.le_of_ble_eq_true rfl) ?_
  rintro _ rm ⟨⟨n, c⟩, rfl, hpre⟩ hl
  try dsimp only at hpre
  have hpre0 := hpre
  obtain ⟨hp1, hp2⟩ := hpre
  by_cases h8 : 80 ≤ n.seen.length
  · have e2 : voteN n c = (n, zVo, false) := if_pos h8
    repeat' ((conv => whnf); first
      | refine ⟨_, rfl, ?_⟩
      | refine ⟨rfl, ?_⟩
      | refine ⟨_, _, rfl, rfl, rfl, Nat.le_of_ble_eq_true rfl, ?_⟩
      | (refine ⟨fun hc => ?_, fun hc => ?_⟩ <;> (try simp (disch := omega) only [List.length_map, wrap64] at hc) <;> (try (exfalso; first | contradiction | omega)))
      | exact ⟨⟨_, rfl, rfl, (n, c), rfl, (by show _ = trip (voteN n c); rw [e2]; rfl)⟩, Nat.le_refl _, h0_⟩
      | fail)
  · have e2 : voteN n c = (⟨n.id, n.ep, n.ep, n.seen ++ [⟨n.id, c⟩]⟩, ⟨n.id, c⟩, true) := if_neg h8
    have hlt : n.seen.length < LIM := by simp only [LIM]; omega
    repeat' ((conv => whnf); first
      | refine ⟨_, rfl, ?_⟩
      | refine ⟨rfl, ?_⟩
      | refine ⟨_, _, hupd_at, rfl, rfl, Nat.le_of_ble_eq_true rfl, ?_⟩
      | refine ⟨_, _, rfl, rfl, rfl, Nat.le_of_ble_eq_true rfl, ?_⟩
      | (refine ⟨fun hc => ?_, fun hc => ?_⟩ <;> (try simp (disch := omega) only [List.length_map, wrap64] at hc) <;> (try (exfalso; first | contradiction | omega)))
      | (refine calle (b := [one (vsF _), agg (voF ⟨_, _⟩)]) v_impl_votes_with rfl ⟨(_, ⟨_, _⟩), rfl, (by refine ⟨?_, ?_, ?_⟩ <;> (exact pr_))⟩ (.inl rfl) (by first | assumption | omega) (fun r hr => K_impl_votes_with (a := (_, ⟨_, _⟩)) hr) ?_)
      | (refine calle (b := [agg (voF ⟨_, _⟩)]) v_impl_Vote_copied rfl ⟨⟨_, _⟩, rfl, (by exact pr_)⟩ (.inl rfl) (by first | assumption | omega) (fun r hr => K_impl_Vote_copied (a := ⟨_, _⟩) hr) ?_)
      | exact ⟨⟨_, rfl, rfl, (n, c), rfl, (by show _ = trip (voteN n c); rw [e2]; rfl)⟩, Nat.le_refl _, h0_⟩
      | fail)
set_option maxHeartbeats 4000000 in
set_option maxRecDepth 100000 in
theorem v_laws_lwNode : Valid Try.prog n_laws_lwNode S_laws_lwNode := by
  refine valid_of_swp mixed is_laws_lwNode (by rintro _ ⟨a, rfl, _⟩; exact Nat.le_of_ble_eq_true rfl) ?_
  rintro _ rm ⟨⟨n, m⟩, rfl, hpre⟩ hl
  try dsimp only at hpre
  have hpre0 := hpre
  obtain ⟨hp1, hp2⟩ := hpre
  repeat' ((conv => whnf); first
    | refine ⟨_, rfl, ?_⟩
    | refine ⟨rfl, ?_⟩
    | (refine ⟨fun hc => ?_, fun hc => ?_⟩ <;> (try simp (disch := omega) only [List.length_map, wrap64] at hc))
    | (refine callt (b := [one (vsF _), one (vsF _)]) v_laws_lwVotes rfl ⟨(_, _), rfl, (by refine ⟨?_, ?_⟩ <;> (exact pr_))⟩ (.inl rfl) (by first | assumption | omega) (fun r hr => K_laws_lwVotes (a := (_, _)) hr) (fun hj => ?_) (fun hj => ?_) <;> (try simp only [etaPa, etaIt, etaVo] at hj))
    | exact ⟨⟨_, rfl, rfl, (n, m), rfl, (by refine congrArg B (Eq.symm (tb_pos ?_)); (try dsimp only); first | done | exact absurd True.intro hj | (first | grind | (obtain ⟨a, b, c, d⟩ := n; obtain ⟨a', b', c', d'⟩ := m; simp only [Nd.mk.injEq] at *; grind)))⟩, (by first | exact Nat.le_refl _ | omega), (by exact h0_)⟩
    | exact ⟨⟨_, rfl, rfl, (n, m), rfl, (by refine congrArg B (Eq.symm (tb_neg ?_)); (try dsimp only); first | done | exact absurd True.intro hj | (first | grind | (obtain ⟨a, b, c, d⟩ := n; obtain ⟨a', b', c', d'⟩ := m; simp only [Nd.mk.injEq] at *; grind)))⟩, (by first | exact Nat.le_refl _ | omega), (by exact h0_)⟩
    | fail)
theorem leadV_in {e : Int} (h : 0 < e) (h' : e ≤ 30) : leadV e = lead e := if_pos ⟨by omega, h'⟩
theorem wrapL {n : Nat} (hn : 0 < n) (hk : n ≤ LIM) : IntKind.i64.wrap ((n : Int) - 1) = ((n - 1 : Nat) : Int) := wrap_dn hn hk
set_option maxHeartbeats 4000000 in
/-- The loop over what is seen, as 'hear' has it. -/
theorem hear_loop_post {n m : Nd} {v : Vo} (h1 : HearsN n v) (hm : m = ⟨n.id, n.ep, n.vt, addV n.seen v⟩) : hearN false n v = tryN false m := by
  unfold hearN; rw [tb_pos h1, hm]; rfl
theorem tryN_no {b : Bool} {m : Nd} (h : ¬ mayN m) : tryN b m = (m, zVo, false) := by unfold tryN; rw [tb_neg h]; rfl
theorem tryN_none {b : Bool} {m : Nd} (h : mayN m) (hq : ∀ j u, j < m.seen.length → m.seen[j]? = some u → ¬ FitsN b m u) : tryN b m = (m, zVo, false) := by unfold tryN; rw [tb_pos h, firstN_no hq]; rfl
theorem tryN_some {b : Bool} {m : Nd} (h : mayN m) {i : Nat} {u : Vo} (hi : m.seen[i]? = some u) (hq : ∀ j u, j < i → m.seen[j]? = some u → ¬ FitsN b m u) (hu : FitsN b m u) : tryN b m = voteN m u.c := by unfold tryN; rw [tb_pos h, firstN_at hi hq hu]; rfl
theorem addV_in {l : List Vo} {v : Vo} (h : v ∈ l) : addV l v = l := by unfold addV; rw [tb_pos h]; rfl
theorem addV_new {l : List Vo} {v : Vo} (h : v ∉ l) : addV l v = l ++ [v] := by unfold addV; rw [tb_neg h]; rfl
theorem addV_ok {l : List Vo} {v : Vo} (h : VotesOk l) (hv : VoteOk v) : VotesOk (addV l v) := by
  by_cases hm : v ∈ l
  · rw [addV_in hm]; exact h
  · rw [addV_new hm]; exact votesOk_snoc h hv hm
theorem addV_len (l : List Vo) (v : Vo) : (addV l v).length ≤ l.length + 1 := by
  unfold addV; split <;> simp
set_option maxHeartbeats 4000000 in
set_option maxRecDepth 100000 in
theorem v_impl_Node_hear : Valid Try.prog n_impl_Node_hear S_impl_Node_hear := by
  refine valid_of_swp mixed is_impl_Node_hear (by rintro _ ⟨a, rfl, _⟩; exact Nat.le_of_ble_eq_true rfl) ?_
  rintro _ rm ⟨⟨n, v⟩, rfl, hpre⟩ hl
  try dsimp only at hpre
  have hpre0 := hpre
  obtain ⟨hp1, hp2⟩ := hpre
  have hseen := hp1.2.2.2.1
  have hep : In n.ep 0 30 := hp1.2.1
  have hep2 : In n.ep 0 100 := ⟨hep.1, Int.le_trans hep.2 (by decide)⟩
  have hV : VotesOk n.seen := hp1.2.2.2.2.1
  have hfs : FitVs n.seen := hp1.fit
  by_cases h1 : VoteOk v
  · by_cases h2 : v.n = n.id
    · have e2 : hearN false n v = (n, zVo, false) := by unfold hearN; rw [tb_neg (fun h => h.2.1 h2)]; rfl
      repeat' ((conv => whnf); first
        | refine ⟨_, rfl, ?_⟩
        | refine ⟨rfl, ?_⟩
        | refine ⟨_, _, rfl, rfl, rfl, Nat.le_of_ble_eq_true rfl, ?_⟩
        | (refine ⟨fun hc => ?_, fun hc => ?_⟩ <;> (try simp (disch := omega) only [List.length_map, wrap64] at hc) <;> (try (exfalso; first | contradiction | omega)))
        | (refine callt (b := [agg (voF ⟨_, _⟩)]) v_impl_VoteOk rfl ⟨⟨_, _⟩, rfl, (by exact pr_)⟩ (.inl rfl) (by first | assumption | omega) (fun r hr => K_impl_VoteOk (a := ⟨_, _⟩) hr) (fun hj => ?_) (fun hj => ?_) <;> (try simp only [etaPa, etaIt, etaVo] at hj) <;> (try contradiction))
        | exact ⟨⟨_, rfl, rfl, (n, v), rfl, (by show _ = trip (hearN false n v); rw [e2]; rfl)⟩, Nat.le_refl _, h0_⟩
        | fail)
    · by_cases h3 : 80 ≤ n.seen.length
      · have e2 : hearN false n v = (n, zVo, false) := by unfold hearN; rw [tb_neg (fun h => absurd h.2.2 (by omega))]; rfl
        repeat' ((conv => whnf); first
          | refine ⟨_, rfl, ?_⟩
          | refine ⟨rfl, ?_⟩
          | refine ⟨_, _, rfl, rfl, rfl, Nat.le_of_ble_eq_true rfl, ?_⟩
          | (refine ⟨fun hc => ?_, fun hc => ?_⟩ <;> (try simp (disch := omega) only [List.length_map, wrap64] at hc) <;> (try (exfalso; first | contradiction | omega)))
          | (refine callt (b := [agg (voF ⟨_, _⟩)]) v_impl_VoteOk rfl ⟨⟨_, _⟩, rfl, (by exact pr_)⟩ (.inl rfl) (by first | assumption | omega) (fun r hr => K_impl_VoteOk (a := ⟨_, _⟩) hr) (fun hj => ?_) (fun hj => ?_) <;> (try simp only [etaPa, etaIt, etaVo] at hj) <;> (try contradiction))
          | exact ⟨⟨_, rfl, rfl, (n, v), rfl, (by show _ = trip (hearN false n v); rw [e2]; rfl)⟩, Nat.le_refl _, h0_⟩
          | fail)
      · have hH : HearsN n v := ⟨h1, h2, by omega⟩
        have hlt : n.seen.length < LIM := by simp only [LIM]; omega
        by_cases h4 : v ∈ n.seen
        · by_cases h5 : mayN n
          · have h50 := h5.1
            have hmay : mayN n := h5
            have hVL : VotesOk n.seen := hV
            have hLL : n.seen.length ≤ LIM := hfs.1
            have eH : hearN false n v = tryN false n := hear_loop_post hH (by rw [addV_in h4])
            repeat' ((conv => whnf); first
              | refine ⟨_, rfl, ?_⟩
              | refine ⟨rfl, ?_⟩
              | (refine ⟨fun hc => ?_, fun hc => ?_⟩ <;> (try simp (disch := omega) only [List.length_map, wrap64] at hc) <;> (try (exfalso; first | contradiction | omega)))
              | (refine callt (b := [agg (voF ⟨_, _⟩)]) v_impl_VoteOk rfl ⟨⟨_, _⟩, rfl, (by exact pr_)⟩ (.inl rfl) (by first | assumption | omega) (fun r hr => K_impl_VoteOk (a := ⟨_, _⟩) hr) (fun hj => ?_) (fun hj => ?_) <;> (try simp only [etaPa, etaIt, etaVo] at hj) <;> (try contradiction))
              | (refine callt (b := [one (vsF _), agg (voF ⟨_, _⟩)]) v_impl_votes_has rfl ⟨(_, ⟨_, _⟩), rfl, (by refine ⟨?_, ?_⟩ <;> (exact pr_))⟩ (.inl rfl) (by first | assumption | omega) (fun r hr => K_impl_votes_has (a := (_, ⟨_, _⟩)) hr) (fun hj => ?_) (fun hj => ?_) <;> (try simp only [etaPa, etaIt, etaVo] at hj) <;> (try contradiction))
              | (refine callt (b := [agg (ndF ⟨_, _, _, _⟩)]) v_impl_Node_may rfl ⟨⟨_, _, _, _⟩, rfl, (by exact True.intro)⟩ (.inl rfl) (by first | assumption | omega) (fun r hr => K_impl_Node_may (a := ⟨_, _, _, _⟩) hr) (fun hj => ?_) (fun hj => ?_) <;> (try simp only [etaPa, etaIt, etaVo] at hj) <;> (try contradiction))
              | (refine calle (b := [one (vsF _)]) v_impl_votes_tip rfl ⟨_, rfl, (by refine ⟨?_, ?_⟩ <;> (exact pr_))⟩ (.inl rfl) (by first | assumption | omega) (fun r hr => K_impl_votes_tip (a := _) hr) ?_)
              | (refine calle (b := [I _]) v_impl_VoteLeader rfl ⟨_, rfl, (by exact pr_)⟩ (.inl rfl) (by first | assumption | omega) (fun r hr => K_impl_VoteLeader (a := _) hr) ?_)
              | fail)
            conv => whnf
            refine ⟨fun fr H nx rm' => ∃ i : Nat, Has fr [(2, .w (.o (.ptr 1 0))), (4, .w (.o (.ptr 33 0))), (5, .w (.o (.ptr 49 0))), (7, one (vsF (n.seen))), (8, I (tip (n.seen)).length), (9, I (lead n.ep)), (54, one (vsF (n.seen))), (55, I (n.seen).length), (56, I i)] ∧ i ≤ (n.seen).length ∧ H 1 = some (.cells ((ndF (n)).map AC.c)) ∧ H 33 = some (.cells [cI 0, cI 0, cI 0, .e0]) ∧ H 49 = some (.cells [cI 0, .e0]) ∧ (∀ j u, j < i → (n.seen)[j]? = some u → ¬ FitsN false (n) u) ∧ 65 ≤ nx ∧ H 0 = none ∧ rm' = rm,
              fun fr _ _ _ => (n.seen).length - ix (fr 56), ⟨0, ⟨rfl, rfl, rfl, rfl, congrArg (fun z : Nat => I (z : Int)) (List.length_map ..), congrArg I (leadV_in h50 hep.2), rfl, congrArg (fun z : Nat => I (z : Int)) (List.length_map ..), rfl, trivial⟩, Nat.zero_le _, hk_, hk_, hk_, fun j u h => by omega, ln_, ne_, rfl⟩, ?_⟩
            rintro fr H nx rm' ⟨i, hfr, hi, hH1, hH33, hH49, hq, hnx, hH0, rfl⟩
            rw [hfr.eq]
            rcases Nat.lt_or_ge i (n.seen).length with hi' | hi'
            · obtain ⟨x, hx⟩ : ∃ x, (n.seen)[i]? = some x := ⟨_, List.getElem?_eq_getElem hi'⟩
              have hxm : x ∈ (n.seen) := List.mem_of_getElem? hx
              have hxv : VoteOk x := hVL.ok' hxm
              have hx0 : 0 < x.c.length := List.length_pos_iff.2 hxv.2.1
              have hx16 : x.c.length ≤ 16 := hxv.2.2.2
              have hxL : x.c.length ≤ LIM := Nat.le_trans hx16 (by decide)
              have hxt : (x.c.take (x.c.length - 1)).length = x.c.length - 1 := by rw [List.length_take]; omega
              have hxtL : (x.c.take (x.c.length - 1)).length ≤ LIM := by rw [hxt]; exact Nat.le_trans (Nat.sub_le _ _) hxL
              have hw : IntKind.i64.wrap (((x.c.map itF).length : Int) - 1) = ((x.c.length - 1 : Nat) : Int) := by rw [List.length_map]; exact wrapL hx0 hxL
              have hstep : ¬ FitsN false (n) x → ∀ j u, j < i + 1 → (n.seen)[j]? = some u → ¬ FitsN false (n) u := by
                intro hh j u hj1 hj2
                by_cases e : j < i
                · exact hq j u e hj2
                · have e : j = i := by omega
                  subst e; cases (hx.symm.trans hj2); exact hh
              by_cases hF : FitsN false (n) x
              · obtain ⟨f1, f2, f3, f4⟩ := id hF
                have f3' : (x.c.take (x.c.length - 1)).length = (tip (n.seen)).length := hxt.trans f3
                have f4' : Sure (n.seen) (x.c.take (x.c.length - 1)) := f4
                have f1' : x.n = lead n.ep := f1
                have f2' : lastE x = n.ep := f2
                have e3 : hearN false n v = voteN (n) x.c := eH.trans (tryN_some hmay hx hq hF)
                repeat' ((conv => whnf); first
                  | refine ⟨_, _, (hH33), rfl, rfl, Nat.le_of_ble_eq_true rfl, ?_⟩
                  | refine ⟨_, _, (zk (zk (zk (hH49) (by omega)) (by omega)) (by omega)), rfl, rfl, Nat.le_of_ble_eq_true rfl, ?_⟩
                  | refine ⟨_, _, rfl, at_map hx, ?_⟩
                  | (refine ⟨_, slc_to (i := x.c.length - 1) (congrArg I hw) (by rw [List.length_map]; omega), ?_⟩; rw [map_take'])
                  | refine ⟨_, rfl, ?_⟩
                  | refine ⟨rfl, ?_⟩
                  | refine ⟨_, ldc_cells hupd_at (Nat.le_of_ble_eq_true rfl), ?_⟩
                  | refine ⟨_, ldc_cells (by first | assumption | exact zk ‹_› (by omega) | exact zk (zk ‹_› (by omega)) (by omega)) (Nat.le_of_ble_eq_true rfl), ?_⟩
                  | refine ⟨_, _, hupd_at, rfl, rfl, Nat.le_of_ble_eq_true rfl, ?_⟩
                  | (refine ⟨fun hc => ?_, fun hc => ?_⟩ <;> (try simp (disch := omega) only [List.length_map, wrap64] at hc) <;> (try (exfalso; first | contradiction | omega)))
                  | (refine calle (b := [agg (voF ⟨_, _⟩)]) v_impl_Vote_last rfl ⟨⟨_, _⟩, rfl, (by refine ⟨?_, ?_⟩ <;> (exact pr_))⟩ (.inl rfl) (by first | assumption | omega) (fun r hr => K_impl_Vote_last (a := ⟨_, _⟩) hr) ?_)
                  | (refine callt (b := [one (vsF _), one (chF _)]) v_impl_votes_sure rfl ⟨(_, _), rfl, (by refine ⟨?_, ?_⟩ <;> (exact pr_))⟩ (.inl rfl) (by first | assumption | omega) (fun r hr => K_impl_votes_sure (a := (_, _)) hr) (fun hj => ?_) (fun hj => ?_) <;> (try simp only [etaPa, etaIt, etaVo] at hj) <;> (try contradiction))
                  | (refine callk (b := [agg (ndF ⟨_, _, _, _⟩), one (chF _)]) v_impl_Node_vote rfl ⟨(⟨_, _, _, _⟩, _), rfl, (by refine ⟨?_, ?_⟩ <;> (exact pr_))⟩ (.inl rfl) (by first | assumption | omega) (fun r hr => ?_); have hj := K_impl_Node_vote (a := (⟨_, _, _, _⟩, _)) hr; clear hr; unfold R_impl_Node_vote at hj; dsimp only at hj; (try simp only [etaNd, etaVo] at hj); (try rw [eO1] at hj); (try rw [eO2] at hj); subst hj)
                  | exact ⟨⟨_, rfl, rfl, (n, v), rfl, (by show _ = trip (hearN false n v); rw [e3]; rfl)⟩, Nat.le_refl _, h0_⟩
                  | fail)
              · have hFF := hF
                repeat' ((conv => whnf); first
                  | (exfalso; exact hF ⟨by assumption, by assumption, (by show x.c.length - 1 = (tip (n.seen)).length; omega), by assumption⟩)
                  | (exfalso; omega)
                  | refine ⟨_, _, rfl, at_map hx, ?_⟩
                  | (refine ⟨_, slc_to (i := x.c.length - 1) (congrArg I hw) (by rw [List.length_map]; omega), ?_⟩; rw [map_take'])
                  | refine ⟨_, rfl, ?_⟩
                  | refine ⟨rfl, ?_⟩
                  | refine ⟨_, ldc_cells hupd_at (Nat.le_of_ble_eq_true rfl), ?_⟩
                  | refine ⟨_, ldc_cells (by first | assumption | exact zk ‹_› (by omega) | exact zk (zk ‹_› (by omega)) (by omega)) (Nat.le_of_ble_eq_true rfl), ?_⟩
                  | refine ⟨_, _, hupd_at, rfl, rfl, Nat.le_of_ble_eq_true rfl, ?_⟩
                  | (refine ⟨fun hc => ?_, fun hc => ?_⟩ <;> (try simp (disch := omega) only [List.length_map, wrap64] at hc))
                  | (refine calle (b := [agg (voF ⟨_, _⟩)]) v_impl_Vote_last rfl ⟨⟨_, _⟩, rfl, (by refine ⟨?_, ?_⟩ <;> (exact pr_))⟩ (.inl rfl) (by first | assumption | omega) (fun r hr => K_impl_Vote_last (a := ⟨_, _⟩) hr) ?_)
                  | (refine callt (b := [one (vsF _), one (chF _)]) v_impl_votes_sure rfl ⟨(_, _), rfl, (by refine ⟨?_, ?_⟩ <;> (exact pr_))⟩ (.inl rfl) (by first | assumption | omega) (fun r hr => K_impl_votes_sure (a := (_, _)) hr) (fun hj => ?_) (fun hj => ?_) <;> (try simp only [etaPa, etaIt, etaVo] at hj))
                  | (refine ⟨⟨i + 1, ⟨rfl, rfl, rfl, rfl, rfl, rfl, rfl, rfl, congrArg I (wrap_up hi' hLL), trivial⟩, hi', hk_, hk_, hk_, hstep hF, by omega, h0_, rfl⟩, ?_⟩; show (n.seen).length - ix (I _) < (n.seen).length - ix (I _); simp only [wrap_up hi' hLL, ix, Int.toNat_natCast]; omega)
                  | fail)
            · have hie : i = (n.seen).length := by omega
              subst hie
              have e3 : hearN false n v = (n, zVo, false) := eH.trans (tryN_none hmay hq)
              repeat' ((conv => whnf); first
                | refine ⟨_, _, (hH33), rfl, rfl, Nat.le_of_ble_eq_true rfl, ?_⟩
                | refine ⟨_, _, (hH49), rfl, rfl, Nat.le_of_ble_eq_true rfl, ?_⟩
                | refine ⟨rfl, ?_⟩
                | refine ⟨_, ldc_cells (by first | assumption | exact zk ‹_› (by omega) | exact zk (zk ‹_› (by omega)) (by omega)) (Nat.le_of_ble_eq_true rfl), ?_⟩
                | (refine ⟨fun hc => ?_, fun hc => ?_⟩ <;> (try simp (disch := omega) only [List.length_map, wrap64] at hc) <;> (try (exfalso; first | contradiction | omega)))
                | exact ⟨⟨_, rfl, rfl, (n, v), rfl, (by show _ = trip (hearN false n v); rw [e3]; rfl)⟩, Nat.le_refl _, h0_⟩
                | fail)
          · have e3 : hearN false n v = (n, zVo, false) := by rw [hear_loop_post hH (m := n) (by rw [addV_in h4])]; exact tryN_no h5
            repeat' ((conv => whnf); first
              | refine ⟨_, rfl, ?_⟩
              | refine ⟨rfl, ?_⟩
              | refine ⟨_, _, rfl, rfl, rfl, Nat.le_of_ble_eq_true rfl, ?_⟩
              | (refine ⟨fun hc => ?_, fun hc => ?_⟩ <;> (try simp (disch := omega) only [List.length_map, wrap64] at hc) <;> (try (exfalso; first | contradiction | omega)))
              | (refine callt (b := [agg (voF ⟨_, _⟩)]) v_impl_VoteOk rfl ⟨⟨_, _⟩, rfl, (by exact pr_)⟩ (.inl rfl) (by first | assumption | omega) (fun r hr => K_impl_VoteOk (a := ⟨_, _⟩) hr) (fun hj => ?_) (fun hj => ?_) <;> (try simp only [etaPa, etaIt, etaVo] at hj) <;> (try contradiction))
              | (refine callt (b := [one (vsF _), agg (voF ⟨_, _⟩)]) v_impl_votes_has rfl ⟨(_, ⟨_, _⟩), rfl, (by refine ⟨?_, ?_⟩ <;> (exact pr_))⟩ (.inl rfl) (by first | assumption | omega) (fun r hr => K_impl_votes_has (a := (_, ⟨_, _⟩)) hr) (fun hj => ?_) (fun hj => ?_) <;> (try simp only [etaPa, etaIt, etaVo] at hj) <;> (try contradiction))
              | (refine callt (b := [agg (ndF ⟨_, _, _, _⟩)]) v_impl_Node_may rfl ⟨⟨_, _, _, _⟩, rfl, (by exact True.intro)⟩ (.inl rfl) (by first | assumption | omega) (fun r hr => K_impl_Node_may (a := ⟨_, _, _, _⟩) hr) (fun hj => ?_) (fun hj => ?_) <;> (try simp only [etaPa, etaIt, etaVo] at hj) <;> (try contradiction))
              | exact ⟨⟨_, rfl, rfl, (n, v), rfl, (by show _ = trip (hearN false n v); rw [e3]; rfl)⟩, Nat.le_refl _, h0_⟩
              | fail)
        · have hVL : VotesOk (n.seen ++ [v]) := votesOk_snoc hV h1 h4
          have hll : (n.seen ++ [v]).length = n.seen.length + 1 := by simp
          have hfm : FitVs (n.seen ++ [v]) := ⟨by rw [hll]; simp only [LIM]; omega, fun u hu => Nat.le_trans (hVL.ok' hu).2.2.2 (by decide)⟩
          have hLL : (n.seen ++ [v]).length ≤ LIM := hfm.1
          have hlt2 : (n.seen ++ [v]).length < LIM := by rw [hll]; simp only [LIM]; omega
          have eH : hearN false n v = tryN false (⟨n.id, n.ep, n.vt, n.seen ++ [v]⟩ : Nd) := hear_loop_post hH (by rw [addV_new h4])
          by_cases h5 : mayN (⟨n.id, n.ep, n.vt, n.seen ++ [v]⟩ : Nd)
          · have hmay : mayN (⟨n.id, n.ep, n.vt, n.seen ++ [v]⟩ : Nd) := h5
            have h50 : 0 < n.ep := h5.1
            repeat' ((conv => whnf); first
              | refine ⟨_, rfl, ?_⟩
              | refine ⟨rfl, ?_⟩
              | refine ⟨_, _, rfl, rfl, rfl, Nat.le_of_ble_eq_true rfl, ?_⟩
              | (refine ⟨fun hc => ?_, fun hc => ?_⟩ <;> (try simp (disch := omega) only [List.length_map, wrap64] at hc) <;> (try (exfalso; first | contradiction | omega)))
              | (refine callt (b := [agg (voF ⟨_, _⟩)]) v_impl_VoteOk rfl ⟨⟨_, _⟩, rfl, (by exact pr_)⟩ (.inl rfl) (by first | assumption | omega) (fun r hr => K_impl_VoteOk (a := ⟨_, _⟩) hr) (fun hj => ?_) (fun hj => ?_) <;> (try simp only [etaPa, etaIt, etaVo] at hj) <;> (try contradiction))
              | (refine callt (b := [one (vsF _), agg (voF ⟨_, _⟩)]) v_impl_votes_has rfl ⟨(_, ⟨_, _⟩), rfl, (by refine ⟨?_, ?_⟩ <;> (exact pr_))⟩ (.inl rfl) (by first | assumption | omega) (fun r hr => K_impl_votes_has (a := (_, ⟨_, _⟩)) hr) (fun hj => ?_) (fun hj => ?_) <;> (try simp only [etaPa, etaIt, etaVo] at hj) <;> (try contradiction))
              | (refine calle (b := [one (vsF _), agg (voF ⟨_, _⟩)]) v_impl_votes_with rfl ⟨(_, ⟨_, _⟩), rfl, (by refine ⟨?_, ?_, ?_⟩ <;> (exact pr_))⟩ (.inl rfl) (by first | assumption | omega) (fun r hr => K_impl_votes_with (a := (_, ⟨_, _⟩)) hr) ?_)
              | (refine ⟨⟨⟨n.id, n.ep, n.vt, n.seen ++ [v]⟩, rfl, (by exact True.intro)⟩, v_impl_Node_may, (.inl rfl), (by first | assumption | omega), fun r hr => ?_⟩; rcases K_impl_Node_may (a := ⟨n.id, n.ep, n.vt, n.seen ++ [v]⟩) hr with ⟨hj, rfl⟩ | ⟨hj, rfl⟩ <;> clear hr <;> (try simp only [etaPa, etaIt, etaVo] at hj) <;> (try contradiction))
              | (refine calle (b := [one (vsF _)]) v_impl_votes_tip rfl ⟨_, rfl, (by refine ⟨?_, ?_⟩ <;> (exact pr_))⟩ (.inl rfl) (by first | assumption | omega) (fun r hr => K_impl_votes_tip (a := _) hr) ?_)
              | (refine calle (b := [I _]) v_impl_VoteLeader rfl ⟨_, rfl, (by exact pr_)⟩ (.inl rfl) (by first | assumption | omega) (fun r hr => K_impl_VoteLeader (a := _) hr) ?_)
              | fail)
            conv => whnf
            refine ⟨fun fr H nx rm' => ∃ i : Nat, Has fr [(2, .w (.o (.ptr 1 0))), (4, .w (.o (.ptr 33 0))), (5, .w (.o (.ptr 49 0))), (7, one (vsF (n.seen ++ [v]))), (8, I (tip (n.seen ++ [v])).length), (9, I (lead n.ep)), (54, one (vsF (n.seen ++ [v]))), (55, I (n.seen ++ [v]).length), (56, I i)] ∧ i ≤ (n.seen ++ [v]).length ∧ H 1 = some (.cells ((ndF ((⟨n.id, n.ep, n.vt, n.seen ++ [v]⟩ : Nd))).map AC.c)) ∧ H 33 = some (.cells [cI 0, cI 0, cI 0, .e0]) ∧ H 49 = some (.cells [cI 0, .e0]) ∧ (∀ j u, j < i → (n.seen ++ [v])[j]? = some u → ¬ FitsN false ((⟨n.id, n.ep, n.vt, n.seen ++ [v]⟩ : Nd)) u) ∧ 65 ≤ nx ∧ H 0 = none ∧ rm' = rm,
              fun fr _ _ _ => (n.seen ++ [v]).length - ix (fr 56), ⟨0, ⟨rfl, rfl, rfl, rfl, congrArg (fun z : Nat => I (z : Int)) (List.length_map ..), congrArg I (leadV_in h50 hep.2), rfl, congrArg (fun z : Nat => I (z : Int)) (List.length_map ..), rfl, trivial⟩, Nat.zero_le _, hk_, hk_, hk_, fun j u h => by omega, ln_, ne_, rfl⟩, ?_⟩
            rintro fr H nx rm' ⟨i, hfr, hi, hH1, hH33, hH49, hq, hnx, hH0, rfl⟩
            rw [hfr.eq]
            rcases Nat.lt_or_ge i (n.seen ++ [v]).length with hi' | hi'
            · obtain ⟨x, hx⟩ : ∃ x, (n.seen ++ [v])[i]? = some x := ⟨_, List.getElem?_eq_getElem hi'⟩
              have hxm : x ∈ (n.seen ++ [v]) := List.mem_of_getElem? hx
              have hxv : VoteOk x := hVL.ok' hxm
              have hx0 : 0 < x.c.length := List.length_pos_iff.2 hxv.2.1
              have hx16 : x.c.length ≤ 16 := hxv.2.2.2
              have hxL : x.c.length ≤ LIM := Nat.le_trans hx16 (by decide)
              have hxt : (x.c.take (x.c.length - 1)).length = x.c.length - 1 := by rw [List.length_take]; omega
              have hxtL : (x.c.take (x.c.length - 1)).length ≤ LIM := by rw [hxt]; exact Nat.le_trans (Nat.sub_le _ _) hxL
              have hw : IntKind.i64.wrap (((x.c.map itF).length : Int) - 1) = ((x.c.length - 1 : Nat) : Int) := by rw [List.length_map]; exact wrapL hx0 hxL
              have hstep : ¬ FitsN false ((⟨n.id, n.ep, n.vt, n.seen ++ [v]⟩ : Nd)) x → ∀ j u, j < i + 1 → (n.seen ++ [v])[j]? = some u → ¬ FitsN false ((⟨n.id, n.ep, n.vt, n.seen ++ [v]⟩ : Nd)) u := by
                intro hh j u hj1 hj2
                by_cases e : j < i
                · exact hq j u e hj2
                · have e : j = i := by omega
                  subst e; cases (hx.symm.trans hj2); exact hh
              by_cases hF : FitsN false ((⟨n.id, n.ep, n.vt, n.seen ++ [v]⟩ : Nd)) x
              · obtain ⟨f1, f2, f3, f4⟩ := id hF
                have f3' : (x.c.take (x.c.length - 1)).length = (tip (n.seen ++ [v])).length := hxt.trans f3
                have f4' : Sure (n.seen ++ [v]) (x.c.take (x.c.length - 1)) := f4
                have f1' : x.n = lead n.ep := f1
                have f2' : lastE x = n.ep := f2
                have e3 : hearN false n v = voteN ((⟨n.id, n.ep, n.vt, n.seen ++ [v]⟩ : Nd)) x.c := eH.trans (tryN_some hmay hx hq hF)
                repeat' ((conv => whnf); first
                  | refine ⟨_, _, (hH33), rfl, rfl, Nat.le_of_ble_eq_true rfl, ?_⟩
                  | refine ⟨_, _, (zk (zk (zk (hH49) (by omega)) (by omega)) (by omega)), rfl, rfl, Nat.le_of_ble_eq_true rfl, ?_⟩
                  | refine ⟨_, _, rfl, at_map hx, ?_⟩
                  | (refine ⟨_, slc_to (i := x.c.length - 1) (congrArg I hw) (by rw [List.length_map]; omega), ?_⟩; rw [map_take'])
                  | refine ⟨_, rfl, ?_⟩
                  | refine ⟨rfl, ?_⟩
                  | refine ⟨_, ldc_cells hupd_at (Nat.le_of_ble_eq_true rfl), ?_⟩
                  | refine ⟨_, ldc_cells (by first | assumption | exact zk ‹_› (by omega) | exact zk (zk ‹_› (by omega)) (by omega)) (Nat.le_of_ble_eq_true rfl), ?_⟩
                  | refine ⟨_, _, hupd_at, rfl, rfl, Nat.le_of_ble_eq_true rfl, ?_⟩
                  | (refine ⟨fun hc => ?_, fun hc => ?_⟩ <;> (try simp (disch := omega) only [List.length_map, wrap64] at hc) <;> (try (exfalso; first | contradiction | omega)))
                  | (refine calle (b := [agg (voF ⟨_, _⟩)]) v_impl_Vote_last rfl ⟨⟨_, _⟩, rfl, (by refine ⟨?_, ?_⟩ <;> (exact pr_))⟩ (.inl rfl) (by first | assumption | omega) (fun r hr => K_impl_Vote_last (a := ⟨_, _⟩) hr) ?_)
                  | (refine callt (b := [one (vsF _), one (chF _)]) v_impl_votes_sure rfl ⟨(_, _), rfl, (by refine ⟨?_, ?_⟩ <;> (exact pr_))⟩ (.inl rfl) (by first | assumption | omega) (fun r hr => K_impl_votes_sure (a := (_, _)) hr) (fun hj => ?_) (fun hj => ?_) <;> (try simp only [etaPa, etaIt, etaVo] at hj) <;> (try contradiction))
                  | (refine callk (b := [agg (ndF ⟨_, _, _, _⟩), one (chF _)]) v_impl_Node_vote rfl ⟨(⟨_, _, _, _⟩, _), rfl, (by refine ⟨?_, ?_⟩ <;> (exact pr_))⟩ (.inl rfl) (by first | assumption | omega) (fun r hr => ?_); have hj := K_impl_Node_vote (a := (⟨_, _, _, _⟩, _)) hr; clear hr; unfold R_impl_Node_vote at hj; dsimp only at hj; (try simp only [etaNd, etaVo] at hj); (try rw [eO1] at hj); (try rw [eO2] at hj); subst hj)
                  | exact ⟨⟨_, rfl, rfl, (n, v), rfl, (by show _ = trip (hearN false n v); rw [e3]; rfl)⟩, Nat.le_refl _, h0_⟩
                  | fail)
              · have hFF := hF
                repeat' ((conv => whnf); first
                  | (exfalso; exact hF ⟨by assumption, by assumption, (by show x.c.length - 1 = (tip (n.seen ++ [v])).length; omega), by assumption⟩)
                  | (exfalso; omega)
                  | refine ⟨_, _, rfl, at_map hx, ?_⟩
                  | (refine ⟨_, slc_to (i := x.c.length - 1) (congrArg I hw) (by rw [List.length_map]; omega), ?_⟩; rw [map_take'])
                  | refine ⟨_, rfl, ?_⟩
                  | refine ⟨rfl, ?_⟩
                  | refine ⟨_, ldc_cells hupd_at (Nat.le_of_ble_eq_true rfl), ?_⟩
                  | refine ⟨_, ldc_cells (by first | assumption | exact zk ‹_› (by omega) | exact zk (zk ‹_› (by omega)) (by omega)) (Nat.le_of_ble_eq_true rfl), ?_⟩
                  | refine ⟨_, _, hupd_at, rfl, rfl, Nat.le_of_ble_eq_true rfl, ?_⟩
                  | (refine ⟨fun hc => ?_, fun hc => ?_⟩ <;> (try simp (disch := omega) only [List.length_map, wrap64] at hc))
                  | (refine calle (b := [agg (voF ⟨_, _⟩)]) v_impl_Vote_last rfl ⟨⟨_, _⟩, rfl, (by refine ⟨?_, ?_⟩ <;> (exact pr_))⟩ (.inl rfl) (by first | assumption | omega) (fun r hr => K_impl_Vote_last (a := ⟨_, _⟩) hr) ?_)
                  | (refine callt (b := [one (vsF _), one (chF _)]) v_impl_votes_sure rfl ⟨(_, _), rfl, (by refine ⟨?_, ?_⟩ <;> (exact pr_))⟩ (.inl rfl) (by first | assumption | omega) (fun r hr => K_impl_votes_sure (a := (_, _)) hr) (fun hj => ?_) (fun hj => ?_) <;> (try simp only [etaPa, etaIt, etaVo] at hj))
                  | (refine ⟨⟨i + 1, ⟨rfl, rfl, rfl, rfl, rfl, rfl, rfl, rfl, congrArg I (wrap_up hi' hLL), trivial⟩, hi', hk_, hk_, hk_, hstep hF, by omega, h0_, rfl⟩, ?_⟩; show (n.seen ++ [v]).length - ix (I _) < (n.seen ++ [v]).length - ix (I _); simp only [wrap_up hi' hLL, ix, Int.toNat_natCast]; omega)
                  | fail)
            · have hie : i = (n.seen ++ [v]).length := by omega
              subst hie
              have e3 : hearN false n v = ((⟨n.id, n.ep, n.vt, n.seen ++ [v]⟩ : Nd), zVo, false) := eH.trans (tryN_none hmay hq)
              repeat' ((conv => whnf); first
                | refine ⟨_, _, (hH33), rfl, rfl, Nat.le_of_ble_eq_true rfl, ?_⟩
                | refine ⟨_, _, (hH49), rfl, rfl, Nat.le_of_ble_eq_true rfl, ?_⟩
                | refine ⟨rfl, ?_⟩
                | refine ⟨_, ldc_cells (by first | assumption | exact zk ‹_› (by omega) | exact zk (zk ‹_› (by omega)) (by omega)) (Nat.le_of_ble_eq_true rfl), ?_⟩
                | (refine ⟨fun hc => ?_, fun hc => ?_⟩ <;> (try simp (disch := omega) only [List.length_map, wrap64] at hc) <;> (try (exfalso; first | contradiction | omega)))
                | exact ⟨⟨_, rfl, rfl, (n, v), rfl, (by show _ = trip (hearN false n v); rw [e3]; rfl)⟩, Nat.le_refl _, h0_⟩
                | fail)
          · have e3 : hearN false n v = ((⟨n.id, n.ep, n.vt, n.seen ++ [v]⟩ : Nd), zVo, false) := eH.trans (tryN_no h5)
            repeat' ((conv => whnf); first
              | refine ⟨_, rfl, ?_⟩
              | refine ⟨rfl, ?_⟩
              | refine ⟨_, _, rfl, rfl, rfl, Nat.le_of_ble_eq_true rfl, ?_⟩
              | (refine ⟨fun hc => ?_, fun hc => ?_⟩ <;> (try simp (disch := omega) only [List.length_map, wrap64] at hc) <;> (try (exfalso; first | contradiction | omega)))
              | (refine callt (b := [agg (voF ⟨_, _⟩)]) v_impl_VoteOk rfl ⟨⟨_, _⟩, rfl, (by exact pr_)⟩ (.inl rfl) (by first | assumption | omega) (fun r hr => K_impl_VoteOk (a := ⟨_, _⟩) hr) (fun hj => ?_) (fun hj => ?_) <;> (try simp only [etaPa, etaIt, etaVo] at hj) <;> (try contradiction))
              | (refine callt (b := [one (vsF _), agg (voF ⟨_, _⟩)]) v_impl_votes_has rfl ⟨(_, ⟨_, _⟩), rfl, (by refine ⟨?_, ?_⟩ <;> (exact pr_))⟩ (.inl rfl) (by first | assumption | omega) (fun r hr => K_impl_votes_has (a := (_, ⟨_, _⟩)) hr) (fun hj => ?_) (fun hj => ?_) <;> (try simp only [etaPa, etaIt, etaVo] at hj) <;> (try contradiction))
              | (refine calle (b := [one (vsF _), agg (voF ⟨_, _⟩)]) v_impl_votes_with rfl ⟨(_, ⟨_, _⟩), rfl, (by refine ⟨?_, ?_, ?_⟩ <;> (exact pr_))⟩ (.inl rfl) (by first | assumption | omega) (fun r hr => K_impl_votes_with (a := (_, ⟨_, _⟩)) hr) ?_)
              | (refine ⟨⟨⟨n.id, n.ep, n.vt, n.seen ++ [v]⟩, rfl, (by exact True.intro)⟩, v_impl_Node_may, (.inl rfl), (by first | assumption | omega), fun r hr => ?_⟩; rcases K_impl_Node_may (a := ⟨n.id, n.ep, n.vt, n.seen ++ [v]⟩) hr with ⟨hj, rfl⟩ | ⟨hj, rfl⟩ <;> clear hr <;> (try simp only [etaPa, etaIt, etaVo] at hj) <;> (try contradiction))
              | exact ⟨⟨_, rfl, rfl, (n, v), rfl, (by show _ = trip (hearN false n v); rw [e3]; rfl)⟩, Nat.le_refl _, h0_⟩
              | fail)
  · have e2 : hearN false n v = (n, zVo, false) := by unfold hearN; rw [tb_neg (fun h => h1 h.1)]; rfl
    repeat' ((conv => whnf); first
      | refine ⟨_, rfl, ?_⟩
      | refine ⟨_, _, rfl, rfl, rfl, Nat.le_of_ble_eq_true rfl, ?_⟩
      | (refine callt (b := [agg (voF ⟨_, _⟩)]) v_impl_VoteOk rfl ⟨⟨_, _⟩, rfl, (by exact pr_)⟩ (.inl rfl) (by first | assumption | omega) (fun r hr => K_impl_VoteOk (a := ⟨_, _⟩) hr) (fun hj => ?_) (fun hj => ?_) <;> (try simp only [etaPa, etaIt, etaVo] at hj) <;> (try contradiction))
      | exact ⟨⟨_, rfl, rfl, (n, v), rfl, (by show _ = trip (hearN false n v); rw [e2]; rfl)⟩, Nat.le_refl _, h0_⟩
      | fail)
end Av
end Go.Proofs.Ytlbdoamidblkaaa
