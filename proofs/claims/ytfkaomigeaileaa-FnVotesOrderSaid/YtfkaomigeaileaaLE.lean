/- The walks: the law FnVotesOrder. -/
import Derived.Test.YtfkaomigeaileaaG5
import Derived.Test.YtfkaomigeaileaaK4
import Derived.Test.YtfkaomigeaileaaP1
import Derived.Test.YtfkaomigeaileaaQ1
set_option linter.unusedVariables false
set_option linter.unusedSimpArgs false
namespace Go.Proofs.Ytfkaomigeaileaa
namespace Av
open Go.RowKit

theorem votesFor_ok {l : List Vo} (h : VotesOk l) (c : List It) : votesFor l c = voters l c := by unfold votesFor; rw [tb_pos h]; rfl
theorem votesFor_len (l : List Vo) (c : List It) : (votesFor l c).length ≤ 4 := by
  unfold votesFor
  split
  · exact List.length_filter_le _ _
  · exact Nat.zero_le _
theorem swap_for {l : List Vo} {v w : Vo} (h1 : VotesOk (l ++ [v] ++ [w])) (h2 : VotesOk (l ++ [w] ++ [v])) (c : List It) : votesFor (l ++ [v] ++ [w]) c = votesFor (l ++ [w] ++ [v]) c := by
  rw [votesFor_ok h1, votesFor_ok h2, voters_swap]
attribute [local irreducible] votesFor
attribute [local irreducible] Valid ValidM
set_option maxHeartbeats 4000000 in
set_option maxRecDepth 100000 in
theorem v_laws_FnVotesOrder : Valid Try.prog n_laws_FnVotesOrder S_laws_FnVotesOrder := by
  refine valid_of_swp mixed is_laws_FnVotesOrder (by rintro _ ⟨a, rfl, _⟩; exact Nat.le_of_ble_eq_true rfl) ?_
  rintro _ rm ⟨⟨code, more⟩, rfl, hpre⟩ hl
  try dsimp only at hpre
  have hpre0 := hpre
  obtain ⟨hp1, hp2⟩ := hpre
  have cc_laws_FnVotesOrder : S_laws_FnVotesOrder.cost = 50000 := rfl
  have cc_spec_DrawVotesAdd : S_spec_DrawVotesAdd.cost = 10000 := rfl
  have cc_spec_DrawVoteOk : S_spec_DrawVoteOk.cost = 10000 := rfl
  have cc_spec_VotesAdd : S_spec_VotesAdd.cost = 0 := rfl
  have cc_impl_VotesAdd : S_impl_VotesAdd.cost = 0 := rfl
  have cc_laws_lwVotes : S_laws_lwVotes.cost = 0 := rfl
  have cc_impl_VotesFor : S_impl_VotesFor.cost = 0 := rfl
  have cc_laws_lwInts : S_laws_lwInts.cost = 0 := rfl
  repeat' ((conv => whnf); first
    | refine ⟨_, rfl, ?_⟩
    | refine ⟨rfl, ?_⟩
    | refine ⟨_, ldc_cells hupd_at (Nat.le_of_ble_eq_true rfl), ?_⟩
    | refine ⟨_, ldc_cells (by first | assumption | exact zk ‹_› (by omega) | exact zk (zk ‹_› (by omega)) (by omega)) (Nat.le_of_ble_eq_true rfl), ?_⟩
    | refine ⟨_, _, hupd_at, rfl, rfl, Nat.le_of_ble_eq_true rfl, ?_⟩
    | refine ⟨_, _, rfl, rfl, rfl, Nat.le_of_ble_eq_true rfl, ?_⟩
    | (refine ⟨fun hc => ?_, fun hc => ?_⟩ <;> (try simp (disch := omega) only [List.length_map, wrap64] at hc))
    | (refine callk (b := [one (byF _)]) v_spec_DrawVotesAdd rfl ⟨_, rfl, (by first | assumption | exact LawB.code ‹_› (by omega) | exact fit16 (DrV.get ‹_› ‹_›) | exact DrV.fit ‹_› | exact DrV.lt ‹_› | exact (by assumption : ∀ c : List It, c ∈ _ → c.length ≤ LIM) _ (List.mem_of_getElem? (by assumption)) | exact FitVs.get ‹_› ‹_› | exact FitVs.get hp1 ‹_› | exact FitVs.get hp2 ‹_› | (refine FitVs.get ?_ hx; assumption) | exact FitVs.take ‹_› _ | exact FitCs.take ‹_› _ | exact FitV.len ‹_› | exact FitVs.len ‹_› | exact BigVs.get ‹_› ‹_› | exact FitCs.get hp1 ‹_› | exact FitCs.get ‹_› ‹_› | omega | (simp only [LIM, FitV, List.length_take, List.length_append, List.length_cons, List.length_nil] at *; omega))⟩ (.inl rfl) (by omega) (fun r hr => ?_); have hj := K_spec_DrawVotesAdd (a := _) hr; clear hr; obtain ⟨l, v, rfl, hdl, hdv⟩ := hj)
    | (refine callk (b := [one (byF _)]) v_spec_DrawVoteOk rfl ⟨_, rfl, (by first | assumption | exact LawB.code ‹_› (by omega) | exact fit16 (DrV.get ‹_› ‹_›) | exact DrV.fit ‹_› | exact DrV.lt ‹_› | exact (by assumption : ∀ c : List It, c ∈ _ → c.length ≤ LIM) _ (List.mem_of_getElem? (by assumption)) | exact FitVs.get ‹_› ‹_› | exact FitVs.get hp1 ‹_› | exact FitVs.get hp2 ‹_› | (refine FitVs.get ?_ hx; assumption) | exact FitVs.take ‹_› _ | exact FitCs.take ‹_› _ | exact FitV.len ‹_› | exact FitVs.len ‹_› | exact BigVs.get ‹_› ‹_› | exact FitCs.get hp1 ‹_› | exact FitCs.get ‹_› ‹_› | omega | (simp only [LIM, FitV, List.length_take, List.length_append, List.length_cons, List.length_nil] at *; omega))⟩ (.inl rfl) (by omega) (fun r hr => ?_); have hj := K_spec_DrawVoteOk (a := _) hr; clear hr; obtain ⟨w, rfl, hdw⟩ := hj)
    | exact ⟨⟨_, rfl, rfl, (code, more), rfl, (by unfold R_laws_FnVotesOrder; dsimp only; first | done | exact absurd True.intro hj | (rfl))⟩, (by first | exact Nat.le_refl _ | omega), (by first | rfl | assumption | ((repeat (refine zk ?_ (by first | omega | decide | (simp only [List.length_cons, List.length_nil]; omega)))); first | assumption | rfl))⟩
    | fail)
  have hfl : FitVs l := hdl.fit
  have hln : l.length < LIM := hdl.lt
  have hll : l.length ≤ 400 := hdl.1
  have hfv : FitV v := fit16 hdv
  have hfw : FitV w := fit16 hdw
  have hf0 : FitVs [] := ⟨Nat.zero_le _, fun v h => by cases h⟩
  have hfa : FitVs (l ++ [v]) := ⟨by simp only [List.length_append, List.length_cons, List.length_nil, LIM]; omega, fun u hu => by rcases List.mem_append.1 hu with hu | hu; exact hfl.2 u hu; rw [List.mem_singleton.1 hu]; exact hfv⟩
  have hfal : (l ++ [v]).length < LIM := by simp only [List.length_append, List.length_cons, List.length_nil, LIM]; omega
  have hfb : FitVs (l ++ [w]) := ⟨by simp only [List.length_append, List.length_cons, List.length_nil, LIM]; omega, fun u hu => by rcases List.mem_append.1 hu with hu | hu; exact hfl.2 u hu; rw [List.mem_singleton.1 hu]; exact hfw⟩
  have hfbl : (l ++ [w]).length < LIM := by simp only [List.length_append, List.length_cons, List.length_nil, LIM]; omega
  rcases add_cases l v with ⟨hq, eL1, eB1⟩ | ⟨hq1, hq2, hq3, eL1, eB1⟩ | ⟨hq1, hq2, hq3, eL1, eB1⟩
  · skip
    repeat' ((conv => whnf); first
      | refine ⟨_, rfl, ?_⟩
      | refine ⟨rfl, ?_⟩
      | refine ⟨_, ldc_cells hupd_at (Nat.le_of_ble_eq_true rfl), ?_⟩
      | refine ⟨_, ldc_cells (by first | assumption | exact zk ‹_› (by omega) | exact zk (zk ‹_› (by omega)) (by omega)) (Nat.le_of_ble_eq_true rfl), ?_⟩
      | refine ⟨_, _, hupd_at, rfl, rfl, Nat.le_of_ble_eq_true rfl, ?_⟩
      | refine ⟨_, _, rfl, rfl, rfl, Nat.le_of_ble_eq_true rfl, ?_⟩
      | (refine ⟨fun hc => ?_, fun hc => ?_⟩ <;> (try simp (disch := omega) only [List.length_map, wrap64] at hc) <;> (try (exfalso; first | contradiction | omega)))
      | (refine callk (b := [one (vsF _), agg (voF ⟨_, _⟩)]) v_spec_VotesAdd rfl ⟨(_, ⟨_, _⟩), rfl, (by refine ⟨?_, ?_, ?_⟩ <;> (first | assumption | exact LawB.code ‹_› (by omega) | exact fit16 (DrV.get ‹_› ‹_›) | exact DrV.fit ‹_› | exact DrV.lt ‹_› | exact (by assumption : ∀ c : List It, c ∈ _ → c.length ≤ LIM) _ (List.mem_of_getElem? (by assumption)) | exact FitVs.get ‹_› ‹_› | exact FitVs.get hp1 ‹_› | exact FitVs.get hp2 ‹_› | (refine FitVs.get ?_ hx; assumption) | exact FitVs.take ‹_› _ | exact FitCs.take ‹_› _ | exact FitV.len ‹_› | exact FitVs.len ‹_› | exact BigVs.get ‹_› ‹_› | exact FitCs.get hp1 ‹_› | exact FitCs.get ‹_› ‹_› | omega | (simp only [LIM, FitV, List.length_take, List.length_append, List.length_cons, List.length_nil] at *; omega)))⟩ (.inl rfl) (by first | assumption | omega) (fun r hr => ?_); have hj := K_spec_VotesAdd (a := (_, ⟨_, _⟩)) hr; clear hr; unfold R_spec_VotesAdd at hj; dsimp only at hj; (try simp only [etaVo] at hj); (try rw [eL1, eB1] at hj); (try rw [eL2, eB2] at hj); (try rw [eL3, eB3] at hj); (try rw [eL4, eB4] at hj); subst hj)
      | (refine callk (b := [one (vsF _), agg (voF ⟨_, _⟩)]) v_impl_VotesAdd rfl ⟨(_, ⟨_, _⟩), rfl, (by refine ⟨?_, ?_, ?_⟩ <;> (first | assumption | exact LawB.code ‹_› (by omega) | exact fit16 (DrV.get ‹_› ‹_›) | exact DrV.fit ‹_› | exact DrV.lt ‹_› | exact (by assumption : ∀ c : List It, c ∈ _ → c.length ≤ LIM) _ (List.mem_of_getElem? (by assumption)) | exact FitVs.get ‹_› ‹_› | exact FitVs.get hp1 ‹_› | exact FitVs.get hp2 ‹_› | (refine FitVs.get ?_ hx; assumption) | exact FitVs.take ‹_› _ | exact FitCs.take ‹_› _ | exact FitV.len ‹_› | exact FitVs.len ‹_› | exact BigVs.get ‹_› ‹_› | exact FitCs.get hp1 ‹_› | exact FitCs.get ‹_› ‹_› | omega | (simp only [LIM, FitV, List.length_take, List.length_append, List.length_cons, List.length_nil] at *; omega)))⟩ (.inl rfl) (by first | assumption | omega) (fun r hr => ?_); have hj := K_impl_VotesAdd (a := (_, ⟨_, _⟩)) hr; clear hr; unfold R_impl_VotesAdd at hj; dsimp only at hj; (try simp only [etaVo] at hj); (try rw [eL1, eB1] at hj); (try rw [eL2, eB2] at hj); (try rw [eL3, eB3] at hj); (try rw [eL4, eB4] at hj); subst hj)
      | (refine callt (b := [one (vsF _), one (vsF _)]) v_laws_lwVotes rfl ⟨(_, _), rfl, (by refine ⟨?_, ?_⟩ <;> (first | assumption | exact LawB.code ‹_› (by omega) | exact fit16 (DrV.get ‹_› ‹_›) | exact DrV.fit ‹_› | exact DrV.lt ‹_› | exact (by assumption : ∀ c : List It, c ∈ _ → c.length ≤ LIM) _ (List.mem_of_getElem? (by assumption)) | exact FitVs.get ‹_› ‹_› | exact FitVs.get hp1 ‹_› | exact FitVs.get hp2 ‹_› | (refine FitVs.get ?_ hx; assumption) | exact FitVs.take ‹_› _ | exact FitCs.take ‹_› _ | exact FitV.len ‹_› | exact FitVs.len ‹_› | exact BigVs.get ‹_› ‹_› | exact FitCs.get hp1 ‹_› | exact FitCs.get ‹_› ‹_› | omega | (simp only [LIM, FitV, List.length_take, List.length_append, List.length_cons, List.length_nil] at *; omega)))⟩ (.inl rfl) (by first | assumption | omega) (fun r hr => K_laws_lwVotes (a := (_, _)) hr) (fun hj => ?_) (fun hj => ?_) <;> (try simp only [etaPa, etaIt, etaVo] at hj) <;> (try contradiction))
      | exact ⟨⟨_, rfl, rfl, (code, more), rfl, (by unfold R_laws_FnVotesOrder; dsimp only; first | done | exact absurd True.intro hj | (first | rfl | (exfalso; first | contradiction | grind)))⟩, (by first | exact Nat.le_refl _ | omega), (by first | rfl | assumption | ((repeat (refine zk ?_ (by first | omega | decide | (simp only [List.length_cons, List.length_nil]; omega)))); first | assumption | rfl))⟩
      | fail)
  · skip
    repeat' ((conv => whnf); first
      | refine ⟨_, rfl, ?_⟩
      | refine ⟨rfl, ?_⟩
      | refine ⟨_, ldc_cells hupd_at (Nat.le_of_ble_eq_true rfl), ?_⟩
      | refine ⟨_, ldc_cells (by first | assumption | exact zk ‹_› (by omega) | exact zk (zk ‹_› (by omega)) (by omega)) (Nat.le_of_ble_eq_true rfl), ?_⟩
      | refine ⟨_, _, hupd_at, rfl, rfl, Nat.le_of_ble_eq_true rfl, ?_⟩
      | refine ⟨_, _, rfl, rfl, rfl, Nat.le_of_ble_eq_true rfl, ?_⟩
      | (refine ⟨fun hc => ?_, fun hc => ?_⟩ <;> (try simp (disch := omega) only [List.length_map, wrap64] at hc) <;> (try (exfalso; first | contradiction | omega)))
      | (refine callk (b := [one (vsF _), agg (voF ⟨_, _⟩)]) v_spec_VotesAdd rfl ⟨(_, ⟨_, _⟩), rfl, (by refine ⟨?_, ?_, ?_⟩ <;> (first | assumption | exact LawB.code ‹_› (by omega) | exact fit16 (DrV.get ‹_› ‹_›) | exact DrV.fit ‹_› | exact DrV.lt ‹_› | exact (by assumption : ∀ c : List It, c ∈ _ → c.length ≤ LIM) _ (List.mem_of_getElem? (by assumption)) | exact FitVs.get ‹_› ‹_› | exact FitVs.get hp1 ‹_› | exact FitVs.get hp2 ‹_› | (refine FitVs.get ?_ hx; assumption) | exact FitVs.take ‹_› _ | exact FitCs.take ‹_› _ | exact FitV.len ‹_› | exact FitVs.len ‹_› | exact BigVs.get ‹_› ‹_› | exact FitCs.get hp1 ‹_› | exact FitCs.get ‹_› ‹_› | omega | (simp only [LIM, FitV, List.length_take, List.length_append, List.length_cons, List.length_nil] at *; omega)))⟩ (.inl rfl) (by first | assumption | omega) (fun r hr => ?_); have hj := K_spec_VotesAdd (a := (_, ⟨_, _⟩)) hr; clear hr; unfold R_spec_VotesAdd at hj; dsimp only at hj; (try simp only [etaVo] at hj); (try rw [eL1, eB1] at hj); (try rw [eL2, eB2] at hj); (try rw [eL3, eB3] at hj); (try rw [eL4, eB4] at hj); subst hj)
      | (refine callk (b := [one (vsF _), agg (voF ⟨_, _⟩)]) v_impl_VotesAdd rfl ⟨(_, ⟨_, _⟩), rfl, (by refine ⟨?_, ?_, ?_⟩ <;> (first | assumption | exact LawB.code ‹_› (by omega) | exact fit16 (DrV.get ‹_› ‹_›) | exact DrV.fit ‹_› | exact DrV.lt ‹_› | exact (by assumption : ∀ c : List It, c ∈ _ → c.length ≤ LIM) _ (List.mem_of_getElem? (by assumption)) | exact FitVs.get ‹_› ‹_› | exact FitVs.get hp1 ‹_› | exact FitVs.get hp2 ‹_› | (refine FitVs.get ?_ hx; assumption) | exact FitVs.take ‹_› _ | exact FitCs.take ‹_› _ | exact FitV.len ‹_› | exact FitVs.len ‹_› | exact BigVs.get ‹_› ‹_› | exact FitCs.get hp1 ‹_› | exact FitCs.get ‹_› ‹_› | omega | (simp only [LIM, FitV, List.length_take, List.length_append, List.length_cons, List.length_nil] at *; omega)))⟩ (.inl rfl) (by first | assumption | omega) (fun r hr => ?_); have hj := K_impl_VotesAdd (a := (_, ⟨_, _⟩)) hr; clear hr; unfold R_impl_VotesAdd at hj; dsimp only at hj; (try simp only [etaVo] at hj); (try rw [eL1, eB1] at hj); (try rw [eL2, eB2] at hj); (try rw [eL3, eB3] at hj); (try rw [eL4, eB4] at hj); subst hj)
      | (refine callt (b := [one (vsF _), one (vsF _)]) v_laws_lwVotes rfl ⟨(_, _), rfl, (by refine ⟨?_, ?_⟩ <;> (first | assumption | exact LawB.code ‹_› (by omega) | exact fit16 (DrV.get ‹_› ‹_›) | exact DrV.fit ‹_› | exact DrV.lt ‹_› | exact (by assumption : ∀ c : List It, c ∈ _ → c.length ≤ LIM) _ (List.mem_of_getElem? (by assumption)) | exact FitVs.get ‹_› ‹_› | exact FitVs.get hp1 ‹_› | exact FitVs.get hp2 ‹_› | (refine FitVs.get ?_ hx; assumption) | exact FitVs.take ‹_› _ | exact FitCs.take ‹_› _ | exact FitV.len ‹_› | exact FitVs.len ‹_› | exact BigVs.get ‹_› ‹_› | exact FitCs.get hp1 ‹_› | exact FitCs.get ‹_› ‹_› | omega | (simp only [LIM, FitV, List.length_take, List.length_append, List.length_cons, List.length_nil] at *; omega)))⟩ (.inl rfl) (by first | assumption | omega) (fun r hr => K_laws_lwVotes (a := (_, _)) hr) (fun hj => ?_) (fun hj => ?_) <;> (try simp only [etaPa, etaIt, etaVo] at hj) <;> (try contradiction))
      | exact ⟨⟨_, rfl, rfl, (code, more), rfl, (by unfold R_laws_FnVotesOrder; dsimp only; first | done | exact absurd True.intro hj | (first | rfl | (exfalso; first | contradiction | grind)))⟩, (by first | exact Nat.le_refl _ | omega), (by first | rfl | assumption | ((repeat (refine zk ?_ (by first | omega | decide | (simp only [List.length_cons, List.length_nil]; omega)))); first | assumption | rfl))⟩
      | fail)
  · have hq4 := votesOk_snoc hq1 hq2 hq3
    have hfd : FitVs (l ++ [v] ++ [w]) := ⟨by simp only [List.length_append, List.length_cons, List.length_nil, LIM]; omega, fun u hu => by rcases List.mem_append.1 hu with hu | hu; exact hfa.2 u hu; rw [List.mem_singleton.1 hu]; exact hfw⟩
    have hfe : FitVs (l ++ [w] ++ [v]) := ⟨by simp only [List.length_append, List.length_cons, List.length_nil, LIM]; omega, fun u hu => by rcases List.mem_append.1 hu with hu | hu; exact hfb.2 u hu; rw [List.mem_singleton.1 hu]; exact hfv⟩
    rcases add_cases l w with ⟨hr, eL2, eB2⟩ | ⟨hr1, hr2, hr3, eL2, eB2⟩ | ⟨hr1, hr2, hr3, eL2, eB2⟩
    · obtain ⟨X, b, eL3, eB3⟩ : ∃ X b, addL (l ++ [v]) w = X ∧ addB (l ++ [v]) w = b := ⟨_, _, rfl, rfl⟩
      repeat' ((conv => whnf); first
        | refine ⟨_, rfl, ?_⟩
        | refine ⟨rfl, ?_⟩
        | refine ⟨_, ldc_cells hupd_at (Nat.le_of_ble_eq_true rfl), ?_⟩
        | refine ⟨_, ldc_cells (by first | assumption | exact zk ‹_› (by omega) | exact zk (zk ‹_› (by omega)) (by omega)) (Nat.le_of_ble_eq_true rfl), ?_⟩
        | refine ⟨_, _, hupd_at, rfl, rfl, Nat.le_of_ble_eq_true rfl, ?_⟩
        | refine ⟨_, _, rfl, rfl, rfl, Nat.le_of_ble_eq_true rfl, ?_⟩
        | (refine ⟨fun hc => ?_, fun hc => ?_⟩ <;> (try simp (disch := omega) only [List.length_map, wrap64] at hc) <;> (try (exfalso; first | contradiction | omega)))
        | (refine callk (b := [one (vsF _), agg (voF ⟨_, _⟩)]) v_spec_VotesAdd rfl ⟨(_, ⟨_, _⟩), rfl, (by refine ⟨?_, ?_, ?_⟩ <;> (first | assumption | exact LawB.code ‹_› (by omega) | exact fit16 (DrV.get ‹_› ‹_›) | exact DrV.fit ‹_› | exact DrV.lt ‹_› | exact (by assumption : ∀ c : List It, c ∈ _ → c.length ≤ LIM) _ (List.mem_of_getElem? (by assumption)) | exact FitVs.get ‹_› ‹_› | exact FitVs.get hp1 ‹_› | exact FitVs.get hp2 ‹_› | (refine FitVs.get ?_ hx; assumption) | exact FitVs.take ‹_› _ | exact FitCs.take ‹_› _ | exact FitV.len ‹_› | exact FitVs.len ‹_› | exact BigVs.get ‹_› ‹_› | exact FitCs.get hp1 ‹_› | exact FitCs.get ‹_› ‹_› | omega | (simp only [LIM, FitV, List.length_take, List.length_append, List.length_cons, List.length_nil] at *; omega)))⟩ (.inl rfl) (by first | assumption | omega) (fun r hr => ?_); have hj := K_spec_VotesAdd (a := (_, ⟨_, _⟩)) hr; clear hr; unfold R_spec_VotesAdd at hj; dsimp only at hj; (try simp only [etaVo] at hj); (try rw [eL1, eB1] at hj); (try rw [eL2, eB2] at hj); (try rw [eL3, eB3] at hj); (try rw [eL4, eB4] at hj); subst hj)
        | (refine callk (b := [one (vsF _), agg (voF ⟨_, _⟩)]) v_impl_VotesAdd rfl ⟨(_, ⟨_, _⟩), rfl, (by refine ⟨?_, ?_, ?_⟩ <;> (first | assumption | exact LawB.code ‹_› (by omega) | exact fit16 (DrV.get ‹_› ‹_›) | exact DrV.fit ‹_› | exact DrV.lt ‹_› | exact (by assumption : ∀ c : List It, c ∈ _ → c.length ≤ LIM) _ (List.mem_of_getElem? (by assumption)) | exact FitVs.get ‹_› ‹_› | exact FitVs.get hp1 ‹_› | exact FitVs.get hp2 ‹_› | (refine FitVs.get ?_ hx; assumption) | exact FitVs.take ‹_› _ | exact FitCs.take ‹_› _ | exact FitV.len ‹_› | exact FitVs.len ‹_› | exact BigVs.get ‹_› ‹_› | exact FitCs.get hp1 ‹_› | exact FitCs.get ‹_› ‹_› | omega | (simp only [LIM, FitV, List.length_take, List.length_append, List.length_cons, List.length_nil] at *; omega)))⟩ (.inl rfl) (by first | assumption | omega) (fun r hr => ?_); have hj := K_impl_VotesAdd (a := (_, ⟨_, _⟩)) hr; clear hr; unfold R_impl_VotesAdd at hj; dsimp only at hj; (try simp only [etaVo] at hj); (try rw [eL1, eB1] at hj); (try rw [eL2, eB2] at hj); (try rw [eL3, eB3] at hj); (try rw [eL4, eB4] at hj); subst hj)
        | (refine callt (b := [one (vsF _), one (vsF _)]) v_laws_lwVotes rfl ⟨(_, _), rfl, (by refine ⟨?_, ?_⟩ <;> (first | assumption | exact LawB.code ‹_› (by omega) | exact fit16 (DrV.get ‹_› ‹_›) | exact DrV.fit ‹_› | exact DrV.lt ‹_› | exact (by assumption : ∀ c : List It, c ∈ _ → c.length ≤ LIM) _ (List.mem_of_getElem? (by assumption)) | exact FitVs.get ‹_› ‹_› | exact FitVs.get hp1 ‹_› | exact FitVs.get hp2 ‹_› | (refine FitVs.get ?_ hx; assumption) | exact FitVs.take ‹_› _ | exact FitCs.take ‹_› _ | exact FitV.len ‹_› | exact FitVs.len ‹_› | exact BigVs.get ‹_› ‹_› | exact FitCs.get hp1 ‹_› | exact FitCs.get ‹_› ‹_› | omega | (simp only [LIM, FitV, List.length_take, List.length_append, List.length_cons, List.length_nil] at *; omega)))⟩ (.inl rfl) (by first | assumption | omega) (fun r hr => K_laws_lwVotes (a := (_, _)) hr) (fun hj => ?_) (fun hj => ?_) <;> (try simp only [etaPa, etaIt, etaVo] at hj) <;> (try contradiction))
        | exact ⟨⟨_, rfl, rfl, (code, more), rfl, (by unfold R_laws_FnVotesOrder; dsimp only; first | done | exact absurd True.intro hj | (first | rfl | (exfalso; first | contradiction | grind)))⟩, (by first | exact Nat.le_refl _ | omega), (by first | rfl | assumption | ((repeat (refine zk ?_ (by first | omega | decide | (simp only [List.length_cons, List.length_nil]; omega)))); first | assumption | rfl))⟩
        | fail)
    · obtain ⟨X, b, eL3, eB3⟩ : ∃ X b, addL (l ++ [v]) w = X ∧ addB (l ++ [v]) w = b := ⟨_, _, rfl, rfl⟩
      repeat' ((conv => whnf); first
        | refine ⟨_, rfl, ?_⟩
        | refine ⟨rfl, ?_⟩
        | refine ⟨_, ldc_cells hupd_at (Nat.le_of_ble_eq_true rfl), ?_⟩
        | refine ⟨_, ldc_cells (by first | assumption | exact zk ‹_› (by omega) | exact zk (zk ‹_› (by omega)) (by omega)) (Nat.le_of_ble_eq_true rfl), ?_⟩
        | refine ⟨_, _, hupd_at, rfl, rfl, Nat.le_of_ble_eq_true rfl, ?_⟩
        | refine ⟨_, _, rfl, rfl, rfl, Nat.le_of_ble_eq_true rfl, ?_⟩
        | (refine ⟨fun hc => ?_, fun hc => ?_⟩ <;> (try simp (disch := omega) only [List.length_map, wrap64] at hc) <;> (try (exfalso; first | contradiction | omega)))
        | (refine callk (b := [one (vsF _), agg (voF ⟨_, _⟩)]) v_spec_VotesAdd rfl ⟨(_, ⟨_, _⟩), rfl, (by refine ⟨?_, ?_, ?_⟩ <;> (first | assumption | exact LawB.code ‹_› (by omega) | exact fit16 (DrV.get ‹_› ‹_›) | exact DrV.fit ‹_› | exact DrV.lt ‹_› | exact (by assumption : ∀ c : List It, c ∈ _ → c.length ≤ LIM) _ (List.mem_of_getElem? (by assumption)) | exact FitVs.get ‹_› ‹_› | exact FitVs.get hp1 ‹_› | exact FitVs.get hp2 ‹_› | (refine FitVs.get ?_ hx; assumption) | exact FitVs.take ‹_› _ | exact FitCs.take ‹_› _ | exact FitV.len ‹_› | exact FitVs.len ‹_› | exact BigVs.get ‹_› ‹_› | exact FitCs.get hp1 ‹_› | exact FitCs.get ‹_› ‹_› | omega | (simp only [LIM, FitV, List.length_take, List.length_append, List.length_cons, List.length_nil] at *; omega)))⟩ (.inl rfl) (by first | assumption | omega) (fun r hr => ?_); have hj := K_spec_VotesAdd (a := (_, ⟨_, _⟩)) hr; clear hr; unfold R_spec_VotesAdd at hj; dsimp only at hj; (try simp only [etaVo] at hj); (try rw [eL1, eB1] at hj); (try rw [eL2, eB2] at hj); (try rw [eL3, eB3] at hj); (try rw [eL4, eB4] at hj); subst hj)
        | (refine callk (b := [one (vsF _), agg (voF ⟨_, _⟩)]) v_impl_VotesAdd rfl ⟨(_, ⟨_, _⟩), rfl, (by refine ⟨?_, ?_, ?_⟩ <;> (first | assumption | exact LawB.code ‹_› (by omega) | exact fit16 (DrV.get ‹_› ‹_›) | exact DrV.fit ‹_› | exact DrV.lt ‹_› | exact (by assumption : ∀ c : List It, c ∈ _ → c.length ≤ LIM) _ (List.mem_of_getElem? (by assumption)) | exact FitVs.get ‹_› ‹_› | exact FitVs.get hp1 ‹_› | exact FitVs.get hp2 ‹_› | (refine FitVs.get ?_ hx; assumption) | exact FitVs.take ‹_› _ | exact FitCs.take ‹_› _ | exact FitV.len ‹_› | exact FitVs.len ‹_› | exact BigVs.get ‹_› ‹_› | exact FitCs.get hp1 ‹_› | exact FitCs.get ‹_› ‹_› | omega | (simp only [LIM, FitV, List.length_take, List.length_append, List.length_cons, List.length_nil] at *; omega)))⟩ (.inl rfl) (by first | assumption | omega) (fun r hr => ?_); have hj := K_impl_VotesAdd (a := (_, ⟨_, _⟩)) hr; clear hr; unfold R_impl_VotesAdd at hj; dsimp only at hj; (try simp only [etaVo] at hj); (try rw [eL1, eB1] at hj); (try rw [eL2, eB2] at hj); (try rw [eL3, eB3] at hj); (try rw [eL4, eB4] at hj); subst hj)
        | (refine callt (b := [one (vsF _), one (vsF _)]) v_laws_lwVotes rfl ⟨(_, _), rfl, (by refine ⟨?_, ?_⟩ <;> (first | assumption | exact LawB.code ‹_› (by omega) | exact fit16 (DrV.get ‹_› ‹_›) | exact DrV.fit ‹_› | exact DrV.lt ‹_› | exact (by assumption : ∀ c : List It, c ∈ _ → c.length ≤ LIM) _ (List.mem_of_getElem? (by assumption)) | exact FitVs.get ‹_› ‹_› | exact FitVs.get hp1 ‹_› | exact FitVs.get hp2 ‹_› | (refine FitVs.get ?_ hx; assumption) | exact FitVs.take ‹_› _ | exact FitCs.take ‹_› _ | exact FitV.len ‹_› | exact FitVs.len ‹_› | exact BigVs.get ‹_› ‹_› | exact FitCs.get hp1 ‹_› | exact FitCs.get ‹_› ‹_› | omega | (simp only [LIM, FitV, List.length_take, List.length_append, List.length_cons, List.length_nil] at *; omega)))⟩ (.inl rfl) (by first | assumption | omega) (fun r hr => K_laws_lwVotes (a := (_, _)) hr) (fun hj => ?_) (fun hj => ?_) <;> (try simp only [etaPa, etaIt, etaVo] at hj) <;> (try contradiction))
        | exact ⟨⟨_, rfl, rfl, (code, more), rfl, (by unfold R_laws_FnVotesOrder; dsimp only; first | done | exact absurd True.intro hj | (first | rfl | (exfalso; first | contradiction | grind)))⟩, (by first | exact Nat.le_refl _ | omega), (by first | rfl | assumption | ((repeat (refine zk ?_ (by first | omega | decide | (simp only [List.length_cons, List.length_nil]; omega)))); first | assumption | rfl))⟩
        | fail)
    · rcases add_cases (l ++ [v]) w with ⟨hs, eL3, eB3⟩ | ⟨hs1, hs2, hs3, eL3, eB3⟩ | ⟨hs1, hs2, hs3, eL3, eB3⟩
      · exact absurd ⟨hq4, hr2⟩ hs
      · skip
        repeat' ((conv => whnf); first
          | refine ⟨_, rfl, ?_⟩
          | refine ⟨rfl, ?_⟩
          | refine ⟨_, ldc_cells hupd_at (Nat.le_of_ble_eq_true rfl), ?_⟩
          | refine ⟨_, ldc_cells (by first | assumption | exact zk ‹_› (by omega) | exact zk (zk ‹_› (by omega)) (by omega)) (Nat.le_of_ble_eq_true rfl), ?_⟩
          | refine ⟨_, _, hupd_at, rfl, rfl, Nat.le_of_ble_eq_true rfl, ?_⟩
          | refine ⟨_, _, rfl, rfl, rfl, Nat.le_of_ble_eq_true rfl, ?_⟩
          | (refine ⟨fun hc => ?_, fun hc => ?_⟩ <;> (try simp (disch := omega) only [List.length_map, wrap64] at hc) <;> (try (exfalso; first | contradiction | omega)))
          | (refine callk (b := [one (vsF _), agg (voF ⟨_, _⟩)]) v_spec_VotesAdd rfl ⟨(_, ⟨_, _⟩), rfl, (by refine ⟨?_, ?_, ?_⟩ <;> (first | assumption | exact LawB.code ‹_› (by omega) | exact fit16 (DrV.get ‹_› ‹_›) | exact DrV.fit ‹_› | exact DrV.lt ‹_› | exact (by assumption : ∀ c : List It, c ∈ _ → c.length ≤ LIM) _ (List.mem_of_getElem? (by assumption)) | exact FitVs.get ‹_› ‹_› | exact FitVs.get hp1 ‹_› | exact FitVs.get hp2 ‹_› | (refine FitVs.get ?_ hx; assumption) | exact FitVs.take ‹_› _ | exact FitCs.take ‹_› _ | exact FitV.len ‹_› | exact FitVs.len ‹_› | exact BigVs.get ‹_› ‹_› | exact FitCs.get hp1 ‹_› | exact FitCs.get ‹_› ‹_› | omega | (simp only [LIM, FitV, List.length_take, List.length_append, List.length_cons, List.length_nil] at *; omega)))⟩ (.inl rfl) (by first | assumption | omega) (fun r hr => ?_); have hj := K_spec_VotesAdd (a := (_, ⟨_, _⟩)) hr; clear hr; unfold R_spec_VotesAdd at hj; dsimp only at hj; (try simp only [etaVo] at hj); (try rw [eL1, eB1] at hj); (try rw [eL2, eB2] at hj); (try rw [eL3, eB3] at hj); (try rw [eL4, eB4] at hj); subst hj)
          | (refine callk (b := [one (vsF _), agg (voF ⟨_, _⟩)]) v_impl_VotesAdd rfl ⟨(_, ⟨_, _⟩), rfl, (by refine ⟨?_, ?_, ?_⟩ <;> (first | assumption | exact LawB.code ‹_› (by omega) | exact fit16 (DrV.get ‹_› ‹_›) | exact DrV.fit ‹_› | exact DrV.lt ‹_› | exact (by assumption : ∀ c : List It, c ∈ _ → c.length ≤ LIM) _ (List.mem_of_getElem? (by assumption)) | exact FitVs.get ‹_› ‹_› | exact FitVs.get hp1 ‹_› | exact FitVs.get hp2 ‹_› | (refine FitVs.get ?_ hx; assumption) | exact FitVs.take ‹_› _ | exact FitCs.take ‹_› _ | exact FitV.len ‹_› | exact FitVs.len ‹_› | exact BigVs.get ‹_› ‹_› | exact FitCs.get hp1 ‹_› | exact FitCs.get ‹_› ‹_› | omega | (simp only [LIM, FitV, List.length_take, List.length_append, List.length_cons, List.length_nil] at *; omega)))⟩ (.inl rfl) (by first | assumption | omega) (fun r hr => ?_); have hj := K_impl_VotesAdd (a := (_, ⟨_, _⟩)) hr; clear hr; unfold R_impl_VotesAdd at hj; dsimp only at hj; (try simp only [etaVo] at hj); (try rw [eL1, eB1] at hj); (try rw [eL2, eB2] at hj); (try rw [eL3, eB3] at hj); (try rw [eL4, eB4] at hj); subst hj)
          | (refine callt (b := [one (vsF _), one (vsF _)]) v_laws_lwVotes rfl ⟨(_, _), rfl, (by refine ⟨?_, ?_⟩ <;> (first | assumption | exact LawB.code ‹_› (by omega) | exact fit16 (DrV.get ‹_› ‹_›) | exact DrV.fit ‹_› | exact DrV.lt ‹_› | exact (by assumption : ∀ c : List It, c ∈ _ → c.length ≤ LIM) _ (List.mem_of_getElem? (by assumption)) | exact FitVs.get ‹_› ‹_› | exact FitVs.get hp1 ‹_› | exact FitVs.get hp2 ‹_› | (refine FitVs.get ?_ hx; assumption) | exact FitVs.take ‹_› _ | exact FitCs.take ‹_› _ | exact FitV.len ‹_› | exact FitVs.len ‹_› | exact BigVs.get ‹_› ‹_› | exact FitCs.get hp1 ‹_› | exact FitCs.get ‹_› ‹_› | omega | (simp only [LIM, FitV, List.length_take, List.length_append, List.length_cons, List.length_nil] at *; omega)))⟩ (.inl rfl) (by first | assumption | omega) (fun r hr => K_laws_lwVotes (a := (_, _)) hr) (fun hj => ?_) (fun hj => ?_) <;> (try simp only [etaPa, etaIt, etaVo] at hj) <;> (try contradiction))
          | exact ⟨⟨_, rfl, rfl, (code, more), rfl, (by unfold R_laws_FnVotesOrder; dsimp only; first | done | exact absurd True.intro hj | (first | rfl | (exfalso; first | contradiction | grind)))⟩, (by first | exact Nat.le_refl _ | omega), (by first | rfl | assumption | ((repeat (refine zk ?_ (by first | omega | decide | (simp only [List.length_cons, List.length_nil]; omega)))); first | assumption | rfl))⟩
          | fail)
      · have hq5 := votesOk_snoc hr1 hr2 hr3
        have hq6 : v ∉ l ++ [w] := by
          intro h
          rcases List.mem_append.1 h with h | h
          · exact hq3 h
          · rw [List.mem_singleton] at h; subst h; exact hs3 (by simp)
        have hq7 := votesOk_snoc hq5 hq2 hq6
        have hq8 := votesOk_snoc hq4 hr2 hs3
        have hsw := fun c => swap_for hq8 hq7 c
        have hbl := fun c => votesFor_len (l ++ [v] ++ [w]) c
        have hbl2 := fun c => votesFor_len (l ++ [w] ++ [v]) c
        have hB1 : ∀ c, (votesFor (l ++ [v] ++ [w]) c).length ≤ LIM := fun c => Nat.le_trans (hbl c) (by decide)
        have hB2 : ∀ c, (votesFor (l ++ [w] ++ [v]) c).length ≤ LIM := fun c => Nat.le_trans (hbl2 c) (by decide)
        obtain ⟨eL4, eB4⟩ : addL (l ++ [w]) v = l ++ [w] ++ [v] ∧ addB (l ++ [w]) v = true := by
          rcases add_cases (l ++ [w]) v with ⟨h, _⟩ | ⟨_, _, h, _⟩ | ⟨_, _, _, h1, h2⟩
          · exact absurd ⟨hq5, hq2⟩ h
          · exact absurd h hq6
          · exact ⟨h1, h2⟩
        have hV1 := hB1 v.c
        have hV2 := hB2 v.c
        have hW1 := hB1 w.c
        have hW2 := hB2 w.c
        repeat' ((conv => whnf); first
          | refine ⟨_, rfl, ?_⟩
          | refine ⟨rfl, ?_⟩
          | refine ⟨_, ldc_cells hupd_at (Nat.le_of_ble_eq_true rfl), ?_⟩
          | refine ⟨_, ldc_cells (by first | assumption | exact zk ‹_› (by omega) | exact zk (zk ‹_› (by omega)) (by omega)) (Nat.le_of_ble_eq_true rfl), ?_⟩
          | refine ⟨_, _, hupd_at, rfl, rfl, Nat.le_of_ble_eq_true rfl, ?_⟩
          | refine ⟨_, _, rfl, rfl, rfl, Nat.le_of_ble_eq_true rfl, ?_⟩
          | (refine ⟨fun hc => ?_, fun hc => ?_⟩ <;> (try simp (disch := omega) only [List.length_map, wrap64] at hc) <;> (try (exfalso; first | contradiction | omega)))
          | (refine callk (b := [one (vsF _), agg (voF ⟨_, _⟩)]) v_spec_VotesAdd rfl ⟨(_, ⟨_, _⟩), rfl, (by refine ⟨?_, ?_, ?_⟩ <;> (first | assumption | exact LawB.code ‹_› (by omega) | exact fit16 (DrV.get ‹_› ‹_›) | exact DrV.fit ‹_› | exact DrV.lt ‹_› | exact (by assumption : ∀ c : List It, c ∈ _ → c.length ≤ LIM) _ (List.mem_of_getElem? (by assumption)) | exact FitVs.get ‹_› ‹_› | exact FitVs.get hp1 ‹_› | exact FitVs.get hp2 ‹_› | (refine FitVs.get ?_ hx; assumption) | exact FitVs.take ‹_› _ | exact FitCs.take ‹_› _ | exact FitV.len ‹_› | exact FitVs.len ‹_› | exact BigVs.get ‹_› ‹_› | exact FitCs.get hp1 ‹_› | exact FitCs.get ‹_› ‹_› | omega | (simp only [LIM, FitV, List.length_take, List.length_append, List.length_cons, List.length_nil] at *; omega)))⟩ (.inl rfl) (by first | assumption | omega) (fun r hr => ?_); have hj := K_spec_VotesAdd (a := (_, ⟨_, _⟩)) hr; clear hr; unfold R_spec_VotesAdd at hj; dsimp only at hj; (try simp only [etaVo] at hj); (try rw [eL1, eB1] at hj); (try rw [eL2, eB2] at hj); (try rw [eL3, eB3] at hj); (try rw [eL4, eB4] at hj); subst hj)
          | (refine callk (b := [one (vsF _), agg (voF ⟨_, _⟩)]) v_impl_VotesAdd rfl ⟨(_, ⟨_, _⟩), rfl, (by refine ⟨?_, ?_, ?_⟩ <;> (first | assumption | exact LawB.code ‹_› (by omega) | exact fit16 (DrV.get ‹_› ‹_›) | exact DrV.fit ‹_› | exact DrV.lt ‹_› | exact (by assumption : ∀ c : List It, c ∈ _ → c.length ≤ LIM) _ (List.mem_of_getElem? (by assumption)) | exact FitVs.get ‹_› ‹_› | exact FitVs.get hp1 ‹_› | exact FitVs.get hp2 ‹_› | (refine FitVs.get ?_ hx; assumption) | exact FitVs.take ‹_› _ | exact FitCs.take ‹_› _ | exact FitV.len ‹_› | exact FitVs.len ‹_› | exact BigVs.get ‹_› ‹_› | exact FitCs.get hp1 ‹_› | exact FitCs.get ‹_› ‹_› | omega | (simp only [LIM, FitV, List.length_take, List.length_append, List.length_cons, List.length_nil] at *; omega)))⟩ (.inl rfl) (by first | assumption | omega) (fun r hr => ?_); have hj := K_impl_VotesAdd (a := (_, ⟨_, _⟩)) hr; clear hr; unfold R_impl_VotesAdd at hj; dsimp only at hj; (try simp only [etaVo] at hj); (try rw [eL1, eB1] at hj); (try rw [eL2, eB2] at hj); (try rw [eL3, eB3] at hj); (try rw [eL4, eB4] at hj); subst hj)
          | (refine callt (b := [one (vsF _), one (vsF _)]) v_laws_lwVotes rfl ⟨(_, _), rfl, (by refine ⟨?_, ?_⟩ <;> (first | assumption | exact LawB.code ‹_› (by omega) | exact fit16 (DrV.get ‹_› ‹_›) | exact DrV.fit ‹_› | exact DrV.lt ‹_› | exact (by assumption : ∀ c : List It, c ∈ _ → c.length ≤ LIM) _ (List.mem_of_getElem? (by assumption)) | exact FitVs.get ‹_› ‹_› | exact FitVs.get hp1 ‹_› | exact FitVs.get hp2 ‹_› | (refine FitVs.get ?_ hx; assumption) | exact FitVs.take ‹_› _ | exact FitCs.take ‹_› _ | exact FitV.len ‹_› | exact FitVs.len ‹_› | exact BigVs.get ‹_› ‹_› | exact FitCs.get hp1 ‹_› | exact FitCs.get ‹_› ‹_› | omega | (simp only [LIM, FitV, List.length_take, List.length_append, List.length_cons, List.length_nil] at *; omega)))⟩ (.inl rfl) (by first | assumption | omega) (fun r hr => K_laws_lwVotes (a := (_, _)) hr) (fun hj => ?_) (fun hj => ?_) <;> (try simp only [etaPa, etaIt, etaVo] at hj) <;> (try contradiction))
          | (refine calle (b := [one (vsF _), one (chF _)]) v_impl_VotesFor rfl ⟨(_, _), rfl, (by refine ⟨?_, ?_⟩ <;> (first | assumption | exact LawB.code ‹_› (by omega) | exact fit16 (DrV.get ‹_› ‹_›) | exact DrV.fit ‹_› | exact DrV.lt ‹_› | exact (by assumption : ∀ c : List It, c ∈ _ → c.length ≤ LIM) _ (List.mem_of_getElem? (by assumption)) | exact FitVs.get ‹_› ‹_› | exact FitVs.get hp1 ‹_› | exact FitVs.get hp2 ‹_› | (refine FitVs.get ?_ hx; assumption) | exact FitVs.take ‹_› _ | exact FitCs.take ‹_› _ | exact FitV.len ‹_› | exact FitVs.len ‹_› | exact BigVs.get ‹_› ‹_› | exact FitCs.get hp1 ‹_› | exact FitCs.get ‹_› ‹_› | omega | (simp only [LIM, FitV, List.length_take, List.length_append, List.length_cons, List.length_nil] at *; omega)))⟩ (.inl rfl) (by first | assumption | omega) (fun r hr => K_impl_VotesFor (a := (_, _)) hr) ?_)
          | (refine callt (b := [one (nsF _), one (nsF _)]) v_laws_lwInts rfl ⟨(_, _), rfl, (by refine ⟨?_, ?_⟩ <;> (first | assumption | exact LawB.code ‹_› (by omega) | exact fit16 (DrV.get ‹_› ‹_›) | exact DrV.fit ‹_› | exact DrV.lt ‹_› | exact (by assumption : ∀ c : List It, c ∈ _ → c.length ≤ LIM) _ (List.mem_of_getElem? (by assumption)) | exact FitVs.get ‹_› ‹_› | exact FitVs.get hp1 ‹_› | exact FitVs.get hp2 ‹_› | (refine FitVs.get ?_ hx; assumption) | exact FitVs.take ‹_› _ | exact FitCs.take ‹_› _ | exact FitV.len ‹_› | exact FitVs.len ‹_› | exact BigVs.get ‹_› ‹_› | exact FitCs.get hp1 ‹_› | exact FitCs.get ‹_› ‹_› | omega | (simp only [LIM, FitV, List.length_take, List.length_append, List.length_cons, List.length_nil] at *; omega)))⟩ (.inl rfl) (by first | assumption | omega) (fun r hr => K_laws_lwInts (a := (_, _)) hr) (fun hj => ?_) (fun hj => ?_) <;> (try simp only [etaPa, etaIt, etaVo] at hj) <;> (try contradiction))
          | exact ⟨⟨_, rfl, rfl, (code, more), rfl, (by unfold R_laws_FnVotesOrder; dsimp only; first | done | exact absurd True.intro hj | (first | rfl | (exfalso; first | contradiction | exact hj (hsw _))))⟩, (by first | exact Nat.le_refl _ | omega), (by first | rfl | assumption | ((repeat (refine zk ?_ (by first | omega | decide | (simp only [List.length_cons, List.length_nil]; omega)))); first | assumption | rfl))⟩
          | fail)
end Av
end Go.Proofs.Ytfkaomigeaileaa
