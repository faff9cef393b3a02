/- The walks: the law FnVotesAdd. -/
import Derived.Test.YtfkaomigeaileaaG5
import Derived.Test.YtfkaomigeaileaaK4
import Derived.Test.YtfkaomigeaileaaP1
import Derived.Test.YtfkaomigeaileaaQ1
set_option linter.unusedVariables false
set_option linter.unusedSimpArgs false
namespace Go.Proofs.Ytfkaomigeaileaa
namespace Av
open Go.RowKit

theorem cost_DTS : S_spec_DrawTreeSure.cost = 10000 := rfl
theorem cost_DTA : S_spec_DrawTreeAll.cost = 10000 := rfl
theorem cost_DVA : S_spec_DrawVotesAdd.cost = 10000 := rfl
theorem cost_DVO : S_spec_DrawVoteOk.cost = 10000 := rfl

attribute [local irreducible] Valid ValidM
set_option maxHeartbeats 4000000 in
set_option maxRecDepth 100000 in
theorem v_laws_FnVotesAdd : Valid Try.prog n_laws_FnVotesAdd S_laws_FnVotesAdd := by
  refine valid_of_swp mixed is_laws_FnVotesAdd (by rintro _ ⟨a, rfl, _⟩; exact Nat.le_of_ble_eq_true rfl) ?_
  rintro _ rm ⟨code, rfl, hpre⟩ hl
  try dsimp only at hpre
  have hpre0 := hpre
  have hp1 := hpre
  have cc_laws_FnVotesAdd : S_laws_FnVotesAdd.cost = 50000 := rfl
  have cc_spec_DrawVotesAdd : S_spec_DrawVotesAdd.cost = 10000 := rfl
  have cc_spec_VotesAdd : S_spec_VotesAdd.cost = 0 := rfl
  have cc_impl_VotesAdd : S_impl_VotesAdd.cost = 0 := rfl
  have cc_laws_lwVotes : S_laws_lwVotes.cost = 0 := rfl
  have cc_spec_VotesOk : S_spec_VotesOk.cost = 0 := rfl
  have cc_spec_VoteOk : S_spec_VoteOk.cost = 0 := rfl
  have cc_laws_lwHas : S_laws_lwHas.cost = 0 := rfl
  have cc_laws_lwVote : S_laws_lwVote.cost = 0 := rfl
  have cc_impl_VotesOk : S_impl_VotesOk.cost = 0 := rfl
  repeat' ((conv => whnf); first
    | refine ⟨_, rfl, ?_⟩
    | refine ⟨rfl, ?_⟩
    | refine ⟨_, _, rfl, at_map (by assumption), ?_⟩
    | refine idx_mapX (i := 0) rfl (by assumption) ?_
    | refine idx_map (by omega) (fun x hx => ?_)
    | refine idx_mapX (wrap_dn (by omega) (by omega)) (by assumption) ?_
    | refine idx_mapE (wrap_dn (by omega) (by omega)) (by omega) (fun x hx => ?_)
    | refine idx_mapL (by omega) (by first | assumption | (simp only [LIM]; omega)) (fun x hx => ?_)
    | refine idx_mapI (by omega) (by first | omega | (simp only [List.length_map] at *; omega)) (fun x hx => ?_)
    | refine ⟨_, ldc_cells hupd_at (Nat.le_of_ble_eq_true rfl), ?_⟩
    | refine ⟨_, ldc_cells (by first | assumption | exact zk ‹_› (by omega) | exact zk (zk ‹_› (by omega)) (by omega)) (Nat.le_of_ble_eq_true rfl), ?_⟩
    | refine ⟨_, _, hupd_at, rfl, rfl, Nat.le_of_ble_eq_true rfl, ?_⟩
    | refine ⟨_, _, rfl, rfl, rfl, Nat.le_of_ble_eq_true rfl, ?_⟩
    | (refine ⟨fun hc => ?_, fun hc => ?_⟩ <;> (try simp (disch := omega) only [List.length_map, wrap64] at hc))
    | (refine ⟨_, slc_to rfl (by first | omega | (simp only [List.length_map] at *; omega)), ?_⟩; rw [map_take'])
    | (refine ⟨_, slc_toI rfl (by omega) (by first | omega | (simp only [List.length_map] at *; omega)), ?_⟩; rw [map_take'])
    | (refine callk (b := [one (byF _)]) v_spec_DrawVotesAdd rfl ⟨_, rfl, (by first | assumption | exact LawB.code ‹_› (by omega) | exact fit16 (DrV.get ‹_› ‹_›) | exact DrV.fit ‹_› | exact DrV.lt ‹_› | exact (by assumption : ∀ c : List It, c ∈ _ → c.length ≤ LIM) _ (List.mem_of_getElem? (by assumption)) | exact FitVs.get ‹_› ‹_› | exact FitVs.get hp1 ‹_› | exact FitVs.get hp2 ‹_› | (refine FitVs.get ?_ hx; assumption) | exact FitVs.take ‹_› _ | exact FitCs.take ‹_› _ | exact FitV.len ‹_› | exact FitVs.len ‹_› | exact BigVs.get ‹_› ‹_› | exact FitCs.get hp1 ‹_› | exact FitCs.get ‹_› ‹_› | omega | (simp only [LIM, FitV, List.length_take, List.length_append, List.length_cons, List.length_nil] at *; omega))⟩ (.inl rfl) (by omega) (fun r hr => ?_); have hj := K_spec_DrawVotesAdd (a := _) hr; clear hr; obtain ⟨l, v, rfl, hdl, hdv⟩ := hj)
    | exact ⟨⟨_, rfl, rfl, code, rfl, (by unfold R_laws_FnVotesAdd; dsimp only; first | done | exact absurd True.intro hj | (rfl))⟩, (by first | exact Nat.le_refl _ | omega), (by first | rfl | assumption | ((repeat (refine zk ?_ (by first | omega | decide | (simp only [List.length_cons, List.length_nil]; omega)))); first | assumption | rfl))⟩
    | fail)
  have hfl : FitVs l := hdl.fit
  have hfv : FitV v := fit16 hdv
  have hln : l.length < LIM := hdl.lt
  have hll : l.length ≤ 400 := hdl.1
  have hfa : FitVs (l ++ [v]) := ⟨by simp only [List.length_append, List.length_cons, List.length_nil, LIM]; omega, fun u hu => by rcases List.mem_append.1 hu with hu | hu; exact hfl.2 u hu; rw [List.mem_singleton.1 hu]; exact hfv⟩
  have hla : (l ++ [v]).length < LIM := by simp only [List.length_append, List.length_cons, List.length_nil, LIM]; omega
  have hf0 : FitVs [] := ⟨Nat.zero_le _, fun v h => by cases h⟩
  rcases add_cases l v with ⟨hq, eL1, eB1⟩ | ⟨hq1, hq2, hq3, eL1, eB1⟩ | ⟨hq1, hq2, hq3, eL1, eB1⟩
  · skip
    repeat' ((conv => whnf); first
      | refine ⟨_, rfl, ?_⟩
      | refine ⟨rfl, ?_⟩
      | refine ⟨_, _, rfl, at_map (by assumption), ?_⟩
      | refine idx_mapX (i := 0) rfl (by assumption) ?_
      | refine idx_map (by omega) (fun x hx => ?_)
      | refine idx_mapX (wrap_dn (by omega) (by omega)) (by assumption) ?_
      | refine idx_mapE (wrap_dn (by omega) (by omega)) (by omega) (fun x hx => ?_)
      | refine idx_mapL (by omega) (by first | assumption | (simp only [LIM]; omega)) (fun x hx => ?_)
      | refine idx_mapI (by omega) (by first | omega | (simp only [List.length_map] at *; omega)) (fun x hx => ?_)
      | refine ⟨_, ldc_cells hupd_at (Nat.le_of_ble_eq_true rfl), ?_⟩
      | refine ⟨_, ldc_cells (by first | assumption | exact zk ‹_› (by omega) | exact zk (zk ‹_› (by omega)) (by omega)) (Nat.le_of_ble_eq_true rfl), ?_⟩
      | refine ⟨_, _, hupd_at, rfl, rfl, Nat.le_of_ble_eq_true rfl, ?_⟩
      | refine ⟨_, _, rfl, rfl, rfl, Nat.le_of_ble_eq_true rfl, ?_⟩
      | (refine ⟨fun hc => ?_, fun hc => ?_⟩ <;> (try simp (disch := omega) only [List.length_map, wrap64] at hc) <;> (try (exfalso; first | contradiction | omega)))
      | (refine ⟨_, slc_to rfl (by first | omega | (simp only [List.length_map] at *; omega)), ?_⟩; rw [map_take'])
      | (refine ⟨_, slc_toI rfl (by omega) (by first | omega | (simp only [List.length_map] at *; omega)), ?_⟩; rw [map_take'])
      | (refine callk (b := [one (vsF _), agg (voF ⟨_, _⟩)]) v_spec_VotesAdd rfl ⟨(_, ⟨_, _⟩), rfl, (by refine ⟨?_, ?_, ?_⟩ <;> (first | assumption | exact LawB.code ‹_› (by omega) | exact fit16 (DrV.get ‹_› ‹_›) | exact DrV.fit ‹_› | exact DrV.lt ‹_› | exact (by assumption : ∀ c : List It, c ∈ _ → c.length ≤ LIM) _ (List.mem_of_getElem? (by assumption)) | exact FitVs.get ‹_› ‹_› | exact FitVs.get hp1 ‹_› | exact FitVs.get hp2 ‹_› | (refine FitVs.get ?_ hx; assumption) | exact FitVs.take ‹_› _ | exact FitCs.take ‹_› _ | exact FitV.len ‹_› | exact FitVs.len ‹_› | exact BigVs.get ‹_› ‹_› | exact FitCs.get hp1 ‹_› | exact FitCs.get ‹_› ‹_› | omega | (simp only [LIM, FitV, List.length_take, List.length_append, List.length_cons, List.length_nil] at *; omega)))⟩ (.inl rfl) (by first | assumption | omega) (fun r hr => ?_); have hj := K_spec_VotesAdd (a := (_, ⟨_, _⟩)) hr; clear hr; unfold R_spec_VotesAdd at hj; dsimp only at hj; (try simp only [etaVo] at hj); (try rw [eL1, eB1] at hj); (try rw [eL2, eB2] at hj); (try rw [eL3, eB3] at hj); (try rw [eL4, eB4] at hj); subst hj)
      | (refine callk (b := [one (vsF _), agg (voF ⟨_, _⟩)]) v_impl_VotesAdd rfl ⟨(_, ⟨_, _⟩), rfl, (by refine ⟨?_, ?_, ?_⟩ <;> (first | assumption | exact LawB.code ‹_› (by omega) | exact fit16 (DrV.get ‹_› ‹_›) | exact DrV.fit ‹_› | exact DrV.lt ‹_› | exact (by assumption : ∀ c : List It, c ∈ _ → c.length ≤ LIM) _ (List.mem_of_getElem? (by assumption)) | exact FitVs.get ‹_› ‹_› | exact FitVs.get hp1 ‹_› | exact FitVs.get hp2 ‹_› | (refine FitVs.get ?_ hx; assumption) | exact FitVs.take ‹_› _ | exact FitCs.take ‹_› _ | exact FitV.len ‹_› | exact FitVs.len ‹_› | exact BigVs.get ‹_› ‹_› | exact FitCs.get hp1 ‹_› | exact FitCs.get ‹_› ‹_› | omega | (simp only [LIM, FitV, List.length_take, List.length_append, List.length_cons, List.length_nil] at *; omega)))⟩ (.inl rfl) (by first | assumption | omega) (fun r hr => ?_); have hj := K_impl_VotesAdd (a := (_, ⟨_, _⟩)) hr; clear hr; unfold R_impl_VotesAdd at hj; dsimp only at hj; (try simp only [etaVo] at hj); (try rw [eL1, eB1] at hj); (try rw [eL2, eB2] at hj); (try rw [eL3, eB3] at hj); (try rw [eL4, eB4] at hj); subst hj)
      | (refine callt (b := [one (vsF _), one (vsF _)]) v_laws_lwVotes rfl ⟨(_, _), rfl, (by refine ⟨?_, ?_⟩ <;> (first | assumption | exact LawB.code ‹_› (by omega) | exact fit16 (DrV.get ‹_› ‹_›) | exact DrV.fit ‹_› | exact DrV.lt ‹_› | exact (by assumption : ∀ c : List It, c ∈ _ → c.length ≤ LIM) _ (List.mem_of_getElem? (by assumption)) | exact FitVs.get ‹_› ‹_› | exact FitVs.get hp1 ‹_› | exact FitVs.get hp2 ‹_› | (refine FitVs.get ?_ hx; assumption) | exact FitVs.take ‹_› _ | exact FitCs.take ‹_› _ | exact FitV.len ‹_› | exact FitVs.len ‹_› | exact BigVs.get ‹_› ‹_› | exact FitCs.get hp1 ‹_› | exact FitCs.get ‹_› ‹_› | omega | (simp only [LIM, FitV, List.length_take, List.length_append, List.length_cons, List.length_nil] at *; omega)))⟩ (.inl rfl) (by first | assumption | omega) (fun r hr => K_laws_lwVotes (a := (_, _)) hr) (fun hj => ?_) (fun hj => ?_) <;> (try simp only [etaPa, etaIt, etaVo] at hj) <;> (try contradiction))
      | (refine callt (b := [one (vsF _)]) v_spec_VotesOk rfl ⟨_, rfl, (by first | assumption | exact LawB.code ‹_› (by omega) | exact fit16 (DrV.get ‹_› ‹_›) | exact DrV.fit ‹_› | exact DrV.lt ‹_› | exact (by assumption : ∀ c : List It, c ∈ _ → c.length ≤ LIM) _ (List.mem_of_getElem? (by assumption)) | exact FitVs.get ‹_› ‹_› | exact FitVs.get hp1 ‹_› | exact FitVs.get hp2 ‹_› | (refine FitVs.get ?_ hx; assumption) | exact FitVs.take ‹_› _ | exact FitCs.take ‹_› _ | exact FitV.len ‹_› | exact FitVs.len ‹_› | exact BigVs.get ‹_› ‹_› | exact FitCs.get hp1 ‹_› | exact FitCs.get ‹_› ‹_› | omega | (simp only [LIM, FitV, List.length_take, List.length_append, List.length_cons, List.length_nil] at *; omega))⟩ (.inl rfl) (by first | assumption | omega) (fun r hr => K_spec_VotesOk (a := _) hr) (fun hj => ?_) (fun hj => ?_) <;> (try simp only [etaPa, etaIt, etaVo] at hj) <;> (try contradiction))
      | (refine callt (b := [agg (voF ⟨_, _⟩)]) v_spec_VoteOk rfl ⟨⟨_, _⟩, rfl, (by first | assumption | exact LawB.code ‹_› (by omega) | exact fit16 (DrV.get ‹_› ‹_›) | exact DrV.fit ‹_› | exact DrV.lt ‹_› | exact (by assumption : ∀ c : List It, c ∈ _ → c.length ≤ LIM) _ (List.mem_of_getElem? (by assumption)) | exact FitVs.get ‹_› ‹_› | exact FitVs.get hp1 ‹_› | exact FitVs.get hp2 ‹_› | (refine FitVs.get ?_ hx; assumption) | exact FitVs.take ‹_› _ | exact FitCs.take ‹_› _ | exact FitV.len ‹_› | exact FitVs.len ‹_› | exact BigVs.get ‹_› ‹_› | exact FitCs.get hp1 ‹_› | exact FitCs.get ‹_› ‹_› | omega | (simp only [LIM, FitV, List.length_take, List.length_append, List.length_cons, List.length_nil] at *; omega))⟩ (.inl rfl) (by first | assumption | omega) (fun r hr => K_spec_VoteOk (a := ⟨_, _⟩) hr) (fun hj => ?_) (fun hj => ?_) <;> (try simp only [etaPa, etaIt, etaVo] at hj) <;> (try contradiction))
      | (refine callt (b := [one (vsF _), agg (voF ⟨_, _⟩)]) v_laws_lwHas rfl ⟨(_, ⟨_, _⟩), rfl, (by refine ⟨?_, ?_⟩ <;> (first | assumption | exact LawB.code ‹_› (by omega) | exact fit16 (DrV.get ‹_› ‹_›) | exact DrV.fit ‹_› | exact DrV.lt ‹_› | exact (by assumption : ∀ c : List It, c ∈ _ → c.length ≤ LIM) _ (List.mem_of_getElem? (by assumption)) | exact FitVs.get ‹_› ‹_› | exact FitVs.get hp1 ‹_› | exact FitVs.get hp2 ‹_› | (refine FitVs.get ?_ hx; assumption) | exact FitVs.take ‹_› _ | exact FitCs.take ‹_› _ | exact FitV.len ‹_› | exact FitVs.len ‹_› | exact BigVs.get ‹_› ‹_› | exact FitCs.get hp1 ‹_› | exact FitCs.get ‹_› ‹_› | omega | (simp only [LIM, FitV, List.length_take, List.length_append, List.length_cons, List.length_nil] at *; omega)))⟩ (.inl rfl) (by first | assumption | omega) (fun r hr => K_laws_lwHas (a := (_, ⟨_, _⟩)) hr) (fun hj => ?_) (fun hj => ?_) <;> (try simp only [etaPa, etaIt, etaVo] at hj) <;> (try contradiction))
      | exact ⟨⟨_, rfl, rfl, code, rfl, (by unfold R_laws_FnVotesAdd; dsimp only; first | done | exact absurd True.intro hj | (first | rfl | (exfalso; first | contradiction | grind)))⟩, (by first | exact Nat.le_refl _ | omega), (by first | rfl | assumption | ((repeat (refine zk ?_ (by first | omega | decide | (simp only [List.length_cons, List.length_nil]; omega)))); first | assumption | rfl))⟩
      | fail)
  · skip
    repeat' ((conv => whnf); first
      | refine ⟨_, rfl, ?_⟩
      | refine ⟨rfl, ?_⟩
      | refine ⟨_, _, rfl, at_map (by assumption), ?_⟩
      | refine idx_mapX (i := 0) rfl (by assumption) ?_
      | refine idx_map (by omega) (fun x hx => ?_)
      | refine idx_mapX (wrap_dn (by omega) (by omega)) (by assumption) ?_
      | refine idx_mapE (wrap_dn (by omega) (by omega)) (by omega) (fun x hx => ?_)
      | refine idx_mapL (by omega) (by first | assumption | (simp only [LIM]; omega)) (fun x hx => ?_)
      | refine idx_mapI (by omega) (by first | omega | (simp only [List.length_map] at *; omega)) (fun x hx => ?_)
      | refine ⟨_, ldc_cells hupd_at (Nat.le_of_ble_eq_true rfl), ?_⟩
      | refine ⟨_, ldc_cells (by first | assumption | exact zk ‹_› (by omega) | exact zk (zk ‹_› (by omega)) (by omega)) (Nat.le_of_ble_eq_true rfl), ?_⟩
      | refine ⟨_, _, hupd_at, rfl, rfl, Nat.le_of_ble_eq_true rfl, ?_⟩
      | refine ⟨_, _, rfl, rfl, rfl, Nat.le_of_ble_eq_true rfl, ?_⟩
      | (refine ⟨fun hc => ?_, fun hc => ?_⟩ <;> (try simp (disch := omega) only [List.length_map, wrap64] at hc) <;> (try (exfalso; first | contradiction | omega)))
      | (refine ⟨_, slc_to rfl (by first | omega | (simp only [List.length_map] at *; omega)), ?_⟩; rw [map_take'])
      | (refine ⟨_, slc_toI rfl (by omega) (by first | omega | (simp only [List.length_map] at *; omega)), ?_⟩; rw [map_take'])
      | (refine callk (b := [one (vsF _), agg (voF ⟨_, _⟩)]) v_spec_VotesAdd rfl ⟨(_, ⟨_, _⟩), rfl, (by refine ⟨?_, ?_, ?_⟩ <;> (first | assumption | exact LawB.code ‹_› (by omega) | exact fit16 (DrV.get ‹_› ‹_›) | exact DrV.fit ‹_› | exact DrV.lt ‹_› | exact (by assumption : ∀ c : List It, c ∈ _ → c.length ≤ LIM) _ (List.mem_of_getElem? (by assumption)) | exact FitVs.get ‹_› ‹_› | exact FitVs.get hp1 ‹_› | exact FitVs.get hp2 ‹_› | (refine FitVs.get ?_ hx; assumption) | exact FitVs.take ‹_› _ | exact FitCs.take ‹_› _ | exact FitV.len ‹_› | exact FitVs.len ‹_› | exact BigVs.get ‹_› ‹_› | exact FitCs.get hp1 ‹_› | exact FitCs.get ‹_› ‹_› | omega | (simp only [LIM, FitV, List.length_take, List.length_append, List.length_cons, List.length_nil] at *; omega)))⟩ (.inl rfl) (by first | assumption | omega) (fun r hr => ?_); have hj := K_spec_VotesAdd (a := (_, ⟨_, _⟩)) hr; clear hr; unfold R_spec_VotesAdd at hj; dsimp only at hj; (try simp only [etaVo] at hj); (try rw [eL1, eB1] at hj); (try rw [eL2, eB2] at hj); (try rw [eL3, eB3] at hj); (try rw [eL4, eB4] at hj); subst hj)
      | (refine callk (b := [one (vsF _), agg (voF ⟨_, _⟩)]) v_impl_VotesAdd rfl ⟨(_, ⟨_, _⟩), rfl, (by refine ⟨?_, ?_, ?_⟩ <;> (first | assumption | exact LawB.code ‹_› (by omega) | exact fit16 (DrV.get ‹_› ‹_›) | exact DrV.fit ‹_› | exact DrV.lt ‹_› | exact (by assumption : ∀ c : List It, c ∈ _ → c.length ≤ LIM) _ (List.mem_of_getElem? (by assumption)) | exact FitVs.get ‹_› ‹_› | exact FitVs.get hp1 ‹_› | exact FitVs.get hp2 ‹_› | (refine FitVs.get ?_ hx; assumption) | exact FitVs.take ‹_› _ | exact FitCs.take ‹_› _ | exact FitV.len ‹_› | exact FitVs.len ‹_› | exact BigVs.get ‹_› ‹_› | exact FitCs.get hp1 ‹_› | exact FitCs.get ‹_› ‹_› | omega | (simp only [LIM, FitV, List.length_take, List.length_append, List.length_cons, List.length_nil] at *; omega)))⟩ (.inl rfl) (by first | assumption | omega) (fun r hr => ?_); have hj := K_impl_VotesAdd (a := (_, ⟨_, _⟩)) hr; clear hr; unfold R_impl_VotesAdd at hj; dsimp only at hj; (try simp only [etaVo] at hj); (try rw [eL1, eB1] at hj); (try rw [eL2, eB2] at hj); (try rw [eL3, eB3] at hj); (try rw [eL4, eB4] at hj); subst hj)
      | (refine callt (b := [one (vsF _), one (vsF _)]) v_laws_lwVotes rfl ⟨(_, _), rfl, (by refine ⟨?_, ?_⟩ <;> (first | assumption | exact LawB.code ‹_› (by omega) | exact fit16 (DrV.get ‹_› ‹_›) | exact DrV.fit ‹_› | exact DrV.lt ‹_› | exact (by assumption : ∀ c : List It, c ∈ _ → c.length ≤ LIM) _ (List.mem_of_getElem? (by assumption)) | exact FitVs.get ‹_› ‹_› | exact FitVs.get hp1 ‹_› | exact FitVs.get hp2 ‹_› | (refine FitVs.get ?_ hx; assumption) | exact FitVs.take ‹_› _ | exact FitCs.take ‹_› _ | exact FitV.len ‹_› | exact FitVs.len ‹_› | exact BigVs.get ‹_› ‹_› | exact FitCs.get hp1 ‹_› | exact FitCs.get ‹_› ‹_› | omega | (simp only [LIM, FitV, List.length_take, List.length_append, List.length_cons, List.length_nil] at *; omega)))⟩ (.inl rfl) (by first | assumption | omega) (fun r hr => K_laws_lwVotes (a := (_, _)) hr) (fun hj => ?_) (fun hj => ?_) <;> (try simp only [etaPa, etaIt, etaVo] at hj) <;> (try contradiction))
      | (refine callt (b := [one (vsF _)]) v_spec_VotesOk rfl ⟨_, rfl, (by first | assumption | exact LawB.code ‹_› (by omega) | exact fit16 (DrV.get ‹_› ‹_›) | exact DrV.fit ‹_› | exact DrV.lt ‹_› | exact (by assumption : ∀ c : List It, c ∈ _ → c.length ≤ LIM) _ (List.mem_of_getElem? (by assumption)) | exact FitVs.get ‹_› ‹_› | exact FitVs.get hp1 ‹_› | exact FitVs.get hp2 ‹_› | (refine FitVs.get ?_ hx; assumption) | exact FitVs.take ‹_› _ | exact FitCs.take ‹_› _ | exact FitV.len ‹_› | exact FitVs.len ‹_› | exact BigVs.get ‹_› ‹_› | exact FitCs.get hp1 ‹_› | exact FitCs.get ‹_› ‹_› | omega | (simp only [LIM, FitV, List.length_take, List.length_append, List.length_cons, List.length_nil] at *; omega))⟩ (.inl rfl) (by first | assumption | omega) (fun r hr => K_spec_VotesOk (a := _) hr) (fun hj => ?_) (fun hj => ?_) <;> (try simp only [etaPa, etaIt, etaVo] at hj) <;> (try contradiction))
      | (refine callt (b := [agg (voF ⟨_, _⟩)]) v_spec_VoteOk rfl ⟨⟨_, _⟩, rfl, (by first | assumption | exact LawB.code ‹_› (by omega) | exact fit16 (DrV.get ‹_› ‹_›) | exact DrV.fit ‹_› | exact DrV.lt ‹_› | exact (by assumption : ∀ c : List It, c ∈ _ → c.length ≤ LIM) _ (List.mem_of_getElem? (by assumption)) | exact FitVs.get ‹_› ‹_› | exact FitVs.get hp1 ‹_› | exact FitVs.get hp2 ‹_› | (refine FitVs.get ?_ hx; assumption) | exact FitVs.take ‹_› _ | exact FitCs.take ‹_› _ | exact FitV.len ‹_› | exact FitVs.len ‹_› | exact BigVs.get ‹_› ‹_› | exact FitCs.get hp1 ‹_› | exact FitCs.get ‹_› ‹_› | omega | (simp only [LIM, FitV, List.length_take, List.length_append, List.length_cons, List.length_nil] at *; omega))⟩ (.inl rfl) (by first | assumption | omega) (fun r hr => K_spec_VoteOk (a := ⟨_, _⟩) hr) (fun hj => ?_) (fun hj => ?_) <;> (try simp only [etaPa, etaIt, etaVo] at hj) <;> (try contradiction))
      | (refine callt (b := [one (vsF _), agg (voF ⟨_, _⟩)]) v_laws_lwHas rfl ⟨(_, ⟨_, _⟩), rfl, (by refine ⟨?_, ?_⟩ <;> (first | assumption | exact LawB.code ‹_› (by omega) | exact fit16 (DrV.get ‹_› ‹_›) | exact DrV.fit ‹_› | exact DrV.lt ‹_› | exact (by assumption : ∀ c : List It, c ∈ _ → c.length ≤ LIM) _ (List.mem_of_getElem? (by assumption)) | exact FitVs.get ‹_› ‹_› | exact FitVs.get hp1 ‹_› | exact FitVs.get hp2 ‹_› | (refine FitVs.get ?_ hx; assumption) | exact FitVs.take ‹_› _ | exact FitCs.take ‹_› _ | exact FitV.len ‹_› | exact FitVs.len ‹_› | exact BigVs.get ‹_› ‹_› | exact FitCs.get hp1 ‹_› | exact FitCs.get ‹_› ‹_› | omega | (simp only [LIM, FitV, List.length_take, List.length_append, List.length_cons, List.length_nil] at *; omega)))⟩ (.inl rfl) (by first | assumption | omega) (fun r hr => K_laws_lwHas (a := (_, ⟨_, _⟩)) hr) (fun hj => ?_) (fun hj => ?_) <;> (try simp only [etaPa, etaIt, etaVo] at hj) <;> (try contradiction))
      | exact ⟨⟨_, rfl, rfl, code, rfl, (by unfold R_laws_FnVotesAdd; dsimp only; first | done | exact absurd True.intro hj | (first | rfl | (exfalso; first | contradiction | grind)))⟩, (by first | exact Nat.le_refl _ | omega), (by first | rfl | assumption | ((repeat (refine zk ?_ (by first | omega | decide | (simp only [List.length_cons, List.length_nil]; omega)))); first | assumption | rfl))⟩
      | fail)
  · have hq4 := votesOk_snoc hq1 hq2 hq3
    obtain ⟨eL2, eB2⟩ : addL (l ++ [v]) v = l ++ [v] ∧ addB (l ++ [v]) v = false := by
      rcases add_cases (l ++ [v]) v with ⟨h, _⟩ | ⟨_, _, _, h1, h2⟩ | ⟨_, _, h, _⟩
      · exact absurd ⟨hq4, hq2⟩ h
      · exact ⟨h1, h2⟩
      · exact absurd (by simp) h
    have htake : (l ++ [v]).take (l.map voF).length = l := by rw [List.length_map, List.take_left']; rfl
    have hlast : ∀ x, (l ++ [v])[((l.map voF).length : Int).toNat]? = some x → x = v := by
      intro x hx
      rw [List.length_map, Int.toNat_natCast, List.getElem?_append_right (Nat.le_refl _)] at hx
      simpa using hx.symm
    repeat' ((conv => whnf); first
      | refine ⟨_, rfl, ?_⟩
      | refine ⟨rfl, ?_⟩
      | refine ⟨_, _, rfl, at_map (by assumption), ?_⟩
      | refine idx_mapX (i := 0) rfl (by assumption) ?_
      | refine idx_map (by omega) (fun x hx => ?_)
      | refine idx_mapX (wrap_dn (by omega) (by omega)) (by assumption) ?_
      | refine idx_mapE (wrap_dn (by omega) (by omega)) (by omega) (fun x hx => ?_)
      | refine idx_mapL (by omega) (by first | assumption | (simp only [LIM]; omega)) (fun x hx => ?_)
      | refine idx_mapI (by omega) (by first | omega | (simp only [List.length_map] at *; omega)) (fun x hx => ?_)
      | refine ⟨_, ldc_cells hupd_at (Nat.le_of_ble_eq_true rfl), ?_⟩
      | refine ⟨_, ldc_cells (by first | assumption | exact zk ‹_› (by omega) | exact zk (zk ‹_› (by omega)) (by omega)) (Nat.le_of_ble_eq_true rfl), ?_⟩
      | refine ⟨_, _, hupd_at, rfl, rfl, Nat.le_of_ble_eq_true rfl, ?_⟩
      | refine ⟨_, _, rfl, rfl, rfl, Nat.le_of_ble_eq_true rfl, ?_⟩
      | (refine ⟨fun hc => ?_, fun hc => ?_⟩ <;> (try simp (disch := omega) only [List.length_map, wrap64] at hc) <;> (try (exfalso; first | contradiction | omega)))
      | (refine ⟨_, slc_to rfl (by first | omega | (simp only [List.length_map] at *; omega)), ?_⟩; rw [map_take'])
      | (refine ⟨_, slc_toI rfl (by omega) (by first | omega | (simp only [List.length_map] at *; omega)), ?_⟩; rw [map_take'])
      | (refine callk (b := [one (vsF _), agg (voF ⟨_, _⟩)]) v_spec_VotesAdd rfl ⟨(_, ⟨_, _⟩), rfl, (by refine ⟨?_, ?_, ?_⟩ <;> (first | assumption | exact LawB.code ‹_› (by omega) | exact fit16 (DrV.get ‹_› ‹_›) | exact DrV.fit ‹_› | exact DrV.lt ‹_› | exact (by assumption : ∀ c : List It, c ∈ _ → c.length ≤ LIM) _ (List.mem_of_getElem? (by assumption)) | exact FitVs.get ‹_› ‹_› | exact FitVs.get hp1 ‹_› | exact FitVs.get hp2 ‹_› | (refine FitVs.get ?_ hx; assumption) | exact FitVs.take ‹_› _ | exact FitCs.take ‹_› _ | exact FitV.len ‹_› | exact FitVs.len ‹_› | exact BigVs.get ‹_› ‹_› | exact FitCs.get hp1 ‹_› | exact FitCs.get ‹_› ‹_› | omega | (simp only [LIM, FitV, List.length_take, List.length_append, List.length_cons, List.length_nil] at *; omega)))⟩ (.inl rfl) (by first | assumption | omega) (fun r hr => ?_); have hj := K_spec_VotesAdd (a := (_, ⟨_, _⟩)) hr; clear hr; unfold R_spec_VotesAdd at hj; dsimp only at hj; (try simp only [etaVo] at hj); (try rw [eL1, eB1] at hj); (try rw [eL2, eB2] at hj); (try rw [eL3, eB3] at hj); (try rw [eL4, eB4] at hj); subst hj)
      | (refine callk (b := [one (vsF _), agg (voF ⟨_, _⟩)]) v_impl_VotesAdd rfl ⟨(_, ⟨_, _⟩), rfl, (by refine ⟨?_, ?_, ?_⟩ <;> (first | assumption | exact LawB.code ‹_› (by omega) | exact fit16 (DrV.get ‹_› ‹_›) | exact DrV.fit ‹_› | exact DrV.lt ‹_› | exact (by assumption : ∀ c : List It, c ∈ _ → c.length ≤ LIM) _ (List.mem_of_getElem? (by assumption)) | exact FitVs.get ‹_› ‹_› | exact FitVs.get hp1 ‹_› | exact FitVs.get hp2 ‹_› | (refine FitVs.get ?_ hx; assumption) | exact FitVs.take ‹_› _ | exact FitCs.take ‹_› _ | exact FitV.len ‹_› | exact FitVs.len ‹_› | exact BigVs.get ‹_› ‹_› | exact FitCs.get hp1 ‹_› | exact FitCs.get ‹_› ‹_› | omega | (simp only [LIM, FitV, List.length_take, List.length_append, List.length_cons, List.length_nil] at *; omega)))⟩ (.inl rfl) (by first | assumption | omega) (fun r hr => ?_); have hj := K_impl_VotesAdd (a := (_, ⟨_, _⟩)) hr; clear hr; unfold R_impl_VotesAdd at hj; dsimp only at hj; (try simp only [etaVo] at hj); (try rw [eL1, eB1] at hj); (try rw [eL2, eB2] at hj); (try rw [eL3, eB3] at hj); (try rw [eL4, eB4] at hj); subst hj)
      | (refine callt (b := [one (vsF _), one (vsF _)]) v_laws_lwVotes rfl ⟨(_, _), rfl, (by refine ⟨?_, ?_⟩ <;> (first | assumption | exact LawB.code ‹_› (by omega) | exact fit16 (DrV.get ‹_› ‹_›) | exact DrV.fit ‹_› | exact DrV.lt ‹_› | exact (by assumption : ∀ c : List It, c ∈ _ → c.length ≤ LIM) _ (List.mem_of_getElem? (by assumption)) | exact FitVs.get ‹_› ‹_› | exact FitVs.get hp1 ‹_› | exact FitVs.get hp2 ‹_› | (refine FitVs.get ?_ hx; assumption) | exact FitVs.take ‹_› _ | exact FitCs.take ‹_› _ | exact FitV.len ‹_› | exact FitVs.len ‹_› | exact BigVs.get ‹_› ‹_› | exact FitCs.get hp1 ‹_› | exact FitCs.get ‹_› ‹_› | omega | (simp only [LIM, FitV, List.length_take, List.length_append, List.length_cons, List.length_nil] at *; omega)))⟩ (.inl rfl) (by first | assumption | omega) (fun r hr => K_laws_lwVotes (a := (_, _)) hr) (fun hj => ?_) (fun hj => ?_) <;> (try simp only [etaPa, etaIt, etaVo] at hj) <;> (try contradiction))
      | (refine callt (b := [one (vsF _)]) v_spec_VotesOk rfl ⟨_, rfl, (by first | assumption | exact LawB.code ‹_› (by omega) | exact fit16 (DrV.get ‹_› ‹_›) | exact DrV.fit ‹_› | exact DrV.lt ‹_› | exact (by assumption : ∀ c : List It, c ∈ _ → c.length ≤ LIM) _ (List.mem_of_getElem? (by assumption)) | exact FitVs.get ‹_› ‹_› | exact FitVs.get hp1 ‹_› | exact FitVs.get hp2 ‹_› | (refine FitVs.get ?_ hx; assumption) | exact FitVs.take ‹_› _ | exact FitCs.take ‹_› _ | exact FitV.len ‹_› | exact FitVs.len ‹_› | exact BigVs.get ‹_› ‹_› | exact FitCs.get hp1 ‹_› | exact FitCs.get ‹_› ‹_› | omega | (simp only [LIM, FitV, List.length_take, List.length_append, List.length_cons, List.length_nil] at *; omega))⟩ (.inl rfl) (by first | assumption | omega) (fun r hr => K_spec_VotesOk (a := _) hr) (fun hj => ?_) (fun hj => ?_) <;> (try simp only [etaPa, etaIt, etaVo] at hj) <;> (try contradiction))
      | (refine callt (b := [agg (voF ⟨_, _⟩)]) v_spec_VoteOk rfl ⟨⟨_, _⟩, rfl, (by first | assumption | exact LawB.code ‹_› (by omega) | exact fit16 (DrV.get ‹_› ‹_›) | exact DrV.fit ‹_› | exact DrV.lt ‹_› | exact (by assumption : ∀ c : List It, c ∈ _ → c.length ≤ LIM) _ (List.mem_of_getElem? (by assumption)) | exact FitVs.get ‹_› ‹_› | exact FitVs.get hp1 ‹_› | exact FitVs.get hp2 ‹_› | (refine FitVs.get ?_ hx; assumption) | exact FitVs.take ‹_› _ | exact FitCs.take ‹_› _ | exact FitV.len ‹_› | exact FitVs.len ‹_› | exact BigVs.get ‹_› ‹_› | exact FitCs.get hp1 ‹_› | exact FitCs.get ‹_› ‹_› | omega | (simp only [LIM, FitV, List.length_take, List.length_append, List.length_cons, List.length_nil] at *; omega))⟩ (.inl rfl) (by first | assumption | omega) (fun r hr => K_spec_VoteOk (a := ⟨_, _⟩) hr) (fun hj => ?_) (fun hj => ?_) <;> (try simp only [etaPa, etaIt, etaVo] at hj) <;> (try contradiction))
      | (refine callt (b := [one (vsF _), agg (voF ⟨_, _⟩)]) v_laws_lwHas rfl ⟨(_, ⟨_, _⟩), rfl, (by refine ⟨?_, ?_⟩ <;> (first | assumption | exact LawB.code ‹_› (by omega) | exact fit16 (DrV.get ‹_› ‹_›) | exact DrV.fit ‹_› | exact DrV.lt ‹_› | exact (by assumption : ∀ c : List It, c ∈ _ → c.length ≤ LIM) _ (List.mem_of_getElem? (by assumption)) | exact FitVs.get ‹_› ‹_› | exact FitVs.get hp1 ‹_› | exact FitVs.get hp2 ‹_› | (refine FitVs.get ?_ hx; assumption) | exact FitVs.take ‹_› _ | exact FitCs.take ‹_› _ | exact FitV.len ‹_› | exact FitVs.len ‹_› | exact BigVs.get ‹_› ‹_› | exact FitCs.get hp1 ‹_› | exact FitCs.get ‹_› ‹_› | omega | (simp only [LIM, FitV, List.length_take, List.length_append, List.length_cons, List.length_nil] at *; omega)))⟩ (.inl rfl) (by first | assumption | omega) (fun r hr => K_laws_lwHas (a := (_, ⟨_, _⟩)) hr) (fun hj => ?_) (fun hj => ?_) <;> (try simp only [etaPa, etaIt, etaVo] at hj) <;> (try contradiction))
      | (refine callt (b := [agg (voF ⟨_, _⟩), agg (voF ⟨_, _⟩)]) v_laws_lwVote rfl ⟨(⟨_, _⟩, ⟨_, _⟩), rfl, (by refine ⟨?_, ?_⟩ <;> (first | assumption | exact LawB.code ‹_› (by omega) | exact fit16 (DrV.get ‹_› ‹_›) | exact DrV.fit ‹_› | exact DrV.lt ‹_› | exact (by assumption : ∀ c : List It, c ∈ _ → c.length ≤ LIM) _ (List.mem_of_getElem? (by assumption)) | exact FitVs.get ‹_› ‹_› | exact FitVs.get hp1 ‹_› | exact FitVs.get hp2 ‹_› | (refine FitVs.get ?_ hx; assumption) | exact FitVs.take ‹_› _ | exact FitCs.take ‹_› _ | exact FitV.len ‹_› | exact FitVs.len ‹_› | exact BigVs.get ‹_› ‹_› | exact FitCs.get hp1 ‹_› | exact FitCs.get ‹_› ‹_› | omega | (simp only [LIM, FitV, List.length_take, List.length_append, List.length_cons, List.length_nil] at *; omega)))⟩ (.inl rfl) (by first | assumption | omega) (fun r hr => K_laws_lwVote (a := (⟨_, _⟩, ⟨_, _⟩)) hr) (fun hj => ?_) (fun hj => ?_) <;> (try simp only [etaPa, etaIt, etaVo] at hj) <;> (try contradiction))
      | (refine callt (b := [one (vsF _)]) v_impl_VotesOk rfl ⟨_, rfl, (by first | assumption | exact LawB.code ‹_› (by omega) | exact fit16 (DrV.get ‹_› ‹_›) | exact DrV.fit ‹_› | exact DrV.lt ‹_› | exact (by assumption : ∀ c : List It, c ∈ _ → c.length ≤ LIM) _ (List.mem_of_getElem? (by assumption)) | exact FitVs.get ‹_› ‹_› | exact FitVs.get hp1 ‹_› | exact FitVs.get hp2 ‹_› | (refine FitVs.get ?_ hx; assumption) | exact FitVs.take ‹_› _ | exact FitCs.take ‹_› _ | exact FitV.len ‹_› | exact FitVs.len ‹_› | exact BigVs.get ‹_› ‹_› | exact FitCs.get hp1 ‹_› | exact FitCs.get ‹_› ‹_› | omega | (simp only [LIM, FitV, List.length_take, List.length_append, List.length_cons, List.length_nil] at *; omega))⟩ (.inl rfl) (by first | assumption | omega) (fun r hr => K_impl_VotesOk (a := _) hr) (fun hj => ?_) (fun hj => ?_) <;> (try simp only [etaPa, etaIt, etaVo] at hj) <;> (try contradiction))
      | exact ⟨⟨_, rfl, rfl, code, rfl, (by unfold R_laws_FnVotesAdd; dsimp only; first | done | exact absurd True.intro hj | (first | rfl | (exfalso; first | contradiction | exact hj (hlast _ hx) | grind)))⟩, (by first | exact Nat.le_refl _ | omega), (by first | rfl | assumption | ((repeat (refine zk ?_ (by first | omega | decide | (simp only [List.length_cons, List.length_nil]; omega)))); first | assumption | rfl))⟩
      | fail)
end Av
end Go.Proofs.Ytfkaomigeaileaa
