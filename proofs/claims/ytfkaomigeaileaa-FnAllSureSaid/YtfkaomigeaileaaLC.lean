/- The walks: the law FnAllSure. -/
import Derived.Test.YtfkaomigeaileaaG5
import Derived.Test.YtfkaomigeaileaaK4
import Derived.Test.YtfkaomigeaileaaP1
import Derived.Test.YtfkaomigeaileaaQ1
set_option linter.unusedVariables false
set_option linter.unusedSimpArgs false
namespace Go.Proofs.Ytfkaomigeaileaa
namespace Av
open Go.RowKit

attribute [local irreducible] allT
attribute [local irreducible] Valid ValidM
set_option maxHeartbeats 4000000 in
set_option maxRecDepth 100000 in
theorem v_laws_FnAllSure : Valid Try.prog n_laws_FnAllSure S_laws_FnAllSure := by
  refine valid_of_swp mixed is_laws_FnAllSure (by rintro _ ⟨a, rfl, _⟩; exact Nat.le_of_ble_eq_true rfl) ?_
  rintro _ rm ⟨code, rfl, hpre⟩ hl
  try dsimp only at hpre
  have hpre0 := hpre
  have hp1 := hpre
  have cc_laws_FnAllSure : S_laws_FnAllSure.cost = 50000 := rfl
  have cc_spec_DrawTreeAll : S_spec_DrawTreeAll.cost = 10000 := rfl
  have cc_impl_TreeAll : S_impl_TreeAll.cost = 0 := rfl
  have cc_spec_TreeAll : S_spec_TreeAll.cost = 0 := rfl
  have cc_spec_VotesOk : S_spec_VotesOk.cost = 0 := rfl
  have cc_impl_TreeSure : S_impl_TreeSure.cost = 0 := rfl
  have cc_laws_lwAmong : S_laws_lwAmong.cost = 0 := rfl
  repeat' ((conv => whnf); first
    | refine ⟨_, rfl, ?_⟩
    | refine ⟨rfl, ?_⟩
    | refine ⟨_, _, rfl, at_map (by assumption), ?_⟩
    | refine idx_mapX (i := 0) rfl (by assumption) ?_
    | refine idx_map (by omega) (fun x hx => ?_)
    | refine idx_mapX (wrap_dn (by omega) (by omega)) (by assumption) ?_
    | refine idx_mapE (wrap_dn (by omega) (by omega)) (by omega) (fun x hx => ?_)
    | refine idx_mapL (by omega) (by first | assumption | (simp only [LIM]; omega)) (fun x hx => ?_)
    | refine idx_mapI (by omega) (by first | omega | (simp only [List.length_map] at *; omega)) (fun x hx => ?_)
    | refine ⟨_, ldc_cells hupd_at (Nat.le_of_ble_eq_true rfl), ?_⟩
    | refine ⟨_, ldc_cells (by first | assumption | exact zk ‹_› (by omega) | exact zk (zk ‹_› (by omega)) (by omega)) (Nat.le_of_ble_eq_true rfl), ?_⟩
    | (refine ⟨fun hc => ?_, fun hc => ?_⟩ <;> (try simp (disch := omega) only [List.length_map, wrap64] at hc))
    | (refine ⟨_, slc_to rfl (by first | omega | (simp only [List.length_map] at *; omega)), ?_⟩; rw [map_take'])
    | (refine ⟨_, slc_toI rfl (by omega) (by first | omega | (simp only [List.length_map] at *; omega)), ?_⟩; rw [map_take'])
    | (refine callk (b := [one (byF _)]) v_spec_DrawTreeAll rfl ⟨_, rfl, (by first | assumption | exact LawB.code ‹_› (by omega) | exact fit16 (DrV.get ‹_› ‹_›) | exact DrV.fit ‹_› | exact DrV.lt ‹_› | exact (by assumption : ∀ c : List It, c ∈ _ → c.length ≤ LIM) _ (List.mem_of_getElem? (by assumption)) | exact FitVs.get ‹_› ‹_› | exact FitVs.get hp1 ‹_› | exact FitVs.get hp2 ‹_› | (refine FitVs.get ?_ hx; assumption) | exact FitVs.take ‹_› _ | exact FitCs.take ‹_› _ | exact FitV.len ‹_› | exact FitVs.len ‹_› | exact BigVs.get ‹_› ‹_› | exact FitCs.get hp1 ‹_› | exact FitCs.get ‹_› ‹_› | omega | (simp only [LIM, FitV, List.length_take, List.length_append, List.length_cons, List.length_nil] at *; omega))⟩ (.inl rfl) (by omega) (fun r hr => ?_); have hj := K_spec_DrawTreeAll (a := _) hr; clear hr; obtain ⟨l, rfl, hdl⟩ := hj)
    | exact ⟨⟨_, rfl, rfl, code, rfl, (by unfold R_laws_FnAllSure; dsimp only; first | done | exact absurd True.intro hj | (rfl))⟩, (by first | exact Nat.le_refl _ | omega), (by first | rfl | assumption | ((repeat (refine zk ?_ (by first | omega | decide | (simp only [List.length_cons, List.length_nil]; omega)))); first | assumption | rfl))⟩
    | fail)
  have hfl : FitVs l := hdl.fit
  have hln : l.length < LIM := hdl.lt
  have hll : l.length ≤ 400 := hdl.1
  have hfA := allS_fit hdl
  have hAl := hfA.1
  by_cases hV : VotesOk l
  · have e := allT_ok hV
    have hA1 : ∀ {i : Nat} {x : List It}, (allT l)[i]? = some x → TSure l x := fun hx => by rw [e] at hx; exact allS_ok hV (List.mem_of_getElem? hx)
    have hA2 : ∀ {i : Nat} {x : List It}, (allT l)[i]? = some x → x ∉ (allT l).take i := fun hx => by rw [e] at hx ⊢; exact nodup_take (allS_nodup l) hx
    have hA3 : ∀ {i : Nat} {x : Vo}, l[i]? = some x → (x.c ∈ allT l ↔ TSure l x.c) := fun hx => by rw [e]; exact allS_vote hV (List.mem_of_getElem? hx)
    have hA4 : (allT l)[0]? = some [] := by rw [e, ← allM_eq hV]; exact allM_head l
    have hA5 : 0 < (allT l).length := (List.getElem?_eq_some_iff.1 hA4).1
    clear e
    repeat' ((conv => whnf); first
      | refine ⟨_, rfl, ?_⟩
      | refine ⟨rfl, ?_⟩
      | refine ⟨_, _, rfl, at_map (by assumption), ?_⟩
      | refine idx_mapX (i := 0) rfl (by assumption) ?_
      | refine idx_map (by omega) (fun x hx => ?_)
      | refine idx_mapX (wrap_dn (by omega) (by omega)) (by assumption) ?_
      | refine idx_mapE (wrap_dn (by omega) (by omega)) (by omega) (fun x hx => ?_)
      | refine idx_mapL (by omega) (by first | assumption | (simp only [LIM]; omega)) (fun x hx => ?_)
      | refine idx_mapI (by omega) (by first | omega | (simp only [List.length_map] at *; omega)) (fun x hx => ?_)
      | refine ⟨_, ldc_cells hupd_at (Nat.le_of_ble_eq_true rfl), ?_⟩
      | refine ⟨_, ldc_cells (by first | assumption | exact zk ‹_› (by omega) | exact zk (zk ‹_› (by omega)) (by omega)) (Nat.le_of_ble_eq_true rfl), ?_⟩
      | (refine ⟨fun hc => ?_, fun hc => ?_⟩ <;> (try simp (disch := omega) only [List.length_map, wrap64] at hc) <;> (try (exfalso; first | contradiction | omega)))
      | (refine ⟨_, slc_to rfl (by first | omega | (simp only [List.length_map] at *; omega)), ?_⟩; rw [map_take'])
      | (refine ⟨_, slc_toI rfl (by omega) (by first | omega | (simp only [List.length_map] at *; omega)), ?_⟩; rw [map_take'])
      | (refine calle (b := [one (vsF _)]) v_impl_TreeAll rfl ⟨_, rfl, (by refine ⟨?_, ?_⟩ <;> (first | assumption | exact LawB.code ‹_› (by omega) | exact fit16 (DrV.get ‹_› ‹_›) | exact DrV.fit ‹_› | exact DrV.lt ‹_› | exact (by assumption : ∀ c : List It, c ∈ _ → c.length ≤ LIM) _ (List.mem_of_getElem? (by assumption)) | exact FitVs.get ‹_› ‹_› | exact FitVs.get hp1 ‹_› | exact FitVs.get hp2 ‹_› | (refine FitVs.get ?_ hx; assumption) | exact FitVs.take ‹_› _ | exact FitCs.take ‹_› _ | exact FitV.len ‹_› | exact FitVs.len ‹_› | exact BigVs.get ‹_› ‹_› | exact FitCs.get hp1 ‹_› | exact FitCs.get ‹_› ‹_› | omega | (simp only [LIM, FitV, List.length_take, List.length_append, List.length_cons, List.length_nil] at *; omega)))⟩ (.inl rfl) (by first | assumption | omega) (fun r hr => K_impl_TreeAll (a := _) hr) ?_)
      | (refine calle (b := [one (vsF _)]) v_spec_TreeAll rfl ⟨_, rfl, (by refine ⟨?_, ?_⟩ <;> (first | assumption | exact LawB.code ‹_› (by omega) | exact fit16 (DrV.get ‹_› ‹_›) | exact DrV.fit ‹_› | exact DrV.lt ‹_› | exact (by assumption : ∀ c : List It, c ∈ _ → c.length ≤ LIM) _ (List.mem_of_getElem? (by assumption)) | exact FitVs.get ‹_› ‹_› | exact FitVs.get hp1 ‹_› | exact FitVs.get hp2 ‹_› | (refine FitVs.get ?_ hx; assumption) | exact FitVs.take ‹_› _ | exact FitCs.take ‹_› _ | exact FitV.len ‹_› | exact FitVs.len ‹_› | exact BigVs.get ‹_› ‹_› | exact FitCs.get hp1 ‹_› | exact FitCs.get ‹_› ‹_› | omega | (simp only [LIM, FitV, List.length_take, List.length_append, List.length_cons, List.length_nil] at *; omega)))⟩ (.inl rfl) (by first | assumption | omega) (fun r hr => K_spec_TreeAll (a := _) hr) ?_)
      | (refine callt (b := [one (vsF _)]) v_spec_VotesOk rfl ⟨_, rfl, (by first | assumption | exact LawB.code ‹_› (by omega) | exact fit16 (DrV.get ‹_› ‹_›) | exact DrV.fit ‹_› | exact DrV.lt ‹_› | exact (by assumption : ∀ c : List It, c ∈ _ → c.length ≤ LIM) _ (List.mem_of_getElem? (by assumption)) | exact FitVs.get ‹_› ‹_› | exact FitVs.get hp1 ‹_› | exact FitVs.get hp2 ‹_› | (refine FitVs.get ?_ hx; assumption) | exact FitVs.take ‹_› _ | exact FitCs.take ‹_› _ | exact FitV.len ‹_› | exact FitVs.len ‹_› | exact BigVs.get ‹_› ‹_› | exact FitCs.get hp1 ‹_› | exact FitCs.get ‹_› ‹_› | omega | (simp only [LIM, FitV, List.length_take, List.length_append, List.length_cons, List.length_nil] at *; omega))⟩ (.inl rfl) (by first | assumption | omega) (fun r hr => K_spec_VotesOk (a := _) hr) (fun hj => ?_) (fun hj => ?_) <;> (try simp only [etaPa, etaIt, etaVo] at hj) <;> (try contradiction))
      | exact ⟨⟨_, rfl, rfl, code, rfl, (by unfold R_laws_FnAllSure; dsimp only; first | done | exact absurd True.intro hj | (first | rfl | (exfalso; first | contradiction | grind)))⟩, (by first | exact Nat.le_refl _ | omega), (by first | rfl | assumption | ((repeat (refine zk ?_ (by first | omega | decide | (simp only [List.length_cons, List.length_nil]; omega)))); first | assumption | rfl))⟩
      | fail)
    conv => whnf
    refine ⟨fun fr H nx rm' => ∃ (i : Nat), Has fr [(3, one (vsF l)), (4, one (csF (allT l))), (6, I i)] ∧ i ≤ (allT l).length ∧ (True) ∧ 1 ≤ nx ∧ H 0 = none ∧ rm' ≤ rm + 20000,
      fun fr _ _ _ => (allT l).length - ix (fr 6), ⟨0, ⟨(by first | rfl | (show I _ = I _; simp)), (by first | rfl | (show I _ = I _; simp)), (by first | rfl | (show I _ = I _; simp)), trivial⟩, Nat.zero_le _, (by trivial), (by first | decide | omega), (by first | rfl | assumption | ((repeat (refine zk ?_ (by first | omega | decide | (simp only [List.length_cons, List.length_nil]; omega)))); first | assumption | rfl)), (by omega)⟩, ?_⟩
    rintro fr H nx rm' ⟨i, hfr, hi, hq, hnx, hH, hrm⟩
    rw [hfr.eq]
    repeat' ((conv => whnf); first
      | refine ⟨_, rfl, ?_⟩
      | refine ⟨rfl, ?_⟩
      | refine ⟨_, _, rfl, at_map (by assumption), ?_⟩
      | refine idx_mapX (i := 0) rfl (by assumption) ?_
      | refine idx_map (by omega) (fun x hx => ?_)
      | refine idx_mapX (wrap_dn (by omega) (by omega)) (by assumption) ?_
      | refine idx_mapE (wrap_dn (by omega) (by omega)) (by omega) (fun x hx => ?_)
      | refine idx_mapL (by omega) (by first | assumption | (simp only [LIM]; omega)) (fun x hx => ?_)
      | refine idx_mapI (by omega) (by first | omega | (simp only [List.length_map] at *; omega)) (fun x hx => ?_)
      | refine ⟨_, ldc_cells hupd_at (Nat.le_of_ble_eq_true rfl), ?_⟩
      | refine ⟨_, ldc_cells (by first | assumption | exact zk ‹_› (by omega) | exact zk (zk ‹_› (by omega)) (by omega)) (Nat.le_of_ble_eq_true rfl), ?_⟩
      | (refine ⟨fun hc => ?_, fun hc => ?_⟩ <;> (try simp (disch := omega) only [List.length_map, wrap64] at hc) <;> (try (exfalso; first | contradiction | omega)))
      | (refine ⟨_, slc_to rfl (by first | omega | (simp only [List.length_map] at *; omega)), ?_⟩; rw [map_take'])
      | (refine ⟨_, slc_toI rfl (by omega) (by first | omega | (simp only [List.length_map] at *; omega)), ?_⟩; rw [map_take'])
      | (refine callt (b := [one (vsF _), one (chF _)]) v_impl_TreeSure rfl ⟨(_, _), rfl, (by refine ⟨?_, ?_⟩ <;> (first | assumption | exact LawB.code ‹_› (by omega) | exact fit16 (DrV.get ‹_› ‹_›) | exact DrV.fit ‹_› | exact DrV.lt ‹_› | exact (by assumption : ∀ c : List It, c ∈ _ → c.length ≤ LIM) _ (List.mem_of_getElem? (by assumption)) | exact FitVs.get ‹_› ‹_› | exact FitVs.get hp1 ‹_› | exact FitVs.get hp2 ‹_› | (refine FitVs.get ?_ hx; assumption) | exact FitVs.take ‹_› _ | exact FitCs.take ‹_› _ | exact FitV.len ‹_› | exact FitVs.len ‹_› | exact BigVs.get ‹_› ‹_› | exact FitCs.get hp1 ‹_› | exact FitCs.get ‹_› ‹_› | omega | (simp only [LIM, FitV, List.length_take, List.length_append, List.length_cons, List.length_nil] at *; omega)))⟩ (.inl rfl) (by first | assumption | omega) (fun r hr => K_impl_TreeSure (a := (_, _)) hr) (fun hj => ?_) (fun hj => ?_) <;> (try simp only [etaPa, etaIt, etaVo] at hj) <;> (try contradiction))
      | (refine callt (b := [one (csF _), one (chF _)]) v_laws_lwAmong rfl ⟨(_, _), rfl, (by refine ⟨?_, ?_⟩ <;> (first | assumption | exact LawB.code ‹_› (by omega) | exact fit16 (DrV.get ‹_› ‹_›) | exact DrV.fit ‹_› | exact DrV.lt ‹_› | exact (by assumption : ∀ c : List It, c ∈ _ → c.length ≤ LIM) _ (List.mem_of_getElem? (by assumption)) | exact FitVs.get ‹_› ‹_› | exact FitVs.get hp1 ‹_› | exact FitVs.get hp2 ‹_› | (refine FitVs.get ?_ hx; assumption) | exact FitVs.take ‹_› _ | exact FitCs.take ‹_› _ | exact FitV.len ‹_› | exact FitVs.len ‹_› | exact BigVs.get ‹_› ‹_› | exact FitCs.get hp1 ‹_› | exact FitCs.get ‹_› ‹_› | omega | (simp only [LIM, FitV, List.length_take, List.length_append, List.length_cons, List.length_nil] at *; omega)))⟩ (.inl rfl) (by first | assumption | omega) (fun r hr => K_laws_lwAmong (a := (_, _)) hr) (fun hj => ?_) (fun hj => ?_) <;> (try simp only [etaPa, etaIt, etaVo] at hj) <;> (try contradiction))
      | (refine ⟨⟨i + 1, ⟨rfl, rfl, congrArg I (wrap_up (n := (allT l).length) (by omega) (hAl)), trivial⟩, (by omega), (by trivial), (by omega), (by first | rfl | assumption | ((repeat (refine zk ?_ (by first | omega | decide | (simp only [List.length_cons, List.length_nil]; omega)))); first | assumption | rfl)), (by first | assumption | omega)⟩, ?_⟩; show (allT l).length - ix (I _) < (allT l).length - ix (I _); simp only [wrap_up (n := (allT l).length) (i := i) (by omega) (hAl), ix, Int.toNat_natCast]; omega)
      | exact ⟨⟨_, rfl, rfl, code, rfl, (by unfold R_laws_FnAllSure; dsimp only; first | done | exact absurd True.intro hj | (first | rfl | (exfalso; first | contradiction | exact hj (hA1 hx) | exact hA2 hx hj)))⟩, (by first | exact Nat.le_refl _ | omega), (by first | rfl | assumption | ((repeat (refine zk ?_ (by first | omega | decide | (simp only [List.length_cons, List.length_nil]; omega)))); first | assumption | rfl))⟩
      | fail)
    conv => whnf
    refine ⟨fun fr H nx rm' => ∃ (i : Nat), Has fr [(3, one (vsF l)), (4, one (csF (allT l))), (7, I i)] ∧ i ≤ l.length ∧ (True) ∧ 1 ≤ nx ∧ H 0 = none ∧ rm' ≤ rm + 20000,
      fun fr _ _ _ => l.length - ix (fr 7), ⟨0, ⟨(by first | rfl | (show I _ = I _; simp)), (by first | rfl | (show I _ = I _; simp)), (by first | rfl | (show I _ = I _; simp)), trivial⟩, Nat.zero_le _, (by trivial), (by first | decide | omega), (by first | rfl | assumption | ((repeat (refine zk ?_ (by first | omega | decide | (simp only [List.length_cons, List.length_nil]; omega)))); first | assumption | rfl)), (by omega)⟩, ?_⟩
    rintro fr H nx rm' ⟨i, hfr, hi, hq, hnx, hH, hrm⟩
    rw [hfr.eq]
    repeat' ((conv => whnf); first
      | refine ⟨_, rfl, ?_⟩
      | refine ⟨rfl, ?_⟩
      | refine ⟨_, _, rfl, at_map (by assumption), ?_⟩
      | refine idx_mapX (i := 0) rfl (by assumption) ?_
      | refine idx_map (by omega) (fun x hx => ?_)
      | refine idx_mapX (wrap_dn (by omega) (by omega)) (by assumption) ?_
      | refine idx_mapE (wrap_dn (by omega) (by omega)) (by omega) (fun x hx => ?_)
      | refine idx_mapL (by omega) (by first | assumption | (simp only [LIM]; omega)) (fun x hx => ?_)
      | refine idx_mapI (by omega) (by first | omega | (simp only [List.length_map] at *; omega)) (fun x hx => ?_)
      | refine ⟨_, ldc_cells hupd_at (Nat.le_of_ble_eq_true rfl), ?_⟩
      | refine ⟨_, ldc_cells (by first | assumption | exact zk ‹_› (by omega) | exact zk (zk ‹_› (by omega)) (by omega)) (Nat.le_of_ble_eq_true rfl), ?_⟩
      | (refine ⟨fun hc => ?_, fun hc => ?_⟩ <;> (try simp (disch := omega) only [List.length_map, wrap64] at hc) <;> (try (exfalso; first | contradiction | omega)))
      | (refine ⟨_, slc_to rfl (by first | omega | (simp only [List.length_map] at *; omega)), ?_⟩; rw [map_take'])
      | (refine ⟨_, slc_toI rfl (by omega) (by first | omega | (simp only [List.length_map] at *; omega)), ?_⟩; rw [map_take'])
      | (refine callt (b := [one (vsF _), one (chF _)]) v_impl_TreeSure rfl ⟨(_, _), rfl, (by refine ⟨?_, ?_⟩ <;> (first | assumption | exact LawB.code ‹_› (by omega) | exact fit16 (DrV.get ‹_› ‹_›) | exact DrV.fit ‹_› | exact DrV.lt ‹_› | exact (by assumption : ∀ c : List It, c ∈ _ → c.length ≤ LIM) _ (List.mem_of_getElem? (by assumption)) | exact FitVs.get ‹_› ‹_› | exact FitVs.get hp1 ‹_› | exact FitVs.get hp2 ‹_› | (refine FitVs.get ?_ hx; assumption) | exact FitVs.take ‹_› _ | exact FitCs.take ‹_› _ | exact FitV.len ‹_› | exact FitVs.len ‹_› | exact BigVs.get ‹_› ‹_› | exact FitCs.get hp1 ‹_› | exact FitCs.get ‹_› ‹_› | omega | (simp only [LIM, FitV, List.length_take, List.length_append, List.length_cons, List.length_nil] at *; omega)))⟩ (.inl rfl) (by first | assumption | omega) (fun r hr => K_impl_TreeSure (a := (_, _)) hr) (fun hj => ?_) (fun hj => ?_) <;> (try simp only [etaPa, etaIt, etaVo] at hj) <;> (try contradiction))
      | (refine callt (b := [one (csF _), one (chF _)]) v_laws_lwAmong rfl ⟨(_, _), rfl, (by refine ⟨?_, ?_⟩ <;> (first | assumption | exact LawB.code ‹_› (by omega) | exact fit16 (DrV.get ‹_› ‹_›) | exact DrV.fit ‹_› | exact DrV.lt ‹_› | exact (by assumption : ∀ c : List It, c ∈ _ → c.length ≤ LIM) _ (List.mem_of_getElem? (by assumption)) | exact FitVs.get ‹_› ‹_› | exact FitVs.get hp1 ‹_› | exact FitVs.get hp2 ‹_› | (refine FitVs.get ?_ hx; assumption) | exact FitVs.take ‹_› _ | exact FitCs.take ‹_› _ | exact FitV.len ‹_› | exact FitVs.len ‹_› | exact BigVs.get ‹_› ‹_› | exact FitCs.get hp1 ‹_› | exact FitCs.get ‹_› ‹_› | omega | (simp only [LIM, FitV, List.length_take, List.length_append, List.length_cons, List.length_nil] at *; omega)))⟩ (.inl rfl) (by first | assumption | omega) (fun r hr => K_laws_lwAmong (a := (_, _)) hr) (fun hj => ?_) (fun hj => ?_) <;> (try simp only [etaPa, etaIt, etaVo] at hj) <;> (try contradiction))
      | (refine ⟨⟨i + 1, ⟨rfl, rfl, congrArg I (wrap_up (n := l.length) (by omega) (hfl.1)), trivial⟩, (by omega), (by trivial), (by omega), (by first | rfl | assumption | ((repeat (refine zk ?_ (by first | omega | decide | (simp only [List.length_cons, List.length_nil]; omega)))); first | assumption | rfl)), (by first | assumption | omega)⟩, ?_⟩; show l.length - ix (I _) < l.length - ix (I _); simp only [wrap_up (n := l.length) (i := i) (by omega) (hfl.1), ix, Int.toNat_natCast]; omega)
      | exact ⟨⟨_, rfl, rfl, code, rfl, (by unfold R_laws_FnAllSure; dsimp only; first | done | exact absurd True.intro hj | (first | rfl | (exfalso; first | contradiction | exact hj ((hA3 hx).1 (by assumption)) | exact absurd ((hA3 hx).2 hj) (by assumption))))⟩, (by first | exact Nat.le_refl _ | omega), (by first | rfl | assumption | ((repeat (refine zk ?_ (by first | omega | decide | (simp only [List.length_cons, List.length_nil]; omega)))); first | assumption | rfl))⟩
      | fail)
  · skip
    repeat' ((conv => whnf); first
      | refine ⟨_, rfl, ?_⟩
      | refine ⟨rfl, ?_⟩
      | refine ⟨_, _, rfl, at_map (by assumption), ?_⟩
      | refine idx_mapX (i := 0) rfl (by assumption) ?_
      | refine idx_map (by omega) (fun x hx => ?_)
      | refine idx_mapX (wrap_dn (by omega) (by omega)) (by assumption) ?_
      | refine idx_mapE (wrap_dn (by omega) (by omega)) (by omega) (fun x hx => ?_)
      | refine idx_mapL (by omega) (by first | assumption | (simp only [LIM]; omega)) (fun x hx => ?_)
      | refine idx_mapI (by omega) (by first | omega | (simp only [List.length_map] at *; omega)) (fun x hx => ?_)
      | refine ⟨_, ldc_cells hupd_at (Nat.le_of_ble_eq_true rfl), ?_⟩
      | refine ⟨_, ldc_cells (by first | assumption | exact zk ‹_› (by omega) | exact zk (zk ‹_› (by omega)) (by omega)) (Nat.le_of_ble_eq_true rfl), ?_⟩
      | (refine ⟨fun hc => ?_, fun hc => ?_⟩ <;> (try simp (disch := omega) only [List.length_map, wrap64] at hc) <;> (try (exfalso; first | contradiction | omega)))
      | (refine ⟨_, slc_to rfl (by first | omega | (simp only [List.length_map] at *; omega)), ?_⟩; rw [map_take'])
      | (refine ⟨_, slc_toI rfl (by omega) (by first | omega | (simp only [List.length_map] at *; omega)), ?_⟩; rw [map_take'])
      | (refine calle (b := [one (vsF _)]) v_impl_TreeAll rfl ⟨_, rfl, (by refine ⟨?_, ?_⟩ <;> (first | assumption | exact LawB.code ‹_› (by omega) | exact fit16 (DrV.get ‹_› ‹_›) | exact DrV.fit ‹_› | exact DrV.lt ‹_› | exact (by assumption : ∀ c : List It, c ∈ _ → c.length ≤ LIM) _ (List.mem_of_getElem? (by assumption)) | exact FitVs.get ‹_› ‹_› | exact FitVs.get hp1 ‹_› | exact FitVs.get hp2 ‹_› | (refine FitVs.get ?_ hx; assumption) | exact FitVs.take ‹_› _ | exact FitCs.take ‹_› _ | exact FitV.len ‹_› | exact FitVs.len ‹_› | exact BigVs.get ‹_› ‹_› | exact FitCs.get hp1 ‹_› | exact FitCs.get ‹_› ‹_› | omega | (simp only [LIM, FitV, List.length_take, List.length_append, List.length_cons, List.length_nil] at *; omega)))⟩ (.inl rfl) (by first | assumption | omega) (fun r hr => K_impl_TreeAll (a := _) hr) ?_)
      | (refine calle (b := [one (vsF _)]) v_spec_TreeAll rfl ⟨_, rfl, (by refine ⟨?_, ?_⟩ <;> (first | assumption | exact LawB.code ‹_› (by omega) | exact fit16 (DrV.get ‹_› ‹_›) | exact DrV.fit ‹_› | exact DrV.lt ‹_› | exact (by assumption : ∀ c : List It, c ∈ _ → c.length ≤ LIM) _ (List.mem_of_getElem? (by assumption)) | exact FitVs.get ‹_› ‹_› | exact FitVs.get hp1 ‹_› | exact FitVs.get hp2 ‹_› | (refine FitVs.get ?_ hx; assumption) | exact FitVs.take ‹_› _ | exact FitCs.take ‹_› _ | exact FitV.len ‹_› | exact FitVs.len ‹_› | exact BigVs.get ‹_› ‹_› | exact FitCs.get hp1 ‹_› | exact FitCs.get ‹_› ‹_› | omega | (simp only [LIM, FitV, List.length_take, List.length_append, List.length_cons, List.length_nil] at *; omega)))⟩ (.inl rfl) (by first | assumption | omega) (fun r hr => K_spec_TreeAll (a := _) hr) ?_)
      | (refine callt (b := [one (vsF _)]) v_spec_VotesOk rfl ⟨_, rfl, (by first | assumption | exact LawB.code ‹_› (by omega) | exact fit16 (DrV.get ‹_› ‹_›) | exact DrV.fit ‹_› | exact DrV.lt ‹_› | exact (by assumption : ∀ c : List It, c ∈ _ → c.length ≤ LIM) _ (List.mem_of_getElem? (by assumption)) | exact FitVs.get ‹_› ‹_› | exact FitVs.get hp1 ‹_› | exact FitVs.get hp2 ‹_› | (refine FitVs.get ?_ hx; assumption) | exact FitVs.take ‹_› _ | exact FitCs.take ‹_› _ | exact FitV.len ‹_› | exact FitVs.len ‹_› | exact BigVs.get ‹_› ‹_› | exact FitCs.get hp1 ‹_› | exact FitCs.get ‹_› ‹_› | omega | (simp only [LIM, FitV, List.length_take, List.length_append, List.length_cons, List.length_nil] at *; omega))⟩ (.inl rfl) (by first | assumption | omega) (fun r hr => K_spec_VotesOk (a := _) hr) (fun hj => ?_) (fun hj => ?_) <;> (try simp only [etaPa, etaIt, etaVo] at hj) <;> (try contradiction))
      | (refine ⟨⟨i + 1, ⟨rfl, rfl, congrArg I (wrap_up (n := l.length) (by omega) (hfl.1)), trivial⟩, (by omega), (by trivial), (by omega), (by first | rfl | assumption | ((repeat (refine zk ?_ (by first | omega | decide | (simp only [List.length_cons, List.length_nil]; omega)))); first | assumption | rfl)), (by first | assumption | omega)⟩, ?_⟩; show l.length - ix (I _) < l.length - ix (I _); simp only [wrap_up (n := l.length) (i := i) (by omega) (hfl.1), ix, Int.toNat_natCast]; omega)
      | exact ⟨⟨_, rfl, rfl, code, rfl, (by unfold R_laws_FnAllSure; dsimp only; first | done | exact absurd True.intro hj | (first | rfl | (exfalso; first | contradiction | grind)))⟩, (by first | exact Nat.le_refl _ | omega), (by first | rfl | assumption | ((repeat (refine zk ?_ (by first | omega | decide | (simp only [List.length_cons, List.length_nil]; omega)))); first | assumption | rfl))⟩
      | fail)
end Av
end Go.Proofs.Ytfkaomigeaileaa
