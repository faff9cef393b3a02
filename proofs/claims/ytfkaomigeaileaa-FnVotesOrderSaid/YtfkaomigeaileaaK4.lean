/- The walks: votes drawn, some spoilt; the drawing functions of the laws. -/
import Derived.Test.YtfkaomigeaileaaK3
set_option linter.unusedVariables false
set_option linter.unusedSimpArgs false
namespace Go.Proofs.Ytfkaomigeaileaa
namespace Av
open Go.RowKit

theorem cost_Spoilt : S_spec_l71Spoilt.cost = 6000 := rfl
theorem cost_Some : S_spec_l71Some.cost = 7000 := rfl
theorem cost_Open : S_spec_l6Open.cost = 0 := rfl
theorem cost_l1Copy : S_spec_l1Copy.cost = 0 := rfl
theorem fit16 {c : List It} (h : c.length ≤ 16) : c.length ≤ LIM := Nat.le_trans h (by decide)

attribute [local irreducible] Valid ValidM
set_option maxHeartbeats 4000000 in
set_option maxRecDepth 100000 in
theorem v_spec_l71Spoilt : Valid Try.prog n_spec_l71Spoilt S_spec_l71Spoilt := by
  refine valid_of_swp mixed is_spec_l71Spoilt (by rintro _ ⟨a, rfl, _⟩; exact Nat.le_of_ble_eq_true rfl) ?_
  rintro _ rm ⟨b, rfl, hpre⟩ hl
  try dsimp only at hpre
  generalize hE : entH _ = H0
  have hH : H0 0 = some (.rd (byF b)) := by rw [← hE]; rfl
  have hpre0 := hpre
  have hp1 := hpre
  have h1 := cost_pick
  have h2 := cost_Vote
  have h3 := cost_Votes
  have h4 := cost_Spoilt
  have fin : ∀ l : List Vo, l.length ≤ 201 → (∀ v, v ∈ l → v.c.length ≤ 16) → DrV l := fun l h h' => ⟨by omega, h'⟩
  repeat' ((conv => whnf); first
    | refine ⟨_, rfl, ?_⟩
    | refine ⟨rfl, ?_⟩
    | refine ⟨_, _, rfl, at_map (by assumption), ?_⟩
    | refine idx_mapX (i := 0) rfl (by assumption) ?_
    | refine idx_map (by omega) (fun x hx => ?_)
    | refine idx_mapX (wrap_dn (by omega) (by omega)) (by assumption) ?_
    | refine idx_mapE (wrap_dn (by omega) (by omega)) (by omega) (fun x hx => ?_)
    | refine idx_mapL (by omega) (by first | assumption | (simp only [LIM]; omega)) (fun x hx => ?_)
    | refine idx_mapI (by omega) (by first | omega | (simp only [List.length_map] at *; omega)) (fun x hx => ?_)
    | refine ⟨_, ldc_cells hupd_at (Nat.le_of_ble_eq_true rfl), ?_⟩
    | refine ⟨_, ldc_cells (by first | assumption | exact zk ‹_› (by omega) | exact zk (zk ‹_› (by omega)) (by omega)) (Nat.le_of_ble_eq_true rfl), ?_⟩
    | refine ⟨_, _, _, _, ((by first | assumption | exact hupd_at | rfl | ((repeat (refine zk ?_ (by first | omega | decide | (simp only [List.length_cons, List.length_nil]; omega)))); first | assumption | exact hupd_at | rfl)) : (_ : Option Ob) = _), rfl, at_mapA (by assumption), ?_⟩
    | refine idx_ow (by first | assumption | exact hupd_at | rfl | ((repeat (refine zk ?_ (by first | omega | decide | (simp only [List.length_cons, List.length_nil]; omega)))); first | assumption | exact hupd_at | rfl)) (by omega) (fun x hx => ?_)
    | refine ⟨_, _, _, _, ((by first | assumption | exact hupd_at | rfl | ((repeat (refine zk ?_ (by first | omega | decide | (simp only [List.length_cons, List.length_nil]; omega)))); first | assumption | exact hupd_at | rfl)) : (_ : Option Ob) = _), rfl, fill_at (by omega), ?_⟩
    | refine idx_owL (by first | assumption | exact hupd_at | rfl | ((repeat (refine zk ?_ (by first | omega | decide | (simp only [List.length_cons, List.length_nil]; omega)))); first | assumption | exact hupd_at | rfl)) (by omega) (by simp only [LIM]; omega) (fun x hx => ?_)
    | refine idx_owI (by first | assumption | exact hupd_at | rfl | ((repeat (refine zk ?_ (by first | omega | decide | (simp only [List.length_cons, List.length_nil]; omega)))); first | assumption | exact hupd_at | rfl)) (by omega) (by first | omega | (simp only [List.length_map] at *; omega)) (fun x hx => ?_)
    | refine ⟨_, ldc_pa (by first | assumption | exact hupd_at | rfl | ((repeat (refine zk ?_ (by first | omega | decide | (simp only [List.length_cons, List.length_nil]; omega)))); first | assumption | exact hupd_at | rfl)) (at_mapA (by assumption)) (Nat.le_of_ble_eq_true rfl), ?_⟩
    | refine ⟨_, rfl, rfl, _, ((by first | assumption | exact hupd_at | rfl | ((repeat (refine zk ?_ (by first | omega | decide | (simp only [List.length_cons, List.length_nil]; omega)))); first | assumption | exact hupd_at | rfl)) : (_ : Option Ob) = _), (by simp only [List.length_map, List.length_take, List.length_append, List.length_cons, List.length_nil] at *; simp only [LIM] at *; omega), ?_⟩
    | refine ⟨_, news_ow hupd_at, newsz_ow hupd_at, _, ((by first | assumption | exact hupd_at | rfl | ((repeat (refine zk ?_ (by first | omega | decide | (simp only [List.length_cons, List.length_nil]; omega)))); first | assumption | exact hupd_at | rfl)) : (_ : Option Ob) = _), (by simp only [List.length_map, List.length_take, List.length_append, List.length_cons, List.length_nil] at *; simp only [LIM] at *; omega), ?_⟩
    | refine ⟨_, _, _, ((by first | assumption | exact hupd_at | rfl | ((repeat (refine zk ?_ (by first | omega | decide | (simp only [List.length_cons, List.length_nil]; omega)))); first | assumption | exact hupd_at | rfl)) : (_ : Option Ob) = _), ?_⟩
    | refine ⟨_, ((by first | assumption | exact hupd_at | rfl | ((repeat (refine zk ?_ (by first | omega | decide | (simp only [List.length_cons, List.length_nil]; omega)))); first | assumption | exact hupd_at | rfl)) : (_ : Option Ob) = _), ?_⟩
    | refine ⟨(show _ ≤ _ from (by simp only [List.length_map, List.length_take, List.length_append, List.length_cons, List.length_nil] at *; simp only [LIM] at *; omega)), ?_⟩
    | (refine ⟨fun hc => ?_, fun hc => ?_⟩ <;> (try simp (disch := omega) only [List.length_map, wrap64] at hc))
    | (refine mq_rd (F := voF) (Q := fun l => l.length ≤ 200 ∧ ∀ v, v ∈ l → v.c.length ≤ 16) v_spec_l71Votes (by omega) (by first | assumption | exact hupd_at | rfl | ((repeat (refine zk ?_ (by first | omega | decide | (simp only [List.length_cons, List.length_nil]; omega)))); first | assumption | exact hupd_at | rfl)) rfl ⟨_, rfl, rfl, (by assumption)⟩ (fun r obs' h => K_spec_l71Votes h) (fun l hl0 => ?_))
    | (refine callrd (by first | assumption | exact hupd_at | rfl | ((repeat (refine zk ?_ (by first | omega | decide | (simp only [List.length_cons, List.length_nil]; omega)))); first | assumption | exact hupd_at | rfl)) rfl rfl ⟨(_, _), rfl, (by first | assumption | exact LawB.code ‹_› (by omega) | exact fit16 (DrV.get ‹_› ‹_›) | exact DrV.fit ‹_› | exact DrV.lt ‹_› | exact (by assumption : ∀ c : List It, c ∈ _ → c.length ≤ LIM) _ (List.mem_of_getElem? (by assumption)) | exact FitVs.get ‹_› ‹_› | exact FitVs.get hp1 ‹_› | exact FitVs.get hp2 ‹_› | (refine FitVs.get ?_ hx; assumption) | exact FitVs.take ‹_› _ | exact FitCs.take ‹_› _ | exact FitV.len ‹_› | exact FitVs.len ‹_› | exact BigVs.get ‹_› ‹_› | exact FitCs.get hp1 ‹_› | exact FitCs.get ‹_› ‹_› | omega | (simp only [LIM, FitV, List.length_take, List.length_append, List.length_cons, List.length_nil] at *; omega))⟩ v_spec_l6Rd_pick (by omega) (fun r hr => ?_); have hj := K_spec_l6Rd_pick (a := (_, _)) hr; clear hr; obtain ⟨k, rfl, hk0, hk1⟩ := hj; dsimp only at hk1; (try simp (disch := omega) only [List.length_map, ncast, wrap64] at hk1))
    | (refine callrd (by first | assumption | exact hupd_at | rfl | ((repeat (refine zk ?_ (by first | omega | decide | (simp only [List.length_cons, List.length_nil]; omega)))); first | assumption | exact hupd_at | rfl)) rfl rfl ⟨_, rfl, (by first | assumption | exact LawB.code ‹_› (by omega) | exact fit16 (DrV.get ‹_› ‹_›) | exact DrV.fit ‹_› | exact DrV.lt ‹_› | exact (by assumption : ∀ c : List It, c ∈ _ → c.length ≤ LIM) _ (List.mem_of_getElem? (by assumption)) | exact FitVs.get ‹_› ‹_› | exact FitVs.get hp1 ‹_› | exact FitVs.get hp2 ‹_› | (refine FitVs.get ?_ hx; assumption) | exact FitVs.take ‹_› _ | exact FitCs.take ‹_› _ | exact FitV.len ‹_› | exact FitVs.len ‹_› | exact BigVs.get ‹_› ‹_› | exact FitCs.get hp1 ‹_› | exact FitCs.get ‹_› ‹_› | omega | (simp only [LIM, FitV, List.length_take, List.length_append, List.length_cons, List.length_nil] at *; omega))⟩ v_spec_l71Vote (by omega) (fun r hr => ?_); have hj := K_spec_l71Vote (a := _) hr; clear hr; obtain ⟨v, rfl, hv⟩ := hj)
    | (exact ⟨⟨[.o (.c (vsF l))], congrArg (fun x => some [AW.o x]) (bor_ow (sh := some 2) ((by (repeat (refine zk ?_ (by first | omega | decide | (simp only [List.length_cons, List.length_nil]; omega)))); first | assumption | exact hupd_at | rfl)) (fcellss_f voF l)), rfl, b, rfl, (by unfold R_spec_l71Spoilt; exact ⟨l, rfl, fin _ (by omega) (hl0.2)⟩)⟩, (by omega), (by (repeat (refine zk ?_ (by first | omega | decide | (simp only [List.length_cons, List.length_nil]; omega)))); first | assumption | exact hupd_at | rfl)⟩)
    | (exact ⟨⟨[.o (.c (vsF (l ++ [v])))], congrArg (fun x => some [AW.o x]) (bor_ow (sh := some 2) (hupd_at.trans (arr_snoc (l := l) (x := v) rfl)) (fcellss_f voF (l ++ [v]))), rfl, b, rfl, (by unfold R_spec_l71Spoilt; exact ⟨(l ++ [v]), rfl, fin _ (by simp only [List.length_append, List.length_cons, List.length_nil]; omega) (by intro u hu; rcases List.mem_append.1 hu with hu | hu; exact hl0.2 u hu; rw [List.mem_singleton.1 hu]; first | exact hv | exact hl0.2 _ (List.mem_of_getElem? hx))⟩)⟩, (by omega), (by (repeat (refine zk ?_ (by first | omega | decide | (simp only [List.length_cons, List.length_nil]; omega)))); first | assumption | exact hupd_at | rfl)⟩)
    | (exact ⟨⟨[.o (.c (vsF (l ++ [x])))], congrArg (fun x => some [AW.o x]) (bor_ow (sh := some 2) (hupd_at.trans (arr_snoc (l := l) (x := x) rfl)) (fcellss_f voF (l ++ [x]))), rfl, b, rfl, (by unfold R_spec_l71Spoilt; exact ⟨(l ++ [x]), rfl, fin _ (by simp only [List.length_append, List.length_cons, List.length_nil]; omega) (by intro u hu; rcases List.mem_append.1 hu with hu | hu; exact hl0.2 u hu; rw [List.mem_singleton.1 hu]; first | exact hv | exact hl0.2 _ (List.mem_of_getElem? hx))⟩)⟩, (by omega), (by (repeat (refine zk ?_ (by first | omega | decide | (simp only [List.length_cons, List.length_nil]; omega)))); first | assumption | exact hupd_at | rfl)⟩)
    | fail)

set_option maxHeartbeats 4000000 in
set_option maxRecDepth 100000 in
theorem v_spec_l71Some : Valid Try.prog n_spec_l71Some S_spec_l71Some := by
  refine valid_of_swp mixed is_spec_l71Some (by rintro _ ⟨a, rfl, _⟩; exact Nat.le_of_ble_eq_true rfl) ?_
  rintro _ rm ⟨b, rfl, hpre⟩ hl
  try dsimp only at hpre
  generalize hE : entH _ = H0
  have hH : H0 0 = some (.rd (byF b)) := by rw [← hE]; rfl
  have hpre0 := hpre
  have hp1 := hpre
  have h1 := cost_pick
  have h2 := cost_Spoilt
  have h3 := cost_Off
  have h4 := cost_Some
  have h5 := cost_l1Copy
  repeat' ((conv => whnf); first
    | refine ⟨_, rfl, ?_⟩
    | refine ⟨rfl, ?_⟩
    | refine ⟨_, _, rfl, at_map (by assumption), ?_⟩
    | refine idx_mapX (i := 0) rfl (by assumption) ?_
    | refine idx_map (by omega) (fun x hx => ?_)
    | refine idx_mapX (wrap_dn (by omega) (by omega)) (by assumption) ?_
    | refine idx_mapE (wrap_dn (by omega) (by omega)) (by omega) (fun x hx => ?_)
    | refine idx_mapL (by omega) (by first | assumption | (simp only [LIM]; omega)) (fun x hx => ?_)
    | refine idx_mapI (by omega) (by first | omega | (simp only [List.length_map] at *; omega)) (fun x hx => ?_)
    | refine ⟨_, ldc_cells hupd_at (Nat.le_of_ble_eq_true rfl), ?_⟩
    | refine ⟨_, ldc_cells (by first | assumption | exact zk ‹_› (by omega) | exact zk (zk ‹_› (by omega)) (by omega)) (Nat.le_of_ble_eq_true rfl), ?_⟩
    | refine ⟨_, _, _, _, ((by first | assumption | exact hupd_at | rfl | ((repeat (refine zk ?_ (by first | omega | decide | (simp only [List.length_cons, List.length_nil]; omega)))); first | assumption | exact hupd_at | rfl)) : (_ : Option Ob) = _), rfl, at_mapA (by assumption), ?_⟩
    | refine idx_ow (by first | assumption | exact hupd_at | rfl | ((repeat (refine zk ?_ (by first | omega | decide | (simp only [List.length_cons, List.length_nil]; omega)))); first | assumption | exact hupd_at | rfl)) (by omega) (fun x hx => ?_)
    | refine ⟨_, _, _, _, ((by first | assumption | exact hupd_at | rfl | ((repeat (refine zk ?_ (by first | omega | decide | (simp only [List.length_cons, List.length_nil]; omega)))); first | assumption | exact hupd_at | rfl)) : (_ : Option Ob) = _), rfl, fill_at (by omega), ?_⟩
    | refine idx_owL (by first | assumption | exact hupd_at | rfl | ((repeat (refine zk ?_ (by first | omega | decide | (simp only [List.length_cons, List.length_nil]; omega)))); first | assumption | exact hupd_at | rfl)) (by omega) (by simp only [LIM]; omega) (fun x hx => ?_)
    | refine idx_owI (by first | assumption | exact hupd_at | rfl | ((repeat (refine zk ?_ (by first | omega | decide | (simp only [List.length_cons, List.length_nil]; omega)))); first | assumption | exact hupd_at | rfl)) (by omega) (by first | omega | (simp only [List.length_map] at *; omega)) (fun x hx => ?_)
    | refine ⟨_, ldc_pa (by first | assumption | exact hupd_at | rfl | ((repeat (refine zk ?_ (by first | omega | decide | (simp only [List.length_cons, List.length_nil]; omega)))); first | assumption | exact hupd_at | rfl)) (at_mapA (by assumption)) (Nat.le_of_ble_eq_true rfl), ?_⟩
    | refine ⟨_, _, _, ((by first | assumption | exact hupd_at | rfl | ((repeat (refine zk ?_ (by first | omega | decide | (simp only [List.length_cons, List.length_nil]; omega)))); first | assumption | exact hupd_at | rfl)) : (_ : Option Ob) = _), ?_⟩
    | refine ⟨_, ((by first | assumption | exact hupd_at | rfl | ((repeat (refine zk ?_ (by first | omega | decide | (simp only [List.length_cons, List.length_nil]; omega)))); first | assumption | exact hupd_at | rfl)) : (_ : Option Ob) = _), ?_⟩
    | (refine ⟨fun hc => ?_, fun hc => ?_⟩ <;> (try simp (disch := omega) only [List.length_map, wrap64] at hc))
    | (refine callrd (by first | assumption | exact hupd_at | rfl | ((repeat (refine zk ?_ (by first | omega | decide | (simp only [List.length_cons, List.length_nil]; omega)))); first | assumption | exact hupd_at | rfl)) rfl rfl ⟨_, rfl, (by first | assumption | exact LawB.code ‹_› (by omega) | exact fit16 (DrV.get ‹_› ‹_›) | exact DrV.fit ‹_› | exact DrV.lt ‹_› | exact (by assumption : ∀ c : List It, c ∈ _ → c.length ≤ LIM) _ (List.mem_of_getElem? (by assumption)) | exact FitVs.get ‹_› ‹_› | exact FitVs.get hp1 ‹_› | exact FitVs.get hp2 ‹_› | (refine FitVs.get ?_ hx; assumption) | exact FitVs.take ‹_› _ | exact FitCs.take ‹_› _ | exact FitV.len ‹_› | exact FitVs.len ‹_› | exact BigVs.get ‹_› ‹_› | exact FitCs.get hp1 ‹_› | exact FitCs.get ‹_› ‹_› | omega | (simp only [LIM, FitV, List.length_take, List.length_append, List.length_cons, List.length_nil] at *; omega))⟩ v_spec_l71Spoilt (by omega) (fun r hr => ?_); have hj := K_spec_l71Spoilt (a := _) hr; clear hr; obtain ⟨l, rfl, hdl⟩ := hj)
    | (refine callrd (by first | assumption | exact hupd_at | rfl | ((repeat (refine zk ?_ (by first | omega | decide | (simp only [List.length_cons, List.length_nil]; omega)))); first | assumption | exact hupd_at | rfl)) rfl rfl ⟨(_, _), rfl, (by first | assumption | exact LawB.code ‹_› (by omega) | exact fit16 (DrV.get ‹_› ‹_›) | exact DrV.fit ‹_› | exact DrV.lt ‹_› | exact (by assumption : ∀ c : List It, c ∈ _ → c.length ≤ LIM) _ (List.mem_of_getElem? (by assumption)) | exact FitVs.get ‹_› ‹_› | exact FitVs.get hp1 ‹_› | exact FitVs.get hp2 ‹_› | (refine FitVs.get ?_ hx; assumption) | exact FitVs.take ‹_› _ | exact FitCs.take ‹_› _ | exact FitV.len ‹_› | exact FitVs.len ‹_› | exact BigVs.get ‹_› ‹_› | exact FitCs.get hp1 ‹_› | exact FitCs.get ‹_› ‹_› | omega | (simp only [LIM, FitV, List.length_take, List.length_append, List.length_cons, List.length_nil] at *; omega))⟩ v_spec_l6Rd_pick (by omega) (fun r hr => ?_); have hj := K_spec_l6Rd_pick (a := (_, _)) hr; clear hr; obtain ⟨k, rfl, hk0, hk1⟩ := hj; dsimp only at hk1; (try simp (disch := omega) only [List.length_map, ncast, wrap64] at hk1))
    | (refine mq_rd (F := itF) (Q := fun c => c.length ≤ 7) v_spec_l71Off (by omega) (by first | assumption | exact hupd_at | rfl | ((repeat (refine zk ?_ (by first | omega | decide | (simp only [List.length_cons, List.length_nil]; omega)))); first | assumption | exact hupd_at | rfl)) rfl ⟨_, rfl, rfl, (by assumption)⟩ (fun r obs' h => rdItM_post h) (fun c hc => ?_))
    | (refine calle (b := [one (chF _)]) v_spec_l1Copy rfl ⟨_, rfl, (by first | assumption | exact LawB.code ‹_› (by omega) | exact fit16 (DrV.get ‹_› ‹_›) | exact DrV.fit ‹_› | exact DrV.lt ‹_› | exact (by assumption : ∀ c : List It, c ∈ _ → c.length ≤ LIM) _ (List.mem_of_getElem? (by assumption)) | exact FitVs.get ‹_› ‹_› | exact FitVs.get hp1 ‹_› | exact FitVs.get hp2 ‹_› | (refine FitVs.get ?_ hx; assumption) | exact FitVs.take ‹_› _ | exact FitCs.take ‹_› _ | exact FitV.len ‹_› | exact FitVs.len ‹_› | exact BigVs.get ‹_› ‹_› | exact FitCs.get hp1 ‹_› | exact FitCs.get ‹_› ‹_› | omega | (simp only [LIM, FitV, List.length_take, List.length_append, List.length_cons, List.length_nil] at *; omega))⟩ (.inl rfl) (by first | assumption | omega) (fun r hr => K_spec_l1Copy (a := _) hr) ?_)
    | (exact ⟨⟨_, rfl, rfl, b, rfl, (by unfold R_spec_l71Some; exact ⟨_, _, rfl, hdl, DrV.get hdl hx⟩)⟩, (by omega), (by (repeat (refine zk ?_ (by first | omega | decide | (simp only [List.length_cons, List.length_nil]; omega)))); first | assumption | exact hupd_at | rfl)⟩)
    | (exact ⟨⟨[.o (.c (vsF l)), .o (.c (chF c))], congrArg (fun x => some [AW.o (.c (vsF l)), AW.o x]) (bor_ow (sh := some 4) (by (repeat (refine zk ?_ (by first | omega | decide | (simp only [List.length_cons, List.length_nil]; omega)))); first | assumption | exact hupd_at | rfl) (fcellss_f itF c)), rfl, b, rfl, (by unfold R_spec_l71Some; exact ⟨_, _, rfl, hdl, by omega⟩)⟩, (by omega), (by (repeat (refine zk ?_ (by first | omega | decide | (simp only [List.length_cons, List.length_nil]; omega)))); first | assumption | exact hupd_at | rfl)⟩)
    | fail)

set_option maxHeartbeats 4000000 in
set_option maxRecDepth 100000 in
theorem v_spec_DrawTreeAll : Valid Try.prog n_spec_DrawTreeAll S_spec_DrawTreeAll := by
  refine valid_of_swp mixed is_spec_DrawTreeAll (by rintro _ ⟨a, rfl, _⟩; exact Nat.le_of_ble_eq_true rfl) ?_
  rintro _ rm ⟨code, rfl, hpre⟩ hl
  try dsimp only at hpre
  have hpre0 := hpre
  have hp1 := hpre
  have h1 := cost_Open
  have h2 := cost_Spoilt
  have h3 : S_spec_DrawTreeAll.cost = 10000 := rfl
  repeat' ((conv => whnf); first
    | refine ⟨_, rfl, ?_⟩
    | refine ⟨rfl, ?_⟩
    | refine ⟨_, ((by first | assumption | exact hupd_at | rfl | ((repeat (refine zk ?_ (by first | omega | decide | (simp only [List.length_cons, List.length_nil]; omega)))); first | assumption | exact hupd_at | rfl)) : (_ : Option Ob) = _), ?_⟩
    | (refine ⟨fun hc => ?_, fun hc => ?_⟩ <;> (try simp (disch := omega) only [List.length_map, wrap64] at hc))
    | (refine mq_open (Q := fun g => ∃ b, g = byF b ∧ RdOk b) (ar := [one (byF _)]) v_spec_l6Open (by first | assumption | omega) rfl rfl ⟨_, rfl, rfl, (by assumption)⟩ (fun r obs' h => by obtain ⟨b, h1, h2, h3⟩ := K_spec_l6Open h; exact ⟨byF b, h1, h2, b, rfl, h3⟩) (fun g hg => ?_); obtain ⟨b, rfl, hrd⟩ := hg)
    | (refine callrd (by first | assumption | exact hupd_at | rfl | ((repeat (refine zk ?_ (by first | omega | decide | (simp only [List.length_cons, List.length_nil]; omega)))); first | assumption | exact hupd_at | rfl)) rfl rfl ⟨_, rfl, (by first | assumption | exact LawB.code ‹_› (by omega) | exact fit16 (DrV.get ‹_› ‹_›) | exact DrV.fit ‹_› | exact DrV.lt ‹_› | exact (by assumption : ∀ c : List It, c ∈ _ → c.length ≤ LIM) _ (List.mem_of_getElem? (by assumption)) | exact FitVs.get ‹_› ‹_› | exact FitVs.get hp1 ‹_› | exact FitVs.get hp2 ‹_› | (refine FitVs.get ?_ hx; assumption) | exact FitVs.take ‹_› _ | exact FitCs.take ‹_› _ | exact FitV.len ‹_› | exact FitVs.len ‹_› | exact BigVs.get ‹_› ‹_› | exact FitCs.get hp1 ‹_› | exact FitCs.get ‹_› ‹_› | omega | (simp only [LIM, FitV, List.length_take, List.length_append, List.length_cons, List.length_nil] at *; omega))⟩ v_spec_l71Spoilt (by omega) (fun r hr => ?_); have hj := K_spec_l71Spoilt (a := _) hr; clear hr; obtain ⟨l, rfl, hdl⟩ := hj)
    | exact ⟨⟨_, rfl, rfl, code, rfl, (by unfold R_spec_DrawTreeAll; dsimp only; first | done | exact absurd True.intro hj | (exact ⟨_, rfl, hdl⟩))⟩, (by first | exact Nat.le_refl _ | omega), (by first | rfl | assumption | ((repeat (refine zk ?_ (by first | omega | decide | (simp only [List.length_cons, List.length_nil]; omega)))); first | assumption | rfl))⟩
    | fail)
set_option maxHeartbeats 4000000 in
set_option maxRecDepth 100000 in
theorem v_spec_DrawTreeSure : Valid Try.prog n_spec_DrawTreeSure S_spec_DrawTreeSure := by
  refine valid_of_swp mixed is_spec_DrawTreeSure (by rintro _ ⟨a, rfl, _⟩; exact Nat.le_of_ble_eq_true rfl) ?_
  rintro _ rm ⟨code, rfl, hpre⟩ hl
  try dsimp only at hpre
  have hpre0 := hpre
  have hp1 := hpre
  have h1 := cost_Open
  have h2 := cost_Some
  have h3 : S_spec_DrawTreeSure.cost = 10000 := rfl
  repeat' ((conv => whnf); first
    | refine ⟨_, rfl, ?_⟩
    | refine ⟨rfl, ?_⟩
    | refine ⟨_, ((by first | assumption | exact hupd_at | rfl | ((repeat (refine zk ?_ (by first | omega | decide | (simp only [List.length_cons, List.length_nil]; omega)))); first | assumption | exact hupd_at | rfl)) : (_ : Option Ob) = _), ?_⟩
    | (refine ⟨fun hc => ?_, fun hc => ?_⟩ <;> (try simp (disch := omega) only [List.length_map, wrap64] at hc))
    | (refine mq_open (Q := fun g => ∃ b, g = byF b ∧ RdOk b) (ar := [one (byF _)]) v_spec_l6Open (by first | assumption | omega) rfl rfl ⟨_, rfl, rfl, (by assumption)⟩ (fun r obs' h => by obtain ⟨b, h1, h2, h3⟩ := K_spec_l6Open h; exact ⟨byF b, h1, h2, b, rfl, h3⟩) (fun g hg => ?_); obtain ⟨b, rfl, hrd⟩ := hg)
    | (refine callrd (by first | assumption | exact hupd_at | rfl | ((repeat (refine zk ?_ (by first | omega | decide | (simp only [List.length_cons, List.length_nil]; omega)))); first | assumption | exact hupd_at | rfl)) rfl rfl ⟨_, rfl, (by first | assumption | exact LawB.code ‹_› (by omega) | exact fit16 (DrV.get ‹_› ‹_›) | exact DrV.fit ‹_› | exact DrV.lt ‹_› | exact (by assumption : ∀ c : List It, c ∈ _ → c.length ≤ LIM) _ (List.mem_of_getElem? (by assumption)) | exact FitVs.get ‹_› ‹_› | exact FitVs.get hp1 ‹_› | exact FitVs.get hp2 ‹_› | (refine FitVs.get ?_ hx; assumption) | exact FitVs.take ‹_› _ | exact FitCs.take ‹_› _ | exact FitV.len ‹_› | exact FitVs.len ‹_› | exact BigVs.get ‹_› ‹_› | exact FitCs.get hp1 ‹_› | exact FitCs.get ‹_› ‹_› | omega | (simp only [LIM, FitV, List.length_take, List.length_append, List.length_cons, List.length_nil] at *; omega))⟩ v_spec_l71Some (by omega) (fun r hr => ?_); have hj := K_spec_l71Some (a := _) hr; clear hr; obtain ⟨l, c, rfl, hdl, hdc⟩ := hj)
    | exact ⟨⟨_, rfl, rfl, code, rfl, (by unfold R_spec_DrawTreeSure; dsimp only; first | done | exact absurd True.intro hj | (exact ⟨_, _, rfl, hdl, hdc⟩))⟩, (by first | exact Nat.le_refl _ | omega), (by first | rfl | assumption | ((repeat (refine zk ?_ (by first | omega | decide | (simp only [List.length_cons, List.length_nil]; omega)))); first | assumption | rfl))⟩
    | fail)
set_option maxHeartbeats 4000000 in
set_option maxRecDepth 100000 in
theorem v_spec_DrawVoteOk : Valid Try.prog n_spec_DrawVoteOk S_spec_DrawVoteOk := by
  refine valid_of_swp mixed is_spec_DrawVoteOk (by rintro _ ⟨a, rfl, _⟩; exact Nat.le_of_ble_eq_true rfl) ?_
  rintro _ rm ⟨code, rfl, hpre⟩ hl
  try dsimp only at hpre
  have hpre0 := hpre
  have hp1 := hpre
  have h1 := cost_Open
  have h2 := cost_Vote
  have h3 : S_spec_DrawVoteOk.cost = 10000 := rfl
  repeat' ((conv => whnf); first
    | refine ⟨_, rfl, ?_⟩
    | refine ⟨rfl, ?_⟩
    | refine ⟨_, _, hupd_at, rfl, rfl, Nat.le_of_ble_eq_true rfl, ?_⟩
    | refine ⟨_, _, rfl, rfl, rfl, Nat.le_of_ble_eq_true rfl, ?_⟩
    | (refine ⟨?_, _, (?_ : (_ : Option Ob) = _), rfl, rfl, ?_, ?_⟩; rotate_left; (first | assumption | exact hupd_at | rfl | ((repeat (refine zk ?_ (by first | omega | decide | (simp only [List.length_cons, List.length_nil]; omega)))); first | assumption | exact hupd_at | rfl)); exact Nat.le_of_ble_eq_true rfl)
    | refine ⟨_, _, _, _, ((by first | assumption | exact hupd_at | rfl | ((repeat (refine zk ?_ (by first | omega | decide | (simp only [List.length_cons, List.length_nil]; omega)))); first | assumption | exact hupd_at | rfl)) : (_ : Option Ob) = _), fill_at (by omega), rfl, rfl, Nat.le_of_ble_eq_true rfl, ?_⟩
    | refine ⟨_, _, _, _, ((by first | assumption | exact hupd_at | rfl | ((repeat (refine zk ?_ (by first | omega | decide | (simp only [List.length_cons, List.length_nil]; omega)))); first | assumption | exact hupd_at | rfl)) : (_ : Option Ob) = _), at_mapA (by assumption), rfl, rfl, Nat.le_of_ble_eq_true rfl, ?_⟩
    | refine ⟨_, ((by first | assumption | exact hupd_at | rfl | ((repeat (refine zk ?_ (by first | omega | decide | (simp only [List.length_cons, List.length_nil]; omega)))); first | assumption | exact hupd_at | rfl)) : (_ : Option Ob) = _), ?_⟩
    | (refine ⟨fun hc => ?_, fun hc => ?_⟩ <;> (try simp (disch := omega) only [List.length_map, wrap64] at hc))
    | (refine mq_open (Q := fun g => ∃ b, g = byF b ∧ RdOk b) (ar := [one (byF _)]) v_spec_l6Open (by first | assumption | omega) rfl rfl ⟨_, rfl, rfl, (by assumption)⟩ (fun r obs' h => by obtain ⟨b, h1, h2, h3⟩ := K_spec_l6Open h; exact ⟨byF b, h1, h2, b, rfl, h3⟩) (fun g hg => ?_); obtain ⟨b, rfl, hrd⟩ := hg)
    | (refine callrd (by first | assumption | exact hupd_at | rfl | ((repeat (refine zk ?_ (by first | omega | decide | (simp only [List.length_cons, List.length_nil]; omega)))); first | assumption | exact hupd_at | rfl)) rfl rfl ⟨_, rfl, (by first | assumption | exact LawB.code ‹_› (by omega) | exact fit16 (DrV.get ‹_› ‹_›) | exact DrV.fit ‹_› | exact DrV.lt ‹_› | exact (by assumption : ∀ c : List It, c ∈ _ → c.length ≤ LIM) _ (List.mem_of_getElem? (by assumption)) | exact FitVs.get ‹_› ‹_› | exact FitVs.get hp1 ‹_› | exact FitVs.get hp2 ‹_› | (refine FitVs.get ?_ hx; assumption) | exact FitVs.take ‹_› _ | exact FitCs.take ‹_› _ | exact FitV.len ‹_› | exact FitVs.len ‹_› | exact BigVs.get ‹_› ‹_› | exact FitCs.get hp1 ‹_› | exact FitCs.get ‹_› ‹_› | omega | (simp only [LIM, FitV, List.length_take, List.length_append, List.length_cons, List.length_nil] at *; omega))⟩ v_spec_l71Vote (by omega) (fun r hr => ?_); have hj := K_spec_l71Vote (a := _) hr; clear hr; obtain ⟨v, rfl, hv⟩ := hj)
    | exact ⟨⟨_, rfl, rfl, code, rfl, (by unfold R_spec_DrawVoteOk; dsimp only; first | done | exact absurd True.intro hj | (exact ⟨_, rfl, hv⟩))⟩, (by first | exact Nat.le_refl _ | omega), (by first | rfl | assumption | ((repeat (refine zk ?_ (by first | omega | decide | (simp only [List.length_cons, List.length_nil]; omega)))); first | assumption | rfl))⟩
    | fail)
set_option maxHeartbeats 4000000 in
set_option maxRecDepth 100000 in
theorem v_spec_DrawVotesAdd : Valid Try.prog n_spec_DrawVotesAdd S_spec_DrawVotesAdd := by
  refine valid_of_swp mixed is_spec_DrawVotesAdd (by rintro _ ⟨a, rfl, _⟩; exact Nat.le_of_ble_eq_true rfl) ?_
  rintro _ rm ⟨code, rfl, hpre⟩ hl
  try dsimp only at hpre
  have hpre0 := hpre
  have hp1 := hpre
  have h1 := cost_Open
  have h2 := cost_Spoilt
  have h3 := cost_Vote
  have h4 := cost_pick
  have h5 : S_spec_DrawVotesAdd.cost = 10000 := rfl
  repeat' ((conv => whnf); first
    | refine ⟨_, rfl, ?_⟩
    | refine ⟨rfl, ?_⟩
    | refine ⟨_, _, rfl, at_map (by assumption), ?_⟩
    | refine idx_mapX (i := 0) rfl (by assumption) ?_
    | refine idx_map (by omega) (fun x hx => ?_)
    | refine idx_mapX (wrap_dn (by omega) (by omega)) (by assumption) ?_
    | refine idx_mapE (wrap_dn (by omega) (by omega)) (by omega) (fun x hx => ?_)
    | refine idx_mapL (by omega) (by first | assumption | (simp only [LIM]; omega)) (fun x hx => ?_)
    | refine idx_mapI (by omega) (by first | omega | (simp only [List.length_map] at *; omega)) (fun x hx => ?_)
    | refine ⟨_, ldc_cells hupd_at (Nat.le_of_ble_eq_true rfl), ?_⟩
    | refine ⟨_, ldc_cells (by first | assumption | exact zk ‹_› (by omega) | exact zk (zk ‹_› (by omega)) (by omega)) (Nat.le_of_ble_eq_true rfl), ?_⟩
    | refine ⟨_, _, hupd_at, rfl, rfl, Nat.le_of_ble_eq_true rfl, ?_⟩
    | refine ⟨_, _, rfl, rfl, rfl, Nat.le_of_ble_eq_true rfl, ?_⟩
    | (refine ⟨?_, _, (?_ : (_ : Option Ob) = _), rfl, rfl, ?_, ?_⟩; rotate_left; (first | assumption | exact hupd_at | rfl | ((repeat (refine zk ?_ (by first | omega | decide | (simp only [List.length_cons, List.length_nil]; omega)))); first | assumption | exact hupd_at | rfl)); exact Nat.le_of_ble_eq_true rfl)
    | refine ⟨_, _, _, _, ((by first | assumption | exact hupd_at | rfl | ((repeat (refine zk ?_ (by first | omega | decide | (simp only [List.length_cons, List.length_nil]; omega)))); first | assumption | exact hupd_at | rfl)) : (_ : Option Ob) = _), rfl, at_mapA (by assumption), ?_⟩
    | refine idx_ow (by first | assumption | exact hupd_at | rfl | ((repeat (refine zk ?_ (by first | omega | decide | (simp only [List.length_cons, List.length_nil]; omega)))); first | assumption | exact hupd_at | rfl)) (by omega) (fun x hx => ?_)
    | refine ⟨_, _, _, _, ((by first | assumption | exact hupd_at | rfl | ((repeat (refine zk ?_ (by first | omega | decide | (simp only [List.length_cons, List.length_nil]; omega)))); first | assumption | exact hupd_at | rfl)) : (_ : Option Ob) = _), rfl, fill_at (by omega), ?_⟩
    | refine ⟨_, _, _, _, ((by first | assumption | exact hupd_at | rfl | ((repeat (refine zk ?_ (by first | omega | decide | (simp only [List.length_cons, List.length_nil]; omega)))); first | assumption | exact hupd_at | rfl)) : (_ : Option Ob) = _), fill_at (by omega), rfl, rfl, Nat.le_of_ble_eq_true rfl, ?_⟩
    | refine idx_owL (by first | assumption | exact hupd_at | rfl | ((repeat (refine zk ?_ (by first | omega | decide | (simp only [List.length_cons, List.length_nil]; omega)))); first | assumption | exact hupd_at | rfl)) (by omega) (by simp only [LIM]; omega) (fun x hx => ?_)
    | refine idx_owI (by first | assumption | exact hupd_at | rfl | ((repeat (refine zk ?_ (by first | omega | decide | (simp only [List.length_cons, List.length_nil]; omega)))); first | assumption | exact hupd_at | rfl)) (by omega) (by first | omega | (simp only [List.length_map] at *; omega)) (fun x hx => ?_)
    | refine ⟨_, _, _, _, ((by first | assumption | exact hupd_at | rfl | ((repeat (refine zk ?_ (by first | omega | decide | (simp only [List.length_cons, List.length_nil]; omega)))); first | assumption | exact hupd_at | rfl)) : (_ : Option Ob) = _), at_mapA (by assumption), rfl, rfl, Nat.le_of_ble_eq_true rfl, ?_⟩
    | refine ⟨_, ldc_pa (by first | assumption | exact hupd_at | rfl | ((repeat (refine zk ?_ (by first | omega | decide | (simp only [List.length_cons, List.length_nil]; omega)))); first | assumption | exact hupd_at | rfl)) (at_mapA (by assumption)) (Nat.le_of_ble_eq_true rfl), ?_⟩
    | refine ⟨_, _, _, ((by first | assumption | exact hupd_at | rfl | ((repeat (refine zk ?_ (by first | omega | decide | (simp only [List.length_cons, List.length_nil]; omega)))); first | assumption | exact hupd_at | rfl)) : (_ : Option Ob) = _), ?_⟩
    | refine ⟨_, ((by first | assumption | exact hupd_at | rfl | ((repeat (refine zk ?_ (by first | omega | decide | (simp only [List.length_cons, List.length_nil]; omega)))); first | assumption | exact hupd_at | rfl)) : (_ : Option Ob) = _), ?_⟩
    | (refine ⟨fun hc => ?_, fun hc => ?_⟩ <;> (try simp (disch := omega) only [List.length_map, wrap64] at hc))
    | (refine mq_open (Q := fun g => ∃ b, g = byF b ∧ RdOk b) (ar := [one (byF _)]) v_spec_l6Open (by first | assumption | omega) rfl rfl ⟨_, rfl, rfl, (by assumption)⟩ (fun r obs' h => by obtain ⟨b, h1, h2, h3⟩ := K_spec_l6Open h; exact ⟨byF b, h1, h2, b, rfl, h3⟩) (fun g hg => ?_); obtain ⟨b, rfl, hrd⟩ := hg)
    | (refine callrd (by first | assumption | exact hupd_at | rfl | ((repeat (refine zk ?_ (by first | omega | decide | (simp only [List.length_cons, List.length_nil]; omega)))); first | assumption | exact hupd_at | rfl)) rfl rfl ⟨_, rfl, (by first | assumption | exact LawB.code ‹_› (by omega) | exact fit16 (DrV.get ‹_› ‹_›) | exact DrV.fit ‹_› | exact DrV.lt ‹_› | exact (by assumption : ∀ c : List It, c ∈ _ → c.length ≤ LIM) _ (List.mem_of_getElem? (by assumption)) | exact FitVs.get ‹_› ‹_› | exact FitVs.get hp1 ‹_› | exact FitVs.get hp2 ‹_› | (refine FitVs.get ?_ hx; assumption) | exact FitVs.take ‹_› _ | exact FitCs.take ‹_› _ | exact FitV.len ‹_› | exact FitVs.len ‹_› | exact BigVs.get ‹_› ‹_› | exact FitCs.get hp1 ‹_› | exact FitCs.get ‹_› ‹_› | omega | (simp only [LIM, FitV, List.length_take, List.length_append, List.length_cons, List.length_nil] at *; omega))⟩ v_spec_l71Spoilt (by omega) (fun r hr => ?_); have hj := K_spec_l71Spoilt (a := _) hr; clear hr; obtain ⟨l, rfl, hdl⟩ := hj)
    | (refine callrd (by first | assumption | exact hupd_at | rfl | ((repeat (refine zk ?_ (by first | omega | decide | (simp only [List.length_cons, List.length_nil]; omega)))); first | assumption | exact hupd_at | rfl)) rfl rfl ⟨_, rfl, (by first | assumption | exact LawB.code ‹_› (by omega) | exact fit16 (DrV.get ‹_› ‹_›) | exact DrV.fit ‹_› | exact DrV.lt ‹_› | exact (by assumption : ∀ c : List It, c ∈ _ → c.length ≤ LIM) _ (List.mem_of_getElem? (by assumption)) | exact FitVs.get ‹_› ‹_› | exact FitVs.get hp1 ‹_› | exact FitVs.get hp2 ‹_› | (refine FitVs.get ?_ hx; assumption) | exact FitVs.take ‹_› _ | exact FitCs.take ‹_› _ | exact FitV.len ‹_› | exact FitVs.len ‹_› | exact BigVs.get ‹_› ‹_› | exact FitCs.get hp1 ‹_› | exact FitCs.get ‹_› ‹_› | omega | (simp only [LIM, FitV, List.length_take, List.length_append, List.length_cons, List.length_nil] at *; omega))⟩ v_spec_l71Vote (by omega) (fun r hr => ?_); have hj := K_spec_l71Vote (a := _) hr; clear hr; obtain ⟨v, rfl, hv⟩ := hj)
    | (refine callrd (by first | assumption | exact hupd_at | rfl | ((repeat (refine zk ?_ (by first | omega | decide | (simp only [List.length_cons, List.length_nil]; omega)))); first | assumption | exact hupd_at | rfl)) rfl rfl ⟨(_, _), rfl, (by first | assumption | exact LawB.code ‹_› (by omega) | exact fit16 (DrV.get ‹_› ‹_›) | exact DrV.fit ‹_› | exact DrV.lt ‹_› | exact (by assumption : ∀ c : List It, c ∈ _ → c.length ≤ LIM) _ (List.mem_of_getElem? (by assumption)) | exact FitVs.get ‹_› ‹_› | exact FitVs.get hp1 ‹_› | exact FitVs.get hp2 ‹_› | (refine FitVs.get ?_ hx; assumption) | exact FitVs.take ‹_› _ | exact FitCs.take ‹_› _ | exact FitV.len ‹_› | exact FitVs.len ‹_› | exact BigVs.get ‹_› ‹_› | exact FitCs.get hp1 ‹_› | exact FitCs.get ‹_› ‹_› | omega | (simp only [LIM, FitV, List.length_take, List.length_append, List.length_cons, List.length_nil] at *; omega))⟩ v_spec_l6Rd_pick (by omega) (fun r hr => ?_); have hj := K_spec_l6Rd_pick (a := (_, _)) hr; clear hr; obtain ⟨k, rfl, hk0, hk1⟩ := hj; dsimp only at hk1; (try simp (disch := omega) only [List.length_map, ncast, wrap64] at hk1))
    | exact ⟨⟨_, rfl, rfl, code, rfl, (by unfold R_spec_DrawVotesAdd; dsimp only; first | done | exact absurd True.intro hj | (first | exact ⟨_, ⟨_, _⟩, rfl, hdl, hv⟩ | exact ⟨_, ⟨IntKind.i64.wrap (1 + k), x.c⟩, rfl, hdl, DrV.get hdl hx⟩))⟩, (by first | exact Nat.le_refl _ | omega), (by first | rfl | assumption | ((repeat (refine zk ?_ (by first | omega | decide | (simp only [List.length_cons, List.length_nil]; omega)))); first | assumption | rfl))⟩
    | fail)
  conv => whnf
  refine ⟨⟨[.o (.c (vsF l)), .g [cI (IntKind.i64.wrap (1 + k)), .c (chF x.c)]], rfl, rfl, code, rfl, ?_⟩, (by omega), (by (repeat (refine zk ?_ (by first | omega | decide | (simp only [List.length_cons, List.length_nil]; omega)))); first | assumption | exact hupd_at | rfl)⟩
  unfold R_spec_DrawVotesAdd
  exact ⟨l, ⟨IntKind.i64.wrap (1 + k), x.c⟩, rfl, hdl, (show x.c.length ≤ 16 from DrV.get hdl hx)⟩
end Av
end Go.Proofs.Ytfkaomigeaileaa
