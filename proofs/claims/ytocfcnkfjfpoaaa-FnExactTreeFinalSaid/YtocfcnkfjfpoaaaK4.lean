/- The walks: votes drawn, some spoilt; the drawing functions of the laws. -/
import Derived.Test.YtocfcnkfjfpoaaaK3
set_option linter.unusedVariables false
set_option linter.unusedSimpArgs false
namespace Go.Proofs.Ytocfcnkfjfpoaaa
namespace Av
open Go.RowKit

theorem cost_Spoilt : S_spec_l71Spoilt.cost = 6000 := rfl
theorem cost_Some : S_spec_l71Some.cost = 7000 := rfl
theorem cost_Open : S_spec_l6Open.cost = 0 := rfl
theorem cost_l1Copy : S_spec_l1Copy.cost = 0 := rfl
theorem fit16 {c : List It} (h : c.length ≤ 16) : c.length ≤ LIM := Nat.le_trans h (by decide)

attribute [local irreducible] Valid ValidM
set_option maxHeartbeats 4000000 in
set_option maxRecDepth 100000 in
theorem v_spec_l71Spoilt : Valid Try.prog n_spec_l71Spoilt S_spec_l71Spoilt := by
  refine valid_of_swp mixed is_spec_l71Spoilt (by rintro _ ⟨a, rfl, _⟩; exact Nat.le_of_ble_eq_true rfl) ?_
  rintro _ rm ⟨b, rfl, hpre⟩ hl
  try dsimp only at hpre
  generalize hE : entH _ = H0
  have hH : H0 0 = some (.rd (byF b)) := by rw [← hE]; rfl
  have hpre0 := hpre
  have hp1 := hpre
  have h1 := cost_pick
  have h2 := cost_Vote
  have h3 := cost_Votes
  have h4 := cost_Spoilt
  have fin : ∀ l : List Vo, l.length ≤ 201 → (∀ v, v ∈ l → v.c.length ≤ 16) → DrV l := fun l h h' => ⟨by omega, h'⟩
  repeat' ((conv => whnf); first
    | refine ⟨_, rfl, ?_⟩
    | refine ⟨rfl, ?_⟩
    | refine ⟨_, _, rfl, at_map (by assumption), ?_⟩
    | refine idx_mapX (i := 0) rfl (by assumption) ?_
    | refine idx_map (by omega) (fun x hx => ?_)
    | refine idx_mapX (wrap_dn (by omega) (by omega)) (by assumption) ?_
    | refine idx_mapE (wrap_dn (by omega) (by omega)) (by omega) (fun x hx => ?_)
    | refine idx_mapL (by omega) (by first | assumption | (simp only [LIM]; omega)) (fun x hx => ?_)
    | refine idx_mapI (by omega) (by first | omega | (simp only [List.length_map] at *; omega)) (fun x hx => ?_)
    | refine ⟨_, ldc_cells hupd_at (Nat.le_of_ble_eq_true rfl), ?_⟩
    | refine ⟨_, ldc_cells (by first | assumption | exact zk ‹_› (by omega) | exact zk (zk ‹_› (by omega)) (by omega)) (Nat.le_of_ble_eq_true rfl), ?_⟩
    | refine ⟨_, _, _, _, ((by exact hk_) : (_ : Option Ob) = _), rfl, at_mapA (by assumption), ?_⟩
    | refine idx_ow (by exact hk_) (by omega) (fun x hx => ?_)
    | refine ⟨_, _, _, _, ((by exact hk_) : (_ : Option Ob) = _), rfl, fill_at (by omega), ?_⟩
    | refine idx_owL (by exact hk_) (by omega) (by simp only [LIM]; omega) (fun x hx => ?_)
    | refine idx_owI (by exact hk_) (by omega) (by first | omega | (simp only [List.length_map] at *; omega)) (fun x hx => ?_)
    | refine ⟨_, ldc_pa (by exact hk_) (at_mapA (by assumption)) (Nat.le_of_ble_eq_true rfl), ?_⟩
    | refine ⟨_, rfl, rfl, _, ((by exact hk_) : (_ : Option Ob) = _), (by exact ap_), ?_⟩
    | refine ⟨_, news_ow hupd_at, newsz_ow hupd_at, _, ((by exact hk_) : (_ : Option Ob) = _), (by exact ap_), ?_⟩
    | refine ⟨_, _, _, ((by exact hk_) : (_ : Option Ob) = _), ?_⟩
    | refine ⟨_, ((by exact hk_) : (_ : Option Ob) = _), ?_⟩
    | refine ⟨(show _ ≤ _ from (by exact ap_)), ?_⟩
    | (refine ⟨fun hc => ?_, fun hc => ?_⟩ <;> (try simp (disch := omega) only [List.length_map, wrap64] at hc))
    | (refine mq_rd (F := voF) (Q := fun l => l.length ≤ 200 ∧ ∀ v, v ∈ l → v.c.length ≤ 16) v_spec_l71Votes (by omega) (by exact hk_) rfl ⟨_, rfl, rfl, (by assumption)⟩ (fun r obs' h => K_spec_l71Votes h) (fun l hl0 => ?_))
    | (refine callrd (by exact hk_) rfl rfl ⟨(_, _), rfl, (by exact pr_)⟩ v_spec_l6Rd_pick (by omega) (fun r hr => ?_); have hj := K_spec_l6Rd_pick (a := (_, _)) hr; clear hr; obtain ⟨k, rfl, hk0, hk1⟩ := hj; dsimp only at hk1; (try simp (disch := omega) only [List.length_map, ncast, wrap64] at hk1))
    | (refine callrd (by exact hk_) rfl rfl ⟨_, rfl, (by exact pr_)⟩ v_spec_l71Vote (by omega) (fun r hr => ?_); have hj := K_spec_l71Vote (a := _) hr; clear hr; obtain ⟨v, rfl, hv⟩ := hj)
    | (exact ⟨⟨[.o (.c (vsF l))], congrArg (fun x => some [AW.o x]) (bor_ow (sh := some 2) (ne_) (fcellss_f voF l)), rfl, b, rfl, (by unfold R_spec_l71Spoilt; exact ⟨l, rfl, fin _ (by omega) (hl0.2)⟩)⟩, (by omega), ne_⟩)
    | (exact ⟨⟨[.o (.c (vsF (l ++ [v])))], congrArg (fun x => some [AW.o x]) (bor_ow (sh := some 2) (hupd_at.trans (arr_snoc (l := l) (x := v) rfl)) (fcellss_f voF (l ++ [v]))), rfl, b, rfl, (by unfold R_spec_l71Spoilt; exact ⟨(l ++ [v]), rfl, fin _ (by simp only [List.length_append, List.length_cons, List.length_nil]; omega) (by intro u hu; rcases List.mem_append.1 hu with hu | hu; exact hl0.2 u hu; rw [List.mem_singleton.1 hu]; first | exact hv | exact hl0.2 _ (List.mem_of_getElem? hx))⟩)⟩, (by omega), ne_⟩)
    | (exact ⟨⟨[.o (.c (vsF (l ++ [x])))], congrArg (fun x => some [AW.o x]) (bor_ow (sh := some 2) (hupd_at.trans (arr_snoc (l := l) (x := x) rfl)) (fcellss_f voF (l ++ [x]))), rfl, b, rfl, (by unfold R_spec_l71Spoilt; exact ⟨(l ++ [x]), rfl, fin _ (by simp only [List.length_append, List.length_cons, List.length_nil]; omega) (by intro u hu; rcases List.mem_append.1 hu with hu | hu; exact hl0.2 u hu; rw [List.mem_singleton.1 hu]; first | exact hv | exact hl0.2 _ (List.mem_of_getElem? hx))⟩)⟩, (by omega), ne_⟩)
    | fail)

end Av
end Go.Proofs.Ytocfcnkfjfpoaaa
