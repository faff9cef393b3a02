/- The walks: a node proposes. -/
import Derived.Test.YtdboofnogabefaaJ50
import Derived.Test.YtdboofnogabefaaZC
import Derived.Test.YtdboofnogabefaaJ45
import Derived.Test.YtdboofnogabefaaNH
set_option linter.unusedVariables false
set_option linter.unusedSimpArgs false
namespace Go.Proofs.Ytdboofnogabefaa
namespace Av
open Go.RowKit
attribute [local irreducible] Valid ValidM
set_option maxHeartbeats 4000000 in
set_option maxRecDepth 100000 in
theorem v_impl_Node_propose : Valid Try.prog n_impl_Node_propose S_impl_Node_propose := by
  refine valid_of_swp mixed is_impl_Node_propose (by rintro _ ⟨a, rfl, _⟩; exact Nat.le_of_ble_eq_true rfl) ?_
  rintro _ rm ⟨⟨n, p⟩, rfl, hpre⟩ hl
  try dsimp only at hpre
  have hpre0 := hpre
  have hp1 := hpre
  have hseen := hp1.2.2.2.1
  have hep : In n.ep 0 30 := hp1.2.1
  have hep2 : In n.ep 0 100 := ⟨hep.1, Int.le_trans hep.2 (by decide)⟩
  have hV : VotesOk n.seen := hp1.2.2.2.2.1
  have hfs : FitVs n.seen := hp1.fit
  have hSM : n.seen.length ≤ SM := by simp only [SM]; omega
  have htl : (tip n.seen).length ≤ 16 := by rw [← tipM_eq hV]; exact tipM_len fun u hu => (hV.ok' hu).2.2.2
  obtain ⟨C, hC⟩ : ∃ C, C = tip n.seen ++ [⟨n.ep, p⟩] := ⟨_, rfl⟩
  have hCl : C.length ≤ LIM := by rw [hC, List.length_append, List.length_singleton]; simp only [LIM]; omega
  have hno : ∀ h : ¬ (mayN n ∧ lead n.ep = n.id ∧ ChainOk C), propN false n p = (n, zVo, false) := fun h => by
    unfold propN; rw [tb_neg (by show ¬ (mayN n ∧ lead n.ep = n.id ∧ ChainOk (tip n.seen ++ [⟨n.ep, p⟩])); rw [← hC]; exact h)]; rfl
  repeat' ((conv => whnf); first
    | refine OQ.mk1 (ar := [one (vsF n.seen)]) rfl ⟨n.seen, rfl, hfs, hSM⟩ vO_impl_votes_tip (so_impl_votes_tip _) ?_
    | refine ⟨_, rfl, ?_⟩
    | refine ⟨rfl, ?_⟩
    | refine ⟨_, ldc_cells hupd_at (Nat.le_of_ble_eq_true rfl), ?_⟩
    | refine ⟨_, ldc_cells (by first | assumption | exact zk ‹_› (by omega) | exact zk (zk ‹_› (by omega)) (by omega)) (Nat.le_of_ble_eq_true rfl), ?_⟩
    | refine ⟨_, _, hupd_at, rfl, rfl, Nat.le_of_ble_eq_true rfl, ?_⟩
    | refine ⟨_, _, rfl, rfl, rfl, Nat.le_of_ble_eq_true rfl, ?_⟩
    | (refine ⟨?_, _, (?_ : (_ : Option Ob) = _), rfl, rfl, ?_, ?_⟩; rotate_left; (exact hk_); exact Nat.le_of_ble_eq_true rfl)
    | refine ⟨_, _, _, _, ((by exact hk_) : (_ : Option Ob) = _), fill_at (by omega), rfl, rfl, Nat.le_of_ble_eq_true rfl, ?_⟩
    | refine ⟨_, _, _, _, ((by exact hk_) : (_ : Option Ob) = _), at_mapA (by assumption), rfl, rfl, Nat.le_of_ble_eq_true rfl, ?_⟩
    | refine ⟨_, ldc_pa (by exact hk_) (at_mapA (by assumption)) (Nat.le_of_ble_eq_true rfl), ?_⟩
    | refine ⟨_, rfl, rfl, _, ((by exact hk_) : (_ : Option Ob) = _), (by exact ap_), ?_⟩
    | refine ⟨_, news_ow hupd_at, newsz_ow hupd_at, _, ((by exact hk_) : (_ : Option Ob) = _), (by exact ap_), ?_⟩
    | refine ⟨_, ((by exact hk_) : (_ : Option Ob) = _), ?_⟩
    | refine ⟨(show _ ≤ _ from (by exact ap_)), ?_⟩
    | (refine ⟨fun hc => ?_, fun hc => ?_⟩ <;> (try simp (disch := omega) only [List.length_map, wrap64] at hc))
    | fail)
  refine .inl ⟨_, _, _, _, _, rfl, hupd_at.trans (by rw [hC]; exact arr_snoc rfl), fcellss_f itF C, .inr ?_⟩
  by_cases h1 : mayN n
  · have hle : leadV n.ep = lead n.ep := leadV_in h1.1 hep.2
    by_cases h2 : lead n.ep = n.id
    · by_cases h3 : ChainOk C
      · have e3 : propN false n p = voteN n C := by
          unfold propN; rw [tb_pos (by show mayN n ∧ lead n.ep = n.id ∧ ChainOk (tip n.seen ++ [⟨n.ep, p⟩]); rw [← hC]; exact ⟨h1, h2, h3⟩)]
          show voteN n (tip n.seen ++ [⟨n.ep, p⟩]) = _; rw [hC]
        repeat' ((conv => whnf); first
          | refine ⟨_, rfl, ?_⟩
          | refine ⟨rfl, ?_⟩
          | refine ⟨_, ldc_cells hupd_at (Nat.le_of_ble_eq_true rfl), ?_⟩
          | refine ⟨_, ldc_cells (by first | assumption | exact zk ‹_› (by omega) | exact zk (zk ‹_› (by omega)) (by omega)) (Nat.le_of_ble_eq_true rfl), ?_⟩
          | refine ⟨_, _, hupd_at, rfl, rfl, Nat.le_of_ble_eq_true rfl, ?_⟩
          | refine ⟨_, _, rfl, rfl, rfl, Nat.le_of_ble_eq_true rfl, ?_⟩
          | (refine ⟨?_, _, (?_ : (_ : Option Ob) = _), rfl, rfl, ?_, ?_⟩; rotate_left; (exact hk_); exact Nat.le_of_ble_eq_true rfl)
          | refine ⟨_, _, _, _, ((by exact hk_) : (_ : Option Ob) = _), fill_at (by omega), rfl, rfl, Nat.le_of_ble_eq_true rfl, ?_⟩
          | refine ⟨_, _, _, _, ((by exact hk_) : (_ : Option Ob) = _), at_mapA (by assumption), rfl, rfl, Nat.le_of_ble_eq_true rfl, ?_⟩
          | refine ⟨_, ldc_pa (by exact hk_) (at_mapA (by assumption)) (Nat.le_of_ble_eq_true rfl), ?_⟩
          | refine ⟨_, rfl, rfl, _, ((by exact hk_) : (_ : Option Ob) = _), (by exact ap_), ?_⟩
          | refine ⟨_, news_ow hupd_at, newsz_ow hupd_at, _, ((by exact hk_) : (_ : Option Ob) = _), (by exact ap_), ?_⟩
          | refine ⟨_, ((by exact hk_) : (_ : Option Ob) = _), ?_⟩
          | refine ⟨(show _ ≤ _ from (by exact ap_)), ?_⟩
          | (refine ⟨fun hc => ?_, fun hc => ?_⟩ <;> (try simp (disch := omega) only [List.length_map, wrap64] at hc) <;> (try (exfalso; first | contradiction | omega)))
          | (refine callt (b := [agg (ndF ⟨_, _, _, _⟩)]) v_impl_Node_may rfl ⟨⟨_, _, _, _⟩, rfl, (by exact True.intro)⟩ (.inl rfl) (by first | assumption | omega) (fun r hr => K_impl_Node_may (a := ⟨_, _, _, _⟩) hr) (fun hj => ?_) (fun hj => ?_) <;> (try simp only [etaPa, etaIt, etaVo] at hj) <;> (try contradiction))
          | (refine calle (b := [I _]) v_impl_VoteLeader rfl ⟨_, rfl, (by exact pr_)⟩ (.inl rfl) (by first | assumption | omega) (fun r hr => K_impl_VoteLeader (a := _) hr) ?_)
          | (refine callt (b := [one (chF _)]) v_impl_ChainOk rfl ⟨_, rfl, (by exact pr_)⟩ (.inl rfl) (by first | assumption | omega) (fun r hr => K_impl_ChainOk (a := _) hr) (fun hj => ?_) (fun hj => ?_) <;> (try simp only [etaPa, etaIt, etaVo] at hj) <;> (try contradiction))
          | (refine callk (b := [agg (ndF ⟨_, _, _, _⟩), one (chF _)]) v_impl_Node_vote rfl ⟨(⟨_, _, _, _⟩, _), rfl, (by refine ⟨?_, ?_⟩ <;> (exact pr_))⟩ (.inl rfl) (by first | assumption | omega) (fun r hr => ?_); have hj := K_impl_Node_vote (a := (⟨_, _, _, _⟩, _)) hr; clear hr; unfold R_impl_Node_vote at hj; dsimp only at hj; (try simp only [etaNd, etaVo] at hj); (try rw [eO1] at hj); (try rw [eO2] at hj); subst hj)
          | exact ⟨⟨_, rfl, rfl, (n, p), rfl, (by show _ = trip (propN false n p); rw [e3]; rfl)⟩, Nat.le_refl _, h0_⟩
          | fail)
      · have e3 := hno fun h => h3 h.2.2
        repeat' ((conv => whnf); first
          | refine ⟨_, rfl, ?_⟩
          | refine ⟨rfl, ?_⟩
          | refine ⟨_, ldc_cells hupd_at (Nat.le_of_ble_eq_true rfl), ?_⟩
          | refine ⟨_, ldc_cells (by first | assumption | exact zk ‹_› (by omega) | exact zk (zk ‹_› (by omega)) (by omega)) (Nat.le_of_ble_eq_true rfl), ?_⟩
          | refine ⟨_, _, hupd_at, rfl, rfl, Nat.le_of_ble_eq_true rfl, ?_⟩
          | refine ⟨_, _, rfl, rfl, rfl, Nat.le_of_ble_eq_true rfl, ?_⟩
          | (refine ⟨?_, _, (?_ : (_ : Option Ob) = _), rfl, rfl, ?_, ?_⟩; rotate_left; (exact hk_); exact Nat.le_of_ble_eq_true rfl)
          | refine ⟨_, _, _, _, ((by exact hk_) : (_ : Option Ob) = _), fill_at (by omega), rfl, rfl, Nat.le_of_ble_eq_true rfl, ?_⟩
          | refine ⟨_, _, _, _, ((by exact hk_) : (_ : Option Ob) = _), at_mapA (by assumption), rfl, rfl, Nat.le_of_ble_eq_true rfl, ?_⟩
          | refine ⟨_, ldc_pa (by exact hk_) (at_mapA (by assumption)) (Nat.le_of_ble_eq_true rfl), ?_⟩
          | refine ⟨_, rfl, rfl, _, ((by exact hk_) : (_ : Option Ob) = _), (by exact ap_), ?_⟩
          | refine ⟨_, news_ow hupd_at, newsz_ow hupd_at, _, ((by exact hk_) : (_ : Option Ob) = _), (by exact ap_), ?_⟩
          | refine ⟨_, ((by exact hk_) : (_ : Option Ob) = _), ?_⟩
          | refine ⟨(show _ ≤ _ from (by exact ap_)), ?_⟩
          | (refine ⟨fun hc => ?_, fun hc => ?_⟩ <;> (try simp (disch := omega) only [List.length_map, wrap64] at hc) <;> (try (exfalso; first | contradiction | omega)))
          | (refine callt (b := [agg (ndF ⟨_, _, _, _⟩)]) v_impl_Node_may rfl ⟨⟨_, _, _, _⟩, rfl, (by exact True.intro)⟩ (.inl rfl) (by first | assumption | omega) (fun r hr => K_impl_Node_may (a := ⟨_, _, _, _⟩) hr) (fun hj => ?_) (fun hj => ?_) <;> (try simp only [etaPa, etaIt, etaVo] at hj) <;> (try contradiction))
          | (refine calle (b := [I _]) v_impl_VoteLeader rfl ⟨_, rfl, (by exact pr_)⟩ (.inl rfl) (by first | assumption | omega) (fun r hr => K_impl_VoteLeader (a := _) hr) ?_)
          | (refine callt (b := [one (chF _)]) v_impl_ChainOk rfl ⟨_, rfl, (by exact pr_)⟩ (.inl rfl) (by first | assumption | omega) (fun r hr => K_impl_ChainOk (a := _) hr) (fun hj => ?_) (fun hj => ?_) <;> (try simp only [etaPa, etaIt, etaVo] at hj) <;> (try contradiction))
          | exact ⟨⟨_, rfl, rfl, (n, p), rfl, (by show _ = trip (propN false n p); rw [e3]; rfl)⟩, Nat.le_refl _, h0_⟩
          | fail)
    · have e3 := hno fun h => h2 h.2.1
      repeat' ((conv => whnf); first
        | refine ⟨_, rfl, ?_⟩
        | refine ⟨rfl, ?_⟩
        | refine ⟨_, ldc_cells hupd_at (Nat.le_of_ble_eq_true rfl), ?_⟩
        | refine ⟨_, ldc_cells (by first | assumption | exact zk ‹_› (by omega) | exact zk (zk ‹_› (by omega)) (by omega)) (Nat.le_of_ble_eq_true rfl), ?_⟩
        | refine ⟨_, _, hupd_at, rfl, rfl, Nat.le_of_ble_eq_true rfl, ?_⟩
        | refine ⟨_, _, rfl, rfl, rfl, Nat.le_of_ble_eq_true rfl, ?_⟩
        | (refine ⟨?_, _, (?_ : (_ : Option Ob) = _), rfl, rfl, ?_, ?_⟩; rotate_left; (exact hk_); exact Nat.le_of_ble_eq_true rfl)
        | refine ⟨_, _, _, _, ((by exact hk_) : (_ : Option Ob) = _), fill_at (by omega), rfl, rfl, Nat.le_of_ble_eq_true rfl, ?_⟩
        | refine ⟨_, _, _, _, ((by exact hk_) : (_ : Option Ob) = _), at_mapA (by assumption), rfl, rfl, Nat.le_of_ble_eq_true rfl, ?_⟩
        | refine ⟨_, ldc_pa (by exact hk_) (at_mapA (by assumption)) (Nat.le_of_ble_eq_true rfl), ?_⟩
        | refine ⟨_, rfl, rfl, _, ((by exact hk_) : (_ : Option Ob) = _), (by exact ap_), ?_⟩
        | refine ⟨_, news_ow hupd_at, newsz_ow hupd_at, _, ((by exact hk_) : (_ : Option Ob) = _), (by exact ap_), ?_⟩
        | refine ⟨_, ((by exact hk_) : (_ : Option Ob) = _), ?_⟩
        | refine ⟨(show _ ≤ _ from (by exact ap_)), ?_⟩
        | (refine ⟨fun hc => ?_, fun hc => ?_⟩ <;> (try simp (disch := omega) only [List.length_map, wrap64] at hc) <;> (try (exfalso; first | contradiction | omega)))
        | (refine callt (b := [agg (ndF ⟨_, _, _, _⟩)]) v_impl_Node_may rfl ⟨⟨_, _, _, _⟩, rfl, (by exact True.intro)⟩ (.inl rfl) (by first | assumption | omega) (fun r hr => K_impl_Node_may (a := ⟨_, _, _, _⟩) hr) (fun hj => ?_) (fun hj => ?_) <;> (try simp only [etaPa, etaIt, etaVo] at hj) <;> (try contradiction))
        | (refine calle (b := [I _]) v_impl_VoteLeader rfl ⟨_, rfl, (by exact pr_)⟩ (.inl rfl) (by first | assumption | omega) (fun r hr => K_impl_VoteLeader (a := _) hr) ?_)
        | exact ⟨⟨_, rfl, rfl, (n, p), rfl, (by show _ = trip (propN false n p); rw [e3]; rfl)⟩, Nat.le_refl _, h0_⟩
        | fail)
  · have e3 := hno fun h => h1 h.1
    repeat' ((conv => whnf); first
      | refine ⟨_, rfl, ?_⟩
      | refine ⟨rfl, ?_⟩
      | refine ⟨_, ldc_cells hupd_at (Nat.le_of_ble_eq_true rfl), ?_⟩
      | refine ⟨_, ldc_cells (by first | assumption | exact zk ‹_› (by omega) | exact zk (zk ‹_› (by omega)) (by omega)) (Nat.le_of_ble_eq_true rfl), ?_⟩
      | refine ⟨_, _, hupd_at, rfl, rfl, Nat.le_of_ble_eq_true rfl, ?_⟩
      | refine ⟨_, _, rfl, rfl, rfl, Nat.le_of_ble_eq_true rfl, ?_⟩
      | (refine ⟨?_, _, (?_ : (_ : Option Ob) = _), rfl, rfl, ?_, ?_⟩; rotate_left; (exact hk_); exact Nat.le_of_ble_eq_true rfl)
      | refine ⟨_, _, _, _, ((by exact hk_) : (_ : Option Ob) = _), fill_at (by omega), rfl, rfl, Nat.le_of_ble_eq_true rfl, ?_⟩
      | refine ⟨_, _, _, _, ((by exact hk_) : (_ : Option Ob) = _), at_mapA (by assumption), rfl, rfl, Nat.le_of_ble_eq_true rfl, ?_⟩
      | refine ⟨_, ldc_pa (by exact hk_) (at_mapA (by assumption)) (Nat.le_of_ble_eq_true rfl), ?_⟩
      | refine ⟨_, rfl, rfl, _, ((by exact hk_) : (_ : Option Ob) = _), (by exact ap_), ?_⟩
      | refine ⟨_, news_ow hupd_at, newsz_ow hupd_at, _, ((by exact hk_) : (_ : Option Ob) = _), (by exact ap_), ?_⟩
      | refine ⟨_, ((by exact hk_) : (_ : Option Ob) = _), ?_⟩
      | refine ⟨(show _ ≤ _ from (by exact ap_)), ?_⟩
      | (refine ⟨fun hc => ?_, fun hc => ?_⟩ <;> (try simp (disch := omega) only [List.length_map, wrap64] at hc) <;> (try (exfalso; first | contradiction | omega)))
      | (refine callt (b := [agg (ndF ⟨_, _, _, _⟩)]) v_impl_Node_may rfl ⟨⟨_, _, _, _⟩, rfl, (by exact True.intro)⟩ (.inl rfl) (by first | assumption | omega) (fun r hr => K_impl_Node_may (a := ⟨_, _, _, _⟩) hr) (fun hj => ?_) (fun hj => ?_) <;> (try simp only [etaPa, etaIt, etaVo] at hj) <;> (try contradiction))
      | exact ⟨⟨_, rfl, rfl, (n, p), rfl, (by show _ = trip (propN false n p); rw [e3]; rfl)⟩, Nat.le_refl _, h0_⟩
      | fail)
set_option maxHeartbeats 4000000 in
set_option maxRecDepth 100000 in
theorem v_impl_NodePropose : Valid Try.prog n_impl_NodePropose S_impl_NodePropose := by
  refine valid_of_swp mixed is_impl_NodePropose (by rintro _ ⟨a, rfl, _⟩; exact Nat.le_of_ble_eq_true rfl) ?_
  rintro _ rm ⟨⟨n, p⟩, rfl, hpre⟩ hl
  try dsimp only at hpre
  have hpre0 := hpre
  have hp1 := hpre
  by_cases hok : NodeOk n
  · by_cases hpk : PayOk p
    · have e2 : propT n p = propN false n p := by unfold propT; rw [tb_pos ⟨hok, hpk⟩]; rfl
      repeat' ((conv => whnf); first
        | refine ⟨_, rfl, ?_⟩
        | refine ⟨rfl, ?_⟩
        | refine ⟨_, ldc_cells hupd_at (Nat.le_of_ble_eq_true rfl), ?_⟩
        | refine ⟨_, ldc_cells (by first | assumption | exact zk ‹_› (by omega) | exact zk (zk ‹_› (by omega)) (by omega)) (Nat.le_of_ble_eq_true rfl), ?_⟩
        | refine ⟨_, _, hupd_at, rfl, rfl, Nat.le_of_ble_eq_true rfl, ?_⟩
        | refine ⟨_, _, rfl, rfl, rfl, Nat.le_of_ble_eq_true rfl, ?_⟩
        | (refine ⟨fun hc => ?_, fun hc => ?_⟩ <;> (try simp (disch := omega) only [List.length_map, wrap64] at hc) <;> (try (exfalso; first | contradiction | omega)))
        | (refine callt (b := [agg (ndF ⟨_, _, _, _⟩)]) v_impl_NodeOk rfl ⟨⟨_, _, _, _⟩, rfl, (by exact pr_)⟩ (.inl rfl) (by first | assumption | omega) (fun r hr => K_impl_NodeOk (a := ⟨_, _, _, _⟩) hr) (fun hj => ?_) (fun hj => ?_) <;> (try simp only [etaPa, etaIt, etaVo] at hj) <;> (try simp only [etaNd, etaWo] at hj) <;> (try contradiction))
        | (refine callt (b := [agg (paF ⟨_, _, _⟩)]) v_impl_PayOk rfl ⟨⟨_, _, _⟩, rfl, (by exact True.intro)⟩ (.inl rfl) (by first | assumption | omega) (fun r hr => K_impl_PayOk (a := ⟨_, _, _⟩) hr) (fun hj => ?_) (fun hj => ?_) <;> (try simp only [etaPa, etaIt, etaVo] at hj) <;> (try contradiction))
        | (refine calle (b := [agg (ndF ⟨_, _, _, _⟩)]) v_impl_Node_copied rfl ⟨⟨_, _, _, _⟩, rfl, (by exact pr_)⟩ (.inl rfl) (by first | assumption | omega) (fun r hr => K_impl_Node_copied (a := ⟨_, _, _, _⟩) hr) ?_)
        | (refine callk (b := [agg (ndF ⟨_, _, _, _⟩), agg (paF ⟨_, _, _⟩)]) v_impl_Node_propose rfl ⟨(⟨_, _, _, _⟩, ⟨_, _, _⟩), rfl, (by exact pr_)⟩ (.inl rfl) (by first | assumption | omega) (fun r hr => ?_); have hj := K_impl_Node_propose (a := (⟨_, _, _, _⟩, ⟨_, _, _⟩)) hr; clear hr; unfold R_impl_Node_propose at hj; dsimp only at hj; (try simp only [etaNd, etaPa] at hj); (try rw [eO1] at hj); (try rw [eO2] at hj); subst hj)
        | exact ⟨⟨_, rfl, rfl, (n, p), rfl, (by show _ = trip (propT n p); rw [e2]; rfl)⟩, Nat.le_refl _, h0_⟩
        | fail)
    · have e2 : propT n p = (zNd, zVo, false) := by unfold propT; rw [tb_neg fun h => hpk h.2]; rfl
      repeat' ((conv => whnf); first
        | refine ⟨_, rfl, ?_⟩
        | refine ⟨rfl, ?_⟩
        | refine ⟨_, ldc_cells hupd_at (Nat.le_of_ble_eq_true rfl), ?_⟩
        | refine ⟨_, ldc_cells (by first | assumption | exact zk ‹_› (by omega) | exact zk (zk ‹_› (by omega)) (by omega)) (Nat.le_of_ble_eq_true rfl), ?_⟩
        | refine ⟨_, _, hupd_at, rfl, rfl, Nat.le_of_ble_eq_true rfl, ?_⟩
        | refine ⟨_, _, rfl, rfl, rfl, Nat.le_of_ble_eq_true rfl, ?_⟩
        | (refine ⟨fun hc => ?_, fun hc => ?_⟩ <;> (try simp (disch := omega) only [List.length_map, wrap64] at hc) <;> (try (exfalso; first | contradiction | omega)))
        | (refine callt (b := [agg (ndF ⟨_, _, _, _⟩)]) v_impl_NodeOk rfl ⟨⟨_, _, _, _⟩, rfl, (by exact pr_)⟩ (.inl rfl) (by first | assumption | omega) (fun r hr => K_impl_NodeOk (a := ⟨_, _, _, _⟩) hr) (fun hj => ?_) (fun hj => ?_) <;> (try simp only [etaPa, etaIt, etaVo] at hj) <;> (try simp only [etaNd, etaWo] at hj) <;> (try contradiction))
        | (refine callt (b := [agg (paF ⟨_, _, _⟩)]) v_impl_PayOk rfl ⟨⟨_, _, _⟩, rfl, (by exact True.intro)⟩ (.inl rfl) (by first | assumption | omega) (fun r hr => K_impl_PayOk (a := ⟨_, _, _⟩) hr) (fun hj => ?_) (fun hj => ?_) <;> (try simp only [etaPa, etaIt, etaVo] at hj) <;> (try contradiction))
        | exact ⟨⟨_, rfl, rfl, (n, p), rfl, (by show _ = trip (propT n p); rw [e2]; rfl)⟩, Nat.le_refl _, h0_⟩
        | fail)
  · have e2 : propT n p = (zNd, zVo, false) := by unfold propT; rw [tb_neg fun h => hok h.1]; rfl
    repeat' ((conv => whnf); first
      | refine ⟨_, rfl, ?_⟩
      | refine ⟨rfl, ?_⟩
      | refine ⟨_, ldc_cells hupd_at (Nat.le_of_ble_eq_true rfl), ?_⟩
      | refine ⟨_, ldc_cells (by first | assumption | exact zk ‹_› (by omega) | exact zk (zk ‹_› (by omega)) (by omega)) (Nat.le_of_ble_eq_true rfl), ?_⟩
      | refine ⟨_, _, hupd_at, rfl, rfl, Nat.le_of_ble_eq_true rfl, ?_⟩
      | refine ⟨_, _, rfl, rfl, rfl, Nat.le_of_ble_eq_true rfl, ?_⟩
      | (refine ⟨fun hc => ?_, fun hc => ?_⟩ <;> (try simp (disch := omega) only [List.length_map, wrap64] at hc) <;> (try (exfalso; first | contradiction | omega)))
      | (refine callt (b := [agg (ndF ⟨_, _, _, _⟩)]) v_impl_NodeOk rfl ⟨⟨_, _, _, _⟩, rfl, (by exact pr_)⟩ (.inl rfl) (by first | assumption | omega) (fun r hr => K_impl_NodeOk (a := ⟨_, _, _, _⟩) hr) (fun hj => ?_) (fun hj => ?_) <;> (try simp only [etaPa, etaIt, etaVo] at hj) <;> (try simp only [etaNd, etaWo] at hj) <;> (try contradiction))
      | (refine callt (b := [agg (paF ⟨_, _, _⟩)]) v_impl_PayOk rfl ⟨⟨_, _, _⟩, rfl, (by exact True.intro)⟩ (.inl rfl) (by first | assumption | omega) (fun r hr => K_impl_PayOk (a := ⟨_, _, _⟩) hr) (fun hj => ?_) (fun hj => ?_) <;> (try simp only [etaPa, etaIt, etaVo] at hj) <;> (try contradiction))
      | exact ⟨⟨_, rfl, rfl, (n, p), rfl, (by show _ = trip (propT n p); rw [e2]; rfl)⟩, Nat.le_refl _, h0_⟩
      | fail)
end Av
end Go.Proofs.Ytdboofnogabefaa
