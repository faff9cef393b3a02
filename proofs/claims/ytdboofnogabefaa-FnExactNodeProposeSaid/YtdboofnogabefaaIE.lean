/- The walks: a node proposes, with memory of its own. -/
import Derived.Test.YtdboofnogabefaaID
set_option linter.unusedVariables false
set_option linter.unusedSimpArgs false
namespace Go.Proofs.Ytdboofnogabefaa
namespace Av
open Go.RowKit
theorem oA_nest {fr : Env} {H : Hp} {x : X} {k b : Nat} {f : Nat → Nat} {l : List Vo} {sh : List (Option Nat)} {fl : Bool} (hfl : fl = true) (hx : ev fr x = .w (.o (.ow k))) (h : nV.At H b k f l) : oArgs fl fr H [(x, sh)] = [one (vsF l)] := by
  subst hfl
  show [borV H sh (ev fr x)] = _
  rw [hx]
  show [AV.w (.o (bor H (sh.headD none) (.ow k)))] = _
  rw [h.bor]; rfl
theorem mem_nks0 {x n : Nat} (h : x ∈ nks 0 (· + 1) n) : x ≤ n := by
  rcases List.mem_cons.1 h with rfl | h
  · exact Nat.zero_le _
  · obtain ⟨j, hj, rfl⟩ := List.mem_map.1 h
    exact List.mem_range.1 hj
theorem nks0_at {i n : Nat} (h : i ≤ n) : (nks 0 (· + 1) n)[i]? = some i := by
  cases i with
  | zero => rfl
  | succ j => exact nks_at (f := (· + 1)) (by omega)
attribute [local irreducible] propN voteN propT
attribute [local irreducible] Valid ValidM
set_option maxHeartbeats 4000000 in
set_option maxRecDepth 100000 in
theorem v_impl_Node_propose_o : ValidM Try.prog n_impl_Node_propose_o S_impl_Node_propose_o := by
  refine validM_of_swp mixed is_impl_Node_propose_o (by rintro _ _ ⟨a, rfl, _⟩; exact Nat.le_of_ble_eq_true rfl) ?_
  rintro _ _ rm ⟨⟨n, p⟩, rfl, rfl, hpre⟩ hl
  try dsimp only at hpre
  have hok : NodeOk n := hpre
  have hA0 := startN (l := n.seen)
  have hEl : (nV.In n.seen).length = n.seen.length + 1 := Nest.In_len
  have c1 : S_impl_Node_propose_o.cost = 0 := rfl
  have c2 : S_impl_Node_vote_o.cost = 0 := rfl
  have hseen := hok.2.2.2.1
  have hep : In n.ep 0 30 := hok.2.1
  have hep2 : In n.ep 0 100 := ⟨hep.1, Int.le_trans hep.2 (by decide)⟩
  have hV : VotesOk n.seen := hok.2.2.2.2.1
  have hfs : FitVs n.seen := hok.fit
  have hSM : n.seen.length ≤ SM := by simp only [SM]; omega
  have htl : (tip n.seen).length ≤ 16 := by rw [← tipM_eq hV]; exact tipM_len fun u hu => (hV.ok' hu).2.2.2
  obtain ⟨C, hC⟩ : ∃ C, C = tip n.seen ++ [⟨n.ep, p⟩] := ⟨_, rfl⟩
  have hCl : C.length ≤ LIM := by rw [hC, List.length_append, List.length_singleton]; simp only [LIM]; omega
  have hno : ∀ h : ¬ (mayN n ∧ lead n.ep = n.id ∧ ChainOk C), propN false n p = (n, zVo, false) := fun h => by
    unfold propN; rw [tb_neg (by show ¬ (mayN n ∧ lead n.ep = n.id ∧ ChainOk (tip n.seen ++ [⟨n.ep, p⟩])); rw [← hC]; exact h)]; rfl
  have cc_impl_Node_may : S_impl_Node_may.cost = 0 := rfl
  have cc_impl_VoteLeader : S_impl_VoteLeader.cost = 0 := rfl
  have cc_impl_ChainOk : S_impl_ChainOk.cost = 0 := rfl
  try dsimp only
  repeat' ((conv => whnf); first
    | refine ⟨_, ldc_cells hk_ (Nat.le_of_ble_eq_true rfl), ?_⟩
    | refine ⟨_, rfl, ?_⟩
    | refine ⟨rfl, ?_⟩
    | refine ⟨_, _, rfl, at_map (by assumption), ?_⟩
    | refine idx_mapX (i := 0) rfl (by assumption) ?_
    | refine idx_map (by omega) (fun x hx => ?_)
    | refine idx_mapX (wrap_dn (by omega) (by omega)) (by assumption) ?_
    | refine idx_mapE (wrap_dn (by omega) (by omega)) (by omega) (fun x hx => ?_)
    | refine idx_mapL (by omega) (by first | assumption | (simp only [LIM]; omega)) (fun x hx => ?_)
    | refine idx_mapI (by omega) (by first | omega | (simp only [List.length_map] at *; omega)) (fun x hx => ?_)
    | refine ⟨_, ldc_cells hupd_at (Nat.le_of_ble_eq_true rfl), ?_⟩
    | refine ⟨_, ldc_cells (by first | assumption | exact zk ‹_› (by omega) | exact zk (zk ‹_› (by omega)) (by omega)) (Nat.le_of_ble_eq_true rfl), ?_⟩
    | refine ⟨_, _, hupd_at, rfl, rfl, Nat.le_of_ble_eq_true rfl, ?_⟩
    | refine ⟨_, _, rfl, rfl, rfl, Nat.le_of_ble_eq_true rfl, ?_⟩
    | (refine ⟨?_, _, (?_ : (_ : Option Ob) = _), rfl, rfl, ?_, ?_⟩; rotate_left; (exact hk_); exact Nat.le_of_ble_eq_true rfl)
    | refine ⟨_, _, _, _, ((by exact hk_) : (_ : Option Ob) = _), rfl, at_mapA (by assumption), ?_⟩
    | refine idx_ow (by exact hk_) (by omega) (fun x hx => ?_)
    | refine ⟨_, _, _, _, ((by exact hk_) : (_ : Option Ob) = _), rfl, fill_at (by omega), ?_⟩
    | refine ⟨_, _, _, _, ((by exact hk_) : (_ : Option Ob) = _), fill_at (by omega), rfl, rfl, Nat.le_of_ble_eq_true rfl, ?_⟩
    | refine idx_owL (by exact hk_) (by omega) (by simp only [LIM]; omega) (fun x hx => ?_)
    | refine idx_owI (by exact hk_) (by omega) (by first | omega | (simp only [List.length_map] at *; omega)) (fun x hx => ?_)
    | refine ⟨_, _, _, _, ((by exact hk_) : (_ : Option Ob) = _), at_mapA (by assumption), rfl, rfl, Nat.le_of_ble_eq_true rfl, ?_⟩
    | refine ⟨_, ldc_pa (by exact hk_) (at_mapA (by assumption)) (Nat.le_of_ble_eq_true rfl), ?_⟩
    | refine ⟨_, rfl, rfl, _, ((by exact hk_) : (_ : Option Ob) = _), (by exact ap_), ?_⟩
    | refine ⟨_, news_ow hupd_at, newsz_ow hupd_at, _, ((by exact hk_) : (_ : Option Ob) = _), (by exact ap_), ?_⟩
    | refine ⟨_, _, _, ((by exact hk_) : (_ : Option Ob) = _), ?_⟩
    | refine ⟨_, ((by exact hk_) : (_ : Option Ob) = _), ?_⟩
    | refine ⟨(show _ ≠ _ from (by first | decide | omega)), ?_⟩
    | refine ⟨(show _ ≤ _ from (by exact ap_)), ?_⟩
    | (refine ⟨fun hc => ?_, fun hc => ?_⟩ <;> (try simp (disch := omega) only [List.length_map, wrap64] at hc))
    | (refine ⟨⟨(by omega), (by omega), (by simp only [List.length_map] at *; simp only [LIM] at *; omega), (by simp only [List.length_map] at *; simp only [LIM] at *; omega)⟩, ?_⟩; (try simp only [List.length_map, Int.toNat_natCast]))
    | (refine ⟨_, slc_to rfl (by first | omega | (simp only [List.length_map] at *; omega)), ?_⟩; rw [map_take'])
    | (refine ⟨_, slc_toI rfl (by omega) (by first | omega | (simp only [List.length_map] at *; omega)), ?_⟩; rw [map_take'])
    | fail)
  refine OQ.mk1 (ar := [one (vsF n.seen)]) (oA_nest rfl rfl (hA0.mono (b' := n.seen.length + 1) (Nat.le_refl _) fun i hi => by (repeat (refine (hupd_ne (by omega)).trans ?_)); rfl)) ⟨n.seen, rfl, hfs, hSM⟩ vO_impl_votes_tip_L (so_impl_votes_tip_L _) ?_
  repeat' ((conv => whnf); first
    | refine ⟨_, ldc_cells hk_ (Nat.le_of_ble_eq_true rfl), ?_⟩
    | refine ⟨_, rfl, ?_⟩
    | refine ⟨rfl, ?_⟩
    | refine ⟨_, _, rfl, at_map (by assumption), ?_⟩
    | refine idx_mapX (i := 0) rfl (by assumption) ?_
    | refine idx_map (by omega) (fun x hx => ?_)
    | refine idx_mapX (wrap_dn (by omega) (by omega)) (by assumption) ?_
    | refine idx_mapE (wrap_dn (by omega) (by omega)) (by omega) (fun x hx => ?_)
    | refine idx_mapL (by omega) (by first | assumption | (simp only [LIM]; omega)) (fun x hx => ?_)
    | refine idx_mapI (by omega) (by first | omega | (simp only [List.length_map] at *; omega)) (fun x hx => ?_)
    | refine ⟨_, ldc_cells hupd_at (Nat.le_of_ble_eq_true rfl), ?_⟩
    | refine ⟨_, ldc_cells (by first | assumption | exact zk ‹_› (by omega) | exact zk (zk ‹_› (by omega)) (by omega)) (Nat.le_of_ble_eq_true rfl), ?_⟩
    | refine ⟨_, _, hupd_at, rfl, rfl, Nat.le_of_ble_eq_true rfl, ?_⟩
    | refine ⟨_, _, rfl, rfl, rfl, Nat.le_of_ble_eq_true rfl, ?_⟩
    | (refine ⟨?_, _, (?_ : (_ : Option Ob) = _), rfl, rfl, ?_, ?_⟩; rotate_left; (exact hk_); exact Nat.le_of_ble_eq_true rfl)
    | refine ⟨_, _, _, _, ((by exact hk_) : (_ : Option Ob) = _), rfl, at_mapA (by assumption), ?_⟩
    | refine idx_ow (by exact hk_) (by omega) (fun x hx => ?_)
    | refine ⟨_, _, _, _, ((by exact hk_) : (_ : Option Ob) = _), rfl, fill_at (by omega), ?_⟩
    | refine ⟨_, _, _, _, ((by exact hk_) : (_ : Option Ob) = _), fill_at (by omega), rfl, rfl, Nat.le_of_ble_eq_true rfl, ?_⟩
    | refine idx_owL (by exact hk_) (by omega) (by simp only [LIM]; omega) (fun x hx => ?_)
    | refine idx_owI (by exact hk_) (by omega) (by first | omega | (simp only [List.length_map] at *; omega)) (fun x hx => ?_)
    | refine ⟨_, _, _, _, ((by exact hk_) : (_ : Option Ob) = _), at_mapA (by assumption), rfl, rfl, Nat.le_of_ble_eq_true rfl, ?_⟩
    | refine ⟨_, ldc_pa (by exact hk_) (at_mapA (by assumption)) (Nat.le_of_ble_eq_true rfl), ?_⟩
    | refine ⟨_, rfl, rfl, _, ((by exact hk_) : (_ : Option Ob) = _), (by exact ap_), ?_⟩
    | refine ⟨_, news_ow hupd_at, newsz_ow hupd_at, _, ((by exact hk_) : (_ : Option Ob) = _), (by exact ap_), ?_⟩
    | refine ⟨_, _, _, ((by exact hk_) : (_ : Option Ob) = _), ?_⟩
    | refine ⟨_, ((by exact hk_) : (_ : Option Ob) = _), ?_⟩
    | refine ⟨(show _ ≠ _ from (by first | decide | omega)), ?_⟩
    | refine ⟨(show _ ≤ _ from (by exact ap_)), ?_⟩
    | (refine ⟨fun hc => ?_, fun hc => ?_⟩ <;> (try simp (disch := omega) only [List.length_map, wrap64] at hc) <;> (try (exfalso; first | contradiction | omega)))
    | (refine ⟨⟨(by omega), (by omega), (by simp only [List.length_map] at *; simp only [LIM] at *; omega), (by simp only [List.length_map] at *; simp only [LIM] at *; omega)⟩, ?_⟩; (try simp only [List.length_map, Int.toNat_natCast]))
    | (refine ⟨_, slc_to rfl (by first | omega | (simp only [List.length_map] at *; omega)), ?_⟩; rw [map_take'])
    | (refine ⟨_, slc_toI rfl (by omega) (by first | omega | (simp only [List.length_map] at *; omega)), ?_⟩; rw [map_take'])
    | fail)
  refine .inl ⟨_, _, _, _, _, rfl, hupd_at.trans (by rw [hC]; exact arr_snoc rfl), fcellss_f itF C, .inr ?_⟩
  by_cases h1 : mayN n
  · have hle : leadV n.ep = lead n.ep := leadV_in h1.1 hep.2
    by_cases h2 : lead n.ep = n.id
    · by_cases h3 : ChainOk C
      · have e3 : propN false n p = voteN n C := by
          unfold propN; rw [tb_pos (by show mayN n ∧ lead n.ep = n.id ∧ ChainOk (tip n.seen ++ [⟨n.ep, p⟩]); rw [← hC]; exact ⟨h1, h2, h3⟩)]
          show voteN n (tip n.seen ++ [⟨n.ep, p⟩]) = _; rw [hC]
        repeat' ((conv => whnf); first
          | refine ⟨_, _, _, _, (hk_ : (_ : Option Ob) = _), rfl, rfl, Nat.le_of_ble_eq_true rfl, ?_⟩
          | refine ⟨_, ldc_cells hk_ (Nat.le_of_ble_eq_true rfl), ?_⟩
          | (refine callt (b := [agg (ndF n)]) v_impl_Node_may (congrArg (fun z => [z]) (bor_nd (n := n) (hA0.mono (b' := n.seen.length + 1) (Nat.le_refl _) fun i hi => by (repeat (refine (hupd_ne (by omega)).trans ?_)); rfl))) ⟨n, rfl, trivial⟩ (.inr ⟨rfl, rfl⟩) (by first | assumption | omega) (fun r hr => K_impl_Node_may (a := n) hr) (fun hj => ?_) (fun hj => ?_) <;> (try contradiction))
          | refine ⟨_, rfl, ?_⟩
          | refine ⟨rfl, ?_⟩
          | refine ⟨_, _, rfl, at_map (by assumption), ?_⟩
          | refine idx_mapX (i := 0) rfl (by assumption) ?_
          | refine idx_map (by omega) (fun x hx => ?_)
          | refine idx_mapX (wrap_dn (by omega) (by omega)) (by assumption) ?_
          | refine idx_mapE (wrap_dn (by omega) (by omega)) (by omega) (fun x hx => ?_)
          | refine idx_mapL (by omega) (by first | assumption | (simp only [LIM]; omega)) (fun x hx => ?_)
          | refine idx_mapI (by omega) (by first | omega | (simp only [List.length_map] at *; omega)) (fun x hx => ?_)
          | refine ⟨_, ldc_cells hupd_at (Nat.le_of_ble_eq_true rfl), ?_⟩
          | refine ⟨_, ldc_cells (by first | assumption | exact zk ‹_› (by omega) | exact zk (zk ‹_› (by omega)) (by omega)) (Nat.le_of_ble_eq_true rfl), ?_⟩
          | refine ⟨_, _, hupd_at, rfl, rfl, Nat.le_of_ble_eq_true rfl, ?_⟩
          | refine ⟨_, _, rfl, rfl, rfl, Nat.le_of_ble_eq_true rfl, ?_⟩
          | (refine ⟨?_, _, (?_ : (_ : Option Ob) = _), rfl, rfl, ?_, ?_⟩; rotate_left; (exact hk_); exact Nat.le_of_ble_eq_true rfl)
          | refine ⟨_, _, _, _, ((by exact hk_) : (_ : Option Ob) = _), rfl, at_mapA (by assumption), ?_⟩
          | refine idx_ow (by exact hk_) (by omega) (fun x hx => ?_)
          | refine ⟨_, _, _, _, ((by exact hk_) : (_ : Option Ob) = _), rfl, fill_at (by omega), ?_⟩
          | refine ⟨_, _, _, _, ((by exact hk_) : (_ : Option Ob) = _), fill_at (by omega), rfl, rfl, Nat.le_of_ble_eq_true rfl, ?_⟩
          | refine idx_owL (by exact hk_) (by omega) (by simp only [LIM]; omega) (fun x hx => ?_)
          | refine idx_owI (by exact hk_) (by omega) (by first | omega | (simp only [List.length_map] at *; omega)) (fun x hx => ?_)
          | refine ⟨_, _, _, _, ((by exact hk_) : (_ : Option Ob) = _), at_mapA (by assumption), rfl, rfl, Nat.le_of_ble_eq_true rfl, ?_⟩
          | refine ⟨_, ldc_pa (by exact hk_) (at_mapA (by assumption)) (Nat.le_of_ble_eq_true rfl), ?_⟩
          | refine ⟨_, rfl, rfl, _, ((by exact hk_) : (_ : Option Ob) = _), (by exact ap_), ?_⟩
          | refine ⟨_, news_ow hupd_at, newsz_ow hupd_at, _, ((by exact hk_) : (_ : Option Ob) = _), (by exact ap_), ?_⟩
          | refine ⟨_, _, _, ((by exact hk_) : (_ : Option Ob) = _), ?_⟩
          | refine ⟨_, ((by exact hk_) : (_ : Option Ob) = _), ?_⟩
          | refine ⟨(show _ ≠ _ from (by first | decide | omega)), ?_⟩
          | refine ⟨(show _ ≤ _ from (by exact ap_)), ?_⟩
          | (refine ⟨fun hc => ?_, fun hc => ?_⟩ <;> (try simp (disch := omega) only [List.length_map, wrap64] at hc) <;> (try (exfalso; first | contradiction | omega)))
          | (refine ⟨⟨(by omega), (by omega), (by simp only [List.length_map] at *; simp only [LIM] at *; omega), (by simp only [List.length_map] at *; simp only [LIM] at *; omega)⟩, ?_⟩; (try simp only [List.length_map, Int.toNat_natCast]))
          | (refine ⟨_, slc_to rfl (by first | omega | (simp only [List.length_map] at *; omega)), ?_⟩; rw [map_take'])
          | (refine ⟨_, slc_toI rfl (by omega) (by first | omega | (simp only [List.length_map] at *; omega)), ?_⟩; rw [map_take'])
          | (refine calle (b := [I _]) v_impl_VoteLeader rfl ⟨_, rfl, (by exact pr_)⟩ (.inl rfl) (by first | assumption | omega) (fun r hr => K_impl_VoteLeader (a := _) hr) ?_)
          | (refine callt (b := [one (chF _)]) v_impl_ChainOk rfl ⟨_, rfl, (by exact pr_)⟩ (.inl rfl) (by first | assumption | omega) (fun r hr => K_impl_ChainOk (a := _) hr) (fun hj => ?_) (fun hj => ?_) <;> (try simp only [etaPa, etaIt, etaVo] at hj) <;> (try contradiction))
          | fail)
        refine mq_tri0 (n1 := n.seen.length + 17) (Nat.le_refl _) (l := n.seen) (k := 0) (f := (· + 1)) (b := n.seen.length + 1) (args := [ndOF n 0, one (chF C)]) (o := voteN n C) v_impl_Node_vote_o rfl rfl (by omega) (hA0.mono (Nat.le_refl _) fun i hi => by (repeat (refine (hupd_ne (by omega)).trans ?_)); rfl) (by omega) (fun ρ q0 _ => (by show [(ndOF n 0).ren ρ, one (chF C)] = _; rw [ndOF_ren, q0]; rfl)) ⟨(n, .inl C), rfl, rfl, hCl, hSM⟩ (fun r obs' h => (K_impl_Node_vote_o (x := .inl C) h).up (by omega)) fun H' ks k' f' cv hT hks hkm hl1 hl2 ho => ?_
        have hb2 : H' ((nV.In n.seen).length + 16 + 16) = some (.cells [cI 0, cI 0, cI 0, .e0]) := (ho _ (by omega) ⟨by omega, fun j hj => (by show j + 1 ≠ _; omega)⟩).trans hk_
        have hb3 : H' ((nV.In n.seen).length + 16 + 16 + 16) = some (.cells [cI 0, .e0]) := (ho _ (by omega) ⟨by omega, fun j hj => (by show j + 1 ≠ _; omega)⟩).trans hk_
        generalize hvo : voteN n C = vo at *
        repeat' ((conv => whnf); first
          | refine ⟨_, _, _, _, (hk_ : (_ : Option Ob) = _), rfl, rfl, Nat.le_of_ble_eq_true rfl, ?_⟩
          | refine ⟨_, rfl, ?_⟩
          | refine ⟨rfl, ?_⟩
          | refine ⟨_, _, rfl, at_map (by assumption), ?_⟩
          | refine idx_mapX (i := 0) rfl (by assumption) ?_
          | refine idx_map (by omega) (fun x hx => ?_)
          | refine idx_mapX (wrap_dn (by omega) (by omega)) (by assumption) ?_
          | refine idx_mapE (wrap_dn (by omega) (by omega)) (by omega) (fun x hx => ?_)
          | refine idx_mapL (by omega) (by first | assumption | (simp only [LIM]; omega)) (fun x hx => ?_)
          | refine idx_mapI (by omega) (by first | omega | (simp only [List.length_map] at *; omega)) (fun x hx => ?_)
          | refine ⟨_, ldc_cells hupd_at (Nat.le_of_ble_eq_true rfl), ?_⟩
          | refine ⟨_, ldc_cells (by first | assumption | exact zk ‹_› (by omega) | exact zk (zk ‹_› (by omega)) (by omega)) (Nat.le_of_ble_eq_true rfl), ?_⟩
          | refine ⟨_, _, hupd_at, rfl, rfl, Nat.le_of_ble_eq_true rfl, ?_⟩
          | refine ⟨_, _, rfl, rfl, rfl, Nat.le_of_ble_eq_true rfl, ?_⟩
          | (refine ⟨?_, _, (?_ : (_ : Option Ob) = _), rfl, rfl, ?_, ?_⟩; rotate_left; (exact hk_); exact Nat.le_of_ble_eq_true rfl)
          | refine ⟨_, _, _, _, ((by exact hk_) : (_ : Option Ob) = _), rfl, at_mapA (by assumption), ?_⟩
          | refine idx_ow (by exact hk_) (by omega) (fun x hx => ?_)
          | refine ⟨_, _, _, _, ((by exact hk_) : (_ : Option Ob) = _), rfl, fill_at (by omega), ?_⟩
          | refine ⟨_, _, _, _, ((by exact hk_) : (_ : Option Ob) = _), fill_at (by omega), rfl, rfl, Nat.le_of_ble_eq_true rfl, ?_⟩
          | refine idx_owL (by exact hk_) (by omega) (by simp only [LIM]; omega) (fun x hx => ?_)
          | refine idx_owI (by exact hk_) (by omega) (by first | omega | (simp only [List.length_map] at *; omega)) (fun x hx => ?_)
          | refine ⟨_, _, _, _, ((by exact hk_) : (_ : Option Ob) = _), at_mapA (by assumption), rfl, rfl, Nat.le_of_ble_eq_true rfl, ?_⟩
          | refine ⟨_, ldc_pa (by exact hk_) (at_mapA (by assumption)) (Nat.le_of_ble_eq_true rfl), ?_⟩
          | refine ⟨_, rfl, rfl, _, ((by exact hk_) : (_ : Option Ob) = _), (by exact ap_), ?_⟩
          | refine ⟨_, news_ow hupd_at, newsz_ow hupd_at, _, ((by exact hk_) : (_ : Option Ob) = _), (by exact ap_), ?_⟩
          | refine ⟨_, _, _, ((by exact hk_) : (_ : Option Ob) = _), ?_⟩
          | refine ⟨_, ((by exact hk_) : (_ : Option Ob) = _), ?_⟩
          | refine ⟨(show _ ≠ _ from (by first | decide | omega)), ?_⟩
          | refine ⟨(show _ ≤ _ from (by exact ap_)), ?_⟩
          | (refine ⟨fun hc => ?_, fun hc => ?_⟩ <;> (try simp (disch := omega) only [List.length_map, wrap64] at hc) <;> (try (exfalso; first | contradiction | omega)))
          | (refine ⟨⟨(by omega), (by omega), (by simp only [List.length_map] at *; simp only [LIM] at *; omega), (by simp only [List.length_map] at *; simp only [LIM] at *; omega)⟩, ?_⟩; (try simp only [List.length_map, Int.toNat_natCast]))
          | (refine ⟨_, slc_to rfl (by first | omega | (simp only [List.length_map] at *; omega)), ?_⟩; rw [map_take'])
          | (refine ⟨_, slc_toI rfl (by omega) (by first | omega | (simp only [List.length_map] at *; omega)), ?_⟩; rw [map_take'])
          | fail)
        refine And.right (finM_triO (rm' := 0) (lim := 0) (o := vo) (n0 := n.seen.length + 1) (n1 := n.seen.length + 17) (hT.same (Nat.le_refl _) fun x hx => ?_) (Nat.le_refl _) (fun i hi => ?_) ?_ hl1 hl2 fun r obs' h => ⟨(n, p), rfl, rfl, by show TriO _ _ _ _ (propN false n p) _ _; rw [e3]; exact h⟩)
        · rcases hkm x hx with h | h
          · have := mem_nks0 h
            (repeat (refine (hupd_ne (by omega)).trans ?_)); rfl
          · (repeat (refine (hupd_ne (by omega)).trans ?_)); rfl
        · have : i < (nV.In n.seen).length := hi
          rw [hks i (by omega)]; exact nks0_at (by omega)
        · exact ⟨⟨_, raw_cells rfl hk_ rfl, .inl rfl⟩, ⟨_, raw_cells rfl hk_ rfl, .inl rfl⟩, ⟨_, rfl, .inl rfl⟩, trivial⟩
      · have e3 := hno fun h => h3 h.2.2
        repeat' ((conv => whnf); first
          | refine ⟨_, _, _, _, (hk_ : (_ : Option Ob) = _), rfl, rfl, Nat.le_of_ble_eq_true rfl, ?_⟩
          | refine ⟨_, ldc_cells hk_ (Nat.le_of_ble_eq_true rfl), ?_⟩
          | (refine callt (b := [agg (ndF n)]) v_impl_Node_may (congrArg (fun z => [z]) (bor_nd (n := n) (hA0.mono (b' := n.seen.length + 1) (Nat.le_refl _) fun i hi => by (repeat (refine (hupd_ne (by omega)).trans ?_)); rfl))) ⟨n, rfl, trivial⟩ (.inr ⟨rfl, rfl⟩) (by first | assumption | omega) (fun r hr => K_impl_Node_may (a := n) hr) (fun hj => ?_) (fun hj => ?_) <;> (try contradiction))
          | refine ⟨_, rfl, ?_⟩
          | refine ⟨rfl, ?_⟩
          | refine ⟨_, _, rfl, at_map (by assumption), ?_⟩
          | refine idx_mapX (i := 0) rfl (by assumption) ?_
          | refine idx_map (by omega) (fun x hx => ?_)
          | refine idx_mapX (wrap_dn (by omega) (by omega)) (by assumption) ?_
          | refine idx_mapE (wrap_dn (by omega) (by omega)) (by omega) (fun x hx => ?_)
          | refine idx_mapL (by omega) (by first | assumption | (simp only [LIM]; omega)) (fun x hx => ?_)
          | refine idx_mapI (by omega) (by first | omega | (simp only [List.length_map] at *; omega)) (fun x hx => ?_)
          | refine ⟨_, ldc_cells hupd_at (Nat.le_of_ble_eq_true rfl), ?_⟩
          | refine ⟨_, ldc_cells (by first | assumption | exact zk ‹_› (by omega) | exact zk (zk ‹_› (by omega)) (by omega)) (Nat.le_of_ble_eq_true rfl), ?_⟩
          | refine ⟨_, _, hupd_at, rfl, rfl, Nat.le_of_ble_eq_true rfl, ?_⟩
          | refine ⟨_, _, rfl, rfl, rfl, Nat.le_of_ble_eq_true rfl, ?_⟩
          | (refine ⟨?_, _, (?_ : (_ : Option Ob) = _), rfl, rfl, ?_, ?_⟩; rotate_left; (exact hk_); exact Nat.le_of_ble_eq_true rfl)
          | refine ⟨_, _, _, _, ((by exact hk_) : (_ : Option Ob) = _), rfl, at_mapA (by assumption), ?_⟩
          | refine idx_ow (by exact hk_) (by omega) (fun x hx => ?_)
          | refine ⟨_, _, _, _, ((by exact hk_) : (_ : Option Ob) = _), rfl, fill_at (by omega), ?_⟩
          | refine ⟨_, _, _, _, ((by exact hk_) : (_ : Option Ob) = _), fill_at (by omega), rfl, rfl, Nat.le_of_ble_eq_true rfl, ?_⟩
          | refine idx_owL (by exact hk_) (by omega) (by simp only [LIM]; omega) (fun x hx => ?_)
          | refine idx_owI (by exact hk_) (by omega) (by first | omega | (simp only [List.length_map] at *; omega)) (fun x hx => ?_)
          | refine ⟨_, _, _, _, ((by exact hk_) : (_ : Option Ob) = _), at_mapA (by assumption), rfl, rfl, Nat.le_of_ble_eq_true rfl, ?_⟩
          | refine ⟨_, ldc_pa (by exact hk_) (at_mapA (by assumption)) (Nat.le_of_ble_eq_true rfl), ?_⟩
          | refine ⟨_, rfl, rfl, _, ((by exact hk_) : (_ : Option Ob) = _), (by exact ap_), ?_⟩
          | refine ⟨_, news_ow hupd_at, newsz_ow hupd_at, _, ((by exact hk_) : (_ : Option Ob) = _), (by exact ap_), ?_⟩
          | refine ⟨_, _, _, ((by exact hk_) : (_ : Option Ob) = _), ?_⟩
          | refine ⟨_, ((by exact hk_) : (_ : Option Ob) = _), ?_⟩
          | refine ⟨(show _ ≠ _ from (by first | decide | omega)), ?_⟩
          | refine ⟨(show _ ≤ _ from (by exact ap_)), ?_⟩
          | (refine ⟨fun hc => ?_, fun hc => ?_⟩ <;> (try simp (disch := omega) only [List.length_map, wrap64] at hc) <;> (try (exfalso; first | contradiction | omega)))
          | (refine ⟨⟨(by omega), (by omega), (by simp only [List.length_map] at *; simp only [LIM] at *; omega), (by simp only [List.length_map] at *; simp only [LIM] at *; omega)⟩, ?_⟩; (try simp only [List.length_map, Int.toNat_natCast]))
          | (refine ⟨_, slc_to rfl (by first | omega | (simp only [List.length_map] at *; omega)), ?_⟩; rw [map_take'])
          | (refine ⟨_, slc_toI rfl (by omega) (by first | omega | (simp only [List.length_map] at *; omega)), ?_⟩; rw [map_take'])
          | (refine calle (b := [I _]) v_impl_VoteLeader rfl ⟨_, rfl, (by exact pr_)⟩ (.inl rfl) (by first | assumption | omega) (fun r hr => K_impl_VoteLeader (a := _) hr) ?_)
          | (refine callt (b := [one (chF _)]) v_impl_ChainOk rfl ⟨_, rfl, (by exact pr_)⟩ (.inl rfl) (by first | assumption | omega) (fun r hr => K_impl_ChainOk (a := _) hr) (fun hj => ?_) (fun hj => ?_) <;> (try simp only [etaPa, etaIt, etaVo] at hj) <;> (try contradiction))
          | fail)
        exact finM_triO (o := (n, zVo, false)) (n0 := n.seen.length + 1) (n1 := n.seen.length + 17) (triAt0 (l := n.seen) rfl (hA0.mono (Nat.le_refl _) fun i hi => by (repeat (refine (hupd_ne (by omega)).trans ?_)); rfl) rfl) (by omega) (fun i hi => List.getElem?_range (by have : i < (nV.In n.seen).length := hi; omega)) ⟨⟨_, raw_cells rfl hk_ rfl, .inl rfl⟩, ⟨_, raw_cells rfl hk_ rfl, .inl rfl⟩, ⟨_, rfl, .inl rfl⟩, trivial⟩ (by simp) (by simp) fun r obs' h => ⟨(n, p), rfl, rfl, by show TriO _ _ _ _ (propN false n p) _ _; rw [e3]; exact h⟩
    · have e3 := hno fun h => h2 h.2.1
      repeat' ((conv => whnf); first
        | refine ⟨_, _, _, _, (hk_ : (_ : Option Ob) = _), rfl, rfl, Nat.le_of_ble_eq_true rfl, ?_⟩
        | refine ⟨_, ldc_cells hk_ (Nat.le_of_ble_eq_true rfl), ?_⟩
        | (refine callt (b := [agg (ndF n)]) v_impl_Node_may (congrArg (fun z => [z]) (bor_nd (n := n) (hA0.mono (b' := n.seen.length + 1) (Nat.le_refl _) fun i hi => by (repeat (refine (hupd_ne (by omega)).trans ?_)); rfl))) ⟨n, rfl, trivial⟩ (.inr ⟨rfl, rfl⟩) (by first | assumption | omega) (fun r hr => K_impl_Node_may (a := n) hr) (fun hj => ?_) (fun hj => ?_) <;> (try contradiction))
        | refine ⟨_, rfl, ?_⟩
        | refine ⟨rfl, ?_⟩
        | refine ⟨_, _, rfl, at_map (by assumption), ?_⟩
        | refine idx_mapX (i := 0) rfl (by assumption) ?_
        | refine idx_map (by omega) (fun x hx => ?_)
        | refine idx_mapX (wrap_dn (by omega) (by omega)) (by assumption) ?_
        | refine idx_mapE (wrap_dn (by omega) (by omega)) (by omega) (fun x hx => ?_)
        | refine idx_mapL (by omega) (by first | assumption | (simp only [LIM]; omega)) (fun x hx => ?_)
        | refine idx_mapI (by omega) (by first | omega | (simp only [List.length_map] at *; omega)) (fun x hx => ?_)
        | refine ⟨_, ldc_cells hupd_at (Nat.le_of_ble_eq_true rfl), ?_⟩
        | refine ⟨_, ldc_cells (by first | assumption | exact zk ‹_› (by omega) | exact zk (zk ‹_› (by omega)) (by omega)) (Nat.le_of_ble_eq_true rfl), ?_⟩
        | refine ⟨_, _, hupd_at, rfl, rfl, Nat.le_of_ble_eq_true rfl, ?_⟩
        | refine ⟨_, _, rfl, rfl, rfl, Nat.le_of_ble_eq_true rfl, ?_⟩
        | (refine ⟨?_, _, (?_ : (_ : Option Ob) = _), rfl, rfl, ?_, ?_⟩; rotate_left; (exact hk_); exact Nat.le_of_ble_eq_true rfl)
        | refine ⟨_, _, _, _, ((by exact hk_) : (_ : Option Ob) = _), rfl, at_mapA (by assumption), ?_⟩
        | refine idx_ow (by exact hk_) (by omega) (fun x hx => ?_)
        | refine ⟨_, _, _, _, ((by exact hk_) : (_ : Option Ob) = _), rfl, fill_at (by omega), ?_⟩
        | refine ⟨_, _, _, _, ((by exact hk_) : (_ : Option Ob) = _), fill_at (by omega), rfl, rfl, Nat.le_of_ble_eq_true rfl, ?_⟩
        | refine idx_owL (by exact hk_) (by omega) (by simp only [LIM]; omega) (fun x hx => ?_)
        | refine idx_owI (by exact hk_) (by omega) (by first | omega | (simp only [List.length_map] at *; omega)) (fun x hx => ?_)
        | refine ⟨_, _, _, _, ((by exact hk_) : (_ : Option Ob) = _), at_mapA (by assumption), rfl, rfl, Nat.le_of_ble_eq_true rfl, ?_⟩
        | refine ⟨_, ldc_pa (by exact hk_) (at_mapA (by assumption)) (Nat.le_of_ble_eq_true rfl), ?_⟩
        | refine ⟨_, rfl, rfl, _, ((by exact hk_) : (_ : Option Ob) = _), (by exact ap_), ?_⟩
        | refine ⟨_, news_ow hupd_at, newsz_ow hupd_at, _, ((by exact hk_) : (_ : Option Ob) = _), (by exact ap_), ?_⟩
        | refine ⟨_, _, _, ((by exact hk_) : (_ : Option Ob) = _), ?_⟩
        | refine ⟨_, ((by exact hk_) : (_ : Option Ob) = _), ?_⟩
        | refine ⟨(show _ ≠ _ from (by first | decide | omega)), ?_⟩
        | refine ⟨(show _ ≤ _ from (by exact ap_)), ?_⟩
        | (refine ⟨fun hc => ?_, fun hc => ?_⟩ <;> (try simp (disch := omega) only [List.length_map, wrap64] at hc) <;> (try (exfalso; first | contradiction | omega)))
        | (refine ⟨⟨(by omega), (by omega), (by simp only [List.length_map] at *; simp only [LIM] at *; omega), (by simp only [List.length_map] at *; simp only [LIM] at *; omega)⟩, ?_⟩; (try simp only [List.length_map, Int.toNat_natCast]))
        | (refine ⟨_, slc_to rfl (by first | omega | (simp only [List.length_map] at *; omega)), ?_⟩; rw [map_take'])
        | (refine ⟨_, slc_toI rfl (by omega) (by first | omega | (simp only [List.length_map] at *; omega)), ?_⟩; rw [map_take'])
        | (refine calle (b := [I _]) v_impl_VoteLeader rfl ⟨_, rfl, (by exact pr_)⟩ (.inl rfl) (by first | assumption | omega) (fun r hr => K_impl_VoteLeader (a := _) hr) ?_)
        | (refine callt (b := [one (chF _)]) v_impl_ChainOk rfl ⟨_, rfl, (by exact pr_)⟩ (.inl rfl) (by first | assumption | omega) (fun r hr => K_impl_ChainOk (a := _) hr) (fun hj => ?_) (fun hj => ?_) <;> (try simp only [etaPa, etaIt, etaVo] at hj) <;> (try contradiction))
        | fail)
      exact finM_triO (o := (n, zVo, false)) (n0 := n.seen.length + 1) (n1 := n.seen.length + 17) (triAt0 (l := n.seen) rfl (hA0.mono (Nat.le_refl _) fun i hi => by (repeat (refine (hupd_ne (by omega)).trans ?_)); rfl) rfl) (by omega) (fun i hi => List.getElem?_range (by have : i < (nV.In n.seen).length := hi; omega)) ⟨⟨_, raw_cells rfl hk_ rfl, .inl rfl⟩, ⟨_, raw_cells rfl hk_ rfl, .inl rfl⟩, ⟨_, rfl, .inl rfl⟩, trivial⟩ (by simp) (by simp) fun r obs' h => ⟨(n, p), rfl, rfl, by show TriO _ _ _ _ (propN false n p) _ _; rw [e3]; exact h⟩
  · have e3 := hno fun h => h1 h.1
    repeat' ((conv => whnf); first
      | refine ⟨_, _, _, _, (hk_ : (_ : Option Ob) = _), rfl, rfl, Nat.le_of_ble_eq_true rfl, ?_⟩
      | refine ⟨_, ldc_cells hk_ (Nat.le_of_ble_eq_true rfl), ?_⟩
      | (refine callt (b := [agg (ndF n)]) v_impl_Node_may (congrArg (fun z => [z]) (bor_nd (n := n) (hA0.mono (b' := n.seen.length + 1) (Nat.le_refl _) fun i hi => by (repeat (refine (hupd_ne (by omega)).trans ?_)); rfl))) ⟨n, rfl, trivial⟩ (.inr ⟨rfl, rfl⟩) (by first | assumption | omega) (fun r hr => K_impl_Node_may (a := n) hr) (fun hj => ?_) (fun hj => ?_) <;> (try contradiction))
      | refine ⟨_, rfl, ?_⟩
      | refine ⟨rfl, ?_⟩
      | refine ⟨_, _, rfl, at_map (by assumption), ?_⟩
      | refine idx_mapX (i := 0) rfl (by assumption) ?_
      | refine idx_map (by omega) (fun x hx => ?_)
      | refine idx_mapX (wrap_dn (by omega) (by omega)) (by assumption) ?_
      | refine idx_mapE (wrap_dn (by omega) (by omega)) (by omega) (fun x hx => ?_)
      | refine idx_mapL (by omega) (by first | assumption | (simp only [LIM]; omega)) (fun x hx => ?_)
      | refine idx_mapI (by omega) (by first | omega | (simp only [List.length_map] at *; omega)) (fun x hx => ?_)
      | refine ⟨_, ldc_cells hupd_at (Nat.le_of_ble_eq_true rfl), ?_⟩
      | refine ⟨_, ldc_cells (by first | assumption | exact zk ‹_› (by omega) | exact zk (zk ‹_› (by omega)) (by omega)) (Nat.le_of_ble_eq_true rfl), ?_⟩
      | refine ⟨_, _, hupd_at, rfl, rfl, Nat.le_of_ble_eq_true rfl, ?_⟩
      | refine ⟨_, _, rfl, rfl, rfl, Nat.le_of_ble_eq_true rfl, ?_⟩
      | (refine ⟨?_, _, (?_ : (_ : Option Ob) = _), rfl, rfl, ?_, ?_⟩; rotate_left; (exact hk_); exact Nat.le_of_ble_eq_true rfl)
      | refine ⟨_, _, _, _, ((by exact hk_) : (_ : Option Ob) = _), rfl, at_mapA (by assumption), ?_⟩
      | refine idx_ow (by exact hk_) (by omega) (fun x hx => ?_)
      | refine ⟨_, _, _, _, ((by exact hk_) : (_ : Option Ob) = _), rfl, fill_at (by omega), ?_⟩
      | refine ⟨_, _, _, _, ((by exact hk_) : (_ : Option Ob) = _), fill_at (by omega), rfl, rfl, Nat.le_of_ble_eq_true rfl, ?_⟩
      | refine idx_owL (by exact hk_) (by omega) (by simp only [LIM]; omega) (fun x hx => ?_)
      | refine idx_owI (by exact hk_) (by omega) (by first | omega | (simp only [List.length_map] at *; omega)) (fun x hx => ?_)
      | refine ⟨_, _, _, _, ((by exact hk_) : (_ : Option Ob) = _), at_mapA (by assumption), rfl, rfl, Nat.le_of_ble_eq_true rfl, ?_⟩
      | refine ⟨_, ldc_pa (by exact hk_) (at_mapA (by assumption)) (Nat.le_of_ble_eq_true rfl), ?_⟩
      | refine ⟨_, rfl, rfl, _, ((by exact hk_) : (_ : Option Ob) = _), (by exact ap_), ?_⟩
      | refine ⟨_, news_ow hupd_at, newsz_ow hupd_at, _, ((by exact hk_) : (_ : Option Ob) = _), (by exact ap_), ?_⟩
      | refine ⟨_, _, _, ((by exact hk_) : (_ : Option Ob) = _), ?_⟩
      | refine ⟨_, ((by exact hk_) : (_ : Option Ob) = _), ?_⟩
      | refine ⟨(show _ ≠ _ from (by first | decide | omega)), ?_⟩
      | refine ⟨(show _ ≤ _ from (by exact ap_)), ?_⟩
      | (refine ⟨fun hc => ?_, fun hc => ?_⟩ <;> (try simp (disch := omega) only [List.length_map, wrap64] at hc) <;> (try (exfalso; first | contradiction | omega)))
      | (refine ⟨⟨(by omega), (by omega), (by simp only [List.length_map] at *; simp only [LIM] at *; omega), (by simp only [List.length_map] at *; simp only [LIM] at *; omega)⟩, ?_⟩; (try simp only [List.length_map, Int.toNat_natCast]))
      | (refine ⟨_, slc_to rfl (by first | omega | (simp only [List.length_map] at *; omega)), ?_⟩; rw [map_take'])
      | (refine ⟨_, slc_toI rfl (by omega) (by first | omega | (simp only [List.length_map] at *; omega)), ?_⟩; rw [map_take'])
      | (refine calle (b := [I _]) v_impl_VoteLeader rfl ⟨_, rfl, (by exact pr_)⟩ (.inl rfl) (by first | assumption | omega) (fun r hr => K_impl_VoteLeader (a := _) hr) ?_)
      | (refine callt (b := [one (chF _)]) v_impl_ChainOk rfl ⟨_, rfl, (by exact pr_)⟩ (.inl rfl) (by first | assumption | omega) (fun r hr => K_impl_ChainOk (a := _) hr) (fun hj => ?_) (fun hj => ?_) <;> (try simp only [etaPa, etaIt, etaVo] at hj) <;> (try contradiction))
      | fail)
    exact finM_triO (o := (n, zVo, false)) (n0 := n.seen.length + 1) (n1 := n.seen.length + 17) (triAt0 (l := n.seen) rfl (hA0.mono (Nat.le_refl _) fun i hi => by (repeat (refine (hupd_ne (by omega)).trans ?_)); rfl) rfl) (by omega) (fun i hi => List.getElem?_range (by have : i < (nV.In n.seen).length := hi; omega)) ⟨⟨_, raw_cells rfl hk_ rfl, .inl rfl⟩, ⟨_, raw_cells rfl hk_ rfl, .inl rfl⟩, ⟨_, rfl, .inl rfl⟩, trivial⟩ (by simp) (by simp) fun r obs' h => ⟨(n, p), rfl, rfl, by show TriO _ _ _ _ (propN false n p) _ _; rw [e3]; exact h⟩
end Av
end Go.Proofs.Ytdboofnogabefaa
