/- The walk: a node hears, with memory of its own. -/
import Derived.Test.YtdboofnogabefaaIL
set_option linter.unusedVariables false
set_option linter.unusedSimpArgs false
namespace Go.Proofs.Ytdboofnogabefaa
namespace Av
open Go.RowKit
/-- The node with one more vote, and no vote. -/
theorem triAtW {H : Hp} {l : List Vo} {v : Vo} {o : Tri} {n B : Nat} (hl : l.length + 1 ≤ n) (ho : o.1.seen = l ++ [v]) (hc : o.2.1.c = []) (h0 : H 0 = some (nV.ob (· + 1) l)) (hin : ∀ j u, l[j]? = some u → H (j + 1) = some (nV.ob1 u))
    (hA : nV.At H B (n + 1) (updF (· + 1) l.length n) (l ++ [v])) : TriAt H B (List.range (l.length + 1) ++ [n, n + 1]) false o (n + 1) (updF (· + 1) l.length n) .e0 := by
  have hu : ∀ j, j < l.length → updF (· + 1) l.length n j = j + 1 := fun j hj => if_neg (by omega)
  have hue : updF (· + 1) l.length n l.length = n := if_pos rfl
  have hlen : (l ++ [v]).length = l.length + 1 := by simp
  have hfm : ∀ j, j < l.length + 1 → updF (· + 1) l.length n j ∈ List.range (l.length + 1) ++ [n, n + 1] := fun j hj => by
    rw [mem_es]
    rcases Nat.lt_or_ge j l.length with h | h
    · rw [hu j h]; left; omega
    · obtain rfl : j = l.length := by omega
      rw [hue]; right; simp
  refine ⟨nodup_es (by simp) (fun x hx => by simp at hx; omega), okNs fun x hx => ?_, by rw [ho]; exact hA, mem_es.2 (.inr (by simp)), fun j hj => hfm j (by rw [ho, hlen] at hj; exact hj), .inl ⟨rfl, rfl, hc⟩, fun x hx => by cases hx⟩
  rcases mem_es.1 hx with h | h
  · cases x with
    | zero => exact ⟨_, h0, .inr ⟨_, _, rfl, fun j hj => mem_es.2 (.inl (by omega))⟩⟩
    | succ j => exact ⟨_, hin j _ (List.getElem?_eq_getElem (by omega)), .inl ⟨_, rfl⟩⟩
  · simp only [List.mem_cons, List.not_mem_nil, or_false] at h
    rcases h with rfl | rfl
    · have := hA.inn l.length v (by simp)
      rw [hue] at this
      exact ⟨_, this, .inl ⟨_, rfl⟩⟩
    · exact ⟨_, hA.out, .inr ⟨_, _, rfl, fun j hj => hfm j (by rw [hlen] at hj; exact hj)⟩⟩
attribute [local irreducible] voteN tryN hearN
attribute [local irreducible] Valid ValidM
set_option maxHeartbeats 4000000 in
set_option maxRecDepth 100000 in
theorem v_impl_Node_hear_o : ValidM Try.prog n_impl_Node_hear_o S_impl_Node_hear_o := by
  refine validM_of_swp mixed is_impl_Node_hear_o (by rintro _ _ ⟨a, rfl, _⟩; exact Nat.le_of_ble_eq_true rfl) ?_
  rintro _ _ rm ⟨⟨n, v⟩, rfl, rfl, hpre⟩ hl
  try dsimp only at hpre
  obtain ⟨hok, hfv⟩ := hpre
  try dsimp only at hok hfv
  have hA0 := startN (l := n.seen)
  have hEl : (nV.In n.seen).length = n.seen.length + 1 := Nest.In_len
  have hKl : (nV.K (· + 1) n.seen).length = n.seen.length := Nest.K_len
  have c1 : S_impl_Node_hear_o.cost = 0 := rfl
  have c2 : S_impl_votes_with_o.cost = 0 := rfl
  have hseen := hok.2.2.2.1
  have hep : In n.ep 0 30 := hok.2.1
  have hep2 : In n.ep 0 100 := ⟨hep.1, Int.le_trans hep.2 (by decide)⟩
  have hV : VotesOk n.seen := hok.2.2.2.2.1
  have hfs : FitVs n.seen := hok.fit
  have hSM : n.seen.length ≤ SM := by simp only [SM]; omega
  have cc_impl_VoteOk : S_impl_VoteOk.cost = 0 := rfl
  have cc_impl_votes_has : S_impl_votes_has.cost = 0 := rfl
  have cc_impl_Node_may : S_impl_Node_may.cost = 0 := rfl
  have cc_impl_VoteLeader : S_impl_VoteLeader.cost = 0 := rfl
  try dsimp only
  by_cases h1 : VoteOk v
  · by_cases h2 : v.n = n.id
    · have e3 : hearN false n v = (n, zVo, false) := by unfold hearN; rw [tb_neg (fun h => h.2.1 h2)]; rfl
      repeat' ((conv => whnf); first
        | refine ⟨_, ldc_cells hk_ (Nat.le_of_ble_eq_true rfl), ?_⟩
        | refine ⟨rfl, ?_⟩
        | (refine ⟨?_, _, (?_ : (_ : Option Ob) = _), rfl, rfl, ?_, ?_⟩; rotate_left; (exact hk_); exact Nat.le_of_ble_eq_true rfl)
        | (refine ⟨fun hc => ?_, fun hc => ?_⟩ <;> (try simp (disch := omega) only [List.length_map, wrap64] at hc) <;> (try (exfalso; first | contradiction | omega)))
        | (refine callt (b := [agg (voF ⟨_, _⟩)]) v_impl_VoteOk rfl ⟨⟨_, _⟩, rfl, (by exact pr_)⟩ (.inl rfl) (by first | assumption | omega) (fun r hr => K_impl_VoteOk (a := ⟨_, _⟩) hr) (fun hj => ?_) (fun hj => ?_) <;> (try simp only [etaPa, etaIt, etaVo] at hj) <;> (try contradiction))
        | fail)
      first
        | exact finM_triO (o := (n, zVo, false)) (n0 := n.seen.length + 1) (n1 := n.seen.length + 17) (triAt0 (l := n.seen) rfl (hA0.mono (Nat.le_refl _) fun i hi => by (repeat (refine (hupd_ne (by omega)).trans ?_)); rfl) rfl) (by omega) (fun i hi => List.getElem?_range (by have : i < (nV.In n.seen).length := hi; omega)) ⟨⟨_, raw_cells rfl hk_ rfl, .inl rfl⟩, ⟨_, raw_cells rfl hk_ rfl, .inl rfl⟩, ⟨_, rfl, .inl rfl⟩, trivial⟩ (by simp) (by simp) fun r obs' h => ⟨(n, v), rfl, rfl, by show TriO _ _ _ _ (hearN false n v) _ _; rw [e3]; exact h⟩
        | exact And.right (finM_triO (rm' := 0) (lim := 0) (o := (n, zVo, false)) (n0 := n.seen.length + 1) (n1 := n.seen.length + 17) (triAt0 (l := n.seen) rfl (hA0.mono (Nat.le_refl _) fun i hi => by (repeat (refine (hupd_ne (by omega)).trans ?_)); rfl) rfl) (Nat.le_refl _) (fun i hi => List.getElem?_range (by have : i < (nV.In n.seen).length := hi; omega)) ⟨⟨_, raw_cells rfl hk_ rfl, .inl rfl⟩, ⟨_, raw_cells rfl hk_ rfl, .inl rfl⟩, ⟨_, rfl, .inl rfl⟩, trivial⟩ (by simp) (by simp) fun r obs' h => ⟨(n, v), rfl, rfl, by show TriO _ _ _ _ (hearN false n v) _ _; rw [e3]; exact h⟩)
    · by_cases h3 : 80 ≤ n.seen.length
      · have e3 : hearN false n v = (n, zVo, false) := by unfold hearN; rw [tb_neg (fun h => absurd h.2.2 (by omega))]; rfl
        repeat' ((conv => whnf); first
          | refine ⟨_, ldc_cells hk_ (Nat.le_of_ble_eq_true rfl), ?_⟩
          | refine ⟨rfl, ?_⟩
          | (refine ⟨?_, _, (?_ : (_ : Option Ob) = _), rfl, rfl, ?_, ?_⟩; rotate_left; (exact hk_); exact Nat.le_of_ble_eq_true rfl)
          | refine ⟨_, _, _, ((by exact hk_) : (_ : Option Ob) = _), ?_⟩
          | (refine ⟨fun hc => ?_, fun hc => ?_⟩ <;> (try simp (disch := omega) only [List.length_map, wrap64] at hc) <;> (try (exfalso; first | contradiction | omega)))
          | (refine callt (b := [agg (voF ⟨_, _⟩)]) v_impl_VoteOk rfl ⟨⟨_, _⟩, rfl, (by exact pr_)⟩ (.inl rfl) (by first | assumption | omega) (fun r hr => K_impl_VoteOk (a := ⟨_, _⟩) hr) (fun hj => ?_) (fun hj => ?_) <;> (try simp only [etaPa, etaIt, etaVo] at hj) <;> (try contradiction))
          | fail)
        first
          | exact finM_triO (o := (n, zVo, false)) (n0 := n.seen.length + 1) (n1 := n.seen.length + 17) (triAt0 (l := n.seen) rfl (hA0.mono (Nat.le_refl _) fun i hi => by (repeat (refine (hupd_ne (by omega)).trans ?_)); rfl) rfl) (by omega) (fun i hi => List.getElem?_range (by have : i < (nV.In n.seen).length := hi; omega)) ⟨⟨_, raw_cells rfl hk_ rfl, .inl rfl⟩, ⟨_, raw_cells rfl hk_ rfl, .inl rfl⟩, ⟨_, rfl, .inl rfl⟩, trivial⟩ (by simp) (by simp) fun r obs' h => ⟨(n, v), rfl, rfl, by show TriO _ _ _ _ (hearN false n v) _ _; rw [e3]; exact h⟩
          | exact And.right (finM_triO (rm' := 0) (lim := 0) (o := (n, zVo, false)) (n0 := n.seen.length + 1) (n1 := n.seen.length + 17) (triAt0 (l := n.seen) rfl (hA0.mono (Nat.le_refl _) fun i hi => by (repeat (refine (hupd_ne (by omega)).trans ?_)); rfl) rfl) (Nat.le_refl _) (fun i hi => List.getElem?_range (by have : i < (nV.In n.seen).length := hi; omega)) ⟨⟨_, raw_cells rfl hk_ rfl, .inl rfl⟩, ⟨_, raw_cells rfl hk_ rfl, .inl rfl⟩, ⟨_, rfl, .inl rfl⟩, trivial⟩ (by simp) (by simp) fun r obs' h => ⟨(n, v), rfl, rfl, by show TriO _ _ _ _ (hearN false n v) _ _; rw [e3]; exact h⟩)
      · have hH : HearsN n v := ⟨h1, h2, by omega⟩
        by_cases h4 : v ∈ n.seen
        · have eH : hearN false n v = tryN false n := hear_loop_post hH (by rw [addV_in h4])
          by_cases h5 : mayN n
          · have hle : leadV n.ep = lead n.ep := leadV_in h5.1 hep.2
            have hM0 : ∀ (i : Nat), i < (nV.In n.seen).length → ∀ es : List Nat, (List.range (n.seen.length + 1) ++ es)[i]? = some i := fun i hi es => range_at (by omega)
            repeat' ((conv => whnf); first
              | refine ⟨_, ldc_cells hk_ (Nat.le_of_ble_eq_true rfl), ?_⟩
              | (refine callt (b := [one (vsF n.seen), agg (voF v)]) v_impl_votes_has (l2 (congrArg (fun z => AV.w (.o z)) (Nest.At.bor (hA0.mono (b' := n.seen.length + 1) (Nat.le_refl _) fun i hi => by (repeat (refine (hupd_ne (by omega)).trans ?_)); rfl))) rfl) ⟨(n.seen, v), rfl, hfs, hfv⟩ (.inr ⟨rfl, rfl⟩) (by first | assumption | omega) (fun r hr => K_impl_votes_has (a := (n.seen, v)) hr) (fun hj => ?_) (fun hj => ?_) <;> (try contradiction))
              | (refine callt (b := [agg (ndF n)]) v_impl_Node_may (congrArg (fun z => [z]) (bor_nd (n := n) (hA0.mono (b' := n.seen.length + 1) (Nat.le_refl _) fun i hi => by (repeat (refine (hupd_ne (by omega)).trans ?_)); rfl))) ⟨n, rfl, trivial⟩ (.inr ⟨rfl, rfl⟩) (by first | assumption | omega) (fun r hr => K_impl_Node_may (a := n) hr) (fun hj => ?_) (fun hj => ?_) <;> (try contradiction))
              | refine ⟨rfl, ?_⟩
              | refine ⟨_, _, _, ((by exact hk_) : (_ : Option Ob) = _), ?_⟩
              | (refine ⟨fun hc => ?_, fun hc => ?_⟩ <;> (try simp (disch := omega) only [List.length_map, wrap64] at hc) <;> (try (exfalso; first | contradiction | omega)))
              | (refine callt (b := [agg (voF ⟨_, _⟩)]) v_impl_VoteOk rfl ⟨⟨_, _⟩, rfl, (by exact pr_)⟩ (.inl rfl) (by first | assumption | omega) (fun r hr => K_impl_VoteOk (a := ⟨_, _⟩) hr) (fun hj => ?_) (fun hj => ?_) <;> (try simp only [etaPa, etaIt, etaVo] at hj) <;> (try contradiction))
              | fail)
            refine OQ.mk1 (ar := [one (vsF n.seen)]) (oA_nest rfl rfl (hA0.mono (b' := n.seen.length + 1) (Nat.le_refl _) fun i hi => by (repeat (refine (hupd_ne (by omega)).trans ?_)); rfl)) ⟨n.seen, rfl, hfs, hSM⟩ vO_impl_votes_tip_L (so_impl_votes_tip_L _) ?_
            repeat' ((conv => whnf); first
              | refine ⟨_, ldc_cells hk_ (Nat.le_of_ble_eq_true rfl), ?_⟩
              | refine ⟨_, _, _, ((by exact hk_) : (_ : Option Ob) = _), ?_⟩
              | (refine calle (b := [I _]) v_impl_VoteLeader rfl ⟨_, rfl, (by exact pr_)⟩ (.inl rfl) (by first | assumption | omega) (fun r hr => K_impl_VoteLeader (a := _) hr) ?_)
              | fail)
            refine lpH_ok (m := n) (L := (nV.In n.seen).length) (ks0 := List.range (n.seen.length + 1)) (k := 0) (f := (· + 1)) hV (by omega) ⟨rfl, rfl, rfl, rfl, congrArg (fun z : Nat => I (z : Int)) (List.length_map ..), congrArg I hle, rfl, congrArg (fun z : Nat => I (z : Int)) Nest.K_len, rfl, trivial⟩ ⟨hk_, hk_, hk_, ((triAt0 (o := (n, zVo, false)) (l := n.seen) rfl (hA0.mono (Nat.le_refl _) fun i hi => by (repeat (refine (hupd_ne (by omega)).trans ?_)); rfl) rfl).same (by omega) fun x _ => rfl), fun x hx => (by have := List.mem_range.1 hx; omega), by omega⟩ (by omega) (fun fr' H' nx' hfr' hS' hq => ?_) (fun fr' H' nx' ks k' f' cv i u h1 h2 h3 hfr' hz4 hz2 hT hkl => ?_)
            · have e3 : hearN false n v = (n, zVo, false) := eH.trans (tryN_none h5 hq)
              have hnode := hS'.node
              have hz4 := hS'.z4
              have hz2 := hS'.z2
              have hnx := hS'.nx
              rw [hfr'.eq]
              repeat' ((conv => whnf); first
                | refine ⟨_, ldc_cells hk_ (Nat.le_of_ble_eq_true rfl), ?_⟩
                | (refine ⟨?_, _, (?_ : (_ : Option Ob) = _), rfl, rfl, ?_, ?_⟩; rotate_left; (exact hk_); exact Nat.le_of_ble_eq_true rfl)
                | refine ⟨(show _ ≤ _ from (by exact ap_)), ?_⟩
                | fail)
              first
                | exact finM_triO (o := (n, zVo, false)) (n0 := n.seen.length + 1) (n1 := n.seen.length + 17) (hS'.tri.same (Nat.le_refl _) fun x hx => (hupd_ne (hS'.lt x hx).2.2.2).trans (hupd_ne (hS'.lt x hx).2.2.1)) (by omega) (fun i hi => by have := hM0 i hi []; rwa [List.append_nil] at this) ⟨⟨_, raw_cells rfl hk_ rfl, .inl rfl⟩, ⟨_, raw_cells rfl hk_ rfl, .inl rfl⟩, ⟨_, rfl, .inl rfl⟩, trivial⟩ (by simp) (by simp) fun r obs' h => ⟨(n, v), rfl, rfl, by show TriO _ _ _ _ (hearN false n v) _ _; rw [e3]; exact h⟩
                | exact And.right (finM_triO (rm' := 0) (lim := 0) (o := (n, zVo, false)) (n0 := n.seen.length + 1) (n1 := n.seen.length + 17) (hS'.tri.same (Nat.le_refl _) fun x hx => (hupd_ne (hS'.lt x hx).2.2.2).trans (hupd_ne (hS'.lt x hx).2.2.1)) (Nat.le_refl _) (fun i hi => by have := hM0 i hi []; rwa [List.append_nil] at this) ⟨⟨_, raw_cells rfl hk_ rfl, .inl rfl⟩, ⟨_, raw_cells rfl hk_ rfl, .inl rfl⟩, ⟨_, rfl, .inl rfl⟩, trivial⟩ (by simp) (by simp) fun r obs' h => ⟨(n, v), rfl, rfl, by show TriO _ _ _ _ (hearN false n v) _ _; rw [e3]; exact h⟩)
            · have e3 : hearN false n v = voteN n u.c := eH.trans (tryN_some h5 h1 h2 h3)
              rw [hfr'.eq]
              conv => whnf
              first
                | exact finM_triO (o := voteN n u.c) (n0 := n.seen.length + 1) (n1 := n.seen.length + 17) hT (by omega) (fun i hi => hM0 i hi ks) ⟨⟨_, raw_cells rfl hk_ rfl, .inl rfl⟩, ⟨_, raw_cells rfl hk_ rfl, .inl rfl⟩, ⟨_, rfl, .inl rfl⟩, trivial⟩ (by simp <;> omega) (by simp <;> omega) fun r obs' h => ⟨(n, v), rfl, rfl, by show TriO _ _ _ _ (hearN false n v) _ _; rw [e3]; exact h⟩
                | exact And.right (finM_triO (rm' := 0) (lim := 0) (o := voteN n u.c) (n0 := n.seen.length + 1) (n1 := n.seen.length + 17) hT (Nat.le_refl _) (fun i hi => hM0 i hi ks) ⟨⟨_, raw_cells rfl hk_ rfl, .inl rfl⟩, ⟨_, raw_cells rfl hk_ rfl, .inl rfl⟩, ⟨_, rfl, .inl rfl⟩, trivial⟩ (by simp <;> omega) (by simp <;> omega) fun r obs' h => ⟨(n, v), rfl, rfl, by show TriO _ _ _ _ (hearN false n v) _ _; rw [e3]; exact h⟩)
          · have e3 : hearN false n v = (n, zVo, false) := eH.trans (tryN_no h5)
            repeat' ((conv => whnf); first
              | refine ⟨_, ldc_cells hk_ (Nat.le_of_ble_eq_true rfl), ?_⟩
              | (refine callt (b := [one (vsF n.seen), agg (voF v)]) v_impl_votes_has (l2 (congrArg (fun z => AV.w (.o z)) (Nest.At.bor (hA0.mono (b' := n.seen.length + 1) (Nat.le_refl _) fun i hi => by (repeat (refine (hupd_ne (by omega)).trans ?_)); rfl))) rfl) ⟨(n.seen, v), rfl, hfs, hfv⟩ (.inr ⟨rfl, rfl⟩) (by first | assumption | omega) (fun r hr => K_impl_votes_has (a := (n.seen, v)) hr) (fun hj => ?_) (fun hj => ?_) <;> (try contradiction))
              | (refine callt (b := [agg (ndF n)]) v_impl_Node_may (congrArg (fun z => [z]) (bor_nd (n := n) (hA0.mono (b' := n.seen.length + 1) (Nat.le_refl _) fun i hi => by (repeat (refine (hupd_ne (by omega)).trans ?_)); rfl))) ⟨n, rfl, trivial⟩ (.inr ⟨rfl, rfl⟩) (by first | assumption | omega) (fun r hr => K_impl_Node_may (a := n) hr) (fun hj => ?_) (fun hj => ?_) <;> (try contradiction))
              | refine ⟨rfl, ?_⟩
              | (refine ⟨?_, _, (?_ : (_ : Option Ob) = _), rfl, rfl, ?_, ?_⟩; rotate_left; (exact hk_); exact Nat.le_of_ble_eq_true rfl)
              | refine ⟨_, _, _, ((by exact hk_) : (_ : Option Ob) = _), ?_⟩
              | refine ⟨(show _ ≤ _ from (by exact ap_)), ?_⟩
              | (refine ⟨fun hc => ?_, fun hc => ?_⟩ <;> (try simp (disch := omega) only [List.length_map, wrap64] at hc) <;> (try (exfalso; first | contradiction | omega)))
              | (refine callt (b := [agg (voF ⟨_, _⟩)]) v_impl_VoteOk rfl ⟨⟨_, _⟩, rfl, (by exact pr_)⟩ (.inl rfl) (by first | assumption | omega) (fun r hr => K_impl_VoteOk (a := ⟨_, _⟩) hr) (fun hj => ?_) (fun hj => ?_) <;> (try simp only [etaPa, etaIt, etaVo] at hj) <;> (try contradiction))
              | fail)
            first
              | exact finM_triO (o := (n, zVo, false)) (n0 := n.seen.length + 1) (n1 := n.seen.length + 17) (triAt0 (l := n.seen) rfl (hA0.mono (Nat.le_refl _) fun i hi => by (repeat (refine (hupd_ne (by omega)).trans ?_)); rfl) rfl) (by omega) (fun i hi => List.getElem?_range (by have : i < (nV.In n.seen).length := hi; omega)) ⟨⟨_, raw_cells rfl hk_ rfl, .inl rfl⟩, ⟨_, raw_cells rfl hk_ rfl, .inl rfl⟩, ⟨_, rfl, .inl rfl⟩, trivial⟩ (by simp) (by simp) fun r obs' h => ⟨(n, v), rfl, rfl, by show TriO _ _ _ _ (hearN false n v) _ _; rw [e3]; exact h⟩
              | exact And.right (finM_triO (rm' := 0) (lim := 0) (o := (n, zVo, false)) (n0 := n.seen.length + 1) (n1 := n.seen.length + 17) (triAt0 (l := n.seen) rfl (hA0.mono (Nat.le_refl _) fun i hi => by (repeat (refine (hupd_ne (by omega)).trans ?_)); rfl) rfl) (Nat.le_refl _) (fun i hi => List.getElem?_range (by have : i < (nV.In n.seen).length := hi; omega)) ⟨⟨_, raw_cells rfl hk_ rfl, .inl rfl⟩, ⟨_, raw_cells rfl hk_ rfl, .inl rfl⟩, ⟨_, rfl, .inl rfl⟩, trivial⟩ (by simp) (by simp) fun r obs' h => ⟨(n, v), rfl, rfl, by show TriO _ _ _ _ (hearN false n v) _ _; rw [e3]; exact h⟩)
        · have hVL : VotesOk (n.seen ++ [v]) := votesOk_snoc hV h1 h4
          have hll : (n.seen ++ [v]).length = n.seen.length + 1 := by simp
          have hfm : FitVs (n.seen ++ [v]) := ⟨by rw [hll]; simp only [LIM]; omega, fun u hu => Nat.le_trans (hVL.ok' hu).2.2.2 (by decide)⟩
          have hSM2 : (n.seen ++ [v]).length ≤ SM := by rw [hll]; simp only [SM]; omega
          have eH : hearN false n v = tryN false ⟨n.id, n.ep, n.vt, n.seen ++ [v]⟩ := hear_loop_post hH (by rw [addV_new h4])
          repeat' ((conv => whnf); first
            | refine ⟨_, ldc_cells hk_ (Nat.le_of_ble_eq_true rfl), ?_⟩
            | (refine callt (b := [one (vsF n.seen), agg (voF v)]) v_impl_votes_has (l2 (congrArg (fun z => AV.w (.o z)) (Nest.At.bor (hA0.mono (b' := n.seen.length + 1) (Nat.le_refl _) fun i hi => by (repeat (refine (hupd_ne (by omega)).trans ?_)); rfl))) rfl) ⟨(n.seen, v), rfl, hfs, hfv⟩ (.inr ⟨rfl, rfl⟩) (by first | assumption | omega) (fun r hr => K_impl_votes_has (a := (n.seen, v)) hr) (fun hj => ?_) (fun hj => ?_) <;> (try contradiction))
            | refine ⟨rfl, ?_⟩
            | refine ⟨_, _, _, ((by exact hk_) : (_ : Option Ob) = _), ?_⟩
            | (refine ⟨fun hc => ?_, fun hc => ?_⟩ <;> (try simp (disch := omega) only [List.length_map, wrap64] at hc) <;> (try (exfalso; first | contradiction | omega)))
            | (refine callt (b := [agg (voF ⟨_, _⟩)]) v_impl_VoteOk rfl ⟨⟨_, _⟩, rfl, (by exact pr_)⟩ (.inl rfl) (by first | assumption | omega) (fun r hr => K_impl_VoteOk (a := ⟨_, _⟩) hr) (fun hj => ?_) (fun hj => ?_) <;> (try simp only [etaPa, etaIt, etaVo] at hj) <;> (try contradiction))
            | fail)
          refine mq_with (l := n.seen) (v := v) (f := (· + 1)) (k := 0) (b := n.seen.length + 1) v_impl_votes_with_o (by omega) hfv hSM (hA0.mono (Nat.le_refl _) fun i hi => by (repeat (refine (hupd_ne (by omega)).trans ?_)); rfl) (by omega) (by rfl) fun n2 H2 e2 hA2 ho2 => ?_
          have hb0 : H2 (nV.In n.seen).length = some (.cells [cI n.id, cI n.ep, cI n.vt, .ow 0]) := (ho2 _ (by omega) (by omega)).trans hk_
          have hb2 : H2 ((nV.In n.seen).length + 16 + 16) = some (.cells [cI 0, cI 0, cI 0, .e0]) := (ho2 _ (by omega) (by omega)).trans hk_
          have hb3 : H2 ((nV.In n.seen).length + 16 + 16 + 16) = some (.cells [cI 0, .e0]) := (ho2 _ (by omega) (by omega)).trans hk_
          have hin2 : ∀ i u, n.seen[i]? = some u → H2 (i + 1) = some (nV.ob1 u) := fun i u hu => by
            have := (List.getElem?_eq_some_iff.1 hu).1
            exact (ho2 (i + 1) (by omega) (by omega)).trans (by (repeat (refine (hupd_ne (by omega)).trans ?_)); exact Nest.In_at hu)
          have h20 : H2 0 = some (nV.ob (· + 1) n.seen) := (ho2 0 (by omega) (by omega)).trans (by (repeat (refine (hupd_ne (by omega)).trans ?_)); rfl)
          have hfu : ∀ j, j < (n.seen ++ [v]).length → updF (· + 1) n.seen.length n2 j < n.seen.length + 1 ∨ updF (· + 1) n.seen.length n2 j = n2 := fun j hj => by
            rw [hll] at hj
            by_cases hjl : j = n.seen.length
            · right; exact if_pos hjl
            · left; rw [show updF (· + 1) n.seen.length n2 j = j + 1 from if_neg hjl]; omega
          have hAs : ∀ H' : Hp, (∀ i, i < n.seen.length + 1 ∨ i = n2 ∨ i = n2 + 1 → H' i = H2 i) → nV.At H' (n2 + 2) (n2 + 1) (updF (· + 1) n.seen.length n2) (n.seen ++ [v]) := fun H' hs => hA2.same (Nat.le_refl _) fun i hi => hs i (Classical.byContradiction fun hcon => hi ⟨fun e => hcon (.inr (.inr e)), fun j hj e => hcon (by
            rw [← e]
            rcases hfu j hj with h | h
            · exact .inl h
            · exact .inr (.inl h))⟩)
          have hAu : ∀ x, nV.At (hupd (nV.In n.seen).length x H2) (n2 + 2) (n2 + 1) (updF (· + 1) n.seen.length n2) (n.seen ++ [v]) := fun x => hAs _ fun i hi => hupd_ne (by omega)
          have hTr : ∀ H' : Hp, (∀ i, i < n.seen.length + 1 ∨ i = n2 ∨ i = n2 + 1 → H' i = H2 i) → TriAt H' (n2 + 2) (List.range (n.seen.length + 1) ++ [n2, n2 + 1]) false (⟨n.id, n.ep, n.vt, n.seen ++ [v]⟩, zVo, false) (n2 + 1) (updF (· + 1) n.seen.length n2) .e0 := fun H' hs => triAtW (by omega) rfl rfl ((hs 0 (by omega)).trans h20) (fun j u hj => (hs (j + 1) (.inl (by have := (List.getElem?_eq_some_iff.1 hj).1; omega))).trans (hin2 j u hj)) (hAs H' hs)
          have hM0 : ∀ (i : Nat), i < (nV.In n.seen).length → ∀ es : List Nat, (List.range (n.seen.length + 1) ++ [n2, n2 + 1] ++ es)[i]? = some i := fun i hi es => by rw [List.append_assoc]; exact range_at (by omega)
          have h21 : H2 (n2 + 1) = some (.arr ty_impl_Vote 2 (nV.K (updF (· + 1) n.seen.length n2) (n.seen ++ [v]))) := hA2.out
          clear ho2 hA2
          by_cases h5 : mayN ⟨n.id, n.ep, n.vt, n.seen ++ [v]⟩
          · have hle : leadV n.ep = lead n.ep := leadV_in h5.1 hep.2
            repeat' ((conv => whnf); first
              | refine ⟨_, ldc_cells hk_ (Nat.le_of_ble_eq_true rfl), ?_⟩
              | (refine callt (b := [agg (ndF ⟨n.id, n.ep, n.vt, n.seen ++ [v]⟩)]) v_impl_Node_may (congrArg (fun z => [z]) (bor_nd (n := ⟨n.id, n.ep, n.vt, n.seen ++ [v]⟩) (hAu _))) ⟨⟨n.id, n.ep, n.vt, n.seen ++ [v]⟩, rfl, trivial⟩ (.inr ⟨rfl, rfl⟩) (by first | assumption | omega) (fun r hr => K_impl_Node_may (a := ⟨n.id, n.ep, n.vt, n.seen ++ [v]⟩) hr) (fun hj => ?_) (fun hj => ?_) <;> (try contradiction))
              | (refine ⟨?_, _, (?_ : (_ : Option Ob) = _), rfl, rfl, ?_, ?_⟩; rotate_left; (exact hk_); exact Nat.le_of_ble_eq_true rfl)
              | fail)
            refine OQ.mk1 (ar := [one (vsF (n.seen ++ [v]))]) (oA_nest rfl rfl (hAu _)) ⟨n.seen ++ [v], rfl, hfm, hSM2⟩ vO_impl_votes_tip_L (so_impl_votes_tip_L _) ?_
            repeat' ((conv => whnf); first
              | refine ⟨_, ldc_cells hk_ (Nat.le_of_ble_eq_true rfl), ?_⟩
              | refine ⟨_, _, _, ((by exact hk_) : (_ : Option Ob) = _), ?_⟩
              | (refine calle (b := [I _]) v_impl_VoteLeader rfl ⟨_, rfl, (by exact pr_)⟩ (.inl rfl) (by first | assumption | omega) (fun r hr => K_impl_VoteLeader (a := _) hr) ?_)
              | fail)
            refine lpH_ok (m := ⟨n.id, n.ep, n.vt, n.seen ++ [v]⟩) (L := (nV.In n.seen).length) (ks0 := List.range (n.seen.length + 1) ++ [n2, n2 + 1]) (k := n2 + 1) (f := updF (· + 1) n.seen.length n2) hVL (by rw [hll]; omega) ⟨rfl, rfl, rfl, rfl, congrArg (fun z : Nat => I (z : Int)) (List.length_map ..), congrArg I hle, rfl, congrArg (fun z : Nat => I (z : Int)) Nest.K_len, rfl, trivial⟩ ⟨hk_, hk_, hk_, ((hTr _ fun i hi => by (repeat (refine (hupd_ne (by omega)).trans ?_)); rfl).same (by omega) fun x _ => rfl), fun x hx => (by rcases mem_es.1 hx with h | h; omega; simp at h; omega), by omega⟩ (by omega) (fun fr' H' nx' hfr' hS' hq => ?_) (fun fr' H' nx' ks k' f' cv i u h1 h2 h3 hfr' hz4 hz2 hT hkl => ?_)
            · have e3 : hearN false n v = (⟨n.id, n.ep, n.vt, n.seen ++ [v]⟩, zVo, false) := eH.trans (tryN_none h5 hq)
              have hnode := hS'.node
              have hz4 := hS'.z4
              have hz2 := hS'.z2
              have hnx := hS'.nx
              rw [hfr'.eq]
              repeat' ((conv => whnf); first
                | refine ⟨_, ldc_cells hk_ (Nat.le_of_ble_eq_true rfl), ?_⟩
                | (refine ⟨?_, _, (?_ : (_ : Option Ob) = _), rfl, rfl, ?_, ?_⟩; rotate_left; (exact hk_); exact Nat.le_of_ble_eq_true rfl)
                | refine ⟨(show _ ≤ _ from (by exact ap_)), ?_⟩
                | fail)
              first
                | exact finM_triO (o := (⟨n.id, n.ep, n.vt, n.seen ++ [v]⟩, zVo, false)) (n0 := n.seen.length + 1) (n1 := n.seen.length + 17) (hS'.tri.same (Nat.le_refl _) fun x hx => (hupd_ne (hS'.lt x hx).2.2.2).trans (hupd_ne (hS'.lt x hx).2.2.1)) (by omega) (fun i hi => by have := hM0 i hi []; rwa [List.append_nil] at this) ⟨⟨_, raw_cells rfl hk_ rfl, .inl rfl⟩, ⟨_, raw_cells rfl hk_ rfl, .inl rfl⟩, ⟨_, rfl, .inl rfl⟩, trivial⟩ (by simp) (by simp) fun r obs' h => ⟨(n, v), rfl, rfl, by show TriO _ _ _ _ (hearN false n v) _ _; rw [e3]; exact h⟩
                | exact And.right (finM_triO (rm' := 0) (lim := 0) (o := (⟨n.id, n.ep, n.vt, n.seen ++ [v]⟩, zVo, false)) (n0 := n.seen.length + 1) (n1 := n.seen.length + 17) (hS'.tri.same (Nat.le_refl _) fun x hx => (hupd_ne (hS'.lt x hx).2.2.2).trans (hupd_ne (hS'.lt x hx).2.2.1)) (Nat.le_refl _) (fun i hi => by have := hM0 i hi []; rwa [List.append_nil] at this) ⟨⟨_, raw_cells rfl hk_ rfl, .inl rfl⟩, ⟨_, raw_cells rfl hk_ rfl, .inl rfl⟩, ⟨_, rfl, .inl rfl⟩, trivial⟩ (by simp) (by simp) fun r obs' h => ⟨(n, v), rfl, rfl, by show TriO _ _ _ _ (hearN false n v) _ _; rw [e3]; exact h⟩)
            · have e3 : hearN false n v = voteN ⟨n.id, n.ep, n.vt, n.seen ++ [v]⟩ u.c := eH.trans (tryN_some h5 h1 h2 h3)
              rw [hfr'.eq]
              conv => whnf
              first
                | exact finM_triO (o := voteN ⟨n.id, n.ep, n.vt, n.seen ++ [v]⟩ u.c) (n0 := n.seen.length + 1) (n1 := n.seen.length + 17) hT (by omega) (fun i hi => hM0 i hi ks) ⟨⟨_, raw_cells rfl hk_ rfl, .inl rfl⟩, ⟨_, raw_cells rfl hk_ rfl, .inl rfl⟩, ⟨_, rfl, .inl rfl⟩, trivial⟩ (by simp <;> omega) (by simp <;> omega) fun r obs' h => ⟨(n, v), rfl, rfl, by show TriO _ _ _ _ (hearN false n v) _ _; rw [e3]; exact h⟩
                | exact And.right (finM_triO (rm' := 0) (lim := 0) (o := voteN ⟨n.id, n.ep, n.vt, n.seen ++ [v]⟩ u.c) (n0 := n.seen.length + 1) (n1 := n.seen.length + 17) hT (Nat.le_refl _) (fun i hi => hM0 i hi ks) ⟨⟨_, raw_cells rfl hk_ rfl, .inl rfl⟩, ⟨_, raw_cells rfl hk_ rfl, .inl rfl⟩, ⟨_, rfl, .inl rfl⟩, trivial⟩ (by simp <;> omega) (by simp <;> omega) fun r obs' h => ⟨(n, v), rfl, rfl, by show TriO _ _ _ _ (hearN false n v) _ _; rw [e3]; exact h⟩)
          · have e3 : hearN false n v = (⟨n.id, n.ep, n.vt, n.seen ++ [v]⟩, zVo, false) := eH.trans (tryN_no h5)
            repeat' ((conv => whnf); first
              | refine ⟨_, ldc_cells hk_ (Nat.le_of_ble_eq_true rfl), ?_⟩
              | (refine callt (b := [agg (ndF ⟨n.id, n.ep, n.vt, n.seen ++ [v]⟩)]) v_impl_Node_may (congrArg (fun z => [z]) (bor_nd (n := ⟨n.id, n.ep, n.vt, n.seen ++ [v]⟩) (hAu _))) ⟨⟨n.id, n.ep, n.vt, n.seen ++ [v]⟩, rfl, trivial⟩ (.inr ⟨rfl, rfl⟩) (by first | assumption | omega) (fun r hr => K_impl_Node_may (a := ⟨n.id, n.ep, n.vt, n.seen ++ [v]⟩) hr) (fun hj => ?_) (fun hj => ?_) <;> (try contradiction))
              | (refine ⟨?_, _, (?_ : (_ : Option Ob) = _), rfl, rfl, ?_, ?_⟩; rotate_left; (exact hk_); exact Nat.le_of_ble_eq_true rfl)
              | refine ⟨(show _ ≤ _ from (by exact ap_)), ?_⟩
              | fail)
            first
              | exact finM_triO (o := (⟨n.id, n.ep, n.vt, n.seen ++ [v]⟩, zVo, false)) (n0 := n.seen.length + 1) (n1 := n.seen.length + 17) (hTr _ fun i hi => by (repeat (refine (hupd_ne (by omega)).trans ?_)); rfl) (by omega) (fun i hi => by have := hM0 i hi []; rwa [List.append_nil] at this) ⟨⟨_, raw_cells rfl hk_ rfl, .inl rfl⟩, ⟨_, raw_cells rfl hk_ rfl, .inl rfl⟩, ⟨_, rfl, .inl rfl⟩, trivial⟩ (by simp) (by simp) fun r obs' h => ⟨(n, v), rfl, rfl, by show TriO _ _ _ _ (hearN false n v) _ _; rw [e3]; exact h⟩
              | exact And.right (finM_triO (rm' := 0) (lim := 0) (o := (⟨n.id, n.ep, n.vt, n.seen ++ [v]⟩, zVo, false)) (n0 := n.seen.length + 1) (n1 := n.seen.length + 17) (hTr _ fun i hi => by (repeat (refine (hupd_ne (by omega)).trans ?_)); rfl) (Nat.le_refl _) (fun i hi => by have := hM0 i hi []; rwa [List.append_nil] at this) ⟨⟨_, raw_cells rfl hk_ rfl, .inl rfl⟩, ⟨_, raw_cells rfl hk_ rfl, .inl rfl⟩, ⟨_, rfl, .inl rfl⟩, trivial⟩ (by simp) (by simp) fun r obs' h => ⟨(n, v), rfl, rfl, by show TriO _ _ _ _ (hearN false n v) _ _; rw [e3]; exact h⟩)
  · have e3 : hearN false n v = (n, zVo, false) := by unfold hearN; rw [tb_neg (fun h => h1 h.1)]; rfl
    repeat' ((conv => whnf); first
      | refine ⟨_, ldc_cells hk_ (Nat.le_of_ble_eq_true rfl), ?_⟩
      | (refine ⟨?_, _, (?_ : (_ : Option Ob) = _), rfl, rfl, ?_, ?_⟩; rotate_left; (exact hk_); exact Nat.le_of_ble_eq_true rfl)
      | (refine callt (b := [agg (voF ⟨_, _⟩)]) v_impl_VoteOk rfl ⟨⟨_, _⟩, rfl, (by exact pr_)⟩ (.inl rfl) (by first | assumption | omega) (fun r hr => K_impl_VoteOk (a := ⟨_, _⟩) hr) (fun hj => ?_) (fun hj => ?_) <;> (try simp only [etaPa, etaIt, etaVo] at hj) <;> (try contradiction))
      | fail)
    first
      | exact finM_triO (o := (n, zVo, false)) (n0 := n.seen.length + 1) (n1 := n.seen.length + 17) (triAt0 (l := n.seen) rfl (hA0.mono (Nat.le_refl _) fun i hi => by (repeat (refine (hupd_ne (by omega)).trans ?_)); rfl) rfl) (by omega) (fun i hi => List.getElem?_range (by have : i < (nV.In n.seen).length := hi; omega)) ⟨⟨_, raw_cells rfl hk_ rfl, .inl rfl⟩, ⟨_, raw_cells rfl hk_ rfl, .inl rfl⟩, ⟨_, rfl, .inl rfl⟩, trivial⟩ (by simp) (by simp) fun r obs' h => ⟨(n, v), rfl, rfl, by show TriO _ _ _ _ (hearN false n v) _ _; rw [e3]; exact h⟩
      | exact And.right (finM_triO (rm' := 0) (lim := 0) (o := (n, zVo, false)) (n0 := n.seen.length + 1) (n1 := n.seen.length + 17) (triAt0 (l := n.seen) rfl (hA0.mono (Nat.le_refl _) fun i hi => by (repeat (refine (hupd_ne (by omega)).trans ?_)); rfl) rfl) (Nat.le_refl _) (fun i hi => List.getElem?_range (by have : i < (nV.In n.seen).length := hi; omega)) ⟨⟨_, raw_cells rfl hk_ rfl, .inl rfl⟩, ⟨_, raw_cells rfl hk_ rfl, .inl rfl⟩, ⟨_, rfl, .inl rfl⟩, trivial⟩ (by simp) (by simp) fun r obs' h => ⟨(n, v), rfl, rfl, by show TriO _ _ _ _ (hearN false n v) _ _; rw [e3]; exact h⟩)
end Av
end Go.Proofs.Ytdboofnogabefaa
