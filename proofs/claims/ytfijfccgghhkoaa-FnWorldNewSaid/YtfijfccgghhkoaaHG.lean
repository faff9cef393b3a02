/- The walks: a world that began is ok, and its nodes agree. -/
import Derived.Test.YtfijfccgghhkoaaHF
import Derived.Test.YtfijfccgghhkoaaZC
import Derived.Test.YtfijfccgghhkoaaT2
set_option linter.unusedVariables false
set_option linter.unusedSimpArgs false
namespace Go.Proofs.Ytfijfccgghhkoaa
namespace Av
open Go.RowKit
attribute [local irreducible] Valid ValidM
set_option maxHeartbeats 4000000 in
theorem v_idxW : Valid Try.prog n_slices_IndexFunc_VoteS S_slices_IndexFunc_VoteS_s := by
  refine valid_of_swp mixed (is_slices_IndexFunc_VoteS S_impl_within) (by rintro _ ⟨a, rfl, _⟩; exact Nat.le_of_ble_eq_true rfl) ?_
  rintro _ rm ⟨w, rfl, _⟩ hl
  conv => whnf
  refine ⟨fun fr H nx rm' => Has fr [(0, one (vsF [])), (1, fnW w), (7, I ((0 : Nat) : Int)), (8, I ((0 : Nat) : Int))] ∧ H 0 = none ∧ rm' = rm,
    fun fr _ _ _ => 0, ⟨⟨rfl, rfl, rfl, rfl, trivial⟩, rfl, rfl⟩, ?_⟩
  rintro fr H nx rm' ⟨hfr, hH, rfl⟩
  rw [hfr.eq]
  conv => whnf
  refine ⟨rfl, ?_⟩
  conv => whnf
  refine ⟨fun h2 => absurd h2 (by decide), fun h2 => ?_⟩
  conv => whnf
  exact ⟨⟨_, rfl, rfl, w, rfl, rfl⟩, Nat.le_refl _, hH⟩
theorem v_slices_ContainsFunc_VoteS_s : Valid Try.prog n_slices_ContainsFunc_VoteS S_slices_ContainsFunc_VoteS_s := by
  refine valid_of_swp mixed is_slices_ContainsFunc_VoteS_s (by rintro _ ⟨a, rfl, _⟩; exact Nat.le_of_ble_eq_true rfl) ?_
  rintro _ rm ⟨w, rfl, h1⟩ hl
  conv => whnf
  refine ⟨⟨w, rfl, trivial⟩, v_idxW, .inl rfl, hl, fun r hr => ?_⟩
  have hr2 := K_slices_IndexFunc_VoteS_s (w := w) hr
  subst hr2
  conv => whnf
  refine ⟨rfl, ?_⟩
  conv => whnf
  refine ⟨fun h2 => absurd h2 (by decide), fun h2 => ?_⟩
  conv => whnf
  exact ⟨⟨_, rfl, rfl, w, rfl, (by refine congrArg B (Eq.symm (tb_neg ?_)); exact id)⟩, Nat.le_refl _, h0_⟩
set_option maxHeartbeats 4000000 in
set_option maxRecDepth 100000 in
theorem v_impl_WorldOk_s : Valid Try.prog n_impl_WorldOk S_impl_WorldOk_s := by
  refine valid_of_swp mixed is_impl_WorldOk_s (by rintro _ ⟨a, rfl, _⟩; exact Nat.le_of_ble_eq_true rfl) ?_
  rintro _ rm ⟨w, rfl, h1, h2, h3, h4, h5, h6, h7⟩ hl
  have cc_impl_NodeOk : S_impl_NodeOk.cost = 0 := rfl
  have cc_impl_within : S_impl_within.cost = 0 := rfl
  have cc_impl_VotesOk : S_impl_VotesOk.cost = 0 := rfl
  have cs : S_slices_ContainsFunc_VoteS_s.cost = 0 := rfl
  have cw : S_impl_WorldOk_s.cost = 0 := rfl
  have hlL : w.nodes.length ≤ LIM := by rw [h3]; decide
  repeat' ((conv => whnf); first
    | refine ⟨_, rfl, ?_⟩
    | refine ⟨rfl, ?_⟩
    | refine ⟨_, _, rfl, at_map (by assumption), ?_⟩
    | refine idx_mapX (i := 0) rfl (by assumption) ?_
    | refine idx_map (by omega) (fun x hx => ?_)
    | refine idx_mapX (wrap_dn (by omega) (by omega)) (by assumption) ?_
    | refine idx_mapE (wrap_dn (by omega) (by omega)) (by omega) (fun x hx => ?_)
    | refine idx_mapL (by omega) (by first | assumption | (simp only [LIM]; omega)) (fun x hx => ?_)
    | refine idx_mapI (by omega) (by first | omega | (simp only [List.length_map] at *; omega)) (fun x hx => ?_)
    | refine ⟨_, ldc_cells hupd_at (Nat.le_of_ble_eq_true rfl), ?_⟩
    | refine ⟨_, ldc_cells (by first | assumption | exact zk ‹_› (by omega) | exact zk (zk ‹_› (by omega)) (by omega)) (Nat.le_of_ble_eq_true rfl), ?_⟩
    | refine ⟨_, _, hupd_at, rfl, rfl, Nat.le_of_ble_eq_true rfl, ?_⟩
    | refine ⟨_, _, rfl, rfl, rfl, Nat.le_of_ble_eq_true rfl, ?_⟩
    | (refine ⟨fun hc => ?_, fun hc => ?_⟩ <;> (try simp (disch := omega) only [List.length_map, wrap64] at hc) <;> (try (exfalso; first | contradiction | omega)))
    | (refine callt (b := [I _, I _, I _]) v_impl_within rfl ⟨(_, _, _), rfl, (by exact True.intro)⟩ (.inl rfl) (by first | assumption | omega) (fun r hr => K_impl_within (a := (_, _, _)) hr) (fun hj => ?_) (fun hj => ?_) <;> (try simp only [etaPa, etaIt, etaVo] at hj) <;> (try contradiction))
    | (refine callt (b := [one (vsF _)]) v_impl_VotesOk rfl ⟨_, rfl, (by exact pr_)⟩ (.inl rfl) (by first | assumption | omega) (fun r hr => K_impl_VotesOk (a := _) hr) (fun hj => ?_) (fun hj => ?_) <;> (try simp only [etaPa, etaIt, etaVo] at hj) <;> (try contradiction))
    | fail)
  refine ⟨fun fr H nx rm' => ∃ (i : Nat), Has fr [(1, .w (.o (.ptr 1 0))), (34, one (ndsF w.nodes)), (35, I (w.nodes.map ndF).length), (36, I i)] ∧ i ≤ w.nodes.length ∧ H 1 = some (.cells ((woF w).map AC.c)) ∧ 2 ≤ nx ∧ H 0 = none ∧ rm' = rm,
    fun fr _ _ _ => w.nodes.length - ix (fr 36), ⟨0, ⟨rfl, rfl, rfl, rfl, trivial⟩, Nat.zero_le _, hk_, ln_, ne_, (by omega)⟩, ?_⟩
  rintro fr H nx rm' ⟨i, hfr, hi, hH1, hnx, hH, rfl⟩
  rw [hfr.eq]
  rcases Nat.lt_or_ge i w.nodes.length with hi' | hi'
  · obtain ⟨x, hx⟩ : ∃ x, w.nodes[i]? = some x := ⟨_, List.getElem?_eq_getElem hi'⟩
    obtain ⟨x1, x2, x3, x4⟩ := h7 i x hx
    have hw : IntKind.i64.wrap ((i : Int) + 1) = (i : Int) + 1 := by rw [wrap64] <;> omega
    have hxf : FitVs x.seen := by rw [x4]; exact ⟨Nat.zero_le _, fun v hv => by cases hv⟩
    have x5 : x.id = IntKind.i64.wrap ((i : Int) + 1) := by rw [hw]; exact x2
    repeat' ((conv => whnf); first
      | refine ⟨_, _, rfl, at_map hx, ?_⟩
      | (refine callt (b := [one (vsF []), fnW w]) v_slices_ContainsFunc_VoteS_s (l2 (congrArg (fun l => one (vsF l)) x4) (congrArg (fun x => AV.fn (.func n_impl_WorldOk_1) [] [AW.o x]) (bor_cells hk_ (fcells_c (woF w))))) ⟨w, rfl, trivial⟩ (.inr ⟨rfl, rfl⟩) (by first | assumption | omega) (fun r hr => K_slices_ContainsFunc_VoteS_s (w := w) hr) (fun hj => ?_) (fun hj => ?_) <;> (try (exact absurd hj id)))
      | refine ⟨_, rfl, ?_⟩
      | refine ⟨rfl, ?_⟩
      | refine ⟨_, _, rfl, at_map (by assumption), ?_⟩
      | refine idx_mapX (i := 0) rfl (by assumption) ?_
      | refine idx_map (by omega) (fun x hx => ?_)
      | refine idx_mapX (wrap_dn (by omega) (by omega)) (by assumption) ?_
      | refine idx_mapE (wrap_dn (by omega) (by omega)) (by omega) (fun x hx => ?_)
      | refine idx_mapL (by omega) (by first | assumption | (simp only [LIM]; omega)) (fun x hx => ?_)
      | refine idx_mapI (by omega) (by first | omega | (simp only [List.length_map] at *; omega)) (fun x hx => ?_)
      | refine ⟨_, ldc_cells hupd_at (Nat.le_of_ble_eq_true rfl), ?_⟩
      | refine ⟨_, ldc_cells (by first | assumption | exact zk ‹_› (by omega) | exact zk (zk ‹_› (by omega)) (by omega)) (Nat.le_of_ble_eq_true rfl), ?_⟩
      | refine ⟨_, _, hupd_at, rfl, rfl, Nat.le_of_ble_eq_true rfl, ?_⟩
      | refine ⟨_, _, rfl, rfl, rfl, Nat.le_of_ble_eq_true rfl, ?_⟩
      | (refine ⟨fun hc => ?_, fun hc => ?_⟩ <;> (try simp (disch := omega) only [List.length_map, wrap64] at hc) <;> (try (exfalso; first | contradiction | omega)))
      | (refine callt (b := [agg (ndF ⟨_, _, _, _⟩)]) v_impl_NodeOk rfl ⟨⟨_, _, _, _⟩, rfl, (by exact pr_)⟩ (.inl rfl) (by first | assumption | omega) (fun r hr => K_impl_NodeOk (a := ⟨_, _, _, _⟩) hr) (fun hj => ?_) (fun hj => ?_) <;> (try simp only [etaPa, etaIt, etaVo] at hj) <;> (try simp only [etaNd, etaWo] at hj) <;> (try contradiction))
      | fail)
    refine ⟨⟨i + 1, ⟨rfl, rfl, rfl, congrArg I (wrap_up (n := w.nodes.length) hi' hlL), trivial⟩, hi', (by first | assumption | exact hk_), (by omega), (by first | assumption | exact ne_), (by omega)⟩, ?_⟩
    show w.nodes.length - ix (I _) < w.nodes.length - ix (I _)
    simp only [wrap_up (n := w.nodes.length) (i := i) (by omega) hlL, ix, Int.toNat_natCast]
    omega
  · have hdone := hi'
    repeat' ((conv => whnf); first
      | refine ⟨_, rfl, ?_⟩
      | refine ⟨rfl, ?_⟩
      | refine ⟨_, _, rfl, at_map (by assumption), ?_⟩
      | refine idx_mapX (i := 0) rfl (by assumption) ?_
      | refine idx_map (by omega) (fun x hx => ?_)
      | refine idx_mapX (wrap_dn (by omega) (by omega)) (by assumption) ?_
      | refine idx_mapE (wrap_dn (by omega) (by omega)) (by omega) (fun x hx => ?_)
      | refine idx_mapL (by omega) (by first | assumption | (simp only [LIM]; omega)) (fun x hx => ?_)
      | refine idx_mapI (by omega) (by first | omega | (simp only [List.length_map] at *; omega)) (fun x hx => ?_)
      | refine ⟨_, ldc_cells hupd_at (Nat.le_of_ble_eq_true rfl), ?_⟩
      | refine ⟨_, ldc_cells (by first | assumption | exact zk ‹_› (by omega) | exact zk (zk ‹_› (by omega)) (by omega)) (Nat.le_of_ble_eq_true rfl), ?_⟩
      | refine ⟨_, _, hupd_at, rfl, rfl, Nat.le_of_ble_eq_true rfl, ?_⟩
      | refine ⟨_, _, rfl, rfl, rfl, Nat.le_of_ble_eq_true rfl, ?_⟩
      | (refine ⟨fun hc => ?_, fun hc => ?_⟩ <;> (try simp (disch := omega) only [List.length_map, wrap64] at hc) <;> (try (exfalso; first | contradiction | omega)))
      | fail)
    exact ⟨⟨_, rfl, rfl, w, rfl, (by refine congrArg B (Eq.symm (tb_pos ?_)); exact True.intro)⟩, (by omega), (by first | assumption | exact ne_)⟩
set_option maxHeartbeats 4000000 in
set_option maxRecDepth 100000 in
theorem v_laws_lwFits : Valid Try.prog n_laws_lwFits S_laws_lwFits := by
  refine valid_of_swp mixed is_laws_lwFits (by rintro _ ⟨a, rfl, _⟩; exact Nat.le_of_ble_eq_true rfl) ?_
  rintro _ rm ⟨⟨c, d⟩, rfl, hpre⟩ hl
  try dsimp only at hpre
  have hpre0 := hpre
  obtain ⟨hp1, hp2⟩ := hpre
  have hC : ChIn c d := by rw [hp1, hp2]; exact ⟨⟨fun i x h => by simp at h, Nat.zero_le _⟩, ⟨fun i x h => by simp at h, Nat.zero_le _⟩, rfl⟩
  have hl1 : c.length ≤ LIM := by rw [hp1]; exact Nat.zero_le _
  have hl2 : d.length ≤ LIM := by rw [hp2]; exact Nat.zero_le _
  repeat' ((conv => whnf); first
    | refine ⟨_, rfl, ?_⟩
    | refine ⟨rfl, ?_⟩
    | (refine ⟨fun hc => ?_, fun hc => ?_⟩ <;> (try simp (disch := omega) only [List.length_map, wrap64] at hc) <;> (try (exfalso; first | contradiction | omega)))
    | (refine callt (b := [one (chF _), one (chF _)]) v_impl_ChainIn rfl ⟨(_, _), rfl, (by refine ⟨?_, ?_⟩ <;> (exact pr_))⟩ (.inl rfl) (by first | assumption | omega) (fun r hr => K_impl_ChainIn (a := (_, _)) hr) (fun hj => ?_) (fun hj => ?_) <;> (try simp only [etaPa, etaIt, etaVo] at hj) <;> (try contradiction))
    | exact ⟨⟨_, rfl, rfl, (c, d), rfl, (by refine congrArg B (Eq.symm (tb_pos ?_)); (try dsimp only); first | done | exact absurd True.intro hj | (exact True.intro))⟩, (by first | exact Nat.le_refl _ | omega), (by exact h0_)⟩
    | exact ⟨⟨_, rfl, rfl, (c, d), rfl, (by refine congrArg B (Eq.symm (tb_neg ?_)); (try dsimp only); first | done | exact absurd True.intro hj | (exact True.intro))⟩, (by first | exact Nat.le_refl _ | omega), (by exact h0_)⟩
    | fail)
set_option maxHeartbeats 4000000 in
set_option maxRecDepth 100000 in
theorem v_laws_lwAgreed : Valid Try.prog n_laws_lwAgreed S_laws_lwAgreed := by
  refine valid_of_swp mixed is_laws_lwAgreed (by rintro _ ⟨a, rfl, _⟩; exact Nat.le_of_ble_eq_true rfl) ?_
  rintro _ rm ⟨w, rfl, hpre⟩ hl
  try dsimp only at hpre
  have hpre0 := hpre
  obtain ⟨hp1, hp2⟩ := hpre
  have hlL : w.nodes.length ≤ LIM := Nat.le_trans hp2 (by decide)
  have cc_impl_TreeFinal : S_impl_TreeFinal.cost = 0 := rfl
  have cc_laws_lwFits : S_laws_lwFits.cost = 0 := rfl
  have hnil : FitVs [] := ⟨Nat.zero_le _, fun v hv => by cases hv⟩
  refine ⟨fun fr H nx rm' => ∃ (i : Nat), Has fr [(1, .w (.o (.ptr 1 0))), (3, I i)] ∧ i ≤ w.nodes.length ∧ H 1 = some (.cells ((woF w).map AC.c)) ∧ 2 ≤ nx ∧ H 0 = none ∧ rm' = rm,
    fun fr _ _ _ => w.nodes.length - ix (fr 3), ⟨0, ⟨rfl, rfl, trivial⟩, Nat.zero_le _, hk_, ln_, ne_, rfl⟩, ?_⟩
  rintro fr H nx rm' ⟨i, hfr, hi, hH1, hnx, hH, rfl⟩
  rw [hfr.eq]
  rcases Nat.lt_or_ge i w.nodes.length with hi' | hi'
  · obtain ⟨x, hx⟩ : ∃ x, w.nodes[i]? = some x := ⟨_, List.getElem?_eq_getElem hi'⟩
    have x4 : x.seen = [] := hp1 x (List.mem_of_getElem? hx)
    repeat' ((conv => whnf); first
      | refine ⟨_, rfl, ?_⟩
      | refine ⟨rfl, ?_⟩
      | refine ⟨_, _, rfl, at_map (by assumption), ?_⟩
      | refine idx_mapX (i := 0) rfl (by assumption) ?_
      | refine idx_map (by omega) (fun x hx => ?_)
      | refine idx_mapX (wrap_dn (by omega) (by omega)) (by assumption) ?_
      | refine idx_mapE (wrap_dn (by omega) (by omega)) (by omega) (fun x hx => ?_)
      | refine idx_mapL (by omega) (by first | assumption | (simp only [LIM]; omega)) (fun x hx => ?_)
      | refine idx_mapI (by omega) (by first | omega | (simp only [List.length_map] at *; omega)) (fun x hx => ?_)
      | refine ⟨_, ldc_cells hupd_at (Nat.le_of_ble_eq_true rfl), ?_⟩
      | refine ⟨_, ldc_cells (by first | assumption | exact zk ‹_› (by omega) | exact zk (zk ‹_› (by omega)) (by omega)) (Nat.le_of_ble_eq_true rfl), ?_⟩
      | (refine ⟨fun hc => ?_, fun hc => ?_⟩ <;> (try simp (disch := omega) only [List.length_map, wrap64] at hc) <;> (try (exfalso; first | contradiction | omega)))
      | fail)
    refine ⟨fun fr' H' nx' rm'' => ∃ (j : Nat), Has fr' [(1, .w (.o (.ptr 1 0))), (3, I i), (4, I j)] ∧ j ≤ i ∧ H' 1 = some (.cells ((woF w).map AC.c)) ∧ 2 ≤ nx' ∧ H' 0 = none ∧ rm'' = rm', fun fr' _ _ _ => i - ix (fr' 4), ⟨0, ⟨rfl, rfl, rfl, trivial⟩, Nat.zero_le _, hk_, ln_, ne_, rfl⟩, ?_⟩
    clear hfr hH1 hnx hH
    rintro fr2 H nx rm2 ⟨j, hfr2, hj, hH1, hnx, hH, rfl⟩
    rw [hfr2.eq]
    rcases Nat.lt_or_ge j i with hj' | hj'
    · obtain ⟨y, hy⟩ : ∃ y, w.nodes[j]? = some y := ⟨_, List.getElem?_eq_getElem (by omega)⟩
      have y4 : y.seen = [] := hp1 y (List.mem_of_getElem? hy)
      repeat' ((conv => whnf); first
        | refine ⟨_, _, rfl, at_map hx, ?_⟩
        | refine ⟨_, _, rfl, at_map hy, ?_⟩
        | (refine calle (b := [one (vsF [])]) v_impl_TreeFinal (congrArg (fun l => [one (vsF l)]) x4) ⟨[], rfl, hnil, (by decide)⟩ (.inl rfl) (by first | assumption | omega) (fun r hr => (K_impl_TreeFinal (a := []) hr).trans (congrArg (fun l => one (chF l)) finT_nil)) ?_)
        | (refine calle (b := [one (vsF [])]) v_impl_TreeFinal (congrArg (fun l => [one (vsF l)]) y4) ⟨[], rfl, hnil, (by decide)⟩ (.inl rfl) (by first | assumption | omega) (fun r hr => (K_impl_TreeFinal (a := []) hr).trans (congrArg (fun l => one (chF l)) finT_nil)) ?_)
        | (refine callt (b := [one (chF []), one (chF [])]) v_laws_lwFits rfl ⟨([], []), rfl, rfl, rfl⟩ (.inl rfl) (by first | assumption | omega) (fun r hr => K_laws_lwFits (a := ([], [])) hr) (fun hj => ?_) (fun hj => ?_) <;> (try (exact absurd trivial hj)))
        | refine ⟨_, rfl, ?_⟩
        | refine ⟨rfl, ?_⟩
        | refine ⟨_, _, rfl, at_map (by assumption), ?_⟩
        | refine idx_mapX (i := 0) rfl (by assumption) ?_
        | refine idx_map (by omega) (fun x hx => ?_)
        | refine idx_mapX (wrap_dn (by omega) (by omega)) (by assumption) ?_
        | refine idx_mapE (wrap_dn (by omega) (by omega)) (by omega) (fun x hx => ?_)
        | refine idx_mapL (by omega) (by first | assumption | (simp only [LIM]; omega)) (fun x hx => ?_)
        | refine idx_mapI (by omega) (by first | omega | (simp only [List.length_map] at *; omega)) (fun x hx => ?_)
        | refine ⟨_, ldc_cells hupd_at (Nat.le_of_ble_eq_true rfl), ?_⟩
        | refine ⟨_, ldc_cells (by first | assumption | exact zk ‹_› (by omega) | exact zk (zk ‹_› (by omega)) (by omega)) (Nat.le_of_ble_eq_true rfl), ?_⟩
        | (refine ⟨fun hc => ?_, fun hc => ?_⟩ <;> (try simp (disch := omega) only [List.length_map, wrap64] at hc) <;> (try (exfalso; first | contradiction | omega)))
        | (refine ⟨⟨j + 1, ⟨rfl, rfl, congrArg I (wrap_up (n := i) (by omega) (by omega)), trivial⟩, (by omega), (by first | assumption | exact hk_), (by omega), (by first | assumption | exact ne_), rfl⟩, ?_⟩; show i - ix (I _) < i - ix (I _); simp only [wrap_up (n := i) (i := j) (by omega) (by omega), ix, Int.toNat_natCast]; omega)
        | fail)
    · have hdone := hj'
      repeat' ((conv => whnf); first
        | refine ⟨_, rfl, ?_⟩
        | refine ⟨rfl, ?_⟩
        | refine ⟨_, _, rfl, at_map (by assumption), ?_⟩
        | refine idx_mapX (i := 0) rfl (by assumption) ?_
        | refine idx_map (by omega) (fun x hx => ?_)
        | refine idx_mapX (wrap_dn (by omega) (by omega)) (by assumption) ?_
        | refine idx_mapE (wrap_dn (by omega) (by omega)) (by omega) (fun x hx => ?_)
        | refine idx_mapL (by omega) (by first | assumption | (simp only [LIM]; omega)) (fun x hx => ?_)
        | refine idx_mapI (by omega) (by first | omega | (simp only [List.length_map] at *; omega)) (fun x hx => ?_)
        | refine ⟨_, ldc_cells hupd_at (Nat.le_of_ble_eq_true rfl), ?_⟩
        | refine ⟨_, ldc_cells (by first | assumption | exact zk ‹_› (by omega) | exact zk (zk ‹_› (by omega)) (by omega)) (Nat.le_of_ble_eq_true rfl), ?_⟩
        | (refine ⟨fun hc => ?_, fun hc => ?_⟩ <;> (try simp (disch := omega) only [List.length_map, wrap64] at hc) <;> (try (exfalso; first | contradiction | omega)))
        | fail)
      refine ⟨⟨i + 1, ⟨rfl, congrArg I (wrap_up (n := w.nodes.length) hi' hlL), trivial⟩, hi', (by first | assumption | exact hk_), (by omega), (by first | assumption | exact ne_), rfl⟩, ?_⟩
      show w.nodes.length - ix (I _) < w.nodes.length - ix (I _)
      simp only [wrap_up (n := w.nodes.length) (i := i) (by omega) hlL, ix, Int.toNat_natCast]
      omega
  · have hdone := hi'
    repeat' ((conv => whnf); first
      | refine ⟨_, rfl, ?_⟩
      | refine ⟨rfl, ?_⟩
      | refine ⟨_, _, rfl, at_map (by assumption), ?_⟩
      | refine idx_mapX (i := 0) rfl (by assumption) ?_
      | refine idx_map (by omega) (fun x hx => ?_)
      | refine idx_mapX (wrap_dn (by omega) (by omega)) (by assumption) ?_
      | refine idx_mapE (wrap_dn (by omega) (by omega)) (by omega) (fun x hx => ?_)
      | refine idx_mapL (by omega) (by first | assumption | (simp only [LIM]; omega)) (fun x hx => ?_)
      | refine idx_mapI (by omega) (by first | omega | (simp only [List.length_map] at *; omega)) (fun x hx => ?_)
      | refine ⟨_, ldc_cells hupd_at (Nat.le_of_ble_eq_true rfl), ?_⟩
      | refine ⟨_, ldc_cells (by first | assumption | exact zk ‹_› (by omega) | exact zk (zk ‹_› (by omega)) (by omega)) (Nat.le_of_ble_eq_true rfl), ?_⟩
      | (refine ⟨fun hc => ?_, fun hc => ?_⟩ <;> (try simp (disch := omega) only [List.length_map, wrap64] at hc) <;> (try (exfalso; first | contradiction | omega)))
      | exact ⟨⟨_, rfl, rfl, w, rfl, (by refine congrArg B (Eq.symm (tb_pos ?_)); (try dsimp only); first | done | exact absurd True.intro hj | (exact True.intro))⟩, (by first | exact Nat.le_refl _ | omega), (by exact h0_)⟩
      | exact ⟨⟨_, rfl, rfl, w, rfl, (by refine congrArg B (Eq.symm (tb_neg ?_)); (try dsimp only); first | done | exact absurd True.intro hj | (exact True.intro))⟩, (by first | exact Nat.le_refl _ | omega), (by exact h0_)⟩
      | fail)
set_option maxHeartbeats 4000000 in
set_option maxRecDepth 100000 in
theorem v_spec_DrawWorldNew : Valid Try.prog n_spec_DrawWorldNew S_spec_DrawWorldNew := by
  refine valid_of_swp mixed is_spec_DrawWorldNew (by rintro _ ⟨a, rfl, _⟩; exact Nat.le_of_ble_eq_true rfl) ?_
  rintro _ rm ⟨code, rfl, hpre⟩ hl
  try dsimp only at hpre
  have hpre0 := hpre
  have hp1 := hpre
  have s1 : S_spec_l6Open.st = 0 := rfl
  have c3 : S_spec_DrawWorldNew.cost = 1 := rfl
  have c2 : S_spec_l6Open.cost = 0 := rfl
  have cc_spec_l6Rd_pick : S_spec_l6Rd_pick.cost = 1 := rfl
  repeat' ((conv => whnf); first
    | refine ⟨_, rfl, ?_⟩
    | refine ⟨rfl, ?_⟩
    | refine ⟨_, ((by exact hk_) : (_ : Option Ob) = _), ?_⟩
    | (refine ⟨fun hc => ?_, fun hc => ?_⟩ <;> (try simp (disch := omega) only [List.length_map, wrap64] at hc))
    | (refine mq_open (Q := fun g => ∃ b, g = byF b ∧ RdOk b) (ar := [one (byF _)]) v_spec_l6Open (by first | assumption | omega) rfl rfl ⟨_, rfl, rfl, (by assumption)⟩ (fun r obs' h => by obtain ⟨b, h1, h2, h3⟩ := K_spec_l6Open h; exact ⟨byF b, h1, h2, b, rfl, h3⟩) (fun g hg => ?_); obtain ⟨b, rfl, hrd⟩ := hg)
    | fail)
  repeat' ((conv => whnf); first
    | refine ⟨_, rfl, ?_⟩
    | refine ⟨rfl, ?_⟩
    | refine ⟨_, ((by exact hk_) : (_ : Option Ob) = _), ?_⟩
    | (refine ⟨fun hc => ?_, fun hc => ?_⟩ <;> (try simp (disch := omega) only [List.length_map, wrap64] at hc))
    | (refine callrd (by exact hk_) rfl rfl ⟨(_, _), rfl, (by exact pr_)⟩ v_spec_l6Rd_pick (by omega) (fun r hr => ?_); have hj := K_spec_l6Rd_pick (a := (_, _)) hr; clear hr; obtain ⟨k, rfl, hk0, hk1⟩ := hj; dsimp only at hk1; (try simp (disch := omega) only [List.length_map, ncast, wrap64] at hk1))
    | fail)
  have hw : IntKind.i64.wrap (k - 1) = k - 1 := by rw [wrap64] <;> omega
  refine ⟨⟨_, rfl, rfl, code, rfl, ?_⟩, (by omega), h0_⟩
  unfold R_spec_DrawWorldNew
  refine ⟨_, rfl, ?_⟩
  rw [hw]
  exact ⟨by omega, by omega⟩
end Av
end Go.Proofs.Ytfijfccgghhkoaa
