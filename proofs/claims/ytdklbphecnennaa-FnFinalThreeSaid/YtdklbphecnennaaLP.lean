/- The walks: the law FnFinalThree. -/
import Derived.Test.YtdklbphecnennaaP3
import Derived.Test.YtdklbphecnennaaQ3
set_option linter.unusedVariables false
set_option linter.unusedSimpArgs false
namespace Go.Proofs.Ytdklbphecnennaa
namespace Av
open Go.RowKit

/-- Votes of the nodes 2, 3, .. for a chain. -/
def rowN (d : List It) : Nat → List Vo
  | 0 => []
  | j + 1 => rowN d j ++ [⟨((j + 2 : Nat) : Int), d⟩]
/-- Votes of three nodes for each of the first beginnings. -/
def three (c : List It) : Nat → List Vo
  | 0 => []
  | i + 1 => three c i ++ rowN (c.take (i + 1)) 3
theorem rowN_len (d : List It) : ∀ j, (rowN d j).length = j
  | 0 => rfl
  | j + 1 => by simp only [rowN, List.length_append, List.length_cons, List.length_nil, rowN_len d j]
theorem three_len (c : List It) : ∀ i, (three c i).length = 3 * i
  | 0 => rfl
  | i + 1 => by simp only [three, List.length_append, rowN_len, three_len c i]; omega
section
variable {x y z : It}
theorem three_eq : three [x, y, z] 3 = [⟨2, [x]⟩, ⟨3, [x]⟩, ⟨4, [x]⟩, ⟨2, [x, y]⟩, ⟨3, [x, y]⟩, ⟨4, [x, y]⟩, ⟨2, [x, y, z]⟩, ⟨3, [x, y, z]⟩, ⟨4, [x, y, z]⟩] := rfl
theorem three_fit : FitVs (three [x, y, z] 3) ∧ (three [x, y, z] 3).length < LIM := by
  rw [three_eq]
  refine ⟨⟨Nat.le_of_ble_eq_true rfl, fun v hv => ?_⟩, Nat.le_of_ble_eq_true rfl⟩
  simp only [List.mem_cons, List.not_mem_nil, or_false] at hv
  rcases hv with rfl | rfl | rfl | rfl | rfl | rfl | rfl | rfl | rfl <;> exact Nat.le_trans (Nat.le_of_ble_eq_true rfl : _ ≤ 16) (by decide)
theorem three_c {L : List Vo} (hL : ∀ v, v ∈ L → v ∈ three [x, y, z] 3) {e : List It} (h : Sure L e) : e = [] ∨ e = [x] ∨ e = [x, y] ∨ e = [x, y, z] := by
  by_cases h0 : e = []
  · exact .inl h0
  · obtain ⟨v, hv, rfl⟩ := h.vote h0
    have := hL v hv
    rw [three_eq] at this
    simp only [List.mem_cons, List.not_mem_nil, or_false] at this
    rcases this with rfl | rfl | rfl | rfl | rfl | rfl | rfl | rfl | rfl <;> simp
theorem fin_short {e : List It} (h : e.length < 3) : finIn e = 0 := by
  unfold finIn
  rw [show e.length - 2 = 0 from by omega]; rfl
theorem con3_three : Con3 [x, y, z] 0 ↔ Nxt x.e y.e ∧ Nxt y.e z.e := con3_iff rfl rfl rfl
theorem fin_none {L : List Vo} (h : ∀ e, Sure L e → finIn e = 0) : (finT L).length = 0 := by
  by_cases hV : VotesOk L
  · rw [fin_ok hV, fin_len]; exact h _ (mem_allS_iff.1 (shown_mem L))
  · rw [finT_no hV]; rfl
theorem three_b (h : ¬ (Nxt x.e y.e ∧ Nxt y.e z.e)) : (finT (three [x, y, z] 3)).length = 0 := by
  refine fin_none fun e he => ?_
  rcases three_c (fun v h => h) he with rfl | rfl | rfl | rfl
  · rfl
  · exact fin_short (by simp)
  · exact fin_short (by simp)
  · show finAt [x, y, z] 1 = 0
    rw [finAt_no (mt con3_three.1 h)]; rfl
theorem few {L : List Vo} {c : List It} {a b : Int} (h : ∀ v, v ∈ L → v.c = c → v.n = a ∨ v.n = b) : (voters L c).length ≤ 2 := by
  show _ ≤ ([a, b] : List Int).length
  refine List.Nodup.length_le_of_subset (List.Nodup.sublist List.filter_sublist (by decide)) fun n hn => ?_
  have := h _ (mem_voters.1 hn).2 rfl
  simpa using this
theorem three_drop : (finT ((three [x, y, z] 3).drop 1)).length = 0 := by
  refine fin_none fun e he => ?_
  have hs : ∀ v, v ∈ (three [x, y, z] 3).drop 1 → v ∈ three [x, y, z] 3 := fun v h => List.mem_of_mem_drop h
  have h2 : (voters ((three [x, y, z] 3).drop 1) [x]).length ≤ 2 := few (a := 3) (b := 4) fun v hv hc => by
    rw [three_eq] at hv
    simp only [List.drop, List.mem_cons, List.not_mem_nil, or_false] at hv
    rcases hv with rfl | rfl | rfl | rfl | rfl | rfl | rfl | rfl <;> simp at hc ⊢
  rcases three_c hs he with rfl | rfl | rfl | rfl
  · rfl
  · exact fin_short (by simp)
  · exact fin_short (by simp)
  · have := he 1 (by decide) (by simp)
    unfold SureAt at this
    simp only [List.take] at this
    omega
theorem three_take : (finT ((three [x, y, z] 3).take 8)).length = 0 := by
  refine fin_none fun e he => ?_
  have hs : ∀ v, v ∈ (three [x, y, z] 3).take 8 → v ∈ three [x, y, z] 3 := fun v h => List.mem_of_mem_take h
  have h2 : (voters ((three [x, y, z] 3).take 8) [x, y, z]).length ≤ 2 := few (a := 2) (b := 3) fun v hv hc => by
    rw [three_eq] at hv
    simp only [List.take, List.mem_cons, List.not_mem_nil, or_false] at hv
    rcases hv with rfl | rfl | rfl | rfl | rfl | rfl | rfl | rfl <;> simp at hc ⊢
  rcases three_c hs he with rfl | rfl | rfl | rfl
  · rfl
  · exact fin_short (by simp)
  · exact fin_short (by simp)
  · have := he 3 (by decide) (by simp)
    unfold SureAt at this
    simp only [List.take] at this
    omega
theorem chainOk_take {c : List It} (h : ChainOk c) (k : Nat) : ChainOk (c.take k) := by
  refine ⟨fun i x hx => ?_, by have := h.2; simp only [List.length_take]; omega⟩
  have hi : i < k := by
    rcases Nat.lt_or_ge i k with h1 | h1
    · exact h1
    · rw [List.getElem?_eq_none (by simp only [List.length_take]; omega)] at hx; cases hx
  rw [List.getElem?_take_of_lt hi] at hx
  obtain ⟨h1, h2, h3⟩ := h.1 i x hx
  refine ⟨h1, h2, fun j y e hy => h3 j y e ?_⟩
  rw [List.getElem?_take_of_lt (by omega)] at hy
  exact hy
theorem three_a (hok : ChainOk [x, y, z]) (h : Nxt x.e y.e ∧ Nxt y.e z.e) : finT (three [x, y, z] 3) = [x, y] := by
  have h1 : ChainOk [x] := chainOk_take hok 1
  have h2 : ChainOk [x, y] := chainOk_take hok 2
  have hV : VotesOk (three [x, y, z] 3) := by
    rw [votesOk_iff, three_eq]
    refine ⟨fun v hv => ?_, by simp⟩
    simp only [List.mem_cons, List.not_mem_nil, or_false] at hv
    rcases hv with rfl | rfl | rfl | rfl | rfl | rfl | rfl | rfl | rfl <;> exact ⟨⟨by simp, by simp⟩, by simp, by assumption⟩
  have hc : [x, y, z] ∈ allS (three [x, y, z] 3) := by
    rw [mem_allS_iff]
    intro n hn1 hn2
    have hn2 : n ≤ 3 := hn2
    have : n = 1 ∨ n = 2 ∨ n = 3 := by omega
    unfold SureAt
    show ([2, 3, 4] : List Int).length ≤ _
    refine List.Nodup.length_le_of_subset (by decide) fun m hm => ?_
    rw [mem_voters, three_eq]
    simp only [List.mem_cons, List.not_mem_nil, or_false] at hm
    rcases this with rfl | rfl | rfl <;> rcases hm with rfl | rfl | rfl <;> simp
  have hf : finIn [x, y, z] = 2 := finAt_yes (con3_three.2 h)
  have hm := shown_max hc
  rw [hf] at hm
  rw [fin_ok hV]
  have hs := three_c (fun v h => h) (mem_allS_iff.1 (shown_mem (three [x, y, z] 3)))
  unfold fin
  generalize shown (three [x, y, z] 3) = w at hm hs
  rcases hs with rfl | rfl | rfl | rfl
  · rw [fin_short (by simp)] at hm; omega
  · rw [fin_short (by simp)] at hm; omega
  · rw [fin_short (by simp)] at hm; omega
  · rw [hf]; rfl
end
theorem three_snoc {c : List It} {i j : Nat} : three c i ++ rowN (c.take (i + 1)) j ++ [⟨((j + 2 : Nat) : Int), c.take (i + 1)⟩] = three c i ++ rowN (c.take (i + 1)) (j + 1) := by
  rw [List.append_assoc]; rfl
theorem three_succ (c : List It) (i : Nat) : three c i ++ rowN (c.take (i + 1)) 3 = three c (i + 1) := rfl
theorem three_row (c : List It) (i : Nat) : three c i ++ rowN (c.take (i + 1)) 0 = three c i := List.append_nil _
theorem three_nil (c : List It) : ([] : List Vo) = three c 0 := rfl
theorem slc_from {fr : Env} {sz i : Nat} {xs : List (List FV)} {x : X} {H : Hp} (hx : ev fr x = I i) (hi : i ≤ xs.length) : slcA fr sz (S sz xs) (some x) none none H = some (.one (S sz (xs.drop i)) H) := by
  simp [slcA, bnd, hx, hi]
theorem map_drop' {α β : Type} {f : α → β} {l : List α} {i : Nat} : (l.map f).drop i = (l.drop i).map f := List.map_drop.symm
attribute [local irreducible] finT three rowN
attribute [local irreducible] Valid ValidM
set_option maxHeartbeats 4000000 in
set_option maxRecDepth 100000 in
theorem v_laws_FnFinalThree : Valid Try.prog n_laws_FnFinalThree S_laws_FnFinalThree := by
  refine valid_of_swp mixed is_laws_FnFinalThree (by rintro _ ⟨a, rfl, _⟩; exact Nat.le_of_ble_eq_true rfl) ?_
  rintro _ rm ⟨⟨code, more⟩, rfl, hpre⟩ hl
  try dsimp only at hpre
  have hpre0 := hpre
  obtain ⟨hp1, hp2⟩ := hpre
  dsimp only
  have cc_laws_FnFinalThree : S_laws_FnFinalThree.cost = 200000 := rfl
  have cc_spec_DrawTreeFinal : S_spec_DrawTreeFinal.cost = 60000 := rfl
  have cc_impl_TreeFinal : S_impl_TreeFinal.cost = 0 := rfl
  have cc_spec_TreeFinal : S_spec_TreeFinal.cost = 0 := rfl
  have cc_laws_lwSame : S_laws_lwSame.cost = 0 := rfl
  repeat' ((conv => whnf); first
    | refine ⟨_, rfl, ?_⟩
    | refine ⟨rfl, ?_⟩
    | refine ⟨_, ldc_cells hupd_at (Nat.le_of_ble_eq_true rfl), ?_⟩
    | refine ⟨_, ldc_cells (by first | assumption | exact zk ‹_› (by omega) | exact zk (zk ‹_› (by omega)) (by omega)) (Nat.le_of_ble_eq_true rfl), ?_⟩
    | refine ⟨_, _, hupd_at, rfl, rfl, Nat.le_of_ble_eq_true rfl, ?_⟩
    | refine ⟨_, _, rfl, rfl, rfl, Nat.le_of_ble_eq_true rfl, ?_⟩
    | (refine ⟨?_, _, (?_ : (_ : Option Ob) = _), rfl, rfl, ?_, ?_⟩; rotate_left; (exact hk_); exact Nat.le_of_ble_eq_true rfl)
    | refine ⟨_, _, _, _, ((by exact hk_) : (_ : Option Ob) = _), fill_at (by omega), rfl, rfl, Nat.le_of_ble_eq_true rfl, ?_⟩
    | refine ⟨_, _, _, _, ((by exact hk_) : (_ : Option Ob) = _), at_mapA (by assumption), rfl, rfl, Nat.le_of_ble_eq_true rfl, ?_⟩
    | refine ⟨_, ldc_pa (by exact hk_) (at_mapA (by assumption)) (Nat.le_of_ble_eq_true rfl), ?_⟩
    | refine ⟨_, rfl, rfl, _, ((by exact hk_) : (_ : Option Ob) = _), (by exact ap_), ?_⟩
    | refine ⟨_, news_ow hupd_at, newsz_ow hupd_at, _, ((by exact hk_) : (_ : Option Ob) = _), (by exact ap_), ?_⟩
    | refine ⟨_, _, _, ((by exact hk_) : (_ : Option Ob) = _), ?_⟩
    | refine ⟨_, ((by exact hk_) : (_ : Option Ob) = _), ?_⟩
    | refine ⟨(show _ ≠ _ from (by first | decide | omega)), ?_⟩
    | refine ⟨(show _ ≤ _ from (by exact ap_)), ?_⟩
    | (refine ⟨fun hc => ?_, fun hc => ?_⟩ <;> (try simp (disch := omega) only [List.length_map, wrap64] at hc))
    | (refine ⟨_, slc_to rfl (by first | omega | (simp only [List.length_map] at *; omega)), ?_⟩; rw [map_take'])
    | (refine ⟨_, slc_toI rfl (by omega) (by first | omega | (simp only [List.length_map] at *; omega)), ?_⟩; rw [map_take'])
    | (refine callk (b := [one (byF _)]) v_spec_DrawTreeFinal rfl ⟨_, rfl, (by exact pr_)⟩ (.inl rfl) (by omega) (fun r hr => ?_); have hj := K_spec_DrawTreeFinal (a := _) hr; clear hr; obtain ⟨l, rfl, hdl⟩ := hj)
    | exact ⟨⟨_, rfl, rfl, (code, more), rfl, (by unfold R_laws_FnFinalThree; dsimp only; first | done | exact absurd True.intro hj | (rfl))⟩, (by first | exact Nat.le_refl _ | omega), (by exact h0_)⟩
    | fail)
  have hfl : FitVs l := hdl.fit
  have hln : l.length < LIM := hdl.lt
  have hll : l.length ≤ 400 := hdl.1
  have hft := finT_len hfl
  obtain ⟨k, hk20, hk⟩ : ∃ k : Nat, k < 20 ∧ Int.tmod (((more.map fun n => [FV.v (.int .u8 n)]).length : Nat) : Int) 20 = (k : Int) :=
    ⟨_, Nat.mod_lt _ (by decide), rem_at (m := 20) rfl (by decide)⟩
  obtain ⟨A, hA⟩ : ∃ A : Int, A = IntKind.i64.wrap (1 + Int.tmod (((more.map fun n => [FV.v (.int .u8 n)]).length : Nat) : Int) 20) := ⟨_, rfl⟩
  have hA1 : A = (k : Int) + 1 := by rw [hA, hk, wrap64] <;> omega
  obtain ⟨x, hx⟩ : ∃ x : It, x = ⟨A, ⟨1, 3, 1⟩⟩ := ⟨_, rfl⟩
  obtain ⟨y, hy⟩ : ∃ x : It, x = ⟨IntKind.i64.wrap (A + 1), ⟨1, 3, 1⟩⟩ := ⟨_, rfl⟩
  obtain ⟨z, hz⟩ : ∃ x : It, x = ⟨IntKind.i64.wrap (A + 2), ⟨1, 3, 1⟩⟩ := ⟨_, rfl⟩
  obtain ⟨u, hu⟩ : ∃ x : It, x = ⟨IntKind.i64.wrap (A + 3), ⟨1, 3, 1⟩⟩ := ⟨_, rfl⟩
  repeat' ((conv => whnf); first
    | refine ⟨_, rfl, ?_⟩
    | refine ⟨rfl, ?_⟩
    | refine ⟨_, ldc_cells hupd_at (Nat.le_of_ble_eq_true rfl), ?_⟩
    | refine ⟨_, ldc_cells (by first | assumption | exact zk ‹_› (by omega) | exact zk (zk ‹_› (by omega)) (by omega)) (Nat.le_of_ble_eq_true rfl), ?_⟩
    | refine ⟨_, _, hupd_at, rfl, rfl, Nat.le_of_ble_eq_true rfl, ?_⟩
    | refine ⟨_, _, rfl, rfl, rfl, Nat.le_of_ble_eq_true rfl, ?_⟩
    | (refine ⟨?_, _, (?_ : (_ : Option Ob) = _), rfl, rfl, ?_, ?_⟩; rotate_left; (exact hk_); exact Nat.le_of_ble_eq_true rfl)
    | refine ⟨_, _, _, _, ((by exact hk_) : (_ : Option Ob) = _), fill_at (by omega), rfl, rfl, Nat.le_of_ble_eq_true rfl, ?_⟩
    | refine ⟨_, _, _, _, ((by exact hk_) : (_ : Option Ob) = _), at_mapA (by assumption), rfl, rfl, Nat.le_of_ble_eq_true rfl, ?_⟩
    | refine ⟨_, ldc_pa (by exact hk_) (at_mapA (by assumption)) (Nat.le_of_ble_eq_true rfl), ?_⟩
    | refine ⟨_, rfl, rfl, _, ((by exact hk_) : (_ : Option Ob) = _), (by exact ap_), ?_⟩
    | refine ⟨_, news_ow hupd_at, newsz_ow hupd_at, _, ((by exact hk_) : (_ : Option Ob) = _), (by exact ap_), ?_⟩
    | refine ⟨_, _, _, ((by exact hk_) : (_ : Option Ob) = _), ?_⟩
    | refine ⟨_, ((by exact hk_) : (_ : Option Ob) = _), ?_⟩
    | refine ⟨(show _ ≠ _ from (by first | decide | omega)), ?_⟩
    | refine ⟨(show _ ≤ _ from (by exact ap_)), ?_⟩
    | (refine ⟨fun hc => ?_, fun hc => ?_⟩ <;> (try simp (disch := omega) only [List.length_map, wrap64] at hc) <;> (try (exfalso; first | contradiction | omega)))
    | (refine ⟨_, slc_to rfl (by first | omega | (simp only [List.length_map] at *; omega)), ?_⟩; rw [map_take'])
    | (refine ⟨_, slc_toI rfl (by omega) (by first | omega | (simp only [List.length_map] at *; omega)), ?_⟩; rw [map_take'])
    | (refine calle (b := [one (vsF _)]) v_impl_TreeFinal rfl ⟨_, rfl, (by refine ⟨?_, ?_⟩ <;> (exact pr_))⟩ (.inl rfl) (by first | assumption | omega) (fun r hr => K_impl_TreeFinal (a := _) hr) ?_)
    | (refine calle (b := [one (vsF _)]) v_spec_TreeFinal rfl ⟨_, rfl, (by refine ⟨?_, ?_⟩ <;> (exact pr_))⟩ (.inl rfl) (by first | assumption | omega) (fun r hr => K_spec_TreeFinal (a := _) hr) ?_)
    | (refine callt (b := [one (chF _), one (chF _)]) v_laws_lwSame rfl ⟨(_, _), rfl, (by refine ⟨?_, ?_⟩ <;> (exact pr_))⟩ (.inl rfl) (by first | assumption | omega) (fun r hr => K_laws_lwSame (a := (_, _)) hr) (fun hj => ?_) (fun hj => ?_) <;> (try simp only [etaPa, etaIt, etaVo] at hj) <;> (try contradiction))
    | fail)
  have h1 : (A + 1) = IntKind.i64.wrap (A + 1) := by rw [wrap64] <;> omega
  have hC : ∀ n, ([x, y, z].take n).length ≤ LIM := fun n => by simp only [List.length_take, List.length_cons, List.length_nil, LIM]; omega
  have hD : ∀ n, ([x, y, u].take n).length ≤ LIM := fun n => by simp only [List.length_take, List.length_cons, List.length_nil, LIM]; omega
  refine .inl ⟨_, _, _, _, _, rfl, (show _ = some (Ob.arr _ 4 (arA itF [x, y, z])) from by rw [hx, hy, hz, hA]; exact hk_), fcellss_f itF _, .inr ?_⟩
  refine .inl ⟨_, _, _, _, _, rfl, (show _ = some (Ob.arr _ 4 (arA itF [x, y, u])) from by rw [hx, hy, hu, hA]; exact hk_), fcellss_f itF _, .inr ?_⟩
  repeat' ((conv => whnf); first
    | refine ⟨_, rfl, ?_⟩
    | refine ⟨rfl, ?_⟩
    | refine ⟨_, ldc_cells hupd_at (Nat.le_of_ble_eq_true rfl), ?_⟩
    | refine ⟨_, ldc_cells (by first | assumption | exact zk ‹_› (by omega) | exact zk (zk ‹_› (by omega)) (by omega)) (Nat.le_of_ble_eq_true rfl), ?_⟩
    | refine ⟨_, _, hupd_at, rfl, rfl, Nat.le_of_ble_eq_true rfl, ?_⟩
    | refine ⟨_, _, rfl, rfl, rfl, Nat.le_of_ble_eq_true rfl, ?_⟩
    | (refine ⟨?_, _, (?_ : (_ : Option Ob) = _), rfl, rfl, ?_, ?_⟩; rotate_left; (exact hk_); exact Nat.le_of_ble_eq_true rfl)
    | refine ⟨_, _, _, _, ((by exact hk_) : (_ : Option Ob) = _), fill_at (by omega), rfl, rfl, Nat.le_of_ble_eq_true rfl, ?_⟩
    | refine ⟨_, _, _, _, ((by exact hk_) : (_ : Option Ob) = _), at_mapA (by assumption), rfl, rfl, Nat.le_of_ble_eq_true rfl, ?_⟩
    | refine ⟨_, ldc_pa (by exact hk_) (at_mapA (by assumption)) (Nat.le_of_ble_eq_true rfl), ?_⟩
    | refine ⟨_, rfl, rfl, _, ((by exact hk_) : (_ : Option Ob) = _), (by exact ap_), ?_⟩
    | refine ⟨_, news_ow hupd_at, newsz_ow hupd_at, _, ((by exact hk_) : (_ : Option Ob) = _), (by exact ap_), ?_⟩
    | refine ⟨_, _, _, ((by exact hk_) : (_ : Option Ob) = _), ?_⟩
    | refine ⟨_, ((by exact hk_) : (_ : Option Ob) = _), ?_⟩
    | refine ⟨(show _ ≠ _ from (by first | decide | omega)), ?_⟩
    | refine ⟨(show _ ≤ _ from (by exact ap_)), ?_⟩
    | (refine ⟨fun hc => ?_, fun hc => ?_⟩ <;> (try simp (disch := omega) only [List.length_map, wrap64] at hc))
    | (refine ⟨_, slc_to rfl (by first | omega | (simp only [List.length_map] at *; omega)), ?_⟩; rw [map_take'])
    | (refine ⟨_, slc_toI rfl (by omega) (by first | omega | (simp only [List.length_map] at *; omega)), ?_⟩; rw [map_take'])
    | fail)
  conv => whnf
  generalize hCd : [x, y, z] = C at *
  generalize hDd : [x, y, u] = D at *
  have hCl : C.length = 3 := by rw [← hCd]; rfl
  have hDl : D.length = 3 := by rw [← hDd]; rfl
  refine ⟨fun fr H nx rm' => ∃ (i ka kb : Nat), Has fr [(9, one (chF C)), (10, one (chF D)), (11, .w (.o (.ow ka))), (12, .w (.o (.ow kb))), (13, I ((i + 1 : Nat) : Int))] ∧ i ≤ 3 ∧ H ka = some (voO (three C i)) ∧ H kb = some (voO (three D i)) ∧ ka ≠ kb ∧ 1 ≤ ka ∧ ka < nx ∧ 1 ≤ kb ∧ kb < nx ∧ H 0 = none ∧ rm' ≤ rm + 100000,
    fun fr _ _ _ => 4 - ix (fr 13), ⟨0, _, _, ⟨rfl, rfl, rfl, rfl, rfl, trivial⟩, by omega, (Eq.trans (b := some (voO [])) hk_ (by rw [three_nil C])), (Eq.trans (b := some (voO [])) hk_ (by rw [three_nil D])), (by simp only [List.length_cons, List.length_nil]; omega), ln_, ln_, ln_, ln_, ne_, by omega⟩, ?_⟩
  rintro fr H nx rm' ⟨i, ka, kb, hfr, hi, hka, hkb, hne, ha1, han, hb1, hbn, hH, hrm⟩
  rw [hfr.eq]
  rcases Nat.lt_or_ge i 3 with hi' | hi'
  · skip
    repeat' ((conv => whnf); first
      | refine ⟨_, rfl, ?_⟩
      | refine ⟨rfl, ?_⟩
      | refine ⟨_, ldc_cells hupd_at (Nat.le_of_ble_eq_true rfl), ?_⟩
      | refine ⟨_, ldc_cells (by first | assumption | exact zk ‹_› (by omega) | exact zk (zk ‹_› (by omega)) (by omega)) (Nat.le_of_ble_eq_true rfl), ?_⟩
      | refine ⟨_, _, hupd_at, rfl, rfl, Nat.le_of_ble_eq_true rfl, ?_⟩
      | refine ⟨_, _, rfl, rfl, rfl, Nat.le_of_ble_eq_true rfl, ?_⟩
      | (refine ⟨?_, _, (?_ : (_ : Option Ob) = _), rfl, rfl, ?_, ?_⟩; rotate_left; (exact hk_); exact Nat.le_of_ble_eq_true rfl)
      | refine ⟨_, _, _, _, ((by exact hk_) : (_ : Option Ob) = _), fill_at (by omega), rfl, rfl, Nat.le_of_ble_eq_true rfl, ?_⟩
      | refine ⟨_, _, _, _, ((by exact hk_) : (_ : Option Ob) = _), at_mapA (by assumption), rfl, rfl, Nat.le_of_ble_eq_true rfl, ?_⟩
      | refine ⟨_, ldc_pa (by exact hk_) (at_mapA (by assumption)) (Nat.le_of_ble_eq_true rfl), ?_⟩
      | refine ⟨_, rfl, rfl, _, ((by exact hk_) : (_ : Option Ob) = _), (by exact ap_), ?_⟩
      | refine ⟨_, news_ow hupd_at, newsz_ow hupd_at, _, ((by exact hk_) : (_ : Option Ob) = _), (by exact ap_), ?_⟩
      | refine ⟨_, _, _, ((by exact hk_) : (_ : Option Ob) = _), ?_⟩
      | refine ⟨_, ((by exact hk_) : (_ : Option Ob) = _), ?_⟩
      | refine ⟨(show _ ≠ _ from (by first | decide | omega)), ?_⟩
      | refine ⟨(show _ ≤ _ from (by exact ap_)), ?_⟩
      | (refine ⟨fun hc => ?_, fun hc => ?_⟩ <;> (try simp (disch := omega) only [List.length_map, wrap64] at hc) <;> (try (exfalso; first | contradiction | omega)))
      | (refine ⟨_, slc_to rfl (by first | omega | (simp only [List.length_map] at *; omega)), ?_⟩; rw [map_take'])
      | (refine ⟨_, slc_toI rfl (by omega) (by first | omega | (simp only [List.length_map] at *; omega)), ?_⟩; rw [map_take'])
      | fail)
    conv => whnf
    refine ⟨fun fr H nx r2 => ∃ (j ka kb : Nat), Has fr [(9, one (chF C)), (10, one (chF D)), (11, .w (.o (.ow ka))), (12, .w (.o (.ow kb))), (13, I ((i + 1 : Nat) : Int)), (14, I ((j + 2 : Nat) : Int))] ∧ j ≤ 3 ∧ H ka = some (voO (three C i ++ rowN (C.take (i + 1)) j)) ∧ H kb = some (voO (three D i ++ rowN (D.take (i + 1)) j)) ∧ ka ≠ kb ∧ 1 ≤ ka ∧ ka < nx ∧ 1 ≤ kb ∧ kb < nx ∧ H 0 = none ∧ r2 ≤ rm + 100000,
      fun fr _ _ _ => 6 - ix (fr 14), ⟨0, ka, kb, ⟨rfl, rfl, rfl, rfl, rfl, rfl, trivial⟩, by omega, by rw [three_row]; exact hka, by rw [three_row]; exact hkb, hne, ha1, ln_, hb1, ln_, hH, hrm⟩, ?_⟩
    rintro fr H nx r2 ⟨j, ka, kb, hfr, hj, hka, hkb, hne, ha1, han, hb1, hbn, hH, hr2⟩
    rw [hfr.eq]
    have hlC : (three C i ++ rowN (C.take (i + 1)) j).length ≤ 400 := by rw [List.length_append, three_len, rowN_len]; omega
    have hlD : (three D i ++ rowN (D.take (i + 1)) j).length ≤ 400 := by rw [List.length_append, three_len, rowN_len]; omega
    have wj : j < 3 → IntKind.i64.wrap (((j + 2 : Nat) : Int) + 1) = ((j + 1 + 2 : Nat) : Int) := fun h => by rw [wrap64] <;> omega
    have wi : IntKind.i64.wrap (((i + 1 : Nat) : Int) + 1) = ((i + 1 + 1 : Nat) : Int) := by rw [wrap64] <;> omega
    rcases Nat.lt_or_ge j 3 with hj' | hj'
    · skip
      repeat' ((conv => whnf); first
        | refine ⟨_, rfl, ?_⟩
        | refine ⟨rfl, ?_⟩
        | refine ⟨_, ldc_cells hupd_at (Nat.le_of_ble_eq_true rfl), ?_⟩
        | refine ⟨_, ldc_cells (by first | assumption | exact zk ‹_› (by omega) | exact zk (zk ‹_› (by omega)) (by omega)) (Nat.le_of_ble_eq_true rfl), ?_⟩
        | refine ⟨_, _, hupd_at, rfl, rfl, Nat.le_of_ble_eq_true rfl, ?_⟩
        | refine ⟨_, _, rfl, rfl, rfl, Nat.le_of_ble_eq_true rfl, ?_⟩
        | (refine ⟨?_, _, (?_ : (_ : Option Ob) = _), rfl, rfl, ?_, ?_⟩; rotate_left; (exact hk_); exact Nat.le_of_ble_eq_true rfl)
        | refine ⟨_, _, _, _, ((by exact hk_) : (_ : Option Ob) = _), fill_at (by omega), rfl, rfl, Nat.le_of_ble_eq_true rfl, ?_⟩
        | refine ⟨_, _, _, _, ((by exact hk_) : (_ : Option Ob) = _), at_mapA (by assumption), rfl, rfl, Nat.le_of_ble_eq_true rfl, ?_⟩
        | refine ⟨_, ldc_pa (by exact hk_) (at_mapA (by assumption)) (Nat.le_of_ble_eq_true rfl), ?_⟩
        | refine ⟨_, rfl, rfl, _, ((by exact hk_) : (_ : Option Ob) = _), (by exact ap_), ?_⟩
        | refine ⟨_, news_ow hupd_at, newsz_ow hupd_at, _, ((by exact hk_) : (_ : Option Ob) = _), (by exact ap_), ?_⟩
        | refine ⟨_, _, _, ((by exact hk_) : (_ : Option Ob) = _), ?_⟩
        | refine ⟨_, ((by exact hk_) : (_ : Option Ob) = _), ?_⟩
        | refine ⟨(show _ ≠ _ from (by first | decide | omega)), ?_⟩
        | refine ⟨(show _ ≤ _ from (by exact ap_)), ?_⟩
        | (refine ⟨fun hc => ?_, fun hc => ?_⟩ <;> (try simp (disch := omega) only [List.length_map, wrap64] at hc) <;> (try (exfalso; first | contradiction | omega)))
        | (refine ⟨_, slc_to rfl (by first | omega | (simp only [List.length_map] at *; omega)), ?_⟩; rw [map_take'])
        | (refine ⟨_, slc_toI rfl (by omega) (by first | omega | (simp only [List.length_map] at *; omega)), ?_⟩; rw [map_take'])
        | (refine ⟨⟨j + 1, _, _, ⟨rfl, rfl, rfl, rfl, rfl, congrArg I (wj hj'), trivial⟩, by omega, Eq.trans (b := some (Ob.arr _ _ (arA voF (three C i ++ rowN (C.take (i + 1)) j) ++ _))) hk_ ((arr_snoc (x := ⟨((j + 2 : Nat) : Int), C.take (i + 1)⟩) rfl).trans (by rw [three_snoc])), Eq.trans (b := some (Ob.arr _ _ (arA voF (three D i ++ rowN (D.take (i + 1)) j) ++ _))) hk_ ((arr_snoc (x := ⟨((j + 2 : Nat) : Int), D.take (i + 1)⟩) rfl).trans (by rw [three_snoc])), (by simp only [List.length_cons, List.length_nil]; omega), ln_, ln_, ln_, ln_, ne_, by omega⟩, (by show 6 - ix (I _) < 6 - ix (I _); simp only [wj hj', ix, Int.toNat_natCast]; omega)⟩)
        | fail)
    · have hj3 : j = 3 := by omega
      subst hj3
      rw [three_succ] at hka hkb
      repeat' ((conv => whnf); first
        | refine ⟨_, rfl, ?_⟩
        | refine ⟨rfl, ?_⟩
        | refine ⟨_, ldc_cells hupd_at (Nat.le_of_ble_eq_true rfl), ?_⟩
        | refine ⟨_, ldc_cells (by first | assumption | exact zk ‹_› (by omega) | exact zk (zk ‹_› (by omega)) (by omega)) (Nat.le_of_ble_eq_true rfl), ?_⟩
        | refine ⟨_, _, hupd_at, rfl, rfl, Nat.le_of_ble_eq_true rfl, ?_⟩
        | refine ⟨_, _, rfl, rfl, rfl, Nat.le_of_ble_eq_true rfl, ?_⟩
        | (refine ⟨?_, _, (?_ : (_ : Option Ob) = _), rfl, rfl, ?_, ?_⟩; rotate_left; (exact hk_); exact Nat.le_of_ble_eq_true rfl)
        | refine ⟨_, _, _, _, ((by exact hk_) : (_ : Option Ob) = _), fill_at (by omega), rfl, rfl, Nat.le_of_ble_eq_true rfl, ?_⟩
        | refine ⟨_, _, _, _, ((by exact hk_) : (_ : Option Ob) = _), at_mapA (by assumption), rfl, rfl, Nat.le_of_ble_eq_true rfl, ?_⟩
        | refine ⟨_, ldc_pa (by exact hk_) (at_mapA (by assumption)) (Nat.le_of_ble_eq_true rfl), ?_⟩
        | refine ⟨_, rfl, rfl, _, ((by exact hk_) : (_ : Option Ob) = _), (by exact ap_), ?_⟩
        | refine ⟨_, news_ow hupd_at, newsz_ow hupd_at, _, ((by exact hk_) : (_ : Option Ob) = _), (by exact ap_), ?_⟩
        | refine ⟨_, _, _, ((by exact hk_) : (_ : Option Ob) = _), ?_⟩
        | refine ⟨_, ((by exact hk_) : (_ : Option Ob) = _), ?_⟩
        | refine ⟨(show _ ≠ _ from (by first | decide | omega)), ?_⟩
        | refine ⟨(show _ ≤ _ from (by exact ap_)), ?_⟩
        | (refine ⟨fun hc => ?_, fun hc => ?_⟩ <;> (try simp (disch := omega) only [List.length_map, wrap64] at hc) <;> (try (exfalso; first | contradiction | omega)))
        | (refine ⟨_, slc_to rfl (by first | omega | (simp only [List.length_map] at *; omega)), ?_⟩; rw [map_take'])
        | (refine ⟨_, slc_toI rfl (by omega) (by first | omega | (simp only [List.length_map] at *; omega)), ?_⟩; rw [map_take'])
        | (refine ⟨⟨i + 1, ka, kb, ⟨rfl, rfl, rfl, rfl, congrArg I wi, trivial⟩, by omega, hka, hkb, hne, ha1, ln_, hb1, ln_, hH, by omega⟩, (by show 4 - ix (I _) < 4 - ix (I _); simp only [wi, ix, Int.toNat_natCast]; omega)⟩)
        | fail)
  · have hi3 : i = 3 := by omega
    subst hi3
    subst hCd hDd
    obtain ⟨hfC, hfCl⟩ := three_fit (x := x) (y := y) (z := z)
    obtain ⟨hfD, hfDl⟩ := three_fit (x := x) (y := y) (z := u)
    have e2 : IntKind.i64.wrap (A + 1) = A + 1 := by rw [wrap64] <;> omega
    have e3 : IntKind.i64.wrap (A + 2) = A + 2 := by rw [wrap64] <;> omega
    have e4 : IntKind.i64.wrap (A + 3) = A + 3 := by rw [wrap64] <;> omega
    have nx1 : Nxt x.e y.e := by rw [hx, hy]; rfl
    have nx2 : Nxt y.e z.e := by rw [hy, hz]; show IntKind.i64.wrap (IntKind.i64.wrap (A + 1) + 1) = IntKind.i64.wrap (A + 2); rw [e2, e3, wrap64] <;> omega
    have nx3 : ¬ Nxt y.e u.e := by rw [hy, hu]; show ¬ IntKind.i64.wrap (IntKind.i64.wrap (A + 1) + 1) = IntKind.i64.wrap (A + 3); rw [e2, e4, wrap64] <;> omega
    have hok : ChainOk [x, y, z] := by
      have hp : PayOk ⟨1, 3, 1⟩ := ⟨⟨by decide, by decide⟩, ⟨by decide, by decide⟩, by decide, ⟨by decide, by decide⟩⟩
      refine ⟨fun n w hw => ?_, by simp⟩
      rw [hx, hy, hz, e2, e3] at hw ⊢
      match n, hw with
      | 0, hw => cases hw; exact ⟨⟨by show (1 : Int) ≤ A; omega, by show A ≤ 30; omega⟩, hp, fun j y e => by omega⟩
      | 1, hw => cases hw; exact ⟨⟨by show (1 : Int) ≤ A + 1; omega, by show A + 1 ≤ 30; omega⟩, hp, fun j y e h => by cases (show j = 0 by omega); cases h; show A < A + 1; omega⟩
      | 2, hw => cases hw; exact ⟨⟨by show (1 : Int) ≤ A + 2; omega, by show A + 2 ≤ 30; omega⟩, hp, fun j y e h => by cases (show j = 1 by omega); cases h; show A + 1 < A + 2; omega⟩
      | n + 3, hw => simp at hw
    have ha := three_a hok ⟨nx1, nx2⟩
    have hb := three_b (x := x) (y := y) (z := u) fun h => nx3 h.2
    have hc1 := three_drop (x := x) (y := y) (z := z)
    have hd1 := three_take (x := x) (y := y) (z := z)
    have hfa : (finT (three [x, y, z] 3)).length ≤ LIM := by rw [ha]; exact hC 2
    have hC2 := hC 2
    have hf1 : FitVs ((three [x, y, z] 3).drop 1) := ⟨by rw [List.length_drop]; have := hfC.1; omega, fun v hv => hfC.2 v (List.mem_of_mem_drop hv)⟩
    have hl1 : ((three [x, y, z] 3).drop 1).length < LIM := by rw [List.length_drop]; omega
    have hf8 := hfC.take 8
    have hl8 : ((three [x, y, z] 3).take 8).length < LIM := by rw [List.length_take]; omega
    repeat' ((conv => whnf); first
      | (refine ⟨_, slc_to (i := 2) rfl (Nat.le_of_ble_eq_true rfl), ?_⟩; rw [map_take'])
      | (refine ⟨_, slc_to (i := 8) rfl (by rw [List.length_map, three_len]; omega), ?_⟩; rw [map_take'])
      | (refine ⟨_, slc_from (i := 1) rfl (by rw [List.length_map, three_len]; omega), ?_⟩; rw [map_drop'])
      | refine ⟨_, rfl, ?_⟩
      | refine ⟨rfl, ?_⟩
      | refine ⟨_, ldc_cells hupd_at (Nat.le_of_ble_eq_true rfl), ?_⟩
      | refine ⟨_, ldc_cells (by first | assumption | exact zk ‹_› (by omega) | exact zk (zk ‹_› (by omega)) (by omega)) (Nat.le_of_ble_eq_true rfl), ?_⟩
      | refine ⟨_, _, hupd_at, rfl, rfl, Nat.le_of_ble_eq_true rfl, ?_⟩
      | refine ⟨_, _, rfl, rfl, rfl, Nat.le_of_ble_eq_true rfl, ?_⟩
      | (refine ⟨?_, _, (?_ : (_ : Option Ob) = _), rfl, rfl, ?_, ?_⟩; rotate_left; (exact hk_); exact Nat.le_of_ble_eq_true rfl)
      | refine ⟨_, _, _, _, ((by exact hk_) : (_ : Option Ob) = _), fill_at (by omega), rfl, rfl, Nat.le_of_ble_eq_true rfl, ?_⟩
      | refine ⟨_, _, _, _, ((by exact hk_) : (_ : Option Ob) = _), at_mapA (by assumption), rfl, rfl, Nat.le_of_ble_eq_true rfl, ?_⟩
      | refine ⟨_, ldc_pa (by exact hk_) (at_mapA (by assumption)) (Nat.le_of_ble_eq_true rfl), ?_⟩
      | refine ⟨_, rfl, rfl, _, ((by exact hk_) : (_ : Option Ob) = _), (by exact ap_), ?_⟩
      | refine ⟨_, news_ow hupd_at, newsz_ow hupd_at, _, ((by exact hk_) : (_ : Option Ob) = _), (by exact ap_), ?_⟩
      | refine ⟨_, _, _, ((by exact hk_) : (_ : Option Ob) = _), ?_⟩
      | refine ⟨_, ((by exact hk_) : (_ : Option Ob) = _), ?_⟩
      | refine ⟨(show _ ≠ _ from (by first | decide | omega)), ?_⟩
      | refine ⟨(show _ ≤ _ from (by exact ap_)), ?_⟩
      | (refine ⟨fun hc => ?_, fun hc => ?_⟩ <;> (try simp (disch := omega) only [List.length_map, wrap64] at hc) <;> (try (exfalso; first | contradiction | omega)))
      | (refine ⟨_, slc_to rfl (by first | omega | (simp only [List.length_map] at *; omega)), ?_⟩; rw [map_take'])
      | (refine ⟨_, slc_toI rfl (by omega) (by first | omega | (simp only [List.length_map] at *; omega)), ?_⟩; rw [map_take'])
      | (refine .inl ⟨_, _, _, _, _, rfl, (by exact hk_), fcellss_f voF _, .inr ?_⟩)
      | (refine calle (b := [one (vsF _)]) v_impl_TreeFinal rfl ⟨_, rfl, (by refine ⟨?_, ?_⟩ <;> (exact pr_))⟩ (.inl rfl) (by first | assumption | omega) (fun r hr => K_impl_TreeFinal (a := _) hr) ?_)
      | (refine callt (b := [one (chF _), one (chF _)]) v_laws_lwSame rfl ⟨(_, _), rfl, (by refine ⟨?_, ?_⟩ <;> (exact pr_))⟩ (.inl rfl) (by first | assumption | omega) (fun r hr => K_laws_lwSame (a := (_, _)) hr) (fun hj => ?_) (fun hj => ?_) <;> (try simp only [etaPa, etaIt, etaVo] at hj) <;> (try contradiction))
      | exact ⟨⟨_, rfl, rfl, (code, more), rfl, (by unfold R_laws_FnFinalThree; dsimp only; first | done | exact absurd True.intro hj | (first | rfl | (exfalso; first | contradiction | omega | exact hj ha | grind)))⟩, (by first | exact Nat.le_refl _ | omega), (by exact h0_)⟩
      | fail)
    
end Av
end Go.Proofs.Ytdklbphecnennaa
