/- The walks: the law FnTipNew. -/
import Derived.Test.YtdklbphecnennaaP3
import Derived.Test.YtdklbphecnennaaQ3
set_option linter.unusedVariables false
set_option linter.unusedSimpArgs false
namespace Go.Proofs.Ytdklbphecnennaa
namespace Av
open Go.RowKit

theorem chain_next {c : List It} (h : ChainOk c) {i : Nat} {x y : It} (hx : c[i]? = some x) (hy : c[i + 1]? = some y) : x.e < y.e := by
  exact (h.1 (i + 1) y hy).2.2 i x rfl hx
theorem take_dropLast {α : Type} {c : List α} {n : Nat} (h : n < c.length) : c.dropLast.take n = c.take n := by
  rw [List.dropLast_eq_take, List.take_take, Nat.min_eq_left (by omega)]
/-- The first i nodes' votes for a chain, behind others. -/
def newX (l : List Vo) (c : List It) : Nat → List Vo
  | 0 => l
  | i + 1 => newX l c i ++ [⟨((i + 1 : Nat) : Int), c⟩]
theorem newX_0 (l : List Vo) (c : List It) : newX l c 0 = l := rfl
theorem newX_len (l : List Vo) (c : List It) : ∀ i, (newX l c i).length = l.length + i
  | 0 => rfl
  | i + 1 => by simp only [newX, List.length_append, List.length_cons, List.length_nil, newX_len l c i]; omega
theorem newX_mem {l : List Vo} {c : List It} {v : Vo} : ∀ {i : Nat}, v ∈ newX l c i ↔ v ∈ l ∨ ∃ j : Nat, j < i ∧ v = ⟨((j + 1 : Nat) : Int), c⟩
  | 0 => ⟨fun h => .inl h, fun h => by rcases h with h | ⟨j, hj, _⟩; exact h; omega⟩
  | i + 1 => by
    simp only [newX, List.mem_append, List.mem_singleton, newX_mem (i := i)]
    constructor
    · rintro ((h | ⟨j, hj, e⟩) | h)
      · exact .inl h
      · exact .inr ⟨j, by omega, e⟩
      · exact .inr ⟨i, by omega, h⟩
    · rintro (h | ⟨j, hj, e⟩)
      · exact .inl (.inl h)
      · rcases Nat.lt_or_ge j i with h | h
        · exact .inl (.inr ⟨j, h, e⟩)
        · rw [show j = i from by omega] at e; exact .inr e
theorem newX_fit {l : List Vo} {c : List It} (h : FitVs l) (hl : l.length ≤ 400) (hc : c.length ≤ LIM) {i : Nat} (hi : i ≤ 3) : FitVs (newX l c i) ∧ (newX l c i).length < LIM := by
  refine ⟨⟨?_, fun v hv => ?_⟩, ?_⟩
  · rw [newX_len]; simp only [LIM]; omega
  · rcases newX_mem.1 hv with hv | ⟨j, _, rfl⟩
    · exact h.2 v hv
    · exact hc
  · rw [newX_len]; simp only [LIM]; omega
theorem no_votes {l : List Vo} (hV : VotesOk l) {c : List It} (h : (votesFor l c).length = 0) {v : Vo} (hv : v ∈ l) : v.c ≠ c := by
  rintro rfl
  have : votesFor l v.c = voters l v.c := by unfold votesFor; rw [tb_pos hV]; rfl
  rw [this] at h
  have hm := voters_has (hV.ok hv) hv
  rw [List.eq_nil_of_length_eq_zero h] at hm; cases hm
section
variable {l : List Vo} (hV : VotesOk l) {c : List It} (hc : ChainOk c) (hc0 : c ≠ []) (hno : ∀ v, v ∈ l → v.c ≠ c)
include hV hc hc0 hno
omit hV hc hc0 in
theorem newX_new {i : Nat} : (⟨((i + 1 : Nat) : Int), c⟩ : Vo) ∉ newX l c i := by
  intro h
  rcases newX_mem.1 h with h | ⟨j, hj, e⟩
  · exact hno _ h rfl
  · have := congrArg Vo.n e
    simp only at this; omega
theorem newX_ok : ∀ {i : Nat}, i ≤ 3 → VotesOk (newX l c i)
  | 0, _ => hV
  | i + 1, h => votesOk_snoc (newX_ok (by omega)) ⟨⟨by show (1 : Int) ≤ ((i + 1 : Nat) : Int); omega, by show ((i + 1 : Nat) : Int) ≤ 4; omega⟩, hc0, hc⟩ (newX_new hno)
theorem newX_add {i : Nat} (hi : i < 3) : addL (newX l c i) ⟨((i + 1 : Nat) : Int), c⟩ = newX l c (i + 1) ∧ addB (newX l c i) ⟨((i + 1 : Nat) : Int), c⟩ = true := by
  rcases add_cases (newX l c i) ⟨((i + 1 : Nat) : Int), c⟩ with ⟨h, _⟩ | ⟨_, _, h, _⟩ | ⟨_, _, _, h1, h2⟩
  · exact absurd ⟨newX_ok hV hc hc0 hno (by omega), ⟨by show (1 : Int) ≤ ((i + 1 : Nat) : Int); omega, by show ((i + 1 : Nat) : Int) ≤ 4; omega⟩, hc0, hc⟩ h
  · exact absurd h (newX_new hno)
  · exact ⟨h1, h2⟩
omit hV in
theorem newX_not {i : Nat} (hi : i ≤ 2) : ¬ TSure (newX l c i) c := by
  rintro ⟨_, _, hs⟩
  have h1 := hs c.length (by cases c with | nil => exact absurd rfl hc0 | cons a c => simp) (Nat.le_refl _)
  unfold SureAt at h1
  rw [List.take_length] at h1
  have h2 : (voters (newX l c i) c).length ≤ ([1, 2] : List Int).length := by
    refine List.Nodup.length_le_of_subset (List.Nodup.sublist List.filter_sublist (by decide)) fun n hn => ?_
    rcases newX_mem.1 (mem_voters.1 hn).2 with h | ⟨j, hj, e⟩
    · exact absurd rfl (hno _ h)
    · have := congrArg Vo.n e
      simp only at this
      have : n = 1 ∨ n = 2 := by omega
      simpa using this
  simp only [List.length_cons, List.length_nil] at h2
  omega
theorem newX_all (hmax : ∀ x : It, c.getLast? = some x → x.e = 30) {t : List It} (ht : t = c.dropLast) (hts : Sure l t) {d : List It} : d ∈ allS (newX l c 3) ↔ d ∈ allS l ∨ d = c := by
  rw [mem_allS_iff, mem_allS_iff]
  have hmono : ∀ v, v ∈ l → v ∈ newX l c 3 := fun v hv => newX_mem.2 (.inl hv)
  constructor
  · intro hs
    by_cases hd0 : d = []
    · exact .inl (by rw [hd0]; exact sure_nil l)
    obtain ⟨v, hv, rfl⟩ := hs.vote hd0
    rcases newX_mem.1 hv with hv | ⟨j, _, rfl⟩
    · refine .inl fun n h1 h2 => ?_
      have h3 := hs n h1 h2
      unfold SureAt at h3 ⊢
      rw [voters_congr (m := l) ] at h3
      · exact h3
      · intro m
        rw [newX_mem]
        constructor
        · rintro (h | ⟨j, _, e⟩)
          · exact h
          · exfalso
            have e2 : v.c.take n = c := congrArg Vo.c e
            -- the chain goes on behind epoch 30
            have hok := (hV.ok hv).2.2
            rcases Nat.lt_or_ge n v.c.length with hn | hn
            · have hx : ∃ x, v.c[n]? = some x := ⟨_, List.getElem?_eq_getElem hn⟩
              obtain ⟨x, hx⟩ := hx
              obtain ⟨y, hy⟩ : ∃ y, v.c[n - 1]? = some y := ⟨_, List.getElem?_eq_getElem (by omega)⟩
              have hl : c.getLast? = some y := by
                rw [← e2, List.getLast?_eq_getElem?, List.length_take, Nat.min_eq_left (by omega), List.getElem?_take_of_lt (by omega)]
                exact hy
              have h30 := hmax y hl
              have hlt := hok.1 n x hx
              have := chain_next hok (i := n - 1) hy (by rw [show n - 1 + 1 = n from by omega]; exact hx)
              have := (hlt.1).2
              omega
            · rw [List.take_of_length_le hn] at e2
              exact hno v hv e2
        · exact .inl
    · exact .inr rfl
  · rintro (hs | rfl)
    · exact hs.mono hmono
    · intro n h1 h2
      rcases Nat.lt_or_ge n d.length with hn | hn
      · have e : d.take n = t.take n := by rw [ht, take_dropLast hn]
        unfold SureAt
        rw [e]
        have := hts n h1 (by rw [ht, List.length_dropLast]; omega)
        exact Nat.le_trans this (voters_mono hmono _)
      · unfold SureAt
        rw [List.take_of_length_le hn]
        have h4 : ([1, 2, 3] : List Int).length ≤ (voters (newX l d 3) d).length := by
          refine List.Nodup.length_le_of_subset (by decide) fun n hn => ?_
          rw [mem_voters]
          simp only [List.mem_cons, List.not_mem_nil, or_false] at hn
          refine ⟨by omega, newX_mem.2 (.inr ?_)⟩
          rcases hn with rfl | rfl | rfl
          · exact ⟨0, by omega, rfl⟩
          · exact ⟨1, by omega, rfl⟩
          · exact ⟨2, by omega, rfl⟩
        exact h4
theorem newX_tip (hmax : ∀ x : It, c.getLast? = some x → x.e = 30) (ht : tip l = c.dropLast) : tip (newX l c 3) = c := by
  have hall := fun d => @newX_all l hV c hc hc0 hno hmax (tip l) ht (mem_allS_iff.1 (tip_mem l)) d
  have h1 : c.length ≤ (tip (newX l c 3)).length := tip_max ((hall c).2 (.inr rfl))
  rcases (hall _).1 (tip_mem (newX l c 3)) with h | h
  · have h2 := tip_max h
    rw [ht, List.length_dropLast] at h2
    have : c.length ≠ 0 := fun e => hc0 (List.eq_nil_of_length_eq_zero e)
    omega
  · exact h
end
attribute [local irreducible] tipT votesFor newX
attribute [local irreducible] Valid ValidM
set_option maxHeartbeats 4000000 in
set_option maxRecDepth 100000 in
theorem v_laws_FnTipNew : Valid Try.prog n_laws_FnTipNew S_laws_FnTipNew := by
  refine valid_of_swp mixed is_laws_FnTipNew (by rintro _ ⟨a, rfl, _⟩; exact Nat.le_of_ble_eq_true rfl) ?_
  rintro _ rm ⟨⟨code, more⟩, rfl, hpre⟩ hl
  try dsimp only at hpre
  have hpre0 := hpre
  obtain ⟨hp1, hp2⟩ := hpre
  dsimp only
  have cc_laws_FnTipNew : S_laws_FnTipNew.cost = 200000 := rfl
  have cc_spec_DrawTreeTip : S_spec_DrawTreeTip.cost = 10000 := rfl
  have cc_impl_TreeTip : S_impl_TreeTip.cost = 0 := rfl
  have cc_spec_TreeTip : S_spec_TreeTip.cost = 0 := rfl
  have cc_laws_lwSame : S_laws_lwSame.cost = 0 := rfl
  have cc_spec_VotesOk : S_spec_VotesOk.cost = 0 := rfl
  have cc_impl_ChainOk : S_impl_ChainOk.cost = 0 := rfl
  have cc_impl_VotesFor : S_impl_VotesFor.cost = 0 := rfl
  have cc_impl_TreeSure : S_impl_TreeSure.cost = 0 := rfl
  have cc_impl_VotesAdd : S_impl_VotesAdd.cost = 0 := rfl
  have cc_impl_TreeLong : S_impl_TreeLong.cost = 0 := rfl
  repeat' ((conv => whnf); first
    | refine ⟨_, rfl, ?_⟩
    | refine ⟨rfl, ?_⟩
    | refine ⟨_, rfl, rfl, _, ((by exact hk_) : (_ : Option Ob) = _), (by exact ap_), ?_⟩
    | refine ⟨_, news_ow hupd_at, newsz_ow hupd_at, _, ((by exact hk_) : (_ : Option Ob) = _), (by exact ap_), ?_⟩
    | refine ⟨_, _, _, ((by exact hk_) : (_ : Option Ob) = _), ?_⟩
    | refine ⟨_, ((by exact hk_) : (_ : Option Ob) = _), ?_⟩
    | refine ⟨(show _ ≠ _ from (by first | decide | omega)), ?_⟩
    | refine ⟨(show _ ≤ _ from (by exact ap_)), ?_⟩
    | (refine ⟨fun hc => ?_, fun hc => ?_⟩ <;> (try simp (disch := omega) only [List.length_map, wrap64] at hc))
    | (refine callk (b := [one (byF _)]) v_spec_DrawTreeTip rfl ⟨_, rfl, (by exact pr_)⟩ (.inl rfl) (by omega) (fun r hr => ?_); have hj := K_spec_DrawTreeTip (a := _) hr; clear hr; obtain ⟨l, rfl, hdl⟩ := hj)
    | exact ⟨⟨_, rfl, rfl, (code, more), rfl, (by unfold R_laws_FnTipNew; dsimp only; first | done | exact absurd True.intro hj | (rfl))⟩, (by first | exact Nat.le_refl _ | omega), (by exact h0_)⟩
    | fail)
  have hfl : FitVs l := hdl.fit
  have hln : l.length < LIM := hdl.lt
  have hll : l.length ≤ 400 := hdl.1
  have htl := tipT_len' hfl
  by_cases hV : VotesOk l
  · obtain ⟨it0, hit⟩ : ∃ it0 : It, it0 = ⟨30, ⟨3, 2, IntKind.i64.wrap (1 + Int.tmod (((more.map fun n => [FV.v (.int .u8 n)]).length : Nat) : Int) 9)⟩⟩ := ⟨_, rfl⟩
    obtain ⟨C, hC⟩ : ∃ C, C = tipT l ++ [it0] := ⟨_, rfl⟩
    repeat' ((conv => whnf); first
      | refine ⟨_, rfl, ?_⟩
      | refine ⟨rfl, ?_⟩
      | refine ⟨_, rfl, rfl, _, ((by exact hk_) : (_ : Option Ob) = _), (by exact ap_), ?_⟩
      | refine ⟨_, news_ow hupd_at, newsz_ow hupd_at, _, ((by exact hk_) : (_ : Option Ob) = _), (by exact ap_), ?_⟩
      | refine ⟨_, _, _, ((by exact hk_) : (_ : Option Ob) = _), ?_⟩
      | refine ⟨_, ((by exact hk_) : (_ : Option Ob) = _), ?_⟩
      | refine ⟨(show _ ≠ _ from (by first | decide | omega)), ?_⟩
      | refine ⟨(show _ ≤ _ from (by exact ap_)), ?_⟩
      | (refine ⟨fun hc => ?_, fun hc => ?_⟩ <;> (try simp (disch := omega) only [List.length_map, wrap64] at hc) <;> (try (exfalso; first | contradiction | omega)))
      | (refine calle (b := [one (vsF _)]) v_impl_TreeTip rfl ⟨_, rfl, (by refine ⟨?_, ?_⟩ <;> (exact pr_))⟩ (.inl rfl) (by first | assumption | omega) (fun r hr => K_impl_TreeTip (a := _) hr) ?_)
      | (refine calle (b := [one (vsF _)]) v_spec_TreeTip rfl ⟨_, rfl, (by refine ⟨?_, ?_⟩ <;> (exact pr_))⟩ (.inl rfl) (by first | assumption | omega) (fun r hr => K_spec_TreeTip (a := _) hr) ?_)
      | (refine callt (b := [one (chF _), one (chF _)]) v_laws_lwSame rfl ⟨(_, _), rfl, (by refine ⟨?_, ?_⟩ <;> (exact pr_))⟩ (.inl rfl) (by first | assumption | omega) (fun r hr => K_laws_lwSame (a := (_, _)) hr) (fun hj => ?_) (fun hj => ?_) <;> (try simp only [etaPa, etaIt, etaVo] at hj) <;> (try contradiction))
      | (refine callt (b := [one (vsF _)]) v_spec_VotesOk rfl ⟨_, rfl, (by exact pr_)⟩ (.inl rfl) (by first | assumption | omega) (fun r hr => K_spec_VotesOk (a := _) hr) (fun hj => ?_) (fun hj => ?_) <;> (try simp only [etaPa, etaIt, etaVo] at hj) <;> (try contradiction))
      | exact ⟨⟨_, rfl, rfl, (code, more), rfl, (by unfold R_laws_FnTipNew; dsimp only; first | done | exact absurd True.intro hj | (first | rfl | (exfalso; first | contradiction | omega | grind)))⟩, (by first | exact Nat.le_refl _ | omega), (by exact h0_)⟩
      | fail)
    refine .inl ⟨_, _, _, _, _, rfl, hupd_at.trans (by rw [hC]; exact (congrArg (fun z => some (Ob.arr _ _ (z ++ _))) (show [] ++ List.map (fun x => x.map AC.c) (List.map itF (tipT l)) = arA itF (tipT l) by simp [arA])).trans (arr_snoc (by rw [hit]; rfl))), fcellss_f itF C, .inr ?_⟩
    have hCl : C.length = (tipT l).length + 1 := by rw [hC]; simp
    have hCL : C.length ≤ LIM := by omega
    have hbl : (votesFor l C).length ≤ 4 := by
      rw [show votesFor l C = voters l C from by unfold votesFor; rw [tb_pos hV]; rfl]
      exact List.length_filter_le _ _
    repeat' ((conv => whnf); first
      | refine ⟨_, rfl, ?_⟩
      | refine ⟨rfl, ?_⟩
      | refine ⟨_, rfl, rfl, _, ((by exact hk_) : (_ : Option Ob) = _), (by exact ap_), ?_⟩
      | refine ⟨_, news_ow hupd_at, newsz_ow hupd_at, _, ((by exact hk_) : (_ : Option Ob) = _), (by exact ap_), ?_⟩
      | refine ⟨_, _, _, ((by exact hk_) : (_ : Option Ob) = _), ?_⟩
      | refine ⟨_, ((by exact hk_) : (_ : Option Ob) = _), ?_⟩
      | refine ⟨(show _ ≠ _ from (by first | decide | omega)), ?_⟩
      | refine ⟨(show _ ≤ _ from (by exact ap_)), ?_⟩
      | (refine ⟨fun hc => ?_, fun hc => ?_⟩ <;> (try simp (disch := omega) only [List.length_map, wrap64] at hc) <;> (try (exfalso; first | contradiction | omega)))
      | (refine callt (b := [one (chF _)]) v_impl_ChainOk rfl ⟨_, rfl, (by exact pr_)⟩ (.inl rfl) (by first | assumption | omega) (fun r hr => K_impl_ChainOk (a := _) hr) (fun hj => ?_) (fun hj => ?_) <;> (try simp only [etaPa, etaIt, etaVo] at hj) <;> (try contradiction))
      | (refine calle (b := [one (vsF _), one (chF _)]) v_impl_VotesFor rfl ⟨(_, _), rfl, (by refine ⟨?_, ?_⟩ <;> (exact pr_))⟩ (.inl rfl) (by first | assumption | omega) (fun r hr => K_impl_VotesFor (a := (_, _)) hr) ?_)
      | exact ⟨⟨_, rfl, rfl, (code, more), rfl, (by unfold R_laws_FnTipNew; dsimp only; first | done | exact absurd True.intro hj | (first | rfl | (exfalso; first | contradiction | omega | grind)))⟩, (by first | exact Nat.le_refl _ | omega), (by exact h0_)⟩
      | fail)
    have hok : ChainOk C := by assumption
    have hC0 : C ≠ [] := by rw [hC]; simp
    have hno : ∀ v, v ∈ l → v.c ≠ C := fun v hv => no_votes hV (by omega) hv
    have hmax : ∀ x : It, C.getLast? = some x → x.e = 30 := by
      intro x hx; rw [hC, List.getLast?_concat] at hx; cases hx; rw [hit]
    have hdl2 : tip l = C.dropLast := by rw [hC, List.dropLast_concat, tip_ok hV]
    have htn := newX_tip hV hok hC0 hno hmax hdl2
    have hVn := newX_ok hV hok hC0 hno (i := 3) (by omega)
    have htT : tipT (newX l C 3) = C := by rw [tip_ok hVn, htn]
    have hlT : long (newX l C 3) = ((tipT l).length : Int) + 1 := by rw [long_ok hVn, htn, hCl]; rfl
    conv => whnf
    refine ⟨fun fr H nx rm' => ∃ (i : Nat), Has fr [(6, one (chF (tipT l))), (7, one (vsF (newX l C i))), (8, one (chF C)), (9, I ((i + 1 : Nat) : Int))] ∧ i ≤ 3 ∧ (True) ∧ 1 ≤ nx ∧ H 0 = none ∧ rm' ≤ rm + 100000,
      fun fr _ _ _ => 3 + 1 - ix (fr 9), ⟨0, ⟨(by first | rfl | (show I _ = I _; simp)), (by exact congrArg (fun z => one (vsF z)) (newX_0 l C).symm), (by first | rfl | (show I _ = I _; simp)), (by first | rfl | (show I _ = I _; simp)), trivial⟩, Nat.zero_le _, (by trivial), (by first | decide | omega), (by exact h0_), (by omega)⟩, ?_⟩
    rintro fr H nx rm' ⟨i, hfr, hi, hq, hnx, hH, hrm⟩
    rw [hfr.eq]
    have hfx := newX_fit hfl hll hCL hi
    obtain ⟨hfx1, hfx2⟩ := hfx
    rcases Nat.lt_or_ge i 3 with hi' | hi'
    · obtain ⟨eL1, eB1⟩ := newX_add hV hok hC0 hno hi'
      have hvf : FitV ⟨((i + 1 : Nat) : Int), C⟩ := hCL
      rcases Nat.lt_or_ge i 2 with h2 | h2
      · have hnot := newX_not hok hC0 hno (l := l) (i := i) (by omega)
        repeat' ((conv => whnf); first
          | refine ⟨_, rfl, ?_⟩
          | refine ⟨rfl, ?_⟩
          | refine ⟨_, rfl, rfl, _, ((by exact hk_) : (_ : Option Ob) = _), (by exact ap_), ?_⟩
          | refine ⟨_, news_ow hupd_at, newsz_ow hupd_at, _, ((by exact hk_) : (_ : Option Ob) = _), (by exact ap_), ?_⟩
          | refine ⟨_, _, _, ((by exact hk_) : (_ : Option Ob) = _), ?_⟩
          | refine ⟨_, ((by exact hk_) : (_ : Option Ob) = _), ?_⟩
          | refine ⟨(show _ ≠ _ from (by first | decide | omega)), ?_⟩
          | refine ⟨(show _ ≤ _ from (by exact ap_)), ?_⟩
          | (refine ⟨fun hc => ?_, fun hc => ?_⟩ <;> (try simp (disch := omega) only [List.length_map, wrap64] at hc) <;> (try (exfalso; first | contradiction | omega)))
          | (refine callt (b := [one (vsF _), one (chF _)]) v_impl_TreeSure rfl ⟨(_, _), rfl, (by refine ⟨?_, ?_⟩ <;> (exact pr_))⟩ (.inl rfl) (by first | assumption | omega) (fun r hr => K_impl_TreeSure (a := (_, _)) hr) (fun hj => ?_) (fun hj => ?_) <;> (try simp only [etaPa, etaIt, etaVo] at hj) <;> (try contradiction))
          | (refine callk (b := [one (vsF _), agg (voF ⟨_, _⟩)]) v_impl_VotesAdd rfl ⟨(_, ⟨_, _⟩), rfl, (by refine ⟨?_, ?_, ?_⟩ <;> (exact pr_))⟩ (.inl rfl) (by first | assumption | omega) (fun r hr => ?_); have hj := K_impl_VotesAdd (a := (_, ⟨_, _⟩)) hr; clear hr; unfold R_impl_VotesAdd at hj; dsimp only at hj; (try simp only [etaVo] at hj); (try rw [eL1, eB1] at hj); (try rw [eL2, eB2] at hj); (try rw [eL3, eB3] at hj); (try rw [eL4, eB4] at hj); subst hj)
          | (refine ⟨⟨i + 1, ⟨rfl, rfl, rfl, congrArg I (wrap_up1 (n := 3) (by omega) (by decide)), trivial⟩, (by omega), (by trivial), (by omega), (by exact h0_), (by first | assumption | omega)⟩, ?_⟩; show 3 + 1 - ix (I _) < 3 + 1 - ix (I _); simp only [wrap_up1 (n := 3) (i := i) (by omega) (by decide), ix, Int.toNat_natCast]; omega)
          | fail)
      · skip
        repeat' ((conv => whnf); first
          | refine ⟨_, rfl, ?_⟩
          | refine ⟨rfl, ?_⟩
          | refine ⟨_, rfl, rfl, _, ((by exact hk_) : (_ : Option Ob) = _), (by exact ap_), ?_⟩
          | refine ⟨_, news_ow hupd_at, newsz_ow hupd_at, _, ((by exact hk_) : (_ : Option Ob) = _), (by exact ap_), ?_⟩
          | refine ⟨_, _, _, ((by exact hk_) : (_ : Option Ob) = _), ?_⟩
          | refine ⟨_, ((by exact hk_) : (_ : Option Ob) = _), ?_⟩
          | refine ⟨(show _ ≠ _ from (by first | decide | omega)), ?_⟩
          | refine ⟨(show _ ≤ _ from (by exact ap_)), ?_⟩
          | (refine ⟨fun hc => ?_, fun hc => ?_⟩ <;> (try simp (disch := omega) only [List.length_map, wrap64] at hc) <;> (try (exfalso; first | contradiction | omega)))
          | (refine callt (b := [one (vsF _), one (chF _)]) v_impl_TreeSure rfl ⟨(_, _), rfl, (by refine ⟨?_, ?_⟩ <;> (exact pr_))⟩ (.inl rfl) (by first | assumption | omega) (fun r hr => K_impl_TreeSure (a := (_, _)) hr) (fun hj => ?_) (fun hj => ?_) <;> (try simp only [etaPa, etaIt, etaVo] at hj) <;> (try contradiction))
          | (refine callk (b := [one (vsF _), agg (voF ⟨_, _⟩)]) v_impl_VotesAdd rfl ⟨(_, ⟨_, _⟩), rfl, (by refine ⟨?_, ?_, ?_⟩ <;> (exact pr_))⟩ (.inl rfl) (by first | assumption | omega) (fun r hr => ?_); have hj := K_impl_VotesAdd (a := (_, ⟨_, _⟩)) hr; clear hr; unfold R_impl_VotesAdd at hj; dsimp only at hj; (try simp only [etaVo] at hj); (try rw [eL1, eB1] at hj); (try rw [eL2, eB2] at hj); (try rw [eL3, eB3] at hj); (try rw [eL4, eB4] at hj); subst hj)
          | (refine ⟨⟨i + 1, ⟨rfl, rfl, rfl, congrArg I (wrap_up1 (n := 3) (by omega) (by decide)), trivial⟩, (by omega), (by trivial), (by omega), (by exact h0_), (by first | assumption | omega)⟩, ?_⟩; show 3 + 1 - ix (I _) < 3 + 1 - ix (I _); simp only [wrap_up1 (n := 3) (i := i) (by omega) (by decide), ix, Int.toNat_natCast]; omega)
          | fail)
    · have h3 : i = 3 := by omega
      subst h3
      have hl3 : (tipT (newX l C 3)).length ≤ LIM := by rw [htT]; exact hCL
      repeat' ((conv => whnf); first
        | refine ⟨_, rfl, ?_⟩
        | refine ⟨rfl, ?_⟩
        | refine ⟨_, rfl, rfl, _, ((by exact hk_) : (_ : Option Ob) = _), (by exact ap_), ?_⟩
        | refine ⟨_, news_ow hupd_at, newsz_ow hupd_at, _, ((by exact hk_) : (_ : Option Ob) = _), (by exact ap_), ?_⟩
        | refine ⟨_, _, _, ((by exact hk_) : (_ : Option Ob) = _), ?_⟩
        | refine ⟨_, ((by exact hk_) : (_ : Option Ob) = _), ?_⟩
        | refine ⟨(show _ ≠ _ from (by first | decide | omega)), ?_⟩
        | refine ⟨(show _ ≤ _ from (by exact ap_)), ?_⟩
        | (refine ⟨fun hc => ?_, fun hc => ?_⟩ <;> (try simp (disch := omega) only [List.length_map, wrap64] at hc) <;> (try (exfalso; first | contradiction | omega)))
        | (refine calle (b := [one (vsF _)]) v_impl_TreeTip rfl ⟨_, rfl, (by refine ⟨?_, ?_⟩ <;> (exact pr_))⟩ (.inl rfl) (by first | assumption | omega) (fun r hr => K_impl_TreeTip (a := _) hr) ?_)
        | (refine callt (b := [one (chF _), one (chF _)]) v_laws_lwSame rfl ⟨(_, _), rfl, (by refine ⟨?_, ?_⟩ <;> (exact pr_))⟩ (.inl rfl) (by first | assumption | omega) (fun r hr => K_laws_lwSame (a := (_, _)) hr) (fun hj => ?_) (fun hj => ?_) <;> (try simp only [etaPa, etaIt, etaVo] at hj) <;> (try contradiction))
        | (refine calle (b := [one (vsF _)]) v_impl_TreeLong rfl ⟨_, rfl, (by refine ⟨?_, ?_⟩ <;> (exact pr_))⟩ (.inl rfl) (by first | assumption | omega) (fun r hr => K_impl_TreeLong (a := _) hr) ?_)
        | (refine ⟨⟨i + 1, ⟨rfl, rfl, rfl, congrArg I (wrap_up1 (n := 3) (by omega) (by decide)), trivial⟩, (by omega), (by trivial), (by omega), (by exact h0_), (by first | assumption | omega)⟩, ?_⟩; show 3 + 1 - ix (I _) < 3 + 1 - ix (I _); simp only [wrap_up1 (n := 3) (i := i) (by omega) (by decide), ix, Int.toNat_natCast]; omega)
        | exact ⟨⟨_, rfl, rfl, (code, more), rfl, (by unfold R_laws_FnTipNew; dsimp only; first | done | exact absurd True.intro hj | (first | rfl | (exfalso; first | contradiction | omega | grind)))⟩, (by first | exact Nat.le_refl _ | omega), (by exact h0_)⟩
        | fail)
  · have hA0 := tipT_no hV
    repeat' ((conv => whnf); first
      | refine ⟨_, rfl, ?_⟩
      | refine ⟨rfl, ?_⟩
      | refine ⟨_, rfl, rfl, _, ((by exact hk_) : (_ : Option Ob) = _), (by exact ap_), ?_⟩
      | refine ⟨_, news_ow hupd_at, newsz_ow hupd_at, _, ((by exact hk_) : (_ : Option Ob) = _), (by exact ap_), ?_⟩
      | refine ⟨_, _, _, ((by exact hk_) : (_ : Option Ob) = _), ?_⟩
      | refine ⟨_, ((by exact hk_) : (_ : Option Ob) = _), ?_⟩
      | refine ⟨(show _ ≠ _ from (by first | decide | omega)), ?_⟩
      | refine ⟨(show _ ≤ _ from (by exact ap_)), ?_⟩
      | (refine ⟨fun hc => ?_, fun hc => ?_⟩ <;> (try simp (disch := omega) only [List.length_map, wrap64] at hc) <;> (try (exfalso; first | contradiction | omega)))
      | (refine calle (b := [one (vsF _)]) v_impl_TreeTip rfl ⟨_, rfl, (by refine ⟨?_, ?_⟩ <;> (exact pr_))⟩ (.inl rfl) (by first | assumption | omega) (fun r hr => K_impl_TreeTip (a := _) hr) ?_)
      | (refine calle (b := [one (vsF _)]) v_spec_TreeTip rfl ⟨_, rfl, (by refine ⟨?_, ?_⟩ <;> (exact pr_))⟩ (.inl rfl) (by first | assumption | omega) (fun r hr => K_spec_TreeTip (a := _) hr) ?_)
      | (refine callt (b := [one (chF _), one (chF _)]) v_laws_lwSame rfl ⟨(_, _), rfl, (by refine ⟨?_, ?_⟩ <;> (exact pr_))⟩ (.inl rfl) (by first | assumption | omega) (fun r hr => K_laws_lwSame (a := (_, _)) hr) (fun hj => ?_) (fun hj => ?_) <;> (try simp only [etaPa, etaIt, etaVo] at hj) <;> (try contradiction))
      | (refine callt (b := [one (vsF _)]) v_spec_VotesOk rfl ⟨_, rfl, (by exact pr_)⟩ (.inl rfl) (by first | assumption | omega) (fun r hr => K_spec_VotesOk (a := _) hr) (fun hj => ?_) (fun hj => ?_) <;> (try simp only [etaPa, etaIt, etaVo] at hj) <;> (try contradiction))
      | (refine ⟨⟨i + 1, ⟨rfl, rfl, rfl, congrArg I (wrap_up1 (n := 3) (by omega) (by decide)), trivial⟩, (by omega), (by trivial), (by omega), (by exact h0_), (by first | assumption | omega)⟩, ?_⟩; show 3 + 1 - ix (I _) < 3 + 1 - ix (I _); simp only [wrap_up1 (n := 3) (i := i) (by omega) (by decide), ix, Int.toNat_natCast]; omega)
      | exact ⟨⟨_, rfl, rfl, (code, more), rfl, (by unfold R_laws_FnTipNew; dsimp only; first | done | exact absurd True.intro hj | (first | rfl | (exfalso; first | contradiction | omega | grind)))⟩, (by first | exact Nat.le_refl _ | omega), (by exact h0_)⟩
      | fail)
end Av
end Go.Proofs.Ytdklbphecnennaa
