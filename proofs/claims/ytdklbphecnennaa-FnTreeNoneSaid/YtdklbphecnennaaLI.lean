/- The walks: the law FnTreeNone. -/
import Derived.Test.YtdklbphecnennaaP3
import Derived.Test.YtdklbphecnennaaQ3
set_option linter.unusedVariables false
set_option linter.unusedSimpArgs false
namespace Go.Proofs.Ytdklbphecnennaa
namespace Av
open Go.RowKit

def twoB (a b : Int) (v : Vo) : Bool := decide (v.n = a ∨ v.n = b)
theorem two_yes {l m : List Vo} {a b : Int} {i : Nat} {x : Vo} (h : m = (l.take i).filter (twoB a b)) (hx : l[i]? = some x) (hj : x.n = a ∨ x.n = b) : m ++ [x] = (l.take (i + 1)).filter (twoB a b) := by
  rw [List.take_add_one, hx, List.filter_append, h]; simp [twoB, hj]
theorem two_no {l m : List Vo} {a b : Int} {i : Nat} {x : Vo} (h : m = (l.take i).filter (twoB a b)) (hx : l[i]? = some x) (hj : ¬ (x.n = a ∨ x.n = b)) : m = (l.take (i + 1)).filter (twoB a b) := by
  rw [List.take_add_one, hx, List.filter_append, h]; simp [twoB, hj]
attribute [local irreducible] allT finT
attribute [local irreducible] Valid ValidM
set_option maxHeartbeats 4000000 in
set_option maxRecDepth 100000 in
theorem v_laws_FnTreeNone : Valid Try.prog n_laws_FnTreeNone S_laws_FnTreeNone := by
  refine valid_of_swp mixed is_laws_FnTreeNone (by rintro _ ⟨a, rfl, _⟩; exact Nat.le_of_ble_eq_true rfl) ?_
  rintro _ rm ⟨⟨code, more⟩, rfl, hpre⟩ hl
  try dsimp only at hpre
  have hpre0 := hpre
  obtain ⟨hp1, hp2⟩ := hpre
  dsimp only
  have cc_laws_FnTreeNone : S_laws_FnTreeNone.cost = 200000 := rfl
  have cc_spec_DrawTreeAll : S_spec_DrawTreeAll.cost = 10000 := rfl
  have cc_impl_TreeAll : S_impl_TreeAll.cost = 0 := rfl
  have cc_spec_TreeAll : S_spec_TreeAll.cost = 0 := rfl
  have cc_spec_VotesOk : S_spec_VotesOk.cost = 0 := rfl
  have cc_impl_TreeFinal : S_impl_TreeFinal.cost = 0 := rfl
  have cc_impl_TreeLong : S_impl_TreeLong.cost = 0 := rfl
  repeat' ((conv => whnf); first
    | refine ⟨_, rfl, ?_⟩
    | refine ⟨rfl, ?_⟩
    | refine ⟨_, _, rfl, at_map (by assumption), ?_⟩
    | refine idx_mapX (i := 0) rfl (by assumption) ?_
    | refine idx_map (by omega) (fun x hx => ?_)
    | refine idx_mapX (wrap_dn (by omega) (by omega)) (by assumption) ?_
    | refine idx_mapE (wrap_dn (by omega) (by omega)) (by omega) (fun x hx => ?_)
    | refine idx_mapL (by omega) (by first | assumption | (simp only [LIM]; omega)) (fun x hx => ?_)
    | refine idx_mapI (by omega) (by first | omega | (simp only [List.length_map] at *; omega)) (fun x hx => ?_)
    | refine ⟨_, ldc_cells hupd_at (Nat.le_of_ble_eq_true rfl), ?_⟩
    | refine ⟨_, ldc_cells (by first | assumption | exact zk ‹_› (by omega) | exact zk (zk ‹_› (by omega)) (by omega)) (Nat.le_of_ble_eq_true rfl), ?_⟩
    | refine ⟨_, _, _, _, ((by exact hk_) : (_ : Option Ob) = _), rfl, at_mapA (by assumption), ?_⟩
    | refine idx_ow (by exact hk_) (by omega) (fun x hx => ?_)
    | refine ⟨_, _, _, _, ((by exact hk_) : (_ : Option Ob) = _), rfl, fill_at (by omega), ?_⟩
    | refine idx_owL (by exact hk_) (by omega) (by simp only [LIM]; omega) (fun x hx => ?_)
    | refine idx_owI (by exact hk_) (by omega) (by first | omega | (simp only [List.length_map] at *; omega)) (fun x hx => ?_)
    | refine ⟨_, ldc_pa (by exact hk_) (at_mapA (by assumption)) (Nat.le_of_ble_eq_true rfl), ?_⟩
    | refine ⟨_, rfl, rfl, _, ((by exact hk_) : (_ : Option Ob) = _), (by exact ap_), ?_⟩
    | refine ⟨_, news_ow hupd_at, newsz_ow hupd_at, _, ((by exact hk_) : (_ : Option Ob) = _), (by exact ap_), ?_⟩
    | refine ⟨_, _, _, ((by exact hk_) : (_ : Option Ob) = _), ?_⟩
    | refine ⟨_, ((by exact hk_) : (_ : Option Ob) = _), ?_⟩
    | refine ⟨(show _ ≠ _ from (by first | decide | omega)), ?_⟩
    | refine ⟨(show _ ≤ _ from (by exact ap_)), ?_⟩
    | (refine ⟨fun hc => ?_, fun hc => ?_⟩ <;> (try simp (disch := omega) only [List.length_map, wrap64] at hc))
    | (refine callk (b := [one (byF _)]) v_spec_DrawTreeAll rfl ⟨_, rfl, (by exact pr_)⟩ (.inl rfl) (by omega) (fun r hr => ?_); have hj := K_spec_DrawTreeAll (a := _) hr; clear hr; obtain ⟨l, rfl, hdl⟩ := hj)
    | exact ⟨⟨_, rfl, rfl, (code, more), rfl, (by unfold R_laws_FnTreeNone; dsimp only; first | done | exact absurd True.intro hj | (rfl))⟩, (by first | exact Nat.le_refl _ | omega), (by exact h0_)⟩
    | fail)
  have hfl : FitVs l := hdl.fit
  have hln : l.length < LIM := hdl.lt
  have hll : l.length ≤ 400 := hdl.1
  have hfa := allS_fit hdl
  by_cases hV : VotesOk l
  · have hml : more.length ≤ LIM := by simp only [LIM]; omega
    obtain ⟨A, hA⟩ : ∃ A : Int, A = IntKind.i64.wrap (1 + ((more.length % 4 : Nat) : Int)) := ⟨_, rfl⟩
    obtain ⟨C, hC⟩ : ∃ A : Int, A = IntKind.i64.wrap (1 + ((more.length / 2 % 4 : Nat) : Int)) := ⟨_, rfl⟩
    have e1 : Int.tmod (((more.map fun n => [FV.v (.int .u8 n)]).length : Nat) : Int) 4 = ((more.length % 4 : Nat) : Int) := by rw [List.length_map]; exact rem_at (m := 4) rfl (by decide)
    have e2 : Int.tmod (IntKind.i64.wrap (Int.tdiv (((more.map fun n => [FV.v (.int .u8 n)]).length : Nat) : Int) 2)) 4 = ((more.length / 2 % 4 : Nat) : Int) := rem_nat (m := 4) (quo_at (k := 2) rfl (by rw [List.length_map]; exact hml)) rfl (by decide) |>.trans (by rw [List.length_map])
    repeat' ((conv => whnf); first
      | refine ⟨_, rfl, ?_⟩
      | refine ⟨rfl, ?_⟩
      | refine ⟨_, _, rfl, at_map (by assumption), ?_⟩
      | refine idx_mapX (i := 0) rfl (by assumption) ?_
      | refine idx_map (by omega) (fun x hx => ?_)
      | refine idx_mapX (wrap_dn (by omega) (by omega)) (by assumption) ?_
      | refine idx_mapE (wrap_dn (by omega) (by omega)) (by omega) (fun x hx => ?_)
      | refine idx_mapL (by omega) (by first | assumption | (simp only [LIM]; omega)) (fun x hx => ?_)
      | refine idx_mapI (by omega) (by first | omega | (simp only [List.length_map] at *; omega)) (fun x hx => ?_)
      | refine ⟨_, ldc_cells hupd_at (Nat.le_of_ble_eq_true rfl), ?_⟩
      | refine ⟨_, ldc_cells (by first | assumption | exact zk ‹_› (by omega) | exact zk (zk ‹_› (by omega)) (by omega)) (Nat.le_of_ble_eq_true rfl), ?_⟩
      | refine ⟨_, _, _, _, ((by exact hk_) : (_ : Option Ob) = _), rfl, at_mapA (by assumption), ?_⟩
      | refine idx_ow (by exact hk_) (by omega) (fun x hx => ?_)
      | refine ⟨_, _, _, _, ((by exact hk_) : (_ : Option Ob) = _), rfl, fill_at (by omega), ?_⟩
      | refine idx_owL (by exact hk_) (by omega) (by simp only [LIM]; omega) (fun x hx => ?_)
      | refine idx_owI (by exact hk_) (by omega) (by first | omega | (simp only [List.length_map] at *; omega)) (fun x hx => ?_)
      | refine ⟨_, ldc_pa (by exact hk_) (at_mapA (by assumption)) (Nat.le_of_ble_eq_true rfl), ?_⟩
      | refine ⟨_, rfl, rfl, _, ((by exact hk_) : (_ : Option Ob) = _), (by exact ap_), ?_⟩
      | refine ⟨_, news_ow hupd_at, newsz_ow hupd_at, _, ((by exact hk_) : (_ : Option Ob) = _), (by exact ap_), ?_⟩
      | refine ⟨_, _, _, ((by exact hk_) : (_ : Option Ob) = _), ?_⟩
      | refine ⟨_, ((by exact hk_) : (_ : Option Ob) = _), ?_⟩
      | refine ⟨(show _ ≠ _ from (by first | decide | omega)), ?_⟩
      | refine ⟨(show _ ≤ _ from (by exact ap_)), ?_⟩
      | (refine ⟨fun hc => ?_, fun hc => ?_⟩ <;> (try simp (disch := omega) only [List.length_map, wrap64] at hc) <;> (try (exfalso; first | contradiction | omega)))
      | (refine calle (b := [one (vsF _)]) v_impl_TreeAll rfl ⟨_, rfl, (by refine ⟨?_, ?_⟩ <;> (exact pr_))⟩ (.inl rfl) (by first | assumption | omega) (fun r hr => K_impl_TreeAll (a := _) hr) ?_)
      | (refine calle (b := [one (vsF _)]) v_spec_TreeAll rfl ⟨_, rfl, (by refine ⟨?_, ?_⟩ <;> (exact pr_))⟩ (.inl rfl) (by first | assumption | omega) (fun r hr => K_spec_TreeAll (a := _) hr) ?_)
      | (refine callt (b := [one (vsF _)]) v_spec_VotesOk rfl ⟨_, rfl, (by exact pr_)⟩ (.inl rfl) (by first | assumption | omega) (fun r hr => K_spec_VotesOk (a := _) hr) (fun hj => ?_) (fun hj => ?_) <;> (try simp only [etaPa, etaIt, etaVo] at hj) <;> (try contradiction))
      | fail)
    conv => whnf
    refine ⟨fun fr H nx rm' => ∃ (i : Nat) (k : Nat) (m : List Vo), Has fr [(5, one (vsF l)) , (8, I A), (9, I C), (10, .w (.o (.ow k))), (11, I i)] ∧ i ≤ l.length ∧ (m = (l.take i).filter (twoB A C)) ∧ H k = some (voO m) ∧ 1 ≤ k ∧ k < nx ∧ m.length ≤ i ∧ 1 ≤ nx ∧ H 0 = none ∧ rm' ≤ rm + 100000,
      fun fr _ _ _ => l.length - ix (fr 11), ⟨0, _, [], ⟨(by first | rfl | (show I _ = I _; simp)), (by exact congrArg I (by rw [hA, ← e1])), (by exact congrArg I (by rw [hC, ← e2])), (by first | rfl | (show I _ = I _; simp)), (by first | rfl | (show I _ = I _; simp)), trivial⟩, Nat.zero_le _, (by rfl), hupd_at, ln_, ln_, Nat.zero_le _, (by first | decide | omega), (by exact h0_), (by omega)⟩, ?_⟩
    rintro fr H nx rm' ⟨i, k, m, hfr, hi, hq, hk, hk1, hkn, hml2, hnx, hH, hrm⟩
    rw [hfr.eq]
    rcases Nat.lt_or_ge i l.length with hi' | hi'
    · obtain ⟨x, hx⟩ : ∃ x, l[i]? = some x := ⟨_, List.getElem?_eq_getElem hi'⟩
      repeat' ((conv => whnf); first
        | refine ⟨_, rfl, ?_⟩
        | refine ⟨rfl, ?_⟩
        | refine ⟨_, _, rfl, at_map (by assumption), ?_⟩
        | refine idx_mapX (i := 0) rfl (by assumption) ?_
        | refine idx_map (by omega) (fun x hx => ?_)
        | refine idx_mapX (wrap_dn (by omega) (by omega)) (by assumption) ?_
        | refine idx_mapE (wrap_dn (by omega) (by omega)) (by omega) (fun x hx => ?_)
        | refine idx_mapL (by omega) (by first | assumption | (simp only [LIM]; omega)) (fun x hx => ?_)
        | refine idx_mapI (by omega) (by first | omega | (simp only [List.length_map] at *; omega)) (fun x hx => ?_)
        | refine ⟨_, ldc_cells hupd_at (Nat.le_of_ble_eq_true rfl), ?_⟩
        | refine ⟨_, ldc_cells (by first | assumption | exact zk ‹_› (by omega) | exact zk (zk ‹_› (by omega)) (by omega)) (Nat.le_of_ble_eq_true rfl), ?_⟩
        | refine ⟨_, _, _, _, ((by exact hk_) : (_ : Option Ob) = _), rfl, at_mapA (by assumption), ?_⟩
        | refine idx_ow (by exact hk_) (by omega) (fun x hx => ?_)
        | refine ⟨_, _, _, _, ((by exact hk_) : (_ : Option Ob) = _), rfl, fill_at (by omega), ?_⟩
        | refine idx_owL (by exact hk_) (by omega) (by simp only [LIM]; omega) (fun x hx => ?_)
        | refine idx_owI (by exact hk_) (by omega) (by first | omega | (simp only [List.length_map] at *; omega)) (fun x hx => ?_)
        | refine ⟨_, ldc_pa (by exact hk_) (at_mapA (by assumption)) (Nat.le_of_ble_eq_true rfl), ?_⟩
        | refine ⟨_, rfl, rfl, _, ((by exact hk_) : (_ : Option Ob) = _), (by exact ap_), ?_⟩
        | refine ⟨_, news_ow hupd_at, newsz_ow hupd_at, _, ((by exact hk_) : (_ : Option Ob) = _), (by exact ap_), ?_⟩
        | refine ⟨_, _, _, ((by exact hk_) : (_ : Option Ob) = _), ?_⟩
        | refine ⟨_, ((by exact hk_) : (_ : Option Ob) = _), ?_⟩
        | refine ⟨(show _ ≠ _ from (by first | decide | omega)), ?_⟩
        | refine ⟨(show _ ≤ _ from (by exact ap_)), ?_⟩
        | (refine ⟨fun hc => ?_, fun hc => ?_⟩ <;> (try simp (disch := omega) only [List.length_map, wrap64] at hc) <;> (try (exfalso; first | contradiction | omega)))
        | (first | (refine ⟨⟨i + 1, _, m ++ [x], ⟨rfl, rfl, rfl, rfl, congrArg I (wrap_up (n := l.length) (by omega) (hfl.1)), trivial⟩, (by omega), (by exact two_yes hq hx (by first | exact .inl ‹_› | exact .inr ‹_›)), (by first | exact hupd_at.trans (arr_snoc rfl) | exact hk | exact hk_), (by omega), ln_, (by first | omega | (simp only [List.length_append, List.length_cons, List.length_nil]; omega)), (by omega), (by exact h0_), (by first | assumption | omega)⟩, ?_⟩; show l.length - ix (I _) < l.length - ix (I _); simp only [wrap_up (n := l.length) (i := i) (by omega) (hfl.1), ix, Int.toNat_natCast]; omega) | (refine ⟨⟨i + 1, _, m, ⟨rfl, rfl, rfl, rfl, congrArg I (wrap_up (n := l.length) (by omega) (hfl.1)), trivial⟩, (by omega), (by exact two_no hq hx (by rintro (h | h); contradiction; contradiction)), (by first | exact hupd_at.trans (arr_snoc rfl) | exact hk | exact hk_), (by omega), ln_, (by first | omega | (simp only [List.length_append, List.length_cons, List.length_nil]; omega)), (by omega), (by exact h0_), (by first | assumption | omega)⟩, ?_⟩; show l.length - ix (I _) < l.length - ix (I _); simp only [wrap_up (n := l.length) (i := i) (by omega) (hfl.1), ix, Int.toNat_natCast]; omega))
        | fail)
    · have hfm : FitVs m := ⟨by simp only [LIM]; omega, fun u hu => by rw [hq] at hu; exact hfl.2 u (List.mem_of_mem_take (List.mem_filter.1 hu).1)⟩
      have hmlt : m.length < LIM := by simp only [LIM]; omega
      have hms : m = l.filter (twoB A C) := by rw [hq, List.take_of_length_le hi']
      have hmo : VotesOk m := by rw [hms]; exact votesOk_sub List.filter_sublist hV
      have hone : allS m = [[]] := two_all (a := A) (b := C) fun v hv => by rw [hms] at hv; simpa [twoB] using (List.mem_filter.1 hv).2
      have h1 : (allT m).length = 1 := by rw [allT_ok hmo, hone]; rfl
      have h2 : (finT m).length = 0 := by rw [fin_ok hmo, fin_of_one hone]; rfl
      have h3 : long m = 0 := by rw [long_ok hmo, tip_of_one hone]; rfl
      repeat' ((conv => whnf); first
        | refine ⟨_, rfl, ?_⟩
        | refine ⟨rfl, ?_⟩
        | refine ⟨_, _, rfl, at_map (by assumption), ?_⟩
        | refine idx_mapX (i := 0) rfl (by assumption) ?_
        | refine idx_map (by omega) (fun x hx => ?_)
        | refine idx_mapX (wrap_dn (by omega) (by omega)) (by assumption) ?_
        | refine idx_mapE (wrap_dn (by omega) (by omega)) (by omega) (fun x hx => ?_)
        | refine idx_mapL (by omega) (by first | assumption | (simp only [LIM]; omega)) (fun x hx => ?_)
        | refine idx_mapI (by omega) (by first | omega | (simp only [List.length_map] at *; omega)) (fun x hx => ?_)
        | refine ⟨_, ldc_cells hupd_at (Nat.le_of_ble_eq_true rfl), ?_⟩
        | refine ⟨_, ldc_cells (by first | assumption | exact zk ‹_› (by omega) | exact zk (zk ‹_› (by omega)) (by omega)) (Nat.le_of_ble_eq_true rfl), ?_⟩
        | refine ⟨_, _, _, _, ((by exact hk_) : (_ : Option Ob) = _), rfl, at_mapA (by assumption), ?_⟩
        | refine idx_ow (by exact hk_) (by omega) (fun x hx => ?_)
        | refine ⟨_, _, _, _, ((by exact hk_) : (_ : Option Ob) = _), rfl, fill_at (by omega), ?_⟩
        | refine idx_owL (by exact hk_) (by omega) (by simp only [LIM]; omega) (fun x hx => ?_)
        | refine idx_owI (by exact hk_) (by omega) (by first | omega | (simp only [List.length_map] at *; omega)) (fun x hx => ?_)
        | refine ⟨_, ldc_pa (by exact hk_) (at_mapA (by assumption)) (Nat.le_of_ble_eq_true rfl), ?_⟩
        | refine ⟨_, rfl, rfl, _, ((by exact hk_) : (_ : Option Ob) = _), (by exact ap_), ?_⟩
        | refine ⟨_, news_ow hupd_at, newsz_ow hupd_at, _, ((by exact hk_) : (_ : Option Ob) = _), (by exact ap_), ?_⟩
        | refine ⟨_, _, _, ((by exact hk_) : (_ : Option Ob) = _), ?_⟩
        | refine ⟨_, ((by exact hk_) : (_ : Option Ob) = _), ?_⟩
        | refine ⟨(show _ ≠ _ from (by first | decide | omega)), ?_⟩
        | refine ⟨(show _ ≤ _ from (by exact ap_)), ?_⟩
        | (refine ⟨fun hc => ?_, fun hc => ?_⟩ <;> (try simp (disch := omega) only [List.length_map, wrap64] at hc) <;> (try (exfalso; first | contradiction | omega)))
        | (refine .inl ⟨_, _, _, _, _, rfl, (by exact hk_), fcellss_f voF _, .inr ?_⟩)
        | (refine calle (b := [one (vsF _)]) v_impl_TreeAll rfl ⟨_, rfl, (by refine ⟨?_, ?_⟩ <;> (exact pr_))⟩ (.inl rfl) (by first | assumption | omega) (fun r hr => K_impl_TreeAll (a := _) hr) ?_)
        | (refine calle (b := [one (vsF _)]) v_impl_TreeFinal rfl ⟨_, rfl, (by refine ⟨?_, ?_⟩ <;> (exact pr_))⟩ (.inl rfl) (by first | assumption | omega) (fun r hr => K_impl_TreeFinal (a := _) hr) ?_)
        | (refine calle (b := [one (vsF _)]) v_impl_TreeLong rfl ⟨_, rfl, (by refine ⟨?_, ?_⟩ <;> (exact pr_))⟩ (.inl rfl) (by first | assumption | omega) (fun r hr => K_impl_TreeLong (a := _) hr) ?_)
        | (first | (refine ⟨⟨i + 1, _, m ++ [x], ⟨rfl, rfl, rfl, rfl, congrArg I (wrap_up (n := l.length) (by omega) (hfl.1)), trivial⟩, (by omega), (by exact two_yes hq hx (by first | exact .inl ‹_› | exact .inr ‹_›)), (by first | exact hupd_at.trans (arr_snoc rfl) | exact hk | exact hk_), (by omega), ln_, (by first | omega | (simp only [List.length_append, List.length_cons, List.length_nil]; omega)), (by omega), (by exact h0_), (by first | assumption | omega)⟩, ?_⟩; show l.length - ix (I _) < l.length - ix (I _); simp only [wrap_up (n := l.length) (i := i) (by omega) (hfl.1), ix, Int.toNat_natCast]; omega) | (refine ⟨⟨i + 1, _, m, ⟨rfl, rfl, rfl, rfl, congrArg I (wrap_up (n := l.length) (by omega) (hfl.1)), trivial⟩, (by omega), (by exact two_no hq hx (by rintro (h | h); contradiction; contradiction)), (by first | exact hupd_at.trans (arr_snoc rfl) | exact hk | exact hk_), (by omega), ln_, (by first | omega | (simp only [List.length_append, List.length_cons, List.length_nil]; omega)), (by omega), (by exact h0_), (by first | assumption | omega)⟩, ?_⟩; show l.length - ix (I _) < l.length - ix (I _); simp only [wrap_up (n := l.length) (i := i) (by omega) (hfl.1), ix, Int.toNat_natCast]; omega))
        | exact ⟨⟨_, rfl, rfl, (code, more), rfl, (by unfold R_laws_FnTreeNone; dsimp only; first | done | exact absurd True.intro hj | (first | rfl | (exfalso; first | contradiction | omega | grind)))⟩, (by first | exact Nat.le_refl _ | omega), (by exact h0_)⟩
        | fail)
  · have hA0 : allT l = [] := allT_no hV
    repeat' ((conv => whnf); first
      | refine ⟨_, rfl, ?_⟩
      | refine ⟨rfl, ?_⟩
      | refine ⟨_, _, rfl, at_map (by assumption), ?_⟩
      | refine idx_mapX (i := 0) rfl (by assumption) ?_
      | refine idx_map (by omega) (fun x hx => ?_)
      | refine idx_mapX (wrap_dn (by omega) (by omega)) (by assumption) ?_
      | refine idx_mapE (wrap_dn (by omega) (by omega)) (by omega) (fun x hx => ?_)
      | refine idx_mapL (by omega) (by first | assumption | (simp only [LIM]; omega)) (fun x hx => ?_)
      | refine idx_mapI (by omega) (by first | omega | (simp only [List.length_map] at *; omega)) (fun x hx => ?_)
      | refine ⟨_, ldc_cells hupd_at (Nat.le_of_ble_eq_true rfl), ?_⟩
      | refine ⟨_, ldc_cells (by first | assumption | exact zk ‹_› (by omega) | exact zk (zk ‹_› (by omega)) (by omega)) (Nat.le_of_ble_eq_true rfl), ?_⟩
      | refine ⟨_, _, _, _, ((by exact hk_) : (_ : Option Ob) = _), rfl, at_mapA (by assumption), ?_⟩
      | refine idx_ow (by exact hk_) (by omega) (fun x hx => ?_)
      | refine ⟨_, _, _, _, ((by exact hk_) : (_ : Option Ob) = _), rfl, fill_at (by omega), ?_⟩
      | refine idx_owL (by exact hk_) (by omega) (by simp only [LIM]; omega) (fun x hx => ?_)
      | refine idx_owI (by exact hk_) (by omega) (by first | omega | (simp only [List.length_map] at *; omega)) (fun x hx => ?_)
      | refine ⟨_, ldc_pa (by exact hk_) (at_mapA (by assumption)) (Nat.le_of_ble_eq_true rfl), ?_⟩
      | refine ⟨_, rfl, rfl, _, ((by exact hk_) : (_ : Option Ob) = _), (by exact ap_), ?_⟩
      | refine ⟨_, news_ow hupd_at, newsz_ow hupd_at, _, ((by exact hk_) : (_ : Option Ob) = _), (by exact ap_), ?_⟩
      | refine ⟨_, _, _, ((by exact hk_) : (_ : Option Ob) = _), ?_⟩
      | refine ⟨_, ((by exact hk_) : (_ : Option Ob) = _), ?_⟩
      | refine ⟨(show _ ≠ _ from (by first | decide | omega)), ?_⟩
      | refine ⟨(show _ ≤ _ from (by exact ap_)), ?_⟩
      | (refine ⟨fun hc => ?_, fun hc => ?_⟩ <;> (try simp (disch := omega) only [List.length_map, wrap64] at hc) <;> (try (exfalso; first | contradiction | omega)))
      | (refine calle (b := [one (vsF _)]) v_impl_TreeAll rfl ⟨_, rfl, (by refine ⟨?_, ?_⟩ <;> (exact pr_))⟩ (.inl rfl) (by first | assumption | omega) (fun r hr => K_impl_TreeAll (a := _) hr) ?_)
      | (refine calle (b := [one (vsF _)]) v_spec_TreeAll rfl ⟨_, rfl, (by refine ⟨?_, ?_⟩ <;> (exact pr_))⟩ (.inl rfl) (by first | assumption | omega) (fun r hr => K_spec_TreeAll (a := _) hr) ?_)
      | (refine callt (b := [one (vsF _)]) v_spec_VotesOk rfl ⟨_, rfl, (by exact pr_)⟩ (.inl rfl) (by first | assumption | omega) (fun r hr => K_spec_VotesOk (a := _) hr) (fun hj => ?_) (fun hj => ?_) <;> (try simp only [etaPa, etaIt, etaVo] at hj) <;> (try contradiction))
      | (first | (refine ⟨⟨i + 1, _, m ++ [x], ⟨rfl, rfl, rfl, rfl, congrArg I (wrap_up (n := l.length) (by omega) (hfl.1)), trivial⟩, (by omega), (by exact two_yes hq hx (by first | exact .inl ‹_› | exact .inr ‹_›)), (by first | exact hupd_at.trans (arr_snoc rfl) | exact hk | exact hk_), (by omega), ln_, (by first | omega | (simp only [List.length_append, List.length_cons, List.length_nil]; omega)), (by omega), (by exact h0_), (by first | assumption | omega)⟩, ?_⟩; show l.length - ix (I _) < l.length - ix (I _); simp only [wrap_up (n := l.length) (i := i) (by omega) (hfl.1), ix, Int.toNat_natCast]; omega) | (refine ⟨⟨i + 1, _, m, ⟨rfl, rfl, rfl, rfl, congrArg I (wrap_up (n := l.length) (by omega) (hfl.1)), trivial⟩, (by omega), (by exact two_no hq hx (by rintro (h | h); contradiction; contradiction)), (by first | exact hupd_at.trans (arr_snoc rfl) | exact hk | exact hk_), (by omega), ln_, (by first | omega | (simp only [List.length_append, List.length_cons, List.length_nil]; omega)), (by omega), (by exact h0_), (by first | assumption | omega)⟩, ?_⟩; show l.length - ix (I _) < l.length - ix (I _); simp only [wrap_up (n := l.length) (i := i) (by omega) (hfl.1), ix, Int.toNat_natCast]; omega))
      | exact ⟨⟨_, rfl, rfl, (code, more), rfl, (by unfold R_laws_FnTreeNone; dsimp only; first | done | exact absurd True.intro hj | (first | rfl | (exfalso; first | contradiction | omega | grind)))⟩, (by first | exact Nat.le_refl _ | omega), (by exact h0_)⟩
      | fail)
end Av
end Go.Proofs.Ytdklbphecnennaa
