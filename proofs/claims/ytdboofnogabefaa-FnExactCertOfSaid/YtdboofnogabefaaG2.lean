/- The walks: the reference's l1Copy, l11All, l11Tip, TreeLong. -/
import Derived.Test.YtdboofnogabefaaG1
set_option linter.unusedVariables false
set_option linter.unusedSimpArgs false
namespace Go.Proofs.Ytdboofnogabefaa
namespace Av
open Go.RowKit
theorem allM_yes {l r : List Vo} {v : Vo} {out : List (List It)} (h : v.c ∉ out) (h' : SureM l v.c) : allFromM l (v :: r) out = allFromM l r (out ++ [v.c]) := by
  simp only [allFromM, tb_pos (show v.c ∉ out ∧ SureM l v.c from ⟨h, h'⟩), if_true]
theorem allM_no {l r : List Vo} {v : Vo} {out : List (List It)} (h : ¬ (v.c ∉ out ∧ SureM l v.c)) : allFromM l (v :: r) out = allFromM l r out := by
  simp only [allFromM, tb_neg h, Bool.false_eq_true, if_false]
theorem drop_at {α : Type} {l : List α} {i : Nat} {v : α} (hv : l[i]? = some v) : l.drop i = v :: l.drop (i + 1) := by
  obtain ⟨h, rfl⟩ := List.getElem?_eq_some_iff.1 hv
  exact List.drop_eq_getElem_cons h
theorem mem_take_succ {α : Type} {l : List α} {i : Nat} {x a : α} (hx : l[i]? = some x) : a ∈ l.take (i + 1) ↔ a ∈ l.take i ∨ x = a := by
  rw [List.take_add_one, hx]; simp [eq_comm]
theorem mem_take_mono {α : Type} {l : List α} {j : Nat} {x : α} (h : x ∈ l.take j) : x ∈ l.take (j + 1) := by
  rw [List.take_add_one]; exact List.mem_append_left _ h
attribute [local irreducible] Valid ValidM
set_option maxHeartbeats 4000000 in
set_option maxRecDepth 100000 in
theorem v_spec_l1Copy : Valid Try.prog n_spec_l1Copy S_spec_l1Copy := by
  refine valid_of_swp mixed is_spec_l1Copy (by rintro _ ⟨a, rfl, _⟩; exact Nat.le_of_ble_eq_true rfl) ?_
  rintro _ rm ⟨c, rfl, hpre⟩ hl
  try dsimp only at hpre
  have hpre0 := hpre
  have hp1 := hpre
  repeat' ((conv => whnf); first
    | refine ⟨_, rfl, ?_⟩
    | refine ⟨rfl, ?_⟩
    | refine ⟨_, rfl, rfl, _, ((by exact hk_) : (_ : Option Ob) = _), (by exact ap_), ?_⟩
    | refine ⟨_, news_ow hupd_at, newsz_ow hupd_at, _, ((by exact hk_) : (_ : Option Ob) = _), (by exact ap_), ?_⟩
    | refine ⟨_, ((by exact hk_) : (_ : Option Ob) = _), ?_⟩
    | refine ⟨(show _ ≤ _ from (by exact ap_)), ?_⟩
    | (refine ⟨fun hc => ?_, fun hc => ?_⟩ <;> (try simp (disch := omega) only [List.length_map, wrap64] at hc))
    | exact ⟨⟨_, rfl, rfl, c, rfl, rfl⟩, (by first | exact Nat.le_refl _ | omega), (by exact h0_)⟩
    | exact ⟨⟨_, rfl, rfl, c, rfl, (by refine congrArg one (?_ : (_ : FV) = _); (try dsimp only); first | done | exact absurd True.intro hj | (first | assumption | grind))⟩, (by first | exact Nat.le_refl _ | omega), (by exact h0_)⟩
    | exact ⟨⟨[.o (.c _)], congrArg (fun x => some [AW.o x]) (bor_ow (by exact hk_) (by first | rfl | (exact fcellss_c _))), rfl, c, rfl, (by first | rfl | (refine congrArg one (?_ : (_ : FV) = _); (try dsimp only); first | done | exact absurd True.intro hj | (first | assumption | grind)))⟩, (by first | exact Nat.le_refl _ | omega), (by exact h0_)⟩
    | fail)
set_option maxHeartbeats 4000000 in
set_option maxRecDepth 100000 in
theorem v_spec_l11All : Valid Try.prog n_spec_l11All S_spec_l11All := by
  refine valid_of_swp mixed is_spec_l11All (by rintro _ ⟨a, rfl, _⟩; exact Nat.le_of_ble_eq_true rfl) ?_
  rintro _ rm ⟨l, rfl, hpre⟩ hl
  try dsimp only at hpre
  have hpre0 := hpre
  obtain ⟨hp1, hp2⟩ := hpre
  conv => whnf
  refine ⟨fun fr H nx rm' => ∃ (i k : Nat) (out : List (List It)), Has fr [(0, one (vsF l)), (3, .w (.o (.ow k))), (4, I i)] ∧ i ≤ l.length ∧ allFromM l (l.drop i) out = allM l ∧
      H k = some (.arr ty_Simpl_Item 1 (csA out)) ∧ 1 ≤ k ∧ k < nx ∧ out.length ≤ i + 1 ∧ (∀ c, c ∈ out → c.length ≤ LIM) ∧ H 0 = none ∧ rm' = rm,
    fun fr _ _ _ => l.length - ix (fr 4), ⟨0, _, [[]], ⟨rfl, rfl, rfl, trivial⟩, Nat.zero_le _, rfl, rfl, by decide, by decide, by decide, by simp, rfl, rfl⟩, ?_⟩
  rintro fr H nx rm' ⟨i, k, out, hfr, hi, hq, hk, hk1, hkn, hol, hoc, hH, rfl⟩
  rw [hfr.eq]
  repeat' ((conv => whnf); first
    | refine ⟨_, rfl, ?_⟩
    | refine ⟨rfl, ?_⟩
    | refine ⟨_, _, rfl, at_map (by assumption), ?_⟩
    | refine idx_mapX (i := 0) rfl (by assumption) ?_
    | refine idx_map (by omega) (fun x hx => ?_)
    | refine idx_mapX (wrap_dn (by omega) (by omega)) (by assumption) ?_
    | refine idx_mapE (wrap_dn (by omega) (by omega)) (by omega) (fun x hx => ?_)
    | refine idx_mapL (by omega) (by first | assumption | (simp only [LIM]; omega)) (fun x hx => ?_)
    | refine idx_mapI (by omega) (by first | omega | (simp only [List.length_map] at *; omega)) (fun x hx => ?_)
    | refine ⟨_, ldc_cells hupd_at (Nat.le_of_ble_eq_true rfl), ?_⟩
    | refine ⟨_, ldc_cells (by first | assumption | exact zk ‹_› (by omega) | exact zk (zk ‹_› (by omega)) (by omega)) (Nat.le_of_ble_eq_true rfl), ?_⟩
    | refine ⟨_, _, _, _, ((by exact hk_) : (_ : Option Ob) = _), rfl, at_mapA (by assumption), ?_⟩
    | refine idx_ow (by exact hk_) (by omega) (fun x hx => ?_)
    | refine ⟨_, _, _, _, ((by exact hk_) : (_ : Option Ob) = _), rfl, fill_at (by omega), ?_⟩
    | refine idx_owL (by exact hk_) (by omega) (by simp only [LIM]; omega) (fun x hx => ?_)
    | refine idx_owI (by exact hk_) (by omega) (by first | omega | (simp only [List.length_map] at *; omega)) (fun x hx => ?_)
    | refine ⟨_, ldc_pa (by exact hk_) (at_mapA (by assumption)) (Nat.le_of_ble_eq_true rfl), ?_⟩
    | refine ⟨_, rfl, rfl, _, ((by exact hk_) : (_ : Option Ob) = _), (by exact ap_), ?_⟩
    | refine ⟨_, news_ow hupd_at, newsz_ow hupd_at, _, ((by exact hk_) : (_ : Option Ob) = _), (by exact ap_), ?_⟩
    | refine ⟨_, _, _, ((by exact hk_) : (_ : Option Ob) = _), ?_⟩
    | refine ⟨_, ((by exact hk_) : (_ : Option Ob) = _), ?_⟩
    | refine ⟨(show _ ≤ _ from (by exact ap_)), ?_⟩
    | (refine ⟨fun hc => ?_, fun hc => ?_⟩ <;> (try simp (disch := omega) only [List.length_map, wrap64] at hc))
    | exact ⟨⟨_, rfl, rfl, l, rfl, rfl⟩, (by first | exact Nat.le_refl _ | omega), (by exact h0_)⟩
    | exact ⟨⟨_, rfl, rfl, l, rfl, (by refine congrArg one (?_ : (_ : FV) = _); (try dsimp only); first | done | exact absurd True.intro hj | ((rw [List.drop_eq_nil_of_le (by omega)] at hq; exact congrArg csF hq)))⟩, (by first | exact Nat.le_refl _ | omega), (by exact h0_)⟩
    | exact ⟨⟨[.o (.c _)], congrArg (fun x => some [AW.o x]) (bor_ow (by exact hk_) (by first | rfl | (exact csA_frz _))), rfl, l, rfl, (by first | rfl | (refine congrArg one (?_ : (_ : FV) = _); (try dsimp only); first | done | exact absurd True.intro hj | ((rw [List.drop_eq_nil_of_le (by omega)] at hq; exact congrArg csF hq))))⟩, (by first | exact Nat.le_refl _ | omega), (by exact h0_)⟩
    | fail)
  obtain ⟨v, hv⟩ : ∃ v, l[i]? = some v := ⟨_, List.getElem?_eq_getElem (by omega)⟩
  have hvc : v.c.length ≤ LIM := hp1.get hv
  rw [drop_at hv] at hq
  refine ⟨fun fr H nx r2 => ∃ (j : Nat) (b : Bool), Has fr [(0, one (vsF l)), (3, .w (.o (.ow k))), (4, I i), (5, B b), (6, I j)] ∧ j ≤ out.length ∧ (b = true ↔ v.c ∈ out.take j) ∧
      H k = some (.arr ty_Simpl_Item 1 (csA out)) ∧ 1 ≤ k ∧ k < nx ∧ H 0 = none ∧ r2 = rm',
    fun fr _ _ _ => out.length - ix (fr 6), ⟨0, false, ⟨rfl, rfl, rfl, rfl, rfl, trivial⟩, Nat.zero_le _, by simp, hk, hk1, by omega, hH, rfl⟩, ?_⟩
  rintro fr H nx r2 ⟨j, b, hfr, hj, hb, hk, hk1, hkn, hH, rfl⟩
  rw [hfr.eq]
  have hlo : out.length ≤ LIM := by simp only [LIM] at *; omega
  cases b with
  | true =>
    have hb := hb.1 rfl
    repeat' ((conv => whnf); first
      | refine ⟨_, rfl, ?_⟩
      | refine ⟨rfl, ?_⟩
      | refine ⟨_, _, rfl, at_map (by assumption), ?_⟩
      | refine idx_mapX (i := 0) rfl (by assumption) ?_
      | refine idx_map (by omega) (fun x hx => ?_)
      | refine idx_mapX (wrap_dn (by omega) (by omega)) (by assumption) ?_
      | refine idx_mapE (wrap_dn (by omega) (by omega)) (by omega) (fun x hx => ?_)
      | refine idx_mapL (by omega) (by first | assumption | (simp only [LIM]; omega)) (fun x hx => ?_)
      | refine idx_mapI (by omega) (by first | omega | (simp only [List.length_map] at *; omega)) (fun x hx => ?_)
      | refine ⟨_, ldc_cells hupd_at (Nat.le_of_ble_eq_true rfl), ?_⟩
      | refine ⟨_, ldc_cells (by first | assumption | exact zk ‹_› (by omega) | exact zk (zk ‹_› (by omega)) (by omega)) (Nat.le_of_ble_eq_true rfl), ?_⟩
      | refine ⟨_, _, _, _, ((by exact hk_) : (_ : Option Ob) = _), rfl, at_mapA (by assumption), ?_⟩
      | refine idx_ow (by exact hk_) (by omega) (fun x hx => ?_)
      | refine ⟨_, _, _, _, ((by exact hk_) : (_ : Option Ob) = _), rfl, fill_at (by omega), ?_⟩
      | refine idx_owL (by exact hk_) (by omega) (by simp only [LIM]; omega) (fun x hx => ?_)
      | refine idx_owI (by exact hk_) (by omega) (by first | omega | (simp only [List.length_map] at *; omega)) (fun x hx => ?_)
      | refine ⟨_, ldc_pa (by exact hk_) (at_mapA (by assumption)) (Nat.le_of_ble_eq_true rfl), ?_⟩
      | refine ⟨_, rfl, rfl, _, ((by exact hk_) : (_ : Option Ob) = _), (by exact ap_), ?_⟩
      | refine ⟨_, news_ow hupd_at, newsz_ow hupd_at, _, ((by exact hk_) : (_ : Option Ob) = _), (by exact ap_), ?_⟩
      | refine ⟨_, _, _, ((by exact hk_) : (_ : Option Ob) = _), ?_⟩
      | refine ⟨_, ((by exact hk_) : (_ : Option Ob) = _), ?_⟩
      | refine ⟨(show _ ≤ _ from (by exact ap_)), ?_⟩
      | (refine ⟨fun hc => ?_, fun hc => ?_⟩ <;> (try simp (disch := omega) only [List.length_map, wrap64] at hc))
      | (refine ⟨⟨j + 1, true, ⟨rfl, rfl, rfl, rfl, congrArg I (wrap_up (n := out.length) (by omega) hlo), trivial⟩, (by omega), (iff_of_true rfl ((mem_take_mono hb))), hk, hk1, (by omega), hH, rfl⟩, (by show out.length - ix (I _) < out.length - ix (I _); simp only [wrap_up (n := out.length) (i := j) (by omega) hlo, ix, Int.toNat_natCast]; omega)⟩)
      | (refine ⟨⟨i + 1, k, out, ⟨rfl, rfl, congrArg I (wrap_up (n := l.length) (by omega) hp1.1), trivial⟩, (by omega), (by rw [← hq, allM_no (by exact fun h => h.1 (List.mem_of_mem_take hb))]), hk, hk1, (by omega), (by omega), hoc, hH, rfl⟩, (by show l.length - ix (I _) < l.length - ix (I _); simp only [wrap_up (n := l.length) (i := i) (by omega) hp1.1, ix, Int.toNat_natCast]; omega)⟩)
      | fail)
  | false =>
    have hb : v.c ∉ out.take j := fun h => by have := hb.2 h; cases this
    repeat' ((conv => whnf); first
      | refine ⟨_, rfl, ?_⟩
      | refine ⟨rfl, ?_⟩
      | refine ⟨_, _, rfl, at_map (by assumption), ?_⟩
      | refine idx_mapX (i := 0) rfl (by assumption) ?_
      | refine idx_map (by omega) (fun x hx => ?_)
      | refine idx_mapX (wrap_dn (by omega) (by omega)) (by assumption) ?_
      | refine idx_mapE (wrap_dn (by omega) (by omega)) (by omega) (fun x hx => ?_)
      | refine idx_mapL (by omega) (by first | assumption | (simp only [LIM]; omega)) (fun x hx => ?_)
      | refine idx_mapI (by omega) (by first | omega | (simp only [List.length_map] at *; omega)) (fun x hx => ?_)
      | refine ⟨_, ldc_cells hupd_at (Nat.le_of_ble_eq_true rfl), ?_⟩
      | refine ⟨_, ldc_cells (by first | assumption | exact zk ‹_› (by omega) | exact zk (zk ‹_› (by omega)) (by omega)) (Nat.le_of_ble_eq_true rfl), ?_⟩
      | refine ⟨_, _, _, _, ((by exact hk_) : (_ : Option Ob) = _), rfl, at_mapA (by assumption), ?_⟩
      | refine idx_ow (by exact hk_) (by omega) (fun x hx => ?_)
      | refine ⟨_, _, _, _, ((by exact hk_) : (_ : Option Ob) = _), rfl, fill_at (by omega), ?_⟩
      | refine idx_owL (by exact hk_) (by omega) (by simp only [LIM]; omega) (fun x hx => ?_)
      | refine idx_owI (by exact hk_) (by omega) (by first | omega | (simp only [List.length_map] at *; omega)) (fun x hx => ?_)
      | refine ⟨_, ldc_pa (by exact hk_) (at_mapA (by assumption)) (Nat.le_of_ble_eq_true rfl), ?_⟩
      | refine ⟨_, rfl, rfl, _, ((by exact hk_) : (_ : Option Ob) = _), (by exact ap_), ?_⟩
      | refine ⟨_, news_ow hupd_at, newsz_ow hupd_at, _, ((by exact hk_) : (_ : Option Ob) = _), (by exact ap_), ?_⟩
      | refine ⟨_, _, _, ((by exact hk_) : (_ : Option Ob) = _), ?_⟩
      | refine ⟨_, ((by exact hk_) : (_ : Option Ob) = _), ?_⟩
      | refine ⟨(show _ ≤ _ from (by exact ap_)), ?_⟩
      | (refine ⟨fun hc => ?_, fun hc => ?_⟩ <;> (try simp (disch := omega) only [List.length_map, wrap64] at hc))
      | (refine callt (b := [one (chF _), one (chF _)]) v_spec_l3Same rfl ⟨(_, _), rfl, (by refine ⟨?_, ?_⟩ <;> (exact pr_))⟩ (.inl rfl) (by first | assumption | omega) (fun r hr => K_spec_l3Same (a := (_, _)) hr) (fun hj => ?_) (fun hj => ?_) <;> (try simp only [etaPa, etaIt, etaVo] at hj))
      | (refine callt (b := [one (vsF _), one (chF _)]) v_spec_l11Sure rfl ⟨(_, _), rfl, (by refine ⟨?_, ?_⟩ <;> (exact pr_))⟩ (.inl rfl) (by first | assumption | omega) (fun r hr => K_spec_l11Sure (a := (_, _)) hr) (fun hj => ?_) (fun hj => ?_) <;> (try simp only [etaPa, etaIt, etaVo] at hj))
      | (refine calle (b := [one (chF _)]) v_spec_l1Copy rfl ⟨_, rfl, (by exact pr_)⟩ (.inl rfl) (by first | assumption | omega) (fun r hr => K_spec_l1Copy (a := _) hr) ?_)
      | (refine ⟨⟨j + 1, true, ⟨rfl, rfl, rfl, rfl, congrArg I (wrap_up (n := out.length) (by omega) hlo), trivial⟩, (by omega), (by rw [mem_take_succ (by assumption)]; simp_all), hk, hk1, (by omega), hH, rfl⟩, (by show out.length - ix (I _) < out.length - ix (I _); simp only [wrap_up (n := out.length) (i := j) (by omega) hlo, ix, Int.toNat_natCast]; omega)⟩)
      | (refine ⟨⟨j + 1, false, ⟨rfl, rfl, rfl, rfl, congrArg I (wrap_up (n := out.length) (by omega) hlo), trivial⟩, (by omega), (by rw [mem_take_succ (by assumption)]; simp_all), hk, hk1, (by omega), hH, rfl⟩, (by show out.length - ix (I _) < out.length - ix (I _); simp only [wrap_up (n := out.length) (i := j) (by omega) hlo, ix, Int.toNat_natCast]; omega)⟩)
      | (refine ⟨⟨i + 1, k, out, ⟨rfl, rfl, congrArg I (wrap_up (n := l.length) (by omega) hp1.1), trivial⟩, (by omega), (by rw [← hq, allM_no (by exact fun h => hj h.2)]), hk, hk1, (by omega), (by omega), hoc, hH, rfl⟩, (by show l.length - ix (I _) < l.length - ix (I _); simp only [wrap_up (n := l.length) (i := i) (by omega) hp1.1, ix, Int.toNat_natCast]; omega)⟩)
      | (refine ⟨⟨i + 1, _, out ++ [v.c], ⟨rfl, rfl, congrArg I (wrap_up (n := l.length) (by omega) hp1.1), trivial⟩, (by omega), (by rw [← hq, allM_yes (by rwa [List.take_of_length_le (by omega)] at hb) hj]), hupd_at.trans (by simp [csA]), (by omega), (by (try simp only [List.length_cons, List.length_nil]); omega), (by simp only [List.length_append, List.length_cons, List.length_nil]; omega), (by intro c hc; rcases List.mem_append.1 hc with hc | hc; exact hoc c hc; rw [List.mem_singleton.1 hc]; exact hvc), (by first | rfl | assumption | exact z0 ‹_› (by omega) | exact z0 (z0 ‹_› (by omega)) (by omega) | exact z0 (z0 (z0 ‹_› (by omega)) (by omega)) (by omega) | exact z0 (z0 (z0 (z0 ‹_› (by omega)) (by omega)) (by omega)) (by omega)), rfl⟩, (by show l.length - ix (I _) < l.length - ix (I _); simp only [wrap_up (n := l.length) (i := i) (by omega) hp1.1, ix, Int.toNat_natCast]; omega)⟩)
      | fail)
theorem allFromM_len (l : List Vo) : ∀ (r : List Vo) (out : List (List It)), (allFromM l r out).length ≤ out.length + r.length
  | [], out => Nat.le_refl _
  | v :: r, out => by
    simp only [allFromM, List.length_cons]
    refine Nat.le_trans (allFromM_len l r _) ?_
    split <;> simp <;> omega
theorem allM_len (l : List Vo) : (allM l).length ≤ l.length + 1 := by
  have := allFromM_len l l [[]]
  simp only [allM, List.length_cons, List.length_nil] at *; omega
end Av
end Go.Proofs.Ytdboofnogabefaa
