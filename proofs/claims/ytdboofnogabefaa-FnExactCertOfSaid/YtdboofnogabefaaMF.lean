/- The walks: within, epochOk, nodeOk, PayOk. -/
import Derived.Test.YtdboofnogabefaaE1
set_option linter.unusedVariables false
set_option linter.unusedSimpArgs false
namespace Go.Proofs.Ytdboofnogabefaa
namespace Av
open Go.RowKit
theorem v_impl_within : Valid Try.prog n_impl_within S_impl_within := by
  refine valid_of_swp mixed is_impl_within (by rintro _ ⟨a, rfl, _⟩; exact Nat.le_of_ble_eq_true rfl) ?_
  rintro _ rm ⟨⟨a, b, c⟩, rfl, _⟩ _
  repeat' (conv => whnf
           first | refine ⟨rfl, ?_⟩ | refine ⟨_, rfl, ?_⟩ | refine ⟨fun _ => ?_, fun _ => ?_⟩ | fail)
  all_goals (conv => whnf
             refine ⟨⟨_, rfl, rfl, (a, b, c), rfl, ?_⟩, Nat.le_refl _, rfl⟩
             show B _ = B (tb (In a b c)))
  all_goals dsimp only at *
  · rw [tb_pos (by unfold In; omega)]
  · rw [tb_neg (by unfold In; omega)]
  · rw [tb_neg (by unfold In; omega)]
theorem v_impl_epochOk : Valid Try.prog n_impl_epochOk S_impl_epochOk := by
  refine valid_of_swp mixed is_impl_epochOk (by rintro _ ⟨a, rfl, _⟩; exact Nat.le_of_ble_eq_true rfl) ?_
  rintro _ rm ⟨a, rfl, _⟩ hl
  conv => whnf
  refine ⟨⟨(a, 1, 30), rfl, trivial⟩, v_impl_within, .inl rfl, hl, fun r hr => ?_⟩
  rcases J_In (n := a) (lo := 1) (hi := 30) hr with ⟨h, rfl⟩ | ⟨h, rfl⟩
  · conv => whnf
    exact ⟨⟨_, rfl, rfl, a, rfl, congrArg B (tb_pos h).symm⟩, Nat.le_refl _, rfl⟩
  · conv => whnf
    exact ⟨⟨_, rfl, rfl, a, rfl, congrArg B (tb_neg h).symm⟩, Nat.le_refl _, rfl⟩
theorem v_impl_nodeOk : Valid Try.prog n_impl_nodeOk S_impl_nodeOk := by
  refine valid_of_swp mixed is_impl_nodeOk (by rintro _ ⟨a, rfl, _⟩; exact Nat.le_of_ble_eq_true rfl) ?_
  rintro _ rm ⟨a, rfl, _⟩ hl
  conv => whnf
  refine ⟨⟨(a, 1, 4), rfl, trivial⟩, v_impl_within, .inl rfl, hl, fun r hr => ?_⟩
  rcases J_In (n := a) (lo := 1) (hi := 4) hr with ⟨h, rfl⟩ | ⟨h, rfl⟩
  · conv => whnf
    exact ⟨⟨_, rfl, rfl, a, rfl, congrArg B (tb_pos h).symm⟩, Nat.le_refl _, rfl⟩
  · conv => whnf
    exact ⟨⟨_, rfl, rfl, a, rfl, congrArg B (tb_neg h).symm⟩, Nat.le_refl _, rfl⟩
theorem v_impl_PayOk : Valid Try.prog n_impl_PayOk S_impl_PayOk := by
  refine valid_of_swp mixed is_impl_PayOk (by rintro _ ⟨a, rfl, _⟩; exact Nat.le_of_ble_eq_true rfl) ?_
  rintro _ rm ⟨⟨f, t, s⟩, rfl, _⟩ hl
  have fin : ∀ b : Bool, b = tb (PayOk ⟨f, t, s⟩) → ∃ a : Pa, [agg (paF ⟨f, t, s⟩)] = [agg (paF a)] ∧ B b = B (tb (PayOk a)) := fun b h => ⟨⟨f, t, s⟩, rfl, congrArg B h⟩
  conv => whnf
  refine ⟨_, rfl, ?_⟩
  conv => whnf
  refine ⟨⟨(f, 1, 3), rfl, trivial⟩, v_impl_within, .inl rfl, hl, fun r hr => ?_⟩
  rcases J_In (n := f) (lo := 1) (hi := 3) hr with ⟨h1, rfl⟩ | ⟨h1, rfl⟩
  · conv => whnf
    refine ⟨_, rfl, ?_⟩
    conv => whnf
    refine ⟨⟨(t, 1, 3), rfl, trivial⟩, v_impl_within, .inl rfl, hl, fun r hr => ?_⟩
    rcases J_In (n := t) (lo := 1) (hi := 3) hr with ⟨h2, rfl⟩ | ⟨h2, rfl⟩
    · conv => whnf
      refine ⟨_, rfl, ?_⟩
      conv => whnf
      refine ⟨_, rfl, ?_⟩
      conv => whnf
      refine ⟨rfl, ?_⟩
      conv => whnf
      refine ⟨fun h3 => ?_, fun h3 => ?_⟩
      · conv => whnf
        exact ⟨⟨_, rfl, rfl, fin false (tb_neg fun h => h.2.2.1 h3).symm⟩, Nat.le_refl _, rfl⟩
      · conv => whnf
        refine ⟨_, rfl, ?_⟩
        conv => whnf
        refine ⟨⟨(s, 1, 9), rfl, trivial⟩, v_impl_within, .inl rfl, hl, fun r hr => ?_⟩
        rcases J_In (n := s) (lo := 1) (hi := 9) hr with ⟨h4, rfl⟩ | ⟨h4, rfl⟩
        · conv => whnf
          exact ⟨⟨_, rfl, rfl, fin true (tb_pos ⟨h1, h2, h3, h4⟩).symm⟩, Nat.le_refl _, rfl⟩
        · conv => whnf
          exact ⟨⟨_, rfl, rfl, fin false (tb_neg fun h => h4 h.2.2.2).symm⟩, Nat.le_refl _, rfl⟩
    · conv => whnf
      exact ⟨⟨_, rfl, rfl, fin false (tb_neg fun h => h2 h.2.1).symm⟩, Nat.le_refl _, rfl⟩
  · conv => whnf
    exact ⟨⟨_, rfl, rfl, fin false (tb_neg fun h => h1 h.1).symm⟩, Nat.le_refl _, rfl⟩
end Av
end Go.Proofs.Ytdboofnogabefaa
/- The walks: slices.Equal on items, ChainOk. -/
namespace Go.Proofs.Ytdboofnogabefaa
namespace Av
open Go.RowKit
theorem v_slices_Equal_ItemS : Valid Try.prog n_slices_Equal_ItemS S_slices_Equal_ItemS := by
  refine valid_of_swp mixed is_slices_Equal_ItemS (by rintro _ ⟨a, rfl, _⟩; exact Nat.le_of_ble_eq_true rfl) ?_
  rintro _ rm ⟨⟨c, d⟩, rfl, hc, hd⟩ hl
  dsimp only at hc hd
  have fin : ∀ b : Bool, b = tb (c = d) → ∃ a : List It × List It, [one (chF c), one (chF d)] = [one (chF a.1), one (chF a.2)] ∧ B b = B (tb (a.1 = a.2)) := fun b h => ⟨⟨c, d⟩, rfl, congrArg B h⟩
  conv => whnf
  refine ⟨rfl, ?_⟩
  conv => whnf
  refine ⟨fun h1 => ?_, fun h1 => ?_⟩
  · have hlen : c.length = d.length := by
      have : (c.length : Int) = d.length := by simpa using h1
      omega
    conv => whnf
    refine ⟨fun fr H nx rm' => ∃ i : Nat, Has fr [(0, one (chF c)), (1, one (chF d)), (12, I c.length), (13, I i)] ∧ i ≤ c.length ∧ c.take i = d.take i ∧ H 0 = none ∧ rm' = rm,
      fun fr _ _ _ => c.length - ix (fr 13), ⟨0, ⟨rfl, rfl, by show I _ = I _; simp, rfl, trivial⟩, Nat.zero_le _, rfl, rfl, rfl⟩, ?_⟩
    rintro fr H nx rm' ⟨i, hfr, hi, hq, hH, rfl⟩
    rw [hfr.eq]
    conv => whnf
    refine ⟨rfl, ?_⟩
    conv => whnf
    refine ⟨fun h2 => ?_, fun h2 => ?_⟩
    · have h2 : i < c.length := by simpa using h2
      obtain ⟨x, hx⟩ : ∃ x, c[i]? = some x := ⟨_, List.getElem?_eq_getElem h2⟩
      obtain ⟨y, hy⟩ : ∃ y, d[i]? = some y := ⟨_, List.getElem?_eq_getElem (by omega)⟩
      conv => whnf
      refine ⟨rfl, i, _, rfl, at_map hx, ?_⟩
      conv => whnf
      refine ⟨_, rfl, ?_⟩
      conv => whnf
      refine ⟨rfl, i, _, rfl, at_map hy, ?_⟩
      conv => whnf
      refine ⟨_, rfl, ?_⟩
      conv => whnf
      refine ⟨eqI, hl, fun r hr => ?_⟩
      rcases J_neq (x := x) (y := y) hr with ⟨h3, rfl⟩ | ⟨h3, rfl⟩
      · conv => whnf
        refine ⟨rfl, ?_⟩
        conv => whnf
        refine ⟨⟨i + 1, ⟨rfl, rfl, rfl, congrArg I (wrap_up h2 hc), trivial⟩, h2, ?_, hH, rfl⟩, ?_⟩
        · rw [List.take_add_one, List.take_add_one, hq, hx, hy, h3]
        · show c.length - ix (I _) < c.length - ix (I _)
          simp only [wrap_up h2 hc, ix, Int.toNat_natCast]
          omega
      · conv => whnf
        refine ⟨⟨_, rfl, rfl, fin false (tb_neg fun e => ?_).symm⟩, Nat.le_refl _, hH⟩
        subst e
        rw [hx] at hy
        exact h3 (Option.some.inj hy)
    · conv => whnf
      refine ⟨⟨_, rfl, rfl, fin true (tb_pos ?_).symm⟩, Nat.le_refl _, hH⟩
      have h2 : c.length ≤ i := by simpa using h2
      rwa [List.take_of_length_le h2, List.take_of_length_le (by omega)] at hq
  · conv => whnf
    refine ⟨⟨_, rfl, rfl, fin false (tb_neg fun e => ?_).symm⟩, Nat.le_refl _, rfl⟩
    subst e
    exact h1 rfl
end Av
end Go.Proofs.Ytdboofnogabefaa
/- The walk: ChainOk. -/
namespace Go.Proofs.Ytdboofnogabefaa
namespace Av
open Go.RowKit
theorem ldc_cells {H : Hp} {k off n : Nat} {cs : List AC} (h : H k = some (.cells cs)) (hn : off + n ≤ cs.length) : ldc H (.w (.o (.ptr k off))) n = some ((cs.drop off).take n) := by
  simp only [ldc, h, if_pos hn]
theorem hupd_at {H : Hp} {k : Nat} {x : Option Ob} : hupd k x H k = x := by simp [hupd]
theorem z0 {H : Hp} {k : Nat} {x : Option Ob} (h : H 0 = none) (hk : 0 ≠ k) : hupd k x H 0 = none := by rw [hupd_ne hk]; exact h
theorem v_impl_ChainOk : Valid Try.prog n_impl_ChainOk S_impl_ChainOk := by
  refine valid_of_swp mixed is_impl_ChainOk (by rintro _ ⟨a, rfl, _⟩; exact Nat.le_of_ble_eq_true rfl) ?_
  rintro _ rm ⟨c, rfl, hc⟩ hl
  have fin : ∀ b : Bool, b = tb (ChainOk c) → ∃ a : List It, [one (chF c)] = [one (chF a)] ∧ B b = B (tb (ChainOk a)) := fun b h => ⟨c, rfl, congrArg B h⟩
  conv => whnf
  refine ⟨fun fr H nx rm' => ∃ i : Nat, Has fr [(0, one (chF c)), (5, one (chF c)), (6, I c.length), (7, I i)] ∧ i ≤ c.length ∧ (∀ j x, j < i → c[j]? = some x → ItemOk c j x) ∧ 1 ≤ nx ∧ H 0 = none ∧ rm' = rm,
    fun fr _ _ _ => c.length - ix (fr 7), ⟨0, ⟨rfl, rfl, by show I _ = I _; simp, rfl, trivial⟩, Nat.zero_le _, fun j x h => by omega, by decide, rfl, rfl⟩, ?_⟩
  rintro fr H nx rm' ⟨i, hfr, hi, hq, hnx, hH, rfl⟩
  rw [hfr.eq]
  conv => whnf
  refine ⟨rfl, ?_⟩
  conv => whnf
  refine ⟨fun h2 => ?_, fun h2 => ?_⟩
  · have h2 : i < c.length := by simpa using h2
    obtain ⟨x, hx⟩ : ∃ x, c[i]? = some x := ⟨_, List.getElem?_eq_getElem h2⟩
    conv => whnf
    refine ⟨rfl, i, _, rfl, at_map hx, ?_⟩
    conv => whnf
    refine ⟨_, rfl, ?_⟩
    conv => whnf
    refine ⟨_, _, hupd_at, rfl, rfl, Nat.le_of_ble_eq_true rfl, ?_⟩
    conv => whnf
    refine ⟨_, ldc_cells hupd_at (Nat.le_of_ble_eq_true rfl), ?_⟩
    conv => whnf
    refine ⟨⟨x.e, rfl, trivial⟩, v_impl_epochOk, .inl rfl, hl, fun r hr => ?_⟩
    rcases J_epochOk (n := x.e) hr with ⟨h3, rfl⟩ | ⟨h3, rfl⟩
    · conv => whnf
      refine ⟨_, ldc_cells hupd_at (Nat.le_of_ble_eq_true rfl), ?_⟩
      conv => whnf
      refine ⟨⟨x.p, rfl, trivial⟩, v_impl_PayOk, .inl rfl, hl, fun r hr => ?_⟩
      rcases J_PayOk (p := x.p) hr with ⟨h4, rfl⟩ | ⟨h4, rfl⟩
      · conv => whnf
        refine ⟨rfl, ?_⟩
        conv => whnf
        refine ⟨fun h5 => ?_, fun h5 => ?_⟩
        · conv => whnf
          refine ⟨rfl, ?_⟩
          conv => whnf
          obtain ⟨y, hy⟩ : ∃ y, c[i - 1]? = some y := ⟨_, List.getElem?_eq_getElem (by omega)⟩
          refine ⟨rfl, i - 1, _, ?_, at_map hy, ?_⟩
          · have h5 : (0 : Int) < i := h5
            show IntKind.i64.wrap ((i : Int) - 1) = ((i - 1 : Nat) : Int)
            simp only [LIM] at hc
            rw [wrap64] <;> omega
          conv => whnf
          refine ⟨_, rfl, ?_⟩
          conv => whnf
          refine ⟨_, ldc_cells hupd_at (Nat.le_of_ble_eq_true rfl), ?_⟩
          conv => whnf
          refine ⟨rfl, ?_⟩
          conv => whnf
          refine ⟨fun h6 => ?_, fun h6 => ?_⟩
          · conv => whnf
            refine ⟨⟨_, rfl, rfl, fin false (tb_neg fun h => ?_).symm⟩, Nat.le_refl _, z0 (z0 hH (by omega)) (by omega)⟩
            have h7 := (h.1 i x hx).2.2 (i - 1) y (by have : (0 : Int) < i := h5; omega) hy
            have h6 : x.e ≤ y.e := h6
            omega
          · conv => whnf
            refine ⟨rfl, ?_⟩
            conv => whnf
            refine ⟨⟨i + 1, ⟨rfl, rfl, rfl, congrArg I (wrap_up h2 hc), trivial⟩, h2, ?_, by omega, z0 (z0 hH (by omega)) (by omega), rfl⟩, ?_⟩
            · intro j z hj hz
              rcases Nat.lt_or_ge j i with h8 | h8
              · exact hq j z h8 hz
              · have : j = i := by omega
                subst this
                rw [hx] at hz; cases hz
                refine ⟨h3, h4, fun k u hk hu => ?_⟩
                have : k = j - 1 := by omega
                subst this
                rw [hy] at hu; cases hu
                exact h6
            · show c.length - ix (I _) < c.length - ix (I _)
              simp only [wrap_up h2 hc, ix, Int.toNat_natCast]
              omega
        · conv => whnf
          refine ⟨rfl, ?_⟩
          conv => whnf
          refine ⟨⟨i + 1, ⟨rfl, rfl, rfl, congrArg I (wrap_up h2 hc), trivial⟩, h2, ?_, by omega, z0 (z0 hH (by omega)) (by omega), rfl⟩, ?_⟩
          · intro j z hj hz
            rcases Nat.lt_or_ge j i with h8 | h8
            · exact hq j z h8 hz
            · have : j = i := by omega
              subst this
              rw [hx] at hz; cases hz
              exact ⟨h3, h4, fun k u hk hu => absurd hk (by have : (j : Int) ≤ 0 := h5; omega)⟩
          · show c.length - ix (I _) < c.length - ix (I _)
            simp only [wrap_up h2 hc, ix, Int.toNat_natCast]
            omega
      · conv => whnf
        exact ⟨⟨_, rfl, rfl, fin false (tb_neg fun h => h4 (h.1 i x hx).2.1).symm⟩, Nat.le_refl _, z0 (z0 hH (by omega)) (by omega)⟩
    · conv => whnf
      exact ⟨⟨_, rfl, rfl, fin false (tb_neg fun h => h3 (h.1 i x hx).1).symm⟩, Nat.le_refl _, z0 (z0 hH (by omega)) (by omega)⟩
  · have h2 : c.length ≤ i := by simpa using h2
    have hall : ∀ j x, c[j]? = some x → ItemOk c j x := fun j x hx => hq j x (by have := (List.getElem?_eq_some_iff.1 hx).1; omega) hx
    conv => whnf
    refine ⟨rfl, ?_⟩
    conv => whnf
    refine ⟨fun h3 => ?_, fun h3 => ?_⟩
    · conv => whnf
      refine ⟨⟨_, rfl, rfl, fin true (tb_pos ⟨hall, ?_⟩).symm⟩, Nat.le_refl _, hH⟩
      have : (c.length : Int) ≤ 16 := by simpa using h3
      omega
    · conv => whnf
      refine ⟨⟨_, rfl, rfl, fin false (tb_neg fun h => ?_).symm⟩, Nat.le_refl _, hH⟩
      have : (16 : Int) < c.length := by simpa using h3
      have := h.2
      omega
end Av
end Go.Proofs.Ytdboofnogabefaa
/- The walks: a vote among votes. -/
namespace Go.Proofs.Ytdboofnogabefaa
namespace Av
open Go.RowKit
theorem v_impl_Vote_same : Valid Try.prog n_impl_Vote_same S_impl_Vote_same := by
  refine valid_of_swp mixed is_impl_Vote_same (by rintro _ ⟨a, rfl, _⟩; exact Nat.le_of_ble_eq_true rfl) ?_
  rintro _ rm ⟨⟨⟨n, c⟩, ⟨m, d⟩⟩, rfl, hc, hd⟩ hl
  have fin : ∀ b : Bool, b = tb ((⟨n, c⟩ : Vo) = ⟨m, d⟩) → ∃ a : Vo × Vo, [agg (voF ⟨n, c⟩), agg (voF ⟨m, d⟩)] = [agg (voF a.1), agg (voF a.2)] ∧ B b = B (tb (a.1 = a.2)) := fun b h => ⟨(⟨n, c⟩, ⟨m, d⟩), rfl, congrArg B h⟩
  conv => whnf
  refine ⟨_, rfl, ?_⟩
  conv => whnf
  refine ⟨_, rfl, ?_⟩
  conv => whnf
  refine ⟨rfl, ?_⟩
  conv => whnf
  refine ⟨fun h1 => ?_, fun h1 => ?_⟩
  · conv => whnf
    refine ⟨_, rfl, ?_⟩
    conv => whnf
    refine ⟨_, rfl, ?_⟩
    conv => whnf
    refine ⟨⟨(c, d), rfl, hc, hd⟩, v_slices_Equal_ItemS, .inl rfl, hl, fun r hr => ?_⟩
    rcases J_Equal (c := c) (d := d) hr with ⟨h2, rfl⟩ | ⟨h2, rfl⟩
    · conv => whnf
      have h1 : n = m := h1
      exact ⟨⟨_, rfl, rfl, fin true (tb_pos (by rw [h1, h2])).symm⟩, Nat.le_refl _, rfl⟩
    · conv => whnf
      exact ⟨⟨_, rfl, rfl, fin false (tb_neg fun h => h2 (by cases h; rfl)).symm⟩, Nat.le_refl _, rfl⟩
  · conv => whnf
    exact ⟨⟨_, rfl, rfl, fin false (tb_neg fun h => h1 (by cases h; rfl)).symm⟩, Nat.le_refl _, rfl⟩
theorem v_slices_IndexFunc_votes : Valid Try.prog n_slices_IndexFunc_votes S_slices_IndexFunc_votes := by
  refine valid_of_swp mixed (is_slices_IndexFunc_votes S_impl_Vote_same) (by rintro _ ⟨a, rfl, _⟩; exact Nat.le_of_ble_eq_true rfl) ?_
  rintro _ rm ⟨⟨l, v⟩, rfl, ⟨hl1, hl2⟩, hv⟩ hl
  dsimp only at hl1 hl2 hv
  conv => whnf
  refine ⟨fun fr H nx rm' => ∃ i : Nat, Has fr [(0, one (vsF l)), (1, fnSame v), (7, I l.length), (8, I i)] ∧ i ≤ l.length ∧ v ∉ l.take i ∧ H 0 = none ∧ rm' = rm,
    fun fr _ _ _ => l.length - ix (fr 8), ⟨0, ⟨rfl, rfl, by show I _ = I _; simp, rfl, trivial⟩, Nat.zero_le _, by simp, rfl, rfl⟩, ?_⟩
  rintro fr H nx rm' ⟨i, hfr, hi, hq, hH, rfl⟩
  rw [hfr.eq]
  conv => whnf
  refine ⟨rfl, ?_⟩
  conv => whnf
  refine ⟨fun h2 => ?_, fun h2 => ?_⟩
  · have h2 : i < l.length := by simpa using h2
    obtain ⟨x, hx⟩ : ∃ x, l[i]? = some x := ⟨_, List.getElem?_eq_getElem h2⟩
    have hxm : x ∈ l := List.mem_of_getElem? hx
    conv => whnf
    refine ⟨rfl, i, _, rfl, at_map hx, ?_⟩
    conv => whnf
    refine ⟨_, rfl, ?_⟩
    conv => whnf
    refine ⟨⟨⟨(v, x), rfl, hv, hl2 x hxm⟩, rfl, rfl, v_impl_Vote_same⟩, hl, fun r hr => ?_⟩
    rcases J_same (v := v) (u := x) hr.1 with ⟨h3, rfl⟩ | ⟨h3, rfl⟩
    · conv => whnf
      exact ⟨⟨_, rfl, rfl, (l, v), rfl, i, rfl, by simp [h3, hxm]⟩, Nat.le_refl _, hH⟩
    · conv => whnf
      refine ⟨rfl, ?_⟩
      conv => whnf
      refine ⟨⟨i + 1, ⟨rfl, rfl, rfl, congrArg I (wrap_up h2 hl1), trivial⟩, h2, ?_, hH, rfl⟩, ?_⟩
      · rw [List.take_add_one, hx]
        simp [hq, h3]
      · show l.length - ix (I _) < l.length - ix (I _)
        simp only [wrap_up h2 hl1, ix, Int.toNat_natCast]
        omega
  · conv => whnf
    refine ⟨⟨_, rfl, rfl, (l, v), rfl, -1, rfl, ?_⟩, Nat.le_refl _, hH⟩
    have h2 : l.length ≤ i := by simpa using h2
    rw [List.take_of_length_le h2] at hq
    simp [hq]
theorem v_slices_ContainsFunc_votes : Valid Try.prog n_slices_ContainsFunc_votes S_slices_ContainsFunc_votes := by
  refine valid_of_swp mixed is_slices_ContainsFunc_votes (by rintro _ ⟨a, rfl, _⟩; exact Nat.le_of_ble_eq_true rfl) ?_
  rintro _ rm ⟨⟨l, v⟩, rfl, hfit⟩ hl
  have fin : ∀ b : Bool, b = tb (v ∈ l) → ∃ a : List Vo × Vo, [one (vsF l), fnSame v] = [one (vsF a.1), fnSame a.2] ∧ B b = B (tb (a.2 ∈ a.1)) := fun b h => ⟨(l, v), rfl, congrArg B h⟩
  conv => whnf
  refine ⟨⟨(l, v), rfl, hfit⟩, v_slices_IndexFunc_votes, .inl rfl, hl, fun r hr => ?_⟩
  obtain ⟨k, rfl, hk⟩ := J_IndexFunc (l := l) (v := v) hr
  conv => whnf
  refine ⟨rfl, ?_⟩
  conv => whnf
  refine ⟨fun h => ?_, fun h => ?_⟩
  · conv => whnf
    exact ⟨⟨_, rfl, rfl, fin true (tb_pos (hk.1 h)).symm⟩, Nat.le_refl _, rfl⟩
  · conv => whnf
    exact ⟨⟨_, rfl, rfl, fin false (tb_neg fun q => absurd (hk.2 q) (Int.not_le.2 h)).symm⟩, Nat.le_refl _, rfl⟩
theorem v_impl_votes_has : Valid Try.prog n_impl_votes_has S_impl_votes_has := by
  refine valid_of_swp mixed is_impl_votes_has (by rintro _ ⟨a, rfl, _⟩; exact Nat.le_of_ble_eq_true rfl) ?_
  rintro _ rm ⟨⟨l, v⟩, rfl, hfit⟩ hl
  have fin : ∀ b : Bool, b = tb (v ∈ l) → ∃ a : List Vo × Vo, [one (vsF l), agg (voF v)] = [one (vsF a.1), agg (voF a.2)] ∧ B b = B (tb (a.2 ∈ a.1)) := fun b h => ⟨(l, v), rfl, congrArg B h⟩
  conv => whnf
  refine ⟨_, rfl, ?_⟩
  conv => whnf
  refine ⟨⟨(l, v), rfl, hfit⟩, v_slices_ContainsFunc_votes, .inl rfl, hl, fun r hr => ?_⟩
  rcases J_ContainsFunc (l := l) (v := v) hr with ⟨h, rfl⟩ | ⟨h, rfl⟩
  · conv => whnf
    exact ⟨⟨_, rfl, rfl, fin true (tb_pos h).symm⟩, Nat.le_refl _, rfl⟩
  · conv => whnf
    exact ⟨⟨_, rfl, rfl, fin false (tb_neg h).symm⟩, Nat.le_refl _, rfl⟩
end Av
end Go.Proofs.Ytdboofnogabefaa
/- The walks: VoteOk, VotesOk. -/
namespace Go.Proofs.Ytdboofnogabefaa
namespace Av
open Go.RowKit
theorem v_impl_VoteOk : Valid Try.prog n_impl_VoteOk S_impl_VoteOk := by
  refine valid_of_swp mixed is_impl_VoteOk (by rintro _ ⟨a, rfl, _⟩; exact Nat.le_of_ble_eq_true rfl) ?_
  rintro _ rm ⟨⟨n, c⟩, rfl, hc⟩ hl
  have fin : ∀ b : Bool, b = tb (VoteOk ⟨n, c⟩) → ∃ a : Vo, [agg (voF ⟨n, c⟩)] = [agg (voF a)] ∧ B b = B (tb (VoteOk a)) := fun b h => ⟨⟨n, c⟩, rfl, congrArg B h⟩
  conv => whnf
  refine ⟨_, rfl, ?_⟩
  conv => whnf
  refine ⟨⟨n, rfl, trivial⟩, v_impl_nodeOk, .inl rfl, hl, fun r hr => ?_⟩
  rcases J_nodeOk (n := n) hr with ⟨h1, rfl⟩ | ⟨h1, rfl⟩
  · conv => whnf
    refine ⟨_, rfl, ?_⟩
    conv => whnf
    refine ⟨rfl, ?_⟩
    conv => whnf
    refine ⟨fun h2 => ?_, fun h2 => ?_⟩
    · conv => whnf
      refine ⟨_, rfl, ?_⟩
      conv => whnf
      refine ⟨⟨c, rfl, hc⟩, v_impl_ChainOk, .inl rfl, hl, fun r hr => ?_⟩
      rcases J_ChainOk (c := c) hr with ⟨h3, rfl⟩ | ⟨h3, rfl⟩
      · conv => whnf
        refine ⟨⟨_, rfl, rfl, fin true (tb_pos ⟨h1, ?_, h3⟩).symm⟩, Nat.le_refl _, rfl⟩
        rintro rfl
        simp at h2
      · conv => whnf
        exact ⟨⟨_, rfl, rfl, fin false (tb_neg fun h => h3 h.2.2).symm⟩, Nat.le_refl _, rfl⟩
    · conv => whnf
      refine ⟨⟨_, rfl, rfl, fin false (tb_neg fun h => h.2.1 ?_).symm⟩, Nat.le_refl _, rfl⟩
      have h2 : (c.length : Int) ≤ 0 := by simpa using h2
      have h0 : c.length = 0 := by omega
      exact List.eq_nil_of_length_eq_zero h0
  · conv => whnf
    exact ⟨⟨_, rfl, rfl, fin false (tb_neg fun h => h1 h.1).symm⟩, Nat.le_refl _, rfl⟩
theorem slc_to {fr : Env} {sz i : Nat} {xs : List (List FV)} {x : X} {H : Hp} (hx : ev fr x = I i) (hi : i ≤ xs.length) : slcA fr sz (S sz xs) none (some x) none H = some (.one (S sz (xs.take i)) H) := by
  have h0 : (0 : Int) ≤ (i : Int) := Int.natCast_nonneg i
  simp only [slcA, bnd, hx, if_pos h0, Int.toNat_natCast, Nat.zero_le, hi, and_self, true_and, if_true, List.drop_zero]
theorem map_take' {α : Type} {f : α → List FV} {l : List α} {i : Nat} : (l.map f).take i = (l.take i).map f := by rw [List.map_take]
theorem v_impl_VotesOk : Valid Try.prog n_impl_VotesOk S_impl_VotesOk := by
  refine valid_of_swp mixed is_impl_VotesOk (by rintro _ ⟨a, rfl, _⟩; exact Nat.le_of_ble_eq_true rfl) ?_
  rintro _ rm ⟨l, rfl, hfit⟩ hl
  have fin : ∀ b : Bool, b = tb (VotesOk l) → ∃ a : List Vo, [one (vsF l)] = [one (vsF a)] ∧ B b = B (tb (VotesOk a)) := fun b h => ⟨l, rfl, congrArg B h⟩
  conv => whnf
  refine ⟨fun fr H nx rm' => ∃ i : Nat, Has fr [(0, one (vsF l)), (5, one (vsF l)), (6, I l.length), (7, I i)] ∧ i ≤ l.length ∧ (∀ j v, j < i → l[j]? = some v → VoteOk v ∧ v ∉ l.take j) ∧ 1 ≤ nx ∧ H 0 = none ∧ rm' = rm,
    fun fr _ _ _ => l.length - ix (fr 7), ⟨0, ⟨rfl, rfl, by show I _ = I _; simp, rfl, trivial⟩, Nat.zero_le _, fun j x h => by omega, by decide, rfl, rfl⟩, ?_⟩
  rintro fr H nx rm' ⟨i, hfr, hi, hq, hnx, hH, rfl⟩
  rw [hfr.eq]
  conv => whnf
  refine ⟨rfl, ?_⟩
  conv => whnf
  refine ⟨fun h2 => ?_, fun h2 => ?_⟩
  · have h2 : i < l.length := by simpa using h2
    obtain ⟨v, hv⟩ : ∃ v, l[i]? = some v := ⟨_, List.getElem?_eq_getElem h2⟩
    have hvm : v ∈ l := List.mem_of_getElem? hv
    conv => whnf
    refine ⟨rfl, i, _, rfl, at_map hv, ?_⟩
    conv => whnf
    refine ⟨_, rfl, ?_⟩
    conv => whnf
    refine ⟨_, _, hupd_at, rfl, rfl, Nat.le_of_ble_eq_true rfl, ?_⟩
    conv => whnf
    refine ⟨_, ldc_cells hupd_at (Nat.le_of_ble_eq_true rfl), ?_⟩
    conv => whnf
    refine ⟨⟨v, rfl, hfit.2 v hvm⟩, v_impl_VoteOk, .inl rfl, hl, fun r hr => ?_⟩
    rcases J_VoteOk (v := v) hr with ⟨h3, rfl⟩ | ⟨h3, rfl⟩
    · conv => whnf
      refine ⟨_, slc_to (sz := 2) (xs := l.map voF) (i := i) rfl (by simpa using hi), ?_⟩
      rw [map_take']
      conv => whnf
      refine ⟨_, ldc_cells hupd_at (Nat.le_of_ble_eq_true rfl), ?_⟩
      conv => whnf
      refine ⟨⟨(l.take i, v), rfl, hfit.take i, hfit.2 v hvm⟩, v_impl_votes_has, .inl rfl, hl, fun r hr => ?_⟩
      rcases J_has (l := l.take i) (v := v) hr with ⟨h4, rfl⟩ | ⟨h4, rfl⟩
      · conv => whnf
        exact ⟨⟨_, rfl, rfl, fin false (tb_neg fun h => (h i v hv).2 h4).symm⟩, Nat.le_refl _, z0 (z0 hH (by omega)) (by omega)⟩
      · conv => whnf
        refine ⟨rfl, ?_⟩
        conv => whnf
        refine ⟨⟨i + 1, ⟨rfl, rfl, rfl, congrArg I (wrap_up h2 hfit.1), trivial⟩, h2, ?_, by omega, z0 (z0 hH (by omega)) (by omega), rfl⟩, ?_⟩
        · intro j u hj hu
          rcases Nat.lt_or_ge j i with h8 | h8
          · exact hq j u h8 hu
          · have : j = i := by omega
            subst this
            rw [hv] at hu; cases hu
            exact ⟨h3, h4⟩
        · show l.length - ix (I _) < l.length - ix (I _)
          simp only [wrap_up h2 hfit.1, ix, Int.toNat_natCast]
          omega
    · conv => whnf
      exact ⟨⟨_, rfl, rfl, fin false (tb_neg fun h => h3 (h i v hv).1).symm⟩, Nat.le_refl _, z0 (z0 hH (by omega)) (by omega)⟩
  · have h2 : l.length ≤ i := by simpa using h2
    conv => whnf
    exact ⟨⟨_, rfl, rfl, fin true (tb_pos fun j v hv => hq j v (by have := (List.getElem?_eq_some_iff.1 hv).1; omega) hv).symm⟩, Nat.le_refl _, hH⟩
end Av
end Go.Proofs.Ytdboofnogabefaa
/- The walks: voters. -/
namespace Go.Proofs.Ytdboofnogabefaa
namespace Av
open Go.RowKit
abbrev nsA (l : List Int) : List (List AC) := l.map fun n => [cI n]
theorem news_ow {H : Hp} {k T sz : Nat} {xs : List (List AC)} (h : H k = some (.arr T sz xs)) : news H (.w (.o (.ow k))) = some xs := by simp only [news, h]
theorem newsz_ow {H : Hp} {k T sz : Nat} {xs : List (List AC)} (h : H k = some (.arr T sz xs)) : newsz H sz (.w (.o (.ow k))) := by simp only [newsz, h]
theorem nsA_frz (l : List Int) : fcellss (nsA l) = some (l.map fun n => [fI n]) := by
  induction l with
  | nil => rfl
  | cons a l ih => simp only [nsA, List.map_cons, fcellss] at ih ⊢; rw [ih]; rfl
theorem slc_clip {fr : Env} {sz k : Nat} {xs : List (List FV)} {x y : X} {H : Hp} (hx : ev fr x = I xs.length) (hy : ev fr y = I xs.length) : slcA fr sz (.w (.o (.tk k sz xs))) none (some x) (some y) H = some (.one (if xs.length = 0 then .w (.o .e0) else S sz xs) H) := by
  have h0 : (0 : Int) ≤ (xs.length : Int) := Int.natCast_nonneg _
  simp only [slcA, bnd, hx, hy, if_pos h0, Int.toNat_natCast, Nat.zero_le, Nat.le_refl, and_self, true_and, if_true, List.drop_zero, List.take_length]
theorem v_impl_votes_voters : Valid Try.prog n_impl_votes_voters S_impl_votes_voters := by
  refine valid_of_swp mixed is_impl_votes_voters (by rintro _ ⟨a, rfl, _⟩; exact Nat.le_of_ble_eq_true rfl) ?_
  rintro _ rm ⟨⟨l, c⟩, rfl, hfit, hc⟩ hl
  dsimp only at hfit hc
  conv => whnf
  refine ⟨by decide, ?_⟩
  conv => whnf
  refine ⟨fun fr H nx rm' => ∃ (i : Nat) (k : Nat) (out : List Int), Has fr [(0, one (vsF l)), (1, one (chF c)), (5, .w (.o (.ow k))), (6, I (i + 1))] ∧ i ≤ 4 ∧ out = ([1, 2, 3, 4].take i).filter (fun n => tb ((⟨n, c⟩ : Vo) ∈ l)) ∧
      H k = some (.arr ty_int 1 (nsA out)) ∧ 1 ≤ k ∧ k < nx ∧ H 0 = none ∧ rm' = rm,
    fun fr _ _ _ => 5 - ix (fr 6), ⟨0, _, [], ⟨rfl, rfl, rfl, rfl, trivial⟩, Nat.zero_le _, rfl, rfl, by decide, by decide, rfl, rfl⟩, ?_⟩
  rintro fr H nx rm' ⟨i, k, out, hfr, hi, hout, hk, hk1, hkn, hH, rfl⟩
  rw [hfr.eq]
  have hw : i < 4 → IntKind.i64.wrap ((i : Int) + 1 + 1) = ((i + 1 : Nat) : Int) + 1 := fun h => by rw [wrap64] <;> omega
  have htk : i < 4 → ([1, 2, 3, 4] : List Int).take (i + 1) = ([1, 2, 3, 4] : List Int).take i ++ [((i : Int) + 1)] := fun h => by
    have : i = 0 ∨ i = 1 ∨ i = 2 ∨ i = 3 := by omega
    rcases this with rfl | rfl | rfl | rfl <;> rfl
  have hlt : out.length ≤ 4 := by
    rw [hout]
    refine Nat.le_trans (List.length_filter_le _ _) ?_
    simp only [List.length_take]; omega
  conv => whnf
  refine ⟨rfl, ?_⟩
  conv => whnf
  refine ⟨fun h2 => ?_, fun h2 => ?_⟩
  · have h2 : (i : Int) + 1 ≤ 4 := h2
    have h2' : i < 4 := by omega
    conv => whnf
    refine ⟨⟨(l, ⟨(i : Int) + 1, c⟩), rfl, hfit, hc⟩, v_impl_votes_has, .inl rfl, hl, fun r hr => ?_⟩
    rcases J_has (l := l) (v := ⟨(i : Int) + 1, c⟩) hr with ⟨h3, rfl⟩ | ⟨h3, rfl⟩
    · conv => whnf
      refine ⟨_, news_ow hupd_at, newsz_ow hupd_at, nsA out, ?_, ?_, ?_⟩
      · rw [hupd_ne (by omega)]; exact hk
      · simp [nsA]; omega
      · conv => whnf
        refine ⟨rfl, ?_⟩
        conv => whnf
        refine ⟨⟨i + 1, _, out ++ [(i : Int) + 1], ⟨rfl, rfl, rfl, congrArg I (hw h2'), trivial⟩, by omega, ?_, hupd_at.trans (by simp [nsA]), by omega, by (try simp only [List.length_cons, List.length_nil]); omega, z0 (z0 (z0 hH (by omega)) (by omega)) (by omega), rfl⟩, ?_⟩
        · rw [htk h2', List.filter_append, ← hout]
          simp [tb_pos h3]
        · show 5 - ix (I _) < 5 - ix (I _)
          simp only [hw h2', ix]
          omega
    · conv => whnf
      refine ⟨rfl, ?_⟩
      conv => whnf
      refine ⟨⟨i + 1, k, out, ⟨rfl, rfl, rfl, congrArg I (hw h2'), trivial⟩, by omega, ?_, hk, hk1, by omega, hH, rfl⟩, ?_⟩
      · rw [htk h2', List.filter_append, ← hout]
        simp [tb_neg h3]
      · show 5 - ix (I _) < 5 - ix (I _)
        simp only [hw h2', ix]
        omega
  · have h2 : (4 : Int) < (i : Int) + 1 := h2
    have hi4 : i = 4 := by omega
    subst hi4
    conv => whnf
    refine .inl ⟨k, _, _, _, out.map fun n => [fI n], rfl, hk, nsA_frz out, .inl ?_⟩
    conv => whnf
    refine ⟨_, slc_clip (sz := 1) (k := k) (xs := out.map fun n => [fI n]) rfl rfl, ?_⟩
    have hv : out = voters l c := hout
    have hz : ∀ {x : Option Ob}, hupd k x H 0 = none := fun {x} => z0 hH (by omega)
    cases out with
    | nil =>
      conv => whnf
      exact ⟨⟨_, rfl, rfl, (l, c), rfl, congrArg (fun o => one (nsF o)) hv⟩, Nat.le_refl _, hz⟩
    | cons a r =>
      conv => whnf
      exact ⟨⟨_, rfl, rfl, (l, c), rfl, congrArg (fun o => one (nsF o)) hv⟩, Nat.le_refl _, hz⟩
end Av
end Go.Proofs.Ytdboofnogabefaa
/- The walk: sure. -/
namespace Go.Proofs.Ytdboofnogabefaa
namespace Av
open Go.RowKit
theorem v_impl_votes_sure : Valid Try.prog n_impl_votes_sure S_impl_votes_sure := by
  refine valid_of_swp mixed is_impl_votes_sure (by rintro _ ⟨a, rfl, _⟩; exact Nat.le_of_ble_eq_true rfl) ?_
  rintro _ rm ⟨⟨l, c⟩, rfl, hfit, hc⟩ hl
  dsimp only at hfit hc
  have fin : ∀ b : Bool, b = tb (Sure l c) → ∃ a : List Vo × List It, [one (vsF l), one (chF c)] = [one (vsF a.1), one (chF a.2)] ∧ B b = B (tb (Sure a.1 a.2)) := fun b h => ⟨(l, c), rfl, congrArg B h⟩
  conv => whnf
  refine ⟨fun fr H nx rm' => ∃ (i : Nat), Has fr [(0, one (vsF l)), (1, one (chF c)), (5, I ((i + 1 : Nat) : Int))] ∧ i ≤ c.length ∧ (∀ n, 1 ≤ n → n ≤ i → SureAt l c n) ∧ H 0 = none ∧ rm' = rm,
    fun fr _ _ _ => c.length + 1 - ix (fr 5), ⟨0, ⟨rfl, rfl, rfl, trivial⟩, Nat.zero_le _, fun n h1 h2 => by omega, rfl, rfl⟩, ?_⟩
  rintro fr H nx rm' ⟨i, hfr, hi, hq, hH, rfl⟩
  rw [hfr.eq]
  have hlen : (c.map itF).length = c.length := List.length_map _
  have hw : i < c.length → IntKind.i64.wrap (((i + 1 : Nat) : Int) + 1) = ((i + 1 + 1 : Nat) : Int) := fun h => by
    simp only [LIM] at hc
    rw [wrap64] <;> omega
  conv => whnf
  refine ⟨rfl, ?_⟩
  conv => whnf
  refine ⟨fun h2 => ?_, fun h2 => ?_⟩
  · have h2 : ((i + 1 : Nat) : Int) ≤ ((c.map itF).length : Int) := h2
    have h2' : i < c.length := by omega
    conv => whnf
    refine ⟨_, slc_to (sz := 4) (xs := c.map itF) (i := i + 1) rfl (by omega), ?_⟩
    rw [map_take']
    conv => whnf
    refine ⟨⟨(l, c.take (i + 1)), rfl, hfit, by simp only [List.length_take]; omega⟩, v_impl_votes_voters, .inl rfl, hl, fun r hr => ?_⟩
    have hr' := J_voters (l := l) (c := c.take (i + 1)) hr
    subst hr'
    have hvl : ((voters l (c.take (i + 1))).map fun n => [fI n]).length = (voters l (c.take (i + 1))).length := List.length_map _
    conv => whnf
    refine ⟨rfl, ?_⟩
    conv => whnf
    refine ⟨fun h3 => ?_, fun h3 => ?_⟩
    · have h3 : (((voters l (c.take (i + 1))).map fun n => [fI n]).length : Int) < 3 := h3
      conv => whnf
      refine ⟨⟨_, rfl, rfl, fin false (tb_neg fun h => ?_).symm⟩, Nat.le_refl _, hH⟩
      have := h (i + 1) (by omega) (by omega)
      unfold SureAt at this
      omega
    · have h3 : 3 ≤ (((voters l (c.take (i + 1))).map fun n => [fI n]).length : Int) := h3
      conv => whnf
      refine ⟨rfl, ?_⟩
      conv => whnf
      refine ⟨⟨i + 1, ⟨rfl, rfl, congrArg I (hw h2'), trivial⟩, h2', fun n h4 h5 => ?_, hH, rfl⟩, ?_⟩
      · rcases Nat.lt_or_ge n (i + 1) with h6 | h6
        · exact hq n h4 (by omega)
        · have : n = i + 1 := by omega
          subst this
          unfold SureAt
          omega
      · show c.length + 1 - ix (I _) < c.length + 1 - ix (I _)
        simp only [hw h2', ix, Int.toNat_natCast]
        omega
  · have h2 : ((c.map itF).length : Int) < ((i + 1 : Nat) : Int) := h2
    conv => whnf
    exact ⟨⟨_, rfl, rfl, fin true (tb_pos fun n h4 h5 => hq n h4 (by omega)).symm⟩, Nat.le_refl _, hH⟩
end Av
end Go.Proofs.Ytdboofnogabefaa
/- The walks: Clip, Clone, copied on items. -/
namespace Go.Proofs.Ytdboofnogabefaa
namespace Av
open Go.RowKit
theorem slc_clipS {fr : Env} {sz : Nat} {xs : List (List FV)} {x y : X} {H : Hp} (hx : ev fr x = I xs.length) (hy : ev fr y = I xs.length) : slcA fr sz (S sz xs) none (some x) (some y) H = some (.one (if xs.length = 0 then .w (.o .e0) else S sz xs) H) := by
  have h0 : (0 : Int) ≤ (xs.length : Int) := Int.natCast_nonneg _
  simp only [slcA, bnd, hx, hy, if_pos h0, Int.toNat_natCast, Nat.zero_le, Nat.le_refl, and_self, true_and, if_true, List.drop_zero, List.take_length]
theorem fcells_c (l : List FV) : fcells (l.map AC.c) = some l := by
  induction l with
  | nil => rfl
  | cons a l ih => simp only [List.map_cons, fcells, ih]; rfl
theorem fcellss_c (xs : List (List FV)) : fcellss (xs.map fun x => x.map AC.c) = some xs := by
  induction xs with
  | nil => rfl
  | cons a l ih => simp only [List.map_cons, fcellss, fcells_c, ih]; rfl
theorem bor_ow {H : Hp} {k T sz : Nat} {xs : List (List AC)} {ys : List (List FV)} {sh : Option Nat} (h : H k = some (.arr T sz xs)) (hy : fcellss xs = some ys) : bor H sh (.ow k) = .c (.sl sz ys) := by simp only [bor, h, hy]
theorem v_slices_Clip_ItemS : Valid Try.prog n_slices_Clip_ItemS S_slices_Clip_ItemS := by
  refine valid_of_swp mixed is_slices_Clip_ItemS (by rintro _ ⟨a, rfl, _⟩; exact Nat.le_of_ble_eq_true rfl) ?_
  rintro _ rm ⟨c, rfl, hc⟩ hl
  conv => whnf
  refine ⟨_, slc_clipS (sz := 4) (xs := c.map itF) rfl rfl, ?_⟩
  cases c with
  | nil =>
    conv => whnf
    exact ⟨⟨_, rfl, rfl, [], rfl, rfl⟩, Nat.le_refl _, rfl⟩
  | cons a r =>
    conv => whnf
    exact ⟨⟨_, rfl, rfl, a :: r, rfl, rfl⟩, Nat.le_refl _, rfl⟩
theorem v_slices_Clone_ItemS : Valid Try.prog n_slices_Clone_ItemS S_slices_Clone_ItemS := by
  refine valid_of_swp mixed is_slices_Clone_ItemS (by rintro _ ⟨a, rfl, _⟩; exact Nat.le_of_ble_eq_true rfl) ?_
  rintro _ rm ⟨c, rfl, hc⟩ hl
  conv => whnf
  refine ⟨trivial, hl, ?_⟩
  rintro r ⟨t, rfl, ht⟩
  cases t with
  | true =>
    have hc0 : c = [] := List.map_eq_nil_iff.1 (ht rfl)
    subst hc0
    conv => whnf
    exact ⟨⟨_, rfl, rfl, [], rfl, rfl⟩, Nat.le_refl _, rfl⟩
  | false =>
    conv => whnf
    refine ⟨_, rfl, rfl, [], hupd_at, ?_, ?_⟩
    · simp only [LIM] at hc
      simp
      omega
    · conv => whnf
      exact ⟨⟨[.o (.c (chF c))], congrArg (fun x => some [AW.o x]) (bor_ow hupd_at (fcellss_c (c.map itF))), rfl, c, rfl, rfl⟩, Nat.le_refl _, rfl⟩
theorem v_impl_copied : Valid Try.prog n_impl_copied S_impl_copied := by
  refine valid_of_swp mixed is_impl_copied (by rintro _ ⟨a, rfl, _⟩; exact Nat.le_of_ble_eq_true rfl) ?_
  rintro _ rm ⟨c, rfl, hc⟩ hl
  conv => whnf
  refine ⟨⟨c, rfl, hc⟩, v_slices_Clone_ItemS, .inl rfl, hl, fun r hr => ?_⟩
  have hr' := J_sameC (c := c) hr
  subst hr'
  conv => whnf
  refine ⟨⟨c, rfl, hc⟩, v_slices_Clip_ItemS, .inl rfl, hl, fun r hr => ?_⟩
  have hr' := J_sameC (c := c) hr
  subst hr'
  conv => whnf
  exact ⟨⟨_, rfl, rfl, c, rfl, rfl⟩, Nat.le_refl _, rfl⟩
end Av
end Go.Proofs.Ytdboofnogabefaa
/- The walks: a chain among chains. -/
namespace Go.Proofs.Ytdboofnogabefaa
namespace Av
open Go.RowKit
theorem v_impl_votes_all_1 : Valid Try.prog n_impl_votes_all_1 S_impl_votes_all_1 := by
  refine valid_of_swp mixed is_impl_votes_all_1 (by rintro _ ⟨a, rfl, _⟩; exact Nat.le_of_ble_eq_true rfl) ?_
  rintro _ rm ⟨⟨c, v⟩, rfl, hc, hv⟩ hl
  have fin : ∀ b : Bool, b = tb (c = v.c) → ∃ a : List It × Vo, [one (chF c), AV.w (.o (.ep (voF v)))] = [one (chF a.1), .w (.o (.ep (voF a.2)))] ∧ B b = B (tb (a.1 = a.2.c)) := fun b h => ⟨(c, v), rfl, congrArg B h⟩
  conv => whnf
  refine ⟨_, rfl, ?_⟩
  conv => whnf
  refine ⟨⟨(c, v.c), rfl, hc, hv⟩, v_slices_Equal_ItemS, .inl rfl, hl, fun r hr => ?_⟩
  rcases J_Equal (c := c) (d := v.c) hr with ⟨h, rfl⟩ | ⟨h, rfl⟩
  · conv => whnf
    exact ⟨⟨_, rfl, rfl, fin true (tb_pos h).symm⟩, Nat.le_refl _, rfl⟩
  · conv => whnf
    exact ⟨⟨_, rfl, rfl, fin false (tb_neg h).symm⟩, Nat.le_refl _, rfl⟩
theorem v_slices_IndexFunc_ISS : Valid Try.prog n_slices_IndexFunc_ISS S_slices_IndexFunc_ISS := by
  refine valid_of_swp mixed (is_slices_IndexFunc_ISS S_impl_votes_all_1) (by rintro _ ⟨a, rfl, _⟩; exact Nat.le_of_ble_eq_true rfl) ?_
  rintro _ rm ⟨⟨l, v⟩, rfl, ⟨hl1, hl2⟩, hv⟩ hl
  dsimp only at hl1 hl2 hv
  conv => whnf
  refine ⟨fun fr H nx rm' => ∃ i : Nat, Has fr [(0, one (csF l)), (1, fnAll v), (7, I l.length), (8, I i)] ∧ i ≤ l.length ∧ v.c ∉ l.take i ∧ H 0 = none ∧ rm' = rm,
    fun fr _ _ _ => l.length - ix (fr 8), ⟨0, ⟨rfl, rfl, by show I _ = I _; simp, rfl, trivial⟩, Nat.zero_le _, by simp, rfl, rfl⟩, ?_⟩
  rintro fr H nx rm' ⟨i, hfr, hi, hq, hH, rfl⟩
  rw [hfr.eq]
  conv => whnf
  refine ⟨rfl, ?_⟩
  conv => whnf
  refine ⟨fun h2 => ?_, fun h2 => ?_⟩
  · have h2 : i < l.length := by simpa using h2
    obtain ⟨x, hx⟩ : ∃ x, l[i]? = some x := ⟨_, List.getElem?_eq_getElem h2⟩
    have hxm : x ∈ l := List.mem_of_getElem? hx
    conv => whnf
    refine ⟨rfl, i, _, rfl, at_map hx, ?_⟩
    conv => whnf
    refine ⟨_, rfl, ?_⟩
    conv => whnf
    refine ⟨⟨⟨(x, v), rfl, hl2 x hxm, hv⟩, rfl, rfl, v_impl_votes_all_1⟩, hl, fun r hr => ?_⟩
    rcases J_all_1 (c := x) (v := v) hr.1 with ⟨h3, rfl⟩ | ⟨h3, rfl⟩
    · conv => whnf
      exact ⟨⟨_, rfl, rfl, (l, v), rfl, i, rfl, by simp [← h3, hxm]⟩, Nat.le_refl _, hH⟩
    · conv => whnf
      refine ⟨rfl, ?_⟩
      conv => whnf
      refine ⟨⟨i + 1, ⟨rfl, rfl, rfl, congrArg I (wrap_up h2 hl1), trivial⟩, h2, ?_, hH, rfl⟩, ?_⟩
      · rw [List.take_add_one, hx]
        simp [hq, Ne.symm h3]
      · show l.length - ix (I _) < l.length - ix (I _)
        simp only [wrap_up h2 hl1, ix, Int.toNat_natCast]
        omega
  · conv => whnf
    refine ⟨⟨_, rfl, rfl, (l, v), rfl, -1, rfl, ?_⟩, Nat.le_refl _, hH⟩
    have h2 : l.length ≤ i := by simpa using h2
    rw [List.take_of_length_le h2] at hq
    simp [hq]
theorem v_slices_ContainsFunc_ISS : Valid Try.prog n_slices_ContainsFunc_ISS S_slices_ContainsFunc_ISS := by
  refine valid_of_swp mixed is_slices_ContainsFunc_ISS (by rintro _ ⟨a, rfl, _⟩; exact Nat.le_of_ble_eq_true rfl) ?_
  rintro _ rm ⟨⟨l, v⟩, rfl, hfit⟩ hl
  have fin : ∀ b : Bool, b = tb (v.c ∈ l) → ∃ a : List (List It) × Vo, [one (csF l), fnAll v] = [one (csF a.1), fnAll a.2] ∧ B b = B (tb (a.2.c ∈ a.1)) := fun b h => ⟨(l, v), rfl, congrArg B h⟩
  conv => whnf
  refine ⟨⟨(l, v), rfl, hfit⟩, v_slices_IndexFunc_ISS, .inl rfl, hl, fun r hr => ?_⟩
  obtain ⟨k, rfl, hk⟩ := J_IndexFunc_ISS (l := l) (v := v) hr
  conv => whnf
  refine ⟨rfl, ?_⟩
  conv => whnf
  refine ⟨fun h => ?_, fun h => ?_⟩
  · conv => whnf
    exact ⟨⟨_, rfl, rfl, fin true (tb_pos (hk.1 h)).symm⟩, Nat.le_refl _, rfl⟩
  · conv => whnf
    exact ⟨⟨_, rfl, rfl, fin false (tb_neg fun q => absurd (hk.2 q) (Int.not_le.2 h)).symm⟩, Nat.le_refl _, rfl⟩
end Av
end Go.Proofs.Ytdboofnogabefaa
/- The walk: all. -/
namespace Go.Proofs.Ytdboofnogabefaa
namespace Av
open Go.RowKit
theorem v_slices_Clip_ISS : Valid Try.prog n_slices_Clip_ISS S_slices_Clip_ISS := by
  refine valid_of_swp mixed is_slices_Clip_ISS (by rintro _ ⟨a, rfl, _⟩; exact Nat.le_of_ble_eq_true rfl) ?_
  rintro _ rm ⟨c, rfl, hc⟩ hl
  conv => whnf
  refine ⟨_, slc_clipS (sz := 1) (xs := c.map fun c => [chF c]) rfl rfl, ?_⟩
  cases c with
  | nil =>
    conv => whnf
    exact ⟨⟨_, rfl, rfl, [], rfl, rfl⟩, Nat.le_refl _, rfl⟩
  | cons a r =>
    conv => whnf
    exact ⟨⟨_, rfl, rfl, a :: r, rfl, rfl⟩, Nat.le_refl _, rfl⟩
abbrev csA (l : List (List It)) : List (List AC) := l.map fun c => [.c (chF c)]
theorem csA_frz (l : List (List It)) : fcellss (csA l) = some (l.map fun c => [chF c]) := by
  have := fcellss_c (l.map fun c => [chF c])
  rwa [List.map_map] at this
theorem l2 {a b c d : AV} (h : a = b) (h' : c = d) : [a, c] = [b, d] := by rw [h, h']
theorem all_yes {l r : List Vo} {v : Vo} {out : List (List It)} (h : v.c ∉ out) (h' : Sure l v.c) : allFrom l (v :: r) out = allFrom l r (out ++ [v.c]) := by
  simp only [allFrom, tb_pos (show v.c ∉ out ∧ Sure l v.c from ⟨h, h'⟩), if_true]
theorem all_no {l r : List Vo} {v : Vo} {out : List (List It)} (h : ¬ (v.c ∉ out ∧ Sure l v.c)) : allFrom l (v :: r) out = allFrom l r out := by
  simp only [allFrom, tb_neg h, Bool.false_eq_true, if_false]
theorem bor_cells {H : Hp} {k : Nat} {cs : List AC} {ys : List FV} {sh : Option Nat} (h : H k = some (.cells cs)) (hy : fcells cs = some ys) : bor H sh (.ptr k 0) = .ep ys := by simp only [bor, h, hy, List.drop_zero]
theorem v_impl_votes_all : Valid Try.prog n_impl_votes_all S_impl_votes_all := by
  refine valid_of_swp mixed is_impl_votes_all (by rintro _ ⟨a, rfl, _⟩; exact Nat.le_of_ble_eq_true rfl) ?_
  rintro _ rm ⟨l, rfl, hfit, hlt⟩ hl
  conv => whnf
  refine ⟨fun fr H nx rm' => ∃ (i k : Nat) (out : List (List It)), Has fr [(0, one (vsF l)), (3, .w (.o (.ow k))), (9, one (vsF l)), (10, I l.length), (11, I i)] ∧ i ≤ l.length ∧ allFrom l (l.drop i) out = allS l ∧
      H k = some (.arr ty_Simpl_Item 1 (csA out)) ∧ 1 ≤ k ∧ k < nx ∧ out.length ≤ i + 1 ∧ (∀ c, c ∈ out → c.length ≤ LIM) ∧ H 0 = none ∧ rm' = rm,
    fun fr _ _ _ => l.length - ix (fr 11), ⟨0, _, [[]], ⟨rfl, rfl, rfl, by show I _ = I _; simp, rfl, trivial⟩, Nat.zero_le _, rfl, rfl, by decide, by decide, by decide, by simp, rfl, rfl⟩, ?_⟩
  rintro fr H nx rm' ⟨i, k, out, hfr, hi, hq, hk, hk1, hkn, hol, hoc, hH, rfl⟩
  rw [hfr.eq]
  conv => whnf
  refine ⟨rfl, ?_⟩
  conv => whnf
  refine ⟨fun h2 => ?_, fun h2 => ?_⟩
  · have h2 : i < l.length := by simpa using h2
    obtain ⟨v, hv⟩ : ∃ v, l[i]? = some v := ⟨_, List.getElem?_eq_getElem h2⟩
    have hvm : v ∈ l := List.mem_of_getElem? hv
    have hvc : v.c.length ≤ LIM := hfit.2 v hvm
    have hdrop : l.drop i = v :: l.drop (i + 1) := by
      obtain ⟨hlt', rfl⟩ := List.getElem?_eq_some_iff.1 hv
      exact List.drop_eq_getElem_cons hlt'
    rw [hdrop] at hq
    conv => whnf
    refine ⟨rfl, i, _, rfl, at_map hv, ?_⟩
    conv => whnf
    refine ⟨_, rfl, ?_⟩
    conv => whnf
    refine ⟨_, _, hupd_at, rfl, rfl, Nat.le_of_ble_eq_true rfl, ?_⟩
    conv => whnf
    refine callq (b := [one (csF out), fnAll v]) ?_ ⟨(out, v), rfl, ⟨by dsimp only; omega, hoc⟩, hvc⟩ v_slices_ContainsFunc_ISS (.inr ⟨rfl, rfl⟩) hl fun r hr => ?_
    · exact l2 (congrArg (fun x => AV.w (.o x)) (bor_ow (zk (zk hk (by omega)) (by omega)) (csA_frz out))) (congrArg (fun x => AV.fn (.func n_impl_votes_all_1) [] [.o x]) (bor_cells hupd_at (fcells_c (voF v))))
    rcases J_ContainsFunc_ISS (l := out) (v := v) hr with ⟨h3, rfl⟩ | ⟨h3, rfl⟩
    · conv => whnf
      refine ⟨rfl, ?_⟩
      conv => whnf
      refine ⟨⟨i + 1, k, out, ⟨rfl, rfl, rfl, rfl, congrArg I (wrap_up h2 hfit.1), trivial⟩, h2, ?_, zk (zk hk (by omega)) (by omega), hk1, by omega, by omega, hoc, z0 (z0 hH (by omega)) (by omega), rfl⟩, ?_⟩
      · rw [← hq, all_no fun h => h.1 h3]
      · show l.length - ix (I _) < l.length - ix (I _)
        simp only [wrap_up h2 hfit.1, ix, Int.toNat_natCast]
        omega
    · conv => whnf
      refine ⟨_, ldc_cells hupd_at (Nat.le_of_ble_eq_true rfl), ?_⟩
      conv => whnf
      refine ⟨⟨(l, v.c), rfl, hfit, hvc⟩, v_impl_votes_sure, .inl rfl, hl, fun r hr => ?_⟩
      rcases J_sure (l := l) (c := v.c) hr with ⟨h4, rfl⟩ | ⟨h4, rfl⟩
      · conv => whnf
        refine ⟨_, ldc_cells hupd_at (Nat.le_of_ble_eq_true rfl), ?_⟩
        conv => whnf
        refine ⟨⟨v.c, rfl, hvc⟩, v_impl_copied, .inl rfl, hl, fun r hr => ?_⟩
        have hr' := J_sameC (c := v.c) hr
        subst hr'
        conv => whnf
        refine ⟨_, news_ow hupd_at, newsz_ow hupd_at, csA out, ?_, ?_, ?_⟩
        · exact zk (zk (zk hk (by omega)) (by omega)) (by omega)
        · simp only [LIM] at hlt
          simp [csA]
          omega
        · conv => whnf
          refine ⟨rfl, ?_⟩
          conv => whnf
          refine ⟨⟨i + 1, _, out ++ [v.c], ⟨rfl, rfl, rfl, rfl, congrArg I (wrap_up h2 hfit.1), trivial⟩, h2, ?_, hupd_at.trans (by simp [csA]), by omega, by (try simp only [List.length_cons, List.length_nil]); omega, by simp only [List.length_append, List.length_cons, List.length_nil]; omega, ?_, z0 (z0 (z0 (z0 (z0 hH (by omega)) (by omega)) (by omega)) (by omega)) (by omega), rfl⟩, ?_⟩
          · rw [← hq, all_yes h3 h4]
          · intro c hc
            rcases List.mem_append.1 hc with hc | hc
            · exact hoc c hc
            · rw [List.mem_singleton.1 hc]; exact hvc
          · show l.length - ix (I _) < l.length - ix (I _)
            simp only [wrap_up h2 hfit.1, ix, Int.toNat_natCast]
            omega
      · conv => whnf
        refine ⟨rfl, ?_⟩
        conv => whnf
        refine ⟨⟨i + 1, k, out, ⟨rfl, rfl, rfl, rfl, congrArg I (wrap_up h2 hfit.1), trivial⟩, h2, ?_, zk (zk hk (by omega)) (by omega), hk1, by omega, by omega, hoc, z0 (z0 hH (by omega)) (by omega), rfl⟩, ?_⟩
        · rw [← hq, all_no fun h => h4 h.2]
        · show l.length - ix (I _) < l.length - ix (I _)
          simp only [wrap_up h2 hfit.1, ix, Int.toNat_natCast]
          omega
  · have h2 : l.length ≤ i := by simpa using h2
    rw [List.drop_eq_nil_of_le h2] at hq
    have hout : out = allS l := hq
    conv => whnf
    refine .inl ⟨k, _, _, _, _, rfl, hk, csA_frz out, .inl ?_⟩
    conv => whnf
    refine ⟨⟨out, rfl, by simp only [LIM] at *; omega⟩, v_slices_Clip_ISS, .inl rfl, hl, fun r hr => ?_⟩
    have hr' := J_Clip_ISS (c := out) hr
    subst hr'
    conv => whnf
    exact ⟨⟨_, rfl, rfl, l, rfl, congrArg (fun o => one (csF o)) hout⟩, Nat.le_refl _, z0 hH (by omega)⟩
end Av
end Go.Proofs.Ytdboofnogabefaa
/- The walks: tip, TreeLong. -/
namespace Go.Proofs.Ytdboofnogabefaa
namespace Av
open Go.RowKit
end Av
end Go.Proofs.Ytdboofnogabefaa
