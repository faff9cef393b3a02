/- The walks: within, epochOk, nodeOk, PayOk. -/
import Derived.Test.YtdboofnogabefaaE1
set_option linter.unusedVariables false
set_option linter.unusedSimpArgs false
namespace Go.Proofs.Ytdboofnogabefaa
namespace Av
open Go.RowKit
theorem v_impl_within : Valid Try.prog n_impl_within S_impl_within := by
  refine valid_of_swp mixed is_impl_within (by rintro _ ⟨a, rfl, _⟩; exact Nat.le_of_ble_eq_true rfl) ?_
  rintro _ rm ⟨⟨a, b, c⟩, rfl, _⟩ _
  repeat' (conv => whnf
           first | refine ⟨rfl, ?_⟩ | refine ⟨_, rfl, ?_⟩ | refine ⟨fun _ => ?_, fun _ => ?_⟩ | fail)
  all_goals (conv => whnf
             refine ⟨⟨_, rfl, rfl, (a, b, c), rfl, ?_⟩, Nat.le_refl _, rfl⟩
             show B _ = B (tb (In a b c)))
  all_goals dsimp only at *
  · rw [tb_pos (by unfold In; omega)]
  · rw [tb_neg (by unfold In; omega)]
  · rw [tb_neg (by unfold In; omega)]
theorem v_impl_epochOk : Valid Try.prog n_impl_epochOk S_impl_epochOk := by
  refine valid_of_swp mixed is_impl_epochOk (by rintro _ ⟨a, rfl, _⟩; exact Nat.le_of_ble_eq_true rfl) ?_
  rintro _ rm ⟨a, rfl, _⟩ hl
  conv => whnf
  refine ⟨⟨(a, 1, 30), rfl, trivial⟩, v_impl_within, .inl rfl, hl, fun r hr => ?_⟩
  rcases J_In (n := a) (lo := 1) (hi := 30) hr with ⟨h, rfl⟩ | ⟨h, rfl⟩
  · conv => whnf
    exact ⟨⟨_, rfl, rfl, a, rfl, congrArg B (tb_pos h).symm⟩, Nat.le_refl _, rfl⟩
  · conv => whnf
    exact ⟨⟨_, rfl, rfl, a, rfl, congrArg B (tb_neg h).symm⟩, Nat.le_refl _, rfl⟩
theorem v_impl_nodeOk : Valid Try.prog n_impl_nodeOk S_impl_nodeOk := by
  refine valid_of_swp mixed is_impl_nodeOk (by rintro _ ⟨a, rfl, _⟩; exact Nat.le_of_ble_eq_true rfl) ?_
  rintro _ rm ⟨a, rfl, _⟩ hl
  conv => whnf
  refine ⟨⟨(a, 1, 4), rfl, trivial⟩, v_impl_within, .inl rfl, hl, fun r hr => ?_⟩
  rcases J_In (n := a) (lo := 1) (hi := 4) hr with ⟨h, rfl⟩ | ⟨h, rfl⟩
  · conv => whnf
    exact ⟨⟨_, rfl, rfl, a, rfl, congrArg B (tb_pos h).symm⟩, Nat.le_refl _, rfl⟩
  · conv => whnf
    exact ⟨⟨_, rfl, rfl, a, rfl, congrArg B (tb_neg h).symm⟩, Nat.le_refl _, rfl⟩
theorem v_impl_PayOk : Valid Try.prog n_impl_PayOk S_impl_PayOk := by
  refine valid_of_swp mixed is_impl_PayOk (by rintro _ ⟨a, rfl, _⟩; exact Nat.le_of_ble_eq_true rfl) ?_
  rintro _ rm ⟨⟨f, t, s⟩, rfl, _⟩ hl
  have fin : ∀ b : Bool, b = tb (PayOk ⟨f, t, s⟩) → ∃ a : Pa, [agg (paF ⟨f, t, s⟩)] = [agg (paF a)] ∧ B b = B (tb (PayOk a)) := fun b h => ⟨⟨f, t, s⟩, rfl, congrArg B h⟩
  conv => whnf
  refine ⟨_, rfl, ?_⟩
  conv => whnf
  refine ⟨⟨(f, 1, 3), rfl, trivial⟩, v_impl_within, .inl rfl, hl, fun r hr => ?_⟩
  rcases J_In (n := f) (lo := 1) (hi := 3) hr with ⟨h1, rfl⟩ | ⟨h1, rfl⟩
  · conv => whnf
    refine ⟨_, rfl, ?_⟩
    conv => whnf
    refine ⟨⟨(t, 1, 3), rfl, trivial⟩, v_impl_within, .inl rfl, hl, fun r hr => ?_⟩
    rcases J_In (n := t) (lo := 1) (hi := 3) hr with ⟨h2, rfl⟩ | ⟨h2, rfl⟩
    · conv => whnf
      refine ⟨_, rfl, ?_⟩
      conv => whnf
      refine ⟨_, rfl, ?_⟩
      conv => whnf
      refine ⟨rfl, ?_⟩
      conv => whnf
      refine ⟨fun h3 => ?_, fun h3 => ?_⟩
      · conv => whnf
        exact ⟨⟨_, rfl, rfl, fin false (tb_neg fun h => h.2.2.1 h3).symm⟩, Nat.le_refl _, rfl⟩
      · conv => whnf
        refine ⟨_, rfl, ?_⟩
        conv => whnf
        refine ⟨⟨(s, 1, 9), rfl, trivial⟩, v_impl_within, .inl rfl, hl, fun r hr => ?_⟩
        rcases J_In (n := s) (lo := 1) (hi := 9) hr with ⟨h4, rfl⟩ | ⟨h4, rfl⟩
        · conv => whnf
          exact ⟨⟨_, rfl, rfl, fin true (tb_pos ⟨h1, h2, h3, h4⟩).symm⟩, Nat.le_refl _, rfl⟩
        · conv => whnf
          exact ⟨⟨_, rfl, rfl, fin false (tb_neg fun h => h4 h.2.2.2).symm⟩, Nat.le_refl _, rfl⟩
    · conv => whnf
      exact ⟨⟨_, rfl, rfl, fin false (tb_neg fun h => h2 h.2.1).symm⟩, Nat.le_refl _, rfl⟩
  · conv => whnf
    exact ⟨⟨_, rfl, rfl, fin false (tb_neg fun h => h1 h.1).symm⟩, Nat.le_refl _, rfl⟩
end Av
end Go.Proofs.Ytdboofnogabefaa
/- The walks: slices.Equal on items, ChainOk. -/
namespace Go.Proofs.Ytdboofnogabefaa
namespace Av
open Go.RowKit
end Av
end Go.Proofs.Ytdboofnogabefaa
/- The walk: ChainOk. -/
namespace Go.Proofs.Ytdboofnogabefaa
namespace Av
open Go.RowKit
theorem ldc_cells {H : Hp} {k off n : Nat} {cs : List AC} (h : H k = some (.cells cs)) (hn : off + n ≤ cs.length) : ldc H (.w (.o (.ptr k off))) n = some ((cs.drop off).take n) := by
  simp only [ldc, h, if_pos hn]
theorem hupd_at {H : Hp} {k : Nat} {x : Option Ob} : hupd k x H k = x := by simp [hupd]
theorem z0 {H : Hp} {k : Nat} {x : Option Ob} (h : H 0 = none) (hk : 0 ≠ k) : hupd k x H 0 = none := by rw [hupd_ne hk]; exact h
theorem v_impl_ChainOk : Valid Try.prog n_impl_ChainOk S_impl_ChainOk := by
  refine valid_of_swp mixed is_impl_ChainOk (by rintro _ ⟨a, rfl, _⟩; exact Nat.le_of_ble_eq_true rfl) ?_
  rintro _ rm ⟨c, rfl, hc⟩ hl
  have fin : ∀ b : Bool, b = tb (ChainOk c) → ∃ a : List It, [one (chF c)] = [one (chF a)] ∧ B b = B (tb (ChainOk a)) := fun b h => ⟨c, rfl, congrArg B h⟩
  conv => whnf
  refine ⟨fun fr H nx rm' => ∃ i : Nat, Has fr [(0, one (chF c)), (5, one (chF c)), (6, I c.length), (7, I i)] ∧ i ≤ c.length ∧ (∀ j x, j < i → c[j]? = some x → ItemOk c j x) ∧ 1 ≤ nx ∧ H 0 = none ∧ rm' = rm,
    fun fr _ _ _ => c.length - ix (fr 7), ⟨0, ⟨rfl, rfl, by show I _ = I _; simp, rfl, trivial⟩, Nat.zero_le _, fun j x h => by omega, by decide, rfl, rfl⟩, ?_⟩
  rintro fr H nx rm' ⟨i, hfr, hi, hq, hnx, hH, rfl⟩
  rw [hfr.eq]
  conv => whnf
  refine ⟨rfl, ?_⟩
  conv => whnf
  refine ⟨fun h2 => ?_, fun h2 => ?_⟩
  · have h2 : i < c.length := by simpa using h2
    obtain ⟨x, hx⟩ : ∃ x, c[i]? = some x := ⟨_, List.getElem?_eq_getElem h2⟩
    conv => whnf
    refine ⟨rfl, i, _, rfl, at_map hx, ?_⟩
    conv => whnf
    refine ⟨_, rfl, ?_⟩
    conv => whnf
    refine ⟨_, _, hupd_at, rfl, rfl, Nat.le_of_ble_eq_true rfl, ?_⟩
    conv => whnf
    refine ⟨_, ldc_cells hupd_at (Nat.le_of_ble_eq_true rfl), ?_⟩
    conv => whnf
    refine ⟨⟨x.e, rfl, trivial⟩, v_impl_epochOk, .inl rfl, hl, fun r hr => ?_⟩
    rcases J_epochOk (n := x.e) hr with ⟨h3, rfl⟩ | ⟨h3, rfl⟩
    · conv => whnf
      refine ⟨_, ldc_cells hupd_at (Nat.le_of_ble_eq_true rfl), ?_⟩
      conv => whnf
      refine ⟨⟨x.p, rfl, trivial⟩, v_impl_PayOk, .inl rfl, hl, fun r hr => ?_⟩
      rcases J_PayOk (p := x.p) hr with ⟨h4, rfl⟩ | ⟨h4, rfl⟩
      · conv => whnf
        refine ⟨rfl, ?_⟩
        conv => whnf
        refine ⟨fun h5 => ?_, fun h5 => ?_⟩
        · conv => whnf
          refine ⟨rfl, ?_⟩
          conv => whnf
          obtain ⟨y, hy⟩ : ∃ y, c[i - 1]? = some y := ⟨_, List.getElem?_eq_getElem (by omega)⟩
          refine ⟨rfl, i - 1, _, ?_, at_map hy, ?_⟩
          · have h5 : (0 : Int) < i := h5
            show IntKind.i64.wrap ((i : Int) - 1) = ((i - 1 : Nat) : Int)
            simp only [LIM] at hc
            rw [wrap64] <;> omega
          conv => whnf
          refine ⟨_, rfl, ?_⟩
          conv => whnf
          refine ⟨_, ldc_cells hupd_at (Nat.le_of_ble_eq_true rfl), ?_⟩
          conv => whnf
          refine ⟨rfl, ?_⟩
          conv => whnf
          refine ⟨fun h6 => ?_, fun h6 => ?_⟩
          · conv => whnf
            refine ⟨⟨_, rfl, rfl, fin false (tb_neg fun h => ?_).symm⟩, Nat.le_refl _, z0 (z0 hH (by omega)) (by omega)⟩
            have h7 := (h.1 i x hx).2.2 (i - 1) y (by have : (0 : Int) < i := h5; omega) hy
            have h6 : x.e ≤ y.e := h6
            omega
          · conv => whnf
            refine ⟨rfl, ?_⟩
            conv => whnf
            refine ⟨⟨i + 1, ⟨rfl, rfl, rfl, congrArg I (wrap_up h2 hc), trivial⟩, h2, ?_, by omega, z0 (z0 hH (by omega)) (by omega), rfl⟩, ?_⟩
            · intro j z hj hz
              rcases Nat.lt_or_ge j i with h8 | h8
              · exact hq j z h8 hz
              · have : j = i := by omega
                subst this
                rw [hx] at hz; cases hz
                refine ⟨h3, h4, fun k u hk hu => ?_⟩
                have : k = j - 1 := by omega
                subst this
                rw [hy] at hu; cases hu
                exact h6
            · show c.length - ix (I _) < c.length - ix (I _)
              simp only [wrap_up h2 hc, ix, Int.toNat_natCast]
              omega
        · conv => whnf
          refine ⟨rfl, ?_⟩
          conv => whnf
          refine ⟨⟨i + 1, ⟨rfl, rfl, rfl, congrArg I (wrap_up h2 hc), trivial⟩, h2, ?_, by omega, z0 (z0 hH (by omega)) (by omega), rfl⟩, ?_⟩
          · intro j z hj hz
            rcases Nat.lt_or_ge j i with h8 | h8
            · exact hq j z h8 hz
            · have : j = i := by omega
              subst this
              rw [hx] at hz; cases hz
              exact ⟨h3, h4, fun k u hk hu => absurd hk (by have : (j : Int) ≤ 0 := h5; omega)⟩
          · show c.length - ix (I _) < c.length - ix (I _)
            simp only [wrap_up h2 hc, ix, Int.toNat_natCast]
            omega
      · conv => whnf
        exact ⟨⟨_, rfl, rfl, fin false (tb_neg fun h => h4 (h.1 i x hx).2.1).symm⟩, Nat.le_refl _, z0 (z0 hH (by omega)) (by omega)⟩
    · conv => whnf
      exact ⟨⟨_, rfl, rfl, fin false (tb_neg fun h => h3 (h.1 i x hx).1).symm⟩, Nat.le_refl _, z0 (z0 hH (by omega)) (by omega)⟩
  · have h2 : c.length ≤ i := by simpa using h2
    have hall : ∀ j x, c[j]? = some x → ItemOk c j x := fun j x hx => hq j x (by have := (List.getElem?_eq_some_iff.1 hx).1; omega) hx
    conv => whnf
    refine ⟨rfl, ?_⟩
    conv => whnf
    refine ⟨fun h3 => ?_, fun h3 => ?_⟩
    · conv => whnf
      refine ⟨⟨_, rfl, rfl, fin true (tb_pos ⟨hall, ?_⟩).symm⟩, Nat.le_refl _, hH⟩
      have : (c.length : Int) ≤ 16 := by simpa using h3
      omega
    · conv => whnf
      refine ⟨⟨_, rfl, rfl, fin false (tb_neg fun h => ?_).symm⟩, Nat.le_refl _, hH⟩
      have : (16 : Int) < c.length := by simpa using h3
      have := h.2
      omega
end Av
end Go.Proofs.Ytdboofnogabefaa
/- The walks: a vote among votes. -/
namespace Go.Proofs.Ytdboofnogabefaa
namespace Av
open Go.RowKit
end Av
end Go.Proofs.Ytdboofnogabefaa
/- The walks: VoteOk, VotesOk. -/
namespace Go.Proofs.Ytdboofnogabefaa
namespace Av
open Go.RowKit
theorem slc_to {fr : Env} {sz i : Nat} {xs : List (List FV)} {x : X} {H : Hp} (hx : ev fr x = I i) (hi : i ≤ xs.length) : slcA fr sz (S sz xs) none (some x) none H = some (.one (S sz (xs.take i)) H) := by
  have h0 : (0 : Int) ≤ (i : Int) := Int.natCast_nonneg i
  simp only [slcA, bnd, hx, if_pos h0, Int.toNat_natCast, Nat.zero_le, hi, and_self, true_and, if_true, List.drop_zero]
theorem map_take' {α : Type} {f : α → List FV} {l : List α} {i : Nat} : (l.map f).take i = (l.take i).map f := by rw [List.map_take]
end Av
end Go.Proofs.Ytdboofnogabefaa
/- The walks: voters. -/
namespace Go.Proofs.Ytdboofnogabefaa
namespace Av
open Go.RowKit
theorem news_ow {H : Hp} {k T sz : Nat} {xs : List (List AC)} (h : H k = some (.arr T sz xs)) : news H (.w (.o (.ow k))) = some xs := by simp only [news, h]
theorem newsz_ow {H : Hp} {k T sz : Nat} {xs : List (List AC)} (h : H k = some (.arr T sz xs)) : newsz H sz (.w (.o (.ow k))) := by simp only [newsz, h]
end Av
end Go.Proofs.Ytdboofnogabefaa
/- The walk: sure. -/
namespace Go.Proofs.Ytdboofnogabefaa
namespace Av
open Go.RowKit
end Av
end Go.Proofs.Ytdboofnogabefaa
/- The walks: Clip, Clone, copied on items. -/
namespace Go.Proofs.Ytdboofnogabefaa
namespace Av
open Go.RowKit
theorem slc_clipS {fr : Env} {sz : Nat} {xs : List (List FV)} {x y : X} {H : Hp} (hx : ev fr x = I xs.length) (hy : ev fr y = I xs.length) : slcA fr sz (S sz xs) none (some x) (some y) H = some (.one (if xs.length = 0 then .w (.o .e0) else S sz xs) H) := by
  have h0 : (0 : Int) ≤ (xs.length : Int) := Int.natCast_nonneg _
  simp only [slcA, bnd, hx, hy, if_pos h0, Int.toNat_natCast, Nat.zero_le, Nat.le_refl, and_self, true_and, if_true, List.drop_zero, List.take_length]
theorem fcells_c (l : List FV) : fcells (l.map AC.c) = some l := by
  induction l with
  | nil => rfl
  | cons a l ih => simp only [List.map_cons, fcells, ih]; rfl
theorem fcellss_c (xs : List (List FV)) : fcellss (xs.map fun x => x.map AC.c) = some xs := by
  induction xs with
  | nil => rfl
  | cons a l ih => simp only [List.map_cons, fcellss, fcells_c, ih]; rfl
theorem bor_ow {H : Hp} {k T sz : Nat} {xs : List (List AC)} {ys : List (List FV)} {sh : Option Nat} (h : H k = some (.arr T sz xs)) (hy : fcellss xs = some ys) : bor H sh (.ow k) = .c (.sl sz ys) := by simp only [bor, h, hy]
theorem v_slices_Clip_ItemS : Valid Try.prog n_slices_Clip_ItemS S_slices_Clip_ItemS := by
  refine valid_of_swp mixed is_slices_Clip_ItemS (by rintro _ ⟨a, rfl, _⟩; exact Nat.le_of_ble_eq_true rfl) ?_
  rintro _ rm ⟨c, rfl, hc⟩ hl
  conv => whnf
  refine ⟨_, slc_clipS (sz := 4) (xs := c.map itF) rfl rfl, ?_⟩
  cases c with
  | nil =>
    conv => whnf
    exact ⟨⟨_, rfl, rfl, [], rfl, rfl⟩, Nat.le_refl _, rfl⟩
  | cons a r =>
    conv => whnf
    exact ⟨⟨_, rfl, rfl, a :: r, rfl, rfl⟩, Nat.le_refl _, rfl⟩
theorem v_slices_Clone_ItemS : Valid Try.prog n_slices_Clone_ItemS S_slices_Clone_ItemS := by
  refine valid_of_swp mixed is_slices_Clone_ItemS (by rintro _ ⟨a, rfl, _⟩; exact Nat.le_of_ble_eq_true rfl) ?_
  rintro _ rm ⟨c, rfl, hc⟩ hl
  conv => whnf
  refine ⟨trivial, hl, ?_⟩
  rintro r ⟨t, rfl, ht⟩
  cases t with
  | true =>
    have hc0 : c = [] := List.map_eq_nil_iff.1 (ht rfl)
    subst hc0
    conv => whnf
    exact ⟨⟨_, rfl, rfl, [], rfl, rfl⟩, Nat.le_refl _, rfl⟩
  | false =>
    conv => whnf
    refine ⟨_, rfl, rfl, [], hupd_at, ?_, ?_⟩
    · simp only [LIM] at hc
      simp
      omega
    · conv => whnf
      exact ⟨⟨[.o (.c (chF c))], congrArg (fun x => some [AW.o x]) (bor_ow hupd_at (fcellss_c (c.map itF))), rfl, c, rfl, rfl⟩, Nat.le_refl _, rfl⟩
theorem v_impl_copied : Valid Try.prog n_impl_copied S_impl_copied := by
  refine valid_of_swp mixed is_impl_copied (by rintro _ ⟨a, rfl, _⟩; exact Nat.le_of_ble_eq_true rfl) ?_
  rintro _ rm ⟨c, rfl, hc⟩ hl
  conv => whnf
  refine ⟨⟨c, rfl, hc⟩, v_slices_Clone_ItemS, .inl rfl, hl, fun r hr => ?_⟩
  have hr' := J_sameC (c := c) hr
  subst hr'
  conv => whnf
  refine ⟨⟨c, rfl, hc⟩, v_slices_Clip_ItemS, .inl rfl, hl, fun r hr => ?_⟩
  have hr' := J_sameC (c := c) hr
  subst hr'
  conv => whnf
  exact ⟨⟨_, rfl, rfl, c, rfl, rfl⟩, Nat.le_refl _, rfl⟩
end Av
end Go.Proofs.Ytdboofnogabefaa
/- The walks: a chain among chains. -/
namespace Go.Proofs.Ytdboofnogabefaa
namespace Av
open Go.RowKit
end Av
end Go.Proofs.Ytdboofnogabefaa
/- The walk: all. -/
namespace Go.Proofs.Ytdboofnogabefaa
namespace Av
open Go.RowKit
abbrev csA (l : List (List It)) : List (List AC) := l.map fun c => [.c (chF c)]
theorem csA_frz (l : List (List It)) : fcellss (csA l) = some (l.map fun c => [chF c]) := by
  have := fcellss_c (l.map fun c => [chF c])
  rwa [List.map_map] at this
theorem l2 {a b c d : AV} (h : a = b) (h' : c = d) : [a, c] = [b, d] := by rw [h, h']
end Av
end Go.Proofs.Ytdboofnogabefaa
/- The walks: tip, TreeLong. -/
namespace Go.Proofs.Ytdboofnogabefaa
namespace Av
open Go.RowKit
end Av
end Go.Proofs.Ytdboofnogabefaa
