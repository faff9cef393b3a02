/- The walks: drawn payments and chains. -/
import Derived.Test.YtmboljfckljjhaaK0
set_option linter.unusedVariables false
set_option linter.unusedSimpArgs false
namespace Go.Proofs.Ytmboljfckljjhaa
namespace Av
open Go.RowKit

theorem cost_pick : S_spec_l6Rd_pick.cost = 1 := rfl
theorem cost_Pay : S_spec_l71Pay.cost = 10 := rfl
theorem cost_AnyPay : S_spec_l71AnyPay.cost = 20 := rfl
theorem cost_Chain : S_spec_l71Chain.cost = 100 := rfl
theorem cost_Off : S_spec_l71Off.cost = 200 := rfl

attribute [local irreducible] Valid ValidM
set_option maxHeartbeats 4000000 in
set_option maxRecDepth 100000 in
theorem v_spec_l71Pay : Valid Try.prog n_spec_l71Pay S_spec_l71Pay := by
  refine valid_of_swp mixed is_spec_l71Pay (by rintro _ ⟨a, rfl, _⟩; exact Nat.le_of_ble_eq_true rfl) ?_
  rintro _ rm ⟨b, rfl, hpre⟩ hl
  try dsimp only at hpre
  generalize hE : entH _ = H0
  have hH : H0 0 = some (.rd (byF b)) := by rw [← hE]; rfl
  have hpre0 := hpre
  have hp1 := hpre
  have h1 := cost_pick
  have h2 := cost_Pay
  repeat' ((conv => whnf); first
    | refine ⟨_, rfl, ?_⟩
    | refine ⟨rfl, ?_⟩
    | refine ⟨_, _, hupd_at, rfl, rfl, Nat.le_of_ble_eq_true rfl, ?_⟩
    | refine ⟨_, _, rfl, rfl, rfl, Nat.le_of_ble_eq_true rfl, ?_⟩
    | refine ⟨(show _ ≠ _ from (by first | decide | omega)), ?_⟩
    | (refine ⟨fun hc => ?_, fun hc => ?_⟩ <;> (try simp (disch := omega) only [List.length_map, wrap64] at hc))
    | (refine callrd (by exact hk_) rfl rfl ⟨(_, _), rfl, (by exact pr_)⟩ v_spec_l6Rd_pick (by omega) (fun r hr => ?_); have hj := K_spec_l6Rd_pick (a := (_, _)) hr; clear hr; obtain ⟨k, rfl, hk0, hk1⟩ := hj; dsimp only at hk1; (try simp (disch := omega) only [List.length_map, ncast, wrap64] at hk1))
    | exact ⟨⟨_, rfl, rfl, b, rfl, (by unfold R_spec_l71Pay; dsimp only; first | done | exact absurd True.intro hj | (exact ⟨⟨_, _, _⟩, rfl⟩))⟩, (by first | exact Nat.le_refl _ | omega), (by exact h0_)⟩
    | fail)
set_option maxHeartbeats 4000000 in
set_option maxRecDepth 100000 in
theorem v_spec_l71AnyPay : Valid Try.prog n_spec_l71AnyPay S_spec_l71AnyPay := by
  refine valid_of_swp mixed is_spec_l71AnyPay (by rintro _ ⟨a, rfl, _⟩; exact Nat.le_of_ble_eq_true rfl) ?_
  rintro _ rm ⟨b, rfl, hpre⟩ hl
  try dsimp only at hpre
  generalize hE : entH _ = H0
  have hH : H0 0 = some (.rd (byF b)) := by rw [← hE]; rfl
  have hpre0 := hpre
  have hp1 := hpre
  have h1 := cost_pick
  have h2 := cost_Pay
  have h3 := cost_AnyPay
  repeat' ((conv => whnf); first
    | refine ⟨_, rfl, ?_⟩
    | refine ⟨rfl, ?_⟩
    | refine ⟨_, _, rfl, at_map (by assumption), ?_⟩
    | refine idx_mapX (i := 0) rfl (by assumption) ?_
    | refine idx_map (by omega) (fun x hx => ?_)
    | refine idx_mapX (wrap_dn (by omega) (by omega)) (by assumption) ?_
    | refine idx_mapE (wrap_dn (by omega) (by omega)) (by omega) (fun x hx => ?_)
    | refine idx_mapL (by omega) (by first | assumption | (simp only [LIM]; omega)) (fun x hx => ?_)
    | refine idx_mapI (by omega) (by first | omega | (simp only [List.length_map] at *; omega)) (fun x hx => ?_)
    | refine ⟨_, ldc_cells hupd_at (Nat.le_of_ble_eq_true rfl), ?_⟩
    | refine ⟨_, ldc_cells (by first | assumption | exact zk ‹_› (by omega) | exact zk (zk ‹_› (by omega)) (by omega)) (Nat.le_of_ble_eq_true rfl), ?_⟩
    | refine ⟨_, _, hupd_at, rfl, rfl, Nat.le_of_ble_eq_true rfl, ?_⟩
    | refine ⟨_, _, rfl, rfl, rfl, Nat.le_of_ble_eq_true rfl, ?_⟩
    | (refine ⟨?_, _, (?_ : (_ : Option Ob) = _), rfl, rfl, ?_, ?_⟩; rotate_left; (exact hk_); exact Nat.le_of_ble_eq_true rfl)
    | refine ⟨_, _, _, _, ((by exact hk_) : (_ : Option Ob) = _), rfl, at_mapA (by assumption), ?_⟩
    | refine idx_ow (by exact hk_) (by omega) (fun x hx => ?_)
    | refine ⟨_, _, _, _, ((by exact hk_) : (_ : Option Ob) = _), rfl, fill_at (by omega), ?_⟩
    | refine ⟨_, _, _, _, ((by exact hk_) : (_ : Option Ob) = _), fill_at (by omega), rfl, rfl, Nat.le_of_ble_eq_true rfl, ?_⟩
    | refine idx_owL (by exact hk_) (by omega) (by simp only [LIM]; omega) (fun x hx => ?_)
    | refine idx_owI (by exact hk_) (by omega) (by first | omega | (simp only [List.length_map] at *; omega)) (fun x hx => ?_)
    | refine ⟨_, _, _, _, ((by exact hk_) : (_ : Option Ob) = _), at_mapA (by assumption), rfl, rfl, Nat.le_of_ble_eq_true rfl, ?_⟩
    | refine ⟨_, ldc_pa (by exact hk_) (at_mapA (by assumption)) (Nat.le_of_ble_eq_true rfl), ?_⟩
    | refine ⟨_, ((by exact hk_) : (_ : Option Ob) = _), ?_⟩
    | (refine ⟨fun hc => ?_, fun hc => ?_⟩ <;> (try simp (disch := omega) only [List.length_map, wrap64] at hc))
    | refine idx_ints (l := [0, 10]) hupd_at (by omega) (by simp only [List.length_cons, List.length_nil]; omega) (fun j y hjy hy => ?_)
    | refine idx_ints (l := [0, 4]) hupd_at (by omega) (by simp only [List.length_cons, List.length_nil]; omega) (fun j y hjy hy => ?_)
    | refine idx_ints (l := [0, 30, 31]) hupd_at (by omega) (by simp only [List.length_cons, List.length_nil]; omega) (fun j y hjy hy => ?_)
    | refine idx_ints (l := [0, 5]) hupd_at (by omega) (by simp only [List.length_cons, List.length_nil]; omega) (fun j y hjy hy => ?_)
    | refine ⟨_, ldc_pa (xs := ([0, 10] : List Int).map fun n => [cI n]) hupd_at (at_mapA (by assumption)) (Nat.le_of_ble_eq_true rfl), ?_⟩
    | refine ⟨_, ldc_pa (xs := ([0, 4] : List Int).map fun n => [cI n]) hupd_at (at_mapA (by assumption)) (Nat.le_of_ble_eq_true rfl), ?_⟩
    | refine ⟨_, ldc_pa (xs := ([0, 30, 31] : List Int).map fun n => [cI n]) hupd_at (at_mapA (by assumption)) (Nat.le_of_ble_eq_true rfl), ?_⟩
    | refine ⟨_, ldc_pa (xs := ([0, 5] : List Int).map fun n => [cI n]) hupd_at (at_mapA (by assumption)) (Nat.le_of_ble_eq_true rfl), ?_⟩
    | (refine callrd (by exact hk_) rfl rfl ⟨(_, _), rfl, (by exact pr_)⟩ v_spec_l6Rd_pick (by omega) (fun r hr => ?_); have hj := K_spec_l6Rd_pick (a := (_, _)) hr; clear hr; obtain ⟨k, rfl, hk0, hk1⟩ := hj; dsimp only at hk1; (try simp (disch := omega) only [List.length_map, ncast, wrap64] at hk1))
    | (refine callrd (by exact hk_) rfl rfl ⟨_, rfl, (by exact pr_)⟩ v_spec_l71Pay (by omega) (fun r hr => ?_); have hj := K_spec_l71Pay (a := _) hr; clear hr; obtain ⟨p, rfl⟩ := hj)
    | exact ⟨⟨_, rfl, rfl, b, rfl, (by unfold R_spec_l71AnyPay; dsimp only; first | done | exact absurd True.intro hj | (first | exact ⟨⟨_, _, _⟩, rfl⟩ | exact ⟨⟨p.f, p.f, p.s⟩, rfl⟩ | exact ⟨⟨p.f, p.t, y⟩, rfl⟩ | exact ⟨⟨y, p.t, p.s⟩, rfl⟩))⟩, (by first | exact Nat.le_refl _ | omega), (by exact h0_)⟩
    | fail)

theorem v_spec_l71Chain : ValidM Try.prog n_spec_l71Chain S_spec_l71Chain := by
  refine validM_of_swp mixed is_spec_l71Chain (by rintro _ _ ⟨a, rfl, _⟩; exact Nat.le_of_ble_eq_true rfl) ?_
  rintro _ _ rm ⟨b, rfl, rfl, hb⟩ hl
  change swp _ _ _ _ _ 1 _
  have h1 := cost_pick
  have h2 := cost_Pay
  have h3 := cost_Chain
  repeat' ((conv => whnf); first
    | refine ⟨_, rfl, ?_⟩
    | refine ⟨rfl, ?_⟩
    | refine ⟨_, rfl, rfl, _, ((by exact hk_) : (_ : Option Ob) = _), (by exact ap_), ?_⟩
    | refine ⟨_, news_ow hupd_at, newsz_ow hupd_at, _, ((by exact hk_) : (_ : Option Ob) = _), (by exact ap_), ?_⟩
    | refine ⟨_, ((by exact hk_) : (_ : Option Ob) = _), ?_⟩
    | refine ⟨(show _ ≠ _ from (by first | decide | omega)), ?_⟩
    | refine ⟨(show _ ≤ _ from (by exact ap_)), ?_⟩
    | (refine ⟨fun hc => ?_, fun hc => ?_⟩ <;> (try simp (disch := omega) only [List.length_map, wrap64] at hc))
    | (refine callrd (by exact hk_) rfl rfl ⟨(_, _), rfl, (by exact pr_)⟩ v_spec_l6Rd_pick (by omega) (fun r hr => ?_); have hj := K_spec_l6Rd_pick (a := (_, _)) hr; clear hr; obtain ⟨k, rfl, hk0, hk1⟩ := hj; dsimp only at hk1; (try simp (disch := omega) only [List.length_map, ncast, wrap64] at hk1))
    | fail)
  conv => whnf
  refine ⟨fun fr H nx rm' => ∃ (n a : Int) (k : Nat) (c : List It), Has fr [(0, pt0), (3, .w (.o (.ow k))), (4, I a), (5, I n)] ∧ 0 ≤ n ∧ (c.length : Int) + n ≤ 6 ∧ H k = some (itO c) ∧ 1 ≤ k ∧ k < nx ∧ H 0 = some (rdO b) ∧ (rm' : Int) + 15 * n ≤ rm + 91,
    fun fr _ _ _ => ix (fr 5), ⟨k, 0, _, [], ⟨rfl, rfl, rfl, rfl, trivial⟩, hk0, by simp; omega, hupd_at, by decide, by decide, rfl, by omega⟩, ?_⟩
  rintro fr H nx rm' ⟨n, a, k, c, hfr, hn, hc6, hk, hk1', hkn, hH, hrm⟩
  rw [hfr.eq]
  have hwn : 0 < n → IntKind.i64.wrap (n - 1) = n - 1 := fun h => by rw [wrap64] <;> omega
  repeat' ((conv => whnf); first
    | refine ⟨_, rfl, ?_⟩
    | refine ⟨rfl, ?_⟩
    | refine ⟨_, rfl, rfl, _, ((by exact hk_) : (_ : Option Ob) = _), (by exact ap_), ?_⟩
    | refine ⟨_, news_ow hupd_at, newsz_ow hupd_at, _, ((by exact hk_) : (_ : Option Ob) = _), (by exact ap_), ?_⟩
    | refine ⟨_, ((by exact hk_) : (_ : Option Ob) = _), ?_⟩
    | refine ⟨(show _ ≠ _ from (by first | decide | omega)), ?_⟩
    | refine ⟨(show _ ≤ _ from (by exact ap_)), ?_⟩
    | (refine ⟨fun hc => ?_, fun hc => ?_⟩ <;> (try simp (disch := omega) only [List.length_map, wrap64] at hc))
    | (refine callrd (by exact hk_) rfl rfl ⟨(_, _), rfl, (by exact pr_)⟩ v_spec_l6Rd_pick (by omega) (fun r hr => ?_); have hj := K_spec_l6Rd_pick (a := (_, _)) hr; clear hr; obtain ⟨k, rfl, hk0, hk1⟩ := hj; dsimp only at hk1; (try simp (disch := omega) only [List.length_map, ncast, wrap64] at hk1))
    | (refine callrd (by exact hk_) rfl rfl ⟨_, rfl, (by exact pr_)⟩ v_spec_l71Pay (by omega) (fun r hr => ?_); have hj := K_spec_l71Pay (a := _) hr; clear hr; obtain ⟨p, rfl⟩ := hj)
    | (refine ⟨⟨n - 1, _, _, c ++ [⟨_, p⟩], ⟨rfl, rfl, rfl, congrArg I (hwn (by omega)), trivial⟩, (by omega), (by simp only [List.length_append, List.length_cons, List.length_nil]; omega), hupd_at.trans (arr_snoc rfl), (by omega), (by (try simp only [List.length_cons, List.length_nil]); omega), (by (repeat (refine zk ?_ (by first | omega | decide | (simp only [List.length_cons, List.length_nil]; omega)))); assumption), (by omega)⟩, (by show ix (I _) < ix (I _); rw [hwn (by omega)]; simp only [ix]; omega)⟩)
    | (exact finM_rd (by omega) hH hk hk1' ⟨⟨_, rfl, .inl rfl⟩, trivial⟩ ⟨b, rfl, rfl, c, rfl, rfl, (by omega)⟩)
    | fail)

set_option maxHeartbeats 4000000 in
set_option maxRecDepth 100000 in
theorem v_spec_l71Off : ValidM Try.prog n_spec_l71Off S_spec_l71Off := by
  refine validM_of_swp mixed is_spec_l71Off (by rintro _ _ ⟨a, rfl, _⟩; exact Nat.le_of_ble_eq_true rfl) ?_
  rintro _ _ rm ⟨b, rfl, rfl, hpre⟩ hl
  try dsimp only at hpre
  change swp _ _ _ _ _ 1 _
  have h1 := cost_pick
  have h2 := cost_AnyPay
  have h3 := cost_Chain
  have h4 := cost_Off
  repeat' ((conv => whnf); first
    | refine ⟨_, rfl, ?_⟩
    | refine ⟨rfl, ?_⟩
    | refine ⟨_, _, rfl, at_map (by assumption), ?_⟩
    | refine idx_mapX (i := 0) rfl (by assumption) ?_
    | refine idx_map (by omega) (fun x hx => ?_)
    | refine idx_mapX (wrap_dn (by omega) (by omega)) (by assumption) ?_
    | refine idx_mapE (wrap_dn (by omega) (by omega)) (by omega) (fun x hx => ?_)
    | refine idx_mapL (by omega) (by first | assumption | (simp only [LIM]; omega)) (fun x hx => ?_)
    | refine idx_mapI (by omega) (by first | omega | (simp only [List.length_map] at *; omega)) (fun x hx => ?_)
    | refine ⟨_, ldc_cells hupd_at (Nat.le_of_ble_eq_true rfl), ?_⟩
    | refine ⟨_, ldc_cells (by first | assumption | exact zk ‹_› (by omega) | exact zk (zk ‹_› (by omega)) (by omega)) (Nat.le_of_ble_eq_true rfl), ?_⟩
    | refine ⟨_, _, hupd_at, rfl, rfl, Nat.le_of_ble_eq_true rfl, ?_⟩
    | refine ⟨_, _, rfl, rfl, rfl, Nat.le_of_ble_eq_true rfl, ?_⟩
    | (refine ⟨?_, _, (?_ : (_ : Option Ob) = _), rfl, rfl, ?_, ?_⟩; rotate_left; (exact hk_); exact Nat.le_of_ble_eq_true rfl)
    | refine ⟨_, _, _, _, ((by exact hk_) : (_ : Option Ob) = _), rfl, at_mapA (by assumption), ?_⟩
    | refine idx_ow (by exact hk_) (by omega) (fun x hx => ?_)
    | refine ⟨_, _, _, _, ((by exact hk_) : (_ : Option Ob) = _), rfl, fill_at (by omega), ?_⟩
    | refine ⟨_, _, _, _, ((by exact hk_) : (_ : Option Ob) = _), fill_at (by omega), rfl, rfl, Nat.le_of_ble_eq_true rfl, ?_⟩
    | refine idx_owL (by exact hk_) (by omega) (by simp only [LIM]; omega) (fun x hx => ?_)
    | refine idx_owI (by exact hk_) (by omega) (by first | omega | (simp only [List.length_map] at *; omega)) (fun x hx => ?_)
    | refine ⟨_, _, _, _, ((by exact hk_) : (_ : Option Ob) = _), at_mapA (by assumption), rfl, rfl, Nat.le_of_ble_eq_true rfl, ?_⟩
    | refine ⟨_, ldc_pa (by exact hk_) (at_mapA (by assumption)) (Nat.le_of_ble_eq_true rfl), ?_⟩
    | refine ⟨_, rfl, rfl, _, ((by exact hk_) : (_ : Option Ob) = _), (by exact ap_), ?_⟩
    | refine ⟨_, news_ow hupd_at, newsz_ow hupd_at, _, ((by exact hk_) : (_ : Option Ob) = _), (by exact ap_), ?_⟩
    | refine ⟨_, _, _, ((by exact hk_) : (_ : Option Ob) = _), ?_⟩
    | refine ⟨_, ((by exact hk_) : (_ : Option Ob) = _), ?_⟩
    | refine ⟨(show _ ≤ _ from (by exact ap_)), ?_⟩
    | (refine ⟨fun hc => ?_, fun hc => ?_⟩ <;> (try simp (disch := omega) only [List.length_map, wrap64] at hc))
    | refine idx_ints (l := [0, 10]) hupd_at (by omega) (by simp only [List.length_cons, List.length_nil]; omega) (fun j y hjy hy => ?_)
    | refine idx_ints (l := [0, 4]) hupd_at (by omega) (by simp only [List.length_cons, List.length_nil]; omega) (fun j y hjy hy => ?_)
    | refine idx_ints (l := [0, 30, 31]) hupd_at (by omega) (by simp only [List.length_cons, List.length_nil]; omega) (fun j y hjy hy => ?_)
    | refine idx_ints (l := [0, 5]) hupd_at (by omega) (by simp only [List.length_cons, List.length_nil]; omega) (fun j y hjy hy => ?_)
    | refine ⟨_, ldc_pa (xs := ([0, 10] : List Int).map fun n => [cI n]) hupd_at (at_mapA (by assumption)) (Nat.le_of_ble_eq_true rfl), ?_⟩
    | refine ⟨_, ldc_pa (xs := ([0, 4] : List Int).map fun n => [cI n]) hupd_at (at_mapA (by assumption)) (Nat.le_of_ble_eq_true rfl), ?_⟩
    | refine ⟨_, ldc_pa (xs := ([0, 30, 31] : List Int).map fun n => [cI n]) hupd_at (at_mapA (by assumption)) (Nat.le_of_ble_eq_true rfl), ?_⟩
    | refine ⟨_, ldc_pa (xs := ([0, 5] : List Int).map fun n => [cI n]) hupd_at (at_mapA (by assumption)) (Nat.le_of_ble_eq_true rfl), ?_⟩
    | (refine mq_rd (F := itF) (Q := fun c => c.length ≤ 6) v_spec_l71Chain (by omega) (by exact hk_) rfl ⟨_, rfl, rfl, (by assumption)⟩ (fun r obs' h => rdItM_post h) (fun c hc => ?_))
    | (refine callrd (by exact hk_) rfl rfl ⟨(_, _), rfl, (by exact pr_)⟩ v_spec_l6Rd_pick (by omega) (fun r hr => ?_); have hj := K_spec_l6Rd_pick (a := (_, _)) hr; clear hr; obtain ⟨k, rfl, hk0, hk1⟩ := hj; dsimp only at hk1; (try simp (disch := omega) only [List.length_map, ncast, wrap64] at hk1))
    | (refine callrd (by exact hk_) rfl rfl ⟨_, rfl, (by exact pr_)⟩ v_spec_l71AnyPay (by omega) (fun r hr => ?_); have hj := K_spec_l71AnyPay (a := _) hr; clear hr; obtain ⟨p, rfl⟩ := hj)
    | (exact finM_rd (by omega) ne_ (ne_) ln_ ⟨⟨_, rfl, .inl rfl⟩, trivial⟩ ⟨b, rfl, rfl, c, rfl, rfl, (by first | omega | (simp only [List.length_append, List.length_set, List.length_cons, List.length_nil]; omega))⟩)
    | (exact finM_rd (by omega) ne_ (hupd_at.trans (arr_snoc (l := c) (x := ⟨_, p⟩) rfl)) ln_ ⟨⟨_, rfl, .inl rfl⟩, trivial⟩ ⟨b, rfl, rfl, c ++ [⟨_, p⟩], rfl, rfl, (by first | omega | (simp only [List.length_append, List.length_set, List.length_cons, List.length_nil]; omega))⟩)
    | (exact finM_rd (by omega) ne_ (hupd_at.trans (arr_set (l := c) (x := ⟨y, x.p⟩) rfl)) ln_ ⟨⟨_, rfl, .inl rfl⟩, trivial⟩ ⟨b, rfl, rfl, c.set _ ⟨y, x.p⟩, rfl, rfl, (by first | omega | (simp only [List.length_append, List.length_set, List.length_cons, List.length_nil]; omega))⟩)
    | (exact finM_rd (by omega) ne_ (hupd_at.trans (arr_set (l := c) (x := ⟨x.e, p⟩) rfl)) ln_ ⟨⟨_, rfl, .inl rfl⟩, trivial⟩ ⟨b, rfl, rfl, c.set _ ⟨x.e, p⟩, rfl, rfl, (by first | omega | (simp only [List.length_append, List.length_set, List.length_cons, List.length_nil]; omega))⟩)
    | fail)
end Av
end Go.Proofs.Ytmboljfckljjhaa
