/- The walks: the program plays. -/
import Derived.Test.YtfijfccgghhkoaaJ43
set_option linter.unusedVariables false
set_option linter.unusedSimpArgs false
namespace Go.Proofs.Ytfijfccgghhkoaa
namespace Av
open Go.RowKit
def rowsN (i : Nat) : List (List AC) := (List.range i).map fun t : Nat => [cI ((t + 1 : Nat) : Int), cI 0, cI 0, .e0]
theorem rowsN_succ (i : Nat) : rowsN i ++ [[cI ((i + 1 : Nat) : Int), cI 0, cI 0, .e0]] = rowsN (i + 1) := by
  unfold rowsN; rw [List.range_succ, List.map_append]; rfl
theorem finM_new0 {i : Int} {k : Nat} {fr : Env} {H : Hp} {nx rm' lim : Nat} {res : List Rs} {post : AV → List (Option Ob) → Prop} (hrm : rm' ≤ lim) (hk : H k = some (.arr ty_impl_Node 4 (rowsN 4))) (hres : resM [k] fr H res [.g [cI 0, .ow k, .e0, cI i], .o (cB true)])
    (hpost : post (.tup [.g [cI 0, .ow 0, .e0, cI i], .o (cB true)]) [some (.arr ty_impl_Node 4 (rowsN 4))]) :
    rm' ≤ lim ∧ ∃ (ks : List Nat) (az : List AW) (r : AV) (obs' : List (Option Ob)), resM ks fr H res az ∧ resV az = r.ren (nmap ks nx) ∧ post r obs' ∧
      ks.Nodup ∧ (∀ i, i < 0 → ks[i]? = some i) ∧ obs'.length = ks.length ∧
      ∀ (i k : Nat), ks[i]? = some k → (∃ ob : Ob, obs'[i]? = some (some ob) ∧ H k = some (ob.ren (nmap ks nx))) ∨ (obs'[i]? = some none ∧ H k = none) := by
  have e1 : nmap [k] nx 0 = k := nmap_lt (s := 0) rfl
  refine ⟨hrm, [k], _, _, _, hres, ?_, hpost, by simp, fun i hi => absurd hi (Nat.not_lt_zero i), rfl, fun i k' h => .inl ?_⟩
  · show AV.tup [.g [cI 0, .ow k, .e0, cI i], .o (cB true)] = AV.tup [.g [cI 0, .ow (nmap [k] nx 0), .e0, cI i], .o (cB true)]
    rw [e1]
  · match i, h with
    | 0, h => cases h; exact ⟨_, rfl, hk⟩
    | i + 1, h => simp at h
attribute [local irreducible] Valid ValidM
set_option maxHeartbeats 4000000 in
set_option maxRecDepth 100000 in
theorem v_impl_WorldNew : ValidM Try.prog n_impl_WorldNew S_impl_WorldNew := by
  refine validM_of_swp mixed is_impl_WorldNew (by rintro _ _ ⟨a, rfl, _⟩; exact Nat.le_of_ble_eq_true rfl) ?_
  rintro _ _ rm ⟨i, rfl, rfl, hpre⟩ hl
  try dsimp only at hpre
  change swp _ _ _ _ _ 0 _
  have cc_impl_within : S_impl_within.cost = 0 := rfl
  by_cases hb : In i 0 4
  · skip
    repeat' ((conv => whnf); first
      | refine ⟨by decide, ?_⟩
      | refine ⟨_, rfl, ?_⟩
      | refine ⟨rfl, ?_⟩
      | refine ⟨_, ldc_cells hupd_at (Nat.le_of_ble_eq_true rfl), ?_⟩
      | refine ⟨_, ldc_cells (by first | assumption | exact zk ‹_› (by omega) | exact zk (zk ‹_› (by omega)) (by omega)) (Nat.le_of_ble_eq_true rfl), ?_⟩
      | refine ⟨_, _, hupd_at, rfl, rfl, Nat.le_of_ble_eq_true rfl, ?_⟩
      | refine ⟨_, _, rfl, rfl, rfl, Nat.le_of_ble_eq_true rfl, ?_⟩
      | (refine ⟨?_, _, (?_ : (_ : Option Ob) = _), rfl, rfl, ?_, ?_⟩; rotate_left; (exact hk_); exact Nat.le_of_ble_eq_true rfl)
      | refine ⟨_, _, _, _, ((by exact hk_) : (_ : Option Ob) = _), fill_at (by omega), rfl, rfl, Nat.le_of_ble_eq_true rfl, ?_⟩
      | refine ⟨_, _, _, _, ((by exact hk_) : (_ : Option Ob) = _), at_mapA (by assumption), rfl, rfl, Nat.le_of_ble_eq_true rfl, ?_⟩
      | refine ⟨_, ldc_pa (by exact hk_) (at_mapA (by assumption)) (Nat.le_of_ble_eq_true rfl), ?_⟩
      | refine ⟨_, rfl, rfl, _, ((by exact hk_) : (_ : Option Ob) = _), (by exact ap_), ?_⟩
      | refine ⟨_, news_ow hupd_at, newsz_ow hupd_at, _, ((by exact hk_) : (_ : Option Ob) = _), (by exact ap_), ?_⟩
      | refine ⟨_, ((by exact hk_) : (_ : Option Ob) = _), ?_⟩
      | refine ⟨(show _ ≤ _ from (by exact ap_)), ?_⟩
      | (refine ⟨fun hc => ?_, fun hc => ?_⟩ <;> (try simp (disch := omega) only [List.length_map, wrap64] at hc) <;> (try (exfalso; first | contradiction | omega)))
      | (refine ⟨⟨(by omega), (by omega), (by simp only [List.length_map] at *; simp only [LIM] at *; omega), (by simp only [List.length_map] at *; simp only [LIM] at *; omega)⟩, ?_⟩; (try simp only [List.length_map, Int.toNat_natCast]))
      | (refine callt (b := [I _, I _, I _]) v_impl_within rfl ⟨(_, _, _), rfl, (by exact True.intro)⟩ (.inl rfl) (by first | assumption | omega) (fun r hr => K_impl_within (a := (_, _, _)) hr) (fun hj => ?_) (fun hj => ?_) <;> (try simp only [etaPa, etaIt, etaVo] at hj) <;> (try contradiction))
      | fail)
    conv => whnf
    refine ⟨fun fr H nx rm' => ∃ (j k : Nat), Has fr [(2, .w (.o (.ptr 0 0))), (4, .w (.o (.ptr 128 0))), (5, I ((j + 1 : Nat) : Int))] ∧ j ≤ 4 ∧ k < nx ∧ 129 ≤ nx ∧ H k = some (.arr ty_impl_Node 4 (rowsN j)) ∧ H 128 = some (.cells [cI 0, .ow k, .e0, cI i]) ∧ H 0 = some (.cells [cI 0, .e0, .e0, cI 0]) ∧ rm' ≤ rm,
      fun fr _ _ _ => 5 - ix (fr 5), ⟨0, 96, ⟨rfl, rfl, rfl, trivial⟩, by decide, ln_, ln_, hk_, hk_, hk_, (by omega)⟩, ?_⟩
    rintro fr H nx rm' ⟨j, k, hfr, hj, hk, hnx, hHk, hH4, hH0, hrm⟩
    rw [hfr.eq]
    have hk0 : k ≠ 0 ∧ k ≠ 128 := ⟨(fun e => by rw [e, hH0] at hHk; cases hHk), (fun e => by rw [e, hH4] at hHk; cases hHk)⟩
    have hw : IntKind.i64.wrap (((j + 1 : Nat) : Int) + 1) = ((j + 1 + 1 : Nat) : Int) := by rw [wrap64] <;> omega
    have hlr : (rowsN j).length = j := by simp [rowsN]
    rcases Nat.lt_or_ge j 4 with hj' | hj'
    · skip
      repeat' ((conv => whnf); first
        | refine ⟨_, ldc_cells hk_ (Nat.le_of_ble_eq_true rfl), ?_⟩
        | refine ⟨_, news_ow hupd_at, newsz_ow hupd_at, _, (hk_ : (_ : Option Ob) = _), (by rw [hlr]; simp only [List.length_cons, List.length_nil]; omega), ?_⟩
        | refine ⟨_, _, _, _, (hk_ : (_ : Option Ob) = _), rfl, rfl, Nat.le_of_ble_eq_true rfl, ?_⟩
        | refine ⟨_, rfl, ?_⟩
        | refine ⟨rfl, ?_⟩
        | refine ⟨_, ldc_cells hupd_at (Nat.le_of_ble_eq_true rfl), ?_⟩
        | refine ⟨_, ldc_cells (by first | assumption | exact zk ‹_› (by omega) | exact zk (zk ‹_› (by omega)) (by omega)) (Nat.le_of_ble_eq_true rfl), ?_⟩
        | refine ⟨_, _, hupd_at, rfl, rfl, Nat.le_of_ble_eq_true rfl, ?_⟩
        | refine ⟨_, _, rfl, rfl, rfl, Nat.le_of_ble_eq_true rfl, ?_⟩
        | (refine ⟨?_, _, (?_ : (_ : Option Ob) = _), rfl, rfl, ?_, ?_⟩; rotate_left; (exact hk_); exact Nat.le_of_ble_eq_true rfl)
        | refine ⟨_, _, _, _, ((by exact hk_) : (_ : Option Ob) = _), fill_at (by omega), rfl, rfl, Nat.le_of_ble_eq_true rfl, ?_⟩
        | refine ⟨_, _, _, _, ((by exact hk_) : (_ : Option Ob) = _), at_mapA (by assumption), rfl, rfl, Nat.le_of_ble_eq_true rfl, ?_⟩
        | refine ⟨_, ldc_pa (by exact hk_) (at_mapA (by assumption)) (Nat.le_of_ble_eq_true rfl), ?_⟩
        | refine ⟨_, rfl, rfl, _, ((by exact hk_) : (_ : Option Ob) = _), (by exact ap_), ?_⟩
        | refine ⟨_, news_ow hupd_at, newsz_ow hupd_at, _, ((by exact hk_) : (_ : Option Ob) = _), (by exact ap_), ?_⟩
        | refine ⟨_, ((by exact hk_) : (_ : Option Ob) = _), ?_⟩
        | refine ⟨(show _ ≤ _ from (by exact ap_)), ?_⟩
        | (refine ⟨fun hc => ?_, fun hc => ?_⟩ <;> (try simp (disch := omega) only [List.length_map, wrap64] at hc) <;> (try (exfalso; first | contradiction | omega)))
        | (refine ⟨⟨(by omega), (by omega), (by simp only [List.length_map] at *; simp only [LIM] at *; omega), (by simp only [List.length_map] at *; simp only [LIM] at *; omega)⟩, ?_⟩; (try simp only [List.length_map, Int.toNat_natCast]))
        | fail)
      refine ⟨⟨j + 1, nx + 16 + 16 + 16 + 16 + 16 + 16 + 16, ⟨rfl, rfl, congrArg I hw, trivial⟩, hj', (by omega), (by omega), Eq.trans hk_ (congrArg (fun z => some (Ob.arr ty_impl_Node 4 z)) (rowsN_succ j)), hk_, hk_, (by omega)⟩, ?_⟩
      show 5 - ix (I _) < 5 - ix (I _)
      simp only [hw, ix, Int.toNat_natCast]
      omega
    · have hj4 : j = 4 := by omega
      subst hj4
      repeat' ((conv => whnf); first
        | refine ⟨_, ldc_cells hk_ (Nat.le_of_ble_eq_true rfl), ?_⟩
        | refine ⟨_, rfl, ?_⟩
        | refine ⟨rfl, ?_⟩
        | refine ⟨_, ldc_cells hupd_at (Nat.le_of_ble_eq_true rfl), ?_⟩
        | refine ⟨_, ldc_cells (by first | assumption | exact zk ‹_› (by omega) | exact zk (zk ‹_› (by omega)) (by omega)) (Nat.le_of_ble_eq_true rfl), ?_⟩
        | refine ⟨_, _, hupd_at, rfl, rfl, Nat.le_of_ble_eq_true rfl, ?_⟩
        | refine ⟨_, _, rfl, rfl, rfl, Nat.le_of_ble_eq_true rfl, ?_⟩
        | (refine ⟨?_, _, (?_ : (_ : Option Ob) = _), rfl, rfl, ?_, ?_⟩; rotate_left; (exact hk_); exact Nat.le_of_ble_eq_true rfl)
        | refine ⟨_, _, _, _, ((by exact hk_) : (_ : Option Ob) = _), fill_at (by omega), rfl, rfl, Nat.le_of_ble_eq_true rfl, ?_⟩
        | refine ⟨_, _, _, _, ((by exact hk_) : (_ : Option Ob) = _), at_mapA (by assumption), rfl, rfl, Nat.le_of_ble_eq_true rfl, ?_⟩
        | refine ⟨_, ldc_pa (by exact hk_) (at_mapA (by assumption)) (Nat.le_of_ble_eq_true rfl), ?_⟩
        | refine ⟨_, rfl, rfl, _, ((by exact hk_) : (_ : Option Ob) = _), (by exact ap_), ?_⟩
        | refine ⟨_, news_ow hupd_at, newsz_ow hupd_at, _, ((by exact hk_) : (_ : Option Ob) = _), (by exact ap_), ?_⟩
        | refine ⟨_, ((by exact hk_) : (_ : Option Ob) = _), ?_⟩
        | refine ⟨(show _ ≤ _ from (by exact ap_)), ?_⟩
        | (refine ⟨fun hc => ?_, fun hc => ?_⟩ <;> (try simp (disch := omega) only [List.length_map, wrap64] at hc) <;> (try (exfalso; first | contradiction | omega)))
        | (refine ⟨⟨(by omega), (by omega), (by simp only [List.length_map] at *; simp only [LIM] at *; omega), (by simp only [List.length_map] at *; simp only [LIM] at *; omega)⟩, ?_⟩; (try simp only [List.length_map, Int.toNat_natCast]))
        | fail)
      exact finM_new0 (k := k) (by omega) hk_ ⟨⟨_, rfl, .inl rfl⟩, ⟨_, rfl, .inl rfl⟩, trivial⟩ ⟨i, rfl, rfl, .inl ⟨hb, rfl, rfl⟩⟩
  · skip
    repeat' ((conv => whnf); first
      | refine ⟨_, rfl, ?_⟩
      | refine ⟨rfl, ?_⟩
      | refine ⟨_, ldc_cells hupd_at (Nat.le_of_ble_eq_true rfl), ?_⟩
      | refine ⟨_, ldc_cells (by first | assumption | exact zk ‹_› (by omega) | exact zk (zk ‹_› (by omega)) (by omega)) (Nat.le_of_ble_eq_true rfl), ?_⟩
      | refine ⟨_, _, hupd_at, rfl, rfl, Nat.le_of_ble_eq_true rfl, ?_⟩
      | refine ⟨_, _, rfl, rfl, rfl, Nat.le_of_ble_eq_true rfl, ?_⟩
      | (refine ⟨?_, _, (?_ : (_ : Option Ob) = _), rfl, rfl, ?_, ?_⟩; rotate_left; (exact hk_); exact Nat.le_of_ble_eq_true rfl)
      | refine ⟨_, _, _, _, ((by exact hk_) : (_ : Option Ob) = _), fill_at (by omega), rfl, rfl, Nat.le_of_ble_eq_true rfl, ?_⟩
      | refine ⟨_, _, _, _, ((by exact hk_) : (_ : Option Ob) = _), at_mapA (by assumption), rfl, rfl, Nat.le_of_ble_eq_true rfl, ?_⟩
      | refine ⟨_, ldc_pa (by exact hk_) (at_mapA (by assumption)) (Nat.le_of_ble_eq_true rfl), ?_⟩
      | refine ⟨_, rfl, rfl, _, ((by exact hk_) : (_ : Option Ob) = _), (by exact ap_), ?_⟩
      | refine ⟨_, news_ow hupd_at, newsz_ow hupd_at, _, ((by exact hk_) : (_ : Option Ob) = _), (by exact ap_), ?_⟩
      | refine ⟨_, ((by exact hk_) : (_ : Option Ob) = _), ?_⟩
      | refine ⟨(show _ ≤ _ from (by exact ap_)), ?_⟩
      | (refine ⟨fun hc => ?_, fun hc => ?_⟩ <;> (try simp (disch := omega) only [List.length_map, wrap64] at hc) <;> (try (exfalso; first | contradiction | omega)))
      | (refine ⟨⟨(by omega), (by omega), (by simp only [List.length_map] at *; simp only [LIM] at *; omega), (by simp only [List.length_map] at *; simp only [LIM] at *; omega)⟩, ?_⟩; (try simp only [List.length_map, Int.toNat_natCast]))
      | (refine callt (b := [I _, I _, I _]) v_impl_within rfl ⟨(_, _, _), rfl, (by exact True.intro)⟩ (.inl rfl) (by first | assumption | omega) (fun r hr => K_impl_within (a := (_, _, _)) hr) (fun hj => ?_) (fun hj => ?_) <;> (try simp only [etaPa, etaIt, etaVo] at hj) <;> (try contradiction))
      | fail)
    exact ⟨by omega, [], [.g [cI 0, .e0, .e0, cI 0], .o (cB false)], .tup [.g [cI 0, .e0, .e0, cI 0], .o (cB false)], [], ⟨⟨_, rfl, .inl rfl⟩, ⟨_, rfl, .inl rfl⟩, trivial⟩, rfl, ⟨i, rfl, rfl, .inr ⟨hb, rfl, rfl⟩⟩, List.nodup_nil, fun i hi => absurd hi (Nat.not_lt_zero i), rfl, fun i k h => by simp at h⟩
theorem v_WorldNew_s : ValidM Try.prog n_impl_WorldNew S_impl_WorldNew_s := newI_of_0 v_impl_WorldNew
end Av
end Go.Proofs.Ytfijfccgghhkoaa
