/- The walks: the program plays. -/
import Derived.Test.YtfijfccgghhkoaaJ51
set_option linter.unusedVariables false
set_option linter.unusedSimpArgs false
namespace Go.Proofs.Ytfijfccgghhkoaa
namespace Av
open Go.RowKit
def rowsN (i : Nat) : List (List AC) := (List.range i).map fun t : Nat => [cI ((t + 1 : Nat) : Int), cI 0, cI 0, .e0]
theorem rowsN_succ (i : Nat) : rowsN i ++ [[cI ((i + 1 : Nat) : Int), cI 0, cI 0, .e0]] = rowsN (i + 1) := by
  unfold rowsN; rw [List.range_succ, List.map_append]; rfl
theorem finM_new0 {i : Int} {k : Nat} {fr : Env} {H : Hp} {nx rm' lim : Nat} {res : List Rs} {post : AV → List (Option Ob) → Prop} (hrm : rm' ≤ lim) (hk : H k = some (.arr ty_impl_Node 4 (rowsN 4))) (hres : resM [k] fr H res [.g [cI 0, .ow k, .e0, cI i], .o (cB true)])
    (hpost : post (.tup [.g [cI 0, .ow 0, .e0, cI i], .o (cB true)]) [some (.arr ty_impl_Node 4 (rowsN 4))]) :
    rm' ≤ lim ∧ ∃ (ks : List Nat) (az : List AW) (r : AV) (obs' : List (Option Ob)), resM ks fr H res az ∧ resV az = r.ren (nmap ks nx) ∧ post r obs' ∧
      ks.Nodup ∧ (∀ i, i < 0 → ks[i]? = some i) ∧ obs'.length = ks.length ∧
      ∀ (i k : Nat), ks[i]? = some k → (∃ ob : Ob, obs'[i]? = some (some ob) ∧ H k = some (ob.ren (nmap ks nx))) ∨ (obs'[i]? = some none ∧ H k = none) := by
  have e1 : nmap [k] nx 0 = k := nmap_lt (s := 0) rfl
  refine ⟨hrm, [k], _, _, _, hres, ?_, hpost, by simp, fun i hi => absurd hi (Nat.not_lt_zero i), rfl, fun i k' h => .inl ?_⟩
  · show AV.tup [.g [cI 0, .ow k, .e0, cI i], .o (cB true)] = AV.tup [.g [cI 0, .ow (nmap [k] nx 0), .e0, cI i], .o (cB true)]
    rw [e1]
  · match i, h with
    | 0, h => cases h; exact ⟨_, rfl, hk⟩
    | i + 1, h => simp at h
attribute [local irreducible] Valid ValidM
set_option maxHeartbeats 4000000 in
set_option maxRecDepth 100000 in
theorem v_impl_WorldNew : ValidM Try.prog n_impl_WorldNew S_impl_WorldNew := by
  refine validM_of_swp mixed is_impl_WorldNew (by rintro _ _ ⟨a, rfl, _⟩; exact Nat.le_of_ble_eq_true rfl) ?_
  rintro _ _ rm ⟨i, rfl, rfl, hpre⟩ hl
  try dsimp only at hpre
  change swp _ _ _ _ _ 0 _
  have cc_impl_within : S_impl_within.cost = 0 := rfl
  by_cases hb : In i 0 4
  · skip
    repeat' ((conv => whnf); first
      | refine ⟨by decide, ?_⟩
      | refine ⟨_, rfl, ?_⟩
      | refine ⟨rfl, ?_⟩
      | refine ⟨_, ldc_cells hupd_at (Nat.le_of_ble_eq_true rfl), ?_⟩
      | refine ⟨_, ldc_cells (by first | assumption | exact zk ‹_› (by omega) | exact zk (zk ‹_› (by omega)) (by omega)) (Nat.le_of_ble_eq_true rfl), ?_⟩
      | refine ⟨_, _, hupd_at, rfl, rfl, Nat.le_of_ble_eq_true rfl, ?_⟩
      | refine ⟨_, _, rfl, rfl, rfl, Nat.le_of_ble_eq_true rfl, ?_⟩
      | (refine ⟨?_, _, (?_ : (_ : Option Ob) = _), rfl, rfl, ?_, ?_⟩; rotate_left; (exact hk_); exact Nat.le_of_ble_eq_true rfl)
      | refine ⟨_, _, _, _, ((by exact hk_) : (_ : Option Ob) = _), fill_at (by omega), rfl, rfl, Nat.le_of_ble_eq_true rfl, ?_⟩
      | refine ⟨_, _, _, _, ((by exact hk_) : (_ : Option Ob) = _), at_mapA (by assumption), rfl, rfl, Nat.le_of_ble_eq_true rfl, ?_⟩
      | refine ⟨_, ldc_pa (by exact hk_) (at_mapA (by assumption)) (Nat.le_of_ble_eq_true rfl), ?_⟩
      | refine ⟨_, rfl, rfl, _, ((by exact hk_) : (_ : Option Ob) = _), (by exact ap_), ?_⟩
      | refine ⟨_, news_ow hupd_at, newsz_ow hupd_at, _, ((by exact hk_) : (_ : Option Ob) = _), (by exact ap_), ?_⟩
      | refine ⟨_, ((by exact hk_) : (_ : Option Ob) = _), ?_⟩
      | refine ⟨(show _ ≤ _ from (by exact ap_)), ?_⟩
      | (refine ⟨fun hc => ?_, fun hc => ?_⟩ <;> (try simp (disch := omega) only [List.length_map, wrap64] at hc) <;> (try (exfalso; first | contradiction | omega)))
      | (refine ⟨⟨(by omega), (by omega), (by simp only [List.length_map] at *; simp only [LIM] at *; omega), (by simp only [List.length_map] at *; simp only [LIM] at *; omega)⟩, ?_⟩; (try simp only [List.length_map, Int.toNat_natCast]))
      | (refine callt (b := [I _, I _, I _]) v_impl_within rfl ⟨(_, _, _), rfl, (by exact True.intro)⟩ (.inl rfl) (by first | assumption | omega) (fun r hr => K_impl_within (a := (_, _, _)) hr) (fun hj => ?_) (fun hj => ?_) <;> (try simp only [etaPa, etaIt, etaVo] at hj) <;> (try contradiction))
      | fail)
    conv => whnf
    refine ⟨fun fr H nx rm' => ∃ (j k : Nat), Has fr [(2, .w (.o (.ptr 0 0))), (4, .w (.o (.ptr 128 0))), (5, I ((j + 1 : Nat) : Int))] ∧ j ≤ 4 ∧ k < nx ∧ 129 ≤ nx ∧ H k = some (.arr ty_impl_Node 4 (rowsN j)) ∧ H 128 = some (.cells [cI 0, .ow k, .e0, cI i]) ∧ H 0 = some (.cells [cI 0, .e0, .e0, cI 0]) ∧ rm' ≤ rm,
      fun fr _ _ _ => 5 - ix (fr 5), ⟨0, 96, ⟨rfl, rfl, rfl, trivial⟩, by decide, ln_, ln_, hk_, hk_, hk_, (by omega)⟩, ?_⟩
    rintro fr H nx rm' ⟨j, k, hfr, hj, hk, hnx, hHk, hH4, hH0, hrm⟩
    rw [hfr.eq]
    have hk0 : k ≠ 0 ∧ k ≠ 128 := ⟨(fun e => by rw [e, hH0] at hHk; cases hHk), (fun e => by rw [e, hH4] at hHk; cases hHk)⟩
    have hw : IntKind.i64.wrap (((j + 1 : Nat) : Int) + 1) = ((j + 1 + 1 : Nat) : Int) := by rw [wrap64] <;> omega
    have hlr : (rowsN j).length = j := by simp [rowsN]
    rcases Nat.lt_or_ge j 4 with hj' | hj'
    · skip
      repeat' ((conv => whnf); first
        | refine ⟨_, ldc_cells hk_ (Nat.le_of_ble_eq_true rfl), ?_⟩
        | refine ⟨_, news_ow hupd_at, newsz_ow hupd_at, _, (hk_ : (_ : Option Ob) = _), (by rw [hlr]; simp only [List.length_cons, List.length_nil]; omega), ?_⟩
        | refine ⟨_, _, _, _, (hk_ : (_ : Option Ob) = _), rfl, rfl, Nat.le_of_ble_eq_true rfl, ?_⟩
        | refine ⟨_, rfl, ?_⟩
        | refine ⟨rfl, ?_⟩
        | refine ⟨_, ldc_cells hupd_at (Nat.le_of_ble_eq_true rfl), ?_⟩
        | refine ⟨_, ldc_cells (by first | assumption | exact zk ‹_› (by omega) | exact zk (zk ‹_› (by omega)) (by omega)) (Nat.le_of_ble_eq_true rfl), ?_⟩
        | refine ⟨_, _, hupd_at, rfl, rfl, Nat.le_of_ble_eq_true rfl, ?_⟩
        | refine ⟨_, _, rfl, rfl, rfl, Nat.le_of_ble_eq_true rfl, ?_⟩
        | (refine ⟨?_, _, (?_ : (_ : Option Ob) = _), rfl, rfl, ?_, ?_⟩; rotate_left; (exact hk_); exact Nat.le_of_ble_eq_true rfl)
        | refine ⟨_, _, _, _, ((by exact hk_) : (_ : Option Ob) = _), fill_at (by omega), rfl, rfl, Nat.le_of_ble_eq_true rfl, ?_⟩
        | refine ⟨_, _, _, _, ((by exact hk_) : (_ : Option Ob) = _), at_mapA (by assumption), rfl, rfl, Nat.le_of_ble_eq_true rfl, ?_⟩
        | refine ⟨_, ldc_pa (by exact hk_) (at_mapA (by assumption)) (Nat.le_of_ble_eq_true rfl), ?_⟩
        | refine ⟨_, rfl, rfl, _, ((by exact hk_) : (_ : Option Ob) = _), (by exact ap_), ?_⟩
        | refine ⟨_, news_ow hupd_at, newsz_ow hupd_at, _, ((by exact hk_) : (_ : Option Ob) = _), (by exact ap_), ?_⟩
        | refine ⟨_, ((by exact hk_) : (_ : Option Ob) = _), ?_⟩
        | refine ⟨(show _ ≤ _ from (by exact ap_)), ?_⟩
        | (refine ⟨fun hc => ?_, fun hc => ?_⟩ <;> (try simp (disch := omega) only [List.length_map, wrap64] at hc) <;> (try (exfalso; first | contradiction | omega)))
        | (refine ⟨⟨(by omega), (by omega), (by simp only [List.length_map] at *; simp only [LIM] at *; omega), (by simp only [List.length_map] at *; simp only [LIM] at *; omega)⟩, ?_⟩; (try simp only [List.length_map, Int.toNat_natCast]))
        | fail)
      refine ⟨⟨j + 1, nx + 16 + 16 + 16 + 16 + 16 + 16 + 16, ⟨rfl, rfl, congrArg I hw, trivial⟩, hj', (by omega), (by omega), Eq.trans hk_ (congrArg (fun z => some (Ob.arr ty_impl_Node 4 z)) (rowsN_succ j)), hk_, hk_, (by omega)⟩, ?_⟩
      show 5 - ix (I _) < 5 - ix (I _)
      simp only [hw, ix, Int.toNat_natCast]
      omega
    · have hj4 : j = 4 := by omega
      subst hj4
      repeat' ((conv => whnf); first
        | refine ⟨_, ldc_cells hk_ (Nat.le_of_ble_eq_true rfl), ?_⟩
        | refine ⟨_, rfl, ?_⟩
        | refine ⟨rfl, ?_⟩
        | refine ⟨_, ldc_cells hupd_at (Nat.le_of_ble_eq_true rfl), ?_⟩
        | refine ⟨_, ldc_cells (by first | assumption | exact zk ‹_› (by omega) | exact zk (zk ‹_› (by omega)) (by omega)) (Nat.le_of_ble_eq_true rfl), ?_⟩
        | refine ⟨_, _, hupd_at, rfl, rfl, Nat.le_of_ble_eq_true rfl, ?_⟩
        | refine ⟨_, _, rfl, rfl, rfl, Nat.le_of_ble_eq_true rfl, ?_⟩
        | (refine ⟨?_, _, (?_ : (_ : Option Ob) = _), rfl, rfl, ?_, ?_⟩; rotate_left; (exact hk_); exact Nat.le_of_ble_eq_true rfl)
        | refine ⟨_, _, _, _, ((by exact hk_) : (_ : Option Ob) = _), fill_at (by omega), rfl, rfl, Nat.le_of_ble_eq_true rfl, ?_⟩
        | refine ⟨_, _, _, _, ((by exact hk_) : (_ : Option Ob) = _), at_mapA (by assumption), rfl, rfl, Nat.le_of_ble_eq_true rfl, ?_⟩
        | refine ⟨_, ldc_pa (by exact hk_) (at_mapA (by assumption)) (Nat.le_of_ble_eq_true rfl), ?_⟩
        | refine ⟨_, rfl, rfl, _, ((by exact hk_) : (_ : Option Ob) = _), (by exact ap_), ?_⟩
        | refine ⟨_, news_ow hupd_at, newsz_ow hupd_at, _, ((by exact hk_) : (_ : Option Ob) = _), (by exact ap_), ?_⟩
        | refine ⟨_, ((by exact hk_) : (_ : Option Ob) = _), ?_⟩
        | refine ⟨(show _ ≤ _ from (by exact ap_)), ?_⟩
        | (refine ⟨fun hc => ?_, fun hc => ?_⟩ <;> (try simp (disch := omega) only [List.length_map, wrap64] at hc) <;> (try (exfalso; first | contradiction | omega)))
        | (refine ⟨⟨(by omega), (by omega), (by simp only [List.length_map] at *; simp only [LIM] at *; omega), (by simp only [List.length_map] at *; simp only [LIM] at *; omega)⟩, ?_⟩; (try simp only [List.length_map, Int.toNat_natCast]))
        | fail)
      exact finM_new0 (k := k) (by omega) hk_ ⟨⟨_, rfl, .inl rfl⟩, ⟨_, rfl, .inl rfl⟩, trivial⟩ ⟨i, rfl, rfl, .inl ⟨hb, rfl, rfl⟩⟩
  · skip
    repeat' ((conv => whnf); first
      | refine ⟨_, rfl, ?_⟩
      | refine ⟨rfl, ?_⟩
      | refine ⟨_, ldc_cells hupd_at (Nat.le_of_ble_eq_true rfl), ?_⟩
      | refine ⟨_, ldc_cells (by first | assumption | exact zk ‹_› (by omega) | exact zk (zk ‹_› (by omega)) (by omega)) (Nat.le_of_ble_eq_true rfl), ?_⟩
      | refine ⟨_, _, hupd_at, rfl, rfl, Nat.le_of_ble_eq_true rfl, ?_⟩
      | refine ⟨_, _, rfl, rfl, rfl, Nat.le_of_ble_eq_true rfl, ?_⟩
      | (refine ⟨?_, _, (?_ : (_ : Option Ob) = _), rfl, rfl, ?_, ?_⟩; rotate_left; (exact hk_); exact Nat.le_of_ble_eq_true rfl)
      | refine ⟨_, _, _, _, ((by exact hk_) : (_ : Option Ob) = _), fill_at (by omega), rfl, rfl, Nat.le_of_ble_eq_true rfl, ?_⟩
      | refine ⟨_, _, _, _, ((by exact hk_) : (_ : Option Ob) = _), at_mapA (by assumption), rfl, rfl, Nat.le_of_ble_eq_true rfl, ?_⟩
      | refine ⟨_, ldc_pa (by exact hk_) (at_mapA (by assumption)) (Nat.le_of_ble_eq_true rfl), ?_⟩
      | refine ⟨_, rfl, rfl, _, ((by exact hk_) : (_ : Option Ob) = _), (by exact ap_), ?_⟩
      | refine ⟨_, news_ow hupd_at, newsz_ow hupd_at, _, ((by exact hk_) : (_ : Option Ob) = _), (by exact ap_), ?_⟩
      | refine ⟨_, ((by exact hk_) : (_ : Option Ob) = _), ?_⟩
      | refine ⟨(show _ ≤ _ from (by exact ap_)), ?_⟩
      | (refine ⟨fun hc => ?_, fun hc => ?_⟩ <;> (try simp (disch := omega) only [List.length_map, wrap64] at hc) <;> (try (exfalso; first | contradiction | omega)))
      | (refine ⟨⟨(by omega), (by omega), (by simp only [List.length_map] at *; simp only [LIM] at *; omega), (by simp only [List.length_map] at *; simp only [LIM] at *; omega)⟩, ?_⟩; (try simp only [List.length_map, Int.toNat_natCast]))
      | (refine callt (b := [I _, I _, I _]) v_impl_within rfl ⟨(_, _, _), rfl, (by exact True.intro)⟩ (.inl rfl) (by first | assumption | omega) (fun r hr => K_impl_within (a := (_, _, _)) hr) (fun hj => ?_) (fun hj => ?_) <;> (try simp only [etaPa, etaIt, etaVo] at hj) <;> (try contradiction))
      | fail)
    exact ⟨by omega, [], [.g [cI 0, .e0, .e0, cI 0], .o (cB false)], .tup [.g [cI 0, .e0, .e0, cI 0], .o (cB false)], [], ⟨⟨_, rfl, .inl rfl⟩, ⟨_, rfl, .inl rfl⟩, trivial⟩, rfl, ⟨i, rfl, rfl, .inr ⟨hb, rfl, rfl⟩⟩, List.nodup_nil, fun i hi => absurd hi (Nat.not_lt_zero i), rfl, fun i k h => by simp at h⟩
theorem v_WorldNew_s : ValidM Try.prog n_impl_WorldNew S_impl_WorldNew_s := newI_of_0 v_impl_WorldNew
set_option maxHeartbeats 4000000 in
set_option maxRecDepth 100000 in
theorem v_laws_lwWorld : Valid Try.prog n_laws_lwWorld S_laws_lwWorld := by
  refine valid_of_swp mixed is_laws_lwWorld (by rintro _ ⟨a, rfl, _⟩; exact Nat.le_of_ble_eq_true rfl) ?_
  rintro _ rm ⟨⟨w, u⟩, rfl, hpre⟩ hl
  try dsimp only at hpre
  have hpre0 := hpre
  obtain ⟨hp1, hp2⟩ := hpre
  have cc_laws_lwVotes : S_laws_lwVotes.cost = 0 := rfl
  have cc_laws_lwNode : S_laws_lwNode.cost = 0 := rfl
  have cc_laws_lwWorld : S_laws_lwWorld.cost = 0 := rfl
  have hlw := hp1.1
  by_cases hE : w = u
  · subst hE
    have hfl := hp1.2.2
    repeat' ((conv => whnf); first
      | refine ⟨_, rfl, ?_⟩
      | refine ⟨rfl, ?_⟩
      | refine ⟨_, _, rfl, at_map (by assumption), ?_⟩
      | refine idx_mapX (i := 0) rfl (by assumption) ?_
      | refine idx_map (by omega) (fun x hx => ?_)
      | refine idx_mapX (wrap_dn (by omega) (by omega)) (by assumption) ?_
      | refine idx_mapE (wrap_dn (by omega) (by omega)) (by omega) (fun x hx => ?_)
      | refine idx_mapL (by omega) (by first | assumption | (simp only [LIM]; omega)) (fun x hx => ?_)
      | refine idx_mapI (by omega) (by first | omega | (simp only [List.length_map] at *; omega)) (fun x hx => ?_)
      | refine ⟨_, ldc_cells hupd_at (Nat.le_of_ble_eq_true rfl), ?_⟩
      | refine ⟨_, ldc_cells (by first | assumption | exact zk ‹_› (by omega) | exact zk (zk ‹_› (by omega)) (by omega)) (Nat.le_of_ble_eq_true rfl), ?_⟩
      | (refine ⟨fun hc => ?_, fun hc => ?_⟩ <;> (try simp (disch := omega) only [List.length_map, wrap64] at hc) <;> (try (exfalso; first | contradiction | omega)))
      | (refine callt (b := [one (vsF _), one (vsF _)]) v_laws_lwVotes rfl ⟨(_, _), rfl, (by refine ⟨?_, ?_⟩ <;> (exact pr_))⟩ (.inl rfl) (by first | assumption | omega) (fun r hr => K_laws_lwVotes (a := (_, _)) hr) (fun hj => ?_) (fun hj => ?_) <;> (try simp only [etaPa, etaIt, etaVo] at hj) <;> (try contradiction))
      | fail)
    conv => whnf
    refine ⟨fun fr H nx rm' => ∃ (i : Nat), Has fr [(2, .w (.o (.ptr 1 0))), (3, .w (.o (.ptr 17 0))), (5, I i)] ∧ i ≤ w.nodes.length ∧ (True) ∧ 18 ≤ nx ∧ H 1 = some (.cells ((woF w).map AC.c)) ∧ H 17 = some (.cells ((woF w).map AC.c)) ∧ 1 ≤ nx ∧ H 0 = none ∧ rm' ≤ rm,
      fun fr _ _ _ => w.nodes.length - ix (fr 5), ⟨0, ⟨(by first | rfl | (show I _ = I _; simp)), (by first | rfl | (show I _ = I _; simp)), (by first | rfl | (show I _ = I _; simp)), trivial⟩, Nat.zero_le _, (by trivial), ln_, hk_, hk_, (by first | decide | omega), (by exact h0_), (by omega)⟩, ?_⟩
    rintro fr H nx rm' ⟨i, hfr, hi, hq, hnx2, hH1, hH17, hnx, hH, hrm⟩
    rw [hfr.eq]
    rcases Nat.lt_or_ge i w.nodes.length with hi' | hi'
    · obtain ⟨x, hx⟩ : ∃ x, w.nodes[i]? = some x := ⟨_, List.getElem?_eq_getElem hi'⟩
      have hfx : FitVs x.seen := hp1.2.1 x (List.mem_of_getElem? hx)
      repeat' ((conv => whnf); first
        | refine ⟨_, _, rfl, at_map hx, ?_⟩
        | refine ⟨rfl, i, _, rfl, at_map hx, ?_⟩
        | refine ⟨_, rfl, ?_⟩
        | refine ⟨rfl, ?_⟩
        | refine ⟨_, _, rfl, at_map (by assumption), ?_⟩
        | refine idx_mapX (i := 0) rfl (by assumption) ?_
        | refine idx_map (by omega) (fun x hx => ?_)
        | refine idx_mapX (wrap_dn (by omega) (by omega)) (by assumption) ?_
        | refine idx_mapE (wrap_dn (by omega) (by omega)) (by omega) (fun x hx => ?_)
        | refine idx_mapL (by omega) (by first | assumption | (simp only [LIM]; omega)) (fun x hx => ?_)
        | refine idx_mapI (by omega) (by first | omega | (simp only [List.length_map] at *; omega)) (fun x hx => ?_)
        | refine ⟨_, ldc_cells hupd_at (Nat.le_of_ble_eq_true rfl), ?_⟩
        | refine ⟨_, ldc_cells (by first | assumption | exact zk ‹_› (by omega) | exact zk (zk ‹_› (by omega)) (by omega)) (Nat.le_of_ble_eq_true rfl), ?_⟩
        | (refine ⟨fun hc => ?_, fun hc => ?_⟩ <;> (try simp (disch := omega) only [List.length_map, wrap64] at hc) <;> (try (exfalso; first | contradiction | omega)))
        | (refine callt (b := [agg (ndF ⟨_, _, _, _⟩), agg (ndF ⟨_, _, _, _⟩)]) v_laws_lwNode rfl ⟨(⟨_, _, _, _⟩, ⟨_, _, _, _⟩), rfl, (by refine ⟨?_, ?_⟩ <;> (exact pr_))⟩ (.inl rfl) (by first | assumption | omega) (fun r hr => K_laws_lwNode (a := (⟨_, _, _, _⟩, ⟨_, _, _, _⟩)) hr) (fun hj => ?_) (fun hj => ?_) <;> (try simp only [etaPa, etaIt, etaVo] at hj) <;> (try simp only [etaNd] at hj) <;> (try contradiction))
        | (refine ⟨⟨i + 1, ⟨rfl, rfl, congrArg I (wrap_up (n := w.nodes.length) (by omega) (hlw)), trivial⟩, (by omega), (by trivial), (by omega), hk_, hk_, (by omega), (by exact h0_), (by first | assumption | omega)⟩, ?_⟩; show w.nodes.length - ix (I _) < w.nodes.length - ix (I _); simp only [wrap_up (n := w.nodes.length) (i := i) (by omega) (hlw), ix, Int.toNat_natCast]; omega)
        | fail)
    · have hdone := hi'
      repeat' ((conv => whnf); first
        | refine ⟨_, rfl, ?_⟩
        | refine ⟨rfl, ?_⟩
        | refine ⟨_, _, rfl, at_map (by assumption), ?_⟩
        | refine idx_mapX (i := 0) rfl (by assumption) ?_
        | refine idx_map (by omega) (fun x hx => ?_)
        | refine idx_mapX (wrap_dn (by omega) (by omega)) (by assumption) ?_
        | refine idx_mapE (wrap_dn (by omega) (by omega)) (by omega) (fun x hx => ?_)
        | refine idx_mapL (by omega) (by first | assumption | (simp only [LIM]; omega)) (fun x hx => ?_)
        | refine idx_mapI (by omega) (by first | omega | (simp only [List.length_map] at *; omega)) (fun x hx => ?_)
        | refine ⟨_, ldc_cells hupd_at (Nat.le_of_ble_eq_true rfl), ?_⟩
        | refine ⟨_, ldc_cells (by first | assumption | exact zk ‹_› (by omega) | exact zk (zk ‹_› (by omega)) (by omega)) (Nat.le_of_ble_eq_true rfl), ?_⟩
        | (refine ⟨fun hc => ?_, fun hc => ?_⟩ <;> (try simp (disch := omega) only [List.length_map, wrap64] at hc) <;> (try (exfalso; first | contradiction | omega)))
        | exact ⟨⟨_, rfl, rfl, (w, w), rfl, (by refine congrArg B (Eq.symm (tb_pos ?_)); rfl)⟩, (by omega), h0_⟩
        | fail)
  · skip
    have hf1 := hp1.2.2
    have hf2 := hp2.2.2
    repeat' ((conv => whnf); first
      | refine ⟨_, rfl, ?_⟩
      | refine ⟨rfl, ?_⟩
      | refine ⟨_, _, rfl, at_map (by assumption), ?_⟩
      | refine idx_mapX (i := 0) rfl (by assumption) ?_
      | refine idx_map (by omega) (fun x hx => ?_)
      | refine idx_mapX (wrap_dn (by omega) (by omega)) (by assumption) ?_
      | refine idx_mapE (wrap_dn (by omega) (by omega)) (by omega) (fun x hx => ?_)
      | refine idx_mapL (by omega) (by first | assumption | (simp only [LIM]; omega)) (fun x hx => ?_)
      | refine idx_mapI (by omega) (by first | omega | (simp only [List.length_map] at *; omega)) (fun x hx => ?_)
      | refine ⟨_, ldc_cells hupd_at (Nat.le_of_ble_eq_true rfl), ?_⟩
      | refine ⟨_, ldc_cells (by first | assumption | exact zk ‹_› (by omega) | exact zk (zk ‹_› (by omega)) (by omega)) (Nat.le_of_ble_eq_true rfl), ?_⟩
      | (refine ⟨fun hc => ?_, fun hc => ?_⟩ <;> (try simp (disch := omega) only [List.length_map, wrap64] at hc) <;> (try (exfalso; first | contradiction | omega)))
      | (refine callt (b := [one (vsF _), one (vsF _)]) v_laws_lwVotes rfl ⟨(_, _), rfl, (by refine ⟨?_, ?_⟩ <;> (exact pr_))⟩ (.inl rfl) (by first | assumption | omega) (fun r hr => K_laws_lwVotes (a := (_, _)) hr) (fun hj => ?_) (fun hj => ?_) <;> (try simp only [etaPa, etaIt, etaVo] at hj) <;> (try contradiction))
      | (refine ⟨⟨i + 1, ⟨rfl, rfl, congrArg I (wrap_up (n := w.nodes.length) (by omega) (hlw)), trivial⟩, (by omega), (by trivial), (by omega), hk_, hk_, (by omega), (by exact h0_), (by first | assumption | omega)⟩, ?_⟩; show w.nodes.length - ix (I _) < w.nodes.length - ix (I _); simp only [wrap_up (n := w.nodes.length) (i := i) (by omega) (hlw), ix, Int.toNat_natCast]; omega)
      | exact ⟨⟨_, rfl, rfl, (w, u), rfl, (by refine congrArg B (Eq.symm (tb_pos ?_)); (try dsimp only); first | done | exact absurd True.intro hj | (exact hE))⟩, (by first | exact Nat.le_refl _ | omega), (by exact h0_)⟩
      | exact ⟨⟨_, rfl, rfl, (w, u), rfl, (by refine congrArg B (Eq.symm (tb_neg ?_)); (try dsimp only); first | done | exact absurd True.intro hj | (exact hE))⟩, (by first | exact Nat.le_refl _ | omega), (by exact h0_)⟩
      | fail)
    have hlen : w.nodes.length = u.nodes.length := by omega
    have e1 : w.ep = u.ep := by assumption
    have e2 : w.bad = u.bad := by assumption
    have e3 : w.log = u.log := by assumption
    conv => whnf
    refine ⟨fun fr H nx rm' => ∃ (i : Nat), Has fr [(2, .w (.o (.ptr 1 0))), (3, .w (.o (.ptr 17 0))), (5, I i)] ∧ i ≤ w.nodes.length ∧ (∀ j n, j < i → w.nodes[j]? = some n → u.nodes[j]? = some n) ∧ 18 ≤ nx ∧ H 1 = some (.cells ((woF w).map AC.c)) ∧ H 17 = some (.cells ((woF u).map AC.c)) ∧ 1 ≤ nx ∧ H 0 = none ∧ rm' ≤ rm,
      fun fr _ _ _ => w.nodes.length - ix (fr 5), ⟨0, ⟨(by first | rfl | (show I _ = I _; simp)), (by first | rfl | (show I _ = I _; simp)), (by first | rfl | (show I _ = I _; simp)), trivial⟩, Nat.zero_le _, (by first | trivial | rfl | (intros; omega) | simp), ln_, hk_, hk_, (by first | decide | omega), (by exact h0_), (by omega)⟩, ?_⟩
    rintro fr H nx rm' ⟨i, hfr, hi, hq, hnx2, hH1, hH17, hnx, hH, hrm⟩
    rw [hfr.eq]
    rcases Nat.lt_or_ge i w.nodes.length with hi' | hi'
    · obtain ⟨x, hx⟩ : ∃ x, w.nodes[i]? = some x := ⟨_, List.getElem?_eq_getElem hi'⟩
      obtain ⟨y, hy⟩ : ∃ y, u.nodes[i]? = some y := ⟨_, List.getElem?_eq_getElem (by omega)⟩
      have hfx : FitVs x.seen := hp1.2.1 x (List.mem_of_getElem? hx)
      have hfy : FitVs y.seen := hp2.2.1 y (List.mem_of_getElem? hy)
      have hstep : x = y → ∀ j n, j < i + 1 → w.nodes[j]? = some n → u.nodes[j]? = some n := by
        intro hh j n hj1 hj2
        by_cases e : j < i
        · exact hq j n e hj2
        · have e : j = i := by omega
          subst e; cases (hx.symm.trans hj2); rw [hh]; exact hy
      by_cases hh : x = y
      · have hh2 := hh
        repeat' ((conv => whnf); first
          | refine ⟨_, _, rfl, at_map hx, ?_⟩
          | refine ⟨_, _, rfl, at_map hy, ?_⟩
          | refine ⟨rfl, i, _, rfl, at_map hx, ?_⟩
          | refine ⟨rfl, i, _, rfl, at_map hy, ?_⟩
          | refine ⟨_, rfl, ?_⟩
          | refine ⟨rfl, ?_⟩
          | refine ⟨_, _, rfl, at_map (by assumption), ?_⟩
          | refine idx_mapX (i := 0) rfl (by assumption) ?_
          | refine idx_map (by omega) (fun x hx => ?_)
          | refine idx_mapX (wrap_dn (by omega) (by omega)) (by assumption) ?_
          | refine idx_mapE (wrap_dn (by omega) (by omega)) (by omega) (fun x hx => ?_)
          | refine idx_mapL (by omega) (by first | assumption | (simp only [LIM]; omega)) (fun x hx => ?_)
          | refine idx_mapI (by omega) (by first | omega | (simp only [List.length_map] at *; omega)) (fun x hx => ?_)
          | refine ⟨_, ldc_cells hupd_at (Nat.le_of_ble_eq_true rfl), ?_⟩
          | refine ⟨_, ldc_cells (by first | assumption | exact zk ‹_› (by omega) | exact zk (zk ‹_› (by omega)) (by omega)) (Nat.le_of_ble_eq_true rfl), ?_⟩
          | (refine ⟨fun hc => ?_, fun hc => ?_⟩ <;> (try simp (disch := omega) only [List.length_map, wrap64] at hc) <;> (try (exfalso; first | contradiction | omega)))
          | (refine callt (b := [agg (ndF ⟨_, _, _, _⟩), agg (ndF ⟨_, _, _, _⟩)]) v_laws_lwNode rfl ⟨(⟨_, _, _, _⟩, ⟨_, _, _, _⟩), rfl, (by refine ⟨?_, ?_⟩ <;> (exact pr_))⟩ (.inl rfl) (by first | assumption | omega) (fun r hr => K_laws_lwNode (a := (⟨_, _, _, _⟩, ⟨_, _, _, _⟩)) hr) (fun hj => ?_) (fun hj => ?_) <;> (try simp only [etaPa, etaIt, etaVo] at hj) <;> (try simp only [etaNd] at hj) <;> (try contradiction))
          | (refine ⟨⟨i + 1, ⟨rfl, rfl, congrArg I (wrap_up (n := w.nodes.length) (by omega) (hlw)), trivial⟩, (by omega), (by exact hstep hh), (by omega), hk_, hk_, (by omega), (by exact h0_), (by first | assumption | omega)⟩, ?_⟩; show w.nodes.length - ix (I _) < w.nodes.length - ix (I _); simp only [wrap_up (n := w.nodes.length) (i := i) (by omega) (hlw), ix, Int.toNat_natCast]; omega)
          | fail)
      · skip
        repeat' ((conv => whnf); first
          | refine ⟨_, _, rfl, at_map hx, ?_⟩
          | refine ⟨_, _, rfl, at_map hy, ?_⟩
          | refine ⟨rfl, i, _, rfl, at_map hx, ?_⟩
          | refine ⟨rfl, i, _, rfl, at_map hy, ?_⟩
          | refine ⟨_, rfl, ?_⟩
          | refine ⟨rfl, ?_⟩
          | refine ⟨_, _, rfl, at_map (by assumption), ?_⟩
          | refine idx_mapX (i := 0) rfl (by assumption) ?_
          | refine idx_map (by omega) (fun x hx => ?_)
          | refine idx_mapX (wrap_dn (by omega) (by omega)) (by assumption) ?_
          | refine idx_mapE (wrap_dn (by omega) (by omega)) (by omega) (fun x hx => ?_)
          | refine idx_mapL (by omega) (by first | assumption | (simp only [LIM]; omega)) (fun x hx => ?_)
          | refine idx_mapI (by omega) (by first | omega | (simp only [List.length_map] at *; omega)) (fun x hx => ?_)
          | refine ⟨_, ldc_cells hupd_at (Nat.le_of_ble_eq_true rfl), ?_⟩
          | refine ⟨_, ldc_cells (by first | assumption | exact zk ‹_› (by omega) | exact zk (zk ‹_› (by omega)) (by omega)) (Nat.le_of_ble_eq_true rfl), ?_⟩
          | (refine ⟨fun hc => ?_, fun hc => ?_⟩ <;> (try simp (disch := omega) only [List.length_map, wrap64] at hc) <;> (try (exfalso; first | contradiction | omega)))
          | (refine callt (b := [agg (ndF ⟨_, _, _, _⟩), agg (ndF ⟨_, _, _, _⟩)]) v_laws_lwNode rfl ⟨(⟨_, _, _, _⟩, ⟨_, _, _, _⟩), rfl, (by refine ⟨?_, ?_⟩ <;> (exact pr_))⟩ (.inl rfl) (by first | assumption | omega) (fun r hr => K_laws_lwNode (a := (⟨_, _, _, _⟩, ⟨_, _, _, _⟩)) hr) (fun hj => ?_) (fun hj => ?_) <;> (try simp only [etaPa, etaIt, etaVo] at hj) <;> (try simp only [etaNd] at hj) <;> (try contradiction))
          | (refine ⟨⟨i + 1, ⟨rfl, rfl, congrArg I (wrap_up (n := w.nodes.length) (by omega) (hlw)), trivial⟩, (by omega), (by exact hstep hh), (by omega), hk_, hk_, (by omega), (by exact h0_), (by first | assumption | omega)⟩, ?_⟩; show w.nodes.length - ix (I _) < w.nodes.length - ix (I _); simp only [wrap_up (n := w.nodes.length) (i := i) (by omega) (hlw), ix, Int.toNat_natCast]; omega)
          | exact ⟨⟨_, rfl, rfl, (w, u), rfl, (by refine congrArg B (Eq.symm (tb_pos ?_)); (try dsimp only); first | done | exact absurd True.intro hj | (exact hE))⟩, (by first | exact Nat.le_refl _ | omega), (by exact h0_)⟩
          | exact ⟨⟨_, rfl, rfl, (w, u), rfl, (by refine congrArg B (Eq.symm (tb_neg ?_)); (try dsimp only); first | done | exact absurd True.intro hj | (exact hE))⟩, (by first | exact Nat.le_refl _ | omega), (by exact h0_)⟩
          | fail)
    · exfalso
      apply hE
      have hn : w.nodes = u.nodes := by
        apply List.ext_getElem?
        intro j
        by_cases hj : j < w.nodes.length
        · rw [List.getElem?_eq_getElem hj]
          exact (hq j _ (by omega) (List.getElem?_eq_getElem hj)).symm
        · rw [List.getElem?_eq_none (by omega), List.getElem?_eq_none (by omega)]
      cases w; cases u
      simp only at e1 e2 e3 hn
      rw [e1, e2, e3, hn]
end Av
end Go.Proofs.Ytfijfccgghhkoaa
