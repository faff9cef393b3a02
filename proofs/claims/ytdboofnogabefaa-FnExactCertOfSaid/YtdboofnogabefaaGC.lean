/- The walks: who voted, how a cert's chain begins, with memory of its own. -/
import Derived.Test.YtdboofnogabefaaGB
import Derived.Test.YtdboofnogabefaaJ43
import Derived.Test.YtdboofnogabefaaCC
import Derived.Test.YtdboofnogabefaaU3
set_option linter.unusedVariables false
set_option linter.unusedSimpArgs false
namespace Go.Proofs.Ytdboofnogabefaa
namespace Av
open Go.RowKit
attribute [local irreducible] Valid ValidM
set_option maxHeartbeats 4000000 in
set_option maxRecDepth 100000 in
theorem vO_impl_votes_voters_L : ValidM Try.prog n_impl_votes_voters_o SO_impl_votes_voters_L.toM := by
  refine validM_of_swp mixed is_impl_votes_voters_o (by rintro _ _ ⟨_, a, rfl, _⟩; exact Nat.le_of_ble_eq_true rfl) ?_
  rintro _ _ rm ⟨rfl, ⟨l, c⟩, rfl, hfit, hc⟩ hl
  dsimp only at hfit hc
  change swp _ _ _ _ _ 0 _
  conv => whnf
  refine ⟨by decide, ?_⟩
  conv => whnf
  refine ⟨fun fr H nx rm' => ∃ (i : Nat) (k : Nat) (out : List Int), Has fr [(0, one (vsF l)), (1, one (chF c)), (5, .w (.o (.ow k))), (6, I (i + 1))] ∧ i ≤ 4 ∧ out = ([1, 2, 3, 4].take i).filter (fun n => tb ((⟨n, c⟩ : Vo) ∈ l)) ∧
      H k = some (isO out) ∧ k < nx ∧ rm' = rm,
    fun fr _ _ _ => 5 - ix (fr 6), ⟨0, _, [], ⟨rfl, rfl, rfl, rfl, trivial⟩, Nat.zero_le _, rfl, rfl, by decide, rfl⟩, ?_⟩
  rintro fr H nx rm' ⟨i, k, out, hfr, hi, hout, hk, hkn, rfl⟩
  rw [hfr.eq]
  have hw : i < 4 → IntKind.i64.wrap ((i : Int) + 1 + 1) = ((i + 1 : Nat) : Int) + 1 := fun h => by rw [wrap64] <;> omega
  have htk : i < 4 → ([1, 2, 3, 4] : List Int).take (i + 1) = ([1, 2, 3, 4] : List Int).take i ++ [((i : Int) + 1)] := fun h => by
    have : i = 0 ∨ i = 1 ∨ i = 2 ∨ i = 3 := by omega
    rcases this with rfl | rfl | rfl | rfl <;> rfl
  have hlt : out.length ≤ 4 := by
    rw [hout]
    refine Nat.le_trans (List.length_filter_le _ _) ?_
    simp only [List.length_take]; omega
  conv => whnf
  refine ⟨rfl, ?_⟩
  conv => whnf
  refine ⟨fun h2 => ?_, fun h2 => ?_⟩
  · have h2 : (i : Int) + 1 ≤ 4 := h2
    have h2' : i < 4 := by omega
    conv => whnf
    refine ⟨⟨(l, ⟨(i : Int) + 1, c⟩), rfl, hfit, hc⟩, v_impl_votes_has, .inl rfl, hl, fun r hr => ?_⟩
    rcases J_has (l := l) (v := ⟨(i : Int) + 1, c⟩) hr with ⟨h3, rfl⟩ | ⟨h3, rfl⟩
    · conv => whnf
      refine ⟨_, news_ow hupd_at, newsz_ow hupd_at, arA inF out, ?_, ?_, ?_⟩
      · rw [hupd_ne (by omega)]; exact hk
      · rw [arA, List.length_map]; simp; omega
      · conv => whnf
        refine ⟨rfl, ?_⟩
        conv => whnf
        refine ⟨⟨i + 1, _, out ++ [(i : Int) + 1], ⟨rfl, rfl, rfl, congrArg I (hw h2'), trivial⟩, by omega, ?_, hupd_at.trans (arr_snoc rfl), by (try simp only [List.length_cons, List.length_nil]); omega, rfl⟩, ?_⟩
        · rw [htk h2', List.filter_append, ← hout]
          simp [tb_pos h3]
        · show 5 - ix (I _) < 5 - ix (I _)
          simp only [hw h2', ix]
          omega
    · conv => whnf
      refine ⟨rfl, ?_⟩
      conv => whnf
      refine ⟨⟨i + 1, k, out, ⟨rfl, rfl, rfl, congrArg I (hw h2'), trivial⟩, by omega, ?_, hk, by omega, rfl⟩, ?_⟩
      · rw [htk h2', List.filter_append, ← hout]
        simp [tb_neg h3]
      · show 5 - ix (I _) < 5 - ix (I _)
        simp only [hw h2', ix]
        omega
  · have h2 : ¬ ((i : Int) + 1 ≤ 4) := by simpa using h2
    have h4 : i = 4 := by omega
    have hov : out = voters l c := by rw [hout, h4]; rfl
    have hal : (arA inF out).length = out.length := by rw [arA, List.length_map]
    conv => whnf
    refine ⟨_, _, _, hk, ?_⟩
    conv => whnf
    refine ⟨_, _, _, hk, ?_⟩
    conv => whnf
    refine .inl ⟨k, _, arA inF out, rfl, hk, rfl, rfl, ?_⟩
    conv => whnf
    exact finM_new (F := inF) (T := ty_int) (sz := 1) (l := out) (Nat.le_refl _) hupd_at ⟨⟨_, rfl, .inl rfl⟩, trivial⟩ ⟨rfl, rfl, by rw [so_impl_votes_voters_L, ← hov]⟩
set_option maxHeartbeats 4000000 in
set_option maxRecDepth 100000 in
theorem v_slices_Clip_nSS_o : ValidM Try.prog n_slices_Clip_nSS_o S_slices_Clip_nSS_o := by
  refine validM_of_swp mixed is_slices_Clip_nSS_o (by rintro _ _ ⟨a, rfl, _⟩; exact Nat.le_of_ble_eq_true rfl) ?_
  rintro _ _ rm ⟨l, rfl, rfl, -⟩ hl
  have hE1 : ∀ j v, l[j]? = some v → (nS.In l)[j + 1]? = some (nS.ob1 v) := fun j v h => Nest.In_at h
  have hlen : (nS.In l).length = l.length + 1 := Nest.In_len
  have hkl : (nS.K (· + 1) l).length = l.length := Nest.K_len
  conv => whnf
  refine ⟨_, _, _, rfl, ?_⟩
  conv => whnf
  refine ⟨_, _, _, rfl, ?_⟩
  conv => whnf
  refine .inl ⟨0, _, nS.K (· + 1) l, rfl, rfl, rfl, rfl, ?_⟩
  conv => whnf
  refine finM_nclip (l := l) hlen (Nat.le_refl _) ?_ hupd_at (by omega) (fun j v hj => ?_) ⟨⟨_, rfl, .inl rfl⟩, trivial⟩ ⟨l, rfl, rfl, rfl, rfl⟩
  · rw [hupd_ne (by omega)]; exact hupd_at
  · have hj' := (List.getElem?_eq_some_iff.1 hj).1
    rw [hupd_ne (by omega), hupd_ne (by omega)]; exact hE1 j v hj
set_option maxHeartbeats 4000000 in
set_option maxRecDepth 100000 in
theorem v_impl_Cert_prefix_o : ValidM Try.prog n_impl_Cert_prefix_o S_impl_Cert_prefix_o := by
  refine validM_of_swp mixed is_impl_Cert_prefix_o (by rintro _ _ ⟨a, rfl, _⟩; exact Nat.le_of_ble_eq_true rfl) ?_
  rintro _ _ rm ⟨⟨⟨c, k⟩, y, rest⟩, rfl, rfl, ⟨hk0, hk2, hc3, hcl⟩, hrest⟩ hl
  dsimp only at hk0 hk2 hc3 hcl hrest hl ⊢
  have hEl : (itO c :: rest).length = rest.length + 1 := List.length_cons
  have hcl' : c.length ≤ 1099511627776 := hcl
  have hal : (arA itF c).length = c.length := by rw [arA, List.length_map]
  have hw : IntKind.i64.wrap (IntKind.i64.wrap (IntKind.i64.wrap (((arA itF c).length : Int) - 3) + 1) + k) = ((c.length - 2 + k.toNat : Nat) : Int) := by
    rw [hal, wrap64 (n := (c.length : Int) - 3) (by omega) (by omega), wrap64 (n := (c.length : Int) - 3 + 1) (by omega) (by omega), wrap64 (by omega) (by omega)]
    omega
  repeat' ((conv => whnf); first
    | refine ⟨_, ldc_cells hk_ (Nat.le_of_ble_eq_true rfl), ?_⟩
    | refine ⟨_, _, c.length - 2 + k.toNat, (hk_ : (_ : Option Ob) = _), bnd_at rfl hw, ⟨(by rw [hal]; omega), (by rw [hal]; omega)⟩, ?_⟩
    | refine ⟨_, rfl, ?_⟩
    | refine ⟨rfl, ?_⟩
    | refine ⟨_, _, rfl, at_map (by assumption), ?_⟩
    | refine idx_mapX (i := 0) rfl (by assumption) ?_
    | refine idx_map (by omega) (fun x hx => ?_)
    | refine idx_mapX (wrap_dn (by omega) (by omega)) (by assumption) ?_
    | refine idx_mapE (wrap_dn (by omega) (by omega)) (by omega) (fun x hx => ?_)
    | refine idx_mapL (by omega) (by first | assumption | (simp only [LIM]; omega)) (fun x hx => ?_)
    | refine idx_mapI (by omega) (by first | omega | (simp only [List.length_map] at *; omega)) (fun x hx => ?_)
    | refine ⟨_, ldc_cells hupd_at (Nat.le_of_ble_eq_true rfl), ?_⟩
    | refine ⟨_, ldc_cells (by first | assumption | exact zk ‹_› (by omega) | exact zk (zk ‹_› (by omega)) (by omega)) (Nat.le_of_ble_eq_true rfl), ?_⟩
    | refine ⟨_, _, hupd_at, rfl, rfl, Nat.le_of_ble_eq_true rfl, ?_⟩
    | refine ⟨_, _, rfl, rfl, rfl, Nat.le_of_ble_eq_true rfl, ?_⟩
    | (refine ⟨?_, _, (?_ : (_ : Option Ob) = _), rfl, rfl, ?_, ?_⟩; rotate_left; (exact hk_); exact Nat.le_of_ble_eq_true rfl)
    | refine ⟨_, _, _, _, ((by exact hk_) : (_ : Option Ob) = _), rfl, at_mapA (by assumption), ?_⟩
    | refine idx_ow (by exact hk_) (by omega) (fun x hx => ?_)
    | refine ⟨_, _, _, _, ((by exact hk_) : (_ : Option Ob) = _), rfl, fill_at (by omega), ?_⟩
    | refine ⟨_, _, _, _, ((by exact hk_) : (_ : Option Ob) = _), fill_at (by omega), rfl, rfl, Nat.le_of_ble_eq_true rfl, ?_⟩
    | refine idx_owL (by exact hk_) (by omega) (by simp only [LIM]; omega) (fun x hx => ?_)
    | refine idx_owI (by exact hk_) (by omega) (by first | omega | (simp only [List.length_map] at *; omega)) (fun x hx => ?_)
    | refine ⟨_, _, _, _, ((by exact hk_) : (_ : Option Ob) = _), at_mapA (by assumption), rfl, rfl, Nat.le_of_ble_eq_true rfl, ?_⟩
    | refine ⟨_, ldc_pa (by exact hk_) (at_mapA (by assumption)) (Nat.le_of_ble_eq_true rfl), ?_⟩
    | refine ⟨_, rfl, rfl, _, ((by exact hk_) : (_ : Option Ob) = _), (by exact ap_), ?_⟩
    | refine ⟨_, news_ow hupd_at, newsz_ow hupd_at, _, ((by exact hk_) : (_ : Option Ob) = _), (by exact ap_), ?_⟩
    | refine ⟨_, _, _, ((by exact hk_) : (_ : Option Ob) = _), ?_⟩
    | refine ⟨_, ((by exact hk_) : (_ : Option Ob) = _), ?_⟩
    | refine ⟨(show _ ≠ _ from (by first | decide | omega)), ?_⟩
    | refine ⟨(show _ ≤ _ from (by exact ap_)), ?_⟩
    | (refine ⟨fun hc => ?_, fun hc => ?_⟩ <;> (try simp (disch := omega) only [List.length_map, wrap64] at hc))
    | (refine ⟨⟨(by omega), (by omega), (by simp only [List.length_map] at *; simp only [LIM] at *; omega), (by simp only [List.length_map] at *; simp only [LIM] at *; omega)⟩, ?_⟩; (try simp only [List.length_map, Int.toNat_natCast]))
    | (refine ⟨_, slc_to rfl (by first | omega | (simp only [List.length_map] at *; omega)), ?_⟩; rw [map_take'])
    | (refine ⟨_, slc_toI rfl (by omega) (by first | omega | (simp only [List.length_map] at *; omega)), ?_⟩; rw [map_take'])
    | fail)
  exact And.right (finM_look (rm' := 0) (lim := 0) (obs := itO c :: rest) (c := .vw 0 (c.length - 2 + k.toNat)) (Nat.le_refl _) rfl (fun i ob hi => (hupd_ne (by have := (List.getElem?_eq_some_iff.1 hi).1; omega)).trans hi) (fun ob hm => by
    rcases List.mem_cons.1 hm with rfl | hm
    · exact arA_ok _
    · rw [hEl]; exact (hrest ob hm).1) (by show 0 < (itO c :: rest).length; omega) ⟨⟨_, rfl, .inl rfl⟩, trivial⟩ ⟨((c, k), y, rest), rfl, rfl, hrest, rfl, rfl⟩)
end Av
end Go.Proofs.Ytdboofnogabefaa
