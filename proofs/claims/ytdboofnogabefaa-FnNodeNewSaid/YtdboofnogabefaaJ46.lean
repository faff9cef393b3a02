/- Texts of the layer, joined. -/
import Derived.Test.YtdboofnogabefaaJ42
import Derived.Test.YtdboofnogabefaaBD
import Derived.Test.YtdboofnogabefaaZC
import Derived.Test.YtdboofnogabefaaJ45
import Derived.Test.YtdboofnogabefaaT2
import Derived.Test.YtdboofnogabefaaP3
import Derived.Test.YtdboofnogabefaaK0
import Derived.Test.YtdboofnogabefaaJ9
set_option linter.unusedVariables false
set_option linter.unusedSimpArgs false
namespace Go.Proofs.Ytdboofnogabefaa
namespace Av
open Go.RowKit
attribute [local irreducible] Valid ValidM
set_option maxHeartbeats 4000000 in
set_option maxRecDepth 100000 in
theorem v_impl_NodeBook : ValidM Try.prog n_impl_NodeBook S_impl_NodeBook := by
  refine validM_of_swp mixed is_impl_NodeBook (by rintro _ _ ⟨a, rfl, _⟩; exact Nat.le_of_ble_eq_true rfl) ?_
  rintro _ _ rm ⟨n, rfl, rfl, hpre⟩ hl
  try dsimp only at hpre
  change swp _ _ _ _ _ 0 _
  have c1 : S_impl_NodeBook.cost = 0 := rfl
  have c2 : S_impl_NodeOk.cost = 0 := rfl
  have c3 : S_impl_votes_final.cost = 0 := rfl
  by_cases hok : NodeOk n
  · have hlt : n.seen.length < LIM := Nat.lt_of_le_of_lt hok.2.2.2.1 (by decide)
    have hfl : (fin n.seen).length ≤ LIM := (by rw [← fin_ok hok.2.2.2.2.1]; exact finT_len hpre)
    have e2 : bookN n = bookOf (fin n.seen) := by unfold bookN; rw [tb_pos hok]; rfl
    repeat' ((conv => whnf); first
      | refine ⟨_, rfl, ?_⟩
      | refine ⟨rfl, ?_⟩
      | refine ⟨_, ldc_cells hupd_at (Nat.le_of_ble_eq_true rfl), ?_⟩
      | refine ⟨_, ldc_cells (by first | assumption | exact zk ‹_› (by omega) | exact zk (zk ‹_› (by omega)) (by omega)) (Nat.le_of_ble_eq_true rfl), ?_⟩
      | refine ⟨_, ldc_pa (by exact hk_) (at_mapA (by assumption)) (Nat.le_of_ble_eq_true rfl), ?_⟩
      | refine ⟨_, ((by exact hk_) : (_ : Option Ob) = _), ?_⟩
      | (refine ⟨fun hc => ?_, fun hc => ?_⟩ <;> (try simp (disch := omega) only [List.length_map, wrap64] at hc) <;> (try (exfalso; first | contradiction | omega)))
      | (refine ⟨⟨n, rfl, (by exact pr_)⟩, v_impl_NodeOk, (.inl rfl), (by first | assumption | omega), fun r hr => ?_⟩; rcases K_impl_NodeOk (a := n) hr with ⟨hj, rfl⟩ | ⟨hj, rfl⟩ <;> clear hr <;> (try simp only [etaPa, etaIt, etaVo] at hj) <;> (try simp only [etaNd, etaWo] at hj) <;> (try contradiction))
      | (refine calle (b := [one (vsF _)]) v_impl_votes_final rfl ⟨_, rfl, (by refine ⟨?_, ?_⟩ <;> (exact pr_))⟩ (.inl rfl) (by first | assumption | omega) (fun r hr => K_impl_votes_final (a := _) hr) ?_)
      | fail)
    refine OQ.mk1 (ar := [one (chF (fin n.seen))]) (by rfl) ⟨_, rfl, hfl⟩ vO_impl_BookOf (so_impl_BookOf _) ?_
    repeat' ((conv => whnf); first
      | refine ⟨_, rfl, ?_⟩
      | refine ⟨rfl, ?_⟩
      | refine ⟨_, ldc_cells hupd_at (Nat.le_of_ble_eq_true rfl), ?_⟩
      | refine ⟨_, ldc_cells (by first | assumption | exact zk ‹_› (by omega) | exact zk (zk ‹_› (by omega)) (by omega)) (Nat.le_of_ble_eq_true rfl), ?_⟩
      | refine ⟨_, ldc_pa (by exact hk_) (at_mapA (by assumption)) (Nat.le_of_ble_eq_true rfl), ?_⟩
      | refine ⟨_, ((by exact hk_) : (_ : Option Ob) = _), ?_⟩
      | (refine ⟨fun hc => ?_, fun hc => ?_⟩ <;> (try simp (disch := omega) only [List.length_map, wrap64] at hc))
      | fail)
    exact finM_new (F := inF) (T := ty_int) (sz := 1) (l := bookOf (fin n.seen)) (by omega) hupd_at ⟨⟨_, rfl, .inl rfl⟩, trivial⟩ ⟨n, rfl, rfl, .inr ⟨rfl, congrArg (fun z => [some (isO z)]) e2.symm⟩⟩
  · have e2 : bookN n = [] := by unfold bookN; rw [tb_neg hok]; rfl
    repeat' ((conv => whnf); first
      | refine ⟨_, rfl, ?_⟩
      | refine ⟨rfl, ?_⟩
      | refine ⟨_, ldc_cells hupd_at (Nat.le_of_ble_eq_true rfl), ?_⟩
      | refine ⟨_, ldc_cells (by first | assumption | exact zk ‹_› (by omega) | exact zk (zk ‹_› (by omega)) (by omega)) (Nat.le_of_ble_eq_true rfl), ?_⟩
      | refine ⟨_, ldc_pa (by exact hk_) (at_mapA (by assumption)) (Nat.le_of_ble_eq_true rfl), ?_⟩
      | refine ⟨_, ((by exact hk_) : (_ : Option Ob) = _), ?_⟩
      | (refine ⟨fun hc => ?_, fun hc => ?_⟩ <;> (try simp (disch := omega) only [List.length_map, wrap64] at hc) <;> (try (exfalso; first | contradiction | omega)))
      | (refine ⟨⟨n, rfl, (by exact pr_)⟩, v_impl_NodeOk, (.inl rfl), (by first | assumption | omega), fun r hr => ?_⟩; rcases K_impl_NodeOk (a := n) hr with ⟨hj, rfl⟩ | ⟨hj, rfl⟩ <;> clear hr <;> (try simp only [etaPa, etaIt, etaVo] at hj) <;> (try simp only [etaNd, etaWo] at hj) <;> (try contradiction))
      | fail)
    exact finM_e0 (by omega) ⟨⟨_, rfl, .inl rfl⟩, trivial⟩ ⟨n, rfl, rfl, .inl ⟨rfl, rfl, e2⟩⟩
theorem vO_impl_NodeBook : ValidM Try.prog n_impl_NodeBook SO_impl_NodeBook.toM := valid_ON encN_inj v_impl_NodeBook
set_option maxHeartbeats 4000000 in
set_option maxRecDepth 100000 in
theorem v_impl_NodeNew : Valid Try.prog n_impl_NodeNew S_impl_NodeNew := by
  refine valid_of_swp mixed is_impl_NodeNew (by rintro _ ⟨a, rfl, _⟩; exact Nat.le_of_ble_eq_true rfl) ?_
  rintro _ rm ⟨i, rfl, hpre⟩ hl
  try dsimp only at hpre
  have hpre0 := hpre
  have hp1 := hpre
  repeat' ((conv => whnf); first
    | refine ⟨_, rfl, ?_⟩
    | refine ⟨rfl, ?_⟩
    | refine ⟨_, _, hupd_at, rfl, rfl, Nat.le_of_ble_eq_true rfl, ?_⟩
    | refine ⟨_, _, rfl, rfl, rfl, Nat.le_of_ble_eq_true rfl, ?_⟩
    | (refine ⟨fun hc => ?_, fun hc => ?_⟩ <;> (try simp (disch := omega) only [List.length_map, wrap64] at hc) <;> (try (exfalso; first | contradiction | omega)))
    | (refine callt (b := [I _]) v_impl_nodeOk rfl ⟨_, rfl, (by exact True.intro)⟩ (.inl rfl) (by first | assumption | omega) (fun r hr => K_impl_nodeOk (a := _) hr) (fun hj => ?_) (fun hj => ?_) <;> (try simp only [etaPa, etaIt, etaVo] at hj) <;> (try contradiction))
    | exact ⟨⟨_, rfl, rfl, i, rfl, (by unfold R_impl_NodeNew; dsimp only; first | done | exact absurd True.intro hj | (first | exact (newR_yes hj).symm | exact (newR_no hj).symm))⟩, (by first | exact Nat.le_refl _ | omega), (by exact h0_)⟩
    | fail)
set_option maxHeartbeats 4000000 in
set_option maxRecDepth 100000 in
theorem v_spec_NodeNew_s : Valid Try.prog n_spec_NodeNew S_spec_NodeNew_s := by
  refine valid_of_swp mixed is_spec_NodeNew (by rintro _ ⟨a, rfl, _⟩; exact Nat.le_of_ble_eq_true rfl) ?_
  rintro _ rm ⟨i, rfl, -⟩ hl
  repeat' ((conv => whnf); first
    | refine ⟨_, rfl, ?_⟩
    | refine ⟨rfl, ?_⟩
    | refine ⟨_, _, rfl, at_map (by assumption), ?_⟩
    | refine idx_mapX (i := 0) rfl (by assumption) ?_
    | refine idx_map (by omega) (fun x hx => ?_)
    | refine idx_mapX (wrap_dn (by omega) (by omega)) (by assumption) ?_
    | refine idx_mapE (wrap_dn (by omega) (by omega)) (by omega) (fun x hx => ?_)
    | refine idx_mapL (by omega) (by first | assumption | (simp only [LIM]; omega)) (fun x hx => ?_)
    | refine idx_mapI (by omega) (by first | omega | (simp only [List.length_map] at *; omega)) (fun x hx => ?_)
    | refine ⟨_, ldc_cells hupd_at (Nat.le_of_ble_eq_true rfl), ?_⟩
    | refine ⟨_, ldc_cells (by first | assumption | exact zk ‹_› (by omega) | exact zk (zk ‹_› (by omega)) (by omega)) (Nat.le_of_ble_eq_true rfl), ?_⟩
    | refine ⟨_, _, hupd_at, rfl, rfl, Nat.le_of_ble_eq_true rfl, ?_⟩
    | refine ⟨_, _, rfl, rfl, rfl, Nat.le_of_ble_eq_true rfl, ?_⟩
    | (refine ⟨?_, _, (?_ : (_ : Option Ob) = _), rfl, rfl, ?_, ?_⟩; rotate_left; (exact hk_); exact Nat.le_of_ble_eq_true rfl)
    | refine ⟨_, _, _, _, ((by exact hk_) : (_ : Option Ob) = _), rfl, at_mapA (by assumption), ?_⟩
    | refine idx_ow (by exact hk_) (by omega) (fun x hx => ?_)
    | refine ⟨_, _, _, _, ((by exact hk_) : (_ : Option Ob) = _), rfl, fill_at (by omega), ?_⟩
    | refine ⟨_, _, _, _, ((by exact hk_) : (_ : Option Ob) = _), fill_at (by omega), rfl, rfl, Nat.le_of_ble_eq_true rfl, ?_⟩
    | refine idx_owL (by exact hk_) (by omega) (by simp only [LIM]; omega) (fun x hx => ?_)
    | refine idx_owI (by exact hk_) (by omega) (by first | omega | (simp only [List.length_map] at *; omega)) (fun x hx => ?_)
    | refine ⟨_, _, _, _, ((by exact hk_) : (_ : Option Ob) = _), at_mapA (by assumption), rfl, rfl, Nat.le_of_ble_eq_true rfl, ?_⟩
    | refine ⟨_, ldc_pa (by exact hk_) (at_mapA (by assumption)) (Nat.le_of_ble_eq_true rfl), ?_⟩
    | refine ⟨_, rfl, rfl, _, ((by exact hk_) : (_ : Option Ob) = _), (by exact ap_), ?_⟩
    | refine ⟨_, news_ow hupd_at, newsz_ow hupd_at, _, ((by exact hk_) : (_ : Option Ob) = _), (by exact ap_), ?_⟩
    | refine ⟨_, _, _, ((by exact hk_) : (_ : Option Ob) = _), ?_⟩
    | refine ⟨_, ((by exact hk_) : (_ : Option Ob) = _), ?_⟩
    | refine ⟨(show _ ≠ _ from (by first | decide | omega)), ?_⟩
    | refine ⟨(show _ ≤ _ from (by exact ap_)), ?_⟩
    | (refine ⟨fun hc => ?_, fun hc => ?_⟩ <;> (try simp (disch := omega) only [List.length_map, wrap64] at hc) <;> (try (exfalso; first | contradiction | omega)))
    | (refine ⟨⟨(by omega), (by omega), (by simp only [List.length_map] at *; simp only [LIM] at *; omega), (by simp only [List.length_map] at *; simp only [LIM] at *; omega)⟩, ?_⟩; (try simp only [List.length_map, Int.toNat_natCast]))
    | (refine ⟨_, slc_to rfl (by first | omega | (simp only [List.length_map] at *; omega)), ?_⟩; rw [map_take'])
    | (refine ⟨_, slc_toI rfl (by omega) (by first | omega | (simp only [List.length_map] at *; omega)), ?_⟩; rw [map_take'])
    | (refine callt (b := [I _, I _, I _]) v_spec_l6In rfl ⟨(_, _, _), rfl, (by exact True.intro)⟩ (.inl rfl) (by first | assumption | omega) (fun r hr => K_spec_l6In (a := (_, _, _)) hr) (fun hj => ?_) (fun hj => ?_) <;> (try simp only [etaPa, etaIt, etaVo] at hj) <;> (try contradiction))
    | fail)
  · exact ⟨⟨_, rfl, rfl, i, rfl, (newR_yes hj).symm⟩, (by first | exact Nat.le_refl _ | exact Nat.le_add_right _ _), h0_⟩
  · exact ⟨⟨_, rfl, rfl, i, rfl, (newR_no hj).symm⟩, (by first | exact Nat.le_refl _ | exact Nat.le_add_right _ _), h0_⟩
set_option maxHeartbeats 4000000 in
set_option maxRecDepth 100000 in
theorem v_spec_DrawNodeNew : Valid Try.prog n_spec_DrawNodeNew S_spec_DrawNodeNew := by
  refine valid_of_swp mixed is_spec_DrawNodeNew (by rintro _ ⟨a, rfl, _⟩; exact Nat.le_of_ble_eq_true rfl) ?_
  rintro _ rm ⟨code, rfl, hpre⟩ hl
  try dsimp only at hpre
  have hpre0 := hpre
  have hp1 := hpre
  have s1 : S_spec_l6Open.st = 0 := rfl
  have c3 : S_spec_DrawNodeNew.cost = 1 := rfl
  have c2 : S_spec_l6Open.cost = 0 := rfl
  have cc_spec_l6Rd_pick : S_spec_l6Rd_pick.cost = 1 := rfl
  repeat' ((conv => whnf); first
    | refine ⟨_, rfl, ?_⟩
    | refine ⟨rfl, ?_⟩
    | refine ⟨_, ((by exact hk_) : (_ : Option Ob) = _), ?_⟩
    | (refine ⟨fun hc => ?_, fun hc => ?_⟩ <;> (try simp (disch := omega) only [List.length_map, wrap64] at hc))
    | (refine mq_open (Q := fun g => ∃ b, g = byF b ∧ RdOk b) (ar := [one (byF _)]) v_spec_l6Open (by first | assumption | omega) rfl rfl ⟨_, rfl, rfl, (by assumption)⟩ (fun r obs' h => by obtain ⟨b, h1, h2, h3⟩ := K_spec_l6Open h; exact ⟨byF b, h1, h2, b, rfl, h3⟩) (fun g hg => ?_); obtain ⟨b, rfl, hrd⟩ := hg)
    | fail)
  repeat' ((conv => whnf); first
    | refine ⟨_, rfl, ?_⟩
    | refine ⟨rfl, ?_⟩
    | refine ⟨_, ((by exact hk_) : (_ : Option Ob) = _), ?_⟩
    | (refine ⟨fun hc => ?_, fun hc => ?_⟩ <;> (try simp (disch := omega) only [List.length_map, wrap64] at hc))
    | (refine callrd (by exact hk_) rfl rfl ⟨(_, _), rfl, (by exact pr_)⟩ v_spec_l6Rd_pick (by omega) (fun r hr => ?_); have hj := K_spec_l6Rd_pick (a := (_, _)) hr; clear hr; obtain ⟨k, rfl, hk0, hk1⟩ := hj; dsimp only at hk1; (try simp (disch := omega) only [List.length_map, ncast, wrap64] at hk1))
    | fail)
  refine ⟨⟨_, rfl, rfl, code, rfl, ?_⟩, (by omega), h0_⟩
  unfold R_spec_DrawNodeNew
  exact ⟨_, rfl, by omega, by omega⟩
end Av
end Go.Proofs.Ytdboofnogabefaa

namespace Go.Proofs.Ytdboofnogabefaa
namespace Av
open Go.RowKit
def R_laws_FnNodeNew (a : (List Int)) (r : AV) : Prop := r = B true
theorem inh_laws_FnNodeNew : ∀ a : List Int, LawB a → ∃ r, R_laws_FnNodeNew a r ∧ okV noN r := inh_yes (R := R_laws_FnNodeNew) fun _ => rfl
noncomputable def S_laws_FnNodeNew : FSpec := mkR (α := (List Int)) (fun a => [one (byF a)]) (fun a => LawB a) R_laws_FnNodeNew 200000 false (fun h => by cases h) inh_laws_FnNodeNew (fun _ => rfl)
theorem K_laws_FnNodeNew {a : (List Int)} {r : AV} (h : S_laws_FnNodeNew.post ([one (byF a)]) r) : R_laws_FnNodeNew a r :=
  mkR_post (a := a) (by intro a b h; simpa only [List.cons.injEq, and_true, true_and, one_inj, agg_inj, paF_inj, itF_inj, chF_inj, voF_inj, vsF_inj, csF_inj, nsF_inj, nssF_inj, ndF_inj, ceF_inj, woF_inj, evF_inj, byF_inj, ndsF_inj, evsF_inj, pasF_inj, aI_inj, aB_inj, aRp_inj, fI_inj, fBo_inj] using h) h
end Av
end Go.Proofs.Ytdboofnogabefaa

