/- The walks: a node's book; a new node. -/
import Derived.Test.YtdboofnogabefaaJ39
import Derived.Test.YtdboofnogabefaaBD
import Derived.Test.YtdboofnogabefaaZC
import Derived.Test.YtdboofnogabefaaJ46
import Derived.Test.YtdboofnogabefaaT2
import Derived.Test.YtdboofnogabefaaJ37
import Derived.Test.YtdboofnogabefaaJ44
set_option linter.unusedVariables false
set_option linter.unusedSimpArgs false
namespace Go.Proofs.Ytdboofnogabefaa
namespace Av
open Go.RowKit
attribute [local irreducible] Valid ValidM
set_option maxHeartbeats 4000000 in
set_option maxRecDepth 100000 in
theorem v_impl_NodeBook : ValidM Try.prog n_impl_NodeBook S_impl_NodeBook := by
  refine validM_of_swp mixed is_impl_NodeBook (by rintro _ _ ⟨a, rfl, _⟩; exact Nat.le_of_ble_eq_true rfl) ?_
  rintro _ _ rm ⟨n, rfl, rfl, hpre⟩ hl
  try dsimp only at hpre
  change swp _ _ _ _ _ 0 _
  have c1 : S_impl_NodeBook.cost = 0 := rfl
  have c2 : S_impl_NodeOk.cost = 0 := rfl
  have c3 : S_impl_votes_final.cost = 0 := rfl
  by_cases hok : NodeOk n
  · have hlt : n.seen.length < LIM := Nat.lt_of_le_of_lt hok.2.2.2.1 (by decide)
    have hfl : (fin n.seen).length ≤ LIM := (by rw [← fin_ok hok.2.2.2.2.1]; exact finT_len hpre)
    have e2 : bookN n = bookOf (fin n.seen) := by unfold bookN; rw [tb_pos hok]; rfl
    repeat' ((conv => whnf); first
      | refine ⟨_, rfl, ?_⟩
      | refine ⟨rfl, ?_⟩
      | refine ⟨_, ldc_cells hupd_at (Nat.le_of_ble_eq_true rfl), ?_⟩
      | refine ⟨_, ldc_cells (by first | assumption | exact zk ‹_› (by omega) | exact zk (zk ‹_› (by omega)) (by omega)) (Nat.le_of_ble_eq_true rfl), ?_⟩
      | refine ⟨_, ldc_pa (by exact hk_) (at_mapA (by assumption)) (Nat.le_of_ble_eq_true rfl), ?_⟩
      | refine ⟨_, ((by exact hk_) : (_ : Option Ob) = _), ?_⟩
      | (refine ⟨fun hc => ?_, fun hc => ?_⟩ <;> (try simp (disch := omega) only [List.length_map, wrap64] at hc) <;> (try (exfalso; first | contradiction | omega)))
      | (refine ⟨⟨n, rfl, (by exact pr_)⟩, v_impl_NodeOk, (.inl rfl), (by first | assumption | omega), fun r hr => ?_⟩; rcases K_impl_NodeOk (a := n) hr with ⟨hj, rfl⟩ | ⟨hj, rfl⟩ <;> clear hr <;> (try simp only [etaPa, etaIt, etaVo] at hj) <;> (try simp only [etaNd, etaWo] at hj) <;> (try contradiction))
      | (refine calle (b := [one (vsF _)]) v_impl_votes_final rfl ⟨_, rfl, (by refine ⟨?_, ?_⟩ <;> (exact pr_))⟩ (.inl rfl) (by first | assumption | omega) (fun r hr => K_impl_votes_final (a := _) hr) ?_)
      | fail)
    refine OQ.mk1 (ar := [one (chF (fin n.seen))]) (by rfl) ⟨_, rfl, hfl⟩ vO_impl_BookOf (so_impl_BookOf _) ?_
    repeat' ((conv => whnf); first
      | refine ⟨_, rfl, ?_⟩
      | refine ⟨rfl, ?_⟩
      | refine ⟨_, ldc_cells hupd_at (Nat.le_of_ble_eq_true rfl), ?_⟩
      | refine ⟨_, ldc_cells (by first | assumption | exact zk ‹_› (by omega) | exact zk (zk ‹_› (by omega)) (by omega)) (Nat.le_of_ble_eq_true rfl), ?_⟩
      | refine ⟨_, ldc_pa (by exact hk_) (at_mapA (by assumption)) (Nat.le_of_ble_eq_true rfl), ?_⟩
      | refine ⟨_, ((by exact hk_) : (_ : Option Ob) = _), ?_⟩
      | (refine ⟨fun hc => ?_, fun hc => ?_⟩ <;> (try simp (disch := omega) only [List.length_map, wrap64] at hc))
      | fail)
    exact finM_new (F := inF) (T := ty_int) (sz := 1) (l := bookOf (fin n.seen)) (by omega) hupd_at ⟨⟨_, rfl, .inl rfl⟩, trivial⟩ ⟨n, rfl, rfl, .inr ⟨rfl, congrArg (fun z => [some (isO z)]) e2.symm⟩⟩
  · have e2 : bookN n = [] := by unfold bookN; rw [tb_neg hok]; rfl
    repeat' ((conv => whnf); first
      | refine ⟨_, rfl, ?_⟩
      | refine ⟨rfl, ?_⟩
      | refine ⟨_, ldc_cells hupd_at (Nat.le_of_ble_eq_true rfl), ?_⟩
      | refine ⟨_, ldc_cells (by first | assumption | exact zk ‹_› (by omega) | exact zk (zk ‹_› (by omega)) (by omega)) (Nat.le_of_ble_eq_true rfl), ?_⟩
      | refine ⟨_, ldc_pa (by exact hk_) (at_mapA (by assumption)) (Nat.le_of_ble_eq_true rfl), ?_⟩
      | refine ⟨_, ((by exact hk_) : (_ : Option Ob) = _), ?_⟩
      | (refine ⟨fun hc => ?_, fun hc => ?_⟩ <;> (try simp (disch := omega) only [List.length_map, wrap64] at hc) <;> (try (exfalso; first | contradiction | omega)))
      | (refine ⟨⟨n, rfl, (by exact pr_)⟩, v_impl_NodeOk, (.inl rfl), (by first | assumption | omega), fun r hr => ?_⟩; rcases K_impl_NodeOk (a := n) hr with ⟨hj, rfl⟩ | ⟨hj, rfl⟩ <;> clear hr <;> (try simp only [etaPa, etaIt, etaVo] at hj) <;> (try simp only [etaNd, etaWo] at hj) <;> (try contradiction))
      | fail)
    exact finM_e0 (by omega) ⟨⟨_, rfl, .inl rfl⟩, trivial⟩ ⟨n, rfl, rfl, .inl ⟨rfl, rfl, e2⟩⟩
theorem vO_impl_NodeBook : ValidM Try.prog n_impl_NodeBook SO_impl_NodeBook.toM := valid_ON encN_inj v_impl_NodeBook
set_option maxHeartbeats 4000000 in
set_option maxRecDepth 100000 in
theorem v_spec_NodeBook : Valid Try.prog n_spec_NodeBook S_spec_NodeBook := by
  refine valid_of_swp mixed is_spec_NodeBook (by rintro _ ⟨a, rfl, _⟩; exact Nat.le_of_ble_eq_true rfl) ?_
  rintro _ rm ⟨n, rfl, hpre⟩ hl
  try dsimp only at hpre
  have hpre0 := hpre
  have hp1 := hpre
  have cc_spec_NodeBook : S_spec_NodeBook.cost = 0 := rfl
  have cc_spec_NodeOk : S_spec_NodeOk.cost = 0 := rfl
  have cc_spec_l11Final : S_spec_l11Final.cost = 0 := rfl
  have cc_spec_BookOf : S_spec_BookOf.cost = 0 := rfl
  by_cases hok : NodeOk n
  · have hlt : n.seen.length < LIM := Nat.lt_of_le_of_lt hok.2.2.2.1 (by decide)
    have hfe := finM_eq hok.2.2.2.2.1
    have hfl : (finM n.seen).length ≤ LIM := by rw [hfe]; rw [← fin_ok hok.2.2.2.2.1]; exact finT_len hp1
    have e2 : bookN n = bookOf (finM n.seen) := by unfold bookN; rw [tb_pos hok, hfe]; rfl
    repeat' ((conv => whnf); first
      | refine ⟨_, rfl, ?_⟩
      | refine ⟨rfl, ?_⟩
      | refine ⟨_, ldc_cells hupd_at (Nat.le_of_ble_eq_true rfl), ?_⟩
      | refine ⟨_, ldc_cells (by first | assumption | exact zk ‹_› (by omega) | exact zk (zk ‹_› (by omega)) (by omega)) (Nat.le_of_ble_eq_true rfl), ?_⟩
      | refine ⟨_, ldc_pa (by exact hk_) (at_mapA (by assumption)) (Nat.le_of_ble_eq_true rfl), ?_⟩
      | refine ⟨_, ((by exact hk_) : (_ : Option Ob) = _), ?_⟩
      | (refine ⟨fun hc => ?_, fun hc => ?_⟩ <;> (try simp (disch := omega) only [List.length_map, wrap64] at hc) <;> (try (exfalso; first | contradiction | omega)))
      | (refine ⟨⟨n, rfl, (by exact pr_)⟩, v_spec_NodeOk, (.inl rfl), (by first | assumption | omega), fun r hr => ?_⟩; rcases K_spec_NodeOk (a := n) hr with ⟨hj, rfl⟩ | ⟨hj, rfl⟩ <;> clear hr <;> (try simp only [etaPa, etaIt, etaVo] at hj) <;> (try simp only [etaNd, etaWo] at hj) <;> (try contradiction))
      | (refine calle (b := [one (vsF _)]) v_spec_l11Final rfl ⟨_, rfl, (by refine ⟨?_, ?_⟩ <;> (exact pr_))⟩ (.inl rfl) (by first | assumption | omega) (fun r hr => K_spec_l11Final (a := _) hr) ?_)
      | (refine calle (b := [one (chF _)]) v_spec_BookOf rfl ⟨_, rfl, (by exact pr_)⟩ (.inl rfl) (by first | assumption | omega) (fun r hr => K_spec_BookOf (a := _) hr) ?_)
      | exact ⟨⟨_, rfl, rfl, n, rfl, rfl⟩, (by first | exact Nat.le_refl _ | omega), (by exact h0_)⟩
      | exact ⟨⟨_, rfl, rfl, n, rfl, (by refine congrArg one (?_ : (_ : FV) = _); (try dsimp only); first | done | exact absurd True.intro hj | (exact congrArg nsF e2.symm))⟩, (by first | exact Nat.le_refl _ | omega), (by exact h0_)⟩
      | exact ⟨⟨[.o (.c _)], congrArg (fun x => some [AW.o x]) (bor_ow (by exact hk_) (by first | rfl | (exact fcellss_c _))), rfl, n, rfl, (by first | rfl | (refine congrArg one (?_ : (_ : FV) = _); (try dsimp only); first | done | exact absurd True.intro hj | (exact congrArg nsF e2.symm)))⟩, (by first | exact Nat.le_refl _ | omega), (by exact h0_)⟩
      | fail)
  · have e2 : bookN n = [] := by unfold bookN; rw [tb_neg hok]; rfl
    repeat' ((conv => whnf); first
      | refine ⟨_, rfl, ?_⟩
      | refine ⟨rfl, ?_⟩
      | refine ⟨_, ldc_cells hupd_at (Nat.le_of_ble_eq_true rfl), ?_⟩
      | refine ⟨_, ldc_cells (by first | assumption | exact zk ‹_› (by omega) | exact zk (zk ‹_› (by omega)) (by omega)) (Nat.le_of_ble_eq_true rfl), ?_⟩
      | refine ⟨_, ldc_pa (by exact hk_) (at_mapA (by assumption)) (Nat.le_of_ble_eq_true rfl), ?_⟩
      | refine ⟨_, ((by exact hk_) : (_ : Option Ob) = _), ?_⟩
      | (refine ⟨fun hc => ?_, fun hc => ?_⟩ <;> (try simp (disch := omega) only [List.length_map, wrap64] at hc) <;> (try (exfalso; first | contradiction | omega)))
      | (refine ⟨⟨n, rfl, (by exact pr_)⟩, v_spec_NodeOk, (.inl rfl), (by first | assumption | omega), fun r hr => ?_⟩; rcases K_spec_NodeOk (a := n) hr with ⟨hj, rfl⟩ | ⟨hj, rfl⟩ <;> clear hr <;> (try simp only [etaPa, etaIt, etaVo] at hj) <;> (try simp only [etaNd, etaWo] at hj) <;> (try contradiction))
      | exact ⟨⟨_, rfl, rfl, n, rfl, rfl⟩, (by first | exact Nat.le_refl _ | omega), (by exact h0_)⟩
      | exact ⟨⟨_, rfl, rfl, n, rfl, (by refine congrArg one (?_ : (_ : FV) = _); (try dsimp only); first | done | exact absurd True.intro hj | (exact congrArg nsF e2.symm))⟩, (by first | exact Nat.le_refl _ | omega), (by exact h0_)⟩
      | exact ⟨⟨[.o (.c _)], congrArg (fun x => some [AW.o x]) (bor_ow (by exact hk_) (by first | rfl | (exact fcellss_c _))), rfl, n, rfl, (by first | rfl | (refine congrArg one (?_ : (_ : FV) = _); (try dsimp only); first | done | exact absurd True.intro hj | (exact congrArg nsF e2.symm)))⟩, (by first | exact Nat.le_refl _ | omega), (by exact h0_)⟩
      | fail)
end Av
end Go.Proofs.Ytdboofnogabefaa
