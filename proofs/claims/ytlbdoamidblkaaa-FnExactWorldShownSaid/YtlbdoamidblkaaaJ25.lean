/- Texts of the layer, joined. -/
import Derived.Test.YtlbdoamidblkaaaJ15
import Derived.Test.YtlbdoamidblkaaaD1
import Derived.Test.YtlbdoamidblkaaaProg
import Derived.KernelRfl
set_option linter.unusedVariables false
set_option linter.unusedSimpArgs false
namespace Go.Proofs.Ytlbdoamidblkaaa
namespace Av
noncomputable def c_impl_final : FC := { n := 42, res := [⟨none, 2, []⟩], body :=
 (.seq
 (.rg [⟨some 2, none, .mv (.k (.int .i64 0))⟩])
 (.seq
 (.seq
 (.rg [⟨some 4, none, .mv (.t 0)⟩,
   ⟨some 5, none, .len (.t 4)⟩,
   ⟨some 3, none, .mv (.t 5)⟩])
 (.block 0
 (.loop
 (.seq
 (.seq
 (.rg [⟨some 6, none, .mv (.t 3)⟩,
   ⟨some 7, none, .bin 0 .gtr (.t 6) (.k (.int .i64 2))⟩])
 (.cond (.t 7)
 .skip
 (.exit 0)))
 (.seq
 (.block 1
 (.seq
 (.rg [⟨some 10, none, .mv (.t 0)⟩,
   ⟨some 11, none, .mv (.t 3)⟩,
   ⟨some 12, none, .bin 0 .sub (.t 11) (.k (.int .i64 3))⟩,
   ⟨some 13, none, .idx 4 (.t 10) (.t 12)⟩,
   ⟨some 14, none, .fld 0 (.t 13)⟩,
   ⟨some 15, none, .load none (.t 14)⟩,
   ⟨some 16, none, .bin 0 .add (.t 15) (.k (.int .i64 1))⟩,
   ⟨some 17, none, .mv (.t 0)⟩,
   ⟨some 18, none, .mv (.t 3)⟩,
   ⟨some 19, none, .bin 0 .sub (.t 18) (.k (.int .i64 2))⟩,
   ⟨some 20, none, .idx 4 (.t 17) (.t 19)⟩,
   ⟨some 21, none, .fld 0 (.t 20)⟩,
   ⟨some 22, none, .load none (.t 21)⟩,
   ⟨some 23, none, .bin 0 .eql (.t 16) (.t 22)⟩,
   ⟨some 24, none, .mv (.t 23)⟩,
   ⟨some 25, some (24, true), .mv (.t 0)⟩,
   ⟨some 26, some (24, true), .mv (.t 3)⟩,
   ⟨some 27, some (24, true), .bin 0 .sub (.t 26) (.k (.int .i64 2))⟩,
   ⟨some 28, some (24, true), .idx 4 (.t 25) (.t 27)⟩,
   ⟨some 29, some (24, true), .fld 0 (.t 28)⟩,
   ⟨some 30, some (24, true), .load none (.t 29)⟩,
   ⟨some 31, some (24, true), .bin 0 .add (.t 30) (.k (.int .i64 1))⟩,
   ⟨some 32, some (24, true), .mv (.t 0)⟩,
   ⟨some 33, some (24, true), .mv (.t 3)⟩,
   ⟨some 34, some (24, true), .bin 0 .sub (.t 33) (.k (.int .i64 1))⟩,
   ⟨some 35, some (24, true), .idx 4 (.t 32) (.t 34)⟩,
   ⟨some 36, some (24, true), .fld 0 (.t 35)⟩,
   ⟨some 37, some (24, true), .load none (.t 36)⟩,
   ⟨some 38, some (24, true), .bin 0 .eql (.t 31) (.t 37)⟩,
   ⟨some 39, none, .pick (.t 24) (.t 38) (.k (.bool false))⟩])
 (.cond (.t 39)
 (.seq
 (.rg [⟨some 40, none, .mv (.t 3)⟩,
   ⟨some 41, none, .bin 0 .sub (.t 40) (.k (.int .i64 1))⟩,
   ⟨some 2, none, .mv (.t 41)⟩])
 .ret)
 .skip)))
 (.rg [⟨some 8, none, .mv (.t 3)⟩,
   ⟨some 9, none, .bin 0 .sub (.t 8) (.k (.int .i64 1))⟩,
   ⟨some 3, none, .mv (.t 9)⟩]))))))
 (.seq
 (.rg [⟨some 2, none, .mv (.k (.int .i64 0))⟩])
 .ret))) }
theorem is_impl_final : IsF Try.prog n_impl_final c_impl_final := ⟨Try.f86, _, Try.func86, rfl, by decide, rfl, by kernel_rfl, by kernel_rfl⟩
end Av
end Go.Proofs.Ytlbdoamidblkaaa

namespace Go.Proofs.Ytlbdoamidblkaaa
namespace Av
open Go.RowKit
/-- How a sure chain begins is sure. -/
theorem Sure.take {l : List Vo} {c : List It} (h : Sure l c) (k : Nat) : Sure l (c.take k) := by
  intro n h1 h2
  simp only [List.length_take] at h2
  unfold SureAt
  rw [List.take_take, Nat.min_eq_left (by omega)]
  exact h n h1 (by omega)
theorem finAt_ge {c : List It} {k : Nat} (h : Con3 c k) : ∀ m, k < m → k + 2 ≤ finAt c m
  | 0, h' => by omega
  | m + 1, h' => by
    by_cases e : Con3 c m
    · rw [finAt_yes e]; omega
    · rw [finAt_no e]
      refine finAt_ge h m ?_
      rcases Nat.lt_or_ge k m with h1 | h1
      · exact h1
      · rw [show k = m from by omega] at h; exact absurd h e
theorem finIn_ge {c : List It} {k : Nat} (h : Con3 c k) : k + 2 ≤ finIn c := finAt_ge h _ (by have := con3_lt h; omega)
/-- Behind what is final there is an item more. -/
theorem finAt_con {c : List It} : ∀ {m : Nat}, finAt c m ≠ 0 → ∃ k, finAt c m = k + 2 ∧ Con3 c k
  | 0, h => absurd rfl h
  | m + 1, h => by
    by_cases e : Con3 c m
    · exact ⟨m, finAt_yes e, e⟩
    · rw [finAt_no e] at h ⊢
      exact finAt_con h
end Av
end Go.Proofs.Ytlbdoamidblkaaa

