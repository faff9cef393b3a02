/- The functions' code in the small language, and that it is theirs. -/
import Derived.Test.YtkpncekaehgbdaaE2
import Derived.Test.YtkpncekaehgbdaaD1
import Derived.Test.YtkpncekaehgbdaaProg
import Derived.KernelRfl
set_option linter.unusedVariables false
namespace Go.Proofs.Ytkpncekaehgbdaa
namespace Av
noncomputable def c_spec_l6In : FC := { n := 15, res := [⟨none, 6, []⟩], body :=
 (.seq
 (.rg [⟨some 6, none, .mv (.k (.bool false))⟩])
 (.seq
 (.rg [⟨some 7, none, .mv (.t 0)⟩,
   ⟨some 8, none, .mv (.t 1)⟩,
   ⟨some 9, none, .bin 0 .geq (.t 7) (.t 8)⟩,
   ⟨some 10, none, .mv (.t 9)⟩,
   ⟨some 11, some (10, true), .mv (.t 0)⟩,
   ⟨some 12, some (10, true), .mv (.t 2)⟩,
   ⟨some 13, some (10, true), .bin 0 .leq (.t 11) (.t 12)⟩,
   ⟨some 14, none, .pick (.t 10) (.t 13) (.k (.bool false))⟩,
   ⟨some 6, none, .mv (.t 14)⟩])
 .ret)) }
theorem is_spec_l6In : IsF Try.prog n_spec_l6In c_spec_l6In := ⟨Try.f65, _, Try.func65, rfl, by decide, rfl, by kernel_rfl, by kernel_rfl⟩
noncomputable def c_spec_PayOk : FC := { n := 23, res := [⟨none, 2, []⟩], body :=
 (.seq
 (.rg [⟨some 1, none, .box (.t 0)⟩,
   ⟨some 2, none, .mv (.k (.bool false))⟩])
 (.seq
 (.rg [⟨some 3, none, .fld 0 (.t 1)⟩,
   ⟨some 4, none, .load none (.t 3)⟩,
   ⟨some 5, none, .call n_spec_l6In S_spec_l6In [(.t 4, []), (.k (.int .i64 1), []), (.k (.int .i64 3), [])]⟩,
   ⟨some 6, none, .mv (.t 5)⟩,
   ⟨some 7, some (6, true), .fld 1 (.t 1)⟩,
   ⟨some 8, some (6, true), .load none (.t 7)⟩,
   ⟨some 9, some (6, true), .call n_spec_l6In S_spec_l6In [(.t 8, []), (.k (.int .i64 1), []), (.k (.int .i64 3), [])]⟩,
   ⟨some 10, none, .pick (.t 6) (.t 9) (.k (.bool false))⟩,
   ⟨some 11, none, .mv (.t 10)⟩,
   ⟨some 12, some (11, true), .fld 0 (.t 1)⟩,
   ⟨some 13, some (11, true), .load none (.t 12)⟩,
   ⟨some 14, some (11, true), .fld 1 (.t 1)⟩,
   ⟨some 15, some (11, true), .load none (.t 14)⟩,
   ⟨some 16, some (11, true), .bin 0 .neq (.t 13) (.t 15)⟩,
   ⟨some 17, none, .pick (.t 11) (.t 16) (.k (.bool false))⟩,
   ⟨some 18, none, .mv (.t 17)⟩,
   ⟨some 19, some (18, true), .fld 2 (.t 1)⟩,
   ⟨some 20, some (18, true), .load none (.t 19)⟩,
   ⟨some 21, some (18, true), .call n_spec_l6In S_spec_l6In [(.t 20, []), (.k (.int .i64 1), []), (.k (.int .i64 9), [])]⟩,
   ⟨some 22, none, .pick (.t 18) (.t 21) (.k (.bool false))⟩,
   ⟨some 2, none, .mv (.t 22)⟩])
 .ret)) }
theorem is_spec_PayOk : IsF Try.prog n_spec_PayOk c_spec_PayOk := ⟨Try.f49, _, Try.func49, rfl, by decide, rfl, by kernel_rfl, by kernel_rfl⟩
noncomputable def c_spec_ChainOk : FC := { n := 47, res := [⟨none, 2, []⟩], body :=
 (.seq
 (.rg [⟨some 2, none, .mv (.k (.bool false))⟩])
 (.seq
 (.seq
 (.rg [⟨some 3, none, .mv (.k (.int .i64 0))⟩])
 (.block 0
 (.loop
 (.seq
 (.seq
 (.rg [⟨some 4, none, .mv (.t 3)⟩,
   ⟨some 5, none, .mv (.t 0)⟩,
   ⟨some 6, none, .len (.t 5)⟩,
   ⟨some 7, none, .bin 0 .lss (.t 4) (.t 6)⟩])
 (.cond (.t 7)
 .skip
 (.exit 0)))
 (.seq
 (.block 1
 (.seq
 (.rg [⟨some 10, none, .mv (.t 0)⟩,
   ⟨some 11, none, .mv (.t 3)⟩,
   ⟨some 12, none, .idx 4 (.t 10) (.t 11)⟩,
   ⟨some 13, none, .fld 0 (.t 12)⟩,
   ⟨some 14, none, .load none (.t 13)⟩,
   ⟨some 15, none, .call n_spec_l6In S_spec_l6In [(.t 14, []), (.k (.int .i64 1), []), (.k (.int .i64 30), [])]⟩,
   ⟨some 16, none, .un .not (.t 15)⟩,
   ⟨some 17, none, .mv (.t 16)⟩,
   ⟨some 18, some (17, false), .mv (.t 0)⟩,
   ⟨some 19, some (17, false), .mv (.t 3)⟩,
   ⟨some 20, some (17, false), .idx 4 (.t 18) (.t 19)⟩,
   ⟨some 21, some (17, false), .fld 1 (.t 20)⟩,
   ⟨some 22, some (17, false), .load (some 3) (.t 21)⟩,
   ⟨some 23, some (17, false), .call n_spec_PayOk S_spec_PayOk [(.t 22, [])]⟩,
   ⟨some 24, some (17, false), .un .not (.t 23)⟩,
   ⟨some 25, none, .pick (.t 17) (.k (.bool true)) (.t 24)⟩,
   ⟨some 26, none, .mv (.t 25)⟩,
   ⟨some 27, some (26, false), .mv (.t 3)⟩,
   ⟨some 28, some (26, false), .bin 0 .gtr (.t 27) (.k (.int .i64 0))⟩,
   ⟨some 29, some (26, false), .mv (.t 28)⟩,
   ⟨some 30, some (29, true), .mv (.t 0)⟩,
   ⟨some 31, some (29, true), .mv (.t 3)⟩,
   ⟨some 32, some (29, true), .bin 0 .sub (.t 31) (.k (.int .i64 1))⟩,
   ⟨some 33, some (29, true), .idx 4 (.t 30) (.t 32)⟩,
   ⟨some 34, some (29, true), .fld 0 (.t 33)⟩,
   ⟨some 35, some (29, true), .load none (.t 34)⟩,
   ⟨some 36, some (29, true), .mv (.t 0)⟩,
   ⟨some 37, some (29, true), .mv (.t 3)⟩,
   ⟨some 38, some (29, true), .idx 4 (.t 36) (.t 37)⟩,
   ⟨some 39, some (29, true), .fld 0 (.t 38)⟩,
   ⟨some 40, some (29, true), .load none (.t 39)⟩,
   ⟨some 41, some (29, true), .bin 0 .geq (.t 35) (.t 40)⟩,
   ⟨some 42, some (26, false), .pick (.t 29) (.t 41) (.k (.bool false))⟩,
   ⟨some 43, none, .pick (.t 26) (.k (.bool true)) (.t 42)⟩])
 (.cond (.t 43)
 (.seq
 (.rg [⟨some 2, none, .mv (.k (.bool false))⟩])
 .ret)
 .skip)))
 (.rg [⟨some 8, none, .mv (.t 3)⟩,
   ⟨some 9, none, .bin 0 .add (.t 8) (.k (.int .i64 1))⟩,
   ⟨some 3, none, .mv (.t 9)⟩]))))))
 (.seq
 (.rg [⟨some 44, none, .mv (.t 0)⟩,
   ⟨some 45, none, .len (.t 44)⟩,
   ⟨some 46, none, .bin 0 .leq (.t 45) (.k (.int .i64 16))⟩,
   ⟨some 2, none, .mv (.t 46)⟩])
 .ret))) }
theorem is_spec_ChainOk : IsF Try.prog n_spec_ChainOk c_spec_ChainOk := ⟨Try.f111, _, Try.func111, rfl, by decide, rfl, by kernel_rfl, by kernel_rfl⟩
noncomputable def c_spec_l1In : FC := { n := 26, res := [⟨none, 4, []⟩], body :=
 (.seq
 (.rg [⟨some 4, none, .mv (.k (.bool false))⟩])
 (.seq
 (.seq
 (.rg [⟨some 6, none, .mv (.t 0)⟩,
   ⟨some 7, none, .len (.t 6)⟩,
   ⟨some 8, none, .mv (.t 1)⟩,
   ⟨some 9, none, .len (.t 8)⟩,
   ⟨some 10, none, .bin 0 .gtr (.t 7) (.t 9)⟩])
 (.cond (.t 10)
 (.seq
 (.rg [⟨some 4, none, .mv (.k (.bool false))⟩])
 .ret)
 .skip))
 (.seq
 (.seq
 (.rg [⟨some 5, none, .mv (.k (.int .i64 0))⟩])
 (.block 0
 (.loop
 (.seq
 (.seq
 (.rg [⟨some 11, none, .mv (.t 5)⟩,
   ⟨some 12, none, .mv (.t 0)⟩,
   ⟨some 13, none, .len (.t 12)⟩,
   ⟨some 14, none, .bin 0 .lss (.t 11) (.t 13)⟩])
 (.cond (.t 14)
 .skip
 (.exit 0)))
 (.seq
 (.block 1
 (.seq
 (.rg [⟨some 17, none, .mv (.t 0)⟩,
   ⟨some 18, none, .mv (.t 5)⟩,
   ⟨some 19, none, .idx 4 (.t 17) (.t 18)⟩,
   ⟨some 20, none, .load (some 4) (.t 19)⟩,
   ⟨some 21, none, .mv (.t 1)⟩,
   ⟨some 22, none, .mv (.t 5)⟩,
   ⟨some 23, none, .idx 4 (.t 21) (.t 22)⟩,
   ⟨some 24, none, .load (some 4) (.t 23)⟩,
   ⟨some 25, none, .eqs true 40 4 (.t 20) (.t 24)⟩])
 (.cond (.t 25)
 (.seq
 (.rg [⟨some 4, none, .mv (.k (.bool false))⟩])
 .ret)
 .skip)))
 (.rg [⟨some 15, none, .mv (.t 5)⟩,
   ⟨some 16, none, .bin 0 .add (.t 15) (.k (.int .i64 1))⟩,
   ⟨some 5, none, .mv (.t 16)⟩]))))))
 (.seq
 (.rg [⟨some 4, none, .mv (.k (.bool true))⟩])
 .ret)))) }
theorem is_spec_l1In : IsF Try.prog n_spec_l1In c_spec_l1In := ⟨Try.f151, _, Try.func151, rfl, by decide, rfl, by kernel_rfl, by kernel_rfl⟩
noncomputable def c_spec_l3Same : FC := { n := 15, res := [⟨none, 4, []⟩], body :=
 (.seq
 (.rg [⟨some 4, none, .mv (.k (.bool false))⟩])
 (.seq
 (.rg [⟨some 5, none, .mv (.t 0)⟩,
   ⟨some 6, none, .len (.t 5)⟩,
   ⟨some 7, none, .mv (.t 1)⟩,
   ⟨some 8, none, .len (.t 7)⟩,
   ⟨some 9, none, .bin 0 .eql (.t 6) (.t 8)⟩,
   ⟨some 10, none, .mv (.t 9)⟩,
   ⟨some 11, some (10, true), .mv (.t 0)⟩,
   ⟨some 12, some (10, true), .mv (.t 1)⟩,
   ⟨some 13, some (10, true), .call n_spec_l1In S_spec_l1In [(.t 11, [some 4]), (.t 12, [some 4])]⟩,
   ⟨some 14, none, .pick (.t 10) (.t 13) (.k (.bool false))⟩,
   ⟨some 4, none, .mv (.t 14)⟩])
 .ret)) }
theorem is_spec_l3Same : IsF Try.prog n_spec_l3Same c_spec_l3Same := ⟨Try.f127, _, Try.func127, rfl, by decide, rfl, by kernel_rfl, by kernel_rfl⟩
noncomputable def c_spec_l3Has : FC := { n := 30, res := [⟨none, 4, []⟩], body :=
 (.seq
 (.rg [⟨some 3, none, .box (.t 1)⟩,
   ⟨some 4, none, .mv (.k (.bool false))⟩])
 (.seq
 (.seq
 (.rg [⟨some 5, none, .mv (.k (.int .i64 0))⟩])
 (.block 0
 (.loop
 (.seq
 (.seq
 (.rg [⟨some 6, none, .mv (.t 5)⟩,
   ⟨some 7, none, .mv (.t 0)⟩,
   ⟨some 8, none, .len (.t 7)⟩,
   ⟨some 9, none, .bin 0 .lss (.t 6) (.t 8)⟩])
 (.cond (.t 9)
 .skip
 (.exit 0)))
 (.seq
 (.block 1
 (.seq
 (.rg [⟨some 12, none, .mv (.t 0)⟩,
   ⟨some 13, none, .mv (.t 5)⟩,
   ⟨some 14, none, .idx 2 (.t 12) (.t 13)⟩,
   ⟨some 15, none, .fld 0 (.t 14)⟩,
   ⟨some 16, none, .load none (.t 15)⟩,
   ⟨some 17, none, .fld 0 (.t 3)⟩,
   ⟨some 18, none, .load none (.t 17)⟩,
   ⟨some 19, none, .bin 0 .eql (.t 16) (.t 18)⟩,
   ⟨some 20, none, .mv (.t 19)⟩,
   ⟨some 21, some (20, true), .mv (.t 0)⟩,
   ⟨some 22, some (20, true), .mv (.t 5)⟩,
   ⟨some 23, some (20, true), .idx 2 (.t 21) (.t 22)⟩,
   ⟨some 24, some (20, true), .fld 1 (.t 23)⟩,
   ⟨some 25, some (20, true), .load none (.t 24)⟩,
   ⟨some 26, some (20, true), .fld 1 (.t 3)⟩,
   ⟨some 27, some (20, true), .load none (.t 26)⟩,
   ⟨some 28, some (20, true), .call n_spec_l3Same S_spec_l3Same [(.t 25, [some 4]), (.t 27, [some 4])]⟩,
   ⟨some 29, none, .pick (.t 20) (.t 28) (.k (.bool false))⟩])
 (.cond (.t 29)
 (.seq
 (.rg [⟨some 4, none, .mv (.k (.bool true))⟩])
 .ret)
 .skip)))
 (.rg [⟨some 10, none, .mv (.t 5)⟩,
   ⟨some 11, none, .bin 0 .add (.t 10) (.k (.int .i64 1))⟩,
   ⟨some 5, none, .mv (.t 11)⟩]))))))
 (.seq
 (.rg [⟨some 4, none, .mv (.k (.bool false))⟩])
 .ret))) }
theorem is_spec_l3Has : IsF Try.prog n_spec_l3Has c_spec_l3Has := ⟨Try.f108, _, Try.func108, rfl, by decide, rfl, by kernel_rfl, by kernel_rfl⟩
noncomputable def c_spec_l3Vote : FC := { n := 17, res := [⟨none, 2, []⟩], body :=
 (.seq
 (.rg [⟨some 1, none, .box (.t 0)⟩,
   ⟨some 2, none, .mv (.k (.bool false))⟩])
 (.seq
 (.rg [⟨some 3, none, .fld 0 (.t 1)⟩,
   ⟨some 4, none, .load none (.t 3)⟩,
   ⟨some 5, none, .call n_spec_l6In S_spec_l6In [(.t 4, []), (.k (.int .i64 1), []), (.k (.int .i64 4), [])]⟩,
   ⟨some 6, none, .mv (.t 5)⟩,
   ⟨some 7, some (6, true), .fld 1 (.t 1)⟩,
   ⟨some 8, some (6, true), .load none (.t 7)⟩,
   ⟨some 9, some (6, true), .call n_spec_ChainOk S_spec_ChainOk [(.t 8, [some 4])]⟩,
   ⟨some 10, none, .pick (.t 6) (.t 9) (.k (.bool false))⟩,
   ⟨some 11, none, .mv (.t 10)⟩,
   ⟨some 12, some (11, true), .fld 1 (.t 1)⟩,
   ⟨some 13, some (11, true), .load none (.t 12)⟩,
   ⟨some 14, some (11, true), .len (.t 13)⟩,
   ⟨some 15, some (11, true), .bin 0 .gtr (.t 14) (.k (.int .i64 0))⟩,
   ⟨some 16, none, .pick (.t 11) (.t 15) (.k (.bool false))⟩,
   ⟨some 2, none, .mv (.t 16)⟩])
 .ret)) }
theorem is_spec_l3Vote : IsF Try.prog n_spec_l3Vote c_spec_l3Vote := ⟨Try.f98, _, Try.func98, rfl, by decide, rfl, by kernel_rfl, by kernel_rfl⟩
noncomputable def c_spec_VotesOk : FC := { n := 26, res := [⟨none, 2, []⟩], body :=
 (.seq
 (.rg [⟨some 2, none, .mv (.k (.bool false))⟩])
 (.seq
 (.seq
 (.rg [⟨some 3, none, .mv (.k (.int .i64 0))⟩])
 (.block 0
 (.loop
 (.seq
 (.seq
 (.rg [⟨some 4, none, .mv (.t 3)⟩,
   ⟨some 5, none, .mv (.t 0)⟩,
   ⟨some 6, none, .len (.t 5)⟩,
   ⟨some 7, none, .bin 0 .lss (.t 4) (.t 6)⟩])
 (.cond (.t 7)
 .skip
 (.exit 0)))
 (.seq
 (.block 1
 (.seq
 (.rg [⟨some 10, none, .mv (.t 0)⟩,
   ⟨some 11, none, .mv (.t 3)⟩,
   ⟨some 12, none, .idx 2 (.t 10) (.t 11)⟩,
   ⟨some 13, none, .load (some 2) (.t 12)⟩,
   ⟨some 14, none, .call n_spec_l3Vote S_spec_l3Vote [(.t 13, [none, some 4])]⟩,
   ⟨some 15, none, .un .not (.t 14)⟩,
   ⟨some 16, none, .mv (.t 15)⟩,
   ⟨some 17, some (16, false), .mv (.t 0)⟩,
   ⟨some 18, some (16, false), .mv (.t 3)⟩,
   ⟨some 19, some (16, false), .slc 2 (.t 17) none (some (.t 18)) none⟩,
   ⟨some 20, some (16, false), .mv (.t 0)⟩,
   ⟨some 21, some (16, false), .mv (.t 3)⟩,
   ⟨some 22, some (16, false), .idx 2 (.t 20) (.t 21)⟩,
   ⟨some 23, some (16, false), .load (some 2) (.t 22)⟩,
   ⟨some 24, some (16, false), .call n_spec_l3Has S_spec_l3Has [(.t 19, [some 2]), (.t 23, [none, some 4])]⟩,
   ⟨some 25, none, .pick (.t 16) (.k (.bool true)) (.t 24)⟩])
 (.cond (.t 25)
 (.seq
 (.rg [⟨some 2, none, .mv (.k (.bool false))⟩])
 .ret)
 .skip)))
 (.rg [⟨some 8, none, .mv (.t 3)⟩,
   ⟨some 9, none, .bin 0 .add (.t 8) (.k (.int .i64 1))⟩,
   ⟨some 3, none, .mv (.t 9)⟩]))))))
 (.seq
 (.rg [⟨some 2, none, .mv (.k (.bool true))⟩])
 .ret))) }
theorem is_spec_VotesOk : IsF Try.prog n_spec_VotesOk c_spec_VotesOk := ⟨Try.f66, _, Try.func66, rfl, by decide, rfl, by kernel_rfl, by kernel_rfl⟩
noncomputable def c_spec_l1Copy : FC := { n := 6, res := [⟨none, 2, [some 4]⟩], body :=
 (.seq
 (.rg [⟨some 2, none, .mv (.k (.slice none 0 0))⟩])
 (.seq
 (.rg [⟨some 3, none, .bsl 40 4 []⟩,
   ⟨some 4, none, .mv (.t 0)⟩,
   ⟨some 5, none, .app 40 4 32 [.int .i64 0, .int .i64 0, .int .i64 0, .int .i64 0] (.t 3) (.t 4)⟩,
   ⟨some 2, none, .mv (.t 5)⟩])
 .ret)) }
theorem is_spec_l1Copy : IsF Try.prog n_spec_l1Copy c_spec_l1Copy := ⟨Try.f56, _, Try.func56, rfl, by decide, rfl, by kernel_rfl, by kernel_rfl⟩
end Av
end Go.Proofs.Ytkpncekaehgbdaa
