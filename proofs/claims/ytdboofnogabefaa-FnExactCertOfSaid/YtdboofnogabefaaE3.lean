/- The functions' code in the small language, and that it is theirs. -/
import Derived.Test.YtdboofnogabefaaE2
import Derived.Test.YtdboofnogabefaaD1
import Derived.Test.YtdboofnogabefaaProg
import Derived.KernelRfl
set_option linter.unusedVariables false
namespace Go.Proofs.Ytdboofnogabefaa
namespace Av
noncomputable def c_spec_l6In : FC := { n := 15, res := [⟨none, 6, []⟩], body :=
 (.seq
 (.rg [⟨some 6, none, .mv (.k (.bool false))⟩])
 (.seq
 (.rg [⟨some 7, none, .mv (.t 0)⟩,
   ⟨some 8, none, .mv (.t 1)⟩,
   ⟨some 9, none, .bin 0 .geq (.t 7) (.t 8)⟩,
   ⟨some 10, none, .mv (.t 9)⟩,
   ⟨some 11, some (10, true), .mv (.t 0)⟩,
   ⟨some 12, some (10, true), .mv (.t 2)⟩,
   ⟨some 13, some (10, true), .bin 0 .leq (.t 11) (.t 12)⟩,
   ⟨some 14, none, .pick (.t 10) (.t 13) (.k (.bool false))⟩,
   ⟨some 6, none, .mv (.t 14)⟩])
 .ret)) }
theorem is_spec_l6In : IsF Try.prog n_spec_l6In c_spec_l6In := ⟨Try.f55, _, Try.func55, rfl, by decide, rfl, by kernel_rfl, by kernel_rfl⟩
noncomputable def c_spec_PayOk : FC := { n := 23, res := [⟨none, 2, []⟩], body :=
 (.seq
 (.rg [⟨some 1, none, .box (.t 0)⟩,
   ⟨some 2, none, .mv (.k (.bool false))⟩])
 (.seq
 (.rg [⟨some 3, none, .fld 0 (.t 1)⟩,
   ⟨some 4, none, .load none (.t 3)⟩,
   ⟨some 5, none, .call n_spec_l6In S_spec_l6In [(.t 4, []), (.k (.int .i64 1), []), (.k (.int .i64 3), [])]⟩,
   ⟨some 6, none, .mv (.t 5)⟩,
   ⟨some 7, some (6, true), .fld 1 (.t 1)⟩,
   ⟨some 8, some (6, true), .load none (.t 7)⟩,
   ⟨some 9, some (6, true), .call n_spec_l6In S_spec_l6In [(.t 8, []), (.k (.int .i64 1), []), (.k (.int .i64 3), [])]⟩,
   ⟨some 10, none, .pick (.t 6) (.t 9) (.k (.bool false))⟩,
   ⟨some 11, none, .mv (.t 10)⟩,
   ⟨some 12, some (11, true), .fld 0 (.t 1)⟩,
   ⟨some 13, some (11, true), .load none (.t 12)⟩,
   ⟨some 14, some (11, true), .fld 1 (.t 1)⟩,
   ⟨some 15, some (11, true), .load none (.t 14)⟩,
   ⟨some 16, some (11, true), .bin 0 .neq (.t 13) (.t 15)⟩,
   ⟨some 17, none, .pick (.t 11) (.t 16) (.k (.bool false))⟩,
   ⟨some 18, none, .mv (.t 17)⟩,
   ⟨some 19, some (18, true), .fld 2 (.t 1)⟩,
   ⟨some 20, some (18, true), .load none (.t 19)⟩,
   ⟨some 21, some (18, true), .call n_spec_l6In S_spec_l6In [(.t 20, []), (.k (.int .i64 1), []), (.k (.int .i64 9), [])]⟩,
   ⟨some 22, none, .pick (.t 18) (.t 21) (.k (.bool false))⟩,
   ⟨some 2, none, .mv (.t 22)⟩])
 .ret)) }
theorem is_spec_PayOk : IsF Try.prog n_spec_PayOk c_spec_PayOk := ⟨Try.f96, _, Try.func96, rfl, by decide, rfl, by kernel_rfl, by kernel_rfl⟩
noncomputable def c_spec_ChainOk : FC := { n := 47, res := [⟨none, 2, []⟩], body :=
 (.seq
 (.rg [⟨some 2, none, .mv (.k (.bool false))⟩])
 (.seq
 (.seq
 (.rg [⟨some 3, none, .mv (.k (.int .i64 0))⟩])
 (.block 0
 (.loop
 (.seq
 (.seq
 (.rg [⟨some 4, none, .mv (.t 3)⟩,
   ⟨some 5, none, .mv (.t 0)⟩,
   ⟨some 6, none, .len (.t 5)⟩,
   ⟨some 7, none, .bin 0 .lss (.t 4) (.t 6)⟩])
 (.cond (.t 7)
 .skip
 (.exit 0)))
 (.seq
 (.block 1
 (.seq
 (.rg [⟨some 10, none, .mv (.t 0)⟩,
   ⟨some 11, none, .mv (.t 3)⟩,
   ⟨some 12, none, .idx 4 (.t 10) (.t 11)⟩,
   ⟨some 13, none, .fld 0 (.t 12)⟩,
   ⟨some 14, none, .load none (.t 13)⟩,
   ⟨some 15, none, .call n_spec_l6In S_spec_l6In [(.t 14, []), (.k (.int .i64 1), []), (.k (.int .i64 30), [])]⟩,
   ⟨some 16, none, .un .not (.t 15)⟩,
   ⟨some 17, none, .mv (.t 16)⟩,
   ⟨some 18, some (17, false), .mv (.t 0)⟩,
   ⟨some 19, some (17, false), .mv (.t 3)⟩,
   ⟨some 20, some (17, false), .idx 4 (.t 18) (.t 19)⟩,
   ⟨some 21, some (17, false), .fld 1 (.t 20)⟩,
   ⟨some 22, some (17, false), .load (some 3) (.t 21)⟩,
   ⟨some 23, some (17, false), .call n_spec_PayOk S_spec_PayOk [(.t 22, [])]⟩,
   ⟨some 24, some (17, false), .un .not (.t 23)⟩,
   ⟨some 25, none, .pick (.t 17) (.k (.bool true)) (.t 24)⟩,
   ⟨some 26, none, .mv (.t 25)⟩,
   ⟨some 27, some (26, false), .mv (.t 3)⟩,
   ⟨some 28, some (26, false), .bin 0 .gtr (.t 27) (.k (.int .i64 0))⟩,
   ⟨some 29, some (26, false), .mv (.t 28)⟩,
   ⟨some 30, some (29, true), .mv (.t 0)⟩,
   ⟨some 31, some (29, true), .mv (.t 3)⟩,
   ⟨some 32, some (29, true), .bin 0 .sub (.t 31) (.k (.int .i64 1))⟩,
   ⟨some 33, some (29, true), .idx 4 (.t 30) (.t 32)⟩,
   ⟨some 34, some (29, true), .fld 0 (.t 33)⟩,
   ⟨some 35, some (29, true), .load none (.t 34)⟩,
   ⟨some 36, some (29, true), .mv (.t 0)⟩,
   ⟨some 37, some (29, true), .mv (.t 3)⟩,
   ⟨some 38, some (29, true), .idx 4 (.t 36) (.t 37)⟩,
   ⟨some 39, some (29, true), .fld 0 (.t 38)⟩,
   ⟨some 40, some (29, true), .load none (.t 39)⟩,
   ⟨some 41, some (29, true), .bin 0 .geq (.t 35) (.t 40)⟩,
   ⟨some 42, some (26, false), .pick (.t 29) (.t 41) (.k (.bool false))⟩,
   ⟨some 43, none, .pick (.t 26) (.k (.bool true)) (.t 42)⟩])
 (.cond (.t 43)
 (.seq
 (.rg [⟨some 2, none, .mv (.k (.bool false))⟩])
 .ret)
 .skip)))
 (.rg [⟨some 8, none, .mv (.t 3)⟩,
   ⟨some 9, none, .bin 0 .add (.t 8) (.k (.int .i64 1))⟩,
   ⟨some 3, none, .mv (.t 9)⟩]))))))
 (.seq
 (.rg [⟨some 44, none, .mv (.t 0)⟩,
   ⟨some 45, none, .len (.t 44)⟩,
   ⟨some 46, none, .bin 0 .leq (.t 45) (.k (.int .i64 16))⟩,
   ⟨some 2, none, .mv (.t 46)⟩])
 .ret))) }
theorem is_spec_ChainOk : IsF Try.prog n_spec_ChainOk c_spec_ChainOk := ⟨Try.f73, _, Try.func73, rfl, by decide, rfl, by kernel_rfl, by kernel_rfl⟩
noncomputable def c_spec_l1In : FC := { n := 26, res := [⟨none, 4, []⟩], body :=
 (.seq
 (.rg [⟨some 4, none, .mv (.k (.bool false))⟩])
 (.seq
 (.seq
 (.rg [⟨some 6, none, .mv (.t 0)⟩,
   ⟨some 7, none, .len (.t 6)⟩,
   ⟨some 8, none, .mv (.t 1)⟩,
   ⟨some 9, none, .len (.t 8)⟩,
   ⟨some 10, none, .bin 0 .gtr (.t 7) (.t 9)⟩])
 (.cond (.t 10)
 (.seq
 (.rg [⟨some 4, none, .mv (.k (.bool false))⟩])
 .ret)
 .skip))
 (.seq
 (.seq
 (.rg [⟨some 5, none, .mv (.k (.int .i64 0))⟩])
 (.block 0
 (.loop
 (.seq
 (.seq
 (.rg [⟨some 11, none, .mv (.t 5)⟩,
   ⟨some 12, none, .mv (.t 0)⟩,
   ⟨some 13, none, .len (.t 12)⟩,
   ⟨some 14, none, .bin 0 .lss (.t 11) (.t 13)⟩])
 (.cond (.t 14)
 .skip
 (.exit 0)))
 (.seq
 (.block 1
 (.seq
 (.rg [⟨some 17, none, .mv (.t 0)⟩,
   ⟨some 18, none, .mv (.t 5)⟩,
   ⟨some 19, none, .idx 4 (.t 17) (.t 18)⟩,
   ⟨some 20, none, .load (some 4) (.t 19)⟩,
   ⟨some 21, none, .mv (.t 1)⟩,
   ⟨some 22, none, .mv (.t 5)⟩,
   ⟨some 23, none, .idx 4 (.t 21) (.t 22)⟩,
   ⟨some 24, none, .load (some 4) (.t 23)⟩,
   ⟨some 25, none, .eqs true 54 4 (.t 20) (.t 24)⟩])
 (.cond (.t 25)
 (.seq
 (.rg [⟨some 4, none, .mv (.k (.bool false))⟩])
 .ret)
 .skip)))
 (.rg [⟨some 15, none, .mv (.t 5)⟩,
   ⟨some 16, none, .bin 0 .add (.t 15) (.k (.int .i64 1))⟩,
   ⟨some 5, none, .mv (.t 16)⟩]))))))
 (.seq
 (.rg [⟨some 4, none, .mv (.k (.bool true))⟩])
 .ret)))) }
theorem is_spec_l1In : IsF Try.prog n_spec_l1In c_spec_l1In := ⟨Try.f147, _, Try.func147, rfl, by decide, rfl, by kernel_rfl, by kernel_rfl⟩
noncomputable def c_spec_l3Same : FC := { n := 15, res := [⟨none, 4, []⟩], body :=
 (.seq
 (.rg [⟨some 4, none, .mv (.k (.bool false))⟩])
 (.seq
 (.rg [⟨some 5, none, .mv (.t 0)⟩,
   ⟨some 6, none, .len (.t 5)⟩,
   ⟨some 7, none, .mv (.t 1)⟩,
   ⟨some 8, none, .len (.t 7)⟩,
   ⟨some 9, none, .bin 0 .eql (.t 6) (.t 8)⟩,
   ⟨some 10, none, .mv (.t 9)⟩,
   ⟨some 11, some (10, true), .mv (.t 0)⟩,
   ⟨some 12, some (10, true), .mv (.t 1)⟩,
   ⟨some 13, some (10, true), .call n_spec_l1In S_spec_l1In [(.t 11, [some 4]), (.t 12, [some 4])]⟩,
   ⟨some 14, none, .pick (.t 10) (.t 13) (.k (.bool false))⟩,
   ⟨some 4, none, .mv (.t 14)⟩])
 .ret)) }
theorem is_spec_l3Same : IsF Try.prog n_spec_l3Same c_spec_l3Same := ⟨Try.f125, _, Try.func125, rfl, by decide, rfl, by kernel_rfl, by kernel_rfl⟩
noncomputable def c_spec_l3Has : FC := { n := 30, res := [⟨none, 4, []⟩], body :=
 (.seq
 (.rg [⟨some 3, none, .box (.t 1)⟩,
   ⟨some 4, none, .mv (.k (.bool false))⟩])
 (.seq
 (.seq
 (.rg [⟨some 5, none, .mv (.k (.int .i64 0))⟩])
 (.block 0
 (.loop
 (.seq
 (.seq
 (.rg [⟨some 6, none, .mv (.t 5)⟩,
   ⟨some 7, none, .mv (.t 0)⟩,
   ⟨some 8, none, .len (.t 7)⟩,
   ⟨some 9, none, .bin 0 .lss (.t 6) (.t 8)⟩])
 (.cond (.t 9)
 .skip
 (.exit 0)))
 (.seq
 (.block 1
 (.seq
 (.rg [⟨some 12, none, .mv (.t 0)⟩,
   ⟨some 13, none, .mv (.t 5)⟩,
   ⟨some 14, none, .idx 2 (.t 12) (.t 13)⟩,
   ⟨some 15, none, .fld 0 (.t 14)⟩,
   ⟨some 16, none, .load none (.t 15)⟩,
   ⟨some 17, none, .fld 0 (.t 3)⟩,
   ⟨some 18, none, .load none (.t 17)⟩,
   ⟨some 19, none, .bin 0 .eql (.t 16) (.t 18)⟩,
   ⟨some 20, none, .mv (.t 19)⟩,
   ⟨some 21, some (20, true), .mv (.t 0)⟩,
   ⟨some 22, some (20, true), .mv (.t 5)⟩,
   ⟨some 23, some (20, true), .idx 2 (.t 21) (.t 22)⟩,
   ⟨some 24, some (20, true), .fld 1 (.t 23)⟩,
   ⟨some 25, some (20, true), .load none (.t 24)⟩,
   ⟨some 26, some (20, true), .fld 1 (.t 3)⟩,
   ⟨some 27, some (20, true), .load none (.t 26)⟩,
   ⟨some 28, some (20, true), .call n_spec_l3Same S_spec_l3Same [(.t 25, [some 4]), (.t 27, [some 4])]⟩,
   ⟨some 29, none, .pick (.t 20) (.t 28) (.k (.bool false))⟩])
 (.cond (.t 29)
 (.seq
 (.rg [⟨some 4, none, .mv (.k (.bool true))⟩])
 .ret)
 .skip)))
 (.rg [⟨some 10, none, .mv (.t 5)⟩,
   ⟨some 11, none, .bin 0 .add (.t 10) (.k (.int .i64 1))⟩,
   ⟨some 5, none, .mv (.t 11)⟩]))))))
 (.seq
 (.rg [⟨some 4, none, .mv (.k (.bool false))⟩])
 .ret))) }
theorem is_spec_l3Has : IsF Try.prog n_spec_l3Has c_spec_l3Has := ⟨Try.f124, _, Try.func124, rfl, by decide, rfl, by kernel_rfl, by kernel_rfl⟩
noncomputable def c_spec_l3Vote : FC := { n := 17, res := [⟨none, 2, []⟩], body :=
 (.seq
 (.rg [⟨some 1, none, .box (.t 0)⟩,
   ⟨some 2, none, .mv (.k (.bool false))⟩])
 (.seq
 (.rg [⟨some 3, none, .fld 0 (.t 1)⟩,
   ⟨some 4, none, .load none (.t 3)⟩,
   ⟨some 5, none, .call n_spec_l6In S_spec_l6In [(.t 4, []), (.k (.int .i64 1), []), (.k (.int .i64 4), [])]⟩,
   ⟨some 6, none, .mv (.t 5)⟩,
   ⟨some 7, some (6, true), .fld 1 (.t 1)⟩,
   ⟨some 8, some (6, true), .load none (.t 7)⟩,
   ⟨some 9, some (6, true), .call n_spec_ChainOk S_spec_ChainOk [(.t 8, [some 4])]⟩,
   ⟨some 10, none, .pick (.t 6) (.t 9) (.k (.bool false))⟩,
   ⟨some 11, none, .mv (.t 10)⟩,
   ⟨some 12, some (11, true), .fld 1 (.t 1)⟩,
   ⟨some 13, some (11, true), .load none (.t 12)⟩,
   ⟨some 14, some (11, true), .len (.t 13)⟩,
   ⟨some 15, some (11, true), .bin 0 .gtr (.t 14) (.k (.int .i64 0))⟩,
   ⟨some 16, none, .pick (.t 11) (.t 15) (.k (.bool false))⟩,
   ⟨some 2, none, .mv (.t 16)⟩])
 .ret)) }
theorem is_spec_l3Vote : IsF Try.prog n_spec_l3Vote c_spec_l3Vote := ⟨Try.f123, _, Try.func123, rfl, by decide, rfl, by kernel_rfl, by kernel_rfl⟩
noncomputable def c_spec_VotesOk : FC := { n := 26, res := [⟨none, 2, []⟩], body :=
 (.seq
 (.rg [⟨some 2, none, .mv (.k (.bool false))⟩])
 (.seq
 (.seq
 (.rg [⟨some 3, none, .mv (.k (.int .i64 0))⟩])
 (.block 0
 (.loop
 (.seq
 (.seq
 (.rg [⟨some 4, none, .mv (.t 3)⟩,
   ⟨some 5, none, .mv (.t 0)⟩,
   ⟨some 6, none, .len (.t 5)⟩,
   ⟨some 7, none, .bin 0 .lss (.t 4) (.t 6)⟩])
 (.cond (.t 7)
 .skip
 (.exit 0)))
 (.seq
 (.block 1
 (.seq
 (.rg [⟨some 10, none, .mv (.t 0)⟩,
   ⟨some 11, none, .mv (.t 3)⟩,
   ⟨some 12, none, .idx 2 (.t 10) (.t 11)⟩,
   ⟨some 13, none, .load (some 2) (.t 12)⟩,
   ⟨some 14, none, .call n_spec_l3Vote S_spec_l3Vote [(.t 13, [none, some 4])]⟩,
   ⟨some 15, none, .un .not (.t 14)⟩,
   ⟨some 16, none, .mv (.t 15)⟩,
   ⟨some 17, some (16, false), .mv (.t 0)⟩,
   ⟨some 18, some (16, false), .mv (.t 3)⟩,
   ⟨some 19, some (16, false), .slc 2 (.t 17) none (some (.t 18)) none⟩,
   ⟨some 20, some (16, false), .mv (.t 0)⟩,
   ⟨some 21, some (16, false), .mv (.t 3)⟩,
   ⟨some 22, some (16, false), .idx 2 (.t 20) (.t 21)⟩,
   ⟨some 23, some (16, false), .load (some 2) (.t 22)⟩,
   ⟨some 24, some (16, false), .call n_spec_l3Has S_spec_l3Has [(.t 19, [some 2]), (.t 23, [none, some 4])]⟩,
   ⟨some 25, none, .pick (.t 16) (.k (.bool true)) (.t 24)⟩])
 (.cond (.t 25)
 (.seq
 (.rg [⟨some 2, none, .mv (.k (.bool false))⟩])
 .ret)
 .skip)))
 (.rg [⟨some 8, none, .mv (.t 3)⟩,
   ⟨some 9, none, .bin 0 .add (.t 8) (.k (.int .i64 1))⟩,
   ⟨some 3, none, .mv (.t 9)⟩]))))))
 (.seq
 (.rg [⟨some 2, none, .mv (.k (.bool true))⟩])
 .ret))) }
theorem is_spec_VotesOk : IsF Try.prog n_spec_VotesOk c_spec_VotesOk := ⟨Try.f81, _, Try.func81, rfl, by decide, rfl, by kernel_rfl, by kernel_rfl⟩
noncomputable def c_spec_l3Many : FC := { n := 23, res := [⟨none, 4, []⟩], body :=
 (.seq
 (.rg [⟨some 4, none, .mv (.k (.int .i64 0))⟩])
 (.seq
 (.rg [⟨some 5, none, .mv (.k (.int .i64 0))⟩])
 (.seq
 (.seq
 (.rg [⟨some 6, none, .mv (.k (.int .i64 0))⟩])
 (.block 0
 (.loop
 (.seq
 (.seq
 (.rg [⟨some 7, none, .mv (.t 6)⟩,
   ⟨some 8, none, .mv (.t 0)⟩,
   ⟨some 9, none, .len (.t 8)⟩,
   ⟨some 10, none, .bin 0 .lss (.t 7) (.t 9)⟩])
 (.cond (.t 10)
 .skip
 (.exit 0)))
 (.seq
 (.block 1
 (.seq
 (.rg [⟨some 13, none, .mv (.t 0)⟩,
   ⟨some 14, none, .mv (.t 6)⟩,
   ⟨some 15, none, .idx 2 (.t 13) (.t 14)⟩,
   ⟨some 16, none, .fld 1 (.t 15)⟩,
   ⟨some 17, none, .load none (.t 16)⟩,
   ⟨some 18, none, .mv (.t 1)⟩,
   ⟨some 19, none, .call n_spec_l3Same S_spec_l3Same [(.t 17, [some 4]), (.t 18, [some 4])]⟩])
 (.cond (.t 19)
 (.rg [⟨some 20, none, .mv (.t 5)⟩,
   ⟨some 21, none, .bin 0 .add (.t 20) (.k (.int .i64 1))⟩,
   ⟨some 5, none, .mv (.t 21)⟩])
 .skip)))
 (.rg [⟨some 11, none, .mv (.t 6)⟩,
   ⟨some 12, none, .bin 0 .add (.t 11) (.k (.int .i64 1))⟩,
   ⟨some 6, none, .mv (.t 12)⟩]))))))
 (.seq
 (.rg [⟨some 22, none, .mv (.t 5)⟩,
   ⟨some 4, none, .mv (.t 22)⟩])
 .ret)))) }
theorem is_spec_l3Many : IsF Try.prog n_spec_l3Many c_spec_l3Many := ⟨Try.f148, _, Try.func148, rfl, by decide, rfl, by kernel_rfl, by kernel_rfl⟩
noncomputable def c_spec_l11Sure : FC := { n := 18, res := [⟨none, 4, []⟩], body :=
 (.seq
 (.rg [⟨some 4, none, .mv (.k (.bool false))⟩])
 (.seq
 (.seq
 (.rg [⟨some 5, none, .mv (.k (.int .i64 1))⟩])
 (.block 0
 (.loop
 (.seq
 (.seq
 (.rg [⟨some 6, none, .mv (.t 5)⟩,
   ⟨some 7, none, .mv (.t 1)⟩,
   ⟨some 8, none, .len (.t 7)⟩,
   ⟨some 9, none, .bin 0 .leq (.t 6) (.t 8)⟩])
 (.cond (.t 9)
 .skip
 (.exit 0)))
 (.seq
 (.block 1
 (.seq
 (.rg [⟨some 12, none, .mv (.t 0)⟩,
   ⟨some 13, none, .mv (.t 1)⟩,
   ⟨some 14, none, .mv (.t 5)⟩,
   ⟨some 15, none, .slc 4 (.t 13) none (some (.t 14)) none⟩,
   ⟨some 16, none, .call n_spec_l3Many S_spec_l3Many [(.t 12, [some 2]), (.t 15, [some 4])]⟩,
   ⟨some 17, none, .bin 0 .lss (.t 16) (.k (.int .i64 3))⟩])
 (.cond (.t 17)
 (.seq
 (.rg [⟨some 4, none, .mv (.k (.bool false))⟩])
 .ret)
 .skip)))
 (.rg [⟨some 10, none, .mv (.t 5)⟩,
   ⟨some 11, none, .bin 0 .add (.t 10) (.k (.int .i64 1))⟩,
   ⟨some 5, none, .mv (.t 11)⟩]))))))
 (.seq
 (.rg [⟨some 4, none, .mv (.k (.bool true))⟩])
 .ret))) }
theorem is_spec_l11Sure : IsF Try.prog n_spec_l11Sure c_spec_l11Sure := ⟨Try.f126, _, Try.func126, rfl, by decide, rfl, by kernel_rfl, by kernel_rfl⟩
noncomputable def c_spec_l1Copy : FC := { n := 6, res := [⟨none, 2, [some 4]⟩], body :=
 (.seq
 (.rg [⟨some 2, none, .mv (.k (.slice none 0 0))⟩])
 (.seq
 (.rg [⟨some 3, none, .bsl 54 4 []⟩,
   ⟨some 4, none, .mv (.t 0)⟩,
   ⟨some 5, none, .app 54 4 32 [.int .i64 0, .int .i64 0, .int .i64 0, .int .i64 0] (.t 3) (.t 4)⟩,
   ⟨some 2, none, .mv (.t 5)⟩])
 .ret)) }
theorem is_spec_l1Copy : IsF Try.prog n_spec_l1Copy c_spec_l1Copy := ⟨Try.f72, _, Try.func72, rfl, by decide, rfl, by kernel_rfl, by kernel_rfl⟩
noncomputable def c_spec_l11All : FC := { n := 55, res := [⟨none, 2, [some 1]⟩], body :=
 (.seq
 (.rg [⟨some 2, none, .mv (.k (.slice none 0 0))⟩])
 (.seq
 (.rg [⟨some 7, none, .bsl0 54 4⟩,
   ⟨some 8, none, .bsl 30 1 [.t 7]⟩,
   ⟨some 3, none, .mv (.t 8)⟩])
 (.seq
 (.seq
 (.rg [⟨some 4, none, .mv (.k (.int .i64 0))⟩])
 (.block 0
 (.loop
 (.seq
 (.seq
 (.rg [⟨some 9, none, .mv (.t 4)⟩,
   ⟨some 10, none, .mv (.t 0)⟩,
   ⟨some 11, none, .len (.t 10)⟩,
   ⟨some 12, none, .bin 0 .lss (.t 9) (.t 11)⟩])
 (.cond (.t 12)
 .skip
 (.exit 0)))
 (.seq
 (.block 1
 (.seq
 (.rg [⟨some 5, none, .mv (.k (.bool false))⟩])
 (.seq
 (.seq
 (.rg [⟨some 6, none, .mv (.k (.int .i64 0))⟩])
 (.block 2
 (.loop
 (.seq
 (.seq
 (.rg [⟨some 15, none, .mv (.t 6)⟩,
   ⟨some 16, none, .mv (.t 3)⟩,
   ⟨some 17, none, .len (.t 16)⟩,
   ⟨some 18, none, .bin 0 .lss (.t 15) (.t 17)⟩])
 (.cond (.t 18)
 .skip
 (.exit 2)))
 (.seq
 (.block 3
 (.rg [⟨some 21, none, .mv (.t 5)⟩,
   ⟨some 22, none, .mv (.t 21)⟩,
   ⟨some 23, some (22, false), .mv (.t 3)⟩,
   ⟨some 24, some (22, false), .mv (.t 6)⟩,
   ⟨some 25, some (22, false), .idx 1 (.t 23) (.t 24)⟩,
   ⟨some 26, some (22, false), .load none (.t 25)⟩,
   ⟨some 27, some (22, false), .mv (.t 0)⟩,
   ⟨some 28, some (22, false), .mv (.t 4)⟩,
   ⟨some 29, some (22, false), .idx 2 (.t 27) (.t 28)⟩,
   ⟨some 30, some (22, false), .fld 1 (.t 29)⟩,
   ⟨some 31, some (22, false), .load none (.t 30)⟩,
   ⟨some 32, some (22, false), .call n_spec_l3Same S_spec_l3Same [(.t 26, [some 4]), (.t 31, [some 4])]⟩,
   ⟨some 33, none, .pick (.t 22) (.k (.bool true)) (.t 32)⟩,
   ⟨some 5, none, .mv (.t 33)⟩]))
 (.rg [⟨some 19, none, .mv (.t 6)⟩,
   ⟨some 20, none, .bin 0 .add (.t 19) (.k (.int .i64 1))⟩,
   ⟨some 6, none, .mv (.t 20)⟩]))))))
 (.seq
 (.rg [⟨some 34, none, .mv (.t 5)⟩,
   ⟨some 35, none, .un .not (.t 34)⟩,
   ⟨some 36, none, .mv (.t 35)⟩,
   ⟨some 37, some (36, true), .mv (.t 0)⟩,
   ⟨some 38, some (36, true), .mv (.t 0)⟩,
   ⟨some 39, some (36, true), .mv (.t 4)⟩,
   ⟨some 40, some (36, true), .idx 2 (.t 38) (.t 39)⟩,
   ⟨some 41, some (36, true), .fld 1 (.t 40)⟩,
   ⟨some 42, some (36, true), .load none (.t 41)⟩,
   ⟨some 43, some (36, true), .call n_spec_l11Sure S_spec_l11Sure [(.t 37, [some 2]), (.t 42, [some 4])]⟩,
   ⟨some 44, none, .pick (.t 36) (.t 43) (.k (.bool false))⟩])
 (.cond (.t 44)
 (.rg [⟨some 45, none, .mv (.t 3)⟩,
   ⟨some 46, none, .mv (.t 0)⟩,
   ⟨some 47, none, .mv (.t 4)⟩,
   ⟨some 48, none, .idx 2 (.t 46) (.t 47)⟩,
   ⟨some 49, none, .fld 1 (.t 48)⟩,
   ⟨some 50, none, .load none (.t 49)⟩,
   ⟨some 51, none, .call n_spec_l1Copy S_spec_l1Copy [(.t 50, [some 4])]⟩,
   ⟨some 52, none, .bsl 30 1 [.t 51]⟩,
   ⟨some 53, none, .app 30 1 24 [.slice none 0 0] (.t 45) (.t 52)⟩,
   ⟨some 3, none, .mv (.t 53)⟩])
 .skip)))))
 (.rg [⟨some 13, none, .mv (.t 4)⟩,
   ⟨some 14, none, .bin 0 .add (.t 13) (.k (.int .i64 1))⟩,
   ⟨some 4, none, .mv (.t 14)⟩]))))))
 (.seq
 (.rg [⟨some 54, none, .mv (.t 3)⟩,
   ⟨some 2, none, .mv (.t 54)⟩])
 .ret)))) }
theorem is_spec_l11All : IsF Try.prog n_spec_l11All c_spec_l11All := ⟨Try.f82, _, Try.func82, rfl, by decide, rfl, by kernel_rfl, by kernel_rfl⟩
end Av
end Go.Proofs.Ytdboofnogabefaa
