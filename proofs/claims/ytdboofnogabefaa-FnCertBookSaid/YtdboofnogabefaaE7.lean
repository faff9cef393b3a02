/- The functions' code in the small language, and that it is theirs. -/
import Derived.Test.YtdboofnogabefaaE6
import Derived.Test.YtdboofnogabefaaD1
import Derived.Test.YtdboofnogabefaaProg
import Derived.KernelRfl
set_option linter.unusedVariables false
namespace Go.Proofs.Ytdboofnogabefaa
namespace Av
noncomputable def c_spec_l6Rd_pick : FC := { n := 99, res := [⟨none, 4, []⟩], body :=
 (.seq
 (.rg [⟨some 4, none, .mv (.k (.int .i64 0))⟩])
 (.seq
 (.rg [⟨some 7, none, .mv (.t 0)⟩,
   ⟨some 8, none, .mv (.t 0)⟩,
   ⟨some 9, none, .nilc (.t 8)⟩,
   ⟨some 10, none, .fld 1 (.t 9)⟩,
   ⟨some 11, none, .load none (.t 10)⟩,
   ⟨some 12, none, .bin 0 .add (.t 11) (.k (.int .i64 1))⟩,
   ⟨some 13, none, .nilc (.t 7)⟩,
   ⟨some 14, none, .fld 1 (.t 13)⟩,
   ⟨none, none, .store 1 (.t 14) (.t 12)⟩])
 (.seq
 (.seq
 (.rg [⟨some 15, none, .mv (.t 1)⟩,
   ⟨some 16, none, .bin 0 .lss (.t 15) (.k (.int .i64 1))⟩,
   ⟨some 17, none, .mv (.t 16)⟩,
   ⟨some 18, some (17, false), .mv (.t 0)⟩,
   ⟨some 19, some (17, false), .nilc (.t 18)⟩,
   ⟨some 20, some (17, false), .fld 0 (.t 19)⟩,
   ⟨some 21, some (17, false), .load none (.t 20)⟩,
   ⟨some 22, some (17, false), .len (.t 21)⟩,
   ⟨some 23, some (17, false), .bin 0 .eql (.t 22) (.k (.int .i64 0))⟩,
   ⟨some 24, none, .pick (.t 17) (.k (.bool true)) (.t 23)⟩])
 (.cond (.t 24)
 (.seq
 (.rg [⟨some 4, none, .mv (.k (.int .i64 0))⟩])
 .ret)
 .skip))
 (.seq
 (.rg [⟨some 25, none, .mv (.t 0)⟩,
   ⟨some 26, none, .nilc (.t 25)⟩,
   ⟨some 27, none, .fld 1 (.t 26)⟩,
   ⟨some 28, none, .load none (.t 27)⟩,
   ⟨some 29, none, .bin 0 .sub (.t 28) (.k (.int .i64 1))⟩,
   ⟨some 5, none, .mv (.t 29)⟩])
 (.seq
 (.seq
 (.rg [⟨some 30, none, .mv (.t 5)⟩,
   ⟨some 31, none, .mv (.t 0)⟩,
   ⟨some 32, none, .nilc (.t 31)⟩,
   ⟨some 33, none, .fld 0 (.t 32)⟩,
   ⟨some 34, none, .load none (.t 33)⟩,
   ⟨some 35, none, .len (.t 34)⟩,
   ⟨some 36, none, .bin 0 .lss (.t 30) (.t 35)⟩])
 (.cond (.t 36)
 (.seq
 (.rg [⟨some 37, none, .mv (.t 0)⟩,
   ⟨some 38, none, .nilc (.t 37)⟩,
   ⟨some 39, none, .fld 0 (.t 38)⟩,
   ⟨some 40, none, .load none (.t 39)⟩,
   ⟨some 41, none, .mv (.t 5)⟩,
   ⟨some 42, none, .idx 1 (.t 40) (.t 41)⟩,
   ⟨some 43, none, .load none (.t 42)⟩,
   ⟨some 44, none, .conv .i64 (.t 43)⟩,
   ⟨some 45, none, .mv (.t 1)⟩,
   ⟨some 46, none, .bin 0 .rem (.t 44) (.t 45)⟩,
   ⟨some 4, none, .mv (.t 46)⟩])
 .ret)
 .skip))
 (.seq
 (.rg [⟨some 47, none, .mv (.t 0)⟩,
   ⟨some 48, none, .nilc (.t 47)⟩,
   ⟨some 49, none, .fld 0 (.t 48)⟩,
   ⟨some 50, none, .load none (.t 49)⟩,
   ⟨some 51, none, .mv (.t 5)⟩,
   ⟨some 52, none, .mv (.t 0)⟩,
   ⟨some 53, none, .nilc (.t 52)⟩,
   ⟨some 54, none, .fld 0 (.t 53)⟩,
   ⟨some 55, none, .load none (.t 54)⟩,
   ⟨some 56, none, .len (.t 55)⟩,
   ⟨some 57, none, .bin 0 .rem (.t 51) (.t 56)⟩,
   ⟨some 58, none, .idx 1 (.t 50) (.t 57)⟩,
   ⟨some 59, none, .load none (.t 58)⟩,
   ⟨some 60, none, .conv .i64 (.t 59)⟩,
   ⟨some 61, none, .bin 0 .mul (.t 60) (.k (.int .i64 131))⟩,
   ⟨some 62, none, .mv (.t 0)⟩,
   ⟨some 63, none, .nilc (.t 62)⟩,
   ⟨some 64, none, .fld 0 (.t 63)⟩,
   ⟨some 65, none, .load none (.t 64)⟩,
   ⟨some 66, none, .mv (.t 5)⟩,
   ⟨some 67, none, .bin 0 .mul (.t 66) (.k (.int .i64 7))⟩,
   ⟨some 68, none, .bin 0 .add (.t 67) (.k (.int .i64 3))⟩,
   ⟨some 69, none, .mv (.t 0)⟩,
   ⟨some 70, none, .nilc (.t 69)⟩,
   ⟨some 71, none, .fld 0 (.t 70)⟩,
   ⟨some 72, none, .load none (.t 71)⟩,
   ⟨some 73, none, .len (.t 72)⟩,
   ⟨some 74, none, .bin 0 .rem (.t 68) (.t 73)⟩,
   ⟨some 75, none, .idx 1 (.t 65) (.t 74)⟩,
   ⟨some 76, none, .load none (.t 75)⟩,
   ⟨some 77, none, .conv .i64 (.t 76)⟩,
   ⟨some 78, none, .bin 0 .mul (.t 77) (.k (.int .i64 1117))⟩,
   ⟨some 79, none, .bin 0 .add (.t 61) (.t 78)⟩,
   ⟨some 80, none, .mv (.t 5)⟩,
   ⟨some 81, none, .bin 0 .mul (.t 80) (.k (.int .i64 29))⟩,
   ⟨some 82, none, .bin 0 .add (.t 79) (.t 81)⟩,
   ⟨some 83, none, .mv (.t 5)⟩,
   ⟨some 84, none, .mv (.t 0)⟩,
   ⟨some 85, none, .nilc (.t 84)⟩,
   ⟨some 86, none, .fld 0 (.t 85)⟩,
   ⟨some 87, none, .load none (.t 86)⟩,
   ⟨some 88, none, .len (.t 87)⟩,
   ⟨some 89, none, .bin 0 .quo (.t 83) (.t 88)⟩,
   ⟨some 90, none, .bin 0 .mul (.t 89) (.k (.int .i64 53))⟩,
   ⟨some 91, none, .bin 0 .add (.t 82) (.t 90)⟩,
   ⟨some 6, none, .mv (.t 91)⟩])
 (.seq
 (.rg [⟨some 92, none, .mv (.t 6)⟩,
   ⟨some 93, none, .mv (.t 6)⟩,
   ⟨some 94, none, .bin 0 .quo (.t 93) (.k (.int .i64 64))⟩,
   ⟨some 95, none, .bin 0 .xor (.t 92) (.t 94)⟩,
   ⟨some 6, none, .mv (.t 95)⟩])
 (.seq
 (.rg [⟨some 96, none, .mv (.t 6)⟩,
   ⟨some 97, none, .mv (.t 1)⟩,
   ⟨some 98, none, .bin 0 .rem (.t 96) (.t 97)⟩,
   ⟨some 4, none, .mv (.t 98)⟩])
 .ret)))))))) }
theorem is_spec_l6Rd_pick : IsF Try.prog n_spec_l6Rd_pick c_spec_l6Rd_pick := ⟨Try.f54, _, Try.func54, rfl, by decide, rfl, by kernel_rfl, by kernel_rfl⟩
noncomputable def c_spec_l6Open : FC := { n := 11, res := [⟨none, 2, []⟩], body :=
 (.seq
 (.rg [⟨some 2, none, .mv (.k (.pointer none))⟩])
 (.seq
 (.seq
 (.rg [⟨some 3, none, .mv (.t 0)⟩,
   ⟨some 4, none, .len (.t 3)⟩,
   ⟨some 5, none, .bin 0 .gtr (.t 4) (.k (.int .i64 2000))⟩])
 (.cond (.t 5)
 (.rg [⟨some 6, none, .mv (.t 0)⟩,
   ⟨some 7, none, .slc 1 (.t 6) none (some (.k (.int .i64 2000))) none⟩,
   ⟨some 0, none, .mv (.t 7)⟩])
 .skip))
 (.seq
 (.rg [⟨some 8, none, .mv (.t 0)⟩,
   ⟨some 9, none, .build [.slice none 0 0, .int .i64 0] [(0, 1, .t 8)]⟩,
   ⟨some 10, none, .box (.t 9)⟩,
   ⟨some 2, none, .mv (.t 10)⟩])
 .ret))) }
theorem is_spec_l6Open : IsF Try.prog n_spec_l6Open c_spec_l6Open := ⟨Try.f53, _, Try.func53, rfl, by decide, rfl, by kernel_rfl, by kernel_rfl⟩
noncomputable def c_spec_l71Pay : FC := { n := 18, res := [⟨some (some 3), 2, []⟩], body :=
 (.seq
 (.rg [⟨some 2, none, .alloc [.int .i64 0, .int .i64 0, .int .i64 0]⟩])
 (.seq
 (.rg [⟨some 4, none, .mv (.t 0)⟩,
   ⟨some 5, none, .call n_spec_l6Rd_pick S_spec_l6Rd_pick [(.t 4, []), (.k (.int .i64 3), [])]⟩,
   ⟨some 6, none, .bin 0 .add (.k (.int .i64 1)) (.t 5)⟩,
   ⟨some 3, none, .mv (.t 6)⟩])
 (.seq
 (.rg [⟨some 7, none, .mv (.t 3)⟩,
   ⟨some 8, none, .mv (.t 3)⟩,
   ⟨some 9, none, .mv (.t 0)⟩,
   ⟨some 10, none, .call n_spec_l6Rd_pick S_spec_l6Rd_pick [(.t 9, []), (.k (.int .i64 2), [])]⟩,
   ⟨some 11, none, .bin 0 .add (.t 8) (.t 10)⟩,
   ⟨some 12, none, .bin 0 .rem (.t 11) (.k (.int .i64 3))⟩,
   ⟨some 13, none, .bin 0 .add (.t 12) (.k (.int .i64 1))⟩,
   ⟨some 14, none, .mv (.t 0)⟩,
   ⟨some 15, none, .call n_spec_l6Rd_pick S_spec_l6Rd_pick [(.t 14, []), (.k (.int .i64 9), [])]⟩,
   ⟨some 16, none, .bin 0 .add (.k (.int .i64 1)) (.t 15)⟩,
   ⟨some 17, none, .build [.int .i64 0, .int .i64 0, .int .i64 0] [(0, 1, .t 7), (1, 1, .t 13), (2, 1, .t 16)]⟩,
   ⟨none, none, .store 3 (.t 2) (.t 17)⟩])
 .ret))) }
theorem is_spec_l71Pay : IsF Try.prog n_spec_l71Pay c_spec_l71Pay := ⟨Try.f161, _, Try.func161, rfl, by decide, rfl, by kernel_rfl, by kernel_rfl⟩
noncomputable def c_spec_l71AnyPay : FC := { n := 30, res := [⟨some (some 3), 2, []⟩], body :=
 (.seq
 (.rg [⟨some 2, none, .alloc [.int .i64 0, .int .i64 0, .int .i64 0]⟩])
 (.seq
 (.rg [⟨some 4, none, .mv (.t 0)⟩,
   ⟨some 5, none, .call n_spec_l71Pay S_spec_l71Pay [(.t 4, [])]⟩,
   ⟨some 3, none, .alloc [.int .i64 0, .int .i64 0, .int .i64 0]⟩,
   ⟨none, none, .store 3 (.t 3) (.t 5)⟩])
 (.seq
 (.seq
 (.rg [⟨some 6, none, .mv (.t 0)⟩,
   ⟨some 7, none, .call n_spec_l6Rd_pick S_spec_l6Rd_pick [(.t 6, []), (.k (.int .i64 12), [])]⟩])
 (.block 0
 (.seq
 (.rg [⟨some 9, none, .bin 0 .eql (.t 7) (.k (.int .i64 0))⟩,
   ⟨some 8, none, .mv (.t 9)⟩])
 (.cond (.t 8)
 (.rg [⟨some 10, none, .fld 0 (.t 3)⟩,
   ⟨some 11, none, .load none (.t 10)⟩,
   ⟨some 12, none, .fld 1 (.t 3)⟩,
   ⟨none, none, .store 1 (.t 12) (.t 11)⟩])
 (.seq
 (.rg [⟨some 14, none, .bin 0 .eql (.t 7) (.k (.int .i64 1))⟩,
   ⟨some 13, none, .mv (.t 14)⟩])
 (.cond (.t 13)
 (.rg [⟨some 15, none, .bsl 3 1 [.k (.int .i64 0), .k (.int .i64 10)]⟩,
   ⟨some 16, none, .mv (.t 0)⟩,
   ⟨some 17, none, .call n_spec_l6Rd_pick S_spec_l6Rd_pick [(.t 16, []), (.k (.int .i64 2), [])]⟩,
   ⟨some 18, none, .idx 1 (.t 15) (.t 17)⟩,
   ⟨some 19, none, .load none (.t 18)⟩,
   ⟨some 20, none, .fld 2 (.t 3)⟩,
   ⟨none, none, .store 1 (.t 20) (.t 19)⟩])
 (.seq
 (.rg [⟨some 22, none, .bin 0 .eql (.t 7) (.k (.int .i64 2))⟩,
   ⟨some 21, none, .mv (.t 22)⟩])
 (.cond (.t 21)
 (.rg [⟨some 23, none, .bsl 3 1 [.k (.int .i64 0), .k (.int .i64 4)]⟩,
   ⟨some 24, none, .mv (.t 0)⟩,
   ⟨some 25, none, .call n_spec_l6Rd_pick S_spec_l6Rd_pick [(.t 24, []), (.k (.int .i64 2), [])]⟩,
   ⟨some 26, none, .idx 1 (.t 23) (.t 25)⟩,
   ⟨some 27, none, .load none (.t 26)⟩,
   ⟨some 28, none, .fld 0 (.t 3)⟩,
   ⟨none, none, .store 1 (.t 28) (.t 27)⟩])
 .skip))))))))
 (.seq
 (.rg [⟨some 29, none, .load (some 3) (.t 3)⟩,
   ⟨none, none, .store 3 (.t 2) (.t 29)⟩])
 .ret)))) }
theorem is_spec_l71AnyPay : IsF Try.prog n_spec_l71AnyPay c_spec_l71AnyPay := ⟨Try.f162, _, Try.func162, rfl, by decide, rfl, by kernel_rfl, by kernel_rfl⟩
noncomputable def c_spec_l71Chain : FC := { n := 30, res := [⟨none, 2, [some 4]⟩], body :=
 (.seq
 (.rg [⟨some 2, none, .mv (.k (.slice none 0 0))⟩])
 (.seq
 (.rg [⟨some 6, none, .bsl 54 4 []⟩,
   ⟨some 3, none, .mv (.t 6)⟩])
 (.seq
 (.rg [⟨some 4, none, .mv (.k (.int .i64 0))⟩])
 (.seq
 (.seq
 (.rg [⟨some 7, none, .mv (.t 0)⟩,
   ⟨some 8, none, .call n_spec_l6Rd_pick S_spec_l6Rd_pick [(.t 7, []), (.k (.int .i64 7), [])]⟩,
   ⟨some 5, none, .mv (.t 8)⟩])
 (.block 0
 (.loop
 (.seq
 (.seq
 (.rg [⟨some 9, none, .mv (.t 5)⟩,
   ⟨some 10, none, .bin 0 .gtr (.t 9) (.k (.int .i64 0))⟩])
 (.cond (.t 10)
 .skip
 (.exit 0)))
 (.seq
 (.block 1
 (.seq
 (.rg [⟨some 13, none, .mv (.t 4)⟩,
   ⟨some 14, none, .bin 0 .add (.t 13) (.k (.int .i64 1))⟩,
   ⟨some 15, none, .mv (.t 0)⟩,
   ⟨some 16, none, .call n_spec_l6Rd_pick S_spec_l6Rd_pick [(.t 15, []), (.k (.int .i64 6), [])]⟩,
   ⟨some 17, none, .bin 0 .quo (.t 16) (.k (.int .i64 5))⟩,
   ⟨some 18, none, .mv (.t 0)⟩,
   ⟨some 19, none, .call n_spec_l6Rd_pick S_spec_l6Rd_pick [(.t 18, []), (.k (.int .i64 3), [])]⟩,
   ⟨some 20, none, .bin 0 .mul (.t 17) (.t 19)⟩,
   ⟨some 21, none, .bin 0 .add (.t 14) (.t 20)⟩,
   ⟨some 4, none, .mv (.t 21)⟩])
 (.rg [⟨some 22, none, .mv (.t 3)⟩,
   ⟨some 23, none, .mv (.t 4)⟩,
   ⟨some 24, none, .mv (.t 0)⟩,
   ⟨some 25, none, .call n_spec_l71Pay S_spec_l71Pay [(.t 24, [])]⟩,
   ⟨some 26, none, .build [.int .i64 0, .int .i64 0, .int .i64 0, .int .i64 0] [(0, 1, .t 23), (1, 3, .t 25)]⟩,
   ⟨some 27, none, .bsl 54 4 [.t 26]⟩,
   ⟨some 28, none, .app 54 4 32 [.int .i64 0, .int .i64 0, .int .i64 0, .int .i64 0] (.t 22) (.t 27)⟩,
   ⟨some 3, none, .mv (.t 28)⟩])))
 (.rg [⟨some 11, none, .mv (.t 5)⟩,
   ⟨some 12, none, .bin 0 .sub (.t 11) (.k (.int .i64 1))⟩,
   ⟨some 5, none, .mv (.t 12)⟩]))))))
 (.seq
 (.rg [⟨some 29, none, .mv (.t 3)⟩,
   ⟨some 2, none, .mv (.t 29)⟩])
 .ret))))) }
theorem is_spec_l71Chain : IsF Try.prog n_spec_l71Chain c_spec_l71Chain := ⟨Try.f159, _, Try.func159, rfl, by decide, rfl, by kernel_rfl, by kernel_rfl⟩
noncomputable def c_spec_l71Off : FC := { n := 50, res := [⟨none, 2, [some 4]⟩], body :=
 (.seq
 (.rg [⟨some 2, none, .mv (.k (.slice none 0 0))⟩])
 (.seq
 (.rg [⟨some 4, none, .mv (.t 0)⟩,
   ⟨some 5, none, .callm n_spec_l71Chain S_spec_l71Chain [(.t 4, [])]⟩,
   ⟨some 3, none, .mv (.t 5)⟩])
 (.seq
 (.seq
 (.rg [⟨some 6, none, .mv (.t 0)⟩,
   ⟨some 7, none, .call n_spec_l6Rd_pick S_spec_l6Rd_pick [(.t 6, []), (.k (.int .i64 16), [])]⟩])
 (.block 0
 (.seq
 (.rg [⟨some 9, none, .bin 0 .eql (.t 7) (.k (.int .i64 0))⟩,
   ⟨some 8, none, .mv (.t 9)⟩])
 (.cond (.t 8)
 (.rg [⟨some 10, none, .mv (.t 3)⟩,
   ⟨some 11, none, .mv (.t 0)⟩,
   ⟨some 12, none, .call n_spec_l6Rd_pick S_spec_l6Rd_pick [(.t 11, []), (.k (.int .i64 4), [])]⟩,
   ⟨some 13, none, .mv (.t 0)⟩,
   ⟨some 14, none, .call n_spec_l71AnyPay S_spec_l71AnyPay [(.t 13, [])]⟩,
   ⟨some 15, none, .build [.int .i64 0, .int .i64 0, .int .i64 0, .int .i64 0] [(0, 1, .t 12), (1, 3, .t 14)]⟩,
   ⟨some 16, none, .bsl 54 4 [.t 15]⟩,
   ⟨some 17, none, .app 54 4 32 [.int .i64 0, .int .i64 0, .int .i64 0, .int .i64 0] (.t 10) (.t 16)⟩,
   ⟨some 3, none, .mv (.t 17)⟩])
 (.seq
 (.rg [⟨some 19, none, .bin 0 .eql (.t 7) (.k (.int .i64 1))⟩,
   ⟨some 18, none, .mv (.t 19)⟩])
 (.cond (.t 18)
 (.seq
 (.rg [⟨some 20, none, .mv (.t 3)⟩,
   ⟨some 21, none, .len (.t 20)⟩,
   ⟨some 22, none, .bin 0 .gtr (.t 21) (.k (.int .i64 0))⟩])
 (.cond (.t 22)
 (.rg [⟨some 23, none, .mv (.t 3)⟩,
   ⟨some 24, none, .mv (.t 0)⟩,
   ⟨some 25, none, .mv (.t 3)⟩,
   ⟨some 26, none, .len (.t 25)⟩,
   ⟨some 27, none, .call n_spec_l6Rd_pick S_spec_l6Rd_pick [(.t 24, []), (.t 26, [])]⟩,
   ⟨some 28, none, .bsl 3 1 [.k (.int .i64 0), .k (.int .i64 30), .k (.int .i64 31)]⟩,
   ⟨some 29, none, .mv (.t 0)⟩,
   ⟨some 30, none, .call n_spec_l6Rd_pick S_spec_l6Rd_pick [(.t 29, []), (.k (.int .i64 3), [])]⟩,
   ⟨some 31, none, .idx 1 (.t 28) (.t 30)⟩,
   ⟨some 32, none, .load none (.t 31)⟩,
   ⟨some 33, none, .idx 4 (.t 23) (.t 27)⟩,
   ⟨some 34, none, .fld 0 (.t 33)⟩,
   ⟨none, none, .store 1 (.t 34) (.t 32)⟩])
 .skip))
 (.seq
 (.rg [⟨some 36, none, .bin 0 .eql (.t 7) (.k (.int .i64 2))⟩,
   ⟨some 35, none, .mv (.t 36)⟩])
 (.cond (.t 35)
 (.seq
 (.rg [⟨some 37, none, .mv (.t 3)⟩,
   ⟨some 38, none, .len (.t 37)⟩,
   ⟨some 39, none, .bin 0 .gtr (.t 38) (.k (.int .i64 0))⟩])
 (.cond (.t 39)
 (.rg [⟨some 40, none, .mv (.t 3)⟩,
   ⟨some 41, none, .mv (.t 0)⟩,
   ⟨some 42, none, .mv (.t 3)⟩,
   ⟨some 43, none, .len (.t 42)⟩,
   ⟨some 44, none, .call n_spec_l6Rd_pick S_spec_l6Rd_pick [(.t 41, []), (.t 43, [])]⟩,
   ⟨some 45, none, .mv (.t 0)⟩,
   ⟨some 46, none, .call n_spec_l71AnyPay S_spec_l71AnyPay [(.t 45, [])]⟩,
   ⟨some 47, none, .idx 4 (.t 40) (.t 44)⟩,
   ⟨some 48, none, .fld 1 (.t 47)⟩,
   ⟨none, none, .store 3 (.t 48) (.t 46)⟩])
 .skip))
 .skip))))))))
 (.seq
 (.rg [⟨some 49, none, .mv (.t 3)⟩,
   ⟨some 2, none, .mv (.t 49)⟩])
 .ret)))) }
theorem is_spec_l71Off : IsF Try.prog n_spec_l71Off c_spec_l71Off := ⟨Try.f145, _, Try.func145, rfl, by decide, rfl, by kernel_rfl, by kernel_rfl⟩
noncomputable def c_spec_l71Two : FC := { n := 58, res := [⟨none, 2, [some 4]⟩, ⟨none, 3, [some 4]⟩], body :=
 (.seq
 (.rg [⟨some 2, none, .mv (.k (.slice none 0 0))⟩,
   ⟨some 3, none, .mv (.k (.slice none 0 0))⟩])
 (.seq
 (.rg [⟨some 8, none, .mv (.t 0)⟩,
   ⟨some 9, none, .callm n_spec_l71Off S_spec_l71Off [(.t 8, [])]⟩,
   ⟨some 4, none, .mv (.t 9)⟩])
 (.seq
 (.rg [⟨some 10, none, .mv (.t 0)⟩,
   ⟨some 11, none, .callm n_spec_l71Off S_spec_l71Off [(.t 10, [])]⟩,
   ⟨some 5, none, .mv (.t 11)⟩])
 (.seq
 (.seq
 (.frz 4 (.rg [⟨some 12, none, .mv (.t 0)⟩,
   ⟨some 13, none, .call n_spec_l6Rd_pick S_spec_l6Rd_pick [(.t 12, []), (.k (.int .i64 4), [])]⟩,
   ⟨some 14, none, .bin 0 .gtr (.t 13) (.k (.int .i64 0))⟩]))
 (.cond (.t 14)
 (.seq
 (.rg [⟨some 15, none, .bsl 54 4 []⟩,
   ⟨some 16, none, .mv (.t 4)⟩,
   ⟨some 17, none, .mv (.t 0)⟩,
   ⟨some 18, none, .mv (.t 4)⟩,
   ⟨some 19, none, .len (.t 18)⟩,
   ⟨some 20, none, .bin 0 .add (.t 19) (.k (.int .i64 1))⟩,
   ⟨some 21, none, .call n_spec_l6Rd_pick S_spec_l6Rd_pick [(.t 17, []), (.t 20, [])]⟩,
   ⟨some 22, none, .slc 4 (.t 16) none (some (.t 21)) none⟩,
   ⟨some 23, none, .app 54 4 32 [.int .i64 0, .int .i64 0, .int .i64 0, .int .i64 0] (.t 15) (.t 22)⟩,
   ⟨some 5, none, .mv (.t 23)⟩])
 (.seq
 (.rg [⟨some 24, none, .mv (.t 0)⟩,
   ⟨some 25, none, .call n_spec_l6Rd_pick S_spec_l6Rd_pick [(.t 24, []), (.k (.int .i64 3), [])]⟩,
   ⟨some 6, none, .mv (.t 25)⟩])
 (.block 0
 (.loop
 (.seq
 (.seq
 (.rg [⟨some 26, none, .mv (.t 6)⟩,
   ⟨some 27, none, .bin 0 .gtr (.t 26) (.k (.int .i64 0))⟩])
 (.cond (.t 27)
 .skip
 (.exit 0)))
 (.seq
 (.block 1
 (.seq
 (.rg [⟨some 7, none, .mv (.k (.int .i64 0))⟩])
 (.seq
 (.seq
 (.rg [⟨some 30, none, .mv (.t 5)⟩,
   ⟨some 31, none, .len (.t 30)⟩,
   ⟨some 32, none, .bin 0 .gtr (.t 31) (.k (.int .i64 0))⟩])
 (.cond (.t 32)
 (.rg [⟨some 33, none, .mv (.t 5)⟩,
   ⟨some 34, none, .mv (.t 5)⟩,
   ⟨some 35, none, .len (.t 34)⟩,
   ⟨some 36, none, .bin 0 .sub (.t 35) (.k (.int .i64 1))⟩,
   ⟨some 37, none, .idx 4 (.t 33) (.t 36)⟩,
   ⟨some 38, none, .fld 0 (.t 37)⟩,
   ⟨some 39, none, .load none (.t 38)⟩,
   ⟨some 7, none, .mv (.t 39)⟩])
 .skip))
 (.rg [⟨some 40, none, .mv (.t 5)⟩,
   ⟨some 41, none, .mv (.t 7)⟩,
   ⟨some 42, none, .bin 0 .add (.t 41) (.k (.int .i64 1))⟩,
   ⟨some 43, none, .mv (.t 0)⟩,
   ⟨some 44, none, .call n_spec_l6Rd_pick S_spec_l6Rd_pick [(.t 43, []), (.k (.int .i64 2), [])]⟩,
   ⟨some 45, none, .bin 0 .add (.t 42) (.t 44)⟩,
   ⟨some 46, none, .mv (.t 0)⟩,
   ⟨some 47, none, .call n_spec_l71Pay S_spec_l71Pay [(.t 46, [])]⟩,
   ⟨some 48, none, .build [.int .i64 0, .int .i64 0, .int .i64 0, .int .i64 0] [(0, 1, .t 45), (1, 3, .t 47)]⟩,
   ⟨some 49, none, .bsl 54 4 [.t 48]⟩,
   ⟨some 50, none, .app 54 4 32 [.int .i64 0, .int .i64 0, .int .i64 0, .int .i64 0] (.t 40) (.t 49)⟩,
   ⟨some 5, none, .mv (.t 50)⟩]))))
 (.rg [⟨some 28, none, .mv (.t 6)⟩,
   ⟨some 29, none, .bin 0 .sub (.t 28) (.k (.int .i64 1))⟩,
   ⟨some 6, none, .mv (.t 29)⟩])))))))
 .skip))
 (.seq
 (.seq
 (.rg [⟨some 51, none, .mv (.t 0)⟩,
   ⟨some 52, none, .call n_spec_l6Rd_pick S_spec_l6Rd_pick [(.t 51, []), (.k (.int .i64 2), [])]⟩,
   ⟨some 53, none, .bin 0 .eql (.t 52) (.k (.int .i64 0))⟩])
 (.cond (.t 53)
 (.seq
 (.rg [⟨some 54, none, .mv (.t 5)⟩,
   ⟨some 55, none, .mv (.t 4)⟩,
   ⟨some 2, none, .mv (.t 54)⟩,
   ⟨some 3, none, .mv (.t 55)⟩])
 .ret)
 .skip))
 (.seq
 (.rg [⟨some 56, none, .mv (.t 4)⟩,
   ⟨some 57, none, .mv (.t 5)⟩,
   ⟨some 2, none, .mv (.t 56)⟩,
   ⟨some 3, none, .mv (.t 57)⟩])
 .ret)))))) }
theorem is_spec_l71Two : IsF Try.prog n_spec_l71Two c_spec_l71Two := ⟨Try.f160, _, Try.func160, rfl, by decide, rfl, by kernel_rfl, by kernel_rfl⟩
noncomputable def c_spec_l71Votes : FC := { n := 80, res := [⟨none, 2, [some 2]⟩], body :=
 (.seq
 (.rg [⟨some 2, none, .mv (.k (.slice none 0 0))⟩])
 (.seq
 (.rg [⟨some 10, none, .bsl 32 2 []⟩,
   ⟨some 3, none, .mv (.t 10)⟩])
 (.seq
 (.rg [⟨some 11, none, .mv (.t 0)⟩,
   ⟨some 12, none, .callm n_spec_l71Chain S_spec_l71Chain [(.t 11, [])]⟩,
   ⟨some 4, none, .mv (.t 12)⟩])
 (.seq
 (.seq
 (.frz 4 (.rg [⟨some 13, none, .mv (.t 0)⟩,
   ⟨some 14, none, .call n_spec_l6Rd_pick S_spec_l6Rd_pick [(.t 13, []), (.k (.int .i64 3), [])]⟩,
   ⟨some 15, none, .bin 0 .add (.k (.int .i64 1)) (.t 14)⟩,
   ⟨some 5, none, .mv (.t 15)⟩]))
 (.block 0
 (.loop
 (.seq
 (.seq
 (.rg [⟨some 16, none, .mv (.t 5)⟩,
   ⟨some 17, none, .bin 0 .gtr (.t 16) (.k (.int .i64 0))⟩])
 (.cond (.t 17)
 .skip
 (.exit 0)))
 (.seq
 (.block 1
 (.seq
 (.seq
 (.rg [⟨some 6, none, .mv (.k (.int .i64 1))⟩])
 (.block 2
 (.loop
 (.seq
 (.seq
 (.rg [⟨some 20, none, .mv (.t 6)⟩,
   ⟨some 21, none, .mv (.t 4)⟩,
   ⟨some 22, none, .len (.t 21)⟩,
   ⟨some 23, none, .bin 0 .leq (.t 20) (.t 22)⟩])
 (.cond (.t 23)
 .skip
 (.exit 2)))
 (.seq
 (.block 3
 (.seq
 (.rg [⟨some 7, none, .mv (.k (.int .i64 1))⟩])
 (.block 4
 (.loop
 (.seq
 (.seq
 (.rg [⟨some 26, none, .mv (.t 7)⟩,
   ⟨some 27, none, .bin 0 .leq (.t 26) (.k (.int .i64 4))⟩])
 (.cond (.t 27)
 .skip
 (.exit 4)))
 (.seq
 (.block 5
 (.seq
 (.rg [⟨some 30, none, .mv (.t 0)⟩,
   ⟨some 31, none, .call n_spec_l6Rd_pick S_spec_l6Rd_pick [(.t 30, []), (.k (.int .i64 9), [])]⟩,
   ⟨some 32, none, .bin 0 .gtr (.t 31) (.k (.int .i64 0))⟩])
 (.cond (.t 32)
 (.rg [⟨some 34, none, .mv (.t 3)⟩,
   ⟨some 35, none, .mv (.t 7)⟩,
   ⟨some 36, none, .mv (.t 4)⟩,
   ⟨some 37, none, .mv (.t 6)⟩,
   ⟨some 38, none, .slc 4 (.t 36) none (some (.t 37)) none⟩,
   ⟨some 39, none, .build [.int .i64 0, .slice none 0 0] [(0, 1, .t 35), (1, 1, .t 38)]⟩,
   ⟨some 40, none, .callm n_spec_l3Add S_spec_l3Add [(.t 34, [some 2]), (.t 39, [none, some 4])]⟩,
   ⟨some 33, none, .mv (.t 40)⟩,
   ⟨some 41, none, .ext (.t 33) 0⟩,
   ⟨some 42, none, .ext (.t 33) 1⟩,
   ⟨some 3, none, .mv (.t 41)⟩])
 .skip)))
 (.rg [⟨some 28, none, .mv (.t 7)⟩,
   ⟨some 29, none, .bin 0 .add (.t 28) (.k (.int .i64 1))⟩,
   ⟨some 7, none, .mv (.t 29)⟩])))))))
 (.rg [⟨some 24, none, .mv (.t 6)⟩,
   ⟨some 25, none, .bin 0 .add (.t 24) (.k (.int .i64 1))⟩,
   ⟨some 6, none, .mv (.t 25)⟩]))))))
 (.seq
 (.rg [⟨some 44, none, .mv (.t 0)⟩,
   ⟨some 45, none, .call n_spec_l71Two S_spec_l71Two [(.t 44, [])]⟩,
   ⟨some 43, none, .mv (.t 45)⟩,
   ⟨some 46, none, .ext (.t 43) 0⟩,
   ⟨some 47, none, .ext (.t 43) 1⟩,
   ⟨some 8, none, .mv (.t 46)⟩,
   ⟨some 9, none, .mv (.t 47)⟩])
 (.seq
 (.seq
 (.rg [⟨some 48, none, .mv (.t 4)⟩,
   ⟨some 49, none, .len (.t 48)⟩,
   ⟨some 50, none, .bin 0 .gtr (.t 49) (.k (.int .i64 0))⟩,
   ⟨some 51, none, .mv (.t 50)⟩,
   ⟨some 52, some (51, true), .mv (.t 0)⟩,
   ⟨some 53, some (51, true), .call n_spec_l6Rd_pick S_spec_l6Rd_pick [(.t 52, []), (.k (.int .i64 2), [])]⟩,
   ⟨some 54, some (51, true), .bin 0 .eql (.t 53) (.k (.int .i64 0))⟩,
   ⟨some 55, none, .pick (.t 51) (.t 54) (.k (.bool false))⟩])
 (.cond (.t 55)
 (.rg [⟨some 56, none, .mv (.t 4)⟩,
   ⟨some 57, none, .mv (.t 0)⟩,
   ⟨some 58, none, .mv (.t 4)⟩,
   ⟨some 59, none, .len (.t 58)⟩,
   ⟨some 60, none, .call n_spec_l6Rd_pick S_spec_l6Rd_pick [(.t 57, []), (.t 59, [])]⟩,
   ⟨some 61, none, .slc 4 (.t 56) none (some (.t 60)) none⟩,
   ⟨some 62, none, .callo n_spec_l1Copy SO_spec_l1Copy [(.t 61, [some 4])]⟩,
   ⟨some 63, none, .mv (.t 4)⟩,
   ⟨some 64, none, .mv (.t 4)⟩,
   ⟨some 65, none, .len (.t 64)⟩,
   ⟨some 66, none, .bin 0 .sub (.t 65) (.k (.int .i64 1))⟩,
   ⟨some 67, none, .idx 4 (.t 63) (.t 66)⟩,
   ⟨some 68, none, .fld 0 (.t 67)⟩,
   ⟨some 69, none, .load none (.t 68)⟩,
   ⟨some 70, none, .bin 0 .add (.t 69) (.k (.int .i64 1))⟩,
   ⟨some 71, none, .mv (.t 0)⟩,
   ⟨some 72, none, .call n_spec_l71Pay S_spec_l71Pay [(.t 71, [])]⟩,
   ⟨some 73, none, .build [.int .i64 0, .int .i64 0, .int .i64 0, .int .i64 0] [(0, 1, .t 70), (1, 3, .t 72)]⟩,
   ⟨some 74, none, .bsl 54 4 [.t 73]⟩,
   ⟨some 75, none, .app 54 4 32 [.int .i64 0, .int .i64 0, .int .i64 0, .int .i64 0] (.t 62) (.t 74)⟩,
   ⟨some 9, none, .mv (.t 75)⟩])
 .skip))
 (.seq
 (.frz 9 (.rg [⟨some 76, none, .mv (.t 9)⟩,
   ⟨some 77, none, .call n_spec_ChainOk S_spec_ChainOk [(.t 76, [some 4])]⟩]))
 (.cond (.t 77)
 (.rg [⟨some 78, none, .mv (.t 9)⟩,
   ⟨some 4, none, .mv (.t 78)⟩])
 .skip))))))
 (.rg [⟨some 18, none, .mv (.t 5)⟩,
   ⟨some 19, none, .bin 0 .sub (.t 18) (.k (.int .i64 1))⟩,
   ⟨some 5, none, .mv (.t 19)⟩]))))))
 (.seq
 (.rg [⟨some 79, none, .mv (.t 3)⟩,
   ⟨some 2, none, .mv (.t 79)⟩])
 .ret))))) }
theorem is_spec_l71Votes : IsF Try.prog n_spec_l71Votes c_spec_l71Votes := ⟨Try.f144, _, Try.func144, rfl, by decide, rfl, by kernel_rfl, by kernel_rfl⟩
noncomputable def c_spec_l3VoteCopy : FC := { n := 8, res := [⟨some (some 2), 2, [none, some 4]⟩], body :=
 (.seq
 (.rg [⟨some 1, none, .box (.t 0)⟩,
   ⟨some 2, none, .alloc [.int .i64 0, .slice none 0 0]⟩])
 (.seq
 (.rg [⟨some 3, none, .fld 1 (.t 1)⟩,
   ⟨some 4, none, .load none (.t 3)⟩,
   ⟨some 5, none, .call n_spec_l1Copy S_spec_l1Copy [(.t 4, [some 4])]⟩,
   ⟨some 6, none, .fld 1 (.t 1)⟩,
   ⟨none, none, .store 1 (.t 6) (.t 5)⟩])
 (.seq
 (.rg [⟨some 7, none, .load (some 2) (.t 1)⟩,
   ⟨none, none, .store 2 (.t 2) (.t 7)⟩])
 .ret))) }
theorem is_spec_l3VoteCopy : IsF Try.prog n_spec_l3VoteCopy c_spec_l3VoteCopy := ⟨Try.f154, _, Try.func154, rfl, by decide, rfl, by kernel_rfl, by kernel_rfl⟩
noncomputable def c_spec_l3Add : FC := { n := 15, res := [⟨none, 4, [some 2]⟩, ⟨none, 5, []⟩], body :=
 (.seq
 (.rg [⟨some 3, none, .box (.t 1)⟩,
   ⟨some 4, none, .mv (.k (.slice none 0 0))⟩,
   ⟨some 5, none, .mv (.k (.bool false))⟩])
 (.seq
 (.seq
 (.rg [⟨some 6, none, .mv (.t 0)⟩,
   ⟨some 7, none, .load (some 2) (.t 3)⟩,
   ⟨some 8, none, .call n_spec_l3Has S_spec_l3Has [(.t 6, [some 2]), (.t 7, [none, some 4])]⟩])
 (.cond (.t 8)
 (.seq
 (.rg [⟨some 9, none, .mv (.t 0)⟩,
   ⟨some 4, none, .mv (.t 9)⟩,
   ⟨some 5, none, .mv (.k (.bool false))⟩])
 .ret)
 .skip))
 (.seq
 (.rg [⟨some 10, none, .mv (.t 0)⟩,
   ⟨some 11, none, .load (some 2) (.t 3)⟩,
   ⟨some 12, none, .call n_spec_l3VoteCopy S_spec_l3VoteCopy [(.t 11, [none, some 4])]⟩,
   ⟨some 13, none, .bsl 32 2 [.t 12]⟩,
   ⟨some 14, none, .app 32 2 32 [.int .i64 0, .slice none 0 0] (.t 10) (.t 13)⟩,
   ⟨some 4, none, .mv (.t 14)⟩,
   ⟨some 5, none, .mv (.k (.bool true))⟩])
 .ret))) }
theorem is_spec_l3Add : IsF Try.prog n_spec_l3Add c_spec_l3Add := ⟨Try.f134, _, Try.func134, rfl, by decide, rfl, by kernel_rfl, by kernel_rfl⟩
end Av
end Go.Proofs.Ytdboofnogabefaa
