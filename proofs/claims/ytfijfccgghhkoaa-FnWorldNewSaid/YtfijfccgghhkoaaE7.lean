/- The functions' code in the small language, and that it is theirs. -/
import Derived.Test.YtfijfccgghhkoaaE6
import Derived.Test.YtfijfccgghhkoaaD1
import Derived.Test.YtfijfccgghhkoaaProg
import Derived.KernelRfl
set_option linter.unusedVariables false
namespace Go.Proofs.Ytfijfccgghhkoaa
namespace Av
noncomputable def c_spec_l6Rd_pick : FC := { n := 99, res := [⟨none, 4, []⟩], body :=
 (.seq
 (.rg [⟨some 4, none, .mv (.k (.int .i64 0))⟩])
 (.seq
 (.rg [⟨some 7, none, .mv (.t 0)⟩,
   ⟨some 8, none, .mv (.t 0)⟩,
   ⟨some 9, none, .nilc (.t 8)⟩,
   ⟨some 10, none, .fld 1 (.t 9)⟩,
   ⟨some 11, none, .load none (.t 10)⟩,
   ⟨some 12, none, .bin 0 .add (.t 11) (.k (.int .i64 1))⟩,
   ⟨some 13, none, .nilc (.t 7)⟩,
   ⟨some 14, none, .fld 1 (.t 13)⟩,
   ⟨none, none, .store 1 (.t 14) (.t 12)⟩])
 (.seq
 (.seq
 (.rg [⟨some 15, none, .mv (.t 1)⟩,
   ⟨some 16, none, .bin 0 .lss (.t 15) (.k (.int .i64 1))⟩,
   ⟨some 17, none, .mv (.t 16)⟩,
   ⟨some 18, some (17, false), .mv (.t 0)⟩,
   ⟨some 19, some (17, false), .nilc (.t 18)⟩,
   ⟨some 20, some (17, false), .fld 0 (.t 19)⟩,
   ⟨some 21, some (17, false), .load none (.t 20)⟩,
   ⟨some 22, some (17, false), .len (.t 21)⟩,
   ⟨some 23, some (17, false), .bin 0 .eql (.t 22) (.k (.int .i64 0))⟩,
   ⟨some 24, none, .pick (.t 17) (.k (.bool true)) (.t 23)⟩])
 (.cond (.t 24)
 (.seq
 (.rg [⟨some 4, none, .mv (.k (.int .i64 0))⟩])
 .ret)
 .skip))
 (.seq
 (.rg [⟨some 25, none, .mv (.t 0)⟩,
   ⟨some 26, none, .nilc (.t 25)⟩,
   ⟨some 27, none, .fld 1 (.t 26)⟩,
   ⟨some 28, none, .load none (.t 27)⟩,
   ⟨some 29, none, .bin 0 .sub (.t 28) (.k (.int .i64 1))⟩,
   ⟨some 5, none, .mv (.t 29)⟩])
 (.seq
 (.seq
 (.rg [⟨some 30, none, .mv (.t 5)⟩,
   ⟨some 31, none, .mv (.t 0)⟩,
   ⟨some 32, none, .nilc (.t 31)⟩,
   ⟨some 33, none, .fld 0 (.t 32)⟩,
   ⟨some 34, none, .load none (.t 33)⟩,
   ⟨some 35, none, .len (.t 34)⟩,
   ⟨some 36, none, .bin 0 .lss (.t 30) (.t 35)⟩])
 (.cond (.t 36)
 (.seq
 (.rg [⟨some 37, none, .mv (.t 0)⟩,
   ⟨some 38, none, .nilc (.t 37)⟩,
   ⟨some 39, none, .fld 0 (.t 38)⟩,
   ⟨some 40, none, .load none (.t 39)⟩,
   ⟨some 41, none, .mv (.t 5)⟩,
   ⟨some 42, none, .idx 1 (.t 40) (.t 41)⟩,
   ⟨some 43, none, .load none (.t 42)⟩,
   ⟨some 44, none, .conv .i64 (.t 43)⟩,
   ⟨some 45, none, .mv (.t 1)⟩,
   ⟨some 46, none, .bin 0 .rem (.t 44) (.t 45)⟩,
   ⟨some 4, none, .mv (.t 46)⟩])
 .ret)
 .skip))
 (.seq
 (.rg [⟨some 47, none, .mv (.t 0)⟩,
   ⟨some 48, none, .nilc (.t 47)⟩,
   ⟨some 49, none, .fld 0 (.t 48)⟩,
   ⟨some 50, none, .load none (.t 49)⟩,
   ⟨some 51, none, .mv (.t 5)⟩,
   ⟨some 52, none, .mv (.t 0)⟩,
   ⟨some 53, none, .nilc (.t 52)⟩,
   ⟨some 54, none, .fld 0 (.t 53)⟩,
   ⟨some 55, none, .load none (.t 54)⟩,
   ⟨some 56, none, .len (.t 55)⟩,
   ⟨some 57, none, .bin 0 .rem (.t 51) (.t 56)⟩,
   ⟨some 58, none, .idx 1 (.t 50) (.t 57)⟩,
   ⟨some 59, none, .load none (.t 58)⟩,
   ⟨some 60, none, .conv .i64 (.t 59)⟩,
   ⟨some 61, none, .bin 0 .mul (.t 60) (.k (.int .i64 131))⟩,
   ⟨some 62, none, .mv (.t 0)⟩,
   ⟨some 63, none, .nilc (.t 62)⟩,
   ⟨some 64, none, .fld 0 (.t 63)⟩,
   ⟨some 65, none, .load none (.t 64)⟩,
   ⟨some 66, none, .mv (.t 5)⟩,
   ⟨some 67, none, .bin 0 .mul (.t 66) (.k (.int .i64 7))⟩,
   ⟨some 68, none, .bin 0 .add (.t 67) (.k (.int .i64 3))⟩,
   ⟨some 69, none, .mv (.t 0)⟩,
   ⟨some 70, none, .nilc (.t 69)⟩,
   ⟨some 71, none, .fld 0 (.t 70)⟩,
   ⟨some 72, none, .load none (.t 71)⟩,
   ⟨some 73, none, .len (.t 72)⟩,
   ⟨some 74, none, .bin 0 .rem (.t 68) (.t 73)⟩,
   ⟨some 75, none, .idx 1 (.t 65) (.t 74)⟩,
   ⟨some 76, none, .load none (.t 75)⟩,
   ⟨some 77, none, .conv .i64 (.t 76)⟩,
   ⟨some 78, none, .bin 0 .mul (.t 77) (.k (.int .i64 1117))⟩,
   ⟨some 79, none, .bin 0 .add (.t 61) (.t 78)⟩,
   ⟨some 80, none, .mv (.t 5)⟩,
   ⟨some 81, none, .bin 0 .mul (.t 80) (.k (.int .i64 29))⟩,
   ⟨some 82, none, .bin 0 .add (.t 79) (.t 81)⟩,
   ⟨some 83, none, .mv (.t 5)⟩,
   ⟨some 84, none, .mv (.t 0)⟩,
   ⟨some 85, none, .nilc (.t 84)⟩,
   ⟨some 86, none, .fld 0 (.t 85)⟩,
   ⟨some 87, none, .load none (.t 86)⟩,
   ⟨some 88, none, .len (.t 87)⟩,
   ⟨some 89, none, .bin 0 .quo (.t 83) (.t 88)⟩,
   ⟨some 90, none, .bin 0 .mul (.t 89) (.k (.int .i64 53))⟩,
   ⟨some 91, none, .bin 0 .add (.t 82) (.t 90)⟩,
   ⟨some 6, none, .mv (.t 91)⟩])
 (.seq
 (.rg [⟨some 92, none, .mv (.t 6)⟩,
   ⟨some 93, none, .mv (.t 6)⟩,
   ⟨some 94, none, .bin 0 .quo (.t 93) (.k (.int .i64 64))⟩,
   ⟨some 95, none, .bin 0 .xor (.t 92) (.t 94)⟩,
   ⟨some 6, none, .mv (.t 95)⟩])
 (.seq
 (.rg [⟨some 96, none, .mv (.t 6)⟩,
   ⟨some 97, none, .mv (.t 1)⟩,
   ⟨some 98, none, .bin 0 .rem (.t 96) (.t 97)⟩,
   ⟨some 4, none, .mv (.t 98)⟩])
 .ret)))))))) }
theorem is_spec_l6Rd_pick : IsF Try.prog n_spec_l6Rd_pick c_spec_l6Rd_pick := ⟨Try.f45, _, Try.func45, rfl, by decide, rfl, by kernel_rfl, by kernel_rfl⟩
noncomputable def c_spec_l6Open : FC := { n := 11, res := [⟨none, 2, []⟩], body :=
 (.seq
 (.rg [⟨some 2, none, .mv (.k (.pointer none))⟩])
 (.seq
 (.seq
 (.rg [⟨some 3, none, .mv (.t 0)⟩,
   ⟨some 4, none, .len (.t 3)⟩,
   ⟨some 5, none, .bin 0 .gtr (.t 4) (.k (.int .i64 2000))⟩])
 (.cond (.t 5)
 (.rg [⟨some 6, none, .mv (.t 0)⟩,
   ⟨some 7, none, .slc 1 (.t 6) none (some (.k (.int .i64 2000))) none⟩,
   ⟨some 0, none, .mv (.t 7)⟩])
 .skip))
 (.seq
 (.rg [⟨some 8, none, .mv (.t 0)⟩,
   ⟨some 9, none, .build [.slice none 0 0, .int .i64 0] [(0, 1, .t 8)]⟩,
   ⟨some 10, none, .box (.t 9)⟩,
   ⟨some 2, none, .mv (.t 10)⟩])
 .ret))) }
theorem is_spec_l6Open : IsF Try.prog n_spec_l6Open c_spec_l6Open := ⟨Try.f43, _, Try.func43, rfl, by decide, rfl, by kernel_rfl, by kernel_rfl⟩
end Av
end Go.Proofs.Ytfijfccgghhkoaa
