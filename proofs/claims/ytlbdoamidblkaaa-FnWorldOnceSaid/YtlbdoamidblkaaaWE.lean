/- The functions' code in the small language, and that it is theirs. -/
import Derived.Test.YtlbdoamidblkaaaWQ
import Derived.Test.YtlbdoamidblkaaaJ10
import Derived.Test.YtlbdoamidblkaaaProg
import Derived.KernelRfl
set_option linter.unusedVariables false
namespace Go.Proofs.Ytlbdoamidblkaaa
namespace Av
noncomputable def c_laws_FnWorldOnce : FC := { n := 112, res := [⟨none, 2, []⟩], body :=
 (.seq
 (.rg [⟨some 2, none, .mv (.k (.bool false))⟩])
 (.seq
 (.seq
 (.rg [⟨some 14, none, .mv (.t 0)⟩,
   ⟨some 15, none, .len (.t 14)⟩,
   ⟨some 16, none, .bin 0 .gtr (.t 15) (.k (.int .i64 1048576))⟩])
 (.cond (.t 16)
 (.seq
 (.rg [⟨some 2, none, .mv (.k (.bool true))⟩])
 .ret)
 .skip))
 (.seq
 (.rg [⟨some 18, none, .mv (.t 0)⟩,
   ⟨some 19, none, .call n_spec_DrawWorldPlay S_spec_DrawWorldPlay [(.t 18, [some 1])]⟩,
   ⟨some 17, none, .mv (.t 19)⟩,
   ⟨some 20, none, .ext (.t 17) 0⟩,
   ⟨some 21, none, .ext (.t 17) 1⟩,
   ⟨some 3, none, .mv (.t 20)⟩,
   ⟨some 4, none, .mv (.t 21)⟩])
 (.seq
 (.rg [⟨some 23, none, .mv (.t 3)⟩,
   ⟨some 24, none, .mv (.t 4)⟩,
   ⟨some 25, none, .call n_impl_WorldPlay S_impl_WorldPlay [(.t 23, []), (.t 24, [some 8])]⟩,
   ⟨some 22, none, .mv (.t 25)⟩,
   ⟨some 26, none, .ext (.t 22) 0⟩,
   ⟨some 27, none, .ext (.t 22) 1⟩,
   ⟨some 5, none, .alloc [.int .i64 0, .slice none 0 0, .slice none 0 0, .int .i64 0]⟩,
   ⟨none, none, .store 4 (.t 5) (.t 26)⟩,
   ⟨some 6, none, .mv (.t 27)⟩])
 (.seq
 (.rg [⟨some 29, none, .mv (.t 3)⟩,
   ⟨some 30, none, .mv (.t 4)⟩,
   ⟨some 31, none, .call n_spec_WorldPlay S_spec_WorldPlay [(.t 29, []), (.t 30, [some 8])]⟩,
   ⟨some 28, none, .mv (.t 31)⟩,
   ⟨some 32, none, .ext (.t 28) 0⟩,
   ⟨some 33, none, .ext (.t 28) 1⟩,
   ⟨some 7, none, .alloc [.int .i64 0, .slice none 0 0, .slice none 0 0, .int .i64 0]⟩,
   ⟨none, none, .store 4 (.t 7) (.t 32)⟩,
   ⟨some 8, none, .mv (.t 33)⟩])
 (.seq
 (.seq
 (.rg [⟨some 34, none, .mv (.t 6)⟩,
   ⟨some 35, none, .mv (.t 8)⟩,
   ⟨some 36, none, .bin 1 .neq (.t 34) (.t 35)⟩,
   ⟨some 37, none, .mv (.t 36)⟩,
   ⟨some 38, some (37, false), .load (some 4) (.t 5)⟩,
   ⟨some 39, some (37, false), .load (some 4) (.t 7)⟩,
   ⟨some 40, some (37, false), .call n_laws_lwWorld S_laws_lwWorld [(.t 38, [none, some 4, some 2]), (.t 39, [none, some 4, some 2])]⟩,
   ⟨some 41, some (37, false), .un .not (.t 40)⟩,
   ⟨some 42, none, .pick (.t 37) (.k (.bool true)) (.t 41)⟩,
   ⟨some 43, none, .mv (.t 42)⟩,
   ⟨some 44, some (43, false), .mv (.t 6)⟩,
   ⟨some 45, some (43, false), .un .not (.t 44)⟩,
   ⟨some 46, none, .pick (.t 43) (.k (.bool true)) (.t 45)⟩])
 (.cond (.t 46)
 (.seq
 (.rg [⟨some 47, none, .mv (.t 6)⟩,
   ⟨some 48, none, .mv (.t 8)⟩,
   ⟨some 49, none, .bin 1 .eql (.t 47) (.t 48)⟩,
   ⟨some 50, none, .mv (.t 49)⟩,
   ⟨some 51, some (50, true), .load (some 4) (.t 5)⟩,
   ⟨some 52, some (50, true), .load (some 4) (.t 7)⟩,
   ⟨some 53, some (50, true), .call n_laws_lwWorld S_laws_lwWorld [(.t 51, [none, some 4, some 2]), (.t 52, [none, some 4, some 2])]⟩,
   ⟨some 54, none, .pick (.t 50) (.t 53) (.k (.bool false))⟩,
   ⟨some 2, none, .mv (.t 54)⟩])
 .ret)
 .skip))
 (.seq
 (.seq
 (.rg [⟨some 9, none, .mv (.k (.int .i64 0))⟩])
 (.block 0
 (.loop
 (.seq
 (.seq
 (.rg [⟨some 55, none, .mv (.t 9)⟩,
   ⟨some 56, none, .fld 2 (.t 5)⟩,
   ⟨some 57, none, .load none (.t 56)⟩,
   ⟨some 58, none, .len (.t 57)⟩,
   ⟨some 59, none, .bin 0 .lss (.t 55) (.t 58)⟩])
 (.cond (.t 59)
 .skip
 (.exit 0)))
 (.seq
 (.block 1
 (.seq
 (.rg [⟨some 62, none, .fld 2 (.t 5)⟩,
   ⟨some 63, none, .load none (.t 62)⟩,
   ⟨some 64, none, .mv (.t 9)⟩,
   ⟨some 65, none, .idx 2 (.t 63) (.t 64)⟩,
   ⟨some 66, none, .load (some 2) (.t 65)⟩,
   ⟨some 10, none, .alloc [.int .i64 0, .slice none 0 0]⟩,
   ⟨none, none, .store 2 (.t 10) (.t 66)⟩])
 (.seq
 (.seq
 (.rg [⟨some 67, none, .fld 0 (.t 10)⟩,
   ⟨some 68, none, .load none (.t 67)⟩,
   ⟨some 69, none, .mv (.t 3)⟩,
   ⟨some 70, none, .bin 0 .eql (.t 68) (.t 69)⟩])
 (.cond (.t 70)
 (.exit 1)
 .skip))
 (.seq
 (.rg [⟨some 71, none, .fld 1 (.t 10)⟩,
   ⟨some 72, none, .load none (.t 71)⟩,
   ⟨some 73, none, .fld 1 (.t 10)⟩,
   ⟨some 74, none, .load none (.t 73)⟩,
   ⟨some 75, none, .len (.t 74)⟩,
   ⟨some 76, none, .bin 0 .sub (.t 75) (.k (.int .i64 1))⟩,
   ⟨some 77, none, .idx 4 (.t 72) (.t 76)⟩,
   ⟨some 78, none, .fld 0 (.t 77)⟩,
   ⟨some 79, none, .load none (.t 78)⟩,
   ⟨some 11, none, .mv (.t 79)⟩])
 (.seq
 (.seq
 (.rg [⟨some 80, none, .mv (.t 11)⟩,
   ⟨some 81, none, .fld 0 (.t 5)⟩,
   ⟨some 82, none, .load none (.t 81)⟩,
   ⟨some 83, none, .bin 0 .gtr (.t 80) (.t 82)⟩])
 (.cond (.t 83)
 (.seq
 (.rg [⟨some 2, none, .mv (.k (.bool false))⟩])
 .ret)
 .skip))
 (.seq
 (.rg [⟨some 12, none, .mv (.k (.int .i64 0))⟩])
 (.block 2
 (.loop
 (.seq
 (.seq
 (.rg [⟨some 84, none, .mv (.t 12)⟩,
   ⟨some 85, none, .mv (.t 9)⟩,
   ⟨some 86, none, .bin 0 .lss (.t 84) (.t 85)⟩])
 (.cond (.t 86)
 .skip
 (.exit 2)))
 (.seq
 (.block 3
 (.seq
 (.rg [⟨some 89, none, .fld 2 (.t 5)⟩,
   ⟨some 90, none, .load none (.t 89)⟩,
   ⟨some 91, none, .mv (.t 12)⟩,
   ⟨some 92, none, .idx 2 (.t 90) (.t 91)⟩,
   ⟨some 93, none, .load (some 2) (.t 92)⟩,
   ⟨some 13, none, .alloc [.int .i64 0, .slice none 0 0]⟩,
   ⟨none, none, .store 2 (.t 13) (.t 93)⟩])
 (.seq
 (.rg [⟨some 94, none, .fld 0 (.t 13)⟩,
   ⟨some 95, none, .load none (.t 94)⟩,
   ⟨some 96, none, .fld 0 (.t 10)⟩,
   ⟨some 97, none, .load none (.t 96)⟩,
   ⟨some 98, none, .bin 0 .eql (.t 95) (.t 97)⟩,
   ⟨some 99, none, .mv (.t 98)⟩,
   ⟨some 100, some (99, true), .fld 1 (.t 13)⟩,
   ⟨some 101, some (99, true), .load none (.t 100)⟩,
   ⟨some 102, some (99, true), .fld 1 (.t 13)⟩,
   ⟨some 103, some (99, true), .load none (.t 102)⟩,
   ⟨some 104, some (99, true), .len (.t 103)⟩,
   ⟨some 105, some (99, true), .bin 0 .sub (.t 104) (.k (.int .i64 1))⟩,
   ⟨some 106, some (99, true), .idx 4 (.t 101) (.t 105)⟩,
   ⟨some 107, some (99, true), .fld 0 (.t 106)⟩,
   ⟨some 108, some (99, true), .load none (.t 107)⟩,
   ⟨some 109, some (99, true), .mv (.t 11)⟩,
   ⟨some 110, some (99, true), .bin 0 .eql (.t 108) (.t 109)⟩,
   ⟨some 111, none, .pick (.t 99) (.t 110) (.k (.bool false))⟩])
 (.cond (.t 111)
 (.seq
 (.rg [⟨some 2, none, .mv (.k (.bool false))⟩])
 .ret)
 .skip))))
 (.rg [⟨some 87, none, .mv (.t 12)⟩,
   ⟨some 88, none, .bin 0 .add (.t 87) (.k (.int .i64 1))⟩,
   ⟨some 12, none, .mv (.t 88)⟩])))))))))))
 (.rg [⟨some 60, none, .mv (.t 9)⟩,
   ⟨some 61, none, .bin 0 .add (.t 60) (.k (.int .i64 1))⟩,
   ⟨some 9, none, .mv (.t 61)⟩]))))))
 (.seq
 (.rg [⟨some 2, none, .mv (.k (.bool true))⟩])
 .ret)))))))) }
theorem is_laws_FnWorldOnce : IsF Try.prog n_laws_FnWorldOnce c_laws_FnWorldOnce := ⟨Try.f3, _, Try.func3, rfl, by decide, rfl, by kernel_rfl, by kernel_rfl⟩
end Av
end Go.Proofs.Ytlbdoamidblkaaa
