/- The functions' code in the small language, and that it is theirs. -/
import Derived.Test.YtlbdoamidblkaaaWQ
import Derived.Test.YtlbdoamidblkaaaJ10
import Derived.Test.YtlbdoamidblkaaaProg
import Derived.KernelRfl
set_option linter.unusedVariables false
namespace Go.Proofs.Ytlbdoamidblkaaa
namespace Av
noncomputable def c_laws_FnWorldCount : FC := { n := 87, res := [⟨none, 2, []⟩], body :=
 (.seq
 (.rg [⟨some 2, none, .mv (.k (.bool false))⟩])
 (.seq
 (.seq
 (.rg [⟨some 12, none, .mv (.t 0)⟩,
   ⟨some 13, none, .len (.t 12)⟩,
   ⟨some 14, none, .bin 0 .gtr (.t 13) (.k (.int .i64 1048576))⟩])
 (.cond (.t 14)
 (.seq
 (.rg [⟨some 2, none, .mv (.k (.bool true))⟩])
 .ret)
 .skip))
 (.seq
 (.rg [⟨some 16, none, .mv (.t 0)⟩,
   ⟨some 17, none, .call n_spec_DrawWorldPlay S_spec_DrawWorldPlay [(.t 16, [some 1])]⟩,
   ⟨some 15, none, .mv (.t 17)⟩,
   ⟨some 18, none, .ext (.t 15) 0⟩,
   ⟨some 19, none, .ext (.t 15) 1⟩,
   ⟨some 3, none, .mv (.t 18)⟩,
   ⟨some 4, none, .mv (.t 19)⟩])
 (.seq
 (.rg [⟨some 21, none, .mv (.t 3)⟩,
   ⟨some 22, none, .mv (.t 4)⟩,
   ⟨some 23, none, .call n_impl_WorldPlay S_impl_WorldPlay [(.t 21, []), (.t 22, [some 8])]⟩,
   ⟨some 20, none, .mv (.t 23)⟩,
   ⟨some 24, none, .ext (.t 20) 0⟩,
   ⟨some 25, none, .ext (.t 20) 1⟩,
   ⟨some 5, none, .alloc [.int .i64 0, .slice none 0 0, .slice none 0 0, .int .i64 0]⟩,
   ⟨none, none, .store 4 (.t 5) (.t 24)⟩,
   ⟨some 6, none, .mv (.t 25)⟩])
 (.seq
 (.rg [⟨some 27, none, .mv (.t 3)⟩,
   ⟨some 28, none, .mv (.t 4)⟩,
   ⟨some 29, none, .call n_spec_WorldPlay S_spec_WorldPlay [(.t 27, []), (.t 28, [some 8])]⟩,
   ⟨some 26, none, .mv (.t 29)⟩,
   ⟨some 30, none, .ext (.t 26) 0⟩,
   ⟨some 31, none, .ext (.t 26) 1⟩,
   ⟨some 7, none, .alloc [.int .i64 0, .slice none 0 0, .slice none 0 0, .int .i64 0]⟩,
   ⟨none, none, .store 4 (.t 7) (.t 30)⟩,
   ⟨some 8, none, .mv (.t 31)⟩])
 (.seq
 (.seq
 (.rg [⟨some 32, none, .mv (.t 6)⟩,
   ⟨some 33, none, .mv (.t 8)⟩,
   ⟨some 34, none, .bin 1 .neq (.t 32) (.t 33)⟩,
   ⟨some 35, none, .mv (.t 34)⟩,
   ⟨some 36, some (35, false), .load (some 4) (.t 5)⟩,
   ⟨some 37, some (35, false), .load (some 4) (.t 7)⟩,
   ⟨some 38, some (35, false), .call n_laws_lwWorld S_laws_lwWorld [(.t 36, [none, some 4, some 2]), (.t 37, [none, some 4, some 2])]⟩,
   ⟨some 39, some (35, false), .un .not (.t 38)⟩,
   ⟨some 40, none, .pick (.t 35) (.k (.bool true)) (.t 39)⟩,
   ⟨some 41, none, .mv (.t 40)⟩,
   ⟨some 42, some (41, false), .mv (.t 6)⟩,
   ⟨some 43, some (41, false), .un .not (.t 42)⟩,
   ⟨some 44, none, .pick (.t 41) (.k (.bool true)) (.t 43)⟩])
 (.cond (.t 44)
 (.seq
 (.rg [⟨some 45, none, .mv (.t 6)⟩,
   ⟨some 46, none, .mv (.t 8)⟩,
   ⟨some 47, none, .bin 1 .eql (.t 45) (.t 46)⟩,
   ⟨some 48, none, .mv (.t 47)⟩,
   ⟨some 49, some (48, true), .load (some 4) (.t 5)⟩,
   ⟨some 50, some (48, true), .load (some 4) (.t 7)⟩,
   ⟨some 51, some (48, true), .call n_laws_lwWorld S_laws_lwWorld [(.t 49, [none, some 4, some 2]), (.t 50, [none, some 4, some 2])]⟩,
   ⟨some 52, none, .pick (.t 48) (.t 51) (.k (.bool false))⟩,
   ⟨some 2, none, .mv (.t 52)⟩])
 .ret)
 .skip))
 (.seq
 (.seq
 (.rg [⟨some 9, none, .mv (.k (.int .i64 1))⟩])
 (.block 0
 (.loop
 (.seq
 (.seq
 (.rg [⟨some 53, none, .mv (.t 9)⟩,
   ⟨some 54, none, .bin 0 .leq (.t 53) (.k (.int .i64 4))⟩])
 (.cond (.t 54)
 .skip
 (.exit 0)))
 (.seq
 (.block 1
 (.seq
 (.rg [⟨some 10, none, .mv (.k (.int .i64 0))⟩])
 (.seq
 (.seq
 (.rg [⟨some 11, none, .mv (.k (.int .i64 0))⟩])
 (.block 2
 (.loop
 (.seq
 (.seq
 (.rg [⟨some 57, none, .mv (.t 11)⟩,
   ⟨some 58, none, .fld 2 (.t 5)⟩,
   ⟨some 59, none, .load none (.t 58)⟩,
   ⟨some 60, none, .len (.t 59)⟩,
   ⟨some 61, none, .bin 0 .lss (.t 57) (.t 60)⟩])
 (.cond (.t 61)
 .skip
 (.exit 2)))
 (.seq
 (.block 3
 (.seq
 (.rg [⟨some 64, none, .fld 2 (.t 5)⟩,
   ⟨some 65, none, .load none (.t 64)⟩,
   ⟨some 66, none, .mv (.t 11)⟩,
   ⟨some 67, none, .idx 2 (.t 65) (.t 66)⟩,
   ⟨some 68, none, .fld 0 (.t 67)⟩,
   ⟨some 69, none, .load none (.t 68)⟩,
   ⟨some 70, none, .mv (.t 9)⟩,
   ⟨some 71, none, .bin 0 .eql (.t 69) (.t 70)⟩])
 (.cond (.t 71)
 (.rg [⟨some 72, none, .mv (.t 10)⟩,
   ⟨some 73, none, .bin 0 .add (.t 72) (.k (.int .i64 1))⟩,
   ⟨some 10, none, .mv (.t 73)⟩])
 .skip)))
 (.rg [⟨some 62, none, .mv (.t 11)⟩,
   ⟨some 63, none, .bin 0 .add (.t 62) (.k (.int .i64 1))⟩,
   ⟨some 11, none, .mv (.t 63)⟩]))))))
 (.seq
 (.rg [⟨some 74, none, .mv (.t 9)⟩,
   ⟨some 75, none, .mv (.t 3)⟩,
   ⟨some 76, none, .bin 0 .neq (.t 74) (.t 75)⟩,
   ⟨some 77, none, .mv (.t 76)⟩,
   ⟨some 78, some (77, true), .mv (.t 10)⟩,
   ⟨some 79, some (77, true), .fld 0 (.t 5)⟩,
   ⟨some 80, some (77, true), .load none (.t 79)⟩,
   ⟨some 81, some (77, true), .bin 0 .gtr (.t 78) (.t 80)⟩,
   ⟨some 82, none, .pick (.t 77) (.t 81) (.k (.bool false))⟩])
 (.cond (.t 82)
 (.seq
 (.rg [⟨some 2, none, .mv (.k (.bool false))⟩])
 .ret)
 .skip)))))
 (.rg [⟨some 55, none, .mv (.t 9)⟩,
   ⟨some 56, none, .bin 0 .add (.t 55) (.k (.int .i64 1))⟩,
   ⟨some 9, none, .mv (.t 56)⟩]))))))
 (.seq
 (.rg [⟨some 83, none, .fld 2 (.t 5)⟩,
   ⟨some 84, none, .load none (.t 83)⟩,
   ⟨some 85, none, .len (.t 84)⟩,
   ⟨some 86, none, .bin 0 .leq (.t 85) (.k (.int .i64 80))⟩,
   ⟨some 2, none, .mv (.t 86)⟩])
 .ret)))))))) }
theorem is_laws_FnWorldCount : IsF Try.prog n_laws_FnWorldCount c_laws_FnWorldCount := ⟨Try.f5, _, Try.func5, rfl, by decide, rfl, by kernel_rfl, by kernel_rfl⟩
end Av
end Go.Proofs.Ytlbdoamidblkaaa
