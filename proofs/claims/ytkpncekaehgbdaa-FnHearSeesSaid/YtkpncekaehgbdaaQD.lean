/- The functions' code in the small language, and that it is theirs. -/
import Derived.Test.YtkpncekaehgbdaaQ6
import Derived.Test.YtkpncekaehgbdaaD1
import Derived.Test.YtkpncekaehgbdaaProg
import Derived.KernelRfl
set_option linter.unusedVariables false
namespace Go.Proofs.Ytkpncekaehgbdaa
namespace Av
noncomputable def c_laws_FnHearSees : FC := { n := 129, res := [⟨none, 2, []⟩], body :=
 (.seq
 (.rg [⟨some 2, none, .mv (.k (.bool false))⟩])
 (.seq
 (.seq
 (.rg [⟨some 13, none, .mv (.t 0)⟩,
   ⟨some 14, none, .len (.t 13)⟩,
   ⟨some 15, none, .bin 0 .gtr (.t 14) (.k (.int .i64 1048576))⟩])
 (.cond (.t 15)
 (.seq
 (.rg [⟨some 2, none, .mv (.k (.bool true))⟩])
 .ret)
 .skip))
 (.seq
 (.rg [⟨some 17, none, .mv (.t 0)⟩,
   ⟨some 18, none, .call n_spec_DrawNodeHear S_spec_DrawNodeHear [(.t 17, [some 1])]⟩,
   ⟨some 16, none, .mv (.t 18)⟩,
   ⟨some 19, none, .ext (.t 16) 0⟩,
   ⟨some 20, none, .ext (.t 16) 1⟩,
   ⟨some 3, none, .alloc [.int .i64 0, .int .i64 0, .int .i64 0, .slice none 0 0]⟩,
   ⟨some 4, none, .alloc [.int .i64 0, .slice none 0 0]⟩,
   ⟨none, none, .store 4 (.t 3) (.t 19)⟩,
   ⟨none, none, .store 2 (.t 4) (.t 20)⟩])
 (.seq
 (.rg [⟨some 22, none, .load (some 4) (.t 3)⟩,
   ⟨some 23, none, .load (some 2) (.t 4)⟩,
   ⟨some 24, none, .call n_spec_NodeHear S_spec_NodeHear [(.t 22, [none, none, none, some 2]), (.t 23, [none, some 4])]⟩,
   ⟨some 21, none, .mv (.t 24)⟩,
   ⟨some 25, none, .ext (.t 21) 0⟩,
   ⟨some 26, none, .ext (.t 21) 1⟩,
   ⟨some 27, none, .ext (.t 21) 2⟩,
   ⟨some 5, none, .alloc [.int .i64 0, .int .i64 0, .int .i64 0, .slice none 0 0]⟩,
   ⟨some 6, none, .alloc [.int .i64 0, .slice none 0 0]⟩,
   ⟨none, none, .store 4 (.t 5) (.t 25)⟩,
   ⟨none, none, .store 2 (.t 6) (.t 26)⟩,
   ⟨some 7, none, .mv (.t 27)⟩])
 (.seq
 (.rg [⟨some 29, none, .load (some 4) (.t 3)⟩,
   ⟨some 30, none, .load (some 2) (.t 4)⟩,
   ⟨some 31, none, .call n_impl_NodeHear S_impl_NodeHear [(.t 29, [none, none, none, some 2]), (.t 30, [none, some 4])]⟩,
   ⟨some 28, none, .mv (.t 31)⟩,
   ⟨some 32, none, .ext (.t 28) 0⟩,
   ⟨some 33, none, .ext (.t 28) 1⟩,
   ⟨some 34, none, .ext (.t 28) 2⟩,
   ⟨some 8, none, .alloc [.int .i64 0, .int .i64 0, .int .i64 0, .slice none 0 0]⟩,
   ⟨some 9, none, .alloc [.int .i64 0, .slice none 0 0]⟩,
   ⟨none, none, .store 4 (.t 8) (.t 32)⟩,
   ⟨none, none, .store 2 (.t 9) (.t 33)⟩,
   ⟨some 10, none, .mv (.t 34)⟩])
 (.seq
 (.seq
 (.rg [⟨some 35, none, .mv (.t 10)⟩,
   ⟨some 36, none, .mv (.t 7)⟩,
   ⟨some 37, none, .bin 1 .neq (.t 35) (.t 36)⟩,
   ⟨some 38, none, .mv (.t 37)⟩,
   ⟨some 39, some (38, false), .load (some 4) (.t 8)⟩,
   ⟨some 40, some (38, false), .load (some 4) (.t 5)⟩,
   ⟨some 41, some (38, false), .call n_laws_lwNode S_laws_lwNode [(.t 39, [none, none, none, some 2]), (.t 40, [none, none, none, some 2])]⟩,
   ⟨some 42, some (38, false), .un .not (.t 41)⟩,
   ⟨some 43, none, .pick (.t 38) (.k (.bool true)) (.t 42)⟩,
   ⟨some 44, none, .mv (.t 43)⟩,
   ⟨some 45, some (44, false), .load (some 2) (.t 9)⟩,
   ⟨some 46, some (44, false), .load (some 2) (.t 6)⟩,
   ⟨some 47, some (44, false), .call n_laws_lwVote S_laws_lwVote [(.t 45, [none, some 4]), (.t 46, [none, some 4])]⟩,
   ⟨some 48, some (44, false), .un .not (.t 47)⟩,
   ⟨some 49, none, .pick (.t 44) (.k (.bool true)) (.t 48)⟩,
   ⟨some 50, none, .mv (.t 49)⟩,
   ⟨some 51, some (50, false), .load (some 4) (.t 3)⟩,
   ⟨some 52, some (50, false), .call n_spec_NodeOk S_spec_NodeOk [(.t 51, [none, none, none, some 2])]⟩,
   ⟨some 53, some (50, false), .un .not (.t 52)⟩,
   ⟨some 54, none, .pick (.t 50) (.k (.bool true)) (.t 53)⟩])
 (.cond (.t 54)
 (.seq
 (.rg [⟨some 55, none, .mv (.t 10)⟩,
   ⟨some 56, none, .mv (.t 7)⟩,
   ⟨some 57, none, .bin 1 .eql (.t 55) (.t 56)⟩,
   ⟨some 58, none, .mv (.t 57)⟩,
   ⟨some 59, some (58, true), .load (some 4) (.t 8)⟩,
   ⟨some 60, some (58, true), .load (some 4) (.t 5)⟩,
   ⟨some 61, some (58, true), .call n_laws_lwNode S_laws_lwNode [(.t 59, [none, none, none, some 2]), (.t 60, [none, none, none, some 2])]⟩,
   ⟨some 62, none, .pick (.t 58) (.t 61) (.k (.bool false))⟩,
   ⟨some 63, none, .mv (.t 62)⟩,
   ⟨some 64, some (63, true), .load (some 2) (.t 9)⟩,
   ⟨some 65, some (63, true), .load (some 2) (.t 6)⟩,
   ⟨some 66, some (63, true), .call n_laws_lwVote S_laws_lwVote [(.t 64, [none, some 4]), (.t 65, [none, some 4])]⟩,
   ⟨some 67, none, .pick (.t 63) (.t 66) (.k (.bool false))⟩,
   ⟨some 2, none, .mv (.t 67)⟩])
 .ret)
 .skip))
 (.seq
 (.rg [⟨some 68, none, .fld 3 (.t 3)⟩,
   ⟨some 69, none, .load none (.t 68)⟩,
   ⟨some 70, none, .len (.t 69)⟩,
   ⟨some 11, none, .mv (.t 70)⟩])
 (.seq
 (.seq
 (.rg [⟨some 71, none, .fld 3 (.t 8)⟩,
   ⟨some 72, none, .load none (.t 71)⟩,
   ⟨some 73, none, .len (.t 72)⟩,
   ⟨some 74, none, .mv (.t 11)⟩,
   ⟨some 75, none, .bin 0 .lss (.t 73) (.t 74)⟩,
   ⟨some 76, none, .mv (.t 75)⟩,
   ⟨some 77, some (76, false), .fld 3 (.t 8)⟩,
   ⟨some 78, some (76, false), .load none (.t 77)⟩,
   ⟨some 79, some (76, false), .len (.t 78)⟩,
   ⟨some 80, some (76, false), .mv (.t 11)⟩,
   ⟨some 81, some (76, false), .bin 0 .add (.t 80) (.k (.int .i64 2))⟩,
   ⟨some 82, some (76, false), .bin 0 .gtr (.t 79) (.t 81)⟩,
   ⟨some 83, none, .pick (.t 76) (.k (.bool true)) (.t 82)⟩,
   ⟨some 84, none, .mv (.t 83)⟩,
   ⟨some 85, some (84, false), .fld 3 (.t 8)⟩,
   ⟨some 86, some (84, false), .load none (.t 85)⟩,
   ⟨some 87, some (84, false), .mv (.t 11)⟩,
   ⟨some 88, some (84, false), .slc 2 (.t 86) none (some (.t 87)) none⟩,
   ⟨some 89, some (84, false), .fld 3 (.t 3)⟩,
   ⟨some 90, some (84, false), .load none (.t 89)⟩,
   ⟨some 91, some (84, false), .call n_laws_lwVotes S_laws_lwVotes [(.t 88, [some 2]), (.t 90, [some 2])]⟩,
   ⟨some 92, some (84, false), .un .not (.t 91)⟩,
   ⟨some 93, none, .pick (.t 84) (.k (.bool true)) (.t 92)⟩])
 (.cond (.t 93)
 (.seq
 (.rg [⟨some 2, none, .mv (.k (.bool false))⟩])
 .ret)
 .skip))
 (.seq
 (.rg [⟨some 94, none, .load (some 2) (.t 4)⟩,
   ⟨some 95, none, .call n_impl_VoteOk S_impl_VoteOk [(.t 94, [none, some 4])]⟩,
   ⟨some 96, none, .mv (.t 95)⟩,
   ⟨some 97, some (96, true), .fld 0 (.t 4)⟩,
   ⟨some 98, some (96, true), .load none (.t 97)⟩,
   ⟨some 99, some (96, true), .fld 0 (.t 3)⟩,
   ⟨some 100, some (96, true), .load none (.t 99)⟩,
   ⟨some 101, some (96, true), .bin 0 .neq (.t 98) (.t 100)⟩,
   ⟨some 102, none, .pick (.t 96) (.t 101) (.k (.bool false))⟩,
   ⟨some 103, none, .mv (.t 102)⟩,
   ⟨some 104, some (103, true), .mv (.t 11)⟩,
   ⟨some 105, some (103, true), .bin 0 .lss (.t 104) (.k (.int .i64 80))⟩,
   ⟨some 106, none, .pick (.t 103) (.t 105) (.k (.bool false))⟩,
   ⟨some 12, none, .mv (.t 106)⟩])
 (.seq
 (.rg [⟨some 107, none, .mv (.t 12)⟩,
   ⟨some 108, none, .un .not (.t 107)⟩,
   ⟨some 109, none, .mv (.t 108)⟩,
   ⟨some 110, some (109, false), .fld 3 (.t 8)⟩,
   ⟨some 111, some (109, false), .load none (.t 110)⟩,
   ⟨some 112, some (109, false), .load (some 2) (.t 4)⟩,
   ⟨some 113, some (109, false), .call n_laws_lwHas S_laws_lwHas [(.t 111, [some 2]), (.t 112, [none, some 4])]⟩,
   ⟨some 114, none, .pick (.t 109) (.k (.bool true)) (.t 113)⟩,
   ⟨some 115, none, .mv (.t 114)⟩,
   ⟨some 116, some (115, true), .mv (.t 12)⟩,
   ⟨some 117, some (115, true), .mv (.t 116)⟩,
   ⟨some 118, some (117, false), .fld 3 (.t 8)⟩,
   ⟨some 119, some (117, false), .load none (.t 118)⟩,
   ⟨some 120, some (117, false), .len (.t 119)⟩,
   ⟨some 121, some (117, false), .mv (.t 11)⟩,
   ⟨some 122, some (117, false), .bin 0 .eql (.t 120) (.t 121)⟩,
   ⟨some 123, some (115, true), .pick (.t 117) (.k (.bool true)) (.t 122)⟩,
   ⟨some 124, none, .pick (.t 115) (.t 123) (.k (.bool false))⟩,
   ⟨some 125, none, .mv (.t 124)⟩,
   ⟨some 126, some (125, true), .load (some 4) (.t 8)⟩,
   ⟨some 127, some (125, true), .call n_impl_NodeOk S_impl_NodeOk [(.t 126, [none, none, none, some 2])]⟩,
   ⟨some 128, none, .pick (.t 125) (.t 127) (.k (.bool false))⟩,
   ⟨some 2, none, .mv (.t 128)⟩])
 .ret)))))))))) }
theorem is_laws_FnHearSees : IsF Try.prog n_laws_FnHearSees c_laws_FnHearSees := ⟨Try.f4, _, Try.func4, rfl, by decide, rfl, by kernel_rfl, by kernel_rfl⟩
end Av
end Go.Proofs.Ytkpncekaehgbdaa
