/- The functions' code in the small language, and that it is theirs. -/
import Derived.Test.YtkpncekaehgbdaaQ6
import Derived.Test.YtkpncekaehgbdaaD1
import Derived.Test.YtkpncekaehgbdaaProg
import Derived.KernelRfl
set_option linter.unusedVariables false
namespace Go.Proofs.Ytkpncekaehgbdaa
namespace Av
noncomputable def c_laws_FnHearOther : FC := { n := 132, res := [⟨none, 2, []⟩], body :=
 (.seq
 (.rg [⟨some 2, none, .mv (.k (.bool false))⟩])
 (.seq
 (.seq
 (.rg [⟨some 21, none, .mv (.t 0)⟩,
   ⟨some 22, none, .len (.t 21)⟩,
   ⟨some 23, none, .bin 0 .gtr (.t 22) (.k (.int .i64 1048576))⟩])
 (.cond (.t 23)
 (.seq
 (.rg [⟨some 2, none, .mv (.k (.bool true))⟩])
 .ret)
 .skip))
 (.seq
 (.rg [⟨some 25, none, .mv (.t 0)⟩,
   ⟨some 26, none, .call n_spec_DrawNodeHear S_spec_DrawNodeHear [(.t 25, [some 1])]⟩,
   ⟨some 24, none, .mv (.t 26)⟩,
   ⟨some 27, none, .ext (.t 24) 0⟩,
   ⟨some 28, none, .ext (.t 24) 1⟩,
   ⟨some 3, none, .alloc [.int .i64 0, .int .i64 0, .int .i64 0, .slice none 0 0]⟩,
   ⟨some 4, none, .alloc [.int .i64 0, .slice none 0 0]⟩,
   ⟨none, none, .store 4 (.t 3) (.t 27)⟩,
   ⟨none, none, .store 2 (.t 4) (.t 28)⟩])
 (.seq
 (.rg [⟨some 30, none, .load (some 4) (.t 3)⟩,
   ⟨some 31, none, .load (some 2) (.t 4)⟩,
   ⟨some 32, none, .call n_spec_NodeHear S_spec_NodeHear [(.t 30, [none, none, none, some 2]), (.t 31, [none, some 4])]⟩,
   ⟨some 29, none, .mv (.t 32)⟩,
   ⟨some 33, none, .ext (.t 29) 0⟩,
   ⟨some 34, none, .ext (.t 29) 1⟩,
   ⟨some 35, none, .ext (.t 29) 2⟩,
   ⟨some 5, none, .alloc [.int .i64 0, .int .i64 0, .int .i64 0, .slice none 0 0]⟩,
   ⟨some 6, none, .alloc [.int .i64 0, .slice none 0 0]⟩,
   ⟨none, none, .store 4 (.t 5) (.t 33)⟩,
   ⟨none, none, .store 2 (.t 6) (.t 34)⟩,
   ⟨some 7, none, .mv (.t 35)⟩])
 (.seq
 (.rg [⟨some 37, none, .load (some 4) (.t 3)⟩,
   ⟨some 38, none, .load (some 2) (.t 4)⟩,
   ⟨some 39, none, .call n_impl_NodeHear S_impl_NodeHear [(.t 37, [none, none, none, some 2]), (.t 38, [none, some 4])]⟩,
   ⟨some 36, none, .mv (.t 39)⟩,
   ⟨some 40, none, .ext (.t 36) 0⟩,
   ⟨some 41, none, .ext (.t 36) 1⟩,
   ⟨some 42, none, .ext (.t 36) 2⟩,
   ⟨some 8, none, .alloc [.int .i64 0, .int .i64 0, .int .i64 0, .slice none 0 0]⟩,
   ⟨some 9, none, .alloc [.int .i64 0, .slice none 0 0]⟩,
   ⟨none, none, .store 4 (.t 8) (.t 40)⟩,
   ⟨none, none, .store 2 (.t 9) (.t 41)⟩,
   ⟨some 10, none, .mv (.t 42)⟩])
 (.seq
 (.seq
 (.rg [⟨some 43, none, .mv (.t 10)⟩,
   ⟨some 44, none, .mv (.t 7)⟩,
   ⟨some 45, none, .bin 1 .neq (.t 43) (.t 44)⟩,
   ⟨some 46, none, .mv (.t 45)⟩,
   ⟨some 47, some (46, false), .load (some 4) (.t 8)⟩,
   ⟨some 48, some (46, false), .load (some 4) (.t 5)⟩,
   ⟨some 49, some (46, false), .call n_laws_lwNode S_laws_lwNode [(.t 47, [none, none, none, some 2]), (.t 48, [none, none, none, some 2])]⟩,
   ⟨some 50, some (46, false), .un .not (.t 49)⟩,
   ⟨some 51, none, .pick (.t 46) (.k (.bool true)) (.t 50)⟩,
   ⟨some 52, none, .mv (.t 51)⟩,
   ⟨some 53, some (52, false), .load (some 2) (.t 9)⟩,
   ⟨some 54, some (52, false), .load (some 2) (.t 6)⟩,
   ⟨some 55, some (52, false), .call n_laws_lwVote S_laws_lwVote [(.t 53, [none, some 4]), (.t 54, [none, some 4])]⟩,
   ⟨some 56, some (52, false), .un .not (.t 55)⟩,
   ⟨some 57, none, .pick (.t 52) (.k (.bool true)) (.t 56)⟩,
   ⟨some 58, none, .mv (.t 57)⟩,
   ⟨some 59, some (58, false), .load (some 4) (.t 3)⟩,
   ⟨some 60, some (58, false), .call n_spec_NodeOk S_spec_NodeOk [(.t 59, [none, none, none, some 2])]⟩,
   ⟨some 61, some (58, false), .un .not (.t 60)⟩,
   ⟨some 62, none, .pick (.t 58) (.k (.bool true)) (.t 61)⟩])
 (.cond (.t 62)
 (.seq
 (.rg [⟨some 63, none, .mv (.t 10)⟩,
   ⟨some 64, none, .mv (.t 7)⟩,
   ⟨some 65, none, .bin 1 .eql (.t 63) (.t 64)⟩,
   ⟨some 66, none, .mv (.t 65)⟩,
   ⟨some 67, some (66, true), .load (some 4) (.t 8)⟩,
   ⟨some 68, some (66, true), .load (some 4) (.t 5)⟩,
   ⟨some 69, some (66, true), .call n_laws_lwNode S_laws_lwNode [(.t 67, [none, none, none, some 2]), (.t 68, [none, none, none, some 2])]⟩,
   ⟨some 70, none, .pick (.t 66) (.t 69) (.k (.bool false))⟩,
   ⟨some 71, none, .mv (.t 70)⟩,
   ⟨some 72, some (71, true), .load (some 2) (.t 9)⟩,
   ⟨some 73, some (71, true), .load (some 2) (.t 6)⟩,
   ⟨some 74, some (71, true), .call n_laws_lwVote S_laws_lwVote [(.t 72, [none, some 4]), (.t 73, [none, some 4])]⟩,
   ⟨some 75, none, .pick (.t 71) (.t 74) (.k (.bool false))⟩,
   ⟨some 2, none, .mv (.t 75)⟩])
 .ret)
 .skip))
 (.seq
 (.rg [⟨some 76, none, .load (some 2) (.t 4)⟩,
   ⟨some 11, none, .alloc [.int .i64 0, .slice none 0 0]⟩,
   ⟨none, none, .store 2 (.t 11) (.t 76)⟩])
 (.seq
 (.rg [⟨some 77, none, .fld 0 (.t 3)⟩,
   ⟨some 78, none, .load none (.t 77)⟩,
   ⟨some 79, none, .fld 0 (.t 11)⟩,
   ⟨none, none, .store 1 (.t 79) (.t 78)⟩])
 (.seq
 (.rg [⟨some 81, none, .load (some 4) (.t 3)⟩,
   ⟨some 82, none, .load (some 2) (.t 11)⟩,
   ⟨some 83, none, .call n_impl_NodeHear S_impl_NodeHear [(.t 81, [none, none, none, some 2]), (.t 82, [none, some 4])]⟩,
   ⟨some 80, none, .mv (.t 83)⟩,
   ⟨some 84, none, .ext (.t 80) 0⟩,
   ⟨some 85, none, .ext (.t 80) 1⟩,
   ⟨some 86, none, .ext (.t 80) 2⟩,
   ⟨some 12, none, .alloc [.int .i64 0, .int .i64 0, .int .i64 0, .slice none 0 0]⟩,
   ⟨some 13, none, .alloc [.int .i64 0, .slice none 0 0]⟩,
   ⟨none, none, .store 4 (.t 12) (.t 84)⟩,
   ⟨none, none, .store 2 (.t 13) (.t 85)⟩,
   ⟨some 14, none, .mv (.t 86)⟩])
 (.seq
 (.rg [⟨some 88, none, .load (some 4) (.t 3)⟩,
   ⟨some 89, none, .fld 1 (.t 4)⟩,
   ⟨some 90, none, .load none (.t 89)⟩,
   ⟨some 91, none, .build [.int .i64 0, .slice none 0 0] [(0, 1, .k (.int .i64 0)), (1, 1, .t 90)]⟩,
   ⟨some 92, none, .call n_impl_NodeHear S_impl_NodeHear [(.t 88, [none, none, none, some 2]), (.t 91, [none, some 4])]⟩,
   ⟨some 87, none, .mv (.t 92)⟩,
   ⟨some 93, none, .ext (.t 87) 0⟩,
   ⟨some 94, none, .ext (.t 87) 1⟩,
   ⟨some 95, none, .ext (.t 87) 2⟩,
   ⟨some 15, none, .alloc [.int .i64 0, .int .i64 0, .int .i64 0, .slice none 0 0]⟩,
   ⟨some 16, none, .alloc [.int .i64 0, .slice none 0 0]⟩,
   ⟨none, none, .store 4 (.t 15) (.t 93)⟩,
   ⟨none, none, .store 2 (.t 16) (.t 94)⟩,
   ⟨some 17, none, .mv (.t 95)⟩])
 (.seq
 (.rg [⟨some 97, none, .load (some 4) (.t 3)⟩,
   ⟨some 98, none, .fld 0 (.t 3)⟩,
   ⟨some 99, none, .load none (.t 98)⟩,
   ⟨some 100, none, .bin 0 .rem (.t 99) (.k (.int .i64 4))⟩,
   ⟨some 101, none, .bin 0 .add (.t 100) (.k (.int .i64 1))⟩,
   ⟨some 102, none, .build [.int .i64 0, .slice none 0 0] [(0, 1, .t 101)]⟩,
   ⟨some 103, none, .call n_impl_NodeHear S_impl_NodeHear [(.t 97, [none, none, none, some 2]), (.t 102, [none, some 4])]⟩,
   ⟨some 96, none, .mv (.t 103)⟩,
   ⟨some 104, none, .ext (.t 96) 0⟩,
   ⟨some 105, none, .ext (.t 96) 1⟩,
   ⟨some 106, none, .ext (.t 96) 2⟩,
   ⟨some 18, none, .alloc [.int .i64 0, .int .i64 0, .int .i64 0, .slice none 0 0]⟩,
   ⟨some 19, none, .alloc [.int .i64 0, .slice none 0 0]⟩,
   ⟨none, none, .store 4 (.t 18) (.t 104)⟩,
   ⟨none, none, .store 2 (.t 19) (.t 105)⟩,
   ⟨some 20, none, .mv (.t 106)⟩])
 (.seq
 (.rg [⟨some 107, none, .mv (.t 14)⟩,
   ⟨some 108, none, .un .not (.t 107)⟩,
   ⟨some 109, none, .mv (.t 108)⟩,
   ⟨some 110, some (109, true), .mv (.t 17)⟩,
   ⟨some 111, some (109, true), .un .not (.t 110)⟩,
   ⟨some 112, none, .pick (.t 109) (.t 111) (.k (.bool false))⟩,
   ⟨some 113, none, .mv (.t 112)⟩,
   ⟨some 114, some (113, true), .mv (.t 20)⟩,
   ⟨some 115, some (113, true), .un .not (.t 114)⟩,
   ⟨some 116, none, .pick (.t 113) (.t 115) (.k (.bool false))⟩,
   ⟨some 117, none, .mv (.t 116)⟩,
   ⟨some 118, some (117, true), .load (some 4) (.t 12)⟩,
   ⟨some 119, some (117, true), .load (some 4) (.t 3)⟩,
   ⟨some 120, some (117, true), .call n_laws_lwNode S_laws_lwNode [(.t 118, [none, none, none, some 2]), (.t 119, [none, none, none, some 2])]⟩,
   ⟨some 121, none, .pick (.t 117) (.t 120) (.k (.bool false))⟩,
   ⟨some 122, none, .mv (.t 121)⟩,
   ⟨some 123, some (122, true), .load (some 4) (.t 15)⟩,
   ⟨some 124, some (122, true), .load (some 4) (.t 3)⟩,
   ⟨some 125, some (122, true), .call n_laws_lwNode S_laws_lwNode [(.t 123, [none, none, none, some 2]), (.t 124, [none, none, none, some 2])]⟩,
   ⟨some 126, none, .pick (.t 122) (.t 125) (.k (.bool false))⟩,
   ⟨some 127, none, .mv (.t 126)⟩,
   ⟨some 128, some (127, true), .load (some 4) (.t 18)⟩,
   ⟨some 129, some (127, true), .load (some 4) (.t 3)⟩,
   ⟨some 130, some (127, true), .call n_laws_lwNode S_laws_lwNode [(.t 128, [none, none, none, some 2]), (.t 129, [none, none, none, some 2])]⟩,
   ⟨some 131, none, .pick (.t 127) (.t 130) (.k (.bool false))⟩,
   ⟨some 2, none, .mv (.t 131)⟩])
 .ret)))))))))))) }
theorem is_laws_FnHearOther : IsF Try.prog n_laws_FnHearOther c_laws_FnHearOther := ⟨Try.f13, _, Try.func13, rfl, by decide, rfl, by kernel_rfl, by kernel_rfl⟩
end Av
end Go.Proofs.Ytkpncekaehgbdaa
