/- The functions' code in the small language, and that it is theirs. -/
import Derived.Test.YtfijfccgghhkoaaJ50
import Derived.Test.YtfijfccgghhkoaaD1
import Derived.Test.YtfijfccgghhkoaaProg
import Derived.KernelRfl
set_option linter.unusedVariables false
namespace Go.Proofs.Ytfijfccgghhkoaa
namespace Av
noncomputable def c_laws_FnPropose : FC := { n := 129, res := [⟨none, 2, []⟩], body :=
 (.seq
 (.rg [⟨some 2, none, .mv (.k (.bool false))⟩])
 (.seq
 (.seq
 (.rg [⟨some 15, none, .mv (.t 0)⟩,
   ⟨some 16, none, .len (.t 15)⟩,
   ⟨some 17, none, .bin 0 .gtr (.t 16) (.k (.int .i64 1048576))⟩])
 (.cond (.t 17)
 (.seq
 (.rg [⟨some 2, none, .mv (.k (.bool true))⟩])
 .ret)
 .skip))
 (.seq
 (.rg [⟨some 19, none, .mv (.t 0)⟩,
   ⟨some 20, none, .call n_spec_DrawNodePropose S_spec_DrawNodePropose [(.t 19, [some 1])]⟩,
   ⟨some 18, none, .mv (.t 20)⟩,
   ⟨some 21, none, .ext (.t 18) 0⟩,
   ⟨some 22, none, .ext (.t 18) 1⟩,
   ⟨some 3, none, .alloc [.int .i64 0, .int .i64 0, .int .i64 0, .slice none 0 0]⟩,
   ⟨some 4, none, .alloc [.int .i64 0, .int .i64 0, .int .i64 0]⟩,
   ⟨none, none, .store 4 (.t 3) (.t 21)⟩,
   ⟨none, none, .store 3 (.t 4) (.t 22)⟩])
 (.seq
 (.rg [⟨some 24, none, .load (some 4) (.t 3)⟩,
   ⟨some 25, none, .load (some 3) (.t 4)⟩,
   ⟨some 26, none, .call n_spec_NodePropose S_spec_NodePropose [(.t 24, [none, none, none, some 2]), (.t 25, [])]⟩,
   ⟨some 23, none, .mv (.t 26)⟩,
   ⟨some 27, none, .ext (.t 23) 0⟩,
   ⟨some 28, none, .ext (.t 23) 1⟩,
   ⟨some 29, none, .ext (.t 23) 2⟩,
   ⟨some 5, none, .alloc [.int .i64 0, .int .i64 0, .int .i64 0, .slice none 0 0]⟩,
   ⟨some 6, none, .alloc [.int .i64 0, .slice none 0 0]⟩,
   ⟨none, none, .store 4 (.t 5) (.t 27)⟩,
   ⟨none, none, .store 2 (.t 6) (.t 28)⟩,
   ⟨some 7, none, .mv (.t 29)⟩])
 (.seq
 (.rg [⟨some 31, none, .load (some 4) (.t 3)⟩,
   ⟨some 32, none, .load (some 3) (.t 4)⟩,
   ⟨some 33, none, .call n_impl_NodePropose S_impl_NodePropose [(.t 31, [none, none, none, some 2]), (.t 32, [])]⟩,
   ⟨some 30, none, .mv (.t 33)⟩,
   ⟨some 34, none, .ext (.t 30) 0⟩,
   ⟨some 35, none, .ext (.t 30) 1⟩,
   ⟨some 36, none, .ext (.t 30) 2⟩,
   ⟨some 8, none, .alloc [.int .i64 0, .int .i64 0, .int .i64 0, .slice none 0 0]⟩,
   ⟨some 9, none, .alloc [.int .i64 0, .slice none 0 0]⟩,
   ⟨none, none, .store 4 (.t 8) (.t 34)⟩,
   ⟨none, none, .store 2 (.t 9) (.t 35)⟩,
   ⟨some 10, none, .mv (.t 36)⟩])
 (.seq
 (.seq
 (.rg [⟨some 37, none, .mv (.t 10)⟩,
   ⟨some 38, none, .mv (.t 7)⟩,
   ⟨some 39, none, .bin 1 .neq (.t 37) (.t 38)⟩,
   ⟨some 40, none, .mv (.t 39)⟩,
   ⟨some 41, some (40, false), .load (some 4) (.t 8)⟩,
   ⟨some 42, some (40, false), .load (some 4) (.t 5)⟩,
   ⟨some 43, some (40, false), .call n_laws_lwNode S_laws_lwNode [(.t 41, [none, none, none, some 2]), (.t 42, [none, none, none, some 2])]⟩,
   ⟨some 44, some (40, false), .un .not (.t 43)⟩,
   ⟨some 45, none, .pick (.t 40) (.k (.bool true)) (.t 44)⟩,
   ⟨some 46, none, .mv (.t 45)⟩,
   ⟨some 47, some (46, false), .load (some 2) (.t 9)⟩,
   ⟨some 48, some (46, false), .load (some 2) (.t 6)⟩,
   ⟨some 49, some (46, false), .call n_laws_lwVote S_laws_lwVote [(.t 47, [none, some 4]), (.t 48, [none, some 4])]⟩,
   ⟨some 50, some (46, false), .un .not (.t 49)⟩,
   ⟨some 51, none, .pick (.t 46) (.k (.bool true)) (.t 50)⟩,
   ⟨some 52, none, .mv (.t 51)⟩,
   ⟨some 53, some (52, false), .mv (.t 10)⟩,
   ⟨some 54, some (52, false), .un .not (.t 53)⟩,
   ⟨some 55, none, .pick (.t 52) (.k (.bool true)) (.t 54)⟩])
 (.cond (.t 55)
 (.seq
 (.rg [⟨some 56, none, .mv (.t 10)⟩,
   ⟨some 57, none, .mv (.t 7)⟩,
   ⟨some 58, none, .bin 1 .eql (.t 56) (.t 57)⟩,
   ⟨some 59, none, .mv (.t 58)⟩,
   ⟨some 60, some (59, true), .load (some 4) (.t 8)⟩,
   ⟨some 61, some (59, true), .load (some 4) (.t 5)⟩,
   ⟨some 62, some (59, true), .call n_laws_lwNode S_laws_lwNode [(.t 60, [none, none, none, some 2]), (.t 61, [none, none, none, some 2])]⟩,
   ⟨some 63, none, .pick (.t 59) (.t 62) (.k (.bool false))⟩,
   ⟨some 64, none, .mv (.t 63)⟩,
   ⟨some 65, some (64, true), .load (some 2) (.t 9)⟩,
   ⟨some 66, some (64, true), .load (some 2) (.t 6)⟩,
   ⟨some 67, some (64, true), .call n_laws_lwVote S_laws_lwVote [(.t 65, [none, some 4]), (.t 66, [none, some 4])]⟩,
   ⟨some 68, none, .pick (.t 64) (.t 67) (.k (.bool false))⟩,
   ⟨some 2, none, .mv (.t 68)⟩])
 .ret)
 .skip))
 (.seq
 (.rg [⟨some 70, none, .load (some 4) (.t 8)⟩,
   ⟨some 71, none, .load (some 3) (.t 4)⟩,
   ⟨some 72, none, .call n_impl_NodePropose S_impl_NodePropose [(.t 70, [none, none, none, some 2]), (.t 71, [])]⟩,
   ⟨some 69, none, .mv (.t 72)⟩,
   ⟨some 73, none, .ext (.t 69) 0⟩,
   ⟨some 74, none, .ext (.t 69) 1⟩,
   ⟨some 75, none, .ext (.t 69) 2⟩,
   ⟨some 11, none, .alloc [.int .i64 0, .int .i64 0, .int .i64 0, .slice none 0 0]⟩,
   ⟨some 12, none, .alloc [.int .i64 0, .slice none 0 0]⟩,
   ⟨none, none, .store 4 (.t 11) (.t 73)⟩,
   ⟨none, none, .store 2 (.t 12) (.t 74)⟩,
   ⟨some 13, none, .mv (.t 75)⟩])
 (.seq
 (.rg [⟨some 76, none, .bsl 43 4 []⟩,
   ⟨some 77, none, .fld 3 (.t 3)⟩,
   ⟨some 78, none, .load none (.t 77)⟩,
   ⟨some 79, none, .call n_impl_TreeTip S_impl_TreeTip [(.t 78, [some 2])]⟩,
   ⟨some 80, none, .app 43 4 32 [.int .i64 0, .int .i64 0, .int .i64 0, .int .i64 0] (.t 76) (.t 79)⟩,
   ⟨some 81, none, .fld 1 (.t 3)⟩,
   ⟨some 82, none, .load none (.t 81)⟩,
   ⟨some 83, none, .load (some 3) (.t 4)⟩,
   ⟨some 84, none, .build [.int .i64 0, .int .i64 0, .int .i64 0, .int .i64 0] [(0, 1, .t 82), (1, 3, .t 83)]⟩,
   ⟨some 85, none, .bsl 43 4 [.t 84]⟩,
   ⟨some 86, none, .app 43 4 32 [.int .i64 0, .int .i64 0, .int .i64 0, .int .i64 0] (.t 80) (.t 85)⟩,
   ⟨some 14, none, .mv (.t 86)⟩])
 (.seq
 (.frz 14 (.rg [⟨some 87, none, .fld 1 (.t 3)⟩,
   ⟨some 88, none, .load none (.t 87)⟩,
   ⟨some 89, none, .call n_impl_VoteLeader S_impl_VoteLeader [(.t 88, [])]⟩,
   ⟨some 90, none, .fld 0 (.t 3)⟩,
   ⟨some 91, none, .load none (.t 90)⟩,
   ⟨some 92, none, .bin 0 .eql (.t 89) (.t 91)⟩,
   ⟨some 93, none, .mv (.t 92)⟩,
   ⟨some 94, some (93, true), .fld 2 (.t 3)⟩,
   ⟨some 95, some (93, true), .load none (.t 94)⟩,
   ⟨some 96, some (93, true), .fld 1 (.t 3)⟩,
   ⟨some 97, some (93, true), .load none (.t 96)⟩,
   ⟨some 98, some (93, true), .bin 0 .lss (.t 95) (.t 97)⟩,
   ⟨some 99, none, .pick (.t 93) (.t 98) (.k (.bool false))⟩,
   ⟨some 100, none, .mv (.t 99)⟩,
   ⟨some 101, some (100, true), .load (some 2) (.t 9)⟩,
   ⟨some 102, some (100, true), .fld 0 (.t 3)⟩,
   ⟨some 103, some (100, true), .load none (.t 102)⟩,
   ⟨some 104, some (100, true), .mv (.t 14)⟩,
   ⟨some 105, some (100, true), .build [.int .i64 0, .slice none 0 0] [(0, 1, .t 103), (1, 1, .t 104)]⟩,
   ⟨some 106, some (100, true), .call n_laws_lwVote S_laws_lwVote [(.t 101, [none, some 4]), (.t 105, [none, some 4])]⟩,
   ⟨some 107, none, .pick (.t 100) (.t 106) (.k (.bool false))⟩,
   ⟨some 108, none, .mv (.t 107)⟩,
   ⟨some 109, some (108, true), .fld 2 (.t 8)⟩,
   ⟨some 110, some (108, true), .load none (.t 109)⟩,
   ⟨some 111, some (108, true), .fld 1 (.t 3)⟩,
   ⟨some 112, some (108, true), .load none (.t 111)⟩,
   ⟨some 113, some (108, true), .bin 0 .eql (.t 110) (.t 112)⟩,
   ⟨some 114, none, .pick (.t 108) (.t 113) (.k (.bool false))⟩,
   ⟨some 115, none, .mv (.t 114)⟩,
   ⟨some 116, some (115, true), .fld 3 (.t 8)⟩,
   ⟨some 117, some (115, true), .load none (.t 116)⟩,
   ⟨some 118, some (115, true), .load (some 2) (.t 9)⟩,
   ⟨some 119, some (115, true), .call n_laws_lwHas S_laws_lwHas [(.t 117, [some 2]), (.t 118, [none, some 4])]⟩,
   ⟨some 120, none, .pick (.t 115) (.t 119) (.k (.bool false))⟩,
   ⟨some 121, none, .mv (.t 120)⟩,
   ⟨some 122, some (121, true), .mv (.t 13)⟩,
   ⟨some 123, some (121, true), .un .not (.t 122)⟩,
   ⟨some 124, none, .pick (.t 121) (.t 123) (.k (.bool false))⟩,
   ⟨some 125, none, .mv (.t 124)⟩,
   ⟨some 126, some (125, true), .load (some 4) (.t 8)⟩,
   ⟨some 127, some (125, true), .call n_impl_NodeOk S_impl_NodeOk [(.t 126, [none, none, none, some 2])]⟩,
   ⟨some 128, none, .pick (.t 125) (.t 127) (.k (.bool false))⟩,
   ⟨some 2, none, .mv (.t 128)⟩]))
 .ret))))))))) }
theorem is_laws_FnPropose : IsF Try.prog n_laws_FnPropose c_laws_FnPropose := ⟨Try.f4, _, Try.func4, rfl, by decide, rfl, by kernel_rfl, by kernel_rfl⟩
end Av
end Go.Proofs.Ytfijfccgghhkoaa
