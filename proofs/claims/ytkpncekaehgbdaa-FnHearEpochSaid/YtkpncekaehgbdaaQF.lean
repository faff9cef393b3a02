/- The functions' code in the small language, and that it is theirs. -/
import Derived.Test.YtkpncekaehgbdaaQ8
import Derived.Test.YtkpncekaehgbdaaD1
import Derived.Test.YtkpncekaehgbdaaProg
import Derived.KernelRfl
set_option linter.unusedVariables false
namespace Go.Proofs.Ytkpncekaehgbdaa
namespace Av
noncomputable def c_impl_TreeTip : FC := { n := 8, res := [⟨none, 2, [some 4]⟩], body :=
 (.seq
 (.rg [⟨some 2, none, .mv (.k (.slice none 0 0))⟩])
 (.seq
 (.seq
 (.rg [⟨some 3, none, .mv (.t 0)⟩,
   ⟨some 4, none, .call n_impl_VotesOk S_impl_VotesOk [(.t 3, [some 2])]⟩,
   ⟨some 5, none, .un .not (.t 4)⟩])
 (.cond (.t 5)
 (.seq
 (.rg [⟨some 2, none, .mv (.k (.slice none 0 0))⟩])
 .ret)
 .skip))
 (.seq
 (.rg [⟨some 6, none, .mv (.t 0)⟩,
   ⟨some 7, none, .call n_impl_votes_tip S_impl_votes_tip [(.t 6, [some 2])]⟩,
   ⟨some 2, none, .mv (.t 7)⟩])
 .ret))) }
theorem is_impl_TreeTip : IsF Try.prog n_impl_TreeTip c_impl_TreeTip := ⟨Try.f21, _, Try.func21, rfl, by decide, rfl, by kernel_rfl, by kernel_rfl⟩
noncomputable def c_laws_FnHearEpoch : FC := { n := 190, res := [⟨none, 4, []⟩], body :=
 (.seq
 (.rg [⟨some 4, none, .mv (.k (.bool false))⟩])
 (.seq
 (.seq
 (.rg [⟨some 25, none, .mv (.t 0)⟩,
   ⟨some 26, none, .len (.t 25)⟩,
   ⟨some 27, none, .bin 0 .gtr (.t 26) (.k (.int .i64 1048576))⟩,
   ⟨some 28, none, .mv (.t 27)⟩,
   ⟨some 29, some (28, false), .mv (.t 1)⟩,
   ⟨some 30, some (28, false), .len (.t 29)⟩,
   ⟨some 31, some (28, false), .bin 0 .gtr (.t 30) (.k (.int .i64 1048576))⟩,
   ⟨some 32, none, .pick (.t 28) (.k (.bool true)) (.t 31)⟩])
 (.cond (.t 32)
 (.seq
 (.rg [⟨some 4, none, .mv (.k (.bool true))⟩])
 .ret)
 .skip))
 (.seq
 (.rg [⟨some 34, none, .mv (.t 0)⟩,
   ⟨some 35, none, .call n_spec_DrawNodeHear S_spec_DrawNodeHear [(.t 34, [some 1])]⟩,
   ⟨some 33, none, .mv (.t 35)⟩,
   ⟨some 36, none, .ext (.t 33) 0⟩,
   ⟨some 37, none, .ext (.t 33) 1⟩,
   ⟨some 5, none, .alloc [.int .i64 0, .int .i64 0, .int .i64 0, .slice none 0 0]⟩,
   ⟨some 6, none, .alloc [.int .i64 0, .slice none 0 0]⟩,
   ⟨none, none, .store 4 (.t 5) (.t 36)⟩,
   ⟨none, none, .store 2 (.t 6) (.t 37)⟩])
 (.seq
 (.rg [⟨some 39, none, .load (some 4) (.t 5)⟩,
   ⟨some 40, none, .load (some 2) (.t 6)⟩,
   ⟨some 41, none, .call n_spec_NodeHear S_spec_NodeHear [(.t 39, [none, none, none, some 2]), (.t 40, [none, some 4])]⟩,
   ⟨some 38, none, .mv (.t 41)⟩,
   ⟨some 42, none, .ext (.t 38) 0⟩,
   ⟨some 43, none, .ext (.t 38) 1⟩,
   ⟨some 44, none, .ext (.t 38) 2⟩,
   ⟨some 7, none, .alloc [.int .i64 0, .int .i64 0, .int .i64 0, .slice none 0 0]⟩,
   ⟨some 8, none, .alloc [.int .i64 0, .slice none 0 0]⟩,
   ⟨none, none, .store 4 (.t 7) (.t 42)⟩,
   ⟨none, none, .store 2 (.t 8) (.t 43)⟩,
   ⟨some 9, none, .mv (.t 44)⟩])
 (.seq
 (.rg [⟨some 46, none, .load (some 4) (.t 5)⟩,
   ⟨some 47, none, .load (some 2) (.t 6)⟩,
   ⟨some 48, none, .call n_impl_NodeHear S_impl_NodeHear [(.t 46, [none, none, none, some 2]), (.t 47, [none, some 4])]⟩,
   ⟨some 45, none, .mv (.t 48)⟩,
   ⟨some 49, none, .ext (.t 45) 0⟩,
   ⟨some 50, none, .ext (.t 45) 1⟩,
   ⟨some 51, none, .ext (.t 45) 2⟩,
   ⟨some 10, none, .alloc [.int .i64 0, .int .i64 0, .int .i64 0, .slice none 0 0]⟩,
   ⟨some 11, none, .alloc [.int .i64 0, .slice none 0 0]⟩,
   ⟨none, none, .store 4 (.t 10) (.t 49)⟩,
   ⟨none, none, .store 2 (.t 11) (.t 50)⟩,
   ⟨some 12, none, .mv (.t 51)⟩])
 (.seq
 (.seq
 (.rg [⟨some 52, none, .mv (.t 12)⟩,
   ⟨some 53, none, .mv (.t 9)⟩,
   ⟨some 54, none, .bin 1 .neq (.t 52) (.t 53)⟩,
   ⟨some 55, none, .mv (.t 54)⟩,
   ⟨some 56, some (55, false), .load (some 4) (.t 10)⟩,
   ⟨some 57, some (55, false), .load (some 4) (.t 7)⟩,
   ⟨some 58, some (55, false), .call n_laws_lwNode S_laws_lwNode [(.t 56, [none, none, none, some 2]), (.t 57, [none, none, none, some 2])]⟩,
   ⟨some 59, some (55, false), .un .not (.t 58)⟩,
   ⟨some 60, none, .pick (.t 55) (.k (.bool true)) (.t 59)⟩,
   ⟨some 61, none, .mv (.t 60)⟩,
   ⟨some 62, some (61, false), .load (some 2) (.t 11)⟩,
   ⟨some 63, some (61, false), .load (some 2) (.t 8)⟩,
   ⟨some 64, some (61, false), .call n_laws_lwVote S_laws_lwVote [(.t 62, [none, some 4]), (.t 63, [none, some 4])]⟩,
   ⟨some 65, some (61, false), .un .not (.t 64)⟩,
   ⟨some 66, none, .pick (.t 61) (.k (.bool true)) (.t 65)⟩,
   ⟨some 67, none, .mv (.t 66)⟩,
   ⟨some 68, some (67, false), .load (some 4) (.t 5)⟩,
   ⟨some 69, some (67, false), .call n_spec_NodeOk S_spec_NodeOk [(.t 68, [none, none, none, some 2])]⟩,
   ⟨some 70, some (67, false), .un .not (.t 69)⟩,
   ⟨some 71, none, .pick (.t 67) (.k (.bool true)) (.t 70)⟩,
   ⟨some 72, none, .mv (.t 71)⟩,
   ⟨some 73, some (72, false), .fld 1 (.t 5)⟩,
   ⟨some 74, some (72, false), .load none (.t 73)⟩,
   ⟨some 75, some (72, false), .bin 0 .eql (.t 74) (.k (.int .i64 0))⟩,
   ⟨some 76, none, .pick (.t 72) (.k (.bool true)) (.t 75)⟩,
   ⟨some 77, none, .mv (.t 76)⟩,
   ⟨some 78, some (77, false), .fld 2 (.t 5)⟩,
   ⟨some 79, some (77, false), .load none (.t 78)⟩,
   ⟨some 80, some (77, false), .fld 1 (.t 5)⟩,
   ⟨some 81, some (77, false), .load none (.t 80)⟩,
   ⟨some 82, some (77, false), .bin 0 .eql (.t 79) (.t 81)⟩,
   ⟨some 83, none, .pick (.t 77) (.k (.bool true)) (.t 82)⟩])
 (.cond (.t 83)
 (.seq
 (.rg [⟨some 84, none, .mv (.t 12)⟩,
   ⟨some 85, none, .mv (.t 9)⟩,
   ⟨some 86, none, .bin 1 .eql (.t 84) (.t 85)⟩,
   ⟨some 87, none, .mv (.t 86)⟩,
   ⟨some 88, some (87, true), .load (some 4) (.t 10)⟩,
   ⟨some 89, some (87, true), .load (some 4) (.t 7)⟩,
   ⟨some 90, some (87, true), .call n_laws_lwNode S_laws_lwNode [(.t 88, [none, none, none, some 2]), (.t 89, [none, none, none, some 2])]⟩,
   ⟨some 91, none, .pick (.t 87) (.t 90) (.k (.bool false))⟩,
   ⟨some 92, none, .mv (.t 91)⟩,
   ⟨some 93, some (92, true), .load (some 2) (.t 11)⟩,
   ⟨some 94, some (92, true), .load (some 2) (.t 8)⟩,
   ⟨some 95, some (92, true), .call n_laws_lwVote S_laws_lwVote [(.t 93, [none, some 4]), (.t 94, [none, some 4])]⟩,
   ⟨some 96, none, .pick (.t 92) (.t 95) (.k (.bool false))⟩,
   ⟨some 4, none, .mv (.t 96)⟩])
 .ret)
 .skip))
 (.seq
 (.rg [⟨some 97, none, .fld 3 (.t 5)⟩,
   ⟨some 98, none, .load none (.t 97)⟩,
   ⟨some 99, none, .call n_impl_TreeTip S_impl_TreeTip [(.t 98, [some 2])]⟩,
   ⟨some 13, none, .mv (.t 99)⟩])
 (.seq
 (.rg [⟨some 100, none, .fld 1 (.t 5)⟩,
   ⟨some 101, none, .load none (.t 100)⟩,
   ⟨some 102, none, .bin 0 .add (.t 101) (.k (.int .i64 1))⟩,
   ⟨some 103, none, .mv (.t 1)⟩,
   ⟨some 104, none, .len (.t 103)⟩,
   ⟨some 105, none, .bin 0 .rem (.t 104) (.k (.int .i64 3))⟩,
   ⟨some 106, none, .bin 0 .add (.t 102) (.t 105)⟩,
   ⟨some 14, none, .mv (.t 106)⟩])
 (.seq
 (.rg [⟨some 107, none, .bsl 40 4 []⟩,
   ⟨some 108, none, .mv (.t 13)⟩,
   ⟨some 109, none, .app 40 4 32 [.int .i64 0, .int .i64 0, .int .i64 0, .int .i64 0] (.t 107) (.t 108)⟩,
   ⟨some 110, none, .mv (.t 14)⟩,
   ⟨some 111, none, .build [.int .i64 0, .int .i64 0, .int .i64 0] [(0, 1, .k (.int .i64 1)), (1, 1, .k (.int .i64 2)), (2, 1, .k (.int .i64 1))]⟩,
   ⟨some 112, none, .build [.int .i64 0, .int .i64 0, .int .i64 0, .int .i64 0] [(0, 1, .t 110), (1, 3, .t 111)]⟩,
   ⟨some 113, none, .bsl 40 4 [.t 112]⟩,
   ⟨some 114, none, .app 40 4 32 [.int .i64 0, .int .i64 0, .int .i64 0, .int .i64 0] (.t 109) (.t 113)⟩,
   ⟨some 15, none, .mv (.t 114)⟩])
 (.seq
 (.frz 15 (.rg [⟨some 115, none, .fld 1 (.t 5)⟩,
   ⟨some 116, none, .load none (.t 115)⟩,
   ⟨some 117, none, .call n_impl_VoteLeader S_impl_VoteLeader [(.t 116, [])]⟩,
   ⟨some 16, none, .mv (.t 117)⟩]))
 (.seq
 (.seq
 (.rg [⟨some 17, none, .mv (.k (.int .i64 0))⟩])
 (.block 0
 (.loop
 (.seq
 (.seq
 (.rg [⟨some 118, none, .mv (.t 17)⟩,
   ⟨some 119, none, .fld 3 (.t 5)⟩,
   ⟨some 120, none, .load none (.t 119)⟩,
   ⟨some 121, none, .len (.t 120)⟩,
   ⟨some 122, none, .bin 0 .lss (.t 118) (.t 121)⟩])
 (.cond (.t 122)
 .skip
 (.exit 0)))
 (.seq
 (.block 1
 (.seq
 (.rg [⟨some 125, none, .fld 3 (.t 5)⟩,
   ⟨some 126, none, .load none (.t 125)⟩,
   ⟨some 127, none, .mv (.t 17)⟩,
   ⟨some 128, none, .idx 2 (.t 126) (.t 127)⟩,
   ⟨some 129, none, .fld 0 (.t 128)⟩,
   ⟨some 130, none, .load none (.t 129)⟩,
   ⟨some 131, none, .mv (.t 16)⟩,
   ⟨some 132, none, .bin 0 .eql (.t 130) (.t 131)⟩,
   ⟨some 133, none, .mv (.t 132)⟩,
   ⟨some 134, some (133, true), .fld 3 (.t 5)⟩,
   ⟨some 135, some (133, true), .load none (.t 134)⟩,
   ⟨some 136, some (133, true), .mv (.t 17)⟩,
   ⟨some 137, some (133, true), .idx 2 (.t 135) (.t 136)⟩,
   ⟨some 138, some (133, true), .fld 1 (.t 137)⟩,
   ⟨some 139, some (133, true), .load none (.t 138)⟩,
   ⟨some 140, some (133, true), .fld 3 (.t 5)⟩,
   ⟨some 141, some (133, true), .load none (.t 140)⟩,
   ⟨some 142, some (133, true), .mv (.t 17)⟩,
   ⟨some 143, some (133, true), .idx 2 (.t 141) (.t 142)⟩,
   ⟨some 144, some (133, true), .fld 1 (.t 143)⟩,
   ⟨some 145, some (133, true), .load none (.t 144)⟩,
   ⟨some 146, some (133, true), .len (.t 145)⟩,
   ⟨some 147, some (133, true), .bin 0 .sub (.t 146) (.k (.int .i64 1))⟩,
   ⟨some 148, some (133, true), .idx 4 (.t 139) (.t 147)⟩,
   ⟨some 149, some (133, true), .fld 0 (.t 148)⟩,
   ⟨some 150, some (133, true), .load none (.t 149)⟩,
   ⟨some 151, some (133, true), .fld 1 (.t 5)⟩,
   ⟨some 152, some (133, true), .load none (.t 151)⟩,
   ⟨some 153, some (133, true), .bin 0 .eql (.t 150) (.t 152)⟩,
   ⟨some 154, none, .pick (.t 133) (.t 153) (.k (.bool false))⟩])
 (.cond (.t 154)
 (.seq
 (.rg [⟨some 4, none, .mv (.k (.bool true))⟩])
 .ret)
 .skip)))
 (.rg [⟨some 123, none, .mv (.t 17)⟩,
   ⟨some 124, none, .bin 0 .add (.t 123) (.k (.int .i64 1))⟩,
   ⟨some 17, none, .mv (.t 124)⟩]))))))
 (.seq
 (.rg [⟨some 155, none, .bsl 40 4 []⟩,
   ⟨some 156, none, .mv (.t 13)⟩,
   ⟨some 157, none, .app 40 4 32 [.int .i64 0, .int .i64 0, .int .i64 0, .int .i64 0] (.t 155) (.t 156)⟩,
   ⟨some 158, none, .fld 1 (.t 5)⟩,
   ⟨some 159, none, .load none (.t 158)⟩,
   ⟨some 160, none, .build [.int .i64 0, .int .i64 0, .int .i64 0] [(0, 1, .k (.int .i64 1)), (1, 1, .k (.int .i64 2)), (2, 1, .k (.int .i64 1))]⟩,
   ⟨some 161, none, .build [.int .i64 0, .int .i64 0, .int .i64 0, .int .i64 0] [(0, 1, .t 159), (1, 3, .t 160)]⟩,
   ⟨some 162, none, .bsl 40 4 [.t 161]⟩,
   ⟨some 163, none, .app 40 4 32 [.int .i64 0, .int .i64 0, .int .i64 0, .int .i64 0] (.t 157) (.t 162)⟩,
   ⟨some 18, none, .mv (.t 163)⟩])
 (.seq
 (.frz 18 (.rg [⟨some 165, none, .load (some 4) (.t 5)⟩,
   ⟨some 166, none, .mv (.t 16)⟩,
   ⟨some 167, none, .mv (.t 15)⟩,
   ⟨some 168, none, .build [.int .i64 0, .slice none 0 0] [(0, 1, .t 166), (1, 1, .t 167)]⟩,
   ⟨some 169, none, .call n_impl_NodeHear S_impl_NodeHear [(.t 165, [none, none, none, some 2]), (.t 168, [none, some 4])]⟩,
   ⟨some 164, none, .mv (.t 169)⟩,
   ⟨some 170, none, .ext (.t 164) 0⟩,
   ⟨some 171, none, .ext (.t 164) 1⟩,
   ⟨some 172, none, .ext (.t 164) 2⟩,
   ⟨some 19, none, .alloc [.int .i64 0, .int .i64 0, .int .i64 0, .slice none 0 0]⟩,
   ⟨some 20, none, .alloc [.int .i64 0, .slice none 0 0]⟩,
   ⟨none, none, .store 4 (.t 19) (.t 170)⟩,
   ⟨none, none, .store 2 (.t 20) (.t 171)⟩,
   ⟨some 21, none, .mv (.t 172)⟩]))
 (.seq
 (.rg [⟨some 174, none, .load (some 4) (.t 5)⟩,
   ⟨some 175, none, .mv (.t 16)⟩,
   ⟨some 176, none, .bin 0 .rem (.t 175) (.k (.int .i64 4))⟩,
   ⟨some 177, none, .bin 0 .add (.t 176) (.k (.int .i64 1))⟩,
   ⟨some 178, none, .mv (.t 18)⟩,
   ⟨some 179, none, .build [.int .i64 0, .slice none 0 0] [(0, 1, .t 177), (1, 1, .t 178)]⟩,
   ⟨some 180, none, .call n_impl_NodeHear S_impl_NodeHear [(.t 174, [none, none, none, some 2]), (.t 179, [none, some 4])]⟩,
   ⟨some 173, none, .mv (.t 180)⟩,
   ⟨some 181, none, .ext (.t 173) 0⟩,
   ⟨some 182, none, .ext (.t 173) 1⟩,
   ⟨some 183, none, .ext (.t 173) 2⟩,
   ⟨some 22, none, .alloc [.int .i64 0, .int .i64 0, .int .i64 0, .slice none 0 0]⟩,
   ⟨some 23, none, .alloc [.int .i64 0, .slice none 0 0]⟩,
   ⟨none, none, .store 4 (.t 22) (.t 181)⟩,
   ⟨none, none, .store 2 (.t 23) (.t 182)⟩,
   ⟨some 24, none, .mv (.t 183)⟩])
 (.seq
 (.rg [⟨some 184, none, .mv (.t 21)⟩,
   ⟨some 185, none, .un .not (.t 184)⟩,
   ⟨some 186, none, .mv (.t 185)⟩,
   ⟨some 187, some (186, true), .mv (.t 24)⟩,
   ⟨some 188, some (186, true), .un .not (.t 187)⟩,
   ⟨some 189, none, .pick (.t 186) (.t 188) (.k (.bool false))⟩,
   ⟨some 4, none, .mv (.t 189)⟩])
 .ret))))))))))))))) }
theorem is_laws_FnHearEpoch : IsF Try.prog n_laws_FnHearEpoch c_laws_FnHearEpoch := ⟨Try.f3, _, Try.func3, rfl, by decide, rfl, by kernel_rfl, by kernel_rfl⟩
end Av
end Go.Proofs.Ytkpncekaehgbdaa
