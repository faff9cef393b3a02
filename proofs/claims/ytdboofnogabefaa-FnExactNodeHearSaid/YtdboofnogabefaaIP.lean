/- The functions' code in the small language, and that it is theirs. -/
import Derived.Test.YtdboofnogabefaaJ32
import Derived.Test.YtdboofnogabefaaD1
import Derived.Test.YtdboofnogabefaaProg
import Derived.KernelRfl
set_option linter.unusedVariables false
namespace Go.Proofs.Ytdboofnogabefaa
namespace Av
noncomputable def c_laws_FnExactNodeHear : FC := { n := 156, res := [⟨none, 4, []⟩], body :=
 (.seq
 (.rg [⟨some 2, none, .box (.t 0)⟩,
   ⟨some 3, none, .box (.t 1)⟩,
   ⟨some 4, none, .mv (.k (.bool false))⟩])
 (.seq
 (.rg [⟨some 5, none, .mv (.k (.int .i64 1048576))⟩])
 (.seq
 (.rg [⟨some 20, none, .load (some 4) (.t 2)⟩,
   ⟨some 21, none, .mv (.t 5)⟩,
   ⟨some 22, none, .call n_laws_szNode S_laws_szNode [(.t 20, [none, none, none, some 2]), (.t 21, [])]⟩,
   ⟨some 5, none, .mv (.t 22)⟩])
 (.seq
 (.seq
 (.rg [⟨some 23, none, .mv (.t 5)⟩,
   ⟨some 24, none, .bin 0 .lss (.t 23) (.k (.int .i64 0))⟩])
 (.cond (.t 24)
 (.seq
 (.rg [⟨some 4, none, .mv (.k (.bool true))⟩])
 .ret)
 .skip))
 (.seq
 (.rg [⟨some 25, none, .load (some 2) (.t 3)⟩,
   ⟨some 26, none, .mv (.t 5)⟩,
   ⟨some 27, none, .call n_laws_szVote S_laws_szVote [(.t 25, [none, some 4]), (.t 26, [])]⟩,
   ⟨some 5, none, .mv (.t 27)⟩])
 (.seq
 (.seq
 (.rg [⟨some 28, none, .mv (.t 5)⟩,
   ⟨some 29, none, .bin 0 .lss (.t 28) (.k (.int .i64 0))⟩])
 (.cond (.t 29)
 (.seq
 (.rg [⟨some 4, none, .mv (.k (.bool true))⟩])
 .ret)
 .skip))
 (.seq
 (.rg [⟨some 31, none, .load (some 4) (.t 2)⟩,
   ⟨some 32, none, .call n_laws_toNode S_laws_toNode [(.t 31, [none, none, none, some 2])]⟩,
   ⟨some 33, none, .load (some 2) (.t 3)⟩,
   ⟨some 34, none, .call n_laws_toVote S_laws_toVote [(.t 33, [none, some 4])]⟩,
   ⟨some 35, none, .call n_spec_NodeHear S_spec_NodeHear [(.t 32, [none, none, none, some 2]), (.t 34, [none, some 4])]⟩,
   ⟨some 30, none, .mv (.t 35)⟩,
   ⟨some 36, none, .ext (.t 30) 0⟩,
   ⟨some 37, none, .ext (.t 30) 1⟩,
   ⟨some 38, none, .ext (.t 30) 2⟩,
   ⟨some 6, none, .alloc [.int .i64 0, .int .i64 0, .int .i64 0, .slice none 0 0]⟩,
   ⟨some 7, none, .alloc [.int .i64 0, .slice none 0 0]⟩,
   ⟨none, none, .store 4 (.t 6) (.t 36)⟩,
   ⟨none, none, .store 2 (.t 7) (.t 37)⟩,
   ⟨some 8, none, .mv (.t 38)⟩])
 (.seq
 (.rg [⟨some 39, none, .load (some 4) (.t 2)⟩,
   ⟨some 40, none, .callm n_laws_toNode_o S_laws_toNode_o [(.t 39, [none, none, none, some 2])]⟩,
   ⟨some 9, none, .alloc [.int .i64 0, .int .i64 0, .int .i64 0, .slice none 0 0]⟩,
   ⟨none, none, .store 4 (.t 9) (.t 40)⟩])
 (.seq
 (.rg [⟨some 41, none, .load (some 2) (.t 3)⟩,
   ⟨some 42, none, .callm n_laws_toVote_o S_laws_toVote_o [(.t 41, [none, some 4])]⟩,
   ⟨some 10, none, .alloc [.int .i64 0, .slice none 0 0]⟩,
   ⟨none, none, .store 2 (.t 10) (.t 42)⟩])
 (.seq
 (.rg [⟨some 44, none, .load (some 4) (.t 9)⟩,
   ⟨some 45, none, .load (some 2) (.t 10)⟩,
   ⟨some 46, none, .callb n_impl_NodeHear_o S_impl_NodeHear_o [(.t 44, [none, none, none, some 2]), (.t 45, [none, some 4])]⟩,
   ⟨some 43, none, .mv (.t 46)⟩,
   ⟨some 47, none, .ext (.t 43) 0⟩,
   ⟨some 48, none, .ext (.t 43) 1⟩,
   ⟨some 49, none, .ext (.t 43) 2⟩,
   ⟨some 11, none, .alloc [.int .i64 0, .int .i64 0, .int .i64 0, .slice none 0 0]⟩,
   ⟨some 12, none, .alloc [.int .i64 0, .slice none 0 0]⟩,
   ⟨none, none, .store 4 (.t 11) (.t 47)⟩,
   ⟨none, none, .store 2 (.t 12) (.t 48)⟩,
   ⟨some 13, none, .mv (.t 49)⟩])
 (.seq
 (.seq
 (.rg [⟨some 50, none, .load (some 4) (.t 11)⟩,
   ⟨some 51, none, .load (some 4) (.t 6)⟩,
   ⟨some 52, none, .call n_laws_eqNode S_laws_eqNode [(.t 50, [none, none, none, some 2]), (.t 51, [none, none, none, some 2])]⟩,
   ⟨some 53, none, .un .not (.t 52)⟩,
   ⟨some 54, none, .mv (.t 53)⟩,
   ⟨some 55, some (54, false), .load (some 2) (.t 12)⟩,
   ⟨some 56, some (54, false), .load (some 2) (.t 7)⟩,
   ⟨some 57, some (54, false), .call n_laws_eqVote S_laws_eqVote [(.t 55, [none, some 4]), (.t 56, [none, some 4])]⟩,
   ⟨some 58, some (54, false), .un .not (.t 57)⟩,
   ⟨some 59, none, .pick (.t 54) (.k (.bool true)) (.t 58)⟩,
   ⟨some 60, none, .mv (.t 59)⟩,
   ⟨some 61, some (60, false), .mv (.t 13)⟩,
   ⟨some 62, some (60, false), .mv (.t 8)⟩,
   ⟨some 63, some (60, false), .bin 1 .neq (.t 61) (.t 62)⟩,
   ⟨some 64, none, .pick (.t 60) (.k (.bool true)) (.t 63)⟩])
 (.cond (.t 64)
 (.seq
 (.rg [⟨some 4, none, .mv (.k (.bool false))⟩])
 .ret)
 .skip))
 (.seq
 (.seq
 (.rg [⟨some 65, none, .load (some 4) (.t 9)⟩,
   ⟨some 66, none, .load (some 4) (.t 2)⟩,
   ⟨some 67, none, .call n_laws_toNode S_laws_toNode [(.t 66, [none, none, none, some 2])]⟩,
   ⟨some 68, none, .call n_laws_eqNode S_laws_eqNode [(.t 65, [none, none, none, some 2]), (.t 67, [none, none, none, some 2])]⟩,
   ⟨some 69, none, .un .not (.t 68)⟩])
 (.cond (.t 69)
 (.seq
 (.rg [⟨some 4, none, .mv (.k (.bool false))⟩])
 .ret)
 .skip))
 (.seq
 (.seq
 (.rg [⟨some 70, none, .load (some 2) (.t 10)⟩,
   ⟨some 71, none, .load (some 2) (.t 3)⟩,
   ⟨some 72, none, .call n_laws_toVote S_laws_toVote [(.t 71, [none, some 4])]⟩,
   ⟨some 73, none, .call n_laws_eqVote S_laws_eqVote [(.t 70, [none, some 4]), (.t 72, [none, some 4])]⟩,
   ⟨some 74, none, .un .not (.t 73)⟩])
 (.cond (.t 74)
 (.seq
 (.rg [⟨some 4, none, .mv (.k (.bool false))⟩])
 .ret)
 .skip))
 (.seq
 (.rg [⟨some 14, none, .mv (.k (.int .i64 1))⟩])
 (.seq
 (.rg [⟨some 75, none, .load (some 4) (.t 9)⟩,
   ⟨some 76, none, .mv (.t 14)⟩,
   ⟨some 77, none, .callm n_laws_markNode_o S_laws_markNode_o [(.t 75, [none, none, none, some 2]), (.t 76, [])]⟩,
   ⟨some 14, none, .mv (.t 77)⟩])
 (.seq
 (.rg [⟨some 78, none, .load (some 2) (.t 10)⟩,
   ⟨some 79, none, .mv (.t 14)⟩,
   ⟨some 80, none, .callm n_laws_markVote_o S_laws_markVote_o [(.t 78, [none, some 4]), (.t 79, [])]⟩,
   ⟨some 14, none, .mv (.t 80)⟩])
 (.seq
 (.seq
 (.rg [⟨some 81, none, .mv (.t 14)⟩,
   ⟨some 82, none, .bin 0 .lss (.t 81) (.k (.int .i64 0))⟩,
   ⟨some 83, none, .mv (.t 82)⟩,
   ⟨some 84, some (83, false), .load (some 4) (.t 11)⟩,
   ⟨some 85, some (83, false), .load (some 4) (.t 6)⟩,
   ⟨some 86, some (83, false), .call n_laws_eqNode S_laws_eqNode [(.t 84, [none, none, none, some 2]), (.t 85, [none, none, none, some 2])]⟩,
   ⟨some 87, some (83, false), .un .not (.t 86)⟩,
   ⟨some 88, none, .pick (.t 83) (.k (.bool true)) (.t 87)⟩,
   ⟨some 89, none, .mv (.t 88)⟩,
   ⟨some 90, some (89, false), .load (some 2) (.t 12)⟩,
   ⟨some 91, some (89, false), .load (some 2) (.t 7)⟩,
   ⟨some 92, some (89, false), .call n_laws_eqVote S_laws_eqVote [(.t 90, [none, some 4]), (.t 91, [none, some 4])]⟩,
   ⟨some 93, some (89, false), .un .not (.t 92)⟩,
   ⟨some 94, none, .pick (.t 89) (.k (.bool true)) (.t 93)⟩,
   ⟨some 95, none, .mv (.t 94)⟩,
   ⟨some 96, some (95, false), .mv (.t 13)⟩,
   ⟨some 97, some (95, false), .mv (.t 8)⟩,
   ⟨some 98, some (95, false), .bin 1 .neq (.t 96) (.t 97)⟩,
   ⟨some 99, none, .pick (.t 95) (.k (.bool true)) (.t 98)⟩])
 (.cond (.t 99)
 (.seq
 (.rg [⟨some 4, none, .mv (.k (.bool false))⟩])
 .ret)
 .skip))
 (.seq
 (.rg [⟨some 15, none, .mv (.k (.int .i64 1))⟩])
 (.seq
 (.rg [⟨some 100, none, .load (some 4) (.t 11)⟩,
   ⟨some 101, none, .mv (.t 15)⟩,
   ⟨some 102, none, .callm n_laws_markNode_o S_laws_markNode_o [(.t 100, [none, none, none, some 2]), (.t 101, [])]⟩,
   ⟨some 15, none, .mv (.t 102)⟩])
 (.seq
 (.rg [⟨some 103, none, .load (some 2) (.t 12)⟩,
   ⟨some 104, none, .mv (.t 15)⟩,
   ⟨some 105, none, .callm n_laws_markVote_o S_laws_markVote_o [(.t 103, [none, some 4]), (.t 104, [])]⟩,
   ⟨some 15, none, .mv (.t 105)⟩])
 (.seq
 (.rg [⟨some 16, none, .mv (.k (.int .i64 1))⟩])
 (.seq
 (.rg [⟨some 106, none, .load (some 4) (.t 11)⟩,
   ⟨some 107, none, .mv (.t 16)⟩,
   ⟨some 108, none, .call n_laws_heldNode S_laws_heldNode [(.t 106, [none, none, none, some 2]), (.t 107, [])]⟩,
   ⟨some 16, none, .mv (.t 108)⟩])
 (.seq
 (.seq
 (.rg [⟨some 109, none, .mv (.t 16)⟩,
   ⟨some 110, none, .bin 0 .lss (.t 109) (.k (.int .i64 0))⟩])
 (.cond (.t 110)
 (.seq
 (.rg [⟨some 4, none, .mv (.k (.bool false))⟩])
 .ret)
 .skip))
 (.seq
 (.rg [⟨some 111, none, .load (some 2) (.t 12)⟩,
   ⟨some 112, none, .mv (.t 16)⟩,
   ⟨some 113, none, .call n_laws_heldVote S_laws_heldVote [(.t 111, [none, some 4]), (.t 112, [])]⟩,
   ⟨some 16, none, .mv (.t 113)⟩])
 (.seq
 (.seq
 (.rg [⟨some 114, none, .mv (.t 16)⟩,
   ⟨some 115, none, .bin 0 .lss (.t 114) (.k (.int .i64 0))⟩])
 (.cond (.t 115)
 (.seq
 (.rg [⟨some 4, none, .mv (.k (.bool false))⟩])
 .ret)
 .skip))
 (.seq
 (.seq
 (.rg [⟨some 116, none, .mv (.t 16)⟩,
   ⟨some 117, none, .mv (.t 15)⟩,
   ⟨some 118, none, .bin 0 .neq (.t 116) (.t 117)⟩])
 (.cond (.t 118)
 (.seq
 (.rg [⟨some 4, none, .mv (.k (.bool false))⟩])
 .ret)
 .skip))
 (.seq
 (.rg [⟨some 120, none, .load (some 4) (.t 2)⟩,
   ⟨some 121, none, .callm n_laws_toNode_o S_laws_toNode_o [(.t 120, [none, none, none, some 2])]⟩,
   ⟨some 122, none, .load (some 2) (.t 3)⟩,
   ⟨some 123, none, .callm n_laws_toVote_o S_laws_toVote_o [(.t 122, [none, some 4])]⟩,
   ⟨some 124, none, .callb n_impl_NodeHear_o S_impl_NodeHear_o [(.t 121, [none, none, none, some 2]), (.t 123, [none, some 4])]⟩,
   ⟨some 119, none, .mv (.t 124)⟩,
   ⟨some 125, none, .ext (.t 119) 0⟩,
   ⟨some 126, none, .ext (.t 119) 1⟩,
   ⟨some 127, none, .ext (.t 119) 2⟩,
   ⟨some 17, none, .alloc [.int .i64 0, .int .i64 0, .int .i64 0, .slice none 0 0]⟩,
   ⟨some 18, none, .alloc [.int .i64 0, .slice none 0 0]⟩,
   ⟨none, none, .store 4 (.t 17) (.t 125)⟩,
   ⟨none, none, .store 2 (.t 18) (.t 126)⟩,
   ⟨some 19, none, .mv (.t 127)⟩])
 (.seq
 (.seq
 (.rg [⟨some 128, none, .load (some 4) (.t 17)⟩,
   ⟨some 129, none, .load (some 4) (.t 6)⟩,
   ⟨some 130, none, .call n_laws_eqNode S_laws_eqNode [(.t 128, [none, none, none, some 2]), (.t 129, [none, none, none, some 2])]⟩,
   ⟨some 131, none, .un .not (.t 130)⟩,
   ⟨some 132, none, .mv (.t 131)⟩,
   ⟨some 133, some (132, false), .load (some 2) (.t 18)⟩,
   ⟨some 134, some (132, false), .load (some 2) (.t 7)⟩,
   ⟨some 135, some (132, false), .call n_laws_eqVote S_laws_eqVote [(.t 133, [none, some 4]), (.t 134, [none, some 4])]⟩,
   ⟨some 136, some (132, false), .un .not (.t 135)⟩,
   ⟨some 137, none, .pick (.t 132) (.k (.bool true)) (.t 136)⟩,
   ⟨some 138, none, .mv (.t 137)⟩,
   ⟨some 139, some (138, false), .mv (.t 19)⟩,
   ⟨some 140, some (138, false), .mv (.t 8)⟩,
   ⟨some 141, some (138, false), .bin 1 .neq (.t 139) (.t 140)⟩,
   ⟨some 142, none, .pick (.t 138) (.k (.bool true)) (.t 141)⟩])
 (.cond (.t 142)
 (.seq
 (.rg [⟨some 4, none, .mv (.k (.bool false))⟩])
 .ret)
 .skip))
 (.seq
 (.rg [⟨some 16, none, .mv (.k (.int .i64 1))⟩])
 (.seq
 (.rg [⟨some 143, none, .load (some 4) (.t 11)⟩,
   ⟨some 144, none, .mv (.t 16)⟩,
   ⟨some 145, none, .call n_laws_heldNode S_laws_heldNode [(.t 143, [none, none, none, some 2]), (.t 144, [])]⟩,
   ⟨some 16, none, .mv (.t 145)⟩])
 (.seq
 (.seq
 (.rg [⟨some 146, none, .mv (.t 16)⟩,
   ⟨some 147, none, .bin 0 .lss (.t 146) (.k (.int .i64 0))⟩])
 (.cond (.t 147)
 (.seq
 (.rg [⟨some 4, none, .mv (.k (.bool false))⟩])
 .ret)
 .skip))
 (.seq
 (.rg [⟨some 148, none, .load (some 2) (.t 12)⟩,
   ⟨some 149, none, .mv (.t 16)⟩,
   ⟨some 150, none, .call n_laws_heldVote S_laws_heldVote [(.t 148, [none, some 4]), (.t 149, [])]⟩,
   ⟨some 16, none, .mv (.t 150)⟩])
 (.seq
 (.seq
 (.rg [⟨some 151, none, .mv (.t 16)⟩,
   ⟨some 152, none, .bin 0 .lss (.t 151) (.k (.int .i64 0))⟩])
 (.cond (.t 152)
 (.seq
 (.rg [⟨some 4, none, .mv (.k (.bool false))⟩])
 .ret)
 .skip))
 (.seq
 (.seq
 (.rg [⟨some 153, none, .mv (.t 16)⟩,
   ⟨some 154, none, .mv (.t 15)⟩,
   ⟨some 155, none, .bin 0 .neq (.t 153) (.t 154)⟩])
 (.cond (.t 155)
 (.seq
 (.rg [⟨some 4, none, .mv (.k (.bool false))⟩])
 .ret)
 .skip))
 (.seq
 (.rg [⟨some 4, none, .mv (.k (.bool true))⟩])
 .ret))))))))))))))))))))))))))))))))))) }
theorem is_laws_FnExactNodeHear : IsF Try.prog n_laws_FnExactNodeHear c_laws_FnExactNodeHear := ⟨Try.f8, _, Try.func8, rfl, by decide, rfl, by kernel_rfl, by kernel_rfl⟩
end Av
end Go.Proofs.Ytdboofnogabefaa
