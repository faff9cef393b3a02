/- The functions' code in the small language, and that it is theirs. -/
import Derived.Test.YtdboofnogabefaaJ33
import Derived.Test.YtdboofnogabefaaD1
import Derived.Test.YtdboofnogabefaaProg
import Derived.KernelRfl
set_option linter.unusedVariables false
namespace Go.Proofs.Ytdboofnogabefaa
namespace Av
noncomputable def c_laws_FnExactNodePropose : FC := { n := 141, res := [⟨none, 4, []⟩], body :=
 (.seq
 (.rg [⟨some 2, none, .box (.t 0)⟩,
   ⟨some 3, none, .box (.t 1)⟩,
   ⟨some 4, none, .mv (.k (.bool false))⟩])
 (.seq
 (.rg [⟨some 5, none, .mv (.k (.int .i64 1048576))⟩])
 (.seq
 (.rg [⟨some 19, none, .load (some 4) (.t 2)⟩,
   ⟨some 20, none, .mv (.t 5)⟩,
   ⟨some 21, none, .call n_laws_szNode S_laws_szNode [(.t 19, [none, none, none, some 2]), (.t 20, [])]⟩,
   ⟨some 5, none, .mv (.t 21)⟩])
 (.seq
 (.seq
 (.rg [⟨some 22, none, .mv (.t 5)⟩,
   ⟨some 23, none, .bin 0 .lss (.t 22) (.k (.int .i64 0))⟩])
 (.cond (.t 23)
 (.seq
 (.rg [⟨some 4, none, .mv (.k (.bool true))⟩])
 .ret)
 .skip))
 (.seq
 (.rg [⟨some 25, none, .load (some 4) (.t 2)⟩,
   ⟨some 26, none, .call n_laws_toNode S_laws_toNode [(.t 25, [none, none, none, some 2])]⟩,
   ⟨some 27, none, .load (some 3) (.t 3)⟩,
   ⟨some 28, none, .call n_laws_toPay S_laws_toPay [(.t 27, [])]⟩,
   ⟨some 29, none, .call n_spec_NodePropose S_spec_NodePropose [(.t 26, [none, none, none, some 2]), (.t 28, [])]⟩,
   ⟨some 24, none, .mv (.t 29)⟩,
   ⟨some 30, none, .ext (.t 24) 0⟩,
   ⟨some 31, none, .ext (.t 24) 1⟩,
   ⟨some 32, none, .ext (.t 24) 2⟩,
   ⟨some 6, none, .alloc [.int .i64 0, .int .i64 0, .int .i64 0, .slice none 0 0]⟩,
   ⟨some 7, none, .alloc [.int .i64 0, .slice none 0 0]⟩,
   ⟨none, none, .store 4 (.t 6) (.t 30)⟩,
   ⟨none, none, .store 2 (.t 7) (.t 31)⟩,
   ⟨some 8, none, .mv (.t 32)⟩])
 (.seq
 (.rg [⟨some 33, none, .load (some 4) (.t 2)⟩,
   ⟨some 34, none, .callm n_laws_toNode_o S_laws_toNode_o [(.t 33, [none, none, none, some 2])]⟩,
   ⟨some 9, none, .alloc [.int .i64 0, .int .i64 0, .int .i64 0, .slice none 0 0]⟩,
   ⟨none, none, .store 4 (.t 9) (.t 34)⟩])
 (.seq
 (.rg [⟨some 36, none, .load (some 4) (.t 9)⟩,
   ⟨some 37, none, .load (some 3) (.t 3)⟩,
   ⟨some 38, none, .call n_laws_toPay S_laws_toPay [(.t 37, [])]⟩,
   ⟨some 39, none, .callb n_impl_NodePropose_o S_impl_NodePropose_o [(.t 36, [none, none, none, some 2]), (.t 38, [])]⟩,
   ⟨some 35, none, .mv (.t 39)⟩,
   ⟨some 40, none, .ext (.t 35) 0⟩,
   ⟨some 41, none, .ext (.t 35) 1⟩,
   ⟨some 42, none, .ext (.t 35) 2⟩,
   ⟨some 10, none, .alloc [.int .i64 0, .int .i64 0, .int .i64 0, .slice none 0 0]⟩,
   ⟨some 11, none, .alloc [.int .i64 0, .slice none 0 0]⟩,
   ⟨none, none, .store 4 (.t 10) (.t 40)⟩,
   ⟨none, none, .store 2 (.t 11) (.t 41)⟩,
   ⟨some 12, none, .mv (.t 42)⟩])
 (.seq
 (.seq
 (.rg [⟨some 43, none, .load (some 4) (.t 10)⟩,
   ⟨some 44, none, .load (some 4) (.t 6)⟩,
   ⟨some 45, none, .call n_laws_eqNode S_laws_eqNode [(.t 43, [none, none, none, some 2]), (.t 44, [none, none, none, some 2])]⟩,
   ⟨some 46, none, .un .not (.t 45)⟩,
   ⟨some 47, none, .mv (.t 46)⟩,
   ⟨some 48, some (47, false), .load (some 2) (.t 11)⟩,
   ⟨some 49, some (47, false), .load (some 2) (.t 7)⟩,
   ⟨some 50, some (47, false), .call n_laws_eqVote S_laws_eqVote [(.t 48, [none, some 4]), (.t 49, [none, some 4])]⟩,
   ⟨some 51, some (47, false), .un .not (.t 50)⟩,
   ⟨some 52, none, .pick (.t 47) (.k (.bool true)) (.t 51)⟩,
   ⟨some 53, none, .mv (.t 52)⟩,
   ⟨some 54, some (53, false), .mv (.t 12)⟩,
   ⟨some 55, some (53, false), .mv (.t 8)⟩,
   ⟨some 56, some (53, false), .bin 1 .neq (.t 54) (.t 55)⟩,
   ⟨some 57, none, .pick (.t 53) (.k (.bool true)) (.t 56)⟩])
 (.cond (.t 57)
 (.seq
 (.rg [⟨some 4, none, .mv (.k (.bool false))⟩])
 .ret)
 .skip))
 (.seq
 (.seq
 (.rg [⟨some 58, none, .load (some 4) (.t 9)⟩,
   ⟨some 59, none, .load (some 4) (.t 2)⟩,
   ⟨some 60, none, .call n_laws_toNode S_laws_toNode [(.t 59, [none, none, none, some 2])]⟩,
   ⟨some 61, none, .call n_laws_eqNode S_laws_eqNode [(.t 58, [none, none, none, some 2]), (.t 60, [none, none, none, some 2])]⟩,
   ⟨some 62, none, .un .not (.t 61)⟩])
 (.cond (.t 62)
 (.seq
 (.rg [⟨some 4, none, .mv (.k (.bool false))⟩])
 .ret)
 .skip))
 (.seq
 (.rg [⟨some 13, none, .mv (.k (.int .i64 1))⟩])
 (.seq
 (.rg [⟨some 63, none, .load (some 4) (.t 9)⟩,
   ⟨some 64, none, .mv (.t 13)⟩,
   ⟨some 65, none, .callm n_laws_markNode_o S_laws_markNode_o [(.t 63, [none, none, none, some 2]), (.t 64, [])]⟩,
   ⟨some 13, none, .mv (.t 65)⟩])
 (.seq
 (.seq
 (.rg [⟨some 66, none, .mv (.t 13)⟩,
   ⟨some 67, none, .bin 0 .lss (.t 66) (.k (.int .i64 0))⟩,
   ⟨some 68, none, .mv (.t 67)⟩,
   ⟨some 69, some (68, false), .load (some 4) (.t 10)⟩,
   ⟨some 70, some (68, false), .load (some 4) (.t 6)⟩,
   ⟨some 71, some (68, false), .call n_laws_eqNode S_laws_eqNode [(.t 69, [none, none, none, some 2]), (.t 70, [none, none, none, some 2])]⟩,
   ⟨some 72, some (68, false), .un .not (.t 71)⟩,
   ⟨some 73, none, .pick (.t 68) (.k (.bool true)) (.t 72)⟩,
   ⟨some 74, none, .mv (.t 73)⟩,
   ⟨some 75, some (74, false), .load (some 2) (.t 11)⟩,
   ⟨some 76, some (74, false), .load (some 2) (.t 7)⟩,
   ⟨some 77, some (74, false), .call n_laws_eqVote S_laws_eqVote [(.t 75, [none, some 4]), (.t 76, [none, some 4])]⟩,
   ⟨some 78, some (74, false), .un .not (.t 77)⟩,
   ⟨some 79, none, .pick (.t 74) (.k (.bool true)) (.t 78)⟩,
   ⟨some 80, none, .mv (.t 79)⟩,
   ⟨some 81, some (80, false), .mv (.t 12)⟩,
   ⟨some 82, some (80, false), .mv (.t 8)⟩,
   ⟨some 83, some (80, false), .bin 1 .neq (.t 81) (.t 82)⟩,
   ⟨some 84, none, .pick (.t 80) (.k (.bool true)) (.t 83)⟩])
 (.cond (.t 84)
 (.seq
 (.rg [⟨some 4, none, .mv (.k (.bool false))⟩])
 .ret)
 .skip))
 (.seq
 (.rg [⟨some 14, none, .mv (.k (.int .i64 1))⟩])
 (.seq
 (.rg [⟨some 85, none, .load (some 4) (.t 10)⟩,
   ⟨some 86, none, .mv (.t 14)⟩,
   ⟨some 87, none, .callm n_laws_markNode_o S_laws_markNode_o [(.t 85, [none, none, none, some 2]), (.t 86, [])]⟩,
   ⟨some 14, none, .mv (.t 87)⟩])
 (.seq
 (.rg [⟨some 88, none, .load (some 2) (.t 11)⟩,
   ⟨some 89, none, .mv (.t 14)⟩,
   ⟨some 90, none, .callm n_laws_markVote_o S_laws_markVote_o [(.t 88, [none, some 4]), (.t 89, [])]⟩,
   ⟨some 14, none, .mv (.t 90)⟩])
 (.seq
 (.rg [⟨some 15, none, .mv (.k (.int .i64 1))⟩])
 (.seq
 (.rg [⟨some 91, none, .load (some 4) (.t 10)⟩,
   ⟨some 92, none, .mv (.t 15)⟩,
   ⟨some 93, none, .call n_laws_heldNode S_laws_heldNode [(.t 91, [none, none, none, some 2]), (.t 92, [])]⟩,
   ⟨some 15, none, .mv (.t 93)⟩])
 (.seq
 (.seq
 (.rg [⟨some 94, none, .mv (.t 15)⟩,
   ⟨some 95, none, .bin 0 .lss (.t 94) (.k (.int .i64 0))⟩])
 (.cond (.t 95)
 (.seq
 (.rg [⟨some 4, none, .mv (.k (.bool false))⟩])
 .ret)
 .skip))
 (.seq
 (.rg [⟨some 96, none, .load (some 2) (.t 11)⟩,
   ⟨some 97, none, .mv (.t 15)⟩,
   ⟨some 98, none, .call n_laws_heldVote S_laws_heldVote [(.t 96, [none, some 4]), (.t 97, [])]⟩,
   ⟨some 15, none, .mv (.t 98)⟩])
 (.seq
 (.seq
 (.rg [⟨some 99, none, .mv (.t 15)⟩,
   ⟨some 100, none, .bin 0 .lss (.t 99) (.k (.int .i64 0))⟩])
 (.cond (.t 100)
 (.seq
 (.rg [⟨some 4, none, .mv (.k (.bool false))⟩])
 .ret)
 .skip))
 (.seq
 (.seq
 (.rg [⟨some 101, none, .mv (.t 15)⟩,
   ⟨some 102, none, .mv (.t 14)⟩,
   ⟨some 103, none, .bin 0 .neq (.t 101) (.t 102)⟩])
 (.cond (.t 103)
 (.seq
 (.rg [⟨some 4, none, .mv (.k (.bool false))⟩])
 .ret)
 .skip))
 (.seq
 (.rg [⟨some 105, none, .load (some 4) (.t 2)⟩,
   ⟨some 106, none, .callm n_laws_toNode_o S_laws_toNode_o [(.t 105, [none, none, none, some 2])]⟩,
   ⟨some 107, none, .load (some 3) (.t 3)⟩,
   ⟨some 108, none, .call n_laws_toPay S_laws_toPay [(.t 107, [])]⟩,
   ⟨some 109, none, .callb n_impl_NodePropose_o S_impl_NodePropose_o [(.t 106, [none, none, none, some 2]), (.t 108, [])]⟩,
   ⟨some 104, none, .mv (.t 109)⟩,
   ⟨some 110, none, .ext (.t 104) 0⟩,
   ⟨some 111, none, .ext (.t 104) 1⟩,
   ⟨some 112, none, .ext (.t 104) 2⟩,
   ⟨some 16, none, .alloc [.int .i64 0, .int .i64 0, .int .i64 0, .slice none 0 0]⟩,
   ⟨some 17, none, .alloc [.int .i64 0, .slice none 0 0]⟩,
   ⟨none, none, .store 4 (.t 16) (.t 110)⟩,
   ⟨none, none, .store 2 (.t 17) (.t 111)⟩,
   ⟨some 18, none, .mv (.t 112)⟩])
 (.seq
 (.seq
 (.rg [⟨some 113, none, .load (some 4) (.t 16)⟩,
   ⟨some 114, none, .load (some 4) (.t 6)⟩,
   ⟨some 115, none, .call n_laws_eqNode S_laws_eqNode [(.t 113, [none, none, none, some 2]), (.t 114, [none, none, none, some 2])]⟩,
   ⟨some 116, none, .un .not (.t 115)⟩,
   ⟨some 117, none, .mv (.t 116)⟩,
   ⟨some 118, some (117, false), .load (some 2) (.t 17)⟩,
   ⟨some 119, some (117, false), .load (some 2) (.t 7)⟩,
   ⟨some 120, some (117, false), .call n_laws_eqVote S_laws_eqVote [(.t 118, [none, some 4]), (.t 119, [none, some 4])]⟩,
   ⟨some 121, some (117, false), .un .not (.t 120)⟩,
   ⟨some 122, none, .pick (.t 117) (.k (.bool true)) (.t 121)⟩,
   ⟨some 123, none, .mv (.t 122)⟩,
   ⟨some 124, some (123, false), .mv (.t 18)⟩,
   ⟨some 125, some (123, false), .mv (.t 8)⟩,
   ⟨some 126, some (123, false), .bin 1 .neq (.t 124) (.t 125)⟩,
   ⟨some 127, none, .pick (.t 123) (.k (.bool true)) (.t 126)⟩])
 (.cond (.t 127)
 (.seq
 (.rg [⟨some 4, none, .mv (.k (.bool false))⟩])
 .ret)
 .skip))
 (.seq
 (.rg [⟨some 15, none, .mv (.k (.int .i64 1))⟩])
 (.seq
 (.rg [⟨some 128, none, .load (some 4) (.t 10)⟩,
   ⟨some 129, none, .mv (.t 15)⟩,
   ⟨some 130, none, .call n_laws_heldNode S_laws_heldNode [(.t 128, [none, none, none, some 2]), (.t 129, [])]⟩,
   ⟨some 15, none, .mv (.t 130)⟩])
 (.seq
 (.seq
 (.rg [⟨some 131, none, .mv (.t 15)⟩,
   ⟨some 132, none, .bin 0 .lss (.t 131) (.k (.int .i64 0))⟩])
 (.cond (.t 132)
 (.seq
 (.rg [⟨some 4, none, .mv (.k (.bool false))⟩])
 .ret)
 .skip))
 (.seq
 (.rg [⟨some 133, none, .load (some 2) (.t 11)⟩,
   ⟨some 134, none, .mv (.t 15)⟩,
   ⟨some 135, none, .call n_laws_heldVote S_laws_heldVote [(.t 133, [none, some 4]), (.t 134, [])]⟩,
   ⟨some 15, none, .mv (.t 135)⟩])
 (.seq
 (.seq
 (.rg [⟨some 136, none, .mv (.t 15)⟩,
   ⟨some 137, none, .bin 0 .lss (.t 136) (.k (.int .i64 0))⟩])
 (.cond (.t 137)
 (.seq
 (.rg [⟨some 4, none, .mv (.k (.bool false))⟩])
 .ret)
 .skip))
 (.seq
 (.seq
 (.rg [⟨some 138, none, .mv (.t 15)⟩,
   ⟨some 139, none, .mv (.t 14)⟩,
   ⟨some 140, none, .bin 0 .neq (.t 138) (.t 139)⟩])
 (.cond (.t 140)
 (.seq
 (.rg [⟨some 4, none, .mv (.k (.bool false))⟩])
 .ret)
 .skip))
 (.seq
 (.rg [⟨some 4, none, .mv (.k (.bool true))⟩])
 .ret)))))))))))))))))))))))))))))) }
theorem is_laws_FnExactNodePropose : IsF Try.prog n_laws_FnExactNodePropose c_laws_FnExactNodePropose := ⟨Try.f7, _, Try.func7, rfl, by decide, rfl, by kernel_rfl, by kernel_rfl⟩
noncomputable def c_laws_heldVote : FC := { n := 12, res := [⟨none, 4, []⟩], body :=
 (.seq
 (.rg [⟨some 2, none, .box (.t 0)⟩,
   ⟨some 4, none, .mv (.k (.int .i64 0))⟩])
 (.seq
 (.rg [⟨some 5, none, .fld 1 (.t 2)⟩,
   ⟨some 6, none, .load none (.t 5)⟩,
   ⟨some 7, none, .mv (.t 1)⟩,
   ⟨some 8, none, .call n_laws_heldItemS S_laws_heldItemS [(.t 6, [some 4]), (.t 7, [])]⟩,
   ⟨some 1, none, .mv (.t 8)⟩])
 (.seq
 (.seq
 (.rg [⟨some 9, none, .mv (.t 1)⟩,
   ⟨some 10, none, .bin 0 .lss (.t 9) (.k (.int .i64 0))⟩])
 (.cond (.t 10)
 (.seq
 (.rg [⟨some 4, none, .mv (.k (.int .i64 (-1)))⟩])
 .ret)
 .skip))
 (.seq
 (.rg [⟨some 11, none, .mv (.t 1)⟩,
   ⟨some 4, none, .mv (.t 11)⟩])
 .ret)))) }
theorem is_laws_heldVote : IsF Try.prog n_laws_heldVote c_laws_heldVote := ⟨Try.f48, _, Try.func48, rfl, by decide, rfl, by kernel_rfl, by kernel_rfl⟩
end Av
end Go.Proofs.Ytdboofnogabefaa
