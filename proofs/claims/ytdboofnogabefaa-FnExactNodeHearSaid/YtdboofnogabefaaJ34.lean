/- Texts of the layer, joined. -/
import Derived.Test.YtdboofnogabefaaJ32
import Derived.Test.YtdboofnogabefaaD1
import Derived.Test.YtdboofnogabefaaProg
import Derived.KernelRfl
set_option linter.unusedVariables false
namespace Go.Proofs.Ytdboofnogabefaa
namespace Av
noncomputable def c_impl_Node_hear_o : FC := { n := 99, res := [⟨some (some 4), 4, [none, none, none, some 2]⟩, ⟨some (some 2), 5, [none, some 4]⟩, ⟨none, 6, []⟩], body :=
 (.seq
 (.rg [⟨some 2, none, .box (.t 0)⟩,
   ⟨some 3, none, .box (.t 1)⟩,
   ⟨some 4, none, .alloc [.int .i64 0, .int .i64 0, .int .i64 0, .slice none 0 0]⟩,
   ⟨some 5, none, .alloc [.int .i64 0, .slice none 0 0]⟩,
   ⟨some 6, none, .mv (.k (.bool false))⟩])
 (.seq
 (.seq
 (.rg [⟨some 13, none, .load (some 2) (.t 3)⟩,
   ⟨some 14, none, .call n_impl_VoteOk S_impl_VoteOk [(.t 13, [none, some 4])]⟩,
   ⟨some 15, none, .un .not (.t 14)⟩,
   ⟨some 16, none, .mv (.t 15)⟩,
   ⟨some 17, some (16, false), .fld 0 (.t 3)⟩,
   ⟨some 18, some (16, false), .load none (.t 17)⟩,
   ⟨some 19, some (16, false), .fld 0 (.t 2)⟩,
   ⟨some 20, some (16, false), .load none (.t 19)⟩,
   ⟨some 21, some (16, false), .bin 0 .eql (.t 18) (.t 20)⟩,
   ⟨some 22, none, .pick (.t 16) (.k (.bool true)) (.t 21)⟩,
   ⟨some 23, none, .mv (.t 22)⟩,
   ⟨some 24, some (23, false), .fld 3 (.t 2)⟩,
   ⟨some 25, some (23, false), .load none (.t 24)⟩,
   ⟨some 26, some (23, false), .len (.t 25)⟩,
   ⟨some 27, some (23, false), .bin 0 .geq (.t 26) (.k (.int .i64 80))⟩,
   ⟨some 28, none, .pick (.t 23) (.k (.bool true)) (.t 27)⟩])
 (.cond (.t 28)
 (.seq
 (.rg [⟨some 29, none, .load (some 4) (.t 2)⟩,
   ⟨some 30, none, .build [.int .i64 0, .slice none 0 0] []⟩,
   ⟨none, none, .store 4 (.t 4) (.t 29)⟩,
   ⟨none, none, .store 2 (.t 5) (.t 30)⟩,
   ⟨some 6, none, .mv (.k (.bool false))⟩])
 .ret)
 .skip))
 (.seq
 (.seq
 (.rg [⟨some 31, none, .fld 3 (.t 2)⟩,
   ⟨some 32, none, .load none (.t 31)⟩,
   ⟨some 33, none, .load (some 2) (.t 3)⟩,
   ⟨some 34, none, .call n_impl_votes_has S_impl_votes_has [(.t 32, [some 2]), (.t 33, [none, some 4])]⟩,
   ⟨some 35, none, .un .not (.t 34)⟩])
 (.cond (.t 35)
 (.rg [⟨some 36, none, .fld 3 (.t 2)⟩,
   ⟨some 37, none, .load none (.t 36)⟩,
   ⟨some 38, none, .load (some 2) (.t 3)⟩,
   ⟨some 39, none, .callm n_impl_votes_with_o S_impl_votes_with_o [(.t 37, [some 2]), (.t 38, [none, some 4])]⟩,
   ⟨some 40, none, .fld 3 (.t 2)⟩,
   ⟨none, none, .store 1 (.t 40) (.t 39)⟩])
 .skip))
 (.seq
 (.seq
 (.rg [⟨some 41, none, .load (some 4) (.t 2)⟩,
   ⟨some 42, none, .call n_impl_Node_may S_impl_Node_may [(.t 41, [none, none, none, some 2])]⟩,
   ⟨some 43, none, .un .not (.t 42)⟩])
 (.cond (.t 43)
 (.seq
 (.rg [⟨some 44, none, .load (some 4) (.t 2)⟩,
   ⟨some 45, none, .build [.int .i64 0, .slice none 0 0] []⟩,
   ⟨none, none, .store 4 (.t 4) (.t 44)⟩,
   ⟨none, none, .store 2 (.t 5) (.t 45)⟩,
   ⟨some 6, none, .mv (.k (.bool false))⟩])
 .ret)
 .skip))
 (.seq
 (.rg [⟨some 46, none, .fld 3 (.t 2)⟩,
   ⟨some 47, none, .load none (.t 46)⟩,
   ⟨some 7, none, .mv (.t 47)⟩])
 (.seq
 (.rg [⟨some 48, none, .mv (.t 7)⟩,
   ⟨some 49, none, .callo n_impl_votes_tip SO_impl_votes_tip_L [(.t 48, [some 2])]⟩,
   ⟨some 50, none, .len (.t 49)⟩,
   ⟨some 51, none, .fld 1 (.t 2)⟩,
   ⟨some 52, none, .load none (.t 51)⟩,
   ⟨some 53, none, .call n_impl_VoteLeader S_impl_VoteLeader [(.t 52, [])]⟩,
   ⟨some 8, none, .mv (.t 50)⟩,
   ⟨some 9, none, .mv (.t 53)⟩])
 (.seq
 (.seq
 (.rg [⟨some 54, none, .mv (.t 7)⟩,
   ⟨some 55, none, .len (.t 54)⟩,
   ⟨some 56, none, .mv (.k (.int .i64 0))⟩])
 (.block 0
 (.loop
 (.seq
 (.rg [⟨some 57, none, .bin 0 .lss (.t 56) (.t 55)⟩])
 (.seq
 (.cond (.t 57)
 .skip
 (.exit 0))
 (.seq
 (.block 1
 (.seq
 (.rg [⟨some 58, none, .idx 2 (.t 54) (.t 56)⟩,
   ⟨some 59, none, .load (some 2) (.t 58)⟩,
   ⟨some 11, none, .alloc [.int .i64 0, .slice none 0 0]⟩,
   ⟨none, none, .store 2 (.t 11) (.t 59)⟩])
 (.seq
 (.rg [⟨some 60, none, .fld 1 (.t 11)⟩,
   ⟨some 61, none, .load none (.t 60)⟩,
   ⟨some 62, none, .fld 1 (.t 11)⟩,
   ⟨some 63, none, .load none (.t 62)⟩,
   ⟨some 64, none, .len (.t 63)⟩,
   ⟨some 65, none, .bin 0 .sub (.t 64) (.k (.int .i64 1))⟩,
   ⟨some 66, none, .slv 4 (.t 61) (.t 65)⟩,
   ⟨some 12, none, .mv (.t 66)⟩])
 (.seq
 (.rg [⟨some 67, none, .fld 0 (.t 11)⟩,
   ⟨some 68, none, .load none (.t 67)⟩,
   ⟨some 69, none, .mv (.t 9)⟩,
   ⟨some 70, none, .bin 0 .eql (.t 68) (.t 69)⟩,
   ⟨some 71, none, .mv (.t 70)⟩,
   ⟨some 72, some (71, true), .load (some 2) (.t 11)⟩,
   ⟨some 73, some (71, true), .call n_impl_Vote_last S_impl_Vote_last [(.t 72, [none, some 4])]⟩,
   ⟨some 74, some (71, true), .fld 1 (.t 2)⟩,
   ⟨some 75, some (71, true), .load none (.t 74)⟩,
   ⟨some 76, some (71, true), .bin 0 .eql (.t 73) (.t 75)⟩,
   ⟨some 77, none, .pick (.t 71) (.t 76) (.k (.bool false))⟩,
   ⟨some 78, none, .mv (.t 77)⟩,
   ⟨some 79, some (78, true), .mv (.t 12)⟩,
   ⟨some 80, some (78, true), .len (.t 79)⟩,
   ⟨some 81, some (78, true), .mv (.t 8)⟩,
   ⟨some 82, some (78, true), .bin 0 .eql (.t 80) (.t 81)⟩,
   ⟨some 83, none, .pick (.t 78) (.t 82) (.k (.bool false))⟩,
   ⟨some 84, none, .mv (.t 83)⟩,
   ⟨some 85, some (84, true), .mv (.t 7)⟩,
   ⟨some 86, some (84, true), .mv (.t 12)⟩,
   ⟨some 87, some (84, true), .call n_impl_votes_sure S_impl_votes_sure [(.t 85, [some 2]), (.t 86, [some 4])]⟩,
   ⟨some 88, none, .pick (.t 84) (.t 87) (.k (.bool false))⟩])
 (.cond (.t 88)
 (.seq
 (.rg [⟨some 89, none, .load (some 4) (.t 2)⟩,
   ⟨some 90, none, .fld 1 (.t 11)⟩,
   ⟨some 91, none, .load none (.t 90)⟩,
   ⟨some 92, none, .callm n_impl_Node_vote_o S_impl_Node_vote_o [(.t 89, [none, none, none, some 2]), (.t 91, [some 4])]⟩,
   ⟨some 93, none, .ext (.t 92) 0⟩,
   ⟨some 94, none, .ext (.t 92) 1⟩,
   ⟨some 95, none, .ext (.t 92) 2⟩,
   ⟨none, none, .store 4 (.t 4) (.t 93)⟩,
   ⟨none, none, .store 2 (.t 5) (.t 94)⟩,
   ⟨some 6, none, .mv (.t 95)⟩])
 .ret)
 .skip)))))
 (.rg [⟨some 96, none, .bin 0 .add (.t 56) (.k (.int .i64 1))⟩,
   ⟨some 56, none, .mv (.t 96)⟩])))))))
 (.seq
 (.rg [⟨some 97, none, .load (some 4) (.t 2)⟩,
   ⟨some 98, none, .build [.int .i64 0, .slice none 0 0] []⟩,
   ⟨none, none, .store 4 (.t 4) (.t 97)⟩,
   ⟨none, none, .store 2 (.t 5) (.t 98)⟩,
   ⟨some 6, none, .mv (.k (.bool false))⟩])
 .ret)))))))) }
theorem is_impl_Node_hear_o : IsF Try.prog n_impl_Node_hear_o c_impl_Node_hear_o := ⟨Try.f103, _, Try.func103, rfl, by decide, rfl, by kernel_rfl, by kernel_rfl⟩
noncomputable def c_impl_NodeHear_o : FC := { n := 19, res := [⟨some (some 4), 4, [none, none, none, some 2]⟩, ⟨some (some 2), 5, [none, some 4]⟩, ⟨none, 6, []⟩], body :=
 (.seq
 (.rg [⟨some 2, none, .box (.t 0)⟩,
   ⟨some 3, none, .box (.t 1)⟩,
   ⟨some 4, none, .alloc [.int .i64 0, .int .i64 0, .int .i64 0, .slice none 0 0]⟩,
   ⟨some 5, none, .alloc [.int .i64 0, .slice none 0 0]⟩,
   ⟨some 6, none, .mv (.k (.bool false))⟩])
 (.seq
 (.seq
 (.rg [⟨some 7, none, .load (some 4) (.t 2)⟩,
   ⟨some 8, none, .call n_impl_NodeOk S_impl_NodeOk [(.t 7, [none, none, none, some 2])]⟩,
   ⟨some 9, none, .un .not (.t 8)⟩])
 (.cond (.t 9)
 (.seq
 (.rg [⟨some 10, none, .build [.int .i64 0, .int .i64 0, .int .i64 0, .slice none 0 0] []⟩,
   ⟨some 11, none, .build [.int .i64 0, .slice none 0 0] []⟩,
   ⟨none, none, .store 4 (.t 4) (.t 10)⟩,
   ⟨none, none, .store 2 (.t 5) (.t 11)⟩,
   ⟨some 6, none, .mv (.k (.bool false))⟩])
 .ret)
 .skip))
 (.seq
 (.rg [⟨some 12, none, .load (some 4) (.t 2)⟩,
   ⟨some 13, none, .callm n_impl_Node_copied_o S_impl_Node_copied_o [(.t 12, [none, none, none, some 2])]⟩,
   ⟨some 14, none, .load (some 2) (.t 3)⟩,
   ⟨some 15, none, .callm n_impl_Node_hear_o S_impl_Node_hear_o [(.t 13, [none, none, none, some 2]), (.t 14, [none, some 4])]⟩,
   ⟨some 16, none, .ext (.t 15) 0⟩,
   ⟨some 17, none, .ext (.t 15) 1⟩,
   ⟨some 18, none, .ext (.t 15) 2⟩,
   ⟨none, none, .store 4 (.t 4) (.t 16)⟩,
   ⟨none, none, .store 2 (.t 5) (.t 17)⟩,
   ⟨some 6, none, .mv (.t 18)⟩])
 .ret))) }
theorem is_impl_NodeHear_o : IsF Try.prog n_impl_NodeHear_o c_impl_NodeHear_o := ⟨Try.f52, _, Try.func52, rfl, by decide, rfl, by kernel_rfl, by kernel_rfl⟩
end Av
end Go.Proofs.Ytdboofnogabefaa

namespace Go.Proofs.Ytdboofnogabefaa
namespace Av
noncomputable def c_impl_Node_vote_o : FC := { n := 29, res := [⟨some (some 4), 4, [none, none, none, some 2]⟩, ⟨some (some 2), 5, [none, some 4]⟩, ⟨none, 6, []⟩], body :=
 (.seq
 (.rg [⟨some 2, none, .box (.t 0)⟩,
   ⟨some 4, none, .alloc [.int .i64 0, .int .i64 0, .int .i64 0, .slice none 0 0]⟩,
   ⟨some 5, none, .alloc [.int .i64 0, .slice none 0 0]⟩,
   ⟨some 6, none, .mv (.k (.bool false))⟩])
 (.seq
 (.seq
 (.rg [⟨some 8, none, .fld 3 (.t 2)⟩,
   ⟨some 9, none, .load none (.t 8)⟩,
   ⟨some 10, none, .len (.t 9)⟩,
   ⟨some 11, none, .bin 0 .geq (.t 10) (.k (.int .i64 80))⟩])
 (.cond (.t 11)
 (.seq
 (.rg [⟨some 12, none, .load (some 4) (.t 2)⟩,
   ⟨some 13, none, .build [.int .i64 0, .slice none 0 0] []⟩,
   ⟨none, none, .store 4 (.t 4) (.t 12)⟩,
   ⟨none, none, .store 2 (.t 5) (.t 13)⟩,
   ⟨some 6, none, .mv (.k (.bool false))⟩])
 .ret)
 .skip))
 (.seq
 (.rg [⟨some 14, none, .fld 0 (.t 2)⟩,
   ⟨some 15, none, .load none (.t 14)⟩,
   ⟨some 16, none, .mv (.t 1)⟩,
   ⟨some 17, none, .build [.int .i64 0, .slice none 0 0] [(0, 1, .t 15), (1, 1, .t 16)]⟩,
   ⟨some 7, none, .alloc [.int .i64 0, .slice none 0 0]⟩,
   ⟨none, none, .store 2 (.t 7) (.t 17)⟩])
 (.seq
 (.rg [⟨some 18, none, .fld 1 (.t 2)⟩,
   ⟨some 19, none, .load none (.t 18)⟩,
   ⟨some 20, none, .fld 2 (.t 2)⟩,
   ⟨none, none, .store 1 (.t 20) (.t 19)⟩])
 (.seq
 (.rg [⟨some 21, none, .fld 3 (.t 2)⟩,
   ⟨some 22, none, .load none (.t 21)⟩,
   ⟨some 23, none, .load (some 2) (.t 7)⟩,
   ⟨some 24, none, .callm n_impl_votes_with_o S_impl_votes_with_o [(.t 22, [some 2]), (.t 23, [none, some 4])]⟩,
   ⟨some 25, none, .fld 3 (.t 2)⟩,
   ⟨none, none, .store 1 (.t 25) (.t 24)⟩])
 (.seq
 (.rg [⟨some 26, none, .load (some 4) (.t 2)⟩,
   ⟨some 27, none, .load (some 2) (.t 7)⟩,
   ⟨some 28, none, .callb n_impl_Vote_copied_o S_impl_Vote_copied_o [(.t 27, [none, some 4])]⟩,
   ⟨none, none, .store 4 (.t 4) (.t 26)⟩,
   ⟨none, none, .store 2 (.t 5) (.t 28)⟩,
   ⟨some 6, none, .mv (.k (.bool true))⟩])
 .ret)))))) }
theorem is_impl_Node_vote_o : IsF Try.prog n_impl_Node_vote_o c_impl_Node_vote_o := ⟨Try.f109, _, Try.func109, rfl, by decide, rfl, by kernel_rfl, by kernel_rfl⟩
end Av
end Go.Proofs.Ytdboofnogabefaa

