/- The functions' code in the small language, and that it is theirs. -/
import Derived.Test.YtdboofnogabefaaJ33
import Derived.Test.YtdboofnogabefaaD1
import Derived.Test.YtdboofnogabefaaProg
import Derived.KernelRfl
set_option linter.unusedVariables false
namespace Go.Proofs.Ytdboofnogabefaa
namespace Av
noncomputable def c_impl_Node_vote_o : FC := { n := 29, res := [⟨some (some 4), 4, [none, none, none, some 2]⟩, ⟨some (some 2), 5, [none, some 4]⟩, ⟨none, 6, []⟩], body :=
 (.seq
 (.rg [⟨some 2, none, .box (.t 0)⟩,
   ⟨some 4, none, .alloc [.int .i64 0, .int .i64 0, .int .i64 0, .slice none 0 0]⟩,
   ⟨some 5, none, .alloc [.int .i64 0, .slice none 0 0]⟩,
   ⟨some 6, none, .mv (.k (.bool false))⟩])
 (.seq
 (.seq
 (.rg [⟨some 8, none, .fld 3 (.t 2)⟩,
   ⟨some 9, none, .load none (.t 8)⟩,
   ⟨some 10, none, .len (.t 9)⟩,
   ⟨some 11, none, .bin 0 .geq (.t 10) (.k (.int .i64 80))⟩])
 (.cond (.t 11)
 (.seq
 (.rg [⟨some 12, none, .load (some 4) (.t 2)⟩,
   ⟨some 13, none, .build [.int .i64 0, .slice none 0 0] []⟩,
   ⟨none, none, .store 4 (.t 4) (.t 12)⟩,
   ⟨none, none, .store 2 (.t 5) (.t 13)⟩,
   ⟨some 6, none, .mv (.k (.bool false))⟩])
 .ret)
 .skip))
 (.seq
 (.rg [⟨some 14, none, .fld 0 (.t 2)⟩,
   ⟨some 15, none, .load none (.t 14)⟩,
   ⟨some 16, none, .mv (.t 1)⟩,
   ⟨some 17, none, .build [.int .i64 0, .slice none 0 0] [(0, 1, .t 15), (1, 1, .t 16)]⟩,
   ⟨some 7, none, .alloc [.int .i64 0, .slice none 0 0]⟩,
   ⟨none, none, .store 2 (.t 7) (.t 17)⟩])
 (.seq
 (.rg [⟨some 18, none, .fld 1 (.t 2)⟩,
   ⟨some 19, none, .load none (.t 18)⟩,
   ⟨some 20, none, .fld 2 (.t 2)⟩,
   ⟨none, none, .store 1 (.t 20) (.t 19)⟩])
 (.seq
 (.rg [⟨some 21, none, .fld 3 (.t 2)⟩,
   ⟨some 22, none, .load none (.t 21)⟩,
   ⟨some 23, none, .load (some 2) (.t 7)⟩,
   ⟨some 24, none, .callm n_impl_votes_with_o S_impl_votes_with_o [(.t 22, [some 2]), (.t 23, [none, some 4])]⟩,
   ⟨some 25, none, .fld 3 (.t 2)⟩,
   ⟨none, none, .store 1 (.t 25) (.t 24)⟩])
 (.seq
 (.rg [⟨some 26, none, .load (some 4) (.t 2)⟩,
   ⟨some 27, none, .load (some 2) (.t 7)⟩,
   ⟨some 28, none, .callb n_impl_Vote_copied_o S_impl_Vote_copied_o [(.t 27, [none, some 4])]⟩,
   ⟨none, none, .store 4 (.t 4) (.t 26)⟩,
   ⟨none, none, .store 2 (.t 5) (.t 28)⟩,
   ⟨some 6, none, .mv (.k (.bool true))⟩])
 .ret)))))) }
theorem is_impl_Node_vote_o : IsF Try.prog n_impl_Node_vote_o c_impl_Node_vote_o := ⟨Try.f109, _, Try.func109, rfl, by decide, rfl, by kernel_rfl, by kernel_rfl⟩
noncomputable def c_impl_Node_propose_o : FC := { n := 41, res := [⟨some (some 4), 4, [none, none, none, some 2]⟩, ⟨some (some 2), 5, [none, some 4]⟩, ⟨none, 6, []⟩], body :=
 (.seq
 (.rg [⟨some 2, none, .box (.t 0)⟩,
   ⟨some 3, none, .box (.t 1)⟩,
   ⟨some 4, none, .alloc [.int .i64 0, .int .i64 0, .int .i64 0, .slice none 0 0]⟩,
   ⟨some 5, none, .alloc [.int .i64 0, .slice none 0 0]⟩,
   ⟨some 6, none, .mv (.k (.bool false))⟩])
 (.seq
 (.rg [⟨some 8, none, .fld 3 (.t 2)⟩,
   ⟨some 9, none, .load none (.t 8)⟩,
   ⟨some 10, none, .callo n_impl_votes_tip SO_impl_votes_tip_L [(.t 9, [some 2])]⟩,
   ⟨some 11, none, .fld 1 (.t 2)⟩,
   ⟨some 12, none, .load none (.t 11)⟩,
   ⟨some 13, none, .load (some 3) (.t 3)⟩,
   ⟨some 14, none, .build [.int .i64 0, .int .i64 0, .int .i64 0, .int .i64 0] [(0, 1, .t 12), (1, 3, .t 13)]⟩,
   ⟨some 15, none, .bsl 54 4 [.t 14]⟩,
   ⟨some 16, none, .app 54 4 32 [.int .i64 0, .int .i64 0, .int .i64 0, .int .i64 0] (.t 10) (.t 15)⟩,
   ⟨some 7, none, .mv (.t 16)⟩])
 (.seq
 (.seq
 (.frz 7 (.rg [⟨some 17, none, .load (some 4) (.t 2)⟩,
   ⟨some 18, none, .call n_impl_Node_may S_impl_Node_may [(.t 17, [none, none, none, some 2])]⟩,
   ⟨some 19, none, .un .not (.t 18)⟩,
   ⟨some 20, none, .mv (.t 19)⟩,
   ⟨some 21, some (20, false), .fld 1 (.t 2)⟩,
   ⟨some 22, some (20, false), .load none (.t 21)⟩,
   ⟨some 23, some (20, false), .call n_impl_VoteLeader S_impl_VoteLeader [(.t 22, [])]⟩,
   ⟨some 24, some (20, false), .fld 0 (.t 2)⟩,
   ⟨some 25, some (20, false), .load none (.t 24)⟩,
   ⟨some 26, some (20, false), .bin 0 .neq (.t 23) (.t 25)⟩,
   ⟨some 27, none, .pick (.t 20) (.k (.bool true)) (.t 26)⟩,
   ⟨some 28, none, .mv (.t 27)⟩,
   ⟨some 29, some (28, false), .mv (.t 7)⟩,
   ⟨some 30, some (28, false), .call n_impl_ChainOk S_impl_ChainOk [(.t 29, [some 4])]⟩,
   ⟨some 31, some (28, false), .un .not (.t 30)⟩,
   ⟨some 32, none, .pick (.t 28) (.k (.bool true)) (.t 31)⟩]))
 (.cond (.t 32)
 (.seq
 (.rg [⟨some 33, none, .load (some 4) (.t 2)⟩,
   ⟨some 34, none, .build [.int .i64 0, .slice none 0 0] []⟩,
   ⟨none, none, .store 4 (.t 4) (.t 33)⟩,
   ⟨none, none, .store 2 (.t 5) (.t 34)⟩,
   ⟨some 6, none, .mv (.k (.bool false))⟩])
 .ret)
 .skip))
 (.seq
 (.rg [⟨some 35, none, .load (some 4) (.t 2)⟩,
   ⟨some 36, none, .mv (.t 7)⟩,
   ⟨some 37, none, .callm n_impl_Node_vote_o S_impl_Node_vote_o [(.t 35, [none, none, none, some 2]), (.t 36, [some 4])]⟩,
   ⟨some 38, none, .ext (.t 37) 0⟩,
   ⟨some 39, none, .ext (.t 37) 1⟩,
   ⟨some 40, none, .ext (.t 37) 2⟩,
   ⟨none, none, .store 4 (.t 4) (.t 38)⟩,
   ⟨none, none, .store 2 (.t 5) (.t 39)⟩,
   ⟨some 6, none, .mv (.t 40)⟩])
 .ret)))) }
theorem is_impl_Node_propose_o : IsF Try.prog n_impl_Node_propose_o c_impl_Node_propose_o := ⟨Try.f60, _, Try.func60, rfl, by decide, rfl, by kernel_rfl, by kernel_rfl⟩
noncomputable def c_impl_NodePropose_o : FC := { n := 24, res := [⟨some (some 4), 4, [none, none, none, some 2]⟩, ⟨some (some 2), 5, [none, some 4]⟩, ⟨none, 6, []⟩], body :=
 (.seq
 (.rg [⟨some 2, none, .box (.t 0)⟩,
   ⟨some 3, none, .box (.t 1)⟩,
   ⟨some 4, none, .alloc [.int .i64 0, .int .i64 0, .int .i64 0, .slice none 0 0]⟩,
   ⟨some 5, none, .alloc [.int .i64 0, .slice none 0 0]⟩,
   ⟨some 6, none, .mv (.k (.bool false))⟩])
 (.seq
 (.seq
 (.rg [⟨some 7, none, .load (some 4) (.t 2)⟩,
   ⟨some 8, none, .call n_impl_NodeOk S_impl_NodeOk [(.t 7, [none, none, none, some 2])]⟩,
   ⟨some 9, none, .un .not (.t 8)⟩,
   ⟨some 10, none, .mv (.t 9)⟩,
   ⟨some 11, some (10, false), .load (some 3) (.t 3)⟩,
   ⟨some 12, some (10, false), .call n_impl_PayOk S_impl_PayOk [(.t 11, [])]⟩,
   ⟨some 13, some (10, false), .un .not (.t 12)⟩,
   ⟨some 14, none, .pick (.t 10) (.k (.bool true)) (.t 13)⟩])
 (.cond (.t 14)
 (.seq
 (.rg [⟨some 15, none, .build [.int .i64 0, .int .i64 0, .int .i64 0, .slice none 0 0] []⟩,
   ⟨some 16, none, .build [.int .i64 0, .slice none 0 0] []⟩,
   ⟨none, none, .store 4 (.t 4) (.t 15)⟩,
   ⟨none, none, .store 2 (.t 5) (.t 16)⟩,
   ⟨some 6, none, .mv (.k (.bool false))⟩])
 .ret)
 .skip))
 (.seq
 (.rg [⟨some 17, none, .load (some 4) (.t 2)⟩,
   ⟨some 18, none, .callm n_impl_Node_copied_o S_impl_Node_copied_o [(.t 17, [none, none, none, some 2])]⟩,
   ⟨some 19, none, .load (some 3) (.t 3)⟩,
   ⟨some 20, none, .callm n_impl_Node_propose_o S_impl_Node_propose_o [(.t 18, [none, none, none, some 2]), (.t 19, [])]⟩,
   ⟨some 21, none, .ext (.t 20) 0⟩,
   ⟨some 22, none, .ext (.t 20) 1⟩,
   ⟨some 23, none, .ext (.t 20) 2⟩,
   ⟨none, none, .store 4 (.t 4) (.t 21)⟩,
   ⟨none, none, .store 2 (.t 5) (.t 22)⟩,
   ⟨some 6, none, .mv (.t 23)⟩])
 .ret))) }
theorem is_impl_NodePropose_o : IsF Try.prog n_impl_NodePropose_o c_impl_NodePropose_o := ⟨Try.f13, _, Try.func13, rfl, by decide, rfl, by kernel_rfl, by kernel_rfl⟩
end Av
end Go.Proofs.Ytdboofnogabefaa
