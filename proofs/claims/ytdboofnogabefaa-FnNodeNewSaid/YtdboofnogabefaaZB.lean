/- The functions' code in the small language, and that it is theirs. -/
import Derived.Test.YtdboofnogabefaaZA
import Derived.Test.YtdboofnogabefaaD1
import Derived.Test.YtdboofnogabefaaProg
import Derived.KernelRfl
set_option linter.unusedVariables false
namespace Go.Proofs.Ytdboofnogabefaa
namespace Av
noncomputable def c_impl_Vote_last : FC := { n := 12, res := [⟨none, 2, []⟩], body :=
 (.seq
 (.rg [⟨some 1, none, .box (.t 0)⟩,
   ⟨some 2, none, .mv (.k (.int .i64 0))⟩])
 (.seq
 (.rg [⟨some 3, none, .fld 1 (.t 1)⟩,
   ⟨some 4, none, .load none (.t 3)⟩,
   ⟨some 5, none, .fld 1 (.t 1)⟩,
   ⟨some 6, none, .load none (.t 5)⟩,
   ⟨some 7, none, .len (.t 6)⟩,
   ⟨some 8, none, .bin 0 .sub (.t 7) (.k (.int .i64 1))⟩,
   ⟨some 9, none, .idx 4 (.t 4) (.t 8)⟩,
   ⟨some 10, none, .fld 0 (.t 9)⟩,
   ⟨some 11, none, .load none (.t 10)⟩,
   ⟨some 2, none, .mv (.t 11)⟩])
 .ret)) }
theorem is_impl_Vote_last : IsF Try.prog n_impl_Vote_last c_impl_Vote_last := ⟨Try.f65, _, Try.func65, rfl, by decide, rfl, by kernel_rfl, by kernel_rfl⟩
noncomputable def c_impl_NodeOk_1 : FC := { n := 16, res := [⟨none, 3, []⟩], body :=
 (.seq
 (.rg [⟨some 2, none, .box (.t 0)⟩,
   ⟨some 3, none, .mv (.k (.bool false))⟩])
 (.seq
 (.rg [⟨some 4, none, .fld 0 (.t 2)⟩,
   ⟨some 5, none, .load none (.t 4)⟩,
   ⟨some 6, none, .fld 0 (.t 1)⟩,
   ⟨some 7, none, .load none (.t 6)⟩,
   ⟨some 8, none, .bin 0 .eql (.t 5) (.t 7)⟩,
   ⟨some 9, none, .mv (.t 8)⟩,
   ⟨some 10, some (9, true), .load (some 2) (.t 2)⟩,
   ⟨some 11, some (9, true), .call n_impl_Vote_last S_impl_Vote_last [(.t 10, [none, some 4])]⟩,
   ⟨some 12, some (9, true), .fld 2 (.t 1)⟩,
   ⟨some 13, some (9, true), .load none (.t 12)⟩,
   ⟨some 14, some (9, true), .bin 0 .gtr (.t 11) (.t 13)⟩,
   ⟨some 15, none, .pick (.t 9) (.t 14) (.k (.bool false))⟩,
   ⟨some 3, none, .mv (.t 15)⟩])
 .ret)) }
theorem is_impl_NodeOk_1 : IsF Try.prog n_impl_NodeOk_1 c_impl_NodeOk_1 := ⟨Try.f64, _, Try.func64, rfl, by decide, rfl, by kernel_rfl, by kernel_rfl⟩
noncomputable def c_slices_IndexFunc_VoteS (K : FSpec) : FC := { n := 19, res := [⟨none, 4, []⟩], body :=
 (.seq
 (.rg [⟨some 4, none, .mv (.k (.int .i64 0))⟩])
 (.seq
 (.seq
 (.rg [⟨some 6, none, .mv (.t 0)⟩,
   ⟨some 7, none, .len (.t 6)⟩,
   ⟨some 8, none, .mv (.k (.int .i64 0))⟩])
 (.block 0
 (.loop
 (.seq
 (.rg [⟨some 9, none, .bin 0 .lss (.t 8) (.t 7)⟩])
 (.seq
 (.cond (.t 9)
 .skip
 (.exit 0))
 (.seq
 (.block 1
 (.seq
 (.rg [⟨some 10, none, .mv (.t 8)⟩,
   ⟨some 5, none, .mv (.t 10)⟩])
 (.seq
 (.rg [⟨some 11, none, .mv (.t 1)⟩,
   ⟨some 12, none, .mv (.t 0)⟩,
   ⟨some 13, none, .mv (.t 5)⟩,
   ⟨some 14, none, .idx 2 (.t 12) (.t 13)⟩,
   ⟨some 15, none, .load (some 2) (.t 14)⟩,
   ⟨some 16, none, .callv (.t 11) K [(.t 15, [none, some 4])]⟩])
 (.cond (.t 16)
 (.seq
 (.rg [⟨some 17, none, .mv (.t 5)⟩,
   ⟨some 4, none, .mv (.t 17)⟩])
 .ret)
 .skip))))
 (.rg [⟨some 18, none, .bin 0 .add (.t 8) (.k (.int .i64 1))⟩,
   ⟨some 8, none, .mv (.t 18)⟩])))))))
 (.seq
 (.rg [⟨some 4, none, .mv (.k (.int .i64 (-1)))⟩])
 .ret))) }
theorem is_slices_IndexFunc_VoteS (K : FSpec) : IsF Try.prog n_slices_IndexFunc_VoteS (c_slices_IndexFunc_VoteS K) := ⟨Try.f112, _, Try.func112, rfl, by decide, rfl, by kernel_rfl, by kernel_rfl⟩
noncomputable def c_slices_ContainsFunc_VoteS : FC := { n := 9, res := [⟨none, 4, []⟩], body :=
 (.seq
 (.rg [⟨some 4, none, .mv (.k (.bool false))⟩])
 (.seq
 (.rg [⟨some 5, none, .mv (.t 0)⟩,
   ⟨some 6, none, .mv (.t 1)⟩,
   ⟨some 7, none, .call n_slices_IndexFunc_VoteS S_slices_IndexFunc_VoteS [(.t 5, [some 2]), (.t 6, [])]⟩,
   ⟨some 8, none, .bin 0 .geq (.t 7) (.k (.int .i64 0))⟩,
   ⟨some 4, none, .mv (.t 8)⟩])
 .ret)) }
theorem is_slices_ContainsFunc_VoteS : IsF Try.prog n_slices_ContainsFunc_VoteS c_slices_ContainsFunc_VoteS := ⟨Try.f63, _, Try.func63, rfl, by decide, rfl, by kernel_rfl, by kernel_rfl⟩
noncomputable def c_impl_NodeOk : FC := { n := 38, res := [⟨none, 2, []⟩], body :=
 (.seq
 (.rg [⟨some 1, none, .box (.t 0)⟩,
   ⟨some 2, none, .mv (.k (.bool false))⟩])
 (.seq
 (.seq
 (.rg [⟨some 3, none, .fld 0 (.t 1)⟩,
   ⟨some 4, none, .load none (.t 3)⟩,
   ⟨some 5, none, .call n_impl_nodeOk S_impl_nodeOk [(.t 4, [])]⟩,
   ⟨some 6, none, .un .not (.t 5)⟩,
   ⟨some 7, none, .mv (.t 6)⟩,
   ⟨some 8, some (7, false), .fld 1 (.t 1)⟩,
   ⟨some 9, some (7, false), .load none (.t 8)⟩,
   ⟨some 10, some (7, false), .call n_impl_within S_impl_within [(.t 9, []), (.k (.int .i64 0), []), (.k (.int .i64 30), [])]⟩,
   ⟨some 11, some (7, false), .un .not (.t 10)⟩,
   ⟨some 12, none, .pick (.t 7) (.k (.bool true)) (.t 11)⟩,
   ⟨some 13, none, .mv (.t 12)⟩,
   ⟨some 14, some (13, false), .fld 2 (.t 1)⟩,
   ⟨some 15, some (13, false), .load none (.t 14)⟩,
   ⟨some 16, some (13, false), .fld 1 (.t 1)⟩,
   ⟨some 17, some (13, false), .load none (.t 16)⟩,
   ⟨some 18, some (13, false), .call n_impl_within S_impl_within [(.t 15, []), (.k (.int .i64 0), []), (.t 17, [])]⟩,
   ⟨some 19, some (13, false), .un .not (.t 18)⟩,
   ⟨some 20, none, .pick (.t 13) (.k (.bool true)) (.t 19)⟩,
   ⟨some 21, none, .mv (.t 20)⟩,
   ⟨some 22, some (21, false), .fld 3 (.t 1)⟩,
   ⟨some 23, some (21, false), .load none (.t 22)⟩,
   ⟨some 24, some (21, false), .len (.t 23)⟩,
   ⟨some 25, some (21, false), .bin 0 .gtr (.t 24) (.k (.int .i64 80))⟩,
   ⟨some 26, none, .pick (.t 21) (.k (.bool true)) (.t 25)⟩,
   ⟨some 27, none, .mv (.t 26)⟩,
   ⟨some 28, some (27, false), .fld 3 (.t 1)⟩,
   ⟨some 29, some (27, false), .load none (.t 28)⟩,
   ⟨some 30, some (27, false), .call n_impl_VotesOk S_impl_VotesOk [(.t 29, [some 2])]⟩,
   ⟨some 31, some (27, false), .un .not (.t 30)⟩,
   ⟨some 32, none, .pick (.t 27) (.k (.bool true)) (.t 31)⟩])
 (.cond (.t 32)
 (.seq
 (.rg [⟨some 2, none, .mv (.k (.bool false))⟩])
 .ret)
 .skip))
 (.seq
 (.rg [⟨some 33, none, .fld 3 (.t 1)⟩,
   ⟨some 34, none, .load none (.t 33)⟩,
   ⟨some 35, none, .mkfn (.func n_impl_NodeOk_1) [] [.t 1]⟩,
   ⟨some 36, none, .call n_slices_ContainsFunc_VoteS S_slices_ContainsFunc_VoteS [(.t 34, [some 2]), (.t 35, [])]⟩,
   ⟨some 37, none, .un .not (.t 36)⟩,
   ⟨some 2, none, .mv (.t 37)⟩])
 .ret))) }
theorem is_impl_NodeOk : IsF Try.prog n_impl_NodeOk c_impl_NodeOk := ⟨Try.f14, _, Try.func14, rfl, by decide, rfl, by kernel_rfl, by kernel_rfl⟩
noncomputable def c_impl_VoteLeader : FC := { n := 10, res := [⟨none, 2, []⟩], body :=
 (.seq
 (.rg [⟨some 2, none, .mv (.k (.int .i64 0))⟩])
 (.seq
 (.seq
 (.rg [⟨some 3, none, .mv (.t 0)⟩,
   ⟨some 4, none, .call n_impl_epochOk S_impl_epochOk [(.t 3, [])]⟩,
   ⟨some 5, none, .un .not (.t 4)⟩])
 (.cond (.t 5)
 (.seq
 (.rg [⟨some 2, none, .mv (.k (.int .i64 0))⟩])
 .ret)
 .skip))
 (.seq
 (.rg [⟨some 6, none, .mv (.t 0)⟩,
   ⟨some 7, none, .bin 0 .sub (.t 6) (.k (.int .i64 1))⟩,
   ⟨some 8, none, .bin 0 .rem (.t 7) (.k (.int .i64 4))⟩,
   ⟨some 9, none, .bin 0 .add (.t 8) (.k (.int .i64 1))⟩,
   ⟨some 2, none, .mv (.t 9)⟩])
 .ret))) }
theorem is_impl_VoteLeader : IsF Try.prog n_impl_VoteLeader c_impl_VoteLeader := ⟨Try.f108, _, Try.func108, rfl, by decide, rfl, by kernel_rfl, by kernel_rfl⟩
noncomputable def c_impl_Node_may : FC := { n := 13, res := [⟨none, 2, []⟩], body :=
 (.seq
 (.rg [⟨some 1, none, .box (.t 0)⟩,
   ⟨some 2, none, .mv (.k (.bool false))⟩])
 (.seq
 (.rg [⟨some 3, none, .fld 1 (.t 1)⟩,
   ⟨some 4, none, .load none (.t 3)⟩,
   ⟨some 5, none, .bin 0 .gtr (.t 4) (.k (.int .i64 0))⟩,
   ⟨some 6, none, .mv (.t 5)⟩,
   ⟨some 7, some (6, true), .fld 2 (.t 1)⟩,
   ⟨some 8, some (6, true), .load none (.t 7)⟩,
   ⟨some 9, some (6, true), .fld 1 (.t 1)⟩,
   ⟨some 10, some (6, true), .load none (.t 9)⟩,
   ⟨some 11, some (6, true), .bin 0 .neq (.t 8) (.t 10)⟩,
   ⟨some 12, none, .pick (.t 6) (.t 11) (.k (.bool false))⟩,
   ⟨some 2, none, .mv (.t 12)⟩])
 .ret)) }
theorem is_impl_Node_may : IsF Try.prog n_impl_Node_may c_impl_Node_may := ⟨Try.f107, _, Try.func107, rfl, by decide, rfl, by kernel_rfl, by kernel_rfl⟩
noncomputable def c_impl_Node_copied : FC := { n := 8, res := [⟨some (some 4), 2, [none, none, none, some 2]⟩], body :=
 (.seq
 (.rg [⟨some 1, none, .box (.t 0)⟩,
   ⟨some 2, none, .alloc [.int .i64 0, .int .i64 0, .int .i64 0, .slice none 0 0]⟩])
 (.seq
 (.rg [⟨some 3, none, .fld 3 (.t 1)⟩,
   ⟨some 4, none, .load none (.t 3)⟩,
   ⟨some 5, none, .call n_impl_votes_copied S_impl_votes_copied [(.t 4, [some 2])]⟩,
   ⟨some 6, none, .fld 3 (.t 1)⟩,
   ⟨none, none, .store 1 (.t 6) (.t 5)⟩])
 (.seq
 (.rg [⟨some 7, none, .load (some 4) (.t 1)⟩,
   ⟨none, none, .store 4 (.t 2) (.t 7)⟩])
 .ret))) }
theorem is_impl_Node_copied : IsF Try.prog n_impl_Node_copied c_impl_Node_copied := ⟨Try.f59, _, Try.func59, rfl, by decide, rfl, by kernel_rfl, by kernel_rfl⟩
noncomputable def c_impl_Node_vote : FC := { n := 29, res := [⟨some (some 4), 4, [none, none, none, some 2]⟩, ⟨some (some 2), 5, [none, some 4]⟩, ⟨none, 6, []⟩], body :=
 (.seq
 (.rg [⟨some 2, none, .box (.t 0)⟩,
   ⟨some 4, none, .alloc [.int .i64 0, .int .i64 0, .int .i64 0, .slice none 0 0]⟩,
   ⟨some 5, none, .alloc [.int .i64 0, .slice none 0 0]⟩,
   ⟨some 6, none, .mv (.k (.bool false))⟩])
 (.seq
 (.seq
 (.rg [⟨some 8, none, .fld 3 (.t 2)⟩,
   ⟨some 9, none, .load none (.t 8)⟩,
   ⟨some 10, none, .len (.t 9)⟩,
   ⟨some 11, none, .bin 0 .geq (.t 10) (.k (.int .i64 80))⟩])
 (.cond (.t 11)
 (.seq
 (.rg [⟨some 12, none, .load (some 4) (.t 2)⟩,
   ⟨some 13, none, .build [.int .i64 0, .slice none 0 0] []⟩,
   ⟨none, none, .store 4 (.t 4) (.t 12)⟩,
   ⟨none, none, .store 2 (.t 5) (.t 13)⟩,
   ⟨some 6, none, .mv (.k (.bool false))⟩])
 .ret)
 .skip))
 (.seq
 (.rg [⟨some 14, none, .fld 0 (.t 2)⟩,
   ⟨some 15, none, .load none (.t 14)⟩,
   ⟨some 16, none, .mv (.t 1)⟩,
   ⟨some 17, none, .build [.int .i64 0, .slice none 0 0] [(0, 1, .t 15), (1, 1, .t 16)]⟩,
   ⟨some 7, none, .alloc [.int .i64 0, .slice none 0 0]⟩,
   ⟨none, none, .store 2 (.t 7) (.t 17)⟩])
 (.seq
 (.rg [⟨some 18, none, .fld 1 (.t 2)⟩,
   ⟨some 19, none, .load none (.t 18)⟩,
   ⟨some 20, none, .fld 2 (.t 2)⟩,
   ⟨none, none, .store 1 (.t 20) (.t 19)⟩])
 (.seq
 (.rg [⟨some 21, none, .fld 3 (.t 2)⟩,
   ⟨some 22, none, .load none (.t 21)⟩,
   ⟨some 23, none, .load (some 2) (.t 7)⟩,
   ⟨some 24, none, .call n_impl_votes_with S_impl_votes_with [(.t 22, [some 2]), (.t 23, [none, some 4])]⟩,
   ⟨some 25, none, .fld 3 (.t 2)⟩,
   ⟨none, none, .store 1 (.t 25) (.t 24)⟩])
 (.seq
 (.rg [⟨some 26, none, .load (some 4) (.t 2)⟩,
   ⟨some 27, none, .load (some 2) (.t 7)⟩,
   ⟨some 28, none, .call n_impl_Vote_copied S_impl_Vote_copied [(.t 27, [none, some 4])]⟩,
   ⟨none, none, .store 4 (.t 4) (.t 26)⟩,
   ⟨none, none, .store 2 (.t 5) (.t 28)⟩,
   ⟨some 6, none, .mv (.k (.bool true))⟩])
 .ret)))))) }
theorem is_impl_Node_vote : IsF Try.prog n_impl_Node_vote c_impl_Node_vote := ⟨Try.f109, _, Try.func109, rfl, by decide, rfl, by kernel_rfl, by kernel_rfl⟩
noncomputable def c_laws_lwNode : FC := { n := 31, res := [⟨none, 4, []⟩], body :=
 (.seq
 (.rg [⟨some 2, none, .box (.t 0)⟩,
   ⟨some 3, none, .box (.t 1)⟩,
   ⟨some 4, none, .mv (.k (.bool false))⟩])
 (.seq
 (.rg [⟨some 5, none, .fld 0 (.t 2)⟩,
   ⟨some 6, none, .load none (.t 5)⟩,
   ⟨some 7, none, .fld 0 (.t 3)⟩,
   ⟨some 8, none, .load none (.t 7)⟩,
   ⟨some 9, none, .bin 0 .eql (.t 6) (.t 8)⟩,
   ⟨some 10, none, .mv (.t 9)⟩,
   ⟨some 11, some (10, true), .fld 1 (.t 2)⟩,
   ⟨some 12, some (10, true), .load none (.t 11)⟩,
   ⟨some 13, some (10, true), .fld 1 (.t 3)⟩,
   ⟨some 14, some (10, true), .load none (.t 13)⟩,
   ⟨some 15, some (10, true), .bin 0 .eql (.t 12) (.t 14)⟩,
   ⟨some 16, none, .pick (.t 10) (.t 15) (.k (.bool false))⟩,
   ⟨some 17, none, .mv (.t 16)⟩,
   ⟨some 18, some (17, true), .fld 2 (.t 2)⟩,
   ⟨some 19, some (17, true), .load none (.t 18)⟩,
   ⟨some 20, some (17, true), .fld 2 (.t 3)⟩,
   ⟨some 21, some (17, true), .load none (.t 20)⟩,
   ⟨some 22, some (17, true), .bin 0 .eql (.t 19) (.t 21)⟩,
   ⟨some 23, none, .pick (.t 17) (.t 22) (.k (.bool false))⟩,
   ⟨some 24, none, .mv (.t 23)⟩,
   ⟨some 25, some (24, true), .fld 3 (.t 2)⟩,
   ⟨some 26, some (24, true), .load none (.t 25)⟩,
   ⟨some 27, some (24, true), .fld 3 (.t 3)⟩,
   ⟨some 28, some (24, true), .load none (.t 27)⟩,
   ⟨some 29, some (24, true), .call n_laws_lwVotes S_laws_lwVotes [(.t 26, [some 2]), (.t 28, [some 2])]⟩,
   ⟨some 30, none, .pick (.t 24) (.t 29) (.k (.bool false))⟩,
   ⟨some 4, none, .mv (.t 30)⟩])
 .ret)) }
theorem is_laws_lwNode : IsF Try.prog n_laws_lwNode c_laws_lwNode := ⟨Try.f12, _, Try.func12, rfl, by decide, rfl, by kernel_rfl, by kernel_rfl⟩
end Av
end Go.Proofs.Ytdboofnogabefaa
