/- The functions' code in the small language, and that it is theirs. -/
import Derived.Test.YtdboofnogabefaaZA
import Derived.Test.YtdboofnogabefaaD1
import Derived.Test.YtdboofnogabefaaProg
import Derived.KernelRfl
set_option linter.unusedVariables false
namespace Go.Proofs.Ytdboofnogabefaa
namespace Av
noncomputable def c_impl_Vote_last : FC := { n := 12, res := [⟨none, 2, []⟩], body :=
 (.seq
 (.rg [⟨some 1, none, .box (.t 0)⟩,
   ⟨some 2, none, .mv (.k (.int .i64 0))⟩])
 (.seq
 (.rg [⟨some 3, none, .fld 1 (.t 1)⟩,
   ⟨some 4, none, .load none (.t 3)⟩,
   ⟨some 5, none, .fld 1 (.t 1)⟩,
   ⟨some 6, none, .load none (.t 5)⟩,
   ⟨some 7, none, .len (.t 6)⟩,
   ⟨some 8, none, .bin 0 .sub (.t 7) (.k (.int .i64 1))⟩,
   ⟨some 9, none, .idx 4 (.t 4) (.t 8)⟩,
   ⟨some 10, none, .fld 0 (.t 9)⟩,
   ⟨some 11, none, .load none (.t 10)⟩,
   ⟨some 2, none, .mv (.t 11)⟩])
 .ret)) }
theorem is_impl_Vote_last : IsF Try.prog n_impl_Vote_last c_impl_Vote_last := ⟨Try.f65, _, Try.func65, rfl, by decide, rfl, by kernel_rfl, by kernel_rfl⟩
noncomputable def c_impl_NodeOk_1 : FC := { n := 16, res := [⟨none, 3, []⟩], body :=
 (.seq
 (.rg [⟨some 2, none, .box (.t 0)⟩,
   ⟨some 3, none, .mv (.k (.bool false))⟩])
 (.seq
 (.rg [⟨some 4, none, .fld 0 (.t 2)⟩,
   ⟨some 5, none, .load none (.t 4)⟩,
   ⟨some 6, none, .fld 0 (.t 1)⟩,
   ⟨some 7, none, .load none (.t 6)⟩,
   ⟨some 8, none, .bin 0 .eql (.t 5) (.t 7)⟩,
   ⟨some 9, none, .mv (.t 8)⟩,
   ⟨some 10, some (9, true), .load (some 2) (.t 2)⟩,
   ⟨some 11, some (9, true), .call n_impl_Vote_last S_impl_Vote_last [(.t 10, [none, some 4])]⟩,
   ⟨some 12, some (9, true), .fld 2 (.t 1)⟩,
   ⟨some 13, some (9, true), .load none (.t 12)⟩,
   ⟨some 14, some (9, true), .bin 0 .gtr (.t 11) (.t 13)⟩,
   ⟨some 15, none, .pick (.t 9) (.t 14) (.k (.bool false))⟩,
   ⟨some 3, none, .mv (.t 15)⟩])
 .ret)) }
theorem is_impl_NodeOk_1 : IsF Try.prog n_impl_NodeOk_1 c_impl_NodeOk_1 := ⟨Try.f64, _, Try.func64, rfl, by decide, rfl, by kernel_rfl, by kernel_rfl⟩
noncomputable def c_slices_IndexFunc_VoteS (K : FSpec) : FC := { n := 19, res := [⟨none, 4, []⟩], body :=
 (.seq
 (.rg [⟨some 4, none, .mv (.k (.int .i64 0))⟩])
 (.seq
 (.seq
 (.rg [⟨some 6, none, .mv (.t 0)⟩,
   ⟨some 7, none, .len (.t 6)⟩,
   ⟨some 8, none, .mv (.k (.int .i64 0))⟩])
 (.block 0
 (.loop
 (.seq
 (.rg [⟨some 9, none, .bin 0 .lss (.t 8) (.t 7)⟩])
 (.seq
 (.cond (.t 9)
 .skip
 (.exit 0))
 (.seq
 (.block 1
 (.seq
 (.rg [⟨some 10, none, .mv (.t 8)⟩,
   ⟨some 5, none, .mv (.t 10)⟩])
 (.seq
 (.rg [⟨some 11, none, .mv (.t 1)⟩,
   ⟨some 12, none, .mv (.t 0)⟩,
   ⟨some 13, none, .mv (.t 5)⟩,
   ⟨some 14, none, .idx 2 (.t 12) (.t 13)⟩,
   ⟨some 15, none, .load (some 2) (.t 14)⟩,
   ⟨some 16, none, .callv (.t 11) K [(.t 15, [none, some 4])]⟩])
 (.cond (.t 16)
 (.seq
 (.rg [⟨some 17, none, .mv (.t 5)⟩,
   ⟨some 4, none, .mv (.t 17)⟩])
 .ret)
 .skip))))
 (.rg [⟨some 18, none, .bin 0 .add (.t 8) (.k (.int .i64 1))⟩,
   ⟨some 8, none, .mv (.t 18)⟩])))))))
 (.seq
 (.rg [⟨some 4, none, .mv (.k (.int .i64 (-1)))⟩])
 .ret))) }
theorem is_slices_IndexFunc_VoteS (K : FSpec) : IsF Try.prog n_slices_IndexFunc_VoteS (c_slices_IndexFunc_VoteS K) := ⟨Try.f112, _, Try.func112, rfl, by decide, rfl, by kernel_rfl, by kernel_rfl⟩
noncomputable def c_slices_ContainsFunc_VoteS : FC := { n := 9, res := [⟨none, 4, []⟩], body :=
 (.seq
 (.rg [⟨some 4, none, .mv (.k (.bool false))⟩])
 (.seq
 (.rg [⟨some 5, none, .mv (.t 0)⟩,
   ⟨some 6, none, .mv (.t 1)⟩,
   ⟨some 7, none, .call n_slices_IndexFunc_VoteS S_slices_IndexFunc_VoteS [(.t 5, [some 2]), (.t 6, [])]⟩,
   ⟨some 8, none, .bin 0 .geq (.t 7) (.k (.int .i64 0))⟩,
   ⟨some 4, none, .mv (.t 8)⟩])
 .ret)) }
theorem is_slices_ContainsFunc_VoteS : IsF Try.prog n_slices_ContainsFunc_VoteS c_slices_ContainsFunc_VoteS := ⟨Try.f63, _, Try.func63, rfl, by decide, rfl, by kernel_rfl, by kernel_rfl⟩
noncomputable def c_impl_NodeOk : FC := { n := 38, res := [⟨none, 2, []⟩], body :=
 (.seq
 (.rg [⟨some 1, none, .box (.t 0)⟩,
   ⟨some 2, none, .mv (.k (.bool false))⟩])
 (.seq
 (.seq
 (.rg [⟨some 3, none, .fld 0 (.t 1)⟩,
   ⟨some 4, none, .load none (.t 3)⟩,
   ⟨some 5, none, .call n_impl_nodeOk S_impl_nodeOk [(.t 4, [])]⟩,
   ⟨some 6, none, .un .not (.t 5)⟩,
   ⟨some 7, none, .mv (.t 6)⟩,
   ⟨some 8, some (7, false), .fld 1 (.t 1)⟩,
   ⟨some 9, some (7, false), .load none (.t 8)⟩,
   ⟨some 10, some (7, false), .call n_impl_within S_impl_within [(.t 9, []), (.k (.int .i64 0), []), (.k (.int .i64 30), [])]⟩,
   ⟨some 11, some (7, false), .un .not (.t 10)⟩,
   ⟨some 12, none, .pick (.t 7) (.k (.bool true)) (.t 11)⟩,
   ⟨some 13, none, .mv (.t 12)⟩,
   ⟨some 14, some (13, false), .fld 2 (.t 1)⟩,
   ⟨some 15, some (13, false), .load none (.t 14)⟩,
   ⟨some 16, some (13, false), .fld 1 (.t 1)⟩,
   ⟨some 17, some (13, false), .load none (.t 16)⟩,
   ⟨some 18, some (13, false), .call n_impl_within S_impl_within [(.t 15, []), (.k (.int .i64 0), []), (.t 17, [])]⟩,
   ⟨some 19, some (13, false), .un .not (.t 18)⟩,
   ⟨some 20, none, .pick (.t 13) (.k (.bool true)) (.t 19)⟩,
   ⟨some 21, none, .mv (.t 20)⟩,
   ⟨some 22, some (21, false), .fld 3 (.t 1)⟩,
   ⟨some 23, some (21, false), .load none (.t 22)⟩,
   ⟨some 24, some (21, false), .len (.t 23)⟩,
   ⟨some 25, some (21, false), .bin 0 .gtr (.t 24) (.k (.int .i64 80))⟩,
   ⟨some 26, none, .pick (.t 21) (.k (.bool true)) (.t 25)⟩,
   ⟨some 27, none, .mv (.t 26)⟩,
   ⟨some 28, some (27, false), .fld 3 (.t 1)⟩,
   ⟨some 29, some (27, false), .load none (.t 28)⟩,
   ⟨some 30, some (27, false), .call n_impl_VotesOk S_impl_VotesOk [(.t 29, [some 2])]⟩,
   ⟨some 31, some (27, false), .un .not (.t 30)⟩,
   ⟨some 32, none, .pick (.t 27) (.k (.bool true)) (.t 31)⟩])
 (.cond (.t 32)
 (.seq
 (.rg [⟨some 2, none, .mv (.k (.bool false))⟩])
 .ret)
 .skip))
 (.seq
 (.rg [⟨some 33, none, .fld 3 (.t 1)⟩,
   ⟨some 34, none, .load none (.t 33)⟩,
   ⟨some 35, none, .mkfn (.func n_impl_NodeOk_1) [] [.t 1]⟩,
   ⟨some 36, none, .call n_slices_ContainsFunc_VoteS S_slices_ContainsFunc_VoteS [(.t 34, [some 2]), (.t 35, [])]⟩,
   ⟨some 37, none, .un .not (.t 36)⟩,
   ⟨some 2, none, .mv (.t 37)⟩])
 .ret))) }
theorem is_impl_NodeOk : IsF Try.prog n_impl_NodeOk c_impl_NodeOk := ⟨Try.f14, _, Try.func14, rfl, by decide, rfl, by kernel_rfl, by kernel_rfl⟩
noncomputable def c_spec_NodeOk : FC := { n := 66, res := [⟨none, 2, []⟩], body :=
 (.seq
 (.rg [⟨some 1, none, .box (.t 0)⟩,
   ⟨some 2, none, .mv (.k (.bool false))⟩])
 (.seq
 (.seq
 (.rg [⟨some 5, none, .fld 0 (.t 1)⟩,
   ⟨some 6, none, .load none (.t 5)⟩,
   ⟨some 7, none, .call n_spec_l6In S_spec_l6In [(.t 6, []), (.k (.int .i64 1), []), (.k (.int .i64 4), [])]⟩,
   ⟨some 8, none, .un .not (.t 7)⟩,
   ⟨some 9, none, .mv (.t 8)⟩,
   ⟨some 10, some (9, false), .fld 1 (.t 1)⟩,
   ⟨some 11, some (9, false), .load none (.t 10)⟩,
   ⟨some 12, some (9, false), .call n_spec_l6In S_spec_l6In [(.t 11, []), (.k (.int .i64 0), []), (.k (.int .i64 30), [])]⟩,
   ⟨some 13, some (9, false), .un .not (.t 12)⟩,
   ⟨some 14, none, .pick (.t 9) (.k (.bool true)) (.t 13)⟩,
   ⟨some 15, none, .mv (.t 14)⟩,
   ⟨some 16, some (15, false), .fld 2 (.t 1)⟩,
   ⟨some 17, some (15, false), .load none (.t 16)⟩,
   ⟨some 18, some (15, false), .fld 1 (.t 1)⟩,
   ⟨some 19, some (15, false), .load none (.t 18)⟩,
   ⟨some 20, some (15, false), .call n_spec_l6In S_spec_l6In [(.t 17, []), (.k (.int .i64 0), []), (.t 19, [])]⟩,
   ⟨some 21, some (15, false), .un .not (.t 20)⟩,
   ⟨some 22, none, .pick (.t 15) (.k (.bool true)) (.t 21)⟩,
   ⟨some 23, none, .mv (.t 22)⟩,
   ⟨some 24, some (23, false), .fld 3 (.t 1)⟩,
   ⟨some 25, some (23, false), .load none (.t 24)⟩,
   ⟨some 26, some (23, false), .len (.t 25)⟩,
   ⟨some 27, some (23, false), .bin 0 .gtr (.t 26) (.k (.int .i64 80))⟩,
   ⟨some 28, none, .pick (.t 23) (.k (.bool true)) (.t 27)⟩,
   ⟨some 29, none, .mv (.t 28)⟩,
   ⟨some 30, some (29, false), .fld 3 (.t 1)⟩,
   ⟨some 31, some (29, false), .load none (.t 30)⟩,
   ⟨some 32, some (29, false), .call n_spec_VotesOk S_spec_VotesOk [(.t 31, [some 2])]⟩,
   ⟨some 33, some (29, false), .un .not (.t 32)⟩,
   ⟨some 34, none, .pick (.t 29) (.k (.bool true)) (.t 33)⟩])
 (.cond (.t 34)
 (.seq
 (.rg [⟨some 2, none, .mv (.k (.bool false))⟩])
 .ret)
 .skip))
 (.seq
 (.seq
 (.rg [⟨some 3, none, .mv (.k (.int .i64 0))⟩])
 (.block 0
 (.loop
 (.seq
 (.seq
 (.rg [⟨some 35, none, .mv (.t 3)⟩,
   ⟨some 36, none, .fld 3 (.t 1)⟩,
   ⟨some 37, none, .load none (.t 36)⟩,
   ⟨some 38, none, .len (.t 37)⟩,
   ⟨some 39, none, .bin 0 .lss (.t 35) (.t 38)⟩])
 (.cond (.t 39)
 .skip
 (.exit 0)))
 (.seq
 (.block 1
 (.seq
 (.rg [⟨some 42, none, .fld 3 (.t 1)⟩,
   ⟨some 43, none, .load none (.t 42)⟩,
   ⟨some 44, none, .mv (.t 3)⟩,
   ⟨some 45, none, .idx 2 (.t 43) (.t 44)⟩,
   ⟨some 46, none, .load (some 2) (.t 45)⟩,
   ⟨some 4, none, .alloc [.int .i64 0, .slice none 0 0]⟩,
   ⟨none, none, .store 2 (.t 4) (.t 46)⟩])
 (.seq
 (.rg [⟨some 47, none, .fld 0 (.t 4)⟩,
   ⟨some 48, none, .load none (.t 47)⟩,
   ⟨some 49, none, .fld 0 (.t 1)⟩,
   ⟨some 50, none, .load none (.t 49)⟩,
   ⟨some 51, none, .bin 0 .eql (.t 48) (.t 50)⟩,
   ⟨some 52, none, .mv (.t 51)⟩,
   ⟨some 53, some (52, true), .fld 1 (.t 4)⟩,
   ⟨some 54, some (52, true), .load none (.t 53)⟩,
   ⟨some 55, some (52, true), .fld 1 (.t 4)⟩,
   ⟨some 56, some (52, true), .load none (.t 55)⟩,
   ⟨some 57, some (52, true), .len (.t 56)⟩,
   ⟨some 58, some (52, true), .bin 0 .sub (.t 57) (.k (.int .i64 1))⟩,
   ⟨some 59, some (52, true), .idx 4 (.t 54) (.t 58)⟩,
   ⟨some 60, some (52, true), .fld 0 (.t 59)⟩,
   ⟨some 61, some (52, true), .load none (.t 60)⟩,
   ⟨some 62, some (52, true), .fld 2 (.t 1)⟩,
   ⟨some 63, some (52, true), .load none (.t 62)⟩,
   ⟨some 64, some (52, true), .bin 0 .gtr (.t 61) (.t 63)⟩,
   ⟨some 65, none, .pick (.t 52) (.t 64) (.k (.bool false))⟩])
 (.cond (.t 65)
 (.seq
 (.rg [⟨some 2, none, .mv (.k (.bool false))⟩])
 .ret)
 .skip))))
 (.rg [⟨some 40, none, .mv (.t 3)⟩,
   ⟨some 41, none, .bin 0 .add (.t 40) (.k (.int .i64 1))⟩,
   ⟨some 3, none, .mv (.t 41)⟩]))))))
 (.seq
 (.rg [⟨some 2, none, .mv (.k (.bool true))⟩])
 .ret)))) }
theorem is_spec_NodeOk : IsF Try.prog n_spec_NodeOk c_spec_NodeOk := ⟨Try.f78, _, Try.func78, rfl, by decide, rfl, by kernel_rfl, by kernel_rfl⟩
noncomputable def c_impl_VoteLeader : FC := { n := 10, res := [⟨none, 2, []⟩], body :=
 (.seq
 (.rg [⟨some 2, none, .mv (.k (.int .i64 0))⟩])
 (.seq
 (.seq
 (.rg [⟨some 3, none, .mv (.t 0)⟩,
   ⟨some 4, none, .call n_impl_epochOk S_impl_epochOk [(.t 3, [])]⟩,
   ⟨some 5, none, .un .not (.t 4)⟩])
 (.cond (.t 5)
 (.seq
 (.rg [⟨some 2, none, .mv (.k (.int .i64 0))⟩])
 .ret)
 .skip))
 (.seq
 (.rg [⟨some 6, none, .mv (.t 0)⟩,
   ⟨some 7, none, .bin 0 .sub (.t 6) (.k (.int .i64 1))⟩,
   ⟨some 8, none, .bin 0 .rem (.t 7) (.k (.int .i64 4))⟩,
   ⟨some 9, none, .bin 0 .add (.t 8) (.k (.int .i64 1))⟩,
   ⟨some 2, none, .mv (.t 9)⟩])
 .ret))) }
theorem is_impl_VoteLeader : IsF Try.prog n_impl_VoteLeader c_impl_VoteLeader := ⟨Try.f108, _, Try.func108, rfl, by decide, rfl, by kernel_rfl, by kernel_rfl⟩
noncomputable def c_spec_l3Leader : FC := { n := 7, res := [⟨none, 2, []⟩], body :=
 (.seq
 (.rg [⟨some 2, none, .mv (.k (.int .i64 0))⟩])
 (.seq
 (.rg [⟨some 3, none, .mv (.t 0)⟩,
   ⟨some 4, none, .bin 0 .sub (.t 3) (.k (.int .i64 1))⟩,
   ⟨some 5, none, .bin 0 .rem (.t 4) (.k (.int .i64 4))⟩,
   ⟨some 6, none, .bin 0 .add (.t 5) (.k (.int .i64 1))⟩,
   ⟨some 2, none, .mv (.t 6)⟩])
 .ret)) }
theorem is_spec_l3Leader : IsF Try.prog n_spec_l3Leader c_spec_l3Leader := ⟨Try.f130, _, Try.func130, rfl, by decide, rfl, by kernel_rfl, by kernel_rfl⟩
noncomputable def c_impl_Node_may : FC := { n := 13, res := [⟨none, 2, []⟩], body :=
 (.seq
 (.rg [⟨some 1, none, .box (.t 0)⟩,
   ⟨some 2, none, .mv (.k (.bool false))⟩])
 (.seq
 (.rg [⟨some 3, none, .fld 1 (.t 1)⟩,
   ⟨some 4, none, .load none (.t 3)⟩,
   ⟨some 5, none, .bin 0 .gtr (.t 4) (.k (.int .i64 0))⟩,
   ⟨some 6, none, .mv (.t 5)⟩,
   ⟨some 7, some (6, true), .fld 2 (.t 1)⟩,
   ⟨some 8, some (6, true), .load none (.t 7)⟩,
   ⟨some 9, some (6, true), .fld 1 (.t 1)⟩,
   ⟨some 10, some (6, true), .load none (.t 9)⟩,
   ⟨some 11, some (6, true), .bin 0 .neq (.t 8) (.t 10)⟩,
   ⟨some 12, none, .pick (.t 6) (.t 11) (.k (.bool false))⟩,
   ⟨some 2, none, .mv (.t 12)⟩])
 .ret)) }
theorem is_impl_Node_may : IsF Try.prog n_impl_Node_may c_impl_Node_may := ⟨Try.f107, _, Try.func107, rfl, by decide, rfl, by kernel_rfl, by kernel_rfl⟩
end Av
end Go.Proofs.Ytdboofnogabefaa
