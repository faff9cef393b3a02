/- The functions' code in the small language, and that it is theirs. -/
import Derived.Test.YtdboofnogabefaaE0
import Derived.Test.YtdboofnogabefaaD1
import Derived.Test.YtdboofnogabefaaProg
import Derived.KernelRfl
set_option linter.unusedVariables false
namespace Go.Proofs.Ytdboofnogabefaa
namespace Av
noncomputable def c_impl_within : FC := { n := 15, res := [⟨none, 6, []⟩], body :=
 (.seq
 (.rg [⟨some 6, none, .mv (.k (.bool false))⟩])
 (.seq
 (.rg [⟨some 7, none, .mv (.t 0)⟩,
   ⟨some 8, none, .mv (.t 1)⟩,
   ⟨some 9, none, .bin 0 .geq (.t 7) (.t 8)⟩,
   ⟨some 10, none, .mv (.t 9)⟩,
   ⟨some 11, some (10, true), .mv (.t 0)⟩,
   ⟨some 12, some (10, true), .mv (.t 2)⟩,
   ⟨some 13, some (10, true), .bin 0 .leq (.t 11) (.t 12)⟩,
   ⟨some 14, none, .pick (.t 10) (.t 13) (.k (.bool false))⟩,
   ⟨some 6, none, .mv (.t 14)⟩])
 .ret)) }
theorem is_impl_within : IsF Try.prog n_impl_within c_impl_within := ⟨Try.f61, _, Try.func61, rfl, by decide, rfl, by kernel_rfl, by kernel_rfl⟩
noncomputable def c_impl_epochOk : FC := { n := 5, res := [⟨none, 2, []⟩], body :=
 (.seq
 (.rg [⟨some 2, none, .mv (.k (.bool false))⟩])
 (.seq
 (.rg [⟨some 3, none, .mv (.t 0)⟩,
   ⟨some 4, none, .call n_impl_within S_impl_within [(.t 3, []), (.k (.int .i64 1), []), (.k (.int .i64 30), [])]⟩,
   ⟨some 2, none, .mv (.t 4)⟩])
 .ret)) }
theorem is_impl_epochOk : IsF Try.prog n_impl_epochOk c_impl_epochOk := ⟨Try.f120, _, Try.func120, rfl, by decide, rfl, by kernel_rfl, by kernel_rfl⟩
noncomputable def c_impl_nodeOk : FC := { n := 5, res := [⟨none, 2, []⟩], body :=
 (.seq
 (.rg [⟨some 2, none, .mv (.k (.bool false))⟩])
 (.seq
 (.rg [⟨some 3, none, .mv (.t 0)⟩,
   ⟨some 4, none, .call n_impl_within S_impl_within [(.t 3, []), (.k (.int .i64 1), []), (.k (.int .i64 4), [])]⟩,
   ⟨some 2, none, .mv (.t 4)⟩])
 .ret)) }
theorem is_impl_nodeOk : IsF Try.prog n_impl_nodeOk c_impl_nodeOk := ⟨Try.f56, _, Try.func56, rfl, by decide, rfl, by kernel_rfl, by kernel_rfl⟩
noncomputable def c_impl_PayOk : FC := { n := 23, res := [⟨none, 2, []⟩], body :=
 (.seq
 (.rg [⟨some 1, none, .box (.t 0)⟩,
   ⟨some 2, none, .mv (.k (.bool false))⟩])
 (.seq
 (.rg [⟨some 3, none, .fld 0 (.t 1)⟩,
   ⟨some 4, none, .load none (.t 3)⟩,
   ⟨some 5, none, .call n_impl_within S_impl_within [(.t 4, []), (.k (.int .i64 1), []), (.k (.int .i64 3), [])]⟩,
   ⟨some 6, none, .mv (.t 5)⟩,
   ⟨some 7, some (6, true), .fld 1 (.t 1)⟩,
   ⟨some 8, some (6, true), .load none (.t 7)⟩,
   ⟨some 9, some (6, true), .call n_impl_within S_impl_within [(.t 8, []), (.k (.int .i64 1), []), (.k (.int .i64 3), [])]⟩,
   ⟨some 10, none, .pick (.t 6) (.t 9) (.k (.bool false))⟩,
   ⟨some 11, none, .mv (.t 10)⟩,
   ⟨some 12, some (11, true), .fld 0 (.t 1)⟩,
   ⟨some 13, some (11, true), .load none (.t 12)⟩,
   ⟨some 14, some (11, true), .fld 1 (.t 1)⟩,
   ⟨some 15, some (11, true), .load none (.t 14)⟩,
   ⟨some 16, some (11, true), .bin 0 .neq (.t 13) (.t 15)⟩,
   ⟨some 17, none, .pick (.t 11) (.t 16) (.k (.bool false))⟩,
   ⟨some 18, none, .mv (.t 17)⟩,
   ⟨some 19, some (18, true), .fld 2 (.t 1)⟩,
   ⟨some 20, some (18, true), .load none (.t 19)⟩,
   ⟨some 21, some (18, true), .call n_impl_within S_impl_within [(.t 20, []), (.k (.int .i64 1), []), (.k (.int .i64 9), [])]⟩,
   ⟨some 22, none, .pick (.t 18) (.t 21) (.k (.bool false))⟩,
   ⟨some 2, none, .mv (.t 22)⟩])
 .ret)) }
theorem is_impl_PayOk : IsF Try.prog n_impl_PayOk c_impl_PayOk := ⟨Try.f58, _, Try.func58, rfl, by decide, rfl, by kernel_rfl, by kernel_rfl⟩
noncomputable def c_impl_ChainOk : FC := { n := 41, res := [⟨none, 2, []⟩], body :=
 (.seq
 (.rg [⟨some 2, none, .mv (.k (.bool false))⟩])
 (.seq
 (.seq
 (.rg [⟨some 5, none, .mv (.t 0)⟩,
   ⟨some 6, none, .len (.t 5)⟩,
   ⟨some 7, none, .mv (.k (.int .i64 0))⟩])
 (.block 0
 (.loop
 (.seq
 (.rg [⟨some 8, none, .bin 0 .lss (.t 7) (.t 6)⟩])
 (.seq
 (.cond (.t 8)
 .skip
 (.exit 0))
 (.seq
 (.block 1
 (.seq
 (.rg [⟨some 9, none, .mv (.t 7)⟩,
   ⟨some 10, none, .idx 4 (.t 5) (.t 7)⟩,
   ⟨some 11, none, .load (some 4) (.t 10)⟩,
   ⟨some 4, none, .alloc [.int .i64 0, .int .i64 0, .int .i64 0, .int .i64 0]⟩,
   ⟨some 3, none, .mv (.t 9)⟩,
   ⟨none, none, .store 4 (.t 4) (.t 11)⟩])
 (.seq
 (.rg [⟨some 12, none, .fld 0 (.t 4)⟩,
   ⟨some 13, none, .load none (.t 12)⟩,
   ⟨some 14, none, .call n_impl_epochOk S_impl_epochOk [(.t 13, [])]⟩,
   ⟨some 15, none, .un .not (.t 14)⟩,
   ⟨some 16, none, .mv (.t 15)⟩,
   ⟨some 17, some (16, false), .fld 1 (.t 4)⟩,
   ⟨some 18, some (16, false), .load (some 3) (.t 17)⟩,
   ⟨some 19, some (16, false), .call n_impl_PayOk S_impl_PayOk [(.t 18, [])]⟩,
   ⟨some 20, some (16, false), .un .not (.t 19)⟩,
   ⟨some 21, none, .pick (.t 16) (.k (.bool true)) (.t 20)⟩,
   ⟨some 22, none, .mv (.t 21)⟩,
   ⟨some 23, some (22, false), .mv (.t 3)⟩,
   ⟨some 24, some (22, false), .bin 0 .gtr (.t 23) (.k (.int .i64 0))⟩,
   ⟨some 25, some (22, false), .mv (.t 24)⟩,
   ⟨some 26, some (25, true), .mv (.t 0)⟩,
   ⟨some 27, some (25, true), .mv (.t 3)⟩,
   ⟨some 28, some (25, true), .bin 0 .sub (.t 27) (.k (.int .i64 1))⟩,
   ⟨some 29, some (25, true), .idx 4 (.t 26) (.t 28)⟩,
   ⟨some 30, some (25, true), .fld 0 (.t 29)⟩,
   ⟨some 31, some (25, true), .load none (.t 30)⟩,
   ⟨some 32, some (25, true), .fld 0 (.t 4)⟩,
   ⟨some 33, some (25, true), .load none (.t 32)⟩,
   ⟨some 34, some (25, true), .bin 0 .geq (.t 31) (.t 33)⟩,
   ⟨some 35, some (22, false), .pick (.t 25) (.t 34) (.k (.bool false))⟩,
   ⟨some 36, none, .pick (.t 22) (.k (.bool true)) (.t 35)⟩])
 (.cond (.t 36)
 (.seq
 (.rg [⟨some 2, none, .mv (.k (.bool false))⟩])
 .ret)
 .skip))))
 (.rg [⟨some 37, none, .bin 0 .add (.t 7) (.k (.int .i64 1))⟩,
   ⟨some 7, none, .mv (.t 37)⟩])))))))
 (.seq
 (.rg [⟨some 38, none, .mv (.t 0)⟩,
   ⟨some 39, none, .len (.t 38)⟩,
   ⟨some 40, none, .bin 0 .leq (.t 39) (.k (.int .i64 16))⟩,
   ⟨some 2, none, .mv (.t 40)⟩])
 .ret))) }
theorem is_impl_ChainOk : IsF Try.prog n_impl_ChainOk c_impl_ChainOk := ⟨Try.f75, _, Try.func75, rfl, by decide, rfl, by kernel_rfl, by kernel_rfl⟩
noncomputable def c_slices_Equal_ItemS : FC := { n := 26, res := [⟨none, 4, []⟩], body :=
 (.seq
 (.rg [⟨some 4, none, .mv (.k (.bool false))⟩])
 (.seq
 (.seq
 (.rg [⟨some 6, none, .mv (.t 0)⟩,
   ⟨some 7, none, .len (.t 6)⟩,
   ⟨some 8, none, .mv (.t 1)⟩,
   ⟨some 9, none, .len (.t 8)⟩,
   ⟨some 10, none, .bin 0 .neq (.t 7) (.t 9)⟩])
 (.cond (.t 10)
 (.seq
 (.rg [⟨some 4, none, .mv (.k (.bool false))⟩])
 .ret)
 .skip))
 (.seq
 (.seq
 (.rg [⟨some 11, none, .mv (.t 0)⟩,
   ⟨some 12, none, .len (.t 11)⟩,
   ⟨some 13, none, .mv (.k (.int .i64 0))⟩])
 (.block 0
 (.loop
 (.seq
 (.rg [⟨some 14, none, .bin 0 .lss (.t 13) (.t 12)⟩])
 (.seq
 (.cond (.t 14)
 .skip
 (.exit 0))
 (.seq
 (.block 1
 (.seq
 (.rg [⟨some 15, none, .mv (.t 13)⟩,
   ⟨some 5, none, .mv (.t 15)⟩])
 (.seq
 (.rg [⟨some 16, none, .mv (.t 0)⟩,
   ⟨some 17, none, .mv (.t 5)⟩,
   ⟨some 18, none, .idx 4 (.t 16) (.t 17)⟩,
   ⟨some 19, none, .load (some 4) (.t 18)⟩,
   ⟨some 20, none, .mv (.t 1)⟩,
   ⟨some 21, none, .mv (.t 5)⟩,
   ⟨some 22, none, .idx 4 (.t 20) (.t 21)⟩,
   ⟨some 23, none, .load (some 4) (.t 22)⟩,
   ⟨some 24, none, .eqs true 54 4 (.t 19) (.t 23)⟩])
 (.cond (.t 24)
 (.seq
 (.rg [⟨some 4, none, .mv (.k (.bool false))⟩])
 .ret)
 .skip))))
 (.rg [⟨some 25, none, .bin 0 .add (.t 13) (.k (.int .i64 1))⟩,
   ⟨some 13, none, .mv (.t 25)⟩])))))))
 (.seq
 (.rg [⟨some 4, none, .mv (.k (.bool true))⟩])
 .ret)))) }
theorem is_slices_Equal_ItemS : IsF Try.prog n_slices_Equal_ItemS c_slices_Equal_ItemS := ⟨Try.f151, _, Try.func151, rfl, by decide, rfl, by kernel_rfl, by kernel_rfl⟩
noncomputable def c_impl_Vote_same : FC := { n := 17, res := [⟨none, 4, []⟩], body :=
 (.seq
 (.rg [⟨some 2, none, .box (.t 0)⟩,
   ⟨some 3, none, .box (.t 1)⟩,
   ⟨some 4, none, .mv (.k (.bool false))⟩])
 (.seq
 (.rg [⟨some 5, none, .fld 0 (.t 2)⟩,
   ⟨some 6, none, .load none (.t 5)⟩,
   ⟨some 7, none, .fld 0 (.t 3)⟩,
   ⟨some 8, none, .load none (.t 7)⟩,
   ⟨some 9, none, .bin 0 .eql (.t 6) (.t 8)⟩,
   ⟨some 10, none, .mv (.t 9)⟩,
   ⟨some 11, some (10, true), .fld 1 (.t 2)⟩,
   ⟨some 12, some (10, true), .load none (.t 11)⟩,
   ⟨some 13, some (10, true), .fld 1 (.t 3)⟩,
   ⟨some 14, some (10, true), .load none (.t 13)⟩,
   ⟨some 15, some (10, true), .call n_slices_Equal_ItemS S_slices_Equal_ItemS [(.t 12, [some 4]), (.t 14, [some 4])]⟩,
   ⟨some 16, none, .pick (.t 10) (.t 15) (.k (.bool false))⟩,
   ⟨some 4, none, .mv (.t 16)⟩])
 .ret)) }
theorem is_impl_Vote_same : IsF Try.prog n_impl_Vote_same c_impl_Vote_same := ⟨Try.f141, _, Try.func141, rfl, by decide, rfl, by kernel_rfl, by kernel_rfl⟩
noncomputable def c_slices_IndexFunc_votes (K : FSpec) : FC := { n := 19, res := [⟨none, 4, []⟩], body :=
 (.seq
 (.rg [⟨some 4, none, .mv (.k (.int .i64 0))⟩])
 (.seq
 (.seq
 (.rg [⟨some 6, none, .mv (.t 0)⟩,
   ⟨some 7, none, .len (.t 6)⟩,
   ⟨some 8, none, .mv (.k (.int .i64 0))⟩])
 (.block 0
 (.loop
 (.seq
 (.rg [⟨some 9, none, .bin 0 .lss (.t 8) (.t 7)⟩])
 (.seq
 (.cond (.t 9)
 .skip
 (.exit 0))
 (.seq
 (.block 1
 (.seq
 (.rg [⟨some 10, none, .mv (.t 8)⟩,
   ⟨some 5, none, .mv (.t 10)⟩])
 (.seq
 (.rg [⟨some 11, none, .mv (.t 1)⟩,
   ⟨some 12, none, .mv (.t 0)⟩,
   ⟨some 13, none, .mv (.t 5)⟩,
   ⟨some 14, none, .idx 2 (.t 12) (.t 13)⟩,
   ⟨some 15, none, .load (some 2) (.t 14)⟩,
   ⟨some 16, none, .callv (.t 11) K [(.t 15, [none, some 4])]⟩])
 (.cond (.t 16)
 (.seq
 (.rg [⟨some 17, none, .mv (.t 5)⟩,
   ⟨some 4, none, .mv (.t 17)⟩])
 .ret)
 .skip))))
 (.rg [⟨some 18, none, .bin 0 .add (.t 8) (.k (.int .i64 1))⟩,
   ⟨some 8, none, .mv (.t 18)⟩])))))))
 (.seq
 (.rg [⟨some 4, none, .mv (.k (.int .i64 (-1)))⟩])
 .ret))) }
theorem is_slices_IndexFunc_votes (K : FSpec) : IsF Try.prog n_slices_IndexFunc_votes (c_slices_IndexFunc_votes K) := ⟨Try.f158, _, Try.func158, rfl, by decide, rfl, by kernel_rfl, by kernel_rfl⟩
noncomputable def c_slices_ContainsFunc_votes : FC := { n := 9, res := [⟨none, 4, []⟩], body :=
 (.seq
 (.rg [⟨some 4, none, .mv (.k (.bool false))⟩])
 (.seq
 (.rg [⟨some 5, none, .mv (.t 0)⟩,
   ⟨some 6, none, .mv (.t 1)⟩,
   ⟨some 7, none, .call n_slices_IndexFunc_votes S_slices_IndexFunc_votes [(.t 5, [some 2]), (.t 6, [])]⟩,
   ⟨some 8, none, .bin 0 .geq (.t 7) (.k (.int .i64 0))⟩,
   ⟨some 4, none, .mv (.t 8)⟩])
 .ret)) }
theorem is_slices_ContainsFunc_votes : IsF Try.prog n_slices_ContainsFunc_votes c_slices_ContainsFunc_votes := ⟨Try.f140, _, Try.func140, rfl, by decide, rfl, by kernel_rfl, by kernel_rfl⟩
noncomputable def c_impl_votes_has : FC := { n := 9, res := [⟨none, 4, []⟩], body :=
 (.seq
 (.rg [⟨some 3, none, .box (.t 1)⟩,
   ⟨some 4, none, .mv (.k (.bool false))⟩])
 (.seq
 (.rg [⟨some 5, none, .mv (.t 0)⟩,
   ⟨some 6, none, .load (some 2) (.t 3)⟩,
   ⟨some 7, none, .mkfn (.func n_impl_Vote_same) [.t 6] []⟩,
   ⟨some 8, none, .call n_slices_ContainsFunc_votes S_slices_ContainsFunc_votes [(.t 5, [some 2]), (.t 7, [])]⟩,
   ⟨some 4, none, .mv (.t 8)⟩])
 .ret)) }
theorem is_impl_votes_has : IsF Try.prog n_impl_votes_has c_impl_votes_has := ⟨Try.f111, _, Try.func111, rfl, by decide, rfl, by kernel_rfl, by kernel_rfl⟩
noncomputable def c_impl_VoteOk : FC := { n := 17, res := [⟨none, 2, []⟩], body :=
 (.seq
 (.rg [⟨some 1, none, .box (.t 0)⟩,
   ⟨some 2, none, .mv (.k (.bool false))⟩])
 (.seq
 (.rg [⟨some 3, none, .fld 0 (.t 1)⟩,
   ⟨some 4, none, .load none (.t 3)⟩,
   ⟨some 5, none, .call n_impl_nodeOk S_impl_nodeOk [(.t 4, [])]⟩,
   ⟨some 6, none, .mv (.t 5)⟩,
   ⟨some 7, some (6, true), .fld 1 (.t 1)⟩,
   ⟨some 8, some (6, true), .load none (.t 7)⟩,
   ⟨some 9, some (6, true), .len (.t 8)⟩,
   ⟨some 10, some (6, true), .bin 0 .gtr (.t 9) (.k (.int .i64 0))⟩,
   ⟨some 11, none, .pick (.t 6) (.t 10) (.k (.bool false))⟩,
   ⟨some 12, none, .mv (.t 11)⟩,
   ⟨some 13, some (12, true), .fld 1 (.t 1)⟩,
   ⟨some 14, some (12, true), .load none (.t 13)⟩,
   ⟨some 15, some (12, true), .call n_impl_ChainOk S_impl_ChainOk [(.t 14, [some 4])]⟩,
   ⟨some 16, none, .pick (.t 12) (.t 15) (.k (.bool false))⟩,
   ⟨some 2, none, .mv (.t 16)⟩])
 .ret)) }
theorem is_impl_VoteOk : IsF Try.prog n_impl_VoteOk c_impl_VoteOk := ⟨Try.f110, _, Try.func110, rfl, by decide, rfl, by kernel_rfl, by kernel_rfl⟩
noncomputable def c_impl_VotesOk : FC := { n := 23, res := [⟨none, 2, []⟩], body :=
 (.seq
 (.rg [⟨some 2, none, .mv (.k (.bool false))⟩])
 (.seq
 (.seq
 (.rg [⟨some 5, none, .mv (.t 0)⟩,
   ⟨some 6, none, .len (.t 5)⟩,
   ⟨some 7, none, .mv (.k (.int .i64 0))⟩])
 (.block 0
 (.loop
 (.seq
 (.rg [⟨some 8, none, .bin 0 .lss (.t 7) (.t 6)⟩])
 (.seq
 (.cond (.t 8)
 .skip
 (.exit 0))
 (.seq
 (.block 1
 (.seq
 (.rg [⟨some 9, none, .mv (.t 7)⟩,
   ⟨some 10, none, .idx 2 (.t 5) (.t 7)⟩,
   ⟨some 11, none, .load (some 2) (.t 10)⟩,
   ⟨some 4, none, .alloc [.int .i64 0, .slice none 0 0]⟩,
   ⟨some 3, none, .mv (.t 9)⟩,
   ⟨none, none, .store 2 (.t 4) (.t 11)⟩])
 (.seq
 (.rg [⟨some 12, none, .load (some 2) (.t 4)⟩,
   ⟨some 13, none, .call n_impl_VoteOk S_impl_VoteOk [(.t 12, [none, some 4])]⟩,
   ⟨some 14, none, .un .not (.t 13)⟩,
   ⟨some 15, none, .mv (.t 14)⟩,
   ⟨some 16, some (15, false), .mv (.t 0)⟩,
   ⟨some 17, some (15, false), .mv (.t 3)⟩,
   ⟨some 18, some (15, false), .slc 2 (.t 16) none (some (.t 17)) none⟩,
   ⟨some 19, some (15, false), .load (some 2) (.t 4)⟩,
   ⟨some 20, some (15, false), .call n_impl_votes_has S_impl_votes_has [(.t 18, [some 2]), (.t 19, [none, some 4])]⟩,
   ⟨some 21, none, .pick (.t 15) (.k (.bool true)) (.t 20)⟩])
 (.cond (.t 21)
 (.seq
 (.rg [⟨some 2, none, .mv (.k (.bool false))⟩])
 .ret)
 .skip))))
 (.rg [⟨some 22, none, .bin 0 .add (.t 7) (.k (.int .i64 1))⟩,
   ⟨some 7, none, .mv (.t 22)⟩])))))))
 (.seq
 (.rg [⟨some 2, none, .mv (.k (.bool true))⟩])
 .ret))) }
theorem is_impl_VotesOk : IsF Try.prog n_impl_VotesOk c_impl_VotesOk := ⟨Try.f62, _, Try.func62, rfl, by decide, rfl, by kernel_rfl, by kernel_rfl⟩
noncomputable def c_impl_votes_voters : FC := { n := 27, res := [⟨none, 4, [some 1]⟩], body :=
 (.seq
 (.rg [⟨some 4, none, .mv (.k (.slice none 0 0))⟩])
 (.seq
 (.rg [⟨some 7, none, .mksl 3 1 8 [.int .i64 0] (.k (.int .i64 0)) (.k (.int .i64 4))⟩,
   ⟨some 5, none, .mv (.t 7)⟩])
 (.seq
 (.seq
 (.rg [⟨some 6, none, .mv (.k (.int .i64 1))⟩])
 (.block 0
 (.loop
 (.seq
 (.seq
 (.rg [⟨some 8, none, .mv (.t 6)⟩,
   ⟨some 9, none, .bin 0 .leq (.t 8) (.k (.int .i64 4))⟩])
 (.cond (.t 9)
 .skip
 (.exit 0)))
 (.seq
 (.block 1
 (.seq
 (.rg [⟨some 12, none, .mv (.t 0)⟩,
   ⟨some 13, none, .mv (.t 6)⟩,
   ⟨some 14, none, .mv (.t 1)⟩,
   ⟨some 15, none, .build [.int .i64 0, .slice none 0 0] [(0, 1, .t 13), (1, 1, .t 14)]⟩,
   ⟨some 16, none, .call n_impl_votes_has S_impl_votes_has [(.t 12, [some 2]), (.t 15, [none, some 4])]⟩])
 (.cond (.t 16)
 (.rg [⟨some 17, none, .mv (.t 5)⟩,
   ⟨some 18, none, .mv (.t 6)⟩,
   ⟨some 19, none, .bsl 3 1 [.t 18]⟩,
   ⟨some 20, none, .app 3 1 8 [.int .i64 0] (.t 17) (.t 19)⟩,
   ⟨some 5, none, .mv (.t 20)⟩])
 .skip)))
 (.rg [⟨some 10, none, .mv (.t 6)⟩,
   ⟨some 11, none, .bin 0 .add (.t 10) (.k (.int .i64 1))⟩,
   ⟨some 6, none, .mv (.t 11)⟩]))))))
 (.seq
 (.frz 5 (.rg [⟨some 21, none, .mv (.t 5)⟩,
   ⟨some 22, none, .mv (.t 5)⟩,
   ⟨some 23, none, .len (.t 22)⟩,
   ⟨some 24, none, .mv (.t 5)⟩,
   ⟨some 25, none, .len (.t 24)⟩,
   ⟨some 26, none, .slc 1 (.t 21) none (some (.t 23)) (some (.t 25))⟩,
   ⟨some 4, none, .mv (.t 26)⟩]))
 .ret)))) }
theorem is_impl_votes_voters : IsF Try.prog n_impl_votes_voters c_impl_votes_voters := ⟨Try.f87, _, Try.func87, rfl, by decide, rfl, by kernel_rfl, by kernel_rfl⟩
noncomputable def c_impl_votes_sure : FC := { n := 19, res := [⟨none, 4, []⟩], body :=
 (.seq
 (.rg [⟨some 4, none, .mv (.k (.bool false))⟩])
 (.seq
 (.seq
 (.rg [⟨some 5, none, .mv (.k (.int .i64 1))⟩])
 (.block 0
 (.loop
 (.seq
 (.seq
 (.rg [⟨some 6, none, .mv (.t 5)⟩,
   ⟨some 7, none, .mv (.t 1)⟩,
   ⟨some 8, none, .len (.t 7)⟩,
   ⟨some 9, none, .bin 0 .leq (.t 6) (.t 8)⟩])
 (.cond (.t 9)
 .skip
 (.exit 0)))
 (.seq
 (.block 1
 (.seq
 (.rg [⟨some 12, none, .mv (.t 0)⟩,
   ⟨some 13, none, .mv (.t 1)⟩,
   ⟨some 14, none, .mv (.t 5)⟩,
   ⟨some 15, none, .slc 4 (.t 13) none (some (.t 14)) none⟩,
   ⟨some 16, none, .call n_impl_votes_voters S_impl_votes_voters [(.t 12, [some 2]), (.t 15, [some 4])]⟩,
   ⟨some 17, none, .len (.t 16)⟩,
   ⟨some 18, none, .bin 0 .lss (.t 17) (.k (.int .i64 3))⟩])
 (.cond (.t 18)
 (.seq
 (.rg [⟨some 4, none, .mv (.k (.bool false))⟩])
 .ret)
 .skip)))
 (.rg [⟨some 10, none, .mv (.t 5)⟩,
   ⟨some 11, none, .bin 0 .add (.t 10) (.k (.int .i64 1))⟩,
   ⟨some 5, none, .mv (.t 11)⟩]))))))
 (.seq
 (.rg [⟨some 4, none, .mv (.k (.bool true))⟩])
 .ret))) }
theorem is_impl_votes_sure : IsF Try.prog n_impl_votes_sure c_impl_votes_sure := ⟨Try.f138, _, Try.func138, rfl, by decide, rfl, by kernel_rfl, by kernel_rfl⟩
noncomputable def c_slices_Clip_ItemS : FC := { n := 9, res := [⟨none, 2, [some 4]⟩], body :=
 (.seq
 (.rg [⟨some 2, none, .mv (.k (.slice none 0 0))⟩])
 (.seq
 (.rg [⟨some 3, none, .mv (.t 0)⟩,
   ⟨some 4, none, .mv (.t 0)⟩,
   ⟨some 5, none, .len (.t 4)⟩,
   ⟨some 6, none, .mv (.t 0)⟩,
   ⟨some 7, none, .len (.t 6)⟩,
   ⟨some 8, none, .slc 4 (.t 3) none (some (.t 5)) (some (.t 7))⟩,
   ⟨some 2, none, .mv (.t 8)⟩])
 .ret)) }
theorem is_slices_Clip_ItemS : IsF Try.prog n_slices_Clip_ItemS c_slices_Clip_ItemS := ⟨Try.f118, _, Try.func118, rfl, by decide, rfl, by kernel_rfl, by kernel_rfl⟩
noncomputable def c_slices_Clone_ItemS : FC := { n := 8, res := [⟨none, 2, [some 4]⟩], body :=
 (.seq
 (.rg [⟨some 2, none, .mv (.k (.slice none 0 0))⟩])
 (.seq
 (.seq
 (.rg [⟨some 3, none, .mv (.t 0)⟩,
   ⟨some 4, none, .bin 3 .eql (.t 3) (.k (.slice none 0 0))⟩])
 (.cond (.t 4)
 (.seq
 (.rg [⟨some 2, none, .mv (.k (.slice none 0 0))⟩])
 .ret)
 .skip))
 (.seq
 (.rg [⟨some 5, none, .bsl 54 4 []⟩,
   ⟨some 6, none, .mv (.t 0)⟩,
   ⟨some 7, none, .app 54 4 32 [.int .i64 0, .int .i64 0, .int .i64 0, .int .i64 0] (.t 5) (.t 6)⟩,
   ⟨some 2, none, .mv (.t 7)⟩])
 .ret))) }
theorem is_slices_Clone_ItemS : IsF Try.prog n_slices_Clone_ItemS c_slices_Clone_ItemS := ⟨Try.f119, _, Try.func119, rfl, by decide, rfl, by kernel_rfl, by kernel_rfl⟩
noncomputable def c_impl_copied : FC := { n := 6, res := [⟨none, 2, [some 4]⟩], body :=
 (.seq
 (.rg [⟨some 2, none, .mv (.k (.slice none 0 0))⟩])
 (.seq
 (.rg [⟨some 3, none, .mv (.t 0)⟩,
   ⟨some 4, none, .call n_slices_Clone_ItemS S_slices_Clone_ItemS [(.t 3, [some 4])]⟩,
   ⟨some 5, none, .call n_slices_Clip_ItemS S_slices_Clip_ItemS [(.t 4, [some 4])]⟩,
   ⟨some 2, none, .mv (.t 5)⟩])
 .ret)) }
theorem is_impl_copied : IsF Try.prog n_impl_copied c_impl_copied := ⟨Try.f71, _, Try.func71, rfl, by decide, rfl, by kernel_rfl, by kernel_rfl⟩
noncomputable def c_impl_votes_all_1 : FC := { n := 8, res := [⟨none, 3, []⟩], body :=
 (.seq
 (.rg [⟨some 3, none, .mv (.k (.bool false))⟩])
 (.seq
 (.rg [⟨some 4, none, .mv (.t 0)⟩,
   ⟨some 5, none, .fld 1 (.t 1)⟩,
   ⟨some 6, none, .load none (.t 5)⟩,
   ⟨some 7, none, .call n_slices_Equal_ItemS S_slices_Equal_ItemS [(.t 4, [some 4]), (.t 6, [some 4])]⟩,
   ⟨some 3, none, .mv (.t 7)⟩])
 .ret)) }
theorem is_impl_votes_all_1 : IsF Try.prog n_impl_votes_all_1 c_impl_votes_all_1 := ⟨Try.f150, _, Try.func150, rfl, by decide, rfl, by kernel_rfl, by kernel_rfl⟩
noncomputable def c_slices_IndexFunc_ISS (K : FSpec) : FC := { n := 19, res := [⟨none, 4, []⟩], body :=
 (.seq
 (.rg [⟨some 4, none, .mv (.k (.int .i64 0))⟩])
 (.seq
 (.seq
 (.rg [⟨some 6, none, .mv (.t 0)⟩,
   ⟨some 7, none, .len (.t 6)⟩,
   ⟨some 8, none, .mv (.k (.int .i64 0))⟩])
 (.block 0
 (.loop
 (.seq
 (.rg [⟨some 9, none, .bin 0 .lss (.t 8) (.t 7)⟩])
 (.seq
 (.cond (.t 9)
 .skip
 (.exit 0))
 (.seq
 (.block 1
 (.seq
 (.rg [⟨some 10, none, .mv (.t 8)⟩,
   ⟨some 5, none, .mv (.t 10)⟩])
 (.seq
 (.rg [⟨some 11, none, .mv (.t 1)⟩,
   ⟨some 12, none, .mv (.t 0)⟩,
   ⟨some 13, none, .mv (.t 5)⟩,
   ⟨some 14, none, .idx 1 (.t 12) (.t 13)⟩,
   ⟨some 15, none, .load none (.t 14)⟩,
   ⟨some 16, none, .callv (.t 11) K [(.t 15, [some 4])]⟩])
 (.cond (.t 16)
 (.seq
 (.rg [⟨some 17, none, .mv (.t 5)⟩,
   ⟨some 4, none, .mv (.t 17)⟩])
 .ret)
 .skip))))
 (.rg [⟨some 18, none, .bin 0 .add (.t 8) (.k (.int .i64 1))⟩,
   ⟨some 8, none, .mv (.t 18)⟩])))))))
 (.seq
 (.rg [⟨some 4, none, .mv (.k (.int .i64 (-1)))⟩])
 .ret))) }
theorem is_slices_IndexFunc_ISS (K : FSpec) : IsF Try.prog n_slices_IndexFunc_ISS (c_slices_IndexFunc_ISS K) := ⟨Try.f163, _, Try.func163, rfl, by decide, rfl, by kernel_rfl, by kernel_rfl⟩
noncomputable def c_slices_ContainsFunc_ISS : FC := { n := 9, res := [⟨none, 4, []⟩], body :=
 (.seq
 (.rg [⟨some 4, none, .mv (.k (.bool false))⟩])
 (.seq
 (.rg [⟨some 5, none, .mv (.t 0)⟩,
   ⟨some 6, none, .mv (.t 1)⟩,
   ⟨some 7, none, .call n_slices_IndexFunc_ISS S_slices_IndexFunc_ISS [(.t 5, [some 1]), (.t 6, [])]⟩,
   ⟨some 8, none, .bin 0 .geq (.t 7) (.k (.int .i64 0))⟩,
   ⟨some 4, none, .mv (.t 8)⟩])
 .ret)) }
theorem is_slices_ContainsFunc_ISS : IsF Try.prog n_slices_ContainsFunc_ISS c_slices_ContainsFunc_ISS := ⟨Try.f149, _, Try.func149, rfl, by decide, rfl, by kernel_rfl, by kernel_rfl⟩
noncomputable def c_slices_Clip_ISS : FC := { n := 9, res := [⟨none, 2, [some 1]⟩], body :=
 (.seq
 (.rg [⟨some 2, none, .mv (.k (.slice none 0 0))⟩])
 (.seq
 (.rg [⟨some 3, none, .mv (.t 0)⟩,
   ⟨some 4, none, .mv (.t 0)⟩,
   ⟨some 5, none, .len (.t 4)⟩,
   ⟨some 6, none, .mv (.t 0)⟩,
   ⟨some 7, none, .len (.t 6)⟩,
   ⟨some 8, none, .slc 1 (.t 3) none (some (.t 5)) (some (.t 7))⟩,
   ⟨some 2, none, .mv (.t 8)⟩])
 .ret)) }
theorem is_slices_Clip_ISS : IsF Try.prog n_slices_Clip_ISS c_slices_Clip_ISS := ⟨Try.f152, _, Try.func152, rfl, by decide, rfl, by kernel_rfl, by kernel_rfl⟩
noncomputable def c_impl_votes_all : FC := { n := 35, res := [⟨none, 2, [some 1]⟩], body :=
 (.seq
 (.rg [⟨some 2, none, .mv (.k (.slice none 0 0))⟩])
 (.seq
 (.rg [⟨some 7, none, .bsl0 54 4⟩,
   ⟨some 8, none, .bsl 30 1 [.t 7]⟩,
   ⟨some 3, none, .mv (.t 8)⟩])
 (.seq
 (.seq
 (.rg [⟨some 9, none, .mv (.t 0)⟩,
   ⟨some 10, none, .len (.t 9)⟩,
   ⟨some 11, none, .mv (.k (.int .i64 0))⟩])
 (.block 0
 (.loop
 (.seq
 (.rg [⟨some 12, none, .bin 0 .lss (.t 11) (.t 10)⟩])
 (.seq
 (.cond (.t 12)
 .skip
 (.exit 0))
 (.seq
 (.block 1
 (.seq
 (.rg [⟨some 13, none, .idx 2 (.t 9) (.t 11)⟩,
   ⟨some 14, none, .load (some 2) (.t 13)⟩,
   ⟨some 5, none, .alloc [.int .i64 0, .slice none 0 0]⟩,
   ⟨none, none, .store 2 (.t 5) (.t 14)⟩])
 (.seq
 (.rg [⟨some 15, none, .mv (.t 3)⟩,
   ⟨some 16, none, .mkfn (.func n_impl_votes_all_1) [] [.t 5]⟩,
   ⟨some 17, none, .call n_slices_ContainsFunc_ISS S_slices_ContainsFunc_ISS [(.t 15, [some 1]), (.t 16, [])]⟩,
   ⟨some 6, none, .mv (.t 17)⟩])
 (.seq
 (.rg [⟨some 18, none, .mv (.t 6)⟩,
   ⟨some 19, none, .un .not (.t 18)⟩,
   ⟨some 20, none, .mv (.t 19)⟩,
   ⟨some 21, some (20, true), .mv (.t 0)⟩,
   ⟨some 22, some (20, true), .fld 1 (.t 5)⟩,
   ⟨some 23, some (20, true), .load none (.t 22)⟩,
   ⟨some 24, some (20, true), .call n_impl_votes_sure S_impl_votes_sure [(.t 21, [some 2]), (.t 23, [some 4])]⟩,
   ⟨some 25, none, .pick (.t 20) (.t 24) (.k (.bool false))⟩])
 (.cond (.t 25)
 (.rg [⟨some 26, none, .mv (.t 3)⟩,
   ⟨some 27, none, .fld 1 (.t 5)⟩,
   ⟨some 28, none, .load none (.t 27)⟩,
   ⟨some 29, none, .call n_impl_copied S_impl_copied [(.t 28, [some 4])]⟩,
   ⟨some 30, none, .bsl 30 1 [.t 29]⟩,
   ⟨some 31, none, .app 30 1 24 [.slice none 0 0] (.t 26) (.t 30)⟩,
   ⟨some 3, none, .mv (.t 31)⟩])
 .skip)))))
 (.rg [⟨some 32, none, .bin 0 .add (.t 11) (.k (.int .i64 1))⟩,
   ⟨some 11, none, .mv (.t 32)⟩])))))))
 (.seq
 (.frz 3 (.rg [⟨some 33, none, .mv (.t 3)⟩,
   ⟨some 34, none, .call n_slices_Clip_ISS S_slices_Clip_ISS [(.t 33, [some 1])]⟩,
   ⟨some 2, none, .mv (.t 34)⟩]))
 .ret)))) }
theorem is_impl_votes_all : IsF Try.prog n_impl_votes_all c_impl_votes_all := ⟨Try.f128, _, Try.func128, rfl, by decide, rfl, by kernel_rfl, by kernel_rfl⟩
theorem eqI : EqInts Try.prog 54 4 := eqInts_item (by kernel_rfl)
theorem mixed : Try.prog.follows .mixedOrders = true := by kernel_rfl
end Av
end Go.Proofs.Ytdboofnogabefaa
