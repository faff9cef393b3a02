/- The functions' code in the small language, and that it is theirs. -/
import Derived.Test.YtlbdoamidblkaaaV0
import Derived.Test.YtlbdoamidblkaaaD1
import Derived.Test.YtlbdoamidblkaaaProg
import Derived.KernelRfl
set_option linter.unusedVariables false
namespace Go.Proofs.Ytlbdoamidblkaaa
namespace Av
noncomputable def c_impl_Vote_last : FC := { n := 12, res := [⟨none, 2, []⟩], body :=
 (.seq
 (.rg [⟨some 1, none, .box (.t 0)⟩,
   ⟨some 2, none, .mv (.k (.int .i64 0))⟩])
 (.seq
 (.rg [⟨some 3, none, .fld 1 (.t 1)⟩,
   ⟨some 4, none, .load none (.t 3)⟩,
   ⟨some 5, none, .fld 1 (.t 1)⟩,
   ⟨some 6, none, .load none (.t 5)⟩,
   ⟨some 7, none, .len (.t 6)⟩,
   ⟨some 8, none, .bin 0 .sub (.t 7) (.k (.int .i64 1))⟩,
   ⟨some 9, none, .idx 4 (.t 4) (.t 8)⟩,
   ⟨some 10, none, .fld 0 (.t 9)⟩,
   ⟨some 11, none, .load none (.t 10)⟩,
   ⟨some 2, none, .mv (.t 11)⟩])
 .ret)) }
theorem is_impl_Vote_last : IsF Try.prog n_impl_Vote_last c_impl_Vote_last := ⟨Try.f118, _, Try.func118, rfl, by decide, rfl, by kernel_rfl, by kernel_rfl⟩
noncomputable def c_impl_NodeOk_1 : FC := { n := 16, res := [⟨none, 3, []⟩], body :=
 (.seq
 (.rg [⟨some 2, none, .box (.t 0)⟩,
   ⟨some 3, none, .mv (.k (.bool false))⟩])
 (.seq
 (.rg [⟨some 4, none, .fld 0 (.t 2)⟩,
   ⟨some 5, none, .load none (.t 4)⟩,
   ⟨some 6, none, .fld 0 (.t 1)⟩,
   ⟨some 7, none, .load none (.t 6)⟩,
   ⟨some 8, none, .bin 0 .eql (.t 5) (.t 7)⟩,
   ⟨some 9, none, .mv (.t 8)⟩,
   ⟨some 10, some (9, true), .load (some 2) (.t 2)⟩,
   ⟨some 11, some (9, true), .call n_impl_Vote_last S_impl_Vote_last [(.t 10, [none, some 4])]⟩,
   ⟨some 12, some (9, true), .fld 2 (.t 1)⟩,
   ⟨some 13, some (9, true), .load none (.t 12)⟩,
   ⟨some 14, some (9, true), .bin 0 .gtr (.t 11) (.t 13)⟩,
   ⟨some 15, none, .pick (.t 9) (.t 14) (.k (.bool false))⟩,
   ⟨some 3, none, .mv (.t 15)⟩])
 .ret)) }
theorem is_impl_NodeOk_1 : IsF Try.prog n_impl_NodeOk_1 c_impl_NodeOk_1 := ⟨Try.f117, _, Try.func117, rfl, by decide, rfl, by kernel_rfl, by kernel_rfl⟩
noncomputable def c_slices_IndexFunc_VoteS (K : FSpec) : FC := { n := 19, res := [⟨none, 4, []⟩], body :=
 (.seq
 (.rg [⟨some 4, none, .mv (.k (.int .i64 0))⟩])
 (.seq
 (.seq
 (.rg [⟨some 6, none, .mv (.t 0)⟩,
   ⟨some 7, none, .len (.t 6)⟩,
   ⟨some 8, none, .mv (.k (.int .i64 0))⟩])
 (.block 0
 (.loop
 (.seq
 (.rg [⟨some 9, none, .bin 0 .lss (.t 8) (.t 7)⟩])
 (.seq
 (.cond (.t 9)
 .skip
 (.exit 0))
 (.seq
 (.block 1
 (.seq
 (.rg [⟨some 10, none, .mv (.t 8)⟩,
   ⟨some 5, none, .mv (.t 10)⟩])
 (.seq
 (.rg [⟨some 11, none, .mv (.t 1)⟩,
   ⟨some 12, none, .mv (.t 0)⟩,
   ⟨some 13, none, .mv (.t 5)⟩,
   ⟨some 14, none, .idx 2 (.t 12) (.t 13)⟩,
   ⟨some 15, none, .load (some 2) (.t 14)⟩,
   ⟨some 16, none, .callv (.t 11) K [(.t 15, [none, some 4])]⟩])
 (.cond (.t 16)
 (.seq
 (.rg [⟨some 17, none, .mv (.t 5)⟩,
   ⟨some 4, none, .mv (.t 17)⟩])
 .ret)
 .skip))))
 (.rg [⟨some 18, none, .bin 0 .add (.t 8) (.k (.int .i64 1))⟩,
   ⟨some 8, none, .mv (.t 18)⟩])))))))
 (.seq
 (.rg [⟨some 4, none, .mv (.k (.int .i64 (-1)))⟩])
 .ret))) }
theorem is_slices_IndexFunc_VoteS (K : FSpec) : IsF Try.prog n_slices_IndexFunc_VoteS (c_slices_IndexFunc_VoteS K) := ⟨Try.f90, _, Try.func90, rfl, by decide, rfl, by kernel_rfl, by kernel_rfl⟩
noncomputable def c_slices_ContainsFunc_VoteS : FC := { n := 9, res := [⟨none, 4, []⟩], body :=
 (.seq
 (.rg [⟨some 4, none, .mv (.k (.bool false))⟩])
 (.seq
 (.rg [⟨some 5, none, .mv (.t 0)⟩,
   ⟨some 6, none, .mv (.t 1)⟩,
   ⟨some 7, none, .call n_slices_IndexFunc_VoteS S_slices_IndexFunc_VoteS [(.t 5, [some 2]), (.t 6, [])]⟩,
   ⟨some 8, none, .bin 0 .geq (.t 7) (.k (.int .i64 0))⟩,
   ⟨some 4, none, .mv (.t 8)⟩])
 .ret)) }
theorem is_slices_ContainsFunc_VoteS : IsF Try.prog n_slices_ContainsFunc_VoteS c_slices_ContainsFunc_VoteS := ⟨Try.f42, _, Try.func42, rfl, by decide, rfl, by kernel_rfl, by kernel_rfl⟩
noncomputable def c_impl_NodeOk : FC := { n := 38, res := [⟨none, 2, []⟩], body :=
 (.seq
 (.rg [⟨some 1, none, .box (.t 0)⟩,
   ⟨some 2, none, .mv (.k (.bool false))⟩])
 (.seq
 (.seq
 (.rg [⟨some 3, none, .fld 0 (.t 1)⟩,
   ⟨some 4, none, .load none (.t 3)⟩,
   ⟨some 5, none, .call n_impl_nodeOk S_impl_nodeOk [(.t 4, [])]⟩,
   ⟨some 6, none, .un .not (.t 5)⟩,
   ⟨some 7, none, .mv (.t 6)⟩,
   ⟨some 8, some (7, false), .fld 1 (.t 1)⟩,
   ⟨some 9, some (7, false), .load none (.t 8)⟩,
   ⟨some 10, some (7, false), .call n_impl_within S_impl_within [(.t 9, []), (.k (.int .i64 0), []), (.k (.int .i64 30), [])]⟩,
   ⟨some 11, some (7, false), .un .not (.t 10)⟩,
   ⟨some 12, none, .pick (.t 7) (.k (.bool true)) (.t 11)⟩,
   ⟨some 13, none, .mv (.t 12)⟩,
   ⟨some 14, some (13, false), .fld 2 (.t 1)⟩,
   ⟨some 15, some (13, false), .load none (.t 14)⟩,
   ⟨some 16, some (13, false), .fld 1 (.t 1)⟩,
   ⟨some 17, some (13, false), .load none (.t 16)⟩,
   ⟨some 18, some (13, false), .call n_impl_within S_impl_within [(.t 15, []), (.k (.int .i64 0), []), (.t 17, [])]⟩,
   ⟨some 19, some (13, false), .un .not (.t 18)⟩,
   ⟨some 20, none, .pick (.t 13) (.k (.bool true)) (.t 19)⟩,
   ⟨some 21, none, .mv (.t 20)⟩,
   ⟨some 22, some (21, false), .fld 3 (.t 1)⟩,
   ⟨some 23, some (21, false), .load none (.t 22)⟩,
   ⟨some 24, some (21, false), .len (.t 23)⟩,
   ⟨some 25, some (21, false), .bin 0 .gtr (.t 24) (.k (.int .i64 80))⟩,
   ⟨some 26, none, .pick (.t 21) (.k (.bool true)) (.t 25)⟩,
   ⟨some 27, none, .mv (.t 26)⟩,
   ⟨some 28, some (27, false), .fld 3 (.t 1)⟩,
   ⟨some 29, some (27, false), .load none (.t 28)⟩,
   ⟨some 30, some (27, false), .call n_impl_VotesOk S_impl_VotesOk [(.t 29, [some 2])]⟩,
   ⟨some 31, some (27, false), .un .not (.t 30)⟩,
   ⟨some 32, none, .pick (.t 27) (.k (.bool true)) (.t 31)⟩])
 (.cond (.t 32)
 (.seq
 (.rg [⟨some 2, none, .mv (.k (.bool false))⟩])
 .ret)
 .skip))
 (.seq
 (.rg [⟨some 33, none, .fld 3 (.t 1)⟩,
   ⟨some 34, none, .load none (.t 33)⟩,
   ⟨some 35, none, .mkfn (.func n_impl_NodeOk_1) [] [.t 1]⟩,
   ⟨some 36, none, .call n_slices_ContainsFunc_VoteS S_slices_ContainsFunc_VoteS [(.t 34, [some 2]), (.t 35, [])]⟩,
   ⟨some 37, none, .un .not (.t 36)⟩,
   ⟨some 2, none, .mv (.t 37)⟩])
 .ret))) }
theorem is_impl_NodeOk : IsF Try.prog n_impl_NodeOk c_impl_NodeOk := ⟨Try.f83, _, Try.func83, rfl, by decide, rfl, by kernel_rfl, by kernel_rfl⟩
noncomputable def c_spec_NodeOk : FC := { n := 66, res := [⟨none, 2, []⟩], body :=
 (.seq
 (.rg [⟨some 1, none, .box (.t 0)⟩,
   ⟨some 2, none, .mv (.k (.bool false))⟩])
 (.seq
 (.seq
 (.rg [⟨some 5, none, .fld 0 (.t 1)⟩,
   ⟨some 6, none, .load none (.t 5)⟩,
   ⟨some 7, none, .call n_spec_l6In S_spec_l6In [(.t 6, []), (.k (.int .i64 1), []), (.k (.int .i64 4), [])]⟩,
   ⟨some 8, none, .un .not (.t 7)⟩,
   ⟨some 9, none, .mv (.t 8)⟩,
   ⟨some 10, some (9, false), .fld 1 (.t 1)⟩,
   ⟨some 11, some (9, false), .load none (.t 10)⟩,
   ⟨some 12, some (9, false), .call n_spec_l6In S_spec_l6In [(.t 11, []), (.k (.int .i64 0), []), (.k (.int .i64 30), [])]⟩,
   ⟨some 13, some (9, false), .un .not (.t 12)⟩,
   ⟨some 14, none, .pick (.t 9) (.k (.bool true)) (.t 13)⟩,
   ⟨some 15, none, .mv (.t 14)⟩,
   ⟨some 16, some (15, false), .fld 2 (.t 1)⟩,
   ⟨some 17, some (15, false), .load none (.t 16)⟩,
   ⟨some 18, some (15, false), .fld 1 (.t 1)⟩,
   ⟨some 19, some (15, false), .load none (.t 18)⟩,
   ⟨some 20, some (15, false), .call n_spec_l6In S_spec_l6In [(.t 17, []), (.k (.int .i64 0), []), (.t 19, [])]⟩,
   ⟨some 21, some (15, false), .un .not (.t 20)⟩,
   ⟨some 22, none, .pick (.t 15) (.k (.bool true)) (.t 21)⟩,
   ⟨some 23, none, .mv (.t 22)⟩,
   ⟨some 24, some (23, false), .fld 3 (.t 1)⟩,
   ⟨some 25, some (23, false), .load none (.t 24)⟩,
   ⟨some 26, some (23, false), .len (.t 25)⟩,
   ⟨some 27, some (23, false), .bin 0 .gtr (.t 26) (.k (.int .i64 80))⟩,
   ⟨some 28, none, .pick (.t 23) (.k (.bool true)) (.t 27)⟩,
   ⟨some 29, none, .mv (.t 28)⟩,
   ⟨some 30, some (29, false), .fld 3 (.t 1)⟩,
   ⟨some 31, some (29, false), .load none (.t 30)⟩,
   ⟨some 32, some (29, false), .call n_spec_VotesOk S_spec_VotesOk [(.t 31, [some 2])]⟩,
   ⟨some 33, some (29, false), .un .not (.t 32)⟩,
   ⟨some 34, none, .pick (.t 29) (.k (.bool true)) (.t 33)⟩])
 (.cond (.t 34)
 (.seq
 (.rg [⟨some 2, none, .mv (.k (.bool false))⟩])
 .ret)
 .skip))
 (.seq
 (.seq
 (.rg [⟨some 3, none, .mv (.k (.int .i64 0))⟩])
 (.block 0
 (.loop
 (.seq
 (.seq
 (.rg [⟨some 35, none, .mv (.t 3)⟩,
   ⟨some 36, none, .fld 3 (.t 1)⟩,
   ⟨some 37, none, .load none (.t 36)⟩,
   ⟨some 38, none, .len (.t 37)⟩,
   ⟨some 39, none, .bin 0 .lss (.t 35) (.t 38)⟩])
 (.cond (.t 39)
 .skip
 (.exit 0)))
 (.seq
 (.block 1
 (.seq
 (.rg [⟨some 42, none, .fld 3 (.t 1)⟩,
   ⟨some 43, none, .load none (.t 42)⟩,
   ⟨some 44, none, .mv (.t 3)⟩,
   ⟨some 45, none, .idx 2 (.t 43) (.t 44)⟩,
   ⟨some 46, none, .load (some 2) (.t 45)⟩,
   ⟨some 4, none, .alloc [.int .i64 0, .slice none 0 0]⟩,
   ⟨none, none, .store 2 (.t 4) (.t 46)⟩])
 (.seq
 (.rg [⟨some 47, none, .fld 0 (.t 4)⟩,
   ⟨some 48, none, .load none (.t 47)⟩,
   ⟨some 49, none, .fld 0 (.t 1)⟩,
   ⟨some 50, none, .load none (.t 49)⟩,
   ⟨some 51, none, .bin 0 .eql (.t 48) (.t 50)⟩,
   ⟨some 52, none, .mv (.t 51)⟩,
   ⟨some 53, some (52, true), .fld 1 (.t 4)⟩,
   ⟨some 54, some (52, true), .load none (.t 53)⟩,
   ⟨some 55, some (52, true), .fld 1 (.t 4)⟩,
   ⟨some 56, some (52, true), .load none (.t 55)⟩,
   ⟨some 57, some (52, true), .len (.t 56)⟩,
   ⟨some 58, some (52, true), .bin 0 .sub (.t 57) (.k (.int .i64 1))⟩,
   ⟨some 59, some (52, true), .idx 4 (.t 54) (.t 58)⟩,
   ⟨some 60, some (52, true), .fld 0 (.t 59)⟩,
   ⟨some 61, some (52, true), .load none (.t 60)⟩,
   ⟨some 62, some (52, true), .fld 2 (.t 1)⟩,
   ⟨some 63, some (52, true), .load none (.t 62)⟩,
   ⟨some 64, some (52, true), .bin 0 .gtr (.t 61) (.t 63)⟩,
   ⟨some 65, none, .pick (.t 52) (.t 64) (.k (.bool false))⟩])
 (.cond (.t 65)
 (.seq
 (.rg [⟨some 2, none, .mv (.k (.bool false))⟩])
 .ret)
 .skip))))
 (.rg [⟨some 40, none, .mv (.t 3)⟩,
   ⟨some 41, none, .bin 0 .add (.t 40) (.k (.int .i64 1))⟩,
   ⟨some 3, none, .mv (.t 41)⟩]))))))
 (.seq
 (.rg [⟨some 2, none, .mv (.k (.bool true))⟩])
 .ret)))) }
theorem is_spec_NodeOk : IsF Try.prog n_spec_NodeOk c_spec_NodeOk := ⟨Try.f73, _, Try.func73, rfl, by decide, rfl, by kernel_rfl, by kernel_rfl⟩
noncomputable def c_impl_World_shown : FC := { n := 20, res := [⟨none, 4, []⟩], body :=
 (.seq
 (.rg [⟨some 3, none, .box (.t 1)⟩,
   ⟨some 4, none, .mv (.k (.bool false))⟩])
 (.seq
 (.rg [⟨some 5, none, .fld 0 (.t 3)⟩,
   ⟨some 6, none, .load none (.t 5)⟩,
   ⟨some 7, none, .mv (.t 0)⟩,
   ⟨some 8, none, .nilc (.t 7)⟩,
   ⟨some 9, none, .fld 3 (.t 8)⟩,
   ⟨some 10, none, .load none (.t 9)⟩,
   ⟨some 11, none, .bin 0 .eql (.t 6) (.t 10)⟩,
   ⟨some 12, none, .mv (.t 11)⟩,
   ⟨some 13, some (12, false), .mv (.t 0)⟩,
   ⟨some 14, some (12, false), .nilc (.t 13)⟩,
   ⟨some 15, some (12, false), .fld 2 (.t 14)⟩,
   ⟨some 16, some (12, false), .load none (.t 15)⟩,
   ⟨some 17, some (12, false), .load (some 2) (.t 3)⟩,
   ⟨some 18, some (12, false), .call n_impl_votes_has S_impl_votes_has [(.t 16, [some 2]), (.t 17, [none, some 4])]⟩,
   ⟨some 19, none, .pick (.t 12) (.k (.bool true)) (.t 18)⟩,
   ⟨some 4, none, .mv (.t 19)⟩])
 .ret)) }
theorem is_impl_World_shown : IsF Try.prog n_impl_World_shown c_impl_World_shown := ⟨Try.f45, _, Try.func45, rfl, by decide, rfl, by kernel_rfl, by kernel_rfl⟩
noncomputable def c_impl_WorldOk_1 : FC := { n := 7, res := [⟨none, 3, []⟩], body :=
 (.seq
 (.rg [⟨some 2, none, .box (.t 0)⟩,
   ⟨some 3, none, .mv (.k (.bool false))⟩])
 (.seq
 (.rg [⟨some 4, none, .load (some 2) (.t 2)⟩,
   ⟨some 5, none, .call n_impl_World_shown S_impl_World_shown [(.t 1, [none, some 4, some 2]), (.t 4, [none, some 4])]⟩,
   ⟨some 6, none, .un .not (.t 5)⟩,
   ⟨some 3, none, .mv (.t 6)⟩])
 .ret)) }
theorem is_impl_WorldOk_1 : IsF Try.prog n_impl_WorldOk_1 c_impl_WorldOk_1 := ⟨Try.f84, _, Try.func84, rfl, by decide, rfl, by kernel_rfl, by kernel_rfl⟩
noncomputable def c_impl_WorldOk : FC := { n := 63, res := [⟨none, 2, []⟩], body :=
 (.seq
 (.rg [⟨some 1, none, .box (.t 0)⟩,
   ⟨some 2, none, .mv (.k (.bool false))⟩])
 (.seq
 (.seq
 (.rg [⟨some 5, none, .fld 0 (.t 1)⟩,
   ⟨some 6, none, .load none (.t 5)⟩,
   ⟨some 7, none, .call n_impl_within S_impl_within [(.t 6, []), (.k (.int .i64 0), []), (.k (.int .i64 30), [])]⟩,
   ⟨some 8, none, .un .not (.t 7)⟩,
   ⟨some 9, none, .mv (.t 8)⟩,
   ⟨some 10, some (9, false), .fld 3 (.t 1)⟩,
   ⟨some 11, some (9, false), .load none (.t 10)⟩,
   ⟨some 12, some (9, false), .call n_impl_within S_impl_within [(.t 11, []), (.k (.int .i64 0), []), (.k (.int .i64 4), [])]⟩,
   ⟨some 13, some (9, false), .un .not (.t 12)⟩,
   ⟨some 14, none, .pick (.t 9) (.k (.bool true)) (.t 13)⟩,
   ⟨some 15, none, .mv (.t 14)⟩,
   ⟨some 16, some (15, false), .fld 1 (.t 1)⟩,
   ⟨some 17, some (15, false), .load none (.t 16)⟩,
   ⟨some 18, some (15, false), .len (.t 17)⟩,
   ⟨some 19, some (15, false), .bin 0 .neq (.t 18) (.k (.int .i64 4))⟩,
   ⟨some 20, none, .pick (.t 15) (.k (.bool true)) (.t 19)⟩,
   ⟨some 21, none, .mv (.t 20)⟩,
   ⟨some 22, some (21, false), .fld 2 (.t 1)⟩,
   ⟨some 23, some (21, false), .load none (.t 22)⟩,
   ⟨some 24, some (21, false), .len (.t 23)⟩,
   ⟨some 25, some (21, false), .bin 0 .gtr (.t 24) (.k (.int .i64 80))⟩,
   ⟨some 26, none, .pick (.t 21) (.k (.bool true)) (.t 25)⟩,
   ⟨some 27, none, .mv (.t 26)⟩,
   ⟨some 28, some (27, false), .fld 2 (.t 1)⟩,
   ⟨some 29, some (27, false), .load none (.t 28)⟩,
   ⟨some 30, some (27, false), .call n_impl_VotesOk S_impl_VotesOk [(.t 29, [some 2])]⟩,
   ⟨some 31, some (27, false), .un .not (.t 30)⟩,
   ⟨some 32, none, .pick (.t 27) (.k (.bool true)) (.t 31)⟩])
 (.cond (.t 32)
 (.seq
 (.rg [⟨some 2, none, .mv (.k (.bool false))⟩])
 .ret)
 .skip))
 (.seq
 (.seq
 (.rg [⟨some 33, none, .fld 1 (.t 1)⟩,
   ⟨some 34, none, .load none (.t 33)⟩,
   ⟨some 35, none, .len (.t 34)⟩,
   ⟨some 36, none, .mv (.k (.int .i64 0))⟩])
 (.block 0
 (.loop
 (.seq
 (.rg [⟨some 37, none, .bin 0 .lss (.t 36) (.t 35)⟩])
 (.seq
 (.cond (.t 37)
 .skip
 (.exit 0))
 (.seq
 (.block 1
 (.seq
 (.rg [⟨some 38, none, .mv (.t 36)⟩,
   ⟨some 39, none, .idx 4 (.t 34) (.t 36)⟩,
   ⟨some 40, none, .load (some 4) (.t 39)⟩,
   ⟨some 4, none, .alloc [.int .i64 0, .int .i64 0, .int .i64 0, .slice none 0 0]⟩,
   ⟨some 3, none, .mv (.t 38)⟩,
   ⟨none, none, .store 4 (.t 4) (.t 40)⟩])
 (.seq
 (.seq
 (.rg [⟨some 41, none, .load (some 4) (.t 4)⟩,
   ⟨some 42, none, .call n_impl_NodeOk S_impl_NodeOk [(.t 41, [none, none, none, some 2])]⟩,
   ⟨some 43, none, .un .not (.t 42)⟩,
   ⟨some 44, none, .mv (.t 43)⟩,
   ⟨some 45, some (44, false), .fld 0 (.t 4)⟩,
   ⟨some 46, some (44, false), .load none (.t 45)⟩,
   ⟨some 47, some (44, false), .mv (.t 3)⟩,
   ⟨some 48, some (44, false), .bin 0 .add (.t 47) (.k (.int .i64 1))⟩,
   ⟨some 49, some (44, false), .bin 0 .neq (.t 46) (.t 48)⟩,
   ⟨some 50, none, .pick (.t 44) (.k (.bool true)) (.t 49)⟩,
   ⟨some 51, none, .mv (.t 50)⟩,
   ⟨some 52, some (51, false), .fld 1 (.t 4)⟩,
   ⟨some 53, some (51, false), .load none (.t 52)⟩,
   ⟨some 54, some (51, false), .fld 0 (.t 1)⟩,
   ⟨some 55, some (51, false), .load none (.t 54)⟩,
   ⟨some 56, some (51, false), .bin 0 .neq (.t 53) (.t 55)⟩,
   ⟨some 57, none, .pick (.t 51) (.k (.bool true)) (.t 56)⟩])
 (.cond (.t 57)
 (.seq
 (.rg [⟨some 2, none, .mv (.k (.bool false))⟩])
 .ret)
 .skip))
 (.seq
 (.rg [⟨some 58, none, .fld 3 (.t 4)⟩,
   ⟨some 59, none, .load none (.t 58)⟩,
   ⟨some 60, none, .mkfn (.func n_impl_WorldOk_1) [] [.t 1]⟩,
   ⟨some 61, none, .call n_slices_ContainsFunc_VoteS S_slices_ContainsFunc_VoteS [(.t 59, [some 2]), (.t 60, [])]⟩])
 (.cond (.t 61)
 (.seq
 (.rg [⟨some 2, none, .mv (.k (.bool false))⟩])
 .ret)
 .skip)))))
 (.rg [⟨some 62, none, .bin 0 .add (.t 36) (.k (.int .i64 1))⟩,
   ⟨some 36, none, .mv (.t 62)⟩])))))))
 (.seq
 (.rg [⟨some 2, none, .mv (.k (.bool true))⟩])
 .ret)))) }
theorem is_impl_WorldOk : IsF Try.prog n_impl_WorldOk c_impl_WorldOk := ⟨Try.f40, _, Try.func40, rfl, by decide, rfl, by kernel_rfl, by kernel_rfl⟩
noncomputable def c_spec_l21All : FC := { n := 30, res := [⟨none, 4, []⟩], body :=
 (.seq
 (.rg [⟨some 2, none, .box (.t 0)⟩,
   ⟨some 4, none, .mv (.k (.bool false))⟩])
 (.seq
 (.seq
 (.rg [⟨some 5, none, .mv (.k (.int .i64 0))⟩])
 (.block 0
 (.loop
 (.seq
 (.seq
 (.rg [⟨some 6, none, .mv (.t 5)⟩,
   ⟨some 7, none, .mv (.t 1)⟩,
   ⟨some 8, none, .len (.t 7)⟩,
   ⟨some 9, none, .bin 0 .lss (.t 6) (.t 8)⟩])
 (.cond (.t 9)
 .skip
 (.exit 0)))
 (.seq
 (.block 1
 (.seq
 (.rg [⟨some 12, none, .mv (.t 1)⟩,
   ⟨some 13, none, .mv (.t 5)⟩,
   ⟨some 14, none, .idx 2 (.t 12) (.t 13)⟩,
   ⟨some 15, none, .fld 0 (.t 14)⟩,
   ⟨some 16, none, .load none (.t 15)⟩,
   ⟨some 17, none, .fld 3 (.t 2)⟩,
   ⟨some 18, none, .load none (.t 17)⟩,
   ⟨some 19, none, .bin 0 .neq (.t 16) (.t 18)⟩,
   ⟨some 20, none, .mv (.t 19)⟩,
   ⟨some 21, some (20, true), .fld 2 (.t 2)⟩,
   ⟨some 22, some (20, true), .load none (.t 21)⟩,
   ⟨some 23, some (20, true), .mv (.t 1)⟩,
   ⟨some 24, some (20, true), .mv (.t 5)⟩,
   ⟨some 25, some (20, true), .idx 2 (.t 23) (.t 24)⟩,
   ⟨some 26, some (20, true), .load (some 2) (.t 25)⟩,
   ⟨some 27, some (20, true), .call n_spec_l3Has S_spec_l3Has [(.t 22, [some 2]), (.t 26, [none, some 4])]⟩,
   ⟨some 28, some (20, true), .un .not (.t 27)⟩,
   ⟨some 29, none, .pick (.t 20) (.t 28) (.k (.bool false))⟩])
 (.cond (.t 29)
 (.seq
 (.rg [⟨some 4, none, .mv (.k (.bool false))⟩])
 .ret)
 .skip)))
 (.rg [⟨some 10, none, .mv (.t 5)⟩,
   ⟨some 11, none, .bin 0 .add (.t 10) (.k (.int .i64 1))⟩,
   ⟨some 5, none, .mv (.t 11)⟩]))))))
 (.seq
 (.rg [⟨some 4, none, .mv (.k (.bool true))⟩])
 .ret))) }
theorem is_spec_l21All : IsF Try.prog n_spec_l21All c_spec_l21All := ⟨Try.f34, _, Try.func34, rfl, by decide, rfl, by kernel_rfl, by kernel_rfl⟩
noncomputable def c_spec_WorldOk : FC := { n := 69, res := [⟨none, 2, []⟩], body :=
 (.seq
 (.rg [⟨some 1, none, .box (.t 0)⟩,
   ⟨some 2, none, .mv (.k (.bool false))⟩])
 (.seq
 (.seq
 (.rg [⟨some 5, none, .fld 0 (.t 1)⟩,
   ⟨some 6, none, .load none (.t 5)⟩,
   ⟨some 7, none, .call n_spec_l6In S_spec_l6In [(.t 6, []), (.k (.int .i64 0), []), (.k (.int .i64 30), [])]⟩,
   ⟨some 8, none, .un .not (.t 7)⟩,
   ⟨some 9, none, .mv (.t 8)⟩,
   ⟨some 10, some (9, false), .fld 3 (.t 1)⟩,
   ⟨some 11, some (9, false), .load none (.t 10)⟩,
   ⟨some 12, some (9, false), .call n_spec_l6In S_spec_l6In [(.t 11, []), (.k (.int .i64 0), []), (.k (.int .i64 4), [])]⟩,
   ⟨some 13, some (9, false), .un .not (.t 12)⟩,
   ⟨some 14, none, .pick (.t 9) (.k (.bool true)) (.t 13)⟩,
   ⟨some 15, none, .mv (.t 14)⟩,
   ⟨some 16, some (15, false), .fld 1 (.t 1)⟩,
   ⟨some 17, some (15, false), .load none (.t 16)⟩,
   ⟨some 18, some (15, false), .len (.t 17)⟩,
   ⟨some 19, some (15, false), .bin 0 .neq (.t 18) (.k (.int .i64 4))⟩,
   ⟨some 20, none, .pick (.t 15) (.k (.bool true)) (.t 19)⟩,
   ⟨some 21, none, .mv (.t 20)⟩,
   ⟨some 22, some (21, false), .fld 2 (.t 1)⟩,
   ⟨some 23, some (21, false), .load none (.t 22)⟩,
   ⟨some 24, some (21, false), .len (.t 23)⟩,
   ⟨some 25, some (21, false), .bin 0 .gtr (.t 24) (.k (.int .i64 80))⟩,
   ⟨some 26, none, .pick (.t 21) (.k (.bool true)) (.t 25)⟩,
   ⟨some 27, none, .mv (.t 26)⟩,
   ⟨some 28, some (27, false), .fld 2 (.t 1)⟩,
   ⟨some 29, some (27, false), .load none (.t 28)⟩,
   ⟨some 30, some (27, false), .call n_spec_VotesOk S_spec_VotesOk [(.t 29, [some 2])]⟩,
   ⟨some 31, some (27, false), .un .not (.t 30)⟩,
   ⟨some 32, none, .pick (.t 27) (.k (.bool true)) (.t 31)⟩])
 (.cond (.t 32)
 (.seq
 (.rg [⟨some 2, none, .mv (.k (.bool false))⟩])
 .ret)
 .skip))
 (.seq
 (.seq
 (.rg [⟨some 3, none, .mv (.k (.int .i64 0))⟩])
 (.block 0
 (.loop
 (.seq
 (.seq
 (.rg [⟨some 33, none, .mv (.t 3)⟩,
   ⟨some 34, none, .fld 1 (.t 1)⟩,
   ⟨some 35, none, .load none (.t 34)⟩,
   ⟨some 36, none, .len (.t 35)⟩,
   ⟨some 37, none, .bin 0 .lss (.t 33) (.t 36)⟩])
 (.cond (.t 37)
 .skip
 (.exit 0)))
 (.seq
 (.block 1
 (.seq
 (.rg [⟨some 40, none, .fld 1 (.t 1)⟩,
   ⟨some 41, none, .load none (.t 40)⟩,
   ⟨some 42, none, .mv (.t 3)⟩,
   ⟨some 43, none, .idx 4 (.t 41) (.t 42)⟩,
   ⟨some 44, none, .load (some 4) (.t 43)⟩,
   ⟨some 4, none, .alloc [.int .i64 0, .int .i64 0, .int .i64 0, .slice none 0 0]⟩,
   ⟨none, none, .store 4 (.t 4) (.t 44)⟩])
 (.seq
 (.rg [⟨some 45, none, .load (some 4) (.t 4)⟩,
   ⟨some 46, none, .call n_spec_NodeOk S_spec_NodeOk [(.t 45, [none, none, none, some 2])]⟩,
   ⟨some 47, none, .un .not (.t 46)⟩,
   ⟨some 48, none, .mv (.t 47)⟩,
   ⟨some 49, some (48, false), .fld 0 (.t 4)⟩,
   ⟨some 50, some (48, false), .load none (.t 49)⟩,
   ⟨some 51, some (48, false), .mv (.t 3)⟩,
   ⟨some 52, some (48, false), .bin 0 .add (.t 51) (.k (.int .i64 1))⟩,
   ⟨some 53, some (48, false), .bin 0 .neq (.t 50) (.t 52)⟩,
   ⟨some 54, none, .pick (.t 48) (.k (.bool true)) (.t 53)⟩,
   ⟨some 55, none, .mv (.t 54)⟩,
   ⟨some 56, some (55, false), .fld 1 (.t 4)⟩,
   ⟨some 57, some (55, false), .load none (.t 56)⟩,
   ⟨some 58, some (55, false), .fld 0 (.t 1)⟩,
   ⟨some 59, some (55, false), .load none (.t 58)⟩,
   ⟨some 60, some (55, false), .bin 0 .neq (.t 57) (.t 59)⟩,
   ⟨some 61, none, .pick (.t 55) (.k (.bool true)) (.t 60)⟩,
   ⟨some 62, none, .mv (.t 61)⟩,
   ⟨some 63, some (62, false), .load (some 4) (.t 1)⟩,
   ⟨some 64, some (62, false), .fld 3 (.t 4)⟩,
   ⟨some 65, some (62, false), .load none (.t 64)⟩,
   ⟨some 66, some (62, false), .call n_spec_l21All S_spec_l21All [(.t 63, [none, some 4, some 2]), (.t 65, [some 2])]⟩,
   ⟨some 67, some (62, false), .un .not (.t 66)⟩,
   ⟨some 68, none, .pick (.t 62) (.k (.bool true)) (.t 67)⟩])
 (.cond (.t 68)
 (.seq
 (.rg [⟨some 2, none, .mv (.k (.bool false))⟩])
 .ret)
 .skip))))
 (.rg [⟨some 38, none, .mv (.t 3)⟩,
   ⟨some 39, none, .bin 0 .add (.t 38) (.k (.int .i64 1))⟩,
   ⟨some 3, none, .mv (.t 39)⟩]))))))
 (.seq
 (.rg [⟨some 2, none, .mv (.k (.bool true))⟩])
 .ret)))) }
theorem is_spec_WorldOk : IsF Try.prog n_spec_WorldOk c_spec_WorldOk := ⟨Try.f32, _, Try.func32, rfl, by decide, rfl, by kernel_rfl, by kernel_rfl⟩
noncomputable def c_laws_szNode : FC := { n := 12, res := [⟨none, 4, []⟩], body :=
 (.seq
 (.rg [⟨some 2, none, .box (.t 0)⟩,
   ⟨some 4, none, .mv (.k (.int .i64 0))⟩])
 (.seq
 (.rg [⟨some 5, none, .fld 3 (.t 2)⟩,
   ⟨some 6, none, .load none (.t 5)⟩,
   ⟨some 7, none, .mv (.t 1)⟩,
   ⟨some 8, none, .call n_laws_szVoteS S_laws_szVoteS [(.t 6, [some 2]), (.t 7, [])]⟩,
   ⟨some 1, none, .mv (.t 8)⟩])
 (.seq
 (.seq
 (.rg [⟨some 9, none, .mv (.t 1)⟩,
   ⟨some 10, none, .bin 0 .lss (.t 9) (.k (.int .i64 0))⟩])
 (.cond (.t 10)
 (.seq
 (.rg [⟨some 4, none, .mv (.k (.int .i64 (-1)))⟩])
 .ret)
 .skip))
 (.seq
 (.rg [⟨some 11, none, .mv (.t 1)⟩,
   ⟨some 4, none, .mv (.t 11)⟩])
 .ret)))) }
theorem is_laws_szNode : IsF Try.prog n_laws_szNode c_laws_szNode := ⟨Try.f69, _, Try.func69, rfl, by decide, rfl, by kernel_rfl, by kernel_rfl⟩
noncomputable def c_laws_szNodeS : FC := { n := 27, res := [⟨none, 4, []⟩], body :=
 (.seq
 (.rg [⟨some 4, none, .mv (.k (.int .i64 0))⟩])
 (.seq
 (.rg [⟨some 6, none, .mv (.t 1)⟩,
   ⟨some 7, none, .mv (.t 0)⟩,
   ⟨some 8, none, .len (.t 7)⟩,
   ⟨some 9, none, .bin 0 .sub (.t 6) (.t 8)⟩,
   ⟨some 1, none, .mv (.t 9)⟩])
 (.seq
 (.seq
 (.rg [⟨some 10, none, .mv (.t 1)⟩,
   ⟨some 11, none, .bin 0 .lss (.t 10) (.k (.int .i64 0))⟩])
 (.cond (.t 11)
 (.seq
 (.rg [⟨some 4, none, .mv (.k (.int .i64 (-1)))⟩])
 .ret)
 .skip))
 (.seq
 (.seq
 (.rg [⟨some 5, none, .mv (.k (.int .i64 0))⟩])
 (.block 0
 (.loop
 (.seq
 (.seq
 (.rg [⟨some 12, none, .mv (.t 5)⟩,
   ⟨some 13, none, .mv (.t 0)⟩,
   ⟨some 14, none, .len (.t 13)⟩,
   ⟨some 15, none, .bin 0 .lss (.t 12) (.t 14)⟩])
 (.cond (.t 15)
 .skip
 (.exit 0)))
 (.seq
 (.block 1
 (.seq
 (.rg [⟨some 18, none, .mv (.t 0)⟩,
   ⟨some 19, none, .mv (.t 5)⟩,
   ⟨some 20, none, .idx 4 (.t 18) (.t 19)⟩,
   ⟨some 21, none, .load (some 4) (.t 20)⟩,
   ⟨some 22, none, .mv (.t 1)⟩,
   ⟨some 23, none, .call n_laws_szNode S_laws_szNode [(.t 21, [none, none, none, some 2]), (.t 22, [])]⟩,
   ⟨some 1, none, .mv (.t 23)⟩])
 (.seq
 (.rg [⟨some 24, none, .mv (.t 1)⟩,
   ⟨some 25, none, .bin 0 .lss (.t 24) (.k (.int .i64 0))⟩])
 (.cond (.t 25)
 (.seq
 (.rg [⟨some 4, none, .mv (.k (.int .i64 (-1)))⟩])
 .ret)
 .skip))))
 (.rg [⟨some 16, none, .mv (.t 5)⟩,
   ⟨some 17, none, .bin 0 .add (.t 16) (.k (.int .i64 1))⟩,
   ⟨some 5, none, .mv (.t 17)⟩]))))))
 (.seq
 (.rg [⟨some 26, none, .mv (.t 1)⟩,
   ⟨some 4, none, .mv (.t 26)⟩])
 .ret))))) }
theorem is_laws_szNodeS : IsF Try.prog n_laws_szNodeS c_laws_szNodeS := ⟨Try.f28, _, Try.func28, rfl, by decide, rfl, by kernel_rfl, by kernel_rfl⟩
noncomputable def c_laws_szWorld : FC := { n := 18, res := [⟨none, 4, []⟩], body :=
 (.seq
 (.rg [⟨some 2, none, .box (.t 0)⟩,
   ⟨some 4, none, .mv (.k (.int .i64 0))⟩])
 (.seq
 (.rg [⟨some 5, none, .fld 1 (.t 2)⟩,
   ⟨some 6, none, .load none (.t 5)⟩,
   ⟨some 7, none, .mv (.t 1)⟩,
   ⟨some 8, none, .call n_laws_szNodeS S_laws_szNodeS [(.t 6, [some 4]), (.t 7, [])]⟩,
   ⟨some 1, none, .mv (.t 8)⟩])
 (.seq
 (.seq
 (.rg [⟨some 9, none, .mv (.t 1)⟩,
   ⟨some 10, none, .bin 0 .lss (.t 9) (.k (.int .i64 0))⟩])
 (.cond (.t 10)
 (.seq
 (.rg [⟨some 4, none, .mv (.k (.int .i64 (-1)))⟩])
 .ret)
 .skip))
 (.seq
 (.rg [⟨some 11, none, .fld 2 (.t 2)⟩,
   ⟨some 12, none, .load none (.t 11)⟩,
   ⟨some 13, none, .mv (.t 1)⟩,
   ⟨some 14, none, .call n_laws_szVoteS S_laws_szVoteS [(.t 12, [some 2]), (.t 13, [])]⟩,
   ⟨some 1, none, .mv (.t 14)⟩])
 (.seq
 (.seq
 (.rg [⟨some 15, none, .mv (.t 1)⟩,
   ⟨some 16, none, .bin 0 .lss (.t 15) (.k (.int .i64 0))⟩])
 (.cond (.t 16)
 (.seq
 (.rg [⟨some 4, none, .mv (.k (.int .i64 (-1)))⟩])
 .ret)
 .skip))
 (.seq
 (.rg [⟨some 17, none, .mv (.t 1)⟩,
   ⟨some 4, none, .mv (.t 17)⟩])
 .ret)))))) }
theorem is_laws_szWorld : IsF Try.prog n_laws_szWorld c_laws_szWorld := ⟨Try.f10, _, Try.func10, rfl, by decide, rfl, by kernel_rfl, by kernel_rfl⟩
noncomputable def c_laws_toNode : FC := { n := 18, res := [⟨some (some 4), 2, [none, none, none, some 2]⟩], body :=
 (.seq
 (.rg [⟨some 1, none, .box (.t 0)⟩,
   ⟨some 2, none, .alloc [.int .i64 0, .int .i64 0, .int .i64 0, .slice none 0 0]⟩])
 (.seq
 (.rg [⟨some 3, none, .alloc [.int .i64 0, .int .i64 0, .int .i64 0, .slice none 0 0]⟩])
 (.seq
 (.rg [⟨some 4, none, .fld 0 (.t 1)⟩,
   ⟨some 5, none, .load none (.t 4)⟩,
   ⟨some 6, none, .fld 0 (.t 3)⟩,
   ⟨none, none, .store 1 (.t 6) (.t 5)⟩])
 (.seq
 (.rg [⟨some 7, none, .fld 1 (.t 1)⟩,
   ⟨some 8, none, .load none (.t 7)⟩,
   ⟨some 9, none, .fld 1 (.t 3)⟩,
   ⟨none, none, .store 1 (.t 9) (.t 8)⟩])
 (.seq
 (.rg [⟨some 10, none, .fld 2 (.t 1)⟩,
   ⟨some 11, none, .load none (.t 10)⟩,
   ⟨some 12, none, .fld 2 (.t 3)⟩,
   ⟨none, none, .store 1 (.t 12) (.t 11)⟩])
 (.seq
 (.rg [⟨some 13, none, .fld 3 (.t 1)⟩,
   ⟨some 14, none, .load none (.t 13)⟩,
   ⟨some 15, none, .call n_laws_toVoteS S_laws_toVoteS [(.t 14, [some 2])]⟩,
   ⟨some 16, none, .fld 3 (.t 3)⟩,
   ⟨none, none, .store 1 (.t 16) (.t 15)⟩])
 (.seq
 (.rg [⟨some 17, none, .load (some 4) (.t 3)⟩,
   ⟨none, none, .store 4 (.t 2) (.t 17)⟩])
 .ret))))))) }
theorem is_laws_toNode : IsF Try.prog n_laws_toNode c_laws_toNode := ⟨Try.f78, _, Try.func78, rfl, by decide, rfl, by kernel_rfl, by kernel_rfl⟩
noncomputable def c_laws_toNodeS : FC := { n := 23, res := [⟨none, 2, [some 4]⟩], body :=
 (.seq
 (.rg [⟨some 2, none, .mv (.k (.slice none 0 0))⟩])
 (.seq
 (.rg [⟨some 5, none, .mv (.t 0)⟩,
   ⟨some 6, none, .len (.t 5)⟩,
   ⟨some 7, none, .mksl 73 4 48 [.int .i64 0, .int .i64 0, .int .i64 0, .slice none 0 0] (.t 6) (.t 6)⟩,
   ⟨some 3, none, .mv (.t 7)⟩])
 (.seq
 (.seq
 (.rg [⟨some 4, none, .mv (.k (.int .i64 0))⟩])
 (.block 0
 (.loop
 (.seq
 (.seq
 (.rg [⟨some 8, none, .mv (.t 4)⟩,
   ⟨some 9, none, .mv (.t 0)⟩,
   ⟨some 10, none, .len (.t 9)⟩,
   ⟨some 11, none, .bin 0 .lss (.t 8) (.t 10)⟩])
 (.cond (.t 11)
 .skip
 (.exit 0)))
 (.seq
 (.block 1
 (.rg [⟨some 14, none, .mv (.t 3)⟩,
   ⟨some 15, none, .mv (.t 4)⟩,
   ⟨some 16, none, .mv (.t 0)⟩,
   ⟨some 17, none, .mv (.t 4)⟩,
   ⟨some 18, none, .idx 4 (.t 16) (.t 17)⟩,
   ⟨some 19, none, .load (some 4) (.t 18)⟩,
   ⟨some 20, none, .call n_laws_toNode S_laws_toNode [(.t 19, [none, none, none, some 2])]⟩,
   ⟨some 21, none, .idx 4 (.t 14) (.t 15)⟩,
   ⟨none, none, .store 4 (.t 21) (.t 20)⟩]))
 (.rg [⟨some 12, none, .mv (.t 4)⟩,
   ⟨some 13, none, .bin 0 .add (.t 12) (.k (.int .i64 1))⟩,
   ⟨some 4, none, .mv (.t 13)⟩]))))))
 (.seq
 (.rg [⟨some 22, none, .mv (.t 3)⟩,
   ⟨some 2, none, .mv (.t 22)⟩])
 .ret)))) }
theorem is_laws_toNodeS : IsF Try.prog n_laws_toNodeS c_laws_toNodeS := ⟨Try.f36, _, Try.func36, rfl, by decide, rfl, by kernel_rfl, by kernel_rfl⟩
noncomputable def c_laws_toWorld : FC := { n := 19, res := [⟨some (some 4), 2, [none, some 4, some 2]⟩], body :=
 (.seq
 (.rg [⟨some 1, none, .box (.t 0)⟩,
   ⟨some 2, none, .alloc [.int .i64 0, .slice none 0 0, .slice none 0 0, .int .i64 0]⟩])
 (.seq
 (.rg [⟨some 3, none, .alloc [.int .i64 0, .slice none 0 0, .slice none 0 0, .int .i64 0]⟩])
 (.seq
 (.rg [⟨some 4, none, .fld 0 (.t 1)⟩,
   ⟨some 5, none, .load none (.t 4)⟩,
   ⟨some 6, none, .fld 0 (.t 3)⟩,
   ⟨none, none, .store 1 (.t 6) (.t 5)⟩])
 (.seq
 (.rg [⟨some 7, none, .fld 1 (.t 1)⟩,
   ⟨some 8, none, .load none (.t 7)⟩,
   ⟨some 9, none, .call n_laws_toNodeS S_laws_toNodeS [(.t 8, [some 4])]⟩,
   ⟨some 10, none, .fld 1 (.t 3)⟩,
   ⟨none, none, .store 1 (.t 10) (.t 9)⟩])
 (.seq
 (.rg [⟨some 11, none, .fld 2 (.t 1)⟩,
   ⟨some 12, none, .load none (.t 11)⟩,
   ⟨some 13, none, .call n_laws_toVoteS S_laws_toVoteS [(.t 12, [some 2])]⟩,
   ⟨some 14, none, .fld 2 (.t 3)⟩,
   ⟨none, none, .store 1 (.t 14) (.t 13)⟩])
 (.seq
 (.rg [⟨some 15, none, .fld 3 (.t 1)⟩,
   ⟨some 16, none, .load none (.t 15)⟩,
   ⟨some 17, none, .fld 3 (.t 3)⟩,
   ⟨none, none, .store 1 (.t 17) (.t 16)⟩])
 (.seq
 (.rg [⟨some 18, none, .load (some 4) (.t 3)⟩,
   ⟨none, none, .store 4 (.t 2) (.t 18)⟩])
 .ret))))))) }
theorem is_laws_toWorld : IsF Try.prog n_laws_toWorld c_laws_toWorld := ⟨Try.f13, _, Try.func13, rfl, by decide, rfl, by kernel_rfl, by kernel_rfl⟩
noncomputable def c_laws_eqNode : FC := { n := 26, res := [⟨none, 4, []⟩], body :=
 (.seq
 (.rg [⟨some 2, none, .box (.t 0)⟩,
   ⟨some 3, none, .box (.t 1)⟩,
   ⟨some 4, none, .mv (.k (.bool false))⟩])
 (.seq
 (.seq
 (.rg [⟨some 5, none, .fld 0 (.t 2)⟩,
   ⟨some 6, none, .load none (.t 5)⟩,
   ⟨some 7, none, .fld 0 (.t 3)⟩,
   ⟨some 8, none, .load none (.t 7)⟩,
   ⟨some 9, none, .bin 0 .neq (.t 6) (.t 8)⟩])
 (.cond (.t 9)
 (.seq
 (.rg [⟨some 4, none, .mv (.k (.bool false))⟩])
 .ret)
 .skip))
 (.seq
 (.seq
 (.rg [⟨some 10, none, .fld 1 (.t 2)⟩,
   ⟨some 11, none, .load none (.t 10)⟩,
   ⟨some 12, none, .fld 1 (.t 3)⟩,
   ⟨some 13, none, .load none (.t 12)⟩,
   ⟨some 14, none, .bin 0 .neq (.t 11) (.t 13)⟩])
 (.cond (.t 14)
 (.seq
 (.rg [⟨some 4, none, .mv (.k (.bool false))⟩])
 .ret)
 .skip))
 (.seq
 (.seq
 (.rg [⟨some 15, none, .fld 2 (.t 2)⟩,
   ⟨some 16, none, .load none (.t 15)⟩,
   ⟨some 17, none, .fld 2 (.t 3)⟩,
   ⟨some 18, none, .load none (.t 17)⟩,
   ⟨some 19, none, .bin 0 .neq (.t 16) (.t 18)⟩])
 (.cond (.t 19)
 (.seq
 (.rg [⟨some 4, none, .mv (.k (.bool false))⟩])
 .ret)
 .skip))
 (.seq
 (.seq
 (.rg [⟨some 20, none, .fld 3 (.t 2)⟩,
   ⟨some 21, none, .load none (.t 20)⟩,
   ⟨some 22, none, .fld 3 (.t 3)⟩,
   ⟨some 23, none, .load none (.t 22)⟩,
   ⟨some 24, none, .call n_laws_eqVoteS S_laws_eqVoteS [(.t 21, [some 2]), (.t 23, [some 2])]⟩,
   ⟨some 25, none, .un .not (.t 24)⟩])
 (.cond (.t 25)
 (.seq
 (.rg [⟨some 4, none, .mv (.k (.bool false))⟩])
 .ret)
 .skip))
 (.seq
 (.rg [⟨some 4, none, .mv (.k (.bool true))⟩])
 .ret)))))) }
theorem is_laws_eqNode : IsF Try.prog n_laws_eqNode c_laws_eqNode := ⟨Try.f95, _, Try.func95, rfl, by decide, rfl, by kernel_rfl, by kernel_rfl⟩
noncomputable def c_laws_eqNodeS : FC := { n := 27, res := [⟨none, 4, []⟩], body :=
 (.seq
 (.rg [⟨some 4, none, .mv (.k (.bool false))⟩])
 (.seq
 (.seq
 (.rg [⟨some 6, none, .mv (.t 0)⟩,
   ⟨some 7, none, .len (.t 6)⟩,
   ⟨some 8, none, .mv (.t 1)⟩,
   ⟨some 9, none, .len (.t 8)⟩,
   ⟨some 10, none, .bin 0 .neq (.t 7) (.t 9)⟩])
 (.cond (.t 10)
 (.seq
 (.rg [⟨some 4, none, .mv (.k (.bool false))⟩])
 .ret)
 .skip))
 (.seq
 (.seq
 (.rg [⟨some 5, none, .mv (.k (.int .i64 0))⟩])
 (.block 0
 (.loop
 (.seq
 (.seq
 (.rg [⟨some 11, none, .mv (.t 5)⟩,
   ⟨some 12, none, .mv (.t 0)⟩,
   ⟨some 13, none, .len (.t 12)⟩,
   ⟨some 14, none, .bin 0 .lss (.t 11) (.t 13)⟩])
 (.cond (.t 14)
 .skip
 (.exit 0)))
 (.seq
 (.block 1
 (.seq
 (.rg [⟨some 17, none, .mv (.t 0)⟩,
   ⟨some 18, none, .mv (.t 5)⟩,
   ⟨some 19, none, .idx 4 (.t 17) (.t 18)⟩,
   ⟨some 20, none, .load (some 4) (.t 19)⟩,
   ⟨some 21, none, .mv (.t 1)⟩,
   ⟨some 22, none, .mv (.t 5)⟩,
   ⟨some 23, none, .idx 4 (.t 21) (.t 22)⟩,
   ⟨some 24, none, .load (some 4) (.t 23)⟩,
   ⟨some 25, none, .call n_laws_eqNode S_laws_eqNode [(.t 20, [none, none, none, some 2]), (.t 24, [none, none, none, some 2])]⟩,
   ⟨some 26, none, .un .not (.t 25)⟩])
 (.cond (.t 26)
 (.seq
 (.rg [⟨some 4, none, .mv (.k (.bool false))⟩])
 .ret)
 .skip)))
 (.rg [⟨some 15, none, .mv (.t 5)⟩,
   ⟨some 16, none, .bin 0 .add (.t 15) (.k (.int .i64 1))⟩,
   ⟨some 5, none, .mv (.t 16)⟩]))))))
 (.seq
 (.rg [⟨some 4, none, .mv (.k (.bool true))⟩])
 .ret)))) }
theorem is_laws_eqNodeS : IsF Try.prog n_laws_eqNodeS c_laws_eqNodeS := ⟨Try.f46, _, Try.func46, rfl, by decide, rfl, by kernel_rfl, by kernel_rfl⟩
noncomputable def c_laws_eqWorld : FC := { n := 27, res := [⟨none, 4, []⟩], body :=
 (.seq
 (.rg [⟨some 2, none, .box (.t 0)⟩,
   ⟨some 3, none, .box (.t 1)⟩,
   ⟨some 4, none, .mv (.k (.bool false))⟩])
 (.seq
 (.seq
 (.rg [⟨some 5, none, .fld 0 (.t 2)⟩,
   ⟨some 6, none, .load none (.t 5)⟩,
   ⟨some 7, none, .fld 0 (.t 3)⟩,
   ⟨some 8, none, .load none (.t 7)⟩,
   ⟨some 9, none, .bin 0 .neq (.t 6) (.t 8)⟩])
 (.cond (.t 9)
 (.seq
 (.rg [⟨some 4, none, .mv (.k (.bool false))⟩])
 .ret)
 .skip))
 (.seq
 (.seq
 (.rg [⟨some 10, none, .fld 1 (.t 2)⟩,
   ⟨some 11, none, .load none (.t 10)⟩,
   ⟨some 12, none, .fld 1 (.t 3)⟩,
   ⟨some 13, none, .load none (.t 12)⟩,
   ⟨some 14, none, .call n_laws_eqNodeS S_laws_eqNodeS [(.t 11, [some 4]), (.t 13, [some 4])]⟩,
   ⟨some 15, none, .un .not (.t 14)⟩])
 (.cond (.t 15)
 (.seq
 (.rg [⟨some 4, none, .mv (.k (.bool false))⟩])
 .ret)
 .skip))
 (.seq
 (.seq
 (.rg [⟨some 16, none, .fld 2 (.t 2)⟩,
   ⟨some 17, none, .load none (.t 16)⟩,
   ⟨some 18, none, .fld 2 (.t 3)⟩,
   ⟨some 19, none, .load none (.t 18)⟩,
   ⟨some 20, none, .call n_laws_eqVoteS S_laws_eqVoteS [(.t 17, [some 2]), (.t 19, [some 2])]⟩,
   ⟨some 21, none, .un .not (.t 20)⟩])
 (.cond (.t 21)
 (.seq
 (.rg [⟨some 4, none, .mv (.k (.bool false))⟩])
 .ret)
 .skip))
 (.seq
 (.seq
 (.rg [⟨some 22, none, .fld 3 (.t 2)⟩,
   ⟨some 23, none, .load none (.t 22)⟩,
   ⟨some 24, none, .fld 3 (.t 3)⟩,
   ⟨some 25, none, .load none (.t 24)⟩,
   ⟨some 26, none, .bin 0 .neq (.t 23) (.t 25)⟩])
 (.cond (.t 26)
 (.seq
 (.rg [⟨some 4, none, .mv (.k (.bool false))⟩])
 .ret)
 .skip))
 (.seq
 (.rg [⟨some 4, none, .mv (.k (.bool true))⟩])
 .ret)))))) }
theorem is_laws_eqWorld : IsF Try.prog n_laws_eqWorld c_laws_eqWorld := ⟨Try.f16, _, Try.func16, rfl, by decide, rfl, by kernel_rfl, by kernel_rfl⟩
end Av
end Go.Proofs.Ytlbdoamidblkaaa
