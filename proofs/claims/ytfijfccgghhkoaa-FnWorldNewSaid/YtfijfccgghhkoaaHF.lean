/- The functions' code in the small language, and that it is theirs. -/
import Derived.Test.YtfijfccgghhkoaaHE
import Derived.Test.YtfijfccgghhkoaaD1
import Derived.Test.YtfijfccgghhkoaaProg
import Derived.KernelRfl
set_option linter.unusedVariables false
namespace Go.Proofs.Ytfijfccgghhkoaa
namespace Av
noncomputable def c_slices_ContainsFunc_VoteS_s : FC := { n := 9, res := [⟨none, 4, []⟩], body :=
 (.seq
 (.rg [⟨some 4, none, .mv (.k (.bool false))⟩])
 (.seq
 (.rg [⟨some 5, none, .mv (.t 0)⟩,
   ⟨some 6, none, .mv (.t 1)⟩,
   ⟨some 7, none, .call n_slices_IndexFunc_VoteS S_slices_IndexFunc_VoteS_s [(.t 5, [some 2]), (.t 6, [])]⟩,
   ⟨some 8, none, .bin 0 .geq (.t 7) (.k (.int .i64 0))⟩,
   ⟨some 4, none, .mv (.t 8)⟩])
 .ret)) }
theorem is_slices_ContainsFunc_VoteS_s : IsF Try.prog n_slices_ContainsFunc_VoteS_s c_slices_ContainsFunc_VoteS_s := ⟨Try.f62, _, Try.func62, rfl, by decide, rfl, by kernel_rfl, by kernel_rfl⟩
noncomputable def c_impl_WorldOk_s : FC := { n := 63, res := [⟨none, 2, []⟩], body :=
 (.seq
 (.rg [⟨some 1, none, .box (.t 0)⟩,
   ⟨some 2, none, .mv (.k (.bool false))⟩])
 (.seq
 (.seq
 (.rg [⟨some 5, none, .fld 0 (.t 1)⟩,
   ⟨some 6, none, .load none (.t 5)⟩,
   ⟨some 7, none, .call n_impl_within S_impl_within [(.t 6, []), (.k (.int .i64 0), []), (.k (.int .i64 30), [])]⟩,
   ⟨some 8, none, .un .not (.t 7)⟩,
   ⟨some 9, none, .mv (.t 8)⟩,
   ⟨some 10, some (9, false), .fld 3 (.t 1)⟩,
   ⟨some 11, some (9, false), .load none (.t 10)⟩,
   ⟨some 12, some (9, false), .call n_impl_within S_impl_within [(.t 11, []), (.k (.int .i64 0), []), (.k (.int .i64 4), [])]⟩,
   ⟨some 13, some (9, false), .un .not (.t 12)⟩,
   ⟨some 14, none, .pick (.t 9) (.k (.bool true)) (.t 13)⟩,
   ⟨some 15, none, .mv (.t 14)⟩,
   ⟨some 16, some (15, false), .fld 1 (.t 1)⟩,
   ⟨some 17, some (15, false), .load none (.t 16)⟩,
   ⟨some 18, some (15, false), .len (.t 17)⟩,
   ⟨some 19, some (15, false), .bin 0 .neq (.t 18) (.k (.int .i64 4))⟩,
   ⟨some 20, none, .pick (.t 15) (.k (.bool true)) (.t 19)⟩,
   ⟨some 21, none, .mv (.t 20)⟩,
   ⟨some 22, some (21, false), .fld 2 (.t 1)⟩,
   ⟨some 23, some (21, false), .load none (.t 22)⟩,
   ⟨some 24, some (21, false), .len (.t 23)⟩,
   ⟨some 25, some (21, false), .bin 0 .gtr (.t 24) (.k (.int .i64 80))⟩,
   ⟨some 26, none, .pick (.t 21) (.k (.bool true)) (.t 25)⟩,
   ⟨some 27, none, .mv (.t 26)⟩,
   ⟨some 28, some (27, false), .fld 2 (.t 1)⟩,
   ⟨some 29, some (27, false), .load none (.t 28)⟩,
   ⟨some 30, some (27, false), .call n_impl_VotesOk S_impl_VotesOk [(.t 29, [some 2])]⟩,
   ⟨some 31, some (27, false), .un .not (.t 30)⟩,
   ⟨some 32, none, .pick (.t 27) (.k (.bool true)) (.t 31)⟩])
 (.cond (.t 32)
 (.seq
 (.rg [⟨some 2, none, .mv (.k (.bool false))⟩])
 .ret)
 .skip))
 (.seq
 (.seq
 (.rg [⟨some 33, none, .fld 1 (.t 1)⟩,
   ⟨some 34, none, .load none (.t 33)⟩,
   ⟨some 35, none, .len (.t 34)⟩,
   ⟨some 36, none, .mv (.k (.int .i64 0))⟩])
 (.block 0
 (.loop
 (.seq
 (.rg [⟨some 37, none, .bin 0 .lss (.t 36) (.t 35)⟩])
 (.seq
 (.cond (.t 37)
 .skip
 (.exit 0))
 (.seq
 (.block 1
 (.seq
 (.rg [⟨some 38, none, .mv (.t 36)⟩,
   ⟨some 39, none, .idx 4 (.t 34) (.t 36)⟩,
   ⟨some 40, none, .load (some 4) (.t 39)⟩,
   ⟨some 4, none, .alloc [.int .i64 0, .int .i64 0, .int .i64 0, .slice none 0 0]⟩,
   ⟨some 3, none, .mv (.t 38)⟩,
   ⟨none, none, .store 4 (.t 4) (.t 40)⟩])
 (.seq
 (.seq
 (.rg [⟨some 41, none, .load (some 4) (.t 4)⟩,
   ⟨some 42, none, .call n_impl_NodeOk S_impl_NodeOk [(.t 41, [none, none, none, some 2])]⟩,
   ⟨some 43, none, .un .not (.t 42)⟩,
   ⟨some 44, none, .mv (.t 43)⟩,
   ⟨some 45, some (44, false), .fld 0 (.t 4)⟩,
   ⟨some 46, some (44, false), .load none (.t 45)⟩,
   ⟨some 47, some (44, false), .mv (.t 3)⟩,
   ⟨some 48, some (44, false), .bin 0 .add (.t 47) (.k (.int .i64 1))⟩,
   ⟨some 49, some (44, false), .bin 0 .neq (.t 46) (.t 48)⟩,
   ⟨some 50, none, .pick (.t 44) (.k (.bool true)) (.t 49)⟩,
   ⟨some 51, none, .mv (.t 50)⟩,
   ⟨some 52, some (51, false), .fld 1 (.t 4)⟩,
   ⟨some 53, some (51, false), .load none (.t 52)⟩,
   ⟨some 54, some (51, false), .fld 0 (.t 1)⟩,
   ⟨some 55, some (51, false), .load none (.t 54)⟩,
   ⟨some 56, some (51, false), .bin 0 .neq (.t 53) (.t 55)⟩,
   ⟨some 57, none, .pick (.t 51) (.k (.bool true)) (.t 56)⟩])
 (.cond (.t 57)
 (.seq
 (.rg [⟨some 2, none, .mv (.k (.bool false))⟩])
 .ret)
 .skip))
 (.seq
 (.rg [⟨some 58, none, .fld 3 (.t 4)⟩,
   ⟨some 59, none, .load none (.t 58)⟩,
   ⟨some 60, none, .mkfn (.func n_impl_WorldOk_1) [] [.t 1]⟩,
   ⟨some 61, none, .call n_slices_ContainsFunc_VoteS S_slices_ContainsFunc_VoteS_s [(.t 59, [some 2]), (.t 60, [])]⟩])
 (.cond (.t 61)
 (.seq
 (.rg [⟨some 2, none, .mv (.k (.bool false))⟩])
 .ret)
 .skip)))))
 (.rg [⟨some 62, none, .bin 0 .add (.t 36) (.k (.int .i64 1))⟩,
   ⟨some 36, none, .mv (.t 62)⟩])))))))
 (.seq
 (.rg [⟨some 2, none, .mv (.k (.bool true))⟩])
 .ret)))) }
theorem is_impl_WorldOk_s : IsF Try.prog n_impl_WorldOk_s c_impl_WorldOk_s := ⟨Try.f38, _, Try.func38, rfl, by decide, rfl, by kernel_rfl, by kernel_rfl⟩
noncomputable def c_spec_DrawWorldNew : FC := { n := 7, res := [⟨none, 2, []⟩], body :=
 (.seq
 (.rg [⟨some 2, none, .mv (.k (.int .i64 0))⟩])
 (.seq
 (.rg [⟨some 3, none, .mv (.t 0)⟩,
   ⟨some 4, none, .callm n_spec_l6Open S_spec_l6Open [(.t 3, [some 1])]⟩,
   ⟨some 5, none, .call n_spec_l6Rd_pick S_spec_l6Rd_pick [(.t 4, []), (.k (.int .i64 7), [])]⟩,
   ⟨some 6, none, .bin 0 .sub (.t 5) (.k (.int .i64 1))⟩,
   ⟨some 2, none, .mv (.t 6)⟩])
 .ret)) }
theorem is_spec_DrawWorldNew : IsF Try.prog n_spec_DrawWorldNew c_spec_DrawWorldNew := ⟨Try.f34, _, Try.func34, rfl, by decide, rfl, by kernel_rfl, by kernel_rfl⟩
noncomputable def c_laws_lwFits : FC := { n := 13, res := [⟨none, 4, []⟩], body :=
 (.seq
 (.rg [⟨some 4, none, .mv (.k (.bool false))⟩])
 (.seq
 (.rg [⟨some 5, none, .mv (.t 0)⟩,
   ⟨some 6, none, .mv (.t 1)⟩,
   ⟨some 7, none, .call n_impl_ChainIn S_impl_ChainIn [(.t 5, [some 4]), (.t 6, [some 4])]⟩,
   ⟨some 8, none, .mv (.t 7)⟩,
   ⟨some 9, some (8, false), .mv (.t 1)⟩,
   ⟨some 10, some (8, false), .mv (.t 0)⟩,
   ⟨some 11, some (8, false), .call n_impl_ChainIn S_impl_ChainIn [(.t 9, [some 4]), (.t 10, [some 4])]⟩,
   ⟨some 12, none, .pick (.t 8) (.k (.bool true)) (.t 11)⟩,
   ⟨some 4, none, .mv (.t 12)⟩])
 .ret)) }
theorem is_laws_lwFits : IsF Try.prog n_laws_lwFits c_laws_lwFits := ⟨Try.f79, _, Try.func79, rfl, by decide, rfl, by kernel_rfl, by kernel_rfl⟩
noncomputable def c_laws_lwAgreed : FC := { n := 47, res := [⟨none, 2, []⟩], body :=
 (.seq
 (.rg [⟨some 1, none, .box (.t 0)⟩,
   ⟨some 2, none, .mv (.k (.bool false))⟩])
 (.seq
 (.seq
 (.rg [⟨some 3, none, .mv (.k (.int .i64 0))⟩])
 (.block 0
 (.loop
 (.seq
 (.seq
 (.rg [⟨some 5, none, .mv (.t 3)⟩,
   ⟨some 6, none, .fld 1 (.t 1)⟩,
   ⟨some 7, none, .load none (.t 6)⟩,
   ⟨some 8, none, .len (.t 7)⟩,
   ⟨some 9, none, .bin 0 .lss (.t 5) (.t 8)⟩])
 (.cond (.t 9)
 .skip
 (.exit 0)))
 (.seq
 (.block 1
 (.seq
 (.rg [⟨some 4, none, .mv (.k (.int .i64 0))⟩])
 (.block 2
 (.loop
 (.seq
 (.seq
 (.rg [⟨some 12, none, .mv (.t 4)⟩,
   ⟨some 13, none, .mv (.t 3)⟩,
   ⟨some 14, none, .bin 0 .lss (.t 12) (.t 13)⟩])
 (.cond (.t 14)
 .skip
 (.exit 2)))
 (.seq
 (.block 3
 (.seq
 (.rg [⟨some 17, none, .mv (.t 3)⟩,
   ⟨some 18, none, .bin 0 .add (.t 17) (.k (.int .i64 1))⟩,
   ⟨some 19, none, .fld 3 (.t 1)⟩,
   ⟨some 20, none, .load none (.t 19)⟩,
   ⟨some 21, none, .bin 0 .neq (.t 18) (.t 20)⟩,
   ⟨some 22, none, .mv (.t 21)⟩,
   ⟨some 23, some (22, true), .mv (.t 4)⟩,
   ⟨some 24, some (22, true), .bin 0 .add (.t 23) (.k (.int .i64 1))⟩,
   ⟨some 25, some (22, true), .fld 3 (.t 1)⟩,
   ⟨some 26, some (22, true), .load none (.t 25)⟩,
   ⟨some 27, some (22, true), .bin 0 .neq (.t 24) (.t 26)⟩,
   ⟨some 28, none, .pick (.t 22) (.t 27) (.k (.bool false))⟩,
   ⟨some 29, none, .mv (.t 28)⟩,
   ⟨some 30, some (29, true), .fld 1 (.t 1)⟩,
   ⟨some 31, some (29, true), .load none (.t 30)⟩,
   ⟨some 32, some (29, true), .mv (.t 3)⟩,
   ⟨some 33, some (29, true), .idx 4 (.t 31) (.t 32)⟩,
   ⟨some 34, some (29, true), .fld 3 (.t 33)⟩,
   ⟨some 35, some (29, true), .load none (.t 34)⟩,
   ⟨some 36, some (29, true), .call n_impl_TreeFinal S_impl_TreeFinal [(.t 35, [some 2])]⟩,
   ⟨some 37, some (29, true), .fld 1 (.t 1)⟩,
   ⟨some 38, some (29, true), .load none (.t 37)⟩,
   ⟨some 39, some (29, true), .mv (.t 4)⟩,
   ⟨some 40, some (29, true), .idx 4 (.t 38) (.t 39)⟩,
   ⟨some 41, some (29, true), .fld 3 (.t 40)⟩,
   ⟨some 42, some (29, true), .load none (.t 41)⟩,
   ⟨some 43, some (29, true), .call n_impl_TreeFinal S_impl_TreeFinal [(.t 42, [some 2])]⟩,
   ⟨some 44, some (29, true), .call n_laws_lwFits S_laws_lwFits [(.t 36, [some 4]), (.t 43, [some 4])]⟩,
   ⟨some 45, some (29, true), .un .not (.t 44)⟩,
   ⟨some 46, none, .pick (.t 29) (.t 45) (.k (.bool false))⟩])
 (.cond (.t 46)
 (.seq
 (.rg [⟨some 2, none, .mv (.k (.bool false))⟩])
 .ret)
 .skip)))
 (.rg [⟨some 15, none, .mv (.t 4)⟩,
   ⟨some 16, none, .bin 0 .add (.t 15) (.k (.int .i64 1))⟩,
   ⟨some 4, none, .mv (.t 16)⟩])))))))
 (.rg [⟨some 10, none, .mv (.t 3)⟩,
   ⟨some 11, none, .bin 0 .add (.t 10) (.k (.int .i64 1))⟩,
   ⟨some 3, none, .mv (.t 11)⟩]))))))
 (.seq
 (.rg [⟨some 2, none, .mv (.k (.bool true))⟩])
 .ret))) }
theorem is_laws_lwAgreed : IsF Try.prog n_laws_lwAgreed c_laws_lwAgreed := ⟨Try.f39, _, Try.func39, rfl, by decide, rfl, by kernel_rfl, by kernel_rfl⟩
noncomputable def c_laws_FnWorldNew : FC := { n := 67, res := [⟨none, 2, []⟩], body :=
 (.seq
 (.rg [⟨some 2, none, .mv (.k (.bool false))⟩])
 (.seq
 (.seq
 (.rg [⟨some 8, none, .mv (.t 0)⟩,
   ⟨some 9, none, .len (.t 8)⟩,
   ⟨some 10, none, .bin 0 .gtr (.t 9) (.k (.int .i64 1048576))⟩])
 (.cond (.t 10)
 (.seq
 (.rg [⟨some 2, none, .mv (.k (.bool true))⟩])
 .ret)
 .skip))
 (.seq
 (.rg [⟨some 11, none, .mv (.t 0)⟩,
   ⟨some 12, none, .call n_spec_DrawWorldNew S_spec_DrawWorldNew [(.t 11, [some 1])]⟩,
   ⟨some 3, none, .mv (.t 12)⟩])
 (.seq
 (.rg [⟨some 14, none, .mv (.t 3)⟩,
   ⟨some 15, none, .callm n_spec_WorldNew S_spec_WorldNew_s [(.t 14, [])]⟩,
   ⟨some 13, none, .mv (.t 15)⟩,
   ⟨some 16, none, .ext (.t 13) 0⟩,
   ⟨some 17, none, .ext (.t 13) 1⟩,
   ⟨some 4, none, .alloc [.int .i64 0, .slice none 0 0, .slice none 0 0, .int .i64 0]⟩,
   ⟨none, none, .store 4 (.t 4) (.t 16)⟩,
   ⟨some 5, none, .mv (.t 17)⟩])
 (.seq
 (.rg [⟨some 19, none, .mv (.t 3)⟩,
   ⟨some 20, none, .callm n_impl_WorldNew S_impl_WorldNew_s [(.t 19, [])]⟩,
   ⟨some 18, none, .mv (.t 20)⟩,
   ⟨some 21, none, .ext (.t 18) 0⟩,
   ⟨some 22, none, .ext (.t 18) 1⟩,
   ⟨some 6, none, .alloc [.int .i64 0, .slice none 0 0, .slice none 0 0, .int .i64 0]⟩,
   ⟨none, none, .store 4 (.t 6) (.t 21)⟩,
   ⟨some 7, none, .mv (.t 22)⟩])
 (.seq
 (.seq
 (.rg [⟨some 23, none, .mv (.t 7)⟩,
   ⟨some 24, none, .mv (.t 5)⟩,
   ⟨some 25, none, .bin 1 .neq (.t 23) (.t 24)⟩,
   ⟨some 26, none, .mv (.t 25)⟩,
   ⟨some 27, some (26, false), .load (some 4) (.t 6)⟩,
   ⟨some 28, some (26, false), .load (some 4) (.t 4)⟩,
   ⟨some 29, some (26, false), .call n_laws_lwWorld S_laws_lwWorld [(.t 27, [none, some 4, some 2]), (.t 28, [none, some 4, some 2])]⟩,
   ⟨some 30, some (26, false), .un .not (.t 29)⟩,
   ⟨some 31, none, .pick (.t 26) (.k (.bool true)) (.t 30)⟩,
   ⟨some 32, none, .mv (.t 31)⟩,
   ⟨some 33, some (32, false), .mv (.t 7)⟩,
   ⟨some 34, some (32, false), .un .not (.t 33)⟩,
   ⟨some 35, none, .pick (.t 32) (.k (.bool true)) (.t 34)⟩])
 (.cond (.t 35)
 (.seq
 (.rg [⟨some 36, none, .mv (.t 7)⟩,
   ⟨some 37, none, .mv (.t 5)⟩,
   ⟨some 38, none, .bin 1 .eql (.t 36) (.t 37)⟩,
   ⟨some 39, none, .mv (.t 38)⟩,
   ⟨some 40, some (39, true), .load (some 4) (.t 6)⟩,
   ⟨some 41, some (39, true), .load (some 4) (.t 4)⟩,
   ⟨some 42, some (39, true), .call n_laws_lwWorld S_laws_lwWorld [(.t 40, [none, some 4, some 2]), (.t 41, [none, some 4, some 2])]⟩,
   ⟨some 43, none, .pick (.t 39) (.t 42) (.k (.bool false))⟩,
   ⟨some 2, none, .mv (.t 43)⟩])
 .ret)
 .skip))
 (.seq
 (.rg [⟨some 44, none, .load (some 4) (.t 6)⟩,
   ⟨some 45, none, .call n_impl_WorldOk S_impl_WorldOk_s [(.t 44, [none, some 4, some 2])]⟩,
   ⟨some 46, none, .mv (.t 45)⟩,
   ⟨some 47, some (46, true), .fld 0 (.t 6)⟩,
   ⟨some 48, some (46, true), .load none (.t 47)⟩,
   ⟨some 49, some (46, true), .bin 0 .eql (.t 48) (.k (.int .i64 0))⟩,
   ⟨some 50, none, .pick (.t 46) (.t 49) (.k (.bool false))⟩,
   ⟨some 51, none, .mv (.t 50)⟩,
   ⟨some 52, some (51, true), .fld 2 (.t 6)⟩,
   ⟨some 53, some (51, true), .load none (.t 52)⟩,
   ⟨some 54, some (51, true), .len (.t 53)⟩,
   ⟨some 55, some (51, true), .bin 0 .eql (.t 54) (.k (.int .i64 0))⟩,
   ⟨some 56, none, .pick (.t 51) (.t 55) (.k (.bool false))⟩,
   ⟨some 57, none, .mv (.t 56)⟩,
   ⟨some 58, some (57, true), .fld 1 (.t 6)⟩,
   ⟨some 59, some (57, true), .load none (.t 58)⟩,
   ⟨some 60, some (57, true), .len (.t 59)⟩,
   ⟨some 61, some (57, true), .bin 0 .eql (.t 60) (.k (.int .i64 4))⟩,
   ⟨some 62, none, .pick (.t 57) (.t 61) (.k (.bool false))⟩,
   ⟨some 63, none, .mv (.t 62)⟩,
   ⟨some 64, some (63, true), .load (some 4) (.t 6)⟩,
   ⟨some 65, some (63, true), .call n_laws_lwAgreed S_laws_lwAgreed [(.t 64, [none, some 4, some 2])]⟩,
   ⟨some 66, none, .pick (.t 63) (.t 65) (.k (.bool false))⟩,
   ⟨some 2, none, .mv (.t 66)⟩])
 .ret))))))) }
theorem is_laws_FnWorldNew : IsF Try.prog n_laws_FnWorldNew c_laws_FnWorldNew := ⟨Try.f7, _, Try.func7, rfl, by decide, rfl, by kernel_rfl, by kernel_rfl⟩
end Av
end Go.Proofs.Ytfijfccgghhkoaa
