/- The functions' code in the small language, and that it is theirs. -/
import Derived.Test.YtdboofnogabefaaE0
import Derived.Test.YtdboofnogabefaaD1
import Derived.Test.YtdboofnogabefaaProg
import Derived.KernelRfl
set_option linter.unusedVariables false
namespace Go.Proofs.Ytdboofnogabefaa
namespace Av
noncomputable def c_impl_within : FC := { n := 15, res := [⟨none, 6, []⟩], body :=
 (.seq
 (.rg [⟨some 6, none, .mv (.k (.bool false))⟩])
 (.seq
 (.rg [⟨some 7, none, .mv (.t 0)⟩,
   ⟨some 8, none, .mv (.t 1)⟩,
   ⟨some 9, none, .bin 0 .geq (.t 7) (.t 8)⟩,
   ⟨some 10, none, .mv (.t 9)⟩,
   ⟨some 11, some (10, true), .mv (.t 0)⟩,
   ⟨some 12, some (10, true), .mv (.t 2)⟩,
   ⟨some 13, some (10, true), .bin 0 .leq (.t 11) (.t 12)⟩,
   ⟨some 14, none, .pick (.t 10) (.t 13) (.k (.bool false))⟩,
   ⟨some 6, none, .mv (.t 14)⟩])
 .ret)) }
theorem is_impl_within : IsF Try.prog n_impl_within c_impl_within := ⟨Try.f61, _, Try.func61, rfl, by decide, rfl, by kernel_rfl, by kernel_rfl⟩
noncomputable def c_impl_epochOk : FC := { n := 5, res := [⟨none, 2, []⟩], body :=
 (.seq
 (.rg [⟨some 2, none, .mv (.k (.bool false))⟩])
 (.seq
 (.rg [⟨some 3, none, .mv (.t 0)⟩,
   ⟨some 4, none, .call n_impl_within S_impl_within [(.t 3, []), (.k (.int .i64 1), []), (.k (.int .i64 30), [])]⟩,
   ⟨some 2, none, .mv (.t 4)⟩])
 .ret)) }
theorem is_impl_epochOk : IsF Try.prog n_impl_epochOk c_impl_epochOk := ⟨Try.f120, _, Try.func120, rfl, by decide, rfl, by kernel_rfl, by kernel_rfl⟩
noncomputable def c_impl_nodeOk : FC := { n := 5, res := [⟨none, 2, []⟩], body :=
 (.seq
 (.rg [⟨some 2, none, .mv (.k (.bool false))⟩])
 (.seq
 (.rg [⟨some 3, none, .mv (.t 0)⟩,
   ⟨some 4, none, .call n_impl_within S_impl_within [(.t 3, []), (.k (.int .i64 1), []), (.k (.int .i64 4), [])]⟩,
   ⟨some 2, none, .mv (.t 4)⟩])
 .ret)) }
theorem is_impl_nodeOk : IsF Try.prog n_impl_nodeOk c_impl_nodeOk := ⟨Try.f56, _, Try.func56, rfl, by decide, rfl, by kernel_rfl, by kernel_rfl⟩
noncomputable def c_impl_PayOk : FC := { n := 23, res := [⟨none, 2, []⟩], body :=
 (.seq
 (.rg [⟨some 1, none, .box (.t 0)⟩,
   ⟨some 2, none, .mv (.k (.bool false))⟩])
 (.seq
 (.rg [⟨some 3, none, .fld 0 (.t 1)⟩,
   ⟨some 4, none, .load none (.t 3)⟩,
   ⟨some 5, none, .call n_impl_within S_impl_within [(.t 4, []), (.k (.int .i64 1), []), (.k (.int .i64 3), [])]⟩,
   ⟨some 6, none, .mv (.t 5)⟩,
   ⟨some 7, some (6, true), .fld 1 (.t 1)⟩,
   ⟨some 8, some (6, true), .load none (.t 7)⟩,
   ⟨some 9, some (6, true), .call n_impl_within S_impl_within [(.t 8, []), (.k (.int .i64 1), []), (.k (.int .i64 3), [])]⟩,
   ⟨some 10, none, .pick (.t 6) (.t 9) (.k (.bool false))⟩,
   ⟨some 11, none, .mv (.t 10)⟩,
   ⟨some 12, some (11, true), .fld 0 (.t 1)⟩,
   ⟨some 13, some (11, true), .load none (.t 12)⟩,
   ⟨some 14, some (11, true), .fld 1 (.t 1)⟩,
   ⟨some 15, some (11, true), .load none (.t 14)⟩,
   ⟨some 16, some (11, true), .bin 0 .neq (.t 13) (.t 15)⟩,
   ⟨some 17, none, .pick (.t 11) (.t 16) (.k (.bool false))⟩,
   ⟨some 18, none, .mv (.t 17)⟩,
   ⟨some 19, some (18, true), .fld 2 (.t 1)⟩,
   ⟨some 20, some (18, true), .load none (.t 19)⟩,
   ⟨some 21, some (18, true), .call n_impl_within S_impl_within [(.t 20, []), (.k (.int .i64 1), []), (.k (.int .i64 9), [])]⟩,
   ⟨some 22, none, .pick (.t 18) (.t 21) (.k (.bool false))⟩,
   ⟨some 2, none, .mv (.t 22)⟩])
 .ret)) }
theorem is_impl_PayOk : IsF Try.prog n_impl_PayOk c_impl_PayOk := ⟨Try.f58, _, Try.func58, rfl, by decide, rfl, by kernel_rfl, by kernel_rfl⟩
noncomputable def c_impl_ChainOk : FC := { n := 41, res := [⟨none, 2, []⟩], body :=
 (.seq
 (.rg [⟨some 2, none, .mv (.k (.bool false))⟩])
 (.seq
 (.seq
 (.rg [⟨some 5, none, .mv (.t 0)⟩,
   ⟨some 6, none, .len (.t 5)⟩,
   ⟨some 7, none, .mv (.k (.int .i64 0))⟩])
 (.block 0
 (.loop
 (.seq
 (.rg [⟨some 8, none, .bin 0 .lss (.t 7) (.t 6)⟩])
 (.seq
 (.cond (.t 8)
 .skip
 (.exit 0))
 (.seq
 (.block 1
 (.seq
 (.rg [⟨some 9, none, .mv (.t 7)⟩,
   ⟨some 10, none, .idx 4 (.t 5) (.t 7)⟩,
   ⟨some 11, none, .load (some 4) (.t 10)⟩,
   ⟨some 4, none, .alloc [.int .i64 0, .int .i64 0, .int .i64 0, .int .i64 0]⟩,
   ⟨some 3, none, .mv (.t 9)⟩,
   ⟨none, none, .store 4 (.t 4) (.t 11)⟩])
 (.seq
 (.rg [⟨some 12, none, .fld 0 (.t 4)⟩,
   ⟨some 13, none, .load none (.t 12)⟩,
   ⟨some 14, none, .call n_impl_epochOk S_impl_epochOk [(.t 13, [])]⟩,
   ⟨some 15, none, .un .not (.t 14)⟩,
   ⟨some 16, none, .mv (.t 15)⟩,
   ⟨some 17, some (16, false), .fld 1 (.t 4)⟩,
   ⟨some 18, some (16, false), .load (some 3) (.t 17)⟩,
   ⟨some 19, some (16, false), .call n_impl_PayOk S_impl_PayOk [(.t 18, [])]⟩,
   ⟨some 20, some (16, false), .un .not (.t 19)⟩,
   ⟨some 21, none, .pick (.t 16) (.k (.bool true)) (.t 20)⟩,
   ⟨some 22, none, .mv (.t 21)⟩,
   ⟨some 23, some (22, false), .mv (.t 3)⟩,
   ⟨some 24, some (22, false), .bin 0 .gtr (.t 23) (.k (.int .i64 0))⟩,
   ⟨some 25, some (22, false), .mv (.t 24)⟩,
   ⟨some 26, some (25, true), .mv (.t 0)⟩,
   ⟨some 27, some (25, true), .mv (.t 3)⟩,
   ⟨some 28, some (25, true), .bin 0 .sub (.t 27) (.k (.int .i64 1))⟩,
   ⟨some 29, some (25, true), .idx 4 (.t 26) (.t 28)⟩,
   ⟨some 30, some (25, true), .fld 0 (.t 29)⟩,
   ⟨some 31, some (25, true), .load none (.t 30)⟩,
   ⟨some 32, some (25, true), .fld 0 (.t 4)⟩,
   ⟨some 33, some (25, true), .load none (.t 32)⟩,
   ⟨some 34, some (25, true), .bin 0 .geq (.t 31) (.t 33)⟩,
   ⟨some 35, some (22, false), .pick (.t 25) (.t 34) (.k (.bool false))⟩,
   ⟨some 36, none, .pick (.t 22) (.k (.bool true)) (.t 35)⟩])
 (.cond (.t 36)
 (.seq
 (.rg [⟨some 2, none, .mv (.k (.bool false))⟩])
 .ret)
 .skip))))
 (.rg [⟨some 37, none, .bin 0 .add (.t 7) (.k (.int .i64 1))⟩,
   ⟨some 7, none, .mv (.t 37)⟩])))))))
 (.seq
 (.rg [⟨some 38, none, .mv (.t 0)⟩,
   ⟨some 39, none, .len (.t 38)⟩,
   ⟨some 40, none, .bin 0 .leq (.t 39) (.k (.int .i64 16))⟩,
   ⟨some 2, none, .mv (.t 40)⟩])
 .ret))) }
theorem is_impl_ChainOk : IsF Try.prog n_impl_ChainOk c_impl_ChainOk := ⟨Try.f75, _, Try.func75, rfl, by decide, rfl, by kernel_rfl, by kernel_rfl⟩
noncomputable def c_slices_Clip_ItemS : FC := { n := 9, res := [⟨none, 2, [some 4]⟩], body :=
 (.seq
 (.rg [⟨some 2, none, .mv (.k (.slice none 0 0))⟩])
 (.seq
 (.rg [⟨some 3, none, .mv (.t 0)⟩,
   ⟨some 4, none, .mv (.t 0)⟩,
   ⟨some 5, none, .len (.t 4)⟩,
   ⟨some 6, none, .mv (.t 0)⟩,
   ⟨some 7, none, .len (.t 6)⟩,
   ⟨some 8, none, .slc 4 (.t 3) none (some (.t 5)) (some (.t 7))⟩,
   ⟨some 2, none, .mv (.t 8)⟩])
 .ret)) }
theorem is_slices_Clip_ItemS : IsF Try.prog n_slices_Clip_ItemS c_slices_Clip_ItemS := ⟨Try.f118, _, Try.func118, rfl, by decide, rfl, by kernel_rfl, by kernel_rfl⟩
noncomputable def c_slices_Clone_ItemS : FC := { n := 8, res := [⟨none, 2, [some 4]⟩], body :=
 (.seq
 (.rg [⟨some 2, none, .mv (.k (.slice none 0 0))⟩])
 (.seq
 (.seq
 (.rg [⟨some 3, none, .mv (.t 0)⟩,
   ⟨some 4, none, .bin 3 .eql (.t 3) (.k (.slice none 0 0))⟩])
 (.cond (.t 4)
 (.seq
 (.rg [⟨some 2, none, .mv (.k (.slice none 0 0))⟩])
 .ret)
 .skip))
 (.seq
 (.rg [⟨some 5, none, .bsl 54 4 []⟩,
   ⟨some 6, none, .mv (.t 0)⟩,
   ⟨some 7, none, .app 54 4 32 [.int .i64 0, .int .i64 0, .int .i64 0, .int .i64 0] (.t 5) (.t 6)⟩,
   ⟨some 2, none, .mv (.t 7)⟩])
 .ret))) }
theorem is_slices_Clone_ItemS : IsF Try.prog n_slices_Clone_ItemS c_slices_Clone_ItemS := ⟨Try.f119, _, Try.func119, rfl, by decide, rfl, by kernel_rfl, by kernel_rfl⟩
noncomputable def c_impl_copied : FC := { n := 6, res := [⟨none, 2, [some 4]⟩], body :=
 (.seq
 (.rg [⟨some 2, none, .mv (.k (.slice none 0 0))⟩])
 (.seq
 (.rg [⟨some 3, none, .mv (.t 0)⟩,
   ⟨some 4, none, .call n_slices_Clone_ItemS S_slices_Clone_ItemS [(.t 3, [some 4])]⟩,
   ⟨some 5, none, .call n_slices_Clip_ItemS S_slices_Clip_ItemS [(.t 4, [some 4])]⟩,
   ⟨some 2, none, .mv (.t 5)⟩])
 .ret)) }
theorem is_impl_copied : IsF Try.prog n_impl_copied c_impl_copied := ⟨Try.f71, _, Try.func71, rfl, by decide, rfl, by kernel_rfl, by kernel_rfl⟩
theorem eqI : EqInts Try.prog 54 4 := eqInts_item (by kernel_rfl)
theorem mixed : Try.prog.follows .mixedOrders = true := by kernel_rfl
end Av
end Go.Proofs.Ytdboofnogabefaa
