/- The functions' code in the small language, and that it is theirs. -/
import Derived.Test.YtdboofnogabefaaU0
import Derived.Test.YtdboofnogabefaaD1
import Derived.Test.YtdboofnogabefaaProg
import Derived.KernelRfl
set_option linter.unusedVariables false
namespace Go.Proofs.Ytdboofnogabefaa
namespace Av
noncomputable def c_impl_votersOk : FC := { n := 32, res := [⟨none, 2, []⟩], body :=
 (.seq
 (.rg [⟨some 2, none, .mv (.k (.bool false))⟩])
 (.seq
 (.seq
 (.rg [⟨some 5, none, .mv (.t 0)⟩,
   ⟨some 6, none, .len (.t 5)⟩,
   ⟨some 7, none, .mv (.k (.int .i64 0))⟩])
 (.block 0
 (.loop
 (.seq
 (.rg [⟨some 8, none, .bin 0 .lss (.t 7) (.t 6)⟩])
 (.seq
 (.cond (.t 8)
 .skip
 (.exit 0))
 (.seq
 (.block 1
 (.seq
 (.rg [⟨some 9, none, .mv (.t 7)⟩,
   ⟨some 10, none, .idx 1 (.t 5) (.t 7)⟩,
   ⟨some 11, none, .load none (.t 10)⟩,
   ⟨some 3, none, .mv (.t 9)⟩,
   ⟨some 4, none, .mv (.t 11)⟩])
 (.seq
 (.rg [⟨some 12, none, .mv (.t 4)⟩,
   ⟨some 13, none, .call n_impl_nodeOk S_impl_nodeOk [(.t 12, [])]⟩,
   ⟨some 14, none, .un .not (.t 13)⟩,
   ⟨some 15, none, .mv (.t 14)⟩,
   ⟨some 16, some (15, false), .mv (.t 3)⟩,
   ⟨some 17, some (15, false), .bin 0 .gtr (.t 16) (.k (.int .i64 0))⟩,
   ⟨some 18, some (15, false), .mv (.t 17)⟩,
   ⟨some 19, some (18, true), .mv (.t 0)⟩,
   ⟨some 20, some (18, true), .mv (.t 3)⟩,
   ⟨some 21, some (18, true), .bin 0 .sub (.t 20) (.k (.int .i64 1))⟩,
   ⟨some 22, some (18, true), .idx 1 (.t 19) (.t 21)⟩,
   ⟨some 23, some (18, true), .load none (.t 22)⟩,
   ⟨some 24, some (18, true), .mv (.t 4)⟩,
   ⟨some 25, some (18, true), .bin 0 .geq (.t 23) (.t 24)⟩,
   ⟨some 26, some (15, false), .pick (.t 18) (.t 25) (.k (.bool false))⟩,
   ⟨some 27, none, .pick (.t 15) (.k (.bool true)) (.t 26)⟩])
 (.cond (.t 27)
 (.seq
 (.rg [⟨some 2, none, .mv (.k (.bool false))⟩])
 .ret)
 .skip))))
 (.rg [⟨some 28, none, .bin 0 .add (.t 7) (.k (.int .i64 1))⟩,
   ⟨some 7, none, .mv (.t 28)⟩])))))))
 (.seq
 (.rg [⟨some 29, none, .mv (.t 0)⟩,
   ⟨some 30, none, .len (.t 29)⟩,
   ⟨some 31, none, .bin 0 .geq (.t 30) (.k (.int .i64 3))⟩,
   ⟨some 2, none, .mv (.t 31)⟩])
 .ret))) }
theorem is_impl_votersOk : IsF Try.prog n_impl_votersOk c_impl_votersOk := ⟨Try.f117, _, Try.func117, rfl, by decide, rfl, by kernel_rfl, by kernel_rfl⟩
noncomputable def c_impl_CertOk_1 : FC := { n := 6, res := [⟨none, 2, []⟩], body :=
 (.seq
 (.rg [⟨some 2, none, .mv (.k (.bool false))⟩])
 (.seq
 (.rg [⟨some 3, none, .mv (.t 0)⟩,
   ⟨some 4, none, .call n_impl_votersOk S_impl_votersOk [(.t 3, [some 1])]⟩,
   ⟨some 5, none, .un .not (.t 4)⟩,
   ⟨some 2, none, .mv (.t 5)⟩])
 .ret)) }
theorem is_impl_CertOk_1 : IsF Try.prog n_impl_CertOk_1 c_impl_CertOk_1 := ⟨Try.f116, _, Try.func116, rfl, by decide, rfl, by kernel_rfl, by kernel_rfl⟩
noncomputable def c_slices_IndexFunc_nSS (K : FSpec) : FC := { n := 19, res := [⟨none, 4, []⟩], body :=
 (.seq
 (.rg [⟨some 4, none, .mv (.k (.int .i64 0))⟩])
 (.seq
 (.seq
 (.rg [⟨some 6, none, .mv (.t 0)⟩,
   ⟨some 7, none, .len (.t 6)⟩,
   ⟨some 8, none, .mv (.k (.int .i64 0))⟩])
 (.block 0
 (.loop
 (.seq
 (.rg [⟨some 9, none, .bin 0 .lss (.t 8) (.t 7)⟩])
 (.seq
 (.cond (.t 9)
 .skip
 (.exit 0))
 (.seq
 (.block 1
 (.seq
 (.rg [⟨some 10, none, .mv (.t 8)⟩,
   ⟨some 5, none, .mv (.t 10)⟩])
 (.seq
 (.rg [⟨some 11, none, .mv (.t 1)⟩,
   ⟨some 12, none, .mv (.t 0)⟩,
   ⟨some 13, none, .mv (.t 5)⟩,
   ⟨some 14, none, .idx 1 (.t 12) (.t 13)⟩,
   ⟨some 15, none, .load none (.t 14)⟩,
   ⟨some 16, none, .callv (.t 11) K [(.t 15, [some 1])]⟩])
 (.cond (.t 16)
 (.seq
 (.rg [⟨some 17, none, .mv (.t 5)⟩,
   ⟨some 4, none, .mv (.t 17)⟩])
 .ret)
 .skip))))
 (.rg [⟨some 18, none, .bin 0 .add (.t 8) (.k (.int .i64 1))⟩,
   ⟨some 8, none, .mv (.t 18)⟩])))))))
 (.seq
 (.rg [⟨some 4, none, .mv (.k (.int .i64 (-1)))⟩])
 .ret))) }
theorem is_slices_IndexFunc_nSS (K : FSpec) : IsF Try.prog n_slices_IndexFunc_nSS (c_slices_IndexFunc_nSS K) := ⟨Try.f146, _, Try.func146, rfl, by decide, rfl, by kernel_rfl, by kernel_rfl⟩
noncomputable def c_slices_ContainsFunc_nSS : FC := { n := 9, res := [⟨none, 4, []⟩], body :=
 (.seq
 (.rg [⟨some 4, none, .mv (.k (.bool false))⟩])
 (.seq
 (.rg [⟨some 5, none, .mv (.t 0)⟩,
   ⟨some 6, none, .mv (.t 1)⟩,
   ⟨some 7, none, .call n_slices_IndexFunc_nSS S_slices_IndexFunc_nSS [(.t 5, [some 1]), (.t 6, [])]⟩,
   ⟨some 8, none, .bin 0 .geq (.t 7) (.k (.int .i64 0))⟩,
   ⟨some 4, none, .mv (.t 8)⟩])
 .ret)) }
theorem is_slices_ContainsFunc_nSS : IsF Try.prog n_slices_ContainsFunc_nSS c_slices_ContainsFunc_nSS := ⟨Try.f115, _, Try.func115, rfl, by decide, rfl, by kernel_rfl, by kernel_rfl⟩
noncomputable def c_impl_CertOk : FC := { n := 33, res := [⟨none, 2, []⟩], body :=
 (.seq
 (.rg [⟨some 1, none, .box (.t 0)⟩,
   ⟨some 2, none, .mv (.k (.bool false))⟩])
 (.seq
 (.seq
 (.rg [⟨some 3, none, .fld 0 (.t 1)⟩,
   ⟨some 4, none, .load none (.t 3)⟩,
   ⟨some 5, none, .call n_impl_ChainOk S_impl_ChainOk [(.t 4, [some 4])]⟩,
   ⟨some 6, none, .un .not (.t 5)⟩,
   ⟨some 7, none, .mv (.t 6)⟩,
   ⟨some 8, some (7, false), .fld 0 (.t 1)⟩,
   ⟨some 9, some (7, false), .load none (.t 8)⟩,
   ⟨some 10, some (7, false), .len (.t 9)⟩,
   ⟨some 11, some (7, false), .bin 0 .lss (.t 10) (.k (.int .i64 3))⟩,
   ⟨some 12, none, .pick (.t 7) (.k (.bool true)) (.t 11)⟩,
   ⟨some 13, none, .mv (.t 12)⟩,
   ⟨some 14, some (13, false), .fld 0 (.t 1)⟩,
   ⟨some 15, some (13, false), .load none (.t 14)⟩,
   ⟨some 16, some (13, false), .call n_impl_final S_impl_final [(.t 15, [some 4])]⟩,
   ⟨some 17, some (13, false), .fld 0 (.t 1)⟩,
   ⟨some 18, some (13, false), .load none (.t 17)⟩,
   ⟨some 19, some (13, false), .len (.t 18)⟩,
   ⟨some 20, some (13, false), .bin 0 .sub (.t 19) (.k (.int .i64 1))⟩,
   ⟨some 21, some (13, false), .bin 0 .neq (.t 16) (.t 20)⟩,
   ⟨some 22, none, .pick (.t 13) (.k (.bool true)) (.t 21)⟩])
 (.cond (.t 22)
 (.seq
 (.rg [⟨some 2, none, .mv (.k (.bool false))⟩])
 .ret)
 .skip))
 (.seq
 (.rg [⟨some 23, none, .fld 1 (.t 1)⟩,
   ⟨some 24, none, .load none (.t 23)⟩,
   ⟨some 25, none, .len (.t 24)⟩,
   ⟨some 26, none, .bin 0 .eql (.t 25) (.k (.int .i64 3))⟩,
   ⟨some 27, none, .mv (.t 26)⟩,
   ⟨some 28, some (27, true), .fld 1 (.t 1)⟩,
   ⟨some 29, some (27, true), .load none (.t 28)⟩,
   ⟨some 30, some (27, true), .call n_slices_ContainsFunc_nSS S_slices_ContainsFunc_nSS [(.t 29, [some 1]), (.fn n_impl_CertOk_1, [])]⟩,
   ⟨some 31, some (27, true), .un .not (.t 30)⟩,
   ⟨some 32, none, .pick (.t 27) (.t 31) (.k (.bool false))⟩,
   ⟨some 2, none, .mv (.t 32)⟩])
 .ret))) }
theorem is_impl_CertOk : IsF Try.prog n_impl_CertOk c_impl_CertOk := ⟨Try.f70, _, Try.func70, rfl, by decide, rfl, by kernel_rfl, by kernel_rfl⟩
noncomputable def c_impl_CertFinal : FC := { n := 14, res := [⟨none, 2, [some 4]⟩], body :=
 (.seq
 (.rg [⟨some 1, none, .box (.t 0)⟩,
   ⟨some 2, none, .mv (.k (.slice none 0 0))⟩])
 (.seq
 (.seq
 (.rg [⟨some 3, none, .load (some 2) (.t 1)⟩,
   ⟨some 4, none, .call n_impl_CertOk S_impl_CertOk [(.t 3, [some 4, some 1])]⟩,
   ⟨some 5, none, .un .not (.t 4)⟩])
 (.cond (.t 5)
 (.seq
 (.rg [⟨some 2, none, .mv (.k (.slice none 0 0))⟩])
 .ret)
 .skip))
 (.seq
 (.rg [⟨some 6, none, .fld 0 (.t 1)⟩,
   ⟨some 7, none, .load none (.t 6)⟩,
   ⟨some 8, none, .fld 0 (.t 1)⟩,
   ⟨some 9, none, .load none (.t 8)⟩,
   ⟨some 10, none, .len (.t 9)⟩,
   ⟨some 11, none, .bin 0 .sub (.t 10) (.k (.int .i64 1))⟩,
   ⟨some 12, none, .slc 4 (.t 7) none (some (.t 11)) none⟩,
   ⟨some 13, none, .call n_impl_copied S_impl_copied [(.t 12, [some 4])]⟩,
   ⟨some 2, none, .mv (.t 13)⟩])
 .ret))) }
theorem is_impl_CertFinal : IsF Try.prog n_impl_CertFinal c_impl_CertFinal := ⟨Try.f19, _, Try.func19, rfl, by decide, rfl, by kernel_rfl, by kernel_rfl⟩
noncomputable def c_spec_l13By : FC := { n := 35, res := [⟨none, 2, []⟩], body :=
 (.seq
 (.rg [⟨some 2, none, .mv (.k (.bool false))⟩])
 (.seq
 (.seq
 (.rg [⟨some 3, none, .mv (.k (.int .i64 0))⟩])
 (.block 0
 (.loop
 (.seq
 (.seq
 (.rg [⟨some 4, none, .mv (.t 3)⟩,
   ⟨some 5, none, .mv (.t 0)⟩,
   ⟨some 6, none, .len (.t 5)⟩,
   ⟨some 7, none, .bin 0 .lss (.t 4) (.t 6)⟩])
 (.cond (.t 7)
 .skip
 (.exit 0)))
 (.seq
 (.block 1
 (.seq
 (.rg [⟨some 10, none, .mv (.t 0)⟩,
   ⟨some 11, none, .mv (.t 3)⟩,
   ⟨some 12, none, .idx 1 (.t 10) (.t 11)⟩,
   ⟨some 13, none, .load none (.t 12)⟩,
   ⟨some 14, none, .call n_spec_l6In S_spec_l6In [(.t 13, []), (.k (.int .i64 1), []), (.k (.int .i64 4), [])]⟩,
   ⟨some 15, none, .un .not (.t 14)⟩,
   ⟨some 16, none, .mv (.t 15)⟩,
   ⟨some 17, some (16, false), .mv (.t 3)⟩,
   ⟨some 18, some (16, false), .bin 0 .gtr (.t 17) (.k (.int .i64 0))⟩,
   ⟨some 19, some (16, false), .mv (.t 18)⟩,
   ⟨some 20, some (19, true), .mv (.t 0)⟩,
   ⟨some 21, some (19, true), .mv (.t 3)⟩,
   ⟨some 22, some (19, true), .bin 0 .sub (.t 21) (.k (.int .i64 1))⟩,
   ⟨some 23, some (19, true), .idx 1 (.t 20) (.t 22)⟩,
   ⟨some 24, some (19, true), .load none (.t 23)⟩,
   ⟨some 25, some (19, true), .mv (.t 0)⟩,
   ⟨some 26, some (19, true), .mv (.t 3)⟩,
   ⟨some 27, some (19, true), .idx 1 (.t 25) (.t 26)⟩,
   ⟨some 28, some (19, true), .load none (.t 27)⟩,
   ⟨some 29, some (19, true), .bin 0 .geq (.t 24) (.t 28)⟩,
   ⟨some 30, some (16, false), .pick (.t 19) (.t 29) (.k (.bool false))⟩,
   ⟨some 31, none, .pick (.t 16) (.k (.bool true)) (.t 30)⟩])
 (.cond (.t 31)
 (.seq
 (.rg [⟨some 2, none, .mv (.k (.bool false))⟩])
 .ret)
 .skip)))
 (.rg [⟨some 8, none, .mv (.t 3)⟩,
   ⟨some 9, none, .bin 0 .add (.t 8) (.k (.int .i64 1))⟩,
   ⟨some 3, none, .mv (.t 9)⟩]))))))
 (.seq
 (.rg [⟨some 32, none, .mv (.t 0)⟩,
   ⟨some 33, none, .len (.t 32)⟩,
   ⟨some 34, none, .bin 0 .geq (.t 33) (.k (.int .i64 3))⟩,
   ⟨some 2, none, .mv (.t 34)⟩])
 .ret))) }
theorem is_spec_l13By : IsF Try.prog n_spec_l13By c_spec_l13By := ⟨Try.f74, _, Try.func74, rfl, by decide, rfl, by kernel_rfl, by kernel_rfl⟩
noncomputable def c_spec_CertOk : FC := { n := 67, res := [⟨none, 2, []⟩], body :=
 (.seq
 (.rg [⟨some 1, none, .box (.t 0)⟩,
   ⟨some 2, none, .mv (.k (.bool false))⟩])
 (.seq
 (.rg [⟨some 5, none, .fld 0 (.t 1)⟩,
   ⟨some 6, none, .load none (.t 5)⟩,
   ⟨some 7, none, .len (.t 6)⟩,
   ⟨some 3, none, .mv (.t 7)⟩])
 (.seq
 (.seq
 (.rg [⟨some 8, none, .fld 0 (.t 1)⟩,
   ⟨some 9, none, .load none (.t 8)⟩,
   ⟨some 10, none, .call n_spec_ChainOk S_spec_ChainOk [(.t 9, [some 4])]⟩,
   ⟨some 11, none, .un .not (.t 10)⟩,
   ⟨some 12, none, .mv (.t 11)⟩,
   ⟨some 13, some (12, false), .mv (.t 3)⟩,
   ⟨some 14, some (12, false), .bin 0 .lss (.t 13) (.k (.int .i64 3))⟩,
   ⟨some 15, none, .pick (.t 12) (.k (.bool true)) (.t 14)⟩,
   ⟨some 16, none, .mv (.t 15)⟩,
   ⟨some 17, some (16, false), .fld 1 (.t 1)⟩,
   ⟨some 18, some (16, false), .load none (.t 17)⟩,
   ⟨some 19, some (16, false), .len (.t 18)⟩,
   ⟨some 20, some (16, false), .bin 0 .neq (.t 19) (.k (.int .i64 3))⟩,
   ⟨some 21, none, .pick (.t 16) (.k (.bool true)) (.t 20)⟩])
 (.cond (.t 21)
 (.seq
 (.rg [⟨some 2, none, .mv (.k (.bool false))⟩])
 .ret)
 .skip))
 (.seq
 (.seq
 (.rg [⟨some 4, none, .mv (.k (.int .i64 0))⟩])
 (.block 0
 (.loop
 (.seq
 (.seq
 (.rg [⟨some 22, none, .mv (.t 4)⟩,
   ⟨some 23, none, .bin 0 .lss (.t 22) (.k (.int .i64 3))⟩])
 (.cond (.t 23)
 .skip
 (.exit 0)))
 (.seq
 (.block 1
 (.seq
 (.rg [⟨some 26, none, .fld 1 (.t 1)⟩,
   ⟨some 27, none, .load none (.t 26)⟩,
   ⟨some 28, none, .mv (.t 4)⟩,
   ⟨some 29, none, .idx 1 (.t 27) (.t 28)⟩,
   ⟨some 30, none, .load none (.t 29)⟩,
   ⟨some 31, none, .call n_spec_l13By S_spec_l13By [(.t 30, [some 1])]⟩,
   ⟨some 32, none, .un .not (.t 31)⟩])
 (.cond (.t 32)
 (.seq
 (.rg [⟨some 2, none, .mv (.k (.bool false))⟩])
 .ret)
 .skip)))
 (.rg [⟨some 24, none, .mv (.t 4)⟩,
   ⟨some 25, none, .bin 0 .add (.t 24) (.k (.int .i64 1))⟩,
   ⟨some 4, none, .mv (.t 25)⟩]))))))
 (.seq
 (.rg [⟨some 33, none, .fld 0 (.t 1)⟩,
   ⟨some 34, none, .load none (.t 33)⟩,
   ⟨some 35, none, .mv (.t 3)⟩,
   ⟨some 36, none, .bin 0 .sub (.t 35) (.k (.int .i64 3))⟩,
   ⟨some 37, none, .idx 4 (.t 34) (.t 36)⟩,
   ⟨some 38, none, .fld 0 (.t 37)⟩,
   ⟨some 39, none, .load none (.t 38)⟩,
   ⟨some 40, none, .bin 0 .add (.t 39) (.k (.int .i64 1))⟩,
   ⟨some 41, none, .fld 0 (.t 1)⟩,
   ⟨some 42, none, .load none (.t 41)⟩,
   ⟨some 43, none, .mv (.t 3)⟩,
   ⟨some 44, none, .bin 0 .sub (.t 43) (.k (.int .i64 2))⟩,
   ⟨some 45, none, .idx 4 (.t 42) (.t 44)⟩,
   ⟨some 46, none, .fld 0 (.t 45)⟩,
   ⟨some 47, none, .load none (.t 46)⟩,
   ⟨some 48, none, .bin 0 .eql (.t 40) (.t 47)⟩,
   ⟨some 49, none, .mv (.t 48)⟩,
   ⟨some 50, some (49, true), .fld 0 (.t 1)⟩,
   ⟨some 51, some (49, true), .load none (.t 50)⟩,
   ⟨some 52, some (49, true), .mv (.t 3)⟩,
   ⟨some 53, some (49, true), .bin 0 .sub (.t 52) (.k (.int .i64 2))⟩,
   ⟨some 54, some (49, true), .idx 4 (.t 51) (.t 53)⟩,
   ⟨some 55, some (49, true), .fld 0 (.t 54)⟩,
   ⟨some 56, some (49, true), .load none (.t 55)⟩,
   ⟨some 57, some (49, true), .bin 0 .add (.t 56) (.k (.int .i64 1))⟩,
   ⟨some 58, some (49, true), .fld 0 (.t 1)⟩,
   ⟨some 59, some (49, true), .load none (.t 58)⟩,
   ⟨some 60, some (49, true), .mv (.t 3)⟩,
   ⟨some 61, some (49, true), .bin 0 .sub (.t 60) (.k (.int .i64 1))⟩,
   ⟨some 62, some (49, true), .idx 4 (.t 59) (.t 61)⟩,
   ⟨some 63, some (49, true), .fld 0 (.t 62)⟩,
   ⟨some 64, some (49, true), .load none (.t 63)⟩,
   ⟨some 65, some (49, true), .bin 0 .eql (.t 57) (.t 64)⟩,
   ⟨some 66, none, .pick (.t 49) (.t 65) (.k (.bool false))⟩,
   ⟨some 2, none, .mv (.t 66)⟩])
 .ret))))) }
theorem is_spec_CertOk : IsF Try.prog n_spec_CertOk c_spec_CertOk := ⟨Try.f22, _, Try.func22, rfl, by decide, rfl, by kernel_rfl, by kernel_rfl⟩
noncomputable def c_spec_CertFinal : FC := { n := 15, res := [⟨none, 2, [some 4]⟩], body :=
 (.seq
 (.rg [⟨some 1, none, .box (.t 0)⟩,
   ⟨some 2, none, .mv (.k (.slice none 0 0))⟩])
 (.seq
 (.seq
 (.rg [⟨some 3, none, .load (some 2) (.t 1)⟩,
   ⟨some 4, none, .call n_spec_CertOk S_spec_CertOk [(.t 3, [some 4, some 1])]⟩,
   ⟨some 5, none, .un .not (.t 4)⟩])
 (.cond (.t 5)
 (.seq
 (.rg [⟨some 6, none, .bsl 54 4 []⟩,
   ⟨some 2, none, .mv (.t 6)⟩])
 .ret)
 .skip))
 (.seq
 (.rg [⟨some 7, none, .fld 0 (.t 1)⟩,
   ⟨some 8, none, .load none (.t 7)⟩,
   ⟨some 9, none, .fld 0 (.t 1)⟩,
   ⟨some 10, none, .load none (.t 9)⟩,
   ⟨some 11, none, .len (.t 10)⟩,
   ⟨some 12, none, .bin 0 .sub (.t 11) (.k (.int .i64 1))⟩,
   ⟨some 13, none, .slc 4 (.t 8) none (some (.t 12)) none⟩,
   ⟨some 14, none, .call n_spec_l1Copy S_spec_l1Copy [(.t 13, [some 4])]⟩,
   ⟨some 2, none, .mv (.t 14)⟩])
 .ret))) }
theorem is_spec_CertFinal : IsF Try.prog n_spec_CertFinal c_spec_CertFinal := ⟨Try.f21, _, Try.func21, rfl, by decide, rfl, by kernel_rfl, by kernel_rfl⟩
end Av
end Go.Proofs.Ytdboofnogabefaa
