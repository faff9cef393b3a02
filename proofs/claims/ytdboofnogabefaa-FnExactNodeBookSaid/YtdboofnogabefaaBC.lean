/- The functions' code in the small language, and that it is theirs. -/
import Derived.Test.YtdboofnogabefaaBB
import Derived.Test.YtdboofnogabefaaD1
import Derived.Test.YtdboofnogabefaaProg
import Derived.KernelRfl
set_option linter.unusedVariables false
namespace Go.Proofs.Ytdboofnogabefaa
namespace Av
noncomputable def c_slices_Clip_nS_o : FC := { n := 9, res := [⟨none, 2, [some 1]⟩], body :=
 (.seq
 (.rg [⟨some 2, none, .mv (.k (.slice none 0 0))⟩])
 (.seq
 (.rg [⟨some 3, none, .mv (.t 0)⟩,
   ⟨some 4, none, .mv (.t 0)⟩,
   ⟨some 5, none, .len (.t 4)⟩,
   ⟨some 6, none, .mv (.t 0)⟩,
   ⟨some 7, none, .len (.t 6)⟩,
   ⟨some 8, none, .clip 1 (.t 3) (.t 5) (.t 7)⟩,
   ⟨some 2, none, .mv (.t 8)⟩])
 .ret)) }
theorem is_slices_Clip_nS_o : IsF Try.prog n_slices_Clip_nS_o c_slices_Clip_nS_o := ⟨Try.f67, _, Try.func67, rfl, by decide, rfl, by kernel_rfl, by kernel_rfl⟩
noncomputable def c_impl_BookNew : FC := { n := 4, res := [⟨none, 0, [some 1]⟩], body :=
 (.seq
 (.rg [⟨some 0, none, .mv (.k (.slice none 0 0))⟩])
 (.seq
 (.rg [⟨some 1, none, .bsl 3 1 [.k (.int .i64 9)]⟩,
   ⟨some 2, none, .callo n_slices_Repeat_nS SO_slices_Repeat_nS [(.t 1, [some 1]), (.k (.int .i64 3), [])]⟩,
   ⟨some 3, none, .callm n_slices_Clip_nS_o S_slices_Clip_nS_o [(.t 2, [some 1])]⟩,
   ⟨some 0, none, .mv (.t 3)⟩])
 .ret)) }
theorem is_impl_BookNew : IsF Try.prog n_impl_BookNew c_impl_BookNew := ⟨Try.f17, _, Try.func17, rfl, by decide, rfl, by kernel_rfl, by kernel_rfl⟩
noncomputable def c_impl_pay : FC := { n := 33, res := [], body :=
 (.seq
 (.rg [⟨some 3, none, .box (.t 1)⟩])
 (.seq
 (.rg [⟨some 4, none, .mv (.t 0)⟩,
   ⟨some 5, none, .fld 0 (.t 3)⟩,
   ⟨some 6, none, .load none (.t 5)⟩,
   ⟨some 7, none, .bin 0 .sub (.t 6) (.k (.int .i64 1))⟩,
   ⟨some 8, none, .idx 1 (.t 4) (.t 7)⟩,
   ⟨some 9, none, .load none (.t 8)⟩,
   ⟨some 10, none, .fld 2 (.t 3)⟩,
   ⟨some 11, none, .load none (.t 10)⟩,
   ⟨some 12, none, .bin 0 .geq (.t 9) (.t 11)⟩])
 (.cond (.t 12)
 (.seq
 (.rg [⟨some 13, none, .mv (.t 0)⟩,
   ⟨some 14, none, .fld 0 (.t 3)⟩,
   ⟨some 15, none, .load none (.t 14)⟩,
   ⟨some 16, none, .bin 0 .sub (.t 15) (.k (.int .i64 1))⟩,
   ⟨some 17, none, .idx 1 (.t 13) (.t 16)⟩,
   ⟨some 18, none, .load none (.t 17)⟩,
   ⟨some 19, none, .fld 2 (.t 3)⟩,
   ⟨some 20, none, .load none (.t 19)⟩,
   ⟨some 21, none, .bin 0 .sub (.t 18) (.t 20)⟩,
   ⟨some 22, none, .idx 1 (.t 13) (.t 16)⟩,
   ⟨none, none, .store 1 (.t 22) (.t 21)⟩])
 (.rg [⟨some 23, none, .mv (.t 0)⟩,
   ⟨some 24, none, .fld 1 (.t 3)⟩,
   ⟨some 25, none, .load none (.t 24)⟩,
   ⟨some 26, none, .bin 0 .sub (.t 25) (.k (.int .i64 1))⟩,
   ⟨some 27, none, .idx 1 (.t 23) (.t 26)⟩,
   ⟨some 28, none, .load none (.t 27)⟩,
   ⟨some 29, none, .fld 2 (.t 3)⟩,
   ⟨some 30, none, .load none (.t 29)⟩,
   ⟨some 31, none, .bin 0 .add (.t 28) (.t 30)⟩,
   ⟨some 32, none, .idx 1 (.t 23) (.t 26)⟩,
   ⟨none, none, .store 1 (.t 32) (.t 31)⟩]))
 .skip))) }
theorem is_impl_pay : IsF Try.prog n_impl_pay c_impl_pay := ⟨Try.f76, _, Try.func76, rfl, by decide, rfl, by kernel_rfl, by kernel_rfl⟩
noncomputable def c_impl_BookOf : FC := { n := 22, res := [⟨none, 2, [some 1]⟩], body :=
 (.seq
 (.rg [⟨some 2, none, .mv (.k (.slice none 0 0))⟩])
 (.seq
 (.seq
 (.rg [⟨some 6, none, .mv (.t 0)⟩,
   ⟨some 7, none, .call n_impl_ChainOk S_impl_ChainOk [(.t 6, [some 4])]⟩,
   ⟨some 8, none, .un .not (.t 7)⟩])
 (.cond (.t 8)
 (.seq
 (.rg [⟨some 2, none, .mv (.k (.slice none 0 0))⟩])
 .ret)
 .skip))
 (.seq
 (.rg [⟨some 9, none, .callo n_impl_BookNew SO_impl_BookNew []⟩,
   ⟨some 3, none, .mv (.t 9)⟩])
 (.seq
 (.seq
 (.rg [⟨some 10, none, .mv (.t 0)⟩,
   ⟨some 11, none, .len (.t 10)⟩,
   ⟨some 12, none, .mv (.k (.int .i64 0))⟩])
 (.block 0
 (.loop
 (.seq
 (.rg [⟨some 13, none, .bin 0 .lss (.t 12) (.t 11)⟩])
 (.seq
 (.cond (.t 13)
 .skip
 (.exit 0))
 (.seq
 (.block 1
 (.seq
 (.rg [⟨some 14, none, .idx 4 (.t 10) (.t 12)⟩,
   ⟨some 15, none, .load (some 4) (.t 14)⟩,
   ⟨some 5, none, .alloc [.int .i64 0, .int .i64 0, .int .i64 0, .int .i64 0]⟩,
   ⟨none, none, .store 4 (.t 5) (.t 15)⟩])
 (.rg [⟨some 16, none, .mv (.t 3)⟩,
   ⟨some 17, none, .fld 1 (.t 5)⟩,
   ⟨some 18, none, .load (some 3) (.t 17)⟩,
   ⟨some 19, none, .callm n_impl_pay S_impl_pay [(.t 16, [some 1]), (.t 18, [])]⟩])))
 (.rg [⟨some 20, none, .bin 0 .add (.t 12) (.k (.int .i64 1))⟩,
   ⟨some 12, none, .mv (.t 20)⟩])))))))
 (.seq
 (.rg [⟨some 21, none, .mv (.t 3)⟩,
   ⟨some 2, none, .mv (.t 21)⟩])
 .ret))))) }
theorem is_impl_BookOf : IsF Try.prog n_impl_BookOf c_impl_BookOf := ⟨Try.f23, _, Try.func23, rfl, by decide, rfl, by kernel_rfl, by kernel_rfl⟩
noncomputable def c_spec_BookNew : FC := { n := 2, res := [⟨none, 0, [some 1]⟩], body :=
 (.seq
 (.rg [⟨some 0, none, .mv (.k (.slice none 0 0))⟩])
 (.seq
 (.rg [⟨some 1, none, .bsl 3 1 [.k (.int .i64 9), .k (.int .i64 9), .k (.int .i64 9)]⟩,
   ⟨some 0, none, .mv (.t 1)⟩])
 .ret)) }
theorem is_spec_BookNew : IsF Try.prog n_spec_BookNew c_spec_BookNew := ⟨Try.f121, _, Try.func121, rfl, by decide, rfl, by kernel_rfl, by kernel_rfl⟩
noncomputable def c_spec_l2Pay : FC := { n := 47, res := [⟨none, 4, [some 1]⟩], body :=
 (.seq
 (.rg [⟨some 3, none, .box (.t 1)⟩,
   ⟨some 4, none, .mv (.k (.slice none 0 0))⟩])
 (.seq
 (.rg [⟨some 6, none, .bsl 3 1 []⟩,
   ⟨some 7, none, .mv (.t 0)⟩,
   ⟨some 8, none, .app 3 1 8 [.int .i64 0] (.t 6) (.t 7)⟩,
   ⟨some 5, none, .mv (.t 8)⟩])
 (.seq
 (.seq
 (.rg [⟨some 9, none, .mv (.t 5)⟩,
   ⟨some 10, none, .fld 0 (.t 3)⟩,
   ⟨some 11, none, .load none (.t 10)⟩,
   ⟨some 12, none, .bin 0 .sub (.t 11) (.k (.int .i64 1))⟩,
   ⟨some 13, none, .idx 1 (.t 9) (.t 12)⟩,
   ⟨some 14, none, .load none (.t 13)⟩,
   ⟨some 15, none, .fld 2 (.t 3)⟩,
   ⟨some 16, none, .load none (.t 15)⟩,
   ⟨some 17, none, .bin 0 .geq (.t 14) (.t 16)⟩])
 (.cond (.t 17)
 (.seq
 (.rg [⟨some 18, none, .mv (.t 5)⟩,
   ⟨some 19, none, .fld 0 (.t 3)⟩,
   ⟨some 20, none, .load none (.t 19)⟩,
   ⟨some 21, none, .bin 0 .sub (.t 20) (.k (.int .i64 1))⟩,
   ⟨some 22, none, .mv (.t 5)⟩,
   ⟨some 23, none, .fld 0 (.t 3)⟩,
   ⟨some 24, none, .load none (.t 23)⟩,
   ⟨some 25, none, .bin 0 .sub (.t 24) (.k (.int .i64 1))⟩,
   ⟨some 26, none, .idx 1 (.t 22) (.t 25)⟩,
   ⟨some 27, none, .load none (.t 26)⟩,
   ⟨some 28, none, .fld 2 (.t 3)⟩,
   ⟨some 29, none, .load none (.t 28)⟩,
   ⟨some 30, none, .bin 0 .sub (.t 27) (.t 29)⟩,
   ⟨some 31, none, .idx 1 (.t 18) (.t 21)⟩,
   ⟨none, none, .store 1 (.t 31) (.t 30)⟩])
 (.rg [⟨some 32, none, .mv (.t 5)⟩,
   ⟨some 33, none, .fld 1 (.t 3)⟩,
   ⟨some 34, none, .load none (.t 33)⟩,
   ⟨some 35, none, .bin 0 .sub (.t 34) (.k (.int .i64 1))⟩,
   ⟨some 36, none, .mv (.t 5)⟩,
   ⟨some 37, none, .fld 1 (.t 3)⟩,
   ⟨some 38, none, .load none (.t 37)⟩,
   ⟨some 39, none, .bin 0 .sub (.t 38) (.k (.int .i64 1))⟩,
   ⟨some 40, none, .idx 1 (.t 36) (.t 39)⟩,
   ⟨some 41, none, .load none (.t 40)⟩,
   ⟨some 42, none, .fld 2 (.t 3)⟩,
   ⟨some 43, none, .load none (.t 42)⟩,
   ⟨some 44, none, .bin 0 .add (.t 41) (.t 43)⟩,
   ⟨some 45, none, .idx 1 (.t 32) (.t 35)⟩,
   ⟨none, none, .store 1 (.t 45) (.t 44)⟩]))
 .skip))
 (.seq
 (.rg [⟨some 46, none, .mv (.t 5)⟩,
   ⟨some 4, none, .mv (.t 46)⟩])
 .ret)))) }
theorem is_spec_l2Pay : IsF Try.prog n_spec_l2Pay c_spec_l2Pay := ⟨Try.f122, _, Try.func122, rfl, by decide, rfl, by kernel_rfl, by kernel_rfl⟩
noncomputable def c_spec_BookOf : FC := { n := 24, res := [⟨none, 2, [some 1]⟩], body :=
 (.seq
 (.rg [⟨some 2, none, .mv (.k (.slice none 0 0))⟩])
 (.seq
 (.seq
 (.rg [⟨some 5, none, .mv (.t 0)⟩,
   ⟨some 6, none, .call n_spec_ChainOk S_spec_ChainOk [(.t 5, [some 4])]⟩,
   ⟨some 7, none, .un .not (.t 6)⟩])
 (.cond (.t 7)
 (.seq
 (.rg [⟨some 8, none, .bsl 3 1 []⟩,
   ⟨some 2, none, .mv (.t 8)⟩])
 .ret)
 .skip))
 (.seq
 (.rg [⟨some 9, none, .call n_spec_BookNew S_spec_BookNew []⟩,
   ⟨some 3, none, .mv (.t 9)⟩])
 (.seq
 (.seq
 (.rg [⟨some 4, none, .mv (.k (.int .i64 0))⟩])
 (.block 0
 (.loop
 (.seq
 (.seq
 (.rg [⟨some 10, none, .mv (.t 4)⟩,
   ⟨some 11, none, .mv (.t 0)⟩,
   ⟨some 12, none, .len (.t 11)⟩,
   ⟨some 13, none, .bin 0 .lss (.t 10) (.t 12)⟩])
 (.cond (.t 13)
 .skip
 (.exit 0)))
 (.seq
 (.block 1
 (.rg [⟨some 16, none, .mv (.t 3)⟩,
   ⟨some 17, none, .mv (.t 0)⟩,
   ⟨some 18, none, .mv (.t 4)⟩,
   ⟨some 19, none, .idx 4 (.t 17) (.t 18)⟩,
   ⟨some 20, none, .fld 1 (.t 19)⟩,
   ⟨some 21, none, .load (some 3) (.t 20)⟩,
   ⟨some 22, none, .call n_spec_l2Pay S_spec_l2Pay [(.t 16, [some 1]), (.t 21, [])]⟩,
   ⟨some 3, none, .mv (.t 22)⟩]))
 (.rg [⟨some 14, none, .mv (.t 4)⟩,
   ⟨some 15, none, .bin 0 .add (.t 14) (.k (.int .i64 1))⟩,
   ⟨some 4, none, .mv (.t 15)⟩]))))))
 (.seq
 (.rg [⟨some 23, none, .mv (.t 3)⟩,
   ⟨some 2, none, .mv (.t 23)⟩])
 .ret))))) }
theorem is_spec_BookOf : IsF Try.prog n_spec_BookOf c_spec_BookOf := ⟨Try.f79, _, Try.func79, rfl, by decide, rfl, by kernel_rfl, by kernel_rfl⟩
end Av
end Go.Proofs.Ytdboofnogabefaa
