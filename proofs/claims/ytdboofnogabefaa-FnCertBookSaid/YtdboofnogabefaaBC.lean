/- The functions' code in the small language, and that it is theirs. -/
import Derived.Test.YtdboofnogabefaaBB
import Derived.Test.YtdboofnogabefaaD1
import Derived.Test.YtdboofnogabefaaProg
import Derived.KernelRfl
set_option linter.unusedVariables false
namespace Go.Proofs.Ytdboofnogabefaa
namespace Av
noncomputable def c_slices_Clip_nS_o : FC := { n := 9, res := [⟨none, 2, [some 1]⟩], body :=
 (.seq
 (.rg [⟨some 2, none, .mv (.k (.slice none 0 0))⟩])
 (.seq
 (.rg [⟨some 3, none, .mv (.t 0)⟩,
   ⟨some 4, none, .mv (.t 0)⟩,
   ⟨some 5, none, .len (.t 4)⟩,
   ⟨some 6, none, .mv (.t 0)⟩,
   ⟨some 7, none, .len (.t 6)⟩,
   ⟨some 8, none, .clip 1 (.t 3) (.t 5) (.t 7)⟩,
   ⟨some 2, none, .mv (.t 8)⟩])
 .ret)) }
theorem is_slices_Clip_nS_o : IsF Try.prog n_slices_Clip_nS_o c_slices_Clip_nS_o := ⟨Try.f67, _, Try.func67, rfl, by decide, rfl, by kernel_rfl, by kernel_rfl⟩
noncomputable def c_slices_Clone_nS : FC := { n := 8, res := [⟨none, 2, [some 1]⟩], body :=
 (.seq
 (.rg [⟨some 2, none, .mv (.k (.slice none 0 0))⟩])
 (.seq
 (.seq
 (.rg [⟨some 3, none, .mv (.t 0)⟩,
   ⟨some 4, none, .bin 3 .eql (.t 3) (.k (.slice none 0 0))⟩])
 (.cond (.t 4)
 (.seq
 (.rg [⟨some 2, none, .mv (.k (.slice none 0 0))⟩])
 .ret)
 .skip))
 (.seq
 (.rg [⟨some 5, none, .bsl 3 1 []⟩,
   ⟨some 6, none, .mv (.t 0)⟩,
   ⟨some 7, none, .app 3 1 8 [.int .i64 0] (.t 5) (.t 6)⟩,
   ⟨some 2, none, .mv (.t 7)⟩])
 .ret))) }
theorem is_slices_Clone_nS : IsF Try.prog n_slices_Clone_nS c_slices_Clone_nS := ⟨Try.f77, _, Try.func77, rfl, by decide, rfl, by kernel_rfl, by kernel_rfl⟩
noncomputable def c_impl_BookNew : FC := { n := 4, res := [⟨none, 0, [some 1]⟩], body :=
 (.seq
 (.rg [⟨some 0, none, .mv (.k (.slice none 0 0))⟩])
 (.seq
 (.rg [⟨some 1, none, .bsl 3 1 [.k (.int .i64 9)]⟩,
   ⟨some 2, none, .callo n_slices_Repeat_nS SO_slices_Repeat_nS [(.t 1, [some 1]), (.k (.int .i64 3), [])]⟩,
   ⟨some 3, none, .callm n_slices_Clip_nS_o S_slices_Clip_nS_o [(.t 2, [some 1])]⟩,
   ⟨some 0, none, .mv (.t 3)⟩])
 .ret)) }
theorem is_impl_BookNew : IsF Try.prog n_impl_BookNew c_impl_BookNew := ⟨Try.f17, _, Try.func17, rfl, by decide, rfl, by kernel_rfl, by kernel_rfl⟩
noncomputable def c_impl_pay : FC := { n := 33, res := [], body :=
 (.seq
 (.rg [⟨some 3, none, .box (.t 1)⟩])
 (.seq
 (.rg [⟨some 4, none, .mv (.t 0)⟩,
   ⟨some 5, none, .fld 0 (.t 3)⟩,
   ⟨some 6, none, .load none (.t 5)⟩,
   ⟨some 7, none, .bin 0 .sub (.t 6) (.k (.int .i64 1))⟩,
   ⟨some 8, none, .idx 1 (.t 4) (.t 7)⟩,
   ⟨some 9, none, .load none (.t 8)⟩,
   ⟨some 10, none, .fld 2 (.t 3)⟩,
   ⟨some 11, none, .load none (.t 10)⟩,
   ⟨some 12, none, .bin 0 .geq (.t 9) (.t 11)⟩])
 (.cond (.t 12)
 (.seq
 (.rg [⟨some 13, none, .mv (.t 0)⟩,
   ⟨some 14, none, .fld 0 (.t 3)⟩,
   ⟨some 15, none, .load none (.t 14)⟩,
   ⟨some 16, none, .bin 0 .sub (.t 15) (.k (.int .i64 1))⟩,
   ⟨some 17, none, .idx 1 (.t 13) (.t 16)⟩,
   ⟨some 18, none, .load none (.t 17)⟩,
   ⟨some 19, none, .fld 2 (.t 3)⟩,
   ⟨some 20, none, .load none (.t 19)⟩,
   ⟨some 21, none, .bin 0 .sub (.t 18) (.t 20)⟩,
   ⟨some 22, none, .idx 1 (.t 13) (.t 16)⟩,
   ⟨none, none, .store 1 (.t 22) (.t 21)⟩])
 (.rg [⟨some 23, none, .mv (.t 0)⟩,
   ⟨some 24, none, .fld 1 (.t 3)⟩,
   ⟨some 25, none, .load none (.t 24)⟩,
   ⟨some 26, none, .bin 0 .sub (.t 25) (.k (.int .i64 1))⟩,
   ⟨some 27, none, .idx 1 (.t 23) (.t 26)⟩,
   ⟨some 28, none, .load none (.t 27)⟩,
   ⟨some 29, none, .fld 2 (.t 3)⟩,
   ⟨some 30, none, .load none (.t 29)⟩,
   ⟨some 31, none, .bin 0 .add (.t 28) (.t 30)⟩,
   ⟨some 32, none, .idx 1 (.t 23) (.t 26)⟩,
   ⟨none, none, .store 1 (.t 32) (.t 31)⟩]))
 .skip))) }
theorem is_impl_pay : IsF Try.prog n_impl_pay c_impl_pay := ⟨Try.f76, _, Try.func76, rfl, by decide, rfl, by kernel_rfl, by kernel_rfl⟩
noncomputable def c_impl_BookOf : FC := { n := 22, res := [⟨none, 2, [some 1]⟩], body :=
 (.seq
 (.rg [⟨some 2, none, .mv (.k (.slice none 0 0))⟩])
 (.seq
 (.seq
 (.rg [⟨some 6, none, .mv (.t 0)⟩,
   ⟨some 7, none, .call n_impl_ChainOk S_impl_ChainOk [(.t 6, [some 4])]⟩,
   ⟨some 8, none, .un .not (.t 7)⟩])
 (.cond (.t 8)
 (.seq
 (.rg [⟨some 2, none, .mv (.k (.slice none 0 0))⟩])
 .ret)
 .skip))
 (.seq
 (.rg [⟨some 9, none, .callo n_impl_BookNew SO_impl_BookNew []⟩,
   ⟨some 3, none, .mv (.t 9)⟩])
 (.seq
 (.seq
 (.rg [⟨some 10, none, .mv (.t 0)⟩,
   ⟨some 11, none, .len (.t 10)⟩,
   ⟨some 12, none, .mv (.k (.int .i64 0))⟩])
 (.block 0
 (.loop
 (.seq
 (.rg [⟨some 13, none, .bin 0 .lss (.t 12) (.t 11)⟩])
 (.seq
 (.cond (.t 13)
 .skip
 (.exit 0))
 (.seq
 (.block 1
 (.seq
 (.rg [⟨some 14, none, .idx 4 (.t 10) (.t 12)⟩,
   ⟨some 15, none, .load (some 4) (.t 14)⟩,
   ⟨some 5, none, .alloc [.int .i64 0, .int .i64 0, .int .i64 0, .int .i64 0]⟩,
   ⟨none, none, .store 4 (.t 5) (.t 15)⟩])
 (.rg [⟨some 16, none, .mv (.t 3)⟩,
   ⟨some 17, none, .fld 1 (.t 5)⟩,
   ⟨some 18, none, .load (some 3) (.t 17)⟩,
   ⟨some 19, none, .callm n_impl_pay S_impl_pay [(.t 16, [some 1]), (.t 18, [])]⟩])))
 (.rg [⟨some 20, none, .bin 0 .add (.t 12) (.k (.int .i64 1))⟩,
   ⟨some 12, none, .mv (.t 20)⟩])))))))
 (.seq
 (.rg [⟨some 21, none, .mv (.t 3)⟩,
   ⟨some 2, none, .mv (.t 21)⟩])
 .ret))))) }
theorem is_impl_BookOf : IsF Try.prog n_impl_BookOf c_impl_BookOf := ⟨Try.f23, _, Try.func23, rfl, by decide, rfl, by kernel_rfl, by kernel_rfl⟩
noncomputable def c_impl_BookOk : FC := { n := 26, res := [⟨none, 2, []⟩], body :=
 (.seq
 (.rg [⟨some 2, none, .mv (.k (.bool false))⟩])
 (.seq
 (.rg [⟨some 3, none, .mv (.k (.int .i64 0))⟩])
 (.seq
 (.seq
 (.rg [⟨some 6, none, .mv (.t 0)⟩,
   ⟨some 7, none, .len (.t 6)⟩,
   ⟨some 8, none, .mv (.k (.int .i64 0))⟩])
 (.block 0
 (.loop
 (.seq
 (.rg [⟨some 9, none, .bin 0 .lss (.t 8) (.t 7)⟩])
 (.seq
 (.cond (.t 9)
 .skip
 (.exit 0))
 (.seq
 (.block 1
 (.seq
 (.rg [⟨some 10, none, .idx 1 (.t 6) (.t 8)⟩,
   ⟨some 11, none, .load none (.t 10)⟩,
   ⟨some 5, none, .mv (.t 11)⟩])
 (.seq
 (.seq
 (.rg [⟨some 12, none, .mv (.t 5)⟩,
   ⟨some 13, none, .call n_impl_within S_impl_within [(.t 12, []), (.k (.int .i64 0), []), (.k (.int .i64 27), [])]⟩,
   ⟨some 14, none, .un .not (.t 13)⟩])
 (.cond (.t 14)
 (.seq
 (.rg [⟨some 2, none, .mv (.k (.bool false))⟩])
 .ret)
 .skip))
 (.rg [⟨some 15, none, .mv (.t 3)⟩,
   ⟨some 16, none, .mv (.t 5)⟩,
   ⟨some 17, none, .bin 0 .add (.t 15) (.t 16)⟩,
   ⟨some 3, none, .mv (.t 17)⟩]))))
 (.rg [⟨some 18, none, .bin 0 .add (.t 8) (.k (.int .i64 1))⟩,
   ⟨some 8, none, .mv (.t 18)⟩])))))))
 (.seq
 (.rg [⟨some 19, none, .mv (.t 0)⟩,
   ⟨some 20, none, .len (.t 19)⟩,
   ⟨some 21, none, .bin 0 .eql (.t 20) (.k (.int .i64 3))⟩,
   ⟨some 22, none, .mv (.t 21)⟩,
   ⟨some 23, some (22, true), .mv (.t 3)⟩,
   ⟨some 24, some (22, true), .bin 0 .eql (.t 23) (.k (.int .i64 27))⟩,
   ⟨some 25, none, .pick (.t 22) (.t 24) (.k (.bool false))⟩,
   ⟨some 2, none, .mv (.t 25)⟩])
 .ret)))) }
theorem is_impl_BookOk : IsF Try.prog n_impl_BookOk c_impl_BookOk := ⟨Try.f24, _, Try.func24, rfl, by decide, rfl, by kernel_rfl, by kernel_rfl⟩
noncomputable def c_impl_BookPay : FC := { n := 21, res := [⟨none, 4, [some 1]⟩], body :=
 (.seq
 (.rg [⟨some 3, none, .box (.t 1)⟩,
   ⟨some 4, none, .mv (.k (.slice none 0 0))⟩])
 (.seq
 (.seq
 (.rg [⟨some 6, none, .mv (.t 0)⟩,
   ⟨some 7, none, .call n_impl_BookOk S_impl_BookOk [(.t 6, [some 1])]⟩,
   ⟨some 8, none, .un .not (.t 7)⟩,
   ⟨some 9, none, .mv (.t 8)⟩,
   ⟨some 10, some (9, false), .load (some 3) (.t 3)⟩,
   ⟨some 11, some (9, false), .call n_impl_PayOk S_impl_PayOk [(.t 10, [])]⟩,
   ⟨some 12, some (9, false), .un .not (.t 11)⟩,
   ⟨some 13, none, .pick (.t 9) (.k (.bool true)) (.t 12)⟩])
 (.cond (.t 13)
 (.seq
 (.rg [⟨some 4, none, .mv (.k (.slice none 0 0))⟩])
 .ret)
 .skip))
 (.seq
 (.rg [⟨some 14, none, .mv (.t 0)⟩,
   ⟨some 15, none, .callo n_slices_Clone_nS SO_slices_Clone_nS [(.t 14, [some 1])]⟩,
   ⟨some 16, none, .callm n_slices_Clip_nS_o S_slices_Clip_nS_o [(.t 15, [some 1])]⟩,
   ⟨some 5, none, .mv (.t 16)⟩])
 (.seq
 (.rg [⟨some 17, none, .mv (.t 5)⟩,
   ⟨some 18, none, .load (some 3) (.t 3)⟩,
   ⟨some 19, none, .callm n_impl_pay S_impl_pay [(.t 17, [some 1]), (.t 18, [])]⟩])
 (.seq
 (.rg [⟨some 20, none, .mv (.t 5)⟩,
   ⟨some 4, none, .mv (.t 20)⟩])
 .ret))))) }
theorem is_impl_BookPay : IsF Try.prog n_impl_BookPay c_impl_BookPay := ⟨Try.f25, _, Try.func25, rfl, by decide, rfl, by kernel_rfl, by kernel_rfl⟩
end Av
end Go.Proofs.Ytdboofnogabefaa
