/- The functions' code in the small language, and that it is theirs. -/
import Derived.Test.YtdboofnogabefaaT0
import Derived.Test.YtdboofnogabefaaD1
import Derived.Test.YtdboofnogabefaaProg
import Derived.KernelRfl
set_option linter.unusedVariables false
namespace Go.Proofs.Ytdboofnogabefaa
namespace Av
noncomputable def c_impl_final : FC := { n := 42, res := [⟨none, 2, []⟩], body :=
 (.seq
 (.rg [⟨some 2, none, .mv (.k (.int .i64 0))⟩])
 (.seq
 (.seq
 (.rg [⟨some 4, none, .mv (.t 0)⟩,
   ⟨some 5, none, .len (.t 4)⟩,
   ⟨some 3, none, .mv (.t 5)⟩])
 (.block 0
 (.loop
 (.seq
 (.seq
 (.rg [⟨some 6, none, .mv (.t 3)⟩,
   ⟨some 7, none, .bin 0 .gtr (.t 6) (.k (.int .i64 2))⟩])
 (.cond (.t 7)
 .skip
 (.exit 0)))
 (.seq
 (.block 1
 (.seq
 (.rg [⟨some 10, none, .mv (.t 0)⟩,
   ⟨some 11, none, .mv (.t 3)⟩,
   ⟨some 12, none, .bin 0 .sub (.t 11) (.k (.int .i64 3))⟩,
   ⟨some 13, none, .idx 4 (.t 10) (.t 12)⟩,
   ⟨some 14, none, .fld 0 (.t 13)⟩,
   ⟨some 15, none, .load none (.t 14)⟩,
   ⟨some 16, none, .bin 0 .add (.t 15) (.k (.int .i64 1))⟩,
   ⟨some 17, none, .mv (.t 0)⟩,
   ⟨some 18, none, .mv (.t 3)⟩,
   ⟨some 19, none, .bin 0 .sub (.t 18) (.k (.int .i64 2))⟩,
   ⟨some 20, none, .idx 4 (.t 17) (.t 19)⟩,
   ⟨some 21, none, .fld 0 (.t 20)⟩,
   ⟨some 22, none, .load none (.t 21)⟩,
   ⟨some 23, none, .bin 0 .eql (.t 16) (.t 22)⟩,
   ⟨some 24, none, .mv (.t 23)⟩,
   ⟨some 25, some (24, true), .mv (.t 0)⟩,
   ⟨some 26, some (24, true), .mv (.t 3)⟩,
   ⟨some 27, some (24, true), .bin 0 .sub (.t 26) (.k (.int .i64 2))⟩,
   ⟨some 28, some (24, true), .idx 4 (.t 25) (.t 27)⟩,
   ⟨some 29, some (24, true), .fld 0 (.t 28)⟩,
   ⟨some 30, some (24, true), .load none (.t 29)⟩,
   ⟨some 31, some (24, true), .bin 0 .add (.t 30) (.k (.int .i64 1))⟩,
   ⟨some 32, some (24, true), .mv (.t 0)⟩,
   ⟨some 33, some (24, true), .mv (.t 3)⟩,
   ⟨some 34, some (24, true), .bin 0 .sub (.t 33) (.k (.int .i64 1))⟩,
   ⟨some 35, some (24, true), .idx 4 (.t 32) (.t 34)⟩,
   ⟨some 36, some (24, true), .fld 0 (.t 35)⟩,
   ⟨some 37, some (24, true), .load none (.t 36)⟩,
   ⟨some 38, some (24, true), .bin 0 .eql (.t 31) (.t 37)⟩,
   ⟨some 39, none, .pick (.t 24) (.t 38) (.k (.bool false))⟩])
 (.cond (.t 39)
 (.seq
 (.rg [⟨some 40, none, .mv (.t 3)⟩,
   ⟨some 41, none, .bin 0 .sub (.t 40) (.k (.int .i64 1))⟩,
   ⟨some 2, none, .mv (.t 41)⟩])
 .ret)
 .skip)))
 (.rg [⟨some 8, none, .mv (.t 3)⟩,
   ⟨some 9, none, .bin 0 .sub (.t 8) (.k (.int .i64 1))⟩,
   ⟨some 3, none, .mv (.t 9)⟩]))))))
 (.seq
 (.rg [⟨some 2, none, .mv (.k (.int .i64 0))⟩])
 .ret))) }
theorem is_impl_final : IsF Try.prog n_impl_final c_impl_final := ⟨Try.f86, _, Try.func86, rfl, by decide, rfl, by kernel_rfl, by kernel_rfl⟩
noncomputable def c_impl_votes_shown : FC := { n := 22, res := [⟨none, 2, [some 4]⟩], body :=
 (.seq
 (.rg [⟨some 2, none, .mv (.k (.slice none 0 0))⟩])
 (.seq
 (.rg [⟨some 6, none, .bsl0 54 4⟩,
   ⟨some 3, none, .mv (.t 6)⟩])
 (.seq
 (.seq
 (.rg [⟨some 7, none, .mv (.t 0)⟩,
   ⟨some 8, none, .call n_impl_votes_all S_impl_votes_all [(.t 7, [some 2])]⟩,
   ⟨some 9, none, .len (.t 8)⟩,
   ⟨some 10, none, .mv (.k (.int .i64 0))⟩])
 (.block 0
 (.loop
 (.seq
 (.rg [⟨some 11, none, .bin 0 .lss (.t 10) (.t 9)⟩])
 (.seq
 (.cond (.t 11)
 .skip
 (.exit 0))
 (.seq
 (.block 1
 (.seq
 (.rg [⟨some 12, none, .idx 1 (.t 8) (.t 10)⟩,
   ⟨some 13, none, .load none (.t 12)⟩,
   ⟨some 5, none, .mv (.t 13)⟩])
 (.seq
 (.rg [⟨some 14, none, .mv (.t 5)⟩,
   ⟨some 15, none, .call n_impl_final S_impl_final [(.t 14, [some 4])]⟩,
   ⟨some 16, none, .mv (.t 3)⟩,
   ⟨some 17, none, .call n_impl_final S_impl_final [(.t 16, [some 4])]⟩,
   ⟨some 18, none, .bin 0 .gtr (.t 15) (.t 17)⟩])
 (.cond (.t 18)
 (.rg [⟨some 19, none, .mv (.t 5)⟩,
   ⟨some 3, none, .mv (.t 19)⟩])
 .skip))))
 (.rg [⟨some 20, none, .bin 0 .add (.t 10) (.k (.int .i64 1))⟩,
   ⟨some 10, none, .mv (.t 20)⟩])))))))
 (.seq
 (.rg [⟨some 21, none, .mv (.t 3)⟩,
   ⟨some 2, none, .mv (.t 21)⟩])
 .ret)))) }
theorem is_impl_votes_shown : IsF Try.prog n_impl_votes_shown c_impl_votes_shown := ⟨Try.f85, _, Try.func85, rfl, by decide, rfl, by kernel_rfl, by kernel_rfl⟩
noncomputable def c_spec_l11FinalIn : FC := { n := 41, res := [⟨none, 2, []⟩], body :=
 (.seq
 (.rg [⟨some 2, none, .mv (.k (.int .i64 0))⟩])
 (.seq
 (.seq
 (.rg [⟨some 4, none, .mv (.t 0)⟩,
   ⟨some 5, none, .len (.t 4)⟩,
   ⟨some 6, none, .bin 0 .sub (.t 5) (.k (.int .i64 1))⟩,
   ⟨some 3, none, .mv (.t 6)⟩])
 (.block 0
 (.loop
 (.seq
 (.seq
 (.rg [⟨some 7, none, .mv (.t 3)⟩,
   ⟨some 8, none, .bin 0 .geq (.t 7) (.k (.int .i64 2))⟩])
 (.cond (.t 8)
 .skip
 (.exit 0)))
 (.seq
 (.block 1
 (.seq
 (.rg [⟨some 11, none, .mv (.t 0)⟩,
   ⟨some 12, none, .mv (.t 3)⟩,
   ⟨some 13, none, .bin 0 .sub (.t 12) (.k (.int .i64 2))⟩,
   ⟨some 14, none, .idx 4 (.t 11) (.t 13)⟩,
   ⟨some 15, none, .fld 0 (.t 14)⟩,
   ⟨some 16, none, .load none (.t 15)⟩,
   ⟨some 17, none, .bin 0 .add (.t 16) (.k (.int .i64 1))⟩,
   ⟨some 18, none, .mv (.t 0)⟩,
   ⟨some 19, none, .mv (.t 3)⟩,
   ⟨some 20, none, .bin 0 .sub (.t 19) (.k (.int .i64 1))⟩,
   ⟨some 21, none, .idx 4 (.t 18) (.t 20)⟩,
   ⟨some 22, none, .fld 0 (.t 21)⟩,
   ⟨some 23, none, .load none (.t 22)⟩,
   ⟨some 24, none, .bin 0 .eql (.t 17) (.t 23)⟩,
   ⟨some 25, none, .mv (.t 24)⟩,
   ⟨some 26, some (25, true), .mv (.t 0)⟩,
   ⟨some 27, some (25, true), .mv (.t 3)⟩,
   ⟨some 28, some (25, true), .bin 0 .sub (.t 27) (.k (.int .i64 1))⟩,
   ⟨some 29, some (25, true), .idx 4 (.t 26) (.t 28)⟩,
   ⟨some 30, some (25, true), .fld 0 (.t 29)⟩,
   ⟨some 31, some (25, true), .load none (.t 30)⟩,
   ⟨some 32, some (25, true), .bin 0 .add (.t 31) (.k (.int .i64 1))⟩,
   ⟨some 33, some (25, true), .mv (.t 0)⟩,
   ⟨some 34, some (25, true), .mv (.t 3)⟩,
   ⟨some 35, some (25, true), .idx 4 (.t 33) (.t 34)⟩,
   ⟨some 36, some (25, true), .fld 0 (.t 35)⟩,
   ⟨some 37, some (25, true), .load none (.t 36)⟩,
   ⟨some 38, some (25, true), .bin 0 .eql (.t 32) (.t 37)⟩,
   ⟨some 39, none, .pick (.t 25) (.t 38) (.k (.bool false))⟩])
 (.cond (.t 39)
 (.seq
 (.rg [⟨some 40, none, .mv (.t 3)⟩,
   ⟨some 2, none, .mv (.t 40)⟩])
 .ret)
 .skip)))
 (.rg [⟨some 9, none, .mv (.t 3)⟩,
   ⟨some 10, none, .bin 0 .sub (.t 9) (.k (.int .i64 1))⟩,
   ⟨some 3, none, .mv (.t 10)⟩]))))))
 (.seq
 (.rg [⟨some 2, none, .mv (.k (.int .i64 0))⟩])
 .ret))) }
theorem is_spec_l11FinalIn : IsF Try.prog n_spec_l11FinalIn c_spec_l11FinalIn := ⟨Try.f83, _, Try.func83, rfl, by decide, rfl, by kernel_rfl, by kernel_rfl⟩
noncomputable def c_spec_l11Final : FC := { n := 33, res := [⟨none, 2, [some 4]⟩], body :=
 (.seq
 (.rg [⟨some 2, none, .mv (.k (.slice none 0 0))⟩])
 (.seq
 (.rg [⟨some 7, none, .mv (.t 0)⟩,
   ⟨some 8, none, .call n_spec_l11All S_spec_l11All [(.t 7, [some 2])]⟩,
   ⟨some 3, none, .mv (.t 8)⟩])
 (.seq
 (.rg [⟨some 9, none, .bsl0 54 4⟩,
   ⟨some 4, none, .mv (.t 9)⟩])
 (.seq
 (.seq
 (.rg [⟨some 5, none, .mv (.k (.int .i64 0))⟩])
 (.block 0
 (.loop
 (.seq
 (.seq
 (.rg [⟨some 10, none, .mv (.t 5)⟩,
   ⟨some 11, none, .mv (.t 3)⟩,
   ⟨some 12, none, .len (.t 11)⟩,
   ⟨some 13, none, .bin 0 .lss (.t 10) (.t 12)⟩])
 (.cond (.t 13)
 .skip
 (.exit 0)))
 (.seq
 (.block 1
 (.seq
 (.rg [⟨some 16, none, .mv (.t 3)⟩,
   ⟨some 17, none, .mv (.t 5)⟩,
   ⟨some 18, none, .idx 1 (.t 16) (.t 17)⟩,
   ⟨some 19, none, .load none (.t 18)⟩,
   ⟨some 20, none, .call n_spec_l11FinalIn S_spec_l11FinalIn [(.t 19, [some 4])]⟩,
   ⟨some 6, none, .mv (.t 20)⟩])
 (.seq
 (.rg [⟨some 21, none, .mv (.t 6)⟩,
   ⟨some 22, none, .mv (.t 4)⟩,
   ⟨some 23, none, .len (.t 22)⟩,
   ⟨some 24, none, .bin 0 .gtr (.t 21) (.t 23)⟩])
 (.cond (.t 24)
 (.rg [⟨some 25, none, .mv (.t 3)⟩,
   ⟨some 26, none, .mv (.t 5)⟩,
   ⟨some 27, none, .idx 1 (.t 25) (.t 26)⟩,
   ⟨some 28, none, .load none (.t 27)⟩,
   ⟨some 29, none, .mv (.t 6)⟩,
   ⟨some 30, none, .slc 4 (.t 28) none (some (.t 29)) none⟩,
   ⟨some 31, none, .call n_spec_l1Copy S_spec_l1Copy [(.t 30, [some 4])]⟩,
   ⟨some 4, none, .mv (.t 31)⟩])
 .skip))))
 (.rg [⟨some 14, none, .mv (.t 5)⟩,
   ⟨some 15, none, .bin 0 .add (.t 14) (.k (.int .i64 1))⟩,
   ⟨some 5, none, .mv (.t 15)⟩]))))))
 (.seq
 (.rg [⟨some 32, none, .mv (.t 4)⟩,
   ⟨some 2, none, .mv (.t 32)⟩])
 .ret))))) }
theorem is_spec_l11Final : IsF Try.prog n_spec_l11Final c_spec_l11Final := ⟨Try.f80, _, Try.func80, rfl, by decide, rfl, by kernel_rfl, by kernel_rfl⟩
end Av
end Go.Proofs.Ytdboofnogabefaa
