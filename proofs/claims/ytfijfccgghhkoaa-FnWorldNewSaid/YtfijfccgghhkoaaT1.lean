/- The functions' code in the small language, and that it is theirs. -/
import Derived.Test.YtfijfccgghhkoaaT0
import Derived.Test.YtfijfccgghhkoaaD1
import Derived.Test.YtfijfccgghhkoaaProg
import Derived.KernelRfl
set_option linter.unusedVariables false
namespace Go.Proofs.Ytfijfccgghhkoaa
namespace Av
noncomputable def c_impl_final : FC := { n := 42, res := [⟨none, 2, []⟩], body :=
 (.seq
 (.rg [⟨some 2, none, .mv (.k (.int .i64 0))⟩])
 (.seq
 (.seq
 (.rg [⟨some 4, none, .mv (.t 0)⟩,
   ⟨some 5, none, .len (.t 4)⟩,
   ⟨some 3, none, .mv (.t 5)⟩])
 (.block 0
 (.loop
 (.seq
 (.seq
 (.rg [⟨some 6, none, .mv (.t 3)⟩,
   ⟨some 7, none, .bin 0 .gtr (.t 6) (.k (.int .i64 2))⟩])
 (.cond (.t 7)
 .skip
 (.exit 0)))
 (.seq
 (.block 1
 (.seq
 (.rg [⟨some 10, none, .mv (.t 0)⟩,
   ⟨some 11, none, .mv (.t 3)⟩,
   ⟨some 12, none, .bin 0 .sub (.t 11) (.k (.int .i64 3))⟩,
   ⟨some 13, none, .idx 4 (.t 10) (.t 12)⟩,
   ⟨some 14, none, .fld 0 (.t 13)⟩,
   ⟨some 15, none, .load none (.t 14)⟩,
   ⟨some 16, none, .bin 0 .add (.t 15) (.k (.int .i64 1))⟩,
   ⟨some 17, none, .mv (.t 0)⟩,
   ⟨some 18, none, .mv (.t 3)⟩,
   ⟨some 19, none, .bin 0 .sub (.t 18) (.k (.int .i64 2))⟩,
   ⟨some 20, none, .idx 4 (.t 17) (.t 19)⟩,
   ⟨some 21, none, .fld 0 (.t 20)⟩,
   ⟨some 22, none, .load none (.t 21)⟩,
   ⟨some 23, none, .bin 0 .eql (.t 16) (.t 22)⟩,
   ⟨some 24, none, .mv (.t 23)⟩,
   ⟨some 25, some (24, true), .mv (.t 0)⟩,
   ⟨some 26, some (24, true), .mv (.t 3)⟩,
   ⟨some 27, some (24, true), .bin 0 .sub (.t 26) (.k (.int .i64 2))⟩,
   ⟨some 28, some (24, true), .idx 4 (.t 25) (.t 27)⟩,
   ⟨some 29, some (24, true), .fld 0 (.t 28)⟩,
   ⟨some 30, some (24, true), .load none (.t 29)⟩,
   ⟨some 31, some (24, true), .bin 0 .add (.t 30) (.k (.int .i64 1))⟩,
   ⟨some 32, some (24, true), .mv (.t 0)⟩,
   ⟨some 33, some (24, true), .mv (.t 3)⟩,
   ⟨some 34, some (24, true), .bin 0 .sub (.t 33) (.k (.int .i64 1))⟩,
   ⟨some 35, some (24, true), .idx 4 (.t 32) (.t 34)⟩,
   ⟨some 36, some (24, true), .fld 0 (.t 35)⟩,
   ⟨some 37, some (24, true), .load none (.t 36)⟩,
   ⟨some 38, some (24, true), .bin 0 .eql (.t 31) (.t 37)⟩,
   ⟨some 39, none, .pick (.t 24) (.t 38) (.k (.bool false))⟩])
 (.cond (.t 39)
 (.seq
 (.rg [⟨some 40, none, .mv (.t 3)⟩,
   ⟨some 41, none, .bin 0 .sub (.t 40) (.k (.int .i64 1))⟩,
   ⟨some 2, none, .mv (.t 41)⟩])
 .ret)
 .skip)))
 (.rg [⟨some 8, none, .mv (.t 3)⟩,
   ⟨some 9, none, .bin 0 .sub (.t 8) (.k (.int .i64 1))⟩,
   ⟨some 3, none, .mv (.t 9)⟩]))))))
 (.seq
 (.rg [⟨some 2, none, .mv (.k (.int .i64 0))⟩])
 .ret))) }
theorem is_impl_final : IsF Try.prog n_impl_final c_impl_final := ⟨Try.f103, _, Try.func103, rfl, by decide, rfl, by kernel_rfl, by kernel_rfl⟩
noncomputable def c_impl_votes_shown : FC := { n := 22, res := [⟨none, 2, [some 4]⟩], body :=
 (.seq
 (.rg [⟨some 2, none, .mv (.k (.slice none 0 0))⟩])
 (.seq
 (.rg [⟨some 6, none, .bsl0 43 4⟩,
   ⟨some 3, none, .mv (.t 6)⟩])
 (.seq
 (.seq
 (.rg [⟨some 7, none, .mv (.t 0)⟩,
   ⟨some 8, none, .call n_impl_votes_all S_impl_votes_all [(.t 7, [some 2])]⟩,
   ⟨some 9, none, .len (.t 8)⟩,
   ⟨some 10, none, .mv (.k (.int .i64 0))⟩])
 (.block 0
 (.loop
 (.seq
 (.rg [⟨some 11, none, .bin 0 .lss (.t 10) (.t 9)⟩])
 (.seq
 (.cond (.t 11)
 .skip
 (.exit 0))
 (.seq
 (.block 1
 (.seq
 (.rg [⟨some 12, none, .idx 1 (.t 8) (.t 10)⟩,
   ⟨some 13, none, .load none (.t 12)⟩,
   ⟨some 5, none, .mv (.t 13)⟩])
 (.seq
 (.rg [⟨some 14, none, .mv (.t 5)⟩,
   ⟨some 15, none, .call n_impl_final S_impl_final [(.t 14, [some 4])]⟩,
   ⟨some 16, none, .mv (.t 3)⟩,
   ⟨some 17, none, .call n_impl_final S_impl_final [(.t 16, [some 4])]⟩,
   ⟨some 18, none, .bin 0 .gtr (.t 15) (.t 17)⟩])
 (.cond (.t 18)
 (.rg [⟨some 19, none, .mv (.t 5)⟩,
   ⟨some 3, none, .mv (.t 19)⟩])
 .skip))))
 (.rg [⟨some 20, none, .bin 0 .add (.t 10) (.k (.int .i64 1))⟩,
   ⟨some 10, none, .mv (.t 20)⟩])))))))
 (.seq
 (.rg [⟨some 21, none, .mv (.t 3)⟩,
   ⟨some 2, none, .mv (.t 21)⟩])
 .ret)))) }
theorem is_impl_votes_shown : IsF Try.prog n_impl_votes_shown c_impl_votes_shown := ⟨Try.f102, _, Try.func102, rfl, by decide, rfl, by kernel_rfl, by kernel_rfl⟩
noncomputable def c_impl_votes_final : FC := { n := 11, res := [⟨none, 2, [some 4]⟩], body :=
 (.seq
 (.rg [⟨some 2, none, .mv (.k (.slice none 0 0))⟩])
 (.seq
 (.rg [⟨some 4, none, .mv (.t 0)⟩,
   ⟨some 5, none, .call n_impl_votes_shown S_impl_votes_shown [(.t 4, [some 2])]⟩,
   ⟨some 3, none, .mv (.t 5)⟩])
 (.seq
 (.rg [⟨some 6, none, .mv (.t 3)⟩,
   ⟨some 7, none, .mv (.t 3)⟩,
   ⟨some 8, none, .call n_impl_final S_impl_final [(.t 7, [some 4])]⟩,
   ⟨some 9, none, .slc 4 (.t 6) none (some (.t 8)) none⟩,
   ⟨some 10, none, .call n_impl_copied S_impl_copied [(.t 9, [some 4])]⟩,
   ⟨some 2, none, .mv (.t 10)⟩])
 .ret))) }
theorem is_impl_votes_final : IsF Try.prog n_impl_votes_final c_impl_votes_final := ⟨Try.f65, _, Try.func65, rfl, by decide, rfl, by kernel_rfl, by kernel_rfl⟩
noncomputable def c_impl_TreeFinal : FC := { n := 8, res := [⟨none, 2, [some 4]⟩], body :=
 (.seq
 (.rg [⟨some 2, none, .mv (.k (.slice none 0 0))⟩])
 (.seq
 (.seq
 (.rg [⟨some 3, none, .mv (.t 0)⟩,
   ⟨some 4, none, .call n_impl_VotesOk S_impl_VotesOk [(.t 3, [some 2])]⟩,
   ⟨some 5, none, .un .not (.t 4)⟩])
 (.cond (.t 5)
 (.seq
 (.rg [⟨some 2, none, .mv (.k (.slice none 0 0))⟩])
 .ret)
 .skip))
 (.seq
 (.rg [⟨some 6, none, .mv (.t 0)⟩,
   ⟨some 7, none, .call n_impl_votes_final S_impl_votes_final [(.t 6, [some 2])]⟩,
   ⟨some 2, none, .mv (.t 7)⟩])
 .ret))) }
theorem is_impl_TreeFinal : IsF Try.prog n_impl_TreeFinal c_impl_TreeFinal := ⟨Try.f80, _, Try.func80, rfl, by decide, rfl, by kernel_rfl, by kernel_rfl⟩
noncomputable def c_impl_begins : FC := { n := 18, res := [⟨none, 4, []⟩], body :=
 (.seq
 (.rg [⟨some 4, none, .mv (.k (.bool false))⟩])
 (.seq
 (.rg [⟨some 5, none, .mv (.t 0)⟩,
   ⟨some 6, none, .len (.t 5)⟩,
   ⟨some 7, none, .mv (.t 1)⟩,
   ⟨some 8, none, .len (.t 7)⟩,
   ⟨some 9, none, .bin 0 .leq (.t 6) (.t 8)⟩,
   ⟨some 10, none, .mv (.t 9)⟩,
   ⟨some 11, some (10, true), .mv (.t 0)⟩,
   ⟨some 12, some (10, true), .mv (.t 1)⟩,
   ⟨some 13, some (10, true), .mv (.t 0)⟩,
   ⟨some 14, some (10, true), .len (.t 13)⟩,
   ⟨some 15, some (10, true), .slc 4 (.t 12) none (some (.t 14)) none⟩,
   ⟨some 16, some (10, true), .call n_slices_Equal_ItemS S_slices_Equal_ItemS [(.t 11, [some 4]), (.t 15, [some 4])]⟩,
   ⟨some 17, none, .pick (.t 10) (.t 16) (.k (.bool false))⟩,
   ⟨some 4, none, .mv (.t 17)⟩])
 .ret)) }
theorem is_impl_begins : IsF Try.prog n_impl_begins c_impl_begins := ⟨Try.f136, _, Try.func136, rfl, by decide, rfl, by kernel_rfl, by kernel_rfl⟩
noncomputable def c_impl_ChainIn : FC := { n := 16, res := [⟨none, 4, []⟩], body :=
 (.seq
 (.rg [⟨some 4, none, .mv (.k (.bool false))⟩])
 (.seq
 (.rg [⟨some 5, none, .mv (.t 0)⟩,
   ⟨some 6, none, .call n_impl_ChainOk S_impl_ChainOk [(.t 5, [some 4])]⟩,
   ⟨some 7, none, .mv (.t 6)⟩,
   ⟨some 8, some (7, true), .mv (.t 1)⟩,
   ⟨some 9, some (7, true), .call n_impl_ChainOk S_impl_ChainOk [(.t 8, [some 4])]⟩,
   ⟨some 10, none, .pick (.t 7) (.t 9) (.k (.bool false))⟩,
   ⟨some 11, none, .mv (.t 10)⟩,
   ⟨some 12, some (11, true), .mv (.t 0)⟩,
   ⟨some 13, some (11, true), .mv (.t 1)⟩,
   ⟨some 14, some (11, true), .call n_impl_begins S_impl_begins [(.t 12, [some 4]), (.t 13, [some 4])]⟩,
   ⟨some 15, none, .pick (.t 11) (.t 14) (.k (.bool false))⟩,
   ⟨some 4, none, .mv (.t 15)⟩])
 .ret)) }
theorem is_impl_ChainIn : IsF Try.prog n_impl_ChainIn c_impl_ChainIn := ⟨Try.f111, _, Try.func111, rfl, by decide, rfl, by kernel_rfl, by kernel_rfl⟩
end Av
end Go.Proofs.Ytfijfccgghhkoaa
