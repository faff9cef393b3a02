/- Texts of the layer, joined. -/
import Derived.Test.YtdboofnogabefaaJ32
import Derived.Test.YtdboofnogabefaaD1
import Derived.Test.YtdboofnogabefaaProg
import Derived.KernelRfl
set_option linter.unusedVariables false
namespace Go.Proofs.Ytdboofnogabefaa
namespace Av
end Av
end Go.Proofs.Ytdboofnogabefaa

namespace Go.Proofs.Ytdboofnogabefaa
namespace Av
noncomputable def c_slices_Clip_ISS_o : FC := { n := 9, res := [⟨none, 2, [some 1]⟩], body :=
 (.seq
 (.rg [⟨some 2, none, .mv (.k (.slice none 0 0))⟩])
 (.seq
 (.rg [⟨some 3, none, .mv (.t 0)⟩,
   ⟨some 4, none, .mv (.t 0)⟩,
   ⟨some 5, none, .len (.t 4)⟩,
   ⟨some 6, none, .mv (.t 0)⟩,
   ⟨some 7, none, .len (.t 6)⟩,
   ⟨some 8, none, .clip 1 (.t 3) (.t 5) (.t 7)⟩,
   ⟨some 2, none, .mv (.t 8)⟩])
 .ret)) }
theorem is_slices_Clip_ISS_o : IsF Try.prog n_slices_Clip_ISS_o c_slices_Clip_ISS_o := ⟨Try.f152, _, Try.func152, rfl, by decide, rfl, by kernel_rfl, by kernel_rfl⟩
noncomputable def c_impl_votes_all_o : FC := { n := 35, res := [⟨none, 2, [some 1]⟩], body :=
 (.seq
 (.rg [⟨some 2, none, .mv (.k (.slice none 0 0))⟩])
 (.seq
 (.rg [⟨some 7, none, .bsl 54 4 []⟩,
   ⟨some 8, none, .bsl 30 1 [.t 7]⟩,
   ⟨some 3, none, .mv (.t 8)⟩])
 (.seq
 (.seq
 (.rg [⟨some 9, none, .mv (.t 0)⟩,
   ⟨some 10, none, .len (.t 9)⟩,
   ⟨some 11, none, .mv (.k (.int .i64 0))⟩])
 (.block 0
 (.loop
 (.seq
 (.rg [⟨some 12, none, .bin 0 .lss (.t 11) (.t 10)⟩])
 (.seq
 (.cond (.t 12)
 .skip
 (.exit 0))
 (.seq
 (.block 1
 (.seq
 (.rg [⟨some 13, none, .idx 2 (.t 9) (.t 11)⟩,
   ⟨some 14, none, .load (some 2) (.t 13)⟩,
   ⟨some 5, none, .alloc [.int .i64 0, .slice none 0 0]⟩,
   ⟨none, none, .store 2 (.t 5) (.t 14)⟩])
 (.seq
 (.rg [⟨some 15, none, .mv (.t 3)⟩,
   ⟨some 16, none, .mkfn (.func n_impl_votes_all_1) [] [.t 5]⟩,
   ⟨some 17, none, .call n_slices_ContainsFunc_ISS S_slices_ContainsFunc_ISS [(.t 15, [some 1]), (.t 16, [])]⟩,
   ⟨some 6, none, .mv (.t 17)⟩])
 (.seq
 (.rg [⟨some 18, none, .mv (.t 6)⟩,
   ⟨some 19, none, .un .not (.t 18)⟩,
   ⟨some 20, none, .mv (.t 19)⟩,
   ⟨some 21, some (20, true), .mv (.t 0)⟩,
   ⟨some 22, some (20, true), .fld 1 (.t 5)⟩,
   ⟨some 23, some (20, true), .load none (.t 22)⟩,
   ⟨some 24, some (20, true), .call n_impl_votes_sure S_impl_votes_sure [(.t 21, [some 2]), (.t 23, [some 4])]⟩,
   ⟨some 25, none, .pick (.t 20) (.t 24) (.k (.bool false))⟩])
 (.cond (.t 25)
 (.rg [⟨some 26, none, .mv (.t 3)⟩,
   ⟨some 27, none, .fld 1 (.t 5)⟩,
   ⟨some 28, none, .load none (.t 27)⟩,
   ⟨some 29, none, .callo n_impl_copied SO_impl_copied [(.t 28, [some 4])]⟩,
   ⟨some 30, none, .bsl 30 1 [.t 29]⟩,
   ⟨some 31, none, .app 30 1 24 [.slice none 0 0] (.t 26) (.t 30)⟩,
   ⟨some 3, none, .mv (.t 31)⟩])
 .skip)))))
 (.rg [⟨some 32, none, .bin 0 .add (.t 11) (.k (.int .i64 1))⟩,
   ⟨some 11, none, .mv (.t 32)⟩])))))))
 (.seq
 (.rg [⟨some 33, none, .mv (.t 3)⟩,
   ⟨some 34, none, .callm n_slices_Clip_ISS_o S_slices_Clip_ISS_o [(.t 33, [some 1])]⟩,
   ⟨some 2, none, .mv (.t 34)⟩])
 .ret)))) }
theorem is_impl_votes_all_o : IsF Try.prog n_impl_votes_all_o c_impl_votes_all_o := ⟨Try.f128, _, Try.func128, rfl, by decide, rfl, by kernel_rfl, by kernel_rfl⟩
noncomputable def c_impl_votes_tip_o : FC := { n := 22, res := [⟨none, 2, [some 4]⟩], body :=
 (.seq
 (.rg [⟨some 2, none, .mv (.k (.slice none 0 0))⟩])
 (.seq
 (.rg [⟨some 6, none, .bsl 54 4 []⟩,
   ⟨some 3, none, .mv (.t 6)⟩])
 (.seq
 (.seq
 (.rg [⟨some 7, none, .mv (.t 0)⟩,
   ⟨some 8, none, .callm n_impl_votes_all_o S_impl_votes_all_o [(.t 7, [some 2])]⟩,
   ⟨some 9, none, .len (.t 8)⟩,
   ⟨some 10, none, .mv (.k (.int .i64 0))⟩])
 (.block 0
 (.loop
 (.seq
 (.rg [⟨some 11, none, .bin 0 .lss (.t 10) (.t 9)⟩])
 (.seq
 (.cond (.t 11)
 .skip
 (.exit 0))
 (.seq
 (.block 1
 (.seq
 (.rg [⟨some 12, none, .idx 1 (.t 8) (.t 10)⟩,
   ⟨some 13, none, .load none (.t 12)⟩,
   ⟨some 5, none, .mv (.t 13)⟩])
 (.seq
 (.rg [⟨some 14, none, .mv (.t 5)⟩,
   ⟨some 15, none, .len (.t 14)⟩,
   ⟨some 16, none, .mv (.t 3)⟩,
   ⟨some 17, none, .len (.t 16)⟩,
   ⟨some 18, none, .bin 0 .gtr (.t 15) (.t 17)⟩])
 (.cond (.t 18)
 (.rg [⟨some 19, none, .mv (.t 5)⟩,
   ⟨some 3, none, .mv (.t 19)⟩])
 .skip))))
 (.rg [⟨some 20, none, .bin 0 .add (.t 10) (.k (.int .i64 1))⟩,
   ⟨some 10, none, .mv (.t 20)⟩])))))))
 (.seq
 (.rg [⟨some 21, none, .mv (.t 3)⟩,
   ⟨some 2, none, .mv (.t 21)⟩])
 .ret)))) }
theorem is_impl_votes_tip_o : IsF Try.prog n_impl_votes_tip_o c_impl_votes_tip_o := ⟨Try.f106, _, Try.func106, rfl, by decide, rfl, by kernel_rfl, by kernel_rfl⟩
end Av
end Go.Proofs.Ytdboofnogabefaa

