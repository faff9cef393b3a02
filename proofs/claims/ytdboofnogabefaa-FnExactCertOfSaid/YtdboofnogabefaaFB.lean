/- The functions' code in the small language, and that it is theirs. -/
import Derived.Test.YtdboofnogabefaaFA
import Derived.Test.YtdboofnogabefaaD1
import Derived.Test.YtdboofnogabefaaProg
import Derived.KernelRfl
set_option linter.unusedVariables false
namespace Go.Proofs.Ytdboofnogabefaa
namespace Av
noncomputable def c_slices_Clone_ItemS_o : FC := { n := 8, res := [⟨none, 2, [some 4]⟩], body :=
 (.seq
 (.rg [⟨some 2, none, .mv (.k (.slice none 0 0))⟩])
 (.seq
 (.seq
 (.rg [⟨some 3, none, .mv (.t 0)⟩,
   ⟨some 4, none, .bin 3 .eql (.t 3) (.k (.slice none 0 0))⟩])
 (.cond (.t 4)
 (.seq
 (.rg [⟨some 2, none, .mv (.k (.slice none 0 0))⟩])
 .ret)
 .skip))
 (.seq
 (.rg [⟨some 5, none, .bsl 54 4 []⟩,
   ⟨some 6, none, .mv (.t 0)⟩,
   ⟨some 7, none, .app 54 4 32 [.int .i64 0, .int .i64 0, .int .i64 0, .int .i64 0] (.t 5) (.t 6)⟩,
   ⟨some 2, none, .mv (.t 7)⟩])
 .ret))) }
theorem is_slices_Clone_ItemS_o : IsF Try.prog n_slices_Clone_ItemS_o c_slices_Clone_ItemS_o := ⟨Try.f119, _, Try.func119, rfl, by decide, rfl, by kernel_rfl, by kernel_rfl⟩
noncomputable def c_slices_Clip_ItemS_o : FC := { n := 9, res := [⟨none, 2, [some 4]⟩], body :=
 (.seq
 (.rg [⟨some 2, none, .mv (.k (.slice none 0 0))⟩])
 (.seq
 (.rg [⟨some 3, none, .mv (.t 0)⟩,
   ⟨some 4, none, .mv (.t 0)⟩,
   ⟨some 5, none, .len (.t 4)⟩,
   ⟨some 6, none, .mv (.t 0)⟩,
   ⟨some 7, none, .len (.t 6)⟩,
   ⟨some 8, none, .clip 4 (.t 3) (.t 5) (.t 7)⟩,
   ⟨some 2, none, .mv (.t 8)⟩])
 .ret)) }
theorem is_slices_Clip_ItemS_o : IsF Try.prog n_slices_Clip_ItemS_o c_slices_Clip_ItemS_o := ⟨Try.f118, _, Try.func118, rfl, by decide, rfl, by kernel_rfl, by kernel_rfl⟩
noncomputable def c_impl_copied_o : FC := { n := 6, res := [⟨none, 2, [some 4]⟩], body :=
 (.seq
 (.rg [⟨some 2, none, .mv (.k (.slice none 0 0))⟩])
 (.seq
 (.rg [⟨some 3, none, .mv (.t 0)⟩,
   ⟨some 4, none, .callm n_slices_Clone_ItemS_o S_slices_Clone_ItemS_o [(.t 3, [some 4])]⟩,
   ⟨some 5, none, .callm n_slices_Clip_ItemS_o S_slices_Clip_ItemS_o [(.t 4, [some 4])]⟩,
   ⟨some 2, none, .mv (.t 5)⟩])
 .ret)) }
theorem is_impl_copied_o : IsF Try.prog n_impl_copied_o c_impl_copied_o := ⟨Try.f71, _, Try.func71, rfl, by decide, rfl, by kernel_rfl, by kernel_rfl⟩
end Av
end Go.Proofs.Ytdboofnogabefaa
