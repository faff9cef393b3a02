/- The functions' code in the small language, and that it is theirs. -/
import Derived.Test.YtkpncekaehgbdaaQ6
import Derived.Test.YtkpncekaehgbdaaD1
import Derived.Test.YtkpncekaehgbdaaProg
import Derived.KernelRfl
set_option linter.unusedVariables false
namespace Go.Proofs.Ytkpncekaehgbdaa
namespace Av
noncomputable def c_laws_FnEnterTwice : FC := { n := 70, res := [⟨none, 4, []⟩], body :=
 (.seq
 (.rg [⟨some 4, none, .mv (.k (.bool false))⟩])
 (.seq
 (.seq
 (.rg [⟨some 9, none, .mv (.t 0)⟩,
   ⟨some 10, none, .len (.t 9)⟩,
   ⟨some 11, none, .bin 0 .gtr (.t 10) (.k (.int .i64 1048576))⟩,
   ⟨some 12, none, .mv (.t 11)⟩,
   ⟨some 13, some (12, false), .mv (.t 1)⟩,
   ⟨some 14, some (12, false), .len (.t 13)⟩,
   ⟨some 15, some (12, false), .bin 0 .gtr (.t 14) (.k (.int .i64 1048576))⟩,
   ⟨some 16, none, .pick (.t 12) (.k (.bool true)) (.t 15)⟩])
 (.cond (.t 16)
 (.seq
 (.rg [⟨some 4, none, .mv (.k (.bool true))⟩])
 .ret)
 .skip))
 (.seq
 (.rg [⟨some 18, none, .mv (.t 0)⟩,
   ⟨some 19, none, .call n_spec_DrawNodeEnter S_spec_DrawNodeEnter [(.t 18, [some 1])]⟩,
   ⟨some 17, none, .mv (.t 19)⟩,
   ⟨some 20, none, .ext (.t 17) 0⟩,
   ⟨some 21, none, .ext (.t 17) 1⟩,
   ⟨some 5, none, .alloc [.int .i64 0, .int .i64 0, .int .i64 0, .slice none 0 0]⟩,
   ⟨none, none, .store 4 (.t 5) (.t 20)⟩,
   ⟨some 6, none, .mv (.t 21)⟩])
 (.seq
 (.rg [⟨some 22, none, .load (some 4) (.t 5)⟩,
   ⟨some 23, none, .mv (.t 6)⟩,
   ⟨some 24, none, .call n_impl_NodeEnter S_impl_NodeEnter [(.t 22, [none, none, none, some 2]), (.t 23, [])]⟩,
   ⟨some 7, none, .alloc [.int .i64 0, .int .i64 0, .int .i64 0, .slice none 0 0]⟩,
   ⟨none, none, .store 4 (.t 7) (.t 24)⟩])
 (.seq
 (.seq
 (.rg [⟨some 25, none, .load (some 4) (.t 7)⟩,
   ⟨some 26, none, .load (some 4) (.t 5)⟩,
   ⟨some 27, none, .mv (.t 6)⟩,
   ⟨some 28, none, .call n_spec_NodeEnter S_spec_NodeEnter [(.t 26, [none, none, none, some 2]), (.t 27, [])]⟩,
   ⟨some 29, none, .call n_laws_lwNode S_laws_lwNode [(.t 25, [none, none, none, some 2]), (.t 28, [none, none, none, some 2])]⟩,
   ⟨some 30, none, .un .not (.t 29)⟩,
   ⟨some 31, none, .mv (.t 30)⟩,
   ⟨some 32, some (31, false), .load (some 4) (.t 5)⟩,
   ⟨some 33, some (31, false), .call n_spec_NodeOk S_spec_NodeOk [(.t 32, [none, none, none, some 2])]⟩,
   ⟨some 34, some (31, false), .un .not (.t 33)⟩,
   ⟨some 35, none, .pick (.t 31) (.k (.bool true)) (.t 34)⟩])
 (.cond (.t 35)
 (.seq
 (.rg [⟨some 36, none, .load (some 4) (.t 7)⟩,
   ⟨some 37, none, .load (some 4) (.t 5)⟩,
   ⟨some 38, none, .mv (.t 6)⟩,
   ⟨some 39, none, .call n_spec_NodeEnter S_spec_NodeEnter [(.t 37, [none, none, none, some 2]), (.t 38, [])]⟩,
   ⟨some 40, none, .call n_laws_lwNode S_laws_lwNode [(.t 36, [none, none, none, some 2]), (.t 39, [none, none, none, some 2])]⟩,
   ⟨some 4, none, .mv (.t 40)⟩])
 .ret)
 .skip))
 (.seq
 (.rg [⟨some 41, none, .mv (.t 6)⟩,
   ⟨some 42, none, .fld 1 (.t 5)⟩,
   ⟨some 43, none, .load none (.t 42)⟩,
   ⟨some 44, none, .mnmx false (.t 41) (.t 43)⟩,
   ⟨some 45, none, .mv (.t 1)⟩,
   ⟨some 46, none, .len (.t 45)⟩,
   ⟨some 47, none, .bin 0 .rem (.t 46) (.k (.int .i64 4))⟩,
   ⟨some 48, none, .bin 0 .add (.t 44) (.t 47)⟩,
   ⟨some 8, none, .mv (.t 48)⟩])
 (.seq
 (.seq
 (.rg [⟨some 49, none, .mv (.t 8)⟩,
   ⟨some 50, none, .bin 0 .gtr (.t 49) (.k (.int .i64 30))⟩])
 (.cond (.t 50)
 (.seq
 (.rg [⟨some 51, none, .load (some 4) (.t 7)⟩,
   ⟨some 52, none, .mv (.t 8)⟩,
   ⟨some 53, none, .call n_impl_NodeEnter S_impl_NodeEnter [(.t 51, [none, none, none, some 2]), (.t 52, [])]⟩,
   ⟨some 54, none, .load (some 4) (.t 7)⟩,
   ⟨some 55, none, .call n_laws_lwNode S_laws_lwNode [(.t 53, [none, none, none, some 2]), (.t 54, [none, none, none, some 2])]⟩,
   ⟨some 4, none, .mv (.t 55)⟩])
 .ret)
 .skip))
 (.seq
 (.rg [⟨some 56, none, .load (some 4) (.t 7)⟩,
   ⟨some 57, none, .mv (.t 8)⟩,
   ⟨some 58, none, .call n_impl_NodeEnter S_impl_NodeEnter [(.t 56, [none, none, none, some 2]), (.t 57, [])]⟩,
   ⟨some 59, none, .load (some 4) (.t 5)⟩,
   ⟨some 60, none, .mv (.t 8)⟩,
   ⟨some 61, none, .call n_impl_NodeEnter S_impl_NodeEnter [(.t 59, [none, none, none, some 2]), (.t 60, [])]⟩,
   ⟨some 62, none, .call n_laws_lwNode S_laws_lwNode [(.t 58, [none, none, none, some 2]), (.t 61, [none, none, none, some 2])]⟩,
   ⟨some 63, none, .mv (.t 62)⟩,
   ⟨some 64, some (63, true), .load (some 4) (.t 7)⟩,
   ⟨some 65, some (63, true), .mv (.t 6)⟩,
   ⟨some 66, some (63, true), .call n_impl_NodeEnter S_impl_NodeEnter [(.t 64, [none, none, none, some 2]), (.t 65, [])]⟩,
   ⟨some 67, some (63, true), .load (some 4) (.t 7)⟩,
   ⟨some 68, some (63, true), .call n_laws_lwNode S_laws_lwNode [(.t 66, [none, none, none, some 2]), (.t 67, [none, none, none, some 2])]⟩,
   ⟨some 69, none, .pick (.t 63) (.t 68) (.k (.bool false))⟩,
   ⟨some 4, none, .mv (.t 69)⟩])
 .ret)))))))) }
theorem is_laws_FnEnterTwice : IsF Try.prog n_laws_FnEnterTwice c_laws_FnEnterTwice := ⟨Try.f7, _, Try.func7, rfl, by decide, rfl, by kernel_rfl, by kernel_rfl⟩
end Av
end Go.Proofs.Ytkpncekaehgbdaa
