/- The functions' code in the small language, and that it is theirs. -/
import Derived.Test.YtkpncekaehgbdaaQ6
import Derived.Test.YtkpncekaehgbdaaD1
import Derived.Test.YtkpncekaehgbdaaProg
import Derived.KernelRfl
set_option linter.unusedVariables false
namespace Go.Proofs.Ytkpncekaehgbdaa
namespace Av
noncomputable def c_laws_FnNodeEnter : FC := { n := 63, res := [⟨none, 2, []⟩], body :=
 (.seq
 (.rg [⟨some 2, none, .mv (.k (.bool false))⟩])
 (.seq
 (.seq
 (.rg [⟨some 8, none, .mv (.t 0)⟩,
   ⟨some 9, none, .len (.t 8)⟩,
   ⟨some 10, none, .bin 0 .gtr (.t 9) (.k (.int .i64 1048576))⟩])
 (.cond (.t 10)
 (.seq
 (.rg [⟨some 2, none, .mv (.k (.bool true))⟩])
 .ret)
 .skip))
 (.seq
 (.rg [⟨some 12, none, .mv (.t 0)⟩,
   ⟨some 13, none, .call n_spec_DrawNodeEnter S_spec_DrawNodeEnter [(.t 12, [some 1])]⟩,
   ⟨some 11, none, .mv (.t 13)⟩,
   ⟨some 14, none, .ext (.t 11) 0⟩,
   ⟨some 15, none, .ext (.t 11) 1⟩,
   ⟨some 3, none, .alloc [.int .i64 0, .int .i64 0, .int .i64 0, .slice none 0 0]⟩,
   ⟨none, none, .store 4 (.t 3) (.t 14)⟩,
   ⟨some 4, none, .mv (.t 15)⟩])
 (.seq
 (.rg [⟨some 16, none, .load (some 4) (.t 3)⟩,
   ⟨some 17, none, .mv (.t 4)⟩,
   ⟨some 18, none, .call n_impl_NodeEnter S_impl_NodeEnter [(.t 16, [none, none, none, some 2]), (.t 17, [])]⟩,
   ⟨some 5, none, .alloc [.int .i64 0, .int .i64 0, .int .i64 0, .slice none 0 0]⟩,
   ⟨none, none, .store 4 (.t 5) (.t 18)⟩])
 (.seq
 (.seq
 (.rg [⟨some 19, none, .load (some 4) (.t 5)⟩,
   ⟨some 20, none, .load (some 4) (.t 3)⟩,
   ⟨some 21, none, .mv (.t 4)⟩,
   ⟨some 22, none, .call n_spec_NodeEnter S_spec_NodeEnter [(.t 20, [none, none, none, some 2]), (.t 21, [])]⟩,
   ⟨some 23, none, .call n_laws_lwNode S_laws_lwNode [(.t 19, [none, none, none, some 2]), (.t 22, [none, none, none, some 2])]⟩,
   ⟨some 24, none, .un .not (.t 23)⟩,
   ⟨some 25, none, .mv (.t 24)⟩,
   ⟨some 26, some (25, false), .load (some 4) (.t 3)⟩,
   ⟨some 27, some (25, false), .call n_spec_NodeOk S_spec_NodeOk [(.t 26, [none, none, none, some 2])]⟩,
   ⟨some 28, some (25, false), .un .not (.t 27)⟩,
   ⟨some 29, none, .pick (.t 25) (.k (.bool true)) (.t 28)⟩])
 (.cond (.t 29)
 (.seq
 (.rg [⟨some 30, none, .load (some 4) (.t 5)⟩,
   ⟨some 31, none, .load (some 4) (.t 3)⟩,
   ⟨some 32, none, .mv (.t 4)⟩,
   ⟨some 33, none, .call n_spec_NodeEnter S_spec_NodeEnter [(.t 31, [none, none, none, some 2]), (.t 32, [])]⟩,
   ⟨some 34, none, .call n_laws_lwNode S_laws_lwNode [(.t 30, [none, none, none, some 2]), (.t 33, [none, none, none, some 2])]⟩,
   ⟨some 2, none, .mv (.t 34)⟩])
 .ret)
 .skip))
 (.seq
 (.rg [⟨some 35, none, .load (some 4) (.t 5)⟩,
   ⟨some 6, none, .alloc [.int .i64 0, .int .i64 0, .int .i64 0, .slice none 0 0]⟩,
   ⟨none, none, .store 4 (.t 6) (.t 35)⟩])
 (.seq
 (.rg [⟨some 36, none, .fld 1 (.t 3)⟩,
   ⟨some 37, none, .load none (.t 36)⟩,
   ⟨some 38, none, .fld 1 (.t 6)⟩,
   ⟨none, none, .store 1 (.t 38) (.t 37)⟩])
 (.seq
 (.rg [⟨some 39, none, .fld 1 (.t 3)⟩,
   ⟨some 40, none, .load none (.t 39)⟩,
   ⟨some 7, none, .mv (.t 40)⟩])
 (.seq
 (.seq
 (.rg [⟨some 41, none, .mv (.t 4)⟩,
   ⟨some 42, none, .fld 1 (.t 3)⟩,
   ⟨some 43, none, .load none (.t 42)⟩,
   ⟨some 44, none, .bin 0 .gtr (.t 41) (.t 43)⟩,
   ⟨some 45, none, .mv (.t 44)⟩,
   ⟨some 46, some (45, true), .mv (.t 4)⟩,
   ⟨some 47, some (45, true), .bin 0 .leq (.t 46) (.k (.int .i64 30))⟩,
   ⟨some 48, none, .pick (.t 45) (.t 47) (.k (.bool false))⟩])
 (.cond (.t 48)
 (.rg [⟨some 49, none, .mv (.t 4)⟩,
   ⟨some 7, none, .mv (.t 49)⟩])
 .skip))
 (.seq
 (.rg [⟨some 50, none, .fld 1 (.t 5)⟩,
   ⟨some 51, none, .load none (.t 50)⟩,
   ⟨some 52, none, .mv (.t 7)⟩,
   ⟨some 53, none, .bin 0 .eql (.t 51) (.t 52)⟩,
   ⟨some 54, none, .mv (.t 53)⟩,
   ⟨some 55, some (54, true), .load (some 4) (.t 6)⟩,
   ⟨some 56, some (54, true), .load (some 4) (.t 3)⟩,
   ⟨some 57, some (54, true), .call n_laws_lwNode S_laws_lwNode [(.t 55, [none, none, none, some 2]), (.t 56, [none, none, none, some 2])]⟩,
   ⟨some 58, none, .pick (.t 54) (.t 57) (.k (.bool false))⟩,
   ⟨some 59, none, .mv (.t 58)⟩,
   ⟨some 60, some (59, true), .load (some 4) (.t 5)⟩,
   ⟨some 61, some (59, true), .call n_impl_NodeOk S_impl_NodeOk [(.t 60, [none, none, none, some 2])]⟩,
   ⟨some 62, none, .pick (.t 59) (.t 61) (.k (.bool false))⟩,
   ⟨some 2, none, .mv (.t 62)⟩])
 .ret)))))))))) }
theorem is_laws_FnNodeEnter : IsF Try.prog n_laws_FnNodeEnter c_laws_FnNodeEnter := ⟨Try.f8, _, Try.func8, rfl, by decide, rfl, by kernel_rfl, by kernel_rfl⟩
end Av
end Go.Proofs.Ytkpncekaehgbdaa
