/- The functions' code in the small language, and that it is theirs. -/
import Derived.Test.YtfijfccgghhkoaaZK
import Derived.Test.YtfijfccgghhkoaaD1
import Derived.Test.YtfijfccgghhkoaaProg
import Derived.KernelRfl
set_option linter.unusedVariables false
namespace Go.Proofs.Ytfijfccgghhkoaa
namespace Av
noncomputable def c_spec_NodeNew : FC := { n := 11, res := [⟨some (some 4), 2, [none, none, none, some 2]⟩, ⟨none, 3, []⟩], body :=
 (.seq
 (.rg [⟨some 2, none, .alloc [.int .i64 0, .int .i64 0, .int .i64 0, .slice none 0 0]⟩,
   ⟨some 3, none, .mv (.k (.bool false))⟩])
 (.seq
 (.seq
 (.rg [⟨some 4, none, .mv (.t 0)⟩,
   ⟨some 5, none, .call n_spec_l6In S_spec_l6In [(.t 4, []), (.k (.int .i64 1), []), (.k (.int .i64 4), [])]⟩,
   ⟨some 6, none, .un .not (.t 5)⟩])
 (.cond (.t 6)
 (.seq
 (.rg [⟨some 7, none, .build [.int .i64 0, .int .i64 0, .int .i64 0, .slice none 0 0] []⟩,
   ⟨none, none, .store 4 (.t 2) (.t 7)⟩,
   ⟨some 3, none, .mv (.k (.bool false))⟩])
 .ret)
 .skip))
 (.seq
 (.rg [⟨some 8, none, .mv (.t 0)⟩,
   ⟨some 9, none, .bslf true 32 2 []⟩,
   ⟨some 10, none, .build [.int .i64 0, .int .i64 0, .int .i64 0, .slice none 0 0] [(0, 1, .t 8), (3, 1, .t 9)]⟩,
   ⟨none, none, .store 4 (.t 2) (.t 10)⟩,
   ⟨some 3, none, .mv (.k (.bool true))⟩])
 .ret))) }
theorem is_spec_NodeNew : IsF Try.prog n_spec_NodeNew c_spec_NodeNew := ⟨Try.f21, _, Try.func21, rfl, by decide, rfl, by kernel_rfl, by kernel_rfl⟩
noncomputable def c_spec_WorldNew : FC := { n := 31, res := [⟨some (some 4), 2, [none, some 4, some 2]⟩, ⟨none, 3, []⟩], body :=
 (.seq
 (.rg [⟨some 2, none, .alloc [.int .i64 0, .slice none 0 0, .slice none 0 0, .int .i64 0]⟩,
   ⟨some 3, none, .mv (.k (.bool false))⟩])
 (.seq
 (.seq
 (.rg [⟨some 8, none, .mv (.t 0)⟩,
   ⟨some 9, none, .call n_spec_l6In S_spec_l6In [(.t 8, []), (.k (.int .i64 0), []), (.k (.int .i64 4), [])]⟩,
   ⟨some 10, none, .un .not (.t 9)⟩])
 (.cond (.t 10)
 (.seq
 (.rg [⟨some 11, none, .build [.int .i64 0, .slice none 0 0, .slice none 0 0, .int .i64 0] []⟩,
   ⟨none, none, .store 4 (.t 2) (.t 11)⟩,
   ⟨some 3, none, .mv (.k (.bool false))⟩])
 .ret)
 .skip))
 (.seq
 (.rg [⟨some 12, none, .mv (.t 0)⟩,
   ⟨some 13, none, .bslf true 32 2 []⟩,
   ⟨some 14, none, .build [.int .i64 0, .slice none 0 0, .slice none 0 0, .int .i64 0] [(3, 1, .t 12), (2, 1, .t 13)]⟩,
   ⟨some 4, none, .alloc [.int .i64 0, .slice none 0 0, .slice none 0 0, .int .i64 0]⟩,
   ⟨none, none, .store 4 (.t 4) (.t 14)⟩])
 (.seq
 (.seq
 (.rg [⟨some 5, none, .mv (.k (.int .i64 1))⟩])
 (.block 0
 (.loop
 (.seq
 (.seq
 (.rg [⟨some 15, none, .mv (.t 5)⟩,
   ⟨some 16, none, .bin 0 .leq (.t 15) (.k (.int .i64 4))⟩])
 (.cond (.t 16)
 .skip
 (.exit 0)))
 (.seq
 (.block 1
 (.seq
 (.rg [⟨some 20, none, .mv (.t 5)⟩,
   ⟨some 21, none, .callm n_spec_NodeNew S_spec_NodeNew [(.t 20, [])]⟩,
   ⟨some 19, none, .mv (.t 21)⟩,
   ⟨some 22, none, .ext (.t 19) 0⟩,
   ⟨some 23, none, .ext (.t 19) 1⟩,
   ⟨some 6, none, .alloc [.int .i64 0, .int .i64 0, .int .i64 0, .slice none 0 0]⟩,
   ⟨none, none, .store 4 (.t 6) (.t 22)⟩,
   ⟨some 7, none, .mv (.t 23)⟩])
 (.rg [⟨some 24, none, .fld 1 (.t 4)⟩,
   ⟨some 25, none, .load none (.t 24)⟩,
   ⟨some 26, none, .load (some 4) (.t 6)⟩,
   ⟨some 27, none, .bsl 25 4 [.t 26]⟩,
   ⟨some 28, none, .app 25 4 48 [.int .i64 0, .int .i64 0, .int .i64 0, .slice none 0 0] (.t 25) (.t 27)⟩,
   ⟨some 29, none, .fld 1 (.t 4)⟩,
   ⟨none, none, .store 1 (.t 29) (.t 28)⟩])))
 (.rg [⟨some 17, none, .mv (.t 5)⟩,
   ⟨some 18, none, .bin 0 .add (.t 17) (.k (.int .i64 1))⟩,
   ⟨some 5, none, .mv (.t 18)⟩]))))))
 (.seq
 (.rg [⟨some 30, none, .load (some 4) (.t 4)⟩,
   ⟨none, none, .store 4 (.t 2) (.t 30)⟩,
   ⟨some 3, none, .mv (.k (.bool true))⟩])
 .ret))))) }
theorem is_spec_WorldNew : IsF Try.prog n_spec_WorldNew c_spec_WorldNew := ⟨Try.f35, _, Try.func35, rfl, by decide, rfl, by kernel_rfl, by kernel_rfl⟩
end Av
end Go.Proofs.Ytfijfccgghhkoaa
