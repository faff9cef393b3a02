/- The functions' code in the small language, and that it is theirs. -/
import Derived.Test.YtfijfccgghhkoaaWQ
import Derived.Test.YtfijfccgghhkoaaJ13
import Derived.Test.YtfijfccgghhkoaaProg
import Derived.KernelRfl
set_option linter.unusedVariables false
namespace Go.Proofs.Ytfijfccgghhkoaa
namespace Av
noncomputable def c_impl_WorldNew : FC := { n := 25, res := [⟨some (some 4), 2, [none, some 4, some 2]⟩, ⟨none, 3, []⟩], body :=
 (.seq
 (.rg [⟨some 2, none, .alloc [.int .i64 0, .slice none 0 0, .slice none 0 0, .int .i64 0]⟩,
   ⟨some 3, none, .mv (.k (.bool false))⟩])
 (.seq
 (.seq
 (.rg [⟨some 6, none, .mv (.t 0)⟩,
   ⟨some 7, none, .call n_impl_within S_impl_within [(.t 6, []), (.k (.int .i64 0), []), (.k (.int .i64 4), [])]⟩,
   ⟨some 8, none, .un .not (.t 7)⟩])
 (.cond (.t 8)
 (.seq
 (.rg [⟨some 9, none, .build [.int .i64 0, .slice none 0 0, .slice none 0 0, .int .i64 0] []⟩,
   ⟨none, none, .store 4 (.t 2) (.t 9)⟩,
   ⟨some 3, none, .mv (.k (.bool false))⟩])
 .ret)
 .skip))
 (.seq
 (.rg [⟨some 10, none, .mv (.t 0)⟩,
   ⟨some 11, none, .mksl 25 4 48 [.int .i64 0, .int .i64 0, .int .i64 0, .slice none 0 0] (.k (.int .i64 0)) (.k (.int .i64 4))⟩,
   ⟨some 12, none, .build [.int .i64 0, .slice none 0 0, .slice none 0 0, .int .i64 0] [(3, 1, .t 10), (1, 1, .t 11)]⟩,
   ⟨some 4, none, .alloc [.int .i64 0, .slice none 0 0, .slice none 0 0, .int .i64 0]⟩,
   ⟨none, none, .store 4 (.t 4) (.t 12)⟩])
 (.seq
 (.seq
 (.rg [⟨some 5, none, .mv (.k (.int .i64 1))⟩])
 (.block 0
 (.loop
 (.seq
 (.seq
 (.rg [⟨some 13, none, .mv (.t 5)⟩,
   ⟨some 14, none, .bin 0 .leq (.t 13) (.k (.int .i64 4))⟩])
 (.cond (.t 14)
 .skip
 (.exit 0)))
 (.seq
 (.block 1
 (.rg [⟨some 17, none, .fld 1 (.t 4)⟩,
   ⟨some 18, none, .load none (.t 17)⟩,
   ⟨some 19, none, .mv (.t 5)⟩,
   ⟨some 20, none, .build [.int .i64 0, .int .i64 0, .int .i64 0, .slice none 0 0] [(0, 1, .t 19)]⟩,
   ⟨some 21, none, .bsl 25 4 [.t 20]⟩,
   ⟨some 22, none, .app 25 4 48 [.int .i64 0, .int .i64 0, .int .i64 0, .slice none 0 0] (.t 18) (.t 21)⟩,
   ⟨some 23, none, .fld 1 (.t 4)⟩,
   ⟨none, none, .store 1 (.t 23) (.t 22)⟩]))
 (.rg [⟨some 15, none, .mv (.t 5)⟩,
   ⟨some 16, none, .bin 0 .add (.t 15) (.k (.int .i64 1))⟩,
   ⟨some 5, none, .mv (.t 16)⟩]))))))
 (.seq
 (.rg [⟨some 24, none, .load (some 4) (.t 4)⟩,
   ⟨none, none, .store 4 (.t 2) (.t 24)⟩,
   ⟨some 3, none, .mv (.k (.bool true))⟩])
 .ret))))) }
theorem is_impl_WorldNew : IsF Try.prog n_impl_WorldNew c_impl_WorldNew := ⟨Try.f36, _, Try.func36, rfl, by decide, rfl, by kernel_rfl, by kernel_rfl⟩
end Av
end Go.Proofs.Ytfijfccgghhkoaa
