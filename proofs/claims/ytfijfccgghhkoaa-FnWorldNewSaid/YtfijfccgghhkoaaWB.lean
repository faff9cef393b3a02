/- The functions' code in the small language, and that it is theirs. -/
import Derived.Test.YtfijfccgghhkoaaWQ
import Derived.Test.YtfijfccgghhkoaaD1
import Derived.Test.YtfijfccgghhkoaaProg
import Derived.KernelRfl
set_option linter.unusedVariables false
namespace Go.Proofs.Ytfijfccgghhkoaa
namespace Av
noncomputable def c_impl_WorldNew : FC := { n := 25, res := [⟨some (some 4), 2, [none, some 4, some 2]⟩, ⟨none, 3, []⟩], body :=
 (.seq
 (.rg [⟨some 2, none, .alloc [.int .i64 0, .slice none 0 0, .slice none 0 0, .int .i64 0]⟩,
   ⟨some 3, none, .mv (.k (.bool false))⟩])
 (.seq
 (.seq
 (.rg [⟨some 6, none, .mv (.t 0)⟩,
   ⟨some 7, none, .call n_impl_within S_impl_within [(.t 6, []), (.k (.int .i64 0), []), (.k (.int .i64 4), [])]⟩,
   ⟨some 8, none, .un .not (.t 7)⟩])
 (.cond (.t 8)
 (.seq
 (.rg [⟨some 9, none, .build [.int .i64 0, .slice none 0 0, .slice none 0 0, .int .i64 0] []⟩,
   ⟨none, none, .store 4 (.t 2) (.t 9)⟩,
   ⟨some 3, none, .mv (.k (.bool false))⟩])
 .ret)
 .skip))
 (.seq
 (.rg [⟨some 10, none, .mv (.t 0)⟩,
   ⟨some 11, none, .mksl 25 4 48 [.int .i64 0, .int .i64 0, .int .i64 0, .slice none 0 0] (.k (.int .i64 0)) (.k (.int .i64 4))⟩,
   ⟨some 12, none, .build [.int .i64 0, .slice none 0 0, .slice none 0 0, .int .i64 0] [(3, 1, .t 10), (1, 1, .t 11)]⟩,
   ⟨some 4, none, .alloc [.int .i64 0, .slice none 0 0, .slice none 0 0, .int .i64 0]⟩,
   ⟨none, none, .store 4 (.t 4) (.t 12)⟩])
 (.seq
 (.seq
 (.rg [⟨some 5, none, .mv (.k (.int .i64 1))⟩])
 (.block 0
 (.loop
 (.seq
 (.seq
 (.rg [⟨some 13, none, .mv (.t 5)⟩,
   ⟨some 14, none, .bin 0 .leq (.t 13) (.k (.int .i64 4))⟩])
 (.cond (.t 14)
 .skip
 (.exit 0)))
 (.seq
 (.block 1
 (.rg [⟨some 17, none, .fld 1 (.t 4)⟩,
   ⟨some 18, none, .load none (.t 17)⟩,
   ⟨some 19, none, .mv (.t 5)⟩,
   ⟨some 20, none, .build [.int .i64 0, .int .i64 0, .int .i64 0, .slice none 0 0] [(0, 1, .t 19)]⟩,
   ⟨some 21, none, .bsl 25 4 [.t 20]⟩,
   ⟨some 22, none, .app 25 4 48 [.int .i64 0, .int .i64 0, .int .i64 0, .slice none 0 0] (.t 18) (.t 21)⟩,
   ⟨some 23, none, .fld 1 (.t 4)⟩,
   ⟨none, none, .store 1 (.t 23) (.t 22)⟩]))
 (.rg [⟨some 15, none, .mv (.t 5)⟩,
   ⟨some 16, none, .bin 0 .add (.t 15) (.k (.int .i64 1))⟩,
   ⟨some 5, none, .mv (.t 16)⟩]))))))
 (.seq
 (.rg [⟨some 24, none, .load (some 4) (.t 4)⟩,
   ⟨none, none, .store 4 (.t 2) (.t 24)⟩,
   ⟨some 3, none, .mv (.k (.bool true))⟩])
 .ret))))) }
theorem is_impl_WorldNew : IsF Try.prog n_impl_WorldNew c_impl_WorldNew := ⟨Try.f36, _, Try.func36, rfl, by decide, rfl, by kernel_rfl, by kernel_rfl⟩
noncomputable def c_laws_lwWorld : FC := { n := 54, res := [⟨none, 4, []⟩], body :=
 (.seq
 (.rg [⟨some 2, none, .box (.t 0)⟩,
   ⟨some 3, none, .box (.t 1)⟩,
   ⟨some 4, none, .mv (.k (.bool false))⟩])
 (.seq
 (.seq
 (.rg [⟨some 6, none, .fld 0 (.t 2)⟩,
   ⟨some 7, none, .load none (.t 6)⟩,
   ⟨some 8, none, .fld 0 (.t 3)⟩,
   ⟨some 9, none, .load none (.t 8)⟩,
   ⟨some 10, none, .bin 0 .neq (.t 7) (.t 9)⟩,
   ⟨some 11, none, .mv (.t 10)⟩,
   ⟨some 12, some (11, false), .fld 3 (.t 2)⟩,
   ⟨some 13, some (11, false), .load none (.t 12)⟩,
   ⟨some 14, some (11, false), .fld 3 (.t 3)⟩,
   ⟨some 15, some (11, false), .load none (.t 14)⟩,
   ⟨some 16, some (11, false), .bin 0 .neq (.t 13) (.t 15)⟩,
   ⟨some 17, none, .pick (.t 11) (.k (.bool true)) (.t 16)⟩,
   ⟨some 18, none, .mv (.t 17)⟩,
   ⟨some 19, some (18, false), .fld 1 (.t 2)⟩,
   ⟨some 20, some (18, false), .load none (.t 19)⟩,
   ⟨some 21, some (18, false), .len (.t 20)⟩,
   ⟨some 22, some (18, false), .fld 1 (.t 3)⟩,
   ⟨some 23, some (18, false), .load none (.t 22)⟩,
   ⟨some 24, some (18, false), .len (.t 23)⟩,
   ⟨some 25, some (18, false), .bin 0 .neq (.t 21) (.t 24)⟩,
   ⟨some 26, none, .pick (.t 18) (.k (.bool true)) (.t 25)⟩,
   ⟨some 27, none, .mv (.t 26)⟩,
   ⟨some 28, some (27, false), .fld 2 (.t 2)⟩,
   ⟨some 29, some (27, false), .load none (.t 28)⟩,
   ⟨some 30, some (27, false), .fld 2 (.t 3)⟩,
   ⟨some 31, some (27, false), .load none (.t 30)⟩,
   ⟨some 32, some (27, false), .call n_laws_lwVotes S_laws_lwVotes [(.t 29, [some 2]), (.t 31, [some 2])]⟩,
   ⟨some 33, some (27, false), .un .not (.t 32)⟩,
   ⟨some 34, none, .pick (.t 27) (.k (.bool true)) (.t 33)⟩])
 (.cond (.t 34)
 (.seq
 (.rg [⟨some 4, none, .mv (.k (.bool false))⟩])
 .ret)
 .skip))
 (.seq
 (.seq
 (.rg [⟨some 5, none, .mv (.k (.int .i64 0))⟩])
 (.block 0
 (.loop
 (.seq
 (.seq
 (.rg [⟨some 35, none, .mv (.t 5)⟩,
   ⟨some 36, none, .fld 1 (.t 2)⟩,
   ⟨some 37, none, .load none (.t 36)⟩,
   ⟨some 38, none, .len (.t 37)⟩,
   ⟨some 39, none, .bin 0 .lss (.t 35) (.t 38)⟩])
 (.cond (.t 39)
 .skip
 (.exit 0)))
 (.seq
 (.block 1
 (.seq
 (.rg [⟨some 42, none, .fld 1 (.t 2)⟩,
   ⟨some 43, none, .load none (.t 42)⟩,
   ⟨some 44, none, .mv (.t 5)⟩,
   ⟨some 45, none, .idx 4 (.t 43) (.t 44)⟩,
   ⟨some 46, none, .load (some 4) (.t 45)⟩,
   ⟨some 47, none, .fld 1 (.t 3)⟩,
   ⟨some 48, none, .load none (.t 47)⟩,
   ⟨some 49, none, .mv (.t 5)⟩,
   ⟨some 50, none, .idx 4 (.t 48) (.t 49)⟩,
   ⟨some 51, none, .load (some 4) (.t 50)⟩,
   ⟨some 52, none, .call n_laws_lwNode S_laws_lwNode [(.t 46, [none, none, none, some 2]), (.t 51, [none, none, none, some 2])]⟩,
   ⟨some 53, none, .un .not (.t 52)⟩])
 (.cond (.t 53)
 (.seq
 (.rg [⟨some 4, none, .mv (.k (.bool false))⟩])
 .ret)
 .skip)))
 (.rg [⟨some 40, none, .mv (.t 5)⟩,
   ⟨some 41, none, .bin 0 .add (.t 40) (.k (.int .i64 1))⟩,
   ⟨some 5, none, .mv (.t 41)⟩]))))))
 (.seq
 (.rg [⟨some 4, none, .mv (.k (.bool true))⟩])
 .ret)))) }
theorem is_laws_lwWorld : IsF Try.prog n_laws_lwWorld c_laws_lwWorld := ⟨Try.f37, _, Try.func37, rfl, by decide, rfl, by kernel_rfl, by kernel_rfl⟩
end Av
end Go.Proofs.Ytfijfccgghhkoaa
