/- The functions' code in the small language, and that it is theirs. -/
import Derived.Test.YtfijfccgghhkoaaE8
import Derived.Test.YtfijfccgghhkoaaD1
import Derived.Test.YtfijfccgghhkoaaProg
import Derived.KernelRfl
set_option linter.unusedVariables false
namespace Go.Proofs.Ytfijfccgghhkoaa
namespace Av
noncomputable def c_laws_lwSame : FC := { n := 26, res := [⟨none, 4, []⟩], body :=
 (.seq
 (.rg [⟨some 4, none, .mv (.k (.bool false))⟩])
 (.seq
 (.seq
 (.rg [⟨some 6, none, .mv (.t 0)⟩,
   ⟨some 7, none, .len (.t 6)⟩,
   ⟨some 8, none, .mv (.t 1)⟩,
   ⟨some 9, none, .len (.t 8)⟩,
   ⟨some 10, none, .bin 0 .neq (.t 7) (.t 9)⟩])
 (.cond (.t 10)
 (.seq
 (.rg [⟨some 4, none, .mv (.k (.bool false))⟩])
 .ret)
 .skip))
 (.seq
 (.seq
 (.rg [⟨some 5, none, .mv (.k (.int .i64 0))⟩])
 (.block 0
 (.loop
 (.seq
 (.seq
 (.rg [⟨some 11, none, .mv (.t 5)⟩,
   ⟨some 12, none, .mv (.t 0)⟩,
   ⟨some 13, none, .len (.t 12)⟩,
   ⟨some 14, none, .bin 0 .lss (.t 11) (.t 13)⟩])
 (.cond (.t 14)
 .skip
 (.exit 0)))
 (.seq
 (.block 1
 (.seq
 (.rg [⟨some 17, none, .mv (.t 0)⟩,
   ⟨some 18, none, .mv (.t 5)⟩,
   ⟨some 19, none, .idx 4 (.t 17) (.t 18)⟩,
   ⟨some 20, none, .load (some 4) (.t 19)⟩,
   ⟨some 21, none, .mv (.t 1)⟩,
   ⟨some 22, none, .mv (.t 5)⟩,
   ⟨some 23, none, .idx 4 (.t 21) (.t 22)⟩,
   ⟨some 24, none, .load (some 4) (.t 23)⟩,
   ⟨some 25, none, .eqs true 43 4 (.t 20) (.t 24)⟩])
 (.cond (.t 25)
 (.seq
 (.rg [⟨some 4, none, .mv (.k (.bool false))⟩])
 .ret)
 .skip)))
 (.rg [⟨some 15, none, .mv (.t 5)⟩,
   ⟨some 16, none, .bin 0 .add (.t 15) (.k (.int .i64 1))⟩,
   ⟨some 5, none, .mv (.t 16)⟩]))))))
 (.seq
 (.rg [⟨some 4, none, .mv (.k (.bool true))⟩])
 .ret)))) }
theorem is_laws_lwSame : IsF Try.prog n_laws_lwSame c_laws_lwSame := ⟨Try.f28, _, Try.func28, rfl, by decide, rfl, by kernel_rfl, by kernel_rfl⟩
noncomputable def c_laws_lwVote : FC := { n := 17, res := [⟨none, 4, []⟩], body :=
 (.seq
 (.rg [⟨some 2, none, .box (.t 0)⟩,
   ⟨some 3, none, .box (.t 1)⟩,
   ⟨some 4, none, .mv (.k (.bool false))⟩])
 (.seq
 (.rg [⟨some 5, none, .fld 0 (.t 2)⟩,
   ⟨some 6, none, .load none (.t 5)⟩,
   ⟨some 7, none, .fld 0 (.t 3)⟩,
   ⟨some 8, none, .load none (.t 7)⟩,
   ⟨some 9, none, .bin 0 .eql (.t 6) (.t 8)⟩,
   ⟨some 10, none, .mv (.t 9)⟩,
   ⟨some 11, some (10, true), .fld 1 (.t 2)⟩,
   ⟨some 12, some (10, true), .load none (.t 11)⟩,
   ⟨some 13, some (10, true), .fld 1 (.t 3)⟩,
   ⟨some 14, some (10, true), .load none (.t 13)⟩,
   ⟨some 15, some (10, true), .call n_laws_lwSame S_laws_lwSame [(.t 12, [some 4]), (.t 14, [some 4])]⟩,
   ⟨some 16, none, .pick (.t 10) (.t 15) (.k (.bool false))⟩,
   ⟨some 4, none, .mv (.t 16)⟩])
 .ret)) }
theorem is_laws_lwVote : IsF Try.prog n_laws_lwVote c_laws_lwVote := ⟨Try.f13, _, Try.func13, rfl, by decide, rfl, by kernel_rfl, by kernel_rfl⟩
noncomputable def c_laws_lwVotes : FC := { n := 27, res := [⟨none, 4, []⟩], body :=
 (.seq
 (.rg [⟨some 4, none, .mv (.k (.bool false))⟩])
 (.seq
 (.seq
 (.rg [⟨some 6, none, .mv (.t 0)⟩,
   ⟨some 7, none, .len (.t 6)⟩,
   ⟨some 8, none, .mv (.t 1)⟩,
   ⟨some 9, none, .len (.t 8)⟩,
   ⟨some 10, none, .bin 0 .neq (.t 7) (.t 9)⟩])
 (.cond (.t 10)
 (.seq
 (.rg [⟨some 4, none, .mv (.k (.bool false))⟩])
 .ret)
 .skip))
 (.seq
 (.seq
 (.rg [⟨some 5, none, .mv (.k (.int .i64 0))⟩])
 (.block 0
 (.loop
 (.seq
 (.seq
 (.rg [⟨some 11, none, .mv (.t 5)⟩,
   ⟨some 12, none, .mv (.t 0)⟩,
   ⟨some 13, none, .len (.t 12)⟩,
   ⟨some 14, none, .bin 0 .lss (.t 11) (.t 13)⟩])
 (.cond (.t 14)
 .skip
 (.exit 0)))
 (.seq
 (.block 1
 (.seq
 (.rg [⟨some 17, none, .mv (.t 0)⟩,
   ⟨some 18, none, .mv (.t 5)⟩,
   ⟨some 19, none, .idx 2 (.t 17) (.t 18)⟩,
   ⟨some 20, none, .load (some 2) (.t 19)⟩,
   ⟨some 21, none, .mv (.t 1)⟩,
   ⟨some 22, none, .mv (.t 5)⟩,
   ⟨some 23, none, .idx 2 (.t 21) (.t 22)⟩,
   ⟨some 24, none, .load (some 2) (.t 23)⟩,
   ⟨some 25, none, .call n_laws_lwVote S_laws_lwVote [(.t 20, [none, some 4]), (.t 24, [none, some 4])]⟩,
   ⟨some 26, none, .un .not (.t 25)⟩])
 (.cond (.t 26)
 (.seq
 (.rg [⟨some 4, none, .mv (.k (.bool false))⟩])
 .ret)
 .skip)))
 (.rg [⟨some 15, none, .mv (.t 5)⟩,
   ⟨some 16, none, .bin 0 .add (.t 15) (.k (.int .i64 1))⟩,
   ⟨some 5, none, .mv (.t 16)⟩]))))))
 (.seq
 (.rg [⟨some 4, none, .mv (.k (.bool true))⟩])
 .ret)))) }
theorem is_laws_lwVotes : IsF Try.prog n_laws_lwVotes c_laws_lwVotes := ⟨Try.f54, _, Try.func54, rfl, by decide, rfl, by kernel_rfl, by kernel_rfl⟩
end Av
end Go.Proofs.Ytfijfccgghhkoaa
