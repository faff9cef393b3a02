/- The functions' code in the small language, and that it is theirs. -/
import Derived.Test.YtkpncekaehgbdaaQ6
import Derived.Test.YtkpncekaehgbdaaD1
import Derived.Test.YtkpncekaehgbdaaProg
import Derived.KernelRfl
set_option linter.unusedVariables false
namespace Go.Proofs.Ytkpncekaehgbdaa
namespace Av
noncomputable def c_laws_FnHearTwice : FC := { n := 83, res := [⟨none, 2, []⟩], body :=
 (.seq
 (.rg [⟨some 2, none, .mv (.k (.bool false))⟩])
 (.seq
 (.seq
 (.rg [⟨some 14, none, .mv (.t 0)⟩,
   ⟨some 15, none, .len (.t 14)⟩,
   ⟨some 16, none, .bin 0 .gtr (.t 15) (.k (.int .i64 1048576))⟩])
 (.cond (.t 16)
 (.seq
 (.rg [⟨some 2, none, .mv (.k (.bool true))⟩])
 .ret)
 .skip))
 (.seq
 (.rg [⟨some 18, none, .mv (.t 0)⟩,
   ⟨some 19, none, .call n_spec_DrawNodeHear S_spec_DrawNodeHear [(.t 18, [some 1])]⟩,
   ⟨some 17, none, .mv (.t 19)⟩,
   ⟨some 20, none, .ext (.t 17) 0⟩,
   ⟨some 21, none, .ext (.t 17) 1⟩,
   ⟨some 3, none, .alloc [.int .i64 0, .int .i64 0, .int .i64 0, .slice none 0 0]⟩,
   ⟨some 4, none, .alloc [.int .i64 0, .slice none 0 0]⟩,
   ⟨none, none, .store 4 (.t 3) (.t 20)⟩,
   ⟨none, none, .store 2 (.t 4) (.t 21)⟩])
 (.seq
 (.rg [⟨some 23, none, .load (some 4) (.t 3)⟩,
   ⟨some 24, none, .load (some 2) (.t 4)⟩,
   ⟨some 25, none, .call n_spec_NodeHear S_spec_NodeHear [(.t 23, [none, none, none, some 2]), (.t 24, [none, some 4])]⟩,
   ⟨some 22, none, .mv (.t 25)⟩,
   ⟨some 26, none, .ext (.t 22) 0⟩,
   ⟨some 27, none, .ext (.t 22) 1⟩,
   ⟨some 28, none, .ext (.t 22) 2⟩,
   ⟨some 5, none, .alloc [.int .i64 0, .int .i64 0, .int .i64 0, .slice none 0 0]⟩,
   ⟨some 6, none, .alloc [.int .i64 0, .slice none 0 0]⟩,
   ⟨none, none, .store 4 (.t 5) (.t 26)⟩,
   ⟨none, none, .store 2 (.t 6) (.t 27)⟩,
   ⟨some 7, none, .mv (.t 28)⟩])
 (.seq
 (.rg [⟨some 30, none, .load (some 4) (.t 3)⟩,
   ⟨some 31, none, .load (some 2) (.t 4)⟩,
   ⟨some 32, none, .call n_impl_NodeHear S_impl_NodeHear [(.t 30, [none, none, none, some 2]), (.t 31, [none, some 4])]⟩,
   ⟨some 29, none, .mv (.t 32)⟩,
   ⟨some 33, none, .ext (.t 29) 0⟩,
   ⟨some 34, none, .ext (.t 29) 1⟩,
   ⟨some 35, none, .ext (.t 29) 2⟩,
   ⟨some 8, none, .alloc [.int .i64 0, .int .i64 0, .int .i64 0, .slice none 0 0]⟩,
   ⟨some 9, none, .alloc [.int .i64 0, .slice none 0 0]⟩,
   ⟨none, none, .store 4 (.t 8) (.t 33)⟩,
   ⟨none, none, .store 2 (.t 9) (.t 34)⟩,
   ⟨some 10, none, .mv (.t 35)⟩])
 (.seq
 (.seq
 (.rg [⟨some 36, none, .mv (.t 10)⟩,
   ⟨some 37, none, .mv (.t 7)⟩,
   ⟨some 38, none, .bin 1 .neq (.t 36) (.t 37)⟩,
   ⟨some 39, none, .mv (.t 38)⟩,
   ⟨some 40, some (39, false), .load (some 4) (.t 8)⟩,
   ⟨some 41, some (39, false), .load (some 4) (.t 5)⟩,
   ⟨some 42, some (39, false), .call n_laws_lwNode S_laws_lwNode [(.t 40, [none, none, none, some 2]), (.t 41, [none, none, none, some 2])]⟩,
   ⟨some 43, some (39, false), .un .not (.t 42)⟩,
   ⟨some 44, none, .pick (.t 39) (.k (.bool true)) (.t 43)⟩,
   ⟨some 45, none, .mv (.t 44)⟩,
   ⟨some 46, some (45, false), .load (some 2) (.t 9)⟩,
   ⟨some 47, some (45, false), .load (some 2) (.t 6)⟩,
   ⟨some 48, some (45, false), .call n_laws_lwVote S_laws_lwVote [(.t 46, [none, some 4]), (.t 47, [none, some 4])]⟩,
   ⟨some 49, some (45, false), .un .not (.t 48)⟩,
   ⟨some 50, none, .pick (.t 45) (.k (.bool true)) (.t 49)⟩,
   ⟨some 51, none, .mv (.t 50)⟩,
   ⟨some 52, some (51, false), .load (some 4) (.t 3)⟩,
   ⟨some 53, some (51, false), .call n_spec_NodeOk S_spec_NodeOk [(.t 52, [none, none, none, some 2])]⟩,
   ⟨some 54, some (51, false), .un .not (.t 53)⟩,
   ⟨some 55, none, .pick (.t 51) (.k (.bool true)) (.t 54)⟩])
 (.cond (.t 55)
 (.seq
 (.rg [⟨some 56, none, .mv (.t 10)⟩,
   ⟨some 57, none, .mv (.t 7)⟩,
   ⟨some 58, none, .bin 1 .eql (.t 56) (.t 57)⟩,
   ⟨some 59, none, .mv (.t 58)⟩,
   ⟨some 60, some (59, true), .load (some 4) (.t 8)⟩,
   ⟨some 61, some (59, true), .load (some 4) (.t 5)⟩,
   ⟨some 62, some (59, true), .call n_laws_lwNode S_laws_lwNode [(.t 60, [none, none, none, some 2]), (.t 61, [none, none, none, some 2])]⟩,
   ⟨some 63, none, .pick (.t 59) (.t 62) (.k (.bool false))⟩,
   ⟨some 64, none, .mv (.t 63)⟩,
   ⟨some 65, some (64, true), .load (some 2) (.t 9)⟩,
   ⟨some 66, some (64, true), .load (some 2) (.t 6)⟩,
   ⟨some 67, some (64, true), .call n_laws_lwVote S_laws_lwVote [(.t 65, [none, some 4]), (.t 66, [none, some 4])]⟩,
   ⟨some 68, none, .pick (.t 64) (.t 67) (.k (.bool false))⟩,
   ⟨some 2, none, .mv (.t 68)⟩])
 .ret)
 .skip))
 (.seq
 (.rg [⟨some 70, none, .load (some 4) (.t 8)⟩,
   ⟨some 71, none, .load (some 2) (.t 4)⟩,
   ⟨some 72, none, .call n_impl_NodeHear S_impl_NodeHear [(.t 70, [none, none, none, some 2]), (.t 71, [none, some 4])]⟩,
   ⟨some 69, none, .mv (.t 72)⟩,
   ⟨some 73, none, .ext (.t 69) 0⟩,
   ⟨some 74, none, .ext (.t 69) 1⟩,
   ⟨some 75, none, .ext (.t 69) 2⟩,
   ⟨some 11, none, .alloc [.int .i64 0, .int .i64 0, .int .i64 0, .slice none 0 0]⟩,
   ⟨some 12, none, .alloc [.int .i64 0, .slice none 0 0]⟩,
   ⟨none, none, .store 4 (.t 11) (.t 73)⟩,
   ⟨none, none, .store 2 (.t 12) (.t 74)⟩,
   ⟨some 13, none, .mv (.t 75)⟩])
 (.seq
 (.rg [⟨some 76, none, .mv (.t 13)⟩,
   ⟨some 77, none, .un .not (.t 76)⟩,
   ⟨some 78, none, .mv (.t 77)⟩,
   ⟨some 79, some (78, true), .load (some 4) (.t 11)⟩,
   ⟨some 80, some (78, true), .load (some 4) (.t 8)⟩,
   ⟨some 81, some (78, true), .call n_laws_lwNode S_laws_lwNode [(.t 79, [none, none, none, some 2]), (.t 80, [none, none, none, some 2])]⟩,
   ⟨some 82, none, .pick (.t 78) (.t 81) (.k (.bool false))⟩,
   ⟨some 2, none, .mv (.t 82)⟩])
 .ret)))))))) }
theorem is_laws_FnHearTwice : IsF Try.prog n_laws_FnHearTwice c_laws_FnHearTwice := ⟨Try.f14, _, Try.func14, rfl, by decide, rfl, by kernel_rfl, by kernel_rfl⟩
end Av
end Go.Proofs.Ytkpncekaehgbdaa
