/- The functions' code in the small language, and that it is theirs. -/
import Derived.Test.YtfijfccgghhkoaaE2
import Derived.Test.YtfijfccgghhkoaaD1
import Derived.Test.YtfijfccgghhkoaaProg
import Derived.KernelRfl
set_option linter.unusedVariables false
namespace Go.Proofs.Ytfijfccgghhkoaa
namespace Av
noncomputable def c_spec_l6In : FC := { n := 15, res := [⟨none, 6, []⟩], body :=
 (.seq
 (.rg [⟨some 6, none, .mv (.k (.bool false))⟩])
 (.seq
 (.rg [⟨some 7, none, .mv (.t 0)⟩,
   ⟨some 8, none, .mv (.t 1)⟩,
   ⟨some 9, none, .bin 0 .geq (.t 7) (.t 8)⟩,
   ⟨some 10, none, .mv (.t 9)⟩,
   ⟨some 11, some (10, true), .mv (.t 0)⟩,
   ⟨some 12, some (10, true), .mv (.t 2)⟩,
   ⟨some 13, some (10, true), .bin 0 .leq (.t 11) (.t 12)⟩,
   ⟨some 14, none, .pick (.t 10) (.t 13) (.k (.bool false))⟩,
   ⟨some 6, none, .mv (.t 14)⟩])
 .ret)) }
theorem is_spec_l6In : IsF Try.prog n_spec_l6In c_spec_l6In := ⟨Try.f55, _, Try.func55, rfl, by decide, rfl, by kernel_rfl, by kernel_rfl⟩
end Av
end Go.Proofs.Ytfijfccgghhkoaa
