/- How the rows' arguments read: bytes. -/
import Derived.Test.YtmboljfckljjhaaRows
import Derived.Test.YtmboljfckljjhaaR0
import Derived.Test.YtmboljfckljjhaaQ0
import Derived.KernelRfl
set_option linter.unusedVariables false
set_option linter.unusedSimpArgs false
namespace Go.Proofs.Ytmboljfckljjhaa
namespace Av
open Go.RowKit Go.ChangeShapes Go.WideShapes Go.ChangeAt

theorem own1 : ownKnob Try.prog.godebug = none := by kernel_rfl
theorem laid1 : laidOutB Try.prog = true := by kernel_rfl
section
variable {H : Type} {enc : TypeId × Value → H} {w : World} {base : Nat} {sp : Nat → Bool} {held : Bool}
theorem cells_u8 : Try.prog.cellsOf 5 = 1 := by kernel_rfl
theorem rd_By : RdT enc Try.prog w base sp held 31 (fun l => [byF l]) (fun l : List Int => l.length ≤ 9223372036854775807 ∧ ∀ n, n ∈ l → U8 n) := rd_slice' Try.underlying31 cells_u8 (by decide) (fun _ => rfl) (rd_byte Try.underlying5)
theorem lawB_of {l : List Int} (h : l.length ≤ 9223372036854775807 ∧ ∀ n, n ∈ l → U8 n) : LawB l := ⟨h.1, fun n hn => by have := h.2 n hn; unfold U8 at this; omega⟩
end
end Av
end Go.Proofs.Ytmboljfckljjhaa
