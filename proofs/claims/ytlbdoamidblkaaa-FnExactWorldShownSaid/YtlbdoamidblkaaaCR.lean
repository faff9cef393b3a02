/- How the rows' arguments read: certs. -/
import Derived.Test.YtlbdoamidblkaaaR1
import Derived.Test.YtlbdoamidblkaaaCA
set_option linter.unusedVariables false
set_option linter.unusedSimpArgs false
namespace Go.Proofs.Ytlbdoamidblkaaa
namespace Av
open Go.RowKit Go.ChangeShapes Go.WideShapes Go.ChangeAt
section
variable {H : Type} {enc : TypeId × Value → H} {w : World} {base : Nat} {sp : Nat → Bool} {held : Bool}
def BigIs' (b : List Int) : Prop := b.length ≤ BIG ∧ ∀ n, n ∈ b → I64 n
def BigBs' (b : List (List Int)) : Prop := b.length ≤ BIG ∧ ∀ x, x ∈ b → BigIs' x
def BigCe' (c : Ce) : Prop := BigC c.c ∧ BigBs' c.b
theorem cells_Is : Try.prog.cellsOf 63 = 1 := by kernel_rfl
theorem cells_Bs : Try.prog.cellsOf 46 = 1 := by kernel_rfl
theorem cells_Ce : Try.prog.cellsOf 48 = 2 := by kernel_rfl
theorem rd_Is : RdT enc Try.prog w base sp held 63 (fun b => [nsF b]) BigIs' := rd_slice' Try.underlying63 cells_int (by decide) (fun _ => rfl) (rd_int Try.underlying3)
theorem rd_Bs : RdT enc Try.prog w base sp held 46 (fun b => [nssF b]) BigBs' := rd_slice' Try.underlying46 cells_Is (by decide) (fun _ => rfl) rd_Is
theorem rd_Ce : RdT enc Try.prog w base sp held 48 ceF BigCe' := by
  intro fuel cs x h
  obtain ⟨y0, y1, n, hl, h0, h1⟩ := trod_st2 Try.underlying48 h
  simp only [cells_C, cells_Bs, cells_Ce] at hl h0 h1
  obtain ⟨a, b, rfl⟩ := list_of2 hl
  obtain ⟨e, r0, q0⟩ := rd_C _ _ _ h0
  obtain ⟨f, r1, q1⟩ := rd_Bs _ _ _ h1
  exact ⟨⟨e, f⟩, .cons (r0.2 0 _ _ rfl rfl) (.cons (r1.2 0 _ _ rfl rfl) .nil), q0, q1⟩
theorem BigCe'.big {c : Ce} (h : BigCe' c) : BigCe c := ⟨h.1.1, h.2.1, fun x hx => (h.2.2 x hx).1⟩
end
end Av
end Go.Proofs.Ytlbdoamidblkaaa
