/- How the rows' arguments read: nodes. -/
import Derived.Test.YtkpncekaehgbdaaR1
set_option linter.unusedVariables false
set_option linter.unusedSimpArgs false
namespace Go.Proofs.Ytkpncekaehgbdaa
namespace Av
open Go.RowKit Go.ChangeShapes Go.WideShapes Go.ChangeAt
section
variable {H : Type} {enc : TypeId × Value → H} {w : World} {base : Nat} {sp : Nat → Bool} {held : Bool}
def BigNd (n : Nd) : Prop := I64 n.id ∧ I64 n.ep ∧ I64 n.vt ∧ BigVs' n.seen
theorem cells_Nd : Try.prog.cellsOf 49 = 4 := by kernel_rfl
theorem rd_Nd : RdT enc Try.prog w base sp held 49 ndF BigNd := by
  intro fuel cs x h
  obtain ⟨y0, y1, y2, y3, n, hl, h0, h1, h2, h3⟩ := trod_st4 Try.underlying49 h
  simp only [cells_int, cells_Vs, cells_Nd] at hl h0 h1 h2 h3
  obtain ⟨a, b, c, d, rfl⟩ := list_of4 hl
  obtain ⟨e, r0, q0⟩ := rd_int Try.underlying3 _ _ _ h0
  obtain ⟨f, r1, q1⟩ := rd_int Try.underlying3 _ _ _ h1
  obtain ⟨t, r2, q2⟩ := rd_int Try.underlying3 _ _ _ h2
  obtain ⟨s, r3, q3⟩ := rd_Vs _ _ _ h3
  refine ⟨⟨e, f, t, s⟩, ?_, q0, q1, q2, q3⟩
  exact .cons (r0.2 0 _ _ rfl rfl) (.cons (r1.2 0 _ _ rfl rfl) (.cons (r2.2 0 _ _ rfl rfl) (.cons (r3.2 0 _ _ rfl rfl) .nil)))
theorem BigNd.big {n : Nd} (h : BigNd n) : BigVs n.seen := h.2.2.2.big
end
end Av
end Go.Proofs.Ytkpncekaehgbdaa
