/- How the rows' arguments read: nodes and worlds. -/
import Derived.Test.YtocfcnkfjfpoaaaR1
import Derived.Test.YtocfcnkfjfpoaaaV0
set_option linter.unusedVariables false
set_option linter.unusedSimpArgs false
namespace Go.Proofs.Ytocfcnkfjfpoaaa
namespace Av
open Go.RowKit Go.ChangeShapes Go.WideShapes Go.ChangeAt

section
variable {H : Type} {enc : TypeId × Value → H} {w : World} {base : Nat} {sp : Nat → Bool} {held : Bool}

def BigNd (n : Nd) : Prop := I64 n.id ∧ I64 n.ep ∧ I64 n.vt ∧ BigVs' n.seen
def BigNs' (l : List Nd) : Prop := l.length ≤ BIG ∧ ∀ n, n ∈ l → BigNd n
def BigWo (w : Wo) : Prop := I64 w.ep ∧ BigNs' w.nodes ∧ BigVs' w.log ∧ I64 w.bad
theorem cells_Nd : Try.prog.cellsOf 138 = 4 := by kernel_rfl
theorem cells_Nds : Try.prog.cellsOf 69 = 1 := by kernel_rfl
theorem cells_Wo : Try.prog.cellsOf 71 = 4 := by kernel_rfl
theorem rd_Nd : RdT enc Try.prog w base sp held 138 ndF BigNd := by
  intro fuel cs x h
  obtain ⟨y0, y1, y2, y3, n, hl, h0, h1, h2, h3⟩ := trod_st4 Try.underlying138 h
  simp only [cells_int, cells_Vs, cells_Nd] at hl h0 h1 h2 h3
  obtain ⟨a, b, c, d, rfl⟩ := list_of4 hl
  obtain ⟨e, r0, q0⟩ := rd_int Try.underlying3 _ _ _ h0
  obtain ⟨f, r1, q1⟩ := rd_int Try.underlying3 _ _ _ h1
  obtain ⟨t, r2, q2⟩ := rd_int Try.underlying3 _ _ _ h2
  obtain ⟨s, r3, q3⟩ := rd_Vs _ _ _ h3
  refine ⟨⟨e, f, t, s⟩, ?_, q0, q1, q2, q3⟩
  exact .cons (r0.2 0 _ _ rfl rfl) (.cons (r1.2 0 _ _ rfl rfl) (.cons (r2.2 0 _ _ rfl rfl) (.cons (r3.2 0 _ _ rfl rfl) .nil)))
theorem rd_Nds : RdT enc Try.prog w base sp held 69 (fun l => [ndsF l]) BigNs' := rd_slice' Try.underlying69 cells_Nd (by decide) (fun _ => rfl) rd_Nd
theorem rd_Wo : RdT enc Try.prog w base sp held 71 woF BigWo := by
  intro fuel cs x h
  obtain ⟨y0, y1, y2, y3, n, hl, h0, h1, h2, h3⟩ := trod_st4 Try.underlying71 h
  simp only [cells_int, cells_Vs, cells_Nds, cells_Wo] at hl h0 h1 h2 h3
  obtain ⟨a, b, c, d, rfl⟩ := list_of4 hl
  obtain ⟨e, r0, q0⟩ := rd_int Try.underlying3 _ _ _ h0
  obtain ⟨f, r1, q1⟩ := rd_Nds _ _ _ h1
  obtain ⟨t, r2, q2⟩ := rd_Vs _ _ _ h2
  obtain ⟨s, r3, q3⟩ := rd_int Try.underlying3 _ _ _ h3
  refine ⟨⟨e, f, t, s⟩, ?_, q0, q1, q2, q3⟩
  exact .cons (r0.2 0 _ _ rfl rfl) (.cons (r1.2 0 _ _ rfl rfl) (.cons (r2.2 0 _ _ rfl rfl) (.cons (r3.2 0 _ _ rfl rfl) .nil)))
theorem BigNs'.big {l : List Nd} (h : BigNs' l) : BigNs l := ⟨h.1, fun n hn => (h.2 n hn).2.2.2.big⟩
theorem BigWo.big {w : Wo} (h : BigWo w) : BigNs w.nodes ∧ BigVs w.log := ⟨h.2.1.big, h.2.2.1.big⟩
end
end Av
end Go.Proofs.Ytocfcnkfjfpoaaa
