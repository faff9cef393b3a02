/- How the rows' arguments read: votes and chains. -/
import Derived.Test.YtkpncekaehgbdaaRows
import Derived.Test.YtkpncekaehgbdaaRA
import Derived.Test.YtkpncekaehgbdaaE4
import Derived.KernelRfl
set_option linter.unusedVariables false
set_option linter.unusedSimpArgs false
namespace Go.Proofs.Ytkpncekaehgbdaa
namespace Av
open Go.RowKit Go.ChangeShapes Go.WideShapes Go.ChangeAt
theorem own0 : ownKnob Try.prog.godebug = none := by kernel_rfl
theorem laid0 : laidOutB Try.prog = true := by kernel_rfl
section
variable {H : Type} {enc : TypeId × Value → H} {w : World} {base : Nat} {sp : Nat → Bool} {held : Bool}
def BigIt (x : It) : Prop := I64 x.e ∧ I64 x.p.f ∧ I64 x.p.t ∧ I64 x.p.s
def BigC (c : List It) : Prop := c.length ≤ BIG ∧ ∀ x, x ∈ c → BigIt x
def BigVo (v : Vo) : Prop := I64 v.n ∧ BigC v.c
def BigVs' (l : List Vo) : Prop := l.length ≤ BIG ∧ ∀ v, v ∈ l → BigVo v
theorem cells_int : Try.prog.cellsOf 3 = 1 := by kernel_rfl
theorem cells_Pay : Try.prog.cellsOf 55 = 3 := by kernel_rfl
theorem cells_It : Try.prog.cellsOf 134 = 4 := by kernel_rfl
theorem cells_C : Try.prog.cellsOf 67 = 1 := by kernel_rfl
theorem cells_Vo : Try.prog.cellsOf 69 = 2 := by kernel_rfl
theorem cells_Vs : Try.prog.cellsOf 47 = 1 := by kernel_rfl
theorem rd_It : RdT enc Try.prog w base sp held 134 itF BigIt := by
  intro fuel cs x h
  obtain ⟨y0, y1, n, hl, h0, h1⟩ := trod_st2 Try.underlying134 h
  obtain ⟨z0, z1, z2, m, hl2, g0, g1, g2⟩ := trod_st3 Try.underlying55 h1
  simp only [cells_int, cells_Pay, cells_It] at hl hl2 h0 g0 g1 g2
  obtain ⟨a, b, c, d, rfl⟩ := list_of4 hl
  obtain ⟨e, r0, q0⟩ := rd_int Try.underlying3 _ _ _ h0
  obtain ⟨f, r1, q1⟩ := rd_int Try.underlying3 _ _ _ g0
  obtain ⟨t, r2, q2⟩ := rd_int Try.underlying3 _ _ _ g1
  obtain ⟨s, r3, q3⟩ := rd_int Try.underlying3 _ _ _ g2
  refine ⟨⟨e, ⟨f, t, s⟩⟩, ?_, q0, q1, q2, q3⟩
  exact .cons (r0.2 0 _ _ rfl rfl) (.cons (r1.2 0 _ _ rfl rfl) (.cons (r2.2 0 _ _ rfl rfl) (.cons (r3.2 0 _ _ rfl rfl) .nil)))
theorem rd_C : RdT enc Try.prog w base sp held 67 (fun c => [chF c]) BigC := rd_slice' Try.underlying67 cells_It (by decide) (fun _ => rfl) rd_It
theorem rd_Vo : RdT enc Try.prog w base sp held 69 voF BigVo := by
  intro fuel cs x h
  obtain ⟨y0, y1, n, hl, h0, h1⟩ := trod_st2 Try.underlying69 h
  simp only [cells_int, cells_C, cells_Vo] at hl h0 h1
  obtain ⟨a, b, rfl⟩ := list_of2 hl
  obtain ⟨e, r0, q0⟩ := rd_int Try.underlying3 _ _ _ h0
  obtain ⟨c, r1, q1⟩ := rd_C _ _ _ h1
  exact ⟨⟨e, c⟩, .cons (r0.2 0 _ _ rfl rfl) (.cons (r1.2 0 _ _ rfl rfl) .nil), q0, q1⟩
theorem rd_Vs : RdT enc Try.prog w base sp held 47 (fun l => [vsF l]) BigVs' := rd_slice' Try.underlying47 cells_Vo (by decide) (fun _ => rfl) rd_Vo
theorem BigVs'.big {l : List Vo} (h : BigVs' l) : BigVs l := ⟨h.1, fun v hv => (h.2 v hv).2.1⟩
end
end Av
end Go.Proofs.Ytkpncekaehgbdaa
