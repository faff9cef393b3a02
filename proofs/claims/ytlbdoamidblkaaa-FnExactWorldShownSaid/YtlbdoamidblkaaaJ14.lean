/- Texts of the layer, joined. -/
import Derived.Test.YtlbdoamidblkaaaR1
import Derived.Test.YtlbdoamidblkaaaV0
import Derived.Test.YtlbdoamidblkaaaE4
import Derived.Test.YtlbdoamidblkaaaJ9
set_option linter.unusedVariables false
set_option linter.unusedSimpArgs false
namespace Go.Proofs.Ytlbdoamidblkaaa
namespace Av
open Go.RowKit Go.ChangeShapes Go.WideShapes Go.ChangeAt
section
variable {H : Type} {enc : TypeId × Value → H} {w : World} {base : Nat} {sp : Nat → Bool} {held : Bool}
def BigNd (n : Nd) : Prop := I64 n.id ∧ I64 n.ep ∧ I64 n.vt ∧ BigVs' n.seen
def BigNs' (l : List Nd) : Prop := l.length ≤ BIG ∧ ∀ n, n ∈ l → BigNd n
def BigWo (w : Wo) : Prop := I64 w.ep ∧ BigNs' w.nodes ∧ BigVs' w.log ∧ I64 w.bad
theorem cells_Nd : Try.prog.cellsOf 112 = 4 := by kernel_rfl
theorem cells_Nds : Try.prog.cellsOf 41 = 1 := by kernel_rfl
theorem cells_Wo : Try.prog.cellsOf 44 = 4 := by kernel_rfl
theorem rd_Nd : RdT enc Try.prog w base sp held 112 ndF BigNd := by
  intro fuel cs x h
  obtain ⟨y0, y1, y2, y3, n, hl, h0, h1, h2, h3⟩ := trod_st4 Try.underlying112 h
  simp only [cells_int, cells_Vs, cells_Nd] at hl h0 h1 h2 h3
  obtain ⟨a, b, c, d, rfl⟩ := list_of4 hl
  obtain ⟨e, r0, q0⟩ := rd_int Try.underlying3 _ _ _ h0
  obtain ⟨f, r1, q1⟩ := rd_int Try.underlying3 _ _ _ h1
  obtain ⟨t, r2, q2⟩ := rd_int Try.underlying3 _ _ _ h2
  obtain ⟨s, r3, q3⟩ := rd_Vs _ _ _ h3
  refine ⟨⟨e, f, t, s⟩, ?_, q0, q1, q2, q3⟩
  exact .cons (r0.2 0 _ _ rfl rfl) (.cons (r1.2 0 _ _ rfl rfl) (.cons (r2.2 0 _ _ rfl rfl) (.cons (r3.2 0 _ _ rfl rfl) .nil)))
theorem rd_Nds : RdT enc Try.prog w base sp held 41 (fun l => [ndsF l]) BigNs' := rd_slice' Try.underlying41 cells_Nd (by decide) (fun _ => rfl) rd_Nd
theorem rd_Wo : RdT enc Try.prog w base sp held 44 woF BigWo := by
  intro fuel cs x h
  obtain ⟨y0, y1, y2, y3, n, hl, h0, h1, h2, h3⟩ := trod_st4 Try.underlying44 h
  simp only [cells_int, cells_Vs, cells_Nds, cells_Wo] at hl h0 h1 h2 h3
  obtain ⟨a, b, c, d, rfl⟩ := list_of4 hl
  obtain ⟨e, r0, q0⟩ := rd_int Try.underlying3 _ _ _ h0
  obtain ⟨f, r1, q1⟩ := rd_Nds _ _ _ h1
  obtain ⟨t, r2, q2⟩ := rd_Vs _ _ _ h2
  obtain ⟨s, r3, q3⟩ := rd_int Try.underlying3 _ _ _ h3
  refine ⟨⟨e, f, t, s⟩, ?_, q0, q1, q2, q3⟩
  exact .cons (r0.2 0 _ _ rfl rfl) (.cons (r1.2 0 _ _ rfl rfl) (.cons (r2.2 0 _ _ rfl rfl) (.cons (r3.2 0 _ _ rfl rfl) .nil)))
theorem BigNs'.big {l : List Nd} (h : BigNs' l) : BigNs l := ⟨h.1, fun n hn => (h.2 n hn).2.2.2.big⟩
theorem BigWo.big {w : Wo} (h : BigWo w) : BigNs w.nodes ∧ BigVs w.log := ⟨h.2.1.big, h.2.2.1.big⟩
end
end Av
end Go.Proofs.Ytlbdoamidblkaaa

namespace Go.Proofs.Ytlbdoamidblkaaa
namespace Av
open Go.RowKit
theorem VotesOk.ok {l : List Vo} (h : VotesOk l) {v : Vo} (hv : v ∈ l) : VoteOk v := by
  obtain ⟨i, hi⟩ := List.mem_iff_getElem?.1 hv
  exact (h i v hi).1
end Av
end Go.Proofs.Ytlbdoamidblkaaa

namespace Go.Proofs.Ytlbdoamidblkaaa
namespace Av
open Go.RowKit
theorem filter_len_mono {α : Type} {p q : α → Bool} (h : ∀ a, p a = true → q a = true) : ∀ l : List α, (l.filter p).length ≤ (l.filter q).length
  | [] => Nat.le_refl _
  | a :: l => by
    have ih := filter_len_mono h l
    cases hp : p a with
    | true => simp [hp, h a hp]; exact ih
    | false =>
      cases hq : q a with
      | true => simp [hp, hq]; omega
      | false => simp [hp, hq]; exact ih
theorem voters_mono {l m : List Vo} (h : ∀ v, v ∈ l → v ∈ m) (c : List It) : (voters l c).length ≤ (voters m c).length :=
  filter_len_mono (fun n hn => by rw [tb_iff] at hn ⊢; exact h _ hn) _
theorem Sure.mono {l m : List Vo} (h : ∀ v, v ∈ l → v ∈ m) {c : List It} (hs : Sure l c) : Sure m c :=
  fun n h1 h2 => Nat.le_trans (hs n h1 h2) (voters_mono h _)
theorem FitCs.take {l : List (List It)} (h : FitCs l) (i : Nat) : FitCs (l.take i) :=
  ⟨by have := h.1; simp only [List.length_take]; omega, fun v hv => h.2 v (List.mem_of_mem_take hv)⟩
end Av
end Go.Proofs.Ytlbdoamidblkaaa

