/- The contracts of the laws' own functions: size, copies, equality. -/
import Derived.Test.YtdboofnogabefaaE2
set_option linter.unusedVariables false
set_option linter.unusedSimpArgs false
namespace Go.Proofs.Ytdboofnogabefaa
namespace Av
open Go.RowKit
abbrev BIG : Nat := 9223372036854775807
abbrev SM : Nat := 1048576
def BigVs (l : List Vo) : Prop := l.length ≤ BIG ∧ ∀ v, v ∈ l → v.c.length ≤ BIG
def SmVs (l : List Vo) : Prop := l.length ≤ SM ∧ ∀ v, v ∈ l → v.c.length ≤ SM
theorem SmVs.fit {l : List Vo} (h : SmVs l) : FitVs l := ⟨Nat.le_trans h.1 (by decide), fun v hv => Nat.le_trans (h.2 v hv) (by decide)⟩
theorem SmVs.lt {l : List Vo} (h : SmVs l) : l.length < LIM := Nat.lt_of_le_of_lt h.1 (by decide)
theorem BigVs.get {l : List Vo} {i : Nat} {v : Vo} (h : BigVs l) (hv : l[i]? = some v) : v.c.length ≤ BIG := h.2 v (List.mem_of_getElem? hv)
/-- An array that is filled from its head. -/
def fill {α : Type} (f : α → List AC) (z : List AC) (l : List α) (i : Nat) : List (List AC) := (l.take i).map f ++ List.replicate (l.length - i) z
theorem fill_at {α : Type} {f : α → List AC} {z : List AC} {l : List α} {i : Nat} (h : i < l.length) : (fill f z l i)[i]? = some z := by
  unfold fill
  rw [List.getElem?_append_right (by simp only [List.length_map, List.length_take]; omega)]
  rw [List.getElem?_replicate_of_lt]
  simp only [List.length_map, List.length_take]; omega
end Av
end Go.Proofs.Ytdboofnogabefaa
