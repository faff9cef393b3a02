/- Texts of the layer, joined. -/
import Derived.Test.YtfijfccgghhkoaaE4
import Derived.Test.YtfijfccgghhkoaaW1
set_option linter.unusedVariables false
set_option linter.unusedSimpArgs false
namespace Go.Proofs.Ytfijfccgghhkoaa
namespace Av
open Go.RowKit
def Bytes (b : List Int) : Prop := ∀ x, x ∈ b → 0 ≤ x ∧ x ≤ 255
def CodeOk (b : List Int) : Prop := b.length ≤ LIM ∧ Bytes b
def DrV (l : List Vo) : Prop := l.length ≤ 400 ∧ ∀ v, v ∈ l → v.c.length ≤ 16
theorem DrV.fit {l : List Vo} (h : DrV l) : FitVs l := ⟨Nat.le_trans h.1 (by decide), fun v hv => Nat.le_trans (h.2 v hv) (by decide)⟩
theorem DrV.lt {l : List Vo} (h : DrV l) : l.length < LIM := Nat.lt_of_le_of_lt h.1 (by decide)
theorem DrV.get {l : List Vo} {i : Nat} {v : Vo} (h : DrV l) (hv : l[i]? = some v) : v.c.length ≤ 16 := h.2 v (List.mem_of_getElem? hv)
abbrev ow0 : AV := .w (.o (.ow 0))
theorem ok_sg {D : Nat → Prop} {o1 : Ob} (h1 : okOb D o1) : ∀ (j : Nat) o, [some o1][j]? = some (some o) → okOb D o
  | 0, o, h => by cases h; exact h1
  | j + 1, o, h => by simp at h
def noV : Vo := ⟨0, []⟩
end Av
end Go.Proofs.Ytfijfccgghhkoaa

namespace Go.Proofs.Ytfijfccgghhkoaa
namespace Av
open Go.RowKit
theorem FitCs.get {l : List (List It)} {i : Nat} {c : List It} (h : FitCs l) (hc : l[i]? = some c) : c.length ≤ LIM := h.2 c (List.mem_of_getElem? hc)
end Av
end Go.Proofs.Ytfijfccgghhkoaa

