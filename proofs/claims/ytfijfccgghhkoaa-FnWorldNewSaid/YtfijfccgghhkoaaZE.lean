/- The contracts of the reference's functions on nodes: a node's votes are frozen, with the right to append. -/
import Derived.Test.YtfijfccgghhkoaaZA
set_option linter.unusedVariables false
set_option linter.unusedSimpArgs false
namespace Go.Proofs.Ytfijfccgghhkoaa
namespace Av
open Go.RowKit
/-- Votes that may be appended to. -/
abbrev tkC (k : Nat) (l : List Vo) : AC := .tk k 2 (l.map voF)
def tokO (l : List Vo) : Ob := .tok ty_impl_Vote 2 (l.map voF).length
def ndK (n : Nd) (k : Nat) : List AC := [cI n.id, cI n.ep, cI n.vt, tkC k n.seen]
theorem okNd {n : Nd} {k : Nat} {D : Nat → Prop} (h : D k) : ∀ c, c ∈ ndK n k → okC D c := by
  intro c hc
  simp only [ndK, List.mem_cons, List.not_mem_nil, or_false] at hc
  rcases hc with rfl | rfl | rfl | rfl
  · trivial
  · trivial
  · trivial
  · exact h
def SeenB (l : List Vo) : Prop := l.length ≤ 80 ∧ ∀ v, v ∈ l → VoteOk v
theorem SeenB.fit {l : List Vo} (h : SeenB l) : FitVs l := ⟨Nat.le_trans h.1 (by decide), fun v hv => Nat.le_trans (h.2 v hv).2.2.2 (by decide)⟩
theorem SeenB.lt {l : List Vo} (h : SeenB l) : l.length < LIM := Nat.lt_of_le_of_lt h.1 (by decide)
/-- Nodes as they are drawn, or are ok. -/
def NdB (n : Nd) : Prop := In n.id 1 4 ∧ In n.ep 0 30 ∧ SeenB n.seen
end Av
end Go.Proofs.Ytfijfccgghhkoaa
