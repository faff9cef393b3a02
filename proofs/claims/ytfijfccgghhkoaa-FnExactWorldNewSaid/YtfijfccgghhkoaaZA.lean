/- The contracts of the program's functions on nodes: what each hands back, in plain words of data. -/
import Derived.Test.YtfijfccgghhkoaaJ9
set_option linter.unusedVariables false
set_option linter.unusedSimpArgs false
namespace Go.Proofs.Ytfijfccgghhkoaa
namespace Av
open Go.RowKit
theorem etaWo (w : Wo) : (⟨w.ep, w.nodes, w.log, w.bad⟩ : Wo) = w := rfl
theorem etaNd (n : Nd) : (⟨n.id, n.ep, n.vt, n.seen⟩ : Nd) = n := rfl
def lastE (v : Vo) : Int := ((v.c[v.c.length - 1]?).map It.e).getD 0
def NodeOk (n : Nd) : Prop := In n.id 1 4 ∧ In n.ep 0 30 ∧ In n.vt 0 n.ep ∧ n.seen.length ≤ 80 ∧ VotesOk n.seen ∧ ∀ v, v ∈ n.seen → ¬ (v.n = n.id ∧ n.vt < lastE v)
abbrev Tri := Nd × Vo × Bool
theorem VotesOk.ok' {l : List Vo} (h : VotesOk l) {v : Vo} (hv : v ∈ l) : VoteOk v := by
  obtain ⟨i, hi⟩ := List.mem_iff_getElem?.1 hv
  exact (h i v hi).1
theorem NodeOk.fit {n : Nd} (h : NodeOk n) : FitVs n.seen := ⟨Nat.le_trans h.2.2.2.1 (by decide), fun v hv => Nat.le_trans (h.2.2.2.2.1.ok' hv).2.2.2 (by decide)⟩
end Av
end Go.Proofs.Ytfijfccgghhkoaa
