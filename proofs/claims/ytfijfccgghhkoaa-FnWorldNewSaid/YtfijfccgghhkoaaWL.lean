/- The plain laws: what is sent in a world. -/
import Derived.Test.YtfijfccgghhkoaaJ29
import Derived.Test.YtfijfccgghhkoaaZK
set_option linter.unusedVariables false
set_option linter.unusedSimpArgs false
namespace Go.Proofs.Ytfijfccgghhkoaa
namespace Av
open Go.RowKit
/-- What a node that is ok comes to, and sends. -/
structure StepOk (n : Nd) (o : Tri) : Prop where
  id : o.1.id = n.id
  ep : o.1.ep = n.ep
  ok : NodeOk o.1
  vt : n.vt ≤ o.1.vt
  sent : o.2.2 = true → o.2.1.n = n.id ∧ lastE o.2.1 = n.ep ∧ n.vt < n.ep ∧ o.1.vt = n.ep ∧ VoteOk o.2.1
/-- What holds of a world that began new. -/
structure WJ (w : Wo) : Prop where
  inv : WInv w
  nd : ∀ (i : Nat) n, w.nodes[i]? = some n → n.id = i + 1 ∧ n.ep = w.ep ∧ NodeOk n
  old : ∀ v, v ∈ w.log → v.n ≠ w.bad → ∀ (i : Nat) n, w.nodes[i]? = some n → v.n = i + 1 → lastE v ≤ n.vt
  dif : w.log.Pairwise fun a b => a.n = b.n → a.n ≠ w.bad → lastE a ≠ lastE b
end Av
end Go.Proofs.Ytfijfccgghhkoaa
