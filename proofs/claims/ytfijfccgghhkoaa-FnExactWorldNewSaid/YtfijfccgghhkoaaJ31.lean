/- Texts of the layer, joined. -/
import Derived.Test.YtfijfccgghhkoaaJ9
import Derived.Test.YtfijfccgghhkoaaJ20
set_option linter.unusedVariables false
set_option linter.unusedSimpArgs false
namespace Go.Proofs.Ytfijfccgghhkoaa
namespace Av
open Go.RowKit
/-- One number behind the other, azz the machine adds. -/
def Nxt (a b : Int) : Prop := IntKind.i64.wrap (a + 1) = b
/-- Three epochs, one behind the other, the last one at place i + 2. -/
def Con3 (c : List It) (i : Nat) : Prop := ∃ x y z : It, c[i]? = some x ∧ c[i + 1]? = some y ∧ c[i + 2]? = some z ∧ Nxt x.e y.e ∧ Nxt y.e z.e
/-- How much is final, of the first m + 2 items. -/
noncomputable def finAt (c : List It) : Nat → Nat
  | 0 => 0
  | m + 1 => if tb (Con3 c m) = true then m + 2 else finAt c m
noncomputable def finIn (c : List It) : Nat := finAt c (c.length - 2)
noncomputable def shwn (o c : List It) : List It := if finIn o < finIn c then c else o
noncomputable def shown (l : List Vo) : List It := (allS l).foldl shwn []
noncomputable def fin (l : List Vo) : List It := (shown l).take (finIn (shown l))
end Av
end Go.Proofs.Ytfijfccgghhkoaa

namespace Go.Proofs.Ytfijfccgghhkoaa
namespace Av
open Go.RowKit
section
variable {P : Program} {f : Nat} {S : MSpec} {fr : Env} {H : Hp} {nm nx rm rm' lim : Nat} {K : KV} {xs : List (X × List (Option Nat))} {res : List Rs} {post : AV → List (Option Ob) → Prop}
end
end Av
end Go.Proofs.Ytfijfccgghhkoaa

