/- Contracts of functions that hand back memory of their own: chains. -/
import Derived.Test.YtfijfccgghhkoaaJ31
set_option linter.unusedVariables false
set_option linter.unusedSimpArgs false
namespace Go.Proofs.Ytfijfccgghhkoaa
namespace Av
open Go.RowKit
/-- How many names a copy may take. -/
@[irreducible] def NB : Nat := 4194304
section
variable {fr : Env} {H : Hp} {nx rm' lim : Nat} {res : List Rs} {post : AV → List (Option Ob) → Prop}
end
end Av
end Go.Proofs.Ytfijfccgghhkoaa
/- Contracts of the marks on chains. -/
namespace Go.Proofs.Ytfijfccgghhkoaa
namespace Av
open Go.RowKit
/-- n items, marked from k on. -/
def mkC : Nat → Int → List It
  | 0, _ => []
  | n + 1, k => ⟨k, ⟨k + 1, k + 2, k + 3⟩⟩ :: mkC n (k + 4)
def MK : Int := 1152921504606846976
section
variable {fr : Env} {H : Hp} {nx rm' lim : Nat} {res : List Rs} {post : AV → List (Option Ob) → Prop}
end
end Av
end Go.Proofs.Ytfijfccgghhkoaa
/- The contract of 'the marks stand' on chains. -/
namespace Go.Proofs.Ytfijfccgghhkoaa
namespace Av
open Go.RowKit
noncomputable def S_laws_heldItemS : FSpec := iF (α := Nat × Int) (fun a => [one (chF (mkC a.1 a.2)), I a.2]) (fun a => a.1 ≤ SM ∧ 0 ≤ a.2 ∧ a.2 ≤ MK) (fun a => a.2 + 4 * a.1) (fun _ => rfl)
end Av
end Go.Proofs.Ytfijfccgghhkoaa
/- Contracts of the marks on votes. -/
namespace Go.Proofs.Ytfijfccgghhkoaa
namespace Av
open Go.RowKit
section
variable {P : Program} {g : Nat} {S : MSpec} {fr : Env} {H : Hp} {nm rm : Nat} {K : KV} {xs : List (X × List (Option Nat))}
end
end Av
end Go.Proofs.Ytfijfccgghhkoaa
/- The contract of the marks on votes. -/
namespace Go.Proofs.Ytfijfccgghhkoaa
namespace Av
open Go.RowKit
end Av
end Go.Proofs.Ytfijfccgghhkoaa
