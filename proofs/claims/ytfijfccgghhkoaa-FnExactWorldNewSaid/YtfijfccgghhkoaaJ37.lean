/- Texts of the layer, joined. -/
import Derived.Test.YtfijfccgghhkoaaJ21
import Derived.Test.YtfijfccgghhkoaaJ36
set_option linter.unusedVariables false
set_option linter.unusedSimpArgs false
namespace Go.Proofs.Ytfijfccgghhkoaa
namespace Av
open Go.RowKit
attribute [local irreducible] Valid ValidM
end Av
end Go.Proofs.Ytfijfccgghhkoaa

namespace Go.Proofs.Ytfijfccgghhkoaa
namespace Av
open Go.RowKit
attribute [local irreducible] Valid ValidM
section
variable {P : Program} {f : Nat} {S : OSpec} {fr : Env} {H : Hp} {nm rm : Nat} {K : KV} {xs : List (X × List (Option Nat))}
end
end Av
end Go.Proofs.Ytfijfccgghhkoaa

