/- Texts of the layer, joined. -/
import Derived.Test.YtfijfccgghhkoaaT0
import Derived.Test.YtfijfccgghhkoaaD1
import Derived.Test.YtfijfccgghhkoaaProg
import Derived.KernelRfl
import Derived.Test.YtfijfccgghhkoaaT2
import Derived.Test.YtfijfccgghhkoaaE4
import Derived.Test.YtfijfccgghhkoaaJ21
set_option linter.unusedVariables false
set_option linter.unusedSimpArgs false
namespace Go.Proofs.Ytfijfccgghhkoaa
namespace Av
open Go.RowKit
section
variable {P : Program} {f : Nat} {S : MSpec} {fr : Env} {H : Hp} {nm nx rm rm' lim : Nat} {K : KV} {xs : List (X × List (Option Nat))} {res : List Rs} {post : AV → List (Option Ob) → Prop}
end
end Av
end Go.Proofs.Ytfijfccgghhkoaa

namespace Go.Proofs.Ytfijfccgghhkoaa
namespace Av
open Go.RowKit
/-- How many names a copy may take. -/
@[irreducible] def NB : Nat := 4194304
section
variable {fr : Env} {H : Hp} {nx rm' lim : Nat} {res : List Rs} {post : AV → List (Option Ob) → Prop}
end
end Av
end Go.Proofs.Ytfijfccgghhkoaa
/- Contracts of the marks on chains. -/
namespace Go.Proofs.Ytfijfccgghhkoaa
namespace Av
open Go.RowKit
section
variable {fr : Env} {H : Hp} {nx rm' lim : Nat} {res : List Rs} {post : AV → List (Option Ob) → Prop}
end
end Av
end Go.Proofs.Ytfijfccgghhkoaa
/- The contract of 'the marks stand' on chains. -/
namespace Go.Proofs.Ytfijfccgghhkoaa
namespace Av
open Go.RowKit
end Av
end Go.Proofs.Ytfijfccgghhkoaa
/- Contracts of the marks on votes. -/
namespace Go.Proofs.Ytfijfccgghhkoaa
namespace Av
open Go.RowKit
section
variable {P : Program} {g : Nat} {S : MSpec} {fr : Env} {H : Hp} {nm rm : Nat} {K : KV} {xs : List (X × List (Option Nat))}
end
end Av
end Go.Proofs.Ytfijfccgghhkoaa
/- The contract of the marks on votes. -/
namespace Go.Proofs.Ytfijfccgghhkoaa
namespace Av
open Go.RowKit
end Av
end Go.Proofs.Ytfijfccgghhkoaa

namespace Go.Proofs.Ytfijfccgghhkoaa
namespace Av
end Av
end Go.Proofs.Ytfijfccgghhkoaa

namespace Go.Proofs.Ytfijfccgghhkoaa
namespace Av
end Av
end Go.Proofs.Ytfijfccgghhkoaa

namespace Go.Proofs.Ytfijfccgghhkoaa
namespace Av
open Go.RowKit
attribute [local irreducible] Valid ValidM
section
variable {P : Program} {f : Nat} {S : OSpec} {fr : Env} {H : Hp} {nm rm : Nat} {K : KV} {xs : List (X × List (Option Nat))}
end
end Av
end Go.Proofs.Ytfijfccgghhkoaa

namespace Go.Proofs.Ytfijfccgghhkoaa
namespace Av
end Av
end Go.Proofs.Ytfijfccgghhkoaa

namespace Go.Proofs.Ytfijfccgghhkoaa
namespace Av
open Go.RowKit
attribute [local irreducible] Valid ValidM
end Av
end Go.Proofs.Ytfijfccgghhkoaa

