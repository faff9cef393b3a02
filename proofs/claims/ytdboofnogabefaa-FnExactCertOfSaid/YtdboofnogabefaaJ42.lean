/- Texts of the layer, joined. -/
import Derived.Test.YtdboofnogabefaaNE
import Derived.Test.YtdboofnogabefaaJ38
import Derived.Test.YtdboofnogabefaaJ39
import Derived.Test.YtdboofnogabefaaD1
import Derived.Test.YtdboofnogabefaaProg
import Derived.KernelRfl
import Derived.Test.YtdboofnogabefaaJ9
import Derived.Test.YtdboofnogabefaaW0
import Derived.Test.YtdboofnogabefaaG2
import Derived.Test.YtdboofnogabefaaJ26
import Derived.Test.YtdboofnogabefaaP1
import Derived.Test.YtdboofnogabefaaG3
import Derived.Test.YtdboofnogabefaaO2
set_option linter.unusedVariables false
set_option linter.unusedSimpArgs false
namespace Go.Proofs.Ytdboofnogabefaa
namespace Av
open Go.RowKit
end Av
end Go.Proofs.Ytdboofnogabefaa

namespace Go.Proofs.Ytdboofnogabefaa
namespace Av
open Go.RowKit
end Av
end Go.Proofs.Ytdboofnogabefaa

namespace Go.Proofs.Ytdboofnogabefaa
namespace Av
open Go.RowKit
end Av
end Go.Proofs.Ytdboofnogabefaa

namespace Go.Proofs.Ytdboofnogabefaa
namespace Av
open Go.RowKit
end Av
end Go.Proofs.Ytdboofnogabefaa

namespace Go.Proofs.Ytdboofnogabefaa
namespace Av
end Av
end Go.Proofs.Ytdboofnogabefaa

namespace Go.Proofs.Ytdboofnogabefaa
namespace Av
end Av
end Go.Proofs.Ytdboofnogabefaa

namespace Go.Proofs.Ytdboofnogabefaa
namespace Av
end Av
end Go.Proofs.Ytdboofnogabefaa

namespace Go.Proofs.Ytdboofnogabefaa
namespace Av
end Av
end Go.Proofs.Ytdboofnogabefaa

namespace Go.Proofs.Ytdboofnogabefaa
namespace Av
end Av
end Go.Proofs.Ytdboofnogabefaa

namespace Go.Proofs.Ytdboofnogabefaa
namespace Av
open Go.RowKit
end Av
end Go.Proofs.Ytdboofnogabefaa
/- The walks: drawn payments and chains. -/
namespace Go.Proofs.Ytdboofnogabefaa
namespace Av
open Go.RowKit
attribute [local irreducible] Valid ValidM
end Av
end Go.Proofs.Ytdboofnogabefaa
/- The walks: two drawn chains, a drawn vote, votes anew and one more. -/
namespace Go.Proofs.Ytdboofnogabefaa
namespace Av
open Go.RowKit
end Av
end Go.Proofs.Ytdboofnogabefaa
/- The walks: drawn votes. -/
namespace Go.Proofs.Ytdboofnogabefaa
namespace Av
open Go.RowKit
end Av
end Go.Proofs.Ytdboofnogabefaa
/- The walks: votes drawn, some spoilt; the drawing functions of the laws. -/
namespace Go.Proofs.Ytdboofnogabefaa
namespace Av
open Go.RowKit
theorem fit16 {c : List It} (h : c.length ≤ 16) : c.length ≤ LIM := Nat.le_trans h (by decide)
end Av
end Go.Proofs.Ytdboofnogabefaa

namespace Go.Proofs.Ytdboofnogabefaa
namespace Av
open Go.RowKit
attribute [local irreducible] Valid ValidM
end Av
end Go.Proofs.Ytdboofnogabefaa

namespace Go.Proofs.Ytdboofnogabefaa
namespace Av
open Go.RowKit
attribute [local irreducible] mkC mkVs endV
attribute [local irreducible] Valid ValidM
/-! ### Clone -/
section
variable {H : Hp} {b k : Nat} {f : Nat → Nat} {l : List Vo}
variable {P : Program} {g : Nat} {fr : Env} {nm nx rm rm' lim : Nat} {K : KV} {xs : List (X × List (Option Nat))} {res : List Rs} {post : AV → List (Option Ob) → Prop}
end
/-! ### one more -/
section
variable {P : Program} {g : Nat} {fr : Env} {H : Hp} {nm rm : Nat} {K : KV} {xs : List (X × List (Option Nat))}
end
section
variable {H : Hp} {b k : Nat} {f : Nat → Nat} {l : List Vo} {v : Vo}
variable {P : Program} {g : Nat} {fr : Env} {nm nx rm rm' lim : Nat} {K : KV} {xs : List (X × List (Option Nat))}
end
end Av
end Go.Proofs.Ytdboofnogabefaa

namespace Go.Proofs.Ytdboofnogabefaa
namespace Av
end Av
end Go.Proofs.Ytdboofnogabefaa

namespace Go.Proofs.Ytdboofnogabefaa
namespace Av
open Go.RowKit
attribute [local irreducible] Valid ValidM
end Av
end Go.Proofs.Ytdboofnogabefaa

namespace Go.Proofs.Ytdboofnogabefaa
namespace Av
open Go.RowKit
def SeenB (l : List Vo) : Prop := l.length ≤ 80 ∧ ∀ v, v ∈ l → VoteOk v
theorem SeenB.fit {l : List Vo} (h : SeenB l) : FitVs l := ⟨Nat.le_trans h.1 (by decide), fun v hv => Nat.le_trans (h.2 v hv).2.2.2 (by decide)⟩
theorem SeenB.lt {l : List Vo} (h : SeenB l) : l.length < LIM := Nat.lt_of_le_of_lt h.1 (by decide)
end Av
end Go.Proofs.Ytdboofnogabefaa

namespace Go.Proofs.Ytdboofnogabefaa
namespace Av
end Av
end Go.Proofs.Ytdboofnogabefaa

namespace Go.Proofs.Ytdboofnogabefaa
namespace Av
open Go.RowKit
end Av
end Go.Proofs.Ytdboofnogabefaa

namespace Go.Proofs.Ytdboofnogabefaa
namespace Av
open Go.RowKit
section
variable {P : Program} {g : Nat} {S : MSpec} {fr : Env} {H : Hp} {nm nx rm rm' lim k : Nat} {K : KV} {xs : List (X × List (Option Nat))} {res : List Rs} {post : AV → List (Option Ob) → Prop}
end
attribute [local irreducible] Valid ValidM
end Av
end Go.Proofs.Ytdboofnogabefaa

namespace Go.Proofs.Ytdboofnogabefaa
namespace Av
open Go.RowKit
attribute [local irreducible] Valid ValidM
end Av
end Go.Proofs.Ytdboofnogabefaa

