/- Texts of the layer, joined. -/
import Derived.Test.YtdboofnogabefaaJ16
import Derived.Test.YtdboofnogabefaaD1
import Derived.Test.YtdboofnogabefaaProg
import Derived.KernelRfl
import Derived.Test.YtdboofnogabefaaZC
set_option linter.unusedVariables false
set_option linter.unusedSimpArgs false
namespace Go.Proofs.Ytdboofnogabefaa
namespace Av
open Go.RowKit
def SeenB (l : List Vo) : Prop := l.length ≤ 80 ∧ ∀ v, v ∈ l → VoteOk v
theorem SeenB.fit {l : List Vo} (h : SeenB l) : FitVs l := ⟨Nat.le_trans h.1 (by decide), fun v hv => Nat.le_trans (h.2 v hv).2.2.2 (by decide)⟩
theorem SeenB.lt {l : List Vo} (h : SeenB l) : l.length < LIM := Nat.lt_of_le_of_lt h.1 (by decide)
end Av
end Go.Proofs.Ytdboofnogabefaa

namespace Go.Proofs.Ytdboofnogabefaa
namespace Av
end Av
end Go.Proofs.Ytdboofnogabefaa

namespace Go.Proofs.Ytdboofnogabefaa
namespace Av
open Go.RowKit
end Av
end Go.Proofs.Ytdboofnogabefaa

namespace Go.Proofs.Ytdboofnogabefaa
namespace Av
open Go.RowKit
section
variable {P : Program} {g : Nat} {S : MSpec} {fr : Env} {H : Hp} {nm nx rm rm' lim k : Nat} {K : KV} {xs : List (X × List (Option Nat))} {res : List Rs} {post : AV → List (Option Ob) → Prop}
end
attribute [local irreducible] Valid ValidM
end Av
end Go.Proofs.Ytdboofnogabefaa

