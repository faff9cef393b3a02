/- Texts of the layer, joined. -/
import Derived.Test.YtdboofnogabefaaJ42
import Derived.Test.YtdboofnogabefaaD1
import Derived.Test.YtdboofnogabefaaProg
import Derived.KernelRfl
import Derived.Test.YtdboofnogabefaaJ26
set_option linter.unusedVariables false
set_option linter.unusedSimpArgs false
namespace Go.Proofs.Ytdboofnogabefaa
namespace Av
end Av
end Go.Proofs.Ytdboofnogabefaa

namespace Go.Proofs.Ytdboofnogabefaa
namespace Av
end Av
end Go.Proofs.Ytdboofnogabefaa

namespace Go.Proofs.Ytdboofnogabefaa
namespace Av
open Go.RowKit
attribute [local irreducible] mkC
end Av
end Go.Proofs.Ytdboofnogabefaa

namespace Go.Proofs.Ytdboofnogabefaa
namespace Av
open Go.RowKit
attribute [local irreducible] Valid ValidM
end Av
end Go.Proofs.Ytdboofnogabefaa

namespace Go.Proofs.Ytdboofnogabefaa
namespace Av
open Go.RowKit
theorem raw_cells {fr : Env} {H : Hp} {m t k : Nat} {sh : List (Option Nat)} {cs : List AC} (ht : fr t = .w (.o (.ptr k 0))) (hk : H k = some (.cells cs)) (hm : cs.length = m) : rawC fr H ⟨some (some m), t, sh⟩ = some (.g cs) := by
  subst hm
  have e : ldc H (fr t) cs.length = some cs := by
    rw [ht, ldc_cells hk (Nat.le_of_eq (Nat.zero_add _)), List.drop_zero, List.take_length]
  show (ldc H (fr t) ((some cs.length).getD 1)).bind (fun c => awOf (mkw (some cs.length) c)) = _
  rw [show (some cs.length).getD 1 = cs.length from rfl, e]; rfl
section
variable {P : Program} {g : Nat} {fr : Env} {H : Hp} {nm rm : Nat} {K : KV} {xs : List (X × List (Option Nat))}
end
attribute [local irreducible] Valid ValidM
end Av
end Go.Proofs.Ytdboofnogabefaa

namespace Go.Proofs.Ytdboofnogabefaa
namespace Av
open Go.RowKit
attribute [local irreducible] Valid ValidM
end Av
end Go.Proofs.Ytdboofnogabefaa

namespace Go.Proofs.Ytdboofnogabefaa
namespace Av
open Go.RowKit
theorem bor_vw {H : Hp} {k T sz hi : Nat} {xs : List (List AC)} {ys : List (List FV)} {sh : Option Nat} (h : H k = some (.arr T sz xs)) (hy : fcellss xs = some ys) : bor H sh (.vw k hi) = .c (.sl sz (ys.take hi)) := by simp only [bor, h, hy]
theorem bnd_at {fr : Env} {x : X} {n : Int} {i : Nat} (hx : ev fr x = I n) (h : n = (i : Int)) : bnd fr 0 (some x) = some i := by
  subst h
  simp only [bnd, hx]
  rw [if_pos (Int.natCast_nonneg i), Int.toNat_natCast]
/-- How things lie while a node hears. -/
structure HearS (H : Hp) (nx L : Nat) (ks0 : List Nat) (m : Nd) (k : Nat) (f : Nat → Nat) : Prop where
  node : H L = some (.cells (ndO m k))
  z4 : H (L + 32) = some (.cells [cI 0, cI 0, cI 0, .e0])
  z2 : H (L + 48) = some (.cells [cI 0, .e0])
  tri : TriAt H nx ks0 false (m, zVo, false) k f .e0
  lt : ∀ x, x ∈ ks0 → x < nx ∧ x ≠ L ∧ x ≠ L + 32 ∧ x ≠ L + 48
  nx : L + 64 ≤ nx
end Av
end Go.Proofs.Ytdboofnogabefaa

