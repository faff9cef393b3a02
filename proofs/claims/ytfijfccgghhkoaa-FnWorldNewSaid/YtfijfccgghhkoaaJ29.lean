/- Texts of the layer, joined. -/
import Derived.Test.YtfijfccgghhkoaaZE
import Derived.Test.YtfijfccgghhkoaaZC
import Derived.Test.YtfijfccgghhkoaaD1
import Derived.Test.YtfijfccgghhkoaaProg
import Derived.KernelRfl
set_option linter.unusedVariables false
set_option linter.unusedSimpArgs false
namespace Go.Proofs.Ytfijfccgghhkoaa
namespace Av
open Go.RowKit
/-! ### worlds -/
def WInv (w : Wo) : Prop := In w.ep 0 30 ∧ In w.bad 0 4 ∧ w.nodes.length = 4 ∧ SeenB w.log ∧ ∀ n, n ∈ w.nodes → NdB n
def setN (w : Wo) (i : Nat) (n : Nd) : Wo := ⟨w.ep, w.nodes.set i n, w.log, w.bad⟩
end Av
end Go.Proofs.Ytfijfccgghhkoaa

namespace Go.Proofs.Ytfijfccgghhkoaa
namespace Av
open Go.RowKit
end Av
end Go.Proofs.Ytfijfccgghhkoaa

namespace Go.Proofs.Ytfijfccgghhkoaa
namespace Av
open Go.RowKit
end Av
end Go.Proofs.Ytfijfccgghhkoaa

namespace Go.Proofs.Ytfijfccgghhkoaa
namespace Av
end Av
end Go.Proofs.Ytfijfccgghhkoaa

namespace Go.Proofs.Ytfijfccgghhkoaa
namespace Av
open Go.RowKit
section
variable {P : Program} {g : Nat} {S : MSpec} {fr : Env} {H : Hp} {nm nx rm rm' lim k : Nat} {K : KV} {xs : List (X × List (Option Nat))} {res : List Rs} {post : AV → List (Option Ob) → Prop}
/-- What such functions end with. -/
theorem finM_one {M : Nat} {r0 : AV} {az : List AW} {l : List Vo} {k : Nat} (hM : M ≤ 1) (hMk : M = 1 → k = 0) (hrm : rm' ≤ lim) (hk : H k = some (tokO l)) (hres : resM [k] fr H res az) (hr : ∀ nx, resV az = r0.ren (nmap [k] nx)) (hpost : post r0 [some (tokO l)]) :
    rm' ≤ lim ∧ ∃ (ks : List Nat) (aw : List AW) (r : AV) (obs' : List (Option Ob)), resM ks fr H res aw ∧ resV aw = r.ren (nmap ks nx) ∧ post r obs' ∧
      ks.Nodup ∧ (∀ i, i < M → ks[i]? = some i) ∧ obs'.length = ks.length ∧
      ∀ (i k : Nat), ks[i]? = some k → (∃ ob : Ob, obs'[i]? = some (some ob) ∧ H k = some (ob.ren (nmap ks nx))) ∨ (obs'[i]? = some none ∧ H k = none) := by
  refine ⟨hrm, [k], az, r0, _, hres, hr nx, hpost, by simp, fun i hi => ?_, rfl, fun i k' h => ?_⟩
  · have h1 : M = 1 := by omega
    have : i = 0 := by omega
    subst this; rw [hMk h1]; rfl
  · match i, h with
    | 0, h => cases h; exact .inl ⟨_, rfl, hk⟩
    | i + 1, h => simp at h
end
attribute [local irreducible] Valid ValidM
end Av
end Go.Proofs.Ytfijfccgghhkoaa

