/- The walks: copies of chains. -/
import Derived.Test.YtdboofnogabefaaJ19
import Derived.Test.YtdboofnogabefaaT2
set_option linter.unusedVariables false
set_option linter.unusedSimpArgs false
namespace Go.Proofs.Ytdboofnogabefaa
namespace Av
open Go.RowKit
attribute [local irreducible] Valid ValidM
section
variable {P : Program} {f : Nat} {S : OSpec} {fr : Env} {H : Hp} {nm rm : Nat} {K : KV} {xs : List (X × List (Option Nat))}
/-- A new array, with a name and a heap of its own. -/
theorem oq_new {ar : List AV} {ob : Ob} (ha : oArgs S.fl fr H xs = ar) (hp : S.pre ar) (hv : ValidM P f S.toM) (ho : S.ob ar = ob)
    (hK : ∀ (n : Nat) (H' : Hp), nm = n → H' n = some ob → (∀ j, j ≠ n → H' j = H j) → K (.w (.o (.ow n))) H' rm) : OQ P nm fr H rm K f S xs :=
  OQ.mk1 ha hp hv ho (hK nm _ rfl hupd_at fun j hj => hupd_ne hj)
end
end Av
end Go.Proofs.Ytdboofnogabefaa
