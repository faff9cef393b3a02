/- The walks: a node proposes, with memory of its own. -/
import Derived.Test.YtdboofnogabefaaID
set_option linter.unusedVariables false
set_option linter.unusedSimpArgs false
namespace Go.Proofs.Ytdboofnogabefaa
namespace Av
open Go.RowKit
theorem oA_nest {fr : Env} {H : Hp} {x : X} {k b : Nat} {f : Nat → Nat} {l : List Vo} {sh : List (Option Nat)} {fl : Bool} (hfl : fl = true) (hx : ev fr x = .w (.o (.ow k))) (h : nV.At H b k f l) : oArgs fl fr H [(x, sh)] = [one (vsF l)] := by
  subst hfl
  show [borV H sh (ev fr x)] = _
  rw [hx]
  show [AV.w (.o (bor H (sh.headD none) (.ow k)))] = _
  rw [h.bor]; rfl
attribute [local irreducible] voteN
attribute [local irreducible] Valid ValidM
end Av
end Go.Proofs.Ytdboofnogabefaa
