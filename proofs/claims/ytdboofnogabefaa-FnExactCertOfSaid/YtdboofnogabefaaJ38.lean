/- Texts of the layer, joined. -/
import Derived.Test.YtdboofnogabefaaNE
import Derived.Test.YtdboofnogabefaaJ9
set_option linter.unusedVariables false
set_option linter.unusedSimpArgs false
namespace Go.Proofs.Ytdboofnogabefaa
namespace Av
open Go.RowKit
end Av
end Go.Proofs.Ytdboofnogabefaa

namespace Go.Proofs.Ytdboofnogabefaa
namespace Av
open Go.RowKit
section
variable {α : Type} {N : Nest α} {H H' : Hp} {b b' k : Nat} {f : Nat → Nat} {l m : List α}
variable {P : Program} {g : Nat} {S : MSpec} {fr : Env} {nm nx rm rm' lim : Nat} {K : KV} {xs : List (X × List (Option Nat))} {res : List Rs} {post : AV → List (Option Ob) → Prop}
end
theorem Nest.At.mid {α : Type} {N : Nest α} {H H' : Hp} {b k n : Nat} {f : Nat → Nat} {l : List α} (h : N.At H b k f l) (h1 : n ≤ k) (h2 : ∀ j, n ≤ f j) (hs : ∀ i, n ≤ i → i < b → H' i = H i) : N.At H' b k f l :=
  ⟨(hs k h1 h.lt).trans h.out, fun j v hj => (hs _ (h2 j) (h.lts j (List.getElem?_eq_some_iff.1 hj).1)).trans (h.inn j v hj), h.ne, h.inj, h.lt, h.lts⟩
end Av
end Go.Proofs.Ytdboofnogabefaa

namespace Go.Proofs.Ytdboofnogabefaa
namespace Av
open Go.RowKit
def lastE (v : Vo) : Int := ((v.c[v.c.length - 1]?).map It.e).getD 0
def NodeOk (n : Nd) : Prop := In n.id 1 4 ∧ In n.ep 0 30 ∧ In n.vt 0 n.ep ∧ n.seen.length ≤ 80 ∧ VotesOk n.seen ∧ ∀ v, v ∈ n.seen → ¬ (v.n = n.id ∧ n.vt < lastE v)
def zVo : Vo := ⟨0, []⟩
abbrev Tri := Nd × Vo × Bool
theorem VotesOk.ok' {l : List Vo} (h : VotesOk l) {v : Vo} (hv : v ∈ l) : VoteOk v := by
  obtain ⟨i, hi⟩ := List.mem_iff_getElem?.1 hv
  exact (h i v hi).1
theorem NodeOk.fit {n : Nd} (h : NodeOk n) : FitVs n.seen := ⟨Nat.le_trans h.2.2.2.1 (by decide), fun v hv => Nat.le_trans (h.2.2.2.2.1.ok' hv).2.2.2 (by decide)⟩
end Av
end Go.Proofs.Ytdboofnogabefaa

namespace Go.Proofs.Ytdboofnogabefaa
namespace Av
open Go.RowKit
def ndO (n : Nd) (k : Nat) : List AC := [cI n.id, cI n.ep, cI n.vt, .ow k]
end Av
end Go.Proofs.Ytdboofnogabefaa

