/- Texts of the layer, joined. -/
import Derived.Test.YtdboofnogabefaaE4
import Derived.Test.YtdboofnogabefaaW1
set_option linter.unusedVariables false
set_option linter.unusedSimpArgs false
namespace Go.Proofs.Ytdboofnogabefaa
namespace Av
open Go.RowKit
def Bytes (b : List Int) : Prop := ∀ x, x ∈ b → 0 ≤ x ∧ x ≤ 255
def CodeOk (b : List Int) : Prop := b.length ≤ LIM ∧ Bytes b
def DrV (l : List Vo) : Prop := l.length ≤ 400 ∧ ∀ v, v ∈ l → v.c.length ≤ 16
theorem DrV.fit {l : List Vo} (h : DrV l) : FitVs l := ⟨Nat.le_trans h.1 (by decide), fun v hv => Nat.le_trans (h.2 v hv) (by decide)⟩
theorem DrV.lt {l : List Vo} (h : DrV l) : l.length < LIM := Nat.lt_of_le_of_lt h.1 (by decide)
theorem DrV.get {l : List Vo} {i : Nat} {v : Vo} (h : DrV l) (hv : l[i]? = some v) : v.c.length ≤ 16 := h.2 v (List.mem_of_getElem? hv)
abbrev ow0 : AV := .w (.o (.ow 0))
abbrev itO (c : List It) : Ob := .arr ty_impl_Item 4 (arA itF c)
theorem okw {n k : Nat} (h : k < n) : okV (· < n) (.w (.o (.ow k))) := h
theorem ok_sg {D : Nat → Prop} {o1 : Ob} (h1 : okOb D o1) : ∀ (j : Nat) o, [some o1][j]? = some (some o) → okOb D o
  | 0, o, h => by cases h; exact h1
  | j + 1, o, h => by simp at h
def noV : Vo := ⟨0, []⟩
end Av
end Go.Proofs.Ytdboofnogabefaa

namespace Go.Proofs.Ytdboofnogabefaa
namespace Av
open Go.RowKit
theorem FitCs.get {l : List (List It)} {i : Nat} {c : List It} (h : FitCs l) (hc : l[i]? = some c) : c.length ≤ LIM := h.2 c (List.mem_of_getElem? hc)
def TSure (l : List Vo) (c : List It) : Prop := VotesOk l ∧ ChainOk c ∧ Sure l c
noncomputable def votesFor (l : List Vo) (c : List It) : List Int := if tb (VotesOk l) = true then voters l c else []
theorem K_impl_votes_all {a : (List Vo)} {r : AV} (h : S_impl_votes_all.post ([one (vsF a)]) r) : r = one (csF (allS a)) :=
  oF_post (hcl := fun _ => rfl) (a := a) (by intro a b h; simpa only [List.cons.injEq, and_true, true_and, one_inj, agg_inj, paF_inj, itF_inj, chF_inj, voF_inj, vsF_inj, csF_inj, nsF_inj, nssF_inj, ndF_inj, ceF_inj, woF_inj, evF_inj, byF_inj, ndsF_inj, evsF_inj, pasF_inj, aI_inj, aB_inj, aRp_inj, fI_inj, fBo_inj] using h) h
end Av
end Go.Proofs.Ytdboofnogabefaa

namespace Go.Proofs.Ytdboofnogabefaa
namespace Av
open Go.RowKit
def LawB (b : List Int) : Prop := b.length ≤ BIG ∧ Bytes b
theorem LawB.code {b : List Int} (h : LawB b) (h' : (b.length : Int) ≤ 1048576) : CodeOk b := ⟨by simp only [LIM]; omega, h.2⟩
end Av
end Go.Proofs.Ytdboofnogabefaa

