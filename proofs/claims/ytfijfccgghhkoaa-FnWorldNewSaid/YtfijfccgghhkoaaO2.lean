/- The walks: chains of one's own. -/
import Derived.Test.YtfijfccgghhkoaaJ48
import Derived.Test.YtfijfccgghhkoaaT2
import Derived.Test.YtfijfccgghhkoaaW0
set_option linter.unusedVariables false
set_option linter.unusedSimpArgs false
namespace Go.Proofs.Ytfijfccgghhkoaa
namespace Av
open Go.RowKit
attribute [local irreducible] Valid ValidM
end Av
end Go.Proofs.Ytfijfccgghhkoaa
/- The walks: the laws' copies that are written later. -/
namespace Go.Proofs.Ytfijfccgghhkoaa
namespace Av
open Go.RowKit
def updF (f : Nat → Nat) (i n : Nat) : Nat → Nat := fun j => if j = i then n else f j
section
variable {P : Program} {g : Nat} {S : MSpec} {fr : Env} {H : Hp} {nm nx rm rm' lim : Nat} {K : KV} {xs : List (X × List (Option Nat))} {res : List Rs} {post : AV → List (Option Ob) → Prop}
end
end Av
end Go.Proofs.Ytfijfccgghhkoaa
/- Owned votes, seen by a callee that only reads; and what a call of the copy comes to. -/
namespace Go.Proofs.Ytfijfccgghhkoaa
namespace Av
open Go.RowKit
theorem allO_mk {α β : Type} {g : α → Option β} : ∀ {l : List α} {ys : List β}, l.length = ys.length → (∀ (i : Nat) x y, l[i]? = some x → ys[i]? = some y → g x = some y) → allO g l = some ys
  | [], [], _, _ => rfl
  | x :: r, y :: ys, h, hg => by
    have h1 := hg 0 x y rfl rfl
    have h2 : allO g r = some ys := allO_mk (by simpa using h) fun i a b ha hb => hg (i + 1) a b (by simpa using ha) (by simpa using hb)
    simp only [allO, h1, h2, Option.bind_some, Option.map_some]
  | [], _ :: _, h, _ => by simp at h
  | _ :: _, [], h, _ => by simp at h
theorem deep_c {H : Hp} {d s : Nat} (l : List FV) : allO (deep H (d + 1) s) (l.map AC.c) = some l := by
  refine allO_mk (by simp) fun i x y hx hy => ?_
  rw [List.getElem?_map, hy] at hx
  cases hx; rfl
theorem arA_deep {α : Type} {F : α → List FV} {H : Hp} {d s : Nat} (l : List α) : allO (allO (deep H (d + 1) s)) (arA F l) = some (l.map F) := by
  refine allO_mk (by simp [arA]) fun i x y hx hy => ?_
  rw [arA, List.getElem?_map] at hx
  rw [List.getElem?_map] at hy
  cases ha : l[i]? with
  | none => rw [ha] at hx; cases hx
  | some a =>
    rw [ha] at hx hy
    cases hx; cases hy
    exact deep_c _
theorem bor_deep {H : Hp} {k T sz : Nat} {xs : List (List AC)} {ys : List (List FV)} {sh : Option Nat} (h : H k = some (.arr T sz xs)) (hy : allO (allO (deep H 3 sz)) xs = some ys) : bor H sh (.ow k) = .c (.sl sz ys) := by
  simp only [bor, h]
  cases hz : fcellss xs with
  | none => simp only [hy]
  | some zs =>
    simp only
    have h1 := fcellss_eq hz
    have h2 : allO (allO (deep H 3 sz)) xs = some zs := by
      rw [h1]
      refine allO_mk (by simp) fun i x y hx hy => ?_
      rw [List.getElem?_map, hy] at hx
      cases hx; exact deep_c _
    rw [h2] at hy; cases hy; rfl
theorem deep_ow {H : Hp} {d sz k T s : Nat} {xs : List (List AC)} (h : H k = some (.arr T s xs)) : deep H (d + 1) sz (.ow k) = (allO (allO (deep H d s)) xs).map (.sl s ·) := by
  unfold deep
  simp only [h]
section
variable {P : Program} {g : Nat} {S : MSpec} {fr : Env} {H : Hp} {nm rm : Nat} {K : KV} {xs : List (X × List (Option Nat))}
end
end Av
end Go.Proofs.Ytfijfccgghhkoaa
/- The walks: the marks on chains. -/
namespace Go.Proofs.Ytfijfccgghhkoaa
namespace Av
open Go.RowKit
end Av
end Go.Proofs.Ytfijfccgghhkoaa
/- The walk: 'the marks stand' on chains. -/
namespace Go.Proofs.Ytfijfccgghhkoaa
namespace Av
open Go.RowKit
end Av
end Go.Proofs.Ytfijfccgghhkoaa
/- The walk: the marks on votes. -/
namespace Go.Proofs.Ytfijfccgghhkoaa
namespace Av
open Go.RowKit
section
variable {fr : Env} {H : Hp} {nx rm' lim : Nat} {res : List Rs} {post : AV → List (Option Ob) → Prop}
end
end Av
end Go.Proofs.Ytfijfccgghhkoaa
/- Chains of one's own as the answer of an operation; the marks on votes, as a call. -/
namespace Go.Proofs.Ytfijfccgghhkoaa
namespace Av
open Go.RowKit
section
variable {P : Program} {g : Nat} {S : MSpec} {fr : Env} {H : Hp} {nm rm : Nat} {K : KV} {xs : List (X × List (Option Nat))}
end
section
variable {P : Program} {f : Nat} {S : OSpec} {fr : Env} {H : Hp} {nm rm : Nat} {K : KV} {x : X} {sh : List (Option Nat)}
end
section
variable {P : Program} {g : Nat} {S : MSpec} {fr : Env} {H : Hp} {nm rm : Nat} {K : KV} {xs : List (X × List (Option Nat))}
end
end Av
end Go.Proofs.Ytfijfccgghhkoaa
