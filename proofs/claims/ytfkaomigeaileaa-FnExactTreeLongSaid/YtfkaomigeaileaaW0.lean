/- Small lemmas for the walks. -/
import Derived.Test.YtfkaomigeaileaaMF
import Derived.Test.YtfkaomigeaileaaMC
set_option linter.unusedVariables false
set_option linter.unusedSimpArgs false
namespace Go.Proofs.Ytfkaomigeaileaa
namespace Av
open Go.RowKit

theorem idx_map {α : Type} {f : α → List FV} {l : List α} {i : Nat} {K : List FV → Prop} (h : i < l.length) (hK : ∀ x, l[i]? = some x → K (f x)) : ∃ (j : Nat) (e : List FV), (i : Int) = (j : Int) ∧ (l.map f)[j]? = some e ∧ K e :=
  ⟨i, f l[i], rfl, at_map (List.getElem?_eq_getElem h), hK _ (List.getElem?_eq_getElem h)⟩
theorem idx_mapE {α : Type} {f : α → List FV} {l : List α} {n : Int} {i : Nat} {K : List FV → Prop} (hn : n = (i : Int)) (h : i < l.length) (hK : ∀ x, l[i]? = some x → K (f x)) : ∃ (j : Nat) (e : List FV), n = (j : Int) ∧ (l.map f)[j]? = some e ∧ K e := by
  subst hn; exact idx_map h hK
theorem idx_mapX {α : Type} {f : α → List FV} {l : List α} {n : Int} {i : Nat} {x : α} {K : List FV → Prop} (hn : n = (i : Int)) (h : l[i]? = some x) (hK : K (f x)) : ∃ (j : Nat) (e : List FV), n = (j : Int) ∧ (l.map f)[j]? = some e ∧ K e := by
  subst hn; exact ⟨i, _, rfl, at_map h, hK⟩
theorem at_mapA {α : Type} {f : α → List AC} {l : List α} {j : Nat} {x : α} (h : l[j]? = some x) : (l.map f)[j]? = some (f x) := by rw [List.getElem?_map, h]; rfl
theorem idx_ow {α : Type} {f : α → List AC} {l : List α} {i k T sz : Nat} {H : Hp} {K : Nat → Prop} (hk : H k = some (.arr T sz (l.map f))) (h : i < l.length) (hK : ∀ x, l[i]? = some x → K i) :
    ∃ (T : Nat) (xs : List (List AC)) (j : Nat) (e : List AC), H k = some (.arr T sz xs) ∧ (i : Int) = (j : Int) ∧ xs[j]? = some e ∧ K j :=
  ⟨T, _, i, _, hk, rfl, at_mapA (List.getElem?_eq_getElem h), hK _ (List.getElem?_eq_getElem h)⟩
theorem ldc_pa {H : Hp} {k T sz i off n : Nat} {xs : List (List AC)} {e : List AC} (hk : H k = some (.arr T sz xs)) (hx : xs[i]? = some e) (h : off + n ≤ sz) : ldc H (.w (.o (.pa k sz i off))) n = some ((e.drop off).take n) := by
  simp [ldc, hk, hx, h]
theorem fcellss_f {α : Type} (f : α → List FV) (l : List α) : fcellss (l.map fun x => (f x).map AC.c) = some (l.map f) := by
  have := fcellss_c (l.map f)
  rwa [List.map_map] at this
theorem etaPa (p : Pa) : (⟨p.f, p.t, p.s⟩ : Pa) = p := rfl
theorem etaIt (x : It) : (⟨x.e, x.p⟩ : It) = x := rfl
theorem etaVo (v : Vo) : (⟨v.n, v.c⟩ : Vo) = v := rfl
theorem wrap_up1 {i n : Nat} (h : i < n) (hn : n ≤ LIM) : IntKind.i64.wrap (((i + 1 : Nat) : Int) + 1) = ((i + 1 + 1 : Nat) : Int) := by
  simp only [LIM] at hn
  rw [wrap64] <;> omega
theorem wrap_dn {i : Nat} (h : 0 < i) (hn : i ≤ LIM) : IntKind.i64.wrap ((i : Int) - 1) = ((i - 1 : Nat) : Int) := by
  rw [wrap64] <;> (simp only [LIM] at hn; omega)
end Av
end Go.Proofs.Ytfkaomigeaileaa
