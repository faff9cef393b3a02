/- Small lemmas for the walks. -/
import Derived.Test.YtdboofnogabefaaMF
import Derived.Test.YtdboofnogabefaaMC
set_option linter.unusedVariables false
set_option linter.unusedSimpArgs false
namespace Go.Proofs.Ytdboofnogabefaa
namespace Av
open Go.RowKit
theorem idx_map {α : Type} {f : α → List FV} {l : List α} {i : Nat} {K : List FV → Prop} (h : i < l.length) (hK : ∀ x, l[i]? = some x → K (f x)) : ∃ (j : Nat) (e : List FV), (i : Int) = (j : Int) ∧ (l.map f)[j]? = some e ∧ K e :=
  ⟨i, f l[i], rfl, at_map (List.getElem?_eq_getElem h), hK _ (List.getElem?_eq_getElem h)⟩
theorem idx_mapE {α : Type} {f : α → List FV} {l : List α} {n : Int} {i : Nat} {K : List FV → Prop} (hn : n = (i : Int)) (h : i < l.length) (hK : ∀ x, l[i]? = some x → K (f x)) : ∃ (j : Nat) (e : List FV), n = (j : Int) ∧ (l.map f)[j]? = some e ∧ K e := by
  subst hn; exact idx_map h hK
theorem idx_mapX {α : Type} {f : α → List FV} {l : List α} {n : Int} {i : Nat} {x : α} {K : List FV → Prop} (hn : n = (i : Int)) (h : l[i]? = some x) (hK : K (f x)) : ∃ (j : Nat) (e : List FV), n = (j : Int) ∧ (l.map f)[j]? = some e ∧ K e := by
  subst hn; exact ⟨i, _, rfl, at_map h, hK⟩
theorem wrap_dn {i : Nat} (h : 0 < i) (hn : i ≤ LIM) : IntKind.i64.wrap ((i : Int) - 1) = ((i - 1 : Nat) : Int) := by
  rw [wrap64] <;> (simp only [LIM] at hn; omega)
theorem at_mapA {α : Type} {f : α → List AC} {l : List α} {j : Nat} {x : α} (h : l[j]? = some x) : (l.map f)[j]? = some (f x) := by rw [List.getElem?_map, h]; rfl
theorem idx_ow {α : Type} {f : α → List AC} {l : List α} {i k T sz : Nat} {H : Hp} {K : Nat → Prop} (hk : H k = some (.arr T sz (l.map f))) (h : i < l.length) (hK : ∀ x, l[i]? = some x → K i) :
    ∃ (T : Nat) (xs : List (List AC)) (j : Nat) (e : List AC), H k = some (.arr T sz xs) ∧ (i : Int) = (j : Int) ∧ xs[j]? = some e ∧ K j :=
  ⟨T, _, i, _, hk, rfl, at_mapA (List.getElem?_eq_getElem h), hK _ (List.getElem?_eq_getElem h)⟩
theorem ldc_pa {H : Hp} {k T sz i off n : Nat} {xs : List (List AC)} {e : List AC} (hk : H k = some (.arr T sz xs)) (hx : xs[i]? = some e) (h : off + n ≤ sz) : ldc H (.w (.o (.pa k sz i off))) n = some ((e.drop off).take n) := by
  simp [ldc, hk, hx, h]
theorem fcellss_f {α : Type} (f : α → List FV) (l : List α) : fcellss (l.map fun x => (f x).map AC.c) = some (l.map f) := by
  have := fcellss_c (l.map f)
  rwa [List.map_map] at this
theorem etaPa (p : Pa) : (⟨p.f, p.t, p.s⟩ : Pa) = p := rfl
theorem etaIt (x : It) : (⟨x.e, x.p⟩ : It) = x := rfl
theorem etaVo (v : Vo) : (⟨v.n, v.c⟩ : Vo) = v := rfl
theorem wrap_up1 {i n : Nat} (h : i < n) (hn : n ≤ LIM) : IntKind.i64.wrap (((i + 1 : Nat) : Int) + 1) = ((i + 1 + 1 : Nat) : Int) := by
  simp only [LIM] at hn
  rw [wrap64] <;> omega
theorem idx_mapI {α : Type} {f : α → List FV} {l : List α} {n : Int} {K : List FV → Prop} (h0 : 0 ≤ n) (h : n < l.length) (hK : ∀ x, l[n.toNat]? = some x → K (f x)) : ∃ (j : Nat) (e : List FV), n = (j : Int) ∧ (l.map f)[j]? = some e ∧ K e :=
  idx_mapE (i := n.toNat) (by omega) (by omega) hK
theorem idx_owI {α : Type} {f : α → List AC} {l : List α} {n : Int} {k T sz : Nat} {H : Hp} {K : Nat → Prop} (hk : H k = some (.arr T sz (l.map f))) (h0 : 0 ≤ n) (h : n < l.length) (hK : ∀ x, l[n.toNat]? = some x → K n.toNat) :
    ∃ (T : Nat) (xs : List (List AC)) (j : Nat) (e : List AC), H k = some (.arr T sz xs) ∧ n = (j : Int) ∧ xs[j]? = some e ∧ K j := by
  have hi : n.toNat < l.length := by omega
  exact ⟨T, _, n.toNat, _, hk, by omega, at_mapA (List.getElem?_eq_getElem hi), hK _ (List.getElem?_eq_getElem hi)⟩
theorem idx_owE {α : Type} {f : α → List AC} {l : List α} {n : Int} {i k T sz : Nat} {H : Hp} {K : Nat → Prop} (hk : H k = some (.arr T sz (l.map f))) (hn : n = (i : Int)) (h : i < l.length) (hK : ∀ x, l[i]? = some x → K i) :
    ∃ (T : Nat) (xs : List (List AC)) (j : Nat) (e : List AC), H k = some (.arr T sz xs) ∧ n = (j : Int) ∧ xs[j]? = some e ∧ K j := by
  subst hn; exact idx_ow hk h hK
theorem idx_owL {α : Type} {f : α → List AC} {l : List α} {k T sz : Nat} {H : Hp} {K : Nat → Prop} (hk : H k = some (.arr T sz (l.map f))) (h0 : 0 < l.length) (hL : l.length ≤ LIM) (hK : ∀ x, l[l.length - 1]? = some x → K (l.length - 1)) :
    ∃ (T : Nat) (xs : List (List AC)) (j : Nat) (e : List AC), H k = some (.arr T sz xs) ∧ IntKind.i64.wrap (((l.map f).length : Int) - 1) = (j : Int) ∧ xs[j]? = some e ∧ K j :=
  idx_owE (i := l.length - 1) hk (by rw [List.length_map]; exact wrap_dn h0 hL) (by omega) hK
theorem idx_mapL {α : Type} {f : α → List FV} {l : List α} {K : List FV → Prop} (h0 : 0 < l.length) (hL : l.length ≤ LIM) (hK : ∀ x, l[l.length - 1]? = some x → K (f x)) :
    ∃ (j : Nat) (e : List FV), IntKind.i64.wrap (((l.map f).length : Int) - 1) = (j : Int) ∧ (l.map f)[j]? = some e ∧ K e :=
  idx_mapE (i := l.length - 1) (by rw [List.length_map]; exact wrap_dn h0 hL) (by omega) hK
theorem slc_toI {fr : Env} {sz : Nat} {n : Int} {xs : List (List FV)} {x : X} {H : Hp} (hx : ev fr x = I n) (h0 : 0 ≤ n) (hi : n ≤ xs.length) : slcA fr sz (S sz xs) none (some x) none H = some (.one (S sz (xs.take n.toNat)) H) :=
  slc_to (i := n.toNat) (by rw [hx, show n = ((n.toNat : Nat) : Int) from by omega]; simp) (by omega)
end Av
end Go.Proofs.Ytdboofnogabefaa
