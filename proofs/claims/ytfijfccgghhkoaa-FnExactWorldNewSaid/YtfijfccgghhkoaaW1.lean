/- Calls of functions that hand back objects, in the shapes that occur. -/
import Derived.Test.YtfijfccgghhkoaaMC
import Derived.Test.YtfijfccgghhkoaaD0
set_option linter.unusedVariables false
set_option linter.unusedSimpArgs false
namespace Go.Proofs.Ytfijfccgghhkoaa
namespace Av
open Go.RowKit
/-- Elements that are frozen data, as an array's cells. -/
abbrev arA {α : Type} (F : α → List FV) (l : List α) : List (List AC) := l.map fun x => (F x).map AC.c
theorem arr_ren {α : Type} (ρ : Nat → Nat) (T sz : Nat) (F : α → List FV) (l : List α) : (Ob.arr T sz (arA F l)).ren ρ = .arr T sz (arA F l) := by
  simp only [Ob.ren, arA, List.map_map]
  congr 1
  apply List.map_congr_left
  intro x _
  simp only [Function.comp, List.map_map]
  apply List.map_congr_left
  intro y _
  rfl
theorem nmap_lt {s : Nat} {ks : List Nat} {nm i k : Nat} (h : ks[i]? = some k) : nmapS s ks nm i = k := by
  obtain ⟨hi, rfl⟩ := List.getElem?_eq_some_iff.1 h
  simp [nmapS, hi]
theorem nmap_next {s : Nat} {ks : List Nat} {nm : Nat} : nmapS s ks nm ks.length = nm := by simp [nmapS]
section
variable {P : Program} {f : Nat} {S : MSpec} {fr : Env} {H : Hp} {nm rm : Nat} {K : KV} {xs : List (X × List (Option Nat))}
end
/-! ### the end of such functions -/
section
variable {res : List Rs} {fr : Env} {H : Hp} {nx rm' lim : Nat} {post : AV → List (Option Ob) → Prop}
end
/-! ### contracts of such functions -/
def mkM {α : Type} (enc : α → List AV) (ob : α → List Ob) (p : α → Prop) (R : α → AV → List (Option Ob) → Prop) (cost : Nat)
    (hinh : ∀ a, p a → ∃ r obs', R a r obs' ∧ okV (· < obs'.length) r ∧ ∀ (j : Nat) o, obs'[j]? = some (some o) → okOb (· < obs'.length) o) (hlen : ∀ a r obs', R a r obs' → (ob a).length ≤ obs'.length ∧ obs'.length ≤ (ob a).length + 16) : MSpec where
  pre args obs := ∃ a, args = enc a ∧ obs = ob a ∧ p a
  post args obs r obs' := ∃ a, args = enc a ∧ obs = ob a ∧ R a r obs'
  inh := fun args obs ⟨a, h1, h2, hp⟩ => by
    obtain ⟨r, obs', h3, h4, h5⟩ := hinh a hp
    exact ⟨r, obs', ⟨a, h1, h2, h3⟩, h4, h5⟩
  cost := cost
  st := 0
  hlen := fun args obs r obs' ⟨a, h1, h2, h3⟩ => by rw [h2]; exact hlen a r obs' h3
  nk := false
  hnk := fun h => by cases h
/-- Such a function that is handed data alone. -/
def mkN {α : Type} (enc : α → List AV) (p : α → Prop) (R : α → AV → List (Option Ob) → Prop) (cost : Nat)
    (hinh : ∀ a, p a → ∃ r obs', R a r obs' ∧ okV (· < obs'.length) r ∧ ∀ (j : Nat) o, obs'[j]? = some (some o) → okOb (· < obs'.length) o) (hlen : ∀ a r obs', R a r obs' → obs'.length ≤ 16) : MSpec where
  pre args obs := ∃ a, args = enc a ∧ obs = [] ∧ p a
  post args obs r obs' := ∃ a, args = enc a ∧ obs = [] ∧ R a r obs'
  inh := fun args obs ⟨a, h1, h2, hp⟩ => by
    obtain ⟨r, obs', h3, h4, h5⟩ := hinh a hp
    exact ⟨r, obs', ⟨a, h1, h2, h3⟩, h4, h5⟩
  cost := cost
  st := 0
  hlen := fun args obs r obs' ⟨a, h1, h2, h3⟩ => by rw [h2]; exact ⟨Nat.zero_le _, by have := hlen a r obs' h3; simpa using this⟩
  nk := true
  hnk := fun _ args obs ⟨a, _, h, _⟩ => h
theorem mkN_post {α : Type} {enc : α → List AV} {p : α → Prop} {R : α → AV → List (Option Ob) → Prop} {cost : Nat} {hinh hlen} (hinj : ∀ a b, enc a = enc b → a = b) {a : α} {r : AV} {obs' : List (Option Ob)}
    (h : (mkN enc p R cost hinh hlen).post (enc a) [] r obs') : R a r obs' := by
  obtain ⟨b, h1, _, h3⟩ := h
  rw [hinj _ _ h1]; exact h3
theorem mkM_post {α : Type} {enc : α → List AV} {ob : α → List Ob} {p : α → Prop} {R : α → AV → List (Option Ob) → Prop} {cost : Nat} {hinh hlen} (hinj : ∀ a b, enc a = enc b → ob a = ob b → a = b) {a : α} {r : AV} {obs' : List (Option Ob)}
    (h : (mkM enc ob p R cost hinh hlen).post (enc a) (ob a) r obs') : R a r obs' := by
  obtain ⟨b, h1, h2, h3⟩ := h
  rw [hinj _ _ h1 h2]; exact h3
theorem arA_ok {α : Type} {F : α → List FV} {l : List α} {T sz : Nat} (D : Nat → Prop) : okOb D (.arr T sz (arA F l)) := by
  intro x hx c hc
  obtain ⟨a, _, rfl⟩ := List.mem_map.1 hx
  obtain ⟨y, _, rfl⟩ := List.mem_map.1 hc
  exact trivial
end Av
end Go.Proofs.Ytfijfccgghhkoaa
