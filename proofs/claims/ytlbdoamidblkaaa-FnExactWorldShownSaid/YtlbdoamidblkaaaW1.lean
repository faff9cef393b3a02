/- Calls of functions that hand back objects, in the shapes that occur. -/
import Derived.Test.YtlbdoamidblkaaaMC
import Derived.Test.YtlbdoamidblkaaaD0
set_option linter.unusedVariables false
set_option linter.unusedSimpArgs false
namespace Go.Proofs.Ytlbdoamidblkaaa
namespace Av
open Go.RowKit
/-- Elements that are frozen data, as an array's cells. -/
abbrev arA {α : Type} (F : α → List FV) (l : List α) : List (List AC) := l.map fun x => (F x).map AC.c
theorem arr_ren {α : Type} (ρ : Nat → Nat) (T sz : Nat) (F : α → List FV) (l : List α) : (Ob.arr T sz (arA F l)).ren ρ = .arr T sz (arA F l) := by
  simp only [Ob.ren, arA, List.map_map]
  congr 1
  apply List.map_congr_left
  intro x _
  simp only [Function.comp, List.map_map]
  apply List.map_congr_left
  intro y _
  rfl
theorem arr_snoc {α : Type} {F : α → List FV} {l : List α} {x : α} {T sz : Nat} {ys : List (List AC)} (h : ys = [(F x).map AC.c]) : some (Ob.arr T sz (arA F l ++ ys)) = some (Ob.arr T sz (arA F (l ++ [x]))) := by
  rw [h]; simp [arA]
theorem nmap_lt {s : Nat} {ks : List Nat} {nm i k : Nat} (h : ks[i]? = some k) : nmapS s ks nm i = k := by
  obtain ⟨hi, rfl⟩ := List.getElem?_eq_some_iff.1 h
  simp [nmapS, hi]
section
variable {P : Program} {f : Nat} {S : MSpec} {fr : Env} {H : Hp} {nm rm : Nat} {K : KV} {xs : List (X × List (Option Nat))}
/-- An array in; its elements out, for good. -/
theorem mq_clip {α : Type} {F : α → List FV} {k T sz n : Nat} {l : List α} {f0 : FV} (hv : ValidM P f S) (hl : rm + S.cost ≤ LIM) (hk : H k = some (.arr T sz (arA F l))) (ha : nrmArgs fr xs = [.w (.o (.ow k))]) (hpre : S.pre [.w (.o (.ow 0))] [.arr T sz (arA F l)])
    (hpost : ∀ r obs', S.post [.w (.o (.ow 0))] [.arr T sz (arA F l)] r obs' → r = one f0 ∧ obs' = [some (.tok T sz n)])
    (hK : K (one f0) (hupd k (some (.tok T sz n)) H) (rm + S.cost)) : MQ P nm fr H rm K f S xs := by
  refine ⟨⟨hv, hl, [k], _, [.arr T sz (arA F l)], by simp, rfl, fun i k' h => ?_, ?_, hpre, fun r obs' hp _ _ => ?_⟩⟩
  · cases i with
    | zero => simp at h; subst h; exact ⟨_, rfl, by rw [arr_ren]; exact hk⟩
    | succ i => simp at h
  · rw [ha]
    show [AV.w (.o (.ow (nmapS S.st [k] nm 0)))] = _
    rw [nmap_lt (ks := [k]) rfl]
  · obtain ⟨rfl, rfl⟩ := hpost r obs' hp
    show K (one f0) (hupd (nmapS S.st [k] nm 0) (some (.tok T sz n)) H) _
    rw [nmap_lt (ks := [k]) (i := 0) rfl]
    exact hK
end
/-! ### the end of such functions -/
section
variable {res : List Rs} {fr : Env} {H : Hp} {nx rm' lim : Nat} {post : AV → List (Option Ob) → Prop}
/-- An array came in; its elements go out, for good. -/
theorem finM_clip {f0 : FV} {T sz n : Nat} (hrm : rm' ≤ lim) (hk : H 0 = some (.tok T sz n)) (hres : resM [0] fr H res [.o (.c f0)])
    (hpost : post (one f0) [some (.tok T sz n)]) : rm' ≤ lim ∧ ∃ (ks : List Nat) (as : List AW) (r : AV) (obs' : List (Option Ob)), resM ks fr H res as ∧ resV as = r.ren (nmap ks nx) ∧ post r obs' ∧
      ks.Nodup ∧ (∀ i, i < 1 → ks[i]? = some i) ∧ obs'.length = ks.length ∧
      ∀ (i k : Nat), ks[i]? = some k → (∃ ob : Ob, obs'[i]? = some (some ob) ∧ H k = some (ob.ren (nmap ks nx))) ∨ (obs'[i]? = some none ∧ H k = none) := by
  refine ⟨hrm, [0], _, _, _, hres, rfl, hpost, by simp, fun i hi => ?_, rfl, fun i k' h => ?_⟩
  · have : i = 0 := by omega
    subst this; rfl
  · left
    match i, h with
    | 0, h => cases h; exact ⟨_, rfl, hk⟩
    | i + 1, h => simp at h
end
/-! ### contracts of such functions -/
def mkM {α : Type} (enc : α → List AV) (ob : α → List Ob) (p : α → Prop) (R : α → AV → List (Option Ob) → Prop) (cost : Nat)
    (hinh : ∀ a, p a → ∃ r obs', R a r obs' ∧ okV (· < obs'.length) r ∧ ∀ (j : Nat) o, obs'[j]? = some (some o) → okOb (· < obs'.length) o) (hlen : ∀ a r obs', R a r obs' → (ob a).length ≤ obs'.length ∧ obs'.length ≤ (ob a).length + 16) : MSpec where
  pre args obs := ∃ a, args = enc a ∧ obs = ob a ∧ p a
  post args obs r obs' := ∃ a, args = enc a ∧ obs = ob a ∧ R a r obs'
  inh := fun args obs ⟨a, h1, h2, hp⟩ => by
    obtain ⟨r, obs', h3, h4, h5⟩ := hinh a hp
    exact ⟨r, obs', ⟨a, h1, h2, h3⟩, h4, h5⟩
  cost := cost
  st := 0
  hlen := fun args obs r obs' ⟨a, h1, h2, h3⟩ => by rw [h2]; exact hlen a r obs' h3
  nk := false
  hnk := fun h => by cases h
theorem mkM_post {α : Type} {enc : α → List AV} {ob : α → List Ob} {p : α → Prop} {R : α → AV → List (Option Ob) → Prop} {cost : Nat} {hinh hlen} (hinj : ∀ a b, enc a = enc b → ob a = ob b → a = b) {a : α} {r : AV} {obs' : List (Option Ob)}
    (h : (mkM enc ob p R cost hinh hlen).post (enc a) (ob a) r obs') : R a r obs' := by
  obtain ⟨b, h1, h2, h3⟩ := h
  rw [hinj _ _ h1 h2]; exact h3
theorem arA_inj {α : Type} {F : α → List FV} (hF : ∀ a b, F a = F b → a = b) {l m : List α} (h : arA F l = arA F m) : l = m := by
  refine map_inj' (fun a b h => hF a b (map_inj' (fun _ _ h => by simpa using h) h)) h
end Av
end Go.Proofs.Ytlbdoamidblkaaa
