/- Calls of functions that hand back objects, in the shapes that occur. -/
import Derived.Test.YtdboofnogabefaaMC
import Derived.Test.YtdboofnogabefaaD0
set_option linter.unusedVariables false
set_option linter.unusedSimpArgs false
namespace Go.Proofs.Ytdboofnogabefaa
namespace Av
open Go.RowKit
/-- Elements that are frozen data, as an array's cells. -/
abbrev arA {α : Type} (F : α → List FV) (l : List α) : List (List AC) := l.map fun x => (F x).map AC.c
theorem arr_ren {α : Type} (ρ : Nat → Nat) (T sz : Nat) (F : α → List FV) (l : List α) : (Ob.arr T sz (arA F l)).ren ρ = .arr T sz (arA F l) := by
  simp only [Ob.ren, arA, List.map_map]
  congr 1
  apply List.map_congr_left
  intro x _
  simp only [Function.comp, List.map_map]
  apply List.map_congr_left
  intro y _
  rfl
theorem arr_snoc {α : Type} {F : α → List FV} {l : List α} {x : α} {T sz : Nat} {ys : List (List AC)} (h : ys = [(F x).map AC.c]) : some (Ob.arr T sz (arA F l ++ ys)) = some (Ob.arr T sz (arA F (l ++ [x]))) := by
  rw [h]; simp [arA]
theorem arr_set {α : Type} {F : α → List FV} {l : List α} {x : α} {i T sz : Nat} {ys : List AC} (h : ys = (F x).map AC.c) : some (Ob.arr T sz ((arA F l).set i ys)) = some (Ob.arr T sz (arA F (l.set i x))) := by
  rw [h]; simp only [arA, List.map_set]
theorem nmap_lt {s : Nat} {ks : List Nat} {nm i k : Nat} (h : ks[i]? = some k) : nmapS s ks nm i = k := by
  obtain ⟨hi, rfl⟩ := List.getElem?_eq_some_iff.1 h
  simp [nmapS, hi]
theorem nmap_next {s : Nat} {ks : List Nat} {nm : Nat} : nmapS s ks nm ks.length = nm := by simp [nmapS]
section
variable {P : Program} {f : Nat} {S : MSpec} {fr : Env} {H : Hp} {nm rm : Nat} {K : KV} {xs : List (X × List (Option Nat))}
/-- Nothing in; a new array out. -/
theorem mq_new {α : Type} {F : α → List FV} {Q : List α → Prop} {T sz : Nat} {ar : List AV} (hv : ValidM P f S) (hl : rm + S.cost ≤ LIM) (ha : nrmArgs fr xs = ar) (hr : ar.map (AV.ren (nmapS S.st [] nm)) = ar) (hpre : S.pre ar [])
    (hpost : ∀ r obs', S.post ar [] r obs' → ∃ l, r = .w (.o (.ow 0)) ∧ obs' = [some (.arr T sz (arA F l))] ∧ Q l)
    (hK : ∀ l, Q l → K (.w (.o (.ow nm))) (hupd nm (some (.arr T sz (arA F l))) H) (rm + S.cost)) : MQ P nm fr H rm K f S xs := by
  refine ⟨⟨hv, hl, [], ar, [], by simp, rfl, fun i k' h => by simp at h, by rw [ha, hr], hpre, fun r obs' hp _ _ => ?_⟩⟩
  obtain ⟨l, rfl, rfl, hq⟩ := hpost r obs' hp
  have e := hK l hq
  show K (.w (.o (.ow (nmapS S.st [] nm 0)))) (hupd (nmapS S.st [] nm 0) (some ((Ob.arr T sz (arA F l)).ren _)) H) _
  rw [arr_ren, show nmapS S.st [] nm 0 = nm from nmap_next (ks := [])]
  exact e
/-- Nothing in; a new array out, or an empty slice. -/
theorem mq_clone {α : Type} {F : α → List FV} {Q Q0 : List α → Prop} {T sz : Nat} {ar : List AV} (hv : ValidM P f S) (hl : rm + S.cost ≤ LIM) (ha : nrmArgs fr xs = ar) (hr : ar.map (AV.ren (nmapS S.st [] nm)) = ar) (hpre : S.pre ar [])
    (hpost : ∀ r obs', S.post ar [] r obs' → (r = .w (.o .e0) ∧ obs' = [] ∧ Q0 []) ∨ ∃ l, r = .w (.o (.ow 0)) ∧ obs' = [some (.arr T sz (arA F l))] ∧ Q l)
    (hK0 : Q0 [] → K (.w (.o .e0)) H (rm + S.cost)) (hK : ∀ l, Q l → K (.w (.o (.ow nm))) (hupd nm (some (.arr T sz (arA F l))) H) (rm + S.cost)) : MQ P nm fr H rm K f S xs := by
  refine ⟨⟨hv, hl, [], ar, [], by simp, rfl, fun i k' h => by simp at h, by rw [ha, hr], hpre, fun r obs' hp _ _ => ?_⟩⟩
  rcases hpost r obs' hp with ⟨rfl, rfl, h0⟩ | ⟨l, rfl, rfl, hq⟩
  · exact hK0 h0
  · have e := hK l hq
    show K (.w (.o (.ow (nmapS S.st [] nm 0)))) (hupd (nmapS S.st [] nm 0) (some ((Ob.arr T sz (arA F l)).ren _)) H) _
    rw [arr_ren, show nmapS S.st [] nm 0 = nm from nmap_next (ks := [])]
    exact e
end
/-! ### the end of such functions -/
section
variable {res : List Rs} {fr : Env} {H : Hp} {nx rm' lim : Nat} {post : AV → List (Option Ob) → Prop}
/-- Nothing came in; a new array goes out. -/
theorem finM_new {α : Type} {F : α → List FV} {l : List α} {T sz k : Nat} (hrm : rm' ≤ lim) (hk : H k = some (.arr T sz (arA F l))) (hres : resM [k] fr H res [.o (.ow k)])
    (hpost : post (.w (.o (.ow 0))) [some (.arr T sz (arA F l))]) : rm' ≤ lim ∧ ∃ (ks : List Nat) (az : List AW) (r : AV) (obs' : List (Option Ob)), resM ks fr H res az ∧ resV az = r.ren (nmap ks nx) ∧ post r obs' ∧
      ks.Nodup ∧ (∀ i, i < 0 → ks[i]? = some i) ∧ obs'.length = ks.length ∧
      ∀ (i k : Nat), ks[i]? = some k → (∃ ob : Ob, obs'[i]? = some (some ob) ∧ H k = some (ob.ren (nmap ks nx))) ∨ (obs'[i]? = some none ∧ H k = none) := by
  refine ⟨hrm, [k], _, _, _, hres, rfl, hpost, by simp, fun i hi => by omega, rfl, fun i k' h => ?_⟩
  left
  match i, h with
  | 0, h => cases h; exact ⟨_, rfl, by rw [arr_ren]; exact hk⟩
  | i + 1, h => simp at h
/-- Nothing came in; nothing goes out. -/
theorem finM_e0 (hrm : rm' ≤ lim) (hres : resM [] fr H res [.o .e0]) (hpost : post (.w (.o .e0)) []) : rm' ≤ lim ∧ ∃ (ks : List Nat) (az : List AW) (r : AV) (obs' : List (Option Ob)), resM ks fr H res az ∧ resV az = r.ren (nmap ks nx) ∧ post r obs' ∧
      ks.Nodup ∧ (∀ i, i < 0 → ks[i]? = some i) ∧ obs'.length = ks.length ∧
      ∀ (i k : Nat), ks[i]? = some k → (∃ ob : Ob, obs'[i]? = some (some ob) ∧ H k = some (ob.ren (nmap ks nx))) ∨ (obs'[i]? = some none ∧ H k = none) :=
  ⟨hrm, [], _, _, _, hres, rfl, hpost, by simp, fun i hi => by omega, rfl, fun i k' h => by simp at h⟩
end
/-! ### contracts of such functions -/
def mkM {α : Type} (enc : α → List AV) (ob : α → List Ob) (p : α → Prop) (R : α → AV → List (Option Ob) → Prop) (cost : Nat)
    (hinh : ∀ a, p a → ∃ r obs', R a r obs' ∧ okV (· < obs'.length) r ∧ ∀ (j : Nat) o, obs'[j]? = some (some o) → okOb (· < obs'.length) o) (hlen : ∀ a r obs', R a r obs' → (ob a).length ≤ obs'.length ∧ obs'.length ≤ (ob a).length + 16) : MSpec where
  pre args obs := ∃ a, args = enc a ∧ obs = ob a ∧ p a
  post args obs r obs' := ∃ a, args = enc a ∧ obs = ob a ∧ R a r obs'
  inh := fun args obs ⟨a, h1, h2, hp⟩ => by
    obtain ⟨r, obs', h3, h4, h5⟩ := hinh a hp
    exact ⟨r, obs', ⟨a, h1, h2, h3⟩, h4, h5⟩
  cost := cost
  st := 0
  hlen := fun args obs r obs' ⟨a, h1, h2, h3⟩ => by rw [h2]; exact hlen a r obs' h3
  nk := false
  hnk := fun h => by cases h
/-- Such a function that is handed data alone. -/
def mkN {α : Type} (enc : α → List AV) (p : α → Prop) (R : α → AV → List (Option Ob) → Prop) (cost : Nat)
    (hinh : ∀ a, p a → ∃ r obs', R a r obs' ∧ okV (· < obs'.length) r ∧ ∀ (j : Nat) o, obs'[j]? = some (some o) → okOb (· < obs'.length) o) (hlen : ∀ a r obs', R a r obs' → obs'.length ≤ 16) : MSpec where
  pre args obs := ∃ a, args = enc a ∧ obs = [] ∧ p a
  post args obs r obs' := ∃ a, args = enc a ∧ obs = [] ∧ R a r obs'
  inh := fun args obs ⟨a, h1, h2, hp⟩ => by
    obtain ⟨r, obs', h3, h4, h5⟩ := hinh a hp
    exact ⟨r, obs', ⟨a, h1, h2, h3⟩, h4, h5⟩
  cost := cost
  st := 0
  hlen := fun args obs r obs' ⟨a, h1, h2, h3⟩ => by rw [h2]; exact ⟨Nat.zero_le _, by have := hlen a r obs' h3; simpa using this⟩
  nk := true
  hnk := fun _ args obs ⟨a, _, h, _⟩ => h
theorem mkN_post {α : Type} {enc : α → List AV} {p : α → Prop} {R : α → AV → List (Option Ob) → Prop} {cost : Nat} {hinh hlen} (hinj : ∀ a b, enc a = enc b → a = b) {a : α} {r : AV} {obs' : List (Option Ob)}
    (h : (mkN enc p R cost hinh hlen).post (enc a) [] r obs') : R a r obs' := by
  obtain ⟨b, h1, _, h3⟩ := h
  rw [hinj _ _ h1]; exact h3
theorem mkM_post {α : Type} {enc : α → List AV} {ob : α → List Ob} {p : α → Prop} {R : α → AV → List (Option Ob) → Prop} {cost : Nat} {hinh hlen} (hinj : ∀ a b, enc a = enc b → ob a = ob b → a = b) {a : α} {r : AV} {obs' : List (Option Ob)}
    (h : (mkM enc ob p R cost hinh hlen).post (enc a) (ob a) r obs') : R a r obs' := by
  obtain ⟨b, h1, h2, h3⟩ := h
  rw [hinj _ _ h1 h2]; exact h3
theorem arA_inj {α : Type} {F : α → List FV} (hF : ∀ a b, F a = F b → a = b) {l m : List α} (h : arA F l = arA F m) : l = m := by
  refine map_inj' (fun a b h => hF a b (map_inj' (fun _ _ h => by simpa using h) h)) h
theorem arA_ok {α : Type} {F : α → List FV} {l : List α} {T sz : Nat} (D : Nat → Prop) : okOb D (.arr T sz (arA F l)) := by
  intro x hx c hc
  obtain ⟨a, _, rfl⟩ := List.mem_map.1 hx
  obtain ⟨y, _, rfl⟩ := List.mem_map.1 hc
  exact trivial
end Av
end Go.Proofs.Ytdboofnogabefaa
