/- Calls of functions that hand back objects, in the shapes that occur. -/
import Derived.Test.YtfijfccgghhkoaaMC
import Derived.Test.YtfijfccgghhkoaaD0
set_option linter.unusedVariables false
set_option linter.unusedSimpArgs false
namespace Go.Proofs.Ytfijfccgghhkoaa
namespace Av
open Go.RowKit
/-- Elements that are frozen data, as an array's cells. -/
abbrev arA {α : Type} (F : α → List FV) (l : List α) : List (List AC) := l.map fun x => (F x).map AC.c
theorem arr_ren {α : Type} (ρ : Nat → Nat) (T sz : Nat) (F : α → List FV) (l : List α) : (Ob.arr T sz (arA F l)).ren ρ = .arr T sz (arA F l) := by
  simp only [Ob.ren, arA, List.map_map]
  congr 1
  apply List.map_congr_left
  intro x _
  simp only [Function.comp, List.map_map]
  apply List.map_congr_left
  intro y _
  rfl
theorem ncast (n : Nat) : (@NatCast.natCast Int instNatCastInt n) = (n : Int) := rfl
theorem nmap_lt {s : Nat} {ks : List Nat} {nm i k : Nat} (h : ks[i]? = some k) : nmapS s ks nm i = k := by
  obtain ⟨hi, rfl⟩ := List.getElem?_eq_some_iff.1 h
  simp [nmapS, hi]
theorem nmap_next {s : Nat} {ks : List Nat} {nm : Nat} : nmapS s ks nm ks.length = nm := by simp [nmapS]
section
variable {P : Program} {f : Nat} {S : MSpec} {fr : Env} {H : Hp} {nm rm : Nat} {K : KV} {xs : List (X × List (Option Nat))}
/-- Nothing in; a new reader out. -/
theorem mq_open {Q : FV → Prop} {ar : List AV} (hv : ValidM P f S) (hl : rm + S.cost ≤ LIM) (ha : nrmArgs fr xs = ar) (hr : ar.map (AV.ren (nmapS S.st [] nm)) = ar) (hpre : S.pre ar [])
    (hpost : ∀ r obs', S.post ar [] r obs' → ∃ g, r = .w (.o (.ptr 0 0)) ∧ obs' = [some (.rd g)] ∧ Q g)
    (hK : ∀ g, Q g → K (.w (.o (.ptr nm 0))) (hupd nm (some (.rd g)) H) (rm + S.cost)) : MQ P nm fr H rm K f S xs := by
  refine ⟨⟨hv, hl, [], ar, [], by simp, rfl, fun i k' h => by simp at h, by rw [ha, hr], hpre, fun r obs' hp _ _ => ?_⟩⟩
  obtain ⟨g, rfl, rfl, hq⟩ := hpost r obs' hp
  have e := hK g hq
  show K (.w (.o (.ptr (nmapS S.st [] nm 0) 0))) (hupd (nmapS S.st [] nm 0) (some (.rd g)) H) _
  rw [show nmapS S.st [] nm 0 = nm from nmap_next (ks := [])]
  exact e
end
/-! ### the end of such functions -/
section
variable {res : List Rs} {fr : Env} {H : Hp} {nx rm' lim : Nat} {post : AV → List (Option Ob) → Prop}
/-- The cells that came in, written. -/
theorem finM_cells {cs : List FV} {n : Int} (hrm : rm' ≤ lim) (hk : H 0 = some (.cells (cs.map AC.c))) (hres : resM [0] fr H res [.o (cI n)])
    (hpost : post (I n) [some (.cells (cs.map AC.c))]) : rm' ≤ lim ∧ ∃ (ks : List Nat) (as : List AW) (r : AV) (obs' : List (Option Ob)), resM ks fr H res as ∧ resV as = r.ren (nmap ks nx) ∧ post r obs' ∧
      ks.Nodup ∧ (∀ i, i < 1 → ks[i]? = some i) ∧ obs'.length = ks.length ∧
      ∀ (i k : Nat), ks[i]? = some k → (∃ ob : Ob, obs'[i]? = some (some ob) ∧ H k = some (ob.ren (nmap ks nx))) ∨ (obs'[i]? = some none ∧ H k = none) := by
  refine ⟨hrm, [0], _, _, _, hres, rfl, hpost, by simp, fun i hi => ?_, rfl, fun i k' h => ?_⟩
  · have : i = 0 := by omega
    subst this; rfl
  · left
    match i, h with
    | 0, h =>
      cases h
      refine ⟨_, rfl, ?_⟩
      rw [hk]
      simp only [Ob.ren, List.map_map]
      congr 2
    | i + 1, h => simp at h
/-- New cells. -/
theorem finM_ptr {cs : List FV} {k : Nat} (hrm : rm' ≤ lim) (hk : H k = some (.cells (cs.map AC.c))) (hres : resM [k] fr H res [.o (.ptr k 0)])
    (hpost : post (.w (.o (.ptr 0 0))) [some (.cells (cs.map AC.c))]) : rm' ≤ lim ∧ ∃ (ks : List Nat) (as : List AW) (r : AV) (obs' : List (Option Ob)), resM ks fr H res as ∧ resV as = r.ren (nmap ks nx) ∧ post r obs' ∧
      ks.Nodup ∧ (∀ i, i < 0 → ks[i]? = some i) ∧ obs'.length = ks.length ∧
      ∀ (i k : Nat), ks[i]? = some k → (∃ ob : Ob, obs'[i]? = some (some ob) ∧ H k = some (ob.ren (nmap ks nx))) ∨ (obs'[i]? = some none ∧ H k = none) := by
  refine ⟨hrm, [k], _, _, _, hres, rfl, hpost, by simp, fun i hi => by omega, rfl, fun i k' h => ?_⟩
  left
  match i, h with
  | 0, h =>
    cases h
    refine ⟨_, rfl, ?_⟩
    rw [hk]
    simp only [Ob.ren, List.map_map]
    congr 2
  | i + 1, h => simp at h
end
/-! ### calls that move a reader on -/
theorem bor_rd {H : Hp} {k : Nat} {g : FV} {sh : List (Option Nat)} (h : H k = some (.rd g)) : borV H sh (.w (.o (.ptr k 0))) = .w (.o (.rp g)) := by
  simp [borV, borW, bor, h]
theorem keep_rd {fr : Env} {H : Hp} {k : Nat} {g : FV} {x : X × List (Option Nat)} {xs : List (X × List (Option Nat))} (h : H k = some (.rd g)) (hx : ev fr x.1 = .w (.o (.ptr k 0))) (hr : xs.all (fun p => keepsV H (ev fr p.1)) = true) : (x :: xs).all (fun p => keepsV H (ev fr p.1)) = true := by
  rw [List.all_cons, hr, hx]
  simp [keepsV, keepsW, keeps, h]
theorem bor_rdA {fr : Env} {H : Hp} {k : Nat} {g : FV} {x : X × List (Option Nat)} {xs : List (X × List (Option Nat))} (h : H k = some (.rd g)) (hx : ev fr x.1 = .w (.o (.ptr k 0))) : borArgs fr H (x :: xs) = .w (.o (.rp g)) :: borArgs fr H xs := by
  show borV H x.2 (ev fr x.1) :: _ = _
  rw [hx, bor_rd h]; rfl
theorem callrd {P : Program} {fr : Env} {H : Hp} {k rm f : Nat} {g : FV} {S : FSpec} {x : X × List (Option Nat)} {xs : List (X × List (Option Nat))} {K : AV → Prop} (h : H k = some (.rd g)) (hx : ev fr x.1 = .w (.o (.ptr k 0)))
    (hr : xs.all (fun p => keepsV H (ev fr p.1)) = true) (hp : S.pre (.w (.o (.rp g)) :: borArgs fr H xs)) (hv : Valid P f S) (hl : rm + S.cost ≤ LIM) (hK : ∀ r, S.post (.w (.o (.rp g)) :: borArgs fr H xs) r → K r) :
    S.pre (borArgs fr H (x :: xs)) ∧ Valid P f S ∧ (((x :: xs).all fun p => keepsV H (ev fr p.1)) = true ∨ (S.sc = true ∧ rdOf (borArgs fr H (x :: xs)) = none)) ∧ rm + S.cost ≤ LIM ∧ ∀ r, S.post (borArgs fr H (x :: xs)) r → K r := by
  rw [bor_rdA h hx]
  exact ⟨hp, hv, .inl (keep_rd h hx hr), hl, hK⟩
/-! ### contracts of such functions -/
def mkM {α : Type} (enc : α → List AV) (ob : α → List Ob) (p : α → Prop) (R : α → AV → List (Option Ob) → Prop) (cost : Nat)
    (hinh : ∀ a, p a → ∃ r obs', R a r obs' ∧ okV (· < obs'.length) r ∧ ∀ (j : Nat) o, obs'[j]? = some (some o) → okOb (· < obs'.length) o) (hlen : ∀ a r obs', R a r obs' → (ob a).length ≤ obs'.length ∧ obs'.length ≤ (ob a).length + 16) : MSpec where
  pre args obs := ∃ a, args = enc a ∧ obs = ob a ∧ p a
  post args obs r obs' := ∃ a, args = enc a ∧ obs = ob a ∧ R a r obs'
  inh := fun args obs ⟨a, h1, h2, hp⟩ => by
    obtain ⟨r, obs', h3, h4, h5⟩ := hinh a hp
    exact ⟨r, obs', ⟨a, h1, h2, h3⟩, h4, h5⟩
  cost := cost
  st := 0
  hlen := fun args obs r obs' ⟨a, h1, h2, h3⟩ => by rw [h2]; exact hlen a r obs' h3
  nk := false
  hnk := fun h => by cases h
/-- Such a function that is handed data alone. -/
def mkN {α : Type} (enc : α → List AV) (p : α → Prop) (R : α → AV → List (Option Ob) → Prop) (cost : Nat)
    (hinh : ∀ a, p a → ∃ r obs', R a r obs' ∧ okV (· < obs'.length) r ∧ ∀ (j : Nat) o, obs'[j]? = some (some o) → okOb (· < obs'.length) o) (hlen : ∀ a r obs', R a r obs' → obs'.length ≤ 16) : MSpec where
  pre args obs := ∃ a, args = enc a ∧ obs = [] ∧ p a
  post args obs r obs' := ∃ a, args = enc a ∧ obs = [] ∧ R a r obs'
  inh := fun args obs ⟨a, h1, h2, hp⟩ => by
    obtain ⟨r, obs', h3, h4, h5⟩ := hinh a hp
    exact ⟨r, obs', ⟨a, h1, h2, h3⟩, h4, h5⟩
  cost := cost
  st := 0
  hlen := fun args obs r obs' ⟨a, h1, h2, h3⟩ => by rw [h2]; exact ⟨Nat.zero_le _, by have := hlen a r obs' h3; simpa using this⟩
  nk := true
  hnk := fun _ args obs ⟨a, _, h, _⟩ => h
theorem mkN_post {α : Type} {enc : α → List AV} {p : α → Prop} {R : α → AV → List (Option Ob) → Prop} {cost : Nat} {hinh hlen} (hinj : ∀ a b, enc a = enc b → a = b) {a : α} {r : AV} {obs' : List (Option Ob)}
    (h : (mkN enc p R cost hinh hlen).post (enc a) [] r obs') : R a r obs' := by
  obtain ⟨b, h1, _, h3⟩ := h
  rw [hinj _ _ h1]; exact h3
theorem mkM_post {α : Type} {enc : α → List AV} {ob : α → List Ob} {p : α → Prop} {R : α → AV → List (Option Ob) → Prop} {cost : Nat} {hinh hlen} (hinj : ∀ a b, enc a = enc b → ob a = ob b → a = b) {a : α} {r : AV} {obs' : List (Option Ob)}
    (h : (mkM enc ob p R cost hinh hlen).post (enc a) (ob a) r obs') : R a r obs' := by
  obtain ⟨b, h1, h2, h3⟩ := h
  rw [hinj _ _ h1 h2]; exact h3
theorem arA_ok {α : Type} {F : α → List FV} {l : List α} {T sz : Nat} (D : Nat → Prop) : okOb D (.arr T sz (arA F l)) := by
  intro x hx c hc
  obtain ⟨a, _, rfl⟩ := List.mem_map.1 hx
  obtain ⟨y, _, rfl⟩ := List.mem_map.1 hc
  exact trivial
end Av
end Go.Proofs.Ytfijfccgghhkoaa
