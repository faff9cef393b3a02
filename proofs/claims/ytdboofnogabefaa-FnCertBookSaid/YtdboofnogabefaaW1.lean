/- Calls of functions that hand back objects, in the shapes that occur. -/
import Derived.Test.YtdboofnogabefaaMC
import Derived.Test.YtdboofnogabefaaD0
set_option linter.unusedVariables false
set_option linter.unusedSimpArgs false
namespace Go.Proofs.Ytdboofnogabefaa
namespace Av
open Go.RowKit
/-- Elements that are frozen data, as an array's cells. -/
abbrev arA {α : Type} (F : α → List FV) (l : List α) : List (List AC) := l.map fun x => (F x).map AC.c
theorem arr_ren {α : Type} (ρ : Nat → Nat) (T sz : Nat) (F : α → List FV) (l : List α) : (Ob.arr T sz (arA F l)).ren ρ = .arr T sz (arA F l) := by
  simp only [Ob.ren, arA, List.map_map]
  congr 1
  apply List.map_congr_left
  intro x _
  simp only [Function.comp, List.map_map]
  apply List.map_congr_left
  intro y _
  rfl
theorem arr_snoc {α : Type} {F : α → List FV} {l : List α} {x : α} {T sz : Nat} {ys : List (List AC)} (h : ys = [(F x).map AC.c]) : some (Ob.arr T sz (arA F l ++ ys)) = some (Ob.arr T sz (arA F (l ++ [x]))) := by
  rw [h]; simp [arA]
theorem arr_set {α : Type} {F : α → List FV} {l : List α} {x : α} {i T sz : Nat} {ys : List AC} (h : ys = (F x).map AC.c) : some (Ob.arr T sz ((arA F l).set i ys)) = some (Ob.arr T sz (arA F (l.set i x))) := by
  rw [h]; simp only [arA, List.map_set]
theorem ncast (n : Nat) : (@NatCast.natCast Int instNatCastInt n) = (n : Int) := rfl
theorem nmap_lt {s : Nat} {ks : List Nat} {nm i k : Nat} (h : ks[i]? = some k) : nmapS s ks nm i = k := by
  obtain ⟨hi, rfl⟩ := List.getElem?_eq_some_iff.1 h
  simp [nmapS, hi]
theorem nmap_next {s : Nat} {ks : List Nat} {nm : Nat} : nmapS s ks nm ks.length = nm := by simp [nmapS]
theorem hupd_same_id {H : Hp} {k : Nat} {x : Option Ob} (h : H k = x) : hupd k x H = H := by
  funext j
  unfold hupd
  split
  · rename_i e; rw [e, h]
  · rfl
section
variable {P : Program} {f : Nat} {S : MSpec} {fr : Env} {H : Hp} {nm rm : Nat} {K : KV} {xs : List (X × List (Option Nat))}
/-- A reader in; a new array out. -/
theorem mq_rd {α : Type} {F : α → List FV} {Q : List α → Prop} {k T sz : Nat} {g : FV} (hv : ValidM P f S) (hl : rm + S.cost ≤ LIM) (hk : H k = some (.rd g)) (ha : nrmArgs fr xs = [.w (.o (.ptr k 0))]) (hpre : S.pre [.w (.o (.ptr 0 0))] [.rd g])
    (hpost : ∀ r obs', S.post [.w (.o (.ptr 0 0))] [.rd g] r obs' → ∃ l : List α, r = .w (.o (.ow 1)) ∧ obs' = [some (.rd g), some (.arr T sz (arA F l))] ∧ Q l)
    (hK : ∀ l, Q l → K (.w (.o (.ow nm))) (hupd nm (some (.arr T sz (arA F l))) H) (rm + S.cost)) : MQ P nm fr H rm K f S xs := by
  refine ⟨⟨hv, hl, [k], _, [.rd g], by simp, rfl, fun i k' h => ?_, ?_, hpre, fun r obs' hp _ _ => ?_⟩⟩
  · cases i with
    | zero => simp at h; subst h; exact ⟨_, rfl, hk⟩
    | succ i => simp at h
  · rw [ha]
    show [AV.w (.o (.ptr (nmapS S.st [k] nm 0) 0))] = _
    rw [nmap_lt (ks := [k]) rfl]
  · obtain ⟨l, rfl, rfl, hq⟩ := hpost r obs' hp
    have e := hK l hq
    show K (.w (.o (.ow (nmapS S.st [k] nm 1)))) (hupd (nmapS S.st [k] nm 1) (some ((Ob.arr T sz (arA F l)).ren _)) (hupd (nmapS S.st [k] nm 0) (some (.rd g)) H)) _
    rw [arr_ren, nmap_lt (ks := [k]) (i := 0) rfl, hupd_same_id hk, show nmapS S.st [k] nm 1 = nm from nmap_next (ks := [k])]
    exact e
/-- Nothing in; a new reader out. -/
theorem mq_open {Q : FV → Prop} {ar : List AV} (hv : ValidM P f S) (hl : rm + S.cost ≤ LIM) (ha : nrmArgs fr xs = ar) (hr : ar.map (AV.ren (nmapS S.st [] nm)) = ar) (hpre : S.pre ar [])
    (hpost : ∀ r obs', S.post ar [] r obs' → ∃ g, r = .w (.o (.ptr 0 0)) ∧ obs' = [some (.rd g)] ∧ Q g)
    (hK : ∀ g, Q g → K (.w (.o (.ptr nm 0))) (hupd nm (some (.rd g)) H) (rm + S.cost)) : MQ P nm fr H rm K f S xs := by
  refine ⟨⟨hv, hl, [], ar, [], by simp, rfl, fun i k' h => by simp at h, by rw [ha, hr], hpre, fun r obs' hp _ _ => ?_⟩⟩
  obtain ⟨g, rfl, rfl, hq⟩ := hpost r obs' hp
  have e := hK g hq
  show K (.w (.o (.ptr (nmapS S.st [] nm 0) 0))) (hupd (nmapS S.st [] nm 0) (some (.rd g)) H) _
  rw [show nmapS S.st [] nm 0 = nm from nmap_next (ks := [])]
  exact e
/-- An array and data in; the array, or a longer one, and whether. -/
theorem mq_add {α : Type} {F : α → List FV} {Q0 Q1 : Prop} {k T sz : Nat} {l l' : List α} {fs : List FV} (hv : ValidM P f S) (hl : rm + S.cost ≤ LIM) (hk : H k = some (.arr T sz (arA F l))) (ha : nrmArgs fr xs = [.w (.o (.ow k)), agg fs]) (hpre : S.pre [.w (.o (.ow 0)), agg fs] [.arr T sz (arA F l)])
    (hpost : ∀ r obs', S.post [.w (.o (.ow 0)), agg fs] [.arr T sz (arA F l)] r obs' → (r = .tup [.o (.ow 0), .o (cB false)] ∧ obs' = [some (.arr T sz (arA F l))] ∧ Q0) ∨ (r = .tup [.o (.ow 1), .o (cB true)] ∧ obs' = [none, some (.arr T sz (arA F l'))] ∧ Q1))
    (hK0 : Q0 → K (.tup [.o (.ow k), .o (cB false)]) H (rm + S.cost)) (hK1 : Q1 → K (.tup [.o (.ow nm), .o (cB true)]) (hupd nm (some (.arr T sz (arA F l'))) (hupd k none H)) (rm + S.cost)) : MQ P nm fr H rm K f S xs := by
  refine ⟨⟨hv, hl, [k], _, [.arr T sz (arA F l)], by simp, rfl, fun i k' h => ?_, ?_, hpre, fun r obs' hp _ _ => ?_⟩⟩
  · cases i with
    | zero => simp at h; subst h; exact ⟨_, rfl, by rw [arr_ren]; exact hk⟩
    | succ i => simp at h
  · rw [ha]
    show [AV.w (.o (.ow (nmapS S.st [k] nm 0))), AV.w (.g ((fs.map AC.c).map (AC.ren _)))] = _
    rw [nmap_lt (ks := [k]) rfl]
    have : (fs.map AC.c).map (AC.ren (nmapS S.st [k] nm)) = fs.map AC.c := by
      rw [List.map_map]; apply List.map_congr_left; intro y _; rfl
    rw [this]
  · rcases hpost r obs' hp with ⟨rfl, rfl, hq⟩ | ⟨rfl, rfl, hq⟩
    · have e := hK0 hq
      show K (.tup [.o (.ow (nmapS S.st [k] nm 0)), .o (cB false)]) (hupd (nmapS S.st [k] nm 0) (some ((Ob.arr T sz (arA F l)).ren _)) H) _
      rw [arr_ren, nmap_lt (ks := [k]) (i := 0) rfl, hupd_same_id hk]
      exact e
    · have e := hK1 hq
      show K (.tup [.o (.ow (nmapS S.st [k] nm 1)), .o (cB true)]) (hupd (nmapS S.st [k] nm 1) (some ((Ob.arr T sz (arA F l')).ren _)) (hupd (nmapS S.st [k] nm 0) none H)) _
      rw [arr_ren, nmap_lt (ks := [k]) (i := 0) rfl, show nmapS S.st [k] nm 1 = nm from nmap_next (ks := [k])]
      exact e
end
/-! ### the end of such functions -/
section
variable {res : List Rs} {fr : Env} {H : Hp} {nx rm' lim : Nat} {post : AV → List (Option Ob) → Prop}
/-- A reader came in; a new array goes out. -/
theorem finM_rd {α : Type} {F : α → List FV} {l : List α} {T sz k : Nat} {g : FV} (hrm : rm' ≤ lim) (h0 : H 0 = some (.rd g)) (hk : H k = some (.arr T sz (arA F l))) (hk0 : 1 ≤ k) (hres : resM [0, k] fr H res [.o (.ow k)])
    (hpost : post (.w (.o (.ow 1))) [some (.rd g), some (.arr T sz (arA F l))]) : rm' ≤ lim ∧ ∃ (ks : List Nat) (as : List AW) (r : AV) (obs' : List (Option Ob)), resM ks fr H res as ∧ resV as = r.ren (nmap ks nx) ∧ post r obs' ∧
      ks.Nodup ∧ (∀ i, i < 1 → ks[i]? = some i) ∧ obs'.length = ks.length ∧
      ∀ (i k : Nat), ks[i]? = some k → (∃ ob : Ob, obs'[i]? = some (some ob) ∧ H k = some (ob.ren (nmap ks nx))) ∨ (obs'[i]? = some none ∧ H k = none) := by
  refine ⟨hrm, [0, k], _, _, _, hres, rfl, hpost, by simp; omega, fun i hi => ?_, rfl, fun i k' h => ?_⟩
  · have : i = 0 := by omega
    subst this; rfl
  · left
    match i, h with
    | 0, h => cases h; exact ⟨_, rfl, h0⟩
    | 1, h => cases h; exact ⟨_, rfl, by rw [arr_ren]; exact hk⟩
    | i + 2, h => simp at h
/-- Nothing came in; a new array goes out. -/
theorem finM_new {α : Type} {F : α → List FV} {l : List α} {T sz k : Nat} (hrm : rm' ≤ lim) (hk : H k = some (.arr T sz (arA F l))) (hres : resM [k] fr H res [.o (.ow k)])
    (hpost : post (.w (.o (.ow 0))) [some (.arr T sz (arA F l))]) : rm' ≤ lim ∧ ∃ (ks : List Nat) (as : List AW) (r : AV) (obs' : List (Option Ob)), resM ks fr H res as ∧ resV as = r.ren (nmap ks nx) ∧ post r obs' ∧
      ks.Nodup ∧ (∀ i, i < 0 → ks[i]? = some i) ∧ obs'.length = ks.length ∧
      ∀ (i k : Nat), ks[i]? = some k → (∃ ob : Ob, obs'[i]? = some (some ob) ∧ H k = some (ob.ren (nmap ks nx))) ∨ (obs'[i]? = some none ∧ H k = none) := by
  refine ⟨hrm, [k], _, _, _, hres, rfl, hpost, by simp, fun i hi => by omega, rfl, fun i k' h => ?_⟩
  left
  match i, h with
  | 0, h => cases h; exact ⟨_, rfl, by rw [arr_ren]; exact hk⟩
  | i + 1, h => simp at h
/-- Nothing came in; nothing goes out. -/
theorem finM_e0 (hrm : rm' ≤ lim) (hres : resM [] fr H res [.o .e0]) (hpost : post (.w (.o .e0)) []) : rm' ≤ lim ∧ ∃ (ks : List Nat) (as : List AW) (r : AV) (obs' : List (Option Ob)), resM ks fr H res as ∧ resV as = r.ren (nmap ks nx) ∧ post r obs' ∧
      ks.Nodup ∧ (∀ i, i < 0 → ks[i]? = some i) ∧ obs'.length = ks.length ∧
      ∀ (i k : Nat), ks[i]? = some k → (∃ ob : Ob, obs'[i]? = some (some ob) ∧ H k = some (ob.ren (nmap ks nx))) ∨ (obs'[i]? = some none ∧ H k = none) :=
  ⟨hrm, [], _, _, _, hres, rfl, hpost, by simp, fun i hi => by omega, rfl, fun i k' h => by simp at h⟩
/-- An array came in and goes out as it was. -/
theorem finM_same {α : Type} {F : α → List FV} {l : List α} {T sz : Nat} {b : Bool} (hrm : rm' ≤ lim) (hk : H 0 = some (.arr T sz (arA F l))) (hres : resM [0] fr H res [.o (.ow 0), .o (cB b)])
    (hpost : post (.tup [.o (.ow 0), .o (cB b)]) [some (.arr T sz (arA F l))]) : rm' ≤ lim ∧ ∃ (ks : List Nat) (as : List AW) (r : AV) (obs' : List (Option Ob)), resM ks fr H res as ∧ resV as = r.ren (nmap ks nx) ∧ post r obs' ∧
      ks.Nodup ∧ (∀ i, i < 1 → ks[i]? = some i) ∧ obs'.length = ks.length ∧
      ∀ (i k : Nat), ks[i]? = some k → (∃ ob : Ob, obs'[i]? = some (some ob) ∧ H k = some (ob.ren (nmap ks nx))) ∨ (obs'[i]? = some none ∧ H k = none) := by
  refine ⟨hrm, [0], _, _, _, hres, rfl, hpost, by simp, fun i hi => ?_, rfl, fun i k' h => ?_⟩
  · have : i = 0 := by omega
    subst this; rfl
  · left
    match i, h with
    | 0, h => cases h; exact ⟨_, rfl, by rw [arr_ren]; exact hk⟩
    | i + 1, h => simp at h
/-- An array came in; a longer one goes out. -/
theorem finM_more {α : Type} {F : α → List FV} {l : List α} {T sz k : Nat} {b : Bool} (hrm : rm' ≤ lim) (h0 : H 0 = none) (hk : H k = some (.arr T sz (arA F l))) (hk0 : 1 ≤ k) (hres : resM [0, k] fr H res [.o (.ow k), .o (cB b)])
    (hpost : post (.tup [.o (.ow 1), .o (cB b)]) [none, some (.arr T sz (arA F l))]) : rm' ≤ lim ∧ ∃ (ks : List Nat) (as : List AW) (r : AV) (obs' : List (Option Ob)), resM ks fr H res as ∧ resV as = r.ren (nmap ks nx) ∧ post r obs' ∧
      ks.Nodup ∧ (∀ i, i < 1 → ks[i]? = some i) ∧ obs'.length = ks.length ∧
      ∀ (i k : Nat), ks[i]? = some k → (∃ ob : Ob, obs'[i]? = some (some ob) ∧ H k = some (ob.ren (nmap ks nx))) ∨ (obs'[i]? = some none ∧ H k = none) := by
  refine ⟨hrm, [0, k], _, _, _, hres, rfl, hpost, by simp; omega, fun i hi => ?_, rfl, fun i k' h => ?_⟩
  · have : i = 0 := by omega
    subst this; rfl
  · match i, h with
    | 0, h => cases h; exact .inr ⟨rfl, h0⟩
    | 1, h => cases h; exact .inl ⟨_, rfl, by rw [arr_ren]; exact hk⟩
    | i + 2, h => simp at h
/-- The cells that came in, written. -/
theorem finM_cells {cs : List FV} {n : Int} (hrm : rm' ≤ lim) (hk : H 0 = some (.cells (cs.map AC.c))) (hres : resM [0] fr H res [.o (cI n)])
    (hpost : post (I n) [some (.cells (cs.map AC.c))]) : rm' ≤ lim ∧ ∃ (ks : List Nat) (as : List AW) (r : AV) (obs' : List (Option Ob)), resM ks fr H res as ∧ resV as = r.ren (nmap ks nx) ∧ post r obs' ∧
      ks.Nodup ∧ (∀ i, i < 1 → ks[i]? = some i) ∧ obs'.length = ks.length ∧
      ∀ (i k : Nat), ks[i]? = some k → (∃ ob : Ob, obs'[i]? = some (some ob) ∧ H k = some (ob.ren (nmap ks nx))) ∨ (obs'[i]? = some none ∧ H k = none) := by
  refine ⟨hrm, [0], _, _, _, hres, rfl, hpost, by simp, fun i hi => ?_, rfl, fun i k' h => ?_⟩
  · have : i = 0 := by omega
    subst this; rfl
  · left
    match i, h with
    | 0, h =>
      cases h
      refine ⟨_, rfl, ?_⟩
      rw [hk]
      simp only [Ob.ren, List.map_map]
      congr 2
    | i + 1, h => simp at h
/-- New cells. -/
theorem finM_ptr {cs : List FV} {k : Nat} (hrm : rm' ≤ lim) (hk : H k = some (.cells (cs.map AC.c))) (hres : resM [k] fr H res [.o (.ptr k 0)])
    (hpost : post (.w (.o (.ptr 0 0))) [some (.cells (cs.map AC.c))]) : rm' ≤ lim ∧ ∃ (ks : List Nat) (as : List AW) (r : AV) (obs' : List (Option Ob)), resM ks fr H res as ∧ resV as = r.ren (nmap ks nx) ∧ post r obs' ∧
      ks.Nodup ∧ (∀ i, i < 0 → ks[i]? = some i) ∧ obs'.length = ks.length ∧
      ∀ (i k : Nat), ks[i]? = some k → (∃ ob : Ob, obs'[i]? = some (some ob) ∧ H k = some (ob.ren (nmap ks nx))) ∨ (obs'[i]? = some none ∧ H k = none) := by
  refine ⟨hrm, [k], _, _, _, hres, rfl, hpost, by simp, fun i hi => by omega, rfl, fun i k' h => ?_⟩
  left
  match i, h with
  | 0, h =>
    cases h
    refine ⟨_, rfl, ?_⟩
    rw [hk]
    simp only [Ob.ren, List.map_map]
    congr 2
  | i + 1, h => simp at h
end
/-! ### calls that move a reader on -/
theorem bor_rd {H : Hp} {k : Nat} {g : FV} {sh : List (Option Nat)} (h : H k = some (.rd g)) : borV H sh (.w (.o (.ptr k 0))) = .w (.o (.rp g)) := by
  simp [borV, borW, bor, h]
theorem keep_rd {fr : Env} {H : Hp} {k : Nat} {g : FV} {x : X × List (Option Nat)} {xs : List (X × List (Option Nat))} (h : H k = some (.rd g)) (hx : ev fr x.1 = .w (.o (.ptr k 0))) (hr : xs.all (fun p => keepsV H (ev fr p.1)) = true) : (x :: xs).all (fun p => keepsV H (ev fr p.1)) = true := by
  rw [List.all_cons, hr, hx]
  simp [keepsV, keepsW, keeps, h]
theorem bor_rdA {fr : Env} {H : Hp} {k : Nat} {g : FV} {x : X × List (Option Nat)} {xs : List (X × List (Option Nat))} (h : H k = some (.rd g)) (hx : ev fr x.1 = .w (.o (.ptr k 0))) : borArgs fr H (x :: xs) = .w (.o (.rp g)) :: borArgs fr H xs := by
  show borV H x.2 (ev fr x.1) :: _ = _
  rw [hx, bor_rd h]; rfl
theorem callrd {P : Program} {fr : Env} {H : Hp} {k rm f : Nat} {g : FV} {S : FSpec} {x : X × List (Option Nat)} {xs : List (X × List (Option Nat))} {K : AV → Prop} (h : H k = some (.rd g)) (hx : ev fr x.1 = .w (.o (.ptr k 0)))
    (hr : xs.all (fun p => keepsV H (ev fr p.1)) = true) (hp : S.pre (.w (.o (.rp g)) :: borArgs fr H xs)) (hv : Valid P f S) (hl : rm + S.cost ≤ LIM) (hK : ∀ r, S.post (.w (.o (.rp g)) :: borArgs fr H xs) r → K r) :
    S.pre (borArgs fr H (x :: xs)) ∧ Valid P f S ∧ (((x :: xs).all fun p => keepsV H (ev fr p.1)) = true ∨ (S.sc = true ∧ rdOf (borArgs fr H (x :: xs)) = none)) ∧ rm + S.cost ≤ LIM ∧ ∀ r, S.post (borArgs fr H (x :: xs)) r → K r := by
  rw [bor_rdA h hx]
  exact ⟨hp, hv, .inl (keep_rd h hx hr), hl, hK⟩
/-! ### contracts of such functions -/
def mkM {α : Type} (enc : α → List AV) (ob : α → List Ob) (p : α → Prop) (R : α → AV → List (Option Ob) → Prop) (cost : Nat)
    (hinh : ∀ a, p a → ∃ r obs', R a r obs' ∧ okV (· < obs'.length) r ∧ ∀ (j : Nat) o, obs'[j]? = some (some o) → okOb (· < obs'.length) o) (hlen : ∀ a r obs', R a r obs' → (ob a).length ≤ obs'.length ∧ obs'.length ≤ (ob a).length + 16) : MSpec where
  pre args obs := ∃ a, args = enc a ∧ obs = ob a ∧ p a
  post args obs r obs' := ∃ a, args = enc a ∧ obs = ob a ∧ R a r obs'
  inh := fun args obs ⟨a, h1, h2, hp⟩ => by
    obtain ⟨r, obs', h3, h4, h5⟩ := hinh a hp
    exact ⟨r, obs', ⟨a, h1, h2, h3⟩, h4, h5⟩
  cost := cost
  st := 0
  hlen := fun args obs r obs' ⟨a, h1, h2, h3⟩ => by rw [h2]; exact hlen a r obs' h3
  nk := false
  hnk := fun h => by cases h
/-- Such a function that is handed data alone. -/
def mkN {α : Type} (enc : α → List AV) (p : α → Prop) (R : α → AV → List (Option Ob) → Prop) (cost : Nat)
    (hinh : ∀ a, p a → ∃ r obs', R a r obs' ∧ okV (· < obs'.length) r ∧ ∀ (j : Nat) o, obs'[j]? = some (some o) → okOb (· < obs'.length) o) (hlen : ∀ a r obs', R a r obs' → obs'.length ≤ 16) : MSpec where
  pre args obs := ∃ a, args = enc a ∧ obs = [] ∧ p a
  post args obs r obs' := ∃ a, args = enc a ∧ obs = [] ∧ R a r obs'
  inh := fun args obs ⟨a, h1, h2, hp⟩ => by
    obtain ⟨r, obs', h3, h4, h5⟩ := hinh a hp
    exact ⟨r, obs', ⟨a, h1, h2, h3⟩, h4, h5⟩
  cost := cost
  st := 0
  hlen := fun args obs r obs' ⟨a, h1, h2, h3⟩ => by rw [h2]; exact ⟨Nat.zero_le _, by have := hlen a r obs' h3; simpa using this⟩
  nk := true
  hnk := fun _ args obs ⟨a, _, h, _⟩ => h
theorem mkN_post {α : Type} {enc : α → List AV} {p : α → Prop} {R : α → AV → List (Option Ob) → Prop} {cost : Nat} {hinh hlen} (hinj : ∀ a b, enc a = enc b → a = b) {a : α} {r : AV} {obs' : List (Option Ob)}
    (h : (mkN enc p R cost hinh hlen).post (enc a) [] r obs') : R a r obs' := by
  obtain ⟨b, h1, _, h3⟩ := h
  rw [hinj _ _ h1]; exact h3
theorem mkM_post {α : Type} {enc : α → List AV} {ob : α → List Ob} {p : α → Prop} {R : α → AV → List (Option Ob) → Prop} {cost : Nat} {hinh hlen} (hinj : ∀ a b, enc a = enc b → ob a = ob b → a = b) {a : α} {r : AV} {obs' : List (Option Ob)}
    (h : (mkM enc ob p R cost hinh hlen).post (enc a) (ob a) r obs') : R a r obs' := by
  obtain ⟨b, h1, h2, h3⟩ := h
  rw [hinj _ _ h1 h2]; exact h3
theorem arA_inj {α : Type} {F : α → List FV} (hF : ∀ a b, F a = F b → a = b) {l m : List α} (h : arA F l = arA F m) : l = m := by
  refine map_inj' (fun a b h => hF a b (map_inj' (fun _ _ h => by simpa using h) h)) h
theorem arA_ok {α : Type} {F : α → List FV} {l : List α} {T sz : Nat} (D : Nat → Prop) : okOb D (.arr T sz (arA F l)) := by
  intro x hx c hc
  obtain ⟨a, _, rfl⟩ := List.mem_map.1 hx
  obtain ⟨y, _, rfl⟩ := List.mem_map.1 hc
  exact trivial
end Av
end Go.Proofs.Ytdboofnogabefaa
