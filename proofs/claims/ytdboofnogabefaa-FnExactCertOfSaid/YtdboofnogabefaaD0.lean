/- Plain data of the ledger, how the machine holds them, and how a function's contract is written. No program is named here. -/
import Derived.Test.YtdboofnogabefaaMC
set_option linter.unusedVariables false
set_option linter.unusedSimpArgs false
namespace Go.Proofs.Ytdboofnogabefaa
namespace Av
open Go.RowKit
structure Pa where
  f : Int
  t : Int
  s : Int
deriving DecidableEq
structure It where
  e : Int
  p : Pa
deriving DecidableEq
structure Vo where
  n : Int
  c : List It
deriving DecidableEq
structure Nd where
  id : Int
  ep : Int
  vt : Int
  seen : List Vo
deriving DecidableEq
structure Ce where
  c : List It
  b : List (List Int)
deriving DecidableEq
structure Wo where
  ep : Int
  nodes : List Nd
  log : List Vo
  bad : Int
deriving DecidableEq
structure Ev where
  k : Int
  a : Int
  b : Int
  p : Pa
  v : Vo
deriving DecidableEq
def paF (p : Pa) : List FV := [fI p.f, fI p.t, fI p.s]
def itF (x : It) : List FV := [fI x.e, fI x.p.f, fI x.p.t, fI x.p.s]
def chF (c : List It) : FV := .sl 4 (c.map itF)
def voF (v : Vo) : List FV := [fI v.n, chF v.c]
def vsF (l : List Vo) : FV := .sl 2 (l.map voF)
def csF (l : List (List It)) : FV := .sl 1 (l.map fun c => [chF c])
def nsF (l : List Int) : FV := .sl 1 (l.map fun n => [fI n])
def nssF (l : List (List Int)) : FV := .sl 1 (l.map fun n => [nsF n])
def ndF (n : Nd) : List FV := [fI n.id, fI n.ep, fI n.vt, vsF n.seen]
def ceF (c : Ce) : List FV := [chF c.c, nssF c.b]
def woF (w : Wo) : List FV := [fI w.ep, .sl 4 (w.nodes.map ndF), vsF w.log, fI w.bad]
def evF (e : Ev) : List FV := [fI e.k, fI e.a, fI e.b, fI e.p.f, fI e.p.t, fI e.p.s, fI e.v.n, chF e.v.c]
abbrev one (f : FV) : AV := .w (.o (.c f))
abbrev agg (l : List FV) : AV := .w (.g (l.map AC.c))
theorem map_inj' {α β : Type} {f : α → β} (hf : ∀ a b, f a = f b → a = b) : ∀ {l m : List α}, l.map f = m.map f → l = m
  | [], [], _ => rfl
  | a :: l, b :: m, h => by
    simp only [List.map_cons, List.cons.injEq] at h
    rw [hf _ _ h.1, map_inj' hf h.2]
  | [], _ :: _, h => by simp at h
  | _ :: _, [], h => by simp at h
theorem fI_inj {a b : Int} : fI a = fI b ↔ a = b := by simp
theorem paF_inj {a b : Pa} : paF a = paF b ↔ a = b := by cases a; cases b; simp [paF]
theorem itF_inj {a b : It} : itF a = itF b ↔ a = b := by
  obtain ⟨e, p⟩ := a; obtain ⟨e', p'⟩ := b; cases p; cases p'
  simp [itF]
theorem chF_inj {a b : List It} : chF a = chF b ↔ a = b :=
  ⟨fun h => map_inj' (fun _ _ => itF_inj.1) (FV.sl.inj h).2, fun h => by rw [h]⟩
theorem voF_inj {a b : Vo} : voF a = voF b ↔ a = b := by
  cases a; cases b; simp [voF, chF_inj]
theorem vsF_inj {a b : List Vo} : vsF a = vsF b ↔ a = b :=
  ⟨fun h => map_inj' (fun _ _ => voF_inj.1) (FV.sl.inj h).2, fun h => by rw [h]⟩
theorem csF_inj {a b : List (List It)} : csF a = csF b ↔ a = b :=
  ⟨fun h => map_inj' (fun _ _ h => chF_inj.1 (by simpa using h)) (FV.sl.inj h).2, fun h => by rw [h]⟩
theorem nsF_inj {a b : List Int} : nsF a = nsF b ↔ a = b :=
  ⟨fun h => map_inj' (fun _ _ h => by simpa using h) (FV.sl.inj h).2, fun h => by rw [h]⟩
theorem nssF_inj {a b : List (List Int)} : nssF a = nssF b ↔ a = b :=
  ⟨fun h => map_inj' (fun _ _ h => nsF_inj.1 (by simpa using h)) (FV.sl.inj h).2, fun h => by rw [h]⟩
theorem ndF_inj {a b : Nd} : ndF a = ndF b ↔ a = b := by
  cases a; cases b; simp [ndF, vsF_inj]
theorem ceF_inj {a b : Ce} : ceF a = ceF b ↔ a = b := by
  cases a; cases b; simp [ceF, chF_inj, nssF_inj]
theorem woF_inj {a b : Wo} : woF a = woF b ↔ a = b := by
  obtain ⟨e, n, l, d⟩ := a; obtain ⟨e', n', l', d'⟩ := b
  constructor
  · intro h
    simp only [woF, List.cons.injEq, fI_inj, vsF_inj, FV.sl.injEq, true_and, and_true] at h
    obtain ⟨h1, h2, h3, h4⟩ := h
    rw [h1, map_inj' (fun _ _ => ndF_inj.1) h2, h3, h4]
  · intro h; rw [h]
theorem evF_inj {a b : Ev} : evF a = evF b ↔ a = b := by
  obtain ⟨k, x, y, p, v⟩ := a; obtain ⟨k', x', y', p', v'⟩ := b
  cases p; cases p'; cases v; cases v'
  simp only [evF, List.cons.injEq, fI_inj, chF_inj, and_true, Ev.mk.injEq, Pa.mk.injEq, Vo.mk.injEq, and_assoc]
theorem one_inj {a b : FV} : one a = one b ↔ a = b := by simp
theorem agg_inj {a b : List FV} : agg a = agg b ↔ a = b :=
  ⟨fun h => map_inj' (f := AC.c) (fun _ _ h => by simpa using h) (AW.g.inj (AV.w.inj h)), fun h => by rw [h]⟩
theorem ok_agg (l : List FV) (D : Nat → Prop) : okV D (agg l) := by
  intro c hc
  obtain ⟨f, _, rfl⟩ := List.mem_map.1 hc
  exact trivial
/-- A contract: for these arguments (as data) this result. -/
def mkF {α : Type} (enc : α → List AV) (p : α → Prop) (res : α → AV) (cost : Nat) (sc : Bool)
    (hsc : sc = true → ∀ a, scal (res a)) (hok : ∀ a, okV noN (res a)) (hcl : ∀ a, clArgs (enc a) = true) : FSpec where
  pre args := ∃ a, args = enc a ∧ p a
  post args r := ∃ a, args = enc a ∧ r = res a
  inh := fun args ⟨a, h, _⟩ => ⟨res a, ⟨a, h, rfl⟩, hok a⟩
  cost := cost
  sc := sc
  hsc := fun h args r ⟨a, _, e⟩ => e ▸ hsc h a
  hcl := fun args ⟨a, h, _⟩ => h ▸ hcl a
theorem mkF_post {α : Type} {enc : α → List AV} {p : α → Prop} {res : α → AV} {cost : Nat} {sc : Bool} {hsc hok hcl} (hinj : ∀ a b, enc a = enc b → a = b) {a : α} {r : AV}
    (h : (mkF enc p res cost sc hsc hok hcl).post (enc a) r) : r = res a := by
  obtain ⟨b, h1, h2⟩ := h
  rw [hinj _ _ h1]; exact h2
/-- A contract by a relation. -/
def mkR {α : Type} (enc : α → List AV) (p : α → Prop) (R : α → AV → Prop) (cost : Nat) (sc : Bool)
    (hsc : sc = true → ∀ a r, R a r → scal r) (hinh : ∀ a, p a → ∃ r, R a r ∧ okV noN r) (hcl : ∀ a, clArgs (enc a) = true) : FSpec where
  pre args := ∃ a, args = enc a ∧ p a
  post args r := ∃ a, args = enc a ∧ R a r
  inh := fun args ⟨a, h, hp⟩ => by
    obtain ⟨r, h1, h2⟩ := hinh a hp
    exact ⟨r, ⟨a, h, h1⟩, h2⟩
  cost := cost
  sc := sc
  hsc := fun h args r ⟨a, _, e⟩ => hsc h a r e
  hcl := fun args ⟨a, h, _⟩ => h ▸ hcl a
theorem mkR_post {α : Type} {enc : α → List AV} {p : α → Prop} {R : α → AV → Prop} {cost : Nat} {sc : Bool} {hsc hinh hcl} (hinj : ∀ a b, enc a = enc b → a = b) {a : α} {r : AV}
    (h : (mkR enc p R cost sc hsc hinh hcl).post (enc a) r) : R a r := by
  obtain ⟨b, h1, h2⟩ := h
  rw [hinj _ _ h1]; exact h2
/-- A yes or no. -/
abbrev bF {α : Type} (enc : α → List AV) (p : α → Prop) (res : α → Bool) (hcl : ∀ a, clArgs (enc a) = true) : FSpec :=
  mkF enc p (fun a => B (res a)) 0 true (fun _ _ => trivial) (fun _ => trivial) hcl
/-- A whole number. -/
abbrev iF {α : Type} (enc : α → List AV) (p : α → Prop) (res : α → Int) (hcl : ∀ a, clArgs (enc a) = true) : FSpec :=
  mkF enc p (fun a => I (res a)) 0 true (fun _ _ => trivial) (fun _ => trivial) hcl
/-- Data of one cell. -/
abbrev oF {α : Type} (enc : α → List AV) (p : α → Prop) (res : α → FV) (hcl : ∀ a, clArgs (enc a) = true) : FSpec :=
  mkF enc p (fun a => one (res a)) 0 false (fun h => by cases h) (fun _ => trivial) hcl
/-- A struct. -/
abbrev gF {α : Type} (enc : α → List AV) (p : α → Prop) (res : α → List FV) (hcl : ∀ a, clArgs (enc a) = true) : FSpec :=
  mkF enc p (fun a => agg (res a)) 0 false (fun h => by cases h) (fun _ => ok_agg _ _) hcl
theorem oF_post {α : Type} {enc : α → List AV} {p : α → Prop} {res : α → FV} {hcl} (hinj : ∀ a b, enc a = enc b → a = b) {a : α} {r : AV} (h : (oF enc p res hcl).post (enc a) r) : r = one (res a) := mkF_post hinj h
theorem gF_post {α : Type} {enc : α → List AV} {p : α → Prop} {res : α → List FV} {hcl} (hinj : ∀ a b, enc a = enc b → a = b) {a : α} {r : AV} (h : (gF enc p res hcl).post (enc a) r) : r = agg (res a) := mkF_post hinj h
theorem iF_post {α : Type} {enc : α → List AV} {p : α → Prop} {res : α → Int} {hcl} (hinj : ∀ a b, enc a = enc b → a = b) {a : α} {r : AV} (h : (iF enc p res hcl).post (enc a) r) : r = I (res a) := mkF_post hinj h
noncomputable def tb (p : Prop) : Bool := @decide p (Classical.propDecidable p)
theorem tb_iff {p : Prop} : tb p = true ↔ p := by unfold tb; exact @decide_eq_true_iff p (Classical.propDecidable p)
theorem tb_pos {p : Prop} (h : p) : tb p = true := tb_iff.2 h
theorem tb_neg {p : Prop} (h : ¬ p) : tb p = false := by cases e : tb p with
  | false => rfl
  | true => exact absurd (tb_iff.1 e) h
/-- Yes or no, in words. -/
noncomputable abbrev tF {α : Type} (enc : α → List AV) (p : α → Prop) (res : α → Prop) (hcl : ∀ a, clArgs (enc a) = true) : FSpec :=
  bF enc p (fun a => tb (res a)) hcl
theorem tF_post {α : Type} {enc : α → List AV} {p : α → Prop} {res : α → Prop} {hcl} (hinj : ∀ a b, enc a = enc b → a = b) {a : α} {r : AV} (h : (tF enc p res hcl).post (enc a) r) : (res a ∧ r = B true) ∨ (¬ res a ∧ r = B false) := by
  have this : r = B (tb (res a)) := mkF_post hinj h
  by_cases hr : res a
  · exact .inl ⟨hr, by rw [this, tb_pos hr]⟩
  · exact .inr ⟨hr, by rw [this, tb_neg hr]⟩
theorem at_map {α : Type} {f : α → List FV} {l : List α} {j : Nat} {x : α} (h : l[j]? = some x) : (l.map f)[j]? = some (f x) := by rw [List.getElem?_map, h]; rfl
theorem fr_set {fr : Env} {d : Nat} {v : AV} (h : fr d = v) : fr = updo (some d) v fr := by
  funext t
  show fr t = if t = d then v else fr t
  split
  · rename_i e; rw [e, h]
  · rfl
/-- What is known of some slots. -/
def Has (fr : Env) : List (Nat × AV) → Prop
  | [] => True
  | (d, v) :: r => fr d = v ∧ Has fr r
def setL : List (Nat × AV) → Env → Env
  | [], fr => fr
  | (d, v) :: r, fr => updo (some d) v (setL r fr)
theorem setL_eq {fr : Env} : ∀ {l : List (Nat × AV)}, Has fr l → setL l fr = fr
  | [], _ => rfl
  | (d, v) :: r, h => by
    show updo (some d) v (setL r fr) = fr
    rw [setL_eq h.2]; exact (fr_set h.1).symm
theorem Has.eq {fr : Env} {l : List (Nat × AV)} (h : Has fr l) : fr = setL l fr := (setL_eq h).symm
def ix : AV → Nat
  | .w (.o (.c (.v (.int _ n)))) => n.toNat
  | _ => 0
theorem wrap64 {n : Int} (h : -9223372036854775808 ≤ n) (h' : n < 9223372036854775808) : IntKind.i64.wrap n = n := by
  simp [IntKind.wrap, IntKind.bits, IntKind.signed]; omega
theorem wrap_up {i n : Nat} (h : i < n) (hn : n ≤ LIM) : IntKind.i64.wrap ((i : Int) + 1) = ((i + 1 : Nat) : Int) := by
  rw [wrap64] <;> (simp only [LIM] at hn; omega)
end Av
end Go.Proofs.Ytdboofnogabefaa
