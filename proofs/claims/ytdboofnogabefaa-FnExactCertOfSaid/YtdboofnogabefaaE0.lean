/- The contracts of the program's functions on chains and votes: what each hands back, in plain words of data. -/
import Derived.Test.YtdboofnogabefaaD0
import Derived.Test.YtdboofnogabefaaN0
set_option linter.unusedVariables false
set_option linter.unusedSimpArgs false
namespace Go.Proofs.Ytdboofnogabefaa
namespace Av
open Go.RowKit
def In (n lo hi : Int) : Prop := lo ≤ n ∧ n ≤ hi
def EpochOk (n : Int) : Prop := In n 1 30
def PayOk (p : Pa) : Prop := In p.f 1 3 ∧ In p.t 1 3 ∧ p.f ≠ p.t ∧ In p.s 1 9
def ItemOk (c : List It) (i : Nat) (x : It) : Prop := EpochOk x.e ∧ PayOk x.p ∧ ∀ j y, i = j + 1 → c[j]? = some y → y.e < x.e
def ChainOk (c : List It) : Prop := (∀ i x, c[i]? = some x → ItemOk c i x) ∧ c.length ≤ 16
def VoteOk (v : Vo) : Prop := In v.n 1 4 ∧ v.c ≠ [] ∧ ChainOk v.c
def VotesOk (l : List Vo) : Prop := ∀ i v, l[i]? = some v → VoteOk v ∧ v ∉ l.take i
noncomputable def S_impl_within : FSpec := tF (α := Int × Int × Int) (fun a => [I a.1, I a.2.1, I a.2.2]) (fun _ => True) (fun a => In a.1 a.2.1 a.2.2) (fun _ => rfl)
noncomputable def S_impl_epochOk : FSpec := tF (α := Int) (fun a => [I a]) (fun _ => True) (fun a => EpochOk a) (fun _ => rfl)
noncomputable def S_impl_nodeOk : FSpec := tF (α := Int) (fun a => [I a]) (fun _ => True) (fun a => In a 1 4) (fun _ => rfl)
noncomputable def S_impl_PayOk : FSpec := tF (α := Pa) (fun a => [agg (paF a)]) (fun _ => True) (fun a => PayOk a) (fun _ => rfl)
noncomputable def S_impl_ChainOk : FSpec := tF (α := List It) (fun c => [one (chF c)]) (fun c => c.length ≤ LIM) (fun c => ChainOk c) (fun _ => rfl)
noncomputable def S_slices_Equal_ItemS : FSpec := tF (α := List It × List It) (fun a => [one (chF a.1), one (chF a.2)]) (fun a => a.1.length ≤ LIM ∧ a.2.length ≤ LIM) (fun a => a.1 = a.2) (fun _ => rfl)
noncomputable def S_impl_Vote_same : FSpec := tF (α := Vo × Vo) (fun a => [agg (voF a.1), agg (voF a.2)]) (fun a => a.1.c.length ≤ LIM ∧ a.2.c.length ≤ LIM) (fun a => a.1 = a.2) (fun _ => rfl)
theorem J_In {n lo hi : Int} {r : AV} (h : S_impl_within.post [I n, I lo, I hi] r) : (In n lo hi ∧ r = B true) ∨ (¬ In n lo hi ∧ r = B false) :=
  tF_post (hcl := fun _ => rfl) (a := (n, lo, hi)) (by rintro ⟨a, b, c⟩ ⟨a', b', c'⟩ h; simpa using h) h
theorem J_epochOk {n : Int} {r : AV} (h : S_impl_epochOk.post [I n] r) : (EpochOk n ∧ r = B true) ∨ (¬ EpochOk n ∧ r = B false) :=
  tF_post (hcl := fun _ => rfl) (a := n) (by intro a b h; simpa using h) h
theorem J_nodeOk {n : Int} {r : AV} (h : S_impl_nodeOk.post [I n] r) : (In n 1 4 ∧ r = B true) ∨ (¬ In n 1 4 ∧ r = B false) :=
  tF_post (hcl := fun _ => rfl) (a := n) (by intro a b h; simpa using h) h
theorem J_PayOk {p : Pa} {r : AV} (h : S_impl_PayOk.post [agg (paF p)] r) : (PayOk p ∧ r = B true) ∨ (¬ PayOk p ∧ r = B false) :=
  tF_post (hcl := fun _ => rfl) (a := p) (by intro a b h; exact paF_inj.1 (agg_inj.1 (List.cons.inj h).1)) h
theorem J_ChainOk {c : List It} {r : AV} (h : S_impl_ChainOk.post [one (chF c)] r) : (ChainOk c ∧ r = B true) ∨ (¬ ChainOk c ∧ r = B false) :=
  tF_post (hcl := fun _ => rfl) (a := c) (by intro a b h; exact chF_inj.1 (one_inj.1 (List.cons.inj h).1)) h
theorem J_Equal {c d : List It} {r : AV} (h : S_slices_Equal_ItemS.post [one (chF c), one (chF d)] r) : (c = d ∧ r = B true) ∨ (¬ c = d ∧ r = B false) :=
  tF_post (hcl := fun _ => rfl) (a := (c, d)) (by rintro ⟨a, b⟩ ⟨a', b'⟩ h; simp only [List.cons.injEq, one_inj, chF_inj, and_true] at h; rw [h.1, h.2]) h
theorem J_same {v u : Vo} {r : AV} (h : S_impl_Vote_same.post [agg (voF v), agg (voF u)] r) : (v = u ∧ r = B true) ∨ (¬ v = u ∧ r = B false) :=
  tF_post (hcl := fun _ => rfl) (a := (v, u)) (by rintro ⟨a, b⟩ ⟨a', b'⟩ h; simp only [List.cons.injEq, agg_inj, voF_inj, and_true] at h; rw [h.1, h.2]) h
theorem J_neq {x y : It} {r : AV} (h : r = B (!([x.e, x.p.f, x.p.t, x.p.s] == [y.e, y.p.f, y.p.t, y.p.s]))) : (x = y ∧ r = B false) ∨ (x ≠ y ∧ r = B true) := by
  by_cases e : x = y
  · subst e; exact .inl ⟨rfl, by simpa using h⟩
  · refine .inr ⟨e, ?_⟩
    have : ([x.e, x.p.f, x.p.t, x.p.s] == [y.e, y.p.f, y.p.t, y.p.s]) = false := by
      rw [beq_eq_false_iff_ne]
      intro q
      obtain ⟨a, b, c, d⟩ := x; obtain ⟨a', b', c', d'⟩ := y
      simp_all
    rw [h, this]; rfl
/-- Chains and lists that fit into a machine. -/
def FitV (v : Vo) : Prop := v.c.length ≤ LIM
def FitVs (l : List Vo) : Prop := l.length ≤ LIM ∧ ∀ v, v ∈ l → FitV v
/-- 'v.same', bound to v. -/
abbrev fnSame (v : Vo) : AV := .fn (.func n_impl_Vote_same) [.g [cI v.n, .c (chF v.c)]] []
theorem fnSame_inj {v u : Vo} (h : fnSame v = fnSame u) : v = u := by
  have : v.n = u.n ∧ chF v.c = chF u.c := by simpa [fnSame] using h
  obtain ⟨a, b⟩ := v; obtain ⟨a', b'⟩ := u
  simp only [chF_inj] at this
  simp [this.1, this.2]
noncomputable def S_slices_IndexFunc_votes : FSpec := mkR (α := List Vo × Vo) (fun a => [one (vsF a.1), fnSame a.2]) (fun a => FitVs a.1 ∧ FitV a.2) (fun a r => ∃ k : Int, r = I k ∧ (0 ≤ k ↔ a.2 ∈ a.1)) 0 true
  (fun _ a r ⟨k, h, _⟩ => by rw [h]; trivial) (fun a _ => by
    by_cases h : a.2 ∈ a.1
    · exact ⟨I 0, ⟨0, rfl, by simp [h]⟩, trivial⟩
    · exact ⟨I (-1), ⟨-1, rfl, by simp [h]⟩, trivial⟩) (fun _ => rfl)
noncomputable def S_slices_ContainsFunc_votes : FSpec := tF (α := List Vo × Vo) (fun a => [one (vsF a.1), fnSame a.2]) (fun a => FitVs a.1 ∧ FitV a.2) (fun a => a.2 ∈ a.1) (fun _ => rfl)
noncomputable def S_impl_votes_has : FSpec := tF (α := List Vo × Vo) (fun a => [one (vsF a.1), agg (voF a.2)]) (fun a => FitVs a.1 ∧ FitV a.2) (fun a => a.2 ∈ a.1) (fun _ => rfl)
theorem encSame_inj (a b : List Vo × Vo) (h : [one (vsF a.1), fnSame a.2] = [one (vsF b.1), fnSame b.2]) : a = b := by
  obtain ⟨a, v⟩ := a; obtain ⟨b, u⟩ := b
  have h1 := (List.cons.inj h).1
  have h2 := (List.cons.inj (List.cons.inj h).2).1
  have := vsF_inj.1 (one_inj.1 h1)
  have := fnSame_inj h2
  simp_all
theorem J_IndexFunc {l : List Vo} {v : Vo} {r : AV} (h : S_slices_IndexFunc_votes.post [one (vsF l), fnSame v] r) : ∃ k : Int, r = I k ∧ (0 ≤ k ↔ v ∈ l) :=
  mkR_post (a := (l, v)) encSame_inj h
theorem J_ContainsFunc {l : List Vo} {v : Vo} {r : AV} (h : S_slices_ContainsFunc_votes.post [one (vsF l), fnSame v] r) : (v ∈ l ∧ r = B true) ∨ (¬ v ∈ l ∧ r = B false) :=
  tF_post (hcl := fun _ => rfl) (a := (l, v)) encSame_inj h
theorem J_has {l : List Vo} {v : Vo} {r : AV} (h : S_impl_votes_has.post [one (vsF l), agg (voF v)] r) : (v ∈ l ∧ r = B true) ∨ (¬ v ∈ l ∧ r = B false) :=
  tF_post (hcl := fun _ => rfl) (a := (l, v)) (by rintro ⟨a, b⟩ ⟨a', b'⟩ h; simp only [List.cons.injEq, one_inj, agg_inj, vsF_inj, voF_inj, and_true] at h; rw [h.1, h.2]) h
noncomputable def S_impl_VoteOk : FSpec := tF (α := Vo) (fun a => [agg (voF a)]) FitV VoteOk (fun _ => rfl)
noncomputable def S_impl_VotesOk : FSpec := tF (α := List Vo) (fun a => [one (vsF a)]) FitVs VotesOk (fun _ => rfl)
theorem J_VoteOk {v : Vo} {r : AV} (h : S_impl_VoteOk.post [agg (voF v)] r) : (VoteOk v ∧ r = B true) ∨ (¬ VoteOk v ∧ r = B false) :=
  tF_post (hcl := fun _ => rfl) (a := v) (by intro a b h; exact voF_inj.1 (agg_inj.1 (List.cons.inj h).1)) h
theorem FitVs.take {l : List Vo} (h : FitVs l) (i : Nat) : FitVs (l.take i) :=
  ⟨by have := h.1; simp only [List.length_take]; omega, fun v hv => h.2 v (List.mem_of_mem_take hv)⟩
/-- Who voted for a chain. -/
noncomputable def voters (l : List Vo) (c : List It) : List Int := [1, 2, 3, 4].filter fun n => tb ((⟨n, c⟩ : Vo) ∈ l)
def SureAt (l : List Vo) (c : List It) (n : Nat) : Prop := 3 ≤ (voters l (c.take n)).length
def Sure (l : List Vo) (c : List It) : Prop := ∀ n, 1 ≤ n → n ≤ c.length → SureAt l c n
noncomputable def S_impl_votes_voters : FSpec := oF (α := List Vo × List It) (fun a => [one (vsF a.1), one (chF a.2)]) (fun a => FitVs a.1 ∧ a.2.length ≤ LIM) (fun a => nsF (voters a.1 a.2)) (fun _ => rfl)
noncomputable def S_impl_votes_sure : FSpec := tF (α := List Vo × List It) (fun a => [one (vsF a.1), one (chF a.2)]) (fun a => FitVs a.1 ∧ a.2.length ≤ LIM) (fun a => Sure a.1 a.2) (fun _ => rfl)
theorem encVC_inj (a b : List Vo × List It) (h : [one (vsF a.1), one (chF a.2)] = [one (vsF b.1), one (chF b.2)]) : a = b := by
  obtain ⟨a, v⟩ := a; obtain ⟨b, u⟩ := b
  simp only [List.cons.injEq, one_inj, vsF_inj, chF_inj, and_true] at h
  rw [h.1, h.2]
theorem J_voters {l : List Vo} {c : List It} {r : AV} (h : S_impl_votes_voters.post [one (vsF l), one (chF c)] r) : r = one (nsF (voters l c)) :=
  oF_post (hcl := fun _ => rfl) (a := (l, c)) encVC_inj h
theorem J_sure {l : List Vo} {c : List It} {r : AV} (h : S_impl_votes_sure.post [one (vsF l), one (chF c)] r) : (Sure l c ∧ r = B true) ∨ (¬ Sure l c ∧ r = B false) :=
  tF_post (hcl := fun _ => rfl) (a := (l, c)) encVC_inj h
noncomputable abbrev sameC : FSpec := oF (α := List It) (fun c => [one (chF c)]) (fun c => c.length ≤ LIM) (fun c => chF c) (fun _ => rfl)
noncomputable def S_slices_Clip_ItemS : FSpec := sameC
noncomputable def S_slices_Clone_ItemS : FSpec := sameC
noncomputable def S_impl_copied : FSpec := sameC
theorem J_sameC {c : List It} {r : AV} (h : sameC.post [one (chF c)] r) : r = one (chF c) :=
  oF_post (hcl := fun _ => rfl) (a := c) (by intro a b h; exact chF_inj.1 (one_inj.1 (List.cons.inj h).1)) h
def FitCs (l : List (List It)) : Prop := l.length ≤ LIM ∧ ∀ c, c ∈ l → c.length ≤ LIM
/-- 'c is v's chain', bound to v's place. -/
abbrev fnAll (v : Vo) : AV := .fn (.func n_impl_votes_all_1) [] [.o (.ep (voF v))]
noncomputable def S_impl_votes_all_1 : FSpec := tF (α := List It × Vo) (fun a => [one (chF a.1), .w (.o (.ep (voF a.2)))]) (fun a => a.1.length ≤ LIM ∧ FitV a.2) (fun a => a.1 = a.2.c) (fun _ => rfl)
theorem encAll1_inj (a b : List It × Vo) (h : [one (chF a.1), AV.w (.o (.ep (voF a.2)))] = [one (chF b.1), AV.w (.o (.ep (voF b.2)))]) : a = b := by
  obtain ⟨a, v⟩ := a; obtain ⟨b, u⟩ := b
  have h1 : a = b := chF_inj.1 (one_inj.1 (List.cons.inj h).1)
  have h2 : voF v = voF u := AC.ep.inj (AW.o.inj (AV.w.inj (List.cons.inj (List.cons.inj h).2).1))
  rw [h1, voF_inj.1 h2]
theorem J_all_1 {c : List It} {v : Vo} {r : AV} (h : S_impl_votes_all_1.post [one (chF c), .w (.o (.ep (voF v)))] r) : (c = v.c ∧ r = B true) ∨ (¬ c = v.c ∧ r = B false) :=
  tF_post (hcl := fun _ => rfl) (a := (c, v)) encAll1_inj h
theorem encAll_inj (a b : List (List It) × Vo) (h : [one (csF a.1), fnAll a.2] = [one (csF b.1), fnAll b.2]) : a = b := by
  obtain ⟨a, v⟩ := a; obtain ⟨b, u⟩ := b
  have h1 : a = b := csF_inj.1 (one_inj.1 (List.cons.inj h).1)
  have h2 : [AW.o (.ep (voF v))] = [AW.o (.ep (voF u))] := (AV.fn.inj (List.cons.inj (List.cons.inj h).2).1).2.2
  have h3 : voF v = voF u := AC.ep.inj (AW.o.inj (List.cons.inj h2).1)
  rw [h1, voF_inj.1 h3]
noncomputable def S_slices_IndexFunc_ISS : FSpec := mkR (α := List (List It) × Vo) (fun a => [one (csF a.1), fnAll a.2]) (fun a => FitCs a.1 ∧ FitV a.2) (fun a r => ∃ k : Int, r = I k ∧ (0 ≤ k ↔ a.2.c ∈ a.1)) 0 true
  (fun _ a r ⟨k, h, _⟩ => by rw [h]; trivial) (fun a _ => by
    by_cases h : a.2.c ∈ a.1
    · exact ⟨I 0, ⟨0, rfl, by simp [h]⟩, trivial⟩
    · exact ⟨I (-1), ⟨-1, rfl, by simp [h]⟩, trivial⟩) (fun _ => rfl)
noncomputable def S_slices_ContainsFunc_ISS : FSpec := tF (α := List (List It) × Vo) (fun a => [one (csF a.1), fnAll a.2]) (fun a => FitCs a.1 ∧ FitV a.2) (fun a => a.2.c ∈ a.1) (fun _ => rfl)
theorem J_IndexFunc_ISS {l : List (List It)} {v : Vo} {r : AV} (h : S_slices_IndexFunc_ISS.post [one (csF l), fnAll v] r) : ∃ k : Int, r = I k ∧ (0 ≤ k ↔ v.c ∈ l) :=
  mkR_post (a := (l, v)) encAll_inj h
theorem J_ContainsFunc_ISS {l : List (List It)} {v : Vo} {r : AV} (h : S_slices_ContainsFunc_ISS.post [one (csF l), fnAll v] r) : (v.c ∈ l ∧ r = B true) ∨ (¬ v.c ∈ l ∧ r = B false) :=
  tF_post (hcl := fun _ => rfl) (a := (l, v)) encAll_inj h
/-- The chains that are sure, as they were voted for first. -/
noncomputable def allFrom (l : List Vo) : List Vo → List (List It) → List (List It)
  | [], out => out
  | v :: r, out => allFrom l r (if tb (v.c ∉ out ∧ Sure l v.c) = true then out ++ [v.c] else out)
noncomputable def allS (l : List Vo) : List (List It) := allFrom l l [[]]
noncomputable def S_slices_Clip_ISS : FSpec := oF (α := List (List It)) (fun c => [one (csF c)]) (fun c => c.length ≤ LIM) (fun c => csF c) (fun _ => rfl)
theorem J_Clip_ISS {c : List (List It)} {r : AV} (h : S_slices_Clip_ISS.post [one (csF c)] r) : r = one (csF c) :=
  oF_post (hcl := fun _ => rfl) (a := c) (by intro a b h; exact csF_inj.1 (one_inj.1 (List.cons.inj h).1)) h
noncomputable def S_impl_votes_all : FSpec := oF (α := List Vo) (fun l => [one (vsF l)]) (fun l => FitVs l ∧ l.length < LIM) (fun l => csF (allS l)) (fun _ => rfl)
theorem callq {S : FSpec} {a b : List AV} {V L : Prop} {kp : Bool} {K : AV → Prop} (e : a = b) (hp : S.pre b) (hv : V) (hk : kp = true ∨ (S.sc = true ∧ rdOf b = none)) (hl : L) (hK : ∀ r, S.post b r → K r) :
    S.pre a ∧ V ∧ (kp = true ∨ (S.sc = true ∧ rdOf a = none)) ∧ L ∧ ∀ r, S.post a r → K r := by subst e; exact ⟨hp, hv, hk, hl, hK⟩
theorem callk {S : FSpec} {a b : List AV} {V L : Prop} {kp : Bool} {K : AV → Prop} (hv : V) (e : a = b) (hp : S.pre b) (hk : kp = true ∨ (S.sc = true ∧ rdOf b = none)) (hl : L) (hK : ∀ r, S.post b r → K r) :
    S.pre a ∧ V ∧ (kp = true ∨ (S.sc = true ∧ rdOf a = none)) ∧ L ∧ ∀ r, S.post a r → K r := callq e hp hv hk hl hK
theorem callt {S : FSpec} {a b : List AV} {V L : Prop} {kp : Bool} {K : AV → Prop} {P : Prop} (hv : V) (e : a = b) (hp : S.pre b) (hk : kp = true ∨ (S.sc = true ∧ rdOf b = none)) (hl : L) (hT : ∀ r, S.post b r → (P ∧ r = B true) ∨ (¬ P ∧ r = B false)) (h1 : P → K (B true)) (h2 : ¬ P → K (B false)) :
    S.pre a ∧ V ∧ (kp = true ∨ (S.sc = true ∧ rdOf a = none)) ∧ L ∧ ∀ r, S.post a r → K r := callq e hp hv hk hl fun r hr => by
  rcases hT r hr with ⟨h, rfl⟩ | ⟨h, rfl⟩
  · exact h1 h
  · exact h2 h
theorem calle {S : FSpec} {a b : List AV} {V L : Prop} {kp : Bool} {K : AV → Prop} {v : AV} (hv : V) (e : a = b) (hp : S.pre b) (hk : kp = true ∨ (S.sc = true ∧ rdOf b = none)) (hl : L) (hT : ∀ r, S.post b r → r = v) (h : K v) :
    S.pre a ∧ V ∧ (kp = true ∨ (S.sc = true ∧ rdOf a = none)) ∧ L ∧ ∀ r, S.post a r → K r := callq e hp hv hk hl fun r hr => by
  rw [hT r hr]; exact h
theorem zk {H : Hp} {k j : Nat} {x y : Option Ob} (h : H k = x) (hk : k ≠ j) : hupd j y H k = x := by rw [hupd_ne hk]; exact h
/-! Short words for what a walk asks again and again. -/
theorem hk_ {α : Sort _} {a b : α} (h : a = b := by first | assumption | exact hupd_at | rfl | ((repeat (refine zk ?_ (by first | omega | decide | ((try simp only [List.length_cons, List.length_nil]); omega)))); first | assumption | exact hupd_at | rfl)) : a = b := h
theorem h0_ {p : Prop} (h : p := by first | rfl | assumption | ((repeat (refine zk ?_ (by first | omega | decide | ((try simp only [List.length_cons, List.length_nil]); omega)))); first | assumption | rfl)) : p := h
theorem ne_ {p : Prop} (h : p := by (repeat (refine zk ?_ (by first | omega | decide | ((try simp only [List.length_cons, List.length_nil]); omega)))); first | assumption | exact hupd_at | rfl) : p := h
theorem ln_ {p : Prop} (h : p := by (try simp only [List.length_cons, List.length_nil]); omega) : p := h
theorem ap_ {p : Prop} (h : p := by simp only [List.length_map, List.length_take, List.length_append, List.length_cons, List.length_nil] at *; simp only [LIM] at *; omega) : p := h
theorem pr_ {p : Prop} (h : p := by first | assumption | exact LawB.code ‹_› (by omega) | exact fit16 (DrV.get ‹_› ‹_›) | exact DrV.fit ‹_› | exact DrV.lt ‹_› | exact (by assumption : ∀ c : List It, c ∈ _ → c.length ≤ LIM) _ (List.mem_of_getElem? (by assumption)) | exact FitVs.get ‹_› ‹_› | exact FitVs.get hp1 ‹_› | exact FitVs.get hp2 ‹_› | (refine FitVs.get ?_ hx; assumption) | exact FitVs.take ‹_› _ | exact FitCs.take ‹_› _ | exact FitV.len ‹_› | exact FitVs.len ‹_› | exact BigVs.get ‹_› ‹_› | exact FitCs.get hp1 ‹_› | exact FitCs.get ‹_› ‹_› | omega | (simp only [LIM, FitV, List.length_take, List.length_map, List.length_append, List.length_cons, List.length_nil] at *; omega)) : p := h
theorem allFrom_len (l : List Vo) : ∀ (r : List Vo) (out : List (List It)), (allFrom l r out).length ≤ out.length + r.length
  | [], out => Nat.le_refl _
  | v :: r, out => by
    simp only [allFrom, List.length_cons]
    refine Nat.le_trans (allFrom_len l r _) ?_
    split <;> simp <;> omega
theorem allS_len (l : List Vo) : (allS l).length ≤ l.length + 1 := by
  have := allFrom_len l l [[]]
  simp only [allS, List.length_cons, List.length_nil] at *; omega
end Av
end Go.Proofs.Ytdboofnogabefaa
