/- Nests: an array of one's own whose elements each end in an array of one's own. -/
import Derived.Test.YtfijfccgghhkoaaO2
set_option linter.unusedVariables false
set_option linter.unusedSimpArgs false
namespace Go.Proofs.Ytfijfccgghhkoaa
namespace Av
open Go.RowKit
structure Nest (α : Type) where
  β : Type
  T : Nat
  sz : Nat
  pp : α → List FV       -- the cells ahead of the inner slice
  inn : α → List β
  T1 : Nat
  s1 : Nat
  F1 : β → List FV
  ext : ∀ a b, pp a = pp b → arA F1 (inn a) = arA F1 (inn b) → a = b
section
variable {α : Type} (N : Nest α)
def Nest.cell (a : α) (k : Nat) : List AC := (N.pp a).map AC.c ++ [.ow k]
def Nest.ob1 (a : α) : Ob := .arr N.T1 N.s1 (arA N.F1 (N.inn a))
def Nest.F (a : α) : List FV := N.pp a ++ [.sl N.s1 ((N.inn a).map N.F1)]
def Nest.K (f : Nat → Nat) (l : List α) : List (List AC) := l.mapIdx fun i v => N.cell v (f i)
def Nest.ob (f : Nat → Nat) (l : List α) : Ob := .arr N.T N.sz (N.K f l)
def Nest.In (l : List α) : List Ob := N.ob (· + 1) l :: l.map N.ob1
def Nest.obs (l : List α) : List (Option Ob) := (N.In l).map some
/-- The nest lies at k, its inner arrays at f 0, f 1, .., all of them below b. -/
structure Nest.At (H : Hp) (b k : Nat) (f : Nat → Nat) (l : List α) : Prop where
  out : H k = some (N.ob f l)
  inn : ∀ j v, l[j]? = some v → H (f j) = some (N.ob1 v)
  ne : ∀ j, j < l.length → f j ≠ k
  inj : ∀ j j', j < l.length → j' < l.length → f j = f j' → j = j'
  lt : k < b
  lts : ∀ j, j < l.length → f j < b
end
section
variable {α : Type} {N : Nest α} {H H' : Hp} {b b' k : Nat} {f : Nat → Nat} {l m : List α}
/-- What a reader sees of a nest. -/
theorem Nest.At.deep (h : N.At H b k f l) : allO (allO (deep H 3 N.sz)) (N.K f l) = some (l.map N.F) := by
  refine allO_mk (by simp [Nest.K]) fun i x y hx hy => ?_
  simp only [Nest.K, List.getElem?_mapIdx] at hx
  rw [List.getElem?_map] at hy
  cases ha : l[i]? with
  | none => rw [ha] at hx; cases hx
  | some v =>
    rw [ha] at hx hy
    cases hx; cases hy
    have e : Av.deep H 3 N.sz (.ow (f i)) = some (.sl N.s1 ((N.inn v).map N.F1)) := by
      rw [deep_ow (h.inn i v ha), arA_deep]; rfl
    refine allO_app (deep_c _) ?_
    show (Av.deep H 3 N.sz (.ow (f i))).bind (fun y => (some []).map (y :: ·)) = _
    rw [e]; rfl
theorem Nest.At.bor {sh : Option Nat} (h : N.At H b k f l) : Av.bor H sh (.ow k) = .c (.sl N.sz (l.map N.F)) := bor_deep h.out h.deep
theorem Nest.At.mono (h : N.At H b k f l) (hb : b ≤ b') (hs : ∀ i, i < b → H' i = H i) : N.At H' b' k f l :=
  ⟨(hs k h.lt).trans h.out, fun j v hj => (hs _ (h.lts j (List.getElem?_eq_some_iff.1 hj).1)).trans (h.inn j v hj), h.ne, h.inj, Nat.lt_of_lt_of_le h.lt hb, fun j hj => Nat.lt_of_lt_of_le (h.lts j hj) hb⟩
/-- A place that is none of the nest's. -/
def Nest.Off (_ : Nest α) (k : Nat) (f : Nat → Nat) (l : List α) (i : Nat) : Prop := i ≠ k ∧ ∀ j, j < l.length → f j ≠ i
theorem Nest.At.same (h : N.At H b k f l) (hb : b ≤ b') (hs : ∀ i, ¬ N.Off k f l i → H' i = H i) : N.At H' b' k f l :=
  ⟨(hs k fun e => e.1 rfl).trans h.out, fun j v hj => (hs _ fun e => e.2 j (List.getElem?_eq_some_iff.1 hj).1 rfl).trans (h.inn j v hj), h.ne, h.inj, Nat.lt_of_lt_of_le h.lt hb, fun j hj => Nat.lt_of_lt_of_le (h.lts j hj) hb⟩
theorem Nest.At.upd (h : N.At H b k f l) {i : Nat} {x : Option Ob} (hi : N.Off k f l i) : N.At (hupd i x H) b k f l :=
  h.same (Nat.le_refl _) fun j hj => hupd_ne fun e => hj (e ▸ hi)
section
variable {P : Program} {g : Nat} {S : MSpec} {fr : Env} {nm nx rm rm' lim : Nat} {K : KV} {xs : List (X × List (Option Nat))} {res : List Rs} {post : AV → List (Option Ob) → Prop}
end
end
/-! ### a nest that is filled from its head -/
def Nest.Kp {α : Type} (N : Nest α) (f : Nat → Nat) (l : List α) (i : Nat) (z : List AC) : List (List AC) := l.mapIdx fun j v => if j < i then N.cell v (f j) else z
structure Nest.Part {α : Type} (N : Nest α) (H : Hp) (b k : Nat) (f : Nat → Nat) (l : List α) (i : Nat) (z : List AC) : Prop where
  out : H k = some (.arr N.T N.sz (N.Kp f l i z))
  inn : ∀ j v, j < i → l[j]? = some v → H (f j) = some (N.ob1 v)
  ne : ∀ j, j < i → f j ≠ k
  inj : ∀ j j', j < i → j' < i → f j = f j' → j = j'
  lt : k < b
  lts : ∀ j, j < i → f j < b
section
variable {α : Type} {N : Nest α} {H H' : Hp} {b b' k i n : Nat} {f : Nat → Nat} {l : List α} {z : List AC}
theorem Nest.Kp_zero : List.replicate l.length z = N.Kp f l 0 z := by
  apply List.ext_getElem?
  intro j
  simp only [Nest.Kp, List.getElem?_mapIdx, List.getElem?_replicate, Nat.not_lt_zero, if_false]
  by_cases h : j < l.length
  · rw [if_pos h, List.getElem?_eq_getElem h]; rfl
  · rw [if_neg h, List.getElem?_eq_none (by omega)]; rfl
theorem Nest.Kp_set {x : α} (hx : l[i]? = some x) : (N.Kp f l i z).set i (N.cell x n) = N.Kp (updF f i n) l (i + 1) z := by
  apply List.ext_getElem?
  intro j
  have hi := (List.getElem?_eq_some_iff.1 hx).1
  rw [List.getElem?_set]
  by_cases e : i = j
  · subst e
    rw [if_pos rfl, if_pos (by simp [Nest.Kp]; exact hi)]
    simp [Nest.Kp, List.getElem?_mapIdx, hx, updF]
  · rw [if_neg e]
    simp only [Nest.Kp, List.getElem?_mapIdx, updF, if_neg (Ne.symm e)]
    cases l[j]? with
    | none => rfl
    | some v =>
      simp only [Option.map_some]
      by_cases h : j < i
      · rw [if_pos h, if_pos (by omega)]
      · rw [if_neg h, if_neg (by omega)]
theorem Nest.Kp_end (h : l.length ≤ i) : N.Kp f l i z = N.K f l := by
  apply List.ext_getElem?
  intro j
  simp only [Nest.Kp, Nest.K, List.getElem?_mapIdx]
  cases hj : l[j]? with
  | none => rfl
  | some v =>
    have := (List.getElem?_eq_some_iff.1 hj).1
    simp only [Option.map_some, if_pos (show j < i by omega)]
theorem Nest.Part.zero (h : H k = some (.arr N.T N.sz (List.replicate l.length z))) (hk : k < b) : N.Part H b k f l 0 z :=
  ⟨h.trans (by rw [Nest.Kp_zero (N := N) (f := f)]), fun j v h => by omega, fun j h => by omega, fun j j' h => by omega, hk, fun j h => by omega⟩
theorem Nest.Part.step (h : N.Part H b k f l i z) {x : α} (hx : l[i]? = some x) (h1 : b ≤ n) (h2 : n < b') {e : List AC} (he : e = N.cell x n) :
    N.Part (hupd k (some (.arr N.T N.sz ((N.Kp f l i z).set i e))) (hupd n (some (N.ob1 x)) H)) b' k (updF f i n) l (i + 1) z := by
  have hk := h.lt
  subst he
  refine ⟨hupd_at.trans (by rw [Nest.Kp_set hx]), fun j v hj hv => ?_, fun j hj => ?_, fun j j' hj hj' e => ?_, by omega, fun j hj => ?_⟩
  · by_cases e : j = i
    · subst e
      rw [show updF f j n j = n from if_pos rfl, hupd_ne (by omega), hupd_at]
      rw [hx] at hv; cases hv; rfl
    · have := h.lts j (by omega)
      rw [show updF f i n j = f j from if_neg e, hupd_ne (h.ne j (by omega)), hupd_ne (by omega)]
      exact h.inn j v (by omega) hv
  · by_cases e : j = i
    · rw [show updF f i n j = n from if_pos e]; omega
    · rw [show updF f i n j = f j from if_neg e]; exact h.ne j (by omega)
  · by_cases e1 : j = i
    · by_cases e2 : j' = i
      · omega
      · rw [show updF f i n j = n from if_pos e1, show updF f i n j' = f j' from if_neg e2] at e
        have := h.lts j' (by omega); omega
    · by_cases e2 : j' = i
      · rw [show updF f i n j = f j from if_neg e1, show updF f i n j' = n from if_pos e2] at e
        have := h.lts j (by omega); omega
      · rw [show updF f i n j = f j from if_neg e1, show updF f i n j' = f j' from if_neg e2] at e
        exact h.inj j j' (by omega) (by omega) e
  · by_cases e : j = i
    · rw [show updF f i n j = n from if_pos e]; omega
    · rw [show updF f i n j = f j from if_neg e]
      have := h.lts j (by omega); omega
theorem Nest.Part.done (h : N.Part H b k f l i z) (hi : i = l.length) : N.At H b k f l :=
  ⟨h.out.trans (by rw [Nest.Kp_end (by omega)]; rfl), fun j v hj => h.inn j v (by rw [hi]; exact (List.getElem?_eq_some_iff.1 hj).1) hj, fun j hj => h.ne j (by omega), fun j j' hj hj' => h.inj j j' (by omega) (by omega), h.lt, fun j hj => h.lts j (by omega)⟩
end
section
variable {α : Type} {N : Nest α} {H : Hp} {b k : Nat} {f : Nat → Nat} {l : List α}
variable {P : Program} {g : Nat} {fr : Env} {nm nx rm rm' lim : Nat} {K : KV} {xs : List (X × List (Option Nat))} {res : List Rs} {post : AV → List (Option Ob) → Prop}
end
/-! ### a call to which its arguments are lent, and which hands back a nest -/
structure Nest.Plain {α : Type} (N : Nest α) : Prop where
  pp : ∀ a c, c ∈ N.pp a → ∃ v, c = .v v
  F1 : ∀ b c, c ∈ N.F1 b → ∃ v, c = .v v
theorem Nest.Plain.obs {α : Type} {N : Nest α} (hp : N.Plain) {l : List α} : ∀ (j : Nat) ob, (N.obs l)[j]? = some (some ob) → plainO ob := by
  intro j o h
  cases j with
  | zero =>
    cases h
    intro x hx c hc
    obtain ⟨i, hi⟩ := List.mem_iff_getElem?.1 hx
    simp only [Nest.K, List.getElem?_mapIdx, Option.map_eq_some_iff] at hi
    obtain ⟨v, hv, rfl⟩ := hi
    simp only [Nest.cell, List.mem_append, List.mem_map, List.mem_cons, List.not_mem_nil, or_false] at hc
    rcases hc with ⟨y, hy, rfl⟩ | rfl
    · obtain ⟨v, rfl⟩ := hp.pp _ _ hy; exact trivial
    · exact trivial
  | succ j =>
    simp only [Nest.obs, Nest.In, List.map_cons, List.getElem?_cons_succ, List.getElem?_map, Option.map_eq_some_iff] at h
    obtain ⟨v, ⟨u, _, rfl⟩, h⟩ := h
    cases h
    intro x hx c hc
    obtain ⟨z, _, rfl⟩ := List.mem_map.1 hx
    obtain ⟨w, hw, rfl⟩ := List.mem_map.1 hc
    obtain ⟨v, rfl⟩ := hp.F1 _ _ hw; exact trivial
section
variable {α : Type} {N : Nest α} {H : Hp} {l : List α}
variable {P : Program} {g : Nat} {S : MSpec} {fr : Env} {nm rm : Nat} {K : KV} {xs : List (X × List (Option Nat))}
end
end Av
end Go.Proofs.Ytfijfccgghhkoaa
