/- Nests: an array of one's own whose elements each end in an array of one's own. -/
import Derived.Test.YtdboofnogabefaaO2
set_option linter.unusedVariables false
set_option linter.unusedSimpArgs false
namespace Go.Proofs.Ytdboofnogabefaa
namespace Av
open Go.RowKit
structure Nest (α : Type) where
  β : Type
  T : Nat
  sz : Nat
  pp : α → List FV       -- the cells ahead of the inner slice
  inn : α → List β
  T1 : Nat
  s1 : Nat
  F1 : β → List FV
  ext : ∀ a b, pp a = pp b → arA F1 (inn a) = arA F1 (inn b) → a = b
section
variable {α : Type} (N : Nest α)
def Nest.cell (a : α) (k : Nat) : List AC := (N.pp a).map AC.c ++ [.ow k]
def Nest.ob1 (a : α) : Ob := .arr N.T1 N.s1 (arA N.F1 (N.inn a))
def Nest.F (a : α) : List FV := N.pp a ++ [.sl N.s1 ((N.inn a).map N.F1)]
def Nest.K (f : Nat → Nat) (l : List α) : List (List AC) := l.mapIdx fun i v => N.cell v (f i)
def Nest.ob (f : Nat → Nat) (l : List α) : Ob := .arr N.T N.sz (N.K f l)
def Nest.In (l : List α) : List Ob := N.ob (· + 1) l :: l.map N.ob1
def Nest.obs (l : List α) : List (Option Ob) := (N.In l).map some
/-- The nest lies at k, its inner arrays at f 0, f 1, .., all of them below b. -/
structure Nest.At (H : Hp) (b k : Nat) (f : Nat → Nat) (l : List α) : Prop where
  out : H k = some (N.ob f l)
  inn : ∀ j v, l[j]? = some v → H (f j) = some (N.ob1 v)
  ne : ∀ j, j < l.length → f j ≠ k
  inj : ∀ j j', j < l.length → j' < l.length → f j = f j' → j = j'
  lt : k < b
  lts : ∀ j, j < l.length → f j < b
end
section
variable {α : Type} {N : Nest α} {H H' : Hp} {b b' k : Nat} {f : Nat → Nat} {l m : List α}
theorem Nest.K_at {i : Nat} {x : α} (hx : l[i]? = some x) : (N.K f l)[i]? = some (N.cell x (f i)) := by
  simp only [Nest.K, List.getElem?_mapIdx, hx, Option.map_some]
theorem Nest.K_len : (N.K f l).length = l.length := by simp [Nest.K]
theorem Nest.K_ext {g : Nat → Nat} (h : ∀ j, j < l.length → f j = g j) : N.K f l = N.K g l := by
  apply List.ext_getElem?
  intro j
  simp only [Nest.K, List.getElem?_mapIdx]
  cases hj : l[j]? with
  | none => rfl
  | some v =>
    have := (List.getElem?_eq_some_iff.1 hj).1
    simp only [Option.map_some, h j this]
theorem Nest.K_snoc {x : α} {n : Nat} : N.K f l ++ [N.cell x n] = N.K (updF f l.length n) (l ++ [x]) := by
  unfold Nest.K
  rw [List.mapIdx_append]
  simp only [List.mapIdx_cons, List.mapIdx_nil, Nat.zero_add]
  congr 1
  · exact (Nest.K_ext (N := N) (f := f) (g := updF f l.length n) fun j hj => by unfold updF; rw [if_neg (by omega)])
  · unfold updF; rw [if_pos rfl]
theorem Nest.ob1_ren {a : α} {ρ : Nat → Nat} : (N.ob1 a).ren ρ = N.ob1 a := arr_ren ..
theorem Nest.cell_ren {a : α} {n : Nat} {ρ : Nat → Nat} : (N.cell a n).map (AC.ren ρ) = N.cell a (ρ n) := by
  simp only [Nest.cell, List.map_append, List.map_map, List.map_cons, List.map_nil, AC.ren]
  congr 1
theorem Nest.ob_ren {g : Nat → Nat} {ρ : Nat → Nat} (h : ∀ j, j < l.length → ρ (g j) = f j) : (N.ob g l).ren ρ = N.ob f l := by
  show Ob.arr _ _ _ = Ob.arr _ _ _
  congr 1
  apply List.ext_getElem?
  intro j
  simp only [Nest.K, List.getElem?_map, List.getElem?_mapIdx]
  cases hj : l[j]? with
  | none => rfl
  | some v =>
    have := (List.getElem?_eq_some_iff.1 hj).1
    simp only [Option.map_some, Nest.cell_ren, h j this]
theorem Nest.In_len : (N.In l).length = l.length + 1 := by simp [Nest.In]
theorem Nest.obs_len : (N.obs l).length = l.length + 1 := by simp [Nest.obs, Nest.In]
theorem Nest.ob_ok {n : Nat} (h : l.length < n) : okOb (· < n) (N.ob (· + 1) l) := by
  intro x hx c hc
  obtain ⟨i, hi⟩ := List.mem_iff_getElem?.1 hx
  simp only [Nest.K, List.getElem?_mapIdx, Option.map_eq_some_iff] at hi
  obtain ⟨v, hv, rfl⟩ := hi
  have hlt := (List.getElem?_eq_some_iff.1 hv).1
  simp only [Nest.cell, List.mem_append, List.mem_map, List.mem_cons, List.not_mem_nil, or_false] at hc
  rcases hc with ⟨y, _, rfl⟩ | rfl
  · trivial
  · show i + 1 < n; omega
theorem Nest.obs_at0 : (N.obs l)[0]? = some (some (N.ob (· + 1) l)) := rfl
theorem Nest.obs_at {j : Nat} {v : α} (h : l[j]? = some v) : (N.obs l)[j + 1]? = some (some (N.ob1 v)) := by
  simp [Nest.obs, Nest.In, h]
theorem Nest.In_at {j : Nat} {v : α} (h : l[j]? = some v) : (N.In l)[j + 1]? = some (N.ob1 v) := by
  simp [Nest.In, h]
theorem Nest.obs_ok : ∀ (j : Nat) o, (N.obs l)[j]? = some (some o) → okOb (· < (N.obs l).length) o := by
  intro j o h
  rw [Nest.obs_len]
  cases j with
  | zero => cases h; exact Nest.ob_ok (Nat.lt_succ_self _)
  | succ j =>
    simp only [Nest.obs, Nest.In, List.map_cons, List.getElem?_cons_succ, List.getElem?_map, Option.map_eq_some_iff] at h
    obtain ⟨v, ⟨u, _, rfl⟩, h⟩ := h
    cases h
    exact arA_ok _
theorem Nest.In_inj {l m : List α} (h : N.In l = N.In m) : l = m := by
  have h1 := (Ob.arr.inj (List.cons.inj h).1).2.2
  have h2 := (List.cons.inj h).2
  apply List.ext_getElem?
  intro j
  have e1 := congrArg (fun z => z[j]?) h1
  have e2 := congrArg (fun z => z[j]?) h2
  simp only [Nest.K, List.getElem?_mapIdx] at e1
  simp only [List.getElem?_map] at e2
  cases hl : l[j]? with
  | none =>
    cases hm : m[j]? with
    | none => rfl
    | some u => rw [hl, hm] at e2; cases e2
  | some v =>
    cases hm : m[j]? with
    | none => rw [hl, hm] at e2; cases e2
    | some u =>
      rw [hl, hm] at e1 e2
      have a1 := Option.some.inj e1
      have a2 := (Ob.arr.inj (Option.some.inj e2)).2.2
      simp only [Nest.cell] at a1
      have a3 := (List.append_inj' a1 rfl).1
      rw [N.ext v u (map_inj' (fun _ _ h => by simpa using h) a3) a2]
/-- What a reader sees of a nest. -/
theorem Nest.At.deep (h : N.At H b k f l) : allO (allO (deep H 3 N.sz)) (N.K f l) = some (l.map N.F) := by
  refine allO_mk (by simp [Nest.K]) fun i x y hx hy => ?_
  simp only [Nest.K, List.getElem?_mapIdx] at hx
  rw [List.getElem?_map] at hy
  cases ha : l[i]? with
  | none => rw [ha] at hx; cases hx
  | some v =>
    rw [ha] at hx hy
    cases hx; cases hy
    have e : Av.deep H 3 N.sz (.ow (f i)) = some (.sl N.s1 ((N.inn v).map N.F1)) := by
      rw [deep_ow (h.inn i v ha), arA_deep]; rfl
    refine allO_app (deep_c _) ?_
    show (Av.deep H 3 N.sz (.ow (f i))).bind (fun y => (some []).map (y :: ·)) = _
    rw [e]; rfl
theorem Nest.At.bor {sh : Option Nat} (h : N.At H b k f l) : Av.bor H sh (.ow k) = .c (.sl N.sz (l.map N.F)) := bor_deep h.out h.deep
theorem Nest.At.mono (h : N.At H b k f l) (hb : b ≤ b') (hs : ∀ i, i < b → H' i = H i) : N.At H' b' k f l :=
  ⟨(hs k h.lt).trans h.out, fun j v hj => (hs _ (h.lts j (List.getElem?_eq_some_iff.1 hj).1)).trans (h.inn j v hj), h.ne, h.inj, Nat.lt_of_lt_of_le h.lt hb, fun j hj => Nat.lt_of_lt_of_le (h.lts j hj) hb⟩
/-- A place that is none of the nest's. -/
def Nest.Off (_ : Nest α) (k : Nat) (f : Nat → Nat) (l : List α) (i : Nat) : Prop := i ≠ k ∧ ∀ j, j < l.length → f j ≠ i
theorem Nest.At.same (h : N.At H b k f l) (hb : b ≤ b') (hs : ∀ i, ¬ N.Off k f l i → H' i = H i) : N.At H' b' k f l :=
  ⟨(hs k fun e => e.1 rfl).trans h.out, fun j v hj => (hs _ fun e => e.2 j (List.getElem?_eq_some_iff.1 hj).1 rfl).trans (h.inn j v hj), h.ne, h.inj, Nat.lt_of_lt_of_le h.lt hb, fun j hj => Nat.lt_of_lt_of_le (h.lts j hj) hb⟩
theorem Nest.At.upd (h : N.At H b k f l) {i : Nat} {x : Option Ob} (hi : N.Off k f l i) : N.At (hupd i x H) b k f l :=
  h.same (Nat.le_refl _) fun j hj => hupd_ne fun e => hj (e ▸ hi)
/-- One more, at the end. -/
theorem Nest.At.snoc (h : N.At H b k f l) {x : α} {n n' n2 : Nat} {o2 : Option Ob} (h1 : b ≤ n) (h2 : n < n2) (h3 : n2 < n') (h4 : n' < b') :
    N.At (hupd n' (some (.arr N.T N.sz (N.K f l ++ [N.cell x n]))) (hupd k none (hupd n2 o2 (hupd n (some (N.ob1 x)) H)))) b' n' (updF f l.length n) (l ++ [x]) := by
  have hk := h.lt
  refine ⟨hupd_at.trans (by rw [Nest.K_snoc]; rfl), fun j v hj => ?_, fun j hj => ?_, fun j j' hj hj' e => ?_, h4, fun j hj => ?_⟩
  · by_cases e : j < l.length
    · have := h.lts j e
      rw [show updF f l.length n j = f j from if_neg (by omega), hupd_ne (by omega), hupd_ne (h.ne j e), hupd_ne (by omega), hupd_ne (by omega)]
      rw [List.getElem?_append_left e] at hj
      exact h.inn j v hj
    · rw [List.getElem?_append_right (by omega)] at hj
      have hj0 : j - l.length = 0 := by
        have := (List.getElem?_eq_some_iff.1 hj).1
        simpa using this
      rw [hj0] at hj
      cases hj
      rw [show updF f l.length n j = n from if_pos (by omega), hupd_ne (by omega), hupd_ne (by omega), hupd_ne (by omega), hupd_at]
  · rw [List.length_append] at hj
    by_cases e : j < l.length
    · have := h.lts j e
      rw [show updF f l.length n j = f j from if_neg (by omega)]; omega
    · simp only [List.length_cons, List.length_nil] at hj
      rw [show updF f l.length n j = n from if_pos (by omega)]; omega
  · rw [List.length_append] at hj hj'
    simp only [List.length_cons, List.length_nil] at hj hj'
    by_cases e1 : j < l.length
    · by_cases e2 : j' < l.length
      · rw [show updF f l.length n j = f j from if_neg (by omega), show updF f l.length n j' = f j' from if_neg (by omega)] at e
        exact h.inj j j' e1 e2 e
      · rw [show updF f l.length n j = f j from if_neg (by omega), show updF f l.length n j' = n from if_pos (by omega)] at e
        have := h.lts j e1; omega
    · by_cases e2 : j' < l.length
      · rw [show updF f l.length n j = n from if_pos (by omega), show updF f l.length n j' = f j' from if_neg (by omega)] at e
        have := h.lts j' e2; omega
      · omega
  · rw [List.length_append] at hj
    simp only [List.length_cons, List.length_nil] at hj
    by_cases e : j < l.length
    · have := h.lts j e
      rw [show updF f l.length n j = f j from if_neg (by omega)]; omega
    · rw [show updF f l.length n j = n from if_pos (by omega)]; omega
/-- The names of a nest, in order. -/
def nks (k : Nat) (f : Nat → Nat) (n : Nat) : List Nat := k :: (List.range n).map f
theorem nks_len {n : Nat} : (nks k f n).length = n + 1 := by simp [nks]
theorem nks_at {n j : Nat} (h : j < n) : (nks k f n)[j + 1]? = some (f j) := by
  rw [nks, List.getElem?_cons_succ, List.getElem?_map, List.getElem?_range h]; rfl
theorem Nest.At.nodup (h : N.At H b k f l) : (nks k f l.length).Nodup := by
  rw [nks, List.nodup_cons]
  refine ⟨fun hm => ?_, ?_⟩
  · obtain ⟨j, hj, e⟩ := List.mem_map.1 hm
    exact h.ne j (List.mem_range.1 hj) e
  · rw [List.Nodup, List.pairwise_iff_getElem]
    intro i j hi hj hij e
    simp only [List.length_map, List.length_range] at hi hj
    simp only [List.getElem_map, List.getElem_range] at e
    have := h.inj i j hi hj e
    omega
section
variable {P : Program} {g : Nat} {S : MSpec} {fr : Env} {nm nx rm rm' lim : Nat} {K : KV} {xs : List (X × List (Option Nat))} {res : List Rs} {post : AV → List (Option Ob) → Prop}
/-- A call that hands back a nest. -/
theorem mq_nest {ar : List AV} (hv : ValidM P g S) (hl : rm + S.cost ≤ LIM) (ha : nrmArgs fr xs = ar) (hr : ar.map (AV.ren (nmapS S.st [] nm)) = ar) (hpre : S.pre ar []) (hst : l.length ≤ 15 + S.st)
    (hpost : ∀ r obs', S.post ar [] r obs' → r = ow0 ∧ obs' = N.obs l)
    (hK : ∀ (n : Nat) (H' : Hp), nm = n → N.At H' (n + 1 + l.length) n (fun j => n + 1 + j) l → (∀ k, k < n → H' k = H k) → K (.w (.o (.ow n))) H' (rm + S.cost)) : MQ P nm fr H rm K g S xs := by
  refine ⟨⟨hv, hl, [], ar, [], by simp, rfl, fun i k' h => by simp at h, by rw [ha, hr], hpre, fun r obs' hp _ _ => ?_⟩⟩
  obtain ⟨rfl, rfl⟩ := hpost r obs' hp
  have hρ : ∀ i, i ≤ l.length → nmapS S.st [] nm i = nm + i := by
    intro i hi
    simp only [nmapS, List.length_nil, Nat.not_lt_zero, dite_false, Nat.sub_zero]
    omega
  have hget := hput_at (nmapS S.st [] nm) (N.obs l) 0 H (fun j j' _ h1 _ h2 e => by
    rw [Nest.obs_len] at h1 h2
    rw [hρ j (by omega), hρ j' (by omega)] at e
    omega)
  have e0 : (AV.w (.o (.ow nm))) = ow0.ren (nmapS S.st [] nm) := by
    show AV.w (.o (.ow nm)) = AV.w (.o (.ow (nmapS S.st [] nm 0)))
    rw [hρ 0 (Nat.zero_le _), Nat.add_zero]
  rw [← e0]
  refine hK nm _ rfl ⟨?_, fun j v hj => ?_, fun j hj => by omega, fun j j' _ _ e => by omega, by omega, fun j hj => by omega⟩ fun k hk => ?_
  · have := hget.1 0 _ Nest.obs_at0
    rw [Nat.zero_add, hρ 0 (Nat.zero_le _)] at this
    refine this.trans ?_
    show some ((N.ob (· + 1) l).ren _) = _
    rw [Nest.ob_ren (f := fun j => nm + 1 + j) (fun j hj => by rw [hρ (j + 1) (by omega)]; omega)]
  · have hlt := (List.getElem?_eq_some_iff.1 hj).1
    have := hget.1 (j + 1) _ (Nest.obs_at hj)
    rw [Nat.zero_add, hρ (j + 1) (by omega)] at this
    rw [show nm + 1 + j = nm + (j + 1) by omega, this]
    show some ((N.ob1 v).ren _) = _
    rw [Nest.ob1_ren]
  · exact hget.2 k fun j _ hj e => by
      rw [Nest.obs_len] at hj
      rw [hρ j (by omega)] at e; omega
/-- A nest in, and another of the same length out in its place. -/
theorem mq_nin {l' : List α} {n m : Int} (hv : ValidM P g S) (hl : rm + S.cost ≤ LIM) (h : N.At H b k f l)
    (ha : nrmArgs fr xs = [.w (.o (.ow k)), I n]) (hpre : S.pre [ow0, I n] (N.In l)) (hll : l'.length = l.length)
    (hpost : ∀ r obs', S.post [ow0, I n] (N.In l) r obs' → r = I m ∧ obs' = N.obs l')
    (hK : ∀ H' : Hp, N.At H' b k f l' → (∀ i, N.Off k f l i → H' i = H i) → K (I m) H' (rm + S.cost)) : MQ P nm fr H rm K g S xs := by
  have hρ0 : nmapS S.st (nks k f l.length) nm 0 = k := nmap_lt (s := S.st) rfl
  have hρ : ∀ j, j < l.length → nmapS S.st (nks k f l.length) nm (j + 1) = f j := fun j hj => nmap_lt (nks_at hj)
  refine ⟨⟨hv, hl, nks k f l.length, [ow0, I n], N.In l, h.nodup, by rw [Nest.In_len, nks_len], fun i k' hi => ?_, ?_, hpre, fun r obs' hp _ _ => ?_⟩⟩
  · cases i with
    | zero => cases hi; exact ⟨_, rfl, by rw [Nest.ob_ren (f := f) hρ]; exact h.out⟩
    | succ j =>
      have hj : j < l.length := by
        have := (List.getElem?_eq_some_iff.1 hi).1
        rw [nks_len] at this; omega
      rw [nks_at hj] at hi
      cases hi
      have hx := List.getElem?_eq_getElem hj
      exact ⟨_, Nest.In_at hx, by rw [Nest.ob1_ren]; exact h.inn j _ hx⟩
  · rw [ha]
    show [AV.w (.o (.ow (nmapS S.st _ nm 0))), I n] = _
    rw [hρ0]
  · obtain ⟨rfl, rfl⟩ := hpost r obs' hp
    have hcase : ∀ j, j < l.length + 1 → (j = 0 ∧ nmapS S.st (nks k f l.length) nm j = k) ∨ ∃ i, i < l.length ∧ j = i + 1 ∧ nmapS S.st (nks k f l.length) nm j = f i := by
      intro j hj
      cases j with
      | zero => exact .inl ⟨rfl, hρ0⟩
      | succ i => exact .inr ⟨i, by omega, rfl, hρ i (by omega)⟩
    have hget := hput_at (nmapS S.st (nks k f l.length) nm) (N.obs l') 0 H (fun j j' _ h1 _ h2 e => by
      rw [Nest.obs_len, hll] at h1 h2
      rcases hcase j (by omega) with ⟨rfl, e1⟩ | ⟨i, hi, rfl, e1⟩ <;> rcases hcase j' (by omega) with ⟨rfl, e2⟩ | ⟨i', hi', rfl, e2⟩
      · rfl
      · rw [e1, e2] at e; exact absurd e.symm (h.ne i' hi')
      · rw [e1, e2] at e; exact absurd e (h.ne i hi)
      · rw [e1, e2] at e; rw [h.inj i i' hi hi' e])
    refine hK _ ⟨?_, fun j v hj => ?_, fun j hj => h.ne j (by omega), fun j j' hj hj' => h.inj j j' (by omega) (by omega), h.lt, fun j hj => h.lts j (by omega)⟩ fun i hi => ?_
    · have := hget.1 0 _ Nest.obs_at0
      rw [Nat.zero_add, hρ0] at this
      refine this.trans ?_
      show some ((N.ob (· + 1) l').ren _) = _
      rw [Nest.ob_ren (f := f) (fun j hj => hρ j (by omega))]
    · have hlt := (List.getElem?_eq_some_iff.1 hj).1
      have := hget.1 (j + 1) _ (Nest.obs_at hj)
      rw [Nat.zero_add, hρ j (by omega)] at this
      rw [this]
      show some ((N.ob1 v).ren _) = _
      rw [Nest.ob1_ren]
    · refine hget.2 i fun j _ hj e => ?_
      rw [Nest.obs_len, hll] at hj
      rcases hcase j (by omega) with ⟨rfl, e1⟩ | ⟨q, hq, rfl, e1⟩
      · exact hi.1 (e.symm.trans e1)
      · exact hi.2 q hq (e1.symm.trans e)
/-- What a function that marks a nest ends with. -/
theorem finM_nin {n : Int} {M : Nat} (hrm : rm' ≤ lim) (hM : M = l.length + 1) (hk : H 0 = some (N.ob (· + 1) l)) (hf : ∀ j v, l[j]? = some v → H (j + 1) = some (N.ob1 v)) (hres : resM (List.range (l.length + 1)) fr H res [.o (.c (fI n))]) (hpost : post (I n) (N.obs l)) :
    rm' ≤ lim ∧ ∃ (ks : List Nat) (az : List AW) (r : AV) (obs' : List (Option Ob)), resM ks fr H res az ∧ resV az = r.ren (nmap ks nx) ∧ post r obs' ∧
      ks.Nodup ∧ (∀ i, i < M → ks[i]? = some i) ∧ obs'.length = ks.length ∧
      ∀ (i k : Nat), ks[i]? = some k → (∃ ob : Ob, obs'[i]? = some (some ob) ∧ H k = some (ob.ren (nmap ks nx))) ∨ (obs'[i]? = some none ∧ H k = none) := by
  have hat : ∀ j, j < l.length + 1 → (List.range (l.length + 1))[j]? = some j := fun j hj => List.getElem?_range hj
  refine ⟨hrm, List.range (l.length + 1), _, I n, _, hres, rfl, hpost, List.nodup_range, fun i hi => hat i (by omega), by rw [Nest.obs_len]; simp, fun i k' h => ?_⟩
  left
  have hi : i < l.length + 1 := by
    have := (List.getElem?_eq_some_iff.1 h).1
    simpa using this
  rw [hat i hi] at h
  cases h
  cases i with
  | zero =>
    refine ⟨_, Nest.obs_at0, ?_⟩
    rw [Nest.ob_ren (f := (· + 1)) (fun j hj => nmap_lt (hat (j + 1) (by omega)))]; exact hk
  | succ j =>
    have hx := List.getElem?_eq_getElem (show j < l.length by omega)
    refine ⟨_, Nest.obs_at hx, ?_⟩
    rw [Nest.ob1_ren]; exact hf j _ hx
end
end
/-! ### a nest that is filled from its head -/
def Nest.Kp {α : Type} (N : Nest α) (f : Nat → Nat) (l : List α) (i : Nat) (z : List AC) : List (List AC) := l.mapIdx fun j v => if j < i then N.cell v (f j) else z
structure Nest.Part {α : Type} (N : Nest α) (H : Hp) (b k : Nat) (f : Nat → Nat) (l : List α) (i : Nat) (z : List AC) : Prop where
  out : H k = some (.arr N.T N.sz (N.Kp f l i z))
  inn : ∀ j v, j < i → l[j]? = some v → H (f j) = some (N.ob1 v)
  ne : ∀ j, j < i → f j ≠ k
  inj : ∀ j j', j < i → j' < i → f j = f j' → j = j'
  lt : k < b
  lts : ∀ j, j < i → f j < b
section
variable {α : Type} {N : Nest α} {H H' : Hp} {b b' k i n : Nat} {f : Nat → Nat} {l : List α} {z : List AC}
theorem Nest.Kp_zero : List.replicate l.length z = N.Kp f l 0 z := by
  apply List.ext_getElem?
  intro j
  simp only [Nest.Kp, List.getElem?_mapIdx, List.getElem?_replicate, Nat.not_lt_zero, if_false]
  by_cases h : j < l.length
  · rw [if_pos h, List.getElem?_eq_getElem h]; rfl
  · rw [if_neg h, List.getElem?_eq_none (by omega)]; rfl
theorem Nest.Kp_set {x : α} (hx : l[i]? = some x) : (N.Kp f l i z).set i (N.cell x n) = N.Kp (updF f i n) l (i + 1) z := by
  apply List.ext_getElem?
  intro j
  have hi := (List.getElem?_eq_some_iff.1 hx).1
  rw [List.getElem?_set]
  by_cases e : i = j
  · subst e
    rw [if_pos rfl, if_pos (by simp [Nest.Kp]; exact hi)]
    simp [Nest.Kp, List.getElem?_mapIdx, hx, updF]
  · rw [if_neg e]
    simp only [Nest.Kp, List.getElem?_mapIdx, updF, if_neg (Ne.symm e)]
    cases l[j]? with
    | none => rfl
    | some v =>
      simp only [Option.map_some]
      by_cases h : j < i
      · rw [if_pos h, if_pos (by omega)]
      · rw [if_neg h, if_neg (by omega)]
theorem Nest.Kp_end (h : l.length ≤ i) : N.Kp f l i z = N.K f l := by
  apply List.ext_getElem?
  intro j
  simp only [Nest.Kp, Nest.K, List.getElem?_mapIdx]
  cases hj : l[j]? with
  | none => rfl
  | some v =>
    have := (List.getElem?_eq_some_iff.1 hj).1
    simp only [Option.map_some, if_pos (show j < i by omega)]
theorem Nest.Part.zero (h : H k = some (.arr N.T N.sz (List.replicate l.length z))) (hk : k < b) : N.Part H b k f l 0 z :=
  ⟨h.trans (by rw [Nest.Kp_zero (N := N) (f := f)]), fun j v h => by omega, fun j h => by omega, fun j j' h => by omega, hk, fun j h => by omega⟩
theorem Nest.Part.step (h : N.Part H b k f l i z) {x : α} (hx : l[i]? = some x) (h1 : b ≤ n) (h2 : n < b') {e : List AC} (he : e = N.cell x n) :
    N.Part (hupd k (some (.arr N.T N.sz ((N.Kp f l i z).set i e))) (hupd n (some (N.ob1 x)) H)) b' k (updF f i n) l (i + 1) z := by
  have hk := h.lt
  subst he
  refine ⟨hupd_at.trans (by rw [Nest.Kp_set hx]), fun j v hj hv => ?_, fun j hj => ?_, fun j j' hj hj' e => ?_, by omega, fun j hj => ?_⟩
  · by_cases e : j = i
    · subst e
      rw [show updF f j n j = n from if_pos rfl, hupd_ne (by omega), hupd_at]
      rw [hx] at hv; cases hv; rfl
    · have := h.lts j (by omega)
      rw [show updF f i n j = f j from if_neg e, hupd_ne (h.ne j (by omega)), hupd_ne (by omega)]
      exact h.inn j v (by omega) hv
  · by_cases e : j = i
    · rw [show updF f i n j = n from if_pos e]; omega
    · rw [show updF f i n j = f j from if_neg e]; exact h.ne j (by omega)
  · by_cases e1 : j = i
    · by_cases e2 : j' = i
      · omega
      · rw [show updF f i n j = n from if_pos e1, show updF f i n j' = f j' from if_neg e2] at e
        have := h.lts j' (by omega); omega
    · by_cases e2 : j' = i
      · rw [show updF f i n j = f j from if_neg e1, show updF f i n j' = n from if_pos e2] at e
        have := h.lts j (by omega); omega
      · rw [show updF f i n j = f j from if_neg e1, show updF f i n j' = f j' from if_neg e2] at e
        exact h.inj j j' (by omega) (by omega) e
  · by_cases e : j = i
    · rw [show updF f i n j = n from if_pos e]; omega
    · rw [show updF f i n j = f j from if_neg e]
      have := h.lts j (by omega); omega
theorem Nest.Part.done (h : N.Part H b k f l i z) (hi : i = l.length) : N.At H b k f l :=
  ⟨h.out.trans (by rw [Nest.Kp_end (by omega)]; rfl), fun j v hj => h.inn j v (by rw [hi]; exact (List.getElem?_eq_some_iff.1 hj).1) hj, fun j hj => h.ne j (by omega), fun j j' hj hj' => h.inj j j' (by omega) (by omega), h.lt, fun j hj => h.lts j (by omega)⟩
end
/-! ### slices.Clip on a nest -/
def clipO {α : Type} (N : Nest α) (l : List α) : List (Option Ob) := none :: (l.map fun a => some (N.ob1 a)) ++ [some (N.ob (· + 1) l)]
theorem clipO_len {α : Type} {N : Nest α} {l : List α} : (clipO N l).length = l.length + 2 := by simp [clipO]
theorem clipO_at {α : Type} {N : Nest α} {l : List α} {j : Nat} {v : α} (h : l[j]? = some v) : (clipO N l)[j + 1]? = some (some (N.ob1 v)) := by
  have hj := (List.getElem?_eq_some_iff.1 h).1
  simp only [clipO, List.cons_append, List.getElem?_cons_succ]
  rw [List.getElem?_append_left (by simpa using hj), List.getElem?_map, h]; rfl
theorem clipO_end {α : Type} {N : Nest α} {l : List α} : (clipO N l)[l.length + 1]? = some (some (N.ob (· + 1) l)) := by
  simp only [clipO, List.cons_append, List.getElem?_cons_succ]
  rw [List.getElem?_append_right (by simp)]
  simp
def S_nclip {α : Type} (N : Nest α) : MSpec := mkM (α := List α) (fun _ => [ow0]) N.In (fun _ => True) (fun l r obs' => r = .w (.o (.ow (l.length + 1))) ∧ obs' = clipO N l) 0
  (fun l _ => ⟨_, _, ⟨rfl, rfl⟩, okw (by rw [clipO_len]; omega), fun j o h => by
    rw [clipO_len]
    rcases Nat.lt_trichotomy j (l.length + 1) with hj | hj | hj
    · cases j with
      | zero => simp [clipO] at h
      | succ j =>
        rw [clipO_at (List.getElem?_eq_getElem (show j < l.length by omega))] at h
        cases h; exact arA_ok _
    · subst hj
      rw [clipO_end] at h
      cases h; exact Nest.ob_ok (by omega)
    · rw [List.getElem?_eq_none (by rw [clipO_len]; omega)] at h; cases h⟩)
  (fun l r obs' ⟨_, h⟩ => by rw [h, clipO_len, Nest.In_len]; omega)
theorem K_nclip {α : Type} {N : Nest α} {l : List α} {r : AV} {obs' : List (Option Ob)} (h : (S_nclip N).post [ow0] (N.In l) r obs') : r = .w (.o (.ow (l.length + 1))) ∧ obs' = clipO N l :=
  mkM_post (enc := fun _ => [ow0]) (ob := N.In) (fun _ _ _ h => Nest.In_inj h) h
section
variable {α : Type} {N : Nest α} {H : Hp} {b k : Nat} {f : Nat → Nat} {l : List α}
variable {P : Program} {g : Nat} {fr : Env} {nm nx rm rm' lim : Nat} {K : KV} {xs : List (X × List (Option Nat))} {res : List Rs} {post : AV → List (Option Ob) → Prop}
theorem mq_nclip (hv : ValidM P g (S_nclip N)) (hl : rm ≤ LIM) (h : N.At H b k f l) (hb : b ≤ nm) (ha : nrmArgs fr xs = [.w (.o (.ow k))])
    (hK : ∀ (n : Nat) (H' : Hp), nm = n → N.At H' (n + 1) n f l → (∀ i, i ≠ n → N.Off k f l i → H' i = H i) → K (.w (.o (.ow n))) H' rm) : MQ P nm fr H rm K g (S_nclip N) xs := by
  have hρ0 : nmapS 0 (nks k f l.length) nm 0 = k := nmap_lt (s := 0) rfl
  have hρ : ∀ j, j < l.length → nmapS 0 (nks k f l.length) nm (j + 1) = f j := fun j hj => nmap_lt (nks_at hj)
  have hρe : nmapS 0 (nks k f l.length) nm (l.length + 1) = nm := by
    have := nmap_next (s := 0) (ks := nks k f l.length) (nm := nm)
    rwa [nks_len] at this
  have hkb := h.lt
  refine ⟨⟨hv, hl, nks k f l.length, [ow0], N.In l, h.nodup, by rw [Nest.In_len, nks_len], fun i k' hi => ?_, ?_, ⟨l, rfl, rfl, trivial⟩, fun r obs' hp _ _ => ?_⟩⟩
  · cases i with
    | zero => cases hi; exact ⟨_, rfl, by rw [show (S_nclip N).st = 0 from rfl, Nest.ob_ren (f := f) hρ]; exact h.out⟩
    | succ j =>
      have hj : j < l.length := by
        have := (List.getElem?_eq_some_iff.1 hi).1
        rw [nks_len] at this; omega
      rw [nks_at hj] at hi
      cases hi
      have hx := List.getElem?_eq_getElem hj
      exact ⟨_, Nest.In_at hx, by rw [Nest.ob1_ren]; exact h.inn j _ hx⟩
  · rw [ha]
    show [AV.w (.o (.ow (nmapS 0 _ nm 0)))] = _
    rw [hρ0]
  · obtain ⟨rfl, rfl⟩ := K_nclip hp
    rw [show (S_nclip N).st = 0 from rfl]
    have hcase : ∀ j, j < l.length + 2 → (j = 0 ∧ nmapS 0 (nks k f l.length) nm j = k) ∨ (∃ i, i < l.length ∧ j = i + 1 ∧ nmapS 0 (nks k f l.length) nm j = f i) ∨ (j = l.length + 1 ∧ nmapS 0 (nks k f l.length) nm j = nm) := by
      intro j hj
      cases j with
      | zero => exact .inl ⟨rfl, hρ0⟩
      | succ i =>
        rcases Nat.lt_or_ge i l.length with hi | hi
        · exact .inr (.inl ⟨i, hi, rfl, hρ i hi⟩)
        · have : i = l.length := by omega
          subst this
          exact .inr (.inr ⟨rfl, hρe⟩)
    have hget := hput_at (nmapS 0 (nks k f l.length) nm) (clipO N l) 0 H (fun j j' _ h1 _ h2 e => by
      rw [clipO_len] at h1 h2
      rcases hcase j (by omega) with ⟨rfl, e1⟩ | ⟨i, hi, rfl, e1⟩ | ⟨rfl, e1⟩ <;> rcases hcase j' (by omega) with ⟨rfl, e2⟩ | ⟨i', hi', rfl, e2⟩ | ⟨rfl, e2⟩ <;> replace e := e1.symm.trans (e.trans e2)
      · rfl
      · exact absurd e.symm (h.ne i' hi')
      · omega
      · exact absurd e (h.ne i hi)
      · rw [h.inj i i' hi hi' e]
      · have := h.lts i hi; omega
      · omega
      · have := h.lts i' hi'; omega
      · rfl)
    have e0 : (AV.w (.o (.ow nm))) = (AV.w (.o (.ow (l.length + 1)))).ren (nmapS 0 (nks k f l.length) nm) := by
      show AV.w (.o (.ow nm)) = AV.w (.o (.ow (nmapS 0 (nks k f l.length) nm (l.length + 1))))
      rw [hρe]
    rw [← e0]
    refine hK nm _ rfl ⟨?_, fun j v hj => ?_, fun j hj => by have := h.lts j hj; omega, h.inj, by omega, fun j hj => by have := h.lts j hj; omega⟩ fun i hi hi' => ?_
    · have := hget.1 (l.length + 1) _ clipO_end
      rw [Nat.zero_add, hρe] at this
      refine this.trans ?_
      show some ((N.ob (· + 1) l).ren _) = _
      rw [Nest.ob_ren (f := f) hρ]
    · have hlt := (List.getElem?_eq_some_iff.1 hj).1
      have := hget.1 (j + 1) _ (clipO_at hj)
      rw [Nat.zero_add, hρ j (by omega)] at this
      rw [this]
      show some ((N.ob1 v).ren _) = _
      rw [Nest.ob1_ren]
    · refine hget.2 i fun j _ hj e => ?_
      rw [clipO_len] at hj
      rcases hcase j (by omega) with ⟨rfl, e1⟩ | ⟨q, hq, rfl, e1⟩ | ⟨rfl, e1⟩
      · exact hi'.1 (e.symm.trans e1)
      · exact hi'.2 q hq (e1.symm.trans e)
      · exact hi (e.symm.trans e1)
theorem finM_nclip {M : Nat} (hM : M = l.length + 1) (hrm : rm' ≤ lim) (h0 : H 0 = none) (hk : H k = some (N.ob (· + 1) l)) (hkl : l.length < k) (hf : ∀ j v, l[j]? = some v → H (j + 1) = some (N.ob1 v)) (hres : resM (List.range (l.length + 1) ++ [k]) fr H res [.o (.ow k)])
    (hpost : post (.w (.o (.ow (l.length + 1)))) (clipO N l)) :
    rm' ≤ lim ∧ ∃ (ks : List Nat) (az : List AW) (r : AV) (obs' : List (Option Ob)), resM ks fr H res az ∧ resV az = r.ren (nmap ks nx) ∧ post r obs' ∧
      ks.Nodup ∧ (∀ i, i < M → ks[i]? = some i) ∧ obs'.length = ks.length ∧
      ∀ (i k : Nat), ks[i]? = some k → (∃ ob : Ob, obs'[i]? = some (some ob) ∧ H k = some (ob.ren (nmap ks nx))) ∨ (obs'[i]? = some none ∧ H k = none) := by
  have hat : ∀ j, j < l.length + 1 → (List.range (l.length + 1) ++ [k])[j]? = some j := fun j hj => by rw [List.getElem?_append_left (by simpa using hj)]; exact List.getElem?_range hj
  have hate : (List.range (l.length + 1) ++ [k])[l.length + 1]? = some k := by rw [List.getElem?_append_right (by simp)]; simp
  refine ⟨hrm, List.range (l.length + 1) ++ [k], _, .w (.o (.ow (l.length + 1))), _, hres, ?_, hpost, ?_, fun i hi => hat i (by omega), by rw [clipO_len]; simp, fun i k' hi => ?_⟩
  · show AV.w (.o (.ow k)) = AV.w (.o (.ow (nmap _ nx (l.length + 1))))
    have e : nmap (List.range (l.length + 1) ++ [k]) nx (l.length + 1) = k := nmap_lt (s := 0) hate
    rw [e]
  · rw [List.nodup_append]
    refine ⟨List.nodup_range, by simp, fun x hx y hy e => ?_⟩
    have := List.mem_range.1 hx
    simp only [List.mem_cons, List.not_mem_nil, or_false] at hy
    omega
  · have hi2 : i < l.length + 2 := by
      have := (List.getElem?_eq_some_iff.1 hi).1
      simpa using this
    rcases Nat.lt_or_ge i (l.length + 1) with hlt | hge
    · rw [hat i hlt] at hi
      cases hi
      cases i with
      | zero => exact .inr ⟨rfl, h0⟩
      | succ j =>
        have hx := List.getElem?_eq_getElem (show j < l.length by omega)
        refine .inl ⟨_, clipO_at hx, ?_⟩
        rw [Nest.ob1_ren]; exact hf j _ hx
    · have : i = l.length + 1 := by omega
      subst this
      rw [hate] at hi
      cases hi
      refine .inl ⟨_, clipO_end, ?_⟩
      rw [Nest.ob_ren (f := (· + 1)) (fun j hj => nmap_lt (hat (j + 1) (by omega)))]; exact hk
end
/-! ### a call to which its arguments are lent, and which hands back a nest -/
structure Nest.Plain {α : Type} (N : Nest α) : Prop where
  pp : ∀ a c, c ∈ N.pp a → ∃ v, c = .v v
  F1 : ∀ b c, c ∈ N.F1 b → ∃ v, c = .v v
theorem Nest.Plain.obs {α : Type} {N : Nest α} (hp : N.Plain) {l : List α} : ∀ (j : Nat) ob, (N.obs l)[j]? = some (some ob) → plainO ob := by
  intro j o h
  cases j with
  | zero =>
    cases h
    intro x hx c hc
    obtain ⟨i, hi⟩ := List.mem_iff_getElem?.1 hx
    simp only [Nest.K, List.getElem?_mapIdx, Option.map_eq_some_iff] at hi
    obtain ⟨v, hv, rfl⟩ := hi
    simp only [Nest.cell, List.mem_append, List.mem_map, List.mem_cons, List.not_mem_nil, or_false] at hc
    rcases hc with ⟨y, hy, rfl⟩ | rfl
    · obtain ⟨v, rfl⟩ := hp.pp _ _ hy; exact trivial
    · exact trivial
  | succ j =>
    simp only [Nest.obs, Nest.In, List.map_cons, List.getElem?_cons_succ, List.getElem?_map, Option.map_eq_some_iff] at h
    obtain ⟨v, ⟨u, _, rfl⟩, h⟩ := h
    cases h
    intro x hx c hc
    obtain ⟨z, _, rfl⟩ := List.mem_map.1 hx
    obtain ⟨w, hw, rfl⟩ := List.mem_map.1 hc
    obtain ⟨v, rfl⟩ := hp.F1 _ _ hw; exact trivial
section
variable {α : Type} {N : Nest α} {H : Hp} {l : List α}
variable {P : Program} {g : Nat} {S : MSpec} {fr : Env} {nm rm : Nat} {K : KV} {xs : List (X × List (Option Nat))}
end
def nV : Nest Vo where
  β := It
  T := ty_impl_Vote
  sz := 2
  pp v := [fI v.n]
  inn v := v.c
  T1 := ty_impl_Item
  s1 := 4
  F1 := itF
  ext a b h h' := by
    have h1 : a.c = b.c := arA_inj (fun _ _ h => itF_inj.1 h) h'
    have h2 : a.n = b.n := by simpa using h
    obtain ⟨x, y⟩ := a; obtain ⟨z, w⟩ := b
    dsimp only at h1 h2
    rw [h1, h2]
theorem nV_obs (l : List Vo) : nV.obs l = vosObs l := by
  show some _ :: (l.map nV.ob1).map some = some _ :: l.map fun v => some (itO v.c)
  rw [List.map_map]; rfl
end Av
end Go.Proofs.Ytdboofnogabefaa
