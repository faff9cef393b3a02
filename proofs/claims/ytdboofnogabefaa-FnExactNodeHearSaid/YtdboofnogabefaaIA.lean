/- A node, a vote and a yes or no, handed back with memory of their own: in general words. -/
import Derived.Test.YtdboofnogabefaaKD
set_option linter.unusedVariables false
set_option linter.unusedSimpArgs false
namespace Go.Proofs.Ytdboofnogabefaa
namespace Av
open Go.RowKit
/-- What was handed back, as a heap. -/
def hpO (obs' : List (Option Ob)) : Hp := fun i => (obs'[i]?).join
theorem hpO_some {obs' : List (Option Ob)} {i : Nat} {ob : Ob} : hpO obs' i = some ob ↔ obs'[i]? = some (some ob) := by
  unfold hpO
  cases h : obs'[i]? with
  | none => simp
  | some o => simp
/-- A vote's chain, beside a nest; b: surely an array. -/
def VcAt (H : Hp) (B : Nat) (b : Bool) (sk : AC) (f : Nat → Nat) (n : Nat) (c : List It) (cv : AC) : Prop :=
  (b = false ∧ cv = .e0 ∧ c = []) ∨ ∃ kv, cv = .ow kv ∧ kv < B ∧ H kv = some (itO c) ∧ sk ≠ .ow kv ∧ ∀ j, j < n → f j ≠ kv
/-- A node's votes; b: surely an array. -/
def SkAt (H : Hp) (B : Nat) (b : Bool) (sk : AC) (f : Nat → Nat) (l : List Vo) : Prop :=
  (b = false ∧ sk = .e0 ∧ l = []) ∨ ∃ k, sk = .ow k ∧ nV.At H B k f l
def triV (o : Tri) (sk cv : AC) : AV := .tup [.g [cI o.1.id, cI o.1.ep, cI o.1.vt, sk], .g [cI o.2.1.n, cv], .o (cB o.2.2)]
def TriO (b1 b2 : Bool) (n0 n1 : Nat) (o : Tri) (r : AV) (obs' : List (Option Ob)) : Prop :=
  n0 ≤ obs'.length ∧ obs'.length ≤ n1 ∧ (∀ (j : Nat) ob, obs'[j]? = some (some ob) → plainO ob) ∧
  ∃ sk cv f, r = triV o sk cv ∧ SkAt (hpO obs') obs'.length b1 sk f o.1.seen ∧ VcAt (hpO obs') obs'.length b2 sk f o.1.seen.length o.2.1.c cv
/-! ### names -/
section
variable {ρ σ : Nat → Nat} {D : Nat → Prop}
theorem renC_id (h : ∀ x, D x → ρ (σ x) = x) {c : AC} (hc : okC D c) : (c.ren σ).ren ρ = c := by
  cases c <;> simp only [AC.ren] <;> (try rw [h _ hc])
theorem renW_id (h : ∀ x, D x → ρ (σ x) = x) {c : AW} (hc : okW D c) : (c.ren σ).ren ρ = c := by
  cases c with
  | o c => exact congrArg AW.o (renC_id h hc)
  | g cs =>
    refine congrArg AW.g ?_
    rw [List.map_map]
    exact (List.map_congr_left fun c hx => renC_id h (hc c hx)).trans (List.map_id _)
theorem renV_id (h : ∀ x, D x → ρ (σ x) = x) {c : AV} (hc : okV D c) : (c.ren σ).ren ρ = c := by
  cases c with
  | w c => exact congrArg AV.w (renW_id h hc)
  | fn f a b =>
    simp only [AV.ren, List.map_map]
    congr 1
    · exact (List.map_congr_left fun c hx => renW_id h (hc.1 c hx)).trans (List.map_id _)
    · exact (List.map_congr_left fun c hx => renW_id h (hc.2 c hx)).trans (List.map_id _)
  | tup xs =>
    refine congrArg AV.tup ?_
    rw [List.map_map]
    exact (List.map_congr_left fun c hx => renW_id h (hc c hx)).trans (List.map_id _)
theorem renO_id (h : ∀ x, D x → ρ (σ x) = x) {ob : Ob} (hc : okOb D ob) : (ob.ren σ).ren ρ = ob := by
  cases ob with
  | cells cs =>
    refine congrArg Ob.cells ?_
    rw [List.map_map]
    exact (List.map_congr_left fun c hx => renC_id h (hc c hx)).trans (List.map_id _)
  | arr T sz xs =>
    refine congrArg (Ob.arr T sz) ?_
    rw [List.map_map]
    refine (List.map_congr_left fun x hx => ?_).trans (List.map_id _)
    show (x.map _).map _ = x
    rw [List.map_map]
    exact (List.map_congr_left fun c hc' => renC_id h (hc x hx c hc')).trans (List.map_id _)
  | tok _ _ _ => rfl
  | rd _ => rfl
end
theorem okOb_ren' {n : Nat} {ks : List Nat} {ρ : Nat → Nat} {ob : Ob} (h : okOb (· < n) ob) (hm : ∀ i, i < n → ρ i ∈ ks) : okOb (· ∈ ks) (ob.ren ρ) := by
  have hC : ∀ c : AC, okC (· < n) c → okC (· ∈ ks) (c.ren ρ) := fun c hc => by
    cases c <;> first | trivial | exact hm _ hc
  cases ob with
  | cells cs =>
    intro c hc
    obtain ⟨d, hd, rfl⟩ := List.mem_map.1 hc
    exact hC d (h d hd)
  | arr T sz xs =>
    intro x hx c hc
    obtain ⟨y, hy, rfl⟩ := List.mem_map.1 hx
    obtain ⟨d, hd, rfl⟩ := List.mem_map.1 hc
    exact hC d (h y hy d hd)
  | tok _ _ _ => trivial
  | rd _ => trivial
theorem plain_ren {ob : Ob} {ρ : Nat → Nat} (h : plainO ob) : plainO (ob.ren ρ) := by
  cases ob with
  | arr T sz xs =>
    intro x hx c hc
    obtain ⟨y, hy, rfl⟩ := List.mem_map.1 hx
    obtain ⟨d, hd, rfl⟩ := List.mem_map.1 hc
    have := h y hy d hd
    cases d <;> first | exact this | exact this.elim
  | _ => exact h.elim
section
variable {fr : Env} {H : Hp} {nx rm' lim : Nat} {res : List Rs} {post : AV → List (Option Ob) → Prop}
/-- What is handed back, with any names: in the order of a list of names. -/
theorem finM_gen {ks : List Nat} {M : Nat} {az : List AW} (hrm : rm' ≤ lim) (hnd : ks.Nodup) (hM : ∀ i, i < M → ks[i]? = some i) (hres : resM ks fr H res az) (hr : okV (· ∈ ks) (resV az))
    (hob : ∀ x ob, x ∈ ks → H x = some ob → okOb (· ∈ ks) ob)
    (hpost : ∀ σ : Nat → Nat, (∀ i x, ks[i]? = some x → σ x = i) → post ((resV az).ren σ) (ks.map fun x => (H x).map (Ob.ren σ))) : rm' ≤ lim ∧ ∃ (ks : List Nat) (az : List AW) (r : AV) (obs' : List (Option Ob)), resM ks fr H res az ∧ resV az = r.ren (nmap ks nx) ∧ post r obs' ∧
      ks.Nodup ∧ (∀ i, i < M → ks[i]? = some i) ∧ obs'.length = ks.length ∧
      ∀ (i k : Nat), ks[i]? = some k → (∃ ob : Ob, obs'[i]? = some (some ob) ∧ H k = some (ob.ren (nmap ks nx))) ∨ (obs'[i]? = some none ∧ H k = none) := by
  have hσ : ∀ i x, ks[i]? = some x → ks.idxOf x = i := fun i x h => by
    obtain ⟨hi, rfl⟩ := List.getElem?_eq_some_iff.1 h
    exact hnd.idxOf_getElem i hi
  have hρ : ∀ x, x ∈ ks → nmap ks nx (ks.idxOf x) = x := fun x hx => by
    obtain ⟨i, hi⟩ := List.mem_iff_getElem?.1 hx
    rw [hσ i x hi]; exact nmap_lt (s := 0) hi
  refine ⟨hrm, ks, az, (resV az).ren fun x => ks.idxOf x, _, hres, (renV_id hρ hr).symm, hpost _ hσ, hnd, hM, by simp, fun i k hk => ?_⟩
  cases h1 : H k with
  | none => exact .inr ⟨by rw [List.getElem?_map, hk, Option.map_some, h1]; rfl, rfl⟩
  | some ob => exact .inl ⟨ob.ren _, by rw [List.getElem?_map, hk, Option.map_some, h1]; rfl, by rw [renO_id hρ (hob k ob (List.mem_of_getElem? hk) h1)]⟩
end
section
variable {H : Hp} {b k : Nat} {f : Nat → Nat} {l : List Vo} {ks : List Nat} {σ : Nat → Nat}
theorem hpO_map (hσ : ∀ i x, ks[i]? = some x → σ x = i) {x : Nat} (hx : x ∈ ks) : hpO (ks.map fun x => (H x).map (Ob.ren σ)) (σ x) = (H x).map (Ob.ren σ) := by
  obtain ⟨i, hi⟩ := List.mem_iff_getElem?.1 hx
  rw [hσ i x hi]
  unfold hpO
  rw [List.getElem?_map, hi]; rfl
theorem map_inj_σ (hσ : ∀ i x, ks[i]? = some x → σ x = i) {x y : Nat} (hx : x ∈ ks) (hy : y ∈ ks) (h : σ x = σ y) : x = y := by
  obtain ⟨i, hi⟩ := List.mem_iff_getElem?.1 hx
  obtain ⟨j, hj⟩ := List.mem_iff_getElem?.1 hy
  rw [hσ i x hi, hσ j y hj] at h
  subst h
  exact Option.some.inj (hi.symm.trans hj)
theorem lt_σ (hσ : ∀ i x, ks[i]? = some x → σ x = i) {x : Nat} (hx : x ∈ ks) : σ x < ks.length := by
  obtain ⟨i, hi⟩ := List.mem_iff_getElem?.1 hx
  rw [hσ i x hi]; exact (List.getElem?_eq_some_iff.1 hi).1
/-- A nest, under the names of what is handed back. -/
theorem Nest.At.toO (h : nV.At H b k f l) (hσ : ∀ i x, ks[i]? = some x → σ x = i) (hk : k ∈ ks) (hf : ∀ j, j < l.length → f j ∈ ks) :
    nV.At (hpO (ks.map fun x => (H x).map (Ob.ren σ))) (ks.map fun x => (H x).map (Ob.ren σ)).length (σ k) (fun j => σ (f j)) l := by
  refine ⟨?_, fun j v hj => ?_, fun j hj e => ?_, fun j j' hj hj' e => ?_, ?_, fun j hj => ?_⟩
  · rw [hpO_map hσ hk, h.out]
    exact congrArg some (Nest.ob_ren (f := fun j => σ (f j)) fun j _ => rfl)
  · rw [hpO_map hσ (hf j (List.getElem?_eq_some_iff.1 hj).1), h.inn j v hj]
    exact congrArg some Nest.ob1_ren
  · exact h.ne j hj (map_inj_σ hσ (hf j hj) hk e)
  · exact h.inj j j' hj hj' (map_inj_σ hσ (hf j hj) (hf j' hj') e)
  · rw [List.length_map]; exact lt_σ hσ hk
  · rw [List.length_map]; exact lt_σ hσ (hf j hj)
end
section
variable {P : Program} {g : Nat} {S : MSpec} {fr : Env} {H : Hp} {b k nm rm : Nat} {f : Nat → Nat} {l : List Vo} {K : KV} {xs : List (X × List (Option Nat))}
theorem triV_ren (o : Tri) (k : Nat) (cv : AC) (ρ : Nat → Nat) : (triV o (.ow k) cv).ren ρ = triV o (.ow (ρ k)) (cv.ren ρ) := rfl
/-- What a call brings, under the caller's names. -/
theorem tri_names {ρ : Nat → Nat} {obs' : List (Option Ob)} {o : Tri} {k0 : Nat} {f0 : Nat → Nat} {cv : AC} {B : Nat} {b2 : Bool} (hinj : ∀ i j, i < obs'.length → j < obs'.length → ρ i = ρ j → i = j) (hB : ∀ i, i < obs'.length → ρ i < B)
    (hA : nV.At (hpO obs') obs'.length k0 f0 o.1.seen) (hV : VcAt (hpO obs') obs'.length b2 (.ow k0) f0 o.1.seen.length o.2.1.c cv) :
    nV.At (hput ρ 0 obs' H) B (ρ k0) (fun j => ρ (f0 j)) o.1.seen ∧ VcAt (hput ρ 0 obs' H) B b2 (.ow (ρ k0)) (fun j => ρ (f0 j)) o.1.seen.length o.2.1.c (cv.ren ρ) := by
  have hget := hput_at ρ obs' 0 H (fun j j' _ h1 _ h2 e => hinj j j' (by omega) (by omega) e)
  have hat : ∀ i ob, hpO obs' i = some ob → hput ρ 0 obs' H (ρ i) = some (ob.ren ρ) := fun i ob h => by
    have := hget.1 i _ (hpO_some.1 h)
    rwa [Nat.zero_add] at this
  refine ⟨⟨?_, fun j v hj => ?_, fun j hj e => ?_, fun j j' hj hj' e => ?_, hB _ hA.lt, fun j hj => hB _ (hA.lts j hj)⟩, ?_⟩
  · rw [hat _ _ hA.out]
    exact congrArg some (Nest.ob_ren (f := fun j => ρ (f0 j)) fun j _ => rfl)
  · rw [hat _ _ (hA.inn j v hj)]
    exact congrArg some Nest.ob1_ren
  · exact hA.ne j hj (hinj _ _ (hA.lts j hj) hA.lt e)
  · exact hA.inj j j' hj hj' (hinj _ _ (hA.lts j hj) (hA.lts j' hj') e)
  · rcases hV with ⟨h1, rfl, h2⟩ | ⟨kv, rfl, h1, h2, h3, h4⟩
    · exact .inl ⟨h1, rfl, h2⟩
    · refine .inr ⟨ρ kv, rfl, hB _ h1, ?_, fun e => ?_, fun j hj e => h4 j hj (hinj _ _ (hA.lts j hj) h1 e)⟩
      · rw [hat _ _ h2]
        exact congrArg some (arr_ren ..)
      · have := hinj _ _ hA.lt h1 (AC.ow.inj e)
        exact h3 (by rw [this])
/-- A node and a vote, in memory that none but the names of a list show. -/
structure TriAt (H : Hp) (B : Nat) (ks : List Nat) (b2 : Bool) (o : Tri) (k : Nat) (f : Nat → Nat) (cv : AC) : Prop where
  nd : ks.Nodup
  ob : ∀ x ob, x ∈ ks → H x = some ob → okOb (· ∈ ks) ob ∧ plainO ob
  at' : nV.At H B k f o.1.seen
  k' : k ∈ ks
  f' : ∀ j, j < o.1.seen.length → f j ∈ ks
  vc : VcAt H B b2 (.ow k) f o.1.seen.length o.2.1.c cv
  kv : ∀ x, cv = .ow x → x ∈ ks
theorem TriAt.same {H H' : Hp} {B B' : Nat} {ks : List Nat} {b2 : Bool} {o : Tri} {k : Nat} {f : Nat → Nat} {cv : AC} (h : TriAt H B ks b2 o k f cv) (hB : B ≤ B') (hs : ∀ x, x ∈ ks → H' x = H x) : TriAt H' B' ks b2 o k f cv :=
  ⟨h.nd, fun x ob hx e => h.ob x ob hx (by rw [← hs x hx]; exact e), ⟨(hs _ h.k').trans h.at'.out, fun j v hj => (hs _ (h.f' j (List.getElem?_eq_some_iff.1 hj).1)).trans (h.at'.inn j v hj), h.at'.ne, h.at'.inj, Nat.lt_of_lt_of_le h.at'.lt hB, fun j hj => Nat.lt_of_lt_of_le (h.at'.lts j hj) hB⟩, h.k', h.f',
    by
      rcases h.vc with h1 | ⟨kv, rfl, h1, h2, h3⟩
      · exact .inl h1
      · exact .inr ⟨kv, rfl, Nat.lt_of_lt_of_le h1 hB, (hs _ (h.kv _ rfl)).trans h2, h3⟩, h.kv⟩
theorem okOb_in {D D' : Nat → Prop} (h : ∀ x, D x → D' x) {ob : Ob} (hb : okOb D ob) : okOb D' ob := okOb_mono h hb
theorem TriAt.more {H : Hp} {B : Nat} {ks ks' : List Nat} {b2 : Bool} {o : Tri} {k : Nat} {f : Nat → Nat} {cv : AC} (h : TriAt H B ks b2 o k f cv) (hsub : ∀ x, x ∈ ks → x ∈ ks') (hnd : ks'.Nodup) (hnew : ∀ x ob, x ∈ ks' → H x = some ob → x ∈ ks ∨ (okOb (· ∈ ks') ob ∧ plainO ob)) : TriAt H B ks' b2 o k f cv :=
  ⟨hnd, fun x ob hx e => by
    rcases hnew x ob hx e with h1 | h1
    · exact ⟨okOb_in hsub (h.ob x ob h1 e).1, (h.ob x ob h1 e).2⟩
    · exact h1, h.at', hsub _ h.k', fun j hj => hsub _ (h.f' j hj), h.vc, fun x hx => hsub _ (h.kv x hx)⟩
theorem nV_ob_ok {ks : List Nat} {f : Nat → Nat} {l : List Vo} (h : ∀ j, j < l.length → f j ∈ ks) : okOb (· ∈ ks) (nV.ob f l) := by
  intro x hx c hc
  obtain ⟨i, hi⟩ := List.mem_iff_getElem?.1 hx
  simp only [Nest.K, List.getElem?_mapIdx, Option.map_eq_some_iff] at hi
  obtain ⟨v, hv, rfl⟩ := hi
  have hlt := (List.getElem?_eq_some_iff.1 hv).1
  simp only [Nest.cell, List.mem_append, List.mem_map, List.mem_cons, List.not_mem_nil, or_false] at hc
  rcases hc with ⟨y, _, rfl⟩ | rfl
  · trivial
  · exact h i hlt
theorem nV_ob_plain {f : Nat → Nat} {l : List Vo} : plainO (nV.ob f l) := by
  intro x hx c hc
  obtain ⟨i, hi⟩ := List.mem_iff_getElem?.1 hx
  simp only [Nest.K, List.getElem?_mapIdx, Option.map_eq_some_iff] at hi
  obtain ⟨v, hv, rfl⟩ := hi
  simp only [Nest.cell, List.mem_append, List.mem_map, List.mem_cons, List.not_mem_nil, or_false] at hc
  rcases hc with ⟨y, hy, rfl⟩ | rfl
  · obtain ⟨v, rfl⟩ := nV_plain.pp _ _ hy; exact trivial
  · exact trivial
theorem itO_plain (c : List It) : plainO (itO c) := fun x hx y hy => by
  obtain ⟨v, rfl⟩ := itO_flat c x hx y hy
  trivial
/-- What a function that hands back a node and a vote ends with. -/
theorem finM_triO {fr : Env} {H : Hp} {nx rm' lim B M n0 n1 : Nat} {res : List Rs} {post : AV → List (Option Ob) → Prop} {ks : List Nat} {b2 : Bool} {o : Tri} {k : Nat} {f : Nat → Nat} {cv : AC} (h : TriAt H B ks b2 o k f cv) (hrm : rm' ≤ lim) (hM : ∀ i, i < M → ks[i]? = some i)
    (hres : resM ks fr H res [.g [cI o.1.id, cI o.1.ep, cI o.1.vt, .ow k], .g [cI o.2.1.n, cv], .o (cB o.2.2)]) (h0 : n0 ≤ ks.length) (h1 : ks.length ≤ n1) (hpost : ∀ r obs', TriO true b2 n0 n1 o r obs' → post r obs') : rm' ≤ lim ∧ ∃ (ks : List Nat) (az : List AW) (r : AV) (obs' : List (Option Ob)), resM ks fr H res az ∧ resV az = r.ren (nmap ks nx) ∧ post r obs' ∧
      ks.Nodup ∧ (∀ i, i < M → ks[i]? = some i) ∧ obs'.length = ks.length ∧
      ∀ (i k : Nat), ks[i]? = some k → (∃ ob : Ob, obs'[i]? = some (some ob) ∧ H k = some (ob.ren (nmap ks nx))) ∨ (obs'[i]? = some none ∧ H k = none) := by
  refine finM_gen hrm h.nd hM hres (fun c hc => ?_) (fun x ob hx e => (h.ob x ob hx e).1) fun σ hσ => hpost _ _ ⟨by rw [List.length_map]; exact h0, by rw [List.length_map]; exact h1, fun j ob hj => ?_, .ow (σ k), cv.ren σ, fun j => σ (f j), rfl, .inr ⟨_, rfl, h.at'.toO hσ h.k' h.f'⟩, ?_⟩
  · simp only [List.mem_cons, List.not_mem_nil, or_false] at hc
    rcases hc with rfl | rfl | rfl
    · intro c hc
      simp only [List.mem_cons, List.not_mem_nil, or_false] at hc
      rcases hc with rfl | rfl | rfl | rfl
      · trivial
      · trivial
      · trivial
      · exact h.k'
    · intro c hc
      simp only [List.mem_cons, List.not_mem_nil, or_false] at hc
      rcases hc with rfl | rfl
      · trivial
      · rcases h.vc with ⟨_, rfl, _⟩ | ⟨kv, rfl, _⟩
        · trivial
        · exact h.kv _ rfl
    · trivial
  · rw [List.getElem?_map] at hj
    obtain ⟨x, hx, e⟩ := Option.map_eq_some_iff.1 hj
    obtain ⟨ob0, e0, rfl⟩ := Option.map_eq_some_iff.1 e
    exact plain_ren (h.ob x ob0 (List.mem_of_getElem? hx) e0).2
  · rcases h.vc with ⟨g1, rfl, g2⟩ | ⟨kv, rfl, g1, g2, g3, g4⟩
    · exact .inl ⟨g1, rfl, g2⟩
    · have hkv := h.kv _ rfl
      refine .inr ⟨σ kv, rfl, by rw [List.length_map]; exact lt_σ hσ hkv, ?_, fun e => g3 (by rw [map_inj_σ hσ h.k' hkv (AC.ow.inj e)]), fun j hj e => g4 j hj (map_inj_σ hσ (h.f' j hj) hkv e)⟩
      rw [hpO_map hσ hkv, g2]
      exact congrArg some (arr_ren ..)
/-- A call that is handed a nest, and hands back a node and a vote. -/
theorem mq_tri0 {o : Tri} {b2 : Bool} {n1 : Nat} (hn1 : n1 ≤ l.length + 17) {args : List AV} (hv : ValidM P g S) (hc : S.cost = 0) (hst : S.st = 0) (hl : rm ≤ LIM) (h : nV.At H b k f l) (hb : b ≤ nm)
    (ha : ∀ ρ : Nat → Nat, ρ 0 = k → (∀ j, j < l.length → ρ (j + 1) = f j) → args.map (AV.ren ρ) = nrmArgs fr xs) (hpre : S.pre args (nV.In l))
    (hpost : ∀ r obs', S.post args (nV.In l) r obs' → TriO true b2 (l.length + 1) n1 o r obs')
    (hK : ∀ H' ks k' f' cv, TriAt H' (nm + 16) ks b2 o k' f' cv → (∀ i, i ≤ l.length → ks[i]? = (nks k f l.length)[i]?) → (∀ x, x ∈ ks → x ∈ nks k f l.length ∨ (nm ≤ x ∧ x < nm + 16)) → l.length + 1 ≤ ks.length → ks.length ≤ n1 → (∀ i, i < nm → nV.Off k f l i → H' i = H i) → K (triV o (.ow k') cv) H' rm) : MQ P nm fr H rm K g S xs := by
  have hρ0 : nmapS S.st (nks k f l.length) nm 0 = k := nmap_lt (s := S.st) rfl
  have hρ : ∀ j, j < l.length → nmapS S.st (nks k f l.length) nm (j + 1) = f j := fun j hj => nmap_lt (nks_at hj)
  refine ⟨⟨hv, by rw [hc]; exact hl, nks k f l.length, args, nV.In l, h.nodup, by rw [Nest.In_len, nks_len], fun i k' hi => ?_, ha _ hρ0 hρ, hpre, fun r obs' hp hrok hobok => ?_⟩⟩
  · cases i with
    | zero => cases hi; exact ⟨_, rfl, by rw [Nest.ob_ren (f := f) hρ]; exact h.out⟩
    | succ j =>
      have hj : j < l.length := by
        have := (List.getElem?_eq_some_iff.1 hi).1
        rw [nks_len] at this; omega
      rw [nks_at hj] at hi
      cases hi
      have hx := List.getElem?_eq_getElem hj
      exact ⟨_, Nest.In_at hx, by rw [Nest.ob1_ren]; exact h.inn j _ hx⟩
  · obtain ⟨h1, h2, hpl, sk, cv, f0, rfl, hS, hV⟩ := hpost r obs' hp
    rcases hS with ⟨h0, _⟩ | ⟨k0, rfl, hA⟩
    · cases h0
    have hbig : ∀ i, l.length + 1 ≤ i → i < l.length + 17 → nmapS S.st (nks k f l.length) nm i = nm + (i - (l.length + 1)) := fun i g1 g2 => by
      unfold nmapS
      rw [dif_neg (by rw [nks_len]; omega), nks_len, hst, Nat.min_eq_left (by omega)]
    have hsm : ∀ i, i < l.length + 1 → nmapS S.st (nks k f l.length) nm i < b := fun i hi => by
      cases i with
      | zero => rw [hρ0]; exact h.lt
      | succ j => rw [hρ j (by omega)]; exact h.lts j (by omega)
    have hinj : ∀ i j, i < obs'.length → j < obs'.length → nmapS S.st (nks k f l.length) nm i = nmapS S.st (nks k f l.length) nm j → i = j := fun i j hi hj e => by
      rcases Nat.lt_or_ge i (l.length + 1) with g1 | g1 <;> rcases Nat.lt_or_ge j (l.length + 1) with g2 | g2
      · cases i with
        | zero =>
          cases j with
          | zero => rfl
          | succ j => rw [hρ0, hρ j (by omega)] at e; exact absurd e.symm (h.ne j (by omega))
        | succ i =>
          cases j with
          | zero => rw [hρ0, hρ i (by omega)] at e; exact absurd e (h.ne i (by omega))
          | succ j =>
            rw [hρ i (by omega), hρ j (by omega)] at e
            rw [h.inj i j (by omega) (by omega) e]
      · have := hsm i g1; rw [e, hbig j g2 (by omega)] at this; omega
      · have := hsm j g2; rw [← e, hbig i g1 (by omega)] at this; omega
      · rw [hbig i g1 (by omega), hbig j g2 (by omega)] at e; omega
    have hB : ∀ i, i < obs'.length → nmapS S.st (nks k f l.length) nm i < nm + 16 := fun i hi => by
      rcases Nat.lt_or_ge i (l.length + 1) with g1 | g1
      · have := hsm i g1; omega
      · rw [hbig i g1 (by omega)]; omega
    obtain ⟨q1, q2⟩ := tri_names (H := H) hinj hB hA hV
    rw [triV_ren, hc, Nat.add_zero]
    have hget := hput_at (nmapS S.st (nks k f l.length) nm) obs' 0 H (fun j j' _ h1 _ h2 e => hinj j j' (by omega) (by omega) e)
    have hmem : ∀ i, i < obs'.length → nmapS S.st (nks k f l.length) nm i ∈ (List.range obs'.length).map (nmapS S.st (nks k f l.length) nm) := fun i hi => List.mem_map_of_mem (List.mem_range.2 hi)
    refine hK _ ((List.range obs'.length).map (nmapS S.st (nks k f l.length) nm)) _ _ _ ⟨?_, fun x ob hx e => ?_, q1, hmem _ hA.lt, fun j hj => hmem _ (hA.lts j hj), q2, fun x hx => ?_⟩ (fun i hi => ?_) (fun x hx => ?_) (by simpa using h1) (by simpa using h2) fun i hi ho => hget.2 i fun j _ hj e => ?_
    · rw [List.Nodup, List.pairwise_iff_getElem]
      intro i j hi hj hij e
      simp only [List.length_map, List.length_range] at hi hj
      simp only [List.getElem_map, List.getElem_range] at e
      have := hinj i j hi hj e
      omega
    · obtain ⟨i, hi, rfl⟩ := List.mem_map.1 hx
      have hi' := List.mem_range.1 hi
      have e1 := hget.1 i _ (List.getElem?_eq_getElem hi')
      rw [Nat.zero_add, e] at e1
      obtain ⟨ob0, e2, rfl⟩ := Option.map_eq_some_iff.1 e1.symm
      have e3 : obs'[i]? = some (some ob0) := by rw [List.getElem?_eq_getElem hi', e2]
      exact ⟨okOb_ren' (hobok i ob0 e3) hmem, plain_ren (hpl i ob0 e3)⟩
    · rcases hV with ⟨_, rfl, _⟩ | ⟨kv, rfl, g1, _⟩
      · cases hx
      · have := AC.ow.inj hx
        rw [← this]; exact hmem _ g1
    · rw [List.getElem?_map, List.getElem?_range (show i < obs'.length by omega), Option.map_some]
      exact (congrArg some (nmap_lt (s := S.st) (List.getElem?_eq_getElem (show i < (nks k f l.length).length by rw [nks_len]; omega)))).trans (List.getElem?_eq_getElem _).symm
    · obtain ⟨i, hi, rfl⟩ := List.mem_map.1 hx
      have hi' := List.mem_range.1 hi
      rcases Nat.lt_or_ge i (l.length + 1) with g1 | g1
      · left
        have := nmap_lt (s := S.st) (nm := nm) (List.getElem?_eq_getElem (show i < (nks k f l.length).length by rw [nks_len]; omega))
        rw [this]; exact List.getElem_mem _
      · right; rw [hbig i g1 (by omega)]; omega
    · rcases Nat.lt_or_ge j (l.length + 1) with g1 | g1
      · cases j with
        | zero => rw [hρ0] at e; exact ho.1 e.symm
        | succ j => rw [hρ j (by omega)] at e; exact ho.2 j (by omega) e
      · rw [hbig j g1 (by omega)] at e; omega
/-- A call to which its arguments are lent, and that hands back a node and a vote. -/
theorem bq_tri {o : Tri} {ar : List AV} {n1 : Nat} (hv : ValidM P g S) (hc : S.cost = 0) (ha : borArgs fr H xs = ar) (hpre : S.pre ar []) (hcl : ar.all clV = true) (hn1 : n1 ≤ 16 + S.st)
    (hpost : ∀ r obs', S.post ar [] r obs' → TriO true true 0 n1 o r obs')
    (hK : ∀ n H' k f kv, nm = n → nV.At H' (n + n1) k f o.1.seen → H' kv = some (itO o.2.1.c) → n ≤ k → (∀ j, n ≤ f j) → n ≤ kv → kv < n + n1 → kv ≠ k → (∀ j, j < o.1.seen.length → f j ≠ kv) → (∀ i, i < n → H' i = H i) → K (triV o (.ow k) (.ow kv)) H' rm) : BQ P nm fr H rm K g S xs := by
  refine BQ.mk1 ha hv hc hpre hcl (fun r obs' hp => ?_) fun r obs' hp => ?_
  · obtain ⟨h1, h2, h3, sk, cv, f0, rfl, hS, hV⟩ := hpost r obs' hp
    rcases hS with ⟨h0, _⟩ | ⟨k0, rfl, hA⟩
    · cases h0
    rcases hV with ⟨h0, _⟩ | ⟨kv, rfl, g1, g2, g3, g4⟩
    · cases h0
    refine ⟨fun c hc => ?_, h3⟩
    simp only [triV, List.mem_cons, List.not_mem_nil, or_false] at hc
    rcases hc with rfl | rfl | rfl
    · intro c hc
      simp only [List.mem_cons, List.not_mem_nil, or_false] at hc
      rcases hc with rfl | rfl | rfl | rfl <;> trivial
    · intro c hc
      simp only [List.mem_cons, List.not_mem_nil, or_false] at hc
      rcases hc with rfl | rfl <;> trivial
    · trivial
  · obtain ⟨h1, h2, h3, sk, cv, f0, rfl, hS, hV⟩ := hpost r obs' hp
    rcases hS with ⟨h0, _⟩ | ⟨k0, rfl, hA⟩
    · cases h0
    have hρ : ∀ i, i < obs'.length → nmapS S.st [] nm i = nm + i := fun i hi => by
      simp only [nmapS, List.length_nil, Nat.not_lt_zero, dite_false, Nat.sub_zero]
      omega
    have hge : ∀ i, nm ≤ nmapS S.st [] nm i := fun i => by
      simp only [nmapS, List.length_nil, Nat.not_lt_zero, dite_false, Nat.sub_zero]
      omega
    have hinj : ∀ i j, i < obs'.length → j < obs'.length → nmapS S.st [] nm i = nmapS S.st [] nm j → i = j := fun i j hi hj e => by
      rw [hρ i hi, hρ j hj] at e; omega
    obtain ⟨q1, q2⟩ := tri_names (H := H) (B := nm + n1) hinj (fun i hi => by rw [hρ i hi]; omega) hA hV
    have hget := hput_at (nmapS S.st [] nm) obs' 0 H (fun j j' _ h1 _ h2 e => hinj j j' (by omega) (by omega) e)
    rcases hV with ⟨h0, _⟩ | ⟨kv, rfl, g1, g2, g3, g4⟩
    · cases h0
    rcases q2 with ⟨h0, _⟩ | ⟨kv', e', p1, p2, p3, p4⟩
    · cases h0
    have e2 : nmapS S.st [] nm kv = kv' := AC.ow.inj e'
    subst e2
    rw [triV_ren]
    refine hK nm _ _ _ _ rfl q1 p2 (hge _) (fun j => hge _) (hge _) p1 (fun e => p3 (by rw [e])) p4 fun i hi => hget.2 i fun j _ hj e => ?_
    have := hge j; omega
end
/-! ### an empty slice as such, and as an empty array -/
theorem valid_e0tt {P : Program} {f : Nat} {S S' : MSpec} (hv : ValidM P f S) (hc : S.cost = S'.cost) (hpre : ∀ args obs, S'.pre args obs → S.pre args obs)
    (hpost : ∀ args obs r obs', S'.pre args obs → S.post args obs r obs' → (∃ xs p cs q, r = .tup xs ∧ xs[p]? = some (.g cs) ∧ cs[q]? = some .e0 ∧ ∃ T sz, S'.post args obs (.tup (xs.set p (.g (cs.set q (.ow obs'.length))))) (obs' ++ [some (.arr T sz [])])) ∨ S'.post args obs r obs') : ValidM P f S' := by
  refine ⟨hv.1, fun args obs rm hp hlim => ?_⟩
  intro V O own w vals hsub hO hown huniq hvo hobs hargs
  refine (hv.2 args obs rm (hpre _ _ hp) (by rw [hc]; exact hlim) V O own w vals hsub hO hown huniq hvo hobs hargs).mono ?_
  rintro e w' ⟨v, r, obs', V', O', own', he, q1, q2, q3, q4, q5, q6, q7, q8, q9, q10, q11, q12⟩
  rcases hpost _ _ _ _ hp q1 with ⟨xs, p, cs, q, rfl, hxp, hcq, T, sz, hob⟩ | hq
  · obtain ⟨l, hl1, hl2, hl3⟩ := q2
    have hpl : p < l.length := by rw [hl2]; exact (List.getElem?_eq_some_iff.1 hxp).1
    obtain ⟨y, hy⟩ : ∃ y, l[p]? = some y := ⟨_, List.getElem?_eq_getElem hpl⟩
    obtain ⟨m, rfl, hm2, hm3⟩ := hl3 p y _ hy hxp
    have hqm : q < m.length := by rw [hm2]; exact (List.getElem?_eq_some_iff.1 hcq).1
    obtain ⟨x, hx⟩ : ∃ x, m[q]? = some x := ⟨_, List.getElem?_eq_getElem hqm⟩
    obtain ⟨⟨A, hA⟩, h1⟩ := hm3 q x _ hx hcq
    have hle : ∀ k u, O' k = some u → (if k = obs'.length then some x else O' k) = some u := fun k u e => by
      have := q6 k u e
      rw [if_neg (by omega)]; exact e
    refine ⟨v, _, _, V', fun k => if k = obs'.length then some x else O' k, own', he, hob, ⟨l, hl1, by rw [hl2, List.length_set], fun i y c hy' hci => ?_⟩, q3, q4, fun k u e => hle k u (q5 k u e), fun k u e => ?_, fun k ob e => ?_, fun b o u e => ?_, fun b k e => ?_, q10, q11, q12⟩
    · rw [List.getElem?_set] at hci
      split at hci
      · rename_i hpi
        subst hpi
        rw [if_pos (by rw [← hl2]; exact hpl)] at hci
        cases hci
        rw [hy] at hy'; cases hy'
        refine ⟨m, rfl, by rw [hm2, List.length_set], fun i z c hz hci => ?_⟩
        rw [List.getElem?_set] at hci
        split at hci
        · rename_i hqi
          subst hqi
          rw [if_pos (by rw [← hm2]; exact hqm)] at hci
          cases hci
          rw [hx] at hz; cases hz
          exact ⟨⟨by show (if _ = _ then _ else _) = _; rw [if_pos rfl], h1⟩, h1⟩
        · obtain ⟨h2, h3⟩ := hm3 i z c hz hci
          exact ⟨h2.mono (Vw.le_refl _) hle, h3⟩
      · exact (hl3 i y c hy' hci).mono (Vw.le_refl _) hle
    · rw [List.length_append]
      simp only at e
      split at e
      · rename_i hk; simp; omega
      · have := q6 k u e; omega
    · rcases Nat.lt_or_ge k obs'.length with hk | hk
      · rw [List.getElem?_append_left hk] at e
        have := q7 k ob e
        rw [hc] at this
        exact this.mono (Vw.le_refl _) hle (fun b hb => ⟨hb, rfl⟩) (Nat.le_refl _)
      · rw [List.getElem?_append_right hk] at e
        have hk0 : k - obs'.length = 0 := by
          have := (List.getElem?_eq_some_iff.1 e).1
          simp at this; omega
        rw [hk0] at e
        simp only [List.getElem?_cons_zero, Option.some.injEq] at e
        subst e
        refine ⟨fun j x hx => by simp at hx, .inl ⟨rfl, A, ?_⟩⟩
        show (if k = obs'.length then some x else O' k) = _
        rw [if_pos (by omega), hA]
    · rcases q8 b o u e with h | ⟨k, T, sz, n, h2, h3, h4⟩
      · exact .inl h
      · refine .inr ⟨k, T, sz, n, h2, ?_, h4⟩
        rw [List.getElem?_append_left (List.getElem?_eq_some_iff.1 h3).1]; exact h3
    · obtain ⟨h2, h3, h4⟩ := q9 b k e
      exact ⟨by rw [List.length_append]; omega, h3, h4⟩
  · exact ⟨v, r, obs', V', O', own', he, hq, q2, q3, q4, q5, q6, fun k ob e => by have := q7 k ob e; rw [hc] at this; exact this, q8, q9, q10, q11, q12⟩
theorem hpO_snoc {obs' : List (Option Ob)} {x : Ob} {i : Nat} {ob : Ob} (h : hpO obs' i = some ob) : hpO (obs' ++ [some x]) i = some ob := by
  rw [hpO_some] at h ⊢
  rw [List.getElem?_append_left (List.getElem?_eq_some_iff.1 h).1]; exact h
theorem hpO_last {obs' : List (Option Ob)} {x : Ob} : hpO (obs' ++ [some x]) obs'.length = some x := by
  rw [hpO_some, List.getElem?_append_right (Nat.le_refl _), Nat.sub_self]; rfl
theorem Nest.At.snocO {obs' : List (Option Ob)} {x : Ob} {k : Nat} {f : Nat → Nat} {l : List Vo} (h : nV.At (hpO obs') obs'.length k f l) : nV.At (hpO (obs' ++ [some x])) (obs' ++ [some x]).length k f l :=
  ⟨hpO_snoc h.out, fun j v hj => hpO_snoc (h.inn j v hj), h.ne, h.inj, by rw [List.length_append]; exact Nat.lt_of_lt_of_le h.lt (Nat.le_add_right _ _), fun j hj => by rw [List.length_append]; exact Nat.lt_of_lt_of_le (h.lts j hj) (Nat.le_add_right _ _)⟩
theorem plain_snoc {obs' : List (Option Ob)} {T sz : Nat} (h : ∀ (j : Nat) ob, obs'[j]? = some (some ob) → plainO ob) : ∀ (j : Nat) ob, (obs' ++ [some (.arr T sz [])])[j]? = some (some ob) → plainO ob := by
  intro j ob hj
  rcases Nat.lt_or_ge j obs'.length with hk | hk
  · rw [List.getElem?_append_left hk] at hj; exact h j ob hj
  · rw [List.getElem?_append_right hk] at hj
    have := (List.getElem?_eq_some_iff.1 hj).1
    have hk0 : j - obs'.length = 0 := by simp at this; omega
    rw [hk0] at hj
    cases hj
    intro x hx; cases hx
/-- The vote's chain becomes an array. -/
theorem tri_vote {b1 : Bool} {n0 n1 : Nat} {o : Tri} {r : AV} {obs' : List (Option Ob)} (h : TriO b1 false n0 n1 o r obs') :
    (∃ xs p cs q, r = .tup xs ∧ xs[p]? = some (.g cs) ∧ cs[q]? = some .e0 ∧ ∃ T sz, TriO b1 true n0 (n1 + 1) o (.tup (xs.set p (.g (cs.set q (.ow obs'.length))))) (obs' ++ [some (.arr T sz [])])) ∨ TriO b1 true n0 (n1 + 1) o r obs' := by
  obtain ⟨h1, h2, h3, sk, cv, f, rfl, hS, hV⟩ := h
  rcases hV with ⟨_, rfl, h5⟩ | h5
  · refine .inl ⟨_, 1, _, 1, rfl, rfl, rfl, ty_impl_Item, 4, by rw [List.length_append]; exact Nat.le_trans h1 (Nat.le_add_right _ _), by rw [List.length_append]; exact Nat.add_le_add_right h2 1, plain_snoc h3, sk, .ow obs'.length, f, rfl, ?_, .inr ⟨_, rfl, by rw [List.length_append]; exact Nat.lt_succ_self _, ?_, ?_, ?_⟩⟩
    · rcases hS with hS | ⟨k, rfl, hA⟩
      · exact .inl hS
      · exact .inr ⟨k, rfl, hA.snocO⟩
    · rw [hpO_last, h5]; rfl
    · rcases hS with ⟨_, rfl, _⟩ | ⟨k, rfl, hA⟩
      · exact fun e => by cases e
      · intro e
        have := hA.lt
        rw [AC.ow.inj e] at this
        exact Nat.lt_irrefl _ this
    · intro j hj e
      rcases hS with ⟨_, _, h6⟩ | ⟨k, rfl, hA⟩
      · rw [h6] at hj; cases hj
      · have := hA.lts j hj
        rw [e] at this
        exact Nat.lt_irrefl _ this
  · exact .inr ⟨h1, Nat.le_succ_of_le h2, h3, sk, cv, f, rfl, hS, .inr h5⟩
/-- The node's votes become an array. -/
theorem tri_seen {b2 : Bool} {n0 n1 : Nat} {o : Tri} {r : AV} {obs' : List (Option Ob)} (h : TriO false b2 n0 n1 o r obs') :
    (∃ xs p cs q, r = .tup xs ∧ xs[p]? = some (.g cs) ∧ cs[q]? = some .e0 ∧ ∃ T sz, TriO true b2 n0 (n1 + 1) o (.tup (xs.set p (.g (cs.set q (.ow obs'.length))))) (obs' ++ [some (.arr T sz [])])) ∨ TriO true b2 n0 (n1 + 1) o r obs' := by
  obtain ⟨h1, h2, h3, sk, cv, f, rfl, hS, hV⟩ := h
  rcases hS with ⟨_, rfl, h5⟩ | h5
  · refine .inl ⟨_, 0, _, 3, rfl, rfl, rfl, nV.T, nV.sz, by rw [List.length_append]; exact Nat.le_trans h1 (Nat.le_add_right _ _), by rw [List.length_append]; exact Nat.add_le_add_right h2 1, plain_snoc h3, .ow obs'.length, cv, f, rfl, .inr ⟨_, rfl, ?_⟩, ?_⟩
    · rw [h5]
      exact ⟨hpO_last, (fun j v hj => by simp at hj), (fun j hj => by cases hj), (fun j j' hj => by cases hj), (by rw [List.length_append]; exact Nat.lt_succ_self _), (fun j hj => by cases hj)⟩
    · rcases hV with hV | ⟨kv, rfl, g1, g2, g3, g4⟩
      · exact .inl hV
      · exact .inr ⟨kv, rfl, by rw [List.length_append]; exact Nat.lt_of_lt_of_le g1 (Nat.le_add_right _ _), hpO_snoc g2, fun e => by rw [AC.ow.inj e] at g1; exact Nat.lt_irrefl _ g1, g4⟩
  · exact .inr ⟨h1, Nat.le_succ_of_le h2, h3, sk, cv, f, rfl, .inr h5, hV⟩
theorem TriO.up {b1 b2 : Bool} {n0 n1 n2 : Nat} {o : Tri} {r : AV} {obs' : List (Option Ob)} (h : TriO b1 b2 n0 n1 o r obs') (hn : n1 ≤ n2) : TriO b1 b2 n0 n2 o r obs' := ⟨h.1, Nat.le_trans h.2.1 hn, h.2.2⟩
/-- There is such a thing. -/
theorem tri_inh {b1 b2 : Bool} {n0 n1 : Nat} {o : Tri} (h1 : n0 ≤ o.1.seen.length + 2) (h2 : o.1.seen.length + 2 ≤ n1) : ∃ r obs', TriO b1 b2 n0 n1 o r obs' ∧ okV (· < obs'.length) r ∧ ∀ (j : Nat) ob, obs'[j]? = some (some ob) → okOb (· < obs'.length) ob := by
  have hlen : (nV.obs o.1.seen ++ [some (itO o.2.1.c)]).length = o.1.seen.length + 2 := by rw [List.length_append, Nest.obs_len]; rfl
  have hl2 := Nest.obs_len (N := nV) (l := o.1.seen)
  have hA : nV.At (hpO (nV.obs o.1.seen)) (nV.obs o.1.seen).length 0 (· + 1) o.1.seen :=
    ⟨hpO_some.2 Nest.obs_at0, fun j v hj => hpO_some.2 (Nest.obs_at hj), fun j _ => by omega, fun j j' _ _ e => by omega, by omega, fun j hj => by omega⟩
  refine ⟨triV o (.ow 0) (.ow (o.1.seen.length + 1)), nV.obs o.1.seen ++ [some (itO o.2.1.c)], ⟨by omega, by omega, fun j ob hj => ?_, .ow 0, .ow (o.1.seen.length + 1), (· + 1), rfl, .inr ⟨0, rfl, hA.snocO⟩, .inr ⟨_, rfl, by omega, ?_, fun e => (by have := AC.ow.inj e; omega), fun j hj e => (by have : j + 1 = o.1.seen.length + 1 := e; omega)⟩⟩, fun c hc => ?_, fun j ob hj => ?_⟩
  · rcases Nat.lt_or_ge j (nV.obs o.1.seen).length with hk | hk
    · rw [List.getElem?_append_left hk] at hj; exact nV_plain.obs j ob hj
    · rw [List.getElem?_append_right hk] at hj
      have := (List.getElem?_eq_some_iff.1 hj).1
      have hk0 : j - (nV.obs o.1.seen).length = 0 := by simp at this; omega
      rw [hk0] at hj
      cases hj
      exact itO_plain _
  · rw [← hl2]; exact hpO_last
  · simp only [triV, List.mem_cons, List.not_mem_nil, or_false] at hc
    rw [hlen]
    rcases hc with rfl | rfl | rfl
    · intro c hc
      simp only [List.mem_cons, List.not_mem_nil, or_false] at hc
      rcases hc with rfl | rfl | rfl | rfl
      · trivial
      · trivial
      · trivial
      · show 0 < _; omega
    · intro c hc
      simp only [List.mem_cons, List.not_mem_nil, or_false] at hc
      rcases hc with rfl | rfl
      · trivial
      · show _ < _; omega
    · trivial
  · rcases Nat.lt_or_ge j (nV.obs o.1.seen).length with hk | hk
    · rw [List.getElem?_append_left hk] at hj
      have := Nest.obs_ok j ob hj
      exact okOb_le (by rw [hlen, hl2]; omega) this
    · rw [List.getElem?_append_right hk] at hj
      have := (List.getElem?_eq_some_iff.1 hj).1
      have hk0 : j - (nV.obs o.1.seen).length = 0 := by simp at this; omega
      rw [hk0] at hj
      cases hj
      exact arA_ok _
end Av
end Go.Proofs.Ytdboofnogabefaa
