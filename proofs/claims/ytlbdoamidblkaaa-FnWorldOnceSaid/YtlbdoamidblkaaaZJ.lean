/- Worlds in the reference's hands: an array of nodes that is written, votes that are appended to. -/
import Derived.Test.YtlbdoamidblkaaaZG
import Derived.Test.YtlbdoamidblkaaaJ23
set_option linter.unusedVariables false
set_option linter.unusedSimpArgs false
namespace Go.Proofs.Ytlbdoamidblkaaa
namespace Av
open Go.RowKit
def fupd (f : Nat → Nat) (i t : Nat) : Nat → Nat := fun j => if j = i then t else f j
theorem fupd_at {f : Nat → Nat} {i t : Nat} : fupd f i t i = t := if_pos rfl
theorem fupd_ne {f : Nat → Nat} {i t j : Nat} (h : j ≠ i) : fupd f i t j = f j := if_neg h
def ndsK (f : Nat → Nat) (ns : List Nd) : List (List AC) := ns.mapIdx fun i n => ndK n (f (i + 1))
def arrK (f : Nat → Nat) (ns : List Nd) : Ob := .arr ty_impl_Node 4 (ndsK f ns)
def lst (w : Wo) : Nat → List Vo
  | 0 => w.log
  | j + 1 => ((w.nodes[j]?).map Nd.seen).getD []
def wvC (w : Wo) (kN : Nat) (f : Nat → Nat) : List AC := [cI w.ep, .ow kN, tkC (f 0) w.log, cI w.bad]
def wv (w : Wo) (kN : Nat) (f : Nat → Nat) : AV := .w (.g (wvC w kN f))
theorem wv_ren {w : Wo} {kN : Nat} {f ρ : Nat → Nat} : (wv w kN f).ren ρ = wv w (ρ kN) (fun j => ρ (f j)) := rfl
theorem ndsK_get {f : Nat → Nat} {ns : List Nd} {i : Nat} : (ndsK f ns)[i]? = (ns[i]?).map fun n => ndK n (f (i + 1)) := by unfold ndsK; rw [List.getElem?_mapIdx]
theorem ndsK_at {f : Nat → Nat} {ns : List Nd} {i : Nat} {n : Nd} (h : ns[i]? = some n) : (ndsK f ns)[i]? = some (ndK n (f (i + 1))) := by rw [ndsK_get, h]; rfl
theorem ndsK_len {f : Nat → Nat} {ns : List Nd} : (ndsK f ns).length = ns.length := by unfold ndsK; simp
theorem ndsK_congr {f g : Nat → Nat} {ns : List Nd} (h : ∀ i, i < ns.length → f (i + 1) = g (i + 1)) : ndsK f ns = ndsK g ns := by
  apply List.ext_getElem?
  intro i
  rw [ndsK_get, ndsK_get]
  by_cases hi : i < ns.length
  · rw [h i hi]
  · rw [List.getElem?_eq_none (by omega)]; rfl
theorem ndsK_set {f : Nat → Nat} {ns : List Nd} {i t : Nat} {n : Nd} : (ndsK f ns).set i (ndK n t) = ndsK (fupd f (i + 1) t) (ns.set i n) := by
  apply List.ext_getElem?
  intro j
  rw [ndsK_get, List.getElem?_set, List.getElem?_set, ndsK_len, ndsK_get]
  by_cases e : i = j
  · subst e
    rw [if_pos rfl, if_pos rfl, fupd_at]
    split <;> rfl
  · rw [if_neg e, if_neg e, fupd_ne (by omega)]
theorem arrK_ren {f ρ : Nat → Nat} {ns : List Nd} : (arrK f ns).ren ρ = arrK (fun j => ρ (f j)) ns := by
  show Ob.arr ty_impl_Node 4 ((ndsK f ns).map fun x => x.map (AC.ren ρ)) = Ob.arr ty_impl_Node 4 (ndsK (fun j => ρ (f j)) ns)
  congr 1
  apply List.ext_getElem?
  intro i
  rw [List.getElem?_map, ndsK_get, ndsK_get, Option.map_map]
  rfl
/-- A world in memory: the nodes' array kN; f: the rights to append to what was sent (0), and to what each node saw (1, 2, ..). -/
structure WAt (H : Hp) (nx : Nat) (w : Wo) (kN : Nat) (f : Nat → Nat) : Prop where
  arr : H kN = some (arrK f w.nodes)
  tok : ∀ j, j < 5 → H (f j) = some (tokO (lst w j))
  inj : ∀ i j, i < 5 → j < 5 → f i = f j → i = j
  kn : kN < nx
  fn : ∀ j, j < 5 → f j < nx
  len : w.nodes.length = 4
theorem WAt.ne {H : Hp} {nx : Nat} {w : Wo} {kN : Nat} {f : Nat → Nat} (h : WAt H nx w kN f) {j : Nat} (hj : j < 5) : f j ≠ kN := by
  intro e
  have := h.tok j hj
  rw [e, h.arr] at this
  cases this
theorem WAt.keep {H H' : Hp} {nx nx' : Nat} {w : Wo} {kN : Nat} {f : Nat → Nat} (h : WAt H nx w kN f) (hle : nx ≤ nx') (hk : ∀ k, k < nx → H' k = H k) : WAt H' nx' w kN f :=
  ⟨by rw [hk _ h.kn]; exact h.arr, fun j hj => by rw [hk _ (h.fn j hj)]; exact h.tok j hj, h.inj, Nat.lt_of_lt_of_le h.kn hle, fun j hj => Nat.lt_of_lt_of_le (h.fn j hj) hle, h.len⟩
theorem WAt.box {H : Hp} {nx : Nat} {w : Wo} {kN k : Nat} {f : Nat → Nat} {cs : List AC} {x : Option Ob} (h : WAt H nx w kN f) (hk : H k = some (.cells cs)) : WAt (hupd k x H) nx w kN f := by
  refine ⟨?_, fun j hj => ?_, h.inj, h.kn, h.fn, h.len⟩
  · rw [hupd_ne (fun e => by have := h.arr; rw [e, hk] at this; cases this)]; exact h.arr
  · rw [hupd_ne (fun e => by have := h.tok j hj; rw [e, hk] at this; cases this)]; exact h.tok j hj
theorem WAt.ep {H : Hp} {nx : Nat} {w : Wo} {kN : Nat} {f : Nat → Nat} (h : WAt H nx w kN f) (e : Int) : WAt H nx ⟨e, w.nodes, w.log, w.bad⟩ kN f :=
  ⟨h.arr, fun j hj => by rw [h.tok j hj]; cases j <;> rfl, h.inj, h.kn, h.fn, h.len⟩
theorem WAt.log {H H' : Hp} {nx nx' : Nat} {w : Wo} {kN t : Nat} {f : Nat → Nat} {l : List Vo} (h : WAt H nx w kN f) (hH : H' t = some (tokO l)) (ht : t = f 0 ∨ nx ≤ t) (hk : ∀ k, k ≠ f 0 → k < nx → H' k = H k) (hlt : t < nx') (hle : nx ≤ nx') :
    WAt H' nx' ⟨w.ep, w.nodes, l, w.bad⟩ kN (fupd f 0 t) := by
  have hne : ∀ j, j < 5 → j ≠ 0 → f j ≠ f 0 := fun j hj h0 e => h0 (h.inj j 0 hj (by omega) e)
  have htn : ∀ j, j < 5 → j ≠ 0 → f j ≠ t := fun j hj h0 e => by
    rcases ht with rfl | ht
    · exact hne j hj h0 e
    · have := h.fn j hj; omega
  refine ⟨?_, fun j hj => ?_, fun i j hi hj e => ?_, Nat.lt_of_lt_of_le h.kn hle, fun j hj => ?_, h.len⟩
  · rw [hk _ (h.ne (by omega : 0 < 5)).symm h.kn, h.arr]
    show some (Ob.arr ty_impl_Node 4 (ndsK f w.nodes)) = some (Ob.arr ty_impl_Node 4 (ndsK (fupd f 0 t) w.nodes))
    rw [ndsK_congr (g := fupd f 0 t) fun i _ => (fupd_ne (by omega)).symm]
  · cases j with
    | zero => rw [fupd_at]; exact hH
    | succ j => rw [fupd_ne (by omega), hk _ (hne _ hj (by omega)) (h.fn _ hj), h.tok _ hj]; rfl
  · by_cases hi0 : i = 0
    · subst hi0
      by_cases hj0 : j = 0
      · exact hj0.symm
      · rw [fupd_at, fupd_ne hj0] at e
        exact absurd e.symm (htn j hj hj0)
    · rw [fupd_ne hi0] at e
      by_cases hj0 : j = 0
      · subst hj0
        rw [fupd_at] at e
        exact absurd e (htn i hi hi0)
      · rw [fupd_ne hj0] at e
        exact h.inj i j hi hj e
  · by_cases hj0 : j = 0
    · subst hj0; rw [fupd_at]; exact hlt
    · rw [fupd_ne hj0]; exact Nat.lt_of_lt_of_le (h.fn j hj) hle
theorem WAt.put {H H' : Hp} {nx nx' : Nat} {w : Wo} {kN i t : Nat} {f : Nat → Nat} {n : Nd} (h : WAt H nx w kN f) (hi : i < 4) (hH : H' t = some (tokO n.seen)) (ht : t = f (i + 1) ∨ nx ≤ t) (hk : ∀ k, k ≠ f (i + 1) → k ≠ kN → k < nx → H' k = H k)
    (hA : H' kN = some (.arr ty_impl_Node 4 ((ndsK f w.nodes).set i (ndK n t)))) (hlt : t < nx') (hle : nx ≤ nx') : WAt H' nx' (setN w i n) kN (fupd f (i + 1) t) := by
  have hne : ∀ j, j < 5 → j ≠ i + 1 → f j ≠ f (i + 1) := fun j hj h0 e => h0 (h.inj j (i + 1) hj (by omega) e)
  have htn : ∀ j, j < 5 → j ≠ i + 1 → f j ≠ t := fun j hj h0 e => by
    rcases ht with rfl | ht
    · exact hne j hj h0 e
    · have := h.fn j hj; omega
  refine ⟨?_, fun j hj => ?_, fun a b ha hb e => ?_, Nat.lt_of_lt_of_le h.kn hle, fun j hj => ?_, by show (w.nodes.set i n).length = 4; simp [h.len]⟩
  · rw [hA, ndsK_set]; rfl
  · by_cases e : j = i + 1
    · subst e
      rw [fupd_at, hH]
      show _ = some (tokO ((((w.nodes.set i n)[i]?).map Nd.seen).getD []))
      rw [List.getElem?_set, if_pos rfl, if_pos (by rw [h.len]; exact hi)]; rfl
    · rw [fupd_ne e, hk _ (hne j hj e) (h.ne hj) (h.fn j hj), h.tok j hj]
      cases j with
      | zero => rfl
      | succ j =>
        show some (tokO (((w.nodes[j]?).map Nd.seen).getD [])) = some (tokO ((((w.nodes.set i n)[j]?).map Nd.seen).getD []))
        rw [List.getElem?_set, if_neg (by omega)]
  · by_cases hi0 : a = i + 1
    · subst hi0
      by_cases hj0 : b = i + 1
      · exact hj0.symm
      · rw [fupd_at, fupd_ne hj0] at e
        exact absurd e.symm (htn b hb hj0)
    · rw [fupd_ne hi0] at e
      by_cases hj0 : b = i + 1
      · subst hj0
        rw [fupd_at] at e
        exact absurd e (htn a ha hi0)
      · rw [fupd_ne hj0] at e
        exact h.inj a b ha hb e
  · by_cases hj0 : j = i + 1
    · subst hj0; rw [fupd_at]; exact hlt
    · rw [fupd_ne hj0]; exact Nat.lt_of_lt_of_le (h.fn j hj) hle
/-! ### contracts of functions that are handed a world and hand one back -/
def stdF : Nat → Nat := (· + 1)
def obsW (w : Wo) : List Ob := [arrK stdF w.nodes, tokO (lst w 0), tokO (lst w 1), tokO (lst w 2), tokO (lst w 3), tokO (lst w 4)]
structure OutW (w : Wo) (f : Nat → Nat) (obs : List (Option Ob)) : Prop where
  arr : obs[0]? = some (some (arrK f w.nodes))
  tok : ∀ j, j < 5 → 1 ≤ f j ∧ obs[f j]? = some (some (tokO (lst w j)))
  inj : ∀ i j, i < 5 → j < 5 → f i = f j → i = j
  old : ∀ i, 1 ≤ i → i < 6 → ∃ x, obs[i]? = some x ∧ (x = none ∨ ∃ T s n, x = some (.tok T s n))
  l1 : 6 ≤ obs.length
  l2 : obs.length ≤ 22
def RW' (w' : Wo) (r : AV) (obs' : List (Option Ob)) : Prop := ∃ f', r = wv w' 0 f' ∧ OutW w' f' obs'
theorem inhW {w : Wo} (hl : w.nodes.length = 4) : ∃ r obs', RW' w r obs' ∧ okV (· < obs'.length) r ∧ ∀ (j : Nat) ob, obs'[j]? = some (some ob) → okOb (· < obs'.length) ob := by
  refine ⟨wv w 0 stdF, (obsW w).map some, ⟨stdF, rfl, ⟨rfl, fun j hj => ⟨Nat.le_add_left 1 j, ?_⟩, fun i j _ _ e => Nat.succ.inj e, fun i h1 h2 => ?_, by simp [obsW], by simp [obsW]⟩⟩, ?_, ?_⟩
  · match j, hj with
    | 0, _ => rfl
    | 1, _ => rfl
    | 2, _ => rfl
    | 3, _ => rfl
    | 4, _ => rfl
  · match i, h1, h2 with
    | 1, _, _ => exact ⟨_, rfl, .inr ⟨_, _, _, rfl⟩⟩
    | 2, _, _ => exact ⟨_, rfl, .inr ⟨_, _, _, rfl⟩⟩
    | 3, _, _ => exact ⟨_, rfl, .inr ⟨_, _, _, rfl⟩⟩
    | 4, _, _ => exact ⟨_, rfl, .inr ⟨_, _, _, rfl⟩⟩
    | 5, _, _ => exact ⟨_, rfl, .inr ⟨_, _, _, rfl⟩⟩
  · intro c hc
    simp only [wvC, List.mem_cons, List.not_mem_nil, or_false] at hc
    rcases hc with rfl | rfl | rfl | rfl
    · trivial
    · show 0 < ((obsW w).map some).length; simp [obsW]
    · show 0 + 1 < ((obsW w).map some).length; simp [obsW]
    · trivial
  · intro j ob h
    match j, h with
    | 0, h =>
      cases h
      intro x hx c hc
      obtain ⟨i, hi⟩ := List.mem_iff_getElem?.1 hx
      rw [ndsK_get] at hi
      cases hn : w.nodes[i]? with
      | none => rw [hn] at hi; cases hi
      | some n =>
        rw [hn] at hi
        cases hi
        have hlt := (List.getElem?_eq_some_iff.1 hn).1
        exact okNd (n := n) (k := stdF (i + 1)) (D := (· < ((obsW w).map some).length)) (by show i + 1 + 1 < _; simp [obsW]; omega) c hc
    | 1, h => cases h; trivial
    | 2, h => cases h; trivial
    | 3, h => cases h; trivial
    | 4, h => cases h; trivial
    | 5, h => cases h; trivial
    | j + 6, h => simp [obsW] at h
def mkW {α : Type} (wo : α → Wo) (enc : α → List AV) (p : α → Prop) (out : α → Wo) (hout : ∀ a, p a → (out a).nodes.length = 4) : MSpec := mkM (fun a => wv (wo a) 0 stdF :: enc a) (fun a => obsW (wo a)) p (fun a r obs' => RW' (out a) r obs') 0
  (fun a h => inhW (hout a h)) (fun a r obs' ⟨f, _, h⟩ => ⟨h.l1, h.l2⟩)
theorem wv_inj {w u : Wo} (h1 : wv w 0 stdF = wv u 0 stdF) (h2 : obsW w = obsW u) : w = u := by
  obtain ⟨e, n, l, d⟩ := w; obtain ⟨e', n', l', d'⟩ := u
  simp only [wv, wvC, AV.w.injEq, AW.g.injEq, List.cons.injEq, and_true, AC.c.injEq, FV.v.injEq, Value.int.injEq, true_and] at h1
  obtain ⟨rfl, h, rfl⟩ := h1
  have h3 := (tkC_inj h).2
  have h4 := (Ob.arr.inj (List.cons.inj h2).1).2.2
  have h5 : n = n' := by
    apply List.ext_getElem?
    intro i
    have := congrArg (fun z => z[i]?) h4
    simp only [ndsK_get] at this
    cases h1 : n[i]? with
    | none =>
      cases h2 : n'[i]? with
      | none => rfl
      | some b => rw [h1, h2] at this; cases this
    | some a =>
      cases h2 : n'[i]? with
      | none => rw [h1, h2] at this; cases this
      | some b =>
        rw [h1, h2] at this
        simp only [Option.map_some, Option.some.injEq] at this
        rw [(ndK_inj this).1]
  rw [h3, h5]
def Tk (H : Hp) (k : Nat) : Prop := H k = none ∨ ∃ T s n, H k = some (.tok T s n)
def Stale (H : Hp) : Prop := ∀ i, 1 ≤ i → i < 6 → Tk H i
theorem nmapS_inj {s nm : Nat} {ks : List Nat} (hnd : ks.Nodup) (hlt : ∀ k, k ∈ ks → k < nm) {i j : Nat} (hi : i < ks.length + 16 + s) (hj : j < ks.length + 16 + s) (h : nmapS s ks nm i = nmapS s ks nm j) : i = j := by
  unfold nmapS at h
  split at h <;> split at h
  · rename_i h1 h2
    exact (List.getElem_inj hnd).1 h
  · rename_i h1 h2
    have := hlt ks[i] (List.getElem_mem h1); omega
  · rename_i h1 h2
    have := hlt ks[j] (List.getElem_mem h2); omega
  · omega
theorem nmapS_out {s nm k i : Nat} {ks : List Nat} (hk : k ∉ ks) (hlt : k < nm) : nmapS s ks nm i ≠ k := by
  unfold nmapS
  split
  · intro e; exact hk (e ▸ List.getElem_mem _)
  · omega
section
variable {P : Program} {g : Nat} {S : MSpec} {fr : Env} {H : Hp} {nm nx rm rm' lim : Nat} {K : KV} {xs : List (X × List (Option Nat))} {res : List Rs} {post : AV → List (Option Ob) → Prop}
theorem ksW_nodup {w : Wo} {kN : Nat} {f : Nat → Nat} (hW : WAt H nx w kN f) : [kN, f 0, f 1, f 2, f 3, f 4].Nodup := by
  have n0 := (hW.ne (show 0 < 5 by omega)).symm
  have n1 := (hW.ne (show 1 < 5 by omega)).symm
  have n2 := (hW.ne (show 2 < 5 by omega)).symm
  have n3 := (hW.ne (show 3 < 5 by omega)).symm
  have n4 := (hW.ne (show 4 < 5 by omega)).symm
  have hi := hW.inj
  have q : ∀ i j, i < 5 → j < 5 → i ≠ j → f i ≠ f j := fun i j h1 h2 h3 e => h3 (hi i j h1 h2 e)
  have q01 := q 0 1 (by omega) (by omega) (by omega)
  have q02 := q 0 2 (by omega) (by omega) (by omega)
  have q03 := q 0 3 (by omega) (by omega) (by omega)
  have q04 := q 0 4 (by omega) (by omega) (by omega)
  have q12 := q 1 2 (by omega) (by omega) (by omega)
  have q13 := q 1 3 (by omega) (by omega) (by omega)
  have q14 := q 1 4 (by omega) (by omega) (by omega)
  have q23 := q 2 3 (by omega) (by omega) (by omega)
  have q24 := q 2 4 (by omega) (by omega) (by omega)
  have q34 := q 3 4 (by omega) (by omega) (by omega)
  simp only [List.nodup_cons, List.mem_cons, List.not_mem_nil, or_false, not_or, not_false_eq_true, List.nodup_nil, and_true]
  exact ⟨⟨n0, n1, n2, n3, n4⟩, ⟨q01, q02, q03, q04⟩, ⟨q12, q13, q14⟩, ⟨q23, q24⟩, q34⟩
theorem ksW_lt {w : Wo} {kN : Nat} {f : Nat → Nat} (hW : WAt H nx w kN f) : ∀ k, k ∈ [kN, f 0, f 1, f 2, f 3, f 4] → k < nx := by
  intro k hk
  simp only [List.mem_cons, List.not_mem_nil, or_false] at hk
  rcases hk with rfl | rfl | rfl | rfl | rfl | rfl
  · exact hW.kn
  · exact hW.fn 0 (by omega)
  · exact hW.fn 1 (by omega)
  · exact hW.fn 2 (by omega)
  · exact hW.fn 3 (by omega)
  · exact hW.fn 4 (by omega)
theorem ksW_get {kN : Nat} {f : Nat → Nat} {ex : List Nat} {j : Nat} (hj : j < 5) : ([kN, f 0, f 1, f 2, f 3, f 4] ++ ex)[stdF j]? = some (f j) := by
  match j, hj with
  | 0, _ => rfl
  | 1, _ => rfl
  | 2, _ => rfl
  | 3, _ => rfl
  | 4, _ => rfl
theorem arrK_congr {f h : Nat → Nat} {ns : List Nd} (hl : ns.length = 4) (hf : ∀ j, j < 5 → f j = h j) : arrK f ns = arrK h ns := by
  unfold arrK
  rw [ndsK_congr fun i hi => hf (i + 1) (by omega)]
/-- A world in, and more; what names it has. -/
theorem ksW_obs {w : Wo} {kN : Nat} {f ρ : Nat → Nat} {ex : List Nat} {eo : List Ob} (hW : WAt H nx w kN f) (h0 : ρ 0 = kN) (hf : ∀ j, j < 5 → ρ (stdF j) = f j) (he : ∀ (i k : Nat), ex[i]? = some k → ∃ ob : Ob, eo[i]? = some ob ∧ H k = some (ob.ren ρ)) :
    ∀ (i k : Nat), ([kN, f 0, f 1, f 2, f 3, f 4] ++ ex)[i]? = some k → ∃ ob : Ob, (obsW w ++ eo)[i]? = some ob ∧ H k = some (ob.ren ρ) := by
  intro i k h
  match i, h with
  | 0, h => cases h; exact ⟨_, rfl, by rw [hW.arr, arrK_ren, arrK_congr hW.len fun j hj => (hf j hj).symm]⟩
  | 1, h => cases h; exact ⟨_, rfl, hW.tok 0 (by omega)⟩
  | 2, h => cases h; exact ⟨_, rfl, hW.tok 1 (by omega)⟩
  | 3, h => cases h; exact ⟨_, rfl, hW.tok 2 (by omega)⟩
  | 4, h => cases h; exact ⟨_, rfl, hW.tok 3 (by omega)⟩
  | 5, h => cases h; exact ⟨_, rfl, hW.tok 4 (by omega)⟩
  | i + 6, h => exact he i k h
theorem mq_W {w w' : Wo} {kN : Nat} {f : Nat → Nat} {ar : List AV} (hv : ValidM P g S) (hst : S.st = 0) (hl : rm + S.cost ≤ LIM) (hW : WAt H nm w kN f) (hlen' : w'.nodes.length = 4) (ha : nrmArgs fr xs = wv w kN f :: ar) (har : ∀ ρ, ar.map (AV.ren ρ) = ar)
    (hpre : S.pre (wv w 0 stdF :: ar) (obsW w)) (hpost : ∀ r obs', S.post (wv w 0 stdF :: ar) (obsW w) r obs' → RW' w' r obs')
    (hK : ∀ (f' : Nat → Nat) (H' : Hp), WAt H' (nm + 16) w' kN f' → (∀ j, j < 5 → Tk H' (f j)) → (∀ k, k ≠ kN → (∀ j, j < 5 → k ≠ f j) → k < nm → H' k = H k) → K (wv w' kN f') H' (rm + S.cost)) : MQ P nm fr H rm K g S xs := by
  have hnd := ksW_nodup hW
  have hlt := ksW_lt hW
  have e0 : nmapS S.st [kN, f 0, f 1, f 2, f 3, f 4] nm 0 = kN := nmap_lt rfl
  have ef : ∀ j, j < 5 → nmapS S.st [kN, f 0, f 1, f 2, f 3, f 4] nm (stdF j) = f j := fun j hj => nmap_lt (by simpa using ksW_get (ex := []) hj)
  refine ⟨⟨hv, hl, [kN, f 0, f 1, f 2, f 3, f 4], wv w 0 stdF :: ar, obsW w, hnd, rfl, ?_, ?_, hpre, fun r obs' hp _ _ => ?_⟩⟩
  · have := ksW_obs (ex := []) (eo := []) hW e0 ef (fun i k h => by simp at h)
    simpa using this
  · rw [ha]
    show wv w (nmapS S.st _ nm 0) (fun j => nmapS S.st _ nm (stdF j)) :: ar.map (AV.ren _) = _
    rw [e0, har]
    show AV.w (.g [cI w.ep, .ow kN, tkC (nmapS S.st _ nm (stdF 0)) w.log, cI w.bad]) :: ar = _
    rw [ef 0 (by omega)]; rfl
  · obtain ⟨f', rfl, ho⟩ := hpost r obs' hp
    have hl6 : [kN, f 0, f 1, f 2, f 3, f 4].length = 6 := rfl
    have hin : ∀ {i j : Nat}, i < obs'.length → j < obs'.length → nmapS S.st [kN, f 0, f 1, f 2, f 3, f 4] nm i = nmapS S.st [kN, f 0, f 1, f 2, f 3, f 4] nm j → i = j :=
      fun hi hj e => nmapS_inj hnd hlt (by have := ho.l2; omega) (by have := ho.l2; omega) e
    obtain ⟨g1, g2⟩ := hput_at (nmapS S.st [kN, f 0, f 1, f 2, f 3, f 4] nm) obs' 0 H (fun j j' _ h2 _ h4 e => hin (by omega) (by omega) e)
    have g1' : ∀ (j : Nat) ob, obs'[j]? = some ob → hput (nmapS S.st [kN, f 0, f 1, f 2, f 3, f 4] nm) 0 obs' H (nmapS S.st [kN, f 0, f 1, f 2, f 3, f 4] nm j) = ob.map (Ob.ren (nmapS S.st [kN, f 0, f 1, f 2, f 3, f 4] nm)) := fun j ob h => by have := g1 j ob h; rwa [Nat.zero_add] at this
    have hfl : ∀ j, j < 5 → f' j < obs'.length := fun j hj => (List.getElem?_eq_some_iff.1 (ho.tok j hj).2).1
    have hub : ∀ i, i < obs'.length → nmapS S.st [kN, f 0, f 1, f 2, f 3, f 4] nm i < nm + 16 := fun i hi => by
      unfold nmapS
      split
      · rename_i h1
        have := hlt _ (List.getElem_mem h1); omega
      · rw [hst]; omega
    rw [wv_ren, e0]
    refine hK (fun j => nmapS S.st [kN, f 0, f 1, f 2, f 3, f 4] nm (f' j)) _ ⟨?_, fun j hj => ?_, fun i j hi hj e => ?_, by have := hW.kn; omega, fun j hj => hub _ (hfl j hj), hlen'⟩ (fun j hj => ?_) (fun k h1 h2 h3 => ?_)
    · have := g1' 0 _ ho.arr
      rw [e0] at this
      rw [this]
      show some ((arrK f' w'.nodes).ren _) = _
      rw [arrK_ren]
    · exact g1' _ _ (ho.tok j hj).2
    · exact ho.inj i j hi hj (hin (hfl i hi) (hfl j hj) e)
    · obtain ⟨x, hx, hx2⟩ := ho.old (stdF j) (Nat.le_add_left 1 j) (by show j + 1 < 6; omega)
      have := g1' _ _ hx
      rw [ef j hj] at this
      rcases hx2 with rfl | ⟨T, s, n, rfl⟩
      · exact .inl this
      · exact .inr ⟨_, _, _, this⟩
    · refine g2 k fun j _ _ => nmapS_out ?_ h3
      simp only [List.mem_cons, List.not_mem_nil, or_false, not_or]
      exact ⟨h1, h2 0 (by omega), h2 1 (by omega), h2 2 (by omega), h2 3 (by omega), h2 4 (by omega)⟩
theorem Stale.call {H' : Hp} {kN : Nat} {f : Nat → Nat} (h : Stale H) (h0 : kN = 0) (hn : 6 ≤ nm) (h1 : ∀ j, j < 5 → Tk H' (f j)) (h2 : ∀ k, k ≠ kN → (∀ j, j < 5 → k ≠ f j) → k < nm → H' k = H k) : Stale H' := by
  intro i hi1 hi2
  by_cases e : ∃ j, j < 5 ∧ i = f j
  · obtain ⟨j, hj, rfl⟩ := e; exact h1 j hj
  · have := h2 i (by omega) (fun j hj e' => e ⟨j, hj, e'⟩) (by omega)
    unfold Tk; rw [this]; exact h i hi1 hi2
/-- What such a function ends with. -/
theorem finM_W {w : Wo} {f : Nat → Nat} (hrm : rm' ≤ lim) (hW : WAt H nm w 0 f) (hS : Stale H) (hres : ∀ ks, resM ks fr H res [.g (wvC w 0 f)]) (hpost : ∀ r obs', RW' w r obs' → post r obs') :
    rm' ≤ lim ∧ ∃ (ks : List Nat) (aw : List AW) (r : AV) (obs' : List (Option Ob)), resM ks fr H res aw ∧ resV aw = r.ren (nmap ks nx) ∧ post r obs' ∧
      ks.Nodup ∧ (∀ i, i < 6 → ks[i]? = some i) ∧ obs'.length = ks.length ∧
      ∀ (i k : Nat), ks[i]? = some k → (∃ ob : Ob, obs'[i]? = some (some ob) ∧ H k = some (ob.ren (nmap ks nx))) ∨ (obs'[i]? = some none ∧ H k = none) := by
  let ex : List Nat := ((List.range 5).map f).filter fun k => decide (6 ≤ k)
  let ks : List Nat := List.range 6 ++ ex
  have hex : ∀ k, k ∈ ex ↔ (∃ j, j < 5 ∧ f j = k) ∧ 6 ≤ k := fun k => by
    simp only [ex, List.mem_filter, List.mem_map, List.mem_range, decide_eq_true_eq]
  have hnd : ks.Nodup := by
    refine List.nodup_append.2 ⟨List.nodup_range, List.Nodup.sublist List.filter_sublist ?_, fun a ha b hb => ?_⟩
    · rw [List.nodup_iff_pairwise_ne, List.pairwise_map]
      refine (List.nodup_iff_pairwise_ne.1 (List.nodup_range (n := 5))).imp_of_mem fun {a b} ha hb hne e => hne (hW.inj a b (List.mem_range.1 ha) (List.mem_range.1 hb) e)
    · have := List.mem_range.1 ha
      have := ((hex b).1 hb).2
      omega
  have hel : ex.length ≤ 5 := by
    have := List.length_filter_le (fun k => decide (6 ≤ k)) ((List.range 5).map f)
    simpa using this
  have hmem : ∀ j, j < 5 → f j ∈ ks := fun j hj => by
    by_cases h6 : 6 ≤ f j
    · exact List.mem_append_right _ ((hex _).2 ⟨⟨j, hj, rfl⟩, h6⟩)
    · exact List.mem_append_left _ (List.mem_range.2 (by omega))
  have h6 : ∀ i, i < 6 → ks[i]? = some i := fun i hi => by
    rw [List.getElem?_append_left (by simpa using hi)]
    simp [hi]
  have hidx : ∀ j, j < 5 → ∃ i, ks[i]? = some (f j) := fun j hj => List.mem_iff_getElem?.1 (hmem j hj)
  let f' : Nat → Nat := fun j => if h : j < 5 then (hidx j h).choose else 0
  have hf' : ∀ j, j < 5 → ks[f' j]? = some (f j) := fun j hj => by
    show ks[if h : j < 5 then (hidx j h).choose else 0]? = _
    rw [dif_pos hj]; exact (hidx j hj).choose_spec
  have hnm : ∀ {i k : Nat}, ks[i]? = some k → nmap ks nx i = k := fun h => nmap_lt (s := 0) h
  have e0 : nmap ks nx 0 = 0 := hnm (h6 0 (by omega))
  have ef : ∀ j, j < 5 → nmap ks nx (f' j) = f j := fun j hj => hnm (hf' j hj)
  let obs' : List (Option Ob) := ks.map fun k => if k = 0 then some (arrK f' w.nodes) else H k
  have hob : ∀ {i k : Nat}, ks[i]? = some k → k ≠ 0 → obs'[i]? = some (H k) := fun h h0 => by
    show (ks.map _)[_]? = _
    rw [List.getElem?_map, h]
    simp [h0]
  have ho0 : obs'[0]? = some (some (arrK f' w.nodes)) := by
    show (ks.map _)[0]? = _
    rw [List.getElem?_map, h6 0 (by omega)]
    simp
  have hlen : ks.length = 6 + ex.length := by simp [ks]
  refine ⟨hrm, ks, [.g (wvC w 0 f)], wv w 0 f', obs', hres ks, ?_, hpost _ _ ⟨f', rfl, ⟨ho0, fun j hj => ⟨?_, ?_⟩, fun i j hi hj e => ?_, fun i h1 h2 => ⟨_, hob (h6 i h2) (by omega), hS i h1 h2⟩, ?_, ?_⟩⟩, hnd, h6, by simp [obs'], fun i k h => ?_⟩
  · rw [wv_ren, e0]
    show AV.w (.g [cI w.ep, .ow 0, tkC (f 0) w.log, cI w.bad]) = AV.w (.g [cI w.ep, .ow 0, tkC (nmap ks nx (f' 0)) w.log, cI w.bad])
    rw [ef 0 (by omega)]
  · rcases Nat.eq_zero_or_pos (f' j) with e | e
    · have h1 := hf' j hj
      rw [e, h6 0 (by omega)] at h1
      exact absurd (Option.some.inj h1).symm (hW.ne hj)
    · exact e
  · rw [hob (hf' j hj) (hW.ne hj), hW.tok j hj]
  · have h1 := hf' i hi
    rw [e, hf' j hj] at h1
    exact hW.inj i j hi hj (Option.some.inj h1).symm
  · rw [show obs'.length = ks.length by simp [obs'], hlen]; omega
  · rw [show obs'.length = ks.length by simp [obs'], hlen]; omega
  · by_cases hk : k = 0
    · subst hk
      have hi : i = 0 := by
        obtain ⟨hi, hi'⟩ := List.getElem?_eq_some_iff.1 h
        obtain ⟨h0, h0'⟩ := List.getElem?_eq_some_iff.1 (h6 0 (by omega))
        exact (List.getElem_inj hnd (h₀ := hi) (h₁ := h0)).1 (hi'.trans h0'.symm)
      subst hi
      refine .inl ⟨_, ho0, ?_⟩
      rw [hW.arr, arrK_ren, arrK_congr hW.len fun j hj => (ef j hj).symm]
    · have htk : Tk H k := by
        rcases List.mem_append.1 (List.mem_of_getElem? h) with g | g
        · exact hS k (by omega) (List.mem_range.1 g)
        · obtain ⟨⟨j, hj, rfl⟩, _⟩ := (hex k).1 g
          exact .inr ⟨_, _, _, hW.tok j hj⟩
      have hk2 := hob h hk
      rcases htk with e | ⟨T, s, n, e⟩
      · exact .inr ⟨by rw [hk2, e], e⟩
      · exact .inl ⟨.tok T s n, by rw [hk2, e], e⟩
end
end Av
end Go.Proofs.Ytlbdoamidblkaaa
