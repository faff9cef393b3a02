/- Worlds in the reference's hands: an array of nodes that is written, votes that are appended to. -/
import Derived.Test.YtfijfccgghhkoaaJ29
set_option linter.unusedVariables false
set_option linter.unusedSimpArgs false
namespace Go.Proofs.Ytfijfccgghhkoaa
namespace Av
open Go.RowKit
def fupd (f : Nat → Nat) (i t : Nat) : Nat → Nat := fun j => if j = i then t else f j
theorem fupd_at {f : Nat → Nat} {i t : Nat} : fupd f i t i = t := if_pos rfl
theorem fupd_ne {f : Nat → Nat} {i t j : Nat} (h : j ≠ i) : fupd f i t j = f j := if_neg h
def ndsK (f : Nat → Nat) (ns : List Nd) : List (List AC) := ns.mapIdx fun i n => ndK n (f (i + 1))
def arrK (f : Nat → Nat) (ns : List Nd) : Ob := .arr ty_impl_Node 4 (ndsK f ns)
def lst (w : Wo) : Nat → List Vo
  | 0 => w.log
  | j + 1 => ((w.nodes[j]?).map Nd.seen).getD []
def wvC (w : Wo) (kN : Nat) (f : Nat → Nat) : List AC := [cI w.ep, .ow kN, tkC (f 0) w.log, cI w.bad]
def wv (w : Wo) (kN : Nat) (f : Nat → Nat) : AV := .w (.g (wvC w kN f))
theorem ndsK_get {f : Nat → Nat} {ns : List Nd} {i : Nat} : (ndsK f ns)[i]? = (ns[i]?).map fun n => ndK n (f (i + 1)) := by unfold ndsK; rw [List.getElem?_mapIdx]
theorem ndsK_len {f : Nat → Nat} {ns : List Nd} : (ndsK f ns).length = ns.length := by unfold ndsK; simp
theorem ndsK_congr {f g : Nat → Nat} {ns : List Nd} (h : ∀ i, i < ns.length → f (i + 1) = g (i + 1)) : ndsK f ns = ndsK g ns := by
  apply List.ext_getElem?
  intro i
  rw [ndsK_get, ndsK_get]
  by_cases hi : i < ns.length
  · rw [h i hi]
  · rw [List.getElem?_eq_none (by omega)]; rfl
theorem ndsK_set {f : Nat → Nat} {ns : List Nd} {i t : Nat} {n : Nd} : (ndsK f ns).set i (ndK n t) = ndsK (fupd f (i + 1) t) (ns.set i n) := by
  apply List.ext_getElem?
  intro j
  rw [ndsK_get, List.getElem?_set, List.getElem?_set, ndsK_len, ndsK_get]
  by_cases e : i = j
  · subst e
    rw [if_pos rfl, if_pos rfl, fupd_at]
    split <;> rfl
  · rw [if_neg e, if_neg e, fupd_ne (by omega)]
theorem arrK_ren {f ρ : Nat → Nat} {ns : List Nd} : (arrK f ns).ren ρ = arrK (fun j => ρ (f j)) ns := by
  show Ob.arr ty_impl_Node 4 ((ndsK f ns).map fun x => x.map (AC.ren ρ)) = Ob.arr ty_impl_Node 4 (ndsK (fun j => ρ (f j)) ns)
  congr 1
  apply List.ext_getElem?
  intro i
  rw [List.getElem?_map, ndsK_get, ndsK_get, Option.map_map]
  rfl
/-- A world in memory: the nodes' array kN; f: the rights to append to what was sent (0), and to what each node saw (1, 2, ..). -/
structure WAt (H : Hp) (nx : Nat) (w : Wo) (kN : Nat) (f : Nat → Nat) : Prop where
  arr : H kN = some (arrK f w.nodes)
  tok : ∀ j, j < 5 → H (f j) = some (tokO (lst w j))
  inj : ∀ i j, i < 5 → j < 5 → f i = f j → i = j
  kn : kN < nx
  fn : ∀ j, j < 5 → f j < nx
  len : w.nodes.length = 4
theorem WAt.ne {H : Hp} {nx : Nat} {w : Wo} {kN : Nat} {f : Nat → Nat} (h : WAt H nx w kN f) {j : Nat} (hj : j < 5) : f j ≠ kN := by
  intro e
  have := h.tok j hj
  rw [e, h.arr] at this
  cases this
theorem WAt.box {H : Hp} {nx : Nat} {w : Wo} {kN k : Nat} {f : Nat → Nat} {cs : List AC} {x : Option Ob} (h : WAt H nx w kN f) (hk : H k = some (.cells cs)) : WAt (hupd k x H) nx w kN f := by
  refine ⟨?_, fun j hj => ?_, h.inj, h.kn, h.fn, h.len⟩
  · rw [hupd_ne (fun e => by have := h.arr; rw [e, hk] at this; cases this)]; exact h.arr
  · rw [hupd_ne (fun e => by have := h.tok j hj; rw [e, hk] at this; cases this)]; exact h.tok j hj
theorem WAt.ep {H : Hp} {nx : Nat} {w : Wo} {kN : Nat} {f : Nat → Nat} (h : WAt H nx w kN f) (e : Int) : WAt H nx ⟨e, w.nodes, w.log, w.bad⟩ kN f :=
  ⟨h.arr, fun j hj => by rw [h.tok j hj]; cases j <;> rfl, h.inj, h.kn, h.fn, h.len⟩
theorem WAt.log {H H' : Hp} {nx nx' : Nat} {w : Wo} {kN t : Nat} {f : Nat → Nat} {l : List Vo} (h : WAt H nx w kN f) (hH : H' t = some (tokO l)) (ht : t = f 0 ∨ nx ≤ t) (hk : ∀ k, k ≠ f 0 → k < nx → H' k = H k) (hlt : t < nx') (hle : nx ≤ nx') :
    WAt H' nx' ⟨w.ep, w.nodes, l, w.bad⟩ kN (fupd f 0 t) := by
  have hne : ∀ j, j < 5 → j ≠ 0 → f j ≠ f 0 := fun j hj h0 e => h0 (h.inj j 0 hj (by omega) e)
  have htn : ∀ j, j < 5 → j ≠ 0 → f j ≠ t := fun j hj h0 e => by
    rcases ht with rfl | ht
    · exact hne j hj h0 e
    · have := h.fn j hj; omega
  refine ⟨?_, fun j hj => ?_, fun i j hi hj e => ?_, Nat.lt_of_lt_of_le h.kn hle, fun j hj => ?_, h.len⟩
  · rw [hk _ (h.ne (by omega : 0 < 5)).symm h.kn, h.arr]
    show some (Ob.arr ty_impl_Node 4 (ndsK f w.nodes)) = some (Ob.arr ty_impl_Node 4 (ndsK (fupd f 0 t) w.nodes))
    rw [ndsK_congr (g := fupd f 0 t) fun i _ => (fupd_ne (by omega)).symm]
  · cases j with
    | zero => rw [fupd_at]; exact hH
    | succ j => rw [fupd_ne (by omega), hk _ (hne _ hj (by omega)) (h.fn _ hj), h.tok _ hj]; rfl
  · by_cases hi0 : i = 0
    · subst hi0
      by_cases hj0 : j = 0
      · exact hj0.symm
      · rw [fupd_at, fupd_ne hj0] at e
        exact absurd e.symm (htn j hj hj0)
    · rw [fupd_ne hi0] at e
      by_cases hj0 : j = 0
      · subst hj0
        rw [fupd_at] at e
        exact absurd e (htn i hi hi0)
      · rw [fupd_ne hj0] at e
        exact h.inj i j hi hj e
  · by_cases hj0 : j = 0
    · subst hj0; rw [fupd_at]; exact hlt
    · rw [fupd_ne hj0]; exact Nat.lt_of_lt_of_le (h.fn j hj) hle
theorem WAt.put {H H' : Hp} {nx nx' : Nat} {w : Wo} {kN i t : Nat} {f : Nat → Nat} {n : Nd} (h : WAt H nx w kN f) (hi : i < 4) (hH : H' t = some (tokO n.seen)) (ht : t = f (i + 1) ∨ nx ≤ t) (hk : ∀ k, k ≠ f (i + 1) → k ≠ kN → k < nx → H' k = H k)
    (hA : H' kN = some (.arr ty_impl_Node 4 ((ndsK f w.nodes).set i (ndK n t)))) (hlt : t < nx') (hle : nx ≤ nx') : WAt H' nx' (setN w i n) kN (fupd f (i + 1) t) := by
  have hne : ∀ j, j < 5 → j ≠ i + 1 → f j ≠ f (i + 1) := fun j hj h0 e => h0 (h.inj j (i + 1) hj (by omega) e)
  have htn : ∀ j, j < 5 → j ≠ i + 1 → f j ≠ t := fun j hj h0 e => by
    rcases ht with rfl | ht
    · exact hne j hj h0 e
    · have := h.fn j hj; omega
  refine ⟨?_, fun j hj => ?_, fun a b ha hb e => ?_, Nat.lt_of_lt_of_le h.kn hle, fun j hj => ?_, by show (w.nodes.set i n).length = 4; simp [h.len]⟩
  · rw [hA, ndsK_set]; rfl
  · by_cases e : j = i + 1
    · subst e
      rw [fupd_at, hH]
      show _ = some (tokO ((((w.nodes.set i n)[i]?).map Nd.seen).getD []))
      rw [List.getElem?_set, if_pos rfl, if_pos (by rw [h.len]; exact hi)]; rfl
    · rw [fupd_ne e, hk _ (hne j hj e) (h.ne hj) (h.fn j hj), h.tok j hj]
      cases j with
      | zero => rfl
      | succ j =>
        show some (tokO (((w.nodes[j]?).map Nd.seen).getD [])) = some (tokO ((((w.nodes.set i n)[j]?).map Nd.seen).getD []))
        rw [List.getElem?_set, if_neg (by omega)]
  · by_cases hi0 : a = i + 1
    · subst hi0
      by_cases hj0 : b = i + 1
      · exact hj0.symm
      · rw [fupd_at, fupd_ne hj0] at e
        exact absurd e.symm (htn b hb hj0)
    · rw [fupd_ne hi0] at e
      by_cases hj0 : b = i + 1
      · subst hj0
        rw [fupd_at] at e
        exact absurd e (htn a ha hi0)
      · rw [fupd_ne hj0] at e
        exact h.inj a b ha hb e
  · by_cases hj0 : j = i + 1
    · subst hj0; rw [fupd_at]; exact hlt
    · rw [fupd_ne hj0]; exact Nat.lt_of_lt_of_le (h.fn j hj) hle
/-! ### contracts of functions that are handed a world and hand one back -/
def stdF : Nat → Nat := (· + 1)
def obsW (w : Wo) : List Ob := [arrK stdF w.nodes, tokO (lst w 0), tokO (lst w 1), tokO (lst w 2), tokO (lst w 3), tokO (lst w 4)]
structure OutW (w : Wo) (f : Nat → Nat) (obs : List (Option Ob)) : Prop where
  arr : obs[0]? = some (some (arrK f w.nodes))
  tok : ∀ j, j < 5 → 1 ≤ f j ∧ obs[f j]? = some (some (tokO (lst w j)))
  inj : ∀ i j, i < 5 → j < 5 → f i = f j → i = j
  old : ∀ i, 1 ≤ i → i < 6 → ∃ x, obs[i]? = some x ∧ (x = none ∨ ∃ T s n, x = some (.tok T s n))
  l1 : 6 ≤ obs.length
  l2 : obs.length ≤ 22
def Tk (H : Hp) (k : Nat) : Prop := H k = none ∨ ∃ T s n, H k = some (.tok T s n)
def Stale (H : Hp) : Prop := ∀ i, 1 ≤ i → i < 6 → Tk H i
theorem nmapS_out {s nm k i : Nat} {ks : List Nat} (hk : k ∉ ks) (hlt : k < nm) : nmapS s ks nm i ≠ k := by
  unfold nmapS
  split
  · intro e; exact hk (e ▸ List.getElem_mem _)
  · omega
section
variable {P : Program} {g : Nat} {S : MSpec} {fr : Env} {H : Hp} {nm nx rm rm' lim : Nat} {K : KV} {xs : List (X × List (Option Nat))} {res : List Rs} {post : AV → List (Option Ob) → Prop}
theorem ksW_nodup {w : Wo} {kN : Nat} {f : Nat → Nat} (hW : WAt H nx w kN f) : [kN, f 0, f 1, f 2, f 3, f 4].Nodup := by
  have n0 := (hW.ne (show 0 < 5 by omega)).symm
  have n1 := (hW.ne (show 1 < 5 by omega)).symm
  have n2 := (hW.ne (show 2 < 5 by omega)).symm
  have n3 := (hW.ne (show 3 < 5 by omega)).symm
  have n4 := (hW.ne (show 4 < 5 by omega)).symm
  have hi := hW.inj
  have q : ∀ i j, i < 5 → j < 5 → i ≠ j → f i ≠ f j := fun i j h1 h2 h3 e => h3 (hi i j h1 h2 e)
  have q01 := q 0 1 (by omega) (by omega) (by omega)
  have q02 := q 0 2 (by omega) (by omega) (by omega)
  have q03 := q 0 3 (by omega) (by omega) (by omega)
  have q04 := q 0 4 (by omega) (by omega) (by omega)
  have q12 := q 1 2 (by omega) (by omega) (by omega)
  have q13 := q 1 3 (by omega) (by omega) (by omega)
  have q14 := q 1 4 (by omega) (by omega) (by omega)
  have q23 := q 2 3 (by omega) (by omega) (by omega)
  have q24 := q 2 4 (by omega) (by omega) (by omega)
  have q34 := q 3 4 (by omega) (by omega) (by omega)
  simp only [List.nodup_cons, List.mem_cons, List.not_mem_nil, or_false, not_or, not_false_eq_true, List.nodup_nil, and_true]
  exact ⟨⟨n0, n1, n2, n3, n4⟩, ⟨q01, q02, q03, q04⟩, ⟨q12, q13, q14⟩, ⟨q23, q24⟩, q34⟩
theorem ksW_get {kN : Nat} {f : Nat → Nat} {ex : List Nat} {j : Nat} (hj : j < 5) : ([kN, f 0, f 1, f 2, f 3, f 4] ++ ex)[stdF j]? = some (f j) := by
  match j, hj with
  | 0, _ => rfl
  | 1, _ => rfl
  | 2, _ => rfl
  | 3, _ => rfl
  | 4, _ => rfl
theorem arrK_congr {f h : Nat → Nat} {ns : List Nd} (hl : ns.length = 4) (hf : ∀ j, j < 5 → f j = h j) : arrK f ns = arrK h ns := by
  unfold arrK
  rw [ndsK_congr fun i hi => hf (i + 1) (by omega)]
/-- A world in, and more; what names it has. -/
theorem ksW_obs {w : Wo} {kN : Nat} {f ρ : Nat → Nat} {ex : List Nat} {eo : List Ob} (hW : WAt H nx w kN f) (h0 : ρ 0 = kN) (hf : ∀ j, j < 5 → ρ (stdF j) = f j) (he : ∀ (i k : Nat), ex[i]? = some k → ∃ ob : Ob, eo[i]? = some ob ∧ H k = some (ob.ren ρ)) :
    ∀ (i k : Nat), ([kN, f 0, f 1, f 2, f 3, f 4] ++ ex)[i]? = some k → ∃ ob : Ob, (obsW w ++ eo)[i]? = some ob ∧ H k = some (ob.ren ρ) := by
  intro i k h
  match i, h with
  | 0, h => cases h; exact ⟨_, rfl, by rw [hW.arr, arrK_ren, arrK_congr hW.len fun j hj => (hf j hj).symm]⟩
  | 1, h => cases h; exact ⟨_, rfl, hW.tok 0 (by omega)⟩
  | 2, h => cases h; exact ⟨_, rfl, hW.tok 1 (by omega)⟩
  | 3, h => cases h; exact ⟨_, rfl, hW.tok 2 (by omega)⟩
  | 4, h => cases h; exact ⟨_, rfl, hW.tok 3 (by omega)⟩
  | 5, h => cases h; exact ⟨_, rfl, hW.tok 4 (by omega)⟩
  | i + 6, h => exact he i k h
theorem Stale.call {H' : Hp} {kN : Nat} {f : Nat → Nat} (h : Stale H) (h0 : kN = 0) (hn : 6 ≤ nm) (h1 : ∀ j, j < 5 → Tk H' (f j)) (h2 : ∀ k, k ≠ kN → (∀ j, j < 5 → k ≠ f j) → k < nm → H' k = H k) : Stale H' := by
  intro i hi1 hi2
  by_cases e : ∃ j, j < 5 ∧ i = f j
  · obtain ⟨j, hj, rfl⟩ := e; exact h1 j hj
  · have := h2 i (by omega) (fun j hj e' => e ⟨j, hj, e'⟩) (by omega)
    unfold Tk; rw [this]; exact h i hi1 hi2
end
end Av
end Go.Proofs.Ytfijfccgghhkoaa
