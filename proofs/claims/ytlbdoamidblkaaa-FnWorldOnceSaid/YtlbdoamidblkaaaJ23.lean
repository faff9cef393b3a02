/- Texts of the layer, joined. -/
import Derived.Test.YtlbdoamidblkaaaJ10
import Derived.Test.YtlbdoamidblkaaaZC
set_option linter.unusedVariables false
set_option linter.unusedSimpArgs false
namespace Go.Proofs.Ytlbdoamidblkaaa
namespace Av
open Go.RowKit
/-! ### the reference's nodes are the program's -/
theorem addV_mem {l : List Vo} {v u : Vo} : u ∈ addV l v ↔ u ∈ l ∨ u = v := by
  by_cases h : v ∈ l
  · rw [addV_in h]
    exact ⟨.inl, fun g => by rcases g with g | rfl; exact g; exact h⟩
  · rw [addV_new h]; simp
theorem fitsN_tf {m : Nd} {u : Vo} (h : VotesOk m.seen) : FitsN true m u ↔ FitsN false m u := by
  show (u.n = lead m.ep ∧ lastE u = m.ep ∧ u.c.length - 1 = (tipM m.seen).length ∧ SureM m.seen _) ↔ (u.n = lead m.ep ∧ lastE u = m.ep ∧ u.c.length - 1 = (tip m.seen).length ∧ Sure m.seen _)
  rw [tipM_eq h, sureM_iff h]
theorem tryN_tf {m : Nd} (h : VotesOk m.seen) : tryN true m = tryN false m := by
  unfold tryN; rw [show FitsN true m = FitsN false m from funext fun u => propext (fitsN_tf h)]
theorem hearN_tf {n : Nd} {v : Vo} (h : VotesOk n.seen) : hearN true n v = hearN false n v := by
  by_cases hh : HearsN n v
  · unfold hearN; rw [tb_pos hh]; exact tryN_tf (addV_ok h hh.1)
  · unfold hearN; rw [tb_neg hh]; rfl
theorem propN_tf {n : Nd} {p : Pa} (h : VotesOk n.seen) : propN true n p = propN false n p := by
  unfold propN; rw [show tipX true n.seen = tipX false n.seen from tipM_eq h]
/-! ### bounds -/
def NdV (n : Nd) (o : Tri) : Prop := o.1.id = n.id ∧ o.1.ep = n.ep ∧ SeenB o.1.seen ∧ (o.2.2 = true → VoteOk o.2.1) ∧ o.2.1.c.length ≤ 16
theorem NdV.ndb {n : Nd} {o : Tri} (h : NdV n o) (hn : NdB n) : NdB o.1 := ⟨by rw [h.1]; exact hn.1, by rw [h.2.1]; exact hn.2.1, h.2.2.1⟩
theorem ndV_no {n : Nd} (h : SeenB n.seen) : NdV n (n, zVo, false) := ⟨rfl, rfl, h, (fun h => by cases h), Nat.zero_le _⟩
theorem voteN_b {n : Nd} {c : List It} (hid : In n.id 1 4) (h : SeenB n.seen) (hc : c ≠ [] ∧ ChainOk c) : NdV n (voteN n c) := by
  unfold voteN
  split
  · exact ndV_no h
  · rename_i h8
    have hv : VoteOk ⟨n.id, c⟩ := ⟨hid, hc⟩
    refine ⟨rfl, rfl, ⟨by simp only [List.length_append, List.length_singleton]; omega, fun v hv' => ?_⟩, (fun _ => hv), hc.2.2⟩
    rcases List.mem_append.1 hv' with g | g
    · exact h.2 v g
    · rw [List.mem_singleton] at g; subst g; exact hv
theorem tryN_b {b : Bool} {n : Nd} (hid : In n.id 1 4) (h : SeenB n.seen) : NdV n (tryN b n) := by
  unfold tryN
  split
  · split
    · rename_i v hv
      have hm : v ∈ n.seen := List.mem_of_find?_eq_some hv
      exact voteN_b hid h (h.2 v hm).2
    · exact ndV_no h
  · exact ndV_no h
theorem hearN_b {b : Bool} {n : Nd} {v : Vo} (hid : In n.id 1 4) (h : SeenB n.seen) : NdV n (hearN b n v) := by
  unfold hearN
  split
  · rename_i hh
    obtain ⟨h1, h2, h3⟩ := tb_iff.1 hh
    refine tryN_b (n := ⟨n.id, n.ep, n.vt, addV n.seen v⟩) hid ⟨Nat.le_trans (addV_len _ _) h3, fun u hu => ?_⟩
    rcases addV_mem.1 hu with g | rfl
    · exact h.2 u g
    · exact h1
  · exact ndV_no h
theorem propN_b {b : Bool} {n : Nd} {p : Pa} (hid : In n.id 1 4) (h : SeenB n.seen) : NdV n (propN b n p) := by
  unfold propN
  split
  · rename_i hh
    exact voteN_b hid h ⟨by simp, (tb_iff.1 hh).2.2⟩
  · exact ndV_no h
/-! ### worlds -/
def WInv (w : Wo) : Prop := In w.ep 0 30 ∧ In w.bad 0 4 ∧ w.nodes.length = 4 ∧ SeenB w.log ∧ ∀ n, n ∈ w.nodes → NdB n
def setN (w : Wo) (i : Nat) (n : Nd) : Wo := ⟨w.ep, w.nodes.set i n, w.log, w.bad⟩
noncomputable def sendW (w : Wo) (v : Vo) (ok : Bool) : Wo := if ok = true ∧ w.log.length < 80 then ⟨w.ep, w.nodes, addV w.log v, w.bad⟩ else w
noncomputable def stepW (w : Wo) (i : Nat) (f : Nd → Tri) : Wo := match w.nodes[i]? with | some n => sendW (setN w i (f n).1) (f n).2.1 (f n).2.2 | none => w
def MayProp (w : Wo) (k : Int) (p : Pa) : Prop := In k 1 4 ∧ k ≠ w.bad ∧ PayOk p ∧ w.log.length < 80
def MayBring (w : Wo) (j k : Int) : Prop := In j 0 ((w.log.length : Int) - 1) ∧ In k 1 4 ∧ k ≠ w.bad ∧ w.log.length < 80
noncomputable def propW (w : Wo) (k : Int) (p : Pa) : Wo := if tb (MayProp w k p) = true then stepW w (k - 1).toNat (fun n => propN true n p) else w
noncomputable def bringW (w : Wo) (j k : Int) : Wo := if tb (MayBring w j k) = true then (match w.log[j.toNat]? with | some v => stepW w (k - 1).toNat (fun n => hearN true n v) | none => w) else w
def tickE (w : Wo) : Int := if 30 < w.ep + 1 then 30 else w.ep + 1
def tickW (w : Wo) : Wo := ⟨tickE w, w.nodes.map fun n => entN n (tickE w), w.log, w.bad⟩
noncomputable def doW (w : Wo) (e : Ev) : Wo := if e.k = 1 then tickW w else if e.k = 2 then propW w e.a e.p else if e.k = 3 then bringW w e.a e.b else
  if tb (e.k = 4 ∧ VoteOk e.v ∧ e.v.n = w.bad) = true then sendW w e.v true else w
theorem setN_inv {w : Wo} (h : WInv w) {i : Nat} {n : Nd} (hn : NdB n) : WInv (setN w i n) := by
  obtain ⟨h1, h2, h3, h4, h5⟩ := h
  refine ⟨h1, h2, by show (w.nodes.set i n).length = 4; simp [h3], h4, fun m hm => ?_⟩
  rcases List.mem_or_eq_of_mem_set hm with g | rfl
  · exact h5 m g
  · exact hn
theorem sendW_inv {w : Wo} (h : WInv w) {v : Vo} {ok : Bool} (hv : ok = true → VoteOk v) : WInv (sendW w v ok) := by
  unfold sendW
  split
  · rename_i hh
    obtain ⟨h1, h2, h3, h4, h5⟩ := h
    refine ⟨h1, h2, h3, ⟨Nat.le_trans (addV_len _ _) hh.2, fun u hu => ?_⟩, h5⟩
    rcases addV_mem.1 hu with g | rfl
    · exact h4.2 u g
    · exact hv hh.1
  · exact h
theorem stepW_inv {w : Wo} (h : WInv w) {i : Nat} {f : Nd → Tri} (hf : ∀ n, NdB n → NdV n (f n)) : WInv (stepW w i f) := by
  unfold stepW
  split
  · rename_i n hn
    have hb := h.2.2.2.2 n (List.mem_of_getElem? hn)
    exact sendW_inv (setN_inv h ((hf n hb).ndb hb)) (hf n hb).2.2.2.1
  · exact h
theorem propW_inv {w : Wo} (h : WInv w) {k : Int} {p : Pa} : WInv (propW w k p) := by
  unfold propW
  split
  · exact stepW_inv h fun n hn => propN_b hn.1 hn.2.2
  · exact h
theorem bringW_inv {w : Wo} (h : WInv w) {j k : Int} : WInv (bringW w j k) := by
  unfold bringW
  split
  · split
    · exact stepW_inv h fun n hn => hearN_b hn.1 hn.2.2
    · exact h
  · exact h
theorem tickE_in {w : Wo} (h : In w.ep 0 30) : In (tickE w) 0 30 := by
  obtain ⟨h1, h2⟩ := h
  unfold tickE; split <;> exact ⟨by omega, by omega⟩
theorem entN_b {n : Nd} {e : Int} (hn : NdB n) (he : In e 0 30) : NdB (entN n e) := by
  unfold entN
  split
  · exact ⟨hn.1, he, hn.2.2⟩
  · exact hn
theorem tickW_inv {w : Wo} (h : WInv w) : WInv (tickW w) := by
  obtain ⟨h1, h2, h3, h4, h5⟩ := h
  refine ⟨tickE_in h1, h2, by show (w.nodes.map _).length = 4; simp [h3], h4, fun m hm => ?_⟩
  obtain ⟨n, hn, rfl⟩ := List.mem_map.1 hm
  exact entN_b (h5 n hn) (tickE_in h1)
theorem doW_inv {w : Wo} (h : WInv w) {e : Ev} : WInv (doW w e) := by
  unfold doW
  split
  · exact tickW_inv h
  · split
    · exact propW_inv h
    · split
      · exact bringW_inv h
      · split
        · rename_i hh
          exact sendW_inv h fun _ => (tb_iff.1 hh).2.1
        · exact h
end Av
end Go.Proofs.Ytlbdoamidblkaaa

namespace Go.Proofs.Ytlbdoamidblkaaa
namespace Av
open Go.RowKit
theorem entN_up {n : Nd} {e : Int} (h : n.ep + 1 ≤ e ∧ e ≤ 30) : entN n e = ⟨n.id, e, n.vt, n.seen⟩ := if_pos h
theorem entN_no {n : Nd} {e : Int} (h : ¬ (n.ep + 1 ≤ e ∧ e ≤ 30)) : entN n e = n := if_neg h
theorem nodeOk_up {n : Nd} {e : Int} (h : NodeOk n) (he : n.ep + 1 ≤ e ∧ e ≤ 30) : NodeOk ⟨n.id, e, n.vt, n.seen⟩ :=
  ⟨h.1, ⟨by have := h.2.1.1; show 0 ≤ e; omega, he.2⟩, ⟨h.2.2.1.1, by have := h.2.2.1.2; show n.vt ≤ e; omega⟩, h.2.2.2.1, h.2.2.2.2.1, h.2.2.2.2.2⟩
theorem hearN_no {b : Bool} {n : Nd} {v : Vo} (h : ¬ HearsN n v) : hearN b n v = (n, zVo, false) := by unfold hearN; rw [tb_neg h]; rfl
theorem hearN_yes {b : Bool} {n : Nd} {v : Vo} (h : HearsN n v) : hearN b n v = tryN b ⟨n.id, n.ep, n.vt, addV n.seen v⟩ := by unfold hearN; rw [tb_pos h]; rfl
theorem tryN_cases (b : Bool) (m : Nd) : tryN b m = (m, zVo, false) ∨ (mayN m ∧ ∃ u, u ∈ m.seen ∧ FitsN b m u ∧ tryN b m = voteN m u.c) := by
  by_cases h : mayN m
  · cases hf : firstN (FitsN b m) m.seen with
    | none => left; unfold tryN; rw [tb_pos h, hf]; rfl
    | some u =>
      right
      refine ⟨h, u, List.mem_of_find?_eq_some hf, ?_, by unfold tryN; rw [tb_pos h, hf]; rfl⟩
      have := List.find?_some hf
      exact tb_iff.1 this
  · exact .inl (tryN_no h)
theorem voteN_cases (m : Nd) (c : List It) : (80 ≤ m.seen.length ∧ voteN m c = (m, zVo, false)) ∨ (m.seen.length < 80 ∧ voteN m c = (⟨m.id, m.ep, m.ep, m.seen ++ [⟨m.id, c⟩]⟩, ⟨m.id, c⟩, true)) := by
  by_cases h : 80 ≤ m.seen.length
  · exact .inl ⟨h, if_pos h⟩
  · exact .inr ⟨by omega, if_neg h⟩
theorem voteN_ok {m : Nd} {c : List It} (h : NodeOk m) (hmay : mayN m) (hc : c ≠ [] ∧ ChainOk c) (hl : lastE ⟨m.id, c⟩ = m.ep) : NodeOk (voteN m c).1 := by
  have hlt : m.vt < m.ep := by
    have h1 := h.2.2.1.2
    have h2 := hmay.2
    omega
  rcases voteN_cases m c with ⟨_, e⟩ | ⟨h8, e⟩
  · rw [e]; exact h
  · rw [e]
    refine ⟨h.1, h.2.1, ⟨h.2.1.1, Int.le_refl _⟩, by show (m.seen ++ [_]).length ≤ 80; rw [List.length_append, List.length_singleton]; omega, votesOk_snoc h.2.2.2.2.1 ⟨h.1, hc⟩ fun hm => h.2.2.2.2.2 _ hm ⟨rfl, by rw [hl]; exact hlt⟩, fun v hv hh => ?_⟩
    obtain ⟨q1, q2⟩ := hh
    have q2 : m.ep < lastE v := q2
    rcases List.mem_append.1 hv with g | g
    · exact h.2.2.2.2.2 v g ⟨q1, by omega⟩
    · rw [List.mem_singleton.1 g, hl] at q2
      omega
theorem hears_ok {n : Nd} {v : Vo} (h : NodeOk n) (hh : HearsN n v) : NodeOk ⟨n.id, n.ep, n.vt, addV n.seen v⟩ := by
  refine ⟨h.1, h.2.1, h.2.2.1, Nat.le_trans (addV_len _ _) hh.2.2, addV_ok h.2.2.2.2.1 hh.1, fun u hu hq => ?_⟩
  rcases addV_mem.1 hu with g | rfl
  · exact h.2.2.2.2.2 u g hq
  · exact hh.2.1 hq.1
end Av
end Go.Proofs.Ytlbdoamidblkaaa

namespace Go.Proofs.Ytlbdoamidblkaaa
namespace Av
open Go.RowKit
theorem lastE_snoc {i : Int} {l : List It} {x : It} : lastE ⟨i, l ++ [x]⟩ = x.e := by
  refine lastE_at (v := ⟨i, l ++ [x]⟩) ?_
  show (l ++ [x])[(l ++ [x]).length - 1]? = some x
  rw [List.length_append, List.length_singleton, Nat.add_sub_cancel, List.getElem?_append_right (Nat.le_refl _), Nat.sub_self]; rfl
noncomputable abbrev newC (n : Nd) (p : Pa) : List It := tip n.seen ++ [⟨n.ep, p⟩]
noncomputable abbrev newN (n : Nd) (p : Pa) : Nd := ⟨n.id, n.ep, n.ep, n.seen ++ [⟨n.id, newC n p⟩]⟩
theorem prop_cases (n : Nd) (p : Pa) : propN false n p = (n, zVo, false) ∨ (mayN n ∧ lead n.ep = n.id ∧ ChainOk (newC n p) ∧ propN false n p = (newN n p, ⟨n.id, newC n p⟩, true)) := by
  by_cases h : mayN n ∧ lead n.ep = n.id ∧ ChainOk (newC n p)
  · have e : propN false n p = voteN n (newC n p) := by unfold propN; rw [tb_pos (show mayN n ∧ lead n.ep = n.id ∧ ChainOk (tipX false n.seen ++ [⟨n.ep, p⟩]) from h)]; rfl
    rcases voteN_cases n (newC n p) with ⟨_, e'⟩ | ⟨_, e'⟩
    · exact .inl (e.trans e')
    · exact .inr ⟨h.1, h.2.1, h.2.2, e.trans e'⟩
  · left
    unfold propN
    rw [tb_neg (show ¬ (mayN n ∧ lead n.ep = n.id ∧ ChainOk (tipX false n.seen ++ [⟨n.ep, p⟩])) from h)]; rfl
theorem newN_no {n : Nd} {p : Pa} (h : propN false n p = (newN n p, ⟨n.id, newC n p⟩, true)) : n.seen.length < 80 := by
  rcases Nat.lt_or_ge n.seen.length 80 with g | g
  · exact g
  · exfalso
    unfold propN at h
    split at h
    · rw [show voteN n _ = (n, zVo, false) from if_pos g] at h
      exact Bool.noConfusion (congrArg (fun x : Tri => x.2.2) h)
    · exact Bool.noConfusion (congrArg (fun x : Tri => x.2.2) h)
end Av
end Go.Proofs.Ytlbdoamidblkaaa

