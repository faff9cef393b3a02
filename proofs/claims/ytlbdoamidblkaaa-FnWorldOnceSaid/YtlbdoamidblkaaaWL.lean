/- The plain laws: what is sent in a world. -/
import Derived.Test.YtlbdoamidblkaaaJ23
import Derived.Test.YtlbdoamidblkaaaZK
set_option linter.unusedVariables false
set_option linter.unusedSimpArgs false
namespace Go.Proofs.Ytlbdoamidblkaaa
namespace Av
open Go.RowKit
/-- What a node that is ok comes to, and sends. -/
structure StepOk (n : Nd) (o : Tri) : Prop where
  id : o.1.id = n.id
  ep : o.1.ep = n.ep
  ok : NodeOk o.1
  vt : n.vt ≤ o.1.vt
  sent : o.2.2 = true → o.2.1.n = n.id ∧ lastE o.2.1 = n.ep ∧ n.vt < n.ep ∧ o.1.vt = n.ep ∧ VoteOk o.2.1
theorem stepOk_no {n : Nd} (h : NodeOk n) : StepOk n (n, zVo, false) := ⟨rfl, rfl, h, Int.le_refl _, fun h => by cases h⟩
theorem voteN_step {n : Nd} {c : List It} (h : NodeOk n) (hm : mayN n) (hc : c ≠ [] ∧ ChainOk c) (hl : lastE ⟨n.id, c⟩ = n.ep) : StepOk n (voteN n c) := by
  have hok := voteN_ok h hm hc hl
  rcases voteN_cases n c with ⟨_, e⟩ | ⟨h8, e⟩
  · rw [e]; exact stepOk_no h
  · rw [e] at hok ⊢
    have h1 := h.2.2.1.2
    have h2 := hm.2
    exact ⟨rfl, rfl, hok, h1, fun _ => ⟨rfl, hl, by omega, rfl, h.1, hc⟩⟩
theorem tryN_step {n : Nd} (h : NodeOk n) : StepOk n (tryN false n) := by
  rcases tryN_cases false n with e | ⟨hm, u, hu, hf, e⟩
  · rw [e]; exact stepOk_no h
  · rw [e]
    exact voteN_step h hm (h.2.2.2.2.1.ok' hu).2 hf.2.1
theorem hearN_step {n : Nd} (h : NodeOk n) (v : Vo) : StepOk n (hearN true n v) := by
  rw [hearN_tf h.2.2.2.2.1]
  by_cases hh : HearsN n v
  · rw [hearN_yes hh]
    have := tryN_step (hears_ok h hh)
    exact ⟨this.id, this.ep, this.ok, this.vt, this.sent⟩
  · rw [hearN_no hh]; exact stepOk_no h
theorem propN_step {n : Nd} (h : NodeOk n) (p : Pa) : StepOk n (propN true n p) := by
  rw [propN_tf h.2.2.2.2.1]
  rcases prop_cases n p with e | ⟨hm, _, hc, e⟩
  · rw [e]; exact stepOk_no h
  · have h8 := newN_no e
    rw [e]
    have := voteN_step h hm ⟨by simp, hc⟩ (show lastE ⟨n.id, newC n p⟩ = n.ep from lastE_snoc)
    rw [show voteN n (newC n p) = (newN n p, ⟨n.id, newC n p⟩, true) from if_neg (by omega)] at this
    exact this
/-- What holds of a world that began new. -/
structure WJ (w : Wo) : Prop where
  inv : WInv w
  nd : ∀ (i : Nat) n, w.nodes[i]? = some n → n.id = i + 1 ∧ n.ep = w.ep ∧ NodeOk n
  old : ∀ v, v ∈ w.log → v.n ≠ w.bad → ∀ (i : Nat) n, w.nodes[i]? = some n → v.n = i + 1 → lastE v ≤ n.vt
  dif : w.log.Pairwise fun a b => a.n = b.n → a.n ≠ w.bad → lastE a ≠ lastE b
theorem newW_wj {bad : Int} (h : In bad 0 4) : WJ (newW bad) := by
  refine ⟨newW_inv h, fun i n hn => ?_, (fun v hv => by cases hv), List.Pairwise.nil⟩
  have hz : ∀ k : Int, In k 1 4 → NodeOk ⟨k, 0, 0, []⟩ := fun k hk => ⟨hk, ⟨Int.le_refl 0, (by decide : (0 : Int) ≤ 30)⟩, ⟨Int.le_refl 0, Int.le_refl 0⟩, Nat.zero_le _, (fun i v h => by simp at h), fun v hv => by cases hv⟩
  match i, hn with
  | 0, hn => cases hn; exact ⟨rfl, rfl, hz _ ⟨by decide, by decide⟩⟩
  | 1, hn => cases hn; exact ⟨rfl, rfl, hz _ ⟨by decide, by decide⟩⟩
  | 2, hn => cases hn; exact ⟨rfl, rfl, hz _ ⟨by decide, by decide⟩⟩
  | 3, hn => cases hn; exact ⟨rfl, rfl, hz _ ⟨by decide, by decide⟩⟩
  | i + 4, hn => simp [newW] at hn
theorem tickW_wj {w : Wo} (h : WJ w) : WJ (tickW w) := by
  have hI := tickW_inv h.inv
  obtain ⟨⟨he1, he2⟩, _⟩ := h.inv
  have key : ∀ (i : Nat) n, (tickW w).nodes[i]? = some n → ∃ m, w.nodes[i]? = some m ∧ n = entN m (tickE w) := fun i n hn => by
    have : (w.nodes.map fun n => entN n (tickE w))[i]? = some n := hn
    rw [List.getElem?_map] at this
    obtain ⟨m, h1, h2⟩ := Option.map_eq_some_iff.1 this
    exact ⟨m, h1, h2.symm⟩
  have ent : ∀ m : Nd, NodeOk m → m.ep = w.ep → (entN m (tickE w)).id = m.id ∧ (entN m (tickE w)).ep = tickE w ∧ (entN m (tickE w)).vt = m.vt ∧ NodeOk (entN m (tickE w)) := fun m hm hme => by
    by_cases hh : m.ep + 1 ≤ tickE w ∧ tickE w ≤ 30
    · rw [entN_up hh]; exact ⟨rfl, rfl, rfl, nodeOk_up hm hh⟩
    · rw [entN_no hh]
      refine ⟨rfl, ?_, rfl, hm⟩
      unfold tickE at hh ⊢
      split at hh <;> rename_i hc
      · rw [if_pos hc]; omega
      · exfalso; apply hh; omega
  refine ⟨hI, fun i n hn => ?_, fun v hv hb i n hn hi => ?_, h.dif⟩
  · obtain ⟨m, hm, rfl⟩ := key i n hn
    obtain ⟨a1, a2, a3⟩ := h.nd i m hm
    obtain ⟨b1, b2, b3, b4⟩ := ent m a3 a2
    exact ⟨b1.trans a1, b2, b4⟩
  · obtain ⟨m, hm, rfl⟩ := key i n hn
    obtain ⟨a1, a2, a3⟩ := h.nd i m hm
    rw [(ent m a3 a2).2.2.1]
    exact h.old v hv hb i m hm hi
theorem send_wj {w : Wo} (h : WJ w) {v : Vo} {ok : Bool} (hv : ok = true → VoteOk v) (ho : ok = true → v.n ≠ w.bad → ∀ (i : Nat) n, w.nodes[i]? = some n → v.n = i + 1 → lastE v ≤ n.vt)
    (hd : ok = true → v.n ≠ w.bad → ∀ a, a ∈ w.log → a.n = v.n → lastE a ≠ lastE v) : WJ (sendW w v ok) := by
  have hI := sendW_inv h.inv hv
  unfold sendW at hI ⊢
  split
  · rename_i hh
    rw [if_pos hh] at hI
    refine ⟨hI, h.nd, fun u hu hb => ?_, ?_⟩
    · rcases addV_mem.1 hu with g | rfl
      · exact h.old u g hb
      · exact ho hh.1 hb
    · show (addV w.log v).Pairwise _
      by_cases hm : v ∈ w.log
      · rw [addV_in hm]; exact h.dif
      · rw [addV_new hm, List.pairwise_append]
        refine ⟨h.dif, List.pairwise_singleton _ _, fun a ha b hb e hne => ?_⟩
        rw [List.mem_singleton] at hb; subst hb
        exact hd hh.1 (by rw [← e]; exact hne) a ha e
  · exact h
theorem step_wj {w : Wo} (h : WJ w) {i : Nat} {f : Nd → Tri} (hf : ∀ n, NodeOk n → StepOk n (f n)) : WJ (stepW w i f) := by
  unfold stepW
  split
  · rename_i n hn
    obtain ⟨a1, a2, a3⟩ := h.nd i n hn
    have hs := hf n a3
    have hlt := (List.getElem?_eq_some_iff.1 hn).1
    have key : ∀ (j : Nat) m, (setN w i (f n).1).nodes[j]? = some m → (j = i ∧ m = (f n).1) ∨ w.nodes[j]? = some m := fun j m hm => by
      have hm : (w.nodes.set i (f n).1)[j]? = some m := hm
      rw [List.getElem?_set] at hm
      split at hm
      · rename_i e; exact .inl ⟨e.symm, (Option.some.inj hm).symm⟩
      · exact .inr hm
    have hW : WJ (setN w i (f n).1) := by
      refine ⟨setN_inv h.inv hs.ok.ndb, fun j m hm => ?_, fun v hv hb j m hm hj => ?_, h.dif⟩
      · rcases key j m hm with ⟨rfl, rfl⟩ | g
        · exact ⟨hs.id.trans a1, hs.ep.trans a2, hs.ok⟩
        · exact h.nd j m g
      · rcases key j m hm with ⟨rfl, rfl⟩ | g
        · exact Int.le_trans (h.old v hv hb j n hn hj) hs.vt
        · exact h.old v hv hb j m g hj
    refine send_wj hW (fun e => (hs.sent e).2.2.2.2) (fun e hb j m hm hj => ?_) fun e hb a ha he => ?_
    · obtain ⟨s1, s2, s3, s4, s5⟩ := hs.sent e
      rcases key j m hm with ⟨rfl, rfl⟩ | g
      · rw [s2, s4]; exact Int.le_refl _
      · have hj2 : j = i := by rw [s1, a1] at hj; omega
        subst hj2
        have hm : (w.nodes.set j (f n).1)[j]? = some m := hm
        simp only [List.getElem?_set, if_pos hlt, if_true] at hm
        cases hm
        rw [s2, s4]; exact Int.le_refl _
    · obtain ⟨s1, s2, s3, s4, s5⟩ := hs.sent e
      have hle := h.old a ha (by rw [he]; exact hb) i n hn (by rw [he, s1, a1])
      omega
  · exact h
theorem doW_wj {w : Wo} (h : WJ w) {e : Ev} : WJ (doW w e) := by
  unfold doW
  split
  · exact tickW_wj h
  · split
    · unfold propW; split
      · exact step_wj h fun n hn => propN_step hn _
      · exact h
    · split
      · unfold bringW; split
        · split
          · exact step_wj h fun n hn => hearN_step hn _
          · exact h
        · exact h
      · split
        · rename_i hh
          obtain ⟨_, h2, h3⟩ := tb_iff.1 hh
          exact send_wj h (fun _ => h2) (fun _ hb => absurd h3 hb) fun _ hb => absurd h3 hb
        · exact h
noncomputable def playW (bad : Int) (es : List Ev) : Wo := es.foldl doW (newW bad)
theorem playW_wj {bad : Int} (h : In bad 0 4) (es : List Ev) : WJ (playW bad es) := by
  unfold playW
  have : ∀ (es : List Ev) (w : Wo), WJ w → WJ (es.foldl doW w) := fun es => by
    induction es with
    | nil => exact fun w h => h
    | cons e r ih => exact fun w h => ih _ (doW_wj h)
  exact this es _ (newW_wj h)
theorem doW_bad (w : Wo) (e : Ev) : (doW w e).bad = w.bad := by
  have hs : ∀ (w : Wo) v ok, (sendW w v ok).bad = w.bad := fun w v ok => by unfold sendW; split <;> rfl
  have ht : ∀ (w : Wo) i f, (stepW w i f).bad = w.bad := fun w i f => by
    unfold stepW; split
    · rw [hs]; rfl
    · rfl
  unfold doW
  split
  · rfl
  · split
    · unfold propW; split
      · exact ht _ _ _
      · rfl
    · split
      · unfold bringW; split
        · split
          · exact ht _ _ _
          · rfl
        · rfl
      · split
        · exact hs _ _ _
        · rfl
theorem playW_bad (bad : Int) (es : List Ev) : (playW bad es).bad = bad := by
  have : ∀ (es : List Ev) (w : Wo), (es.foldl doW w).bad = w.bad := fun es => by
    induction es with
    | nil => exact fun w => rfl
    | cons e r ih => exact fun w => (ih _).trans (doW_bad w e)
  exact this es (newW bad)
/-- Who does not lie: his votes are of epochs from 1 to the world's. -/
theorem WJ.last {w : Wo} (h : WJ w) {v : Vo} (hv : v ∈ w.log) (hb : v.n ≠ w.bad) : 1 ≤ lastE v ∧ lastE v ≤ w.ep := by
  obtain ⟨_, _, h4, hs, _⟩ := h.inv
  obtain ⟨⟨v1, v2⟩, hne, hc⟩ := hs.2 v hv
  obtain ⟨n, hn⟩ : ∃ n, w.nodes[(v.n - 1).toNat]? = some n := ⟨_, List.getElem?_eq_getElem (by omega)⟩
  obtain ⟨a1, a2, a3⟩ := h.nd _ n hn
  have h1 := h.old v hv hb _ n hn (by omega)
  have h2 := a3.2.2.1.2
  have hl : 0 < v.c.length := List.length_pos_iff.2 hne
  obtain ⟨x, hx⟩ : ∃ x, v.c[v.c.length - 1]? = some x := ⟨_, List.getElem?_eq_getElem (by omega)⟩
  refine ⟨?_, by omega⟩
  rw [lastE_at hx]
  exact (hc.1 _ _ hx).1.1
theorem WJ.count {w : Wo} (h : WJ w) {b : Int} (hb : b ≠ w.bad) : ((w.log.filter fun v => decide (v.n = b)).length : Int) ≤ w.ep := by
  have h1 : ((w.log.filter fun v => decide (v.n = b)).map lastE).Nodup := by
    rw [List.Nodup, List.pairwise_map]
    have := (h.dif.filter fun v => decide (v.n = b))
    refine this.imp_of_mem fun {x y} hx hy hr => ?_
    have ex : x.n = b := by simpa using (List.mem_filter.1 hx).2
    have ey : y.n = b := by simpa using (List.mem_filter.1 hy).2
    exact hr (ex.trans ey.symm) (by rw [ex]; exact hb)
  have h2 : ((w.log.filter fun v => decide (v.n = b)).map lastE).length ≤ ((List.range w.ep.toNat).map fun k : Nat => (k : Int) + 1).length := by
    refine List.Nodup.length_le_of_subset h1 fun z hz => ?_
    obtain ⟨v, hv, rfl⟩ := List.mem_map.1 hz
    obtain ⟨hv1, hv2⟩ := List.mem_filter.1 hv
    have hv2 : v.n = b := by simpa using hv2
    obtain ⟨l1, l2⟩ := h.last hv1 (by rw [hv2]; exact hb)
    exact List.mem_map.2 ⟨(lastE v - 1).toNat, List.mem_range.2 (by omega), by omega⟩
  obtain ⟨⟨he, _⟩, _⟩ := h.inv
  rw [List.length_map, List.length_map, List.length_range] at h2
  omega
end Av
end Go.Proofs.Ytlbdoamidblkaaa
