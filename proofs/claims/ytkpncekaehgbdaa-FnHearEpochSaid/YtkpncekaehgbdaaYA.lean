/- The plain laws: what nodes do. -/
import Derived.Test.YtkpncekaehgbdaaZI
set_option linter.unusedVariables false
set_option linter.unusedSimpArgs false
namespace Go.Proofs.Ytkpncekaehgbdaa
namespace Av
open Go.RowKit

theorem entT_ok {n : Nd} (h : NodeOk n) (e : Int) : entT n e = entN n e := by unfold entT; rw [tb_pos h]; rfl
theorem entT_no {n : Nd} (h : ¬ NodeOk n) (e : Int) : entT n e = zNd := by unfold entT; rw [tb_neg h]; rfl
theorem entN_up {n : Nd} {e : Int} (h : n.ep + 1 ≤ e ∧ e ≤ 30) : entN n e = ⟨n.id, e, n.vt, n.seen⟩ := if_pos h
theorem entN_no {n : Nd} {e : Int} (h : ¬ (n.ep + 1 ≤ e ∧ e ≤ 30)) : entN n e = n := if_neg h
theorem nodeOk_up {n : Nd} {e : Int} (h : NodeOk n) (he : n.ep + 1 ≤ e ∧ e ≤ 30) : NodeOk ⟨n.id, e, n.vt, n.seen⟩ :=
  ⟨h.1, ⟨by have := h.2.1.1; show 0 ≤ e; omega, he.2⟩, ⟨h.2.2.1.1, by have := h.2.2.1.2; show n.vt ≤ e; omega⟩, h.2.2.2.1, h.2.2.2.2.1, h.2.2.2.2.2⟩
theorem hearT_ok {n : Nd} (h : NodeOk n) (v : Vo) : hearT n v = hearN false n v := by unfold hearT; rw [tb_pos h]; rfl
theorem hearT_no {n : Nd} (h : ¬ NodeOk n) (v : Vo) : hearT n v = (zNd, zVo, false) := by unfold hearT; rw [tb_neg h]; rfl
theorem hearN_no {b : Bool} {n : Nd} {v : Vo} (h : ¬ HearsN n v) : hearN b n v = (n, zVo, false) := by unfold hearN; rw [tb_neg h]; rfl
theorem hearN_yes {b : Bool} {n : Nd} {v : Vo} (h : HearsN n v) : hearN b n v = tryN b ⟨n.id, n.ep, n.vt, addV n.seen v⟩ := by unfold hearN; rw [tb_pos h]; rfl
theorem tryN_cases (b : Bool) (m : Nd) : tryN b m = (m, zVo, false) ∨ (mayN m ∧ ∃ u, u ∈ m.seen ∧ FitsN b m u ∧ tryN b m = voteN m u.c) := by
  by_cases h : mayN m
  · cases hf : firstN (FitsN b m) m.seen with
    | none => left; unfold tryN; rw [tb_pos h, hf]; rfl
    | some u =>
      right
      refine ⟨h, u, List.mem_of_find?_eq_some hf, ?_, by unfold tryN; rw [tb_pos h, hf]; rfl⟩
      have := List.find?_some hf
      exact tb_iff.1 this
  · exact .inl (tryN_no h)
theorem voteN_cases (m : Nd) (c : List It) : (80 ≤ m.seen.length ∧ voteN m c = (m, zVo, false)) ∨ (m.seen.length < 80 ∧ voteN m c = (⟨m.id, m.ep, m.ep, m.seen ++ [⟨m.id, c⟩]⟩, ⟨m.id, c⟩, true)) := by
  by_cases h : 80 ≤ m.seen.length
  · exact .inl ⟨h, if_pos h⟩
  · exact .inr ⟨by omega, if_neg h⟩
theorem voteN_ok {m : Nd} {c : List It} (h : NodeOk m) (hmay : mayN m) (hc : c ≠ [] ∧ ChainOk c) (hl : lastE ⟨m.id, c⟩ = m.ep) : NodeOk (voteN m c).1 := by
  have hlt : m.vt < m.ep := by
    have h1 := h.2.2.1.2
    have h2 := hmay.2
    omega
  rcases voteN_cases m c with ⟨_, e⟩ | ⟨h8, e⟩
  · rw [e]; exact h
  · rw [e]
    refine ⟨h.1, h.2.1, ⟨h.2.1.1, Int.le_refl _⟩, by show (m.seen ++ [_]).length ≤ 80; rw [List.length_append, List.length_singleton]; omega, votesOk_snoc h.2.2.2.2.1 ⟨h.1, hc⟩ fun hm => h.2.2.2.2.2 _ hm ⟨rfl, by rw [hl]; exact hlt⟩, fun v hv hh => ?_⟩
    obtain ⟨q1, q2⟩ := hh
    have q2 : m.ep < lastE v := q2
    rcases List.mem_append.1 hv with g | g
    · exact h.2.2.2.2.2 v g ⟨q1, by omega⟩
    · rw [List.mem_singleton.1 g, hl] at q2
      omega
theorem tryN_ok {m : Nd} (h : NodeOk m) : NodeOk (tryN false m).1 := by
  rcases tryN_cases false m with e | ⟨hm, u, hu, hf, e⟩
  · rw [e]; exact h
  · rw [e]
    exact voteN_ok h hm (h.2.2.2.2.1.ok' hu).2 hf.2.1
theorem hears_ok {n : Nd} {v : Vo} (h : NodeOk n) (hh : HearsN n v) : NodeOk ⟨n.id, n.ep, n.vt, addV n.seen v⟩ := by
  refine ⟨h.1, h.2.1, h.2.2.1, Nat.le_trans (addV_len _ _) hh.2.2, addV_ok h.2.2.2.2.1 hh.1, fun u hu hq => ?_⟩
  rcases addV_mem.1 hu with g | rfl
  · exact h.2.2.2.2.2 u g hq
  · exact hh.2.1 hq.1
theorem hearN_ok {n : Nd} {v : Vo} (h : NodeOk n) : NodeOk (hearN false n v).1 := by
  by_cases hh : HearsN n v
  · rw [hearN_yes hh]; exact tryN_ok (hears_ok h hh)
  · rw [hearN_no hh]; exact h
theorem hear_again {x : Nd} {v : Vo} (hv : v ∈ x.seen) (ht : x.seen.length < 80 → tryN false x = (x, zVo, false)) : hearN false x v = (x, zVo, false) := by
  by_cases hh : HearsN x v
  · rw [hearN_yes hh, addV_in hv]; exact ht hh.2.2
  · exact hearN_no hh
theorem hear_twice {n : Nd} {v : Vo} : hearN false (hearN false n v).1 v = ((hearN false n v).1, zVo, false) := by
  by_cases hh : HearsN n v
  · rw [hearN_yes hh]
    have hv : v ∈ addV n.seen v := addV_mem.2 (.inr rfl)
    generalize hm : (⟨n.id, n.ep, n.vt, addV n.seen v⟩ : Nd) = m
    have hv : v ∈ m.seen := by rw [← hm]; exact hv
    rcases tryN_cases false m with e | ⟨hmay, u, hu, hf, e⟩
    · rw [e]; exact hear_again hv fun _ => e
    · rw [e]
      rcases voteN_cases m u.c with ⟨h8, e'⟩ | ⟨h8, e'⟩
      · rw [e']; exact hear_again hv fun h => absurd h (by show ¬ m.seen.length < 80; omega)
      · rw [e']
        exact hear_again (List.mem_append_left _ hv) fun _ => tryN_no fun h => h.2 rfl
  · rw [hearN_no hh]; exact hearN_no hh
theorem hear_sees {n : Nd} {v : Vo} : n.seen.length ≤ (hearN false n v).1.seen.length ∧ (hearN false n v).1.seen.length ≤ n.seen.length + 2 ∧ (hearN false n v).1.seen.take n.seen.length = n.seen ∧
    (HearsN n v → v ∈ (hearN false n v).1.seen) ∧ (¬ HearsN n v → (hearN false n v).1.seen.length = n.seen.length) := by
  have hadd : n.seen.length ≤ (addV n.seen v).length ∧ (addV n.seen v).length ≤ n.seen.length + 1 ∧ (addV n.seen v).take n.seen.length = n.seen := by
    by_cases hm : v ∈ n.seen
    · rw [addV_in hm]; exact ⟨Nat.le_refl _, Nat.le_succ _, List.take_length⟩
    · rw [addV_new hm]; refine ⟨by simp, by simp, ?_⟩
      rw [List.take_left']; rfl
  by_cases hh : HearsN n v
  · rw [hearN_yes hh]
    have hv : v ∈ addV n.seen v := addV_mem.2 (.inr rfl)
    obtain ⟨a1, a2, a3⟩ := hadd
    have step : ∀ x : List Vo, (x = addV n.seen v ∨ ∃ u, x = addV n.seen v ++ [u]) → n.seen.length ≤ x.length ∧ x.length ≤ n.seen.length + 2 ∧ x.take n.seen.length = n.seen ∧ (HearsN n v → v ∈ x) ∧ (¬ HearsN n v → x.length = n.seen.length) := by
      rintro x (rfl | ⟨u, rfl⟩)
      · exact ⟨a1, by omega, a3, fun _ => hv, fun h => absurd hh h⟩
      · exact ⟨by simp; omega, by simp; omega, by rw [List.take_append_of_le_length a1]; exact a3, fun _ => List.mem_append_left _ hv, fun h => absurd hh h⟩
    rcases tryN_cases false ⟨n.id, n.ep, n.vt, addV n.seen v⟩ with e | ⟨hmay, u, hu, hf, e⟩
    · rw [e]; exact step _ (.inl rfl)
    · rw [e]
      rcases voteN_cases ⟨n.id, n.ep, n.vt, addV n.seen v⟩ u.c with ⟨h8, e'⟩ | ⟨h8, e'⟩
      · rw [e']; exact step _ (.inl rfl)
      · rw [e']; exact step _ (.inr ⟨_, rfl⟩)
  · rw [hearN_no hh]
    exact ⟨Nat.le_refl _, Nat.le_add_right _ _, List.take_length, fun h => absurd h hh, fun _ => rfl⟩
/-- Nothing of another epoch, or by another than its leader, is voted for. -/
theorem hear_epoch {n : Nd} {v : Vo} (hno : ∀ u, u ∈ n.seen → ¬ (u.n = lead n.ep ∧ lastE u = n.ep)) (hv : ¬ (v.n = lead n.ep ∧ lastE v = n.ep)) : (hearN false n v).2.2 = false := by
  by_cases hh : HearsN n v
  · rw [hearN_yes hh]
    rcases tryN_cases false ⟨n.id, n.ep, n.vt, addV n.seen v⟩ with e | ⟨hmay, u, hu, hf, e⟩
    · rw [e]
    · exfalso
      rcases addV_mem.1 hu with g | rfl
      · exact hno u g ⟨hf.1, hf.2.1⟩
      · exact hv ⟨hf.1, hf.2.1⟩
  · rw [hearN_no hh]
end Av
end Go.Proofs.Ytkpncekaehgbdaa
