/- Texts of the layer, joined. -/
import Derived.Test.YtfijfccgghhkoaaJ5
import Derived.Test.YtfijfccgghhkoaaJ8
set_option linter.unusedVariables false
set_option linter.unusedSimpArgs false
namespace Go.Proofs.Ytfijfccgghhkoaa
namespace Av
open Go.RowKit
theorem VotesOk.nodup {l : List Vo} (h : VotesOk l) : l.Nodup := by
  rw [List.nodup_iff_pairwise_ne, List.pairwise_iff_getElem]
  intro i j hi hj hij e
  have h1 := (h j l[j] (List.getElem?_eq_getElem hj)).2
  apply h1
  rw [List.mem_take_iff_getElem]
  exact ⟨i, by omega, e⟩
theorem VotesOk.ok {l : List Vo} (h : VotesOk l) {v : Vo} (hv : v ∈ l) : VoteOk v := by
  obtain ⟨i, hi⟩ := List.mem_iff_getElem?.1 hv
  exact (h i v hi).1
theorem many_voters {l : List Vo} (h : VotesOk l) (d : List It) : many l d = (voters l d).length := by
  unfold many
  rw [List.countP_eq_length_filter, ← List.length_map (f := fun v : Vo => v.n)]
  apply List.Perm.length_eq
  have n1 : ((l.filter fun v => decide (v.c = d)).map fun v => v.n).Nodup := by
    rw [List.nodup_iff_pairwise_ne, List.pairwise_map]
    have : (l.filter fun v => decide (v.c = d)).Nodup := List.Nodup.sublist List.filter_sublist h.nodup
    rw [List.nodup_iff_pairwise_ne] at this
    refine this.imp_of_mem fun {a b} ha hb hne e => hne ?_
    have ha := (List.mem_filter.1 ha).2
    have hb := (List.mem_filter.1 hb).2
    simp only [decide_eq_true_eq] at ha hb
    cases a; cases b; simp_all
  have n2 : (voters l d).Nodup := List.Nodup.sublist List.filter_sublist (by decide)
  rw [List.perm_ext_iff_of_nodup n1 n2]
  intro n
  unfold voters
  simp only [List.mem_map, List.mem_filter, decide_eq_true_eq, tb_iff]
  constructor
  · rintro ⟨v, ⟨hv, rfl⟩, rfl⟩
    refine ⟨?_, hv⟩
    have := (h.ok hv).1
    have h1 : v.n = 1 ∨ v.n = 2 ∨ v.n = 3 ∨ v.n = 4 := by obtain ⟨h1, h2⟩ := this; omega
    simpa using h1
  · rintro ⟨_, hv⟩
    exact ⟨⟨n, d⟩, ⟨hv, rfl⟩, rfl⟩
theorem sureM_iff {l : List Vo} (h : VotesOk l) (c : List It) : SureM l c ↔ Sure l c := by
  unfold SureM Sure SureAt
  simp only [many_voters h]
theorem allFromM_eq {l : List Vo} (h : VotesOk l) : ∀ (r : List Vo) (out : List (List It)), allFromM l r out = allFrom l r out
  | [], _ => rfl
  | v :: r, out => by
    simp only [allFromM, allFrom]
    rw [show tb (v.c ∉ out ∧ SureM l v.c) = tb (v.c ∉ out ∧ Sure l v.c) from by rw [sureM_iff h]]
    exact allFromM_eq h r _
theorem allM_eq {l : List Vo} (h : VotesOk l) : allM l = allS l := allFromM_eq h l _
theorem tipM_eq {l : List Vo} (h : VotesOk l) : tipM l = tip l := by unfold tipM tip; rw [allM_eq h]
end Av
end Go.Proofs.Ytfijfccgghhkoaa

namespace Go.Proofs.Ytfijfccgghhkoaa
namespace Av
open Go.RowKit
theorem nodup_take {α : Type} {l : List α} (h : l.Nodup) {i : Nat} {x : α} (hx : l[i]? = some x) : x ∉ l.take i := by
  intro hm
  rw [List.mem_take_iff_getElem] at hm
  obtain ⟨j, hj, e⟩ := hm
  obtain ⟨hi, e'⟩ := List.getElem?_eq_some_iff.1 hx
  rw [List.nodup_iff_pairwise_ne, List.pairwise_iff_getElem] at h
  exact h j i (by omega) hi (by omega) (e.trans e'.symm)
theorem votesOk_iff {l : List Vo} : VotesOk l ↔ (∀ v, v ∈ l → VoteOk v) ∧ l.Nodup :=
  ⟨fun h => ⟨fun v hv => h.ok hv, h.nodup⟩, fun ⟨h1, h2⟩ i v hv => ⟨h1 v (List.mem_of_getElem? hv), nodup_take h2 hv⟩⟩
theorem filter_len_mono {α : Type} {p q : α → Bool} (h : ∀ a, p a = true → q a = true) : ∀ l : List α, (l.filter p).length ≤ (l.filter q).length
  | [] => Nat.le_refl _
  | a :: l => by
    have ih := filter_len_mono h l
    cases hp : p a with
    | true => simp [hp, h a hp]; exact ih
    | false =>
      cases hq : q a with
      | true => simp [hp, hq]; omega
      | false => simp [hp, hq]; exact ih
theorem voters_mono {l m : List Vo} (h : ∀ v, v ∈ l → v ∈ m) (c : List It) : (voters l c).length ≤ (voters m c).length :=
  filter_len_mono (fun n hn => by rw [tb_iff] at hn ⊢; exact h _ hn) _
theorem Sure.mono {l m : List Vo} (h : ∀ v, v ∈ l → v ∈ m) {c : List It} (hs : Sure l c) : Sure m c :=
  fun n h1 h2 => Nat.le_trans (hs n h1 h2) (voters_mono h _)
theorem votesOk_snoc {l : List Vo} {v : Vo} (h : VotesOk l) (hv : VoteOk v) (hn : v ∉ l) : VotesOk (l ++ [v]) := by
  rw [votesOk_iff] at h ⊢
  refine ⟨fun u hu => ?_, ?_⟩
  · rcases List.mem_append.1 hu with hu | hu
    · exact h.1 u hu
    · rw [List.mem_singleton.1 hu]; exact hv
  · rw [List.nodup_append]
    refine ⟨h.2, by simp, ?_⟩
    intro a ha b hb e
    rw [List.mem_singleton.1 hb] at e
    subst e; exact hn ha
theorem FitCs.take {l : List (List It)} (h : FitCs l) (i : Nat) : FitCs (l.take i) :=
  ⟨by have := h.1; simp only [List.length_take]; omega, fun v hv => h.2 v (List.mem_of_mem_take hv)⟩
end Av
end Go.Proofs.Ytfijfccgghhkoaa

