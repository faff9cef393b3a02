/- The plain laws: valid votes: counting votes is counting voters. -/
import Derived.Test.YtdboofnogabefaaE4
set_option linter.unusedVariables false
set_option linter.unusedSimpArgs false
namespace Go.Proofs.Ytdboofnogabefaa
namespace Av
open Go.RowKit
theorem VotesOk.nodup {l : List Vo} (h : VotesOk l) : l.Nodup := by
  rw [List.nodup_iff_pairwise_ne, List.pairwise_iff_getElem]
  intro i j hi hj hij e
  have h1 := (h j l[j] (List.getElem?_eq_getElem hj)).2
  apply h1
  rw [List.mem_take_iff_getElem]
  exact ⟨i, by omega, e⟩
theorem VotesOk.ok {l : List Vo} (h : VotesOk l) {v : Vo} (hv : v ∈ l) : VoteOk v := by
  obtain ⟨i, hi⟩ := List.mem_iff_getElem?.1 hv
  exact (h i v hi).1
theorem many_voters {l : List Vo} (h : VotesOk l) (d : List It) : many l d = (voters l d).length := by
  unfold many
  rw [List.countP_eq_length_filter, ← List.length_map (f := fun v : Vo => v.n)]
  apply List.Perm.length_eq
  have n1 : ((l.filter fun v => decide (v.c = d)).map fun v => v.n).Nodup := by
    rw [List.nodup_iff_pairwise_ne, List.pairwise_map]
    have : (l.filter fun v => decide (v.c = d)).Nodup := List.Nodup.sublist List.filter_sublist h.nodup
    rw [List.nodup_iff_pairwise_ne] at this
    refine this.imp_of_mem fun {a b} ha hb hne e => hne ?_
    have ha := (List.mem_filter.1 ha).2
    have hb := (List.mem_filter.1 hb).2
    simp only [decide_eq_true_eq] at ha hb
    cases a; cases b; simp_all
  have n2 : (voters l d).Nodup := List.Nodup.sublist List.filter_sublist (by decide)
  rw [List.perm_ext_iff_of_nodup n1 n2]
  intro n
  unfold voters
  simp only [List.mem_map, List.mem_filter, decide_eq_true_eq, tb_iff]
  constructor
  · rintro ⟨v, ⟨hv, rfl⟩, rfl⟩
    refine ⟨?_, hv⟩
    have := (h.ok hv).1
    have h1 : v.n = 1 ∨ v.n = 2 ∨ v.n = 3 ∨ v.n = 4 := by obtain ⟨h1, h2⟩ := this; omega
    simpa using h1
  · rintro ⟨_, hv⟩
    exact ⟨⟨n, d⟩, ⟨hv, rfl⟩, rfl⟩
theorem sureM_iff {l : List Vo} (h : VotesOk l) (c : List It) : SureM l c ↔ Sure l c := by
  unfold SureM Sure SureAt
  simp only [many_voters h]
theorem allFromM_eq {l : List Vo} (h : VotesOk l) : ∀ (r : List Vo) (out : List (List It)), allFromM l r out = allFrom l r out
  | [], _ => rfl
  | v :: r, out => by
    simp only [allFromM, allFrom]
    rw [show tb (v.c ∉ out ∧ SureM l v.c) = tb (v.c ∉ out ∧ Sure l v.c) from by rw [sureM_iff h]]
    exact allFromM_eq h r _
theorem allM_eq {l : List Vo} (h : VotesOk l) : allM l = allS l := allFromM_eq h l _
end Av
end Go.Proofs.Ytdboofnogabefaa
