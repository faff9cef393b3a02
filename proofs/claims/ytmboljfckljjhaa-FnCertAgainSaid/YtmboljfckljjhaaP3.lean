/- What the laws on drawn trees share: remainders, lists of sure chains. -/
import Derived.Test.YtmboljfckljjhaaT2
set_option linter.unusedVariables false
set_option linter.unusedSimpArgs false
namespace Go.Proofs.Ytmboljfckljjhaa
namespace Av
open Go.RowKit

/-- What a remainder gives. -/
theorem rem_at {α : Type} {x : List α} {m : Nat} {d : Int} (hd : d = (m : Int)) (hm : 0 < m) : Int.tmod (x.length : Int) d = ((x.length % m : Nat) : Int) := by
  rw [hd, Int.tmod_eq_emod_of_nonneg (by omega)]; rfl
theorem quo_at {n k : Nat} {d : Int} (hd : d = (k : Int)) (hn : n ≤ LIM) : IntKind.i64.wrap (Int.tdiv (n : Int) d) = ((n / k : Nat) : Int) := by
  rw [hd, Int.tdiv_eq_ediv_of_nonneg (by omega)]
  have h1 : ((n : Int) / (k : Int)) = ((n / k : Nat) : Int) := rfl
  have h2 : n / k ≤ n := Nat.div_le_self _ _
  simp only [LIM] at hn
  rw [h1, wrap64]
  · have h3 : (0 : Int) ≤ ((n / k : Nat) : Int) := Int.natCast_nonneg _
    generalize ((n / k : Nat) : Int) = q at *
    omega
  · generalize n / k = q at *
    omega
theorem rem_nat {a m : Nat} {d e : Int} (he : e = (a : Int)) (hd : d = (m : Int)) (hm : 0 < m) : Int.tmod e d = ((a % m : Nat) : Int) := by
  rw [he, hd, Int.tmod_eq_emod_of_nonneg (by omega)]; rfl
theorem votesOk_rev_iff {l : List Vo} : VotesOk l.reverse ↔ VotesOk l := ⟨fun h => by have := votesOk_rev h; rwa [List.reverse_reverse] at this, votesOk_rev⟩
theorem allT_rev_len (l : List Vo) : (allT l.reverse).length = (allT l).length := by
  by_cases h : VotesOk l
  · rw [allT_ok h, allT_ok (votesOk_rev h), allS_rev_len]
  · unfold allT
    simp only [tb_neg h, tb_neg (mt votesOk_rev_iff.1 h), Bool.false_eq_true, if_false]
theorem mem_allT_rev {l : List Vo} {c : List It} : c ∈ allT l.reverse ↔ c ∈ allT l := by
  by_cases h : VotesOk l
  · rw [allT_ok h, allT_ok (votesOk_rev h), mem_allS_rev]
  · unfold allT
    simp only [tb_neg h, tb_neg (mt votesOk_rev_iff.1 h), Bool.false_eq_true, if_false]
theorem DrV.rev {l : List Vo} (h : DrV l) : DrV l.reverse := ⟨by rw [List.length_reverse]; exact h.1, fun v hv => h.2 v (List.mem_reverse.1 hv)⟩
theorem allT_no {l : List Vo} (h : ¬ VotesOk l) : allT l = [] := by unfold allT; rw [tb_neg h]; rfl
theorem finT_no {l : List Vo} (h : ¬ VotesOk l) : finT l = [] := by unfold finT; rw [tb_neg h]; rfl
theorem tipT_no {l : List Vo} (h : ¬ VotesOk l) : tipT l = [] := by unfold tipT; rw [tb_neg h]; rfl
theorem FitVs.rev {l : List Vo} (h : FitVs l) : FitVs l.reverse := ⟨by rw [List.length_reverse]; exact h.1, fun u hu => h.2 u (List.mem_reverse.1 hu)⟩
theorem finT_len {l : List Vo} (h : FitVs l) : (finT l).length ≤ LIM := by
  unfold finT
  split
  · exact allS_fits h _ (fin_mem l)
  · exact Nat.zero_le _
theorem tipT_len' {l : List Vo} (h : FitVs l) : (tipT l).length ≤ LIM := by
  unfold tipT
  split
  · exact allS_fits h _ (tip_mem l)
  · exact Nat.zero_le _
end Av
end Go.Proofs.Ytmboljfckljjhaa
