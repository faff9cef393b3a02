/- The plain laws: valid votes: counting votes is counting voters. -/
import Derived.Test.YtkpncekaehgbdaaE4
set_option linter.unusedVariables false
set_option linter.unusedSimpArgs false
namespace Go.Proofs.Ytkpncekaehgbdaa
namespace Av
open Go.RowKit
theorem VotesOk.nodup {l : List Vo} (h : VotesOk l) : l.Nodup := by
  rw [List.nodup_iff_pairwise_ne, List.pairwise_iff_getElem]
  intro i j hi hj hij e
  have h1 := (h j l[j] (List.getElem?_eq_getElem hj)).2
  apply h1
  rw [List.mem_take_iff_getElem]
  exact ⟨i, by omega, e⟩
theorem VotesOk.ok {l : List Vo} (h : VotesOk l) {v : Vo} (hv : v ∈ l) : VoteOk v := by
  obtain ⟨i, hi⟩ := List.mem_iff_getElem?.1 hv
  exact (h i v hi).1
end Av
end Go.Proofs.Ytkpncekaehgbdaa
