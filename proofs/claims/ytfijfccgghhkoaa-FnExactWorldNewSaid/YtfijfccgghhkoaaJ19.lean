/- Texts of the layer, joined. -/
import Derived.Test.YtfijfccgghhkoaaG0
import Derived.Test.YtfijfccgghhkoaaE4
set_option linter.unusedVariables false
set_option linter.unusedSimpArgs false
namespace Go.Proofs.Ytfijfccgghhkoaa
namespace Av
open Go.RowKit
theorem pre_eq {α : Type} {c d : List α} (h : ∀ (j : Nat) (x : α), c[j]? = some x → d[j]? = some x) : c = d.take c.length := by
  apply List.ext_getElem?
  intro i
  rcases Nat.lt_or_ge i c.length with hi | hi
  · rw [List.getElem?_take_of_lt hi, List.getElem?_eq_getElem hi]
    exact (h i _ (List.getElem?_eq_getElem hi)).symm
  · rw [List.getElem?_eq_none hi, List.getElem?_eq_none]
    simp only [List.length_take]; omega
theorem same_of {α : Type} {c d : List α} (h : c.length = d.length) (h' : c = d.take c.length) : c = d := by
  rw [h, List.take_length] at h'; exact h'
attribute [local irreducible] Valid ValidM
end Av
end Go.Proofs.Ytfijfccgghhkoaa

namespace Go.Proofs.Ytfijfccgghhkoaa
namespace Av
open Go.RowKit
attribute [local irreducible] Valid ValidM
end Av
end Go.Proofs.Ytfijfccgghhkoaa

namespace Go.Proofs.Ytfijfccgghhkoaa
namespace Av
open Go.RowKit
theorem VotesOk.ok {l : List Vo} (h : VotesOk l) {v : Vo} (hv : v ∈ l) : VoteOk v := by
  obtain ⟨i, hi⟩ := List.mem_iff_getElem?.1 hv
  exact (h i v hi).1
end Av
end Go.Proofs.Ytfijfccgghhkoaa

