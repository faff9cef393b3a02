/- Texts of the layer, joined. -/
import Derived.Test.YtfijfccgghhkoaaE3
import Derived.Test.YtfijfccgghhkoaaW0
import Derived.Test.YtfijfccgghhkoaaE4
set_option linter.unusedVariables false
set_option linter.unusedSimpArgs false
namespace Go.Proofs.Ytfijfccgghhkoaa
namespace Av
open Go.RowKit
attribute [local irreducible] Valid ValidM
set_option maxHeartbeats 4000000 in
set_option maxRecDepth 100000 in
theorem v_spec_l6In : Valid Try.prog n_spec_l6In S_spec_l6In := by
  refine valid_of_swp mixed is_spec_l6In (by rintro _ ⟨a, rfl, _⟩; exact Nat.le_of_ble_eq_true rfl) ?_
  rintro _ rm ⟨⟨n, lo, hi⟩, rfl, hpre⟩ hl
  try dsimp only at hpre
  have hpre0 := hpre
  have hp1 := hpre
  repeat' ((conv => whnf); first
    | refine ⟨rfl, ?_⟩
    | (refine ⟨fun hc => ?_, fun hc => ?_⟩ <;> (try simp (disch := omega) only [List.length_map, wrap64] at hc))
    | exact ⟨⟨_, rfl, rfl, (n, lo, hi), rfl, (by refine congrArg B (Eq.symm (tb_pos ?_)); (try dsimp only); first | done | exact absurd True.intro hj | ((unfold In; omega)))⟩, (by first | exact Nat.le_refl _ | omega), (by exact h0_)⟩
    | exact ⟨⟨_, rfl, rfl, (n, lo, hi), rfl, (by refine congrArg B (Eq.symm (tb_neg ?_)); (try dsimp only); first | done | exact absurd True.intro hj | ((unfold In; omega)))⟩, (by first | exact Nat.le_refl _ | omega), (by exact h0_)⟩
    | fail)
end Av
end Go.Proofs.Ytfijfccgghhkoaa

namespace Go.Proofs.Ytfijfccgghhkoaa
namespace Av
open Go.RowKit
theorem pre_eq {α : Type} {c d : List α} (h : ∀ (j : Nat) (x : α), c[j]? = some x → d[j]? = some x) : c = d.take c.length := by
  apply List.ext_getElem?
  intro i
  rcases Nat.lt_or_ge i c.length with hi | hi
  · rw [List.getElem?_take_of_lt hi, List.getElem?_eq_getElem hi]
    exact (h i _ (List.getElem?_eq_getElem hi)).symm
  · rw [List.getElem?_eq_none hi, List.getElem?_eq_none]
    simp only [List.length_take]; omega
theorem same_of {α : Type} {c d : List α} (h : c.length = d.length) (h' : c = d.take c.length) : c = d := by
  rw [h, List.take_length] at h'; exact h'
theorem vo_eq {x v : Vo} (h : x.n = v.n) (h' : x.c = v.c) : x = v := by cases x; cases v; simp_all
attribute [local irreducible] Valid ValidM
end Av
end Go.Proofs.Ytfijfccgghhkoaa

namespace Go.Proofs.Ytfijfccgghhkoaa
namespace Av
open Go.RowKit
theorem drop_at {α : Type} {l : List α} {i : Nat} {v : α} (hv : l[i]? = some v) : l.drop i = v :: l.drop (i + 1) := by
  obtain ⟨h, rfl⟩ := List.getElem?_eq_some_iff.1 hv
  exact List.drop_eq_getElem_cons h
theorem mem_take_succ {α : Type} {l : List α} {i : Nat} {x a : α} (hx : l[i]? = some x) : a ∈ l.take (i + 1) ↔ a ∈ l.take i ∨ x = a := by
  rw [List.take_add_one, hx]; simp [eq_comm]
attribute [local irreducible] Valid ValidM
end Av
end Go.Proofs.Ytfijfccgghhkoaa

namespace Go.Proofs.Ytfijfccgghhkoaa
namespace Av
open Go.RowKit
theorem VotesOk.ok {l : List Vo} (h : VotesOk l) {v : Vo} (hv : v ∈ l) : VoteOk v := by
  obtain ⟨i, hi⟩ := List.mem_iff_getElem?.1 hv
  exact (h i v hi).1
end Av
end Go.Proofs.Ytfijfccgghhkoaa

