/- Texts of the layer, joined. -/
import Derived.Test.YtdboofnogabefaaJ35
import Derived.Test.YtdboofnogabefaaJ44
import Derived.Test.YtdboofnogabefaaD1
import Derived.Test.YtdboofnogabefaaProg
import Derived.KernelRfl
import Derived.Test.YtdboofnogabefaaFC
set_option linter.unusedVariables false
set_option linter.unusedSimpArgs false
namespace Go.Proofs.Ytdboofnogabefaa
namespace Av
open Go.RowKit
theorem asc_voters (l : List Vo) (c : List It) : (voters l c).Pairwise (· < ·) := List.Pairwise.sublist List.filter_sublist (by decide)
theorem asc_at {b : List Int} (h : b.Pairwise (· < ·)) {j : Nat} {m n : Int} (hm : b[j]? = some m) (hn : b[j + 1]? = some n) : m < n := by
  rw [List.pairwise_iff_getElem] at h
  obtain ⟨h1, rfl⟩ := List.getElem?_eq_some_iff.1 hm
  obtain ⟨h2, rfl⟩ := List.getElem?_eq_some_iff.1 hn
  exact h j (j + 1) h1 h2 (by omega)
theorem vtOk_voters {l : List Vo} {c : List It} (h : 3 ≤ (voters l c).length) : VtOk (voters l c) := by
  refine ⟨fun i n hn => ⟨?_, fun j m e hm => ?_⟩, h⟩
  · have := (mem_voters.1 (List.mem_of_getElem? hn)).1
    constructor <;> omega
  · subst e; exact asc_at (asc_voters l c) hm hn
theorem asc_vt {b : List Int} (h : VtOk b) : b.Pairwise (· < ·) := by
  have key : ∀ d i, (hi : i < b.length) → (hj : i + 1 + d < b.length) → b[i] < b[i + 1 + d] := by
    intro d
    induction d with
    | zero => intro i hi hj; exact (h.1 (i + 1) b[i + 1] (List.getElem?_eq_getElem hj)).2 i b[i] rfl (List.getElem?_eq_getElem hi)
    | succ d ih =>
      intro i hi hj
      have h1 := ih i hi (by omega)
      have h2 := (h.1 (i + 1 + (d + 1)) b[i + 1 + (d + 1)] (List.getElem?_eq_getElem hj)).2 (i + 1 + d) b[i + 1 + d] rfl (List.getElem?_eq_getElem (by omega))
      exact Int.lt_trans h1 h2
  rw [List.pairwise_iff_getElem]
  intro i j hi hj hij
  have := key (j - i - 1) i hi (by omega)
  simpa [show i + 1 + (j - i - 1) = j from by omega] using this
theorem vt_in {b : List Int} (h : VtOk b) {n : Int} (hn : n ∈ b) : In n 1 4 := by
  obtain ⟨i, hi⟩ := List.mem_iff_getElem?.1 hn
  exact (h.1 i n hi).1
theorem chainOk_pre {c : List It} (h : ChainOk c) (k : Nat) : ChainOk (c.take k) := by
  refine ⟨fun i x hx => ?_, by have := h.2; simp only [List.length_take]; omega⟩
  have hi : i < k := by
    rcases Nat.lt_or_ge i k with h1 | h1
    · exact h1
    · rw [List.getElem?_eq_none (by simp only [List.length_take]; omega)] at hx; cases hx
  rw [List.getElem?_take_of_lt hi] at hx
  obtain ⟨h1, h2, h3⟩ := h.1 i x hx
  refine ⟨h1, h2, fun j y e hy => h3 j y e ?_⟩
  rw [List.getElem?_take_of_lt (by omega)] at hy
  exact hy
theorem con3_pre {c : List It} {k n : Nat} (h : Con3 c k) (hn : k + 2 < n) : Con3 (c.take n) k := by
  obtain ⟨x, y, z, h1, h2, h3, h4⟩ := h
  exact ⟨x, y, z, by rw [List.getElem?_take_of_lt (by omega)]; exact h1, by rw [List.getElem?_take_of_lt (by omega)]; exact h2, by rw [List.getElem?_take_of_lt (by omega)]; exact h3, h4⟩
theorem certIn_ok {l : List Vo} (hV : VotesOk l) {c : List It} (hc : c ∈ allS l) (h0 : finIn c ≠ 0) : CertOk (certIn l c) := by
  have h2 := finIn_two h0
  have hlt := finIn_lt h0
  have hlen : (c.take (finIn c + 1)).length = finIn c + 1 := by simp only [List.length_take]; omega
  have hs := mem_allS_iff.1 hc
  refine ⟨chainOk_pre (allS_ok hV hc).2.1 _, ?_, ?_, rfl, ?_⟩
  · show 3 ≤ (c.take (finIn c + 1)).length; omega
  · show Con3 (c.take (finIn c + 1)) ((c.take (finIn c + 1)).length - 3)
    rw [hlen, show finIn c + 1 - 3 = finIn c - 2 from by omega]
    exact con3_pre (finIn_con h0) (by omega)
  · intro b hb
    simp only [certIn, List.mem_cons, List.not_mem_nil, or_false] at hb
    rcases hb with rfl | rfl | rfl
    · exact vtOk_voters (hs _ (by omega) (by omega))
    · exact vtOk_voters (hs _ (by omega) (by omega))
    · exact vtOk_voters (hs _ (by omega) (by omega))
theorem certB_iff {l : List Vo} : certB l = true ↔ VotesOk l ∧ finIn (shown l) ≠ 0 := tb_iff
theorem certOf_yes {l : List Vo} (h : certB l = true) : certOf l = certIn l (shown l) := by unfold certOf; rw [h]; rfl
theorem certOf_no {l : List Vo} (h : certB l = false) : certOf l = noCe := by unfold certOf; rw [h]; rfl
theorem certOf_ok {l : List Vo} (h : certB l = true) : CertOk (certOf l) := by
  rw [certOf_yes h]
  obtain ⟨hV, h0⟩ := certB_iff.1 h
  exact certIn_ok hV (shown_mem l) h0
end Av
end Go.Proofs.Ytdboofnogabefaa
/- The plain laws: a cert's votes, and these with votes for what is ahead of them. -/
namespace Go.Proofs.Ytdboofnogabefaa
namespace Av
open Go.RowKit
theorem asc_nodup {b : List Int} (h : b.Pairwise (· < ·)) : b.Nodup := by
  rw [List.nodup_iff_pairwise_ne]; exact h.imp fun h e => by omega
/-- The votes of the first nodes for a chain. -/
def four (d : List It) : Nat → List Vo
  | 0 => []
  | j + 1 => four d j ++ [⟨((j + 1 : Nat) : Int), d⟩]
/-- All nodes' votes for the first beginnings. -/
def ext (c : List It) : Nat → List Vo
  | 0 => []
  | i + 1 => ext c i ++ four (c.take (i + 1)) 4
section
variable {c : Ce} (h : CertOk c)
include h
end
end Av
end Go.Proofs.Ytdboofnogabefaa

namespace Go.Proofs.Ytdboofnogabefaa
namespace Av
open Go.RowKit
attribute [local irreducible] Valid ValidM
end Av
end Go.Proofs.Ytdboofnogabefaa

namespace Go.Proofs.Ytdboofnogabefaa
namespace Av
end Av
end Go.Proofs.Ytdboofnogabefaa

namespace Go.Proofs.Ytdboofnogabefaa
namespace Av
open Go.RowKit
attribute [local irreducible] Valid ValidM
end Av
end Go.Proofs.Ytdboofnogabefaa

