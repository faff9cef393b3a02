/- The plain laws: certs. -/
import Derived.Test.YtlbdoamidblkaaaU0
set_option linter.unusedVariables false
set_option linter.unusedSimpArgs false
namespace Go.Proofs.Ytlbdoamidblkaaa
namespace Av
open Go.RowKit
theorem asc_vt {b : List Int} (h : VtOk b) : b.Pairwise (· < ·) := by
  have key : ∀ d i, (hi : i < b.length) → (hj : i + 1 + d < b.length) → b[i] < b[i + 1 + d] := by
    intro d
    induction d with
    | zero => intro i hi hj; exact (h.1 (i + 1) b[i + 1] (List.getElem?_eq_getElem hj)).2 i b[i] rfl (List.getElem?_eq_getElem hi)
    | succ d ih =>
      intro i hi hj
      have h1 := ih i hi (by omega)
      have h2 := (h.1 (i + 1 + (d + 1)) b[i + 1 + (d + 1)] (List.getElem?_eq_getElem hj)).2 (i + 1 + d) b[i + 1 + d] rfl (List.getElem?_eq_getElem (by omega))
      exact Int.lt_trans h1 h2
  rw [List.pairwise_iff_getElem]
  intro i j hi hj hij
  have := key (j - i - 1) i hi (by omega)
  simpa [show i + 1 + (j - i - 1) = j from by omega] using this
theorem vt_in {b : List Int} (h : VtOk b) {n : Int} (hn : n ∈ b) : In n 1 4 := by
  obtain ⟨i, hi⟩ := List.mem_iff_getElem?.1 hn
  exact (h.1 i n hi).1
theorem certVotes_ok {c : Ce} (h : CertOk c) : certVotes c = certRows c.c 0 c.b := by unfold certVotes; rw [tb_pos h]; rfl
theorem certVotes_no {c : Ce} (h : ¬ CertOk c) : certVotes c = [] := by unfold certVotes; rw [tb_neg h]; rfl
/-- Whose votes stand in it. -/
theorem mem_rows {c : List It} {v : Vo} : ∀ {b : List (List Int)} {k : Nat}, v ∈ certRows c k b ↔ ∃ (j : Nat) (r : List Int), b[j]? = some r ∧ v.n ∈ r ∧ v.c = c.take (c.length - 2 + (k + j))
  | [], k => by simp [certRows]
  | a :: b, k => by
    unfold certRows
    rw [List.mem_append, mem_rows (b := b) (k := k + 1)]
    constructor
    · rintro (h | ⟨j, r, h1, h2, h3⟩)
      · obtain ⟨n, hn, rfl⟩ := List.mem_map.1 h
        exact ⟨0, a, rfl, hn, rfl⟩
      · exact ⟨j + 1, r, h1, h2, by rw [h3]; congr 2; omega⟩
    · rintro ⟨j, r, h1, h2, h3⟩
      cases j with
      | zero =>
        cases h1
        exact .inl (List.mem_map.2 ⟨v.n, h2, by cases v; simp_all⟩)
      | succ j => exact .inr ⟨j, r, h1, h2, by rw [h3]; congr 2; omega⟩
end Av
end Go.Proofs.Ytlbdoamidblkaaa
/- The plain laws: a cert's votes, and these with votes for what is ahead of them. -/
namespace Go.Proofs.Ytlbdoamidblkaaa
namespace Av
open Go.RowKit
theorem asc_nodup {b : List Int} (h : b.Pairwise (· < ·)) : b.Nodup := by
  rw [List.nodup_iff_pairwise_ne]; exact h.imp fun h e => by omega
theorem rows_len (c : List It) : ∀ (b : List (List Int)) (k : Nat), (certRows c k b).length = (b.map List.length).sum
  | [], _ => rfl
  | a :: b, k => by
    unfold certRows
    simp only [List.length_append, rows_len c b, List.map_cons, List.sum_cons, certRow, List.length_map]
/-- The votes of the first nodes for a chain. -/
def four (d : List It) : Nat → List Vo
  | 0 => []
  | j + 1 => four d j ++ [⟨((j + 1 : Nat) : Int), d⟩]
/-- All nodes' votes for the first beginnings. -/
def ext (c : List It) : Nat → List Vo
  | 0 => []
  | i + 1 => ext c i ++ four (c.take (i + 1)) 4
section
variable {c : Ce} (h : CertOk c)
include h
end
end Av
end Go.Proofs.Ytlbdoamidblkaaa
