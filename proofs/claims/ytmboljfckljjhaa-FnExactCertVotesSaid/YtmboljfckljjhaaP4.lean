/- The plain laws: certs. -/
import Derived.Test.YtmboljfckljjhaaU0
set_option linter.unusedVariables false
set_option linter.unusedSimpArgs false
namespace Go.Proofs.Ytmboljfckljjhaa
namespace Av
open Go.RowKit

theorem asc_voters (l : List Vo) (c : List It) : (voters l c).Pairwise (· < ·) := List.Pairwise.sublist List.filter_sublist (by decide)
theorem asc_at {b : List Int} (h : b.Pairwise (· < ·)) {j : Nat} {m n : Int} (hm : b[j]? = some m) (hn : b[j + 1]? = some n) : m < n := by
  rw [List.pairwise_iff_getElem] at h
  obtain ⟨h1, rfl⟩ := List.getElem?_eq_some_iff.1 hm
  obtain ⟨h2, rfl⟩ := List.getElem?_eq_some_iff.1 hn
  exact h j (j + 1) h1 h2 (by omega)
theorem vtOk_voters {l : List Vo} {c : List It} (h : 3 ≤ (voters l c).length) : VtOk (voters l c) := by
  refine ⟨fun i n hn => ⟨?_, fun j m e hm => ?_⟩, h⟩
  · have := (mem_voters.1 (List.mem_of_getElem? hn)).1
    constructor <;> omega
  · subst e; exact asc_at (asc_voters l c) hm hn
theorem asc_vt {b : List Int} (h : VtOk b) : b.Pairwise (· < ·) := by
  have key : ∀ d i, (hi : i < b.length) → (hj : i + 1 + d < b.length) → b[i] < b[i + 1 + d] := by
    intro d
    induction d with
    | zero => intro i hi hj; exact (h.1 (i + 1) b[i + 1] (List.getElem?_eq_getElem hj)).2 i b[i] rfl (List.getElem?_eq_getElem hi)
    | succ d ih =>
      intro i hi hj
      have h1 := ih i hi (by omega)
      have h2 := (h.1 (i + 1 + (d + 1)) b[i + 1 + (d + 1)] (List.getElem?_eq_getElem hj)).2 (i + 1 + d) b[i + 1 + d] rfl (List.getElem?_eq_getElem (by omega))
      exact Int.lt_trans h1 h2
  rw [List.pairwise_iff_getElem]
  intro i j hi hj hij
  have := key (j - i - 1) i hi (by omega)
  simpa [show i + 1 + (j - i - 1) = j from by omega] using this
theorem asc_eq : ∀ {a b : List Int}, a.Pairwise (· < ·) → b.Pairwise (· < ·) → (∀ n, n ∈ a ↔ n ∈ b) → a = b
  | [], [], _, _, _ => rfl
  | [], y :: b, _, _, h => by have := (h y).2 (by simp); cases this
  | x :: a, [], _, _, h => by have := (h x).1 (by simp); cases this
  | x :: a, y :: b, ha, hb, h => by
    obtain ⟨ha1, ha2⟩ := List.pairwise_cons.1 ha
    obtain ⟨hb1, hb2⟩ := List.pairwise_cons.1 hb
    have e : x = y := by
      rcases List.mem_cons.1 ((h x).1 (by simp)) with e | h1
      · exact e
      · rcases List.mem_cons.1 ((h y).2 (by simp)) with e | h2
        · exact e.symm
        · have := ha1 _ h2; have := hb1 _ h1; omega
    subst e
    rw [asc_eq ha2 hb2 fun n => ?_]
    constructor
    · intro hn
      rcases List.mem_cons.1 ((h n).1 (.tail _ hn)) with e | h1
      · subst e; have := ha1 _ hn; omega
      · exact h1
    · intro hn
      rcases List.mem_cons.1 ((h n).2 (.tail _ hn)) with e | h1
      · subst e; have := hb1 _ hn; omega
      · exact h1
theorem vt_in {b : List Int} (h : VtOk b) {n : Int} (hn : n ∈ b) : In n 1 4 := by
  obtain ⟨i, hi⟩ := List.mem_iff_getElem?.1 hn
  exact (h.1 i n hi).1
theorem chainOk_pre {c : List It} (h : ChainOk c) (k : Nat) : ChainOk (c.take k) := by
  refine ⟨fun i x hx => ?_, by have := h.2; simp only [List.length_take]; omega⟩
  have hi : i < k := by
    rcases Nat.lt_or_ge i k with h1 | h1
    · exact h1
    · rw [List.getElem?_eq_none (by simp only [List.length_take]; omega)] at hx; cases hx
  rw [List.getElem?_take_of_lt hi] at hx
  obtain ⟨h1, h2, h3⟩ := h.1 i x hx
  refine ⟨h1, h2, fun j y e hy => h3 j y e ?_⟩
  rw [List.getElem?_take_of_lt (by omega)] at hy
  exact hy
theorem con3_pre {c : List It} {k n : Nat} (h : Con3 c k) (hn : k + 2 < n) : Con3 (c.take n) k := by
  obtain ⟨x, y, z, h1, h2, h3, h4⟩ := h
  exact ⟨x, y, z, by rw [List.getElem?_take_of_lt (by omega)]; exact h1, by rw [List.getElem?_take_of_lt (by omega)]; exact h2, by rw [List.getElem?_take_of_lt (by omega)]; exact h3, h4⟩
theorem certIn_ok {l : List Vo} (hV : VotesOk l) {c : List It} (hc : c ∈ allS l) (h0 : finIn c ≠ 0) : CertOk (certIn l c) := by
  have h2 := finIn_two h0
  have hlt := finIn_lt h0
  have hlen : (c.take (finIn c + 1)).length = finIn c + 1 := by simp only [List.length_take]; omega
  have hs := mem_allS_iff.1 hc
  refine ⟨chainOk_pre (allS_ok hV hc).2.1 _, ?_, ?_, rfl, ?_⟩
  · show 3 ≤ (c.take (finIn c + 1)).length; omega
  · show Con3 (c.take (finIn c + 1)) ((c.take (finIn c + 1)).length - 3)
    rw [hlen, show finIn c + 1 - 3 = finIn c - 2 from by omega]
    exact con3_pre (finIn_con h0) (by omega)
  · intro b hb
    simp only [certIn, List.mem_cons, List.not_mem_nil, or_false] at hb
    rcases hb with rfl | rfl | rfl
    · exact vtOk_voters (hs _ (by omega) (by omega))
    · exact vtOk_voters (hs _ (by omega) (by omega))
    · exact vtOk_voters (hs _ (by omega) (by omega))
theorem certFin_ok {c : Ce} (h : CertOk c) : certFin c = c.c.take (c.c.length - 1) := by unfold certFin; rw [tb_pos h]; rfl
theorem certFin_no {c : Ce} (h : ¬ CertOk c) : certFin c = [] := by unfold certFin; rw [tb_neg h]; rfl
theorem certVotes_ok {c : Ce} (h : CertOk c) : certVotes c = certRows c.c 0 c.b := by unfold certVotes; rw [tb_pos h]; rfl
theorem certVotes_no {c : Ce} (h : ¬ CertOk c) : certVotes c = [] := by unfold certVotes; rw [tb_neg h]; rfl
theorem noCe_bad : ¬ CertOk noCe := fun h => by have := h.2.1; simp [noCe] at this
theorem certIn_fin {l : List Vo} (hV : VotesOk l) {c : List It} (hc : c ∈ allS l) (h0 : finIn c ≠ 0) : certFin (certIn l c) = c.take (finIn c) := by
  have hlt := finIn_lt h0
  rw [certFin_ok (certIn_ok hV hc h0)]
  show (c.take (finIn c + 1)).take ((c.take (finIn c + 1)).length - 1) = _
  rw [List.take_take]
  congr 1
  simp only [List.length_take]; omega
theorem certB_iff {l : List Vo} : certB l = true ↔ VotesOk l ∧ finIn (shown l) ≠ 0 := tb_iff
theorem certB_fin {l : List Vo} (hV : VotesOk l) : certB l = true ↔ (finT l).length ≠ 0 := by
  rw [certB_iff, fin_ok hV, fin_len]
  exact ⟨fun h => h.2, fun h => ⟨hV, h⟩⟩
theorem certOf_yes {l : List Vo} (h : certB l = true) : certOf l = certIn l (shown l) := by unfold certOf; rw [h]; rfl
theorem certOf_no {l : List Vo} (h : certB l = false) : certOf l = noCe := by unfold certOf; rw [h]; rfl
theorem certOf_ok {l : List Vo} (h : certB l = true) : CertOk (certOf l) := by
  rw [certOf_yes h]
  obtain ⟨hV, h0⟩ := certB_iff.1 h
  exact certIn_ok hV (shown_mem l) h0
theorem certOf_fin {l : List Vo} (hV : VotesOk l) : certFin (certOf l) = finT l := by
  cases h : certB l with
  | true =>
    rw [certOf_yes h, certIn_fin hV (shown_mem l) (certB_iff.1 h).2, fin_ok hV]; rfl
  | false =>
    rw [certOf_no h, certFin_no noCe_bad]
    have : ¬ (finT l).length ≠ 0 := fun h' => by rw [(certB_fin hV).2 h'] at h; cases h
    exact (List.eq_nil_of_length_eq_zero (by omega)).symm
theorem certB_rev {l : List Vo} (hV : VotesOk l) : certB l.reverse = certB l := by
  rw [Bool.eq_iff_iff, certB_fin hV, certB_fin (votesOk_rev hV), finT_rev hV]
theorem certB_take {l : List Vo} (hV : VotesOk l) {k : Nat} (h : certB (l.take k) = true) : certB l = true := by
  rw [certB_fin (votesOk_take hV k)] at h
  rw [certB_fin hV]
  have := finT_take hV k
  omega
/-- Whose votes stand in it. -/
theorem mem_rows {c : List It} {v : Vo} : ∀ {b : List (List Int)} {k : Nat}, v ∈ certRows c k b ↔ ∃ (j : Nat) (r : List Int), b[j]? = some r ∧ v.n ∈ r ∧ v.c = c.take (c.length - 2 + (k + j))
  | [], k => by simp [certRows]
  | a :: b, k => by
    unfold certRows
    rw [List.mem_append, mem_rows (b := b) (k := k + 1)]
    constructor
    · rintro (h | ⟨j, r, h1, h2, h3⟩)
      · obtain ⟨n, hn, rfl⟩ := List.mem_map.1 h
        exact ⟨0, a, rfl, hn, rfl⟩
      · exact ⟨j + 1, r, h1, h2, by rw [h3]; congr 2; omega⟩
    · rintro ⟨j, r, h1, h2, h3⟩
      cases j with
      | zero =>
        cases h1
        exact .inl (List.mem_map.2 ⟨v.n, h2, by cases v; simp_all⟩)
      | succ j => exact .inr ⟨j, r, h1, h2, by rw [h3]; congr 2; omega⟩
theorem cert_in {l : List Vo} (h : certB l = true) {v : Vo} (hv : v ∈ certVotes (certOf l)) : v ∈ l := by
  rw [certVotes_ok (certOf_ok h), certOf_yes h] at hv
  obtain ⟨hV, h0⟩ := certB_iff.1 h
  have h2 := finIn_two h0
  have hlt := finIn_lt h0
  obtain ⟨j, r, h1, hr, h3⟩ := mem_rows.1 hv
  have hlen : ((shown l).take (finIn (shown l) + 1)).length = finIn (shown l) + 1 := by simp only [List.length_take]; omega
  have h3' : v.c = (shown l).take (finIn (shown l) - 1 + j) ∧ r = voters l ((shown l).take (finIn (shown l) - 1 + j)) := by
    simp only [certIn] at h1 h3
    rw [hlen, List.take_take] at h3
    have hj : j < 3 := by
      have := (List.getElem?_eq_some_iff.1 h1).1
      simpa using this
    have e1 : min (finIn (shown l) + 1 - 2 + (0 + j)) (finIn (shown l) + 1) = finIn (shown l) - 1 + j := by omega
    rw [e1] at h3
    refine ⟨h3, ?_⟩
    match j, hj, h1 with
    | 0, _, h1 => cases h1; rfl
    | 1, _, h1 => cases h1; rw [show finIn (shown l) - 1 + 1 = finIn (shown l) from by omega]
    | 2, _, h1 => cases h1; rw [show finIn (shown l) - 1 + 2 = finIn (shown l) + 1 from by omega]
  rw [h3'.2] at hr
  have := (mem_voters.1 hr).2
  have e : (⟨v.n, (shown l).take (finIn (shown l) - 1 + j)⟩ : Vo) = v := by cases v; simp_all
  rw [e] at this
  exact this
end Av
end Go.Proofs.Ytmboljfckljjhaa
