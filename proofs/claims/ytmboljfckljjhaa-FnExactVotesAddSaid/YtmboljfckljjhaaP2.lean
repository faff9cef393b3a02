/- The plain laws: tips, what is final, with more votes, with votes turned round. -/
import Derived.Test.YtmboljfckljjhaaT0
set_option linter.unusedVariables false
set_option linter.unusedSimpArgs false
namespace Go.Proofs.Ytmboljfckljjhaa
namespace Av
open Go.RowKit

theorem same_len {α : Type} {l m : List α} (hl : l.Nodup) (hm : m.Nodup) (h : ∀ a, a ∈ l ↔ a ∈ m) : l.length = m.length :=
  ((List.perm_ext_iff_of_nodup hl hm).2 h).length_eq
theorem sure_rev {l : List Vo} {c : List It} : Sure l.reverse c ↔ Sure l c :=
  ⟨fun h => h.mono fun v hv => List.mem_reverse.1 hv, fun h => h.mono fun v hv => List.mem_reverse.2 hv⟩
theorem mem_allS_rev {l : List Vo} {c : List It} : c ∈ allS l.reverse ↔ c ∈ allS l := by
  rw [mem_allS, mem_allS]
  simp only [List.mem_reverse, sure_rev]
theorem allS_rev_len (l : List Vo) : (allS l.reverse).length = (allS l).length := same_len (allS_nodup _) (allS_nodup _) fun c => mem_allS_rev
theorem mem_allS_mono {l m : List Vo} (h : ∀ v, v ∈ l → v ∈ m) {c : List It} (hc : c ∈ allS l) : c ∈ allS m := by
  rw [mem_allS] at hc ⊢
  rcases hc with h1 | ⟨v, hv, e, hs⟩
  · exact .inl h1
  · exact .inr ⟨v, h v hv, e, hs.mono h⟩
theorem nil_mem_allS (l : List Vo) : [] ∈ allS l := mem_allS.2 (.inl rfl)

/-- The first of the longest. -/
theorem longer_first : ∀ (L : List (List It)) (o : List It), (L.foldl longer o = o ∧ ∀ x, x ∈ L → x.length ≤ o.length) ∨
    (∃ i : Nat, L[i]? = some (L.foldl longer o) ∧ (∀ (j : Nat) x, j < i → L[j]? = some x → x.length < (L.foldl longer o).length) ∧ o.length < (L.foldl longer o).length ∧ ∀ x, x ∈ L → x.length ≤ (L.foldl longer o).length)
  | [], o => .inl ⟨rfl, fun x h => by cases h⟩
  | c :: L, o => by
    simp only [List.foldl_cons]
    by_cases h : o.length < c.length
    · rw [show longer o c = c from if_pos h]
      rcases longer_first L c with ⟨h1, h2⟩ | ⟨i, h1, h2, h3, h4⟩
      · rw [h1]
        refine .inr ⟨0, rfl, fun j x hj => by omega, h, fun x hx => ?_⟩
        rcases List.mem_cons.1 hx with rfl | hx
        · exact Nat.le_refl _
        · exact h2 x hx
      · refine .inr ⟨i + 1, h1, fun j x hj hx => ?_, by omega, fun x hx => ?_⟩
        · cases j with
          | zero => cases hx; exact h3
          | succ j => exact h2 j x (by omega) hx
        · rcases List.mem_cons.1 hx with rfl | hx
          · omega
          · exact h4 x hx
    · rw [show longer o c = o from if_neg h]
      rcases longer_first L o with ⟨h1, h2⟩ | ⟨i, h1, h2, h3, h4⟩
      · rw [h1]
        refine .inl ⟨rfl, fun x hx => ?_⟩
        rcases List.mem_cons.1 hx with rfl | hx
        · omega
        · exact h2 x hx
      · refine .inr ⟨i + 1, h1, fun j x hj hx => ?_, h3, fun x hx => ?_⟩
        · cases j with
          | zero => cases hx; omega
          | succ j => exact h2 j x (by omega) hx
        · rcases List.mem_cons.1 hx with rfl | hx
          · omega
          · exact h4 x hx
theorem tip_max {l : List Vo} {c : List It} (h : c ∈ allS l) : c.length ≤ (tip l).length := by
  unfold tip
  rcases longer_first (allS l) [] with ⟨h1, h2⟩ | ⟨i, h1, h2, h3, h4⟩
  · rw [h1]; exact h2 c h
  · exact h4 c h
theorem tip_mem (l : List Vo) : tip l ∈ allS l := by
  unfold tip
  rcases longer_first (allS l) [] with ⟨h1, h2⟩ | ⟨i, h1, h2, h3, h4⟩
  · rw [h1]; exact nil_mem_allS l
  · exact List.mem_of_getElem? h1
theorem tip_first {l : List Vo} {i : Nat} {c : List It} (h : (allS l)[i]? = some c) : tip l ∈ (allS l).take i ∨ c.length ≠ (tip l).length ∨ c = tip l := by
  unfold tip
  rcases longer_first (allS l) [] with ⟨h1, h2⟩ | ⟨k, h1, h2, h3, h4⟩
  · rw [h1]
    by_cases h0 : c.length = 0
    · exact .inr (.inr (List.eq_nil_of_length_eq_zero h0))
    · exact .inr (.inl h0)
  · rcases Nat.lt_trichotomy i k with hi | rfl | hi
    · exact .inr (.inl (Nat.ne_of_lt (h2 i c hi h)))
    · rw [h] at h1; cases h1; exact .inr (.inr rfl)
    · refine .inl (List.mem_of_getElem? (i := k) ?_)
      rw [List.getElem?_take_of_lt hi]; exact h1
theorem tip_len_mono {l m : List Vo} (h : ∀ v, v ∈ l → v ∈ m) : (tip l).length ≤ (tip m).length := tip_max (mem_allS_mono h (tip_mem l))
theorem long_ok {l : List Vo} (h : VotesOk l) : long l = ((tip l).length : Int) := by unfold long; rw [tb_pos h]; rfl
theorem votesOk_take {l : List Vo} (h : VotesOk l) (k : Nat) : VotesOk (l.take k) := votesOk_sub (List.take_sublist k l) h
theorem long_take {l : List Vo} (h : VotesOk l) (k : Nat) : long (l.take k) ≤ long l := by
  rw [long_ok h, long_ok (votesOk_take h k)]
  have := tip_len_mono (l := l.take k) (m := l) fun v hv => List.mem_of_mem_take hv
  omega
theorem tip_rev_len (l : List Vo) : (tip l.reverse).length = (tip l).length :=
  Nat.le_antisymm (tip_len_mono fun v hv => List.mem_reverse.1 hv) (tip_len_mono fun v hv => List.mem_reverse.2 hv)
theorem long_rev {l : List Vo} (h : VotesOk l) : long l.reverse = long l := by
  rw [long_ok h, long_ok (votesOk_rev h), tip_rev_len]
theorem long_nn {l : List Vo} (h : VotesOk l) : 0 ≤ long l := by rw [long_ok h]; omega

/-- How a sure chain begins is sure. -/
theorem Sure.take {l : List Vo} {c : List It} (h : Sure l c) (k : Nat) : Sure l (c.take k) := by
  intro n h1 h2
  simp only [List.length_take] at h2
  unfold SureAt
  rw [List.take_take, Nat.min_eq_left (by omega)]
  exact h n h1 (by omega)
theorem Sure.vote {l : List Vo} {c : List It} (h : Sure l c) (h0 : c ≠ []) : ∃ v, v ∈ l ∧ v.c = c := by
  have h1 := h c.length (by cases c with | nil => exact absurd rfl h0 | cons a c => simp) (Nat.le_refl _)
  unfold SureAt at h1
  rw [List.take_length] at h1
  cases hv : voters l c with
  | nil => rw [hv] at h1; simp at h1
  | cons n r =>
    have := (mem_voters (l := l) (c := c) (n := n)).1 (by rw [hv]; simp)
    exact ⟨_, this.2, rfl⟩
theorem mem_allS_iff {l : List Vo} {c : List It} : c ∈ allS l ↔ Sure l c := by
  rw [mem_allS]
  constructor
  · rintro (rfl | ⟨v, _, _, h⟩)
    · exact sure_nil l
    · exact h
  · intro h
    by_cases h0 : c = []
    · exact .inl h0
    · obtain ⟨v, hv, e⟩ := h.vote h0
      exact .inr ⟨v, hv, e, h⟩
theorem allS_take {l : List Vo} {c : List It} (h : c ∈ allS l) (k : Nat) : c.take k ∈ allS l := mem_allS_iff.2 ((mem_allS_iff.1 h).take k)
theorem both_take : ∀ (c d : List It), ∃ k, k ≤ c.length ∧ both c d = c.take k
  | a :: c, b :: d => by
    unfold both
    split
    · obtain ⟨k, hk, e⟩ := both_take c d
      exact ⟨k + 1, by simp only [List.length_cons]; omega, by rw [e]; rfl⟩
    · exact ⟨0, Nat.zero_le _, rfl⟩
  | [], d => ⟨0, Nat.zero_le _, by simp [both]⟩
  | a :: c, [] => ⟨0, Nat.zero_le _, by simp [both]⟩
theorem both_mem {l : List Vo} (h : VotesOk l) {c d : List It} (hc : c ∈ allS l) (hd : d ∈ allS l) : bothT c d ∈ allS l := by
  unfold bothT
  rw [tb_pos ⟨(allS_ok h hc).2.1, (allS_ok h hd).2.1⟩]
  obtain ⟨k, _, e⟩ := both_take c d
  simp only [if_true, e]
  exact allS_take hc k

/-- By two alone nothing is sure. -/
theorem two_sure {l : List Vo} {a b : Int} (h : ∀ v, v ∈ l → v.n = a ∨ v.n = b) {c : List It} (hs : Sure l c) : c = [] := by
  cases c with
  | nil => rfl
  | cons x c =>
    have h1 := hs (x :: c).length (by simp) (Nat.le_refl _)
    unfold SureAt at h1
    rw [List.take_length] at h1
    have h2 : (voters l (x :: c)).length ≤ ([a, b] : List Int).length := by
      refine List.Nodup.length_le_of_subset (List.Nodup.sublist List.filter_sublist (by decide)) fun n hn => ?_
      have := h _ (mem_voters.1 hn).2
      simpa using this
    simp only [List.length_cons, List.length_nil] at h2
    omega
theorem two_all {l : List Vo} {a b : Int} (h : ∀ v, v ∈ l → v.n = a ∨ v.n = b) : allS l = [[]] := by
  have h1 : ∀ c, c ∈ allS l ↔ c ∈ ([[]] : List (List It)) := fun c => by
    rw [mem_allS_iff, List.mem_singleton]
    exact ⟨two_sure h, fun e => by rw [e]; exact sure_nil l⟩
  have h2 := same_len (allS_nodup l) (by simp) h1
  cases hA : allS l with
  | nil => rw [hA] at h2; simp at h2
  | cons x r =>
    rw [hA] at h2 h1
    have hx : x = [] := by simpa using (h1 x).1 (by simp)
    have hr : r = [] := by cases r with | nil => rfl | cons _ _ => simp at h2
    rw [hx, hr]

/-- What is final. -/
theorem shwn_max : ∀ (L : List (List It)) (o : List It), finIn o ≤ finIn (L.foldl shwn o) ∧ ∀ c, c ∈ L → finIn c ≤ finIn (L.foldl shwn o)
  | [], o => ⟨Nat.le_refl _, fun c h => by cases h⟩
  | c :: L, o => by
    simp only [List.foldl_cons]
    obtain ⟨h1, h2⟩ := shwn_max L (shwn o c)
    have h3 : finIn o ≤ finIn (shwn o c) ∧ finIn c ≤ finIn (shwn o c) := by
      unfold shwn
      split <;> omega
    refine ⟨by omega, fun d hd => ?_⟩
    rcases List.mem_cons.1 hd with rfl | hd
    · omega
    · exact h2 d hd
theorem shwn_mem {Q : List It → Prop} {L : List (List It)} {o : List It} (ho : Q o) (h : ∀ c, c ∈ L → Q c) : Q (L.foldl shwn o) :=
  foldl_mem ho fun b a ha hb => by unfold shwn; split; exact h a ha; exact hb
theorem shown_mem (l : List Vo) : shown l ∈ allS l := shwn_mem (Q := fun c => c ∈ allS l) (nil_mem_allS l) fun c h => h
theorem shown_max {l : List Vo} {c : List It} (h : c ∈ allS l) : finIn c ≤ finIn (shown l) := (shwn_max (allS l) []).2 c h
theorem fin_len (l : List Vo) : (fin l).length = finIn (shown l) := by
  unfold fin
  have := finIn_le (shown l)
  simp only [List.length_take]; omega
theorem finAt_ge {c : List It} {k : Nat} (h : Con3 c k) : ∀ m, k < m → k + 2 ≤ finAt c m
  | 0, h' => by omega
  | m + 1, h' => by
    by_cases e : Con3 c m
    · rw [finAt_yes e]; omega
    · rw [finAt_no e]
      refine finAt_ge h m ?_
      rcases Nat.lt_or_ge k m with h1 | h1
      · exact h1
      · rw [show k = m from by omega] at h; exact absurd h e
theorem finIn_ge {c : List It} {k : Nat} (h : Con3 c k) : k + 2 ≤ finIn c := finAt_ge h _ (by have := con3_lt h; omega)
theorem fin_most {l : List Vo} {c : List It} (hc : c ∈ allS l) {k : Nat} (h : Con3 c k) : k + 2 ≤ (fin l).length := by
  rw [fin_len]; exact Nat.le_trans (finIn_ge h) (shown_max hc)
theorem fin_len_mono {l m : List Vo} (h : ∀ v, v ∈ l → v ∈ m) : (fin l).length ≤ (fin m).length := by
  rw [fin_len, fin_len]; exact shown_max (mem_allS_mono h (shown_mem l))
theorem finT_take {l : List Vo} (h : VotesOk l) (k : Nat) : (finT (l.take k)).length ≤ (finT l).length := by
  rw [fin_ok h, fin_ok (votesOk_take h k)]
  exact fin_len_mono fun v hv => List.mem_of_mem_take hv
theorem finT_rev {l : List Vo} (h : VotesOk l) : (finT l.reverse).length = (finT l).length := by
  rw [fin_ok h, fin_ok (votesOk_rev h)]
  exact Nat.le_antisymm (fin_len_mono fun v hv => List.mem_reverse.1 hv) (fin_len_mono fun v hv => List.mem_reverse.2 hv)
theorem votesOk_nil : VotesOk [] := fun i v h => by simp at h
theorem finT_nil : finT [] = [] := by
  rw [fin_ok votesOk_nil]
  unfold fin shown
  rw [show allS [] = [[]] from rfl]
  rfl
theorem fin_of_one {l : List Vo} (h : allS l = [[]]) : fin l = [] := by
  unfold fin shown
  rw [h]; rfl
theorem tip_of_one {l : List Vo} (h : allS l = [[]]) : tip l = [] := by
  unfold tip
  rw [h]; rfl
/-- Behind what is final there is an item more. -/
theorem finAt_con {c : List It} : ∀ {m : Nat}, finAt c m ≠ 0 → ∃ k, finAt c m = k + 2 ∧ Con3 c k
  | 0, h => absurd rfl h
  | m + 1, h => by
    by_cases e : Con3 c m
    · exact ⟨m, finAt_yes e, e⟩
    · rw [finAt_no e] at h ⊢
      exact finAt_con h
theorem fin_shown {l : List Vo} (h : fin l ≠ []) : ∃ k, (fin l).length = k + 2 ∧ Con3 (shown l) k := by
  have h1 : finIn (shown l) ≠ 0 := by
    rw [← fin_len]
    intro e; exact h (List.eq_nil_of_length_eq_zero e)
  obtain ⟨k, e, hk⟩ := finAt_con h1
  exact ⟨k, by rw [fin_len]; exact e, hk⟩
theorem fin_mem (l : List Vo) : fin l ∈ allS l := allS_take (shown_mem l) _
theorem fin_prefix (l : List Vo) : fin l = (shown l).take (fin l).length := by rw [fin_len]; rfl
theorem finT_sure {l : List Vo} (h : VotesOk l) : TSure l (finT l) := by rw [fin_ok h]; exact allS_ok h (fin_mem l)
theorem finT_pos {l : List Vo} (h : finT l ≠ []) : VotesOk l := by
  unfold finT at h
  by_cases h1 : VotesOk l
  · exact h1
  · rw [tb_neg h1] at h; exact absurd rfl h
theorem tipT_len {l : List Vo} (h : VotesOk l) : long l = ((tipT l).length : Int) := by rw [tip_ok h]; exact long_ok h
theorem tipT_sure {l : List Vo} (h : VotesOk l) : TSure l (tipT l) := by rw [tip_ok h]; exact allS_ok h (tip_mem l)
end Av
end Go.Proofs.Ytmboljfckljjhaa
