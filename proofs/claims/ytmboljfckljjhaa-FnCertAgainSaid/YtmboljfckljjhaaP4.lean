/- The plain laws: certs. -/
import Derived.Test.YtmboljfckljjhaaU0
set_option linter.unusedVariables false
set_option linter.unusedSimpArgs false
namespace Go.Proofs.Ytmboljfckljjhaa
namespace Av
open Go.RowKit

theorem asc_voters (l : List Vo) (c : List It) : (voters l c).Pairwise (· < ·) := List.Pairwise.sublist List.filter_sublist (by decide)
theorem asc_at {b : List Int} (h : b.Pairwise (· < ·)) {j : Nat} {m n : Int} (hm : b[j]? = some m) (hn : b[j + 1]? = some n) : m < n := by
  rw [List.pairwise_iff_getElem] at h
  obtain ⟨h1, rfl⟩ := List.getElem?_eq_some_iff.1 hm
  obtain ⟨h2, rfl⟩ := List.getElem?_eq_some_iff.1 hn
  exact h j (j + 1) h1 h2 (by omega)
theorem vtOk_voters {l : List Vo} {c : List It} (h : 3 ≤ (voters l c).length) : VtOk (voters l c) := by
  refine ⟨fun i n hn => ⟨?_, fun j m e hm => ?_⟩, h⟩
  · have := (mem_voters.1 (List.mem_of_getElem? hn)).1
    constructor <;> omega
  · subst e; exact asc_at (asc_voters l c) hm hn
theorem asc_vt {b : List Int} (h : VtOk b) : b.Pairwise (· < ·) := by
  have key : ∀ d i, (hi : i < b.length) → (hj : i + 1 + d < b.length) → b[i] < b[i + 1 + d] := by
    intro d
    induction d with
    | zero => intro i hi hj; exact (h.1 (i + 1) b[i + 1] (List.getElem?_eq_getElem hj)).2 i b[i] rfl (List.getElem?_eq_getElem hi)
    | succ d ih =>
      intro i hi hj
      have h1 := ih i hi (by omega)
      have h2 := (h.1 (i + 1 + (d + 1)) b[i + 1 + (d + 1)] (List.getElem?_eq_getElem hj)).2 (i + 1 + d) b[i + 1 + d] rfl (List.getElem?_eq_getElem (by omega))
      exact Int.lt_trans h1 h2
  rw [List.pairwise_iff_getElem]
  intro i j hi hj hij
  have := key (j - i - 1) i hi (by omega)
  simpa [show i + 1 + (j - i - 1) = j from by omega] using this
theorem asc_eq : ∀ {a b : List Int}, a.Pairwise (· < ·) → b.Pairwise (· < ·) → (∀ n, n ∈ a ↔ n ∈ b) → a = b
  | [], [], _, _, _ => rfl
  | [], y :: b, _, _, h => by have := (h y).2 (by simp); cases this
  | x :: a, [], _, _, h => by have := (h x).1 (by simp); cases this
  | x :: a, y :: b, ha, hb, h => by
    obtain ⟨ha1, ha2⟩ := List.pairwise_cons.1 ha
    obtain ⟨hb1, hb2⟩ := List.pairwise_cons.1 hb
    have e : x = y := by
      rcases List.mem_cons.1 ((h x).1 (by simp)) with e | h1
      · exact e
      · rcases List.mem_cons.1 ((h y).2 (by simp)) with e | h2
        · exact e.symm
        · have := ha1 _ h2; have := hb1 _ h1; omega
    subst e
    rw [asc_eq ha2 hb2 fun n => ?_]
    constructor
    · intro hn
      rcases List.mem_cons.1 ((h n).1 (.tail _ hn)) with e | h1
      · subst e; have := ha1 _ hn; omega
      · exact h1
    · intro hn
      rcases List.mem_cons.1 ((h n).2 (.tail _ hn)) with e | h1
      · subst e; have := hb1 _ hn; omega
      · exact h1
theorem vt_in {b : List Int} (h : VtOk b) {n : Int} (hn : n ∈ b) : In n 1 4 := by
  obtain ⟨i, hi⟩ := List.mem_iff_getElem?.1 hn
  exact (h.1 i n hi).1
theorem chainOk_pre {c : List It} (h : ChainOk c) (k : Nat) : ChainOk (c.take k) := by
  refine ⟨fun i x hx => ?_, by have := h.2; simp only [List.length_take]; omega⟩
  have hi : i < k := by
    rcases Nat.lt_or_ge i k with h1 | h1
    · exact h1
    · rw [List.getElem?_eq_none (by simp only [List.length_take]; omega)] at hx; cases hx
  rw [List.getElem?_take_of_lt hi] at hx
  obtain ⟨h1, h2, h3⟩ := h.1 i x hx
  refine ⟨h1, h2, fun j y e hy => h3 j y e ?_⟩
  rw [List.getElem?_take_of_lt (by omega)] at hy
  exact hy
theorem con3_pre {c : List It} {k n : Nat} (h : Con3 c k) (hn : k + 2 < n) : Con3 (c.take n) k := by
  obtain ⟨x, y, z, h1, h2, h3, h4⟩ := h
  exact ⟨x, y, z, by rw [List.getElem?_take_of_lt (by omega)]; exact h1, by rw [List.getElem?_take_of_lt (by omega)]; exact h2, by rw [List.getElem?_take_of_lt (by omega)]; exact h3, h4⟩
theorem certIn_ok {l : List Vo} (hV : VotesOk l) {c : List It} (hc : c ∈ allS l) (h0 : finIn c ≠ 0) : CertOk (certIn l c) := by
  have h2 := finIn_two h0
  have hlt := finIn_lt h0
  have hlen : (c.take (finIn c + 1)).length = finIn c + 1 := by simp only [List.length_take]; omega
  have hs := mem_allS_iff.1 hc
  refine ⟨chainOk_pre (allS_ok hV hc).2.1 _, ?_, ?_, rfl, ?_⟩
  · show 3 ≤ (c.take (finIn c + 1)).length; omega
  · show Con3 (c.take (finIn c + 1)) ((c.take (finIn c + 1)).length - 3)
    rw [hlen, show finIn c + 1 - 3 = finIn c - 2 from by omega]
    exact con3_pre (finIn_con h0) (by omega)
  · intro b hb
    simp only [certIn, List.mem_cons, List.not_mem_nil, or_false] at hb
    rcases hb with rfl | rfl | rfl
    · exact vtOk_voters (hs _ (by omega) (by omega))
    · exact vtOk_voters (hs _ (by omega) (by omega))
    · exact vtOk_voters (hs _ (by omega) (by omega))
theorem certFin_ok {c : Ce} (h : CertOk c) : certFin c = c.c.take (c.c.length - 1) := by unfold certFin; rw [tb_pos h]; rfl
theorem certFin_no {c : Ce} (h : ¬ CertOk c) : certFin c = [] := by unfold certFin; rw [tb_neg h]; rfl
theorem certVotes_ok {c : Ce} (h : CertOk c) : certVotes c = certRows c.c 0 c.b := by unfold certVotes; rw [tb_pos h]; rfl
theorem certVotes_no {c : Ce} (h : ¬ CertOk c) : certVotes c = [] := by unfold certVotes; rw [tb_neg h]; rfl
theorem noCe_bad : ¬ CertOk noCe := fun h => by have := h.2.1; simp [noCe] at this
theorem certIn_fin {l : List Vo} (hV : VotesOk l) {c : List It} (hc : c ∈ allS l) (h0 : finIn c ≠ 0) : certFin (certIn l c) = c.take (finIn c) := by
  have hlt := finIn_lt h0
  rw [certFin_ok (certIn_ok hV hc h0)]
  show (c.take (finIn c + 1)).take ((c.take (finIn c + 1)).length - 1) = _
  rw [List.take_take]
  congr 1
  simp only [List.length_take]; omega
theorem certB_iff {l : List Vo} : certB l = true ↔ VotesOk l ∧ finIn (shown l) ≠ 0 := tb_iff
theorem certB_fin {l : List Vo} (hV : VotesOk l) : certB l = true ↔ (finT l).length ≠ 0 := by
  rw [certB_iff, fin_ok hV, fin_len]
  exact ⟨fun h => h.2, fun h => ⟨hV, h⟩⟩
theorem certOf_yes {l : List Vo} (h : certB l = true) : certOf l = certIn l (shown l) := by unfold certOf; rw [h]; rfl
theorem certOf_no {l : List Vo} (h : certB l = false) : certOf l = noCe := by unfold certOf; rw [h]; rfl
theorem certOf_ok {l : List Vo} (h : certB l = true) : CertOk (certOf l) := by
  rw [certOf_yes h]
  obtain ⟨hV, h0⟩ := certB_iff.1 h
  exact certIn_ok hV (shown_mem l) h0
theorem certOf_fin {l : List Vo} (hV : VotesOk l) : certFin (certOf l) = finT l := by
  cases h : certB l with
  | true =>
    rw [certOf_yes h, certIn_fin hV (shown_mem l) (certB_iff.1 h).2, fin_ok hV]; rfl
  | false =>
    rw [certOf_no h, certFin_no noCe_bad]
    have : ¬ (finT l).length ≠ 0 := fun h' => by rw [(certB_fin hV).2 h'] at h; cases h
    exact (List.eq_nil_of_length_eq_zero (by omega)).symm
theorem certB_rev {l : List Vo} (hV : VotesOk l) : certB l.reverse = certB l := by
  rw [Bool.eq_iff_iff, certB_fin hV, certB_fin (votesOk_rev hV), finT_rev hV]
theorem certB_take {l : List Vo} (hV : VotesOk l) {k : Nat} (h : certB (l.take k) = true) : certB l = true := by
  rw [certB_fin (votesOk_take hV k)] at h
  rw [certB_fin hV]
  have := finT_take hV k
  omega
/-- Whose votes stand in it. -/
theorem mem_rows {c : List It} {v : Vo} : ∀ {b : List (List Int)} {k : Nat}, v ∈ certRows c k b ↔ ∃ (j : Nat) (r : List Int), b[j]? = some r ∧ v.n ∈ r ∧ v.c = c.take (c.length - 2 + (k + j))
  | [], k => by simp [certRows]
  | a :: b, k => by
    unfold certRows
    rw [List.mem_append, mem_rows (b := b) (k := k + 1)]
    constructor
    · rintro (h | ⟨j, r, h1, h2, h3⟩)
      · obtain ⟨n, hn, rfl⟩ := List.mem_map.1 h
        exact ⟨0, a, rfl, hn, rfl⟩
      · exact ⟨j + 1, r, h1, h2, by rw [h3]; congr 2; omega⟩
    · rintro ⟨j, r, h1, h2, h3⟩
      cases j with
      | zero =>
        cases h1
        exact .inl (List.mem_map.2 ⟨v.n, h2, by cases v; simp_all⟩)
      | succ j => exact .inr ⟨j, r, h1, h2, by rw [h3]; congr 2; omega⟩
theorem cert_in {l : List Vo} (h : certB l = true) {v : Vo} (hv : v ∈ certVotes (certOf l)) : v ∈ l := by
  rw [certVotes_ok (certOf_ok h), certOf_yes h] at hv
  obtain ⟨hV, h0⟩ := certB_iff.1 h
  have h2 := finIn_two h0
  have hlt := finIn_lt h0
  obtain ⟨j, r, h1, hr, h3⟩ := mem_rows.1 hv
  have hlen : ((shown l).take (finIn (shown l) + 1)).length = finIn (shown l) + 1 := by simp only [List.length_take]; omega
  have h3' : v.c = (shown l).take (finIn (shown l) - 1 + j) ∧ r = voters l ((shown l).take (finIn (shown l) - 1 + j)) := by
    simp only [certIn] at h1 h3
    rw [hlen, List.take_take] at h3
    have hj : j < 3 := by
      have := (List.getElem?_eq_some_iff.1 h1).1
      simpa using this
    have e1 : min (finIn (shown l) + 1 - 2 + (0 + j)) (finIn (shown l) + 1) = finIn (shown l) - 1 + j := by omega
    rw [e1] at h3
    refine ⟨h3, ?_⟩
    match j, hj, h1 with
    | 0, _, h1 => cases h1; rfl
    | 1, _, h1 => cases h1; rw [show finIn (shown l) - 1 + 1 = finIn (shown l) from by omega]
    | 2, _, h1 => cases h1; rw [show finIn (shown l) - 1 + 2 = finIn (shown l) + 1 from by omega]
  rw [h3'.2] at hr
  have := (mem_voters.1 hr).2
  have e : (⟨v.n, (shown l).take (finIn (shown l) - 1 + j)⟩ : Vo) = v := by cases v; simp_all
  rw [e] at this
  exact this
end Av
end Go.Proofs.Ytmboljfckljjhaa

/- The plain laws: a cert's votes, and these with votes for what is ahead of them. -/
namespace Go.Proofs.Ytmboljfckljjhaa
namespace Av
open Go.RowKit

theorem take_len_inj {α : Type} {c : List α} {i j : Nat} (hi : i ≤ c.length) (hj : j ≤ c.length) (h : c.take i = c.take j) : i = j := by
  have := congrArg List.length h
  simp only [List.length_take] at this; omega
theorem nodup_mapI {α β : Type} {f : α → β} (hf : ∀ a b, f a = f b → a = b) : ∀ {l : List α}, l.Nodup → (l.map f).Nodup
  | [], _ => by simp
  | a :: l, h => by
    obtain ⟨h1, h2⟩ := List.nodup_cons.1 h
    rw [List.map_cons, List.nodup_cons]
    refine ⟨fun hm => ?_, nodup_mapI hf h2⟩
    obtain ⟨b, hb, e⟩ := List.mem_map.1 hm
    rw [hf _ _ e] at hb; exact h1 hb
theorem asc_nodup {b : List Int} (h : b.Pairwise (· < ·)) : b.Nodup := by
  rw [List.nodup_iff_pairwise_ne]; exact h.imp fun h e => by omega
theorem rows_nodup {c : List It} (hc : 2 ≤ c.length) : ∀ {b : List (List Int)} {k : Nat}, (∀ r, r ∈ b → VtOk r) → k + b.length ≤ 3 → (certRows c k b).Nodup
  | [], _, _, _ => by simp [certRows]
  | a :: b, k, hv, hk => by
    simp only [List.length_cons] at hk
    unfold certRows
    rw [List.nodup_append]
    refine ⟨nodup_mapI (fun x y e => congrArg Vo.n e) (asc_nodup (asc_vt (hv a (by simp)))), rows_nodup hc (fun r hr => hv r (.tail _ hr)) (by omega), ?_⟩
    intro x hx y hy e
    subst e
    obtain ⟨n, _, rfl⟩ := List.mem_map.1 hx
    obtain ⟨j, r, h1, _, h3⟩ := mem_rows.1 hy
    have hj := (List.getElem?_eq_some_iff.1 h1).1
    have := take_len_inj (by omega) (by omega) h3
    omega
theorem rows_ok {c : Ce} (h : CertOk c) : VotesOk (certVotes c) := by
  rw [certVotes_ok h, votesOk_iff]
  obtain ⟨h1, h2, _, h4, h5⟩ := h
  refine ⟨fun v hv => ?_, rows_nodup (by omega) h5 (by omega)⟩
  obtain ⟨j, r, e1, e2, e3⟩ := mem_rows.1 hv
  refine ⟨vt_in (h5 r (List.mem_of_getElem? e1)) e2, ?_, by rw [e3]; exact chainOk_pre h1 _⟩
  rw [e3]
  intro e
  have := congrArg List.length e
  simp only [List.length_take, List.length_nil] at this
  omega
theorem rows_mem {c : Ce} (h : CertOk c) {i : Nat} {b : List Int} (hb : c.b[i]? = some b) {n : Int} : (⟨n, c.c.take (c.c.length - 2 + i)⟩ : Vo) ∈ certVotes c ↔ n ∈ b := by
  rw [certVotes_ok h, mem_rows]
  obtain ⟨h1, h2, _, h4, h5⟩ := h
  have hi := (List.getElem?_eq_some_iff.1 hb).1
  constructor
  · rintro ⟨j, r, e1, e2, e3⟩
    have hj := (List.getElem?_eq_some_iff.1 e1).1
    have := take_len_inj (by omega) (by omega) e3
    have e : j = i := by omega
    subst e
    rw [hb] at e1; cases e1; exact e2
  · intro hn
    exact ⟨i, b, hb, hn, by simp⟩
theorem rows_for {c : Ce} (h : CertOk c) {i : Nat} {b : List Int} (hb : c.b[i]? = some b) : votesFor (certVotes c) (c.c.take (c.c.length - 2 + i)) = b := by
  have hv := h.2.2.2.2 b (List.mem_of_getElem? hb)
  have : votesFor (certVotes c) (c.c.take (c.c.length - 2 + i)) = voters (certVotes c) (c.c.take (c.c.length - 2 + i)) := by unfold votesFor; rw [tb_pos (rows_ok h)]; rfl
  rw [this]
  refine asc_eq (asc_voters _ _) (asc_vt hv) fun n => ?_
  rw [mem_voters, rows_mem h hb]
  constructor
  · exact fun h => h.2
  · intro hn
    have := vt_in hv hn
    refine ⟨?_, hn⟩
    obtain ⟨h1, h2⟩ := this
    omega
theorem rows_len (c : List It) : ∀ (b : List (List Int)) (k : Nat), (certRows c k b).length = (b.map List.length).sum
  | [], _ => rfl
  | a :: b, k => by
    unfold certRows
    simp only [List.length_append, rows_len c b, List.map_cons, List.sum_cons, certRow, List.length_map]

/-- The votes of the first nodes for a chain. -/
def four (d : List It) : Nat → List Vo
  | 0 => []
  | j + 1 => four d j ++ [⟨((j + 1 : Nat) : Int), d⟩]
/-- All nodes' votes for the first beginnings. -/
def ext (c : List It) : Nat → List Vo
  | 0 => []
  | i + 1 => ext c i ++ four (c.take (i + 1)) 4
theorem four_len (d : List It) : ∀ j, (four d j).length = j
  | 0 => rfl
  | j + 1 => by simp only [four, List.length_append, four_len d j, List.length_cons, List.length_nil]
theorem ext_len (c : List It) : ∀ i, (ext c i).length = 4 * i
  | 0 => rfl
  | i + 1 => by simp only [ext, List.length_append, ext_len c i, four_len]; omega
theorem mem_four {d : List It} {v : Vo} : ∀ {j : Nat}, v ∈ four d j ↔ ∃ k : Nat, k < j ∧ v = ⟨((k + 1 : Nat) : Int), d⟩
  | 0 => by simp [four]
  | j + 1 => by
    simp only [four, List.mem_append, List.mem_singleton, mem_four (j := j)]
    constructor
    · rintro (⟨k, hk, e⟩ | e)
      · exact ⟨k, by omega, e⟩
      · exact ⟨j, by omega, e⟩
    · rintro ⟨k, hk, e⟩
      rcases Nat.lt_or_ge k j with h | h
      · exact .inl ⟨k, h, e⟩
      · rw [show k = j from by omega] at e; exact .inr e
theorem mem_ext {c : List It} {v : Vo} : ∀ {i : Nat}, v ∈ ext c i ↔ ∃ j : Nat, j < i ∧ v ∈ four (c.take (j + 1)) 4
  | 0 => by simp [ext]
  | i + 1 => by
    simp only [ext, List.mem_append, mem_ext (i := i)]
    constructor
    · rintro (⟨k, hk, e⟩ | e)
      · exact ⟨k, by omega, e⟩
      · exact ⟨i, by omega, e⟩
    · rintro ⟨k, hk, e⟩
      rcases Nat.lt_or_ge k i with h | h
      · exact .inl ⟨k, h, e⟩
      · rw [show k = i from by omega] at e; exact .inr e
theorem four_nodup (d : List It) : ∀ j, (four d j).Nodup
  | 0 => by simp [four]
  | j + 1 => by
    simp only [four]
    rw [List.nodup_append]
    refine ⟨four_nodup d j, by simp, ?_⟩
    intro a ha b hb e
    rw [List.mem_singleton.1 hb] at e
    obtain ⟨k, hk, e2⟩ := mem_four.1 ha
    rw [e2] at e
    have := congrArg Vo.n e
    simp only at this; omega
theorem ext_nodup {c : List It} : ∀ {i : Nat}, i ≤ c.length → (ext c i).Nodup
  | 0, _ => by simp [ext]
  | i + 1, h => by
    simp only [ext]
    rw [List.nodup_append]
    refine ⟨ext_nodup (by omega), four_nodup _ _, ?_⟩
    intro a ha b hb e
    subst e
    obtain ⟨j, hj, h1⟩ := mem_ext.1 ha
    obtain ⟨_, _, e1⟩ := mem_four.1 h1
    obtain ⟨_, _, e2⟩ := mem_four.1 hb
    rw [e1] at e2
    have := take_len_inj (by omega) (by omega) (congrArg Vo.c e2)
    omega
section
variable {c : Ce} (h : CertOk c)
include h
theorem again_ok {m : Nat} (hm : m + 3 ≤ c.c.length) : VotesOk (certVotes c ++ ext c.c m) := by
  have h0 := votesOk_iff.1 (rows_ok h)
  rw [votesOk_iff]
  refine ⟨fun v hv => ?_, ?_⟩
  · rcases List.mem_append.1 hv with hv | hv
    · exact h0.1 v hv
    · obtain ⟨j, hj, h1⟩ := mem_ext.1 hv
      obtain ⟨k, hk, rfl⟩ := mem_four.1 h1
      refine ⟨⟨by show (1 : Int) ≤ ((k + 1 : Nat) : Int); omega, by show ((k + 1 : Nat) : Int) ≤ 4; omega⟩, ?_, chainOk_pre h.1 _⟩
      intro e
      have := congrArg List.length e
      simp only [List.length_take, List.length_nil] at this
      omega
  · rw [List.nodup_append]
    refine ⟨h0.2, ext_nodup (by omega), ?_⟩
    intro a ha b hb e
    subst e
    rw [certVotes_ok h] at ha
    obtain ⟨j, r, e1, _, e3⟩ := mem_rows.1 ha
    obtain ⟨k, hk, h1⟩ := mem_ext.1 hb
    obtain ⟨_, _, e2⟩ := mem_four.1 h1
    rw [e2] at e3
    have hj := (List.getElem?_eq_some_iff.1 e1).1
    have := h.2.2.2.1
    have := take_len_inj (by omega) (by omega) e3
    omega
theorem again_c {m : Nat} {v : Vo} (hv : v ∈ certVotes c ++ ext c.c m) : ∃ k, v.c = c.c.take k := by
  rcases List.mem_append.1 hv with hv | hv
  · rw [certVotes_ok h] at hv
    obtain ⟨j, r, _, _, e3⟩ := mem_rows.1 hv
    exact ⟨_, e3⟩
  · obtain ⟨j, _, h1⟩ := mem_ext.1 hv
    obtain ⟨_, _, rfl⟩ := mem_four.1 h1
    exact ⟨_, rfl⟩
theorem again_sure : Sure (certVotes c ++ ext c.c (c.c.length - 3)) c.c := by
  intro n h1 h2
  obtain ⟨hc1, hc2, hc3, hc4, hc5⟩ := h
  have h : CertOk c := ⟨hc1, hc2, hc3, hc4, hc5⟩
  unfold SureAt
  rcases Nat.lt_or_ge n (c.c.length - 2) with hn | hn
  · show ([1, 2, 3] : List Int).length ≤ _
    refine List.Nodup.length_le_of_subset (by decide) fun m hm => ?_
    rw [mem_voters]
    simp only [List.mem_cons, List.not_mem_nil, or_false] at hm
    refine ⟨by omega, List.mem_append.2 (.inr (mem_ext.2 ⟨n - 1, by omega, ?_⟩))⟩
    rw [show n - 1 + 1 = n from by omega, mem_four]
    rcases hm with rfl | rfl | rfl
    · exact ⟨0, by omega, rfl⟩
    · exact ⟨1, by omega, rfl⟩
    · exact ⟨2, by omega, rfl⟩
  · obtain ⟨i, rfl⟩ : ∃ i, n = c.c.length - 2 + i := ⟨n - (c.c.length - 2), by omega⟩
    have hi : i < c.b.length := by omega
    obtain ⟨b, hb⟩ : ∃ b, c.b[i]? = some b := ⟨_, List.getElem?_eq_getElem hi⟩
    have hv := hc5 b (List.mem_of_getElem? hb)
    refine Nat.le_trans hv.2 (List.Nodup.length_le_of_subset (asc_nodup (asc_vt hv)) fun m hm => ?_)
    rw [mem_voters]
    have := vt_in hv hm
    obtain ⟨q1, q2⟩ := this
    exact ⟨by omega, List.mem_append.2 (.inl ((rows_mem h hb).2 hm))⟩
theorem finIn_cert : finIn c.c = c.c.length - 1 := (fin_last h.2.1).2 h.2.2.1
theorem again_shown : shown (certVotes c ++ ext c.c (c.c.length - 3)) = c.c := by
  have hm := shown_max (mem_allS_iff.2 (again_sure h))
  rw [finIn_cert h] at hm
  have h2 := h.2.1
  have hs := mem_allS_iff.1 (shown_mem (certVotes c ++ ext c.c (c.c.length - 3)))
  generalize shown (certVotes c ++ ext c.c (c.c.length - 3)) = w at hm hs
  have h0 : w ≠ [] := by rintro rfl; rw [finIn_nil] at hm; omega
  obtain ⟨v, hv, e⟩ := hs.vote h0
  obtain ⟨k, ek⟩ := again_c h hv
  rw [e] at ek
  have hlt := finIn_lt (c := w) (by omega)
  rw [ek] at hlt hm ⊢
  simp only [List.length_take] at hlt
  exact List.take_of_length_le (by omega)
theorem again_cert : certB (certVotes c ++ ext c.c (c.c.length - 3)) = true ∧ (certOf (certVotes c ++ ext c.c (c.c.length - 3))).c = c.c ∧ certFin (certOf (certVotes c ++ ext c.c (c.c.length - 3))) = certFin c := by
  have h2 := h.2.1
  have hV := again_ok h (m := c.c.length - 3) (by omega)
  have hB : certB (certVotes c ++ ext c.c (c.c.length - 3)) = true := certB_iff.2 ⟨hV, by rw [again_shown h, finIn_cert h]; omega⟩
  refine ⟨hB, ?_, ?_⟩
  · rw [certOf_yes hB]
    show (shown _).take (finIn (shown _) + 1) = _
    rw [again_shown h, finIn_cert h]
    exact List.take_of_length_le (by omega)
  · rw [certOf_fin hV, fin_ok hV, certFin_ok h]
    unfold fin
    rw [again_shown h, finIn_cert h]
end
end Av
end Go.Proofs.Ytmboljfckljjhaa

