/- The plain laws: votes that are added, sure chains with more votes, all sure chains. -/
import Derived.Test.YtkpncekaehgbdaaP0
import Derived.Test.YtkpncekaehgbdaaE8
set_option linter.unusedVariables false
set_option linter.unusedSimpArgs false
namespace Go.Proofs.Ytkpncekaehgbdaa
namespace Av
open Go.RowKit

theorem nodup_take {α : Type} {l : List α} (h : l.Nodup) {i : Nat} {x : α} (hx : l[i]? = some x) : x ∉ l.take i := by
  intro hm
  rw [List.mem_take_iff_getElem] at hm
  obtain ⟨j, hj, e⟩ := hm
  obtain ⟨hi, e'⟩ := List.getElem?_eq_some_iff.1 hx
  rw [List.nodup_iff_pairwise_ne, List.pairwise_iff_getElem] at h
  exact h j i (by omega) hi (by omega) (e.trans e'.symm)
theorem votesOk_iff {l : List Vo} : VotesOk l ↔ (∀ v, v ∈ l → VoteOk v) ∧ l.Nodup :=
  ⟨fun h => ⟨fun v hv => h.ok hv, h.nodup⟩, fun ⟨h1, h2⟩ i v hv => ⟨h1 v (List.mem_of_getElem? hv), nodup_take h2 hv⟩⟩
theorem nodup_rev {α : Type} {l : List α} (h : l.Nodup) : l.reverse.Nodup := by
  rw [List.nodup_iff_pairwise_ne] at h ⊢
  rw [List.pairwise_reverse]
  exact h.imp fun h => h.symm
theorem mem_voters {l : List Vo} {c : List It} {n : Int} : n ∈ voters l c ↔ (n = 1 ∨ n = 2 ∨ n = 3 ∨ n = 4) ∧ (⟨n, c⟩ : Vo) ∈ l := by
  unfold voters
  simp only [List.mem_filter, tb_iff]
  simp
theorem voters_congr {l m : List Vo} {c : List It} (h : ∀ n, (⟨n, c⟩ : Vo) ∈ l ↔ (⟨n, c⟩ : Vo) ∈ m) : voters l c = voters m c := by
  unfold voters
  congr 1
  funext n
  rw [Bool.eq_iff_iff, tb_iff, tb_iff]
  exact h n
theorem filter_len_mono {α : Type} {p q : α → Bool} (h : ∀ a, p a = true → q a = true) : ∀ l : List α, (l.filter p).length ≤ (l.filter q).length
  | [] => Nat.le_refl _
  | a :: l => by
    have ih := filter_len_mono h l
    cases hp : p a with
    | true => simp [hp, h a hp]; exact ih
    | false =>
      cases hq : q a with
      | true => simp [hp, hq]; omega
      | false => simp [hp, hq]; exact ih
theorem voters_mono {l m : List Vo} (h : ∀ v, v ∈ l → v ∈ m) (c : List It) : (voters l c).length ≤ (voters m c).length :=
  filter_len_mono (fun n hn => by rw [tb_iff] at hn ⊢; exact h _ hn) _
theorem Sure.mono {l m : List Vo} (h : ∀ v, v ∈ l → v ∈ m) {c : List It} (hs : Sure l c) : Sure m c :=
  fun n h1 h2 => Nat.le_trans (hs n h1 h2) (voters_mono h _)
theorem tsureM_iff {l : List Vo} {c : List It} : TSureM l c ↔ TSure l c := by
  unfold TSureM TSure
  constructor
  · rintro ⟨h1, h2, h3⟩; exact ⟨h1, h2, (sureM_iff h1 c).1 h3⟩
  · rintro ⟨h1, h2, h3⟩; exact ⟨h1, h2, (sureM_iff h1 c).2 h3⟩
theorem allTM_eq (l : List Vo) : allTM l = allT l := by
  unfold allTM allT
  by_cases h : VotesOk l
  · rw [allM_eq h]
  · rw [tb_neg h]; rfl
theorem votesOk_rev {l : List Vo} (h : VotesOk l) : VotesOk l.reverse := by
  rw [votesOk_iff] at h ⊢
  exact ⟨fun v hv => h.1 v (List.mem_reverse.1 hv), nodup_rev h.2⟩
theorem votesOk_sub {l m : List Vo} (hs : m.Sublist l) (h : VotesOk l) : VotesOk m := by
  rw [votesOk_iff] at h ⊢
  exact ⟨fun v hv => h.1 v (hs.subset hv), h.2.sublist hs⟩
theorem votesOk_snoc {l : List Vo} {v : Vo} (h : VotesOk l) (hv : VoteOk v) (hn : v ∉ l) : VotesOk (l ++ [v]) := by
  rw [votesOk_iff] at h ⊢
  refine ⟨fun u hu => ?_, ?_⟩
  · rcases List.mem_append.1 hu with hu | hu
    · exact h.1 u hu
    · rw [List.mem_singleton.1 hu]; exact hv
  · rw [List.nodup_append]
    refine ⟨h.2, by simp, ?_⟩
    intro a ha b hb e
    rw [List.mem_singleton.1 hb] at e
    subst e; exact hn ha
theorem tsure_rev {l : List Vo} {c : List It} (h : TSure l c) : TSure l.reverse c :=
  ⟨votesOk_rev h.1, h.2.1, h.2.2.mono fun v hv => List.mem_reverse.2 hv⟩
theorem tsure_snoc {l : List Vo} {v : Vo} {c : List It} (h : TSure l c) (hv : VoteOk v) (hn : v ∉ l) : TSure (l ++ [v]) c :=
  ⟨votesOk_snoc h.1 hv hn, h.2.1, h.2.2.mono fun v hv => List.mem_append_left _ hv⟩
theorem voters_none {l : List Vo} {c : List It} (h : ∀ v, v ∈ l → v.c ≠ c) : voters l c = [] := by
  rw [List.eq_nil_iff_forall_not_mem]
  intro n hn
  exact h _ (mem_voters.1 hn).2 rfl
theorem sure_nil (l : List Vo) : Sure l [] := fun n h1 h2 => by simp only [List.length_nil] at h2; omega
theorem chainOk_nil : ChainOk [] := ⟨fun i x h => by simp at h, by simp⟩
theorem tsure_none {l : List Vo} {c : List It} (h : TSure l c) : TSure (l.filter fun v => decide (v.c ≠ c)) c ↔ c.length = 0 := by
  constructor
  · intro h1
    apply Nat.eq_zero_of_not_pos
    intro h0
    have := h1.2.2 c.length h0 (Nat.le_refl _)
    unfold SureAt at this
    rw [List.take_length, voters_none (fun v hv => by simpa using (List.mem_filter.1 hv).2)] at this
    simp at this
  · intro h1
    have : c = [] := List.eq_nil_of_length_eq_zero h1
    subst this
    exact ⟨votesOk_sub List.filter_sublist h.1, h.2.1, sure_nil _⟩

theorem FitCs.take {l : List (List It)} (h : FitCs l) (i : Nat) : FitCs (l.take i) :=
  ⟨by have := h.1; simp only [List.length_take]; omega, fun v hv => h.2 v (List.mem_of_mem_take hv)⟩
/-- All sure chains. -/
theorem allFrom_spec (l : List Vo) : ∀ (r : List Vo) (out : List (List It)), out.Nodup → (allFrom l r out).Nodup ∧ ∀ c, c ∈ allFrom l r out ↔ c ∈ out ∨ ∃ v, v ∈ r ∧ v.c = c ∧ Sure l c
  | [], out, h => ⟨h, fun c => by simp [allFrom]⟩
  | v :: r, out, h => by
    simp only [allFrom]
    by_cases hc : v.c ∉ out ∧ Sure l v.c
    · rw [tb_pos hc, if_pos rfl]
      have hn : (out ++ [v.c]).Nodup := by
        rw [List.nodup_append]
        exact ⟨h, by simp, fun a ha b hb e => by rw [List.mem_singleton.1 hb] at e; subst e; exact hc.1 ha⟩
      obtain ⟨h1, h2⟩ := allFrom_spec l r _ hn
      refine ⟨h1, fun c => ?_⟩
      rw [h2]
      rw [List.mem_append, List.mem_singleton]
      simp only [List.mem_cons]
      constructor
      · rintro ((h3 | rfl) | ⟨u, hu, e, hs⟩)
        · exact .inl h3
        · exact .inr ⟨v, .inl rfl, rfl, hc.2⟩
        · exact .inr ⟨u, .inr hu, e, hs⟩
      · rintro (h3 | ⟨u, rfl | hu, e, hs⟩)
        · exact .inl (.inl h3)
        · exact .inl (.inr e.symm)
        · exact .inr ⟨u, hu, e, hs⟩
    · rw [tb_neg hc, if_neg (by simp)]
      obtain ⟨h1, h2⟩ := allFrom_spec l r _ h
      refine ⟨h1, fun c => ?_⟩
      rw [h2]
      constructor
      · rintro (h3 | ⟨u, hu, e, hs⟩)
        · exact .inl h3
        · exact .inr ⟨u, .tail _ hu, e, hs⟩
      · rintro (h3 | ⟨u, hu, e, hs⟩)
        · exact .inl h3
        · rcases List.mem_cons.1 hu with rfl | hu
          · by_cases h4 : u.c ∈ out
            · exact .inl (e ▸ h4)
            · exact absurd ⟨h4, e ▸ hs⟩ hc
          · exact .inr ⟨u, hu, e, hs⟩
theorem allS_nodup (l : List Vo) : (allS l).Nodup := (allFrom_spec l l [[]] (by simp)).1
theorem mem_allS {l : List Vo} {c : List It} : c ∈ allS l ↔ c = [] ∨ ∃ v, v ∈ l ∧ v.c = c ∧ Sure l c := by
  have := (allFrom_spec l l [[]] (by simp)).2 c
  rw [List.mem_singleton] at this
  exact this
theorem allS_ok {l : List Vo} (h : VotesOk l) {c : List It} (hc : c ∈ allS l) : TSure l c := by
  rcases mem_allS.1 hc with rfl | ⟨v, hv, rfl, hs⟩
  · exact ⟨h, chainOk_nil, sure_nil _⟩
  · exact ⟨h, (h.ok hv).2.2, hs⟩
theorem allS_vote {l : List Vo} (h : VotesOk l) {v : Vo} (hv : v ∈ l) : v.c ∈ allS l ↔ TSure l v.c :=
  ⟨allS_ok h, fun hs => mem_allS.2 (.inr ⟨v, hv, rfl, hs.2.2⟩)⟩
theorem allT_ok {l : List Vo} (h : VotesOk l) : allT l = allS l := by unfold allT; rw [tb_pos h]; rfl

theorem allS_fit {l : List Vo} (h : DrV l) : FitCs (allT l) := by
  unfold allT
  split
  · refine ⟨?_, fun c hc => ?_⟩
    · have h1 := h.1
      have : (allS l).length ≤ l.length + 1 := by
        have := allFrom_len l l [[]]
        simp only [allS, List.length_cons, List.length_nil] at *; omega
      simp only [LIM]; omega
    · rcases mem_allS.1 hc with rfl | ⟨v, hv, rfl, _⟩
      · exact Nat.zero_le _
      · exact Nat.le_trans (h.2 v hv) (by decide)
  · exact ⟨Nat.zero_le _, fun c h => by cases h⟩
/-- One vote more. -/
theorem add_cases (l : List Vo) (v : Vo) : (¬ (VotesOk l ∧ VoteOk v) ∧ addL l v = [] ∧ addB l v = false) ∨ (VotesOk l ∧ VoteOk v ∧ v ∈ l ∧ addL l v = l ∧ addB l v = false) ∨
    (VotesOk l ∧ VoteOk v ∧ v ∉ l ∧ addL l v = l ++ [v] ∧ addB l v = true) := by
  unfold addL addB
  by_cases h : VotesOk l ∧ VoteOk v
  · by_cases h' : v ∈ l
    · refine .inr (.inl ⟨h.1, h.2, h', ?_, ?_⟩)
      · rw [tb_pos h, tb_pos h']; rfl
      · exact tb_neg fun q => q.2.2 h'
    · refine .inr (.inr ⟨h.1, h.2, h', ?_, ?_⟩)
      · rw [tb_pos h, tb_neg h']; rfl
      · exact tb_pos ⟨h.1, h.2, h'⟩
  · refine .inl ⟨h, ?_, ?_⟩
    · rw [tb_neg h]; rfl
    · exact tb_neg fun q => h ⟨q.1, q.2.1⟩
theorem voters_other {l : List Vo} {v : Vo} {c : List It} (h : c ≠ v.c) : voters (l ++ [v]) c = voters l c := by
  refine voters_congr fun n => ?_
  simp only [List.mem_append, List.mem_singleton]
  constructor
  · rintro (h1 | rfl)
    · exact h1
    · exact absurd rfl h
  · exact .inl
theorem filter_more {p q : Int → Bool} {a : Int} : ∀ {l : List Int}, l.Nodup → a ∈ l → p a = false → (∀ n, q n = (p n || n == a)) → (l.filter q).length = (l.filter p).length + 1
  | [], _, ha, _, _ => by simp at ha
  | b :: l, hn, ha, hp, hq => by
    have hn' := List.nodup_cons.1 hn
    rcases List.mem_cons.1 ha with rfl | ha
    · have hqa : q a = true := by rw [hq]; simp
      have e : l.filter q = l.filter p := List.filter_congr fun n hnl => by
        rw [hq]
        have : n ≠ a := fun e => hn'.1 (e ▸ hnl)
        simp [this]
      simp [hp, hqa, e]
    · have hb : b ≠ a := fun e => hn'.1 (e ▸ ha)
      have ih := filter_more hn'.2 ha hp hq
      have hqb : q b = p b := by rw [hq]; simp [hb]
      cases hpb : p b with
      | true => simp [hpb, hqb, ih]
      | false => simp [hpb, hqb, ih]
theorem voters_more {l : List Vo} {v : Vo} (hv : VoteOk v) (h : v ∉ l) : (voters (l ++ [v]) v.c).length = (voters l v.c).length + 1 := by
  unfold voters
  refine filter_more (a := v.n) (by decide) ?_ (tb_neg h) (fun n => ?_)
  · obtain ⟨h1, h2⟩ := hv.1
    have : v.n = 1 ∨ v.n = 2 ∨ v.n = 3 ∨ v.n = 4 := by omega
    simpa using this
  · rw [Bool.eq_iff_iff, tb_iff, Bool.or_eq_true, tb_iff, beq_iff_eq, List.mem_append, List.mem_singleton]
    constructor
    · rintro (h1 | h1)
      · exact .inl h1
      · exact .inr (congrArg Vo.n h1)
    · rintro (h1 | rfl)
      · exact .inl h1
      · exact .inr rfl
theorem voters_has {l : List Vo} {v : Vo} (hv : VoteOk v) (h : v ∈ l) : v.n ∈ voters l v.c := by
  refine mem_voters.2 ⟨?_, h⟩
  obtain ⟨h1, h2⟩ := hv.1
  omega
theorem voters_swap (l : List Vo) (v w : Vo) (c : List It) : voters (l ++ [v] ++ [w]) c = voters (l ++ [w] ++ [v]) c :=
  voters_congr fun n => by simp only [List.mem_append, List.mem_singleton]; constructor <;> (rintro ((h | h) | h) <;> simp [h])
end Av
end Go.Proofs.Ytkpncekaehgbdaa
