/- The plain laws: votes that are added, sure chains with more votes, all sure chains. -/
import Derived.Test.YtdboofnogabefaaJ11
import Derived.Test.YtdboofnogabefaaJ9
set_option linter.unusedVariables false
set_option linter.unusedSimpArgs false
namespace Go.Proofs.Ytdboofnogabefaa
namespace Av
open Go.RowKit
theorem mem_voters {l : List Vo} {c : List It} {n : Int} : n ∈ voters l c ↔ (n = 1 ∨ n = 2 ∨ n = 3 ∨ n = 4) ∧ (⟨n, c⟩ : Vo) ∈ l := by
  unfold voters
  simp only [List.mem_filter, tb_iff]
  simp
theorem filter_len_mono {α : Type} {p q : α → Bool} (h : ∀ a, p a = true → q a = true) : ∀ l : List α, (l.filter p).length ≤ (l.filter q).length
  | [] => Nat.le_refl _
  | a :: l => by
    have ih := filter_len_mono h l
    cases hp : p a with
    | true => simp [hp, h a hp]; exact ih
    | false =>
      cases hq : q a with
      | true => simp [hp, hq]; omega
      | false => simp [hp, hq]; exact ih
theorem voters_mono {l m : List Vo} (h : ∀ v, v ∈ l → v ∈ m) (c : List It) : (voters l c).length ≤ (voters m c).length :=
  filter_len_mono (fun n hn => by rw [tb_iff] at hn ⊢; exact h _ hn) _
theorem Sure.mono {l m : List Vo} (h : ∀ v, v ∈ l → v ∈ m) {c : List It} (hs : Sure l c) : Sure m c :=
  fun n h1 h2 => Nat.le_trans (hs n h1 h2) (voters_mono h _)
theorem sure_nil (l : List Vo) : Sure l [] := fun n h1 h2 => by simp only [List.length_nil] at h2; omega
theorem chainOk_nil : ChainOk [] := ⟨fun i x h => by simp at h, by simp⟩
theorem FitCs.take {l : List (List It)} (h : FitCs l) (i : Nat) : FitCs (l.take i) :=
  ⟨by have := h.1; simp only [List.length_take]; omega, fun v hv => h.2 v (List.mem_of_mem_take hv)⟩
/-- All sure chains. -/
theorem allFrom_spec (l : List Vo) : ∀ (r : List Vo) (out : List (List It)), out.Nodup → (allFrom l r out).Nodup ∧ ∀ c, c ∈ allFrom l r out ↔ c ∈ out ∨ ∃ v, v ∈ r ∧ v.c = c ∧ Sure l c
  | [], out, h => ⟨h, fun c => by simp [allFrom]⟩
  | v :: r, out, h => by
    simp only [allFrom]
    by_cases hc : v.c ∉ out ∧ Sure l v.c
    · rw [tb_pos hc, if_pos rfl]
      have hn : (out ++ [v.c]).Nodup := by
        rw [List.nodup_append]
        exact ⟨h, by simp, fun a ha b hb e => by rw [List.mem_singleton.1 hb] at e; subst e; exact hc.1 ha⟩
      obtain ⟨h1, h2⟩ := allFrom_spec l r _ hn
      refine ⟨h1, fun c => ?_⟩
      rw [h2]
      rw [List.mem_append, List.mem_singleton]
      simp only [List.mem_cons]
      constructor
      · rintro ((h3 | rfl) | ⟨u, hu, e, hs⟩)
        · exact .inl h3
        · exact .inr ⟨v, .inl rfl, rfl, hc.2⟩
        · exact .inr ⟨u, .inr hu, e, hs⟩
      · rintro (h3 | ⟨u, rfl | hu, e, hs⟩)
        · exact .inl (.inl h3)
        · exact .inl (.inr e.symm)
        · exact .inr ⟨u, hu, e, hs⟩
    · rw [tb_neg hc, if_neg (by simp)]
      obtain ⟨h1, h2⟩ := allFrom_spec l r _ h
      refine ⟨h1, fun c => ?_⟩
      rw [h2]
      constructor
      · rintro (h3 | ⟨u, hu, e, hs⟩)
        · exact .inl h3
        · exact .inr ⟨u, .tail _ hu, e, hs⟩
      · rintro (h3 | ⟨u, hu, e, hs⟩)
        · exact .inl h3
        · rcases List.mem_cons.1 hu with rfl | hu
          · by_cases h4 : u.c ∈ out
            · exact .inl (e ▸ h4)
            · exact absurd ⟨h4, e ▸ hs⟩ hc
          · exact .inr ⟨u, hu, e, hs⟩
theorem mem_allS {l : List Vo} {c : List It} : c ∈ allS l ↔ c = [] ∨ ∃ v, v ∈ l ∧ v.c = c ∧ Sure l c := by
  have := (allFrom_spec l l [[]] (by simp)).2 c
  rw [List.mem_singleton] at this
  exact this
theorem allS_ok {l : List Vo} (h : VotesOk l) {c : List It} (hc : c ∈ allS l) : TSure l c := by
  rcases mem_allS.1 hc with rfl | ⟨v, hv, rfl, hs⟩
  · exact ⟨h, chainOk_nil, sure_nil _⟩
  · exact ⟨h, (h.ok hv).2.2, hs⟩
end Av
end Go.Proofs.Ytdboofnogabefaa
