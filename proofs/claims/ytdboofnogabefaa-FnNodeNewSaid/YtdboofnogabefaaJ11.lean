/- Texts of the layer, joined. -/
import Derived.Test.YtdboofnogabefaaW1
import Derived.Test.YtdboofnogabefaaN0
import Derived.Test.YtdboofnogabefaaE0
import Derived.Test.YtdboofnogabefaaJ6
import Derived.Test.YtdboofnogabefaaJ9
set_option linter.unusedVariables false
set_option linter.unusedSimpArgs false
namespace Go.Proofs.Ytdboofnogabefaa
namespace Av
open Go.RowKit
/-- An operation that hands back one new flat array. -/
noncomputable def mkOF {α β : Type} (T sz : Nat) (F : β → List FV) (hF : ∀ b c, c ∈ F b → ∃ v, c = .v v) (enc : α → List AV) (p : α → Prop) (g : α → List β) (hcl : ∀ a, (enc a).all clV = true) : OSpec where
  pre args := ∃ a, args = enc a ∧ p a
  ob args := @dite _ (∃ a, args = enc a) (Classical.propDecidable _) (fun h => .arr T sz (arA F (g h.choose))) fun _ => .arr T sz (arA F [])
  hok args := by split <;> exact arA_ok _
  hcl := fun args ⟨a, h, _⟩ => by rw [h]; exact hcl a
  fl := true
  hfl := fun _ args => by
    have key : ∀ l : List β, flatO (.arr T sz (arA F l)) := fun l x hx y hy => by
      obtain ⟨z, _, rfl⟩ := List.mem_map.1 hx
      obtain ⟨w, hw, rfl⟩ := List.mem_map.1 hy
      obtain ⟨v, rfl⟩ := hF z w hw; exact ⟨v, rfl⟩
    split <;> exact key _
theorem mkOF_ob {α β : Type} {T sz : Nat} {F : β → List FV} {hF : ∀ b c, c ∈ F b → ∃ v, c = .v v} {enc : α → List AV} {p : α → Prop} {g : α → List β} {hcl : ∀ a, (enc a).all clV = true} (hinj : ∀ a b, enc a = enc b → a = b) (a : α) : (mkOF T sz F hF enc p g hcl).ob (enc a) = .arr T sz (arA F (g a)) := by
  have h : ∃ b, enc a = enc b := ⟨a, rfl⟩
  show @dite _ (∃ b, enc a = enc b) (Classical.propDecidable _) (fun h => Ob.arr T sz (arA F (g h.choose))) (fun _ => .arr T sz (arA F [])) = _
  rw [dif_pos h, ← hinj _ _ h.choose_spec]
def inF (n : Int) : List FV := [fI n]
abbrev isO (b : List Int) : Ob := .arr ty_int 1 (arA inF b)
theorem inF_v : ∀ (b : Int) c, c ∈ inF b → ∃ v, c = .v v := fun b c h => by
  simp only [inF, fI, List.mem_cons, List.not_mem_nil, or_false] at h
  exact ⟨_, h⟩
theorem nsEnc_inj (a b : List Int) (h : [one (nsF a)] = [one (nsF b)]) : a = b := by simpa only [List.cons.injEq, and_true, one_inj, nsF_inj] using h
theorem inF_inj (a b : Int) (h : inF a = inF b) : a = b := by simpa [inF] using h
theorem isO_inj {a b : List Int} (h : [isO a] = [isO b]) : a = b := arA_inj inF_inj (Ob.arr.inj (List.cons.inj h).1).2.2
end Av
end Go.Proofs.Ytdboofnogabefaa

namespace Go.Proofs.Ytdboofnogabefaa
namespace Av
open Go.RowKit
theorem VotesOk.nodup {l : List Vo} (h : VotesOk l) : l.Nodup := by
  rw [List.nodup_iff_pairwise_ne, List.pairwise_iff_getElem]
  intro i j hi hj hij e
  have h1 := (h j l[j] (List.getElem?_eq_getElem hj)).2
  apply h1
  rw [List.mem_take_iff_getElem]
  exact ⟨i, by omega, e⟩
theorem VotesOk.ok {l : List Vo} (h : VotesOk l) {v : Vo} (hv : v ∈ l) : VoteOk v := by
  obtain ⟨i, hi⟩ := List.mem_iff_getElem?.1 hv
  exact (h i v hi).1
theorem many_voters {l : List Vo} (h : VotesOk l) (d : List It) : many l d = (voters l d).length := by
  unfold many
  rw [List.countP_eq_length_filter, ← List.length_map (f := fun v : Vo => v.n)]
  apply List.Perm.length_eq
  have n1 : ((l.filter fun v => decide (v.c = d)).map fun v => v.n).Nodup := by
    rw [List.nodup_iff_pairwise_ne, List.pairwise_map]
    have : (l.filter fun v => decide (v.c = d)).Nodup := List.Nodup.sublist List.filter_sublist h.nodup
    rw [List.nodup_iff_pairwise_ne] at this
    refine this.imp_of_mem fun {a b} ha hb hne e => hne ?_
    have ha := (List.mem_filter.1 ha).2
    have hb := (List.mem_filter.1 hb).2
    simp only [decide_eq_true_eq] at ha hb
    cases a; cases b; simp_all
  have n2 : (voters l d).Nodup := List.Nodup.sublist List.filter_sublist (by decide)
  rw [List.perm_ext_iff_of_nodup n1 n2]
  intro n
  unfold voters
  simp only [List.mem_map, List.mem_filter, decide_eq_true_eq, tb_iff]
  constructor
  · rintro ⟨v, ⟨hv, rfl⟩, rfl⟩
    refine ⟨?_, hv⟩
    have := (h.ok hv).1
    have h1 : v.n = 1 ∨ v.n = 2 ∨ v.n = 3 ∨ v.n = 4 := by obtain ⟨h1, h2⟩ := this; omega
    simpa using h1
  · rintro ⟨_, hv⟩
    exact ⟨⟨n, d⟩, ⟨hv, rfl⟩, rfl⟩
theorem sureM_iff {l : List Vo} (h : VotesOk l) (c : List It) : SureM l c ↔ Sure l c := by
  unfold SureM Sure SureAt
  simp only [many_voters h]
theorem allFromM_eq {l : List Vo} (h : VotesOk l) : ∀ (r : List Vo) (out : List (List It)), allFromM l r out = allFrom l r out
  | [], _ => rfl
  | v :: r, out => by
    simp only [allFromM, allFrom]
    rw [show tb (v.c ∉ out ∧ SureM l v.c) = tb (v.c ∉ out ∧ Sure l v.c) from by rw [sureM_iff h]]
    exact allFromM_eq h r _
theorem allM_eq {l : List Vo} (h : VotesOk l) : allM l = allS l := allFromM_eq h l _
theorem tipM_eq {l : List Vo} (h : VotesOk l) : tipM l = tip l := by unfold tipM tip; rw [allM_eq h]
end Av
end Go.Proofs.Ytdboofnogabefaa

namespace Go.Proofs.Ytdboofnogabefaa
namespace Av
open Go.RowKit
theorem mem_voters {l : List Vo} {c : List It} {n : Int} : n ∈ voters l c ↔ (n = 1 ∨ n = 2 ∨ n = 3 ∨ n = 4) ∧ (⟨n, c⟩ : Vo) ∈ l := by
  unfold voters
  simp only [List.mem_filter, tb_iff]
  simp
theorem filter_len_mono {α : Type} {p q : α → Bool} (h : ∀ a, p a = true → q a = true) : ∀ l : List α, (l.filter p).length ≤ (l.filter q).length
  | [] => Nat.le_refl _
  | a :: l => by
    have ih := filter_len_mono h l
    cases hp : p a with
    | true => simp [hp, h a hp]; exact ih
    | false =>
      cases hq : q a with
      | true => simp [hp, hq]; omega
      | false => simp [hp, hq]; exact ih
theorem voters_mono {l m : List Vo} (h : ∀ v, v ∈ l → v ∈ m) (c : List It) : (voters l c).length ≤ (voters m c).length :=
  filter_len_mono (fun n hn => by rw [tb_iff] at hn ⊢; exact h _ hn) _
theorem Sure.mono {l m : List Vo} (h : ∀ v, v ∈ l → v ∈ m) {c : List It} (hs : Sure l c) : Sure m c :=
  fun n h1 h2 => Nat.le_trans (hs n h1 h2) (voters_mono h _)
theorem sure_nil (l : List Vo) : Sure l [] := fun n h1 h2 => by simp only [List.length_nil] at h2; omega
theorem chainOk_nil : ChainOk [] := ⟨fun i x h => by simp at h, by simp⟩
theorem FitCs.take {l : List (List It)} (h : FitCs l) (i : Nat) : FitCs (l.take i) :=
  ⟨by have := h.1; simp only [List.length_take]; omega, fun v hv => h.2 v (List.mem_of_mem_take hv)⟩
/-- All sure chains. -/
theorem allFrom_spec (l : List Vo) : ∀ (r : List Vo) (out : List (List It)), out.Nodup → (allFrom l r out).Nodup ∧ ∀ c, c ∈ allFrom l r out ↔ c ∈ out ∨ ∃ v, v ∈ r ∧ v.c = c ∧ Sure l c
  | [], out, h => ⟨h, fun c => by simp [allFrom]⟩
  | v :: r, out, h => by
    simp only [allFrom]
    by_cases hc : v.c ∉ out ∧ Sure l v.c
    · rw [tb_pos hc, if_pos rfl]
      have hn : (out ++ [v.c]).Nodup := by
        rw [List.nodup_append]
        exact ⟨h, by simp, fun a ha b hb e => by rw [List.mem_singleton.1 hb] at e; subst e; exact hc.1 ha⟩
      obtain ⟨h1, h2⟩ := allFrom_spec l r _ hn
      refine ⟨h1, fun c => ?_⟩
      rw [h2]
      rw [List.mem_append, List.mem_singleton]
      simp only [List.mem_cons]
      constructor
      · rintro ((h3 | rfl) | ⟨u, hu, e, hs⟩)
        · exact .inl h3
        · exact .inr ⟨v, .inl rfl, rfl, hc.2⟩
        · exact .inr ⟨u, .inr hu, e, hs⟩
      · rintro (h3 | ⟨u, rfl | hu, e, hs⟩)
        · exact .inl (.inl h3)
        · exact .inl (.inr e.symm)
        · exact .inr ⟨u, hu, e, hs⟩
    · rw [tb_neg hc, if_neg (by simp)]
      obtain ⟨h1, h2⟩ := allFrom_spec l r _ h
      refine ⟨h1, fun c => ?_⟩
      rw [h2]
      constructor
      · rintro (h3 | ⟨u, hu, e, hs⟩)
        · exact .inl h3
        · exact .inr ⟨u, .tail _ hu, e, hs⟩
      · rintro (h3 | ⟨u, hu, e, hs⟩)
        · exact .inl h3
        · rcases List.mem_cons.1 hu with rfl | hu
          · by_cases h4 : u.c ∈ out
            · exact .inl (e ▸ h4)
            · exact absurd ⟨h4, e ▸ hs⟩ hc
          · exact .inr ⟨u, hu, e, hs⟩
theorem mem_allS {l : List Vo} {c : List It} : c ∈ allS l ↔ c = [] ∨ ∃ v, v ∈ l ∧ v.c = c ∧ Sure l c := by
  have := (allFrom_spec l l [[]] (by simp)).2 c
  rw [List.mem_singleton] at this
  exact this
theorem allS_ok {l : List Vo} (h : VotesOk l) {c : List It} (hc : c ∈ allS l) : TSure l c := by
  rcases mem_allS.1 hc with rfl | ⟨v, hv, rfl, hs⟩
  · exact ⟨h, chainOk_nil, sure_nil _⟩
  · exact ⟨h, (h.ok hv).2.2, hs⟩
end Av
end Go.Proofs.Ytdboofnogabefaa

