/- Texts of the layer, joined. -/
import Derived.Test.YtdboofnogabefaaT2
import Derived.Test.YtdboofnogabefaaFA
set_option linter.unusedVariables false
set_option linter.unusedSimpArgs false
namespace Go.Proofs.Ytdboofnogabefaa
namespace Av
open Go.RowKit
end Av
end Go.Proofs.Ytdboofnogabefaa

namespace Go.Proofs.Ytdboofnogabefaa
namespace Av
open Go.RowKit
/-- Who voted: ascending, and enough. -/
def VtAt (b : List Int) (i : Nat) (n : Int) : Prop := In n 1 4 ∧ ∀ j m, i = j + 1 → b[j]? = some m → m < n
def VtOk (b : List Int) : Prop := (∀ i n, b[i]? = some n → VtAt b i n) ∧ 3 ≤ b.length
def CertOk (c : Ce) : Prop := ChainOk c.c ∧ 3 ≤ c.c.length ∧ Con3 c.c (c.c.length - 3) ∧ c.b.length = 3 ∧ ∀ b, b ∈ c.b → VtOk b
def FitBs (b : List (List Int)) : Prop := b.length ≤ LIM ∧ ∀ x, x ∈ b → x.length ≤ LIM
def FitCe (c : Ce) : Prop := c.c.length ≤ LIM ∧ FitBs c.b
/-- The cert of a sure chain. -/
noncomputable def certIn (l : List Vo) (c : List It) : Ce := ⟨c.take (finIn c + 1), [voters l (c.take (finIn c - 1)), voters l (c.take (finIn c)), voters l (c.take (finIn c + 1))]⟩
def noCe : Ce := ⟨[], []⟩
noncomputable def certB (l : List Vo) : Bool := tb (VotesOk l ∧ finIn (shown l) ≠ 0)
noncomputable def certOf (l : List Vo) : Ce := if certB l = true then certIn l (shown l) else noCe
abbrev bsO (b : List (List Int)) : Ob := .arr ty_Sint 1 (arA (fun n => [nsF n]) b)
theorem finIn_lt {c : List It} (h : finIn c ≠ 0) : finIn c < c.length := finAt_lt h
theorem finIn_two {c : List It} (h : finIn c ≠ 0) : 2 ≤ finIn c := by
  obtain ⟨k, e, _⟩ := finAt_con (c := c) (m := c.length - 2) h
  unfold finIn; omega
theorem finIn_con {c : List It} (h : finIn c ≠ 0) : Con3 c (finIn c - 2) := by
  obtain ⟨k, e, hk⟩ := finAt_con (c := c) (m := c.length - 2) h
  rw [show finIn c - 2 = k from by unfold finIn; omega]; exact hk
/-- The first of those by which most is final. -/
theorem shwn_first : ∀ (L : List (List It)) (o : List It), (L.foldl shwn o = o ∧ ∀ x, x ∈ L → finIn x ≤ finIn o) ∨
    (∃ i : Nat, L[i]? = some (L.foldl shwn o) ∧ (∀ (j : Nat) x, j < i → L[j]? = some x → finIn x < finIn (L.foldl shwn o)) ∧ finIn o < finIn (L.foldl shwn o))
  | [], o => .inl ⟨rfl, fun x h => by cases h⟩
  | c :: L, o => by
    simp only [List.foldl_cons]
    by_cases h : finIn o < finIn c
    · rw [show shwn o c = c from if_pos h]
      rcases shwn_first L c with ⟨h1, h2⟩ | ⟨i, h1, h2, h3⟩
      · rw [h1]
        exact .inr ⟨0, rfl, fun j x hj => by omega, h⟩
      · refine .inr ⟨i + 1, h1, fun j x hj hx => ?_, by omega⟩
        cases j with
        | zero => cases hx; exact h3
        | succ j => exact h2 j x (by omega) hx
    · rw [show shwn o c = o from if_neg h]
      rcases shwn_first L o with ⟨h1, h2⟩ | ⟨i, h1, h2, h3⟩
      · rw [h1]
        refine .inl ⟨rfl, fun x hx => ?_⟩
        rcases List.mem_cons.1 hx with rfl | hx
        · omega
        · exact h2 x hx
      · refine .inr ⟨i + 1, h1, fun j x hj hx => ?_, h3⟩
        cases j with
        | zero => cases hx; omega
        | succ j => exact h2 j x (by omega) hx
/-- The first chain with azz much final azz any is the one that is shown. -/
theorem shown_first {l : List Vo} (h0 : finIn (shown l) ≠ 0) {i : Nat} {c : List It} (hc : (allS l)[i]? = some c) (hm : finIn c = finIn (shown l)) (hno : ∀ (j : Nat) x, j < i → (allS l)[j]? = some x → finIn x ≠ finIn (shown l)) : c = shown l := by
  unfold shown at *
  rcases shwn_first (allS l) [] with ⟨h1, _⟩ | ⟨k, h1, h2, _⟩
  · rw [h1] at h0; exact absurd rfl h0
  · rcases Nat.lt_trichotomy i k with hi | rfl | hi
    · have := h2 i c hi hc; omega
    · rw [h1] at hc; cases hc; rfl
    · exact absurd rfl (hno k _ hi h1)
theorem FitCe.c {c : Ce} (h : FitCe c) : c.c.length ≤ LIM := h.1
theorem FitCe.b {c : Ce} (h : FitCe c) {i : Nat} {x : List Int} (hx : c.b[i]? = some x) : x.length ≤ LIM := h.2.2 x (List.mem_of_getElem? hx)
def DrCe (c : Ce) : Prop := c.c.length ≤ 17 ∧ c.b.length ≤ 4 ∧ ∀ x, x ∈ c.b → x.length ≤ 4
theorem DrCe.fit {c : Ce} (h : DrCe c) : FitCe c := ⟨Nat.le_trans h.1 (by decide), Nat.le_trans h.2.1 (by decide), fun x hx => Nat.le_trans (h.2.2 x hx) (by decide)⟩
abbrev ceP (c : List It) (k : Nat) (b : Bool) : AV := .tup [.g [.c (chF c), .ow k], .o (cB b)]
abbrev ceN : AV := .tup [.g [.e0, .e0], .o (cB false)]
/-- The cert of one chain. -/
noncomputable def certBs (l : List Vo) (c : List It) : List (List Int) := [votesFor l (c.take (finIn c - 1)), votesFor l (c.take (finIn c)), votesFor l (c.take (finIn c + 1))]
noncomputable def ofR (l : List Vo) (c : List It) (r : AV) (obs' : List (Option Ob)) : Prop := (finIn c = 0 ∧ r = ceN ∧ obs' = []) ∨ (finIn c ≠ 0 ∧ r = ceP (c.take (finIn c + 1)) 0 true ∧ obs' = [some (bsO (certBs l c))])
theorem okCe {c : List It} {b : Bool} : okV (· < 1) (ceP c 0 b) := by simp [okV, okW, okC]
theorem ok_none {D : Nat → Prop} : ∀ (j : Nat) (o : Ob), ([] : List (Option Ob))[j]? = some (some o) → okOb D o := fun j o h => by simp at h
noncomputable def S_spec_l13Of : MSpec := mkN (α := List Vo × List It) (fun a => [one (vsF a.1), one (chF a.2)]) (fun a => FitVs a.1 ∧ a.2.length ≤ LIM) (fun a r obs' => ofR a.1 a.2 r obs') 0
  (fun a _ => by
    by_cases h : finIn a.2 = 0
    · exact ⟨_, _, .inl ⟨h, rfl, rfl⟩, by simp [okV, okW, okC], ok_none⟩
    · exact ⟨_, _, .inr ⟨h, rfl, rfl⟩, okCe, ok_sg (arA_ok _)⟩) (fun b r obs' h => by rcases h with ⟨_, _, h⟩ | ⟨_, _, h⟩ <;> rw [h] <;> simp)
theorem K_spec_l13Of {l : List Vo} {c : List It} {r : AV} {obs' : List (Option Ob)} (h : S_spec_l13Of.post [one (vsF l), one (chF c)] [] r obs') : ofR l c r obs' :=
  mkN_post (enc := fun a : List Vo × List It => [one (vsF a.1), one (chF a.2)]) (a := (l, c)) encVC_inj h
noncomputable def ofL (l : List Vo) (r : AV) (obs' : List (Option Ob)) : Prop := (certB l = false ∧ r = ceN ∧ obs' = []) ∨ (certB l = true ∧ r = ceP (certOf l).c 0 true ∧ obs' = [some (bsO (certOf l).b)])
noncomputable def S_spec_CertOf : MSpec := mkN (α := List Vo) (fun a => [one (vsF a)]) (fun a => FitVs a ∧ a.length < LIM) ofL 0
  (fun a _ => by
    cases h : certB a with
    | false => exact ⟨_, _, .inl ⟨h, rfl, rfl⟩, by simp [okV, okW, okC], ok_none⟩
    | true => exact ⟨_, _, .inr ⟨h, rfl, rfl⟩, okCe, ok_sg (arA_ok _)⟩) (fun b r obs' h => by rcases h with ⟨_, _, h⟩ | ⟨_, _, h⟩ <;> rw [h] <;> simp)
theorem K_spec_CertOf {l : List Vo} {r : AV} {obs' : List (Option Ob)} (h : S_spec_CertOf.post [one (vsF l)] [] r obs') : ofL l r obs' :=
  mkN_post (enc := fun a : List Vo => [one (vsF a)]) (a := l) (fun _ _ h => by simpa only [List.cons.injEq, and_true, one_inj, vsF_inj] using h) h
noncomputable def S_spec_VotesFor : FSpec := oF (α := (List Vo) × (List It)) (fun a => [one (vsF a.1), one (chF a.2)]) (fun a => FitVs a.1 ∧ a.2.length ≤ LIM) (fun a => nsF (votesFor a.1 a.2)) (fun _ => rfl)
theorem K_spec_VotesFor {a : (List Vo) × (List It)} {r : AV} (h : S_spec_VotesFor.post ([one (vsF a.1), one (chF a.2)]) r) : r = one (nsF (votesFor a.1 a.2)) :=
  oF_post (hcl := fun _ => rfl) (a := a) (by rintro ⟨x0, x1⟩ ⟨y0, y1⟩ h; simp only [List.cons.injEq, and_true, true_and, one_inj, agg_inj, paF_inj, itF_inj, chF_inj, voF_inj, vsF_inj, csF_inj, nsF_inj, nssF_inj, ndF_inj, ceF_inj, woF_inj, evF_inj, byF_inj, ndsF_inj, evsF_inj, pasF_inj, aI_inj, aB_inj, aRp_inj, fI_inj, fBo_inj] at h; obtain ⟨rfl, rfl⟩ := h; rfl) h
end Av
end Go.Proofs.Ytdboofnogabefaa

namespace Go.Proofs.Ytdboofnogabefaa
namespace Av
open Go.RowKit
end Av
end Go.Proofs.Ytdboofnogabefaa

