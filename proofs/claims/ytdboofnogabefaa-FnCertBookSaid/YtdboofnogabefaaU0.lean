/- The contracts of the functions on certs. -/
import Derived.Test.YtdboofnogabefaaP3
set_option linter.unusedVariables false
set_option linter.unusedSimpArgs false
namespace Go.Proofs.Ytdboofnogabefaa
namespace Av
open Go.RowKit
/-- Who voted: ascending, and enough. -/
def VtAt (b : List Int) (i : Nat) (n : Int) : Prop := In n 1 4 ∧ ∀ j m, i = j + 1 → b[j]? = some m → m < n
def VtOk (b : List Int) : Prop := (∀ i n, b[i]? = some n → VtAt b i n) ∧ 3 ≤ b.length
def CertOk (c : Ce) : Prop := ChainOk c.c ∧ 3 ≤ c.c.length ∧ Con3 c.c (c.c.length - 3) ∧ c.b.length = 3 ∧ ∀ b, b ∈ c.b → VtOk b
def FitBs (b : List (List Int)) : Prop := b.length ≤ LIM ∧ ∀ x, x ∈ b → x.length ≤ LIM
def FitCe (c : Ce) : Prop := c.c.length ≤ LIM ∧ FitBs c.b
noncomputable def certFin (c : Ce) : List It := if tb (CertOk c) = true then c.c.take (c.c.length - 1) else []
/-- The cert of a sure chain. -/
noncomputable def certIn (l : List Vo) (c : List It) : Ce := ⟨c.take (finIn c + 1), [voters l (c.take (finIn c - 1)), voters l (c.take (finIn c)), voters l (c.take (finIn c + 1))]⟩
def noCe : Ce := ⟨[], []⟩
noncomputable def certB (l : List Vo) : Bool := tb (VotesOk l ∧ finIn (shown l) ≠ 0)
noncomputable def certOf (l : List Vo) : Ce := if certB l = true then certIn l (shown l) else noCe
abbrev bsO (b : List (List Int)) : Ob := .arr ty_Sint 1 (arA (fun n => [nsF n]) b)
theorem finIn_lt {c : List It} (h : finIn c ≠ 0) : finIn c < c.length := finAt_lt h
theorem finIn_two {c : List It} (h : finIn c ≠ 0) : 2 ≤ finIn c := by
  obtain ⟨k, e, _⟩ := finAt_con (c := c) (m := c.length - 2) h
  unfold finIn; omega
theorem finIn_con {c : List It} (h : finIn c ≠ 0) : Con3 c (finIn c - 2) := by
  obtain ⟨k, e, hk⟩ := finAt_con (c := c) (m := c.length - 2) h
  rw [show finIn c - 2 = k from by unfold finIn; omega]; exact hk
theorem fin_last {c : List It} (h : 3 ≤ c.length) : finIn c = c.length - 1 ↔ Con3 c (c.length - 3) := by
  constructor
  · intro e
    have h0 : finIn c ≠ 0 := by omega
    have := finIn_con h0
    rw [e] at this
    rw [show c.length - 3 = c.length - 1 - 2 from by omega]; exact this
  · intro hc
    have h1 := finIn_ge hc
    have h2 := finIn_lt (c := c) (by omega)
    omega
/-- The first of those by which most is final. -/
theorem shwn_first : ∀ (L : List (List It)) (o : List It), (L.foldl shwn o = o ∧ ∀ x, x ∈ L → finIn x ≤ finIn o) ∨
    (∃ i : Nat, L[i]? = some (L.foldl shwn o) ∧ (∀ (j : Nat) x, j < i → L[j]? = some x → finIn x < finIn (L.foldl shwn o)) ∧ finIn o < finIn (L.foldl shwn o))
  | [], o => .inl ⟨rfl, fun x h => by cases h⟩
  | c :: L, o => by
    simp only [List.foldl_cons]
    by_cases h : finIn o < finIn c
    · rw [show shwn o c = c from if_pos h]
      rcases shwn_first L c with ⟨h1, h2⟩ | ⟨i, h1, h2, h3⟩
      · rw [h1]
        exact .inr ⟨0, rfl, fun j x hj => by omega, h⟩
      · refine .inr ⟨i + 1, h1, fun j x hj hx => ?_, by omega⟩
        cases j with
        | zero => cases hx; exact h3
        | succ j => exact h2 j x (by omega) hx
    · rw [show shwn o c = o from if_neg h]
      rcases shwn_first L o with ⟨h1, h2⟩ | ⟨i, h1, h2, h3⟩
      · rw [h1]
        refine .inl ⟨rfl, fun x hx => ?_⟩
        rcases List.mem_cons.1 hx with rfl | hx
        · omega
        · exact h2 x hx
      · refine .inr ⟨i + 1, h1, fun j x hj hx => ?_, h3⟩
        cases j with
        | zero => cases hx; omega
        | succ j => exact h2 j x (by omega) hx
/-- The first chain with as much final as any is the one that is shown. -/
theorem shown_first {l : List Vo} (h0 : finIn (shown l) ≠ 0) {i : Nat} {c : List It} (hc : (allS l)[i]? = some c) (hm : finIn c = finIn (shown l)) (hno : ∀ (j : Nat) x, j < i → (allS l)[j]? = some x → finIn x ≠ finIn (shown l)) : c = shown l := by
  unfold shown at *
  rcases shwn_first (allS l) [] with ⟨h1, _⟩ | ⟨k, h1, h2, _⟩
  · rw [h1] at h0; exact absurd rfl h0
  · rcases Nat.lt_trichotomy i k with hi | rfl | hi
    · have := h2 i c hi hc; omega
    · rw [h1] at hc; cases hc; rfl
    · exact absurd rfl (hno k _ hi h1)
theorem FitCe.c {c : Ce} (h : FitCe c) : c.c.length ≤ LIM := h.1
theorem FitCe.b {c : Ce} (h : FitCe c) {i : Nat} {x : List Int} (hx : c.b[i]? = some x) : x.length ≤ LIM := h.2.2 x (List.mem_of_getElem? hx)
def DrCe (c : Ce) : Prop := c.c.length ≤ 17 ∧ c.b.length ≤ 4 ∧ ∀ x, x ∈ c.b → x.length ≤ 4
theorem DrCe.fit {c : Ce} (h : DrCe c) : FitCe c := ⟨Nat.le_trans h.1 (by decide), Nat.le_trans h.2.1 (by decide), fun x hx => Nat.le_trans (h.2.2 x hx) (by decide)⟩
/-- 'no voters', a function without more. -/
abbrev fnNoVt : AV := .fn (.func n_impl_CertOk_1) [] []
noncomputable def S_slices_IndexFunc_nSS : FSpec := mkR (α := List (List Int)) (fun a => [one (nssF a), fnNoVt]) (fun a => FitBs a) (fun a r => ∃ k : Int, r = I k ∧ (0 ≤ k ↔ ∃ x, x ∈ a ∧ ¬ VtOk x)) 0 true
  (fun _ a r ⟨k, h, _⟩ => by rw [h]; trivial) (fun a _ => by
    by_cases h : ∃ x, x ∈ a ∧ ¬ VtOk x
    · exact ⟨I 0, ⟨0, rfl, iff_of_true (by decide) h⟩, trivial⟩
    · exact ⟨I (-1), ⟨-1, rfl, iff_of_false (by decide) h⟩, trivial⟩) (fun _ => rfl)
theorem encNoVt_inj (a b : List (List Int)) (h : [one (nssF a), fnNoVt] = [one (nssF b), fnNoVt]) : a = b := nssF_inj.1 (one_inj.1 (List.cons.inj h).1)
theorem K_slices_IndexFunc_nSS {a : List (List Int)} {r : AV} (h : S_slices_IndexFunc_nSS.post [one (nssF a), fnNoVt] r) : ∃ k : Int, r = I k ∧ (0 ≤ k ↔ ∃ x, x ∈ a ∧ ¬ VtOk x) :=
  mkR_post (a := a) encNoVt_inj h
noncomputable def S_slices_ContainsFunc_nSS : FSpec := tF (α := List (List Int)) (fun a => [one (nssF a), fnNoVt]) (fun a => FitBs a) (fun a => ∃ x, x ∈ a ∧ ¬ VtOk x) (fun _ => rfl)
theorem K_slices_ContainsFunc_nSS {a : List (List Int)} {r : AV} (h : S_slices_ContainsFunc_nSS.post [one (nssF a), fnNoVt] r) : ((∃ x, x ∈ a ∧ ¬ VtOk x) ∧ r = B true) ∨ (¬ (∃ x, x ∈ a ∧ ¬ VtOk x) ∧ r = B false) :=
  tF_post (hcl := fun _ => rfl) (a := a) encNoVt_inj h
abbrev ceP (c : List It) (k : Nat) (b : Bool) : AV := .tup [.g [.c (chF c), .ow k], .o (cB b)]
abbrev ceN : AV := .tup [.g [.e0, .e0], .o (cB false)]
/-- The cert of one chain. -/
noncomputable def certBs (l : List Vo) (c : List It) : List (List Int) := [votesFor l (c.take (finIn c - 1)), votesFor l (c.take (finIn c)), votesFor l (c.take (finIn c + 1))]
noncomputable def ofR (l : List Vo) (c : List It) (r : AV) (obs' : List (Option Ob)) : Prop := (finIn c = 0 ∧ r = ceN ∧ obs' = []) ∨ (finIn c ≠ 0 ∧ r = ceP (c.take (finIn c + 1)) 0 true ∧ obs' = [some (bsO (certBs l c))])
theorem okCe {c : List It} {b : Bool} : okV (· < 1) (ceP c 0 b) := by simp [okV, okW, okC]
theorem ok_none {D : Nat → Prop} : ∀ (j : Nat) (o : Ob), ([] : List (Option Ob))[j]? = some (some o) → okOb D o := fun j o h => by simp at h
noncomputable def S_spec_l13Of : MSpec := mkN (α := List Vo × List It) (fun a => [one (vsF a.1), one (chF a.2)]) (fun a => FitVs a.1 ∧ a.2.length ≤ LIM) (fun a r obs' => ofR a.1 a.2 r obs') 0
  (fun a _ => by
    by_cases h : finIn a.2 = 0
    · exact ⟨_, _, .inl ⟨h, rfl, rfl⟩, by simp [okV, okW, okC], ok_none⟩
    · exact ⟨_, _, .inr ⟨h, rfl, rfl⟩, okCe, ok_sg (arA_ok _)⟩) (fun b r obs' h => by rcases h with ⟨_, _, h⟩ | ⟨_, _, h⟩ <;> rw [h] <;> simp)
theorem K_spec_l13Of {l : List Vo} {c : List It} {r : AV} {obs' : List (Option Ob)} (h : S_spec_l13Of.post [one (vsF l), one (chF c)] [] r obs') : ofR l c r obs' :=
  mkN_post (enc := fun a : List Vo × List It => [one (vsF a.1), one (chF a.2)]) (a := (l, c)) encVC_inj h
noncomputable def ofL (l : List Vo) (r : AV) (obs' : List (Option Ob)) : Prop := (certB l = false ∧ r = ceN ∧ obs' = []) ∨ (certB l = true ∧ r = ceP (certOf l).c 0 true ∧ obs' = [some (bsO (certOf l).b)])
noncomputable def S_spec_CertOf : MSpec := mkN (α := List Vo) (fun a => [one (vsF a)]) (fun a => FitVs a ∧ a.length < LIM) ofL 0
  (fun a _ => by
    cases h : certB a with
    | false => exact ⟨_, _, .inl ⟨h, rfl, rfl⟩, by simp [okV, okW, okC], ok_none⟩
    | true => exact ⟨_, _, .inr ⟨h, rfl, rfl⟩, okCe, ok_sg (arA_ok _)⟩) (fun b r obs' h => by rcases h with ⟨_, _, h⟩ | ⟨_, _, h⟩ <;> rw [h] <;> simp)
theorem K_spec_CertOf {l : List Vo} {r : AV} {obs' : List (Option Ob)} (h : S_spec_CertOf.post [one (vsF l)] [] r obs') : ofL l r obs' :=
  mkN_post (enc := fun a : List Vo => [one (vsF a)]) (a := l) (fun _ _ h => by simpa only [List.cons.injEq, and_true, one_inj, vsF_inj] using h) h
def R_spec_l72Cert (a : (List Int)) (r : AV) : Prop := ∃ (c : Ce) (l : List Vo), r = .tup [.g ((ceF c).map AC.c), .o (.c (vsF l))] ∧ DrCe c
def R_spec_DrawCertOk (a : (List Int)) (r : AV) : Prop := ∃ c : Ce, r = agg (ceF c) ∧ DrCe c
def R_spec_DrawCertFinal (a : (List Int)) (r : AV) : Prop := ∃ c : Ce, r = agg (ceF c) ∧ DrCe c
theorem drce0 : DrCe noCe := ⟨Nat.zero_le _, Nat.zero_le _, fun x h => by cases h⟩
theorem inh_spec_l72Cert : ∀ a : List Int, RdOk a → ∃ r, R_spec_l72Cert a r ∧ okV noN r := fun a _ => ⟨_, ⟨noCe, [], rfl, drce0⟩, by simp [okV, okW, okC, ceF]⟩
theorem inh_spec_DrawCertOk : ∀ a : List Int, CodeOk a → ∃ r, R_spec_DrawCertOk a r ∧ okV noN r := fun a _ => ⟨_, ⟨noCe, rfl, drce0⟩, ok_agg _ _⟩
theorem inh_spec_DrawCertFinal : ∀ a : List Int, CodeOk a → ∃ r, R_spec_DrawCertFinal a r ∧ okV noN r := fun a _ => ⟨_, ⟨noCe, rfl, drce0⟩, ok_agg _ _⟩
noncomputable def S_impl_votersOk : FSpec := tF (α := (List Int)) (fun a => [one (nsF a)]) (fun a => a.length ≤ LIM) (fun a => VtOk a) (fun _ => rfl)
noncomputable def S_impl_CertOk_1 : FSpec := tF (α := (List Int)) (fun a => [one (nsF a)]) (fun a => a.length ≤ LIM) (fun a => ¬ VtOk a) (fun _ => rfl)
noncomputable def S_impl_CertOk : FSpec := tF (α := (Ce)) (fun a => [agg (ceF a)]) (fun a => FitCe a) (fun a => CertOk a) (fun _ => rfl)
noncomputable def S_impl_CertFinal : FSpec := oF (α := (Ce)) (fun a => [agg (ceF a)]) (fun a => FitCe a) (fun a => chF (certFin a)) (fun _ => rfl)
noncomputable def S_spec_l13By : FSpec := tF (α := (List Int)) (fun a => [one (nsF a)]) (fun a => a.length ≤ LIM) (fun a => VtOk a) (fun _ => rfl)
noncomputable def S_spec_CertOk : FSpec := tF (α := (Ce)) (fun a => [agg (ceF a)]) (fun a => FitCe a) (fun a => CertOk a) (fun _ => rfl)
noncomputable def S_spec_CertFinal : FSpec := oF (α := (Ce)) (fun a => [agg (ceF a)]) (fun a => FitCe a) (fun a => chF (certFin a)) (fun _ => rfl)
noncomputable def S_spec_VotesFor : FSpec := oF (α := (List Vo) × (List It)) (fun a => [one (vsF a.1), one (chF a.2)]) (fun a => FitVs a.1 ∧ a.2.length ≤ LIM) (fun a => nsF (votesFor a.1 a.2)) (fun _ => rfl)
noncomputable def S_spec_l72Cert : FSpec := mkR (α := (List Int)) (fun a => [.w (.o (.rp (byF a)))]) (fun a => RdOk a) R_spec_l72Cert 50000 false (fun h => by cases h) inh_spec_l72Cert (fun _ => rfl)
noncomputable def S_spec_DrawCertOk : FSpec := mkR (α := (List Int)) (fun a => [one (byF a)]) (fun a => CodeOk a) R_spec_DrawCertOk 60000 false (fun h => by cases h) inh_spec_DrawCertOk (fun _ => rfl)
noncomputable def S_spec_DrawCertFinal : FSpec := mkR (α := (List Int)) (fun a => [one (byF a)]) (fun a => CodeOk a) R_spec_DrawCertFinal 60000 false (fun h => by cases h) inh_spec_DrawCertFinal (fun _ => rfl)
theorem K_impl_votersOk {a : (List Int)} {r : AV} (h : S_impl_votersOk.post ([one (nsF a)]) r) : (VtOk a ∧ r = B true) ∨ (¬ (VtOk a) ∧ r = B false) :=
  tF_post (hcl := fun _ => rfl) (a := a) (by intro a b h; simpa only [List.cons.injEq, and_true, true_and, one_inj, agg_inj, paF_inj, itF_inj, chF_inj, voF_inj, vsF_inj, csF_inj, nsF_inj, nssF_inj, ndF_inj, ceF_inj, woF_inj, evF_inj, byF_inj, ndsF_inj, evsF_inj, pasF_inj, aI_inj, aB_inj, aRp_inj, fI_inj, fBo_inj] using h) h
theorem K_impl_CertOk_1 {a : (List Int)} {r : AV} (h : S_impl_CertOk_1.post ([one (nsF a)]) r) : (¬ VtOk a ∧ r = B true) ∨ (¬ (¬ VtOk a) ∧ r = B false) :=
  tF_post (hcl := fun _ => rfl) (a := a) (by intro a b h; simpa only [List.cons.injEq, and_true, true_and, one_inj, agg_inj, paF_inj, itF_inj, chF_inj, voF_inj, vsF_inj, csF_inj, nsF_inj, nssF_inj, ndF_inj, ceF_inj, woF_inj, evF_inj, byF_inj, ndsF_inj, evsF_inj, pasF_inj, aI_inj, aB_inj, aRp_inj, fI_inj, fBo_inj] using h) h
theorem K_impl_CertOk {a : (Ce)} {r : AV} (h : S_impl_CertOk.post ([agg (ceF a)]) r) : (CertOk a ∧ r = B true) ∨ (¬ (CertOk a) ∧ r = B false) :=
  tF_post (hcl := fun _ => rfl) (a := a) (by intro a b h; simpa only [List.cons.injEq, and_true, true_and, one_inj, agg_inj, paF_inj, itF_inj, chF_inj, voF_inj, vsF_inj, csF_inj, nsF_inj, nssF_inj, ndF_inj, ceF_inj, woF_inj, evF_inj, byF_inj, ndsF_inj, evsF_inj, pasF_inj, aI_inj, aB_inj, aRp_inj, fI_inj, fBo_inj] using h) h
theorem K_impl_CertFinal {a : (Ce)} {r : AV} (h : S_impl_CertFinal.post ([agg (ceF a)]) r) : r = one (chF (certFin a)) :=
  oF_post (hcl := fun _ => rfl) (a := a) (by intro a b h; simpa only [List.cons.injEq, and_true, true_and, one_inj, agg_inj, paF_inj, itF_inj, chF_inj, voF_inj, vsF_inj, csF_inj, nsF_inj, nssF_inj, ndF_inj, ceF_inj, woF_inj, evF_inj, byF_inj, ndsF_inj, evsF_inj, pasF_inj, aI_inj, aB_inj, aRp_inj, fI_inj, fBo_inj] using h) h
theorem K_spec_l13By {a : (List Int)} {r : AV} (h : S_spec_l13By.post ([one (nsF a)]) r) : (VtOk a ∧ r = B true) ∨ (¬ (VtOk a) ∧ r = B false) :=
  tF_post (hcl := fun _ => rfl) (a := a) (by intro a b h; simpa only [List.cons.injEq, and_true, true_and, one_inj, agg_inj, paF_inj, itF_inj, chF_inj, voF_inj, vsF_inj, csF_inj, nsF_inj, nssF_inj, ndF_inj, ceF_inj, woF_inj, evF_inj, byF_inj, ndsF_inj, evsF_inj, pasF_inj, aI_inj, aB_inj, aRp_inj, fI_inj, fBo_inj] using h) h
theorem K_spec_CertOk {a : (Ce)} {r : AV} (h : S_spec_CertOk.post ([agg (ceF a)]) r) : (CertOk a ∧ r = B true) ∨ (¬ (CertOk a) ∧ r = B false) :=
  tF_post (hcl := fun _ => rfl) (a := a) (by intro a b h; simpa only [List.cons.injEq, and_true, true_and, one_inj, agg_inj, paF_inj, itF_inj, chF_inj, voF_inj, vsF_inj, csF_inj, nsF_inj, nssF_inj, ndF_inj, ceF_inj, woF_inj, evF_inj, byF_inj, ndsF_inj, evsF_inj, pasF_inj, aI_inj, aB_inj, aRp_inj, fI_inj, fBo_inj] using h) h
theorem K_spec_CertFinal {a : (Ce)} {r : AV} (h : S_spec_CertFinal.post ([agg (ceF a)]) r) : r = one (chF (certFin a)) :=
  oF_post (hcl := fun _ => rfl) (a := a) (by intro a b h; simpa only [List.cons.injEq, and_true, true_and, one_inj, agg_inj, paF_inj, itF_inj, chF_inj, voF_inj, vsF_inj, csF_inj, nsF_inj, nssF_inj, ndF_inj, ceF_inj, woF_inj, evF_inj, byF_inj, ndsF_inj, evsF_inj, pasF_inj, aI_inj, aB_inj, aRp_inj, fI_inj, fBo_inj] using h) h
theorem K_spec_VotesFor {a : (List Vo) × (List It)} {r : AV} (h : S_spec_VotesFor.post ([one (vsF a.1), one (chF a.2)]) r) : r = one (nsF (votesFor a.1 a.2)) :=
  oF_post (hcl := fun _ => rfl) (a := a) (by rintro ⟨x0, x1⟩ ⟨y0, y1⟩ h; simp only [List.cons.injEq, and_true, true_and, one_inj, agg_inj, paF_inj, itF_inj, chF_inj, voF_inj, vsF_inj, csF_inj, nsF_inj, nssF_inj, ndF_inj, ceF_inj, woF_inj, evF_inj, byF_inj, ndsF_inj, evsF_inj, pasF_inj, aI_inj, aB_inj, aRp_inj, fI_inj, fBo_inj] at h; obtain ⟨rfl, rfl⟩ := h; rfl) h
theorem K_spec_l72Cert {a : (List Int)} {r : AV} (h : S_spec_l72Cert.post ([.w (.o (.rp (byF a)))]) r) : R_spec_l72Cert a r :=
  mkR_post (a := a) (by intro a b h; simpa only [List.cons.injEq, and_true, true_and, one_inj, agg_inj, paF_inj, itF_inj, chF_inj, voF_inj, vsF_inj, csF_inj, nsF_inj, nssF_inj, ndF_inj, ceF_inj, woF_inj, evF_inj, byF_inj, ndsF_inj, evsF_inj, pasF_inj, aI_inj, aB_inj, aRp_inj, fI_inj, fBo_inj] using h) h
theorem K_spec_DrawCertOk {a : (List Int)} {r : AV} (h : S_spec_DrawCertOk.post ([one (byF a)]) r) : R_spec_DrawCertOk a r :=
  mkR_post (a := a) (by intro a b h; simpa only [List.cons.injEq, and_true, true_and, one_inj, agg_inj, paF_inj, itF_inj, chF_inj, voF_inj, vsF_inj, csF_inj, nsF_inj, nssF_inj, ndF_inj, ceF_inj, woF_inj, evF_inj, byF_inj, ndsF_inj, evsF_inj, pasF_inj, aI_inj, aB_inj, aRp_inj, fI_inj, fBo_inj] using h) h
theorem K_spec_DrawCertFinal {a : (List Int)} {r : AV} (h : S_spec_DrawCertFinal.post ([one (byF a)]) r) : R_spec_DrawCertFinal a r :=
  mkR_post (a := a) (by intro a b h; simpa only [List.cons.injEq, and_true, true_and, one_inj, agg_inj, paF_inj, itF_inj, chF_inj, voF_inj, vsF_inj, csF_inj, nsF_inj, nssF_inj, ndF_inj, ceF_inj, woF_inj, evF_inj, byF_inj, ndsF_inj, evsF_inj, pasF_inj, aI_inj, aB_inj, aRp_inj, fI_inj, fBo_inj] using h) h
end Av
end Go.Proofs.Ytdboofnogabefaa
