/- The contracts of the functions on certs. -/
import Derived.Test.YtlbdoamidblkaaaP3
set_option linter.unusedVariables false
set_option linter.unusedSimpArgs false
namespace Go.Proofs.Ytlbdoamidblkaaa
namespace Av
open Go.RowKit
/-- Who voted: ascending, and enough. -/
def VtAt (b : List Int) (i : Nat) (n : Int) : Prop := In n 1 4 ∧ ∀ j m, i = j + 1 → b[j]? = some m → m < n
def VtOk (b : List Int) : Prop := (∀ i n, b[i]? = some n → VtAt b i n) ∧ 3 ≤ b.length
def CertOk (c : Ce) : Prop := ChainOk c.c ∧ 3 ≤ c.c.length ∧ Con3 c.c (c.c.length - 3) ∧ c.b.length = 3 ∧ ∀ b, b ∈ c.b → VtOk b
def FitBs (b : List (List Int)) : Prop := b.length ≤ LIM ∧ ∀ x, x ∈ b → x.length ≤ LIM
def FitCe (c : Ce) : Prop := c.c.length ≤ LIM ∧ FitBs c.b
/-- The votes for one of the last three beginnings. -/
def certRow (c : List It) (k : Nat) (b : List Int) : List Vo := b.map fun n => ⟨n, c.take (c.length - 2 + k)⟩
def certRows (c : List It) : Nat → List (List Int) → List Vo
  | _, [] => []
  | k, b :: r => certRow c k b ++ certRows c (k + 1) r
noncomputable def certVotes (c : Ce) : List Vo := if tb (CertOk c) = true then certRows c.c 0 c.b else []
theorem finIn_lt {c : List It} (h : finIn c ≠ 0) : finIn c < c.length := finAt_lt h
theorem finIn_con {c : List It} (h : finIn c ≠ 0) : Con3 c (finIn c - 2) := by
  obtain ⟨k, e, hk⟩ := finAt_con (c := c) (m := c.length - 2) h
  rw [show finIn c - 2 = k from by unfold finIn; omega]; exact hk
theorem fin_last {c : List It} (h : 3 ≤ c.length) : finIn c = c.length - 1 ↔ Con3 c (c.length - 3) := by
  constructor
  · intro e
    have h0 : finIn c ≠ 0 := by omega
    have := finIn_con h0
    rw [e] at this
    rw [show c.length - 3 = c.length - 1 - 2 from by omega]; exact this
  · intro hc
    have h1 := finIn_ge hc
    have h2 := finIn_lt (c := c) (by omega)
    omega
theorem FitCe.c {c : Ce} (h : FitCe c) : c.c.length ≤ LIM := h.1
theorem FitCe.b {c : Ce} (h : FitCe c) {i : Nat} {x : List Int} (hx : c.b[i]? = some x) : x.length ≤ LIM := h.2.2 x (List.mem_of_getElem? hx)
def DrCe (c : Ce) : Prop := c.c.length ≤ 17 ∧ c.b.length ≤ 4 ∧ ∀ x, x ∈ c.b → x.length ≤ 4
theorem DrCe.fit {c : Ce} (h : DrCe c) : FitCe c := ⟨Nat.le_trans h.1 (by decide), Nat.le_trans h.2.1 (by decide), fun x hx => Nat.le_trans (h.2.2 x hx) (by decide)⟩
/-- 'no voters', a function without more. -/
abbrev fnNoVt : AV := .fn (.func n_impl_CertOk_1) [] []
noncomputable def S_slices_IndexFunc_nSS : FSpec := mkR (α := List (List Int)) (fun a => [one (nssF a), fnNoVt]) (fun a => FitBs a) (fun a r => ∃ k : Int, r = I k ∧ (0 ≤ k ↔ ∃ x, x ∈ a ∧ ¬ VtOk x)) 0 true
  (fun _ a r ⟨k, h, _⟩ => by rw [h]; trivial) (fun a _ => by
    by_cases h : ∃ x, x ∈ a ∧ ¬ VtOk x
    · exact ⟨I 0, ⟨0, rfl, iff_of_true (by decide) h⟩, trivial⟩
    · exact ⟨I (-1), ⟨-1, rfl, iff_of_false (by decide) h⟩, trivial⟩) (fun _ => rfl)
theorem encNoVt_inj (a b : List (List Int)) (h : [one (nssF a), fnNoVt] = [one (nssF b), fnNoVt]) : a = b := nssF_inj.1 (one_inj.1 (List.cons.inj h).1)
theorem K_slices_IndexFunc_nSS {a : List (List Int)} {r : AV} (h : S_slices_IndexFunc_nSS.post [one (nssF a), fnNoVt] r) : ∃ k : Int, r = I k ∧ (0 ≤ k ↔ ∃ x, x ∈ a ∧ ¬ VtOk x) :=
  mkR_post (a := a) encNoVt_inj h
noncomputable def S_slices_ContainsFunc_nSS : FSpec := tF (α := List (List Int)) (fun a => [one (nssF a), fnNoVt]) (fun a => FitBs a) (fun a => ∃ x, x ∈ a ∧ ¬ VtOk x) (fun _ => rfl)
theorem K_slices_ContainsFunc_nSS {a : List (List Int)} {r : AV} (h : S_slices_ContainsFunc_nSS.post [one (nssF a), fnNoVt] r) : ((∃ x, x ∈ a ∧ ¬ VtOk x) ∧ r = B true) ∨ (¬ (∃ x, x ∈ a ∧ ¬ VtOk x) ∧ r = B false) :=
  tF_post (hcl := fun _ => rfl) (a := a) encNoVt_inj h
noncomputable def S_impl_votersOk : FSpec := tF (α := (List Int)) (fun a => [one (nsF a)]) (fun a => a.length ≤ LIM) (fun a => VtOk a) (fun _ => rfl)
noncomputable def S_impl_CertOk_1 : FSpec := tF (α := (List Int)) (fun a => [one (nsF a)]) (fun a => a.length ≤ LIM) (fun a => ¬ VtOk a) (fun _ => rfl)
noncomputable def S_impl_CertOk : FSpec := tF (α := (Ce)) (fun a => [agg (ceF a)]) (fun a => FitCe a) (fun a => CertOk a) (fun _ => rfl)
noncomputable def S_impl_Cert_prefix : FSpec := oF (α := (Ce) × (Int)) (fun a => [agg (ceF a.1), I a.2]) (fun a => FitCe a.1 ∧ 0 ≤ a.2 ∧ a.2 ≤ 2 ∧ 3 ≤ a.1.c.length) (fun a => chF (a.1.c.take (a.1.c.length - 2 + a.2.toNat))) (fun _ => rfl)
noncomputable def S_impl_CertVotes : FSpec := oF (α := (Ce)) (fun a => [agg (ceF a)]) (fun a => FitCe a) (fun a => vsF (certVotes a)) (fun _ => rfl)
noncomputable def S_spec_l13By : FSpec := tF (α := (List Int)) (fun a => [one (nsF a)]) (fun a => a.length ≤ LIM) (fun a => VtOk a) (fun _ => rfl)
noncomputable def S_spec_CertOk : FSpec := tF (α := (Ce)) (fun a => [agg (ceF a)]) (fun a => FitCe a) (fun a => CertOk a) (fun _ => rfl)
noncomputable def S_spec_CertVotes : FSpec := oF (α := (Ce)) (fun a => [agg (ceF a)]) (fun a => FitCe a) (fun a => vsF (certVotes a)) (fun _ => rfl)
theorem K_impl_votersOk {a : (List Int)} {r : AV} (h : S_impl_votersOk.post ([one (nsF a)]) r) : (VtOk a ∧ r = B true) ∨ (¬ (VtOk a) ∧ r = B false) :=
  tF_post (hcl := fun _ => rfl) (a := a) (by intro a b h; simpa only [List.cons.injEq, and_true, true_and, one_inj, agg_inj, paF_inj, itF_inj, chF_inj, voF_inj, vsF_inj, csF_inj, nsF_inj, nssF_inj, ndF_inj, ceF_inj, woF_inj, evF_inj, byF_inj, ndsF_inj, evsF_inj, pasF_inj, aI_inj, aB_inj, aRp_inj, fI_inj, fBo_inj] using h) h
theorem K_impl_CertOk_1 {a : (List Int)} {r : AV} (h : S_impl_CertOk_1.post ([one (nsF a)]) r) : (¬ VtOk a ∧ r = B true) ∨ (¬ (¬ VtOk a) ∧ r = B false) :=
  tF_post (hcl := fun _ => rfl) (a := a) (by intro a b h; simpa only [List.cons.injEq, and_true, true_and, one_inj, agg_inj, paF_inj, itF_inj, chF_inj, voF_inj, vsF_inj, csF_inj, nsF_inj, nssF_inj, ndF_inj, ceF_inj, woF_inj, evF_inj, byF_inj, ndsF_inj, evsF_inj, pasF_inj, aI_inj, aB_inj, aRp_inj, fI_inj, fBo_inj] using h) h
theorem K_impl_CertOk {a : (Ce)} {r : AV} (h : S_impl_CertOk.post ([agg (ceF a)]) r) : (CertOk a ∧ r = B true) ∨ (¬ (CertOk a) ∧ r = B false) :=
  tF_post (hcl := fun _ => rfl) (a := a) (by intro a b h; simpa only [List.cons.injEq, and_true, true_and, one_inj, agg_inj, paF_inj, itF_inj, chF_inj, voF_inj, vsF_inj, csF_inj, nsF_inj, nssF_inj, ndF_inj, ceF_inj, woF_inj, evF_inj, byF_inj, ndsF_inj, evsF_inj, pasF_inj, aI_inj, aB_inj, aRp_inj, fI_inj, fBo_inj] using h) h
theorem K_impl_Cert_prefix {a : (Ce) × (Int)} {r : AV} (h : S_impl_Cert_prefix.post ([agg (ceF a.1), I a.2]) r) : r = one (chF (a.1.c.take (a.1.c.length - 2 + a.2.toNat))) :=
  oF_post (hcl := fun _ => rfl) (a := a) (by rintro ⟨x0, x1⟩ ⟨y0, y1⟩ h; simp only [List.cons.injEq, and_true, true_and, one_inj, agg_inj, paF_inj, itF_inj, chF_inj, voF_inj, vsF_inj, csF_inj, nsF_inj, nssF_inj, ndF_inj, ceF_inj, woF_inj, evF_inj, byF_inj, ndsF_inj, evsF_inj, pasF_inj, aI_inj, aB_inj, aRp_inj, fI_inj, fBo_inj] at h; obtain ⟨rfl, rfl⟩ := h; rfl) h
theorem K_impl_CertVotes {a : (Ce)} {r : AV} (h : S_impl_CertVotes.post ([agg (ceF a)]) r) : r = one (vsF (certVotes a)) :=
  oF_post (hcl := fun _ => rfl) (a := a) (by intro a b h; simpa only [List.cons.injEq, and_true, true_and, one_inj, agg_inj, paF_inj, itF_inj, chF_inj, voF_inj, vsF_inj, csF_inj, nsF_inj, nssF_inj, ndF_inj, ceF_inj, woF_inj, evF_inj, byF_inj, ndsF_inj, evsF_inj, pasF_inj, aI_inj, aB_inj, aRp_inj, fI_inj, fBo_inj] using h) h
theorem K_spec_l13By {a : (List Int)} {r : AV} (h : S_spec_l13By.post ([one (nsF a)]) r) : (VtOk a ∧ r = B true) ∨ (¬ (VtOk a) ∧ r = B false) :=
  tF_post (hcl := fun _ => rfl) (a := a) (by intro a b h; simpa only [List.cons.injEq, and_true, true_and, one_inj, agg_inj, paF_inj, itF_inj, chF_inj, voF_inj, vsF_inj, csF_inj, nsF_inj, nssF_inj, ndF_inj, ceF_inj, woF_inj, evF_inj, byF_inj, ndsF_inj, evsF_inj, pasF_inj, aI_inj, aB_inj, aRp_inj, fI_inj, fBo_inj] using h) h
theorem K_spec_CertOk {a : (Ce)} {r : AV} (h : S_spec_CertOk.post ([agg (ceF a)]) r) : (CertOk a ∧ r = B true) ∨ (¬ (CertOk a) ∧ r = B false) :=
  tF_post (hcl := fun _ => rfl) (a := a) (by intro a b h; simpa only [List.cons.injEq, and_true, true_and, one_inj, agg_inj, paF_inj, itF_inj, chF_inj, voF_inj, vsF_inj, csF_inj, nsF_inj, nssF_inj, ndF_inj, ceF_inj, woF_inj, evF_inj, byF_inj, ndsF_inj, evsF_inj, pasF_inj, aI_inj, aB_inj, aRp_inj, fI_inj, fBo_inj] using h) h
theorem K_spec_CertVotes {a : (Ce)} {r : AV} (h : S_spec_CertVotes.post ([agg (ceF a)]) r) : r = one (vsF (certVotes a)) :=
  oF_post (hcl := fun _ => rfl) (a := a) (by intro a b h; simpa only [List.cons.injEq, and_true, true_and, one_inj, agg_inj, paF_inj, itF_inj, chF_inj, voF_inj, vsF_inj, csF_inj, nsF_inj, nssF_inj, ndF_inj, ceF_inj, woF_inj, evF_inj, byF_inj, ndsF_inj, evsF_inj, pasF_inj, aI_inj, aB_inj, aRp_inj, fI_inj, fBo_inj] using h) h
end Av
end Go.Proofs.Ytlbdoamidblkaaa
