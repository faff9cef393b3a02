/- Contracts: sizes, copies, equality and marks of certs. -/
import Derived.Test.YtlbdoamidblkaaaNE
import Derived.Test.YtlbdoamidblkaaaCJ
set_option linter.unusedVariables false
set_option linter.unusedSimpArgs false
namespace Go.Proofs.Ytlbdoamidblkaaa
namespace Av
open Go.RowKit
theorem etaCe (c : Ce) : (⟨c.c, c.b⟩ : Ce) = c := rfl
def BigBs (b : List (List Int)) : Prop := b.length ≤ BIG ∧ ∀ x, x ∈ b → x.length ≤ BIG
def SmBs (b : List (List Int)) : Prop := b.length ≤ SM ∧ ∀ x, x ∈ b → x.length ≤ SM
def BigCe (c : Ce) : Prop := c.c.length ≤ BIG ∧ BigBs c.b
def SmCe (c : Ce) : Prop := c.c.length ≤ SM ∧ SmBs c.b
theorem SmBs.fit {b : List (List Int)} (h : SmBs b) : FitBs b := ⟨Nat.le_trans h.1 (by decide), fun x hx => Nat.le_trans (h.2 x hx) (by decide)⟩
theorem SmCe.fit {c : Ce} (h : SmCe c) : FitCe c := ⟨Nat.le_trans h.1 (by decide), h.2.fit⟩
def R_laws_szIntS (a : (List Int) × (Int)) (r : AV) : Prop := ∃ k : Int, r = I k ∧ k ≤ a.2 ∧ (0 ≤ k → a.1.length ≤ SM)
def R_laws_szIntSS (a : (List (List Int)) × (Int)) (r : AV) : Prop := ∃ k : Int, r = I k ∧ k ≤ a.2 ∧ (0 ≤ k → SmBs a.1)
def R_laws_szCert (a : (Ce) × (Int)) (r : AV) : Prop := ∃ k : Int, r = I k ∧ k ≤ a.2 ∧ (0 ≤ k → SmCe a.1)
theorem inh_laws_szIntS : ∀ a : List Int × Int, a.1.length ≤ BIG ∧ 0 ≤ a.2 ∧ a.2 ≤ 1048576 → ∃ r, R_laws_szIntS a r ∧ okV noN r := fun a h => inh_sz h.2.1
theorem inh_laws_szIntSS : ∀ a : List (List Int) × Int, BigBs a.1 ∧ 0 ≤ a.2 ∧ a.2 ≤ 1048576 → ∃ r, R_laws_szIntSS a r ∧ okV noN r := fun a h => inh_sz h.2.1
theorem inh_laws_szCert : ∀ a : Ce × Int, BigCe a.1 ∧ 0 ≤ a.2 ∧ a.2 ≤ 1048576 → ∃ r, R_laws_szCert a r ∧ okV noN r := fun a h => inh_sz h.2.1
theorem sc_laws_szIntS : true = true → ∀ a r, R_laws_szIntS a r → scal r := fun _ a r ⟨k, h, _⟩ => by rw [h]; trivial
theorem sc_laws_szIntSS : true = true → ∀ a r, R_laws_szIntSS a r → scal r := fun _ a r ⟨k, h, _⟩ => by rw [h]; trivial
theorem sc_laws_szCert : true = true → ∀ a r, R_laws_szCert a r → scal r := fun _ a r ⟨k, h, _⟩ => by rw [h]; trivial
noncomputable def S_laws_szIntS : FSpec := mkR (α := (List Int) × (Int)) (fun a => [one (nsF a.1), I a.2]) (fun a => a.1.length ≤ BIG ∧ 0 ≤ a.2 ∧ a.2 ≤ 1048576) R_laws_szIntS 0 true sc_laws_szIntS inh_laws_szIntS (fun _ => rfl)
noncomputable def S_laws_szIntSS : FSpec := mkR (α := (List (List Int)) × (Int)) (fun a => [one (nssF a.1), I a.2]) (fun a => BigBs a.1 ∧ 0 ≤ a.2 ∧ a.2 ≤ 1048576) R_laws_szIntSS 0 true sc_laws_szIntSS inh_laws_szIntSS (fun _ => rfl)
noncomputable def S_laws_szCert : FSpec := mkR (α := (Ce) × (Int)) (fun a => [agg (ceF a.1), I a.2]) (fun a => BigCe a.1 ∧ 0 ≤ a.2 ∧ a.2 ≤ 1048576) R_laws_szCert 0 true sc_laws_szCert inh_laws_szCert (fun _ => rfl)
noncomputable def S_laws_toIntS : FSpec := oF (α := (List Int)) (fun a => [one (nsF a)]) (fun a => a.length ≤ LIM) (fun a => nsF a) (fun _ => rfl)
noncomputable def S_laws_toIntSS : FSpec := oF (α := (List (List Int))) (fun a => [one (nssF a)]) (fun a => FitBs a) (fun a => nssF a) (fun _ => rfl)
noncomputable def S_laws_toCert : FSpec := gF (α := (Ce)) (fun a => [agg (ceF a)]) (fun a => FitCe a) (fun a => ceF a) (fun _ => rfl)
noncomputable def S_laws_eqIntS : FSpec := tF (α := (List Int) × (List Int)) (fun a => [one (nsF a.1), one (nsF a.2)]) (fun a => a.1.length ≤ LIM ∧ a.2.length ≤ LIM) (fun a => a.1 = a.2) (fun _ => rfl)
noncomputable def S_laws_eqIntSS : FSpec := tF (α := (List (List Int)) × (List (List Int))) (fun a => [one (nssF a.1), one (nssF a.2)]) (fun a => FitBs a.1 ∧ FitBs a.2) (fun a => a.1 = a.2) (fun _ => rfl)
noncomputable def S_laws_eqCert : FSpec := tF (α := (Ce) × (Ce)) (fun a => [agg (ceF a.1), agg (ceF a.2)]) (fun a => FitCe a.1 ∧ FitCe a.2) (fun a => a.1 = a.2) (fun _ => rfl)
theorem K_laws_szIntS {a : (List Int) × (Int)} {r : AV} (h : S_laws_szIntS.post ([one (nsF a.1), I a.2]) r) : R_laws_szIntS a r :=
  mkR_post (a := a) (by rintro ⟨x0, x1⟩ ⟨y0, y1⟩ h; simp only [List.cons.injEq, and_true, true_and, one_inj, agg_inj, paF_inj, itF_inj, chF_inj, voF_inj, vsF_inj, csF_inj, nsF_inj, nssF_inj, ndF_inj, ceF_inj, woF_inj, evF_inj, byF_inj, ndsF_inj, evsF_inj, pasF_inj, aI_inj, aB_inj, aRp_inj, fI_inj, fBo_inj] at h; obtain ⟨rfl, rfl⟩ := h; rfl) h
theorem K_laws_szIntSS {a : (List (List Int)) × (Int)} {r : AV} (h : S_laws_szIntSS.post ([one (nssF a.1), I a.2]) r) : R_laws_szIntSS a r :=
  mkR_post (a := a) (by rintro ⟨x0, x1⟩ ⟨y0, y1⟩ h; simp only [List.cons.injEq, and_true, true_and, one_inj, agg_inj, paF_inj, itF_inj, chF_inj, voF_inj, vsF_inj, csF_inj, nsF_inj, nssF_inj, ndF_inj, ceF_inj, woF_inj, evF_inj, byF_inj, ndsF_inj, evsF_inj, pasF_inj, aI_inj, aB_inj, aRp_inj, fI_inj, fBo_inj] at h; obtain ⟨rfl, rfl⟩ := h; rfl) h
theorem K_laws_szCert {a : (Ce) × (Int)} {r : AV} (h : S_laws_szCert.post ([agg (ceF a.1), I a.2]) r) : R_laws_szCert a r :=
  mkR_post (a := a) (by rintro ⟨x0, x1⟩ ⟨y0, y1⟩ h; simp only [List.cons.injEq, and_true, true_and, one_inj, agg_inj, paF_inj, itF_inj, chF_inj, voF_inj, vsF_inj, csF_inj, nsF_inj, nssF_inj, ndF_inj, ceF_inj, woF_inj, evF_inj, byF_inj, ndsF_inj, evsF_inj, pasF_inj, aI_inj, aB_inj, aRp_inj, fI_inj, fBo_inj] at h; obtain ⟨rfl, rfl⟩ := h; rfl) h
theorem K_laws_toIntS {a : (List Int)} {r : AV} (h : S_laws_toIntS.post ([one (nsF a)]) r) : r = one (nsF a) :=
  oF_post (hcl := fun _ => rfl) (a := a) (by intro a b h; simpa only [List.cons.injEq, and_true, true_and, one_inj, agg_inj, paF_inj, itF_inj, chF_inj, voF_inj, vsF_inj, csF_inj, nsF_inj, nssF_inj, ndF_inj, ceF_inj, woF_inj, evF_inj, byF_inj, ndsF_inj, evsF_inj, pasF_inj, aI_inj, aB_inj, aRp_inj, fI_inj, fBo_inj] using h) h
theorem K_laws_toIntSS {a : (List (List Int))} {r : AV} (h : S_laws_toIntSS.post ([one (nssF a)]) r) : r = one (nssF a) :=
  oF_post (hcl := fun _ => rfl) (a := a) (by intro a b h; simpa only [List.cons.injEq, and_true, true_and, one_inj, agg_inj, paF_inj, itF_inj, chF_inj, voF_inj, vsF_inj, csF_inj, nsF_inj, nssF_inj, ndF_inj, ceF_inj, woF_inj, evF_inj, byF_inj, ndsF_inj, evsF_inj, pasF_inj, aI_inj, aB_inj, aRp_inj, fI_inj, fBo_inj] using h) h
theorem K_laws_toCert {a : (Ce)} {r : AV} (h : S_laws_toCert.post ([agg (ceF a)]) r) : r = agg (ceF a) :=
  gF_post (hcl := fun _ => rfl) (a := a) (by intro a b h; simpa only [List.cons.injEq, and_true, true_and, one_inj, agg_inj, paF_inj, itF_inj, chF_inj, voF_inj, vsF_inj, csF_inj, nsF_inj, nssF_inj, ndF_inj, ceF_inj, woF_inj, evF_inj, byF_inj, ndsF_inj, evsF_inj, pasF_inj, aI_inj, aB_inj, aRp_inj, fI_inj, fBo_inj] using h) h
theorem K_laws_eqIntS {a : (List Int) × (List Int)} {r : AV} (h : S_laws_eqIntS.post ([one (nsF a.1), one (nsF a.2)]) r) : (a.1 = a.2 ∧ r = B true) ∨ (¬ (a.1 = a.2) ∧ r = B false) :=
  tF_post (hcl := fun _ => rfl) (a := a) (by rintro ⟨x0, x1⟩ ⟨y0, y1⟩ h; simp only [List.cons.injEq, and_true, true_and, one_inj, agg_inj, paF_inj, itF_inj, chF_inj, voF_inj, vsF_inj, csF_inj, nsF_inj, nssF_inj, ndF_inj, ceF_inj, woF_inj, evF_inj, byF_inj, ndsF_inj, evsF_inj, pasF_inj, aI_inj, aB_inj, aRp_inj, fI_inj, fBo_inj] at h; obtain ⟨rfl, rfl⟩ := h; rfl) h
theorem K_laws_eqIntSS {a : (List (List Int)) × (List (List Int))} {r : AV} (h : S_laws_eqIntSS.post ([one (nssF a.1), one (nssF a.2)]) r) : (a.1 = a.2 ∧ r = B true) ∨ (¬ (a.1 = a.2) ∧ r = B false) :=
  tF_post (hcl := fun _ => rfl) (a := a) (by rintro ⟨x0, x1⟩ ⟨y0, y1⟩ h; simp only [List.cons.injEq, and_true, true_and, one_inj, agg_inj, paF_inj, itF_inj, chF_inj, voF_inj, vsF_inj, csF_inj, nsF_inj, nssF_inj, ndF_inj, ceF_inj, woF_inj, evF_inj, byF_inj, ndsF_inj, evsF_inj, pasF_inj, aI_inj, aB_inj, aRp_inj, fI_inj, fBo_inj] at h; obtain ⟨rfl, rfl⟩ := h; rfl) h
theorem K_laws_eqCert {a : (Ce) × (Ce)} {r : AV} (h : S_laws_eqCert.post ([agg (ceF a.1), agg (ceF a.2)]) r) : (a.1 = a.2 ∧ r = B true) ∨ (¬ (a.1 = a.2) ∧ r = B false) :=
  tF_post (hcl := fun _ => rfl) (a := a) (by rintro ⟨x0, x1⟩ ⟨y0, y1⟩ h; simp only [List.cons.injEq, and_true, true_and, one_inj, agg_inj, paF_inj, itF_inj, chF_inj, voF_inj, vsF_inj, csF_inj, nsF_inj, nssF_inj, ndF_inj, ceF_inj, woF_inj, evF_inj, byF_inj, ndsF_inj, evsF_inj, pasF_inj, aI_inj, aB_inj, aRp_inj, fI_inj, fBo_inj] at h; obtain ⟨rfl, rfl⟩ := h; rfl) h
end Av
end Go.Proofs.Ytlbdoamidblkaaa
