/- The contracts of the reference's functions on chains and votes. -/
import Derived.Test.YtfijfccgghhkoaaE0
set_option linter.unusedVariables false
set_option linter.unusedSimpArgs false
namespace Go.Proofs.Ytfijfccgghhkoaa
namespace Av
open Go.RowKit
theorem FitVs.get {l : List Vo} {i : Nat} {v : Vo} (h : FitVs l) (hv : l[i]? = some v) : FitV v := h.2 v (List.mem_of_getElem? hv)
theorem FitV.len {v : Vo} (h : FitV v) : v.c.length ≤ LIM := h
theorem FitVs.len {l : List Vo} (h : FitVs l) : l.length ≤ LIM := h.1
/-- Bytes. -/
def byF (l : List Int) : FV := .sl 1 (l.map fun n => [.v (.int .u8 n)])
theorem byF_inj {a b : List Int} : byF a = byF b ↔ a = b :=
  ⟨fun h => map_inj' (fun _ _ h => by simpa using h) (FV.sl.inj h).2, fun h => by rw [h]⟩
def ndsF (l : List Nd) : FV := .sl 4 (l.map ndF)
theorem ndsF_inj {a b : List Nd} : ndsF a = ndsF b ↔ a = b :=
  ⟨fun h => map_inj' (fun _ _ => ndF_inj.1) (FV.sl.inj h).2, fun h => by rw [h]⟩
def evsF (l : List Ev) : FV := .sl 8 (l.map evF)
theorem evsF_inj {a b : List Ev} : evsF a = evsF b ↔ a = b :=
  ⟨fun h => map_inj' (fun _ _ => evF_inj.1) (FV.sl.inj h).2, fun h => by rw [h]⟩
def pasF (l : List Pa) : FV := .sl 3 (l.map paF)
theorem pasF_inj {a b : List Pa} : pasF a = pasF b ↔ a = b :=
  ⟨fun h => map_inj' (fun _ _ => paF_inj.1) (FV.sl.inj h).2, fun h => by rw [h]⟩
theorem fBo_inj {a b : Bool} : (FV.v (.bool a) : FV) = FV.v (.bool b) ↔ a = b := by simp
theorem aI_inj {a b : Int} : I a = I b ↔ a = b := by simp
theorem aB_inj {a b : Bool} : B a = B b ↔ a = b := by simp
theorem aRp_inj {a b : FV} : AV.w (.o (.rp a)) = AV.w (.o (.rp b)) ↔ a = b := by simp
noncomputable def S_spec_l6In : FSpec := tF (α := (Int) × (Int) × (Int)) (fun a => [I a.1, I a.2.1, I a.2.2]) (fun a => True) (fun a => In a.1 a.2.1 a.2.2) (fun _ => rfl)
theorem K_impl_VotesOk {a : (List Vo)} {r : AV} (h : S_impl_VotesOk.post ([one (vsF a)]) r) : (VotesOk a ∧ r = B true) ∨ (¬ (VotesOk a) ∧ r = B false) :=
  tF_post (hcl := fun _ => rfl) (a := a) (by intro a b h; simpa only [List.cons.injEq, and_true, true_and, one_inj, agg_inj, paF_inj, itF_inj, chF_inj, voF_inj, vsF_inj, csF_inj, nsF_inj, nssF_inj, ndF_inj, ceF_inj, woF_inj, evF_inj, byF_inj, ndsF_inj, evsF_inj, pasF_inj, aI_inj, aB_inj, aRp_inj, fI_inj, fBo_inj] using h) h
theorem K_spec_l6In {a : (Int) × (Int) × (Int)} {r : AV} (h : S_spec_l6In.post ([I a.1, I a.2.1, I a.2.2]) r) : (In a.1 a.2.1 a.2.2 ∧ r = B true) ∨ (¬ (In a.1 a.2.1 a.2.2) ∧ r = B false) :=
  tF_post (hcl := fun _ => rfl) (a := a) (by rintro ⟨x0, x1, x2⟩ ⟨y0, y1, y2⟩ h; simp only [List.cons.injEq, and_true, true_and, one_inj, agg_inj, paF_inj, itF_inj, chF_inj, voF_inj, vsF_inj, csF_inj, nsF_inj, nssF_inj, ndF_inj, ceF_inj, woF_inj, evF_inj, byF_inj, ndsF_inj, evsF_inj, pasF_inj, aI_inj, aB_inj, aRp_inj, fI_inj, fBo_inj] at h; obtain ⟨rfl, rfl, rfl⟩ := h; rfl) h
end Av
end Go.Proofs.Ytfijfccgghhkoaa
