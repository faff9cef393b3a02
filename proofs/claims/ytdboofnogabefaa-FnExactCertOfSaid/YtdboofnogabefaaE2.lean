/- The contracts of the reference's functions on chains and votes. -/
import Derived.Test.YtdboofnogabefaaE0
set_option linter.unusedVariables false
set_option linter.unusedSimpArgs false
namespace Go.Proofs.Ytdboofnogabefaa
namespace Av
open Go.RowKit
theorem FitVs.get {l : List Vo} {i : Nat} {v : Vo} (h : FitVs l) (hv : l[i]? = some v) : FitV v := h.2 v (List.mem_of_getElem? hv)
theorem FitV.len {v : Vo} (h : FitV v) : v.c.length ≤ LIM := h
theorem FitVs.len {l : List Vo} (h : FitVs l) : l.length ≤ LIM := h.1
/-- How many votes are for a chain. -/
def many (l : List Vo) (c : List It) : Nat := l.countP fun v => decide (v.c = c)
def SureM (l : List Vo) (c : List It) : Prop := ∀ n, 1 ≤ n → n ≤ c.length → 3 ≤ many l (c.take n)
noncomputable def allFromM (l : List Vo) : List Vo → List (List It) → List (List It)
  | [], out => out
  | v :: r, out => allFromM l r (if tb (v.c ∉ out ∧ SureM l v.c) = true then out ++ [v.c] else out)
noncomputable def allM (l : List Vo) : List (List It) := allFromM l l [[]]
/-- Bytes. -/
def byF (l : List Int) : FV := .sl 1 (l.map fun n => [.v (.int .u8 n)])
theorem byF_inj {a b : List Int} : byF a = byF b ↔ a = b :=
  ⟨fun h => map_inj' (fun _ _ h => by simpa using h) (FV.sl.inj h).2, fun h => by rw [h]⟩
def ndsF (l : List Nd) : FV := .sl 4 (l.map ndF)
theorem ndsF_inj {a b : List Nd} : ndsF a = ndsF b ↔ a = b :=
  ⟨fun h => map_inj' (fun _ _ => ndF_inj.1) (FV.sl.inj h).2, fun h => by rw [h]⟩
def evsF (l : List Ev) : FV := .sl 8 (l.map evF)
theorem evsF_inj {a b : List Ev} : evsF a = evsF b ↔ a = b :=
  ⟨fun h => map_inj' (fun _ _ => evF_inj.1) (FV.sl.inj h).2, fun h => by rw [h]⟩
def pasF (l : List Pa) : FV := .sl 3 (l.map paF)
theorem pasF_inj {a b : List Pa} : pasF a = pasF b ↔ a = b :=
  ⟨fun h => map_inj' (fun _ _ => paF_inj.1) (FV.sl.inj h).2, fun h => by rw [h]⟩
theorem fBo_inj {a b : Bool} : (FV.v (.bool a) : FV) = FV.v (.bool b) ↔ a = b := by simp
theorem aI_inj {a b : Int} : I a = I b ↔ a = b := by simp
theorem aB_inj {a b : Bool} : B a = B b ↔ a = b := by simp
theorem aRp_inj {a b : FV} : AV.w (.o (.rp a)) = AV.w (.o (.rp b)) ↔ a = b := by simp
noncomputable def S_spec_l6In : FSpec := tF (α := (Int) × (Int) × (Int)) (fun a => [I a.1, I a.2.1, I a.2.2]) (fun a => True) (fun a => In a.1 a.2.1 a.2.2) (fun _ => rfl)
noncomputable def S_spec_PayOk : FSpec := tF (α := (Pa)) (fun a => [agg (paF a)]) (fun a => True) (fun a => PayOk a) (fun _ => rfl)
noncomputable def S_spec_ChainOk : FSpec := tF (α := (List It)) (fun a => [one (chF a)]) (fun a => a.length ≤ LIM) (fun a => ChainOk a) (fun _ => rfl)
noncomputable def S_spec_l1In : FSpec := tF (α := (List It) × (List It)) (fun a => [one (chF a.1), one (chF a.2)]) (fun a => a.1.length ≤ LIM ∧ a.2.length ≤ LIM) (fun a => a.1 = a.2.take a.1.length) (fun _ => rfl)
noncomputable def S_spec_l3Same : FSpec := tF (α := (List It) × (List It)) (fun a => [one (chF a.1), one (chF a.2)]) (fun a => a.1.length ≤ LIM ∧ a.2.length ≤ LIM) (fun a => a.1 = a.2) (fun _ => rfl)
noncomputable def S_spec_l3Has : FSpec := tF (α := (List Vo) × (Vo)) (fun a => [one (vsF a.1), agg (voF a.2)]) (fun a => FitVs a.1 ∧ FitV a.2) (fun a => a.2 ∈ a.1) (fun _ => rfl)
noncomputable def S_spec_l3Vote : FSpec := tF (α := (Vo)) (fun a => [agg (voF a)]) (fun a => FitV a) (fun a => VoteOk a) (fun _ => rfl)
noncomputable def S_spec_VotesOk : FSpec := tF (α := (List Vo)) (fun a => [one (vsF a)]) (fun a => FitVs a) (fun a => VotesOk a) (fun _ => rfl)
noncomputable def S_spec_l3Many : FSpec := iF (α := (List Vo) × (List It)) (fun a => [one (vsF a.1), one (chF a.2)]) (fun a => FitVs a.1 ∧ a.2.length ≤ LIM) (fun a => (many a.1 a.2 : Int)) (fun _ => rfl)
noncomputable def S_spec_l11Sure : FSpec := tF (α := (List Vo) × (List It)) (fun a => [one (vsF a.1), one (chF a.2)]) (fun a => FitVs a.1 ∧ a.2.length ≤ LIM) (fun a => SureM a.1 a.2) (fun _ => rfl)
noncomputable def S_spec_l1Copy : FSpec := oF (α := (List It)) (fun a => [one (chF a)]) (fun a => a.length ≤ LIM) (fun a => chF a) (fun _ => rfl)
noncomputable def S_spec_l11All : FSpec := oF (α := (List Vo)) (fun a => [one (vsF a)]) (fun a => FitVs a ∧ a.length < LIM) (fun a => csF (allM a)) (fun _ => rfl)
theorem K_impl_VotesOk {a : (List Vo)} {r : AV} (h : S_impl_VotesOk.post ([one (vsF a)]) r) : (VotesOk a ∧ r = B true) ∨ (¬ (VotesOk a) ∧ r = B false) :=
  tF_post (hcl := fun _ => rfl) (a := a) (by intro a b h; simpa only [List.cons.injEq, and_true, true_and, one_inj, agg_inj, paF_inj, itF_inj, chF_inj, voF_inj, vsF_inj, csF_inj, nsF_inj, nssF_inj, ndF_inj, ceF_inj, woF_inj, evF_inj, byF_inj, ndsF_inj, evsF_inj, pasF_inj, aI_inj, aB_inj, aRp_inj, fI_inj, fBo_inj] using h) h
theorem K_spec_l6In {a : (Int) × (Int) × (Int)} {r : AV} (h : S_spec_l6In.post ([I a.1, I a.2.1, I a.2.2]) r) : (In a.1 a.2.1 a.2.2 ∧ r = B true) ∨ (¬ (In a.1 a.2.1 a.2.2) ∧ r = B false) :=
  tF_post (hcl := fun _ => rfl) (a := a) (by rintro ⟨x0, x1, x2⟩ ⟨y0, y1, y2⟩ h; simp only [List.cons.injEq, and_true, true_and, one_inj, agg_inj, paF_inj, itF_inj, chF_inj, voF_inj, vsF_inj, csF_inj, nsF_inj, nssF_inj, ndF_inj, ceF_inj, woF_inj, evF_inj, byF_inj, ndsF_inj, evsF_inj, pasF_inj, aI_inj, aB_inj, aRp_inj, fI_inj, fBo_inj] at h; obtain ⟨rfl, rfl, rfl⟩ := h; rfl) h
theorem K_spec_PayOk {a : (Pa)} {r : AV} (h : S_spec_PayOk.post ([agg (paF a)]) r) : (PayOk a ∧ r = B true) ∨ (¬ (PayOk a) ∧ r = B false) :=
  tF_post (hcl := fun _ => rfl) (a := a) (by intro a b h; simpa only [List.cons.injEq, and_true, true_and, one_inj, agg_inj, paF_inj, itF_inj, chF_inj, voF_inj, vsF_inj, csF_inj, nsF_inj, nssF_inj, ndF_inj, ceF_inj, woF_inj, evF_inj, byF_inj, ndsF_inj, evsF_inj, pasF_inj, aI_inj, aB_inj, aRp_inj, fI_inj, fBo_inj] using h) h
theorem K_spec_ChainOk {a : (List It)} {r : AV} (h : S_spec_ChainOk.post ([one (chF a)]) r) : (ChainOk a ∧ r = B true) ∨ (¬ (ChainOk a) ∧ r = B false) :=
  tF_post (hcl := fun _ => rfl) (a := a) (by intro a b h; simpa only [List.cons.injEq, and_true, true_and, one_inj, agg_inj, paF_inj, itF_inj, chF_inj, voF_inj, vsF_inj, csF_inj, nsF_inj, nssF_inj, ndF_inj, ceF_inj, woF_inj, evF_inj, byF_inj, ndsF_inj, evsF_inj, pasF_inj, aI_inj, aB_inj, aRp_inj, fI_inj, fBo_inj] using h) h
theorem K_spec_l1In {a : (List It) × (List It)} {r : AV} (h : S_spec_l1In.post ([one (chF a.1), one (chF a.2)]) r) : (a.1 = a.2.take a.1.length ∧ r = B true) ∨ (¬ (a.1 = a.2.take a.1.length) ∧ r = B false) :=
  tF_post (hcl := fun _ => rfl) (a := a) (by rintro ⟨x0, x1⟩ ⟨y0, y1⟩ h; simp only [List.cons.injEq, and_true, true_and, one_inj, agg_inj, paF_inj, itF_inj, chF_inj, voF_inj, vsF_inj, csF_inj, nsF_inj, nssF_inj, ndF_inj, ceF_inj, woF_inj, evF_inj, byF_inj, ndsF_inj, evsF_inj, pasF_inj, aI_inj, aB_inj, aRp_inj, fI_inj, fBo_inj] at h; obtain ⟨rfl, rfl⟩ := h; rfl) h
theorem K_spec_l3Same {a : (List It) × (List It)} {r : AV} (h : S_spec_l3Same.post ([one (chF a.1), one (chF a.2)]) r) : (a.1 = a.2 ∧ r = B true) ∨ (¬ (a.1 = a.2) ∧ r = B false) :=
  tF_post (hcl := fun _ => rfl) (a := a) (by rintro ⟨x0, x1⟩ ⟨y0, y1⟩ h; simp only [List.cons.injEq, and_true, true_and, one_inj, agg_inj, paF_inj, itF_inj, chF_inj, voF_inj, vsF_inj, csF_inj, nsF_inj, nssF_inj, ndF_inj, ceF_inj, woF_inj, evF_inj, byF_inj, ndsF_inj, evsF_inj, pasF_inj, aI_inj, aB_inj, aRp_inj, fI_inj, fBo_inj] at h; obtain ⟨rfl, rfl⟩ := h; rfl) h
theorem K_spec_l3Has {a : (List Vo) × (Vo)} {r : AV} (h : S_spec_l3Has.post ([one (vsF a.1), agg (voF a.2)]) r) : (a.2 ∈ a.1 ∧ r = B true) ∨ (¬ (a.2 ∈ a.1) ∧ r = B false) :=
  tF_post (hcl := fun _ => rfl) (a := a) (by rintro ⟨x0, x1⟩ ⟨y0, y1⟩ h; simp only [List.cons.injEq, and_true, true_and, one_inj, agg_inj, paF_inj, itF_inj, chF_inj, voF_inj, vsF_inj, csF_inj, nsF_inj, nssF_inj, ndF_inj, ceF_inj, woF_inj, evF_inj, byF_inj, ndsF_inj, evsF_inj, pasF_inj, aI_inj, aB_inj, aRp_inj, fI_inj, fBo_inj] at h; obtain ⟨rfl, rfl⟩ := h; rfl) h
theorem K_spec_l3Vote {a : (Vo)} {r : AV} (h : S_spec_l3Vote.post ([agg (voF a)]) r) : (VoteOk a ∧ r = B true) ∨ (¬ (VoteOk a) ∧ r = B false) :=
  tF_post (hcl := fun _ => rfl) (a := a) (by intro a b h; simpa only [List.cons.injEq, and_true, true_and, one_inj, agg_inj, paF_inj, itF_inj, chF_inj, voF_inj, vsF_inj, csF_inj, nsF_inj, nssF_inj, ndF_inj, ceF_inj, woF_inj, evF_inj, byF_inj, ndsF_inj, evsF_inj, pasF_inj, aI_inj, aB_inj, aRp_inj, fI_inj, fBo_inj] using h) h
theorem K_spec_VotesOk {a : (List Vo)} {r : AV} (h : S_spec_VotesOk.post ([one (vsF a)]) r) : (VotesOk a ∧ r = B true) ∨ (¬ (VotesOk a) ∧ r = B false) :=
  tF_post (hcl := fun _ => rfl) (a := a) (by intro a b h; simpa only [List.cons.injEq, and_true, true_and, one_inj, agg_inj, paF_inj, itF_inj, chF_inj, voF_inj, vsF_inj, csF_inj, nsF_inj, nssF_inj, ndF_inj, ceF_inj, woF_inj, evF_inj, byF_inj, ndsF_inj, evsF_inj, pasF_inj, aI_inj, aB_inj, aRp_inj, fI_inj, fBo_inj] using h) h
theorem K_spec_l3Many {a : (List Vo) × (List It)} {r : AV} (h : S_spec_l3Many.post ([one (vsF a.1), one (chF a.2)]) r) : r = I ((many a.1 a.2 : Int)) :=
  iF_post (hcl := fun _ => rfl) (a := a) (by rintro ⟨x0, x1⟩ ⟨y0, y1⟩ h; simp only [List.cons.injEq, and_true, true_and, one_inj, agg_inj, paF_inj, itF_inj, chF_inj, voF_inj, vsF_inj, csF_inj, nsF_inj, nssF_inj, ndF_inj, ceF_inj, woF_inj, evF_inj, byF_inj, ndsF_inj, evsF_inj, pasF_inj, aI_inj, aB_inj, aRp_inj, fI_inj, fBo_inj] at h; obtain ⟨rfl, rfl⟩ := h; rfl) h
theorem K_spec_l11Sure {a : (List Vo) × (List It)} {r : AV} (h : S_spec_l11Sure.post ([one (vsF a.1), one (chF a.2)]) r) : (SureM a.1 a.2 ∧ r = B true) ∨ (¬ (SureM a.1 a.2) ∧ r = B false) :=
  tF_post (hcl := fun _ => rfl) (a := a) (by rintro ⟨x0, x1⟩ ⟨y0, y1⟩ h; simp only [List.cons.injEq, and_true, true_and, one_inj, agg_inj, paF_inj, itF_inj, chF_inj, voF_inj, vsF_inj, csF_inj, nsF_inj, nssF_inj, ndF_inj, ceF_inj, woF_inj, evF_inj, byF_inj, ndsF_inj, evsF_inj, pasF_inj, aI_inj, aB_inj, aRp_inj, fI_inj, fBo_inj] at h; obtain ⟨rfl, rfl⟩ := h; rfl) h
theorem K_spec_l1Copy {a : (List It)} {r : AV} (h : S_spec_l1Copy.post ([one (chF a)]) r) : r = one (chF a) :=
  oF_post (hcl := fun _ => rfl) (a := a) (by intro a b h; simpa only [List.cons.injEq, and_true, true_and, one_inj, agg_inj, paF_inj, itF_inj, chF_inj, voF_inj, vsF_inj, csF_inj, nsF_inj, nssF_inj, ndF_inj, ceF_inj, woF_inj, evF_inj, byF_inj, ndsF_inj, evsF_inj, pasF_inj, aI_inj, aB_inj, aRp_inj, fI_inj, fBo_inj] using h) h
theorem K_spec_l11All {a : (List Vo)} {r : AV} (h : S_spec_l11All.post ([one (vsF a)]) r) : r = one (csF (allM a)) :=
  oF_post (hcl := fun _ => rfl) (a := a) (by intro a b h; simpa only [List.cons.injEq, and_true, true_and, one_inj, agg_inj, paF_inj, itF_inj, chF_inj, voF_inj, vsF_inj, csF_inj, nsF_inj, nssF_inj, ndF_inj, ceF_inj, woF_inj, evF_inj, byF_inj, ndsF_inj, evsF_inj, pasF_inj, aI_inj, aB_inj, aRp_inj, fI_inj, fBo_inj] using h) h
end Av
end Go.Proofs.Ytdboofnogabefaa
