/- The contracts of the laws' own functions: size, copies, equality. -/
import Derived.Test.YtdboofnogabefaaE2
set_option linter.unusedVariables false
set_option linter.unusedSimpArgs false
namespace Go.Proofs.Ytdboofnogabefaa
namespace Av
open Go.RowKit
abbrev BIG : Nat := 9223372036854775807
abbrev SM : Nat := 1048576
def BigVs (l : List Vo) : Prop := l.length ≤ BIG ∧ ∀ v, v ∈ l → v.c.length ≤ BIG
def SmVs (l : List Vo) : Prop := l.length ≤ SM ∧ ∀ v, v ∈ l → v.c.length ≤ SM
theorem SmVs.fit {l : List Vo} (h : SmVs l) : FitVs l := ⟨Nat.le_trans h.1 (by decide), fun v hv => Nat.le_trans (h.2 v hv) (by decide)⟩
theorem SmVs.lt {l : List Vo} (h : SmVs l) : l.length < LIM := Nat.lt_of_le_of_lt h.1 (by decide)
theorem BigVs.get {l : List Vo} {i : Nat} {v : Vo} (h : BigVs l) (hv : l[i]? = some v) : v.c.length ≤ BIG := h.2 v (List.mem_of_getElem? hv)
def R_laws_szItemS (a : (List It) × (Int)) (r : AV) : Prop := ∃ k : Int, r = I k ∧ k ≤ a.2 ∧ (0 ≤ k → a.1.length ≤ SM)
def R_laws_szVote (a : (Vo) × (Int)) (r : AV) : Prop := ∃ k : Int, r = I k ∧ k ≤ a.2 ∧ (0 ≤ k → a.1.c.length ≤ SM)
def R_laws_szVoteS (a : (List Vo) × (Int)) (r : AV) : Prop := ∃ k : Int, r = I k ∧ k ≤ a.2 ∧ (0 ≤ k → SmVs a.1)
theorem inh_sz {p : Prop} {left : Int} (h : 0 ≤ left) : ∃ r : AV, (∃ k : Int, r = I k ∧ k ≤ left ∧ (0 ≤ k → p)) ∧ okV noN r := ⟨I (-1), ⟨-1, rfl, by omega, fun h => by omega⟩, trivial⟩
theorem inh_laws_szItemS : ∀ a : List It × Int, a.1.length ≤ BIG ∧ 0 ≤ a.2 ∧ a.2 ≤ 1048576 → ∃ r, R_laws_szItemS a r ∧ okV noN r := fun a h => inh_sz h.2.1
theorem inh_laws_szVote : ∀ a : Vo × Int, a.1.c.length ≤ BIG ∧ 0 ≤ a.2 ∧ a.2 ≤ 1048576 → ∃ r, R_laws_szVote a r ∧ okV noN r := fun a h => inh_sz h.2.1
theorem inh_laws_szVoteS : ∀ a : List Vo × Int, BigVs a.1 ∧ 0 ≤ a.2 ∧ a.2 ≤ 1048576 → ∃ r, R_laws_szVoteS a r ∧ okV noN r := fun a h => inh_sz h.2.1
theorem sc_laws_szItemS : true = true → ∀ a r, R_laws_szItemS a r → scal r := fun _ a r ⟨k, h, _⟩ => by rw [h]; trivial
theorem sc_laws_szVote : true = true → ∀ a r, R_laws_szVote a r → scal r := fun _ a r ⟨k, h, _⟩ => by rw [h]; trivial
theorem sc_laws_szVoteS : true = true → ∀ a r, R_laws_szVoteS a r → scal r := fun _ a r ⟨k, h, _⟩ => by rw [h]; trivial
noncomputable def S_laws_szItemS : FSpec := mkR (α := (List It) × (Int)) (fun a => [one (chF a.1), I a.2]) (fun a => a.1.length ≤ BIG ∧ 0 ≤ a.2 ∧ a.2 ≤ 1048576) R_laws_szItemS 0 true sc_laws_szItemS inh_laws_szItemS (fun _ => rfl)
noncomputable def S_laws_szVote : FSpec := mkR (α := (Vo) × (Int)) (fun a => [agg (voF a.1), I a.2]) (fun a => a.1.c.length ≤ BIG ∧ 0 ≤ a.2 ∧ a.2 ≤ 1048576) R_laws_szVote 0 true sc_laws_szVote inh_laws_szVote (fun _ => rfl)
noncomputable def S_laws_szVoteS : FSpec := mkR (α := (List Vo) × (Int)) (fun a => [one (vsF a.1), I a.2]) (fun a => BigVs a.1 ∧ 0 ≤ a.2 ∧ a.2 ≤ 1048576) R_laws_szVoteS 0 true sc_laws_szVoteS inh_laws_szVoteS (fun _ => rfl)
noncomputable def S_laws_toPay : FSpec := gF (α := (Pa)) (fun a => [agg (paF a)]) (fun a => True) (fun a => paF a) (fun _ => rfl)
noncomputable def S_laws_toItem : FSpec := gF (α := (It)) (fun a => [agg (itF a)]) (fun a => True) (fun a => itF a) (fun _ => rfl)
noncomputable def S_laws_toItemS : FSpec := oF (α := (List It)) (fun a => [one (chF a)]) (fun a => a.length ≤ LIM) (fun a => chF a) (fun _ => rfl)
noncomputable def S_laws_toVote : FSpec := gF (α := (Vo)) (fun a => [agg (voF a)]) (fun a => FitV a) (fun a => voF a) (fun _ => rfl)
noncomputable def S_laws_toVoteS : FSpec := oF (α := (List Vo)) (fun a => [one (vsF a)]) (fun a => FitVs a) (fun a => vsF a) (fun _ => rfl)
noncomputable def S_laws_eqPay : FSpec := tF (α := (Pa) × (Pa)) (fun a => [agg (paF a.1), agg (paF a.2)]) (fun a => True) (fun a => a.1 = a.2) (fun _ => rfl)
noncomputable def S_laws_eqItem : FSpec := tF (α := (It) × (It)) (fun a => [agg (itF a.1), agg (itF a.2)]) (fun a => True) (fun a => a.1 = a.2) (fun _ => rfl)
noncomputable def S_laws_eqItemS : FSpec := tF (α := (List It) × (List It)) (fun a => [one (chF a.1), one (chF a.2)]) (fun a => a.1.length ≤ LIM ∧ a.2.length ≤ LIM) (fun a => a.1 = a.2) (fun _ => rfl)
noncomputable def S_laws_eqVote : FSpec := tF (α := (Vo) × (Vo)) (fun a => [agg (voF a.1), agg (voF a.2)]) (fun a => FitV a.1 ∧ FitV a.2) (fun a => a.1 = a.2) (fun _ => rfl)
noncomputable def S_laws_eqVoteS : FSpec := tF (α := (List Vo) × (List Vo)) (fun a => [one (vsF a.1), one (vsF a.2)]) (fun a => FitVs a.1 ∧ FitVs a.2) (fun a => a.1 = a.2) (fun _ => rfl)
theorem K_laws_szItemS {a : (List It) × (Int)} {r : AV} (h : S_laws_szItemS.post ([one (chF a.1), I a.2]) r) : R_laws_szItemS a r :=
  mkR_post (a := a) (by rintro ⟨x0, x1⟩ ⟨y0, y1⟩ h; simp only [List.cons.injEq, and_true, true_and, one_inj, agg_inj, paF_inj, itF_inj, chF_inj, voF_inj, vsF_inj, csF_inj, nsF_inj, nssF_inj, ndF_inj, ceF_inj, woF_inj, evF_inj, byF_inj, ndsF_inj, evsF_inj, pasF_inj, aI_inj, aB_inj, aRp_inj, fI_inj, fBo_inj] at h; obtain ⟨rfl, rfl⟩ := h; rfl) h
theorem K_laws_szVote {a : (Vo) × (Int)} {r : AV} (h : S_laws_szVote.post ([agg (voF a.1), I a.2]) r) : R_laws_szVote a r :=
  mkR_post (a := a) (by rintro ⟨x0, x1⟩ ⟨y0, y1⟩ h; simp only [List.cons.injEq, and_true, true_and, one_inj, agg_inj, paF_inj, itF_inj, chF_inj, voF_inj, vsF_inj, csF_inj, nsF_inj, nssF_inj, ndF_inj, ceF_inj, woF_inj, evF_inj, byF_inj, ndsF_inj, evsF_inj, pasF_inj, aI_inj, aB_inj, aRp_inj, fI_inj, fBo_inj] at h; obtain ⟨rfl, rfl⟩ := h; rfl) h
theorem K_laws_szVoteS {a : (List Vo) × (Int)} {r : AV} (h : S_laws_szVoteS.post ([one (vsF a.1), I a.2]) r) : R_laws_szVoteS a r :=
  mkR_post (a := a) (by rintro ⟨x0, x1⟩ ⟨y0, y1⟩ h; simp only [List.cons.injEq, and_true, true_and, one_inj, agg_inj, paF_inj, itF_inj, chF_inj, voF_inj, vsF_inj, csF_inj, nsF_inj, nssF_inj, ndF_inj, ceF_inj, woF_inj, evF_inj, byF_inj, ndsF_inj, evsF_inj, pasF_inj, aI_inj, aB_inj, aRp_inj, fI_inj, fBo_inj] at h; obtain ⟨rfl, rfl⟩ := h; rfl) h
theorem K_laws_toPay {a : (Pa)} {r : AV} (h : S_laws_toPay.post ([agg (paF a)]) r) : r = agg (paF a) :=
  gF_post (hcl := fun _ => rfl) (a := a) (by intro a b h; simpa only [List.cons.injEq, and_true, true_and, one_inj, agg_inj, paF_inj, itF_inj, chF_inj, voF_inj, vsF_inj, csF_inj, nsF_inj, nssF_inj, ndF_inj, ceF_inj, woF_inj, evF_inj, byF_inj, ndsF_inj, evsF_inj, pasF_inj, aI_inj, aB_inj, aRp_inj, fI_inj, fBo_inj] using h) h
theorem K_laws_toItem {a : (It)} {r : AV} (h : S_laws_toItem.post ([agg (itF a)]) r) : r = agg (itF a) :=
  gF_post (hcl := fun _ => rfl) (a := a) (by intro a b h; simpa only [List.cons.injEq, and_true, true_and, one_inj, agg_inj, paF_inj, itF_inj, chF_inj, voF_inj, vsF_inj, csF_inj, nsF_inj, nssF_inj, ndF_inj, ceF_inj, woF_inj, evF_inj, byF_inj, ndsF_inj, evsF_inj, pasF_inj, aI_inj, aB_inj, aRp_inj, fI_inj, fBo_inj] using h) h
theorem K_laws_toItemS {a : (List It)} {r : AV} (h : S_laws_toItemS.post ([one (chF a)]) r) : r = one (chF a) :=
  oF_post (hcl := fun _ => rfl) (a := a) (by intro a b h; simpa only [List.cons.injEq, and_true, true_and, one_inj, agg_inj, paF_inj, itF_inj, chF_inj, voF_inj, vsF_inj, csF_inj, nsF_inj, nssF_inj, ndF_inj, ceF_inj, woF_inj, evF_inj, byF_inj, ndsF_inj, evsF_inj, pasF_inj, aI_inj, aB_inj, aRp_inj, fI_inj, fBo_inj] using h) h
theorem K_laws_toVote {a : (Vo)} {r : AV} (h : S_laws_toVote.post ([agg (voF a)]) r) : r = agg (voF a) :=
  gF_post (hcl := fun _ => rfl) (a := a) (by intro a b h; simpa only [List.cons.injEq, and_true, true_and, one_inj, agg_inj, paF_inj, itF_inj, chF_inj, voF_inj, vsF_inj, csF_inj, nsF_inj, nssF_inj, ndF_inj, ceF_inj, woF_inj, evF_inj, byF_inj, ndsF_inj, evsF_inj, pasF_inj, aI_inj, aB_inj, aRp_inj, fI_inj, fBo_inj] using h) h
theorem K_laws_toVoteS {a : (List Vo)} {r : AV} (h : S_laws_toVoteS.post ([one (vsF a)]) r) : r = one (vsF a) :=
  oF_post (hcl := fun _ => rfl) (a := a) (by intro a b h; simpa only [List.cons.injEq, and_true, true_and, one_inj, agg_inj, paF_inj, itF_inj, chF_inj, voF_inj, vsF_inj, csF_inj, nsF_inj, nssF_inj, ndF_inj, ceF_inj, woF_inj, evF_inj, byF_inj, ndsF_inj, evsF_inj, pasF_inj, aI_inj, aB_inj, aRp_inj, fI_inj, fBo_inj] using h) h
theorem K_laws_eqPay {a : (Pa) × (Pa)} {r : AV} (h : S_laws_eqPay.post ([agg (paF a.1), agg (paF a.2)]) r) : (a.1 = a.2 ∧ r = B true) ∨ (¬ (a.1 = a.2) ∧ r = B false) :=
  tF_post (hcl := fun _ => rfl) (a := a) (by rintro ⟨x0, x1⟩ ⟨y0, y1⟩ h; simp only [List.cons.injEq, and_true, true_and, one_inj, agg_inj, paF_inj, itF_inj, chF_inj, voF_inj, vsF_inj, csF_inj, nsF_inj, nssF_inj, ndF_inj, ceF_inj, woF_inj, evF_inj, byF_inj, ndsF_inj, evsF_inj, pasF_inj, aI_inj, aB_inj, aRp_inj, fI_inj, fBo_inj] at h; obtain ⟨rfl, rfl⟩ := h; rfl) h
theorem K_laws_eqItem {a : (It) × (It)} {r : AV} (h : S_laws_eqItem.post ([agg (itF a.1), agg (itF a.2)]) r) : (a.1 = a.2 ∧ r = B true) ∨ (¬ (a.1 = a.2) ∧ r = B false) :=
  tF_post (hcl := fun _ => rfl) (a := a) (by rintro ⟨x0, x1⟩ ⟨y0, y1⟩ h; simp only [List.cons.injEq, and_true, true_and, one_inj, agg_inj, paF_inj, itF_inj, chF_inj, voF_inj, vsF_inj, csF_inj, nsF_inj, nssF_inj, ndF_inj, ceF_inj, woF_inj, evF_inj, byF_inj, ndsF_inj, evsF_inj, pasF_inj, aI_inj, aB_inj, aRp_inj, fI_inj, fBo_inj] at h; obtain ⟨rfl, rfl⟩ := h; rfl) h
theorem K_laws_eqItemS {a : (List It) × (List It)} {r : AV} (h : S_laws_eqItemS.post ([one (chF a.1), one (chF a.2)]) r) : (a.1 = a.2 ∧ r = B true) ∨ (¬ (a.1 = a.2) ∧ r = B false) :=
  tF_post (hcl := fun _ => rfl) (a := a) (by rintro ⟨x0, x1⟩ ⟨y0, y1⟩ h; simp only [List.cons.injEq, and_true, true_and, one_inj, agg_inj, paF_inj, itF_inj, chF_inj, voF_inj, vsF_inj, csF_inj, nsF_inj, nssF_inj, ndF_inj, ceF_inj, woF_inj, evF_inj, byF_inj, ndsF_inj, evsF_inj, pasF_inj, aI_inj, aB_inj, aRp_inj, fI_inj, fBo_inj] at h; obtain ⟨rfl, rfl⟩ := h; rfl) h
theorem K_laws_eqVote {a : (Vo) × (Vo)} {r : AV} (h : S_laws_eqVote.post ([agg (voF a.1), agg (voF a.2)]) r) : (a.1 = a.2 ∧ r = B true) ∨ (¬ (a.1 = a.2) ∧ r = B false) :=
  tF_post (hcl := fun _ => rfl) (a := a) (by rintro ⟨x0, x1⟩ ⟨y0, y1⟩ h; simp only [List.cons.injEq, and_true, true_and, one_inj, agg_inj, paF_inj, itF_inj, chF_inj, voF_inj, vsF_inj, csF_inj, nsF_inj, nssF_inj, ndF_inj, ceF_inj, woF_inj, evF_inj, byF_inj, ndsF_inj, evsF_inj, pasF_inj, aI_inj, aB_inj, aRp_inj, fI_inj, fBo_inj] at h; obtain ⟨rfl, rfl⟩ := h; rfl) h
theorem K_laws_eqVoteS {a : (List Vo) × (List Vo)} {r : AV} (h : S_laws_eqVoteS.post ([one (vsF a.1), one (vsF a.2)]) r) : (a.1 = a.2 ∧ r = B true) ∨ (¬ (a.1 = a.2) ∧ r = B false) :=
  tF_post (hcl := fun _ => rfl) (a := a) (by rintro ⟨x0, x1⟩ ⟨y0, y1⟩ h; simp only [List.cons.injEq, and_true, true_and, one_inj, agg_inj, paF_inj, itF_inj, chF_inj, voF_inj, vsF_inj, csF_inj, nsF_inj, nssF_inj, ndF_inj, ceF_inj, woF_inj, evF_inj, byF_inj, ndsF_inj, evsF_inj, pasF_inj, aI_inj, aB_inj, aRp_inj, fI_inj, fBo_inj] at h; obtain ⟨rfl, rfl⟩ := h; rfl) h
/-- An array that is filled from its head. -/
def fill {α : Type} (f : α → List AC) (z : List AC) (l : List α) (i : Nat) : List (List AC) := (l.take i).map f ++ List.replicate (l.length - i) z
theorem fill_at {α : Type} {f : α → List AC} {z : List AC} {l : List α} {i : Nat} (h : i < l.length) : (fill f z l i)[i]? = some z := by
  unfold fill
  rw [List.getElem?_append_right (by simp only [List.length_map, List.length_take]; omega)]
  rw [List.getElem?_replicate_of_lt]
  simp only [List.length_map, List.length_take]; omega
theorem fill_set {α : Type} {f : α → List AC} {z : List AC} {l : List α} {i : Nat} {x : α} (h : l[i]? = some x) : (fill f z l i).set i (f x) = fill f z l (i + 1) := by
  have hi : i < l.length := (List.getElem?_eq_some_iff.1 h).1
  unfold fill
  have e : l.length - i = (l.length - (i + 1)) + 1 := by omega
  rw [e, List.replicate_succ, List.set_append_right _ _ (by simp only [List.length_map, List.length_take]; omega)]
  have e2 : i - ((l.take i).map f).length = 0 := by simp only [List.length_map, List.length_take]; omega
  rw [e2, List.set_cons_zero, List.take_add_one, h, List.map_append, List.append_assoc]
  rfl
theorem fill_end {α : Type} {f : α → List AC} {z : List AC} {l : List α} {i : Nat} (h : l.length ≤ i) : fill f z l i = l.map f := by
  unfold fill
  rw [List.take_of_length_le h, Nat.sub_eq_zero_of_le h]; simp
end Av
end Go.Proofs.Ytdboofnogabefaa
