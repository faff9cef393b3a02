/- The contracts of the program's functions on nodes: what each hands back, in plain words of data. -/
import Derived.Test.YtlbdoamidblkaaaJ7
set_option linter.unusedVariables false
set_option linter.unusedSimpArgs false
namespace Go.Proofs.Ytlbdoamidblkaaa
namespace Av
open Go.RowKit
theorem etaWo (w : Wo) : (⟨w.ep, w.nodes, w.log, w.bad⟩ : Wo) = w := rfl
theorem etaNd (n : Nd) : (⟨n.id, n.ep, n.vt, n.seen⟩ : Nd) = n := rfl
def lastE (v : Vo) : Int := ((v.c[v.c.length - 1]?).map It.e).getD 0
theorem lastE_at {v : Vo} {x : It} (h : v.c[v.c.length - 1]? = some x) : lastE v = x.e := by unfold lastE; rw [h]; rfl
def NodeOk (n : Nd) : Prop := In n.id 1 4 ∧ In n.ep 0 30 ∧ In n.vt 0 n.ep ∧ n.seen.length ≤ 80 ∧ VotesOk n.seen ∧ ∀ v, v ∈ n.seen → ¬ (v.n = n.id ∧ n.vt < lastE v)
/-! ### what nodes do -/
/-- An epoch's leader. -/
def lead (e : Int) : Int := Int.tmod (e - 1) 4 + 1
def leadV (e : Int) : Int := if 1 ≤ e ∧ e ≤ 30 then lead e else 0
def mayN (n : Nd) : Prop := 0 < n.ep ∧ n.vt ≠ n.ep
def zVo : Vo := ⟨0, []⟩
def entN (n : Nd) (e : Int) : Nd := if n.ep + 1 ≤ e ∧ e ≤ 30 then ⟨n.id, e, n.vt, n.seen⟩ else n
abbrev Tri := Nd × Vo × Bool
def trip (o : Tri) : AV := .tup [.g ((ndF o.1).map AC.c), .g ((voF o.2.1).map AC.c), .o (cB o.2.2)]
def voteN (n : Nd) (c : List It) : Tri := if 80 ≤ n.seen.length then (n, zVo, false) else (⟨n.id, n.ep, n.ep, n.seen ++ [⟨n.id, c⟩]⟩, ⟨n.id, c⟩, true)
/-- Sure, and the tip, as the reference (true) or the program (false) reckons it. -/
noncomputable def SureX (b : Bool) (l : List Vo) (c : List It) : Prop := match b with | true => SureM l c | false => Sure l c
noncomputable def tipX (b : Bool) (l : List Vo) : List It := match b with | true => tipM l | false => tip l
def FitsN (b : Bool) (n : Nd) (v : Vo) : Prop := v.n = lead n.ep ∧ lastE v = n.ep ∧ v.c.length - 1 = (tipX b n.seen).length ∧ SureX b n.seen (v.c.take (v.c.length - 1))
noncomputable def firstN (p : Vo → Prop) (l : List Vo) : Option Vo := l.find? fun v => tb (p v)
theorem firstN_at {p : Vo → Prop} {l : List Vo} {i : Nat} {v : Vo} (hi : l[i]? = some v) (hb : ∀ j u, j < i → l[j]? = some u → ¬ p u) (hp : p v) : firstN p l = some v := by
  unfold firstN
  obtain ⟨hlt, rfl⟩ := List.getElem?_eq_some_iff.1 hi
  rw [List.find?_eq_some_iff_getElem]
  refine ⟨tb_pos hp, i, hlt, rfl, fun j hj => ?_⟩
  rw [tb_neg (hb j _ hj (List.getElem?_eq_getElem (by omega)))]; rfl
theorem firstN_no {p : Vo → Prop} {l : List Vo} (h : ∀ j u, j < l.length → l[j]? = some u → ¬ p u) : firstN p l = none := by
  unfold firstN
  rw [List.find?_eq_none]
  intro v hv
  obtain ⟨i, hi⟩ := List.mem_iff_getElem?.1 hv
  rw [tb_neg (h i v (List.getElem?_eq_some_iff.1 hi).1 hi)]; simp
noncomputable def tryN (b : Bool) (n : Nd) : Tri := if tb (mayN n) = true then (match firstN (FitsN b n) n.seen with | some v => voteN n v.c | none => (n, zVo, false)) else (n, zVo, false)
noncomputable def addV (l : List Vo) (v : Vo) : List Vo := if tb (v ∈ l) = true then l else l ++ [v]
def HearsN (n : Nd) (v : Vo) : Prop := VoteOk v ∧ v.n ≠ n.id ∧ n.seen.length < 80
noncomputable def hearN (b : Bool) (n : Nd) (v : Vo) : Tri := if tb (HearsN n v) = true then tryN b ⟨n.id, n.ep, n.vt, addV n.seen v⟩ else (n, zVo, false)
noncomputable def propN (b : Bool) (n : Nd) (p : Pa) : Tri := if tb (mayN n ∧ lead n.ep = n.id ∧ ChainOk (tipX b n.seen ++ [⟨n.ep, p⟩])) = true then voteN n (tipX b n.seen ++ [⟨n.ep, p⟩]) else (n, zVo, false)
theorem trip_ok (o : Tri) : okV noN (trip o) := by
  intro c hc
  simp only [List.mem_cons, List.not_mem_nil, or_false] at hc
  rcases hc with rfl | rfl | rfl
  · intro c hc
    obtain ⟨y, _, rfl⟩ := List.mem_map.1 hc; trivial
  · intro c hc
    obtain ⟨y, _, rfl⟩ := List.mem_map.1 hc; trivial
  · trivial
theorem VotesOk.ok' {l : List Vo} (h : VotesOk l) {v : Vo} (hv : v ∈ l) : VoteOk v := by
  obtain ⟨i, hi⟩ := List.mem_iff_getElem?.1 hv
  exact (h i v hi).1
theorem NodeOk.fit {n : Nd} (h : NodeOk n) : FitVs n.seen := ⟨Nat.le_trans h.2.2.2.1 (by decide), fun v hv => Nat.le_trans (h.2.2.2.2.1.ok' hv).2.2.2 (by decide)⟩
def R_impl_Node_vote (a : (Nd) × (List It)) (r : AV) : Prop := r = trip (voteN a.1 a.2)
def R_impl_Node_hear (a : (Nd) × (Vo)) (r : AV) : Prop := r = trip (hearN false a.1 a.2)
def R_impl_Node_propose (a : (Nd) × (Pa)) (r : AV) : Prop := r = trip (propN false a.1 a.2)
theorem inh_impl_Node_vote : ∀ a : Nd × List It, FitVs a.1.seen ∧ a.2.length ≤ LIM → ∃ r, R_impl_Node_vote a r ∧ okV noN r := fun a _ => ⟨_, rfl, trip_ok _⟩
theorem inh_impl_Node_hear : ∀ a : Nd × Vo, NodeOk a.1 ∧ FitV a.2 → ∃ r, R_impl_Node_hear a r ∧ okV noN r := fun a _ => ⟨_, rfl, trip_ok _⟩
theorem inh_impl_Node_propose : ∀ a : Nd × Pa, NodeOk a.1 → ∃ r, R_impl_Node_propose a r ∧ okV noN r := fun a _ => ⟨_, rfl, trip_ok _⟩
noncomputable def S_impl_Vote_last : FSpec := iF (α := (Vo)) (fun a => [agg (voF a)]) (fun a => FitV a ∧ 0 < a.c.length) (fun a => lastE a) (fun _ => rfl)
noncomputable def S_impl_VoteLeader : FSpec := iF (α := (Int)) (fun a => [I a]) (fun a => In a 0 100) (fun a => leadV a) (fun _ => rfl)
noncomputable def S_spec_l3Leader : FSpec := iF (α := (Int)) (fun a => [I a]) (fun a => In a 0 100) (fun a => lead a) (fun _ => rfl)
noncomputable def S_impl_Node_may : FSpec := tF (α := (Nd)) (fun a => [agg (ndF a)]) (fun a => True) (fun a => mayN a) (fun _ => rfl)
noncomputable def S_impl_Node_copied : FSpec := gF (α := (Nd)) (fun a => [agg (ndF a)]) (fun a => FitVs a.seen) (fun a => ndF a) (fun _ => rfl)
noncomputable def S_impl_Node_enter : FSpec := gF (α := (Nd) × (Int)) (fun a => [agg (ndF a.1), I a.2]) (fun a => In a.1.ep 0 30) (fun a => ndF (entN a.1 a.2)) (fun _ => rfl)
noncomputable def S_impl_Node_vote : FSpec := mkR (α := (Nd) × (List It)) (fun a => [agg (ndF a.1), one (chF a.2)]) (fun a => FitVs a.1.seen ∧ a.2.length ≤ LIM) R_impl_Node_vote 0 false (fun h => by cases h) inh_impl_Node_vote (fun _ => rfl)
noncomputable def S_impl_Node_hear : FSpec := mkR (α := (Nd) × (Vo)) (fun a => [agg (ndF a.1), agg (voF a.2)]) (fun a => NodeOk a.1 ∧ FitV a.2) R_impl_Node_hear 0 false (fun h => by cases h) inh_impl_Node_hear (fun _ => rfl)
noncomputable def S_impl_Node_propose : FSpec := mkR (α := (Nd) × (Pa)) (fun a => [agg (ndF a.1), agg (paF a.2)]) (fun a => NodeOk a.1) R_impl_Node_propose 0 false (fun h => by cases h) inh_impl_Node_propose (fun _ => rfl)
noncomputable def S_laws_lwNode : FSpec := tF (α := (Nd) × (Nd)) (fun a => [agg (ndF a.1), agg (ndF a.2)]) (fun a => FitVs a.1.seen ∧ FitVs a.2.seen) (fun a => a.1 = a.2) (fun _ => rfl)
theorem K_impl_Vote_last {a : (Vo)} {r : AV} (h : S_impl_Vote_last.post ([agg (voF a)]) r) : r = I (lastE a) :=
  iF_post (hcl := fun _ => rfl) (a := a) (by intro a b h; simpa only [List.cons.injEq, and_true, true_and, one_inj, agg_inj, paF_inj, itF_inj, chF_inj, voF_inj, vsF_inj, csF_inj, nsF_inj, nssF_inj, ndF_inj, ceF_inj, woF_inj, evF_inj, byF_inj, ndsF_inj, evsF_inj, pasF_inj, aI_inj, aB_inj, aRp_inj, fI_inj, fBo_inj] using h) h
theorem K_impl_VoteLeader {a : (Int)} {r : AV} (h : S_impl_VoteLeader.post ([I a]) r) : r = I (leadV a) :=
  iF_post (hcl := fun _ => rfl) (a := a) (by intro a b h; simpa only [List.cons.injEq, and_true, true_and, one_inj, agg_inj, paF_inj, itF_inj, chF_inj, voF_inj, vsF_inj, csF_inj, nsF_inj, nssF_inj, ndF_inj, ceF_inj, woF_inj, evF_inj, byF_inj, ndsF_inj, evsF_inj, pasF_inj, aI_inj, aB_inj, aRp_inj, fI_inj, fBo_inj] using h) h
theorem K_spec_l3Leader {a : (Int)} {r : AV} (h : S_spec_l3Leader.post ([I a]) r) : r = I (lead a) :=
  iF_post (hcl := fun _ => rfl) (a := a) (by intro a b h; simpa only [List.cons.injEq, and_true, true_and, one_inj, agg_inj, paF_inj, itF_inj, chF_inj, voF_inj, vsF_inj, csF_inj, nsF_inj, nssF_inj, ndF_inj, ceF_inj, woF_inj, evF_inj, byF_inj, ndsF_inj, evsF_inj, pasF_inj, aI_inj, aB_inj, aRp_inj, fI_inj, fBo_inj] using h) h
theorem K_impl_Node_may {a : (Nd)} {r : AV} (h : S_impl_Node_may.post ([agg (ndF a)]) r) : (mayN a ∧ r = B true) ∨ (¬ (mayN a) ∧ r = B false) :=
  tF_post (hcl := fun _ => rfl) (a := a) (by intro a b h; simpa only [List.cons.injEq, and_true, true_and, one_inj, agg_inj, paF_inj, itF_inj, chF_inj, voF_inj, vsF_inj, csF_inj, nsF_inj, nssF_inj, ndF_inj, ceF_inj, woF_inj, evF_inj, byF_inj, ndsF_inj, evsF_inj, pasF_inj, aI_inj, aB_inj, aRp_inj, fI_inj, fBo_inj] using h) h
theorem K_impl_Node_copied {a : (Nd)} {r : AV} (h : S_impl_Node_copied.post ([agg (ndF a)]) r) : r = agg (ndF a) :=
  gF_post (hcl := fun _ => rfl) (a := a) (by intro a b h; simpa only [List.cons.injEq, and_true, true_and, one_inj, agg_inj, paF_inj, itF_inj, chF_inj, voF_inj, vsF_inj, csF_inj, nsF_inj, nssF_inj, ndF_inj, ceF_inj, woF_inj, evF_inj, byF_inj, ndsF_inj, evsF_inj, pasF_inj, aI_inj, aB_inj, aRp_inj, fI_inj, fBo_inj] using h) h
theorem K_impl_Node_enter {a : (Nd) × (Int)} {r : AV} (h : S_impl_Node_enter.post ([agg (ndF a.1), I a.2]) r) : r = agg (ndF (entN a.1 a.2)) :=
  gF_post (hcl := fun _ => rfl) (a := a) (by rintro ⟨x0, x1⟩ ⟨y0, y1⟩ h; simp only [List.cons.injEq, and_true, true_and, one_inj, agg_inj, paF_inj, itF_inj, chF_inj, voF_inj, vsF_inj, csF_inj, nsF_inj, nssF_inj, ndF_inj, ceF_inj, woF_inj, evF_inj, byF_inj, ndsF_inj, evsF_inj, pasF_inj, aI_inj, aB_inj, aRp_inj, fI_inj, fBo_inj] at h; obtain ⟨rfl, rfl⟩ := h; rfl) h
theorem K_impl_Node_vote {a : (Nd) × (List It)} {r : AV} (h : S_impl_Node_vote.post ([agg (ndF a.1), one (chF a.2)]) r) : R_impl_Node_vote a r :=
  mkR_post (a := a) (by rintro ⟨x0, x1⟩ ⟨y0, y1⟩ h; simp only [List.cons.injEq, and_true, true_and, one_inj, agg_inj, paF_inj, itF_inj, chF_inj, voF_inj, vsF_inj, csF_inj, nsF_inj, nssF_inj, ndF_inj, ceF_inj, woF_inj, evF_inj, byF_inj, ndsF_inj, evsF_inj, pasF_inj, aI_inj, aB_inj, aRp_inj, fI_inj, fBo_inj] at h; obtain ⟨rfl, rfl⟩ := h; rfl) h
theorem K_impl_Node_hear {a : (Nd) × (Vo)} {r : AV} (h : S_impl_Node_hear.post ([agg (ndF a.1), agg (voF a.2)]) r) : R_impl_Node_hear a r :=
  mkR_post (a := a) (by rintro ⟨x0, x1⟩ ⟨y0, y1⟩ h; simp only [List.cons.injEq, and_true, true_and, one_inj, agg_inj, paF_inj, itF_inj, chF_inj, voF_inj, vsF_inj, csF_inj, nsF_inj, nssF_inj, ndF_inj, ceF_inj, woF_inj, evF_inj, byF_inj, ndsF_inj, evsF_inj, pasF_inj, aI_inj, aB_inj, aRp_inj, fI_inj, fBo_inj] at h; obtain ⟨rfl, rfl⟩ := h; rfl) h
theorem K_impl_Node_propose {a : (Nd) × (Pa)} {r : AV} (h : S_impl_Node_propose.post ([agg (ndF a.1), agg (paF a.2)]) r) : R_impl_Node_propose a r :=
  mkR_post (a := a) (by rintro ⟨x0, x1⟩ ⟨y0, y1⟩ h; simp only [List.cons.injEq, and_true, true_and, one_inj, agg_inj, paF_inj, itF_inj, chF_inj, voF_inj, vsF_inj, csF_inj, nsF_inj, nssF_inj, ndF_inj, ceF_inj, woF_inj, evF_inj, byF_inj, ndsF_inj, evsF_inj, pasF_inj, aI_inj, aB_inj, aRp_inj, fI_inj, fBo_inj] at h; obtain ⟨rfl, rfl⟩ := h; rfl) h
theorem K_laws_lwNode {a : (Nd) × (Nd)} {r : AV} (h : S_laws_lwNode.post ([agg (ndF a.1), agg (ndF a.2)]) r) : (a.1 = a.2 ∧ r = B true) ∨ (¬ (a.1 = a.2) ∧ r = B false) :=
  tF_post (hcl := fun _ => rfl) (a := a) (by rintro ⟨x0, x1⟩ ⟨y0, y1⟩ h; simp only [List.cons.injEq, and_true, true_and, one_inj, agg_inj, paF_inj, itF_inj, chF_inj, voF_inj, vsF_inj, csF_inj, nsF_inj, nssF_inj, ndF_inj, ceF_inj, woF_inj, evF_inj, byF_inj, ndsF_inj, evsF_inj, pasF_inj, aI_inj, aB_inj, aRp_inj, fI_inj, fBo_inj] at h; obtain ⟨rfl, rfl⟩ := h; rfl) h
end Av
end Go.Proofs.Ytlbdoamidblkaaa
