/- The contracts of the program's functions on nodes: what each hands back, in plain words of data. -/
import Derived.Test.YtdboofnogabefaaJ8
set_option linter.unusedVariables false
set_option linter.unusedSimpArgs false
namespace Go.Proofs.Ytdboofnogabefaa
namespace Av
open Go.RowKit
theorem aEp_inj {a b : List FV} : AV.w (.o (.ep a)) = AV.w (.o (.ep b)) ↔ a = b := by simp
theorem etaWo (w : Wo) : (⟨w.ep, w.nodes, w.log, w.bad⟩ : Wo) = w := rfl
theorem etaNd (n : Nd) : (⟨n.id, n.ep, n.vt, n.seen⟩ : Nd) = n := rfl
def lastE (v : Vo) : Int := ((v.c[v.c.length - 1]?).map It.e).getD 0
theorem lastE_at {v : Vo} {x : It} (h : v.c[v.c.length - 1]? = some x) : lastE v = x.e := by unfold lastE; rw [h]; rfl
def NodeOk (n : Nd) : Prop := In n.id 1 4 ∧ In n.ep 0 30 ∧ In n.vt 0 n.ep ∧ n.seen.length ≤ 80 ∧ VotesOk n.seen ∧ ∀ v, v ∈ n.seen → ¬ (v.n = n.id ∧ n.vt < lastE v)
def HitN (n : Nd) (v : Vo) : Prop := v.n = n.id ∧ n.vt < lastE v
theorem votesOk_ne {l : List Vo} (h : VotesOk l) {v : Vo} (hv : v ∈ l) : 0 < v.c.length := by
  obtain ⟨i, hi⟩ := List.mem_iff_getElem?.1 hv
  exact List.length_pos_iff.2 (h i v hi).1.2.1
/-- The question that a list of votes is asked. -/
def fnQ (n : Nd) : AV := .fn (.func n_impl_NodeOk_1) [] [.o (.ep (ndF n))]
theorem fnQ_inj {a b : Nd} (h : fnQ a = fnQ b) : a = b := by rw [ndF_inj.1 (AC.ep.inj (AW.o.inj (List.cons.inj (AV.fn.inj h).2.2).1))]
theorem encQ_inj (a b : List Vo × Nd) (h : [one (vsF a.1), fnQ a.2] = [one (vsF b.1), fnQ b.2]) : a = b := by
  obtain ⟨l, q⟩ := a; obtain ⟨m, p⟩ := b
  have h1 := vsF_inj.1 (one_inj.1 (List.cons.inj h).1)
  have h2 := fnQ_inj (List.cons.inj (List.cons.inj h).2).1
  dsimp only at h1 h2
  rw [h1, h2]
def preQ (l : List Vo) : Prop := ∀ v, v ∈ l → 0 < v.c.length
def R_idx (a : List Vo × Nd) (r : AV) : Prop := ∃ k : Int, r = I k ∧ (0 ≤ k ↔ ∃ v, v ∈ a.1 ∧ HitN a.2 v)
theorem sc_idx : true = true → ∀ a r, R_idx a r → scal r := fun _ a r ⟨k, h, _⟩ => by rw [h]; trivial
theorem inh_idx : ∀ a : List Vo × Nd, FitVs a.1 ∧ preQ a.1 → ∃ r, R_idx a r ∧ okV noN r := fun a _ => by
  by_cases h : ∃ v, v ∈ a.1 ∧ HitN a.2 v
  · exact ⟨I 0, ⟨0, rfl, iff_of_true (by decide) h⟩, trivial⟩
  · exact ⟨I (-1), ⟨-1, rfl, iff_of_false (by decide) h⟩, trivial⟩
noncomputable def S_slices_IndexFunc_VoteS : FSpec := mkR (α := List Vo × Nd) (fun a => [one (vsF a.1), fnQ a.2]) (fun a => FitVs a.1 ∧ preQ a.1) R_idx 0 true sc_idx inh_idx (fun _ => rfl)
theorem K_slices_IndexFunc_VoteS {a : List Vo × Nd} {r : AV} (h : S_slices_IndexFunc_VoteS.post [one (vsF a.1), fnQ a.2] r) : R_idx a r :=
  mkR_post (hsc := sc_idx) (hinh := inh_idx) (a := a) encQ_inj h
noncomputable def S_slices_ContainsFunc_VoteS : FSpec := tF (α := List Vo × Nd) (fun a => [one (vsF a.1), fnQ a.2]) (fun a => FitVs a.1 ∧ preQ a.1) (fun a => ∃ v, v ∈ a.1 ∧ HitN a.2 v) (fun _ => rfl)
theorem K_slices_ContainsFunc_VoteS {a : List Vo × Nd} {r : AV} (h : S_slices_ContainsFunc_VoteS.post [one (vsF a.1), fnQ a.2] r) : ((∃ v, v ∈ a.1 ∧ HitN a.2 v) ∧ r = B true) ∨ (¬ (∃ v, v ∈ a.1 ∧ HitN a.2 v) ∧ r = B false) :=
  tF_post (hcl := fun _ => rfl) (a := a) encQ_inj h
/-! ### what nodes do -/
/-- An epoch's leader. -/
def lead (e : Int) : Int := Int.tmod (e - 1) 4 + 1
def leadV (e : Int) : Int := if 1 ≤ e ∧ e ≤ 30 then lead e else 0
def mayN (n : Nd) : Prop := 0 < n.ep ∧ n.vt ≠ n.ep
def zVo : Vo := ⟨0, []⟩
def zNd : Nd := ⟨0, 0, 0, []⟩
abbrev Tri := Nd × Vo × Bool
def trip (o : Tri) : AV := .tup [.g ((ndF o.1).map AC.c), .g ((voF o.2.1).map AC.c), .o (cB o.2.2)]
def voteN (n : Nd) (c : List It) : Tri := if 80 ≤ n.seen.length then (n, zVo, false) else (⟨n.id, n.ep, n.ep, n.seen ++ [⟨n.id, c⟩]⟩, ⟨n.id, c⟩, true)
/-- Sure, and the tip, as the reference (true) or the program (false) reckons it. -/
noncomputable def SureX (b : Bool) (l : List Vo) (c : List It) : Prop := match b with | true => SureM l c | false => Sure l c
noncomputable def tipX (b : Bool) (l : List Vo) : List It := match b with | true => tipM l | false => tip l
def FitsN (b : Bool) (n : Nd) (v : Vo) : Prop := v.n = lead n.ep ∧ lastE v = n.ep ∧ v.c.length - 1 = (tipX b n.seen).length ∧ SureX b n.seen (v.c.take (v.c.length - 1))
noncomputable def firstN (p : Vo → Prop) (l : List Vo) : Option Vo := l.find? fun v => tb (p v)
theorem firstN_at {p : Vo → Prop} {l : List Vo} {i : Nat} {v : Vo} (hi : l[i]? = some v) (hb : ∀ j u, j < i → l[j]? = some u → ¬ p u) (hp : p v) : firstN p l = some v := by
  unfold firstN
  obtain ⟨hlt, rfl⟩ := List.getElem?_eq_some_iff.1 hi
  rw [List.find?_eq_some_iff_getElem]
  refine ⟨tb_pos hp, i, hlt, rfl, fun j hj => ?_⟩
  rw [tb_neg (hb j _ hj (List.getElem?_eq_getElem (by omega)))]; rfl
theorem firstN_no {p : Vo → Prop} {l : List Vo} (h : ∀ j u, j < l.length → l[j]? = some u → ¬ p u) : firstN p l = none := by
  unfold firstN
  rw [List.find?_eq_none]
  intro v hv
  obtain ⟨i, hi⟩ := List.mem_iff_getElem?.1 hv
  rw [tb_neg (h i v (List.getElem?_eq_some_iff.1 hi).1 hi)]; simp
noncomputable def tryN (b : Bool) (n : Nd) : Tri := if tb (mayN n) = true then (match firstN (FitsN b n) n.seen with | some v => voteN n v.c | none => (n, zVo, false)) else (n, zVo, false)
noncomputable def addV (l : List Vo) (v : Vo) : List Vo := if tb (v ∈ l) = true then l else l ++ [v]
def HearsN (n : Nd) (v : Vo) : Prop := VoteOk v ∧ v.n ≠ n.id ∧ n.seen.length < 80
noncomputable def hearN (b : Bool) (n : Nd) (v : Vo) : Tri := if tb (HearsN n v) = true then tryN b ⟨n.id, n.ep, n.vt, addV n.seen v⟩ else (n, zVo, false)
noncomputable def hearT (n : Nd) (v : Vo) : Tri := if tb (NodeOk n) = true then hearN false n v else (zNd, zVo, false)
theorem trip_ok (o : Tri) : okV noN (trip o) := by
  intro c hc
  simp only [List.mem_cons, List.not_mem_nil, or_false] at hc
  rcases hc with rfl | rfl | rfl
  · intro c hc
    obtain ⟨y, _, rfl⟩ := List.mem_map.1 hc; trivial
  · intro c hc
    obtain ⟨y, _, rfl⟩ := List.mem_map.1 hc; trivial
  · trivial
theorem VotesOk.ok' {l : List Vo} (h : VotesOk l) {v : Vo} (hv : v ∈ l) : VoteOk v := by
  obtain ⟨i, hi⟩ := List.mem_iff_getElem?.1 hv
  exact (h i v hi).1
theorem NodeOk.fit {n : Nd} (h : NodeOk n) : FitVs n.seen := ⟨Nat.le_trans h.2.2.2.1 (by decide), fun v hv => Nat.le_trans (h.2.2.2.2.1.ok' hv).2.2.2 (by decide)⟩
def R_spec_NodeHear (a : (Nd) × (Vo)) (r : AV) : Prop := r = trip (hearT a.1 a.2)
theorem inh_spec_NodeHear : ∀ a : Nd × Vo, FitVs a.1.seen ∧ FitV a.2 → ∃ r, R_spec_NodeHear a r ∧ okV noN r := fun a _ => ⟨_, rfl, trip_ok _⟩
noncomputable def S_impl_Vote_last : FSpec := iF (α := (Vo)) (fun a => [agg (voF a)]) (fun a => FitV a ∧ 0 < a.c.length) (fun a => lastE a) (fun _ => rfl)
noncomputable def S_impl_NodeOk_1 : FSpec := tF (α := (Vo) × (Nd)) (fun a => [agg (voF a.1), .w (.o (.ep (ndF a.2)))]) (fun a => FitV a.1 ∧ 0 < a.1.c.length) (fun a => HitN a.2 a.1) (fun _ => rfl)
noncomputable def S_impl_NodeOk : FSpec := tF (α := (Nd)) (fun a => [agg (ndF a)]) (fun a => FitVs a.seen) (fun a => NodeOk a) (fun _ => rfl)
noncomputable def S_spec_NodeOk : FSpec := tF (α := (Nd)) (fun a => [agg (ndF a)]) (fun a => FitVs a.seen) (fun a => NodeOk a) (fun _ => rfl)
noncomputable def S_impl_VoteLeader : FSpec := iF (α := (Int)) (fun a => [I a]) (fun a => In a 0 100) (fun a => leadV a) (fun _ => rfl)
noncomputable def S_spec_l3Leader : FSpec := iF (α := (Int)) (fun a => [I a]) (fun a => In a 0 100) (fun a => lead a) (fun _ => rfl)
noncomputable def S_impl_Node_may : FSpec := tF (α := (Nd)) (fun a => [agg (ndF a)]) (fun a => True) (fun a => mayN a) (fun _ => rfl)
noncomputable def S_spec_NodeHear : FSpec := mkR (α := (Nd) × (Vo)) (fun a => [agg (ndF a.1), agg (voF a.2)]) (fun a => FitVs a.1.seen ∧ FitV a.2) R_spec_NodeHear 0 false (fun h => by cases h) inh_spec_NodeHear (fun _ => rfl)
theorem K_impl_Vote_last {a : (Vo)} {r : AV} (h : S_impl_Vote_last.post ([agg (voF a)]) r) : r = I (lastE a) :=
  iF_post (hcl := fun _ => rfl) (a := a) (by intro a b h; simpa only [List.cons.injEq, and_true, true_and, one_inj, agg_inj, paF_inj, itF_inj, chF_inj, voF_inj, vsF_inj, csF_inj, nsF_inj, nssF_inj, ndF_inj, ceF_inj, woF_inj, evF_inj, byF_inj, ndsF_inj, evsF_inj, pasF_inj, aI_inj, aB_inj, aRp_inj, fI_inj, fBo_inj] using h) h
theorem K_impl_NodeOk_1 {a : (Vo) × (Nd)} {r : AV} (h : S_impl_NodeOk_1.post ([agg (voF a.1), .w (.o (.ep (ndF a.2)))]) r) : (HitN a.2 a.1 ∧ r = B true) ∨ (¬ (HitN a.2 a.1) ∧ r = B false) :=
  tF_post (hcl := fun _ => rfl) (a := a) (by rintro ⟨x0, x1⟩ ⟨y0, y1⟩ h; simp only [aEp_inj, List.cons.injEq, and_true, true_and, one_inj, agg_inj, paF_inj, itF_inj, chF_inj, voF_inj, vsF_inj, csF_inj, nsF_inj, nssF_inj, ndF_inj, ceF_inj, woF_inj, evF_inj, byF_inj, ndsF_inj, evsF_inj, pasF_inj, aI_inj, aB_inj, aRp_inj, fI_inj, fBo_inj] at h; obtain ⟨rfl, rfl⟩ := h; rfl) h
theorem K_impl_NodeOk {a : (Nd)} {r : AV} (h : S_impl_NodeOk.post ([agg (ndF a)]) r) : (NodeOk a ∧ r = B true) ∨ (¬ (NodeOk a) ∧ r = B false) :=
  tF_post (hcl := fun _ => rfl) (a := a) (by intro a b h; simpa only [List.cons.injEq, and_true, true_and, one_inj, agg_inj, paF_inj, itF_inj, chF_inj, voF_inj, vsF_inj, csF_inj, nsF_inj, nssF_inj, ndF_inj, ceF_inj, woF_inj, evF_inj, byF_inj, ndsF_inj, evsF_inj, pasF_inj, aI_inj, aB_inj, aRp_inj, fI_inj, fBo_inj] using h) h
theorem K_spec_NodeOk {a : (Nd)} {r : AV} (h : S_spec_NodeOk.post ([agg (ndF a)]) r) : (NodeOk a ∧ r = B true) ∨ (¬ (NodeOk a) ∧ r = B false) :=
  tF_post (hcl := fun _ => rfl) (a := a) (by intro a b h; simpa only [List.cons.injEq, and_true, true_and, one_inj, agg_inj, paF_inj, itF_inj, chF_inj, voF_inj, vsF_inj, csF_inj, nsF_inj, nssF_inj, ndF_inj, ceF_inj, woF_inj, evF_inj, byF_inj, ndsF_inj, evsF_inj, pasF_inj, aI_inj, aB_inj, aRp_inj, fI_inj, fBo_inj] using h) h
theorem K_impl_VoteLeader {a : (Int)} {r : AV} (h : S_impl_VoteLeader.post ([I a]) r) : r = I (leadV a) :=
  iF_post (hcl := fun _ => rfl) (a := a) (by intro a b h; simpa only [List.cons.injEq, and_true, true_and, one_inj, agg_inj, paF_inj, itF_inj, chF_inj, voF_inj, vsF_inj, csF_inj, nsF_inj, nssF_inj, ndF_inj, ceF_inj, woF_inj, evF_inj, byF_inj, ndsF_inj, evsF_inj, pasF_inj, aI_inj, aB_inj, aRp_inj, fI_inj, fBo_inj] using h) h
theorem K_spec_l3Leader {a : (Int)} {r : AV} (h : S_spec_l3Leader.post ([I a]) r) : r = I (lead a) :=
  iF_post (hcl := fun _ => rfl) (a := a) (by intro a b h; simpa only [List.cons.injEq, and_true, true_and, one_inj, agg_inj, paF_inj, itF_inj, chF_inj, voF_inj, vsF_inj, csF_inj, nsF_inj, nssF_inj, ndF_inj, ceF_inj, woF_inj, evF_inj, byF_inj, ndsF_inj, evsF_inj, pasF_inj, aI_inj, aB_inj, aRp_inj, fI_inj, fBo_inj] using h) h
theorem K_impl_Node_may {a : (Nd)} {r : AV} (h : S_impl_Node_may.post ([agg (ndF a)]) r) : (mayN a ∧ r = B true) ∨ (¬ (mayN a) ∧ r = B false) :=
  tF_post (hcl := fun _ => rfl) (a := a) (by intro a b h; simpa only [List.cons.injEq, and_true, true_and, one_inj, agg_inj, paF_inj, itF_inj, chF_inj, voF_inj, vsF_inj, csF_inj, nsF_inj, nssF_inj, ndF_inj, ceF_inj, woF_inj, evF_inj, byF_inj, ndsF_inj, evsF_inj, pasF_inj, aI_inj, aB_inj, aRp_inj, fI_inj, fBo_inj] using h) h
theorem K_spec_NodeHear {a : (Nd) × (Vo)} {r : AV} (h : S_spec_NodeHear.post ([agg (ndF a.1), agg (voF a.2)]) r) : R_spec_NodeHear a r :=
  mkR_post (a := a) (by rintro ⟨x0, x1⟩ ⟨y0, y1⟩ h; simp only [List.cons.injEq, and_true, true_and, one_inj, agg_inj, paF_inj, itF_inj, chF_inj, voF_inj, vsF_inj, csF_inj, nsF_inj, nssF_inj, ndF_inj, ceF_inj, woF_inj, evF_inj, byF_inj, ndsF_inj, evsF_inj, pasF_inj, aI_inj, aB_inj, aRp_inj, fI_inj, fBo_inj] at h; obtain ⟨rfl, rfl⟩ := h; rfl) h
end Av
end Go.Proofs.Ytdboofnogabefaa
