/- Contracts: nodes whose votes are their own. -/
import Derived.Test.YtdboofnogabefaaKA
import Derived.Test.YtdboofnogabefaaZA
set_option linter.unusedVariables false
set_option linter.unusedSimpArgs false
namespace Go.Proofs.Ytdboofnogabefaa
namespace Av
open Go.RowKit
def ndO (n : Nd) (k : Nat) : List AC := [cI n.id, cI n.ep, cI n.vt, .ow k]
def ndOF (n : Nd) (k : Nat) : AV := .w (.g (ndO n k))
theorem ndOF_ren {n : Nd} (ρ : Nat → Nat) : (ndOF n 0).ren ρ = ndOF n (ρ 0) := rfl
theorem ndOF_ok {n : Nd} {m : Nat} (h : 0 < m) : okV (· < m) (ndOF n 0) := fun c hc => by
  simp only [ndO, List.mem_cons, List.not_mem_nil, or_false] at hc
  rcases hc with rfl | rfl | rfl | rfl
  · trivial
  · trivial
  · trivial
  · exact h
theorem bor_nd {H : Hp} {b k : Nat} {f : Nat → Nat} {n : Nd} (h : nV.At H b k f n.seen) : borV H [none, none, none, some 2] (ndOF n k) = agg (ndF n) := by
  show AV.w (.g [cI n.id, cI n.ep, cI n.vt, bor H (some 2) (.ow k)]) = _
  rw [h.bor]; rfl
noncomputable def S_ndO {α : Type} (enc : α → List AV) (p : α → Prop) (g : α → Nd) (hg : ∀ a, p a → (g a).seen.length ≤ SM) : MSpec := mkNS (α := α) NB enc p (fun a r obs' => (g a).seen.length ≤ SM ∧ r = ndOF (g a) 0 ∧ obs' = nV.obs (g a).seen) 0
  (fun a h => ⟨_, _, ⟨hg a h, rfl, rfl⟩, ndOF_ok (by rw [Nest.obs_len]; omega), Nest.obs_ok⟩)
  (fun a r obs' h => by
    obtain ⟨h, _, rfl⟩ := h
    rw [Nest.obs_len, NB_eq]; simp only [SM] at h; omega)
theorem K_ndO {α : Type} {enc : α → List AV} {p : α → Prop} {g : α → Nd} {hg : ∀ a, p a → (g a).seen.length ≤ SM} (hinj : ∀ a b, enc a = enc b → a = b) {a : α} {r : AV} {obs' : List (Option Ob)} (h : (S_ndO enc p g hg).post (enc a) [] r obs') : r = ndOF (g a) 0 ∧ obs' = nV.obs (g a).seen :=
  (mkNS_post (enc := enc) (a := a) hinj h).2
theorem ndEnc_inj (a b : Nd) (h : [agg (ndF a)] = [agg (ndF b)]) : a = b := by simpa only [List.cons.injEq, and_true, agg_inj, ndF_inj] using h
noncomputable def S_laws_toNode_o : MSpec := S_ndO (α := Nd) (fun n => [agg (ndF n)]) (fun n => SmVs n.seen) (fun n => n) (fun n h => h.1)
theorem K_laws_toNode_o {n : Nd} {r : AV} {obs' : List (Option Ob)} (h : S_laws_toNode_o.post [agg (ndF n)] [] r obs') : r = ndOF n 0 ∧ obs' = nV.obs n.seen := K_ndO (enc := fun n => [agg (ndF n)]) (g := fun n => n) ndEnc_inj h
noncomputable def S_impl_Node_copied_o : MSpec := S_ndO (α := Nd) (fun n => [agg (ndF n)]) (fun n => FitVs n.seen ∧ n.seen.length ≤ SM) (fun n => n) (fun n h => h.2)
theorem K_impl_Node_copied_o {n : Nd} {r : AV} {obs' : List (Option Ob)} (h : S_impl_Node_copied_o.post [agg (ndF n)] [] r obs') : r = ndOF n 0 ∧ obs' = nV.obs n.seen := K_ndO (enc := fun n => [agg (ndF n)]) (g := fun n => n) ndEnc_inj h
theorem ndi_inj {a b : Nd × Int} (h : [ndOF a.1 0, I a.2] = [ndOF b.1 0, I b.2]) (h' : nV.In a.1.seen = nV.In b.1.seen) : a = b := by
  obtain ⟨⟨x1, x2, x3, x4⟩, y⟩ := a; obtain ⟨⟨z1, z2, z3, z4⟩, w⟩ := b
  have e1 : x4 = z4 := Nest.In_inj h'
  have e2 := aI_inj.1 (List.cons.inj (List.cons.inj h).2).1
  have e3 := (List.cons.inj h).1
  simp only [ndOF, ndO, AV.w.injEq, AW.g.injEq, List.cons.injEq, AC.c.injEq, FV.v.injEq, Value.int.injEq, and_true, true_and] at e3
  dsimp only at e2
  rw [e1, e2, e3.1, e3.2.1, e3.2.2]
noncomputable def S_laws_markNode_o : MSpec := mkM (α := Nd × Int) (fun a => [ndOF a.1 0, I a.2]) (fun a => nV.In a.1.seen) (fun a => SmVs2 a.1.seen ∧ 0 ≤ a.2 ∧ a.2 ≤ 1099511627776) (fun a r obs' => r = I (endV a.1.seen a.2) ∧ obs' = nV.obs (mkVs a.1.seen a.2)) 0
  (fun a _ => ⟨_, _, ⟨rfl, rfl⟩, trivial, Nest.obs_ok⟩)
  (fun a r obs' ⟨_, h⟩ => by rw [h, Nest.obs_len, mkVs_len, Nest.In_len]; omega)
theorem K_laws_markNode_o {n : Nd} {k : Int} {r : AV} {obs' : List (Option Ob)} (h : S_laws_markNode_o.post [ndOF n 0, I k] (nV.In n.seen) r obs') : r = I (endV n.seen k) ∧ obs' = nV.obs (mkVs n.seen k) :=
  mkM_post (enc := fun a : Nd × Int => [ndOF a.1 0, I a.2]) (ob := fun a => nV.In a.1.seen) (R := fun a r obs' => r = I (endV a.1.seen a.2) ∧ obs' = nV.obs (mkVs a.1.seen a.2)) (a := (n, k)) (fun _ _ => ndi_inj) h
/-- The node, with the marks on its votes. -/
def mkN' (n : Nd) (k : Int) : Nd := ⟨n.id, n.ep, n.vt, mkVs n.seen k⟩
noncomputable def S_laws_heldNode : FSpec := iF (α := Nd × Int) (fun a => [agg (ndF (mkN' a.1 a.2)), I a.2]) (fun a => SmVs2 a.1.seen ∧ 0 ≤ a.2 ∧ a.2 ≤ 1099511627776) (fun a => endV a.1.seen a.2) (fun _ => rfl)
theorem K_laws_heldNode {n : Nd} {k : Int} {r : AV} (h : S_laws_heldNode.post [agg (ndF (mkN' n k)), I k] r) : r = I (endV n.seen k) := by
  obtain ⟨⟨m, j⟩, h1, h2⟩ := h
  have e1 := ndF_inj.1 (agg_inj.1 (List.cons.inj h1).1)
  have e2 := aI_inj.1 (List.cons.inj (List.cons.inj h1).2).1
  dsimp only at e1 e2 h2
  subst e2
  have e1 := (Nd.mk.inj e1).2.2.2
  have e3 : lnv n.seen = lnv m.seen := by rw [← lnv_mk n.seen k, e1, lnv_mk]
  rw [h2, endV_lnv n.seen m.seen k e3]
def R_laws_szNode (a : (Nd) × (Int)) (r : AV) : Prop := ∃ k : Int, r = I k ∧ k ≤ a.2 ∧ (0 ≤ k → SmVs a.1.seen)
theorem sc_laws_szNode : true = true → ∀ a r, R_laws_szNode a r → scal r := fun _ a r ⟨k, h, _⟩ => by rw [h]; trivial
theorem inh_laws_szNode : ∀ a : Nd × Int, BigVs a.1.seen ∧ 0 ≤ a.2 ∧ a.2 ≤ 1048576 → ∃ r, R_laws_szNode a r ∧ okV noN r := fun a h => ⟨I (-1), ⟨-1, rfl, by omega, fun h => by omega⟩, trivial⟩
noncomputable def S_laws_szNode : FSpec := mkR (α := (Nd) × (Int)) (fun a => [agg (ndF a.1), I a.2]) (fun a => BigVs a.1.seen ∧ 0 ≤ a.2 ∧ a.2 ≤ 1048576) R_laws_szNode 0 true sc_laws_szNode inh_laws_szNode (fun _ => rfl)
noncomputable def S_laws_toNode : FSpec := gF (α := (Nd)) (fun a => [agg (ndF a)]) (fun a => FitVs a.seen) (fun a => ndF a) (fun _ => rfl)
noncomputable def S_laws_eqNode : FSpec := tF (α := (Nd) × (Nd)) (fun a => [agg (ndF a.1), agg (ndF a.2)]) (fun a => FitVs a.1.seen ∧ FitVs a.2.seen) (fun a => a.1 = a.2) (fun _ => rfl)
theorem K_laws_szNode {a : (Nd) × (Int)} {r : AV} (h : S_laws_szNode.post ([agg (ndF a.1), I a.2]) r) : R_laws_szNode a r :=
  mkR_post (a := a) (by rintro ⟨x0, x1⟩ ⟨y0, y1⟩ h; simp only [List.cons.injEq, and_true, true_and, one_inj, agg_inj, paF_inj, itF_inj, chF_inj, voF_inj, vsF_inj, csF_inj, nsF_inj, nssF_inj, ndF_inj, ceF_inj, woF_inj, evF_inj, byF_inj, ndsF_inj, evsF_inj, pasF_inj, aI_inj, aB_inj, aRp_inj, fI_inj, fBo_inj] at h; obtain ⟨rfl, rfl⟩ := h; rfl) h
theorem K_laws_toNode {a : (Nd)} {r : AV} (h : S_laws_toNode.post ([agg (ndF a)]) r) : r = agg (ndF a) :=
  gF_post (hcl := fun _ => rfl) (a := a) (by intro a b h; simpa only [List.cons.injEq, and_true, true_and, one_inj, agg_inj, paF_inj, itF_inj, chF_inj, voF_inj, vsF_inj, csF_inj, nsF_inj, nssF_inj, ndF_inj, ceF_inj, woF_inj, evF_inj, byF_inj, ndsF_inj, evsF_inj, pasF_inj, aI_inj, aB_inj, aRp_inj, fI_inj, fBo_inj] using h) h
theorem K_laws_eqNode {a : (Nd) × (Nd)} {r : AV} (h : S_laws_eqNode.post ([agg (ndF a.1), agg (ndF a.2)]) r) : (a.1 = a.2 ∧ r = B true) ∨ (¬ (a.1 = a.2) ∧ r = B false) :=
  tF_post (hcl := fun _ => rfl) (a := a) (by rintro ⟨x0, x1⟩ ⟨y0, y1⟩ h; simp only [List.cons.injEq, and_true, true_and, one_inj, agg_inj, paF_inj, itF_inj, chF_inj, voF_inj, vsF_inj, csF_inj, nsF_inj, nssF_inj, ndF_inj, ceF_inj, woF_inj, evF_inj, byF_inj, ndsF_inj, evsF_inj, pasF_inj, aI_inj, aB_inj, aRp_inj, fI_inj, fBo_inj] at h; obtain ⟨rfl, rfl⟩ := h; rfl) h
end Av
end Go.Proofs.Ytdboofnogabefaa
