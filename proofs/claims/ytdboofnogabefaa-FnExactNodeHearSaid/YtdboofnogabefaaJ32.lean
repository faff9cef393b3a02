/- Texts of the layer, joined. -/
import Derived.Test.YtdboofnogabefaaNE
import Derived.Test.YtdboofnogabefaaZA
import Derived.Test.YtdboofnogabefaaIA
set_option linter.unusedVariables false
set_option linter.unusedSimpArgs false
namespace Go.Proofs.Ytdboofnogabefaa
namespace Av
open Go.RowKit
def nC : Nest (List It) where
  β := It
  T := ty_Simpl_Item
  sz := 1
  pp _ := []
  inn c := c
  T1 := ty_impl_Item
  s1 := 4
  F1 := itF
  ext _ _ _ h := arA_inj (fun _ _ h => itF_inj.1 h) h
abbrev S_slices_Clip_ISS_o : MSpec := S_nclip nC
noncomputable abbrev S_impl_votes_all_o : MSpec := S_nestV nC allS allS_len
noncomputable def SO_impl_votes_tip : OSpec := { mkO (α := List Vo) (fun l => [one (vsF l)]) (fun l => FitVs l ∧ l.length ≤ SM) tip (fun _ => rfl) with fl := false, hfl := fun h => by cases h }
theorem so_impl_votes_tip (l : List Vo) : SO_impl_votes_tip.ob [one (vsF l)] = itO (tip l) := mkO_ob (p := fun l => FitVs l ∧ l.length ≤ SM) (enc := fun l => [one (vsF l)]) (hcl := fun _ => rfl) vsEnc_inj l
end Av
end Go.Proofs.Ytdboofnogabefaa

namespace Go.Proofs.Ytdboofnogabefaa
namespace Av
open Go.RowKit
end Av
end Go.Proofs.Ytdboofnogabefaa

namespace Go.Proofs.Ytdboofnogabefaa
namespace Av
open Go.RowKit
/-- The tip of votes that are lent. -/
noncomputable def SO_impl_votes_tip_L : OSpec := mkO (α := List Vo) (fun l => [one (vsF l)]) (fun l => FitVs l ∧ l.length ≤ SM) tip (fun _ => rfl)
theorem so_impl_votes_tip_L (l : List Vo) : SO_impl_votes_tip_L.ob [one (vsF l)] = itO (tip l) := mkO_ob (p := fun l => FitVs l ∧ l.length ≤ SM) (enc := fun l => [one (vsF l)]) (hcl := fun _ => rfl) vsEnc_inj l
theorem voteN_len (n : Nd) (c : List It) : (voteN n c).1.seen.length = n.seen.length ∨ (voteN n c).1.seen.length = n.seen.length + 1 := by
  unfold voteN
  split
  · exact .inl rfl
  · right; simp
/-- A node's memory in; a node and a vote out. -/
noncomputable def S_triM {α : Type} (d : Nat) (hd : d ≤ 17) (enc : α → List AV) (l : α → List Vo) (p : α → Prop) (g : α → Tri) (hg : ∀ a, p a → (l a).length ≤ (g a).1.seen.length ∧ (g a).1.seen.length + 2 ≤ (l a).length + d) : MSpec := mkM enc (fun a => nV.In (l a)) p
  (fun a r obs' => TriO true false ((l a).length + 1) ((l a).length + d) (g a) r obs') 0
  (fun a h => tri_inh (by have := hg a h; omega) (by have := hg a h; omega))
  (fun a r obs' h => by rw [Nest.In_len]; exact ⟨h.1, Nat.le_trans h.2.1 (by omega)⟩)
theorem K_triM {α : Type} {d : Nat} {hd} {enc : α → List AV} {l : α → List Vo} {p : α → Prop} {g : α → Tri} {hg} (hinj : ∀ a b, enc a = enc b → nV.In (l a) = nV.In (l b) → a = b) {a : α} {r : AV} {obs' : List (Option Ob)} (h : (S_triM d hd enc l p g hg).post (enc a) (nV.In (l a)) r obs') : TriO true false ((l a).length + 1) ((l a).length + d) (g a) r obs' :=
  mkM_post (ob := fun a => nV.In (l a)) (R := fun a r obs' => TriO true false ((l a).length + 1) ((l a).length + d) (g a) r obs') hinj h
theorem ndOF_inj {n m : Nd} (h : ndOF n 0 = ndOF m 0) (h' : nV.In n.seen = nV.In m.seen) : n = m := by
  obtain ⟨x1, x2, x3, x4⟩ := n; obtain ⟨z1, z2, z3, z4⟩ := m
  have e1 : x4 = z4 := Nest.In_inj h'
  simp only [ndOF, ndO, AV.w.injEq, AW.g.injEq, List.cons.injEq, AC.c.injEq, FV.v.injEq, Value.int.injEq, and_true, true_and] at h
  rw [e1, h.1, h.2.1, h.2.2]
noncomputable def S_impl_Node_vote_o : MSpec := S_triM 4 (by decide) (α := Nd × (List It ⊕ Nat)) (fun a => [ndOF a.1 0, .w (.o (acF (· + 1) a.2))]) (fun a => a.1.seen) (fun a => okX a.1.seen a.2 ∧ a.1.seen.length ≤ SM) (fun a => voteN a.1 (chX a.1.seen a.2))
  (fun a _ => by rcases voteN_len a.1 (chX a.1.seen a.2) with h | h <;> omega)
theorem K_impl_Node_vote_o {n : Nd} {x : List It ⊕ Nat} {r : AV} {obs' : List (Option Ob)} (h : S_impl_Node_vote_o.post [ndOF n 0, .w (.o (acF (· + 1) x))] (nV.In n.seen) r obs') : TriO true false (n.seen.length + 1) (n.seen.length + 4) (voteN n (chX n.seen x)) r obs' :=
  K_triM (enc := fun a : Nd × (List It ⊕ Nat) => [ndOF a.1 0, .w (.o (acF (· + 1) a.2))]) (l := fun a => a.1.seen) (g := fun a => voteN a.1 (chX a.1.seen a.2)) (a := (n, x)) (fun a b h h' => by
    obtain ⟨x, y⟩ := a; obtain ⟨z, w⟩ := b
    have e1 := ndOF_inj (List.cons.inj h).1 h'
    have e2 := (List.cons.inj (List.cons.inj h).2).1
    simp only [AV.w.injEq, AW.o.injEq] at e2
    dsimp only at e1 e2
    rw [e1, acF_inj e2]) h
/-- Data in; a node and a vote out. -/
noncomputable def S_triN {α : Type} (b1 b2 : Bool) (n1 : Nat) (hn : n1 ≤ 16 + NB) (enc : α → List AV) (p : α → Prop) (g : α → Tri) (hg : ∀ a, p a → (g a).1.seen.length + 2 ≤ n1) : MSpec := mkNS NB enc p
  (fun a r obs' => TriO b1 b2 0 n1 (g a) r obs') 0
  (fun a h => tri_inh (Nat.zero_le _) (hg a h))
  (fun a r obs' h => Nat.le_trans h.2.1 hn)
theorem K_triN {α : Type} {b1 b2 : Bool} {n1 : Nat} {hn} {enc : α → List AV} {p : α → Prop} {g : α → Tri} {hg} (hinj : ∀ a b, enc a = enc b → a = b) {a : α} {r : AV} {obs' : List (Option Ob)} (h : (S_triN b1 b2 n1 hn enc p g hg).post (enc a) [] r obs') : TriO b1 b2 0 n1 (g a) r obs' :=
  mkNS_post hinj h
/-- Empty slices that are handed back are azz well empty arrays. -/
theorem valid_triN {P : Program} {f : Nat} {α : Type} {enc : α → List AV} {p : α → Prop} {g : α → Tri} {n1 : Nat} {hn0 hn2 hg0 hg2} (hv : ValidM P f (S_triN false false n1 hn0 enc p g hg0)) : ValidM P f (S_triN true true (n1 + 1 + 1) hn2 enc p g hg2) := by
  have hn1 : n1 + 1 ≤ 16 + NB := by omega
  have hg1 : ∀ a, p a → (g a).1.seen.length + 2 ≤ n1 + 1 := fun a h => Nat.le_succ_of_le (hg0 a h)
  have h1 : ValidM P f (S_triN false true (n1 + 1) hn1 enc p g hg1) := by
    refine valid_e0tt hv rfl (fun args obs ⟨a, h1, h2, h3⟩ => ⟨a, h1, h2, h3⟩) fun args obs r obs' hp ⟨a, h1, h2, h3⟩ => ?_
    rcases tri_vote h3 with ⟨xs, p, cs, q, e1, e2, e3, T, sz, e4⟩ | e4
    · exact .inl ⟨xs, p, cs, q, e1, e2, e3, T, sz, a, h1, h2, e4⟩
    · exact .inr ⟨a, h1, h2, e4⟩
  refine valid_e0tt h1 rfl (fun args obs ⟨a, h1, h2, h3⟩ => ⟨a, h1, h2, h3⟩) fun args obs r obs' hp ⟨a, h1, h2, h3⟩ => ?_
  rcases tri_seen h3 with ⟨xs, p, cs, q, e1, e2, e3, T, sz, e4⟩ | e4
  · exact .inl ⟨xs, p, cs, q, e1, e2, e3, T, sz, a, h1, h2, e4⟩
  · exact .inr ⟨a, h1, h2, e4⟩
theorem NB2 : NB + 1 + 1 ≤ 16 + NB := by omega
theorem NB0 : NB ≤ 16 + NB := by omega
theorem NB_sm {a b : Nat} (h : b ≤ a + 2) (ha : a ≤ SM) : b + 2 ≤ NB := by rw [NB_eq]; simp only [SM] at ha; omega
end Av
end Go.Proofs.Ytdboofnogabefaa

namespace Go.Proofs.Ytdboofnogabefaa
namespace Av
open Go.RowKit
/-- A vote, with the marks on its chain. -/
def mkV (v : Vo) (k : Int) : Vo := ⟨v.n, mkC v.c.length k⟩
noncomputable def S_laws_heldVote : FSpec := iF (α := Vo × Int) (fun a => [agg (voF (mkV a.1 a.2)), I a.2]) (fun a => a.1.c.length ≤ SM ∧ 0 ≤ a.2 ∧ a.2 ≤ MK) (fun a => a.2 + 4 * a.1.c.length) (fun _ => rfl)
theorem K_laws_heldVote {v : Vo} {k : Int} {r : AV} (h : S_laws_heldVote.post [agg (voF (mkV v k)), I k] r) : r = I (k + 4 * v.c.length) := by
  obtain ⟨⟨m, j⟩, h1, h2⟩ := h
  have e1 := voF_inj.1 (agg_inj.1 (List.cons.inj h1).1)
  have e2 := aI_inj.1 (List.cons.inj (List.cons.inj h1).2).1
  dsimp only at e1 e2 h2
  subst e2
  have e3 := congrArg List.length (Vo.mk.inj e1).2
  rw [mkC_len, mkC_len] at e3
  rw [h2, e3]
end Av
end Go.Proofs.Ytdboofnogabefaa

namespace Go.Proofs.Ytdboofnogabefaa
namespace Av
open Go.RowKit
theorem tryN_len (m : Nd) : m.seen.length ≤ (tryN false m).1.seen.length ∧ (tryN false m).1.seen.length ≤ m.seen.length + 1 := by
  unfold tryN
  split
  · split
    · rename_i u _
      unfold voteN
      split
      · exact ⟨Nat.le_refl _, Nat.le_succ _⟩
      · show _ ≤ (m.seen ++ [_]).length ∧ (m.seen ++ [_]).length ≤ _
        rw [List.length_append, List.length_singleton]; omega
    · exact ⟨Nat.le_refl _, Nat.le_succ _⟩
  · exact ⟨Nat.le_refl _, Nat.le_succ _⟩
theorem addV_lens (l : List Vo) (v : Vo) : l.length ≤ (addV l v).length ∧ (addV l v).length ≤ l.length + 1 := by
  unfold addV; split <;> simp
theorem hearN_len (n : Nd) (v : Vo) : n.seen.length ≤ (hearN false n v).1.seen.length ∧ (hearN false n v).1.seen.length ≤ n.seen.length + 2 := by
  unfold hearN
  split
  · have h1 := tryN_len ⟨n.id, n.ep, n.vt, addV n.seen v⟩
    have h2 := addV_lens n.seen v
    dsimp only at h1
    omega
  · exact ⟨Nat.le_refl _, Nat.le_add_right _ _⟩
theorem hearT_len (n : Nd) (v : Vo) : (hearT n v).1.seen.length ≤ n.seen.length + 2 := by
  unfold hearT
  split
  · exact (hearN_len n v).2
  · exact Nat.zero_le _
noncomputable def S_impl_Node_hear_o : MSpec := S_triM 17 (by decide) (α := Nd × Vo) (fun a => [ndOF a.1 0, agg (voF a.2)]) (fun a => a.1.seen) (fun a => NodeOk a.1 ∧ FitV a.2) (fun a => hearN false a.1 a.2)
  (fun a _ => by have := hearN_len a.1 a.2; omega)
theorem K_impl_Node_hear_o {n : Nd} {v : Vo} {r : AV} {obs' : List (Option Ob)} (h : S_impl_Node_hear_o.post [ndOF n 0, agg (voF v)] (nV.In n.seen) r obs') : TriO true false (n.seen.length + 1) (n.seen.length + 17) (hearN false n v) r obs' :=
  K_triM (enc := fun a : Nd × Vo => [ndOF a.1 0, agg (voF a.2)]) (l := fun a => a.1.seen) (g := fun a => hearN false a.1 a.2) (a := (n, v)) (fun a b h h' => by
    obtain ⟨x, y⟩ := a; obtain ⟨z, w⟩ := b
    have e1 := ndOF_inj (List.cons.inj h).1 h'
    have e2 := voF_inj.1 (agg_inj.1 (List.cons.inj (List.cons.inj h).2).1)
    dsimp only at e1 e2
    rw [e1, e2]) h
theorem ndvEnc_inj (a b : Nd × Vo) (h : [agg (ndF a.1), agg (voF a.2)] = [agg (ndF b.1), agg (voF b.2)]) : a = b := by
  obtain ⟨x, y⟩ := a; obtain ⟨z, w⟩ := b
  simp only [List.cons.injEq, and_true, agg_inj, ndF_inj, voF_inj] at h
  rw [h.1, h.2]
theorem hearT_b {a : Nd × Vo} (h : (FitVs a.1.seen ∧ FitV a.2) ∧ a.1.seen.length ≤ SM) : (hearT a.1 a.2).1.seen.length + 2 ≤ NB := NB_sm (hearT_len a.1 a.2) h.2
noncomputable def S_impl_NodeHear_e : MSpec := S_triN (α := Nd × Vo) false false NB NB0 (fun a => [agg (ndF a.1), agg (voF a.2)]) (fun a => (FitVs a.1.seen ∧ FitV a.2) ∧ a.1.seen.length ≤ SM) (fun a => hearT a.1 a.2) (fun _ h => hearT_b h)
noncomputable def S_impl_NodeHear_o : MSpec := S_triN (α := Nd × Vo) true true (NB + 1 + 1) NB2 (fun a => [agg (ndF a.1), agg (voF a.2)]) (fun a => (FitVs a.1.seen ∧ FitV a.2) ∧ a.1.seen.length ≤ SM) (fun a => hearT a.1 a.2) (fun _ h => Nat.le_succ_of_le (Nat.le_succ_of_le (hearT_b h)))
theorem K_impl_NodeHear_o {n : Nd} {v : Vo} {r : AV} {obs' : List (Option Ob)} (h : S_impl_NodeHear_o.post [agg (ndF n), agg (voF v)] [] r obs') : TriO true true 0 (NB + 1 + 1) (hearT n v) r obs' :=
  K_triN (a := (n, v)) (enc := fun a : Nd × Vo => [agg (ndF a.1), agg (voF a.2)]) (g := fun a => hearT a.1 a.2) ndvEnc_inj h
end Av
end Go.Proofs.Ytdboofnogabefaa

namespace Go.Proofs.Ytdboofnogabefaa
namespace Av
open Go.RowKit
noncomputable def S_laws_FnExactNodeHear : FSpec := tF (α := (Nd) × (Vo)) (fun a => [agg (ndF a.1), agg (voF a.2)]) (fun a => BigVs a.1.seen ∧ a.2.c.length ≤ BIG) (fun a => True) (fun _ => rfl)
theorem K_laws_FnExactNodeHear {a : (Nd) × (Vo)} {r : AV} (h : S_laws_FnExactNodeHear.post ([agg (ndF a.1), agg (voF a.2)]) r) : (True ∧ r = B true) ∨ (¬ (True) ∧ r = B false) :=
  tF_post (hcl := fun _ => rfl) (a := a) (by rintro ⟨x0, x1⟩ ⟨y0, y1⟩ h; simp only [List.cons.injEq, and_true, true_and, one_inj, agg_inj, paF_inj, itF_inj, chF_inj, voF_inj, vsF_inj, csF_inj, nsF_inj, nssF_inj, ndF_inj, ceF_inj, woF_inj, evF_inj, byF_inj, ndsF_inj, evsF_inj, pasF_inj, aI_inj, aB_inj, aRp_inj, fI_inj, fBo_inj] at h; obtain ⟨rfl, rfl⟩ := h; rfl) h
end Av
end Go.Proofs.Ytdboofnogabefaa

