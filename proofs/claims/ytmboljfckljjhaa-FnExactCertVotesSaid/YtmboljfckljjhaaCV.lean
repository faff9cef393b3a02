/- Contracts: votes of one's own; a cert's votes; 'the marks stand' on votes. -/
import Derived.Test.YtmboljfckljjhaaCC
import Derived.Test.YtmboljfckljjhaaU8
set_option linter.unusedVariables false
set_option linter.unusedSimpArgs false
namespace Go.Proofs.Ytmboljfckljjhaa
namespace Av
open Go.RowKit

def nV : Nest Vo where
  β := It
  T := ty_impl_Vote
  sz := 2
  pp v := [fI v.n]
  inn v := v.c
  T1 := ty_impl_Item
  s1 := 4
  F1 := itF
  ext a b h h' := by
    have h1 : a.c = b.c := arA_inj (fun _ _ h => itF_inj.1 h) h'
    have h2 : a.n = b.n := by simpa using h
    obtain ⟨x, y⟩ := a; obtain ⟨z, w⟩ := b
    dsimp only at h1 h2
    rw [h1, h2]
theorem nV_plain : nV.Plain := ⟨fun a c h => by
  simp only [nV, fI, List.mem_cons, List.not_mem_nil, or_false] at h
  exact ⟨_, h⟩, fun b c h => by
  simp only [nV, itF, paF, fI, List.mem_cons, List.not_mem_nil, or_false, List.mem_append] at h
  rcases h with rfl | rfl | rfl | rfl <;> exact ⟨_, rfl⟩⟩
theorem nV_In (l : List Vo) : nV.In l = vosIn l := rfl
theorem nV_obs (l : List Vo) : nV.obs l = vosObs l := by
  show some _ :: (l.map nV.ob1).map some = some _ :: l.map fun v => some (itO v.c)
  rw [List.map_map]; rfl
abbrev S_slices_Clip_VoteS_o : MSpec := S_nclip nV
theorem certVotes_len {c : Ce} : (certVotes c).length ≤ 12 := by
  by_cases h : CertOk c
  · have hb := rows_bound h c.b.length
    rw [List.take_length] at hb
    rw [certVotes_ok h]; exact hb
  · rw [certVotes_no h]; exact Nat.zero_le _
noncomputable def S_impl_CertVotes_e : MSpec := mkN (α := Ce) (fun c => [agg (ceF c)]) FitCe (fun c r obs' => (r = .w (.o .e0) ∧ obs' = [] ∧ certVotes c = []) ∨ (r = ow0 ∧ obs' = nV.obs (certVotes c))) 0
  (fun c h => ⟨_, _, .inr ⟨rfl, rfl⟩, okw (by rw [Nest.obs_len]; omega), Nest.obs_ok⟩)
  (fun c r obs' h => by
    rcases h with ⟨_, rfl, _⟩ | ⟨_, rfl⟩
    · simp
    · rw [Nest.obs_len]; have := certVotes_len (c := c); omega)
theorem K_impl_CertVotes_e {c : Ce} {r : AV} {obs' : List (Option Ob)} (h : S_impl_CertVotes_e.post [agg (ceF c)] [] r obs') : (r = .w (.o .e0) ∧ obs' = [] ∧ certVotes c = []) ∨ (r = ow0 ∧ obs' = nV.obs (certVotes c)) :=
  mkN_post (R := fun c r obs' => (r = .w (.o .e0) ∧ obs' = [] ∧ certVotes c = []) ∨ (r = ow0 ∧ obs' = nV.obs (certVotes c))) (enc := fun b => [agg (ceF b)]) (a := c) ceEnc_inj h
noncomputable def S_impl_CertVotes_o : MSpec := mkN (α := Ce) (fun c => [agg (ceF c)]) FitCe (fun c r obs' => r = ow0 ∧ obs' = nV.obs (certVotes c)) 0
  (fun c h => ⟨_, _, ⟨rfl, rfl⟩, okw (by rw [Nest.obs_len]; omega), Nest.obs_ok⟩)
  (fun c r obs' h => by
    obtain ⟨_, rfl⟩ := h
    rw [Nest.obs_len]; have := certVotes_len (c := c); omega)
theorem K_impl_CertVotes_o {c : Ce} {r : AV} {obs' : List (Option Ob)} (h : S_impl_CertVotes_o.post [agg (ceF c)] [] r obs') : r = ow0 ∧ obs' = nV.obs (certVotes c) :=
  mkN_post (R := fun c r obs' => r = ow0 ∧ obs' = nV.obs (certVotes c)) (enc := fun b => [agg (ceF b)]) (a := c) ceEnc_inj h
/-! ### the marks stand -/
theorem mkVs_at {l : List Vo} {k : Int} {i : Nat} {x : Vo} (hx : l[i]? = some x) : (mkVs l k)[i]? = some ⟨endV (l.take i) k, mkC x.c.length (endV (l.take i) k + 1)⟩ := by
  have hi := (List.getElem?_eq_some_iff.1 hx).1
  have e : l = l.take i ++ x :: l.drop (i + 1) := by
    obtain ⟨hlt', rfl⟩ := List.getElem?_eq_some_iff.1 hx
    rw [← List.drop_eq_getElem_cons hlt', List.take_append_drop]
  have hl : (mkVs (l.take i) k).length = i := by rw [mkVs_len, List.length_take]; omega
  have h2 : mkVs l k = mkVs (l.take i) k ++ mkVs (x :: l.drop (i + 1)) (endV (l.take i) k) := by rw [← mkVs_app, ← e]
  rw [h2, List.getElem?_append_right (by omega), hl, Nat.sub_self]
  rfl
def lnv (l : List Vo) : List Nat := l.map fun v => v.c.length
theorem endV_lnv : ∀ (l m : List Vo) (k : Int), lnv l = lnv m → endV l k = endV m k
  | [], [], k, _ => rfl
  | c :: r, d :: s, k, h => by
    have h1 := (List.cons.inj h).1
    have h2 := (List.cons.inj h).2
    simp only [endV, h1, endV_lnv r s _ h2]
  | [], _ :: _, _, h => by simp [lnv] at h
  | _ :: _, [], _, h => by simp [lnv] at h
theorem lnv_mk : ∀ (l : List Vo) (k : Int), lnv (mkVs l k) = lnv l
  | [], _ => rfl
  | c :: r, k => by
    show (mkC c.c.length (k + 1)).length :: lnv (mkVs r _) = c.c.length :: lnv r
    rw [mkC_len, lnv_mk r]
noncomputable def S_laws_heldVoteS : FSpec := iF (α := List Vo × Int) (fun a => [one (vsF (mkVs a.1 a.2)), I a.2]) (fun a => SmVs a.1 ∧ 0 ≤ a.2 ∧ a.2 ≤ 1099511627776) (fun a => endV a.1 a.2) (fun _ => rfl)
theorem K_laws_heldVoteS {l : List Vo} {k : Int} {r : AV} (h : S_laws_heldVoteS.post [one (vsF (mkVs l k)), I k] r) : r = I (endV l k) := by
  obtain ⟨⟨m, j⟩, h1, h2⟩ := h
  have e1 := vsF_inj.1 (one_inj.1 (List.cons.inj h1).1)
  have e2 := aI_inj.1 (List.cons.inj (List.cons.inj h1).2).1
  dsimp only at e1 e2 h2
  subst e2
  have e3 : lnv l = lnv m := by rw [← lnv_mk l k, e1, lnv_mk]
  rw [h2, endV_lnv l m k e3]
noncomputable def S_laws_FnExactCertVotes : FSpec := tF (α := (Ce)) (fun a => [agg (ceF a)]) (fun a => BigCe a) (fun a => True) (fun _ => rfl)
theorem K_laws_FnExactCertVotes {a : (Ce)} {r : AV} (h : S_laws_FnExactCertVotes.post ([agg (ceF a)]) r) : (True ∧ r = B true) ∨ (¬ (True) ∧ r = B false) :=
  tF_post (hcl := fun _ => rfl) (a := a) (by intro a b h; simpa only [List.cons.injEq, and_true, true_and, one_inj, agg_inj, paF_inj, itF_inj, chF_inj, voF_inj, vsF_inj, csF_inj, nsF_inj, nssF_inj, ndF_inj, ceF_inj, woF_inj, evF_inj, byF_inj, ndsF_inj, evsF_inj, pasF_inj, aI_inj, aB_inj, aRp_inj, fI_inj, fBo_inj] using h) h
end Av
end Go.Proofs.Ytmboljfckljjhaa
