/- Contracts: chains of chains of one's own; all, tip. -/
import Derived.Test.YtmboljfckljjhaaNE
set_option linter.unusedVariables false
set_option linter.unusedSimpArgs false
namespace Go.Proofs.Ytmboljfckljjhaa
namespace Av
open Go.RowKit

def nC : Nest (List It) where
  β := It
  T := ty_Simpl_Item
  sz := 1
  pp _ := []
  inn c := c
  T1 := ty_impl_Item
  s1 := 4
  F1 := itF
  ext _ _ _ h := arA_inj (fun _ _ h => itF_inj.1 h) h
theorem chEnc_inj (l m : List It) (h : [one (chF l)] = [one (chF m)]) : l = m := by simpa only [List.cons.injEq, and_true, one_inj, chF_inj] using h
noncomputable def SO_impl_copied : OSpec := mkO (α := List It) (fun c => [one (chF c)]) (fun c => c.length ≤ LIM) (fun c => c) fun _ => rfl
theorem so_impl_copied (c : List It) : SO_impl_copied.ob [one (chF c)] = itO c := mkO_ob (enc := fun c => [one (chF c)]) (g := fun c => c) (hcl := fun _ => rfl) chEnc_inj c
theorem vO_impl_copied : ValidM Try.prog n_impl_copied SO_impl_copied.toM := by
  refine valid_O v_impl_copied_o rfl (fun args ⟨l, h, hp⟩ => ⟨l, h, rfl, hp⟩) fun args r obs' ⟨l, h, hp⟩ hq => ?_
  subst h
  rw [so_impl_copied]
  rcases K_ownC hq with ⟨h1, h2, h3⟩ | ⟨h1, h2⟩
  · exact .inl ⟨h1, h2, ty_impl_Item, 4, by rw [h3]; rfl⟩
  · exact .inr ⟨h1, h2⟩
abbrev S_slices_Clip_ISS_o : MSpec := S_nclip nC
/-- Votes in, a nest out. -/
noncomputable def S_nestV {β : Type} (N : Nest β) (g : List Vo → List β) (hg : ∀ l, (g l).length ≤ l.length + 1) : MSpec := mkNS (α := List Vo) NB (fun l => [one (vsF l)]) (fun l => FitVs l ∧ l.length ≤ SM) (fun l r obs' => l.length ≤ SM ∧ r = ow0 ∧ obs' = N.obs (g l)) 0
  (fun l h => ⟨_, _, ⟨h.2, rfl, rfl⟩, okw (by rw [Nest.obs_len]; omega), Nest.obs_ok⟩)
  (fun l r obs' h => by
    obtain ⟨h, _, rfl⟩ := h
    rw [Nest.obs_len, NB_eq]; simp only [SM] at h
    have := hg l; omega)
theorem K_nestV {β : Type} {N : Nest β} {g : List Vo → List β} {hg : ∀ l, (g l).length ≤ l.length + 1} {l : List Vo} {r : AV} {obs' : List (Option Ob)} (h : (S_nestV N g hg).post [one (vsF l)] [] r obs') : r = ow0 ∧ obs' = N.obs (g l) :=
  (mkNS_post (enc := fun b : List Vo => [one (vsF b)]) (a := l) vsEnc_inj h).2
noncomputable abbrev S_impl_votes_all_o : MSpec := S_nestV nC allS allS_len
noncomputable def SO_impl_votes_tip : OSpec := mkO (α := List Vo) (fun l => [one (vsF l)]) (fun l => FitVs l ∧ l.length ≤ SM) tip fun _ => rfl
theorem so_impl_votes_tip (l : List Vo) : SO_impl_votes_tip.ob [one (vsF l)] = itO (tip l) := mkO_ob (enc := fun l => [one (vsF l)]) (hcl := fun _ => rfl) vsEnc_inj l
noncomputable def S_impl_TreeTip_o : MSpec := mkN (α := List Vo) (fun l => [one (vsF l)]) (fun l => FitVs l ∧ l.length ≤ SM) (fun l => ownC (tipT l)) 0 (fun l _ => ownC_inh (tipT l)) (fun _ _ _ h => ownC_len h)
theorem K_impl_TreeTip_o {l : List Vo} {r : AV} {obs' : List (Option Ob)} (h : S_impl_TreeTip_o.post [one (vsF l)] [] r obs') : ownC (tipT l) r obs' :=
  mkN_post (R := fun l => ownC (tipT l)) (enc := fun b => [one (vsF b)]) (a := l) vsEnc_inj h
noncomputable def SO_impl_TreeTip : OSpec := mkO (α := List Vo) (fun l => [one (vsF l)]) (fun l => FitVs l ∧ l.length ≤ SM) tipT fun _ => rfl
theorem so_impl_TreeTip (l : List Vo) : SO_impl_TreeTip.ob [one (vsF l)] = itO (tipT l) := mkO_ob (enc := fun l => [one (vsF l)]) (hcl := fun _ => rfl) vsEnc_inj l
theorem allT_len (l : List Vo) : (allT l).length ≤ l.length + 1 := by
  unfold allT
  split
  · exact allS_len l
  · exact Nat.zero_le _
/-- All chains, or nothing. -/
noncomputable def S_impl_TreeAll_e : MSpec := mkNS (α := List Vo) NB (fun l => [one (vsF l)]) (fun l => FitVs l ∧ l.length ≤ SM) (fun l r obs' => l.length ≤ SM ∧ ((r = .w (.o .e0) ∧ obs' = [] ∧ allT l = []) ∨ (r = ow0 ∧ obs' = nC.obs (allT l)))) 0
  (fun l h => ⟨_, _, ⟨h.2, .inr ⟨rfl, rfl⟩⟩, okw (by rw [Nest.obs_len]; omega), Nest.obs_ok⟩)
  (fun l r obs' h => by
    obtain ⟨h, ⟨_, rfl, _⟩ | ⟨_, rfl⟩⟩ := h
    · simp
    · rw [Nest.obs_len, NB_eq]; simp only [SM] at h
      have := allT_len l; omega)
theorem K_impl_TreeAll_e {l : List Vo} {r : AV} {obs' : List (Option Ob)} (h : S_impl_TreeAll_e.post [one (vsF l)] [] r obs') : (r = .w (.o .e0) ∧ obs' = [] ∧ allT l = []) ∨ (r = ow0 ∧ obs' = nC.obs (allT l)) :=
  (mkNS_post (enc := fun b : List Vo => [one (vsF b)]) (a := l) vsEnc_inj h).2
noncomputable abbrev S_impl_TreeAll_o : MSpec := S_nestV nC allT allT_len
theorem valid_e0 {P : Program} {f : Nat} {S S' : MSpec} (hv : ValidM P f S) (hc : S.cost = S'.cost) (hpre : ∀ args obs, S'.pre args obs → S.pre args obs ∧ obs = [])
    (hpost : ∀ args r obs', S'.pre args [] → S.post args [] r obs' → (r = .w (.o .e0) ∧ obs' = [] ∧ ∃ T sz, S'.post args [] ow0 [some (.arr T sz [])]) ∨ S'.post args [] r obs') : ValidM P f S' := by
  refine ⟨hv.1, fun args obs rm hp hlim => ?_⟩
  obtain ⟨hp1, rfl⟩ := hpre _ _ hp
  intro V O own w vals hsub hO hown huniq hvo hobs hargs
  refine (hv.2 args [] rm hp1 (by rw [hc]; exact hlim) V O own w vals hsub hO hown huniq hvo hobs hargs).mono ?_
  rintro e w' ⟨v, r, obs', V', O', own', he, q1, q2, q3, q4, q5, q6, q7, q8, q9, q10, q11, q12⟩
  rcases hpost _ _ _ hp q1 with ⟨rfl, rfl, T, sz, hob⟩ | hq
  · have hown' : ∀ b, own' b = none := by
      intro b
      cases hh : own' b with
      | none => rfl
      | some k => have := (q9 b k hh).1; simp at this
    obtain ⟨⟨A, hA⟩, h1⟩ := q2
    refine ⟨v, ow0, _, V', fun k => if k = 0 then some v else none, own', he, hob, ⟨⟨rfl, h1 (by simp)⟩, fun _ => h1 (by simp)⟩, q3, q4, fun k u e => ?_, fun k u e => ?_, fun k ob e => ?_, fun b o u e => .inl (hown' b), (fun b k e => by rw [hown' b] at e; cases e), (fun b b' k e => by rw [hown' b] at e; cases e), q11, q12⟩
    · have := hO k u e; simp at this
    · simp only at e
      split at e
      · rename_i hk; subst hk; simp
      · cases e
    · cases k with
      | zero =>
        simp only [List.getElem?_cons_zero, Option.some.injEq] at e
        subst e
        refine ⟨fun j x hx => by simp at hx, .inl ⟨rfl, A, ?_⟩⟩
        show (if 0 = 0 then some v else none) = _
        rw [if_pos rfl, hA]
      | succ k => simp at e
  · exact ⟨v, r, obs', V', O', own', he, hq, q2, q3, q4, q5, q6, fun k ob e => by have := q7 k ob e; rw [hc] at this; exact this, q8, q9, q10, q11, q12⟩
/-! ### marks on chains of chains -/
def endCs : List (List It) → Int → Int
  | [], k => k
  | c :: r, k => endCs r (k + 4 * c.length)
def mkCs : List (List It) → Int → List (List It)
  | [], _ => []
  | c :: r, k => mkC c.length k :: mkCs r (k + 4 * c.length)
theorem mkCs_len : ∀ (l : List (List It)) (k : Int), (mkCs l k).length = l.length
  | [], _ => rfl
  | v :: r, k => by simp [mkCs, mkCs_len r]
theorem endCs_app : ∀ (a b : List (List It)) (k : Int), endCs (a ++ b) k = endCs b (endCs a k)
  | [], b, k => rfl
  | v :: r, b, k => by simp only [List.cons_append, endCs, endCs_app r b]
theorem mkCs_app : ∀ (a b : List (List It)) (k : Int), mkCs (a ++ b) k = mkCs a k ++ mkCs b (endCs a k)
  | [], b, k => rfl
  | v :: r, b, k => by simp only [List.cons_append, mkCs, endCs, mkCs_app r b]
def SmCs (l : List (List It)) : Prop := l.length ≤ 2 * SM ∧ ∀ c, c ∈ l → c.length ≤ SM
theorem endCs_bounds : ∀ (l : List (List It)) (k : Int), (∀ v, v ∈ l → v.length ≤ SM) → k ≤ endCs l k ∧ endCs l k ≤ k + l.length * 4194305
  | [], k, _ => by simp [endCs]
  | v :: r, k, h => by
    have h1 := endCs_bounds r (k + 4 * v.length) fun u hu => h u (List.mem_cons_of_mem _ hu)
    have h2 := h v (List.mem_cons_self ..)
    simp only [SM] at h2
    simp only [endCs, List.length_cons]
    omega
theorem endCs_take {l : List (List It)} {i : Nat} {x : List It} (hx : l[i]? = some x) (k : Int) : endCs (l.take (i + 1)) k = endCs (l.take i) k + 4 * x.length := by
  rw [List.take_add_one, hx, endCs_app]; rfl
theorem mkCs_take {l : List (List It)} {i : Nat} {x : List It} (hx : l[i]? = some x) (k : Int) : mkCs (l.take (i + 1)) k = mkCs (l.take i) k ++ [mkC x.length (endCs (l.take i) k)] := by
  rw [List.take_add_one, hx, mkCs_app]; rfl
def partCs (l : List (List It)) (k : Int) (i : Nat) : List (List It) := mkCs (l.take i) k ++ l.drop i
theorem partCs_len {l : List (List It)} {k : Int} {i : Nat} (h : i ≤ l.length) : (partCs l k i).length = l.length := by
  unfold partCs; rw [List.length_append, mkCs_len, List.length_take, List.length_drop]; omega
theorem partCs_at {l : List (List It)} {k : Int} {i : Nat} {x : List It} (hx : l[i]? = some x) : (partCs l k i)[i]? = some x := by
  have hi := (List.getElem?_eq_some_iff.1 hx).1
  unfold partCs
  rw [List.getElem?_append_right (by rw [mkCs_len, List.length_take]; omega), mkCs_len, List.length_take, Nat.min_eq_left (Nat.le_of_lt hi), Nat.sub_self, List.getElem?_drop, Nat.add_zero]
  exact hx
theorem partCs_step {l : List (List It)} {k : Int} {i : Nat} {x : List It} (hx : l[i]? = some x) : (partCs l k i).set i (mkC x.length (endCs (l.take i) k)) = partCs l k (i + 1) := by
  have hi := (List.getElem?_eq_some_iff.1 hx).1
  have hl : (mkCs (l.take i) k).length = i := by rw [mkCs_len, List.length_take]; omega
  unfold partCs
  rw [mkCs_take hx, List.append_assoc, List.set_append_right _ _ (by omega), hl, Nat.sub_self]
  congr 1
  rw [List.drop_eq_getElem_cons hi]; rfl
theorem partCs_zero (l : List (List It)) (k : Int) : partCs l k 0 = l := by simp [partCs, mkCs]
theorem partCs_end (l : List (List It)) (k : Int) : partCs l k l.length = mkCs l k := by simp [partCs]
noncomputable def S_laws_markItemSS_o : MSpec := mkM (α := List (List It) × Int) (fun a => [ow0, I a.2]) (fun a => nC.In a.1) (fun a => SmCs a.1 ∧ 0 ≤ a.2 ∧ a.2 ≤ 1099511627776) (fun a r obs' => r = I (endCs a.1 a.2) ∧ obs' = nC.obs (mkCs a.1 a.2)) 0
  (fun a _ => ⟨_, _, ⟨rfl, rfl⟩, trivial, Nest.obs_ok⟩)
  (fun a r obs' h => by obtain ⟨_, rfl⟩ := h; rw [Nest.obs_len, mkCs_len, Nest.In_len]; simp)
theorem K_laws_markItemSS_o {l : List (List It)} {k : Int} {r : AV} {obs' : List (Option Ob)} (h : S_laws_markItemSS_o.post [ow0, I k] (nC.In l) r obs') : r = I (endCs l k) ∧ obs' = nC.obs (mkCs l k) :=
  mkM_post (enc := fun a : List (List It) × Int => [ow0, I a.2]) (ob := fun a => nC.In a.1) (a := (l, k)) (fun a b h h' => by
    obtain ⟨x, y⟩ := a; obtain ⟨z, w⟩ := b
    have e1 := Nest.In_inj h'
    have e2 := aI_inj.1 (List.cons.inj (List.cons.inj h).2).1
    dsimp only at e1 e2
    rw [e1, e2]) h
/-- The marks stand: lengths, and where they begin. -/
def lns (l : List (List It)) : List Nat := l.map List.length
theorem mkCs_lns : ∀ (l m : List (List It)) (k : Int), lns l = lns m → mkCs l k = mkCs m k
  | [], [], k, _ => rfl
  | c :: r, d :: s, k, h => by
    have h1 := (List.cons.inj h).1
    have h2 := (List.cons.inj h).2
    simp only [mkCs, h1, mkCs_lns r s _ h2]
  | [], _ :: _, _, h => by simp [lns] at h
  | _ :: _, [], _, h => by simp [lns] at h
theorem endCs_lns : ∀ (l m : List (List It)) (k : Int), lns l = lns m → endCs l k = endCs m k
  | [], [], k, _ => rfl
  | c :: r, d :: s, k, h => by
    have h1 := (List.cons.inj h).1
    have h2 := (List.cons.inj h).2
    simp only [endCs, h1, endCs_lns r s _ h2]
  | [], _ :: _, _, h => by simp [lns] at h
  | _ :: _, [], _, h => by simp [lns] at h
theorem lns_mk : ∀ (l : List (List It)) (k : Int), lns (mkCs l k) = lns l
  | [], _ => rfl
  | c :: r, k => by
    show (mkC c.length k).length :: lns (mkCs r _) = c.length :: lns r
    rw [mkC_len, lns_mk r]
noncomputable def S_laws_heldItemSS : FSpec := iF (α := List (List It) × Int) (fun a => [one (csF (mkCs a.1 a.2)), I a.2]) (fun a => SmCs a.1 ∧ 0 ≤ a.2 ∧ a.2 ≤ 1099511627776) (fun a => endCs a.1 a.2) (fun _ => rfl)
theorem K_laws_heldItemSS {l : List (List It)} {k : Int} {r : AV} (h : S_laws_heldItemSS.post [one (csF (mkCs l k)), I k] r) : r = I (endCs l k) := by
  obtain ⟨⟨m, j⟩, h1, h2⟩ := h
  have e1 := csF_inj.1 (one_inj.1 (List.cons.inj h1).1)
  have e2 := aI_inj.1 (List.cons.inj (List.cons.inj h1).2).1
  dsimp only at e1 e2 h2
  subst e2
  have e3 : lns l = lns m := by rw [← lns_mk l k, e1, lns_mk]
  rw [h2, endCs_lns l m k e3]
noncomputable def S_laws_eqItemSS : FSpec := tF (α := (List (List It)) × (List (List It))) (fun a => [one (csF a.1), one (csF a.2)]) (fun a => FitCs a.1 ∧ FitCs a.2) (fun a => a.1 = a.2) (fun _ => rfl)
theorem K_laws_eqItemSS {a : (List (List It)) × (List (List It))} {r : AV} (h : S_laws_eqItemSS.post ([one (csF a.1), one (csF a.2)]) r) : (a.1 = a.2 ∧ r = B true) ∨ (¬ (a.1 = a.2) ∧ r = B false) :=
  tF_post (hcl := fun _ => rfl) (a := a) (by rintro ⟨x0, x1⟩ ⟨y0, y1⟩ h; simp only [List.cons.injEq, and_true, true_and, one_inj, agg_inj, paF_inj, itF_inj, chF_inj, voF_inj, vsF_inj, csF_inj, nsF_inj, nssF_inj, ndF_inj, ceF_inj, woF_inj, evF_inj, byF_inj, ndsF_inj, evsF_inj, pasF_inj, aI_inj, aB_inj, aRp_inj, fI_inj, fBo_inj] at h; obtain ⟨rfl, rfl⟩ := h; rfl) h
end Av
end Go.Proofs.Ytmboljfckljjhaa
