/- Contracts: votes of one's own, copied, added to. -/
import Derived.Test.YtdboofnogabefaaNE
set_option linter.unusedVariables false
set_option linter.unusedSimpArgs false
namespace Go.Proofs.Ytdboofnogabefaa
namespace Av
open Go.RowKit
/-- A vote, copied: its chain is a new array. -/
noncomputable def S_impl_Vote_copied_o : MSpec := mkN (α := Vo) (fun v => [agg (voF v)]) FitV (fun v r obs' => r = .w (.g (voK v 0)) ∧ obs' = [some (itO v.c)]) 0
  (fun v _ => ⟨_, _, ⟨rfl, rfl⟩, by simp [okV, okW, okC, voK], ok_sg (arA_ok _)⟩) (fun b r obs' ⟨_, h⟩ => by rw [h]; simp)
theorem K_impl_Vote_copied_o {v : Vo} {r : AV} {obs' : List (Option Ob)} (h : S_impl_Vote_copied_o.post [agg (voF v)] [] r obs') : r = .w (.g (voK v 0)) ∧ obs' = [some (itO v.c)] :=
  mkN_post (enc := fun b => [agg (voF b)]) (a := v) (fun _ _ h => by simpa only [List.cons.injEq, and_true, agg_inj, voF_inj] using h) h
noncomputable abbrev S_impl_votes_copied_o : MSpec := S_nestV nV (fun l => l) fun l => Nat.le_succ _
abbrev S_slices_Clip_VoteS_o : MSpec := S_nclip nV
/-! ### the marks stand -/
theorem mkVs_at {l : List Vo} {k : Int} {i : Nat} {x : Vo} (hx : l[i]? = some x) : (mkVs l k)[i]? = some ⟨endV (l.take i) k, mkC x.c.length (endV (l.take i) k + 1)⟩ := by
  have hi := (List.getElem?_eq_some_iff.1 hx).1
  have e : l = l.take i ++ x :: l.drop (i + 1) := by
    obtain ⟨hlt', rfl⟩ := List.getElem?_eq_some_iff.1 hx
    rw [← List.drop_eq_getElem_cons hlt', List.take_append_drop]
  have hl : (mkVs (l.take i) k).length = i := by rw [mkVs_len, List.length_take]; omega
  have h2 : mkVs l k = mkVs (l.take i) k ++ mkVs (x :: l.drop (i + 1)) (endV (l.take i) k) := by rw [← mkVs_app, ← e]
  rw [h2, List.getElem?_append_right (by omega), hl, Nat.sub_self]
  rfl
def lnv (l : List Vo) : List Nat := l.map fun v => v.c.length
theorem endV_lnv : ∀ (l m : List Vo) (k : Int), lnv l = lnv m → endV l k = endV m k
  | [], [], k, _ => rfl
  | c :: r, d :: s, k, h => by
    have h1 := (List.cons.inj h).1
    have h2 := (List.cons.inj h).2
    simp only [endV, h1, endV_lnv r s _ h2]
  | [], _ :: _, _, h => by simp [lnv] at h
  | _ :: _, [], _, h => by simp [lnv] at h
theorem lnv_mk : ∀ (l : List Vo) (k : Int), lnv (mkVs l k) = lnv l
  | [], _ => rfl
  | c :: r, k => by
    show (mkC c.c.length (k + 1)).length :: lnv (mkVs r _) = c.c.length :: lnv r
    rw [mkC_len, lnv_mk r]
noncomputable def S_laws_heldVoteS : FSpec := iF (α := List Vo × Int) (fun a => [one (vsF (mkVs a.1 a.2)), I a.2]) (fun a => SmVs2 a.1 ∧ 0 ≤ a.2 ∧ a.2 ≤ 1099511627776) (fun a => endV a.1 a.2) (fun _ => rfl)
theorem K_laws_heldVoteS {l : List Vo} {k : Int} {r : AV} (h : S_laws_heldVoteS.post [one (vsF (mkVs l k)), I k] r) : r = I (endV l k) := by
  obtain ⟨⟨m, j⟩, h1, h2⟩ := h
  have e1 := vsF_inj.1 (one_inj.1 (List.cons.inj h1).1)
  have e2 := aI_inj.1 (List.cons.inj (List.cons.inj h1).2).1
  dsimp only at e1 e2 h2
  subst e2
  have e3 : lnv l = lnv m := by rw [← lnv_mk l k, e1, lnv_mk]
  rw [h2, endV_lnv l m k e3]
/-! ### Clone, and one more -/
def cloneO (l : List Vo) : List (Option Ob) := nV.obs l ++ [some (nV.ob (· + 1) l)]
theorem cloneO_len {l : List Vo} : (cloneO l).length = l.length + 2 := by simp [cloneO, Nest.obs_len]
theorem cloneO_lt {l : List Vo} {j : Nat} (h : j < l.length + 1) : (cloneO l)[j]? = (nV.obs l)[j]? := List.getElem?_append_left (by rw [Nest.obs_len]; exact h)
theorem cloneO_end {l : List Vo} : (cloneO l)[l.length + 1]? = some (some (nV.ob (· + 1) l)) := by
  unfold cloneO
  rw [List.getElem?_append_right (by rw [Nest.obs_len]; omega), Nest.obs_len]; simp
theorem okOb_le {n m : Nat} (h : n ≤ m) {o : Ob} (ho : okOb (· < n) o) : okOb (· < m) o := okOb_mono (fun k hk => Nat.lt_of_lt_of_le hk h) ho
theorem cloneO_ok {l : List Vo} : ∀ (j : Nat) o, (cloneO l)[j]? = some (some o) → okOb (· < (cloneO l).length) o := by
  intro j o h
  rw [cloneO_len]
  rcases Nat.lt_trichotomy j (l.length + 1) with hj | hj | hj
  · rw [cloneO_lt hj] at h
    have := Nest.obs_ok j o h
    rw [Nest.obs_len] at this
    exact okOb_le (by omega) this
  · subst hj
    rw [cloneO_end] at h
    cases h; exact Nest.ob_ok (by omega)
  · rw [List.getElem?_eq_none (by rw [cloneO_len]; omega)] at h; cases h
def S_slices_Clone_VoteS_e : MSpec := mkM (α := List Vo) (fun _ => [ow0]) nV.In (fun l => l.length ≤ LIM) (fun l r obs' => (l = [] ∧ r = .w (.o .e0) ∧ obs' = nV.obs l) ∨ (r = .w (.o (.ow (l.length + 1))) ∧ obs' = cloneO l)) 0
  (fun l _ => ⟨_, _, .inr ⟨rfl, rfl⟩, okw (by rw [cloneO_len]; omega), cloneO_ok⟩)
  (fun l r obs' h => by
    rcases h with ⟨_, _, h⟩ | ⟨_, h⟩
    · rw [h, Nest.obs_len, Nest.In_len]; omega
    · rw [h, cloneO_len, Nest.In_len]; omega)
theorem K_clone_e {l : List Vo} {r : AV} {obs' : List (Option Ob)} (h : S_slices_Clone_VoteS_e.post [ow0] (nV.In l) r obs') : (l = [] ∧ r = .w (.o .e0) ∧ obs' = nV.obs l) ∨ (r = .w (.o (.ow (l.length + 1))) ∧ obs' = cloneO l) :=
  mkM_post (R := fun l r obs' => (l = [] ∧ r = .w (.o .e0) ∧ obs' = nV.obs l) ∨ (r = .w (.o (.ow (l.length + 1))) ∧ obs' = cloneO l)) (enc := fun _ => [ow0]) (ob := nV.In) (fun _ _ _ h => Nest.In_inj h) h
def S_cloneV : MSpec := mkM (α := List Vo) (fun _ => [ow0]) nV.In (fun l => l.length ≤ LIM) (fun l r obs' => r = .w (.o (.ow (l.length + 1))) ∧ obs' = cloneO l) 0
  (fun l _ => ⟨_, _, ⟨rfl, rfl⟩, okw (by rw [cloneO_len]; omega), cloneO_ok⟩)
  (fun l r obs' ⟨_, h⟩ => by rw [h, cloneO_len, Nest.In_len]; omega)
theorem cloneO_nc {l : List Vo} (j : Nat) (cs : List AC) : (cloneO l)[j]? ≠ some (some (.cells cs)) := by
  intro h
  have hj := (List.getElem?_eq_some_iff.1 h).1
  rw [cloneO_len] at hj
  by_cases h1 : j < l.length + 1
  · rw [cloneO_lt h1] at h
    cases j with
    | zero => rw [Nest.obs_at0] at h; cases h
    | succ j => rw [Nest.obs_at (List.getElem?_eq_getElem (show j < l.length by omega))] at h; cases h
  · have h3 : j = l.length + 1 := by omega
    subst h3
    rw [cloneO_end] at h; cases h
def S_slices_Clone_VoteS_o : MSpec := { S_cloneV with
  ar := true
  har := by
    intro _ args obs r obs' h j cs
    obtain ⟨l, -, -, -, h⟩ := h
    rw [h]; exact cloneO_nc j cs }
theorem K_clone_o {l : List Vo} {r : AV} {obs' : List (Option Ob)} (h : S_slices_Clone_VoteS_o.post [ow0] (nV.In l) r obs') : r = .w (.o (.ow (l.length + 1))) ∧ obs' = cloneO l :=
  mkM_post (R := fun l r obs' => r = .w (.o (.ow (l.length + 1))) ∧ obs' = cloneO l) (enc := fun _ => [ow0]) (ob := nV.In) (fun _ _ _ h => Nest.In_inj h) (show S_cloneV.post [ow0] (nV.In l) r obs' from h)
/-- An empty slice that is handed back is as well an empty array, new. -/
theorem valid_e0o {P : Program} {f : Nat} {S S' : MSpec} (hv : ValidM P f S) (hc : S.cost = S'.cost) (hpre : ∀ args obs, S'.pre args obs → S.pre args obs)
    (hpost : ∀ args obs r obs', S'.pre args obs → S.post args obs r obs' → (r = .w (.o .e0) ∧ ∃ T sz, S'.post args obs (.w (.o (.ow obs'.length))) (obs' ++ [some (.arr T sz [])])) ∨ S'.post args obs r obs') : ValidM P f S' := by
  refine ⟨hv.1, fun args obs rm hp hlim => ?_⟩
  intro V O own w vals hsub hO hown huniq hvo hobs hargs
  refine (hv.2 args obs rm (hpre _ _ hp) (by rw [hc]; exact hlim) V O own w vals hsub hO hown huniq hvo hobs hargs).mono ?_
  rintro e w' ⟨v, r, obs', V', O', own', he, q1, q2, q3, q4, q5, q6, q7, q8, q9, q10, q11, q12⟩
  rcases hpost _ _ _ _ hp q1 with ⟨rfl, T, sz, hob⟩ | hq
  · obtain ⟨⟨A, hA⟩, h1⟩ := q2
    have hle : ∀ k u, O' k = some u → (if k = obs'.length then some v else O' k) = some u := fun k u e => by
      have := q6 k u e
      rw [if_neg (by omega)]; exact e
    refine ⟨v, _, _, V', fun k => if k = obs'.length then some v else O' k, own', he, hob, ⟨⟨by show (if _ = _ then _ else _) = _; rw [if_pos rfl], h1 (by simp)⟩, fun _ => h1 (by simp)⟩, q3, q4, fun k u e => hle k u (q5 k u e), fun k u e => ?_, fun k ob e => ?_, fun b o u e => ?_, fun b k e => ?_, q10, q11, q12⟩
    · rw [List.length_append]
      simp only at e
      split at e
      · rename_i hk; simp; omega
      · have := q6 k u e; omega
    · rcases Nat.lt_or_ge k obs'.length with hk | hk
      · rw [List.getElem?_append_left hk] at e
        have := q7 k ob e
        rw [hc] at this
        exact this.mono (Vw.le_refl _) hle (fun b hb => ⟨hb, rfl⟩) (Nat.le_refl _)
      · rw [List.getElem?_append_right hk] at e
        have hk0 : k - obs'.length = 0 := by
          have := (List.getElem?_eq_some_iff.1 e).1
          simp at this; omega
        rw [hk0] at e
        simp only [List.getElem?_cons_zero, Option.some.injEq] at e
        subst e
        refine ⟨fun j x hx => by simp at hx, .inl ⟨rfl, A, ?_⟩⟩
        show (if k = obs'.length then some v else O' k) = _
        rw [if_pos (by omega), hA]
    · rcases q8 b o u e with h | ⟨k, T, sz, n, h2, h3, h4⟩
      · exact .inl h
      · refine .inr ⟨k, T, sz, n, h2, ?_, h4⟩
        rw [List.getElem?_append_left (List.getElem?_eq_some_iff.1 h3).1]; exact h3
    · obtain ⟨h2, h3, h4⟩ := q9 b k e
      exact ⟨by rw [List.length_append]; omega, h3, h4⟩
  · exact ⟨v, r, obs', V', O', own', he, hq, q2, q3, q4, q5, q6, fun k ob e => by have := q7 k ob e; rw [hc] at this; exact this, q8, q9, q10, q11, q12⟩
/-- Votes with one more. -/
def withO (l : List Vo) (v : Vo) : List (Option Ob) := nV.obs l ++ [some (itO v.c), some (nV.ob (· + 1) (l ++ [v]))]
theorem withO_len {l : List Vo} {v : Vo} : (withO l v).length = l.length + 3 := by simp [withO, Nest.obs_len]
theorem withO_lt {l : List Vo} {v : Vo} {j : Nat} (h : j < l.length + 1) : (withO l v)[j]? = (nV.obs l)[j]? := List.getElem?_append_left (by rw [Nest.obs_len]; exact h)
theorem withO_new {l : List Vo} {v : Vo} : (withO l v)[l.length + 1]? = some (some (itO v.c)) := by
  unfold withO
  rw [List.getElem?_append_right (by rw [Nest.obs_len]; omega), Nest.obs_len]; simp
theorem withO_end {l : List Vo} {v : Vo} : (withO l v)[l.length + 2]? = some (some (nV.ob (· + 1) (l ++ [v]))) := by
  unfold withO
  rw [List.getElem?_append_right (by rw [Nest.obs_len]; omega), Nest.obs_len, show l.length + 2 - (l.length + 1) = 1 by omega]; rfl
theorem withO_ok {l : List Vo} {v : Vo} : ∀ (j : Nat) o, (withO l v)[j]? = some (some o) → okOb (· < (withO l v).length) o := by
  intro j o h
  have hj := (List.getElem?_eq_some_iff.1 h).1
  rw [withO_len] at hj ⊢
  by_cases h1 : j < l.length + 1
  · rw [withO_lt h1] at h
    have := Nest.obs_ok j o h
    rw [Nest.obs_len] at this
    exact okOb_le (by omega) this
  · by_cases h2 : j = l.length + 1
    · subst h2
      rw [withO_new] at h
      cases h; exact arA_ok _
    · have h3 : j = l.length + 2 := by omega
      subst h3
      rw [withO_end] at h
      cases h; exact Nest.ob_ok (by simp)
/-- The chain that a vote to be added brings: frozen, or that of a vote that is there. -/
def chX (l : List Vo) : List It ⊕ Nat → List It
  | .inl c => c
  | .inr i => match l[i]? with | some u => u.c | none => []
def acF (f : Nat → Nat) : List It ⊕ Nat → AC
  | .inl c => .c (chF c)
  | .inr i => .ow (f i)
def okX (l : List Vo) : List It ⊕ Nat → Prop
  | .inl c => c.length ≤ LIM
  | .inr i => ∃ u, l[i]? = some u ∧ u.c.length ≤ LIM
theorem acF_inj {x y : List It ⊕ Nat} (h : acF (· + 1) x = acF (· + 1) y) : x = y := by
  cases x <;> cases y
  · simp only [acF, AC.c.injEq] at h; rw [chF_inj.1 h]
  · cases h
  · cases h
  · simp only [acF, AC.ow.injEq] at h; rw [Nat.succ.inj h]
theorem acF_ren {l : List Vo} {x : List It ⊕ Nat} {ρ f : Nat → Nat} (hx : okX l x) (h : ∀ j, j < l.length → ρ (j + 1) = f j) : (acF (· + 1) x).ren ρ = acF f x := by
  cases x with
  | inl c => rfl
  | inr i =>
    obtain ⟨u, hu, _⟩ := hx
    exact congrArg AC.ow (h i (List.getElem?_eq_some_iff.1 hu).1)
theorem okX_fit {l : List Vo} {x : List It ⊕ Nat} (h : okX l x) : (chX l x).length ≤ LIM := by
  cases x with
  | inl c => exact h
  | inr i => obtain ⟨u, hu, h⟩ := h; simp only [chX, hu]; exact h
def S_impl_votes_with_o : MSpec := mkM (α := List Vo × Int × (List It ⊕ Nat)) (fun a => [ow0, .w (.g [cI a.2.1, acF (· + 1) a.2.2])]) (fun a => nV.In a.1) (fun a => okX a.1 a.2.2 ∧ a.1.length ≤ SM) (fun a r obs' => r = .w (.o (.ow (a.1.length + 2))) ∧ obs' = withO a.1 ⟨a.2.1, chX a.1 a.2.2⟩) 0
  (fun a _ => ⟨_, _, ⟨rfl, rfl⟩, okw (by rw [withO_len]; omega), withO_ok⟩)
  (fun a r obs' ⟨_, h⟩ => by rw [h, withO_len, Nest.In_len]; omega)
theorem K_impl_votes_with_x {l : List Vo} {n : Int} {x : List It ⊕ Nat} {r : AV} {obs' : List (Option Ob)} (h : S_impl_votes_with_o.post [ow0, .w (.g [cI n, acF (· + 1) x])] (nV.In l) r obs') : r = .w (.o (.ow (l.length + 2))) ∧ obs' = withO l ⟨n, chX l x⟩ :=
  mkM_post (R := fun (a : List Vo × Int × (List It ⊕ Nat)) r obs' => r = .w (.o (.ow (a.1.length + 2))) ∧ obs' = withO a.1 ⟨a.2.1, chX a.1 a.2.2⟩) (enc := fun a : List Vo × Int × (List It ⊕ Nat) => [ow0, .w (.g [cI a.2.1, acF (· + 1) a.2.2])]) (ob := fun a : List Vo × Int × (List It ⊕ Nat) => nV.In a.1) (a := (l, n, x)) (fun a b h h' => by
    obtain ⟨x, y, c⟩ := a; obtain ⟨z, w, d⟩ := b
    have e1 := Nest.In_inj h'
    have e2 := (List.cons.inj (List.cons.inj h).2).1
    simp only [AV.w.injEq, AW.g.injEq, List.cons.injEq, AC.c.injEq, FV.v.injEq, Value.int.injEq, true_and, and_true] at e2
    dsimp only at e1 e2
    rw [e1, e2.1, acF_inj e2.2]) h
/-! ### marks on a vote -/
noncomputable def S_laws_markVote_o : MSpec := mkM (α := Vo × Int) (fun a => [.w (.g (voK a.1 0)), I a.2]) (fun a => [itO a.1.c]) (fun a => a.1.c.length ≤ SM ∧ 0 ≤ a.2 ∧ a.2 ≤ MK) (fun a r obs' => r = I (a.2 + 4 * a.1.c.length) ∧ obs' = [some (itO (mkC a.1.c.length a.2))]) 0
  (fun a _ => ⟨_, _, ⟨rfl, rfl⟩, trivial, ok_sg (arA_ok _)⟩) (fun a r obs' ⟨_, h⟩ => by rw [h]; simp)
theorem K_laws_markVote_o {v : Vo} {k : Int} {r : AV} {obs' : List (Option Ob)} (h : S_laws_markVote_o.post [.w (.g (voK v 0)), I k] [itO v.c] r obs') : r = I (k + 4 * v.c.length) ∧ obs' = [some (itO (mkC v.c.length k))] :=
  mkM_post (enc := fun a : Vo × Int => [.w (.g (voK a.1 0)), I a.2]) (ob := fun a => [itO a.1.c]) (a := (v, k)) (fun a b h h' => by
    obtain ⟨⟨x, c⟩, y⟩ := a; obtain ⟨⟨z, d⟩, w⟩ := b
    have e1 : c = d := itO_inj h'
    have e2 := aI_inj.1 (List.cons.inj (List.cons.inj h).2).1
    have e3 : x = z := by
      have := (List.cons.inj h).1
      simpa [voK] using this
    dsimp only at e2
    rw [e1, e2, e3]) h
end Av
end Go.Proofs.Ytdboofnogabefaa
