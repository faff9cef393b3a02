/- Contracts: votes of one's own, copied, added to. -/
import Derived.Test.YtkpncekaehgbdaaNE
set_option linter.unusedVariables false
set_option linter.unusedSimpArgs false
namespace Go.Proofs.Ytkpncekaehgbdaa
namespace Av
open Go.RowKit
/-- A vote, copied: its chain is a new array. -/
noncomputable def S_impl_Vote_copied_o : MSpec := mkN (α := Vo) (fun v => [agg (voF v)]) FitV (fun v r obs' => r = .w (.g (voK v 0)) ∧ obs' = [some (itO v.c)]) 0
  (fun v _ => ⟨_, _, ⟨rfl, rfl⟩, by simp [okV, okW, okC, voK], ok_sg (arA_ok _)⟩) (fun b r obs' ⟨_, h⟩ => by rw [h]; simp)
theorem K_impl_Vote_copied_o {v : Vo} {r : AV} {obs' : List (Option Ob)} (h : S_impl_Vote_copied_o.post [agg (voF v)] [] r obs') : r = .w (.g (voK v 0)) ∧ obs' = [some (itO v.c)] :=
  mkN_post (enc := fun b => [agg (voF b)]) (a := v) (fun _ _ h => by simpa only [List.cons.injEq, and_true, agg_inj, voF_inj] using h) h
noncomputable abbrev S_impl_votes_copied_o : MSpec := S_nestV nV (fun l => l) fun l => Nat.le_succ _
/-! ### the marks stand -/
theorem mkVs_at {l : List Vo} {k : Int} {i : Nat} {x : Vo} (hx : l[i]? = some x) : (mkVs l k)[i]? = some ⟨endV (l.take i) k, mkC x.c.length (endV (l.take i) k + 1)⟩ := by
  have hi := (List.getElem?_eq_some_iff.1 hx).1
  have e : l = l.take i ++ x :: l.drop (i + 1) := by
    obtain ⟨hlt', rfl⟩ := List.getElem?_eq_some_iff.1 hx
    rw [← List.drop_eq_getElem_cons hlt', List.take_append_drop]
  have hl : (mkVs (l.take i) k).length = i := by rw [mkVs_len, List.length_take]; omega
  have h2 : mkVs l k = mkVs (l.take i) k ++ mkVs (x :: l.drop (i + 1)) (endV (l.take i) k) := by rw [← mkVs_app, ← e]
  rw [h2, List.getElem?_append_right (by omega), hl, Nat.sub_self]
  rfl
def lnv (l : List Vo) : List Nat := l.map fun v => v.c.length
theorem endV_lnv : ∀ (l m : List Vo) (k : Int), lnv l = lnv m → endV l k = endV m k
  | [], [], k, _ => rfl
  | c :: r, d :: s, k, h => by
    have h1 := (List.cons.inj h).1
    have h2 := (List.cons.inj h).2
    simp only [endV, h1, endV_lnv r s _ h2]
  | [], _ :: _, _, h => by simp [lnv] at h
  | _ :: _, [], _, h => by simp [lnv] at h
theorem lnv_mk : ∀ (l : List Vo) (k : Int), lnv (mkVs l k) = lnv l
  | [], _ => rfl
  | c :: r, k => by
    show (mkC c.c.length (k + 1)).length :: lnv (mkVs r _) = c.c.length :: lnv r
    rw [mkC_len, lnv_mk r]
noncomputable def S_laws_heldVoteS : FSpec := iF (α := List Vo × Int) (fun a => [one (vsF (mkVs a.1 a.2)), I a.2]) (fun a => SmVs2 a.1 ∧ 0 ≤ a.2 ∧ a.2 ≤ 1099511627776) (fun a => endV a.1 a.2) (fun _ => rfl)
theorem K_laws_heldVoteS {l : List Vo} {k : Int} {r : AV} (h : S_laws_heldVoteS.post [one (vsF (mkVs l k)), I k] r) : r = I (endV l k) := by
  obtain ⟨⟨m, j⟩, h1, h2⟩ := h
  have e1 := vsF_inj.1 (one_inj.1 (List.cons.inj h1).1)
  have e2 := aI_inj.1 (List.cons.inj (List.cons.inj h1).2).1
  dsimp only at e1 e2 h2
  subst e2
  have e3 : lnv l = lnv m := by rw [← lnv_mk l k, e1, lnv_mk]
  rw [h2, endV_lnv l m k e3]
end Av
end Go.Proofs.Ytkpncekaehgbdaa
