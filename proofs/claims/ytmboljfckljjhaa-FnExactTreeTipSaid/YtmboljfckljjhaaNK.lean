/- The walk: the law FnExactTreeTip. -/
import Derived.Test.YtmboljfckljjhaaNJ
import Derived.Test.YtmboljfckljjhaaW1
set_option linter.unusedVariables false
set_option linter.unusedSimpArgs false
namespace Go.Proofs.Ytmboljfckljjhaa
namespace Av
open Go.RowKit

attribute [local irreducible] tipT mkVs mkC endV
attribute [local irreducible] Valid ValidM
set_option maxHeartbeats 4000000 in
set_option maxRecDepth 100000 in
theorem v_laws_FnExactTreeTip : Valid Try.prog n_laws_FnExactTreeTip S_laws_FnExactTreeTip := by
  refine valid_of_swp mixed is_laws_FnExactTreeTip (by rintro _ ⟨a, rfl, _⟩; exact Nat.le_of_ble_eq_true rfl) ?_
  rintro _ rm ⟨l, rfl, hpre⟩ hl
  try dsimp only at hpre
  have hpre0 := hpre
  have hp1 := hpre
  repeat' ((conv => whnf); first
    | refine ⟨_, rfl, ?_⟩
    | refine ⟨rfl, ?_⟩
    | refine ⟨_, ((by exact hk_) : (_ : Option Ob) = _), ?_⟩
    | (refine ⟨fun hc => ?_, fun hc => ?_⟩ <;> (try simp (disch := omega) only [List.length_map, wrap64] at hc))
    | (refine callk (b := [one (vsF _), I _]) v_laws_szVoteS rfl ⟨(_, _), rfl, (by refine ⟨?_, ?_, ?_⟩ <;> (exact pr_))⟩ (.inl rfl) (by first | assumption | omega) (fun r hr => ?_); have hj := K_laws_szVoteS (a := (_, _)) hr; clear hr; obtain ⟨k, rfl, hk1, hk2⟩ := hj)
    | exact ⟨⟨_, rfl, rfl, l, rfl, (by refine congrArg B (Eq.symm (tb_pos ?_)); (try dsimp only); first | done | exact absurd True.intro hj | (exact True.intro))⟩, (by first | exact Nat.le_refl _ | omega), (by exact h0_)⟩
    | exact ⟨⟨_, rfl, rfl, l, rfl, (by refine congrArg B (Eq.symm (tb_neg ?_)); (try dsimp only); first | done | exact absurd True.intro hj | (exact True.intro))⟩, (by first | exact Nat.le_refl _ | omega), (by exact h0_)⟩
    | fail)
  have hsm : SmVs l := hk2 hc
  have hfl : FitVs l := hsm.fit
  have hln : l.length < LIM := hsm.lt
  have hln' : l.length ≤ 1048576 := hsm.1
  have hfm := tipT_sm hsm
  have hfm' : (tipT l).length ≤ 1048576 := hfm
  have hfL : (tipT l).length ≤ LIM := Nat.le_trans hfm (by decide)
  have hst : S_laws_toVoteS_o.st = 4194304 := NB_eq
  have hEb := endV_bounds l 1 fun v hv => hsm.2 v hv
  repeat' ((conv => whnf); first
    | refine ⟨_, rfl, ?_⟩
    | refine ⟨rfl, ?_⟩
    | refine ⟨_, ((by exact hk_) : (_ : Option Ob) = _), ?_⟩
    | (refine ⟨fun hc => ?_, fun hc => ?_⟩ <;> (try simp (disch := omega) only [List.length_map, wrap64] at hc))
    | (refine calle (b := [one (vsF _)]) v_laws_toVoteS rfl ⟨_, rfl, (by exact pr_)⟩ (.inl rfl) (by first | assumption | omega) (fun r hr => K_laws_toVoteS (a := _) hr) ?_)
    | (refine calle (b := [one (vsF _)]) v_spec_TreeTip rfl ⟨_, rfl, (by refine ⟨?_, ?_⟩ <;> (exact pr_))⟩ (.inl rfl) (by first | assumption | omega) (fun r hr => K_spec_TreeTip (a := _) hr) ?_)
    | fail)
  conv => whnf
  refine mq_vos' (l := l) v_laws_toVoteS_o (by exact hl) (by rfl) ⟨l, rfl, rfl, hsm⟩ (by rw [hst]; omega) (fun r obs' h => K_laws_toVoteS_o h) fun n1 H1 e1 h1k h1c h1o => ?_
  repeat' ((conv => whnf); first
    | refine ⟨_, rfl, ?_⟩
    | refine ⟨rfl, ?_⟩
    | refine ⟨_, ((by exact hk_) : (_ : Option Ob) = _), ?_⟩
    | (refine ⟨fun hc => ?_, fun hc => ?_⟩ <;> (try simp (disch := omega) only [List.length_map, wrap64] at hc))
    | fail)
  conv => whnf
  refine oq_vos' (l := l) rfl h1k h1c rfl ⟨l, rfl, hfl, hsm.1⟩ vO_impl_TreeTip (so_impl_TreeTip l) fun n2 H2 e2 h2g h2o => ?_
  have hn2 : n1 + l.length < n2 := by omega
  have h2k := (h2o n1 (by omega)).trans h1k
  have h2c : ∀ j v, l[j]? = some v → H2 (n1 + 1 + j) = some (itO v.c) := fun j v hj => (h2o _ (by have := (List.getElem?_eq_some_iff.1 hj).1; omega)).trans (h1c j v hj)
  repeat' ((conv => whnf); first
    | (refine callt (b := [one (chF (tipT l)), one (chF (tipT l))]) v_laws_eqItemS (l2 (congrArg (fun x => AV.w (.o x)) (bor_ow h2g (fcellss_f itF (tipT l)))) rfl) ⟨(tipT l, tipT l), rfl, hfL, hfL⟩ (.inr ⟨rfl, rfl⟩) (by exact hl) (fun r hr => K_laws_eqItemS (a := (tipT l, tipT l)) hr) (fun hj => ?_) (fun hj => ?_) <;> (try (exact absurd rfl hj)))
    | (refine callt (b := [one (vsF l), one (vsF l)]) v_laws_eqVoteS (l2 (congrArg (fun x => AV.w (.o x)) (bor_vos h2k h2c)) rfl) ⟨(l, l), rfl, hfl, hfl⟩ (.inr ⟨rfl, rfl⟩) (by exact hl) (fun r hr => K_laws_eqVoteS (a := (l, l)) hr) (fun hj => ?_) (fun hj => ?_) <;> (try (exact absurd rfl hj)))
    | refine ⟨_, rfl, ?_⟩
    | refine ⟨rfl, ?_⟩
    | refine ⟨_, ((by exact hk_) : (_ : Option Ob) = _), ?_⟩
    | (refine ⟨fun hc => ?_, fun hc => ?_⟩ <;> (try simp (disch := omega) only [List.length_map, wrap64] at hc) <;> (try (exfalso; first | contradiction | omega)))
    | (refine calle (b := [one (vsF _)]) v_laws_toVoteS rfl ⟨_, rfl, (by exact pr_)⟩ (.inl rfl) (by first | assumption | omega) (fun r hr => K_laws_toVoteS (a := _) hr) ?_)
    | fail)
  conv => whnf
  refine mq_vin (l := l) (l' := mkVs l 1) (k := n1) (n := 1) (m := endV l 1) v_laws_markVoteS_o (by exact hl) h2k h2c rfl ⟨(l, 1), rfl, rfl, hsm, one0, (by decide : (1 : Int) ≤ 1099511627776)⟩ (mkVs_len l 1) (fun r obs' h => K_laws_markVoteS_o h) fun H3 h3k h3c h3o => ?_
  have h3g := (h3o n2 (.inr hn2)).trans h2g
  repeat' ((conv => whnf); first
    | (refine callt (b := [one (chF (tipT l)), one (chF (tipT l))]) v_laws_eqItemS (l2 (congrArg (fun x => AV.w (.o x)) (bor_ow h3g (fcellss_f itF (tipT l)))) rfl) ⟨(tipT l, tipT l), rfl, hfL, hfL⟩ (.inr ⟨rfl, rfl⟩) (by exact hl) (fun r hr => K_laws_eqItemS (a := (tipT l, tipT l)) hr) (fun hj => ?_) (fun hj => ?_) <;> (try (exact absurd rfl hj)))
    | refine ⟨_, rfl, ?_⟩
    | refine ⟨rfl, ?_⟩
    | refine ⟨_, ((by exact hk_) : (_ : Option Ob) = _), ?_⟩
    | (refine ⟨fun hc => ?_, fun hc => ?_⟩ <;> (try simp (disch := omega) only [List.length_map, wrap64] at hc) <;> (try (exfalso; first | contradiction | omega)))
    | fail)
  conv => whnf
  refine mq_mark' (F := itF) (T := ty_impl_Item) (sz := 4) (k := n2) (l := tipT l) (l' := mkC (tipT l).length 1) (n := 1) (m := 1 + 4 * (tipT l).length) v_laws_markItemS_o (by exact hl) h3g rfl ⟨(some (tipT l), 1), rfl, rfl, fun c hc => by cases hc; exact hfm, one0, oneM⟩ (fun r obs' h => K_mark_o h) fun H4 h4g h4o => ?_
  repeat' ((conv => whnf); first
    | (refine calle (b := [one (chF (mkC (tipT l).length 1)), I 1]) v_laws_heldItemS (l2 (congrArg (fun x => AV.w (.o x)) (bor_ow h4g (fcellss_f itF _))) rfl) ⟨((tipT l).length, 1), rfl, hfm, one0, oneM⟩ (.inr ⟨rfl, rfl⟩) (by exact hl) (fun r hr => K_laws_heldItemS hr) ?_)
    | refine ⟨_, rfl, ?_⟩
    | refine ⟨rfl, ?_⟩
    | refine ⟨_, ((by exact hk_) : (_ : Option Ob) = _), ?_⟩
    | (refine ⟨fun hc => ?_, fun hc => ?_⟩ <;> (try simp (disch := omega) only [List.length_map, wrap64] at hc) <;> (try (exfalso; first | contradiction | omega)))
    | fail)
  conv => whnf
  refine mq_vos' (l := l) v_laws_toVoteS_o (by exact hl) (by rfl) ⟨l, rfl, rfl, hsm⟩ (by rw [hst]; omega) (fun r obs' h => K_laws_toVoteS_o h) fun n5 H5 e5 h5k h5c h5o => ?_
  have h5g := (h5o n2 (by omega)).trans h4g
  repeat' ((conv => whnf); first
    | refine ⟨_, rfl, ?_⟩
    | refine ⟨rfl, ?_⟩
    | refine ⟨_, ((by exact hk_) : (_ : Option Ob) = _), ?_⟩
    | (refine ⟨fun hc => ?_, fun hc => ?_⟩ <;> (try simp (disch := omega) only [List.length_map, wrap64] at hc))
    | fail)
  conv => whnf
  refine oq_vos' (l := l) rfl h5k h5c rfl ⟨l, rfl, hfl, hsm.1⟩ vO_impl_TreeTip (so_impl_TreeTip l) fun n6 H6 e6 h6g h6o => ?_
  have h6m := (h6o n2 (by omega)).trans h5g
  have h60 : H6 0 = none := by rw [h6o 0 (by omega), h5o 0 (by omega), h4o 0 (by omega), h3o 0 (.inl (by omega)), h2o 0 (by omega), h1o 0 (by omega)]; rfl
  repeat' ((conv => whnf); first
    | (refine callt (b := [one (chF (tipT l)), one (chF (tipT l))]) v_laws_eqItemS (l2 (congrArg (fun x => AV.w (.o x)) (bor_ow h6g (fcellss_f itF (tipT l)))) rfl) ⟨(tipT l, tipT l), rfl, hfL, hfL⟩ (.inr ⟨rfl, rfl⟩) (by exact hl) (fun r hr => K_laws_eqItemS (a := (tipT l, tipT l)) hr) (fun hj => ?_) (fun hj => ?_) <;> (try (exact absurd rfl hj)))
    | (refine calle (b := [one (chF (mkC (tipT l).length 1)), I 1]) v_laws_heldItemS (l2 (congrArg (fun x => AV.w (.o x)) (bor_ow h6m (fcellss_f itF _))) rfl) ⟨((tipT l).length, 1), rfl, hfm, one0, oneM⟩ (.inr ⟨rfl, rfl⟩) (by exact hl) (fun r hr => K_laws_heldItemS hr) ?_)
    | refine ⟨_, rfl, ?_⟩
    | refine ⟨rfl, ?_⟩
    | refine ⟨_, ((by exact hk_) : (_ : Option Ob) = _), ?_⟩
    | (refine ⟨fun hc => ?_, fun hc => ?_⟩ <;> (try simp (disch := omega) only [List.length_map, wrap64] at hc) <;> (try (exfalso; first | contradiction | omega)))
    | exact ⟨⟨_, rfl, rfl, l, rfl, (by refine congrArg B (Eq.symm (tb_pos ?_)); (try dsimp only); first | done | exact absurd True.intro hj | (exact True.intro))⟩, (by first | exact Nat.le_refl _ | omega), (by exact h0_)⟩
    | exact ⟨⟨_, rfl, rfl, l, rfl, (by refine congrArg B (Eq.symm (tb_neg ?_)); (try dsimp only); first | done | exact absurd True.intro hj | (exact True.intro))⟩, (by first | exact Nat.le_refl _ | omega), (by exact h0_)⟩
    | fail)
end Av
end Go.Proofs.Ytmboljfckljjhaa
