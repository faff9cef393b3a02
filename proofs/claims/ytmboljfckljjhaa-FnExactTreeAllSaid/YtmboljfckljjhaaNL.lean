/- The walk: the law FnExactTreeAll. -/
import Derived.Test.YtmboljfckljjhaaNJ
import Derived.Test.YtmboljfckljjhaaW1
set_option linter.unusedVariables false
set_option linter.unusedSimpArgs false
namespace Go.Proofs.Ytmboljfckljjhaa
namespace Av
open Go.RowKit

attribute [local irreducible] allT mkVs mkC endV mkCs endCs
attribute [local irreducible] Valid ValidM
set_option maxHeartbeats 4000000 in
set_option maxRecDepth 100000 in
theorem v_laws_FnExactTreeAll : Valid Try.prog n_laws_FnExactTreeAll S_laws_FnExactTreeAll := by
  refine valid_of_swp mixed is_laws_FnExactTreeAll (by rintro _ ⟨a, rfl, _⟩; exact Nat.le_of_ble_eq_true rfl) ?_
  rintro _ rm ⟨l, rfl, hpre⟩ hl
  try dsimp only at hpre
  have hpre0 := hpre
  have hp1 := hpre
  repeat' ((conv => whnf); first
    | refine ⟨_, rfl, ?_⟩
    | refine ⟨rfl, ?_⟩
    | refine ⟨_, ((by exact hk_) : (_ : Option Ob) = _), ?_⟩
    | (refine ⟨fun hc => ?_, fun hc => ?_⟩ <;> (try simp (disch := omega) only [List.length_map, wrap64] at hc))
    | (refine callk (b := [one (vsF _), I _]) v_laws_szVoteS rfl ⟨(_, _), rfl, (by refine ⟨?_, ?_, ?_⟩ <;> (exact pr_))⟩ (.inl rfl) (by first | assumption | omega) (fun r hr => ?_); have hj := K_laws_szVoteS (a := (_, _)) hr; clear hr; obtain ⟨k, rfl, hk1, hk2⟩ := hj)
    | exact ⟨⟨_, rfl, rfl, l, rfl, (by refine congrArg B (Eq.symm (tb_pos ?_)); (try dsimp only); first | done | exact absurd True.intro hj | (exact True.intro))⟩, (by first | exact Nat.le_refl _ | omega), (by exact h0_)⟩
    | exact ⟨⟨_, rfl, rfl, l, rfl, (by refine congrArg B (Eq.symm (tb_neg ?_)); (try dsimp only); first | done | exact absurd True.intro hj | (exact True.intro))⟩, (by first | exact Nat.le_refl _ | omega), (by exact h0_)⟩
    | fail)
  have hsm : SmVs l := hk2 hc
  have hfl : FitVs l := hsm.fit
  have hln : l.length < LIM := hsm.lt
  have hln' : l.length ≤ 1048576 := hsm.1
  have ham := allT_sm hsm
  have hal := allT_len l
  have hfL : FitCs (allT l) := ⟨Nat.le_trans ham.1 (by decide), fun c hc => Nat.le_trans (ham.2 c hc) (by decide)⟩
  have hst : S_laws_toVoteS_o.st = 4194304 := NB_eq
  have hst2 : S_impl_TreeAll_o.st = 4194304 := NB_eq
  have hEb := endV_bounds l 1 fun v hv => hsm.2 v hv
  have hEc := endCs_bounds (allT l) 1 ham.2
  repeat' ((conv => whnf); first
    | refine ⟨_, rfl, ?_⟩
    | refine ⟨rfl, ?_⟩
    | refine ⟨_, ((by exact hk_) : (_ : Option Ob) = _), ?_⟩
    | (refine ⟨fun hc => ?_, fun hc => ?_⟩ <;> (try simp (disch := omega) only [List.length_map, wrap64] at hc))
    | (refine calle (b := [one (vsF _)]) v_laws_toVoteS rfl ⟨_, rfl, (by exact pr_)⟩ (.inl rfl) (by first | assumption | omega) (fun r hr => K_laws_toVoteS (a := _) hr) ?_)
    | (refine calle (b := [one (vsF _)]) v_spec_TreeAll rfl ⟨_, rfl, (by refine ⟨?_, ?_⟩ <;> (exact pr_))⟩ (.inl rfl) (by first | assumption | omega) (fun r hr => K_spec_TreeAll (a := _) hr) ?_)
    | fail)
  conv => whnf
  refine mq_vos' (l := l) v_laws_toVoteS_o (by exact hl) (by rfl) ⟨l, rfl, rfl, hsm⟩ (by rw [hst]; omega) (fun r obs' h => K_laws_toVoteS_o h) fun n1 H1 e1 h1k h1c h1o => ?_
  repeat' ((conv => whnf); first
    | refine ⟨_, rfl, ?_⟩
    | refine ⟨rfl, ?_⟩
    | refine ⟨_, ((by exact hk_) : (_ : Option Ob) = _), ?_⟩
    | (refine ⟨fun hc => ?_, fun hc => ?_⟩ <;> (try simp (disch := omega) only [List.length_map, wrap64] at hc))
    | fail)
  conv => whnf
  refine bq_nest (N := nC) (l := allT l) (ar := [one (vsF l)]) nC_plain v_impl_TreeAll_o rfl (congrArg (fun x => [AV.w (.o x)]) (bor_vos h1k h1c)) ⟨l, rfl, rfl, hfl, hsm.1⟩ rfl (by rw [hst2]; omega) (fun r obs' h => K_nestV h) fun n2 H2 e2 h2A h2o => ?_
  have hn2 : n1 + l.length < n2 := by omega
  have h2k := (h2o n1 (by omega)).trans h1k
  have h2c : ∀ j v, l[j]? = some v → H2 (n1 + 1 + j) = some (itO v.c) := fun j v hj => (h2o _ (by have := (List.getElem?_eq_some_iff.1 hj).1; omega)).trans (h1c j v hj)
  repeat' ((conv => whnf); first
    | (refine callt (b := [one (csF (allT l)), one (csF (allT l))]) v_laws_eqItemSS (l2 (congrArg (fun x => AV.w (.o x)) h2A.bor) rfl) ⟨(allT l, allT l), rfl, hfL, hfL⟩ (.inr ⟨rfl, rfl⟩) (by exact hl) (fun r hr => K_laws_eqItemSS (a := (allT l, allT l)) hr) (fun hj => ?_) (fun hj => ?_) <;> (try (exact absurd rfl hj)))
    | (refine callt (b := [one (vsF l), one (vsF l)]) v_laws_eqVoteS (l2 (congrArg (fun x => AV.w (.o x)) (bor_vos h2k h2c)) rfl) ⟨(l, l), rfl, hfl, hfl⟩ (.inr ⟨rfl, rfl⟩) (by exact hl) (fun r hr => K_laws_eqVoteS (a := (l, l)) hr) (fun hj => ?_) (fun hj => ?_) <;> (try (exact absurd rfl hj)))
    | refine ⟨_, rfl, ?_⟩
    | refine ⟨rfl, ?_⟩
    | refine ⟨_, ((by exact hk_) : (_ : Option Ob) = _), ?_⟩
    | (refine ⟨fun hc => ?_, fun hc => ?_⟩ <;> (try simp (disch := omega) only [List.length_map, wrap64] at hc) <;> (try (exfalso; first | contradiction | omega)))
    | (refine calle (b := [one (vsF _)]) v_laws_toVoteS rfl ⟨_, rfl, (by exact pr_)⟩ (.inl rfl) (by first | assumption | omega) (fun r hr => K_laws_toVoteS (a := _) hr) ?_)
    | fail)
  conv => whnf
  refine mq_vin (l := l) (l' := mkVs l 1) (k := n1) (n := 1) (m := endV l 1) v_laws_markVoteS_o (by exact hl) h2k h2c (by rfl) ⟨(l, 1), rfl, rfl, hsm, one0, oneM2⟩ (mkVs_len l 1) (fun r obs' h => K_laws_markVoteS_o h) fun H3 h3k h3c h3o => ?_
  have h3A := h2A.same (H' := H3) (Nat.le_refl _) fun i hi => h3o i (.inr (by
    rcases Nat.lt_or_ge (n1 + l.length) i with h | h
    · exact h
    · exact absurd ⟨by omega, fun j _ => by show n2 + 1 + j ≠ i; omega⟩ hi))
  repeat' ((conv => whnf); first
    | (refine callt (b := [one (csF (allT l)), one (csF (allT l))]) v_laws_eqItemSS (l2 (congrArg (fun x => AV.w (.o x)) h3A.bor) rfl) ⟨(allT l, allT l), rfl, hfL, hfL⟩ (.inr ⟨rfl, rfl⟩) (by exact hl) (fun r hr => K_laws_eqItemSS (a := (allT l, allT l)) hr) (fun hj => ?_) (fun hj => ?_) <;> (try (exact absurd rfl hj)))
    | refine ⟨_, rfl, ?_⟩
    | refine ⟨rfl, ?_⟩
    | refine ⟨_, ((by exact hk_) : (_ : Option Ob) = _), ?_⟩
    | (refine ⟨fun hc => ?_, fun hc => ?_⟩ <;> (try simp (disch := omega) only [List.length_map, wrap64] at hc) <;> (try (exfalso; first | contradiction | omega)))
    | fail)
  conv => whnf
  refine mq_nin (N := nC) (l := allT l) (l' := mkCs (allT l) 1) (n := 1) (m := endCs (allT l) 1) v_laws_markItemSS_o (by exact hl) h3A (by rfl) ⟨(allT l, 1), rfl, rfl, ham, one0, oneM2⟩ (mkCs_len _ 1) (fun r obs' h => K_laws_markItemSS_o h) fun H4 h4A h4o => ?_
  repeat' ((conv => whnf); first
    | (refine calle (b := [one (csF (mkCs (allT l) 1)), I 1]) v_laws_heldItemSS (l2 (congrArg (fun x => AV.w (.o x)) h4A.bor) rfl) ⟨(allT l, 1), rfl, ham, one0, oneM2⟩ (.inr ⟨rfl, rfl⟩) (by exact hl) (fun r hr => K_laws_heldItemSS hr) ?_)
    | refine ⟨_, rfl, ?_⟩
    | refine ⟨rfl, ?_⟩
    | refine ⟨_, ((by exact hk_) : (_ : Option Ob) = _), ?_⟩
    | (refine ⟨fun hc => ?_, fun hc => ?_⟩ <;> (try simp (disch := omega) only [List.length_map, wrap64] at hc) <;> (try (exfalso; first | contradiction | omega)))
    | fail)
  conv => whnf
  refine mq_vos' (l := l) v_laws_toVoteS_o (by exact hl) (by rfl) ⟨l, rfl, rfl, hsm⟩ (by rw [hst]; omega) (fun r obs' h => K_laws_toVoteS_o h) fun n5 H5 e5 h5k h5c h5o => ?_
  have h5A := h4A.mono (b' := n5) (H' := H5) (by omega) fun i hi => h5o i (by omega)
  repeat' ((conv => whnf); first
    | refine ⟨_, rfl, ?_⟩
    | refine ⟨rfl, ?_⟩
    | refine ⟨_, ((by exact hk_) : (_ : Option Ob) = _), ?_⟩
    | (refine ⟨fun hc => ?_, fun hc => ?_⟩ <;> (try simp (disch := omega) only [List.length_map, wrap64] at hc))
    | fail)
  conv => whnf
  refine bq_nest (N := nC) (l := allT l) (ar := [one (vsF l)]) nC_plain v_impl_TreeAll_o rfl (congrArg (fun x => [AV.w (.o x)]) (bor_vos h5k h5c)) ⟨l, rfl, rfl, hfl, hsm.1⟩ rfl (by rw [hst2]; omega) (fun r obs' h => K_nestV h) fun n6 H6 e6 h6A h6o => ?_
  have h6B := h5A.mono (b' := n6) (H' := H6) (by omega) fun i hi => h6o i (by omega)
  have h60 : H6 0 = none := by
    rw [h6o 0 (by omega), h5o 0 (by omega), h4o 0 ⟨by omega, fun j _ => by show n2 + 1 + j ≠ 0; omega⟩, h3o 0 (.inl (by omega)), h2o 0 (by omega), h1o 0 (by omega)]; rfl
  repeat' ((conv => whnf); first
    | (refine callt (b := [one (csF (allT l)), one (csF (allT l))]) v_laws_eqItemSS (l2 (congrArg (fun x => AV.w (.o x)) h6A.bor) rfl) ⟨(allT l, allT l), rfl, hfL, hfL⟩ (.inr ⟨rfl, rfl⟩) (by exact hl) (fun r hr => K_laws_eqItemSS (a := (allT l, allT l)) hr) (fun hj => ?_) (fun hj => ?_) <;> (try (exact absurd rfl hj)))
    | (refine calle (b := [one (csF (mkCs (allT l) 1)), I 1]) v_laws_heldItemSS (l2 (congrArg (fun x => AV.w (.o x)) h6B.bor) rfl) ⟨(allT l, 1), rfl, ham, one0, oneM2⟩ (.inr ⟨rfl, rfl⟩) (by exact hl) (fun r hr => K_laws_heldItemSS hr) ?_)
    | refine ⟨_, rfl, ?_⟩
    | refine ⟨rfl, ?_⟩
    | refine ⟨_, ((by exact hk_) : (_ : Option Ob) = _), ?_⟩
    | (refine ⟨fun hc => ?_, fun hc => ?_⟩ <;> (try simp (disch := omega) only [List.length_map, wrap64] at hc) <;> (try (exfalso; first | contradiction | omega)))
    | exact ⟨⟨_, rfl, rfl, l, rfl, (by refine congrArg B (Eq.symm (tb_pos ?_)); (try dsimp only); first | done | exact absurd True.intro hj | (exact True.intro))⟩, (by first | exact Nat.le_refl _ | omega), (by exact h0_)⟩
    | exact ⟨⟨_, rfl, rfl, l, rfl, (by refine congrArg B (Eq.symm (tb_neg ?_)); (try dsimp only); first | done | exact absurd True.intro hj | (exact True.intro))⟩, (by first | exact Nat.le_refl _ | omega), (by exact h0_)⟩
    | fail)
end Av
end Go.Proofs.Ytmboljfckljjhaa
