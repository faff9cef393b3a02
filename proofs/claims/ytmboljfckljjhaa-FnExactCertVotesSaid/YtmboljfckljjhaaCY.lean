/- The walk: the law FnExactCertVotes. -/
import Derived.Test.YtmboljfckljjhaaCX
set_option linter.unusedVariables false
set_option linter.unusedSimpArgs false
namespace Go.Proofs.Ytmboljfckljjhaa
namespace Av
open Go.RowKit

theorem one0 : (0 : Int) ≤ 1 := by decide
theorem oneM : (1 : Int) ≤ MK := by decide
theorem oneM2 : (1 : Int) ≤ 1099511627776 := by decide
theorem certVotes_sm {c : Ce} (h : SmCe c) : SmVs (certVotes c) := by
  refine ⟨Nat.le_trans certVotes_len (by decide), fun v hv => ?_⟩
  by_cases hok : CertOk c
  · rw [certVotes_ok hok] at hv
    obtain ⟨j, r, _, _, e⟩ := mem_rows.1 hv
    have := h.1
    rw [e, List.length_take]; omega
  · rw [certVotes_no hok] at hv; cases hv
attribute [local irreducible] certVotes mkIs mkC endIs mkVs endV
attribute [local irreducible] Valid ValidM
set_option maxHeartbeats 4000000 in
set_option maxRecDepth 100000 in
theorem v_laws_FnExactCertVotes : Valid Try.prog n_laws_FnExactCertVotes S_laws_FnExactCertVotes := by
  refine valid_of_swp mixed is_laws_FnExactCertVotes (by rintro _ ⟨a, rfl, _⟩; exact Nat.le_of_ble_eq_true rfl) ?_
  rintro _ rm ⟨c, rfl, hpre⟩ hl
  try dsimp only at hpre
  have hpre0 := hpre
  have hp1 := hpre
  have hb1 := hp1.1
  have hb2 := hp1.2
  repeat' ((conv => whnf); first
    | refine ⟨_, rfl, ?_⟩
    | refine ⟨rfl, ?_⟩
    | (refine ⟨fun hc => ?_, fun hc => ?_⟩ <;> (try simp (disch := omega) only [List.length_map, wrap64] at hc))
    | (refine callk (b := [agg (ceF ⟨_, _⟩), I _]) v_laws_szCert rfl ⟨(⟨_, _⟩, _), rfl, (by refine ⟨?_, ?_, ?_⟩ <;> (exact pr_))⟩ (.inl rfl) (by first | assumption | omega) (fun r hr => ?_); have hj := K_laws_szCert (a := (⟨_, _⟩, _)) hr; clear hr; obtain ⟨k, rfl, hk1, hk2⟩ := hj)
    | exact ⟨⟨_, rfl, rfl, c, rfl, (by refine congrArg B (Eq.symm (tb_pos ?_)); (try dsimp only); first | done | exact absurd True.intro hj | (exact True.intro))⟩, (by first | exact Nat.le_refl _ | omega), (by exact h0_)⟩
    | fail)
  have hsm : SmCe c := hk2 hc
  have hfl : FitCe c := hsm.fit
  have hbl : c.b.length ≤ 1048576 := hsm.2.1
  have hfm := certVotes_sm hsm
  have hfL : FitVs (certVotes c) := hfm.fit
  have hvl := certVotes_len (c := c)
  have hEv := endV_bounds (certVotes c) 1 hfm.2
  have hst : S_laws_toCert_o.st = 4194304 := NB_eq
  have hcl : c.c.length ≤ 1048576 := hsm.1
  have hEb := endIs_bounds c.b (1 + 4 * c.c.length) hsm.2.2
  have hEd : endCe c 1 = endIs c.b (1 + 4 * c.c.length) := rfl
  repeat' ((conv => whnf); first
    | refine ⟨_, rfl, ?_⟩
    | (refine calle (b := [agg (ceF ⟨_, _⟩)]) v_laws_toCert rfl ⟨⟨_, _⟩, rfl, (by exact pr_)⟩ (.inl rfl) (by first | assumption | omega) (fun r hr => K_laws_toCert (a := ⟨_, _⟩) hr) ?_)
    | (refine calle (b := [agg (ceF ⟨_, _⟩)]) v_spec_CertVotes rfl ⟨⟨_, _⟩, rfl, (by exact pr_)⟩ (.inl rfl) (by first | assumption | omega) (fun r hr => K_spec_CertVotes (a := ⟨_, _⟩) hr) ?_)
    | fail)
  conv => whnf
  refine mq_cert (c := c) v_laws_toCert_o (by exact hl) (by rfl) ⟨c, rfl, rfl, hsm⟩ (by rw [hst]; omega) (fun r obs' h => K_laws_toCert_o h) fun n1 H1 e1 h1k h1A h1o => ?_
  repeat' ((conv => whnf); first
    | refine ⟨_, ldc_cells hupd_at (Nat.le_of_ble_eq_true rfl), ?_⟩
    | refine ⟨_, _, hupd_at, rfl, rfl, Nat.le_of_ble_eq_true rfl, ?_⟩
    | fail)
  conv => whnf
  refine bq_nest (N := nV) (l := certVotes c) (ar := [agg (ceF c)]) nV_plain v_impl_CertVotes_o rfl (congrArg (fun x => [x]) (bor_cert (zk (zk h1k (by omega)) (by omega)) ((h1A.upd ⟨by omega, fun j _ => by show n1 + 2 + j ≠ _; omega⟩).upd ⟨by omega, fun j _ => by show n1 + 2 + j ≠ _; omega⟩))) ⟨c, rfl, rfl, hfl⟩ rfl (by omega) (fun r obs' h => K_impl_CertVotes_o h) fun n2 H2 e2 h2N h2o => ?_
  have h2x := (h2o _ (by omega)).trans hupd_at
  have h2p : H2 1 = some (.cells ((ceF c).map AC.c)) := (h2o 1 (by omega)).trans (zk (zk ((h1o 1 (by omega)).trans hupd_at) (by omega)) (by omega))
  have h20 : H2 0 = none := (h2o 0 (by omega)).trans (zk (zk ((h1o 0 (by omega)).trans (zk (by rfl) (by omega))) (by omega)) (by omega))
  have h2k : H2 n1 = some (itO c.c) := (h2o n1 (by omega)).trans (zk (zk h1k (by omega)) (by omega))
  have h2A := ((h1A.upd ⟨by omega, fun j _ => by show n1 + 2 + j ≠ _; omega⟩).upd ⟨by omega, fun j _ => by show n1 + 2 + j ≠ _; omega⟩).mono (b' := n1 + 2 + c.b.length) (H' := H2) (Nat.le_refl _) fun i hi => h2o i (by omega)
  repeat' ((conv => whnf); first
    | (refine callt (b := [one (vsF (certVotes c)), one (vsF (certVotes c))]) v_laws_eqVoteS (l2 (congrArg (fun x => AV.w (.o x)) h2N.bor) rfl) ⟨(certVotes c, certVotes c), rfl, hfL, hfL⟩ (.inr ⟨rfl, rfl⟩) (by exact hl) (fun r hr => K_laws_eqVoteS (a := (certVotes c, certVotes c)) hr) (fun hj => ?_) (fun hj => ?_) <;> (try (exact absurd rfl hj)))
    | (refine ⟨_, ldc_cells h2x (Nat.le_of_ble_eq_true rfl), ?_⟩)
    | (refine ⟨_, ldc_cells h2p (Nat.le_of_ble_eq_true rfl), ?_⟩)
    | (refine callt (b := [agg (ceF c), agg (ceF c)]) v_laws_eqCert (l2 (bor_cert h2k h2A) rfl) ⟨(c, c), rfl, hfl, hfl⟩ (.inr ⟨rfl, rfl⟩) (by exact hl) (fun r hr => K_laws_eqCert (a := (c, c)) hr) (fun hj => ?_) (fun hj => ?_) <;> (try (exact absurd rfl hj)))
    | (refine calle (b := [agg (ceF ⟨_, _⟩)]) v_laws_toCert rfl ⟨⟨_, _⟩, rfl, (by exact pr_)⟩ (.inl rfl) (by first | assumption | omega) (fun r hr => K_laws_toCert (a := ⟨_, _⟩) hr) ?_)
    | fail)
  conv => whnf
  refine mq_cin (a := n1) (k := n1 + 1) (f := fun j => n1 + 2 + j) (c := c) (c' := mkCe c 1) (n := 1) (m := endCe c 1) v_laws_markCert_o (by exact hl) h2k h2A (by omega) (fun j _ => by show n1 + 2 + j ≠ n1; omega) (by rfl) ⟨(c, 1), rfl, rfl, hsm, one0, (by decide : (1 : Int) ≤ 1099500000000)⟩ (mkIs_len _ _) (fun r obs' h => K_laws_markCert_o h) fun H3 h3k h3A h3o => ?_
  have hOff : ∀ i, i < n1 ∨ n1 + 2 + c.b.length ≤ i → H3 i = H2 i := fun i hi => h3o i (by omega) ⟨by omega, fun j _ => by show n1 + 2 + j ≠ i; omega⟩
  have h3N := h2N.same (H' := H3) (Nat.le_refl _) fun i hi => hOff i (by
    rcases Nat.lt_or_ge i n2 with h | h
    · exact absurd ⟨by omega, fun j _ => by show n2 + 1 + j ≠ i; omega⟩ hi
    · exact .inr (by omega))
  have h3p := (hOff 1 (.inl (by omega))).trans h2p
  have h30 := (hOff 0 (.inl (by omega))).trans h20
  repeat' ((conv => whnf); first
    | (refine callt (b := [one (vsF (certVotes c)), one (vsF (certVotes c))]) v_laws_eqVoteS (l2 (congrArg (fun x => AV.w (.o x)) h3N.bor) rfl) ⟨(certVotes c, certVotes c), rfl, hfL, hfL⟩ (.inr ⟨rfl, rfl⟩) (by exact hl) (fun r hr => K_laws_eqVoteS (a := (certVotes c, certVotes c)) hr) (fun hj => ?_) (fun hj => ?_) <;> (try (exact absurd rfl hj)))
    | refine ⟨rfl, ?_⟩
    | (refine ⟨fun hc => ?_, fun hc => ?_⟩ <;> (try simp (disch := omega) only [List.length_map, wrap64] at hc) <;> (try (exfalso; first | contradiction | omega)))
    | fail)
  conv => whnf
  refine mq_nin (N := nV) (l := certVotes c) (l' := mkVs (certVotes c) 1) (n := 1) (m := endV (certVotes c) 1) v_laws_markVoteS_o (by exact hl) h3N (by rfl) ⟨(certVotes c, 1), rfl, rfl, hfm, one0, oneM2⟩ (mkVs_len _ 1) (fun r obs' h => by rw [nV_obs]; exact K_laws_markVoteS_o h) fun H4 h4N h4o => ?_
  have h4p := (h4o 1 ⟨by omega, fun j _ => by show n2 + 1 + j ≠ 1; omega⟩).trans h3p
  have h40 := (h4o 0 ⟨by omega, fun j _ => by show n2 + 1 + j ≠ 0; omega⟩).trans h30
  repeat' ((conv => whnf); first
    | (refine calle (b := [one (vsF (mkVs (certVotes c) 1)), I 1]) v_laws_heldVoteS (l2 (congrArg (fun x => AV.w (.o x)) h4N.bor) rfl) ⟨(certVotes c, 1), rfl, hfm, one0, oneM2⟩ (.inr ⟨rfl, rfl⟩) (by exact hl) (fun r hr => K_laws_heldVoteS hr) ?_)
    | (refine ⟨_, ldc_cells h4p (Nat.le_of_ble_eq_true rfl), ?_⟩)
    | refine ⟨rfl, ?_⟩
    | (refine ⟨fun hc => ?_, fun hc => ?_⟩ <;> (try simp (disch := omega) only [List.length_map, wrap64] at hc) <;> (try (exfalso; first | contradiction | omega)))
    | fail)
  conv => whnf
  refine mq_cert (c := c) v_laws_toCert_o (by exact hl) (by rfl) ⟨c, rfl, rfl, hsm⟩ (by rw [hst]; omega) (fun r obs' h => K_laws_toCert_o h) fun n5 H5 e5 h5k h5A h5o => ?_
  have h5N := h4N.mono (b' := n5) (H' := H5) (by omega) fun i hi => h5o i (by omega)
  have h50 := (h5o 0 (by omega)).trans h40
  skip
  conv => whnf
  refine bq_nest (N := nV) (l := certVotes c) (ar := [agg (ceF c)]) nV_plain v_impl_CertVotes_o rfl (congrArg (fun x => [x]) (bor_cert h5k h5A)) ⟨c, rfl, rfl, hfl⟩ rfl (by omega) (fun r obs' h => K_impl_CertVotes_o h) fun n6 H6 e6 h6N h6o => ?_
  have h6M := h5N.mono (b' := n6) (H' := H6) (by omega) fun i hi => h6o i (by omega)
  have h60 := (h6o 0 (by omega)).trans h50
  repeat' ((conv => whnf); first
    | (refine callt (b := [one (vsF (certVotes c)), one (vsF (certVotes c))]) v_laws_eqVoteS (l2 (congrArg (fun x => AV.w (.o x)) h6N.bor) rfl) ⟨(certVotes c, certVotes c), rfl, hfL, hfL⟩ (.inr ⟨rfl, rfl⟩) (by exact hl) (fun r hr => K_laws_eqVoteS (a := (certVotes c, certVotes c)) hr) (fun hj => ?_) (fun hj => ?_) <;> (try (exact absurd rfl hj)))
    | (refine calle (b := [one (vsF (mkVs (certVotes c) 1)), I 1]) v_laws_heldVoteS (l2 (congrArg (fun x => AV.w (.o x)) h6M.bor) rfl) ⟨(certVotes c, 1), rfl, hfm, one0, oneM2⟩ (.inr ⟨rfl, rfl⟩) (by exact hl) (fun r hr => K_laws_heldVoteS hr) ?_)
    | refine ⟨rfl, ?_⟩
    | (refine ⟨fun hc => ?_, fun hc => ?_⟩ <;> (try simp (disch := omega) only [List.length_map, wrap64] at hc) <;> (try (exfalso; first | contradiction | omega)))
    | exact ⟨⟨_, rfl, rfl, c, rfl, (by refine congrArg B (Eq.symm (tb_pos ?_)); (try dsimp only); first | done | exact absurd True.intro hj | (exact True.intro))⟩, (by first | exact Nat.le_refl _ | omega), (by exact h0_)⟩
    | fail)
end Av
end Go.Proofs.Ytmboljfckljjhaa
