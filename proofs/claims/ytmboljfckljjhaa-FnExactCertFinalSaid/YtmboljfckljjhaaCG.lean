/- The walk: the law FnExactCertFinal. -/
import Derived.Test.YtmboljfckljjhaaCF
import Derived.Test.YtmboljfckljjhaaW1
set_option linter.unusedVariables false
set_option linter.unusedSimpArgs false
namespace Go.Proofs.Ytmboljfckljjhaa
namespace Av
open Go.RowKit

theorem one0 : (0 : Int) ≤ 1 := by decide
theorem oneM : (1 : Int) ≤ MK := by decide
attribute [local irreducible] certFin mkIs mkC endIs
attribute [local irreducible] Valid ValidM
set_option maxHeartbeats 4000000 in
set_option maxRecDepth 100000 in
theorem v_laws_FnExactCertFinal : Valid Try.prog n_laws_FnExactCertFinal S_laws_FnExactCertFinal := by
  refine valid_of_swp mixed is_laws_FnExactCertFinal (by rintro _ ⟨a, rfl, _⟩; exact Nat.le_of_ble_eq_true rfl) ?_
  rintro _ rm ⟨c, rfl, hpre⟩ hl
  try dsimp only at hpre
  have hpre0 := hpre
  have hp1 := hpre
  have hb1 := hp1.1
  have hb2 := hp1.2
  repeat' ((conv => whnf); first
    | refine ⟨_, rfl, ?_⟩
    | refine ⟨rfl, ?_⟩
    | (refine ⟨fun hc => ?_, fun hc => ?_⟩ <;> (try simp (disch := omega) only [List.length_map, wrap64] at hc))
    | (refine callk (b := [agg (ceF ⟨_, _⟩), I _]) v_laws_szCert rfl ⟨(⟨_, _⟩, _), rfl, (by refine ⟨?_, ?_, ?_⟩ <;> (exact pr_))⟩ (.inl rfl) (by first | assumption | omega) (fun r hr => ?_); have hj := K_laws_szCert (a := (⟨_, _⟩, _)) hr; clear hr; obtain ⟨k, rfl, hk1, hk2⟩ := hj)
    | exact ⟨⟨_, rfl, rfl, c, rfl, (by refine congrArg B (Eq.symm (tb_pos ?_)); (try dsimp only); first | done | exact absurd True.intro hj | (exact True.intro))⟩, (by first | exact Nat.le_refl _ | omega), (by exact h0_)⟩
    | fail)
  have hsm : SmCe c := hk2 hc
  have hfl : FitCe c := hsm.fit
  have hbl : c.b.length ≤ 1048576 := hsm.2.1
  have hfm := certFin_sm hsm
  have hfm' : (certFin c).length ≤ 1048576 := hfm
  have hfL : (certFin c).length ≤ LIM := Nat.le_trans hfm (by decide)
  have hst : S_laws_toCert_o.st = 4194304 := NB_eq
  have hcl : c.c.length ≤ 1048576 := hsm.1
  have hEb := endIs_bounds c.b (1 + 4 * c.c.length) hsm.2.2
  have hEd : endCe c 1 = endIs c.b (1 + 4 * c.c.length) := rfl
  repeat' ((conv => whnf); first
    | refine ⟨_, rfl, ?_⟩
    | (refine calle (b := [agg (ceF ⟨_, _⟩)]) v_laws_toCert rfl ⟨⟨_, _⟩, rfl, (by exact pr_)⟩ (.inl rfl) (by first | assumption | omega) (fun r hr => K_laws_toCert (a := ⟨_, _⟩) hr) ?_)
    | (refine calle (b := [agg (ceF ⟨_, _⟩)]) v_spec_CertFinal rfl ⟨⟨_, _⟩, rfl, (by exact pr_)⟩ (.inl rfl) (by first | assumption | omega) (fun r hr => K_spec_CertFinal (a := ⟨_, _⟩) hr) ?_)
    | fail)
  conv => whnf
  refine mq_cert (c := c) v_laws_toCert_o (by exact hl) (by rfl) ⟨c, rfl, rfl, hsm⟩ (by rw [hst]; omega) (fun r obs' h => K_laws_toCert_o h) fun n1 H1 e1 h1k h1A h1o => ?_
  repeat' ((conv => whnf); first
    | refine ⟨_, ldc_cells hupd_at (Nat.le_of_ble_eq_true rfl), ?_⟩
    | refine ⟨_, _, hupd_at, rfl, rfl, Nat.le_of_ble_eq_true rfl, ?_⟩
    | fail)
  conv => whnf
  refine oq_new (ar := [agg (ceF c)]) (congrArg (fun x => [x]) (bor_cert (zk (zk h1k (by omega)) (by omega)) ((h1A.upd ⟨by omega, fun j _ => by show n1 + 2 + j ≠ _; omega⟩).upd ⟨by omega, fun j _ => by show n1 + 2 + j ≠ _; omega⟩))) ⟨c, rfl, hfl⟩ vO_impl_CertFinal (so_impl_CertFinal c) fun n2 H2 e2 h2g h2o => ?_
  have h2x := (h2o _ (by omega)).trans hupd_at
  have h2p : H2 1 = some (.cells ((ceF c).map AC.c)) := (h2o 1 (by omega)).trans (zk (zk ((h1o 1 (by omega)).trans hupd_at) (by omega)) (by omega))
  have h20 : H2 0 = none := (h2o 0 (by omega)).trans (zk (zk ((h1o 0 (by omega)).trans (zk (by rfl) (by omega))) (by omega)) (by omega))
  have h2k : H2 n1 = some (itO c.c) := (h2o n1 (by omega)).trans (zk (zk h1k (by omega)) (by omega))
  have h2A := ((h1A.upd ⟨by omega, fun j _ => by show n1 + 2 + j ≠ _; omega⟩).upd ⟨by omega, fun j _ => by show n1 + 2 + j ≠ _; omega⟩).mono (b' := n1 + 2 + c.b.length) (H' := H2) (Nat.le_refl _) fun i hi => h2o i (by omega)
  repeat' ((conv => whnf); first
    | (refine callt (b := [one (chF (certFin c)), one (chF (certFin c))]) v_laws_eqItemS (l2 (congrArg (fun x => AV.w (.o x)) (bor_ow h2g (fcellss_f itF (certFin c)))) rfl) ⟨(certFin c, certFin c), rfl, hfL, hfL⟩ (.inr ⟨rfl, rfl⟩) (by exact hl) (fun r hr => K_laws_eqItemS (a := (certFin c, certFin c)) hr) (fun hj => ?_) (fun hj => ?_) <;> (try (exact absurd rfl hj)))
    | (refine ⟨_, ldc_cells h2x (Nat.le_of_ble_eq_true rfl), ?_⟩)
    | (refine ⟨_, ldc_cells h2p (Nat.le_of_ble_eq_true rfl), ?_⟩)
    | (refine callt (b := [agg (ceF c), agg (ceF c)]) v_laws_eqCert (l2 (bor_cert h2k h2A) rfl) ⟨(c, c), rfl, hfl, hfl⟩ (.inr ⟨rfl, rfl⟩) (by exact hl) (fun r hr => K_laws_eqCert (a := (c, c)) hr) (fun hj => ?_) (fun hj => ?_) <;> (try (exact absurd rfl hj)))
    | (refine calle (b := [agg (ceF ⟨_, _⟩)]) v_laws_toCert rfl ⟨⟨_, _⟩, rfl, (by exact pr_)⟩ (.inl rfl) (by first | assumption | omega) (fun r hr => K_laws_toCert (a := ⟨_, _⟩) hr) ?_)
    | fail)
  conv => whnf
  refine mq_cin (a := n1) (k := n1 + 1) (f := fun j => n1 + 2 + j) (c := c) (c' := mkCe c 1) (n := 1) (m := endCe c 1) v_laws_markCert_o (by exact hl) h2k h2A (by omega) (fun j _ => by show n1 + 2 + j ≠ n1; omega) (by rfl) ⟨(c, 1), rfl, rfl, hsm, one0, (by decide : (1 : Int) ≤ 1099500000000)⟩ (mkIs_len _ _) (fun r obs' h => K_laws_markCert_o h) fun H3 h3k h3A h3o => ?_
  have hOff : ∀ i, i < n1 ∨ n1 + 2 + c.b.length ≤ i → H3 i = H2 i := fun i hi => h3o i (by omega) ⟨by omega, fun j _ => by show n1 + 2 + j ≠ i; omega⟩
  have h3g := (hOff n2 (.inr (by omega))).trans h2g
  have h3p := (hOff 1 (.inl (by omega))).trans h2p
  have h30 := (hOff 0 (.inl (by omega))).trans h20
  repeat' ((conv => whnf); first
    | (refine callt (b := [one (chF (certFin c)), one (chF (certFin c))]) v_laws_eqItemS (l2 (congrArg (fun x => AV.w (.o x)) (bor_ow h3g (fcellss_f itF (certFin c)))) rfl) ⟨(certFin c, certFin c), rfl, hfL, hfL⟩ (.inr ⟨rfl, rfl⟩) (by exact hl) (fun r hr => K_laws_eqItemS (a := (certFin c, certFin c)) hr) (fun hj => ?_) (fun hj => ?_) <;> (try (exact absurd rfl hj)))
    | refine ⟨rfl, ?_⟩
    | (refine ⟨fun hc => ?_, fun hc => ?_⟩ <;> (try simp (disch := omega) only [List.length_map, wrap64] at hc) <;> (try (exfalso; first | contradiction | omega)))
    | fail)
  conv => whnf
  refine mq_mark' (F := itF) (T := ty_impl_Item) (sz := 4) (k := n2) (l := certFin c) (l' := mkC (certFin c).length 1) (n := 1) (m := 1 + 4 * (certFin c).length) v_laws_markItemS_o (by exact hl) h3g (by rfl) ⟨(some (certFin c), 1), rfl, rfl, fun d hd => by cases hd; exact hfm, one0, oneM⟩ (fun r obs' h => K_mark_o h) fun H4 h4g h4o => ?_
  have h4p := (h4o 1 (by omega)).trans h3p
  have h40 := (h4o 0 (by omega)).trans h30
  repeat' ((conv => whnf); first
    | (refine calle (b := [one (chF (mkC (certFin c).length 1)), I 1]) v_laws_heldItemS (l2 (congrArg (fun x => AV.w (.o x)) (bor_ow h4g (fcellss_f itF _))) rfl) ⟨((certFin c).length, 1), rfl, hfm, one0, oneM⟩ (.inr ⟨rfl, rfl⟩) (by exact hl) (fun r hr => K_laws_heldItemS hr) ?_)
    | (refine ⟨_, ldc_cells h4p (Nat.le_of_ble_eq_true rfl), ?_⟩)
    | refine ⟨rfl, ?_⟩
    | (refine ⟨fun hc => ?_, fun hc => ?_⟩ <;> (try simp (disch := omega) only [List.length_map, wrap64] at hc) <;> (try (exfalso; first | contradiction | omega)))
    | fail)
  conv => whnf
  refine mq_cert (c := c) v_laws_toCert_o (by exact hl) (by rfl) ⟨c, rfl, rfl, hsm⟩ (by rw [hst]; omega) (fun r obs' h => K_laws_toCert_o h) fun n5 H5 e5 h5k h5A h5o => ?_
  have h5g := (h5o n2 (by omega)).trans h4g
  have h50 := (h5o 0 (by omega)).trans h40
  skip
  conv => whnf
  refine oq_new (ar := [agg (ceF c)]) (congrArg (fun x => [x]) (bor_cert h5k h5A)) ⟨c, rfl, hfl⟩ vO_impl_CertFinal (so_impl_CertFinal c) fun n6 H6 e6 h6g h6o => ?_
  have h6m := (h6o n2 (by omega)).trans h5g
  have h60 := (h6o 0 (by omega)).trans h50
  repeat' ((conv => whnf); first
    | (refine callt (b := [one (chF (certFin c)), one (chF (certFin c))]) v_laws_eqItemS (l2 (congrArg (fun x => AV.w (.o x)) (bor_ow h6g (fcellss_f itF (certFin c)))) rfl) ⟨(certFin c, certFin c), rfl, hfL, hfL⟩ (.inr ⟨rfl, rfl⟩) (by exact hl) (fun r hr => K_laws_eqItemS (a := (certFin c, certFin c)) hr) (fun hj => ?_) (fun hj => ?_) <;> (try (exact absurd rfl hj)))
    | (refine calle (b := [one (chF (mkC (certFin c).length 1)), I 1]) v_laws_heldItemS (l2 (congrArg (fun x => AV.w (.o x)) (bor_ow h6m (fcellss_f itF _))) rfl) ⟨((certFin c).length, 1), rfl, hfm, one0, oneM⟩ (.inr ⟨rfl, rfl⟩) (by exact hl) (fun r hr => K_laws_heldItemS hr) ?_)
    | refine ⟨rfl, ?_⟩
    | (refine ⟨fun hc => ?_, fun hc => ?_⟩ <;> (try simp (disch := omega) only [List.length_map, wrap64] at hc) <;> (try (exfalso; first | contradiction | omega)))
    | exact ⟨⟨_, rfl, rfl, c, rfl, (by refine congrArg B (Eq.symm (tb_pos ?_)); (try dsimp only); first | done | exact absurd True.intro hj | (exact True.intro))⟩, (by first | exact Nat.le_refl _ | omega), (by exact h0_)⟩
    | fail)
end Av
end Go.Proofs.Ytmboljfckljjhaa
