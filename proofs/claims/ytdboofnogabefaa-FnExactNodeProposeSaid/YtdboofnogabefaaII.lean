/- The walk: the law FnExactNodePropose. -/
import Derived.Test.YtdboofnogabefaaIH
import Derived.Test.YtdboofnogabefaaIF
import Derived.Test.YtdboofnogabefaaJ51
set_option linter.unusedVariables false
set_option linter.unusedSimpArgs false
namespace Go.Proofs.Ytdboofnogabefaa
namespace Av
open Go.RowKit
theorem propT_two {n : Nd} {p : Pa} (h : SmVs n.seen) : SmVs2 (propT n p).1.seen ∧ (propT n p).2.1.c.length ≤ SM := by
  have hl : n.seen.length ≤ 1048576 := h.1
  by_cases hok : NodeOk n ∧ PayOk p
  · rw [show propT n p = propN false n p from by unfold propT; rw [tb_pos hok]; rfl]
    have hV := hok.1.2.2.2.2.1
    have htl : (tip n.seen).length ≤ 16 := by rw [← tipM_eq hV]; exact tipM_len fun u hu => (hV.ok' hu).2.2.2
    have hC : (tipX false n.seen ++ [(⟨n.ep, p⟩ : It)]).length ≤ SM := by
      rw [List.length_append, List.length_singleton]
      show (tip n.seen).length + 1 ≤ 1048576
      omega
    unfold propN
    split
    · unfold voteN
      split
      · exact ⟨h.two, Nat.zero_le _⟩
      · refine ⟨⟨by rw [List.length_append]; simp only [List.length_cons, List.length_nil]; omega, fun u hu => ?_⟩, hC⟩
        rcases List.mem_append.1 hu with hu | hu
        · exact h.2 u hu
        · rw [List.mem_singleton.1 hu]; exact hC
    · exact ⟨h.two, Nat.zero_le _⟩
  · rw [show propT n p = (zNd, zVo, false) from by unfold propT; rw [tb_neg hok]; rfl]
    exact ⟨⟨Nat.zero_le _, fun u hu => by cases hu⟩, Nat.zero_le _⟩
set_option maxHeartbeats 4000000 in
set_option maxRecDepth 100000 in
theorem v_laws_heldVote : Valid Try.prog n_laws_heldVote S_laws_heldVote := by
  refine valid_of_swp mixed is_laws_heldVote (by rintro _ ⟨a, rfl, _⟩; exact Nat.le_of_ble_eq_true rfl) ?_
  rintro _ rm ⟨⟨v, k⟩, rfl, hsm, hk0, hkM⟩ hl
  dsimp only at hsm hk0 hkM
  repeat' ((conv => whnf); first
    | (refine calle (b := [one (chF (mkC v.c.length k)), I k]) v_laws_heldItemS rfl ⟨(v.c.length, k), rfl, hsm, hk0, hkM⟩ (.inl rfl) (by first | assumption | omega) (fun r hr => K_laws_heldItemS hr) ?_)
    | refine ⟨_, rfl, ?_⟩
    | refine ⟨rfl, ?_⟩
    | refine ⟨_, ldc_cells hupd_at (Nat.le_of_ble_eq_true rfl), ?_⟩
    | refine ⟨_, ldc_cells (by first | assumption | exact zk ‹_› (by omega) | exact zk (zk ‹_› (by omega)) (by omega)) (Nat.le_of_ble_eq_true rfl), ?_⟩
    | (refine ⟨fun hc => ?_, fun hc => ?_⟩ <;> (try simp (disch := omega) only [List.length_map, wrap64] at hc))
    | fail)
  · exfalso; omega
  · exact ⟨⟨_, rfl, rfl, (v, k), rfl, rfl⟩, (by first | exact Nat.le_refl _ | exact Nat.le_add_right _ _), h0_⟩
attribute [local irreducible] mkC mkVs endV propT
attribute [local irreducible] Valid ValidM
set_option maxHeartbeats 4000000 in
set_option maxRecDepth 100000 in
theorem v_laws_FnExactNodePropose : Valid Try.prog n_laws_FnExactNodePropose S_laws_FnExactNodePropose := by
  refine valid_of_swp mixed is_laws_FnExactNodePropose (by rintro _ ⟨a, rfl, _⟩; exact Nat.le_of_ble_eq_true rfl) ?_
  rintro _ rm ⟨⟨n, p⟩, rfl, hpre⟩ hl
  try dsimp only at hpre
  have hpre0 := hpre
  have hp1 := hpre
  have cc_laws_FnExactNodePropose : S_laws_FnExactNodePropose.cost = 0 := rfl
  have cc_laws_szNode : S_laws_szNode.cost = 0 := rfl
  have cc_laws_toNode : S_laws_toNode.cost = 0 := rfl
  have cc_laws_toPay : S_laws_toPay.cost = 0 := rfl
  have cc_spec_NodePropose : S_spec_NodePropose.cost = 0 := rfl
  have cc_laws_eqNode : S_laws_eqNode.cost = 0 := rfl
  have cc_laws_eqVote : S_laws_eqVote.cost = 0 := rfl
  repeat' ((conv => whnf); first
    | refine ⟨_, rfl, ?_⟩
    | refine ⟨rfl, ?_⟩
    | refine ⟨_, ldc_cells hupd_at (Nat.le_of_ble_eq_true rfl), ?_⟩
    | refine ⟨_, ldc_cells (by first | assumption | exact zk ‹_› (by omega) | exact zk (zk ‹_› (by omega)) (by omega)) (Nat.le_of_ble_eq_true rfl), ?_⟩
    | refine ⟨_, _, hupd_at, rfl, rfl, Nat.le_of_ble_eq_true rfl, ?_⟩
    | refine ⟨_, _, rfl, rfl, rfl, Nat.le_of_ble_eq_true rfl, ?_⟩
    | (refine ⟨?_, _, (?_ : (_ : Option Ob) = _), rfl, rfl, ?_, ?_⟩; rotate_left; (exact hk_); exact Nat.le_of_ble_eq_true rfl)
    | refine ⟨_, _, _, _, ((by exact hk_) : (_ : Option Ob) = _), fill_at (by omega), rfl, rfl, Nat.le_of_ble_eq_true rfl, ?_⟩
    | refine ⟨_, _, _, _, ((by exact hk_) : (_ : Option Ob) = _), at_mapA (by assumption), rfl, rfl, Nat.le_of_ble_eq_true rfl, ?_⟩
    | refine ⟨_, ldc_pa (by exact hk_) (at_mapA (by assumption)) (Nat.le_of_ble_eq_true rfl), ?_⟩
    | refine ⟨_, ((by exact hk_) : (_ : Option Ob) = _), ?_⟩
    | (refine ⟨fun hc => ?_, fun hc => ?_⟩ <;> (try simp (disch := omega) only [List.length_map, wrap64] at hc))
    | (refine callk (b := [agg (ndF ⟨_, _, _, _⟩), I _]) v_laws_szNode rfl ⟨(⟨_, _, _, _⟩, _), rfl, (by refine ⟨?_, ?_, ?_⟩ <;> (exact pr_))⟩ (.inl rfl) (by first | assumption | omega) (fun r hr => ?_); have hj := K_laws_szNode (a := (⟨_, _, _, _⟩, _)) hr; clear hr; obtain ⟨k, rfl, hk1, hk2⟩ := hj)
    | exact ⟨⟨_, rfl, rfl, (n, p), rfl, (by refine congrArg B (Eq.symm (tb_pos ?_)); (try dsimp only); first | done | exact absurd True.intro hj | (exact True.intro))⟩, (by first | exact Nat.le_refl _ | omega), (by exact h0_)⟩
    | exact ⟨⟨_, rfl, rfl, (n, p), rfl, (by refine congrArg B (Eq.symm (tb_neg ?_)); (try dsimp only); first | done | exact absurd True.intro hj | (exact True.intro))⟩, (by first | exact Nat.le_refl _ | omega), (by exact h0_)⟩
    | fail)
  have hsm : SmVs n.seen := hk2 hc
  have hfl : FitVs n.seen := hsm.fit
  have hln : n.seen.length ≤ 1048576 := hsm.1
  have hlB : n.seen.length + 20 ≤ NB := by rw [NB_eq]; omega
  have hst : S_laws_toNode_o.st = NB := rfl
  have hsP : S_impl_NodePropose_o.st = NB := rfl
  have hsM : S_laws_markNode_o.st = 0 := rfl
  have hsV : S_laws_markVote_o.st = 0 := rfl
  have c1 : S_laws_toNode_o.cost = 0 := rfl
  have c2 : S_impl_NodePropose_o.cost = 0 := rfl
  have c3 : S_laws_markNode_o.cost = 0 := rfl
  have c4 : S_laws_heldNode.cost = 0 := rfl
  have c5 : S_laws_markVote_o.cost = 0 := rfl
  have c6 : S_laws_heldVote.cost = 0 := rfl
  obtain ⟨hxs, hvs⟩ := propT_two (p := p) hsm
  generalize ho : propT n p = o at *
  obtain ⟨x, v, t⟩ := o
  dsimp only at hxs hvs
  have hxl : x.seen.length ≤ 2097152 := hxs.1
  have hxf : FitVs x.seen := hxs.fit
  have hvf : FitV v := Nat.le_trans hvs (by decide)
  have hvs' : v.c.length ≤ 1048576 := hvs
  have hbb : ∀ b : Bool, (!(b == b)) = false := by simp
  have hEb := endV_bounds n.seen 1 fun v hv => hsm.2 v hv
  have hEx := endV_bounds x.seen 1 hxs.2
  repeat' ((conv => whnf); first
    | (refine calle (b := [agg (ndF n), agg (paF p)]) v_spec_NodePropose rfl ⟨(n, p), rfl, hfl⟩ (.inl rfl) (by first | assumption | omega) (fun r hr => (show r = trip (propT n p) from K_spec_NodePropose (a := (n, p)) hr).trans (congrArg trip ho)) ?_)
    | refine ⟨_, rfl, ?_⟩
    | refine ⟨rfl, ?_⟩
    | refine ⟨_, ldc_cells hupd_at (Nat.le_of_ble_eq_true rfl), ?_⟩
    | refine ⟨_, ldc_cells (by first | assumption | exact zk ‹_› (by omega) | exact zk (zk ‹_› (by omega)) (by omega)) (Nat.le_of_ble_eq_true rfl), ?_⟩
    | refine ⟨_, _, hupd_at, rfl, rfl, Nat.le_of_ble_eq_true rfl, ?_⟩
    | refine ⟨_, _, rfl, rfl, rfl, Nat.le_of_ble_eq_true rfl, ?_⟩
    | (refine ⟨?_, _, (?_ : (_ : Option Ob) = _), rfl, rfl, ?_, ?_⟩; rotate_left; (exact hk_); exact Nat.le_of_ble_eq_true rfl)
    | refine ⟨_, _, _, _, ((by exact hk_) : (_ : Option Ob) = _), fill_at (by omega), rfl, rfl, Nat.le_of_ble_eq_true rfl, ?_⟩
    | refine ⟨_, _, _, _, ((by exact hk_) : (_ : Option Ob) = _), at_mapA (by assumption), rfl, rfl, Nat.le_of_ble_eq_true rfl, ?_⟩
    | refine ⟨_, ldc_pa (by exact hk_) (at_mapA (by assumption)) (Nat.le_of_ble_eq_true rfl), ?_⟩
    | refine ⟨_, ((by exact hk_) : (_ : Option Ob) = _), ?_⟩
    | (refine ⟨fun hc => ?_, fun hc => ?_⟩ <;> (try simp (disch := omega) only [List.length_map, wrap64] at hc))
    | (refine calle (b := [agg (ndF ⟨_, _, _, _⟩)]) v_laws_toNode rfl ⟨⟨_, _, _, _⟩, rfl, (by exact pr_)⟩ (.inl rfl) (by first | assumption | omega) (fun r hr => K_laws_toNode (a := ⟨_, _, _, _⟩) hr) ?_)
    | (refine calle (b := [agg (paF ⟨_, _, _⟩)]) v_laws_toPay rfl ⟨⟨_, _, _⟩, rfl, (by exact True.intro)⟩ (.inl rfl) (by first | assumption | omega) (fun r hr => K_laws_toPay (a := ⟨_, _, _⟩) hr) ?_)
    | fail)
  refine mq_nestF (N := nV) (F := ndOF n) ndOF_ren (l := n.seen) (ar := [agg (ndF n)]) v_laws_toNode_o (by first | assumption | omega) (by rfl) rfl ⟨n, rfl, rfl, hsm⟩ (by rw [hst]; omega) (fun r obs' h => K_laws_toNode_o h) fun n1 H1 e1 h1A h1o => ?_
  have h1p : H1 1 = some (.cells ((ndF n).map AC.c)) := (h1o 1 (by omega)).trans hk_
  have h1q : H1 17 = some (.cells ((paF p).map AC.c)) := (h1o 17 (by omega)).trans hk_
  have h1w : H1 305 = some (.cells ((ndF x).map AC.c)) := (h1o 305 (by omega)).trans hk_
  have h1u : H1 321 = some (.cells ((voF v).map AC.c)) := (h1o 321 (by omega)).trans hk_
  have h10 : H1 0 = none := (h1o 0 (by omega)).trans ne_
  repeat' ((conv => whnf); first
    | refine ⟨_, ldc_cells hk_ (Nat.le_of_ble_eq_true rfl), ?_⟩
    | refine ⟨_, rfl, ?_⟩
    | refine ⟨rfl, ?_⟩
    | refine ⟨_, ldc_cells hupd_at (Nat.le_of_ble_eq_true rfl), ?_⟩
    | refine ⟨_, ldc_cells (by first | assumption | exact zk ‹_› (by omega) | exact zk (zk ‹_› (by omega)) (by omega)) (Nat.le_of_ble_eq_true rfl), ?_⟩
    | refine ⟨_, _, hupd_at, rfl, rfl, Nat.le_of_ble_eq_true rfl, ?_⟩
    | refine ⟨_, _, rfl, rfl, rfl, Nat.le_of_ble_eq_true rfl, ?_⟩
    | (refine ⟨?_, _, (?_ : (_ : Option Ob) = _), rfl, rfl, ?_, ?_⟩; rotate_left; (exact hk_); exact Nat.le_of_ble_eq_true rfl)
    | refine ⟨_, _, _, _, ((by exact hk_) : (_ : Option Ob) = _), fill_at (by omega), rfl, rfl, Nat.le_of_ble_eq_true rfl, ?_⟩
    | refine ⟨_, _, _, _, ((by exact hk_) : (_ : Option Ob) = _), at_mapA (by assumption), rfl, rfl, Nat.le_of_ble_eq_true rfl, ?_⟩
    | refine ⟨_, ldc_pa (by exact hk_) (at_mapA (by assumption)) (Nat.le_of_ble_eq_true rfl), ?_⟩
    | refine ⟨_, ((by exact hk_) : (_ : Option Ob) = _), ?_⟩
    | (refine ⟨fun hc => ?_, fun hc => ?_⟩ <;> (try simp (disch := omega) only [List.length_map, wrap64] at hc))
    | (refine calle (b := [agg (paF ⟨_, _, _⟩)]) v_laws_toPay rfl ⟨⟨_, _, _⟩, rfl, (by exact True.intro)⟩ (.inl rfl) (by first | assumption | omega) (fun r hr => K_laws_toPay (a := ⟨_, _, _⟩) hr) ?_)
    | fail)
  refine bq_tri (o := (x, v, t)) (n1 := NB + 1 + 1) (ar := [agg (ndF n), agg (paF p)]) v_impl_NodePropose_o rfl (l2 (bor_nd (n := n) (h1A.mid (n := n1) (Nat.le_refl _) (fun j => by show n1 ≤ n1 + 1 + j; omega) (fun i hi hi2 => (by (repeat (refine (hupd_ne (by omega)).trans ?_)); rfl)))) rfl) ⟨(n, p), rfl, rfl, hfl, hsm.1⟩ rfl (by rw [hsP]; omega) (fun r obs' h => by rw [← ho]; exact K_impl_NodePropose_o h) fun n3 H3 k3 f3 kv3 e3 h3N h3v q1 q2 q3 q4 q5 q6 h3o => ?_
  dsimp only at h3N h3v q6
  have h3x : H3 _ = some (.cells (ndO n n1)) := (h3o _ (by omega)).trans hupd_at
  have h3p : H3 1 = some (.cells ((ndF n).map AC.c)) := (h3o 1 (by omega)).trans hk_
  have h3q : H3 17 = some (.cells ((paF p).map AC.c)) := (h3o 17 (by omega)).trans hk_
  have h3w : H3 305 = some (.cells ((ndF x).map AC.c)) := (h3o 305 (by omega)).trans hk_
  have h3u : H3 321 = some (.cells ((voF v).map AC.c)) := (h3o 321 (by omega)).trans hk_
  have h30 : H3 0 = none := (h3o 0 (by omega)).trans ne_
  have h3A := (h1A.mid (H' := H3) (n := n1) (Nat.le_refl _) (fun j => by show n1 ≤ n1 + 1 + j; omega) (fun i hi hi2 => (h3o i (by omega)).trans (by (repeat (refine (hupd_ne (by omega)).trans ?_)); rfl)))
  repeat' ((conv => whnf); first
    | (rw [hbb]; conv => whnf)
    | refine ⟨_, ldc_cells hk_ (Nat.le_of_ble_eq_true rfl), ?_⟩
    | (refine callt (b := [agg (ndF x), agg (ndF x)]) v_laws_eqNode (l2 (bor_nd (n := x) (h3N.mid (n := n3) q1 q2 (fun i hi hi2 => (by (repeat (refine (hupd_ne (by omega)).trans ?_)); rfl)))) rfl) ⟨(x, x), rfl, hxf, hxf⟩ (.inr ⟨rfl, rfl⟩) (by first | assumption | omega) (fun r hr => K_laws_eqNode (a := (x, x)) hr) (fun hj => ?_) (fun hj => ?_) <;> (try (exact absurd rfl hj)))
    | (refine callt (b := [agg (voF v), agg (voF v)]) v_laws_eqVote (l2 (bor_vo (v := v) hk_) rfl) ⟨(v, v), rfl, hvf, hvf⟩ (.inr ⟨rfl, rfl⟩) (by first | assumption | omega) (fun r hr => K_laws_eqVote (a := (v, v)) hr) (fun hj => ?_) (fun hj => ?_) <;> (try (exact absurd rfl hj)))
    | (refine callt (b := [agg (ndF n), agg (ndF n)]) v_laws_eqNode (l2 (bor_nd (n := n) (h3A.mid (n := n1) (Nat.le_refl _) (fun j => by show n1 ≤ n1 + 1 + j; omega) (fun i hi hi2 => (by (repeat (refine (hupd_ne (by omega)).trans ?_)); rfl)))) rfl) ⟨(n, n), rfl, hfl, hfl⟩ (.inr ⟨rfl, rfl⟩) (by first | assumption | omega) (fun r hr => K_laws_eqNode (a := (n, n)) hr) (fun hj => ?_) (fun hj => ?_) <;> (try (exact absurd rfl hj)))
    | refine ⟨_, rfl, ?_⟩
    | refine ⟨rfl, ?_⟩
    | refine ⟨_, ldc_cells hupd_at (Nat.le_of_ble_eq_true rfl), ?_⟩
    | refine ⟨_, ldc_cells (by first | assumption | exact zk ‹_› (by omega) | exact zk (zk ‹_› (by omega)) (by omega)) (Nat.le_of_ble_eq_true rfl), ?_⟩
    | refine ⟨_, _, hupd_at, rfl, rfl, Nat.le_of_ble_eq_true rfl, ?_⟩
    | refine ⟨_, _, rfl, rfl, rfl, Nat.le_of_ble_eq_true rfl, ?_⟩
    | (refine ⟨?_, _, (?_ : (_ : Option Ob) = _), rfl, rfl, ?_, ?_⟩; rotate_left; (exact hk_); exact Nat.le_of_ble_eq_true rfl)
    | refine ⟨_, _, _, _, ((by exact hk_) : (_ : Option Ob) = _), fill_at (by omega), rfl, rfl, Nat.le_of_ble_eq_true rfl, ?_⟩
    | refine ⟨_, _, _, _, ((by exact hk_) : (_ : Option Ob) = _), at_mapA (by assumption), rfl, rfl, Nat.le_of_ble_eq_true rfl, ?_⟩
    | refine ⟨_, ldc_pa (by exact hk_) (at_mapA (by assumption)) (Nat.le_of_ble_eq_true rfl), ?_⟩
    | refine ⟨_, ((by exact hk_) : (_ : Option Ob) = _), ?_⟩
    | (refine ⟨fun hc => ?_, fun hc => ?_⟩ <;> (try simp (disch := omega) only [List.length_map, wrap64] at hc) <;> (try (exfalso; first | contradiction | omega)))
    | (refine calle (b := [agg (ndF ⟨_, _, _, _⟩)]) v_laws_toNode rfl ⟨⟨_, _, _, _⟩, rfl, (by exact pr_)⟩ (.inl rfl) (by first | assumption | omega) (fun r hr => K_laws_toNode (a := ⟨_, _, _, _⟩) hr) ?_)
    | fail)
  refine mq_ninF (N := nV) (F := ndOF n) ndOF_ren (ar := [I 1]) (fun _ => rfl) (l := n.seen) (l' := mkVs n.seen 1) (r0 := I (endV n.seen 1)) v_laws_markNode_o (by first | assumption | omega) (h3A.mid (n := n1) (Nat.le_refl _) (fun j => by show n1 ≤ n1 + 1 + j; omega) (fun i hi hi2 => (by (repeat (refine (hupd_ne (by omega)).trans ?_)); rfl))) rfl ⟨(n, 1), rfl, rfl, hsm.two, one0, oneM2⟩ (mkVs_len _ 1) (fun r obs' h => K_laws_markNode_o h) fun H4 ρ4 hρ4 h4A h4o => ?_
  have h4y : H4 _ = some (.cells (voK v kv3)) := (h4o _ ⟨by omega, fun j _ => by show n1 + 1 + j ≠ _; omega⟩).trans hupd_at
  have h4g : H4 _ = some (.cells (ndO x k3)) := (h4o _ ⟨by omega, fun j _ => by show n1 + 1 + j ≠ _; omega⟩).trans (zk hupd_at (by omega))
  have h4p : H4 1 = some (.cells ((ndF n).map AC.c)) := (h4o 1 ⟨by omega, fun j _ => by show n1 + 1 + j ≠ _; omega⟩).trans hk_
  have h4q : H4 17 = some (.cells ((paF p).map AC.c)) := (h4o 17 ⟨by omega, fun j _ => by show n1 + 1 + j ≠ _; omega⟩).trans hk_
  have h4w : H4 305 = some (.cells ((ndF x).map AC.c)) := (h4o 305 ⟨by omega, fun j _ => by show n1 + 1 + j ≠ _; omega⟩).trans hk_
  have h4u : H4 321 = some (.cells ((voF v).map AC.c)) := (h4o 321 ⟨by omega, fun j _ => by show n1 + 1 + j ≠ _; omega⟩).trans hk_
  have h40 : H4 0 = none := (h4o 0 ⟨by omega, fun j _ => by show n1 + 1 + j ≠ _; omega⟩).trans ne_
  have h4v : H4 kv3 = some (itO v.c) := (h4o kv3 ⟨by omega, fun j _ => by show n1 + 1 + j ≠ _; omega⟩).trans ((by (repeat (refine (hupd_ne (by omega)).trans ?_)); exact h3v))
  have h4N := h3N.mid (H' := H4) (n := n3) q1 q2 (fun i hi hi2 => (h4o i ⟨by omega, fun j _ => by show n1 + 1 + j ≠ _; omega⟩).trans (by (repeat (refine (hupd_ne (by omega)).trans ?_)); rfl))
  show frc (I (endV n.seen 1)) _
  repeat' ((conv => whnf); first
    | (rw [hbb]; conv => whnf)
    | refine ⟨_, ldc_cells hk_ (Nat.le_of_ble_eq_true rfl), ?_⟩
    | (refine callt (b := [agg (ndF x), agg (ndF x)]) v_laws_eqNode (l2 (bor_nd (n := x) h4N) rfl) ⟨(x, x), rfl, hxf, hxf⟩ (.inr ⟨rfl, rfl⟩) (by first | assumption | omega) (fun r hr => K_laws_eqNode (a := (x, x)) hr) (fun hj => ?_) (fun hj => ?_) <;> (try (exact absurd rfl hj)))
    | (refine callt (b := [agg (voF v), agg (voF v)]) v_laws_eqVote (l2 (bor_vo (v := v) hk_) rfl) ⟨(v, v), rfl, hvf, hvf⟩ (.inr ⟨rfl, rfl⟩) (by first | assumption | omega) (fun r hr => K_laws_eqVote (a := (v, v)) hr) (fun hj => ?_) (fun hj => ?_) <;> (try (exact absurd rfl hj)))
    | refine ⟨_, rfl, ?_⟩
    | refine ⟨rfl, ?_⟩
    | refine ⟨_, ldc_cells hupd_at (Nat.le_of_ble_eq_true rfl), ?_⟩
    | refine ⟨_, ldc_cells (by first | assumption | exact zk ‹_› (by omega) | exact zk (zk ‹_› (by omega)) (by omega)) (Nat.le_of_ble_eq_true rfl), ?_⟩
    | refine ⟨_, _, hupd_at, rfl, rfl, Nat.le_of_ble_eq_true rfl, ?_⟩
    | refine ⟨_, _, rfl, rfl, rfl, Nat.le_of_ble_eq_true rfl, ?_⟩
    | (refine ⟨?_, _, (?_ : (_ : Option Ob) = _), rfl, rfl, ?_, ?_⟩; rotate_left; (exact hk_); exact Nat.le_of_ble_eq_true rfl)
    | refine ⟨_, _, _, _, ((by exact hk_) : (_ : Option Ob) = _), fill_at (by omega), rfl, rfl, Nat.le_of_ble_eq_true rfl, ?_⟩
    | refine ⟨_, _, _, _, ((by exact hk_) : (_ : Option Ob) = _), at_mapA (by assumption), rfl, rfl, Nat.le_of_ble_eq_true rfl, ?_⟩
    | refine ⟨_, ldc_pa (by exact hk_) (at_mapA (by assumption)) (Nat.le_of_ble_eq_true rfl), ?_⟩
    | refine ⟨_, ((by exact hk_) : (_ : Option Ob) = _), ?_⟩
    | (refine ⟨fun hc => ?_, fun hc => ?_⟩ <;> (try simp (disch := omega) only [List.length_map, wrap64] at hc) <;> (try (exfalso; first | contradiction | omega)))
    | fail)
  refine mq_ninF (N := nV) (F := ndOF x) ndOF_ren (ar := [I 1]) (fun _ => rfl) (l := x.seen) (l' := mkVs x.seen 1) (r0 := I (endV x.seen 1)) v_laws_markNode_o (by first | assumption | omega) h4N rfl ⟨(x, 1), rfl, rfl, hxs, one0, oneM2⟩ (mkVs_len _ 1) (fun r obs' h => K_laws_markNode_o h) fun H5 ρ5 hρ5 h5N h5o => ?_
  have hO : ∀ i, i < n3 ∨ n3 + (NB + 1 + 1) ≤ i → nV.Off k3 f3 x.seen i := fun i hi => ⟨by have := h3N.lt; omega, fun j hj => by have := h3N.lts j hj; have := q2 j; omega⟩
  have h5y : H5 _ = some (.cells (voK v kv3)) := (h5o _ (hO _ (by omega))).trans h4y
  have h5g : H5 _ = some (.cells (ndO x k3)) := (h5o _ (hO _ (by omega))).trans h4g
  have h5p : H5 1 = some (.cells ((ndF n).map AC.c)) := (h5o 1 (hO _ (by omega))).trans h4p
  have h5q : H5 17 = some (.cells ((paF p).map AC.c)) := (h5o 17 (hO _ (by omega))).trans h4q
  have h5w : H5 305 = some (.cells ((ndF x).map AC.c)) := (h5o 305 (hO _ (by omega))).trans h4w
  have h5u : H5 321 = some (.cells ((voF v).map AC.c)) := (h5o 321 (hO _ (by omega))).trans h4u
  have h50 : H5 0 = none := (h5o 0 (hO _ (by omega))).trans h40
  have h5v : H5 kv3 = some (itO v.c) := (h5o kv3 ⟨q5, fun j hj => q6 j hj⟩).trans h4v
  show frc (I (endV x.seen 1)) _
  have hE0 : 0 ≤ endV x.seen 1 := by omega
  have hEM : endV x.seen 1 ≤ MK := by simp only [MK]; omega
  repeat' ((conv => whnf); first
    | (rw [hbb]; conv => whnf)
    | refine ⟨_, ldc_cells hk_ (Nat.le_of_ble_eq_true rfl), ?_⟩
    | refine ⟨_, rfl, ?_⟩
    | refine ⟨rfl, ?_⟩
    | refine ⟨_, ldc_cells hupd_at (Nat.le_of_ble_eq_true rfl), ?_⟩
    | refine ⟨_, ldc_cells (by first | assumption | exact zk ‹_› (by omega) | exact zk (zk ‹_› (by omega)) (by omega)) (Nat.le_of_ble_eq_true rfl), ?_⟩
    | refine ⟨_, _, hupd_at, rfl, rfl, Nat.le_of_ble_eq_true rfl, ?_⟩
    | refine ⟨_, _, rfl, rfl, rfl, Nat.le_of_ble_eq_true rfl, ?_⟩
    | (refine ⟨?_, _, (?_ : (_ : Option Ob) = _), rfl, rfl, ?_, ?_⟩; rotate_left; (exact hk_); exact Nat.le_of_ble_eq_true rfl)
    | refine ⟨_, _, _, _, ((by exact hk_) : (_ : Option Ob) = _), fill_at (by omega), rfl, rfl, Nat.le_of_ble_eq_true rfl, ?_⟩
    | refine ⟨_, _, _, _, ((by exact hk_) : (_ : Option Ob) = _), at_mapA (by assumption), rfl, rfl, Nat.le_of_ble_eq_true rfl, ?_⟩
    | refine ⟨_, ldc_pa (by exact hk_) (at_mapA (by assumption)) (Nat.le_of_ble_eq_true rfl), ?_⟩
    | refine ⟨_, ((by exact hk_) : (_ : Option Ob) = _), ?_⟩
    | (refine ⟨fun hc => ?_, fun hc => ?_⟩ <;> (try simp (disch := omega) only [List.length_map, wrap64] at hc) <;> (try (exfalso; first | contradiction | omega)))
    | fail)
  refine mq_vmark (v := v) (k := kv3) (n := endV x.seen 1) (m := endV x.seen 1 + 4 * v.c.length) (c := mkC v.c.length (endV x.seen 1)) v_laws_markVote_o (by first | assumption | omega) h5v rfl ⟨(v, endV x.seen 1), rfl, rfl, hvs, hE0, hEM⟩ (fun r obs' h => K_laws_markVote_o h) fun H6 h6v h6o => ?_
  have h6y : H6 _ = some (.cells (voK v kv3)) := (h6o _ (by omega)).trans h5y
  have h6g : H6 _ = some (.cells (ndO x k3)) := (h6o _ (by omega)).trans h5g
  have h6p : H6 1 = some (.cells ((ndF n).map AC.c)) := (h6o 1 (by omega)).trans h5p
  have h6q : H6 17 = some (.cells ((paF p).map AC.c)) := (h6o 17 (by omega)).trans h5q
  have h6w : H6 305 = some (.cells ((ndF x).map AC.c)) := (h6o 305 (by omega)).trans h5w
  have h6u : H6 321 = some (.cells ((voF v).map AC.c)) := (h6o 321 (by omega)).trans h5u
  have h60 : H6 0 = none := (h6o 0 (by omega)).trans h50
  have h6N := h5N.same (H' := H6) (Nat.le_refl _) fun i hi => h6o i fun e => hi (e ▸ ⟨q5, fun j hj => q6 j (by rwa [mkVs_len] at hj)⟩)
  repeat' ((conv => whnf); first
    | (rw [hbb]; conv => whnf)
    | refine ⟨_, ldc_cells hk_ (Nat.le_of_ble_eq_true rfl), ?_⟩
    | (refine calle (b := [agg (ndF (mkN' x 1)), I 1]) v_laws_heldNode (l2 (bor_nd (n := mkN' x 1) h6N) rfl) ⟨(x, 1), rfl, hxs, one0, oneM2⟩ (.inr ⟨rfl, rfl⟩) (by first | assumption | omega) (fun r hr => K_laws_heldNode hr) ?_)
    | (refine calle (b := [agg (voF (mkV v (endV x.seen 1))), I (endV x.seen 1)]) v_laws_heldVote (l2 (bor_vo (v := mkV v (endV x.seen 1)) hk_) rfl) ⟨(v, endV x.seen 1), rfl, hvs, hE0, hEM⟩ (.inr ⟨rfl, rfl⟩) (by first | assumption | omega) (fun r hr => K_laws_heldVote hr) ?_)
    | refine ⟨_, rfl, ?_⟩
    | refine ⟨rfl, ?_⟩
    | refine ⟨_, ldc_cells hupd_at (Nat.le_of_ble_eq_true rfl), ?_⟩
    | refine ⟨_, ldc_cells (by first | assumption | exact zk ‹_› (by omega) | exact zk (zk ‹_› (by omega)) (by omega)) (Nat.le_of_ble_eq_true rfl), ?_⟩
    | refine ⟨_, _, hupd_at, rfl, rfl, Nat.le_of_ble_eq_true rfl, ?_⟩
    | refine ⟨_, _, rfl, rfl, rfl, Nat.le_of_ble_eq_true rfl, ?_⟩
    | (refine ⟨?_, _, (?_ : (_ : Option Ob) = _), rfl, rfl, ?_, ?_⟩; rotate_left; (exact hk_); exact Nat.le_of_ble_eq_true rfl)
    | refine ⟨_, _, _, _, ((by exact hk_) : (_ : Option Ob) = _), fill_at (by omega), rfl, rfl, Nat.le_of_ble_eq_true rfl, ?_⟩
    | refine ⟨_, _, _, _, ((by exact hk_) : (_ : Option Ob) = _), at_mapA (by assumption), rfl, rfl, Nat.le_of_ble_eq_true rfl, ?_⟩
    | refine ⟨_, ldc_pa (by exact hk_) (at_mapA (by assumption)) (Nat.le_of_ble_eq_true rfl), ?_⟩
    | refine ⟨_, ((by exact hk_) : (_ : Option Ob) = _), ?_⟩
    | (refine ⟨fun hc => ?_, fun hc => ?_⟩ <;> (try simp (disch := omega) only [List.length_map, wrap64] at hc) <;> (try (exfalso; first | contradiction | omega)))
    | fail)
  refine mq_nestF (N := nV) (F := ndOF n) ndOF_ren (l := n.seen) (ar := [agg (ndF n)]) v_laws_toNode_o (by first | assumption | omega) (by rfl) rfl ⟨n, rfl, rfl, hsm⟩ (by rw [hst]; omega) (fun r obs' h => K_laws_toNode_o h) fun n7 H7 e7 h7A h7o => ?_
  have h7y : H7 _ = some (.cells (voK v kv3)) := (h7o _ (by omega)).trans h6y
  have h7g : H7 _ = some (.cells (ndO x k3)) := (h7o _ (by omega)).trans h6g
  have h7q : H7 17 = some (.cells ((paF p).map AC.c)) := (h7o 17 (by omega)).trans h6q
  have h7w : H7 305 = some (.cells ((ndF x).map AC.c)) := (h7o 305 (by omega)).trans h6w
  have h7u : H7 321 = some (.cells ((voF v).map AC.c)) := (h7o 321 (by omega)).trans h6u
  have h70 : H7 0 = none := (h7o 0 (by omega)).trans h60
  have h7v : H7 kv3 = some (itO (mkV v (endV x.seen 1)).c) := (h7o kv3 (by omega)).trans h6v
  have h7N := h6N.mid (H' := H7) (n := n3) q1 q2 (fun i hi hi2 => h7o i (by omega))
  repeat' ((conv => whnf); first
    | refine ⟨_, ldc_cells hk_ (Nat.le_of_ble_eq_true rfl), ?_⟩
    | refine ⟨_, rfl, ?_⟩
    | refine ⟨rfl, ?_⟩
    | refine ⟨_, ldc_cells hupd_at (Nat.le_of_ble_eq_true rfl), ?_⟩
    | refine ⟨_, ldc_cells (by first | assumption | exact zk ‹_› (by omega) | exact zk (zk ‹_› (by omega)) (by omega)) (Nat.le_of_ble_eq_true rfl), ?_⟩
    | refine ⟨_, _, hupd_at, rfl, rfl, Nat.le_of_ble_eq_true rfl, ?_⟩
    | refine ⟨_, _, rfl, rfl, rfl, Nat.le_of_ble_eq_true rfl, ?_⟩
    | (refine ⟨?_, _, (?_ : (_ : Option Ob) = _), rfl, rfl, ?_, ?_⟩; rotate_left; (exact hk_); exact Nat.le_of_ble_eq_true rfl)
    | refine ⟨_, _, _, _, ((by exact hk_) : (_ : Option Ob) = _), fill_at (by omega), rfl, rfl, Nat.le_of_ble_eq_true rfl, ?_⟩
    | refine ⟨_, _, _, _, ((by exact hk_) : (_ : Option Ob) = _), at_mapA (by assumption), rfl, rfl, Nat.le_of_ble_eq_true rfl, ?_⟩
    | refine ⟨_, ldc_pa (by exact hk_) (at_mapA (by assumption)) (Nat.le_of_ble_eq_true rfl), ?_⟩
    | refine ⟨_, ((by exact hk_) : (_ : Option Ob) = _), ?_⟩
    | (refine ⟨fun hc => ?_, fun hc => ?_⟩ <;> (try simp (disch := omega) only [List.length_map, wrap64] at hc))
    | (refine calle (b := [agg (paF ⟨_, _, _⟩)]) v_laws_toPay rfl ⟨⟨_, _, _⟩, rfl, (by exact True.intro)⟩ (.inl rfl) (by first | assumption | omega) (fun r hr => K_laws_toPay (a := ⟨_, _, _⟩) hr) ?_)
    | fail)
  refine bq_tri (o := (x, v, t)) (n1 := NB + 1 + 1) (ar := [agg (ndF n), agg (paF p)]) v_impl_NodePropose_o rfl (l2 (bor_nd (n := n) h7A) rfl) ⟨(n, p), rfl, rfl, hfl, hsm.1⟩ rfl (by rw [hsP]; omega) (fun r obs' h => by rw [← ho]; exact K_impl_NodePropose_o h) fun n9 H9 k9 f9 kv9 e9 h9N h9v p1 p2 p3 p4 p5 p6 h9o => ?_
  dsimp only at h9N h9v p6
  have h9y : H9 _ = some (.cells (voK v kv3)) := (h9o _ (by omega)).trans h7y
  have h9g : H9 _ = some (.cells (ndO x k3)) := (h9o _ (by omega)).trans h7g
  have h9w : H9 305 = some (.cells ((ndF x).map AC.c)) := (h9o 305 (by omega)).trans h7w
  have h9u : H9 321 = some (.cells ((voF v).map AC.c)) := (h9o 321 (by omega)).trans h7u
  have h90 : H9 0 = none := (h9o 0 (by omega)).trans h70
  have h9z : H9 kv3 = some (itO (mkV v (endV x.seen 1)).c) := (h9o kv3 (by omega)).trans h7v
  have h9M := h7N.mid (H' := H9) (n := n3) q1 q2 (fun i hi hi2 => h9o i (by omega))
  repeat' ((conv => whnf); first
    | (rw [hbb]; conv => whnf)
    | refine ⟨_, ldc_cells hk_ (Nat.le_of_ble_eq_true rfl), ?_⟩
    | (refine callt (b := [agg (ndF x), agg (ndF x)]) v_laws_eqNode (l2 (bor_nd (n := x) (h9N.mid (n := n9) p1 p2 (fun i hi hi2 => (by (repeat (refine (hupd_ne (by omega)).trans ?_)); rfl)))) rfl) ⟨(x, x), rfl, hxf, hxf⟩ (.inr ⟨rfl, rfl⟩) (by first | assumption | omega) (fun r hr => K_laws_eqNode (a := (x, x)) hr) (fun hj => ?_) (fun hj => ?_) <;> (try (exact absurd rfl hj)))
    | (refine callt (b := [agg (voF v), agg (voF v)]) v_laws_eqVote (l2 (bor_vo (v := v) hk_) rfl) ⟨(v, v), rfl, hvf, hvf⟩ (.inr ⟨rfl, rfl⟩) (by first | assumption | omega) (fun r hr => K_laws_eqVote (a := (v, v)) hr) (fun hj => ?_) (fun hj => ?_) <;> (try (exact absurd rfl hj)))
    | (refine calle (b := [agg (ndF (mkN' x 1)), I 1]) v_laws_heldNode (l2 (bor_nd (n := mkN' x 1) (h9M.mid (n := n3) q1 q2 (fun i hi hi2 => (by (repeat (refine (hupd_ne (by omega)).trans ?_)); rfl)))) rfl) ⟨(x, 1), rfl, hxs, one0, oneM2⟩ (.inr ⟨rfl, rfl⟩) (by first | assumption | omega) (fun r hr => K_laws_heldNode hr) ?_)
    | (refine calle (b := [agg (voF (mkV v (endV x.seen 1))), I (endV x.seen 1)]) v_laws_heldVote (l2 (bor_vo (v := mkV v (endV x.seen 1)) hk_) rfl) ⟨(v, endV x.seen 1), rfl, hvs, hE0, hEM⟩ (.inr ⟨rfl, rfl⟩) (by first | assumption | omega) (fun r hr => K_laws_heldVote hr) ?_)
    | refine ⟨_, rfl, ?_⟩
    | refine ⟨rfl, ?_⟩
    | refine ⟨_, ldc_cells hupd_at (Nat.le_of_ble_eq_true rfl), ?_⟩
    | refine ⟨_, ldc_cells (by first | assumption | exact zk ‹_› (by omega) | exact zk (zk ‹_› (by omega)) (by omega)) (Nat.le_of_ble_eq_true rfl), ?_⟩
    | refine ⟨_, _, hupd_at, rfl, rfl, Nat.le_of_ble_eq_true rfl, ?_⟩
    | refine ⟨_, _, rfl, rfl, rfl, Nat.le_of_ble_eq_true rfl, ?_⟩
    | (refine ⟨?_, _, (?_ : (_ : Option Ob) = _), rfl, rfl, ?_, ?_⟩; rotate_left; (exact hk_); exact Nat.le_of_ble_eq_true rfl)
    | refine ⟨_, _, _, _, ((by exact hk_) : (_ : Option Ob) = _), fill_at (by omega), rfl, rfl, Nat.le_of_ble_eq_true rfl, ?_⟩
    | refine ⟨_, _, _, _, ((by exact hk_) : (_ : Option Ob) = _), at_mapA (by assumption), rfl, rfl, Nat.le_of_ble_eq_true rfl, ?_⟩
    | refine ⟨_, ldc_pa (by exact hk_) (at_mapA (by assumption)) (Nat.le_of_ble_eq_true rfl), ?_⟩
    | refine ⟨_, ((by exact hk_) : (_ : Option Ob) = _), ?_⟩
    | (refine ⟨fun hc => ?_, fun hc => ?_⟩ <;> (try simp (disch := omega) only [List.length_map, wrap64] at hc) <;> (try (exfalso; first | contradiction | omega)))
    | exact ⟨⟨_, rfl, rfl, (n, p), rfl, (by refine congrArg B (Eq.symm (tb_pos ?_)); (try dsimp only); first | done | exact absurd True.intro hj | (exact True.intro))⟩, (by first | exact Nat.le_refl _ | omega), (by exact h0_)⟩
    | exact ⟨⟨_, rfl, rfl, (n, p), rfl, (by refine congrArg B (Eq.symm (tb_neg ?_)); (try dsimp only); first | done | exact absurd True.intro hj | (exact True.intro))⟩, (by first | exact Nat.le_refl _ | omega), (by exact h0_)⟩
    | fail)
end Av
end Go.Proofs.Ytdboofnogabefaa
