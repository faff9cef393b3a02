/- The walk: the law FnExactNodeEnter. -/
import Derived.Test.YtkpncekaehgbdaaKF
set_option linter.unusedVariables false
set_option linter.unusedSimpArgs false
namespace Go.Proofs.Ytkpncekaehgbdaa
namespace Av
open Go.RowKit
theorem SmVs2.fit' {l : List Vo} (h : SmVs2 l) : FitVs l := ⟨Nat.le_trans h.1 (by decide), fun v hv => Nat.le_trans (h.2 v hv) (by decide)⟩
theorem one0 : (0 : Int) ≤ 1 := by decide
theorem oneM2 : (1 : Int) ≤ 1099511627776 := by decide
theorem entT_sm {n : Nd} {e : Int} (h : SmVs n.seen) : SmVs (entT n e).seen := by
  unfold entT entN
  repeat' split
  all_goals first | exact h | exact ⟨Nat.zero_le _, fun v hv => by cases hv⟩
attribute [local irreducible] mkC mkVs endV entT
attribute [local irreducible] Valid ValidM
set_option maxHeartbeats 4000000 in
set_option maxRecDepth 100000 in
theorem v_laws_FnExactNodeEnter : Valid Try.prog n_laws_FnExactNodeEnter S_laws_FnExactNodeEnter := by
  refine valid_of_swp mixed is_laws_FnExactNodeEnter (by rintro _ ⟨a, rfl, _⟩; exact Nat.le_of_ble_eq_true rfl) ?_
  rintro _ rm ⟨⟨n, e⟩, rfl, hpre⟩ hl
  try dsimp only at hpre
  have hpre0 := hpre
  have hp1 := hpre
  have cc_laws_FnExactNodeEnter : S_laws_FnExactNodeEnter.cost = 0 := rfl
  have cc_laws_szNode : S_laws_szNode.cost = 0 := rfl
  have cc_laws_toNode : S_laws_toNode.cost = 0 := rfl
  have cc_spec_NodeEnter : S_spec_NodeEnter.cost = 0 := rfl
  have cc_laws_eqNode : S_laws_eqNode.cost = 0 := rfl
  repeat' ((conv => whnf); first
    | refine ⟨_, rfl, ?_⟩
    | refine ⟨rfl, ?_⟩
    | refine ⟨_, ldc_cells hupd_at (Nat.le_of_ble_eq_true rfl), ?_⟩
    | refine ⟨_, ldc_cells (by first | assumption | exact zk ‹_› (by omega) | exact zk (zk ‹_› (by omega)) (by omega)) (Nat.le_of_ble_eq_true rfl), ?_⟩
    | refine ⟨_, _, hupd_at, rfl, rfl, Nat.le_of_ble_eq_true rfl, ?_⟩
    | refine ⟨_, _, rfl, rfl, rfl, Nat.le_of_ble_eq_true rfl, ?_⟩
    | (refine ⟨?_, _, (?_ : (_ : Option Ob) = _), rfl, rfl, ?_, ?_⟩; rotate_left; (exact hk_); exact Nat.le_of_ble_eq_true rfl)
    | refine ⟨_, _, _, _, ((by exact hk_) : (_ : Option Ob) = _), fill_at (by omega), rfl, rfl, Nat.le_of_ble_eq_true rfl, ?_⟩
    | refine ⟨_, _, _, _, ((by exact hk_) : (_ : Option Ob) = _), at_mapA (by assumption), rfl, rfl, Nat.le_of_ble_eq_true rfl, ?_⟩
    | refine ⟨_, ldc_pa (by exact hk_) (at_mapA (by assumption)) (Nat.le_of_ble_eq_true rfl), ?_⟩
    | refine ⟨_, ((by exact hk_) : (_ : Option Ob) = _), ?_⟩
    | (refine ⟨fun hc => ?_, fun hc => ?_⟩ <;> (try simp (disch := omega) only [List.length_map, wrap64] at hc))
    | (refine callk (b := [agg (ndF ⟨_, _, _, _⟩), I _]) v_laws_szNode rfl ⟨(⟨_, _, _, _⟩, _), rfl, (by refine ⟨?_, ?_, ?_⟩ <;> (exact pr_))⟩ (.inl rfl) (by first | assumption | omega) (fun r hr => ?_); have hj := K_laws_szNode (a := (⟨_, _, _, _⟩, _)) hr; clear hr; obtain ⟨k, rfl, hk1, hk2⟩ := hj)
    | exact ⟨⟨_, rfl, rfl, (n, e), rfl, (by refine congrArg B (Eq.symm (tb_pos ?_)); (try dsimp only); first | done | exact absurd True.intro hj | (exact True.intro))⟩, (by first | exact Nat.le_refl _ | omega), (by exact h0_)⟩
    | exact ⟨⟨_, rfl, rfl, (n, e), rfl, (by refine congrArg B (Eq.symm (tb_neg ?_)); (try dsimp only); first | done | exact absurd True.intro hj | (exact True.intro))⟩, (by first | exact Nat.le_refl _ | omega), (by exact h0_)⟩
    | fail)
  have hsm : SmVs n.seen := hk2 hc
  have hfl : FitVs n.seen := hsm.fit
  have hln : n.seen.length ≤ 1048576 := hsm.1
  have hst : S_laws_toNode_o.st = 4194304 := NB_eq
  have hsE : S_impl_NodeEnter_o.st = 4194304 := NB_eq
  have hsM : S_laws_markNode_o.st = 0 := rfl
  have c1 : S_laws_toNode_o.cost = 0 := rfl
  have c2 : S_impl_NodeEnter_o.cost = 0 := rfl
  have c3 : S_laws_markNode_o.cost = 0 := rfl
  have c4 : S_laws_heldNode.cost = 0 := rfl
  have hxm : SmVs (entT n e).seen := entT_sm hsm
  repeat' ((conv => whnf); first
    | refine ⟨_, rfl, ?_⟩
    | refine ⟨rfl, ?_⟩
    | refine ⟨_, ldc_cells hupd_at (Nat.le_of_ble_eq_true rfl), ?_⟩
    | refine ⟨_, ldc_cells (by first | assumption | exact zk ‹_› (by omega) | exact zk (zk ‹_› (by omega)) (by omega)) (Nat.le_of_ble_eq_true rfl), ?_⟩
    | refine ⟨_, _, hupd_at, rfl, rfl, Nat.le_of_ble_eq_true rfl, ?_⟩
    | refine ⟨_, _, rfl, rfl, rfl, Nat.le_of_ble_eq_true rfl, ?_⟩
    | (refine ⟨?_, _, (?_ : (_ : Option Ob) = _), rfl, rfl, ?_, ?_⟩; rotate_left; (exact hk_); exact Nat.le_of_ble_eq_true rfl)
    | refine ⟨_, _, _, _, ((by exact hk_) : (_ : Option Ob) = _), fill_at (by omega), rfl, rfl, Nat.le_of_ble_eq_true rfl, ?_⟩
    | refine ⟨_, _, _, _, ((by exact hk_) : (_ : Option Ob) = _), at_mapA (by assumption), rfl, rfl, Nat.le_of_ble_eq_true rfl, ?_⟩
    | refine ⟨_, ldc_pa (by exact hk_) (at_mapA (by assumption)) (Nat.le_of_ble_eq_true rfl), ?_⟩
    | refine ⟨_, ((by exact hk_) : (_ : Option Ob) = _), ?_⟩
    | (refine ⟨fun hc => ?_, fun hc => ?_⟩ <;> (try simp (disch := omega) only [List.length_map, wrap64] at hc))
    | (refine calle (b := [agg (ndF ⟨_, _, _, _⟩)]) v_laws_toNode rfl ⟨⟨_, _, _, _⟩, rfl, (by exact pr_)⟩ (.inl rfl) (by first | assumption | omega) (fun r hr => K_laws_toNode (a := ⟨_, _, _, _⟩) hr) ?_)
    | (refine calle (b := [agg (ndF ⟨_, _, _, _⟩), I _]) v_spec_NodeEnter rfl ⟨(⟨_, _, _, _⟩, _), rfl, (by exact pr_)⟩ (.inl rfl) (by first | assumption | omega) (fun r hr => K_spec_NodeEnter (a := (⟨_, _, _, _⟩, _)) hr) ?_)
    | fail)
  generalize hx : entT n e = x at *
  have hxl : x.seen.length ≤ 1048576 := hxm.1
  have hxs : SmVs2 x.seen := hxm.two
  have hxf : FitVs x.seen := hxs.fit'
  have hEb := endV_bounds n.seen 1 fun v hv => hsm.2 v hv
  have hEx := endV_bounds x.seen 1 hxs.2
  refine mq_nestF (N := nV) (F := ndOF n) ndOF_ren (l := n.seen) (ar := [agg (ndF n)]) v_laws_toNode_o (by first | assumption | omega) (by rfl) rfl ⟨n, rfl, rfl, hsm⟩ (by rw [hst]; omega) (fun r obs' h => K_laws_toNode_o h) fun n1 H1 e1 h1A h1o => ?_
  have h1p : H1 1 = some (.cells ((ndF n).map AC.c)) := (h1o 1 (by omega)).trans hk_
  have h1w : H1 209 = some (.cells ((ndF x).map AC.c)) := (h1o 209 (by omega)).trans hk_
  have h10 : H1 0 = none := (h1o 0 (by omega)).trans ne_
  repeat' ((conv => whnf); first
    | refine ⟨_, rfl, ?_⟩
    | refine ⟨rfl, ?_⟩
    | refine ⟨_, ldc_cells hupd_at (Nat.le_of_ble_eq_true rfl), ?_⟩
    | refine ⟨_, ldc_cells (by first | assumption | exact zk ‹_› (by omega) | exact zk (zk ‹_› (by omega)) (by omega)) (Nat.le_of_ble_eq_true rfl), ?_⟩
    | refine ⟨_, _, hupd_at, rfl, rfl, Nat.le_of_ble_eq_true rfl, ?_⟩
    | refine ⟨_, _, rfl, rfl, rfl, Nat.le_of_ble_eq_true rfl, ?_⟩
    | (refine ⟨?_, _, (?_ : (_ : Option Ob) = _), rfl, rfl, ?_, ?_⟩; rotate_left; (exact hk_); exact Nat.le_of_ble_eq_true rfl)
    | refine ⟨_, _, _, _, ((by exact hk_) : (_ : Option Ob) = _), fill_at (by omega), rfl, rfl, Nat.le_of_ble_eq_true rfl, ?_⟩
    | refine ⟨_, _, _, _, ((by exact hk_) : (_ : Option Ob) = _), at_mapA (by assumption), rfl, rfl, Nat.le_of_ble_eq_true rfl, ?_⟩
    | refine ⟨_, ldc_pa (by exact hk_) (at_mapA (by assumption)) (Nat.le_of_ble_eq_true rfl), ?_⟩
    | refine ⟨_, ((by exact hk_) : (_ : Option Ob) = _), ?_⟩
    | (refine ⟨fun hc => ?_, fun hc => ?_⟩ <;> (try simp (disch := omega) only [List.length_map, wrap64] at hc))
    | fail)
  refine bq_nestF (N := nV) (F := ndOF x) ndOF_ren ndOF_plain (l := x.seen) (ar := [agg (ndF n), I e]) nV_plain v_impl_NodeEnter_o rfl (l2 (bor_nd (n := n) (h1A.mid (n := n1) (Nat.le_refl _) (fun j => by show n1 ≤ n1 + 1 + j; omega) (fun i hi hi2 => (by (repeat (refine (hupd_ne (by omega)).trans ?_)); rfl)))) rfl) ⟨(n, e), rfl, rfl, hfl, hsm.1⟩ rfl (by rw [hsE]; omega) (fun r obs' h => by rw [← hx]; exact K_impl_NodeEnter_o h) fun n3 H3 e3 h3N h3o => ?_
  have h3x : H3 _ = some (.cells (ndO n n1)) := (h3o _ (by omega)).trans hupd_at
  have h3p : H3 1 = some (.cells ((ndF n).map AC.c)) := (h3o 1 (by omega)).trans hk_
  have h3w : H3 209 = some (.cells ((ndF x).map AC.c)) := (h3o 209 (by omega)).trans hk_
  have h30 : H3 0 = none := (h3o 0 (by omega)).trans ne_
  have h3A := (h1A.mid (H' := H3) (n := n1) (Nat.le_refl _) (fun j => by show n1 ≤ n1 + 1 + j; omega) (fun i hi hi2 => (h3o i (by omega)).trans (by (repeat (refine (hupd_ne (by omega)).trans ?_)); rfl)))
  repeat' ((conv => whnf); first
    | refine ⟨_, ldc_cells hk_ (Nat.le_of_ble_eq_true rfl), ?_⟩
    | (refine callt (b := [agg (ndF x), agg (ndF x)]) v_laws_eqNode (l2 (bor_nd (n := x) (h3N.mid (n := n3) (Nat.le_refl _) (fun j => by show n3 ≤ n3 + 1 + j; omega) (fun i hi hi2 => (by (repeat (refine (hupd_ne (by omega)).trans ?_)); rfl)))) rfl) ⟨(x, x), rfl, hxf, hxf⟩ (.inr ⟨rfl, rfl⟩) (by first | assumption | omega) (fun r hr => K_laws_eqNode (a := (x, x)) hr) (fun hj => ?_) (fun hj => ?_) <;> (try (exact absurd rfl hj)))
    | (refine callt (b := [agg (ndF n), agg (ndF n)]) v_laws_eqNode (l2 (bor_nd (n := n) (h3A.mid (n := n1) (Nat.le_refl _) (fun j => by show n1 ≤ n1 + 1 + j; omega) (fun i hi hi2 => (by (repeat (refine (hupd_ne (by omega)).trans ?_)); rfl)))) rfl) ⟨(n, n), rfl, hfl, hfl⟩ (.inr ⟨rfl, rfl⟩) (by first | assumption | omega) (fun r hr => K_laws_eqNode (a := (n, n)) hr) (fun hj => ?_) (fun hj => ?_) <;> (try (exact absurd rfl hj)))
    | refine ⟨_, rfl, ?_⟩
    | refine ⟨rfl, ?_⟩
    | refine ⟨_, ldc_cells hupd_at (Nat.le_of_ble_eq_true rfl), ?_⟩
    | refine ⟨_, ldc_cells (by first | assumption | exact zk ‹_› (by omega) | exact zk (zk ‹_› (by omega)) (by omega)) (Nat.le_of_ble_eq_true rfl), ?_⟩
    | refine ⟨_, _, hupd_at, rfl, rfl, Nat.le_of_ble_eq_true rfl, ?_⟩
    | refine ⟨_, _, rfl, rfl, rfl, Nat.le_of_ble_eq_true rfl, ?_⟩
    | (refine ⟨?_, _, (?_ : (_ : Option Ob) = _), rfl, rfl, ?_, ?_⟩; rotate_left; (exact hk_); exact Nat.le_of_ble_eq_true rfl)
    | refine ⟨_, _, _, _, ((by exact hk_) : (_ : Option Ob) = _), fill_at (by omega), rfl, rfl, Nat.le_of_ble_eq_true rfl, ?_⟩
    | refine ⟨_, _, _, _, ((by exact hk_) : (_ : Option Ob) = _), at_mapA (by assumption), rfl, rfl, Nat.le_of_ble_eq_true rfl, ?_⟩
    | refine ⟨_, ldc_pa (by exact hk_) (at_mapA (by assumption)) (Nat.le_of_ble_eq_true rfl), ?_⟩
    | refine ⟨_, ((by exact hk_) : (_ : Option Ob) = _), ?_⟩
    | (refine ⟨fun hc => ?_, fun hc => ?_⟩ <;> (try simp (disch := omega) only [List.length_map, wrap64] at hc) <;> (try (exfalso; first | contradiction | omega)))
    | (refine calle (b := [agg (ndF ⟨_, _, _, _⟩)]) v_laws_toNode rfl ⟨⟨_, _, _, _⟩, rfl, (by exact pr_)⟩ (.inl rfl) (by first | assumption | omega) (fun r hr => K_laws_toNode (a := ⟨_, _, _, _⟩) hr) ?_)
    | fail)
  refine mq_ninF (N := nV) (F := ndOF n) ndOF_ren (ar := [I 1]) (fun _ => rfl) (l := n.seen) (l' := mkVs n.seen 1) (r0 := I (endV n.seen 1)) v_laws_markNode_o (by first | assumption | omega) (h3A.mid (n := n1) (Nat.le_refl _) (fun j => by show n1 ≤ n1 + 1 + j; omega) (fun i hi hi2 => (by (repeat (refine (hupd_ne (by omega)).trans ?_)); rfl))) rfl ⟨(n, 1), rfl, rfl, hsm.two, one0, oneM2⟩ (mkVs_len _ 1) (fun r obs' h => K_laws_markNode_o h) fun H4 ρ4 hρ4 h4A h4o => ?_
  have h4g : H4 _ = some (.cells (ndO x n3)) := (h4o _ ⟨by omega, fun j _ => by show n1 + 1 + j ≠ _; omega⟩).trans hupd_at
  have h4p : H4 1 = some (.cells ((ndF n).map AC.c)) := (h4o 1 ⟨by omega, fun j _ => by show n1 + 1 + j ≠ _; omega⟩).trans hk_
  have h4w : H4 209 = some (.cells ((ndF x).map AC.c)) := (h4o 209 ⟨by omega, fun j _ => by show n1 + 1 + j ≠ _; omega⟩).trans hk_
  have h40 : H4 0 = none := (h4o 0 ⟨by omega, fun j _ => by show n1 + 1 + j ≠ _; omega⟩).trans ne_
  have h4N := h3N.mid (H' := H4) (n := n3) (Nat.le_refl _) (fun j => by show n3 ≤ n3 + 1 + j; omega) (fun i hi hi2 => (h4o i ⟨by omega, fun j _ => by show n1 + 1 + j ≠ _; omega⟩).trans (by (repeat (refine (hupd_ne (by omega)).trans ?_)); rfl))
  show frc (I (endV n.seen 1)) _
  repeat' ((conv => whnf); first
    | refine ⟨_, ldc_cells hk_ (Nat.le_of_ble_eq_true rfl), ?_⟩
    | (refine callt (b := [agg (ndF x), agg (ndF x)]) v_laws_eqNode (l2 (bor_nd (n := x) h4N) rfl) ⟨(x, x), rfl, hxf, hxf⟩ (.inr ⟨rfl, rfl⟩) (by first | assumption | omega) (fun r hr => K_laws_eqNode (a := (x, x)) hr) (fun hj => ?_) (fun hj => ?_) <;> (try (exact absurd rfl hj)))
    | refine ⟨_, rfl, ?_⟩
    | refine ⟨rfl, ?_⟩
    | refine ⟨_, ldc_cells hupd_at (Nat.le_of_ble_eq_true rfl), ?_⟩
    | refine ⟨_, ldc_cells (by first | assumption | exact zk ‹_› (by omega) | exact zk (zk ‹_› (by omega)) (by omega)) (Nat.le_of_ble_eq_true rfl), ?_⟩
    | refine ⟨_, _, hupd_at, rfl, rfl, Nat.le_of_ble_eq_true rfl, ?_⟩
    | refine ⟨_, _, rfl, rfl, rfl, Nat.le_of_ble_eq_true rfl, ?_⟩
    | (refine ⟨?_, _, (?_ : (_ : Option Ob) = _), rfl, rfl, ?_, ?_⟩; rotate_left; (exact hk_); exact Nat.le_of_ble_eq_true rfl)
    | refine ⟨_, _, _, _, ((by exact hk_) : (_ : Option Ob) = _), fill_at (by omega), rfl, rfl, Nat.le_of_ble_eq_true rfl, ?_⟩
    | refine ⟨_, _, _, _, ((by exact hk_) : (_ : Option Ob) = _), at_mapA (by assumption), rfl, rfl, Nat.le_of_ble_eq_true rfl, ?_⟩
    | refine ⟨_, ldc_pa (by exact hk_) (at_mapA (by assumption)) (Nat.le_of_ble_eq_true rfl), ?_⟩
    | refine ⟨_, ((by exact hk_) : (_ : Option Ob) = _), ?_⟩
    | (refine ⟨fun hc => ?_, fun hc => ?_⟩ <;> (try simp (disch := omega) only [List.length_map, wrap64] at hc) <;> (try (exfalso; first | contradiction | omega)))
    | fail)
  refine mq_ninF (N := nV) (F := ndOF x) ndOF_ren (ar := [I 1]) (fun _ => rfl) (l := x.seen) (l' := mkVs x.seen 1) (r0 := I (endV x.seen 1)) v_laws_markNode_o (by first | assumption | omega) h4N rfl ⟨(x, 1), rfl, rfl, hxs, one0, oneM2⟩ (mkVs_len _ 1) (fun r obs' h => K_laws_markNode_o h) fun H5 ρ5 hρ5 h5N h5o => ?_
  have h5g : H5 _ = some (.cells (ndO x n3)) := (h5o _ ⟨by omega, fun j _ => by show n3 + 1 + j ≠ _; omega⟩).trans h4g
  have h5p : H5 1 = some (.cells ((ndF n).map AC.c)) := (h5o 1 ⟨by omega, fun j _ => by show n3 + 1 + j ≠ _; omega⟩).trans h4p
  have h5w : H5 209 = some (.cells ((ndF x).map AC.c)) := (h5o 209 ⟨by omega, fun j _ => by show n3 + 1 + j ≠ _; omega⟩).trans h4w
  have h50 : H5 0 = none := (h5o 0 ⟨by omega, fun j _ => by show n3 + 1 + j ≠ _; omega⟩).trans h40
  show frc (I (endV x.seen 1)) _
  repeat' ((conv => whnf); first
    | refine ⟨_, ldc_cells hk_ (Nat.le_of_ble_eq_true rfl), ?_⟩
    | (refine calle (b := [agg (ndF (mkN' x 1)), I 1]) v_laws_heldNode (l2 (bor_nd (n := mkN' x 1) h5N) rfl) ⟨(x, 1), rfl, hxs, one0, oneM2⟩ (.inr ⟨rfl, rfl⟩) (by first | assumption | omega) (fun r hr => K_laws_heldNode hr) ?_)
    | refine ⟨_, rfl, ?_⟩
    | refine ⟨rfl, ?_⟩
    | refine ⟨_, ldc_cells hupd_at (Nat.le_of_ble_eq_true rfl), ?_⟩
    | refine ⟨_, ldc_cells (by first | assumption | exact zk ‹_› (by omega) | exact zk (zk ‹_› (by omega)) (by omega)) (Nat.le_of_ble_eq_true rfl), ?_⟩
    | refine ⟨_, _, hupd_at, rfl, rfl, Nat.le_of_ble_eq_true rfl, ?_⟩
    | refine ⟨_, _, rfl, rfl, rfl, Nat.le_of_ble_eq_true rfl, ?_⟩
    | (refine ⟨?_, _, (?_ : (_ : Option Ob) = _), rfl, rfl, ?_, ?_⟩; rotate_left; (exact hk_); exact Nat.le_of_ble_eq_true rfl)
    | refine ⟨_, _, _, _, ((by exact hk_) : (_ : Option Ob) = _), fill_at (by omega), rfl, rfl, Nat.le_of_ble_eq_true rfl, ?_⟩
    | refine ⟨_, _, _, _, ((by exact hk_) : (_ : Option Ob) = _), at_mapA (by assumption), rfl, rfl, Nat.le_of_ble_eq_true rfl, ?_⟩
    | refine ⟨_, ldc_pa (by exact hk_) (at_mapA (by assumption)) (Nat.le_of_ble_eq_true rfl), ?_⟩
    | refine ⟨_, ((by exact hk_) : (_ : Option Ob) = _), ?_⟩
    | (refine ⟨fun hc => ?_, fun hc => ?_⟩ <;> (try simp (disch := omega) only [List.length_map, wrap64] at hc) <;> (try (exfalso; first | contradiction | omega)))
    | fail)
  refine mq_nestF (N := nV) (F := ndOF n) ndOF_ren (l := n.seen) (ar := [agg (ndF n)]) v_laws_toNode_o (by first | assumption | omega) (by rfl) rfl ⟨n, rfl, rfl, hsm⟩ (by rw [hst]; omega) (fun r obs' h => K_laws_toNode_o h) fun n7 H7 e7 h7A h7o => ?_
  have h7g : H7 _ = some (.cells (ndO x n3)) := (h7o _ (by omega)).trans h5g
  have h7w : H7 209 = some (.cells ((ndF x).map AC.c)) := (h7o 209 (by omega)).trans h5w
  have h70 : H7 0 = none := (h7o 0 (by omega)).trans h50
  have h7N := h5N.mid (H' := H7) (n := n3) (Nat.le_refl _) (fun j => by show n3 ≤ n3 + 1 + j; omega) (fun i hi hi2 => h7o i (by omega))
  repeat' ((conv => whnf); first
    | refine ⟨_, rfl, ?_⟩
    | refine ⟨rfl, ?_⟩
    | refine ⟨_, ldc_cells hupd_at (Nat.le_of_ble_eq_true rfl), ?_⟩
    | refine ⟨_, ldc_cells (by first | assumption | exact zk ‹_› (by omega) | exact zk (zk ‹_› (by omega)) (by omega)) (Nat.le_of_ble_eq_true rfl), ?_⟩
    | refine ⟨_, _, hupd_at, rfl, rfl, Nat.le_of_ble_eq_true rfl, ?_⟩
    | refine ⟨_, _, rfl, rfl, rfl, Nat.le_of_ble_eq_true rfl, ?_⟩
    | (refine ⟨?_, _, (?_ : (_ : Option Ob) = _), rfl, rfl, ?_, ?_⟩; rotate_left; (exact hk_); exact Nat.le_of_ble_eq_true rfl)
    | refine ⟨_, _, _, _, ((by exact hk_) : (_ : Option Ob) = _), fill_at (by omega), rfl, rfl, Nat.le_of_ble_eq_true rfl, ?_⟩
    | refine ⟨_, _, _, _, ((by exact hk_) : (_ : Option Ob) = _), at_mapA (by assumption), rfl, rfl, Nat.le_of_ble_eq_true rfl, ?_⟩
    | refine ⟨_, ldc_pa (by exact hk_) (at_mapA (by assumption)) (Nat.le_of_ble_eq_true rfl), ?_⟩
    | refine ⟨_, ((by exact hk_) : (_ : Option Ob) = _), ?_⟩
    | (refine ⟨fun hc => ?_, fun hc => ?_⟩ <;> (try simp (disch := omega) only [List.length_map, wrap64] at hc))
    | fail)
  refine bq_nestF (N := nV) (F := ndOF x) ndOF_ren ndOF_plain (l := x.seen) (ar := [agg (ndF n), I e]) nV_plain v_impl_NodeEnter_o rfl (l2 (bor_nd (n := n) h7A) rfl) ⟨(n, e), rfl, rfl, hfl, hsm.1⟩ rfl (by rw [hsE]; omega) (fun r obs' h => by rw [← hx]; exact K_impl_NodeEnter_o h) fun n9 H9 e9 h9N h9o => ?_
  have h9g : H9 _ = some (.cells (ndO x n3)) := (h9o _ (by omega)).trans h7g
  have h9w : H9 209 = some (.cells ((ndF x).map AC.c)) := (h9o 209 (by omega)).trans h7w
  have h90 : H9 0 = none := (h9o 0 (by omega)).trans h70
  have h9M := h7N.mid (H' := H9) (n := n3) (Nat.le_refl _) (fun j => by show n3 ≤ n3 + 1 + j; omega) (fun i hi hi2 => h9o i (by omega))
  repeat' ((conv => whnf); first
    | refine ⟨_, ldc_cells hk_ (Nat.le_of_ble_eq_true rfl), ?_⟩
    | (refine callt (b := [agg (ndF x), agg (ndF x)]) v_laws_eqNode (l2 (bor_nd (n := x) (h9N.mid (n := n9) (Nat.le_refl _) (fun j => by show n9 ≤ n9 + 1 + j; omega) (fun i hi hi2 => (by (repeat (refine (hupd_ne (by omega)).trans ?_)); rfl)))) rfl) ⟨(x, x), rfl, hxf, hxf⟩ (.inr ⟨rfl, rfl⟩) (by first | assumption | omega) (fun r hr => K_laws_eqNode (a := (x, x)) hr) (fun hj => ?_) (fun hj => ?_) <;> (try (exact absurd rfl hj)))
    | (refine calle (b := [agg (ndF (mkN' x 1)), I 1]) v_laws_heldNode (l2 (bor_nd (n := mkN' x 1) (h9M.mid (n := n3) (Nat.le_refl _) (fun j => by show n3 ≤ n3 + 1 + j; omega) (fun i hi hi2 => (by (repeat (refine (hupd_ne (by omega)).trans ?_)); rfl)))) rfl) ⟨(x, 1), rfl, hxs, one0, oneM2⟩ (.inr ⟨rfl, rfl⟩) (by first | assumption | omega) (fun r hr => K_laws_heldNode hr) ?_)
    | refine ⟨_, rfl, ?_⟩
    | refine ⟨rfl, ?_⟩
    | refine ⟨_, ldc_cells hupd_at (Nat.le_of_ble_eq_true rfl), ?_⟩
    | refine ⟨_, ldc_cells (by first | assumption | exact zk ‹_› (by omega) | exact zk (zk ‹_› (by omega)) (by omega)) (Nat.le_of_ble_eq_true rfl), ?_⟩
    | refine ⟨_, _, hupd_at, rfl, rfl, Nat.le_of_ble_eq_true rfl, ?_⟩
    | refine ⟨_, _, rfl, rfl, rfl, Nat.le_of_ble_eq_true rfl, ?_⟩
    | (refine ⟨?_, _, (?_ : (_ : Option Ob) = _), rfl, rfl, ?_, ?_⟩; rotate_left; (exact hk_); exact Nat.le_of_ble_eq_true rfl)
    | refine ⟨_, _, _, _, ((by exact hk_) : (_ : Option Ob) = _), fill_at (by omega), rfl, rfl, Nat.le_of_ble_eq_true rfl, ?_⟩
    | refine ⟨_, _, _, _, ((by exact hk_) : (_ : Option Ob) = _), at_mapA (by assumption), rfl, rfl, Nat.le_of_ble_eq_true rfl, ?_⟩
    | refine ⟨_, ldc_pa (by exact hk_) (at_mapA (by assumption)) (Nat.le_of_ble_eq_true rfl), ?_⟩
    | refine ⟨_, ((by exact hk_) : (_ : Option Ob) = _), ?_⟩
    | (refine ⟨fun hc => ?_, fun hc => ?_⟩ <;> (try simp (disch := omega) only [List.length_map, wrap64] at hc) <;> (try (exfalso; first | contradiction | omega)))
    | exact ⟨⟨_, rfl, rfl, (n, e), rfl, (by refine congrArg B (Eq.symm (tb_pos ?_)); (try dsimp only); first | done | exact absurd True.intro hj | (exact True.intro))⟩, (by first | exact Nat.le_refl _ | omega), (by exact h0_)⟩
    | exact ⟨⟨_, rfl, rfl, (n, e), rfl, (by refine congrArg B (Eq.symm (tb_neg ?_)); (try dsimp only); first | done | exact absurd True.intro hj | (exact True.intro))⟩, (by first | exact Nat.le_refl _ | omega), (by exact h0_)⟩
    | fail)
end Av
end Go.Proofs.Ytkpncekaehgbdaa
