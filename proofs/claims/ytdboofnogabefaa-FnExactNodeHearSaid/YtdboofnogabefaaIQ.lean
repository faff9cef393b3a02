/- The walk: the law FnExactNodeHear. -/
import Derived.Test.YtdboofnogabefaaIP
import Derived.Test.YtdboofnogabefaaJ51
import Derived.Test.YtdboofnogabefaaJ52
set_option linter.unusedVariables false
set_option linter.unusedSimpArgs false
namespace Go.Proofs.Ytdboofnogabefaa
namespace Av
open Go.RowKit
theorem voteN_two {m : Nd} {c : List It} (h : m.seen.length + 1 ≤ 2097152) (hm : ∀ u, u ∈ m.seen → u.c.length ≤ SM) (hc : c.length ≤ SM) : SmVs2 (voteN m c).1.seen ∧ (voteN m c).2.1.c.length ≤ SM := by
  unfold voteN
  split
  · exact ⟨⟨Nat.le_of_succ_le h, hm⟩, Nat.zero_le _⟩
  · refine ⟨⟨by rw [List.length_append]; exact h, fun u hu => ?_⟩, hc⟩
    rcases List.mem_append.1 hu with hu | hu
    · exact hm u hu
    · rw [List.mem_singleton.1 hu]; exact hc
theorem tryN_two {m : Nd} (h : m.seen.length + 1 ≤ 2097152) (hm : ∀ u, u ∈ m.seen → u.c.length ≤ SM) : SmVs2 (tryN false m).1.seen ∧ (tryN false m).2.1.c.length ≤ SM := by
  unfold tryN
  split
  · split
    · rename_i u hu
      exact voteN_two h hm (hm u (List.mem_of_find?_eq_some hu))
    · exact ⟨⟨Nat.le_of_succ_le h, hm⟩, Nat.zero_le _⟩
  · exact ⟨⟨Nat.le_of_succ_le h, hm⟩, Nat.zero_le _⟩
theorem hearT_two {n : Nd} {v : Vo} (h : SmVs n.seen) (hv : v.c.length ≤ SM) : SmVs2 (hearT n v).1.seen ∧ (hearT n v).2.1.c.length ≤ SM := by
  have hl : n.seen.length ≤ 1048576 := h.1
  unfold hearT
  split
  · unfold hearN
    split
    · refine tryN_two (m := ⟨n.id, n.ep, n.vt, addV n.seen v⟩) (by have := addV_len n.seen v; dsimp only; omega) fun u hu => ?_
      unfold addV at hu
      split at hu
      · exact h.2 u hu
      · rcases List.mem_append.1 hu with g | g
        · exact h.2 u g
        · rw [List.mem_singleton.1 g]; exact hv
    · exact ⟨h.two, Nat.zero_le _⟩
  · exact ⟨⟨Nat.zero_le _, fun u hu => by cases hu⟩, Nat.zero_le _⟩
attribute [local irreducible] mkC mkVs endV hearT
attribute [local irreducible] Valid ValidM
set_option maxHeartbeats 4000000 in
set_option maxRecDepth 100000 in
theorem v_laws_FnExactNodeHear : Valid Try.prog n_laws_FnExactNodeHear S_laws_FnExactNodeHear := by
  refine valid_of_swp mixed is_laws_FnExactNodeHear (by rintro _ ⟨a, rfl, _⟩; exact Nat.le_of_ble_eq_true rfl) ?_
  rintro _ rm ⟨⟨n, v⟩, rfl, hpre⟩ hl
  try dsimp only at hpre
  have hpre0 := hpre
  obtain ⟨hp1, hp2⟩ := hpre
  have cc_laws_FnExactNodeHear : S_laws_FnExactNodeHear.cost = 0 := rfl
  have cc_laws_szNode : S_laws_szNode.cost = 0 := rfl
  have cc_laws_szVote : S_laws_szVote.cost = 0 := rfl
  have cc_laws_toNode : S_laws_toNode.cost = 0 := rfl
  have cc_laws_toVote : S_laws_toVote.cost = 0 := rfl
  have cc_spec_NodeHear : S_spec_NodeHear.cost = 0 := rfl
  have cc_laws_eqNode : S_laws_eqNode.cost = 0 := rfl
  have cc_laws_eqVote : S_laws_eqVote.cost = 0 := rfl
  repeat' ((conv => whnf); first
    | refine ⟨_, rfl, ?_⟩
    | refine ⟨rfl, ?_⟩
    | (refine ⟨fun hc => ?_, fun hc => ?_⟩ <;> (try simp (disch := omega) only [List.length_map, wrap64] at hc))
    | (refine callk (b := [agg (ndF ⟨_, _, _, _⟩), I _]) v_laws_szNode rfl ⟨(⟨_, _, _, _⟩, _), rfl, (by refine ⟨?_, ?_, ?_⟩ <;> (exact pr_))⟩ (.inl rfl) (by first | assumption | omega) (fun r hr => ?_); have hj := K_laws_szNode (a := (⟨_, _, _, _⟩, _)) hr; clear hr; obtain ⟨k, rfl, hk1, hk2⟩ := hj)
    | (refine callk (b := [agg (voF ⟨_, _⟩), I _]) v_laws_szVote rfl ⟨(⟨_, _⟩, _), rfl, (by refine ⟨?_, ?_, ?_⟩ <;> (exact pr_))⟩ (.inl rfl) (by first | assumption | omega) (fun r hr => ?_); have hj := K_laws_szVote (a := (⟨_, _⟩, _)) hr; clear hr; obtain ⟨k, rfl, hk1, hk2⟩ := hj)
    | exact ⟨⟨_, rfl, rfl, (n, v), rfl, (by refine congrArg B (Eq.symm (tb_pos ?_)); (try dsimp only); first | done | exact absurd True.intro hj | (exact True.intro))⟩, (by first | exact Nat.le_refl _ | omega), (by exact h0_)⟩
    | fail)
  rename_i k1 q1 q2 q3
  have hsm : SmVs n.seen := q2 q3
  have hus : v.c.length ≤ SM := hk2 hc
  have hus' : v.c.length ≤ 1048576 := hus
  have huf : FitV v := Nat.le_trans hus (by decide)
  have hfl : FitVs n.seen := hsm.fit
  have hln : n.seen.length ≤ 1048576 := hsm.1
  have hlB : n.seen.length + 20 ≤ NB := by rw [NB_eq]; omega
  have hst : S_laws_toNode_o.st = NB := rfl
  have hsP : S_impl_NodeHear_o.st = NB := rfl
  have hsM : S_laws_markNode_o.st = 0 := rfl
  have hsV : S_laws_markVote_o.st = 0 := rfl
  have hsT : S_laws_toVote_o.st = 0 := rfl
  have c1 : S_laws_toNode_o.cost = 0 := rfl
  have c2 : S_impl_NodeHear_o.cost = 0 := rfl
  have c3 : S_laws_markNode_o.cost = 0 := rfl
  have c4 : S_laws_heldNode.cost = 0 := rfl
  have c5 : S_laws_markVote_o.cost = 0 := rfl
  have c6 : S_laws_heldVote.cost = 0 := rfl
  have c7 : S_laws_toVote_o.cost = 0 := rfl
  obtain ⟨hxs, hvs⟩ := hearT_two (v := v) hsm hus
  generalize ho : hearT n v = o at *
  obtain ⟨x, w, t⟩ := o
  dsimp only at hxs hvs
  have hxl : x.seen.length ≤ 2097152 := hxs.1
  have hxf : FitVs x.seen := hxs.fit
  have hwf : FitV w := Nat.le_trans hvs (by decide)
  have hvs' : w.c.length ≤ 1048576 := hvs
  have hbb : ∀ b : Bool, (!(b == b)) = false := by simp
  have hEb := endV_bounds n.seen 1 fun v hv => hsm.2 v hv
  have hEx := endV_bounds x.seen 1 hxs.2
  repeat' ((conv => whnf); first
    | (refine calle (b := [agg (ndF n), agg (voF v)]) v_spec_NodeHear rfl ⟨(n, v), rfl, hfl, huf⟩ (.inl rfl) (by first | assumption | omega) (fun r hr => (show r = trip (hearT n v) from K_spec_NodeHear (a := (n, v)) hr).trans (congrArg trip ho)) ?_)
    | refine ⟨_, rfl, ?_⟩
    | refine ⟨_, _, rfl, rfl, rfl, Nat.le_of_ble_eq_true rfl, ?_⟩
    | (refine calle (b := [agg (ndF ⟨_, _, _, _⟩)]) v_laws_toNode rfl ⟨⟨_, _, _, _⟩, rfl, (by exact pr_)⟩ (.inl rfl) (by first | assumption | omega) (fun r hr => K_laws_toNode (a := ⟨_, _, _, _⟩) hr) ?_)
    | (refine calle (b := [agg (voF ⟨_, _⟩)]) v_laws_toVote rfl ⟨⟨_, _⟩, rfl, (by exact pr_)⟩ (.inl rfl) (by first | assumption | omega) (fun r hr => K_laws_toVote (a := ⟨_, _⟩) hr) ?_)
    | fail)
  refine mq_nestF (N := nV) (F := ndOF n) ndOF_ren (l := n.seen) (ar := [agg (ndF n)]) v_laws_toNode_o (by first | assumption | omega) (by rfl) rfl ⟨n, rfl, rfl, hsm⟩ (by rw [hst]; omega) (fun r obs' h => K_laws_toNode_o h) fun n1 H1 e1 h1A h1o => ?_
  have h1p : H1 1 = some (.cells ((ndF n).map AC.c)) := (h1o 1 (by omega)).trans hk_
  have h1q : H1 17 = some (.cells ((voF v).map AC.c)) := (h1o 17 (by omega)).trans hk_
  have h1w : H1 401 = some (.cells ((ndF x).map AC.c)) := (h1o 401 (by omega)).trans hk_
  have h1u : H1 417 = some (.cells ((voF w).map AC.c)) := (h1o 417 (by omega)).trans hk_
  have h10 : H1 0 = none := (h1o 0 (by omega)).trans ne_
  repeat' ((conv => whnf); first
    | refine ⟨_, ldc_cells hk_ (Nat.le_of_ble_eq_true rfl), ?_⟩
    | refine ⟨_, _, hupd_at, rfl, rfl, Nat.le_of_ble_eq_true rfl, ?_⟩
    | fail)
  refine mq_vo' (v := v) v_laws_toVote_o (by first | assumption | omega) (by rfl) ⟨v, rfl, rfl, huf⟩ (fun r obs' h => K_laws_toVote_o h) fun n2 H2 e2 h2k h2o => ?_
  have h2x : H2 _ = some (.cells (ndO n n1)) := (h2o _ (by omega)).trans hupd_at
  have h2p : H2 1 = some (.cells ((ndF n).map AC.c)) := (h2o 1 (by omega)).trans hk_
  have h2q : H2 17 = some (.cells ((voF v).map AC.c)) := (h2o 17 (by omega)).trans hk_
  have h2w : H2 401 = some (.cells ((ndF x).map AC.c)) := (h2o 401 (by omega)).trans hk_
  have h2u : H2 417 = some (.cells ((voF w).map AC.c)) := (h2o 417 (by omega)).trans hk_
  have h20 : H2 0 = none := (h2o 0 (by omega)).trans ne_
  have h2A := (h1A.mid (H' := H2) (n := n1) (Nat.le_refl _) (fun j => by show n1 ≤ n1 + 1 + j; omega) (fun i hi hi2 => (h2o i (by omega)).trans (by (repeat (refine (hupd_ne (by omega)).trans ?_)); rfl)))
  repeat' ((conv => whnf); first
    | refine ⟨_, ldc_cells hk_ (Nat.le_of_ble_eq_true rfl), ?_⟩
    | refine ⟨_, _, hupd_at, rfl, rfl, Nat.le_of_ble_eq_true rfl, ?_⟩
    | fail)
  refine bq_tri (o := (x, w, t)) (n1 := NB + 1 + 1) (ar := [agg (ndF n), agg (voF v)]) v_impl_NodeHear_o rfl (l2 (bor_nd (n := n) (h2A.mid (n := n1) (Nat.le_refl _) (fun j => by show n1 ≤ n1 + 1 + j; omega) (fun i hi hi2 => (by (repeat (refine (hupd_ne (by omega)).trans ?_)); rfl)))) (bor_vo (v := v) hk_)) ⟨(n, v), rfl, rfl, ⟨hfl, huf⟩, hsm.1⟩ rfl (by rw [hsP]; omega) (fun r obs' h => by rw [← ho]; exact K_impl_NodeHear_o h) fun n3 H3 k3 f3 kv3 e3 h3N h3v q1 q2 q3 q4 q5 q6 h3o => ?_
  dsimp only at h3N h3v q6
  have h3x : H3 _ = some (.cells (ndO n n1)) := (h3o _ (by omega)).trans ((hupd_ne (by omega)).trans ((hupd_ne (by omega)).trans h2x))
  have h3y : H3 _ = some (.cells (voK v n2)) := (h3o _ (by omega)).trans hupd_at
  have h3k : H3 n2 = some (itO v.c) := (h3o n2 (by omega)).trans (by (repeat (refine (hupd_ne (by omega)).trans ?_)); exact h2k)
  have h3p : H3 1 = some (.cells ((ndF n).map AC.c)) := (h3o 1 (by omega)).trans hk_
  have h3q : H3 17 = some (.cells ((voF v).map AC.c)) := (h3o 17 (by omega)).trans hk_
  have h3w : H3 401 = some (.cells ((ndF x).map AC.c)) := (h3o 401 (by omega)).trans hk_
  have h3u : H3 417 = some (.cells ((voF w).map AC.c)) := (h3o 417 (by omega)).trans hk_
  have h30 : H3 0 = none := (h3o 0 (by omega)).trans ne_
  have h3A := (h2A.mid (H' := H3) (n := n1) (Nat.le_refl _) (fun j => by show n1 ≤ n1 + 1 + j; omega) (fun i hi hi2 => (h3o i (by omega)).trans (by (repeat (refine (hupd_ne (by omega)).trans ?_)); rfl)))
  repeat' ((conv => whnf); first
    | (rw [hbb]; conv => whnf)
    | refine ⟨_, ldc_cells hk_ (Nat.le_of_ble_eq_true rfl), ?_⟩
    | (refine callt (b := [agg (ndF x), agg (ndF x)]) v_laws_eqNode (l2 (bor_nd (n := x) (h3N.mid (n := n3) q1 q2 (fun i hi hi2 => (by (repeat (refine (hupd_ne (by omega)).trans ?_)); rfl)))) rfl) ⟨(x, x), rfl, hxf, hxf⟩ (.inr ⟨rfl, rfl⟩) (by first | assumption | omega) (fun r hr => K_laws_eqNode (a := (x, x)) hr) (fun hj => ?_) (fun hj => ?_) <;> (try (exact absurd rfl hj)))
    | (refine callt (b := [agg (voF w), agg (voF w)]) v_laws_eqVote (l2 (bor_vo (v := w) hk_) rfl) ⟨(w, w), rfl, hwf, hwf⟩ (.inr ⟨rfl, rfl⟩) (by first | assumption | omega) (fun r hr => K_laws_eqVote (a := (w, w)) hr) (fun hj => ?_) (fun hj => ?_) <;> (try (exact absurd rfl hj)))
    | (refine callt (b := [agg (ndF n), agg (ndF n)]) v_laws_eqNode (l2 (bor_nd (n := n) (h3A.mid (n := n1) (Nat.le_refl _) (fun j => by show n1 ≤ n1 + 1 + j; omega) (fun i hi hi2 => (by (repeat (refine (hupd_ne (by omega)).trans ?_)); rfl)))) rfl) ⟨(n, n), rfl, hfl, hfl⟩ (.inr ⟨rfl, rfl⟩) (by first | assumption | omega) (fun r hr => K_laws_eqNode (a := (n, n)) hr) (fun hj => ?_) (fun hj => ?_) <;> (try (exact absurd rfl hj)))
    | (refine callt (b := [agg (voF v), agg (voF v)]) v_laws_eqVote (l2 (bor_vo (v := v) hk_) rfl) ⟨(v, v), rfl, huf, huf⟩ (.inr ⟨rfl, rfl⟩) (by first | assumption | omega) (fun r hr => K_laws_eqVote (a := (v, v)) hr) (fun hj => ?_) (fun hj => ?_) <;> (try (exact absurd rfl hj)))
    | (refine ⟨?_, _, (?_ : (_ : Option Ob) = _), rfl, rfl, ?_, ?_⟩; rotate_left; (exact hk_); exact Nat.le_of_ble_eq_true rfl)
    | (refine calle (b := [agg (ndF ⟨_, _, _, _⟩)]) v_laws_toNode rfl ⟨⟨_, _, _, _⟩, rfl, (by exact pr_)⟩ (.inl rfl) (by first | assumption | omega) (fun r hr => K_laws_toNode (a := ⟨_, _, _, _⟩) hr) ?_)
    | (refine calle (b := [agg (voF ⟨_, _⟩)]) v_laws_toVote rfl ⟨⟨_, _⟩, rfl, (by exact pr_)⟩ (.inl rfl) (by first | assumption | omega) (fun r hr => K_laws_toVote (a := ⟨_, _⟩) hr) ?_)
    | fail)
  refine mq_ninF (N := nV) (F := ndOF n) ndOF_ren (ar := [I 1]) (fun _ => rfl) (l := n.seen) (l' := mkVs n.seen 1) (r0 := I (endV n.seen 1)) v_laws_markNode_o (by first | assumption | omega) (h3A.mid (n := n1) (Nat.le_refl _) (fun j => by show n1 ≤ n1 + 1 + j; omega) (fun i hi hi2 => (by (repeat (refine (hupd_ne (by omega)).trans ?_)); rfl))) rfl ⟨(n, 1), rfl, rfl, hsm.two, one0, oneM2⟩ (mkVs_len _ 1) (fun r obs' h => K_laws_markNode_o h) fun H4 ρ4 hρ4 h4A h4o => ?_
  have hoA : ∀ i, i < n1 ∨ n1 + 1 + n.seen.length ≤ i → nV.Off n1 (fun j => n1 + 1 + j) n.seen i := fun i hi => ⟨by omega, fun j _ => by show n1 + 1 + j ≠ _; omega⟩
  have h4y : H4 _ = some (.cells (voK w kv3)) := (h4o _ (hoA _ (by omega))).trans hupd_at
  have h4g : H4 _ = some (.cells (ndO x k3)) := (h4o _ (hoA _ (by omega))).trans (zk hupd_at (by omega))
  have h4s : H4 _ = some (.cells (voK v n2)) := (h4o _ (hoA _ (by omega))).trans ((hupd_ne (by omega)).trans ((hupd_ne (by omega)).trans ((hupd_ne (by omega)).trans ((hupd_ne (by omega)).trans h3y))))
  have h4k : H4 n2 = some (itO v.c) := (h4o n2 (hoA _ (by omega))).trans (by (repeat (refine (hupd_ne (by omega)).trans ?_)); exact h3k)
  have h4p : H4 1 = some (.cells ((ndF n).map AC.c)) := (h4o 1 (hoA _ (by omega))).trans hk_
  have h4q : H4 17 = some (.cells ((voF v).map AC.c)) := (h4o 17 (hoA _ (by omega))).trans hk_
  have h4w : H4 401 = some (.cells ((ndF x).map AC.c)) := (h4o 401 (hoA _ (by omega))).trans hk_
  have h4u : H4 417 = some (.cells ((voF w).map AC.c)) := (h4o 417 (hoA _ (by omega))).trans hk_
  have h40 : H4 0 = none := (h4o 0 (hoA _ (by omega))).trans ne_
  have h4v : H4 kv3 = some (itO w.c) := (h4o kv3 (hoA _ (by omega))).trans ((by (repeat (refine (hupd_ne (by omega)).trans ?_)); exact h3v))
  have h4N := h3N.mid (H' := H4) (n := n3) q1 q2 (fun i hi hi2 => (h4o i (hoA _ (by omega))).trans (by (repeat (refine (hupd_ne (by omega)).trans ?_)); rfl))
  show frc (I (endV n.seen 1)) _
  have hA0 : 0 ≤ endV n.seen 1 := by omega
  have hAM : endV n.seen 1 ≤ MK := by simp only [MK]; omega
  repeat' ((conv => whnf); first
    | refine ⟨_, ldc_cells hk_ (Nat.le_of_ble_eq_true rfl), ?_⟩
    | fail)
  refine mq_vmark (v := v) (k := n2) (n := endV n.seen 1) (m := endV n.seen 1 + 4 * v.c.length) (c := mkC v.c.length (endV n.seen 1)) v_laws_markVote_o (by first | assumption | omega) h4k rfl ⟨(v, endV n.seen 1), rfl, rfl, hus, hA0, hAM⟩ (fun r obs' h => K_laws_markVote_o h) fun HA hAv hAo => ?_
  have hAy : HA _ = some (.cells (voK w kv3)) := (hAo _ (by omega)).trans h4y
  have hAg : HA _ = some (.cells (ndO x k3)) := (hAo _ (by omega)).trans h4g
  have hAp : HA 1 = some (.cells ((ndF n).map AC.c)) := (hAo 1 (by omega)).trans h4p
  have hAq : HA 17 = some (.cells ((voF v).map AC.c)) := (hAo 17 (by omega)).trans h4q
  have hAw : HA 401 = some (.cells ((ndF x).map AC.c)) := (hAo 401 (by omega)).trans h4w
  have hAu : HA 417 = some (.cells ((voF w).map AC.c)) := (hAo 417 (by omega)).trans h4u
  have hA00 : HA 0 = none := (hAo 0 (by omega)).trans h40
  have hAk : HA kv3 = some (itO w.c) := (hAo kv3 (by omega)).trans h4v
  have hAN := h4N.mid (H' := HA) (n := n3) q1 q2 (fun i hi hi2 => hAo i (by omega))
  repeat' ((conv => whnf); first
    | (rw [hbb]; conv => whnf)
    | refine ⟨_, ldc_cells hk_ (Nat.le_of_ble_eq_true rfl), ?_⟩
    | (refine callt (b := [agg (ndF x), agg (ndF x)]) v_laws_eqNode (l2 (bor_nd (n := x) hAN) rfl) ⟨(x, x), rfl, hxf, hxf⟩ (.inr ⟨rfl, rfl⟩) (by first | assumption | omega) (fun r hr => K_laws_eqNode (a := (x, x)) hr) (fun hj => ?_) (fun hj => ?_) <;> (try (exact absurd rfl hj)))
    | (refine callt (b := [agg (voF w), agg (voF w)]) v_laws_eqVote (l2 (bor_vo (v := w) hk_) rfl) ⟨(w, w), rfl, hwf, hwf⟩ (.inr ⟨rfl, rfl⟩) (by first | assumption | omega) (fun r hr => K_laws_eqVote (a := (w, w)) hr) (fun hj => ?_) (fun hj => ?_) <;> (try (exact absurd rfl hj)))
    | refine ⟨rfl, ?_⟩
    | (refine ⟨fun hc => ?_, fun hc => ?_⟩ <;> (try simp (disch := omega) only [List.length_map, wrap64] at hc) <;> (try (exfalso; first | contradiction | omega)))
    | fail)
  refine mq_ninF (N := nV) (F := ndOF x) ndOF_ren (ar := [I 1]) (fun _ => rfl) (l := x.seen) (l' := mkVs x.seen 1) (r0 := I (endV x.seen 1)) v_laws_markNode_o (by first | assumption | omega) hAN rfl ⟨(x, 1), rfl, rfl, hxs, one0, oneM2⟩ (mkVs_len _ 1) (fun r obs' h => K_laws_markNode_o h) fun H5 ρ5 hρ5 h5N h5o => ?_
  have hO : ∀ i, i < n3 ∨ n3 + (NB + 1 + 1) ≤ i → nV.Off k3 f3 x.seen i := fun i hi => ⟨by have := h3N.lt; omega, fun j hj => by have := h3N.lts j hj; have := q2 j; omega⟩
  have h5y : H5 _ = some (.cells (voK w kv3)) := (h5o _ (hO _ (by omega))).trans hAy
  have h5g : H5 _ = some (.cells (ndO x k3)) := (h5o _ (hO _ (by omega))).trans hAg
  have h5p : H5 1 = some (.cells ((ndF n).map AC.c)) := (h5o 1 (hO _ (by omega))).trans hAp
  have h5q : H5 17 = some (.cells ((voF v).map AC.c)) := (h5o 17 (hO _ (by omega))).trans hAq
  have h5w : H5 401 = some (.cells ((ndF x).map AC.c)) := (h5o 401 (hO _ (by omega))).trans hAw
  have h5u : H5 417 = some (.cells ((voF w).map AC.c)) := (h5o 417 (hO _ (by omega))).trans hAu
  have h50 : H5 0 = none := (h5o 0 (hO _ (by omega))).trans hA00
  have h5v : H5 kv3 = some (itO w.c) := (h5o kv3 ⟨q5, fun j hj => q6 j hj⟩).trans hAk
  show frc (I (endV x.seen 1)) _
  have hE0 : 0 ≤ endV x.seen 1 := by omega
  have hEM : endV x.seen 1 ≤ MK := by simp only [MK]; omega
  repeat' ((conv => whnf); first
    | refine ⟨_, ldc_cells hk_ (Nat.le_of_ble_eq_true rfl), ?_⟩
    | fail)
  refine mq_vmark (v := w) (k := kv3) (n := endV x.seen 1) (m := endV x.seen 1 + 4 * w.c.length) (c := mkC w.c.length (endV x.seen 1)) v_laws_markVote_o (by first | assumption | omega) h5v rfl ⟨(w, endV x.seen 1), rfl, rfl, hvs, hE0, hEM⟩ (fun r obs' h => K_laws_markVote_o h) fun H6 h6v h6o => ?_
  have h6y : H6 _ = some (.cells (voK w kv3)) := (h6o _ (by omega)).trans h5y
  have h6g : H6 _ = some (.cells (ndO x k3)) := (h6o _ (by omega)).trans h5g
  have h6p : H6 1 = some (.cells ((ndF n).map AC.c)) := (h6o 1 (by omega)).trans h5p
  have h6q : H6 17 = some (.cells ((voF v).map AC.c)) := (h6o 17 (by omega)).trans h5q
  have h6w : H6 401 = some (.cells ((ndF x).map AC.c)) := (h6o 401 (by omega)).trans h5w
  have h6u : H6 417 = some (.cells ((voF w).map AC.c)) := (h6o 417 (by omega)).trans h5u
  have h60 : H6 0 = none := (h6o 0 (by omega)).trans h50
  have h6N := h5N.same (H' := H6) (Nat.le_refl _) fun i hi => h6o i fun e => hi (e ▸ ⟨q5, fun j hj => q6 j (by rwa [mkVs_len] at hj)⟩)
  repeat' ((conv => whnf); first
    | refine ⟨_, ldc_cells hk_ (Nat.le_of_ble_eq_true rfl), ?_⟩
    | (refine calle (b := [agg (ndF (mkN' x 1)), I 1]) v_laws_heldNode (l2 (bor_nd (n := mkN' x 1) h6N) rfl) ⟨(x, 1), rfl, hxs, one0, oneM2⟩ (.inr ⟨rfl, rfl⟩) (by first | assumption | omega) (fun r hr => K_laws_heldNode hr) ?_)
    | (refine calle (b := [agg (voF (mkV w (endV x.seen 1))), I (endV x.seen 1)]) v_laws_heldVote (l2 (bor_vo (v := mkV w (endV x.seen 1)) hk_) rfl) ⟨(w, endV x.seen 1), rfl, hvs, hE0, hEM⟩ (.inr ⟨rfl, rfl⟩) (by first | assumption | omega) (fun r hr => K_laws_heldVote hr) ?_)
    | refine ⟨rfl, ?_⟩
    | (refine ⟨fun hc => ?_, fun hc => ?_⟩ <;> (try simp (disch := omega) only [List.length_map, wrap64] at hc) <;> (try (exfalso; first | contradiction | omega)))
    | fail)
  refine mq_nestF (N := nV) (F := ndOF n) ndOF_ren (l := n.seen) (ar := [agg (ndF n)]) v_laws_toNode_o (by first | assumption | omega) (by rfl) rfl ⟨n, rfl, rfl, hsm⟩ (by rw [hst]; omega) (fun r obs' h => K_laws_toNode_o h) fun n7 H7 e7 h7A h7o => ?_
  have h7y : H7 _ = some (.cells (voK w kv3)) := (h7o _ (by omega)).trans h6y
  have h7g : H7 _ = some (.cells (ndO x k3)) := (h7o _ (by omega)).trans h6g
  have h7q : H7 17 = some (.cells ((voF v).map AC.c)) := (h7o 17 (by omega)).trans h6q
  have h7w : H7 401 = some (.cells ((ndF x).map AC.c)) := (h7o 401 (by omega)).trans h6w
  have h7u : H7 417 = some (.cells ((voF w).map AC.c)) := (h7o 417 (by omega)).trans h6u
  have h70 : H7 0 = none := (h7o 0 (by omega)).trans h60
  have h7v : H7 kv3 = some (itO (mkV w (endV x.seen 1)).c) := (h7o kv3 (by omega)).trans h6v
  have h7N := h6N.mid (H' := H7) (n := n3) q1 q2 (fun i hi hi2 => h7o i (by omega))
  repeat' ((conv => whnf); first
    | refine ⟨_, ldc_cells hk_ (Nat.le_of_ble_eq_true rfl), ?_⟩
    | fail)
  refine mq_vo' (v := v) v_laws_toVote_o (by first | assumption | omega) (by rfl) ⟨v, rfl, rfl, huf⟩ (fun r obs' h => K_laws_toVote_o h) fun n8 H8 e8 h8k h8o => ?_
  have h8y : H8 _ = some (.cells (voK w kv3)) := (h8o _ (by omega)).trans h7y
  have h8g : H8 _ = some (.cells (ndO x k3)) := (h8o _ (by omega)).trans h7g
  have h8w : H8 401 = some (.cells ((ndF x).map AC.c)) := (h8o 401 (by omega)).trans h7w
  have h8u : H8 417 = some (.cells ((voF w).map AC.c)) := (h8o 417 (by omega)).trans h7u
  have h80 : H8 0 = none := (h8o 0 (by omega)).trans h70
  have h8v : H8 kv3 = some (itO (mkV w (endV x.seen 1)).c) := (h8o kv3 (by omega)).trans h7v
  have h8N := h7N.mid (H' := H8) (n := n3) q1 q2 (fun i hi hi2 => h8o i (by omega))
  have h8A := h7A.mid (H' := H8) (n := n7) (Nat.le_refl _) (fun j => by show n7 ≤ n7 + 1 + j; omega) (fun i hi hi2 => h8o i (by omega))
  skip
  refine bq_tri (o := (x, w, t)) (n1 := NB + 1 + 1) (ar := [agg (ndF n), agg (voF v)]) v_impl_NodeHear_o rfl (l2 (bor_nd (n := n) h8A) (bor_vo (v := v) h8k)) ⟨(n, v), rfl, rfl, ⟨hfl, huf⟩, hsm.1⟩ rfl (by rw [hsP]; omega) (fun r obs' h => by rw [← ho]; exact K_impl_NodeHear_o h) fun n9 H9 k9 f9 kv9 e9 h9N h9v p1 p2 p3 p4 p5 p6 h9o => ?_
  dsimp only at h9N h9v p6
  have h9y : H9 _ = some (.cells (voK w kv3)) := (h9o _ (by omega)).trans h8y
  have h9g : H9 _ = some (.cells (ndO x k3)) := (h9o _ (by omega)).trans h8g
  have h9w : H9 401 = some (.cells ((ndF x).map AC.c)) := (h9o 401 (by omega)).trans h8w
  have h9u : H9 417 = some (.cells ((voF w).map AC.c)) := (h9o 417 (by omega)).trans h8u
  have h90 : H9 0 = none := (h9o 0 (by omega)).trans h80
  have h9z : H9 kv3 = some (itO (mkV w (endV x.seen 1)).c) := (h9o kv3 (by omega)).trans h8v
  have h9M := h8N.mid (H' := H9) (n := n3) q1 q2 (fun i hi hi2 => h9o i (by omega))
  repeat' ((conv => whnf); first
    | (rw [hbb]; conv => whnf)
    | refine ⟨_, ldc_cells hk_ (Nat.le_of_ble_eq_true rfl), ?_⟩
    | (refine callt (b := [agg (ndF x), agg (ndF x)]) v_laws_eqNode (l2 (bor_nd (n := x) (h9N.mid (n := n9) p1 p2 (fun i hi hi2 => (by (repeat (refine (hupd_ne (by omega)).trans ?_)); rfl)))) rfl) ⟨(x, x), rfl, hxf, hxf⟩ (.inr ⟨rfl, rfl⟩) (by first | assumption | omega) (fun r hr => K_laws_eqNode (a := (x, x)) hr) (fun hj => ?_) (fun hj => ?_) <;> (try (exact absurd rfl hj)))
    | (refine callt (b := [agg (voF w), agg (voF w)]) v_laws_eqVote (l2 (bor_vo (v := w) hk_) rfl) ⟨(w, w), rfl, hwf, hwf⟩ (.inr ⟨rfl, rfl⟩) (by first | assumption | omega) (fun r hr => K_laws_eqVote (a := (w, w)) hr) (fun hj => ?_) (fun hj => ?_) <;> (try (exact absurd rfl hj)))
    | (refine calle (b := [agg (ndF (mkN' x 1)), I 1]) v_laws_heldNode (l2 (bor_nd (n := mkN' x 1) (h9M.mid (n := n3) q1 q2 (fun i hi hi2 => (by (repeat (refine (hupd_ne (by omega)).trans ?_)); rfl)))) rfl) ⟨(x, 1), rfl, hxs, one0, oneM2⟩ (.inr ⟨rfl, rfl⟩) (by first | assumption | omega) (fun r hr => K_laws_heldNode hr) ?_)
    | (refine calle (b := [agg (voF (mkV w (endV x.seen 1))), I (endV x.seen 1)]) v_laws_heldVote (l2 (bor_vo (v := mkV w (endV x.seen 1)) hk_) rfl) ⟨(w, endV x.seen 1), rfl, hvs, hE0, hEM⟩ (.inr ⟨rfl, rfl⟩) (by first | assumption | omega) (fun r hr => K_laws_heldVote hr) ?_)
    | refine ⟨rfl, ?_⟩
    | (refine ⟨?_, _, (?_ : (_ : Option Ob) = _), rfl, rfl, ?_, ?_⟩; rotate_left; (exact hk_); exact Nat.le_of_ble_eq_true rfl)
    | (refine ⟨fun hc => ?_, fun hc => ?_⟩ <;> (try simp (disch := omega) only [List.length_map, wrap64] at hc) <;> (try (exfalso; first | contradiction | omega)))
    | exact ⟨⟨_, rfl, rfl, (n, v), rfl, (by refine congrArg B (Eq.symm (tb_pos ?_)); (try dsimp only); first | done | exact absurd True.intro hj | (exact True.intro))⟩, (by first | exact Nat.le_refl _ | omega), (by exact h0_)⟩
    | fail)
end Av
end Go.Proofs.Ytdboofnogabefaa
