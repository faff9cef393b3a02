/- The walks: the reference's functions on worlds: ticks, events, new worlds. -/
import Derived.Test.YtlbdoamidblkaaaZM
set_option linter.unusedVariables false
set_option linter.unusedSimpArgs false
namespace Go.Proofs.Ytlbdoamidblkaaa
namespace Av
open Go.RowKit
def tickN (ns : List Nd) (e : Int) (i : Nat) : List Nd := (ns.take i).map (fun n => entN n e) ++ ns.drop i
theorem tickN_len {ns : List Nd} {e : Int} {i : Nat} : (tickN ns e i).length = ns.length := by
  unfold tickN; simp only [List.length_append, List.length_map, List.length_take, List.length_drop]; omega
theorem tickN_all {ns : List Nd} {e : Int} : tickN ns e ns.length = ns.map fun n => entN n e := by unfold tickN; simp
theorem tickN_at {ns : List Nd} {e : Int} {i : Nat} {n : Nd} (h : ns[i]? = some n) : (tickN ns e i)[i]? = some n := by
  have hi := (List.getElem?_eq_some_iff.1 h).1
  unfold tickN
  rw [List.getElem?_append_right (by rw [List.length_map, List.length_take]; omega), List.length_map, List.length_take, List.getElem?_drop, Nat.min_eq_left (Nat.le_of_lt hi), show i + (i - i) = i by omega]
  exact h
theorem tickN_set {ns : List Nd} {e : Int} {i : Nat} {n : Nd} (h : ns[i]? = some n) : (tickN ns e i).set i (entN n e) = tickN ns e (i + 1) := by
  have hi := (List.getElem?_eq_some_iff.1 h).1
  unfold tickN
  rw [List.set_append_right _ _ (by rw [List.length_map, List.length_take]; omega), List.length_map, List.length_take, Nat.min_eq_left (Nat.le_of_lt hi), Nat.sub_self, List.take_add_one, h, List.drop_eq_getElem_cons hi]
  show (ns.take i).map (fun n => entN n e) ++ (entN n e :: ns.drop (i + 1)) = _
  simp
theorem fupd_self {f : Nat → Nat} {i : Nat} : fupd f i (f i) = f := by
  funext j
  by_cases e : j = i
  · subst e; exact fupd_at
  · exact fupd_ne e
theorem WAt.tick {H H' : Hp} {nx nx' : Nat} {w : Wo} {kN i : Nat} {f : Nat → Nat} {n n' : Nd} (h : WAt H nx w kN f) (hi : i < 4) (hs : n'.seen = n.seen) (hn : w.nodes[i]? = some n) (hk : ∀ k, k ≠ kN → k < nx → H' k = H k)
    (hA : H' kN = some (.arr ty_impl_Node 4 ((ndsK f w.nodes).set i (ndK n' (f (i + 1)))))) (hle : nx ≤ nx') : WAt H' nx' ⟨w.ep, w.nodes.set i n', w.log, w.bad⟩ kN f := by
  have hf := h.fn (i + 1) (by omega)
  have := h.put (n := n') (t := f (i + 1)) (nx' := nx') hi (by
    rw [hk _ (h.ne (by omega)) hf, h.tok (i + 1) (by omega), hs]
    show some (tokO (((w.nodes[i]?).map Nd.seen).getD [])) = _
    rw [hn]; rfl) (.inl rfl) (fun k _ h2 h3 => hk k h2 h3) hA (by omega) hle
  rw [fupd_self] at this
  exact this
attribute [local irreducible] Valid ValidM
set_option maxHeartbeats 4000000 in
set_option maxRecDepth 100000 in
theorem v_spec_l21Tick : ValidM Try.prog n_spec_l21Tick S_spec_l21Tick := by
  refine validM_of_swp mixed is_spec_l21Tick (by rintro _ _ ⟨a, rfl, _⟩; exact Nat.le_of_ble_eq_true rfl) ?_
  rintro _ _ rm ⟨w, rfl, rfl, hpre⟩ hl
  try dsimp only at hpre
  have hI : WInv w := hpre
  have hl4 := hI.2.2.1
  obtain ⟨he1, he2⟩ := hI.1
  have hwe : IntKind.i64.wrap (w.ep + 1) = w.ep + 1 := by rw [wrap64] <;> omega
  have hst : S_spec_l12Enter.st = 0 := rfl
  change swp _ _ _ _ (fun k : Nat => (obsW w)[k]?) 6 _
  dsimp only
  have hW0 := startW hI.2.2.1
  have hS0 := staleW w
  generalize (fun k : Nat => (obsW w)[k]?) = H0 at *
  repeat' ((conv => whnf); first
    | refine ⟨_, rfl, ?_⟩
    | refine ⟨rfl, ?_⟩
    | refine ⟨_, _, rfl, rfl, rfl, Nat.le_of_ble_eq_true rfl, ?_⟩
    | fail)
  conv => whnf
  refine ⟨fun fr H nx rm' => ∃ i : Nat, Has fr [(1, .w (.o (.ptr 6 0))), (2, .w (.o (.ptr 22 0))), (3, I i)] ∧ i ≤ 4 ∧ WAt H nx ⟨tickE w, tickN w.nodes (tickE w) i, w.log, w.bad⟩ 0 stdF ∧ Stale H ∧ H 6 = some (.cells (wvC ⟨tickE w, w.nodes, w.log, w.bad⟩ 0 stdF)) ∧ H 22 = some (.cells [cI 0, .e0, .e0, cI 0]) ∧ 38 ≤ nx ∧ rm' = rm,
    fun fr _ _ _ => 4 - ix (fr 3), ⟨0, ⟨rfl, rfl, rfl, trivial⟩, Nat.zero_le _, (hW0.ep (tickE w)).keep (by omega) (fun k hk => ?_), hS0.keep (fun k h1 h2 => .inl ?_), ?_, hk_, ln_, rfl⟩, ?_⟩
  · (repeat (refine (hupd_ne (by omega)).trans ?_)); rfl
  · (repeat (refine (hupd_ne (by omega)).trans ?_)); rfl
  · refine (hk_ : (_ : Option Ob) = some (.cells (put (wvC w 0 stdF) 0 [.c (.v (.int .i64 (if 30 < IntKind.i64.wrap (w.ep + 1) then 30 else IntKind.i64.wrap (w.ep + 1))))]))).trans ?_
    rw [hwe]; rfl
  rintro fr H nx rm' ⟨i, hfr, hi, hW, hS, hH6, hH22, hnx, rfl⟩
  rw [hfr.eq]
  have hA : H 0 = some (.arr ty_impl_Node 4 (ndsK stdF (tickN w.nodes (tickE w) i))) := hW.arr
  rcases Nat.lt_or_ge i 4 with hi' | hi'
  · obtain ⟨n, hn⟩ : ∃ n, w.nodes[i]? = some n := ⟨_, List.getElem?_eq_getElem (by omega)⟩
    have hn2 := tickN_at (e := tickE w) hn
    have hnb : NdB n := hI.2.2.2.2 n (List.mem_of_getElem? hn)
    have hep : In n.ep (-100) 100 := ⟨Int.le_trans (by decide) hnb.2.1.1, Int.le_trans hnb.2.1.2 (by decide)⟩
    have hln : (ndsK stdF (tickN w.nodes (tickE w) i)).length = 4 := by rw [ndsK_len, tickN_len]; exact hl4
    have hT : H (i + 1 + 1) = some (tokO n.seen) := by
      have := hW.tok (i + 1) (by omega)
      rw [show lst (⟨tickE w, tickN w.nodes (tickE w) i, w.log, w.bad⟩ : Wo) (i + 1) = n.seen from by show (((tickN w.nodes (tickE w) i)[i]?).map Nd.seen).getD [] = _; rw [hn2]; rfl] at this
      exact this
    repeat' ((conv => whnf); first
      | refine ⟨_, _, i, _, hk_, rfl, ndsK_at hn2, ?_⟩
      | refine ⟨_, ldc_pa hk_ (ndsK_at hn2) (Nat.le_of_ble_eq_true rfl), ?_⟩
      | refine ⟨_, _, _, _, (hk_ : (_ : Option Ob) = _), ndsK_at hn2, rfl, rfl, Nat.le_of_ble_eq_true rfl, ?_⟩
      | refine mq_ent (n := n) (e := tickE w) (t := i + 1 + 1) v_spec_l12Enter (by first | assumption | omega) hk_ hep rfl ?_
      | refine ⟨rfl, ?_⟩
      | refine ⟨_, ldc_cells (by first | assumption | exact zk ‹_› (by omega) | exact zk (zk ‹_› (by omega)) (by omega)) (Nat.le_of_ble_eq_true rfl), ?_⟩
      | refine ⟨_, _, _, ((by exact hk_) : (_ : Option Ob) = _), ?_⟩
      | (refine ⟨fun hc => ?_, fun hc => ?_⟩ <;> (try simp (disch := omega) only [List.length_map, wrap64] at hc) <;> (try (exfalso; first | contradiction | omega)))
      | fail)
    refine ⟨⟨i + 1, ⟨rfl, rfl, congrArg I (wrap_up (n := 4) hi' (by decide)), trivial⟩, hi', ?_, hS.keep (fun k h1 h2 => .inl ?_), hk_, hk_, by omega, rfl⟩, ?_⟩
    · rw [← tickN_set hn]
      refine hW.tick hi' (entN_seen n (tickE w)) hn2 (fun k h1 h2 => ?_) (hupd_at.trans rfl) (by omega)
      (repeat (refine (hupd_ne (by omega)).trans ?_)); rfl
    · (repeat (refine (hupd_ne (by omega)).trans ?_)); rfl
    · show 4 - ix (I _) < 4 - ix (I _)
      simp only [wrap_up (n := 4) hi' (by decide), ix, Int.toNat_natCast]
      omega
  · have hie : i = 4 := by omega
    subst hie
    have hln : (ndsK stdF (tickN w.nodes (tickE w) 4)).length = 4 := by rw [ndsK_len, tickN_len]; exact hl4
    repeat' ((conv => whnf); first
      | refine ⟨rfl, ?_⟩
      | refine ⟨_, ldc_cells (by first | assumption | exact zk ‹_› (by omega) | exact zk (zk ‹_› (by omega)) (by omega)) (Nat.le_of_ble_eq_true rfl), ?_⟩
      | (refine ⟨?_, _, (?_ : (_ : Option Ob) = _), rfl, rfl, ?_, ?_⟩; rotate_left; (exact hk_); exact Nat.le_of_ble_eq_true rfl)
      | refine ⟨_, _, _, ((by exact hk_) : (_ : Option Ob) = _), ?_⟩
      | (refine ⟨fun hc => ?_, fun hc => ?_⟩ <;> (try simp (disch := omega) only [List.length_map, wrap64] at hc) <;> (try (exfalso; first | contradiction | omega)))
      | fail)
    have e4 : tickN w.nodes (tickE w) 4 = w.nodes.map fun n => entN n (tickE w) := by have := tickN_all (ns := w.nodes) (e := tickE w); rwa [hl4] at this
    have hW4 : WAt H nx (tickW w) 0 stdF := by have := hW; rw [e4] at this; exact this
    exact finM_W (w := tickW w) (f := stdF) (Nat.le_add_right _ _) (hW4.box hH22) (hS.keep fun k h1 h2 => .inl (hupd_ne (by omega))) (fun ks => ⟨⟨_, rfl, .inl rfl⟩, trivial⟩) (fun r obs' h => ⟨w, rfl, rfl, h⟩)
set_option maxHeartbeats 4000000 in
set_option maxRecDepth 100000 in
theorem v_spec_l21Do : ValidM Try.prog n_spec_l21Do S_spec_l21Do := by
  refine validM_of_swp mixed is_spec_l21Do (by rintro _ _ ⟨a, rfl, _⟩; exact Nat.le_of_ble_eq_true rfl) ?_
  rintro _ _ rm ⟨⟨w, e⟩, rfl, rfl, hpre⟩ hl
  try dsimp only at hpre
  obtain ⟨hI, hfv⟩ := hpre
  have hl4 := hI.2.2.1
  have hl5 : (doW w e).nodes.length = 4 := (doW_inv hI).2.2.1
  have hs1 : S_spec_l21Tick.st = 0 := rfl
  have hs2 : S_spec_l21Propose.st = 0 := rfl
  have hs3 : S_spec_l21Bring.st = 0 := rfl
  have hs4 : S_spec_l21Send.st = 0 := rfl
  change swp _ _ _ _ (fun k : Nat => (obsW w)[k]?) 6 _
  dsimp only
  have hW0 := startW hI.2.2.1
  have hS0 := staleW w
  generalize (fun k : Nat => (obsW w)[k]?) = H0 at *
  by_cases k1 : e.k = 1
  · have e2 : doW w e = tickW w := if_pos k1
    repeat' ((conv => whnf); first
      | refine ⟨_, rfl, ?_⟩
      | refine ⟨rfl, ?_⟩
      | (refine ⟨fun hc => ?_, fun hc => ?_⟩ <;> (try simp (disch := omega) only [List.length_map, wrap64] at hc) <;> (try (exfalso; first | contradiction | omega)))
      | fail)
    refine mq_W (w := w) (w' := tickW w) (kN := 0) (f := stdF) v_spec_l21Tick rfl (by first | assumption | omega) (hW0.keep (by omega) (fun k hk => ?_)) (by rw [← e2]; exact hl5) rfl (fun _ => rfl) ⟨w, rfl, rfl, hI⟩ (fun r obs' h => K_spec_l21Tick h) (fun f' H'' hW' hT' hK' => ?_)
    · (repeat (refine (hupd_ne (by omega)).trans ?_)); rfl
    have hS2 : Stale H'' := by
      refine Stale.call (H := _) (kN := 0) (f := stdF) (hS0.keep fun k h1 h2 => .inl ?_) rfl (by omega) hT' hK'
      (repeat (refine (hupd_ne (by omega)).trans ?_)); rfl
    have hE : H'' 38 = some (.cells [cI 0, .e0, .e0, cI 0]) := (hK' 38 (by decide) (fun j hj e => by have e : 38 = j + 1 := e; omega) (by omega)).trans hk_
    repeat' ((conv => whnf); first
      | (refine ⟨?_, _, (?_ : (_ : Option Ob) = _), rfl, rfl, ?_, ?_⟩; rotate_left; (exact hk_); exact Nat.le_of_ble_eq_true rfl)
      | fail)
    exact finM_W (w := tickW w) (f := f') (Nat.le_add_right _ _) (hW'.box hE) (hS2.keep fun k h1 h2 => .inl (hupd_ne (by omega))) (fun ks => ⟨⟨_, rfl, .inl rfl⟩, trivial⟩) (fun r obs' h => ⟨(w, e), rfl, rfl, by show RW' (doW w e) r obs'; rw [e2]; exact h⟩)
  · by_cases k2 : e.k = 2
    · have e2 : doW w e = propW w e.a e.p := by unfold doW; rw [if_neg k1, if_pos k2]
      repeat' ((conv => whnf); first
        | refine ⟨_, rfl, ?_⟩
        | refine ⟨rfl, ?_⟩
        | (refine ⟨fun hc => ?_, fun hc => ?_⟩ <;> (try simp (disch := omega) only [List.length_map, wrap64] at hc) <;> (try (exfalso; first | contradiction | omega)))
        | fail)
      refine mq_W (w := w) (w' := propW w e.a e.p) (kN := 0) (f := stdF) v_spec_l21Propose rfl (by first | assumption | omega) (hW0.keep (by omega) (fun k hk => ?_)) (by rw [← e2]; exact hl5) rfl (fun _ => rfl) ⟨(w, e.a, e.p), rfl, rfl, hI⟩ (fun r obs' h => K_spec_l21Propose h) (fun f' H'' hW' hT' hK' => ?_)
      · (repeat (refine (hupd_ne (by omega)).trans ?_)); rfl
      have hS2 : Stale H'' := by
        refine Stale.call (H := _) (kN := 0) (f := stdF) (hS0.keep fun k h1 h2 => .inl ?_) rfl (by omega) hT' hK'
        (repeat (refine (hupd_ne (by omega)).trans ?_)); rfl
      have hE : H'' 38 = some (.cells [cI 0, .e0, .e0, cI 0]) := (hK' 38 (by decide) (fun j hj e => by have e : 38 = j + 1 := e; omega) (by omega)).trans hk_
      repeat' ((conv => whnf); first
        | (refine ⟨?_, _, (?_ : (_ : Option Ob) = _), rfl, rfl, ?_, ?_⟩; rotate_left; (exact hk_); exact Nat.le_of_ble_eq_true rfl)
        | fail)
      exact finM_W (w := propW w e.a e.p) (f := f') (Nat.le_add_right _ _) (hW'.box hE) (hS2.keep fun k h1 h2 => .inl (hupd_ne (by omega))) (fun ks => ⟨⟨_, rfl, .inl rfl⟩, trivial⟩) (fun r obs' h => ⟨(w, e), rfl, rfl, by show RW' (doW w e) r obs'; rw [e2]; exact h⟩)
    · by_cases k3 : e.k = 3
      · have e2 : doW w e = bringW w e.a e.b := by unfold doW; rw [if_neg k1, if_neg k2, if_pos k3]
        repeat' ((conv => whnf); first
          | refine ⟨_, rfl, ?_⟩
          | refine ⟨rfl, ?_⟩
          | (refine ⟨fun hc => ?_, fun hc => ?_⟩ <;> (try simp (disch := omega) only [List.length_map, wrap64] at hc) <;> (try (exfalso; first | contradiction | omega)))
          | fail)
        refine mq_W (w := w) (w' := bringW w e.a e.b) (kN := 0) (f := stdF) v_spec_l21Bring rfl (by first | assumption | omega) (hW0.keep (by omega) (fun k hk => ?_)) (by rw [← e2]; exact hl5) rfl (fun _ => rfl) ⟨(w, e.a, e.b), rfl, rfl, hI⟩ (fun r obs' h => K_spec_l21Bring h) (fun f' H'' hW' hT' hK' => ?_)
        · (repeat (refine (hupd_ne (by omega)).trans ?_)); rfl
        have hS2 : Stale H'' := by
          refine Stale.call (H := _) (kN := 0) (f := stdF) (hS0.keep fun k h1 h2 => .inl ?_) rfl (by omega) hT' hK'
          (repeat (refine (hupd_ne (by omega)).trans ?_)); rfl
        have hE : H'' 38 = some (.cells [cI 0, .e0, .e0, cI 0]) := (hK' 38 (by decide) (fun j hj e => by have e : 38 = j + 1 := e; omega) (by omega)).trans hk_
        repeat' ((conv => whnf); first
          | (refine ⟨?_, _, (?_ : (_ : Option Ob) = _), rfl, rfl, ?_, ?_⟩; rotate_left; (exact hk_); exact Nat.le_of_ble_eq_true rfl)
          | fail)
        exact finM_W (w := bringW w e.a e.b) (f := f') (Nat.le_add_right _ _) (hW'.box hE) (hS2.keep fun k h1 h2 => .inl (hupd_ne (by omega))) (fun ks => ⟨⟨_, rfl, .inl rfl⟩, trivial⟩) (fun r obs' h => ⟨(w, e), rfl, rfl, by show RW' (doW w e) r obs'; rw [e2]; exact h⟩)
      · by_cases hm : e.k = 4 ∧ VoteOk e.v ∧ e.v.n = w.bad
        · obtain ⟨hm1, hm2, hm3⟩ := id hm
          have e2 : doW w e = sendW w e.v true := by unfold doW; rw [if_neg k1, if_neg k2, if_neg k3, tb_pos hm]; rfl
          repeat' ((conv => whnf); first
            | refine ⟨_, rfl, ?_⟩
            | refine ⟨rfl, ?_⟩
            | (refine ⟨fun hc => ?_, fun hc => ?_⟩ <;> (try simp (disch := omega) only [List.length_map, wrap64] at hc) <;> (try (exfalso; first | contradiction | omega)))
            | (refine ⟨⟨e.v, rfl, (by exact pr_)⟩, v_spec_l3Vote, (.inl rfl), (by first | assumption | omega), fun r hr => ?_⟩; rcases K_spec_l3Vote (a := e.v) hr with ⟨hj, rfl⟩ | ⟨hj, rfl⟩ <;> clear hr <;> (try simp only [etaPa, etaIt, etaVo] at hj) <;> (try contradiction))
            | fail)
          refine mq_W (w := w) (w' := sendW w e.v true) (kN := 0) (f := stdF) v_spec_l21Send rfl (by first | assumption | omega) (hW0.keep (by omega) (fun k hk => ?_)) (by rw [← e2]; exact hl5) rfl (fun _ => rfl) ⟨(w, e.v, true), rfl, rfl, hI, hfv⟩ (fun r obs' h => K_spec_l21Send h) (fun f' H'' hW' hT' hK' => ?_)
          · (repeat (refine (hupd_ne (by omega)).trans ?_)); rfl
          have hS2 : Stale H'' := by
            refine Stale.call (H := _) (kN := 0) (f := stdF) (hS0.keep fun k h1 h2 => .inl ?_) rfl (by omega) hT' hK'
            (repeat (refine (hupd_ne (by omega)).trans ?_)); rfl
          have hE : H'' 38 = some (.cells [cI 0, .e0, .e0, cI 0]) := (hK' 38 (by decide) (fun j hj e => by have e : 38 = j + 1 := e; omega) (by omega)).trans hk_
          repeat' ((conv => whnf); first
            | (refine ⟨?_, _, (?_ : (_ : Option Ob) = _), rfl, rfl, ?_, ?_⟩; rotate_left; (exact hk_); exact Nat.le_of_ble_eq_true rfl)
            | fail)
          exact finM_W (w := sendW w e.v true) (f := f') (Nat.le_add_right _ _) (hW'.box hE) (hS2.keep fun k h1 h2 => .inl (hupd_ne (by omega))) (fun ks => ⟨⟨_, rfl, .inl rfl⟩, trivial⟩) (fun r obs' h => ⟨(w, e), rfl, rfl, by show RW' (doW w e) r obs'; rw [e2]; exact h⟩)
        · have e2 : doW w e = w := by unfold doW; rw [if_neg k1, if_neg k2, if_neg k3, tb_neg hm]; rfl
          repeat' ((conv => whnf); first
            | (exfalso; exact hm ⟨by assumption, by assumption, by assumption⟩)
            | refine ⟨_, rfl, ?_⟩
            | refine ⟨rfl, ?_⟩
            | refine ⟨_, _, hupd_at, rfl, rfl, Nat.le_of_ble_eq_true rfl, ?_⟩
            | (refine ⟨fun hc => ?_, fun hc => ?_⟩ <;> (try simp (disch := omega) only [List.length_map, wrap64] at hc) <;> (try (exfalso; first | contradiction | omega)))
            | (refine ⟨⟨e.v, rfl, (by exact pr_)⟩, v_spec_l3Vote, (.inl rfl), (by first | assumption | omega), fun r hr => ?_⟩; rcases K_spec_l3Vote (a := e.v) hr with ⟨hj, rfl⟩ | ⟨hj, rfl⟩ <;> clear hr <;> (try simp only [etaPa, etaIt, etaVo] at hj) <;> (try contradiction))
            | fail)
          all_goals
            refine finM_W (w := w) (f := stdF) (nm := 6) (Nat.le_add_right _ _) (hW0.keep (Nat.le_refl 6) (fun k hk => ?_)) (hS0.keep fun k h1 h2 => .inl ?_) (fun ks => ⟨⟨_, rfl, .inl rfl⟩, trivial⟩) (fun r obs' h => ⟨(w, e), rfl, rfl, by show RW' (doW w e) r obs'; rw [e2]; exact h⟩)
            · (repeat (refine (hupd_ne (by omega)).trans ?_)); rfl
            · (repeat (refine (hupd_ne (by omega)).trans ?_)); rfl
theorem ndsK_snoc {f : Nat → Nat} {l : List Nd} {n : Nd} {t : Nat} : ndsK f l ++ [ndK n t] = ndsK (fupd f (l.length + 1) t) (l ++ [n]) := by
  apply List.ext_getElem?
  intro j
  rw [ndsK_get]
  by_cases h : j < l.length
  · rw [List.getElem?_append_left (by rw [ndsK_len]; exact h), List.getElem?_append_left h, ndsK_get, fupd_ne (by omega)]
  · rw [List.getElem?_append_right (by rw [ndsK_len]; omega), List.getElem?_append_right (by omega), ndsK_len]
    by_cases e : j = l.length
    · subst e; rw [Nat.sub_self, fupd_at]; rfl
    · rw [List.getElem?_eq_none (by simp; omega), List.getElem?_eq_none (by simp; omega)]; rfl
theorem newW_at {bad : Int} {i : Nat} (h : i < 4) : (newW bad).nodes[i]? = some ⟨((i + 1 : Nat) : Int), 0, 0, []⟩ := by
  match i, h with
  | 0, _ => rfl
  | 1, _ => rfl
  | 2, _ => rfl
  | 3, _ => rfl
theorem newW_take {bad : Int} {i : Nat} (h : i < 4) : (newW bad).nodes.take (i + 1) = (newW bad).nodes.take i ++ [⟨((i + 1 : Nat) : Int), 0, 0, []⟩] := by
  rw [List.take_add_one, newW_at h]; rfl
theorem newW_snoc {bad : Int} {f : Nat → Nat} {i t : Nat} (h : i < 4) : ndsK f ((newW bad).nodes.take i) ++ [ndK ⟨((i + 1 : Nat) : Int), 0, 0, []⟩ t] = ndsK (fupd f (i + 1) t) ((newW bad).nodes.take (i + 1)) := by
  rw [ndsK_snoc, newW_take h, List.length_take, show min i (newW bad).nodes.length = i from by show min i 4 = i; omega]
set_option maxHeartbeats 4000000 in
set_option maxRecDepth 100000 in
theorem v_spec_WorldNew : ValidM Try.prog n_spec_WorldNew S_spec_WorldNew := by
  refine validM_of_swp mixed is_spec_WorldNew (by rintro _ _ ⟨a, rfl, _⟩; exact Nat.le_of_ble_eq_true rfl) ?_
  rintro _ _ rm ⟨bad, rfl, rfl, hpre⟩ hl
  try dsimp only at hpre
  have hst : S_spec_NodeNew.st = 0 := rfl
  change swp _ _ _ _ _ 0 _
  dsimp only
  repeat' ((conv => whnf); first
    | refine ⟨_, _, hupd_at, rfl, rfl, Nat.le_of_ble_eq_true rfl, ?_⟩
    | (refine callt (b := [I _, I _, I _]) v_spec_l6In rfl ⟨(_, _, _), rfl, (by exact True.intro)⟩ (.inl rfl) (by first | assumption | omega) (fun r hr => K_spec_l6In (a := (_, _, _)) hr) (fun hj => ?_) (fun hj => ?_) <;> (try simp only [etaPa, etaIt, etaVo] at hj) <;> (try contradiction))
    | fail)
  conv => whnf
  refine ⟨fun fr H nx rm' => ∃ (i kN : Nat) (f : Nat → Nat) (cN : AC), Has fr [(2, .w (.o (.ptr 0 0))), (4, .w (.o (.ptr 128 0))), (5, I ((i + 1 : Nat) : Int))] ∧ i ≤ 4 ∧ H 128 = some (.cells [cI 0, cN, tkC (f 0) [], cI bad]) ∧ H 0 = some (.cells [cI 0, .e0, .e0, cI 0]) ∧
      ((i = 0 ∧ cN = .e0) ∨ (0 < i ∧ cN = .ow kN ∧ H kN = some (.arr ty_impl_Node 4 (ndsK f ((newW bad).nodes.take i))))) ∧ kN < nx ∧ (∀ j, j ≤ i → H (f j) = some (tokO []) ∧ f j < nx) ∧ (∀ a b, a ≤ i → b ≤ i → f a = f b → a = b) ∧ 160 ≤ nx ∧ rm' = rm,
    fun fr _ _ _ => 5 - ix (fr 5), ⟨0, 0, fun _ => 96, .e0, ⟨rfl, rfl, rfl, trivial⟩, Nat.zero_le _, hk_, hk_, .inl ⟨rfl, rfl⟩, by omega, fun j hj => ⟨hk_, (by show 96 < _; omega)⟩, fun a b ha hb _ => by omega, ln_, rfl⟩, ?_⟩
  rintro fr H nx rm' ⟨i, kN, f, cN, hfr, hi, hH1, hH0, hN, hkn, hf, hinj, hnx, rfl⟩
  rw [hfr.eq]
  rcases Nat.lt_or_ge i 4 with hi' | hi'
  · have hin : In ((i + 1 : Nat) : Int) 1 4 := ⟨by omega, by omega⟩
    have hin2 : In ((i : Int) + 1) 1 4 := ⟨by omega, by omega⟩
    have hd : ∀ j, j ≤ i → f j ≠ 128 ∧ f j ≠ 0 := fun j hj => by
      have := (hf j hj).1
      exact ⟨(fun e => by rw [e, hH1] at this; cases this), (fun e => by rw [e, hH0] at this; cases this)⟩
    rcases hN with ⟨rfl, rfl⟩ | ⟨h0, rfl, hA⟩
    · skip
      repeat' ((conv => whnf); first
        | refine mq_nn v_spec_NodeNew (by first | assumption | omega) hin rfl ?_
        | refine ⟨_, ldc_cells hk_ (Nat.le_of_ble_eq_true rfl), ?_⟩
        | refine ⟨_, news_ow hupd_at, newsz_ow hupd_at, (by simp), ?_⟩
        | refine ⟨rfl, ?_⟩
        | refine ⟨_, _, hupd_at, rfl, rfl, Nat.le_of_ble_eq_true rfl, ?_⟩
        | (refine ⟨?_, _, (?_ : (_ : Option Ob) = _), rfl, rfl, ?_, ?_⟩; rotate_left; (exact hk_); exact Nat.le_of_ble_eq_true rfl)
        | (refine ⟨fun hc => ?_, fun hc => ?_⟩ <;> (try simp (disch := omega) only [List.length_map, wrap64] at hc) <;> (try (exfalso; first | contradiction | omega)))
        | fail)
      refine ⟨⟨0 + 1, _, fupd f (0 + 1) (nx + 16 + 16 + 16), _, ⟨rfl, rfl, congrArg I (wrap_up (n := 5) (i := 0 + 1) (by omega) (by decide)), trivial⟩, by omega, hk_, hk_, .inr ⟨by omega, rfl, ?_⟩, ln_, fun j hj => ?_, fun a b ha hb e => ?_, by omega, rfl⟩, ?_⟩
      · refine Eq.trans (b := some (Ob.arr ty_impl_Node 4 (ndsK f ((newW bad).nodes.take 0) ++ [ndK ⟨((0 + 1 : Nat) : Int), 0, 0, []⟩ (nx + 16 + 16 + 16)]))) hk_ ?_
        exact congrArg (fun z => some (Ob.arr ty_impl_Node 4 z)) (newW_snoc (f := f) hi')
      · by_cases e : j = 0 + 1
        · subst e
          rw [fupd_at]
          exact ⟨hk_, by omega⟩
        · rw [fupd_ne e]
          obtain ⟨g1, g2⟩ := hf j (by omega)
          obtain ⟨g3, g4⟩ := hd j (by omega)
          skip
          refine ⟨?_, by omega⟩
          refine Eq.trans (b := H (f j)) ?_ g1
          (repeat (refine (hupd_ne (by omega)).trans ?_)); rfl
      · by_cases ea : a = 0 + 1
        · subst ea
          by_cases eb : b = 0 + 1
          · exact eb.symm
          · rw [fupd_at, fupd_ne eb] at e
            have := (hf b (by omega)).2
            omega
        · rw [fupd_ne ea] at e
          by_cases eb : b = 0 + 1
          · subst eb
            rw [fupd_at] at e
            have := (hf a (by omega)).2
            omega
          · rw [fupd_ne eb] at e
            exact hinj a b (by omega) (by omega) e
      · show 5 - ix (I _) < 5 - ix (I _)
        simp only [wrap_up (n := 5) (i := 0 + 1) (by omega) (by decide), ix, Int.toNat_natCast]
        omega
    · have hk1 : kN ≠ 128 := fun e => by rw [e, hH1] at hA; cases hA
      have hk2 : kN ≠ 0 := fun e => by rw [e, hH0] at hA; cases hA
      have hln : (ndsK f ((newW bad).nodes.take i)).length = i := by rw [ndsK_len, List.length_take]; show min i 4 = i; omega
      repeat' ((conv => whnf); first
        | refine mq_nn v_spec_NodeNew (by first | assumption | omega) hin rfl ?_
        | refine ⟨_, ldc_cells hk_ (Nat.le_of_ble_eq_true rfl), ?_⟩
        | refine ⟨_, news_ow hupd_at, newsz_ow hupd_at, _, (hk_ : (_ : Option Ob) = _), (by rw [hln]; simp; omega), ?_⟩
        | refine ⟨rfl, ?_⟩
        | refine ⟨_, _, hupd_at, rfl, rfl, Nat.le_of_ble_eq_true rfl, ?_⟩
        | (refine ⟨?_, _, (?_ : (_ : Option Ob) = _), rfl, rfl, ?_, ?_⟩; rotate_left; (exact hk_); exact Nat.le_of_ble_eq_true rfl)
        | (refine ⟨fun hc => ?_, fun hc => ?_⟩ <;> (try simp (disch := omega) only [List.length_map, wrap64] at hc) <;> (try (exfalso; first | contradiction | omega)))
        | fail)
      refine ⟨⟨i + 1, _, fupd f (i + 1) (nx + 16 + 16 + 16), _, ⟨rfl, rfl, congrArg I (wrap_up (n := 5) (i := i + 1) (by omega) (by decide)), trivial⟩, by omega, hk_, hk_, .inr ⟨by omega, rfl, ?_⟩, ln_, fun j hj => ?_, fun a b ha hb e => ?_, by omega, rfl⟩, ?_⟩
      · refine Eq.trans (b := some (Ob.arr ty_impl_Node 4 (ndsK f ((newW bad).nodes.take i) ++ [ndK ⟨((i + 1 : Nat) : Int), 0, 0, []⟩ (nx + 16 + 16 + 16)]))) hk_ ?_
        exact congrArg (fun z => some (Ob.arr ty_impl_Node 4 z)) (newW_snoc (f := f) hi')
      · by_cases e : j = i + 1
        · subst e
          rw [fupd_at]
          exact ⟨hk_, by omega⟩
        · rw [fupd_ne e]
          obtain ⟨g1, g2⟩ := hf j (by omega)
          obtain ⟨g3, g4⟩ := hd j (by omega)
          have g5 : f j ≠ kN := fun e => by rw [e, hA] at g1; cases g1
          refine ⟨?_, by omega⟩
          refine Eq.trans (b := H (f j)) ?_ g1
          (repeat (refine (hupd_ne (by omega)).trans ?_)); rfl
      · by_cases ea : a = i + 1
        · subst ea
          by_cases eb : b = i + 1
          · exact eb.symm
          · rw [fupd_at, fupd_ne eb] at e
            have := (hf b (by omega)).2
            omega
        · rw [fupd_ne ea] at e
          by_cases eb : b = i + 1
          · subst eb
            rw [fupd_at] at e
            have := (hf a (by omega)).2
            omega
          · rw [fupd_ne eb] at e
            exact hinj a b (by omega) (by omega) e
      · show 5 - ix (I _) < 5 - ix (I _)
        simp only [wrap_up (n := 5) (i := i + 1) (by omega) (by decide), ix, Int.toNat_natCast]
        omega
  · have hie : i = 4 := by omega
    subst hie
    rcases hN with ⟨h0, _⟩ | ⟨h0, rfl, hA⟩
    · exact absurd h0 (by decide)
    repeat' ((conv => whnf); first
      | refine ⟨rfl, ?_⟩
      | refine ⟨_, ldc_cells (by first | assumption | exact zk ‹_› (by omega) | exact zk (zk ‹_› (by omega)) (by omega)) (Nat.le_of_ble_eq_true rfl), ?_⟩
      | (refine ⟨?_, _, (?_ : (_ : Option Ob) = _), rfl, rfl, ?_, ?_⟩; rotate_left; (exact hk_); exact Nat.le_of_ble_eq_true rfl)
      | (refine ⟨fun hc => ?_, fun hc => ?_⟩ <;> (try simp (disch := omega) only [List.length_map, wrap64] at hc) <;> (try (exfalso; first | contradiction | omega)))
      | fail)
    have hW : WAt H nx (newW bad) kN f := ⟨hA, fun j hj => by
      rw [(hf j (by omega)).1]
      match j, hj with
      | 0, _ => rfl
      | 1, _ => rfl
      | 2, _ => rfl
      | 3, _ => rfl
      | 4, _ => rfl, fun a b ha hb => hinj a b (by omega) (by omega), hkn, fun j hj => (hf j (by omega)).2, rfl⟩
    exact finM_nW (w := newW bad) (kN := kN) (f := f) (Nat.le_add_right _ _) (hW.box hH0) (fun ks => ⟨⟨_, rfl, .inl rfl⟩, ⟨_, rfl, .inl rfl⟩, trivial⟩) ⟨bad, rfl, rfl, rfl, rfl⟩
end Av
end Go.Proofs.Ytlbdoamidblkaaa
