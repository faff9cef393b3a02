/- The walks: the reference's functions on worlds. -/
import Derived.Test.YtlbdoamidblkaaaZL
set_option linter.unusedVariables false
set_option linter.unusedSimpArgs false
namespace Go.Proofs.Ytlbdoamidblkaaa
namespace Av
open Go.RowKit
theorem startW {w : Wo} (hl : w.nodes.length = 4) : WAt (fun k : Nat => (obsW w)[k]?) 6 w 0 stdF := by
  refine ⟨rfl, fun j hj => ?_, fun i j _ _ e => Nat.succ.inj e, by decide, fun j hj => (by show j + 1 < 6; omega), hl⟩
  match j, hj with
  | 0, _ => rfl
  | 1, _ => rfl
  | 2, _ => rfl
  | 3, _ => rfl
  | 4, _ => rfl
theorem staleW (w : Wo) : Stale (fun k : Nat => (obsW w)[k]?) := by
  intro i h1 h2
  match i, h1, h2 with
  | 1, _, _ => exact .inr ⟨_, _, _, rfl⟩
  | 2, _, _ => exact .inr ⟨_, _, _, rfl⟩
  | 3, _, _ => exact .inr ⟨_, _, _, rfl⟩
  | 4, _, _ => exact .inr ⟨_, _, _, rfl⟩
  | 5, _, _ => exact .inr ⟨_, _, _, rfl⟩
theorem Stale.keep {H H' : Hp} (h : Stale H) (hk : ∀ i, 1 ≤ i → i < 6 → H' i = H i ∨ Tk H' i) : Stale H' := by
  intro i h1 h2
  rcases hk i h1 h2 with e | e
  · unfold Tk; rw [e]; exact h i h1 h2
  · exact e
theorem tk_no {H : Hp} {k : Nat} (h : H k = none) : Tk H k := .inl h
theorem tk_tok {H : Hp} {k : Nat} {l : List Vo} (h : H k = some (tokO l)) : Tk H k := .inr ⟨_, _, _, h⟩
theorem fitTri {n : Nd} {o : Tri} (h : NdV n o) : FitV o.2.1 := Nat.le_trans h.2.2.2.2 (by decide)
section
variable {P : Program} {g : Nat} {S : MSpec} {fr : Env} {H : Hp} {nm nx rm rm' lim : Nat} {K : KV} {xs : List (X × List (Option Nat))} {res : List Rs} {post : AV → List (Option Ob) → Prop}
theorem mq_nn {i : Int} (hv : ValidM P g S_spec_NodeNew) (hl : rm ≤ LIM) (hi : In i 1 4) (ha : nrmArgs fr xs = [I i]) (hK : K (.tup [.g (ndK ⟨i, 0, 0, []⟩ nm), .o (cB true)]) (hupd nm (some (tokO [])) H) rm) : MQ P nm fr H rm K g S_spec_NodeNew xs := by
  refine ⟨⟨hv, hl, [], [I i], [], by simp, rfl, fun i k' h => by simp at h, by rw [ha]; rfl, ⟨i, rfl, rfl, hi⟩, fun r obs' hp _ _ => ?_⟩⟩
  obtain ⟨rfl, rfl⟩ := K_spec_NodeNew hp
  show K (.tup [.g (ndK ⟨i, 0, 0, []⟩ (nmapS 0 [] nm 0)), .o (cB true)]) (hupd (nmapS 0 [] nm 0) (some (tokO [])) H) _
  rw [show nmapS 0 [] nm 0 = nm from nmap_next (ks := [])]
  exact hK
/-- A new world goes out. -/
theorem finM_nW {w : Wo} {kN : Nat} {f : Nat → Nat} (hrm : rm' ≤ lim) (hW : WAt H nm w kN f) (hres : ∀ ks, resM ks fr H res [.g (wvC w kN f), .o (cB true)]) (hpost : post (.tup [.g (wvC w 0 stdF), .o (cB true)]) ((obsW w).map some)) :
    rm' ≤ lim ∧ ∃ (ks : List Nat) (aw : List AW) (r : AV) (obs' : List (Option Ob)), resM ks fr H res aw ∧ resV aw = r.ren (nmap ks nx) ∧ post r obs' ∧
      ks.Nodup ∧ (∀ i, i < 0 → ks[i]? = some i) ∧ obs'.length = ks.length ∧
      ∀ (i k : Nat), ks[i]? = some k → (∃ ob : Ob, obs'[i]? = some (some ob) ∧ H k = some (ob.ren (nmap ks nx))) ∨ (obs'[i]? = some none ∧ H k = none) := by
  have e0 : nmap [kN, f 0, f 1, f 2, f 3, f 4] nx 0 = kN := nmap_lt (s := 0) rfl
  have ef : ∀ j, j < 5 → nmap [kN, f 0, f 1, f 2, f 3, f 4] nx (stdF j) = f j := fun j hj => nmap_lt (s := 0) (by simpa using ksW_get (ex := []) hj)
  refine ⟨hrm, [kN, f 0, f 1, f 2, f 3, f 4], _, _, _, hres _, ?_, hpost, ksW_nodup hW, fun i hi => absurd hi (Nat.not_lt_zero i), by simp [obsW], fun i k h => .inl ?_⟩
  · show AV.tup [.g [cI w.ep, .ow kN, tkC (f 0) w.log, cI w.bad], .o (cB true)] = AV.tup [.g [cI w.ep, .ow (nmap _ nx 0), tkC (nmap _ nx (stdF 0)) w.log, cI w.bad], .o (cB true)]
    rw [e0, ef 0 (by omega)]
  · have := ksW_obs (ex := []) (eo := []) hW e0 ef (fun i k h => by simp at h) i k (by simpa using h)
    obtain ⟨ob, h1, h2⟩ := this
    refine ⟨ob, ?_, h2⟩
    rw [List.getElem?_map]
    rw [List.append_nil] at h1
    rw [h1]; rfl
end
attribute [local irreducible] Valid ValidM
set_option maxHeartbeats 4000000 in
set_option maxRecDepth 100000 in
theorem v_spec_l21Room : Valid Try.prog n_spec_l21Room S_spec_l21Room := by
  refine valid_of_swp mixed is_spec_l21Room (by rintro _ ⟨a, rfl, _⟩; exact Nat.le_of_ble_eq_true rfl) ?_
  rintro _ rm ⟨w, rfl, hpre⟩ hl
  try dsimp only at hpre
  have hpre0 := hpre
  obtain ⟨hp1, hp2⟩ := hpre
  repeat' ((conv => whnf); first
    | refine ⟨_, rfl, ?_⟩
    | refine ⟨rfl, ?_⟩
    | (refine ⟨fun hc => ?_, fun hc => ?_⟩ <;> (try simp (disch := omega) only [List.length_map, wrap64] at hc))
    | exact ⟨⟨_, rfl, rfl, w, rfl, (by refine congrArg B (Eq.symm (tb_pos ?_)); (try dsimp only); first | done | exact absurd True.intro hj | (omega))⟩, (by first | exact Nat.le_refl _ | omega), (by exact h0_)⟩
    | exact ⟨⟨_, rfl, rfl, w, rfl, (by refine congrArg B (Eq.symm (tb_neg ?_)); (try dsimp only); first | done | exact absurd True.intro hj | (omega))⟩, (by first | exact Nat.le_refl _ | omega), (by exact h0_)⟩
    | fail)
set_option maxHeartbeats 4000000 in
set_option maxRecDepth 100000 in
theorem v_spec_NodeNew : ValidM Try.prog n_spec_NodeNew S_spec_NodeNew := by
  refine validM_of_swp mixed is_spec_NodeNew (by rintro _ _ ⟨a, rfl, _⟩; exact Nat.le_of_ble_eq_true rfl) ?_
  rintro _ _ rm ⟨i, rfl, rfl, hpre⟩ hl
  try dsimp only at hpre
  change swp _ _ _ _ _ 0 _
  repeat' ((conv => whnf); first
    | refine ⟨_, _, rfl, rfl, rfl, Nat.le_of_ble_eq_true rfl, ?_⟩
    | (refine callt (b := [I _, I _, I _]) v_spec_l6In rfl ⟨(_, _, _), rfl, (by exact True.intro)⟩ (.inl rfl) (by first | assumption | omega) (fun r hr => K_spec_l6In (a := (_, _, _)) hr) (fun hj => ?_) (fun hj => ?_) <;> (try simp only [etaPa, etaIt, etaVo] at hj) <;> (try contradiction))
    | fail)
  exact finM_one (M := 0) (l := []) (k := 96) (r0 := .tup [.g (ndK ⟨i, 0, 0, []⟩ 0), .o (cB true)]) (az := [.g (ndK ⟨i, 0, 0, []⟩ 96), .o (cB true)]) (by decide) (fun h => by cases h) (Nat.le_refl _) hk_ ⟨⟨_, rfl, .inl rfl⟩, ⟨_, rfl, .inl rfl⟩, trivial⟩ (fun nx => by show _ = AV.tup [.g (ndK ⟨i, 0, 0, []⟩ (nmap [96] nx 0)), .o (cB true)]; rw [show nmap [96] nx 0 = 96 from nmap_lt (s := 0) rfl]; rfl) ⟨i, rfl, rfl, rfl, rfl⟩
set_option maxHeartbeats 4000000 in
set_option maxRecDepth 100000 in
theorem v_spec_l21Send : ValidM Try.prog n_spec_l21Send S_spec_l21Send := by
  refine validM_of_swp mixed is_spec_l21Send (by rintro _ _ ⟨a, rfl, _⟩; exact Nat.le_of_ble_eq_true rfl) ?_
  rintro _ _ rm ⟨⟨w, v, ok⟩, rfl, rfl, hpre⟩ hl
  try dsimp only at hpre
  obtain ⟨hI, hfv⟩ := hpre
  have hfs : FitVs w.log := hI.2.2.2.1.fit
  have hlt : w.log.length < LIM := hI.2.2.2.1.lt
  have hst : SM_spec_l3Add.st = 0 := rfl
  change swp _ _ _ _ (fun k : Nat => (obsW w)[k]?) 6 _
  dsimp only
  have hW0 := startW hI.2.2.1
  have hS0 := staleW w
  generalize (fun k : Nat => (obsW w)[k]?) = H0 at *
  have ht0 : H0 1 = some (tokO w.log) := hW0.tok 0 (by omega)
  cases ok with
  | false =>
    have e2 : sendW w v false = w := if_neg (fun h => by cases h.1)
    repeat' ((conv => whnf); first
      | refine ⟨_, rfl, ?_⟩
      | refine ⟨_, _, hupd_at, rfl, rfl, Nat.le_of_ble_eq_true rfl, ?_⟩
      | fail)
    refine finM_W (w := w) (f := stdF) (nm := 6) (Nat.le_add_right _ _) (hW0.keep (Nat.le_refl 6) (fun k hk => ?_)) (hS0.keep fun k h1 h2 => .inl ?_) (fun ks => ⟨⟨_, rfl, .inl rfl⟩, trivial⟩) (fun r obs' h => ⟨(w, v, false), rfl, rfl, by show RW' (sendW w v false) r obs'; rw [e2]; exact h⟩)
    · (repeat (refine (hupd_ne (by omega)).trans ?_)); rfl
    · (repeat (refine (hupd_ne (by omega)).trans ?_)); rfl
  | true =>
    by_cases h8 : w.log.length < 80
    · by_cases hm : v ∈ w.log
      · have e2 : sendW w v true = w := by unfold sendW; rw [if_pos ⟨rfl, h8⟩, addV_in hm]
        repeat' ((conv => whnf); first
          | refine mq_l3a (l := w.log) (v := v) (t := 1) vT_spec_l3Add (by first | assumption | omega) hk_ hfs hfv hlt rfl (fun _ => ?_) (fun h => absurd hm h)
          | refine ⟨_, rfl, ?_⟩
          | refine ⟨rfl, ?_⟩
          | refine ⟨_, _, rfl, rfl, rfl, Nat.le_of_ble_eq_true rfl, ?_⟩
          | (refine ⟨fun hc => ?_, fun hc => ?_⟩ <;> (try simp (disch := omega) only [List.length_map, wrap64] at hc) <;> (try (exfalso; first | contradiction | omega)))
          | fail)
        refine finM_W (w := w) (f := stdF) (nm := 6) (Nat.le_add_right _ _) (hW0.keep (Nat.le_refl 6) (fun k hk => ?_)) (hS0.keep fun k h1 h2 => .inl ?_) (fun ks => ⟨⟨_, rfl, .inl rfl⟩, trivial⟩) (fun r obs' h => ⟨(w, v, true), rfl, rfl, by show RW' (sendW w v true) r obs'; rw [e2]; exact h⟩)
        · (repeat (refine (hupd_ne (by omega)).trans ?_)); rfl
        · (repeat (refine (hupd_ne (by omega)).trans ?_)); rfl
      · have e2 : sendW w v true = ⟨w.ep, w.nodes, w.log ++ [v], w.bad⟩ := by unfold sendW; rw [if_pos ⟨rfl, h8⟩, addV_new hm]
        repeat' ((conv => whnf); first
          | refine mq_l3a (l := w.log) (v := v) (t := 1) vT_spec_l3Add (by first | assumption | omega) hk_ hfs hfv hlt rfl (fun h => absurd h hm) (fun _ => ?_)
          | refine ⟨_, rfl, ?_⟩
          | refine ⟨rfl, ?_⟩
          | refine ⟨_, _, rfl, rfl, rfl, Nat.le_of_ble_eq_true rfl, ?_⟩
          | (refine ⟨fun hc => ?_, fun hc => ?_⟩ <;> (try simp (disch := omega) only [List.length_map, wrap64] at hc) <;> (try (exfalso; first | contradiction | omega)))
          | fail)
        refine finM_W (w := ⟨w.ep, w.nodes, w.log ++ [v], w.bad⟩) (f := fupd stdF 0 214) (nm := 215) (Nat.le_add_right _ _) (hW0.log (t := 214) hk_ (.inr (by decide)) (fun k h1 h2 => ?_) (by decide) (by decide)) (hS0.keep fun k h1 h2 => ?_) (fun ks => ⟨⟨_, rfl, .inl rfl⟩, trivial⟩) (fun r obs' h => ⟨(w, v, true), rfl, rfl, by show RW' (sendW w v true) r obs'; rw [e2]; exact h⟩)
        · have h1 : k ≠ 1 := h1
          (repeat (refine (hupd_ne (by omega)).trans ?_)); rfl
        · by_cases e : k = 1
          · subst e
            exact .inr (tk_no hk_)
          · refine .inl ?_
            (repeat (refine (hupd_ne (by omega)).trans ?_)); rfl
    · have e2 : sendW w v true = w := if_neg (fun h => h8 h.2)
      repeat' ((conv => whnf); first
        | refine ⟨_, rfl, ?_⟩
        | refine ⟨rfl, ?_⟩
        | refine ⟨_, _, hupd_at, rfl, rfl, Nat.le_of_ble_eq_true rfl, ?_⟩
        | (refine ⟨fun hc => ?_, fun hc => ?_⟩ <;> (try simp (disch := omega) only [List.length_map, wrap64] at hc) <;> (try (exfalso; first | contradiction | omega)))
        | fail)
      refine finM_W (w := w) (f := stdF) (nm := 6) (Nat.le_add_right _ _) (hW0.keep (Nat.le_refl 6) (fun k hk => ?_)) (hS0.keep fun k h1 h2 => .inl ?_) (fun ks => ⟨⟨_, rfl, .inl rfl⟩, trivial⟩) (fun r obs' h => ⟨(w, v, true), rfl, rfl, by show RW' (sendW w v true) r obs'; rw [e2]; exact h⟩)
      · (repeat (refine (hupd_ne (by omega)).trans ?_)); rfl
      · (repeat (refine (hupd_ne (by omega)).trans ?_)); rfl
set_option maxHeartbeats 4000000 in
set_option maxRecDepth 100000 in
theorem v_spec_l21Propose : ValidM Try.prog n_spec_l21Propose S_spec_l21Propose := by
  refine validM_of_swp mixed is_spec_l21Propose (by rintro _ _ ⟨a, rfl, _⟩; exact Nat.le_of_ble_eq_true rfl) ?_
  rintro _ _ rm ⟨⟨w, c, p⟩, rfl, rfl, hpre⟩ hl
  try dsimp only at hpre
  have hI : WInv w := hpre
  have hfs : FitVs w.log := hI.2.2.2.1.fit
  have hl4 := hI.2.2.1
  change swp _ _ _ _ (fun k : Nat => (obsW w)[k]?) 6 _
  dsimp only
  have hW0 := startW hI.2.2.1
  have hS0 := staleW w
  generalize (fun k : Nat => (obsW w)[k]?) = H0 at *
  have hA0 : H0 0 = some (.arr ty_impl_Node 4 (ndsK stdF w.nodes)) := hW0.arr
  by_cases hm : MayProp w c p
  · obtain ⟨hm1, hm2, hm3, hm4⟩ := id hm
    obtain ⟨i, hi4, hci⟩ : ∃ i : Nat, i < 4 ∧ c = (i : Int) + 1 := ⟨(c - 1).toNat, by obtain ⟨q1, q2⟩ := hm1; omega, by obtain ⟨q1, q2⟩ := hm1; omega⟩
    obtain ⟨n, hn⟩ : ∃ n, w.nodes[i]? = some n := ⟨_, List.getElem?_eq_getElem (by omega)⟩
    have hnb : NdB n := hI.2.2.2.2 n (List.mem_of_getElem? hn)
    have hw : IntKind.i64.wrap (c - 1) = (i : Int) := by rw [wrap64] <;> omega
    have hto : (c - 1).toNat = i := by omega
    have e2 : propW w c p = sendW (setN w i (propN true n p).1) (propN true n p).2.1 (propN true n p).2.2 := by
      unfold propW stepW; rw [tb_pos hm, hto, hn]; rfl
    have hl5 : (propW w c p).nodes.length = 4 := (propW_inv hI).2.2.1
    have hT0 : H0 (i + 1 + 1) = some (tokO n.seen) := by
      have := hW0.tok (i + 1) (by omega)
      rw [show lst w (i + 1) = n.seen from by show ((w.nodes[i]?).map Nd.seen).getD [] = _; rw [hn]; rfl] at this
      exact this
    repeat' ((conv => whnf); first
      | (refine callt (b := [agg (woF w)]) v_spec_l21Room (congrArg (fun z => [z]) (bor_W (w := w) (f := stdF) hk_ hl4)) ⟨w, rfl, hfs, hl4⟩ (.inr ⟨rfl, rfl⟩) (by first | assumption | omega) (fun r hr => K_spec_l21Room (a := w) hr) (fun hj => ?_) (fun hj => ?_) <;> (try contradiction))
      | refine ⟨_, _, i, _, hk_, hw, ndsK_at hn, ?_⟩
      | refine ⟨_, ldc_pa hk_ (ndsK_at hn) (Nat.le_of_ble_eq_true rfl), ?_⟩
      | refine ⟨_, rfl, ?_⟩
      | refine ⟨rfl, ?_⟩
      | (refine ⟨fun hc => ?_, fun hc => ?_⟩ <;> (try simp (disch := omega) only [List.length_map, wrap64] at hc) <;> (try (exfalso; first | contradiction | omega)))
      | (refine callt (b := [I _, I _, I _]) v_spec_l6In rfl ⟨(_, _, _), rfl, (by exact True.intro)⟩ (.inl rfl) (by first | assumption | omega) (fun r hr => K_spec_l6In (a := (_, _, _)) hr) (fun hj => ?_) (fun hj => ?_) <;> (try simp only [etaPa, etaIt, etaVo] at hj) <;> (try contradiction))
      | (refine callt (b := [agg (paF ⟨_, _, _⟩)]) v_spec_PayOk rfl ⟨⟨_, _, _⟩, rfl, (by exact True.intro)⟩ (.inl rfl) (by first | assumption | omega) (fun r hr => K_spec_PayOk (a := ⟨_, _, _⟩) hr) (fun hj => ?_) (fun hj => ?_) <;> (try simp only [etaPa, etaIt, etaVo] at hj) <;> (try contradiction))
      | fail)
    refine mq_tri (n := n) (o := (propN true n p)) (t := i + 1 + 1) v_spec_l12Propose (by omega) (by first | assumption | omega) hk_ rfl (fun _ => rfl) ⟨(n, p), rfl, rfl, hnb⟩ (fun r obs' h => K_spec_l12Propose h) (fun t' H' ht' hH' hk' => ?_)
    have hst : S_spec_l12Propose.st = 0 := rfl
    have hst2 : S_spec_l21Send.st = 0 := rfl
    have ht1 : t' ≠ 0 ∧ t' ≠ 6 ∧ t' ≠ 38 := by rcases ht' with ⟨rfl, _⟩ | ⟨rfl, _⟩ <;> exact ⟨by omega, by omega, by omega⟩
    have hB0 : H' 0 = some (.arr ty_impl_Node 4 (ndsK stdF w.nodes)) := (hk' 0 (by omega) (by omega)).trans hk_
    have hB6 : H' 6 = some (.cells (wvC w 0 stdF)) := (hk' 6 (by omega) (by omega)).trans hk_
    have hBB : H' 38 = some (.cells [cI 0, .e0, .e0, cI 0]) := (hk' 38 (by omega) (by omega)).trans hk_
    have hnv := propN_b (b := true) (p := p) hnb.1 hnb.2.2
    have hfv : FitV (propN true n p).2.1 := fitTri hnv
    repeat' ((conv => whnf); first
      | refine ⟨_, _, i, _, hk_, hw, ndsK_at hn, ?_⟩
      | refine ⟨_, _, _, _, (hk_ : (_ : Option Ob) = _), ndsK_at hn, rfl, rfl, Nat.le_of_ble_eq_true rfl, ?_⟩
      | refine ⟨_, rfl, ?_⟩
      | refine ⟨rfl, ?_⟩
      | refine ⟨_, ldc_cells (by first | assumption | exact zk ‹_› (by omega) | exact zk (zk ‹_› (by omega)) (by omega)) (Nat.le_of_ble_eq_true rfl), ?_⟩
      | refine ⟨_, _, rfl, rfl, rfl, Nat.le_of_ble_eq_true rfl, ?_⟩
      | fail)
    refine mq_W (w := setN w i (propN true n p).1) (w' := sendW (setN w i (propN true n p).1) (propN true n p).2.1 (propN true n p).2.2) (kN := 0) (f := fupd stdF (i + 1) t') v_spec_l21Send rfl (by first | assumption | omega) (hW0.put (n := (propN true n p).1) hi4 ?_ ?_ (fun k h1 h2 h3 => ?_) ?_ ?_ (by omega)) (by rw [← e2]; exact hl5) rfl (fun _ => rfl) ⟨(setN w i (propN true n p).1, (propN true n p).2.1, (propN true n p).2.2), rfl, rfl, setN_inv hI (hnv.ndb hnb), hfv⟩ (fun r obs' h => K_spec_l21Send h) (fun f' H'' hW' hT' hK' => ?_)
    · rcases ht' with ⟨rfl, _⟩ | ⟨rfl, _⟩
      · (repeat (refine (hupd_ne (by omega)).trans ?_)); exact hH'
      · (repeat (refine (hupd_ne (by omega)).trans ?_)); exact hH'
    · rcases ht' with ⟨rfl, _⟩ | ⟨rfl, _⟩
      · exact .inl rfl
      · exact .inr (by omega)
    · have h1 : k ≠ i + 1 + 1 := h1
      (repeat (refine (hupd_ne (by omega)).trans ?_))
      refine (hk' k (by omega) (by omega)).trans ?_
      (repeat (refine (hupd_ne (by omega)).trans ?_)); rfl
    · exact hupd_at.trans rfl
    · rcases ht' with ⟨rfl, _⟩ | ⟨rfl, _⟩ <;> omega
    have hS1 : Stale H' := hS0.keep fun k h1 h2 => by
      by_cases e : k = i + 1 + 1
      · subst e
        rcases ht' with ⟨rfl, _⟩ | ⟨_, h0⟩
        · exact .inr (tk_tok hH')
        · exact .inr (tk_no h0)
      · refine .inl ((hk' k e (by omega)).trans ?_)
        (repeat (refine (hupd_ne (by omega)).trans ?_)); rfl
    have hS2 : Stale H'' := by
      refine Stale.call (H := _) (kN := 0) (f := fupd stdF (i + 1) t') (hS1.keep fun k h1 h2 => .inl ?_) rfl (by omega) hT' hK'
      (repeat (refine (hupd_ne (by omega)).trans ?_)); rfl
    have hE : H'' 38 = some (.cells [cI 0, .e0, .e0, cI 0]) := (hK' 38 (by decide) (fun j hj e => ?_) (by omega)).trans hk_
    · skip
      repeat' ((conv => whnf); first
        | (refine ⟨?_, _, (?_ : (_ : Option Ob) = _), rfl, rfl, ?_, ?_⟩; rotate_left; (exact hk_); exact Nat.le_of_ble_eq_true rfl)
        | fail)
      exact finM_W (w := sendW (setN w i (propN true n p).1) (propN true n p).2.1 (propN true n p).2.2) (f := f') (Nat.le_add_right _ _) (hW'.box hE) (hS2.keep fun k h1 h2 => .inl (hupd_ne (by omega))) (fun ks => ⟨⟨_, rfl, .inl rfl⟩, trivial⟩) (fun r obs' h => ⟨(w, c, p), rfl, rfl, by show RW' (propW w c p) r obs'; rw [e2]; exact h⟩)
    · have e : 38 = fupd stdF (i + 1) t' j := e
      unfold fupd at e
      split at e
      · exact ht1.2.2 e.symm
      · have e : 38 = j + 1 := e
        omega
  · have e2 : propW w c p = w := by unfold propW; rw [tb_neg hm]; rfl
    unfold MayProp at hm
    repeat' ((conv => whnf); first
      | (exfalso; exact hm ⟨by assumption, by assumption, by assumption, by assumption⟩)
      | (refine callt (b := [agg (woF w)]) v_spec_l21Room (congrArg (fun z => [z]) (bor_W (w := w) (f := stdF) hk_ hl4)) ⟨w, rfl, hfs, hl4⟩ (.inr ⟨rfl, rfl⟩) (by first | assumption | omega) (fun r hr => K_spec_l21Room (a := w) hr) (fun hj => ?_) (fun hj => ?_) <;> (try contradiction))
      | refine ⟨_, rfl, ?_⟩
      | refine ⟨rfl, ?_⟩
      | refine ⟨_, _, hupd_at, rfl, rfl, Nat.le_of_ble_eq_true rfl, ?_⟩
      | (refine ⟨fun hc => ?_, fun hc => ?_⟩ <;> (try simp (disch := omega) only [List.length_map, wrap64] at hc) <;> (try (exfalso; first | contradiction | omega)))
      | (refine callt (b := [I _, I _, I _]) v_spec_l6In rfl ⟨(_, _, _), rfl, (by exact True.intro)⟩ (.inl rfl) (by first | assumption | omega) (fun r hr => K_spec_l6In (a := (_, _, _)) hr) (fun hj => ?_) (fun hj => ?_) <;> (try simp only [etaPa, etaIt, etaVo] at hj) <;> (try contradiction))
      | (refine callt (b := [agg (paF ⟨_, _, _⟩)]) v_spec_PayOk rfl ⟨⟨_, _, _⟩, rfl, (by exact True.intro)⟩ (.inl rfl) (by first | assumption | omega) (fun r hr => K_spec_PayOk (a := ⟨_, _, _⟩) hr) (fun hj => ?_) (fun hj => ?_) <;> (try simp only [etaPa, etaIt, etaVo] at hj) <;> (try contradiction))
      | fail)
    all_goals
      refine finM_W (w := w) (f := stdF) (nm := 6) (Nat.le_add_right _ _) (hW0.keep (Nat.le_refl 6) (fun k hk => ?_)) (hS0.keep fun k h1 h2 => .inl ?_) (fun ks => ⟨⟨_, rfl, .inl rfl⟩, trivial⟩) (fun r obs' h => ⟨(w, c, p), rfl, rfl, by show RW' (propW w c p) r obs'; rw [e2]; exact h⟩)
      · (repeat (refine (hupd_ne (by omega)).trans ?_)); rfl
      · (repeat (refine (hupd_ne (by omega)).trans ?_)); rfl
set_option maxHeartbeats 4000000 in
set_option maxRecDepth 100000 in
theorem v_spec_l21Bring : ValidM Try.prog n_spec_l21Bring S_spec_l21Bring := by
  refine validM_of_swp mixed is_spec_l21Bring (by rintro _ _ ⟨a, rfl, _⟩; exact Nat.le_of_ble_eq_true rfl) ?_
  rintro _ _ rm ⟨⟨w, d, c⟩, rfl, rfl, hpre⟩ hl
  try dsimp only at hpre
  have hI : WInv w := hpre
  have hfs : FitVs w.log := hI.2.2.2.1.fit
  have hl4 := hI.2.2.1
  have hll : w.log.length ≤ 80 := hI.2.2.2.1.1
  have hwl : IntKind.i64.wrap (((w.log.map voF).length : Int) - 1) = (w.log.length : Int) - 1 := by rw [List.length_map, wrap64] <;> omega
  change swp _ _ _ _ (fun k : Nat => (obsW w)[k]?) 6 _
  dsimp only
  have hW0 := startW hI.2.2.1
  have hS0 := staleW w
  generalize (fun k : Nat => (obsW w)[k]?) = H0 at *
  have hA0 : H0 0 = some (.arr ty_impl_Node 4 (ndsK stdF w.nodes)) := hW0.arr
  by_cases hm : MayBring w d c
  · obtain ⟨hm0, hm1, hm2, hm4⟩ := id hm
    obtain ⟨i, hi4, hci⟩ : ∃ i : Nat, i < 4 ∧ c = (i : Int) + 1 := ⟨(c - 1).toNat, by obtain ⟨q1, q2⟩ := hm1; omega, by obtain ⟨q1, q2⟩ := hm1; omega⟩
    obtain ⟨m, hml, hdm⟩ : ∃ m : Nat, m < w.log.length ∧ d = (m : Int) := ⟨d.toNat, by obtain ⟨q1, q2⟩ := hm0; omega, by obtain ⟨q1, q2⟩ := hm0; omega⟩
    obtain ⟨n, hn⟩ : ∃ n, w.nodes[i]? = some n := ⟨_, List.getElem?_eq_getElem (by omega)⟩
    obtain ⟨v, hv⟩ : ∃ v, w.log[m]? = some v := ⟨_, List.getElem?_eq_getElem hml⟩
    have hvf : FitV v := hfs.2 v (List.mem_of_getElem? hv)
    have hnb : NdB n := hI.2.2.2.2 n (List.mem_of_getElem? hn)
    have hw : IntKind.i64.wrap (c - 1) = (i : Int) := by rw [wrap64] <;> omega
    have hto : (c - 1).toNat = i := by omega
    have hto2 : d.toNat = m := by omega
    have e2 : bringW w d c = sendW (setN w i (hearN true n v).1) (hearN true n v).2.1 (hearN true n v).2.2 := by
      unfold bringW stepW; rw [tb_pos hm, hto2, hv, hto, hn]; rfl
    have hl5 : (bringW w d c).nodes.length = 4 := (bringW_inv hI).2.2.1
    have hT0 : H0 (i + 1 + 1) = some (tokO n.seen) := by
      have := hW0.tok (i + 1) (by omega)
      rw [show lst w (i + 1) = n.seen from by show ((w.nodes[i]?).map Nd.seen).getD [] = _; rw [hn]; rfl] at this
      exact this
    repeat' ((conv => whnf); first
      | (refine callt (b := [I d, I 0, I ((w.log.length : Int) - 1)]) v_spec_l6In (congrArg (fun z => [I d, I 0, I z]) hwl) ⟨(d, 0, ((w.log.length : Int) - 1)), rfl, trivial⟩ (.inl rfl) (by first | assumption | omega) (fun r hr => K_spec_l6In (a := (d, 0, ((w.log.length : Int) - 1))) hr) (fun hj => ?_) (fun hj => ?_) <;> (try contradiction))
      | (refine callt (b := [I c, I 1, I 4]) v_spec_l6In rfl ⟨(c, 1, 4), rfl, trivial⟩ (.inl rfl) (by first | assumption | omega) (fun r hr => K_spec_l6In (a := (c, 1, 4)) hr) (fun hj => ?_) (fun hj => ?_) <;> (try contradiction))
      | (refine callt (b := [agg (woF w)]) v_spec_l21Room (congrArg (fun z => [z]) (bor_W (w := w) (f := stdF) hk_ hl4)) ⟨w, rfl, hfs, hl4⟩ (.inr ⟨rfl, rfl⟩) (by first | assumption | omega) (fun r hr => K_spec_l21Room (a := w) hr) (fun hj => ?_) (fun hj => ?_) <;> (try contradiction))
      | refine ⟨_, _, i, _, hk_, hw, ndsK_at hn, ?_⟩
      | refine ⟨_, ldc_pa hk_ (ndsK_at hn) (Nat.le_of_ble_eq_true rfl), ?_⟩
      | refine ⟨rfl, m, _, hdm, at_map hv, ?_⟩
      | refine ⟨_, rfl, ?_⟩
      | refine ⟨rfl, ?_⟩
      | (refine ⟨fun hc => ?_, fun hc => ?_⟩ <;> (try simp (disch := omega) only [List.length_map, wrap64] at hc) <;> (try (exfalso; first | contradiction | omega)))
      | fail)
    refine mq_tri (n := n) (o := (hearN true n v)) (t := i + 1 + 1) v_spec_l12Hear (by omega) (by first | assumption | omega) hk_ rfl (fun _ => rfl) ⟨(n, v), rfl, rfl, hnb, hvf⟩ (fun r obs' h => K_spec_l12Hear h) (fun t' H' ht' hH' hk' => ?_)
    have hst : S_spec_l12Hear.st = 0 := rfl
    have hst2 : S_spec_l21Send.st = 0 := rfl
    have ht1 : t' ≠ 0 ∧ t' ≠ 6 ∧ t' ≠ 22 := by rcases ht' with ⟨rfl, _⟩ | ⟨rfl, _⟩ <;> exact ⟨by omega, by omega, by omega⟩
    have hB0 : H' 0 = some (.arr ty_impl_Node 4 (ndsK stdF w.nodes)) := (hk' 0 (by omega) (by omega)).trans hk_
    have hB6 : H' 6 = some (.cells (wvC w 0 stdF)) := (hk' 6 (by omega) (by omega)).trans hk_
    have hBB : H' 22 = some (.cells [cI 0, .e0, .e0, cI 0]) := (hk' 22 (by omega) (by omega)).trans hk_
    have hnv := hearN_b (b := true) (v := v) hnb.1 hnb.2.2
    have hfv : FitV (hearN true n v).2.1 := fitTri hnv
    repeat' ((conv => whnf); first
      | refine ⟨_, _, i, _, hk_, hw, ndsK_at hn, ?_⟩
      | refine ⟨_, _, _, _, (hk_ : (_ : Option Ob) = _), ndsK_at hn, rfl, rfl, Nat.le_of_ble_eq_true rfl, ?_⟩
      | refine ⟨_, rfl, ?_⟩
      | refine ⟨rfl, ?_⟩
      | refine ⟨_, ldc_cells (by first | assumption | exact zk ‹_› (by omega) | exact zk (zk ‹_› (by omega)) (by omega)) (Nat.le_of_ble_eq_true rfl), ?_⟩
      | refine ⟨_, _, rfl, rfl, rfl, Nat.le_of_ble_eq_true rfl, ?_⟩
      | fail)
    refine mq_W (w := setN w i (hearN true n v).1) (w' := sendW (setN w i (hearN true n v).1) (hearN true n v).2.1 (hearN true n v).2.2) (kN := 0) (f := fupd stdF (i + 1) t') v_spec_l21Send rfl (by first | assumption | omega) (hW0.put (n := (hearN true n v).1) hi4 ?_ ?_ (fun k h1 h2 h3 => ?_) ?_ ?_ (by omega)) (by rw [← e2]; exact hl5) rfl (fun _ => rfl) ⟨(setN w i (hearN true n v).1, (hearN true n v).2.1, (hearN true n v).2.2), rfl, rfl, setN_inv hI (hnv.ndb hnb), hfv⟩ (fun r obs' h => K_spec_l21Send h) (fun f' H'' hW' hT' hK' => ?_)
    · rcases ht' with ⟨rfl, _⟩ | ⟨rfl, _⟩
      · (repeat (refine (hupd_ne (by omega)).trans ?_)); exact hH'
      · (repeat (refine (hupd_ne (by omega)).trans ?_)); exact hH'
    · rcases ht' with ⟨rfl, _⟩ | ⟨rfl, _⟩
      · exact .inl rfl
      · exact .inr (by omega)
    · have h1 : k ≠ i + 1 + 1 := h1
      (repeat (refine (hupd_ne (by omega)).trans ?_))
      refine (hk' k (by omega) (by omega)).trans ?_
      (repeat (refine (hupd_ne (by omega)).trans ?_)); rfl
    · exact hupd_at.trans rfl
    · rcases ht' with ⟨rfl, _⟩ | ⟨rfl, _⟩ <;> omega
    have hS1 : Stale H' := hS0.keep fun k h1 h2 => by
      by_cases e : k = i + 1 + 1
      · subst e
        rcases ht' with ⟨rfl, _⟩ | ⟨_, h0⟩
        · exact .inr (tk_tok hH')
        · exact .inr (tk_no h0)
      · refine .inl ((hk' k e (by omega)).trans ?_)
        (repeat (refine (hupd_ne (by omega)).trans ?_)); rfl
    have hS2 : Stale H'' := by
      refine Stale.call (H := _) (kN := 0) (f := fupd stdF (i + 1) t') (hS1.keep fun k h1 h2 => .inl ?_) rfl (by omega) hT' hK'
      (repeat (refine (hupd_ne (by omega)).trans ?_)); rfl
    have hE : H'' 22 = some (.cells [cI 0, .e0, .e0, cI 0]) := (hK' 22 (by decide) (fun j hj e => ?_) (by omega)).trans hk_
    · skip
      repeat' ((conv => whnf); first
        | (refine ⟨?_, _, (?_ : (_ : Option Ob) = _), rfl, rfl, ?_, ?_⟩; rotate_left; (exact hk_); exact Nat.le_of_ble_eq_true rfl)
        | fail)
      exact finM_W (w := sendW (setN w i (hearN true n v).1) (hearN true n v).2.1 (hearN true n v).2.2) (f := f') (Nat.le_add_right _ _) (hW'.box hE) (hS2.keep fun k h1 h2 => .inl (hupd_ne (by omega))) (fun ks => ⟨⟨_, rfl, .inl rfl⟩, trivial⟩) (fun r obs' h => ⟨(w, d, c), rfl, rfl, by show RW' (bringW w d c) r obs'; rw [e2]; exact h⟩)
    · have e : 22 = fupd stdF (i + 1) t' j := e
      unfold fupd at e
      split at e
      · exact ht1.2.2 e.symm
      · have e : 22 = j + 1 := e
        omega
  · have e2 : bringW w d c = w := by unfold bringW; rw [tb_neg hm]; rfl
    unfold MayBring at hm
    repeat' ((conv => whnf); first
      | (exfalso; exact hm ⟨by assumption, by assumption, by assumption, by assumption⟩)
      | (refine callt (b := [I d, I 0, I ((w.log.length : Int) - 1)]) v_spec_l6In (congrArg (fun z => [I d, I 0, I z]) hwl) ⟨(d, 0, ((w.log.length : Int) - 1)), rfl, trivial⟩ (.inl rfl) (by first | assumption | omega) (fun r hr => K_spec_l6In (a := (d, 0, ((w.log.length : Int) - 1))) hr) (fun hj => ?_) (fun hj => ?_) <;> (try contradiction))
      | (refine callt (b := [I c, I 1, I 4]) v_spec_l6In rfl ⟨(c, 1, 4), rfl, trivial⟩ (.inl rfl) (by first | assumption | omega) (fun r hr => K_spec_l6In (a := (c, 1, 4)) hr) (fun hj => ?_) (fun hj => ?_) <;> (try contradiction))
      | (refine callt (b := [agg (woF w)]) v_spec_l21Room (congrArg (fun z => [z]) (bor_W (w := w) (f := stdF) hk_ hl4)) ⟨w, rfl, hfs, hl4⟩ (.inr ⟨rfl, rfl⟩) (by first | assumption | omega) (fun r hr => K_spec_l21Room (a := w) hr) (fun hj => ?_) (fun hj => ?_) <;> (try contradiction))
      | refine ⟨_, rfl, ?_⟩
      | refine ⟨rfl, ?_⟩
      | refine ⟨_, _, hupd_at, rfl, rfl, Nat.le_of_ble_eq_true rfl, ?_⟩
      | (refine ⟨fun hc => ?_, fun hc => ?_⟩ <;> (try simp (disch := omega) only [List.length_map, wrap64] at hc) <;> (try (exfalso; first | contradiction | omega)))
      | fail)
    all_goals
      refine finM_W (w := w) (f := stdF) (nm := 6) (Nat.le_add_right _ _) (hW0.keep (Nat.le_refl 6) (fun k hk => ?_)) (hS0.keep fun k h1 h2 => .inl ?_) (fun ks => ⟨⟨_, rfl, .inl rfl⟩, trivial⟩) (fun r obs' h => ⟨(w, d, c), rfl, rfl, by show RW' (bringW w d c) r obs'; rw [e2]; exact h⟩)
      · (repeat (refine (hupd_ne (by omega)).trans ?_)); rfl
      · (repeat (refine (hupd_ne (by omega)).trans ?_)); rfl
end Av
end Go.Proofs.Ytlbdoamidblkaaa
