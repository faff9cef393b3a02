/- The walks: nodes drawn. -/
import Derived.Test.YtfijfccgghhkoaaZS
set_option linter.unusedVariables false
set_option linter.unusedSimpArgs false
namespace Go.Proofs.Ytfijfccgghhkoaa
namespace Av
open Go.RowKit
theorem drN_b {n m : Nd} (h : NdB n) (h1 : m.ep = n.ep) (h2 : m.seen = n.seen) : DrN m := by
  unfold DrN
  rw [h1, h2]
  exact ⟨Nat.le_trans h.2.2.1 (by decide), fun v hv => (h.2.2.2 v hv).2.2.2, h.2.1⟩
theorem drN_s {n m : Nd} {v : Vo} (h : NdB n) (hv : v.c.length ≤ 16) (h1 : m.ep = n.ep) (h2 : m.seen = n.seen ++ [v]) : DrN m := by
  unfold DrN
  rw [h1, h2]
  refine ⟨by rw [List.length_append, List.length_singleton]; have := h.2.2.1; omega, fun u hu => ?_, h.2.1⟩
  rcases List.mem_append.1 hu with g | g
  · exact (h.2.2.2 u g).2.2.2
  · rw [List.mem_singleton.1 g]; exact hv
section
variable {P : Program} {g : Nat} {fr : Env} {H : Hp} {nm nx rm rm' lim : Nat} {K : KV} {xs : List (X × List (Option Nat))} {res : List Rs} {post : AV → List (Option Ob) → Prop}
theorem mq_play {b : List Int} {k : Nat} (hv : ValidM P g S_spec_l72Play) (hl : rm + S_spec_l72Play.cost ≤ LIM) (hk : H k = some (rdO b)) (hkn : k < nm) (ha : nrmArgs fr xs = [.w (.o (.ptr k 0))]) (hrd : RdOk b)
    (hK : ∀ bad w H', In bad 0 4 → WInv w → WAt H' (nm + 16) w (nm + 1) (fun j => nm + 2 + j) → (∀ i, i < nm → H' i = H i) → K (.tup [.o (cI bad), .o (.ow nm), .g (wvC w (nm + 1) (fun j => nm + 2 + j))]) H' (rm + S_spec_l72Play.cost)) : MQ P nm fr H rm K g S_spec_l72Play xs := by
  have e0 : nmapS 0 [k] nm 0 = k := nmap_lt (s := 0) rfl
  have e : ∀ i, i < 7 → nmapS 0 [k] nm (i + 1) = nm + i := fun i hi => by unfold nmapS; simp; omega
  refine ⟨⟨hv, hl, [k], [pt0], [rdO b], by simp, rfl, fun i k' h => ?_, ?_, ⟨b, rfl, rfl, hrd⟩, fun r obs' hp _ _ => ?_⟩⟩
  · cases i with
    | zero => cases h; exact ⟨_, rfl, hk⟩
    | succ i => simp at h
  · rw [ha]
    show [AV.w (.o (.ptr (nmapS 0 [k] nm 0) 0))] = _
    rw [e0]
  · obtain ⟨bad, w, evs, rfl, hI, hbad, hev, rfl⟩ := K_spec_l72Play hp
    show K (.tup [.o (cI bad), .o (.ow (nmapS 0 [k] nm 1)), .g (wvC w (nmapS 0 [k] nm 2) (fun j => nmapS 0 [k] nm (j + 3)))]) (hput (nmapS 0 [k] nm) 0 (obsP w b evs) H) _
    have ew : wvC w (nmapS 0 [k] nm 2) (fun j => nmapS 0 [k] nm (j + 3)) = wvC w (nm + 1) (fun j => nm + 2 + j) := by
      show [cI w.ep, AC.ow (nmapS 0 [k] nm 2), tkC (nmapS 0 [k] nm (0 + 3)) w.log, cI w.bad] = [cI w.ep, AC.ow (nm + 1), tkC (nm + 2 + 0) w.log, cI w.bad]
      rw [e 1 (by omega), e 2 (by omega)]
    rw [ew, e 0 (by omega)]
    have hin : ∀ {i j : Nat}, i < 8 → j < 8 → nmapS 0 [k] nm i = nmapS 0 [k] nm j → i = j := fun hi hj h => nmapS_inj (s := 0) (ks := [k]) (nm := nm) (by simp) (fun z hz => by rw [List.mem_singleton.1 hz]; exact hkn) (by simp; omega) (by simp; omega) h
    have hlen : (obsP w b evs).length = 8 := rfl
    obtain ⟨g1, g2⟩ := hput_at (nmapS 0 [k] nm) (obsP w b evs) 0 H (fun j j' _ h2 _ h4 h => hin (by omega) (by omega) h)
    have g1' : ∀ (j : Nat) ob, j < 7 → (obsP w b evs)[j + 1]? = some ob → hput (nmapS 0 [k] nm) 0 (obsP w b evs) H (nm + j) = ob.map (Ob.ren (nmapS 0 [k] nm)) := fun j ob hj h => by have := g1 (j + 1) ob h; rwa [Nat.zero_add, e j hj] at this
    refine hK bad w _ hbad hI ⟨?_, fun j hj => ?_, fun i j _ _ h => by omega, by omega, fun j hj => by show nm + 2 + j < _; omega, hI.2.2.1⟩ (fun i hi => ?_)
    · have := g1' 1 _ (by omega) rfl
      rw [this]
      show some ((arrK (· + 3) w.nodes).ren _) = _
      rw [arrK_ren, arrK_congr (f := fun j => nmapS 0 [k] nm (j + 3)) (h := fun j => nm + 2 + j) hI.2.2.1 fun j hj => (e (j + 2) (by omega)).trans (by omega : nm + (j + 2) = nm + 2 + j)]
    · have := g1' (j + 2) (some (tokO (lst w j))) (by omega) (by
        match j, hj with
        | 0, _ => rfl
        | 1, _ => rfl
        | 2, _ => rfl
        | 3, _ => rfl
        | 4, _ => rfl)
      rw [show nm + (j + 2) = nm + 2 + j by omega] at this
      exact this
    · by_cases hik : i = k
      · subst hik
        have := g1 0 (some (rdO b)) rfl
        rw [Nat.zero_add, e0] at this
        rw [this, hk]; rfl
      · exact g2 i fun j _ _ => nmapS_out (by simpa using hik) hi
/-- A node, and the world as one sees it. -/
theorem finM_node {b : List Int} {n : Nd} {w : Wo} {kn kN : Nat} {f : Nat → Nat} (hrm : rm' ≤ lim) (h0 : H 0 = some (rdO b)) (hk : H kn = some (tokO n.seen)) (hA : H kN = some (arrK f w.nodes)) (hl4 : w.nodes.length = 4) (hdn : DrN n) (hsl : SeenB w.log)
    (hres : ∀ ks az, borW (hcut ks H) [none, some 4, some 2] (.g (wvC w kN f)) = az → clW az = true → resM ks fr H res [.g (ndK n kn), az]) (hpost : ∀ r obs', RNode b r obs' → post r obs') :
    rm' ≤ lim ∧ ∃ (ks : List Nat) (aw : List AW) (r : AV) (obs' : List (Option Ob)), resM ks fr H res aw ∧ resV aw = r.ren (nmap ks nx) ∧ post r obs' ∧
      ks.Nodup ∧ (∀ i, i < 1 → ks[i]? = some i) ∧ obs'.length = ks.length ∧
      ∀ (i k : Nat), ks[i]? = some k → (∃ ob : Ob, obs'[i]? = some (some ob) ∧ H k = some (ob.ren (nmap ks nx))) ∨ (obs'[i]? = some none ∧ H k = none) := by
  have n0 : kn ≠ 0 := fun e => by rw [e, h0] at hk; cases hk
  have nA : kN ∉ [0, kn] := by
    intro hm
    simp only [List.mem_cons, List.not_mem_nil, or_false] at hm
    rcases hm with e | e
    · rw [e, h0] at hA; cases hA
    · rw [e, hk] at hA; cases hA
  have hb : borW (hcut [0, kn] H) [none, some 4, some 2] (.g (wvC w kN f)) = .g ((woF w).map AC.c) := AV.w.inj (bor_W (f := f) ((hcut_ne nA).trans hA) hl4)
  refine ⟨hrm, [0, kn], _, .tup [.g (ndK n 1), .g ((woF w).map AC.c)], _, hres _ _ hb (cl_agg _), ?_, hpost _ _ ⟨n, w, rfl, hdn, hsl, rfl⟩, by simp; omega, fun i hi => ?_, rfl, fun i k h => .inl ?_⟩
  · show AV.tup [.g (ndK n kn), .g ((woF w).map AC.c)] = AV.tup [.g (ndK n (nmap [0, kn] nx 1)), .g (((woF w).map AC.c).map (AC.ren _))]
    rw [show nmap [0, kn] nx 1 = kn from nmap_lt (s := 0) rfl, List.map_map]; rfl
  · have : i = 0 := by omega
    subst this; rfl
  · match i, h with
    | 0, h => cases h; exact ⟨_, rfl, h0⟩
    | 1, h => cases h; exact ⟨_, rfl, hk⟩
    | i + 2, h => simp at h
theorem mq_node {b : List Int} {k : Nat} (hv : ValidM P g S_spec_l72Node) (hl : rm + S_spec_l72Node.cost ≤ LIM) (hk : H k = some (rdO b)) (hkn : k < nm) (ha : nrmArgs fr xs = [.w (.o (.ptr k 0))]) (hrd : RdOk b)
    (hK : ∀ n w, DrN n → SeenB w.log → K (.tup [.g (ndK n nm), .g ((woF w).map AC.c)]) (hupd nm (some (tokO n.seen)) H) (rm + S_spec_l72Node.cost)) : MQ P nm fr H rm K g S_spec_l72Node xs := by
  have e0 : nmapS 0 [k] nm 0 = k := nmap_lt (s := 0) rfl
  have e1 : nmapS 0 [k] nm 1 = nm := nmap_next (ks := [k])
  refine ⟨⟨hv, hl, [k], [pt0], [rdO b], by simp, rfl, fun i k' h => ?_, ?_, ⟨b, rfl, rfl, hrd⟩, fun r obs' hp _ _ => ?_⟩⟩
  · cases i with
    | zero => cases h; exact ⟨_, rfl, hk⟩
    | succ i => simp at h
  · rw [ha]
    show [AV.w (.o (.ptr (nmapS 0 [k] nm 0) 0))] = _
    rw [e0]
  · obtain ⟨n, w, rfl, hn, hs, rfl⟩ := K_spec_l72Node hp
    show K (.tup [.g (ndK n (nmapS 0 [k] nm 1)), .g (((woF w).map AC.c).map (AC.ren _))]) (hupd (nmapS 0 [k] nm 1) (some (tokO n.seen)) (hupd (nmapS 0 [k] nm 0) (some (rdO b)) H)) _
    rw [e0, e1, hupd_same_id hk, List.map_map]
    exact hK n w hn hs
end
attribute [local irreducible] Valid ValidM
set_option maxHeartbeats 4000000 in
set_option maxRecDepth 100000 in
theorem vP_spec_l72Node : ValidM Try.prog n_spec_l72Node S_spec_l72Node := by
  refine validM_of_swp mixed is_spec_l72Node (by rintro _ _ ⟨a, rfl, _⟩; exact Nat.le_of_ble_eq_true rfl) ?_
  rintro _ _ rm ⟨b, rfl, rfl, hrd⟩ hl
  have c1 : S_spec_l72Node.cost = 31000 := rfl
  have c2 : S_spec_l72Play.cost = 30000 := rfl
  have s1 : S_spec_l72Play.st = 0 := rfl
  have cc_spec_l6Rd_pick : S_spec_l6Rd_pick.cost = 1 := rfl
  have cc_spec_l71Vote : S_spec_l71Vote.cost = 300 := rfl
  change swp _ _ _ _ (fun k : Nat => [rdO b][k]?) 1 _
  dsimp only
  have hR0 : (fun k : Nat => [rdO b][k]?) 0 = some (.rd (byF b)) := rfl
  generalize (fun k : Nat => [rdO b][k]?) = H0 at *
  skip
  refine mq_play (k := 0) vP_spec_l72Play (by omega) hk_ (by omega) rfl hrd (fun bad w H1 hbad hI hW hF => ?_)
  have hR1 : H1 0 = some (.rd (byF b)) := (hF 0 (by omega)).trans hk_
  have hS1 : H1 1 = some (.cells [cI 0, cI 0, cI 0, .e0]) := (hF 1 (by omega)).trans hk_
  have hS2 : H1 17 = some (.cells [cI 0, .e0, .e0, cI 0]) := (hF 17 (by omega)).trans hk_
  have hA1 := hW.arr
  have hA : H1 50 = some (.arr ty_impl_Node 4 (ndsK (fun j => 51 + j) w.nodes)) := hW.arr
  repeat' ((conv => whnf); first
    | refine ⟨_, rfl, ?_⟩
    | refine ⟨rfl, ?_⟩
    | refine ⟨_, _, hupd_at, rfl, rfl, Nat.le_of_ble_eq_true rfl, ?_⟩
    | refine ⟨(show _ ≠ _ from (by first | decide | omega)), ?_⟩
    | (refine ⟨fun hc => ?_, fun hc => ?_⟩ <;> (try simp (disch := omega) only [List.length_map, wrap64] at hc))
    | (refine callrd (by exact hk_) rfl rfl ⟨(_, _), rfl, (by exact pr_)⟩ v_spec_l6Rd_pick (by omega) (fun r hr => ?_); have hj := K_spec_l6Rd_pick (a := (_, _)) hr; clear hr; obtain ⟨k, rfl, hk0, hk1⟩ := hj; dsimp only at hk1; (try simp (disch := omega) only [List.length_map, ncast, wrap64] at hk1))
    | fail)
  all_goals
    have hw1 : IntKind.i64.wrap (1 + k) = 1 + k := by rw [wrap64] <;> omega
    have hm1 : 0 ≤ (1 + k).tmod 4 := Int.tmod_nonneg 4 (by omega)
    have hm2 : (1 + k).tmod 4 < 4 := Int.tmod_lt_of_pos _ (by decide)
    have q1 : IntKind.i64.wrap (IntKind.i64.wrap (1 + k) - 1) = k := by rw [hw1, wrap64] <;> omega
    have q2 : IntKind.i64.wrap (IntKind.i64.wrap ((IntKind.i64.wrap (1 + k)).tmod 4 + 1) - 1) = (1 + k).tmod 4 := by rw [hw1, wrap64 (n := (1 + k).tmod 4 + 1) (by omega) (by omega), wrap64] <;> omega
    refine idx_nd (f := fun j => 51 + j) hI hk_ (by first | exact q1.symm ▸ hk0 | exact q2.symm ▸ hm1) (by first | (rw [q1]; omega) | (rw [q2]; exact hm2)) (fun i n hn ⟨g1, g2, g3, g4, g5, g6⟩ => ?_)
    clear q1 q2 hm1 hm2 hw1
    have hT : H1 (51 + (i + 1)) = some (tokO n.seen) := by
      have := hW.tok (i + 1) (by omega)
      rw [show lst w (i + 1) = n.seen from by show ((w.nodes[i]?).map Nd.seen).getD [] = _; rw [hn]; rfl] at this
      exact this
    repeat' ((conv => whnf); first
      | refine ⟨_, ldc_pa hk_ (ndsK_at hn) (Nat.le_of_ble_eq_true rfl), ?_⟩
      | refine ⟨_, ldc_cells hk_ (Nat.le_of_ble_eq_true rfl), ?_⟩
      | (refine ⟨_, news_ow hupd_at, newsz_ow hupd_at, [voF _], rfl, hk_, rfl, ap_b g2, ?_⟩; rw [tkC_snoc, tokO_snoc])
      | refine ⟨⟨.inl (by omega), trivial⟩, ?_⟩
      | refine ⟨rfl, ?_⟩
      | refine ⟨_, _, hupd_at, rfl, rfl, Nat.le_of_ble_eq_true rfl, ?_⟩
      | refine ⟨_, _, rfl, rfl, rfl, Nat.le_of_ble_eq_true rfl, ?_⟩
      | (refine ⟨?_, _, (?_ : (_ : Option Ob) = _), rfl, rfl, ?_, ?_⟩; rotate_left; (exact hk_); exact Nat.le_of_ble_eq_true rfl)
      | (refine ⟨fun hc => ?_, fun hc => ?_⟩ <;> (try simp (disch := omega) only [List.length_map, wrap64] at hc))
      | (refine callrd (by exact hk_) rfl rfl ⟨(_, _), rfl, (by exact pr_)⟩ v_spec_l6Rd_pick (by omega) (fun r hr => ?_); have hj := K_spec_l6Rd_pick (a := (_, _)) hr; clear hr; obtain ⟨k, rfl, hk0, hk1⟩ := hj; dsimp only at hk1; (try simp (disch := omega) only [List.length_map, ncast, wrap64] at hk1))
      | (refine callrd (by exact hk_) rfl rfl ⟨_, rfl, (by exact pr_)⟩ v_spec_l71Vote (by omega) (fun r hr => ?_); have hj := K_spec_l71Vote (a := _) hr; clear hr; obtain ⟨v, rfl, hv⟩ := hj)
      | refine idx_ints (l := [0, 5, 1, 2]) hupd_at (by omega) (by simp only [List.length_cons, List.length_nil]; omega) (fun j y hjy hy => ?_)
      | refine ⟨_, ldc_pa (xs := ([0, 5, 1, 2] : List Int).map fun n => [cI n]) hupd_at (at_mapA (by assumption)) (Nat.le_of_ble_eq_true rfl), ?_⟩
      | fail)
  all_goals try (first | exact finM_node (n := (n : Nd)) (w := w) (kn := 51 + (i + 1)) (kN := 50) (f := fun j => 51 + j) (by omega) hk_ hk_ hk_ hI.2.2.1 (drN_b g4 rfl rfl) hI.2.2.2.1 (fun ks az h1 h2 => ⟨⟨_, rfl, .inl rfl⟩, ⟨_, rfl, .inr ⟨h1.symm, h2⟩⟩, trivial⟩) (fun r obs' h => ⟨b, rfl, rfl, h⟩) | exact finM_node (n := (⟨n.id, n.ep, IntKind.i64.wrap (n.ep + 1), n.seen⟩ : Nd)) (w := w) (kn := 51 + (i + 1)) (kN := 50) (f := fun j => 51 + j) (by omega) hk_ hk_ hk_ hI.2.2.1 (drN_b g4 rfl rfl) hI.2.2.2.1 (fun ks az h1 h2 => ⟨⟨_, rfl, .inl rfl⟩, ⟨_, rfl, .inr ⟨h1.symm, h2⟩⟩, trivial⟩) (fun r obs' h => ⟨b, rfl, rfl, h⟩) | (refine finM_node (n := (⟨n.id, n.ep, n.vt, n.seen ++ [‹Vo›]⟩ : Nd)) (w := w) (kN := 50) (f := fun j => 51 + j) (by omega) hk_ ?_ hk_ hI.2.2.1 (drN_s g4 (by assumption) rfl rfl) hI.2.2.2.1 (fun ks az h1 h2 => ⟨⟨_, rfl, .inl rfl⟩, ⟨_, rfl, .inr ⟨h1.symm, h2⟩⟩, trivial⟩) (fun r obs' h => ⟨b, rfl, rfl, h⟩); exact hk_))
  all_goals exact finM_node (n := (⟨y, n.ep, n.vt, n.seen⟩ : Nd)) (w := w) (kn := 51 + (i + 1)) (kN := 50) (f := fun j => 51 + j) (by omega) hk_ hk_ hk_ hI.2.2.1 (drN_b g4 rfl rfl) hI.2.2.2.1 (fun ks az h1 h2 => ⟨⟨_, rfl, .inl rfl⟩, ⟨_, rfl, .inr ⟨h1.symm, h2⟩⟩, trivial⟩) (fun r obs' h => ⟨b, rfl, rfl, h⟩)
end Av
end Go.Proofs.Ytfijfccgghhkoaa
