/- Texts of the layer, joined. -/
import Derived.Test.YtlbdoamidblkaaaJ37
import Derived.Test.YtlbdoamidblkaaaZR5
set_option linter.unusedVariables false
set_option linter.unusedSimpArgs false
namespace Go.Proofs.Ytlbdoamidblkaaa
namespace Av
open Go.RowKit
theorem evs_ren {evs : List (List AC)} (h : ∀ x, x ∈ evs → x.all clC = true) (ρ : Nat → Nat) : (evs.map fun x => x.map (AC.ren ρ)) = evs := by
  refine (List.map_congr_left (g := id) fun x hx => ?_).trans (List.map_id _)
  refine (List.map_congr_left (g := id) fun c hc => ?_).trans (List.map_id _)
  have := h x hx
  rw [List.all_eq_true] at this
  have := this c hc
  cases c <;> first | rfl | cases this
section
variable {fr : Env} {H : Hp} {nx rm rm' lim : Nat} {res : List Rs} {post : AV → List (Option Ob) → Prop}
/-- The reader stays; what happened, and the world, go out. -/
theorem finM_play {b : List Int} {kB : Nat} {w : Wo} {kN : Nat} {f : Nat → Nat} {kE : Nat} {evs : List (List AC)} {bad : Int} {nm : Nat} (hrm : rm' ≤ lim) (h : PSt b kB H nm w kN f kE evs) (hlen : evs.length ≤ 69) (hbad : In bad 0 4) (hres : ∀ ks, resM ks (fr) (hupd 33 (some (.cells (wvC w kN f))) H) res [.o (cI bad), .o (.ow kE), .g (wvC w kN f)])
    (hpost : ∀ r obs', RPlay b r obs' → post r obs') :
    rm' ≤ lim ∧ ∃ (ks : List Nat) (aw : List AW) (r : AV) (obs' : List (Option Ob)), resM ks fr (hupd 33 (some (.cells (wvC w kN f))) H) res aw ∧ resV aw = r.ren (nmap ks nx) ∧ post r obs' ∧
      ks.Nodup ∧ (∀ i, i < 1 → ks[i]? = some i) ∧ obs'.length = ks.length ∧
      ∀ (i k : Nat), ks[i]? = some k → (∃ ob : Ob, obs'[i]? = some (some ob) ∧ hupd 33 (some (.cells (wvC w kN f))) H k = some (ob.ren (nmap ks nx))) ∨ (obs'[i]? = some none ∧ hupd 33 (some (.cells (wvC w kN f))) H k = none) := by
  have hnd := ksW_nodup h.wat
  have e0 : nmap [0, kE, kN, f 0, f 1, f 2, f 3, f 4] nx 1 = kE := nmap_lt (s := 0) rfl
  have e1 : nmap [0, kE, kN, f 0, f 1, f 2, f 3, f 4] nx 2 = kN := nmap_lt (s := 0) rfl
  have ef : ∀ j, j < 5 → nmap [0, kE, kN, f 0, f 1, f 2, f 3, f 4] nx (j + 3) = f j := fun j hj => nmap_lt (s := 0) (by
    match j, hj with
    | 0, _ => rfl
    | 1, _ => rfl
    | 2, _ => rfl
    | 3, _ => rfl
    | 4, _ => rfl)
  obtain ⟨a1, a2, a3⟩ := h.e0
  obtain ⟨n1, n2, n3⟩ := h.n0
  have hE : hupd 33 (some (.cells (wvC w kN f))) H kE = some (.arr ty_impl_Event 8 evs) := by rw [hupd_ne a2]; exact h.ev
  have h0 : hupd 33 (some (.cells (wvC w kN f))) H 0 = some (rdO b) := by rw [hupd_ne (by decide)]; exact h.rd
  have hW := h.wat.box (x := some (.cells (wvC w kN f))) h.res
  refine ⟨hrm, [0, kE, kN, f 0, f 1, f 2, f 3, f 4], _, .tup [.o (cI bad), .o (.ow 1), .g (wvC w 2 (· + 3))], obsP w b evs, hres _, ?_, hpost _ _ ⟨bad, w, evs, rfl, h.inv, hbad, ⟨h.ok, hlen⟩, rfl⟩, ?_, fun i hi => ?_, rfl, fun i k hk => .inl ?_⟩
  · show AV.tup [.o (cI bad), .o (.ow kE), .g [cI w.ep, .ow kN, tkC (f 0) w.log, cI w.bad]] = AV.tup [.o (cI bad), .o (.ow (nmap _ nx 1)), .g [cI w.ep, .ow (nmap _ nx 2), tkC (nmap _ nx (0 + 3)) w.log, cI w.bad]]
    rw [e0, e1, ef 0 (by omega)]
  · refine List.nodup_cons.2 ⟨?_, List.nodup_cons.2 ⟨?_, hnd⟩⟩
    · intro hm
      simp only [List.mem_cons, List.not_mem_nil, or_false] at hm
      rcases hm with g | g | g | g | g | g | g
      · exact a1 g.symm
      · exact n1 g.symm
      · exact (h.f0 (j := 0) (by omega)).1 g.symm
      · exact (h.f0 (j := 1) (by omega)).1 g.symm
      · exact (h.f0 (j := 2) (by omega)).1 g.symm
      · exact (h.f0 (j := 3) (by omega)).1 g.symm
      · exact (h.f0 (j := 4) (by omega)).1 g.symm
    · intro hm
      simp only [List.mem_cons, List.not_mem_nil, or_false] at hm
      rcases hm with g | g | g | g | g | g
      · exact h.nE g.symm
      · exact h.fE (j := 0) (by omega) g.symm
      · exact h.fE (j := 1) (by omega) g.symm
      · exact h.fE (j := 2) (by omega) g.symm
      · exact h.fE (j := 3) (by omega) g.symm
      · exact h.fE (j := 4) (by omega) g.symm
  · have : i = 0 := by omega
    subst this; rfl
  · match i, hk with
    | 0, hk => cases hk; exact ⟨_, rfl, h0⟩
    | 1, hk =>
      cases hk
      refine ⟨_, rfl, ?_⟩
      rw [hE]
      exact congrArg (fun z => some (Ob.arr ty_impl_Event 8 z)) (evs_ren (fun x hx => evC_cl (h.ok x hx)) _).symm
    | 2, hk => cases hk; exact ⟨_, rfl, by rw [hW.arr, arrK_ren, arrK_congr (h := fun j => nmap [0, kE, kN, f 0, f 1, f 2, f 3, f 4] nx (j + 3)) hW.len fun j hj => (ef j hj).symm]⟩
    | 3, hk => cases hk; exact ⟨_, rfl, hW.tok 0 (by omega)⟩
    | 4, hk => cases hk; exact ⟨_, rfl, hW.tok 1 (by omega)⟩
    | 5, hk => cases hk; exact ⟨_, rfl, hW.tok 2 (by omega)⟩
    | 6, hk => cases hk; exact ⟨_, rfl, hW.tok 3 (by omega)⟩
    | 7, hk => cases hk; exact ⟨_, rfl, hW.tok 4 (by omega)⟩
    | i + 8, hk => simp at hk
end
attribute [local irreducible] Valid ValidM
set_option maxHeartbeats 4000000 in
set_option maxRecDepth 100000 in
theorem vP_spec_l72Play : ValidM Try.prog n_spec_l72Play S_spec_l72Play := by
  refine validM_of_swp mixed is_spec_l72Play (by rintro _ _ ⟨a, rfl, _⟩; exact Nat.le_of_ble_eq_true rfl) ?_
  rintro _ _ rm ⟨b, rfl, rfl, hrd⟩ hl
  have c1 : S_spec_l72Play.cost = 30000 := rfl
  have s1 : S_spec_WorldNew.st = 0 := rfl
  have cc_spec_l6Rd_pick : S_spec_l6Rd_pick.cost = 1 := rfl
  have cc_spec_l71Pay : S_spec_l71Pay.cost = 10 := rfl
  have cc_spec_l3Leader : S_spec_l3Leader.cost = 0 := rfl
  change swp _ _ _ _ (fun k : Nat => [rdO b][k]?) 1 _
  dsimp only
  have hR0 : (fun k : Nat => [rdO b][k]?) 0 = some (.rd (byF b)) := rfl
  generalize (fun k : Nat => [rdO b][k]?) = H0 at *
  repeat' ((conv => whnf); first
    | (refine callrd (by exact hk_) rfl rfl ⟨(_, _), rfl, (by exact pr_)⟩ v_spec_l6Rd_pick (by omega) (fun r hr => ?_); have hj := K_spec_l6Rd_pick (a := (_, _)) hr; clear hr; obtain ⟨k, rfl, hk0, hk1⟩ := hj; dsimp only at hk1; (try simp (disch := omega) only [List.length_map, ncast, wrap64] at hk1))
    | fail)
  have hbad : In k 0 4 := ⟨hk0, by omega⟩
  clear hk0 hk1
  generalize k = bad at *
  refine mq_nW v_spec_WorldNew (by omega) hbad rfl (fun H1 hW1 hF1 => ?_)
  have hr1 : H1 0 = some (rdO b) := (hF1 0 (by omega)).trans hk_
  have hs1 : H1 33 = some (.cells [cI 0, .e0, .e0, cI 0]) := (hF1 33 (by omega)).trans hk_
  repeat' ((conv => whnf); first
    | refine ⟨_, _, hupd_at, rfl, rfl, Nat.le_of_ble_eq_true rfl, ?_⟩
    | (refine callrd (by exact hk_) rfl rfl ⟨(_, _), rfl, (by exact pr_)⟩ v_spec_l6Rd_pick (by omega) (fun r hr => ?_); have hj := K_spec_l6Rd_pick (a := (_, _)) hr; clear hr; obtain ⟨k, rfl, hk0, hk1⟩ := hj; dsimp only at hk1; (try simp (disch := omega) only [List.length_map, ncast, wrap64] at hk1))
    | fail)
  refine lp1_ok (b := b) (bad := bad) (n9 := k) (rm0 := rm + 100) (w := newW bad) (evs := []) hrd ⟨hk_, hk_, hk_, hW1.keep (by omega) (fun k hk => by (repeat (refine (hupd_ne (by omega)).trans ?_)); rfl), newW_inv hbad, hk_, (by omega), (fun x hx => by cases hx), (by decide), (by omega)⟩ ⟨rfl, rfl, rfl, rfl, rfl, rfl, trivial⟩ hk0 (by simp only [List.length_nil]; omega) (by omega) (by omega) (fun fr2 H2 nx2 rm2 w2 kN2 f2 kE2 evs2 hfr2 hP2 hlen2 hrm2 => ?_)
  clear hr1 hs1 hW1 hF1
  rw [hfr2.eq]
  skip
  refine lp2_ok (b := b) (bad := bad) (rm0 := rm + 100) hrd (hP2.keep (by omega) (fun k hk => rfl)) ⟨rfl, rfl, rfl, rfl, rfl, trivial⟩ hlen2 hrm2 (by omega) (fun fr3 H3 nx3 rm3 w3 kN3 f3 kE3 evs3 hfr3 hP3 hlen3 hrm3 => ?_)
  clear hP2 hfr2
  rw [hfr3.eq]
  have hBx := hP3.box
  have hRs := hP3.res
  repeat' ((conv => whnf); first
    | refine ⟨_, ldc_cells (by first | assumption | exact zk ‹_› (by omega) | exact zk (zk ‹_› (by omega)) (by omega)) (Nat.le_of_ble_eq_true rfl), ?_⟩
    | (refine ⟨?_, _, (?_ : (_ : Option Ob) = _), rfl, rfl, ?_, ?_⟩; rotate_left; (exact hk_); exact Nat.le_of_ble_eq_true rfl)
    | fail)
  exact finM_play (b := b) (kB := 177) (bad := bad) (by omega) (hP3.keep (Nat.le_refl _) (fun k hk => rfl)) hlen3 hbad (fun ks => ⟨⟨_, rfl, .inl rfl⟩, ⟨_, rfl, .inl rfl⟩, ⟨_, rfl, .inl rfl⟩, trivial⟩) (fun r obs' h => ⟨b, rfl, rfl, h⟩)
end Av
end Go.Proofs.Ytlbdoamidblkaaa

namespace Go.Proofs.Ytlbdoamidblkaaa
namespace Av
open Go.RowKit
section
variable {P : Program} {g : Nat} {fr : Env} {H : Hp} {nm nx rm rm' lim : Nat} {K : KV} {xs : List (X × List (Option Nat))} {res : List Rs} {post : AV → List (Option Ob) → Prop}
theorem mq_play {b : List Int} {k : Nat} (hv : ValidM P g S_spec_l72Play) (hl : rm + S_spec_l72Play.cost ≤ LIM) (hk : H k = some (rdO b)) (hkn : k < nm) (ha : nrmArgs fr xs = [.w (.o (.ptr k 0))]) (hrd : RdOk b)
    (hK : ∀ bad w H', In bad 0 4 → WInv w → WAt H' (nm + 16) w (nm + 1) (fun j => nm + 2 + j) → (∀ i, i < nm → H' i = H i) → ∀ evs, H' nm = some (.arr ty_impl_Event 8 evs) → EvL evs ∧ evs.length ≤ 69 → K (.tup [.o (cI bad), .o (.ow nm), .g (wvC w (nm + 1) (fun j => nm + 2 + j))]) H' (rm + S_spec_l72Play.cost)) : MQ P nm fr H rm K g S_spec_l72Play xs := by
  have e0 : nmapS 0 [k] nm 0 = k := nmap_lt (s := 0) rfl
  have e : ∀ i, i < 7 → nmapS 0 [k] nm (i + 1) = nm + i := fun i hi => by unfold nmapS; simp; omega
  refine ⟨⟨hv, hl, [k], [pt0], [rdO b], by simp, rfl, fun i k' h => ?_, ?_, ⟨b, rfl, rfl, hrd⟩, fun r obs' hp _ _ => ?_⟩⟩
  · cases i with
    | zero => cases h; exact ⟨_, rfl, hk⟩
    | succ i => simp at h
  · rw [ha]
    show [AV.w (.o (.ptr (nmapS 0 [k] nm 0) 0))] = _
    rw [e0]
  · obtain ⟨bad, w, evs, rfl, hI, hbad, hev, rfl⟩ := K_spec_l72Play hp
    show K (.tup [.o (cI bad), .o (.ow (nmapS 0 [k] nm 1)), .g (wvC w (nmapS 0 [k] nm 2) (fun j => nmapS 0 [k] nm (j + 3)))]) (hput (nmapS 0 [k] nm) 0 (obsP w b evs) H) _
    have ew : wvC w (nmapS 0 [k] nm 2) (fun j => nmapS 0 [k] nm (j + 3)) = wvC w (nm + 1) (fun j => nm + 2 + j) := by
      show [cI w.ep, AC.ow (nmapS 0 [k] nm 2), tkC (nmapS 0 [k] nm (0 + 3)) w.log, cI w.bad] = [cI w.ep, AC.ow (nm + 1), tkC (nm + 2 + 0) w.log, cI w.bad]
      rw [e 1 (by omega), e 2 (by omega)]
    rw [ew, e 0 (by omega)]
    have hin : ∀ {i j : Nat}, i < 8 → j < 8 → nmapS 0 [k] nm i = nmapS 0 [k] nm j → i = j := fun hi hj h => nmapS_inj (s := 0) (ks := [k]) (nm := nm) (by simp) (fun z hz => by rw [List.mem_singleton.1 hz]; exact hkn) (by simp; omega) (by simp; omega) h
    have hlen : (obsP w b evs).length = 8 := rfl
    obtain ⟨g1, g2⟩ := hput_at (nmapS 0 [k] nm) (obsP w b evs) 0 H (fun j j' _ h2 _ h4 h => hin (by omega) (by omega) h)
    have g1' : ∀ (j : Nat) ob, j < 7 → (obsP w b evs)[j + 1]? = some ob → hput (nmapS 0 [k] nm) 0 (obsP w b evs) H (nm + j) = ob.map (Ob.ren (nmapS 0 [k] nm)) := fun j ob hj h => by have := g1 (j + 1) ob h; rwa [Nat.zero_add, e j hj] at this
    refine hK bad w _ hbad hI ⟨?_, fun j hj => ?_, fun i j _ _ h => by omega, by omega, fun j hj => by show nm + 2 + j < _; omega, hI.2.2.1⟩ (fun i hi => ?_) evs ?_ hev
    · have := g1' 1 _ (by omega) rfl
      rw [this]
      show some ((arrK (· + 3) w.nodes).ren _) = _
      rw [arrK_ren, arrK_congr (f := fun j => nmapS 0 [k] nm (j + 3)) (h := fun j => nm + 2 + j) hI.2.2.1 fun j hj => (e (j + 2) (by omega)).trans (by omega : nm + (j + 2) = nm + 2 + j)]
    · have := g1' (j + 2) (some (tokO (lst w j))) (by omega) (by
        match j, hj with
        | 0, _ => rfl
        | 1, _ => rfl
        | 2, _ => rfl
        | 3, _ => rfl
        | 4, _ => rfl)
      rw [show nm + (j + 2) = nm + 2 + j by omega] at this
      exact this
    · by_cases hik : i = k
      · subst hik
        have := g1 0 (some (rdO b)) rfl
        rw [Nat.zero_add, e0] at this
        rw [this, hk]; rfl
      · exact g2 i fun j _ _ => nmapS_out (by simpa using hik) hi
    · have := g1' 0 _ (by omega) rfl
      rw [Nat.add_zero] at this
      rw [this]
      exact congrArg (fun z => some (Ob.arr ty_impl_Event 8 z)) (evs_ren (fun x hx => evC_cl (hev.1 x hx)) _)
end
attribute [local irreducible] Valid ValidM
end Av
end Go.Proofs.Ytlbdoamidblkaaa

