/- Texts of the layer, joined. -/
import Derived.Test.YtlbdoamidblkaaaZN
import Derived.Test.YtlbdoamidblkaaaK0
set_option linter.unusedVariables false
set_option linter.unusedSimpArgs false
namespace Go.Proofs.Ytlbdoamidblkaaa
namespace Av
open Go.RowKit
theorem startR {w : Wo} {b : List Int} (hl : w.nodes.length = 4) : WAt (fun k : Nat => (obsR w b)[k]?) 7 w 0 stdF := by
  refine ⟨rfl, fun j hj => ?_, fun i j _ _ e => Nat.succ.inj e, by decide, fun j hj => (by show j + 1 < 7; omega), hl⟩
  match j, hj with
  | 0, _ => rfl
  | 1, _ => rfl
  | 2, _ => rfl
  | 3, _ => rfl
  | 4, _ => rfl
section
variable {P : Program} {g : Nat} {S : MSpec} {fr : Env} {H : Hp} {nm nx rm rm' lim : Nat} {K : KV} {xs : List (X × List (Option Nat))} {res : List Rs} {post : AV → List (Option Ob) → Prop}
theorem hput_id {ρ : Nat → Nat} : ∀ {l : List Ob} {i : Nat} {H : Hp}, (∀ (j : Nat) ob, l[j]? = some ob → H (ρ (i + j)) = some (ob.ren ρ)) → hput ρ i (l.map some) H = H
  | [], _, _, _ => rfl
  | ob :: l, i, H, h => by
    show hput ρ (i + 1) (l.map some) (hupd (ρ i) (some (ob.ren ρ)) H) = H
    have h0 := h 0 ob rfl
    rw [Nat.add_zero] at h0
    rw [hupd_same_id h0]
    exact hput_id (l := l) fun j ob' hj => by have := h (j + 1) ob' (by simpa using hj); rwa [show i + (j + 1) = i + 1 + j by omega] at this
/-- A call of a function that draws from a reader and looks at a world. -/
theorem mq_WR {w : Wo} {kN kr : Nat} {f : Nat → Nat} {b : List Int} {Q : AV → Prop} (hv : ValidM P g S) (hl : rm + S.cost ≤ LIM) (hW : WAt H nm w kN f) (hr : H kr = some (rdO b)) (hkr : kr < nm) (ha : nrmArgs fr xs = [.w (.o (.ptr kr 0)), wv w kN f])
    (hpre : S.pre (argR w) (obsR w b)) (hpost : ∀ r obs', S.post (argR w) (obsR w b) r obs' → Q r ∧ obs' = (obsR w b).map some) (hQ : ∀ r, Q r → ∀ ρ, r.ren ρ = r) (hK : ∀ r, Q r → K r H (rm + S.cost)) : MQ P nm fr H rm K g S xs := by
  have e0 : nmapS S.st ([kN, f 0, f 1, f 2, f 3, f 4] ++ [kr]) nm 0 = kN := nmap_lt rfl
  have ef : ∀ j, j < 5 → nmapS S.st ([kN, f 0, f 1, f 2, f 3, f 4] ++ [kr]) nm (stdF j) = f j := fun j hj => nmap_lt (ksW_get hj)
  have er : nmapS S.st ([kN, f 0, f 1, f 2, f 3, f 4] ++ [kr]) nm 6 = kr := nmap_lt rfl
  have hob := ksW_obs (ex := [kr]) (eo := [rdO b]) hW e0 ef (fun i k h => by
    cases i with
    | zero => cases h; exact ⟨_, rfl, hr⟩
    | succ i => simp at h)
  refine ⟨⟨hv, hl, [kN, f 0, f 1, f 2, f 3, f 4] ++ [kr], argR w, obsR w b, ?_, rfl, hob, ?_, hpre, fun r obs' hp _ _ => ?_⟩⟩
  · refine List.nodup_append.2 ⟨ksW_nodup hW, by simp, fun a hma c hc => ?_⟩
    rw [List.mem_singleton] at hc
    intro e
    have hmc : c ∈ [kN, f 0, f 1, f 2, f 3, f 4] := e ▸ hma
    simp only [List.mem_cons, List.not_mem_nil, or_false] at hmc
    subst hc
    rcases hmc with h | h | h | h | h | h
    · have := hW.arr; rw [← h, hr] at this; cases this
    · have := hW.tok 0 (by omega); rw [← h, hr] at this; cases this
    · have := hW.tok 1 (by omega); rw [← h, hr] at this; cases this
    · have := hW.tok 2 (by omega); rw [← h, hr] at this; cases this
    · have := hW.tok 3 (by omega); rw [← h, hr] at this; cases this
    · have := hW.tok 4 (by omega); rw [← h, hr] at this; cases this
  · rw [ha]
    show [AV.w (.o (.ptr (nmapS S.st _ nm 6) 0)), AV.w (.g [cI w.ep, .ow (nmapS S.st _ nm 0), tkC (nmapS S.st _ nm (stdF 0)) w.log, cI w.bad])] = _
    rw [e0, er, ef 0 (by omega)]; rfl
  · obtain ⟨hq, rfl⟩ := hpost r obs' hp
    rw [hQ r hq]
    have : hput (nmapS S.st ([kN, f 0, f 1, f 2, f 3, f 4] ++ [kr]) nm) 0 ((obsR w b).map some) H = H := by
      refine hput_id fun j ob hj => ?_
      rw [Nat.zero_add]
      have hj7 : j < 7 := (List.getElem?_eq_some_iff.1 hj).1
      have hk : ([kN, f 0, f 1, f 2, f 3, f 4] ++ [kr])[j]? = some (nmapS S.st ([kN, f 0, f 1, f 2, f 3, f 4] ++ [kr]) nm j) := by
        obtain ⟨k, hk⟩ : ∃ k, ([kN, f 0, f 1, f 2, f 3, f 4] ++ [kr])[j]? = some k := ⟨_, List.getElem?_eq_getElem hj7⟩
        rw [nmap_lt hk]; exact hk
      obtain ⟨ob', h1, h2⟩ := hob j _ hk
      rw [show obsW w ++ [rdO b] = obsR w b from rfl, hj] at h1
      cases h1
      exact h2
    rw [this]
    exact hK r hq
/-- What such a function ends with. -/
theorem finM_R {w : Wo} {b : List Int} {r0 : AV} {az : List AW} (hrm : rm' ≤ lim) (hW : WAt H nm w 0 stdF) (h6 : H 6 = some (rdO b)) (hres : resM (List.range 7) fr H res az) (hr : resV az = r0) (h0 : ∀ ρ, r0.ren ρ = r0) (hpost : post r0 ((obsR w b).map some)) :
    rm' ≤ lim ∧ ∃ (ks : List Nat) (aw : List AW) (r : AV) (obs' : List (Option Ob)), resM ks fr H res aw ∧ resV aw = r.ren (nmap ks nx) ∧ post r obs' ∧
      ks.Nodup ∧ (∀ i, i < 7 → ks[i]? = some i) ∧ obs'.length = ks.length ∧
      ∀ (i k : Nat), ks[i]? = some k → (∃ ob : Ob, obs'[i]? = some (some ob) ∧ H k = some (ob.ren (nmap ks nx))) ∨ (obs'[i]? = some none ∧ H k = none) := by
  have hn : ∀ j, j < 7 → nmap (List.range 7) nx j = j := fun j hj => nmap_lt (s := 0) (by simp [hj])
  have hob := ksW_obs (ρ := nmap (List.range 7) nx) (ex := [6]) (eo := [rdO b]) hW (hn 0 (by omega)) (fun j hj => hn (j + 1) (by omega)) (fun i k h => by
    cases i with
    | zero => cases h; exact ⟨_, rfl, h6⟩
    | succ i => simp at h)
  refine ⟨hrm, List.range 7, az, r0, _, hres, by rw [h0]; exact hr, hpost, List.nodup_range, fun i hi => by simp [hi], by simp [obsR, obsW], fun i k h => .inl ?_⟩
  obtain ⟨ob, h1, h2⟩ := hob i k (by rw [← h]; rfl)
  exact ⟨ob, by rw [List.getElem?_map]; show (obsW w ++ [rdO b])[i]?.map some = _; rw [h1]; rfl, h2⟩
end
theorem hcut_ne {ks : List Nat} {H : Hp} {k : Nat} (h : k ∉ ks) : hcut ks H k = H k := if_neg h
/-- A vote whose chain is new, azz it is handed back. -/
theorem bor_vote {H : Hp} {k : Nat} {c : List It} {n : Int} (hk : H k = some (itO c)) (h7 : 7 ≤ k) : borW (hcut (List.range 7) H) [none, some 4] (.g [cI n, .ow k]) = .g ((voF ⟨n, c⟩).map AC.c) := by
  show AW.g [cI n, bor (hcut (List.range 7) H) (some 4) (.ow k)] = _
  rw [bor_ow (k := k) (sh := some 4) ((hcut_ne (by simp; omega)).trans hk) (fcellss_f itF c)]
  rfl
/-- A node of a world is picked. -/
theorem idx_nd {w : Wo} {H : Hp} {kN : Nat} {f : Nat → Nat} {k : Int} {K : AV → Prop} (hI : WInv w) (hA : H kN = some (.arr ty_impl_Node 4 (ndsK f w.nodes))) (h0 : 0 ≤ k) (h1 : k < 4)
    (hK : ∀ (i : Nat) n, w.nodes[i]? = some n → (FitVs n.seen ∧ n.seen.length < LIM ∧ (tipM n.seen).length ≤ 16 ∧ NdB n ∧ k = (i : Int) ∧ i < 4) → K (.w (.o (.pa kN 4 i 0)))) : ∃ (T : Nat) (xs : List (List AC)) (j : Nat) (e : List AC), H kN = some (.arr T 4 xs) ∧ k = (j : Int) ∧ xs[j]? = some e ∧ K (.w (.o (.pa kN 4 j 0))) := by
  obtain ⟨i, rfl⟩ := Int.eq_ofNat_of_zero_le h0
  obtain ⟨n, hn⟩ : ∃ n, w.nodes[i]? = some n := ⟨_, List.getElem?_eq_getElem (by have := hI.2.2.1; omega)⟩
  have hnb := hI.2.2.2.2 n (List.mem_of_getElem? hn)
  exact ⟨_, _, i, _, hA, rfl, ndsK_at hn, hK i n hn ⟨hnb.2.2.fit, hnb.2.2.lt, tipM_len fun v hv => (hnb.2.2.2 v hv).2.2.2, hnb, rfl, by omega⟩⟩
attribute [local irreducible] Valid ValidM
set_option maxHeartbeats 4000000 in
set_option maxRecDepth 100000 in
theorem v_spec_l72Forge : ValidM Try.prog n_spec_l72Forge S_spec_l72Forge := by
  refine validM_of_swp mixed is_spec_l72Forge (by rintro _ _ ⟨a, rfl, _⟩; exact Nat.le_of_ble_eq_true rfl) ?_
  rintro _ _ rm ⟨⟨w, b⟩, rfl, rfl, hpre⟩ hl
  try dsimp only at hpre
  obtain ⟨hI, hrd⟩ := hpre
  have hl4 := hI.2.2.1
  have hfs : FitVs w.log := hI.2.2.2.1.fit
  have c1 : S_spec_l72Forge.cost = 200 := rfl
  have c2 : S_spec_l71Chain.cost = 100 := rfl
  have c3 : S_spec_l71Chain.st = 0 := rfl
  have cc_spec_l6Rd_pick : S_spec_l6Rd_pick.cost = 1 := rfl
  have cc_spec_l71Pay : S_spec_l71Pay.cost = 10 := rfl
  have cc_spec_l11Tip : S_spec_l11Tip.cost = 0 := rfl
  change swp _ _ _ _ (fun k : Nat => (obsR w b)[k]?) 7 _
  dsimp only
  have hW0 := startR (b := b) hI.2.2.1
  have hR0 : (fun k : Nat => (obsR w b)[k]?) 6 = some (.rd (byF b)) := rfl
  generalize (fun k : Nat => (obsR w b)[k]?) = H0 at *
  have hA0 : H0 0 = some (.arr ty_impl_Node 4 (ndsK stdF w.nodes)) := hW0.arr
  have hcl : ∀ v, v ∈ w.log → v.c.length ≤ LIM := fun v hv => hfs.2 v hv
  have hcl16 : ∀ v, v ∈ w.log → v.c.length ≤ 16 := fun v hv => (hI.2.2.2.1.2 v hv).2.2.2
  repeat' ((conv => whnf); first
    | (refine OQ.mk1 (ar := [one (chF _)]) rfl ⟨_, rfl, hcl _ (List.mem_of_getElem? (by assumption))⟩ vO_spec_l1Copy (so_spec_l1Copy _) ?_)
    | refine idx_nd hI hk_ (by assumption) (by omega) (fun i n hn ⟨g1, g2, g3, g4, g5, g6⟩ => ?_)
    | refine ⟨_, ldc_pa hk_ (ndsK_at (by assumption)) (Nat.le_of_ble_eq_true rfl), ?_⟩
    | refine ⟨_, rfl, ?_⟩
    | refine ⟨rfl, ?_⟩
    | refine idx_mapI (by omega) (by first | omega | (simp only [List.length_map] at *; omega)) (fun x hx => ?_)
    | refine ⟨_, _, hupd_at, rfl, rfl, Nat.le_of_ble_eq_true rfl, ?_⟩
    | refine ⟨_, _, rfl, rfl, rfl, Nat.le_of_ble_eq_true rfl, ?_⟩
    | refine ⟨(show _ ≤ _ from (by exact ap_)), ?_⟩
    | (refine ⟨fun hc => ?_, fun hc => ?_⟩ <;> (try simp (disch := omega) only [List.length_map, wrap64] at hc))
    | (refine mq_rd (F := itF) (Q := fun c => c.length ≤ 6) v_spec_l71Chain (by omega) (by exact hk_) rfl ⟨_, rfl, rfl, (by assumption)⟩ (fun r obs' h => rdItM_post h) (fun c hc => ?_))
    | (refine callrd (by exact hk_) rfl rfl ⟨(_, _), rfl, (by exact pr_)⟩ v_spec_l6Rd_pick (by omega) (fun r hr => ?_); have hj := K_spec_l6Rd_pick (a := (_, _)) hr; clear hr; obtain ⟨k, rfl, hk0, hk1⟩ := hj; dsimp only at hk1; (try simp (disch := omega) only [List.length_map, ncast, wrap64] at hk1))
    | (refine OQ.mk1 (ar := [one (chF _)]) rfl ⟨_, rfl, (by first | assumption | (simp only [LIM, List.length_take] at *; omega))⟩ vO_spec_l1Copy (so_spec_l1Copy _) ?_)
    | (refine callrd (by exact hk_) rfl rfl ⟨_, rfl, (by exact pr_)⟩ v_spec_l71Pay (by omega) (fun r hr => ?_); have hj := K_spec_l71Pay (a := _) hr; clear hr; obtain ⟨p, rfl⟩ := hj)
    | (refine calle (b := [one (vsF _)]) v_spec_l11Tip rfl ⟨_, rfl, (by refine ⟨?_, ?_⟩ <;> (exact pr_))⟩ (.inl rfl) (by first | assumption | omega) (fun r hr => K_spec_l11Tip (a := _) hr) ?_)
    | fail)
  · exact finM_R (w := w) (b := b) (az := [.g ((voF ⟨w.bad, (tipM n.seen ++ [(⟨if 1 > w.ep then 1 else w.ep, p⟩ : It)])⟩).map AC.c)]) (by omega) (hW0.keep (Nat.le_refl _) (fun k hk => by (repeat (refine (hupd_ne (by omega)).trans ?_)); rfl)) hk_ ⟨⟨.g [cI w.bad, .ow _], rfl, .inr ⟨(bor_vote (c := (tipM n.seen ++ [(⟨if 1 > w.ep then 1 else w.ep, p⟩ : It)])) (Eq.trans (b := some (Ob.arr _ _ (arA itF (tipM n.seen) ++ _))) hk_ (arr_snoc (F := itF) (x := (⟨if 1 > w.ep then 1 else w.ep, p⟩ : It)) rfl)) (by omega)).symm, rfl⟩⟩, trivial⟩ rfl (fun _ => rfl) ⟨(w, b), rfl, rfl, ⟨⟨w.bad, (tipM n.seen ++ [(⟨if 1 > w.ep then 1 else w.ep, p⟩ : It)])⟩, rfl, (by show (tipM n.seen ++ [(⟨if 1 > w.ep then 1 else w.ep, p⟩ : It)]).length ≤ 17; simp only [List.length_append, List.length_cons, List.length_nil]; omega)⟩, rfl⟩
  · exact finM_R (w := w) (b := b) (az := [.g ((voF ⟨w.bad, x.c⟩).map AC.c)]) (by omega) (hW0.keep (Nat.le_refl _) (fun k hk => by (repeat (refine (hupd_ne (by omega)).trans ?_)); rfl)) hk_ ⟨⟨.g [cI w.bad, .ow _], rfl, .inr ⟨(bor_vote (c := x.c) hk_ (by omega)).symm, rfl⟩⟩, trivial⟩ rfl (fun _ => rfl) ⟨(w, b), rfl, rfl, ⟨⟨w.bad, x.c⟩, rfl, (Nat.le_trans (hcl16 x (List.mem_of_getElem? (by assumption))) (by decide))⟩, rfl⟩
  · exact finM_R (w := w) (b := b) (az := [.g ((voF ⟨w.bad, (tipM n.seen ++ [(⟨if 1 > w.ep then 1 else w.ep, p⟩ : It)])⟩).map AC.c)]) (by omega) (hW0.keep (Nat.le_refl _) (fun k hk => by (repeat (refine (hupd_ne (by omega)).trans ?_)); rfl)) hk_ ⟨⟨.g [cI w.bad, .ow _], rfl, .inr ⟨(bor_vote (c := (tipM n.seen ++ [(⟨if 1 > w.ep then 1 else w.ep, p⟩ : It)])) (Eq.trans (b := some (Ob.arr _ _ (arA itF (tipM n.seen) ++ _))) hk_ (arr_snoc (F := itF) (x := (⟨if 1 > w.ep then 1 else w.ep, p⟩ : It)) rfl)) (by omega)).symm, rfl⟩⟩, trivial⟩ rfl (fun _ => rfl) ⟨(w, b), rfl, rfl, ⟨⟨w.bad, (tipM n.seen ++ [(⟨if 1 > w.ep then 1 else w.ep, p⟩ : It)])⟩, rfl, (by show (tipM n.seen ++ [(⟨if 1 > w.ep then 1 else w.ep, p⟩ : It)]).length ≤ 17; simp only [List.length_append, List.length_cons, List.length_nil]; omega)⟩, rfl⟩
  · exact finM_R (w := w) (b := b) (az := [.g ((voF ⟨w.bad, c⟩).map AC.c)]) (by omega) (hW0.keep (Nat.le_refl _) (fun k hk => by (repeat (refine (hupd_ne (by omega)).trans ?_)); rfl)) hk_ ⟨⟨.g [cI w.bad, .ow _], rfl, .inr ⟨(bor_vote (c := c) hk_ (by omega)).symm, rfl⟩⟩, trivial⟩ rfl (fun _ => rfl) ⟨(w, b), rfl, rfl, ⟨⟨w.bad, c⟩, rfl, (by show c.length ≤ 17; omega)⟩, rfl⟩
  · exact finM_R (w := w) (b := b) (az := [.g ((voF ⟨w.bad, (tipM n.seen ++ [(⟨if 1 > w.ep then 1 else w.ep, p⟩ : It)])⟩).map AC.c)]) (by omega) (hW0.keep (Nat.le_refl _) (fun k hk => by (repeat (refine (hupd_ne (by omega)).trans ?_)); rfl)) hk_ ⟨⟨.g [cI w.bad, .ow _], rfl, .inr ⟨(bor_vote (c := (tipM n.seen ++ [(⟨if 1 > w.ep then 1 else w.ep, p⟩ : It)])) (Eq.trans (b := some (Ob.arr _ _ (arA itF (tipM n.seen) ++ _))) hk_ (arr_snoc (F := itF) (x := (⟨if 1 > w.ep then 1 else w.ep, p⟩ : It)) rfl)) (by omega)).symm, rfl⟩⟩, trivial⟩ rfl (fun _ => rfl) ⟨(w, b), rfl, rfl, ⟨⟨w.bad, (tipM n.seen ++ [(⟨if 1 > w.ep then 1 else w.ep, p⟩ : It)])⟩, rfl, (by show (tipM n.seen ++ [(⟨if 1 > w.ep then 1 else w.ep, p⟩ : It)]).length ≤ 17; simp only [List.length_append, List.length_cons, List.length_nil]; omega)⟩, rfl⟩
  · exact finM_R (w := w) (b := b) (az := [.g ((voF ⟨w.bad, c⟩).map AC.c)]) (by omega) (hW0.keep (Nat.le_refl _) (fun k hk => by (repeat (refine (hupd_ne (by omega)).trans ?_)); rfl)) hk_ ⟨⟨.g [cI w.bad, .ow _], rfl, .inr ⟨(bor_vote (c := c) hk_ (by omega)).symm, rfl⟩⟩, trivial⟩ rfl (fun _ => rfl) ⟨(w, b), rfl, rfl, ⟨⟨w.bad, c⟩, rfl, (by show c.length ≤ 17; omega)⟩, rfl⟩
end Av
end Go.Proofs.Ytlbdoamidblkaaa

namespace Go.Proofs.Ytlbdoamidblkaaa
namespace Av
open Go.RowKit
theorem agg_ren {l : List FV} {ρ : Nat → Nat} : (agg l).ren ρ = agg l := by
  show AV.w (.g ((l.map AC.c).map (AC.ren ρ))) = _
  rw [List.map_map]; rfl
attribute [local irreducible] Valid ValidM
set_option maxHeartbeats 4000000 in
set_option maxRecDepth 100000 in
theorem v_spec_l72Event : ValidM Try.prog n_spec_l72Event S_spec_l72Event := by
  refine validM_of_swp mixed is_spec_l72Event (by rintro _ _ ⟨a, rfl, _⟩; exact Nat.le_of_ble_eq_true rfl) ?_
  rintro _ _ rm ⟨⟨w, b⟩, rfl, rfl, hpre⟩ hl
  try dsimp only at hpre
  obtain ⟨hI, hrd⟩ := hpre
  have hl4 := hI.2.2.1
  have hfs : FitVs w.log := hI.2.2.2.1.fit
  have c1 : S_spec_l72Event.cost = 300 := rfl
  have c2 : S_spec_l72Forge.cost = 200 := rfl
  have c3 : S_spec_l72Forge.st = 0 := rfl
  have cc_spec_l6Rd_pick : S_spec_l6Rd_pick.cost = 1 := rfl
  have cc_spec_l71Pay : S_spec_l71Pay.cost = 10 := rfl
  have cc_spec_l3Leader : S_spec_l3Leader.cost = 0 := rfl
  have hmx : In (if 1 > w.ep then 1 else w.ep) 0 100 := by
    obtain ⟨q1, q2⟩ := hI.1
    split <;> exact ⟨by omega, by omega⟩
  change swp _ _ _ _ (fun k : Nat => (obsR w b)[k]?) 7 _
  dsimp only
  have hW0 := startR (b := b) hI.2.2.1
  have hR0 : (fun k : Nat => (obsR w b)[k]?) 6 = some (.rd (byF b)) := rfl
  generalize (fun k : Nat => (obsR w b)[k]?) = H0 at *
  have hA0 : H0 0 = some (.arr ty_impl_Node 4 (ndsK stdF w.nodes)) := hW0.arr
  repeat' ((conv => whnf); first
    | (refine mq_WR (w := w) (kN := 0) (kr := 6) (f := stdF) (b := b) (Q := QForge) v_spec_l72Forge (by omega) (hW0.keep (by omega) (fun k hk => by (repeat (refine (hupd_ne (by omega)).trans ?_)); rfl)) hk_ (by omega) rfl ⟨(w, b), rfl, rfl, hI, hrd⟩ (fun r obs' h => mkR2_post h) (fun r hq ρ => by obtain ⟨v, rfl, _⟩ := hq; exact agg_ren) (fun r ⟨v, hr, hv⟩ => ?_); subst hr)
    | refine ⟨_, rfl, ?_⟩
    | refine ⟨rfl, ?_⟩
    | refine ⟨_, _, hupd_at, rfl, rfl, Nat.le_of_ble_eq_true rfl, ?_⟩
    | (refine ⟨fun hc => ?_, fun hc => ?_⟩ <;> (try simp (disch := omega) only [List.length_map, wrap64] at hc))
    | (refine callrd (by exact hk_) rfl rfl ⟨(_, _), rfl, (by exact pr_)⟩ v_spec_l6Rd_pick (by omega) (fun r hr => ?_); have hj := K_spec_l6Rd_pick (a := (_, _)) hr; clear hr; obtain ⟨k, rfl, hk0, hk1⟩ := hj; dsimp only at hk1; (try simp (disch := omega) only [List.length_map, ncast, wrap64] at hk1))
    | (refine callrd (by exact hk_) rfl rfl ⟨_, rfl, (by exact pr_)⟩ v_spec_l71Pay (by omega) (fun r hr => ?_); have hj := K_spec_l71Pay (a := _) hr; clear hr; obtain ⟨p, rfl⟩ := hj)
    | (refine calle (b := [I _]) v_spec_l3Leader rfl ⟨_, rfl, (by exact pr_)⟩ (.inl rfl) (by first | assumption | omega) (fun r hr => K_spec_l3Leader (a := _) hr) ?_)
    | fail)
  all_goals first
    | exact finM_R (w := w) (b := b) (az := [.g ((evF (⟨3, _, _, ⟨0, 0, 0⟩, ⟨0, []⟩⟩ : Ev)).map AC.c)]) (by omega) (hW0.keep (Nat.le_refl _) (fun k hk => by (repeat (refine (hupd_ne (by omega)).trans ?_)); rfl)) hk_ ⟨⟨_, rfl, .inr ⟨rfl, rfl⟩⟩, trivial⟩ rfl (fun _ => rfl) ⟨(w, b), rfl, rfl, ⟨_, rfl, Nat.zero_le _⟩, rfl⟩
    | exact finM_R (w := w) (b := b) (az := [.g ((evF (⟨1, 0, 0, ⟨0, 0, 0⟩, ⟨0, []⟩⟩ : Ev)).map AC.c)]) (by omega) (hW0.keep (Nat.le_refl _) (fun k hk => by (repeat (refine (hupd_ne (by omega)).trans ?_)); rfl)) hk_ ⟨⟨_, rfl, .inr ⟨rfl, rfl⟩⟩, trivial⟩ rfl (fun _ => rfl) ⟨(w, b), rfl, rfl, ⟨_, rfl, Nat.zero_le _⟩, rfl⟩
    | exact finM_R (w := w) (b := b) (az := [.g ((evF (⟨2, _, 0, ‹Pa›, ⟨0, []⟩⟩ : Ev)).map AC.c)]) (by omega) (hW0.keep (Nat.le_refl _) (fun k hk => by (repeat (refine (hupd_ne (by omega)).trans ?_)); rfl)) hk_ ⟨⟨_, rfl, .inr ⟨rfl, rfl⟩⟩, trivial⟩ rfl (fun _ => rfl) ⟨(w, b), rfl, rfl, ⟨_, rfl, Nat.zero_le _⟩, rfl⟩
    | exact finM_R (w := w) (b := b) (az := [.g ((evF (⟨4, 0, 0, ⟨0, 0, 0⟩, ‹Vo›⟩ : Ev)).map AC.c)]) (by omega) (hW0.keep (Nat.le_refl _) (fun k hk => by (repeat (refine (hupd_ne (by omega)).trans ?_)); rfl)) hk_ ⟨⟨_, rfl, .inr ⟨rfl, rfl⟩⟩, trivial⟩ rfl (fun _ => rfl) ⟨(w, b), rfl, rfl, ⟨_, rfl, by assumption⟩, rfl⟩
end Av
end Go.Proofs.Ytlbdoamidblkaaa

