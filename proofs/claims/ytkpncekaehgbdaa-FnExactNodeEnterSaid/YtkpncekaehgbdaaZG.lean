/- The walks: the reference's functions on nodes. -/
import Derived.Test.YtkpncekaehgbdaaZF
import Derived.Test.YtkpncekaehgbdaaZI
set_option linter.unusedVariables false
set_option linter.unusedSimpArgs false
namespace Go.Proofs.Ytkpncekaehgbdaa
namespace Av
open Go.RowKit
theorem tkC_snoc {k : Nat} {l : List Vo} {v : Vo} : AC.tk k 2 (l.map voF ++ [voF v]) = tkC k (l ++ [v]) := by simp [tkC]
theorem tokO_snoc {l : List Vo} {v : Vo} : Ob.tok ty_impl_Vote 2 ((l.map voF).length + [voF v].length) = tokO (l ++ [v]) := by simp [tokO]
theorem ap_b {l : List Vo} {f : List FV} (hb : l.length < LIM) : ((l.map voF).length + [f].length) * 32 ≤ 140737488355328 := by
  rw [List.length_map]; simp only [LIM] at hb; simp only [List.length_cons, List.length_nil]; omega
section
variable {P : Program} {g : Nat} {S : MSpec} {fr : Env} {H : Hp} {nm nx rm rm' lim k : Nat} {K : KV} {xs : List (X × List (Option Nat))} {res : List Rs} {post : AV → List (Option Ob) → Prop}
theorem mq_ent {n : Nd} {e : Int} {t : Nat} (hv : ValidM P g S_spec_l12Enter) (hl : rm ≤ LIM) (ht : H t = some (tokO n.seen)) (hep : In n.ep (-100) 100) (ha : nrmArgs fr xs = [.w (.g (ndK n t)), I e]) (hK : K (.w (.g (ndK (entN n e) t))) H rm) : MQ P nm fr H rm K g S_spec_l12Enter xs := by
  have e0 : nmapS 0 [t] nm 0 = t := nmap_lt (s := 0) rfl
  refine ⟨⟨hv, hl, [t], [.w (.g (ndK n 0)), I e], [tokO n.seen], by simp, rfl, fun i k' h => ?_, ?_, ⟨(n, e), rfl, rfl, hep⟩, fun r obs' hp _ _ => ?_⟩⟩
  · match i, h with
    | 0, h => cases h; exact ⟨_, rfl, ht⟩
    | i + 1, h => simp at h
  · rw [ha]
    show [AV.w (.g (ndK n (nmapS 0 [t] nm 0))), I e] = _
    rw [e0]
  · obtain ⟨rfl, rfl⟩ := K_spec_l12Enter hp
    show K (.w (.g (ndK (entN n e) (nmapS 0 [t] nm 0)))) (hupd (nmapS 0 [t] nm 0) (some (tokO n.seen)) H) _
    rw [e0]
    have : hupd t (some (tokO n.seen)) H = H := by funext j; unfold hupd; split <;> simp_all
    rw [this]; exact hK
theorem mq_cpy {n : Nd} (hv : ValidM P g S_spec_l12Copy) (hl : rm ≤ LIM) (hf : FitVs n.seen) (ha : nrmArgs fr xs = [agg (ndF n)]) (hK : K (.w (.g (ndK n nm))) (hupd nm (some (tokO n.seen)) H) rm) : MQ P nm fr H rm K g S_spec_l12Copy xs := by
  refine ⟨⟨hv, hl, [], [agg (ndF n)], [], by simp, rfl, fun i k' h => by simp at h, by rw [ha]; rfl, ⟨n, rfl, rfl, hf⟩, fun r obs' hp _ _ => ?_⟩⟩
  obtain ⟨rfl, rfl⟩ := K_spec_l12Copy hp
  show K (.w (.g (ndK n (nmapS 0 [] nm 0)))) (hupd (nmapS 0 [] nm 0) (some (tokO n.seen)) H) _
  rw [show nmapS 0 [] nm 0 = nm from nmap_next (ks := [])]
  exact hK
theorem mq_l3c {l : List Vo} (hv : ValidM P g SM_spec_l3Copy) (hl : rm ≤ LIM) (hf : FitVs l) (ha : nrmArgs fr xs = [one (vsF l)]) (hK : K (.w (.o (tkC nm l))) (hupd nm (some (tokO l)) H) rm) : MQ P nm fr H rm K g SM_spec_l3Copy xs := by
  refine ⟨⟨hv, hl, [], [one (vsF l)], [], by simp, rfl, fun i k' h => by simp at h, by rw [ha]; rfl, ⟨l, rfl, rfl, hf⟩, fun r obs' hp _ _ => ?_⟩⟩
  obtain ⟨rfl, rfl⟩ := KM_spec_l3Copy hp
  show K (.w (.o (tkC (nmapS 0 [] nm 0) l))) (hupd (nmapS 0 [] nm 0) (some (tokO l)) H) _
  rw [show nmapS 0 [] nm 0 = nm from nmap_next (ks := [])]
  exact hK
/-- What such functions end with. -/
theorem finM_one {M : Nat} {r0 : AV} {az : List AW} {l : List Vo} {k : Nat} (hM : M ≤ 1) (hMk : M = 1 → k = 0) (hrm : rm' ≤ lim) (hk : H k = some (tokO l)) (hres : resM [k] fr H res az) (hr : ∀ nx, resV az = r0.ren (nmap [k] nx)) (hpost : post r0 [some (tokO l)]) :
    rm' ≤ lim ∧ ∃ (ks : List Nat) (aw : List AW) (r : AV) (obs' : List (Option Ob)), resM ks fr H res aw ∧ resV aw = r.ren (nmap ks nx) ∧ post r obs' ∧
      ks.Nodup ∧ (∀ i, i < M → ks[i]? = some i) ∧ obs'.length = ks.length ∧
      ∀ (i k : Nat), ks[i]? = some k → (∃ ob : Ob, obs'[i]? = some (some ob) ∧ H k = some (ob.ren (nmap ks nx))) ∨ (obs'[i]? = some none ∧ H k = none) := by
  refine ⟨hrm, [k], az, r0, _, hres, hr nx, hpost, by simp, fun i hi => ?_, rfl, fun i k' h => ?_⟩
  · have h1 : M = 1 := by omega
    have : i = 0 := by omega
    subst this; rw [hMk h1]; rfl
  · match i, h with
    | 0, h => cases h; exact .inl ⟨_, rfl, hk⟩
    | i + 1, h => simp at h
theorem ren_nd {n : Nd} {k nx : Nat} : AV.w (.g (ndK n k)) = (AV.w (.g (ndK n 0))).ren (nmap [k] nx) := by
  show _ = AV.w (.g (ndK n (nmap [k] nx 0))); rw [show nmap [k] nx 0 = k from nmap_lt (s := 0) rfl]
end
set_option maxHeartbeats 4000000 in
set_option maxRecDepth 100000 in
theorem v_spec_l3Copy_o : ValidM Try.prog n_spec_l3Copy_o SM_spec_l3Copy := by
  refine validM_of_swp mixed is_spec_l3Copy_o (by rintro _ _ ⟨a, rfl, _⟩; exact Nat.le_of_ble_eq_true rfl) ?_
  rintro _ _ rm ⟨l, rfl, rfl, hpre⟩ hl
  change swp _ _ _ _ _ 0 _
  have hlen := hpre.1
  conv => whnf
  refine ⟨fun fr H nx rm' => ∃ (i k : Nat), Has fr [(0, one (vsF l)), (3, .w (.o (tkC k (l.take i)))), (4, I i)] ∧ i ≤ l.length ∧ H k = some (tokO (l.take i)) ∧ k < nx ∧ rm' = rm,
    fun fr _ _ _ => l.length - ix (fr 4), ⟨0, _, ⟨rfl, rfl, rfl, trivial⟩, Nat.zero_le _, hupd_at, ln_, rfl⟩, ?_⟩
  rintro fr H nx rm' ⟨i, k, hfr, hi, hk, hkn, rfl⟩
  rw [hfr.eq]
  rcases Nat.lt_or_ge i l.length with hi' | hi'
  · obtain ⟨x, hx⟩ : ∃ x, l[i]? = some x := ⟨_, List.getElem?_eq_getElem hi'⟩
    have hxv : FitV x := hpre.2 x (List.mem_of_getElem? hx)
    have htl : (l.take i).length < LIM := by rw [List.length_take]; omega
    have hts : l.take (i + 1) = l.take i ++ [x] := by rw [List.take_add_one, hx]; rfl
    repeat' ((conv => whnf); first
      | refine ⟨_, _, rfl, at_map hx, ?_⟩
      | (refine ⟨_, news_ow hupd_at, newsz_ow hupd_at, [voF x], rfl, zk hk (by omega), rfl, ap_b htl, ?_⟩; rw [tkC_snoc, tokO_snoc])
      | refine ⟨_, rfl, ?_⟩
      | refine ⟨rfl, ?_⟩
      | (refine ⟨fun hc => ?_, fun hc => ?_⟩ <;> (try simp (disch := omega) only [List.length_map, wrap64] at hc) <;> (try (exfalso; first | contradiction | omega)))
      | (refine calle (b := [agg (voF ⟨_, _⟩)]) v_spec_l3VoteCopy rfl ⟨⟨_, _⟩, rfl, (by exact pr_)⟩ (.inl rfl) (by first | assumption | omega) (fun r hr => K_spec_l3VoteCopy (a := ⟨_, _⟩) hr) ?_)
      | (refine ⟨⟨i + 1, _, ⟨rfl, congrArg (fun z => AV.w (.o (tkC _ z))) hts.symm, congrArg I (wrap_up hi' hlen), trivial⟩, hi', (by rw [hts]; exact hupd_at), ln_, rfl⟩, ?_⟩; show l.length - ix (I _) < l.length - ix (I _); simp only [wrap_up hi' hlen, ix, Int.toNat_natCast]; omega)
      | fail)
  · have hie : i = l.length := by omega
    subst hie
    rw [List.take_length] at hk ⊢
    conv => whnf
    refine ⟨rfl, ?_⟩
    conv => whnf
    refine ⟨fun hc => absurd hc (by rw [List.length_map]; omega), fun hc => ?_⟩
    conv => whnf
    exact finM_one (az := [.o (tkC k l)]) (by decide) (fun h => by cases h) (Nat.le_refl _) hk ⟨⟨_, rfl, .inl rfl⟩, trivial⟩ (fun nx => by show _ = AV.w (.o (tkC (nmap [k] nx 0) l)); rw [show nmap [k] nx 0 = k from nmap_lt (s := 0) rfl]; rfl) ⟨l, rfl, rfl, rfl, rfl⟩
attribute [local irreducible] Valid ValidM
set_option maxHeartbeats 4000000 in
set_option maxRecDepth 100000 in
theorem v_spec_l12Copy : ValidM Try.prog n_spec_l12Copy S_spec_l12Copy := by
  refine validM_of_swp mixed is_spec_l12Copy (by rintro _ _ ⟨a, rfl, _⟩; exact Nat.le_of_ble_eq_true rfl) ?_
  rintro _ _ rm ⟨n, rfl, rfl, hpre⟩ hl
  try dsimp only at hpre
  repeat' ((conv => whnf); first
    | refine mq_l3c v_spec_l3Copy_o (by first | assumption | omega) hpre rfl ?_
    | refine ⟨_, rfl, ?_⟩
    | refine ⟨_, _, rfl, rfl, rfl, Nat.le_of_ble_eq_true rfl, ?_⟩
    | fail)
  conv => whnf
  exact finM_one (M := 0) (az := [.g (ndK n _)]) (by decide) (fun h => by cases h) (Nat.le_refl _) hk_ ⟨⟨_, rfl, .inl rfl⟩, trivial⟩ (fun nx => ren_nd) ⟨n, rfl, rfl, rfl, rfl⟩
set_option maxHeartbeats 4000000 in
set_option maxRecDepth 100000 in
theorem v_spec_l12Enter : ValidM Try.prog n_spec_l12Enter S_spec_l12Enter := by
  refine validM_of_swp mixed is_spec_l12Enter (by rintro _ _ ⟨a, rfl, _⟩; exact Nat.le_of_ble_eq_true rfl) ?_
  rintro _ _ rm ⟨⟨n, e⟩, rfl, rfl, hpre⟩ hl
  try dsimp only at hpre
  change swp _ _ _ _ _ 1 _
  have hw : IntKind.i64.wrap (n.ep + 1) = n.ep + 1 := by obtain ⟨h1, h2⟩ := hpre; rw [wrap64] <;> omega
  repeat' ((conv => whnf); first
    | refine ⟨_, rfl, ?_⟩
    | refine ⟨rfl, ?_⟩
    | refine ⟨_, _, hupd_at, rfl, rfl, Nat.le_of_ble_eq_true rfl, ?_⟩
    | refine ⟨_, _, rfl, rfl, rfl, Nat.le_of_ble_eq_true rfl, ?_⟩
    | (refine callt (b := [I _, I _, I _]) v_spec_l6In rfl ⟨(_, _, _), rfl, (by exact True.intro)⟩ (.inl rfl) (by first | assumption | omega) (fun r hr => K_spec_l6In (a := (_, _, _)) hr) (fun hj => ?_) (fun hj => ?_) <;> (try simp only [etaPa, etaIt, etaVo] at hj))
    | fail)
  · have hj2 : In e (IntKind.i64.wrap (n.ep + 1)) 30 := hj
    rw [hw] at hj2
    have e2 : entN n e = ⟨n.id, e, n.vt, n.seen⟩ := if_pos hj2
    skip
    exact finM_one (l := n.seen) (az := [.g (ndK (entN n e) 0)]) (Nat.le_refl _) (fun _ => rfl) (Nat.le_refl _) hk_ ⟨⟨_, rfl, .inl (by rw [e2]; rfl)⟩, trivial⟩ (fun nx => ren_nd) ⟨(n, e), rfl, rfl, rfl, rfl⟩
  · have hj2 : ¬ In e (IntKind.i64.wrap (n.ep + 1)) 30 := hj
    rw [hw] at hj2
    have e2 : entN n e = n := if_neg hj2
    skip
    exact finM_one (l := n.seen) (az := [.g (ndK (entN n e) 0)]) (Nat.le_refl _) (fun _ => rfl) (Nat.le_refl _) hk_ ⟨⟨_, rfl, .inl (by rw [e2]; rfl)⟩, trivial⟩ (fun nx => ren_nd) ⟨(n, e), rfl, rfl, rfl, rfl⟩
set_option maxHeartbeats 4000000 in
set_option maxRecDepth 100000 in
theorem v_spec_NodeEnter : Valid Try.prog n_spec_NodeEnter S_spec_NodeEnter := by
  refine valid_of_swp mixed is_spec_NodeEnter (by rintro _ ⟨a, rfl, _⟩; exact Nat.le_of_ble_eq_true rfl) ?_
  rintro _ rm ⟨⟨n, e⟩, rfl, hpre⟩ hl
  try dsimp only at hpre
  have hpre0 := hpre
  have hp1 := hpre
  by_cases hok : NodeOk n
  · have hep : In n.ep (-100) 100 := ⟨Int.le_trans (by decide) hok.2.1.1, Int.le_trans hok.2.1.2 (by decide)⟩
    have e2 : entT n e = entN n e := by unfold entT; rw [tb_pos hok]; rfl
    repeat' ((conv => whnf); first
      | refine mq_cpy (n := n) v_spec_l12Copy (by first | assumption | omega) hp1 rfl ?_
      | refine mq_ent (n := n) (e := e) v_spec_l12Enter (by first | assumption | omega) hk_ hep rfl ?_
      | refine ⟨_, rfl, ?_⟩
      | refine ⟨_, _, rfl, rfl, rfl, Nat.le_of_ble_eq_true rfl, ?_⟩
      | (refine callt (b := [agg (ndF ⟨_, _, _, _⟩)]) v_spec_NodeOk rfl ⟨⟨_, _, _, _⟩, rfl, (by exact pr_)⟩ (.inl rfl) (by first | assumption | omega) (fun r hr => K_spec_NodeOk (a := ⟨_, _, _, _⟩) hr) (fun hj => ?_) (fun hj => ?_) <;> (try simp only [etaPa, etaIt, etaVo] at hj) <;> (try simp only [etaNd, etaWo] at hj) <;> (try contradiction))
      | exact ⟨⟨_, rfl, rfl, (n, e), rfl, (by show _ = agg (ndF (entT n e)); rw [e2]; rfl)⟩, Nat.le_refl _, h0_⟩
      | fail)
  · have e2 : entT n e = zNd := by unfold entT; rw [tb_neg hok]; rfl
    repeat' ((conv => whnf); first
      | refine ⟨_, rfl, ?_⟩
      | refine ⟨_, _, hupd_at, rfl, rfl, Nat.le_of_ble_eq_true rfl, ?_⟩
      | (refine callt (b := [agg (ndF ⟨_, _, _, _⟩)]) v_spec_NodeOk rfl ⟨⟨_, _, _, _⟩, rfl, (by exact pr_)⟩ (.inl rfl) (by first | assumption | omega) (fun r hr => K_spec_NodeOk (a := ⟨_, _, _, _⟩) hr) (fun hj => ?_) (fun hj => ?_) <;> (try simp only [etaPa, etaIt, etaVo] at hj) <;> (try simp only [etaNd, etaWo] at hj) <;> (try contradiction))
      | exact ⟨⟨_, rfl, rfl, (n, e), rfl, (by show _ = agg (ndF (entT n e)); rw [e2]; rfl)⟩, Nat.le_refl _, h0_⟩
      | fail)
end Av
end Go.Proofs.Ytkpncekaehgbdaa
