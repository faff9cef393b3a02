/- The walks: the reference's functions on nodes. -/
import Derived.Test.YtdboofnogabefaaZF
import Derived.Test.YtdboofnogabefaaZI
set_option linter.unusedVariables false
set_option linter.unusedSimpArgs false
namespace Go.Proofs.Ytdboofnogabefaa
namespace Av
open Go.RowKit
theorem tkC_snoc {k : Nat} {l : List Vo} {v : Vo} : AC.tk k 2 (l.map voF ++ [voF v]) = tkC k (l ++ [v]) := by simp [tkC]
theorem tokO_snoc {l : List Vo} {v : Vo} : Ob.tok ty_impl_Vote 2 ((l.map voF).length + [voF v].length) = tokO (l ++ [v]) := by simp [tokO]
theorem ap_b {l : List Vo} {f : List FV} (hb : l.length < LIM) : ((l.map voF).length + [f].length) * 32 ≤ 140737488355328 := by
  rw [List.length_map]; simp only [LIM] at hb; simp only [List.length_cons, List.length_nil]; omega
section
variable {P : Program} {g : Nat} {S : MSpec} {fr : Env} {H : Hp} {nm nx rm rm' lim k : Nat} {K : KV} {xs : List (X × List (Option Nat))} {res : List Rs} {post : AV → List (Option Ob) → Prop}
/-- A node in, a node and more out. -/
theorem mq_tri {n : Nd} {o : Tri} {t : Nat} {ar : List AV} (hv : ValidM P g S) (hne : nm ≠ t) (hl : rm + S.cost ≤ LIM) (ht : H t = some (tokO n.seen)) (ha : nrmArgs fr xs = .w (.g (ndK n t)) :: ar) (har : ∀ ρ, ar.map (AV.ren ρ) = ar) (hpre : S.pre (.w (.g (ndK n 0)) :: ar) [tokO n.seen])
    (hpost : ∀ r obs', S.post (.w (.g (ndK n 0)) :: ar) [tokO n.seen] r obs' → RT n o r obs')
    (hK : ∀ (t' : Nat) (H' : Hp), ((t' = t ∧ o.1.seen = n.seen) ∨ (t' = nm ∧ H' t = none)) → H' t' = some (tokO o.1.seen) → (∀ k, k ≠ t → k ≠ nm → H' k = H k) → K (tripK o t') H' (rm + S.cost)) : MQ P nm fr H rm K g S xs := by
  have e0 : nmapS S.st [t] nm 0 = t := nmap_lt (s := S.st) rfl
  have e1 : nmapS S.st [t] nm 1 = nm := nmap_next (ks := [t])
  refine ⟨⟨hv, hl, [t], .w (.g (ndK n 0)) :: ar, [tokO n.seen], by simp, rfl, fun i k' h => ?_, ?_, hpre, fun r obs' hp _ _ => ?_⟩⟩
  · match i, h with
    | 0, h => cases h; exact ⟨_, rfl, ht⟩
    | i + 1, h => simp at h
  · rw [ha]
    show AV.w (.g (ndK n (nmapS S.st [t] nm 0))) :: ar.map (AV.ren _) = _
    rw [e0, har]
  · rcases hpost r obs' hp with ⟨hs, rfl, rfl⟩ | ⟨rfl, rfl⟩
    · show K (tripK o (nmapS S.st [t] nm 0)) (hupd (nmapS S.st [t] nm 0) (some (tokO n.seen)) H) _
      rw [e0]
      exact hK t _ (.inl ⟨rfl, hs⟩) (by rw [hs]; exact hupd_at) fun k hk _ => hupd_ne hk
    · show K (tripK o (nmapS S.st [t] nm 1)) (hupd (nmapS S.st [t] nm 1) (some (tokO o.1.seen)) (hupd (nmapS S.st [t] nm 0) none H)) _
      rw [e0, e1]
      exact hK nm _ (.inr ⟨rfl, by rw [hupd_ne hne.symm]; exact hupd_at⟩) hupd_at fun k hk hk' => by rw [hupd_ne hk', hupd_ne hk]
theorem mq_cpy {n : Nd} (hv : ValidM P g S_spec_l12Copy) (hl : rm ≤ LIM) (hf : FitVs n.seen) (ha : nrmArgs fr xs = [agg (ndF n)]) (hK : K (.w (.g (ndK n nm))) (hupd nm (some (tokO n.seen)) H) rm) : MQ P nm fr H rm K g S_spec_l12Copy xs := by
  refine ⟨⟨hv, hl, [], [agg (ndF n)], [], by simp, rfl, fun i k' h => by simp at h, by rw [ha]; rfl, ⟨n, rfl, rfl, hf⟩, fun r obs' hp _ _ => ?_⟩⟩
  obtain ⟨rfl, rfl⟩ := K_spec_l12Copy hp
  show K (.w (.g (ndK n (nmapS 0 [] nm 0)))) (hupd (nmapS 0 [] nm 0) (some (tokO n.seen)) H) _
  rw [show nmapS 0 [] nm 0 = nm from nmap_next (ks := [])]
  exact hK
theorem mq_l3c {l : List Vo} (hv : ValidM P g SM_spec_l3Copy) (hl : rm ≤ LIM) (hf : FitVs l) (ha : nrmArgs fr xs = [one (vsF l)]) (hK : K (.w (.o (tkC nm l))) (hupd nm (some (tokO l)) H) rm) : MQ P nm fr H rm K g SM_spec_l3Copy xs := by
  refine ⟨⟨hv, hl, [], [one (vsF l)], [], by simp, rfl, fun i k' h => by simp at h, by rw [ha]; rfl, ⟨l, rfl, rfl, hf⟩, fun r obs' hp _ _ => ?_⟩⟩
  obtain ⟨rfl, rfl⟩ := KM_spec_l3Copy hp
  show K (.w (.o (tkC (nmapS 0 [] nm 0) l))) (hupd (nmapS 0 [] nm 0) (some (tokO l)) H) _
  rw [show nmapS 0 [] nm 0 = nm from nmap_next (ks := [])]
  exact hK
theorem mq_l3a {l : List Vo} {v : Vo} {t : Nat} (hv : ValidM P g SM_spec_l3Add) (hl : rm ≤ LIM) (ht : H t = some (tokO l)) (hf : FitVs l) (hfv : FitV v) (hlen : l.length < LIM) (ha : nrmArgs fr xs = [.w (.o (tkC t l)), agg (voF v)])
    (hK0 : v ∈ l → K (.tup [.o (tkC t l), .o (cB false)]) H rm) (hK1 : v ∉ l → K (.tup [.o (tkC nm (l ++ [v])), .o (cB true)]) (hupd nm (some (tokO (l ++ [v]))) (hupd t none H)) rm) : MQ P nm fr H rm K g SM_spec_l3Add xs := by
  have e0 : nmapS 0 [t] nm 0 = t := nmap_lt (s := 0) rfl
  have e1 : nmapS 0 [t] nm 1 = nm := nmap_next (ks := [t])
  refine ⟨⟨hv, hl, [t], [.w (.o (tkC 0 l)), agg (voF v)], [tokO l], by simp, rfl, fun i k' h => ?_, ?_, ⟨(l, v), rfl, rfl, hf, hfv, hlen⟩, fun r obs' hp _ _ => ?_⟩⟩
  · match i, h with
    | 0, h => cases h; exact ⟨_, rfl, ht⟩
    | i + 1, h => simp at h
  · rw [ha]
    show [AV.w (.o (tkC (nmapS 0 [t] nm 0) l)), agg (voF v)] = _
    rw [e0]
  · rcases KM_spec_l3Add hp with ⟨h, rfl, rfl⟩ | ⟨h, rfl, rfl⟩
    · show K (.tup [.o (tkC (nmapS 0 [t] nm 0) l), .o (cB false)]) (hupd (nmapS 0 [t] nm 0) (some (tokO l)) H) _
      rw [e0]
      have : hupd t (some (tokO l)) H = H := by funext j; unfold hupd; split <;> simp_all
      rw [this]; exact hK0 h
    · show K (.tup [.o (tkC (nmapS 0 [t] nm 1) (l ++ [v])), .o (cB true)]) (hupd (nmapS 0 [t] nm 1) (some (tokO (l ++ [v]))) (hupd (nmapS 0 [t] nm 0) none H)) _
      rw [e0, e1]; exact hK1 h
/-- What such functions end with. -/
theorem finM_one {M : Nat} {r0 : AV} {az : List AW} {l : List Vo} {k : Nat} (hM : M ≤ 1) (hMk : M = 1 → k = 0) (hrm : rm' ≤ lim) (hk : H k = some (tokO l)) (hres : resM [k] fr H res az) (hr : ∀ nx, resV az = r0.ren (nmap [k] nx)) (hpost : post r0 [some (tokO l)]) :
    rm' ≤ lim ∧ ∃ (ks : List Nat) (aw : List AW) (r : AV) (obs' : List (Option Ob)), resM ks fr H res aw ∧ resV aw = r.ren (nmap ks nx) ∧ post r obs' ∧
      ks.Nodup ∧ (∀ i, i < M → ks[i]? = some i) ∧ obs'.length = ks.length ∧
      ∀ (i k : Nat), ks[i]? = some k → (∃ ob : Ob, obs'[i]? = some (some ob) ∧ H k = some (ob.ren (nmap ks nx))) ∨ (obs'[i]? = some none ∧ H k = none) := by
  refine ⟨hrm, [k], az, r0, _, hres, hr nx, hpost, by simp, fun i hi => ?_, rfl, fun i k' h => ?_⟩
  · have h1 : M = 1 := by omega
    have : i = 0 := by omega
    subst this; rw [hMk h1]; rfl
  · match i, h with
    | 0, h => cases h; exact .inl ⟨_, rfl, hk⟩
    | i + 1, h => simp at h
theorem finM_snd {r0 : AV} {az : List AW} {l : List Vo} {k : Nat} (hrm : rm' ≤ lim) (hk0 : 1 ≤ k) (h0 : H 0 = none) (hk : H k = some (tokO l)) (hres : resM [0, k] fr H res az) (hr : ∀ nx, resV az = r0.ren (nmap [0, k] nx)) (hpost : post r0 [none, some (tokO l)]) :
    rm' ≤ lim ∧ ∃ (ks : List Nat) (aw : List AW) (r : AV) (obs' : List (Option Ob)), resM ks fr H res aw ∧ resV aw = r.ren (nmap ks nx) ∧ post r obs' ∧
      ks.Nodup ∧ (∀ i, i < 1 → ks[i]? = some i) ∧ obs'.length = ks.length ∧
      ∀ (i k : Nat), ks[i]? = some k → (∃ ob : Ob, obs'[i]? = some (some ob) ∧ H k = some (ob.ren (nmap ks nx))) ∨ (obs'[i]? = some none ∧ H k = none) := by
  refine ⟨hrm, [0, k], az, r0, _, hres, hr nx, hpost, by simp; omega, fun i hi => ?_, rfl, fun i k' h => ?_⟩
  · have : i = 0 := by omega
    subst this; rfl
  · match i, h with
    | 0, h => cases h; exact .inr ⟨rfl, h0⟩
    | 1, h => cases h; exact .inl ⟨_, rfl, hk⟩
    | i + 2, h => simp at h
theorem ren0 {o : Tri} {nx : Nat} : tripK o 0 = (tripK o 0).ren (nmap [0] nx) := by rw [tripK_ren, show nmap [0] nx 0 = 0 from nmap_lt (s := 0) rfl]
theorem ren1 {o : Tri} {k nx : Nat} : tripK o k = (tripK o 1).ren (nmap [0, k] nx) := by rw [tripK_ren, show nmap [0, k] nx 1 = k from nmap_lt (s := 0) rfl]
theorem finM_tri {n : Nd} {o : Tri} {t : Nat} (hrm : rm' ≤ lim) (ht : (t = 0 ∧ o.1.seen = n.seen) ∨ (1 ≤ t ∧ H 0 = none)) (hH : H t = some (tokO o.1.seen)) (hres : ∀ ks, resM ks fr H res [.g (ndK o.1 t), .g ((voF o.2.1).map AC.c), .o (cB o.2.2)])
    (hpost : ∀ r obs', RT n o r obs' → post r obs') :
    rm' ≤ lim ∧ ∃ (ks : List Nat) (aw : List AW) (r : AV) (obs' : List (Option Ob)), resM ks fr H res aw ∧ resV aw = r.ren (nmap ks nx) ∧ post r obs' ∧
      ks.Nodup ∧ (∀ i, i < 1 → ks[i]? = some i) ∧ obs'.length = ks.length ∧
      ∀ (i k : Nat), ks[i]? = some k → (∃ ob : Ob, obs'[i]? = some (some ob) ∧ H k = some (ob.ren (nmap ks nx))) ∨ (obs'[i]? = some none ∧ H k = none) := by
  rcases ht with ⟨rfl, hs⟩ | ⟨h1, h0⟩
  · exact finM_one (l := n.seen) (Nat.le_refl _) (fun _ => rfl) hrm (by rw [← hs]; exact hH) (hres _) (fun nx => ren0) (hpost _ _ (.inl ⟨hs, rfl, rfl⟩))
  · exact finM_snd hrm h1 h0 hH (hres _) (fun nx => ren1) (hpost _ _ (.inr ⟨rfl, rfl⟩))
theorem ren_nd {n : Nd} {k nx : Nat} : AV.w (.g (ndK n k)) = (AV.w (.g (ndK n 0))).ren (nmap [k] nx) := by
  show _ = AV.w (.g (ndK n (nmap [k] nx 0))); rw [show nmap [k] nx 0 = k from nmap_lt (s := 0) rfl]
end
set_option maxHeartbeats 4000000 in
set_option maxRecDepth 100000 in
theorem v_spec_l3Copy_o : ValidM Try.prog n_spec_l3Copy_o SM_spec_l3Copy := by
  refine validM_of_swp mixed is_spec_l3Copy_o (by rintro _ _ ⟨a, rfl, _⟩; exact Nat.le_of_ble_eq_true rfl) ?_
  rintro _ _ rm ⟨l, rfl, rfl, hpre⟩ hl
  change swp _ _ _ _ _ 0 _
  have hlen := hpre.1
  conv => whnf
  refine ⟨fun fr H nx rm' => ∃ (i k : Nat), Has fr [(0, one (vsF l)), (3, .w (.o (tkC k (l.take i)))), (4, I i)] ∧ i ≤ l.length ∧ H k = some (tokO (l.take i)) ∧ k < nx ∧ rm' = rm,
    fun fr _ _ _ => l.length - ix (fr 4), ⟨0, _, ⟨rfl, rfl, rfl, trivial⟩, Nat.zero_le _, hupd_at, ln_, rfl⟩, ?_⟩
  rintro fr H nx rm' ⟨i, k, hfr, hi, hk, hkn, rfl⟩
  rw [hfr.eq]
  rcases Nat.lt_or_ge i l.length with hi' | hi'
  · obtain ⟨x, hx⟩ : ∃ x, l[i]? = some x := ⟨_, List.getElem?_eq_getElem hi'⟩
    have hxv : FitV x := hpre.2 x (List.mem_of_getElem? hx)
    have htl : (l.take i).length < LIM := by rw [List.length_take]; omega
    have hts : l.take (i + 1) = l.take i ++ [x] := by rw [List.take_add_one, hx]; rfl
    repeat' ((conv => whnf); first
      | refine ⟨_, _, rfl, at_map hx, ?_⟩
      | (refine ⟨_, news_ow hupd_at, newsz_ow hupd_at, [voF x], rfl, zk hk (by omega), rfl, ap_b htl, ?_⟩; rw [tkC_snoc, tokO_snoc])
      | refine ⟨_, rfl, ?_⟩
      | refine ⟨rfl, ?_⟩
      | refine ⟨_, _, rfl, at_map (by assumption), ?_⟩
      | refine idx_mapX (i := 0) rfl (by assumption) ?_
      | refine idx_map (by omega) (fun x hx => ?_)
      | refine idx_mapX (wrap_dn (by omega) (by omega)) (by assumption) ?_
      | refine idx_mapE (wrap_dn (by omega) (by omega)) (by omega) (fun x hx => ?_)
      | refine idx_mapL (by omega) (by first | assumption | (simp only [LIM]; omega)) (fun x hx => ?_)
      | refine idx_mapI (by omega) (by first | omega | (simp only [List.length_map] at *; omega)) (fun x hx => ?_)
      | refine ⟨_, ldc_cells hupd_at (Nat.le_of_ble_eq_true rfl), ?_⟩
      | refine ⟨_, ldc_cells (by first | assumption | exact zk ‹_› (by omega) | exact zk (zk ‹_› (by omega)) (by omega)) (Nat.le_of_ble_eq_true rfl), ?_⟩
      | refine ⟨_, _, hupd_at, rfl, rfl, Nat.le_of_ble_eq_true rfl, ?_⟩
      | refine ⟨_, _, rfl, rfl, rfl, Nat.le_of_ble_eq_true rfl, ?_⟩
      | (refine ⟨?_, _, (?_ : (_ : Option Ob) = _), rfl, rfl, ?_, ?_⟩; rotate_left; (exact hk_); exact Nat.le_of_ble_eq_true rfl)
      | refine ⟨_, _, _, _, ((by exact hk_) : (_ : Option Ob) = _), rfl, at_mapA (by assumption), ?_⟩
      | refine idx_ow (by exact hk_) (by omega) (fun x hx => ?_)
      | refine ⟨_, _, _, _, ((by exact hk_) : (_ : Option Ob) = _), rfl, fill_at (by omega), ?_⟩
      | refine ⟨_, _, _, _, ((by exact hk_) : (_ : Option Ob) = _), fill_at (by omega), rfl, rfl, Nat.le_of_ble_eq_true rfl, ?_⟩
      | refine idx_owL (by exact hk_) (by omega) (by simp only [LIM]; omega) (fun x hx => ?_)
      | refine idx_owI (by exact hk_) (by omega) (by first | omega | (simp only [List.length_map] at *; omega)) (fun x hx => ?_)
      | refine ⟨_, _, _, _, ((by exact hk_) : (_ : Option Ob) = _), at_mapA (by assumption), rfl, rfl, Nat.le_of_ble_eq_true rfl, ?_⟩
      | refine ⟨_, ldc_pa (by exact hk_) (at_mapA (by assumption)) (Nat.le_of_ble_eq_true rfl), ?_⟩
      | refine ⟨_, rfl, rfl, _, ((by exact hk_) : (_ : Option Ob) = _), (by exact ap_), ?_⟩
      | refine ⟨_, news_ow hupd_at, newsz_ow hupd_at, _, ((by exact hk_) : (_ : Option Ob) = _), (by exact ap_), ?_⟩
      | refine ⟨_, _, _, ((by exact hk_) : (_ : Option Ob) = _), ?_⟩
      | refine ⟨_, ((by exact hk_) : (_ : Option Ob) = _), ?_⟩
      | refine ⟨(show _ ≠ _ from (by first | decide | omega)), ?_⟩
      | refine ⟨(show _ ≤ _ from (by exact ap_)), ?_⟩
      | (refine ⟨fun hc => ?_, fun hc => ?_⟩ <;> (try simp (disch := omega) only [List.length_map, wrap64] at hc) <;> (try (exfalso; first | contradiction | omega)))
      | (refine ⟨⟨(by omega), (by omega), (by simp only [List.length_map] at *; simp only [LIM] at *; omega), (by simp only [List.length_map] at *; simp only [LIM] at *; omega)⟩, ?_⟩; (try simp only [List.length_map, Int.toNat_natCast]))
      | (refine ⟨_, slc_to rfl (by first | omega | (simp only [List.length_map] at *; omega)), ?_⟩; rw [map_take'])
      | (refine ⟨_, slc_toI rfl (by omega) (by first | omega | (simp only [List.length_map] at *; omega)), ?_⟩; rw [map_take'])
      | (refine calle (b := [agg (voF ⟨_, _⟩)]) v_spec_l3VoteCopy rfl ⟨⟨_, _⟩, rfl, (by exact pr_)⟩ (.inl rfl) (by first | assumption | omega) (fun r hr => K_spec_l3VoteCopy (a := ⟨_, _⟩) hr) ?_)
      | (refine ⟨⟨i + 1, _, ⟨rfl, congrArg (fun z => AV.w (.o (tkC _ z))) hts.symm, congrArg I (wrap_up hi' hlen), trivial⟩, hi', (by rw [hts]; exact hupd_at), ln_, rfl⟩, ?_⟩; show l.length - ix (I _) < l.length - ix (I _); simp only [wrap_up hi' hlen, ix, Int.toNat_natCast]; omega)
      | fail)
  · have hie : i = l.length := by omega
    subst hie
    rw [List.take_length] at hk ⊢
    conv => whnf
    refine ⟨rfl, ?_⟩
    conv => whnf
    refine ⟨fun hc => absurd hc (by rw [List.length_map]; omega), fun hc => ?_⟩
    conv => whnf
    exact finM_one (az := [.o (tkC k l)]) (by decide) (fun h => by cases h) (Nat.le_refl _) hk ⟨⟨_, rfl, .inl rfl⟩, trivial⟩ (fun nx => by show _ = AV.w (.o (tkC (nmap [k] nx 0) l)); rw [show nmap [k] nx 0 = k from nmap_lt (s := 0) rfl]; rfl) ⟨l, rfl, rfl, rfl, rfl⟩
attribute [local irreducible] Valid ValidM
set_option maxHeartbeats 4000000 in
set_option maxRecDepth 100000 in
theorem v_spec_l12Copy : ValidM Try.prog n_spec_l12Copy S_spec_l12Copy := by
  refine validM_of_swp mixed is_spec_l12Copy (by rintro _ _ ⟨a, rfl, _⟩; exact Nat.le_of_ble_eq_true rfl) ?_
  rintro _ _ rm ⟨n, rfl, rfl, hpre⟩ hl
  try dsimp only at hpre
  repeat' ((conv => whnf); first
    | refine mq_l3c v_spec_l3Copy_o (by first | assumption | omega) hpre rfl ?_
    | refine ⟨_, rfl, ?_⟩
    | refine ⟨rfl, ?_⟩
    | refine ⟨_, ldc_cells hupd_at (Nat.le_of_ble_eq_true rfl), ?_⟩
    | refine ⟨_, ldc_cells (by first | assumption | exact zk ‹_› (by omega) | exact zk (zk ‹_› (by omega)) (by omega)) (Nat.le_of_ble_eq_true rfl), ?_⟩
    | refine ⟨_, _, hupd_at, rfl, rfl, Nat.le_of_ble_eq_true rfl, ?_⟩
    | refine ⟨_, _, rfl, rfl, rfl, Nat.le_of_ble_eq_true rfl, ?_⟩
    | (refine ⟨?_, _, (?_ : (_ : Option Ob) = _), rfl, rfl, ?_, ?_⟩; rotate_left; (exact hk_); exact Nat.le_of_ble_eq_true rfl)
    | refine ⟨_, _, _, _, ((by exact hk_) : (_ : Option Ob) = _), fill_at (by omega), rfl, rfl, Nat.le_of_ble_eq_true rfl, ?_⟩
    | refine ⟨_, _, _, _, ((by exact hk_) : (_ : Option Ob) = _), at_mapA (by assumption), rfl, rfl, Nat.le_of_ble_eq_true rfl, ?_⟩
    | refine ⟨_, ldc_pa (by exact hk_) (at_mapA (by assumption)) (Nat.le_of_ble_eq_true rfl), ?_⟩
    | refine ⟨_, ((by exact hk_) : (_ : Option Ob) = _), ?_⟩
    | (refine ⟨fun hc => ?_, fun hc => ?_⟩ <;> (try simp (disch := omega) only [List.length_map, wrap64] at hc))
    | fail)
  conv => whnf
  exact finM_one (M := 0) (az := [.g (ndK n _)]) (by decide) (fun h => by cases h) (Nat.le_refl _) hk_ ⟨⟨_, rfl, .inl rfl⟩, trivial⟩ (fun nx => ren_nd) ⟨n, rfl, rfl, rfl, rfl⟩
set_option maxHeartbeats 4000000 in
set_option maxRecDepth 100000 in
theorem v_spec_l12Vote : ValidM Try.prog n_spec_l12Vote S_spec_l12Vote := by
  refine validM_of_swp mixed is_spec_l12Vote (by rintro _ _ ⟨a, rfl, _⟩; exact Nat.le_of_ble_eq_true rfl) ?_
  rintro _ _ rm ⟨⟨n, c⟩, rfl, rfl, hpre⟩ hl
  try dsimp only at hpre
  change swp _ _ _ _ _ 1 _
  dsimp only
  by_cases h8 : 80 ≤ n.seen.length
  · have e2 : voteN n c = (n, zVo, false) := if_pos h8
    repeat' ((conv => whnf); first
      | refine ⟨_, rfl, ?_⟩
      | refine ⟨rfl, ?_⟩
      | refine ⟨_, ldc_cells hupd_at (Nat.le_of_ble_eq_true rfl), ?_⟩
      | refine ⟨_, ldc_cells (by first | assumption | exact zk ‹_› (by omega) | exact zk (zk ‹_› (by omega)) (by omega)) (Nat.le_of_ble_eq_true rfl), ?_⟩
      | refine ⟨_, _, hupd_at, rfl, rfl, Nat.le_of_ble_eq_true rfl, ?_⟩
      | refine ⟨_, _, rfl, rfl, rfl, Nat.le_of_ble_eq_true rfl, ?_⟩
      | (refine ⟨?_, _, (?_ : (_ : Option Ob) = _), rfl, rfl, ?_, ?_⟩; rotate_left; (exact hk_); exact Nat.le_of_ble_eq_true rfl)
      | refine ⟨_, _, _, _, ((by exact hk_) : (_ : Option Ob) = _), fill_at (by omega), rfl, rfl, Nat.le_of_ble_eq_true rfl, ?_⟩
      | refine ⟨_, _, _, _, ((by exact hk_) : (_ : Option Ob) = _), at_mapA (by assumption), rfl, rfl, Nat.le_of_ble_eq_true rfl, ?_⟩
      | refine ⟨_, ldc_pa (by exact hk_) (at_mapA (by assumption)) (Nat.le_of_ble_eq_true rfl), ?_⟩
      | refine ⟨_, rfl, rfl, _, ((by exact hk_) : (_ : Option Ob) = _), (by exact ap_), ?_⟩
      | refine ⟨_, news_ow hupd_at, newsz_ow hupd_at, _, ((by exact hk_) : (_ : Option Ob) = _), (by exact ap_), ?_⟩
      | refine ⟨_, _, _, ((by exact hk_) : (_ : Option Ob) = _), ?_⟩
      | refine ⟨_, ((by exact hk_) : (_ : Option Ob) = _), ?_⟩
      | refine ⟨(show _ ≤ _ from (by exact ap_)), ?_⟩
      | (refine ⟨fun hc => ?_, fun hc => ?_⟩ <;> (try simp (disch := omega) only [List.length_map, wrap64] at hc) <;> (try (exfalso; first | contradiction | omega)))
      | (refine calle (b := [one (chF _)]) v_spec_l1Copy rfl ⟨_, rfl, (by exact pr_)⟩ (.inl rfl) (by first | assumption | omega) (fun r hr => K_spec_l1Copy (a := _) hr) ?_)
      | (refine calle (b := [agg (voF ⟨_, _⟩)]) v_spec_l3VoteCopy rfl ⟨⟨_, _⟩, rfl, (by exact pr_)⟩ (.inl rfl) (by first | assumption | omega) (fun r hr => K_spec_l3VoteCopy (a := ⟨_, _⟩) hr) ?_)
      | fail)
    exact finM_tri (n := n) (o := (n, zVo, false)) (t := 0) (Nat.le_refl _) (.inl ⟨rfl, rfl⟩) hk_ (fun ks => ⟨⟨_, rfl, (by first | exact .inl rfl | exact .inr ⟨rfl, rfl⟩)⟩, ⟨_, rfl, (by first | exact .inl rfl | exact .inr ⟨rfl, rfl⟩)⟩, ⟨_, rfl, (by first | exact .inl rfl | exact .inr ⟨rfl, rfl⟩)⟩, trivial⟩) (fun r obs' h => ⟨(n, c), rfl, rfl, by show RT n (voteN n c) r obs'; rw [e2]; exact h⟩)
  · have e2 : voteN n c = (⟨n.id, n.ep, n.ep, n.seen ++ [⟨n.id, c⟩]⟩, ⟨n.id, c⟩, true) := if_neg h8
    have hlt : n.seen.length < LIM := by simp only [LIM]; omega
    repeat' ((conv => whnf); first
      | (refine ⟨_, news_ow hupd_at, newsz_ow hupd_at, [voF ⟨n.id, c⟩], rfl, hk_, rfl, ap_b hlt, ?_⟩; rw [tkC_snoc, tokO_snoc])
      | refine ⟨⟨.inl (by decide), trivial⟩, ?_⟩
      | refine ⟨_, rfl, ?_⟩
      | refine ⟨rfl, ?_⟩
      | refine ⟨_, ldc_cells hupd_at (Nat.le_of_ble_eq_true rfl), ?_⟩
      | refine ⟨_, ldc_cells (by first | assumption | exact zk ‹_› (by omega) | exact zk (zk ‹_› (by omega)) (by omega)) (Nat.le_of_ble_eq_true rfl), ?_⟩
      | refine ⟨_, _, hupd_at, rfl, rfl, Nat.le_of_ble_eq_true rfl, ?_⟩
      | refine ⟨_, _, rfl, rfl, rfl, Nat.le_of_ble_eq_true rfl, ?_⟩
      | (refine ⟨?_, _, (?_ : (_ : Option Ob) = _), rfl, rfl, ?_, ?_⟩; rotate_left; (exact hk_); exact Nat.le_of_ble_eq_true rfl)
      | refine ⟨_, _, _, _, ((by exact hk_) : (_ : Option Ob) = _), fill_at (by omega), rfl, rfl, Nat.le_of_ble_eq_true rfl, ?_⟩
      | refine ⟨_, _, _, _, ((by exact hk_) : (_ : Option Ob) = _), at_mapA (by assumption), rfl, rfl, Nat.le_of_ble_eq_true rfl, ?_⟩
      | refine ⟨_, ldc_pa (by exact hk_) (at_mapA (by assumption)) (Nat.le_of_ble_eq_true rfl), ?_⟩
      | refine ⟨_, rfl, rfl, _, ((by exact hk_) : (_ : Option Ob) = _), (by exact ap_), ?_⟩
      | refine ⟨_, news_ow hupd_at, newsz_ow hupd_at, _, ((by exact hk_) : (_ : Option Ob) = _), (by exact ap_), ?_⟩
      | refine ⟨_, _, _, ((by exact hk_) : (_ : Option Ob) = _), ?_⟩
      | refine ⟨_, ((by exact hk_) : (_ : Option Ob) = _), ?_⟩
      | refine ⟨(show _ ≤ _ from (by exact ap_)), ?_⟩
      | (refine ⟨fun hc => ?_, fun hc => ?_⟩ <;> (try simp (disch := omega) only [List.length_map, wrap64] at hc) <;> (try (exfalso; first | contradiction | omega)))
      | (refine calle (b := [one (chF _)]) v_spec_l1Copy rfl ⟨_, rfl, (by exact pr_)⟩ (.inl rfl) (by first | assumption | omega) (fun r hr => K_spec_l1Copy (a := _) hr) ?_)
      | (refine calle (b := [agg (voF ⟨_, _⟩)]) v_spec_l3VoteCopy rfl ⟨⟨_, _⟩, rfl, (by exact pr_)⟩ (.inl rfl) (by first | assumption | omega) (fun r hr => K_spec_l3VoteCopy (a := ⟨_, _⟩) hr) ?_)
      | fail)
    refine finM_tri (n := n) (o := (⟨n.id, n.ep, n.ep, n.seen ++ [⟨n.id, c⟩]⟩, ⟨n.id, c⟩, true)) (Nat.le_refl _) ?_ ?_ (fun ks => ⟨⟨_, rfl, (by first | exact .inl rfl | exact .inr ⟨rfl, rfl⟩)⟩, ⟨_, rfl, (by first | exact .inl rfl | exact .inr ⟨rfl, rfl⟩)⟩, ⟨_, rfl, (by first | exact .inl rfl | exact .inr ⟨rfl, rfl⟩)⟩, trivial⟩) (fun r obs' h => ⟨(n, c), rfl, rfl, by show RT n (voteN n c) r obs'; rw [e2]; exact h⟩)
    · exact .inr ⟨by omega, hk_⟩
    · exact hk_
set_option maxHeartbeats 4000000 in
set_option maxRecDepth 100000 in
theorem v_spec_l12Fits : Valid Try.prog n_spec_l12Fits S_spec_l12Fits := by
  refine valid_of_swp mixed is_spec_l12Fits (by rintro _ ⟨a, rfl, _⟩; exact Nat.le_of_ble_eq_true rfl) ?_
  rintro _ rm ⟨⟨n, v, k⟩, rfl, hpre⟩ hl
  try dsimp only at hpre
  have hpre0 := hpre
  obtain ⟨hp1, hp2, hp3, hp4⟩ := hpre
  have hL : v.c.length ≤ LIM := hp2
  obtain ⟨y, hy⟩ : ∃ y, v.c[v.c.length - 1]? = some y := ⟨_, List.getElem?_eq_getElem (by omega)⟩
  have hly := lastE_at hy
  have hw : IntKind.i64.wrap (((v.c.map itF).length : Int) - 1) = ((v.c.length - 1 : Nat) : Int) := by rw [List.length_map]; exact wrap_dn hp3 hp2
  have hxt : (v.c.take (v.c.length - 1)).length = v.c.length - 1 := by rw [List.length_take]; omega
  have hxtL : (v.c.take (v.c.length - 1)).length ≤ LIM := by rw [hxt]; exact Nat.le_trans (Nat.sub_le _ _) hL
  have hw2 : IntKind.i64.wrap ((v.c.length : Int) - 1) = ((v.c.length - 1 : Nat) : Int) := wrap_dn hp3 hp2
  dsimp only
  repeat' ((conv => whnf); first
    | refine idx_mapX hw hy ?_
    | (refine ⟨_, slc_to (i := v.c.length - 1) (congrArg I hw) (by rw [List.length_map]; omega), ?_⟩; rw [map_take'])
    | refine ⟨_, rfl, ?_⟩
    | refine ⟨rfl, ?_⟩
    | refine ⟨_, _, rfl, at_map (by assumption), ?_⟩
    | refine idx_mapX (i := 0) rfl (by assumption) ?_
    | refine idx_map (by omega) (fun x hx => ?_)
    | refine idx_mapX (wrap_dn (by omega) (by omega)) (by assumption) ?_
    | refine idx_mapE (wrap_dn (by omega) (by omega)) (by omega) (fun x hx => ?_)
    | refine idx_mapL (by omega) (by first | assumption | (simp only [LIM]; omega)) (fun x hx => ?_)
    | refine idx_mapI (by omega) (by first | omega | (simp only [List.length_map] at *; omega)) (fun x hx => ?_)
    | refine ⟨_, ldc_cells hupd_at (Nat.le_of_ble_eq_true rfl), ?_⟩
    | refine ⟨_, ldc_cells (by first | assumption | exact zk ‹_› (by omega) | exact zk (zk ‹_› (by omega)) (by omega)) (Nat.le_of_ble_eq_true rfl), ?_⟩
    | (refine ⟨fun hc => ?_, fun hc => ?_⟩ <;> (try simp (disch := omega) only [List.length_map, wrap64] at hc))
    | (refine ⟨_, slc_to rfl (by first | omega | (simp only [List.length_map] at *; omega)), ?_⟩; rw [map_take'])
    | (refine ⟨_, slc_toI rfl (by omega) (by first | omega | (simp only [List.length_map] at *; omega)), ?_⟩; rw [map_take'])
    | (refine calle (b := [I _]) v_spec_l3Leader rfl ⟨_, rfl, (by exact pr_)⟩ (.inl rfl) (by first | assumption | omega) (fun r hr => K_spec_l3Leader (a := _) hr) ?_)
    | (refine callt (b := [one (vsF _), one (chF _)]) v_spec_l11Sure rfl ⟨(_, _), rfl, (by refine ⟨?_, ?_⟩ <;> (exact pr_))⟩ (.inl rfl) (by first | assumption | omega) (fun r hr => K_spec_l11Sure (a := (_, _)) hr) (fun hj => ?_) (fun hj => ?_) <;> (try simp only [etaPa, etaIt, etaVo] at hj))
    | exact ⟨⟨_, rfl, rfl, (n, v, k), rfl, (by refine congrArg B (Eq.symm (tb_pos ?_)); (try dsimp only); first | done | exact absurd True.intro hj | ((unfold FitsM; (try rw [hly]); (try rw [hw2] at *); first | exact ⟨by assumption, by assumption, by omega, by assumption⟩ | (rintro ⟨g1, g2, g3, g4⟩; first | contradiction | omega))))⟩, (by first | exact Nat.le_refl _ | omega), (by exact h0_)⟩
    | exact ⟨⟨_, rfl, rfl, (n, v, k), rfl, (by refine congrArg B (Eq.symm (tb_neg ?_)); (try dsimp only); first | done | exact absurd True.intro hj | ((unfold FitsM; (try rw [hly]); (try rw [hw2] at *); first | exact ⟨by assumption, by assumption, by omega, by assumption⟩ | (rintro ⟨g1, g2, g3, g4⟩; first | contradiction | omega))))⟩, (by first | exact Nat.le_refl _ | omega), (by exact h0_)⟩
    | fail)
set_option maxHeartbeats 4000000 in
set_option maxRecDepth 100000 in
theorem v_spec_l12Try : ValidM Try.prog n_spec_l12Try S_spec_l12Try := by
  refine validM_of_swp mixed is_spec_l12Try (by rintro _ _ ⟨a, rfl, _⟩; exact Nat.le_of_ble_eq_true rfl) ?_
  rintro _ _ rm ⟨n, rfl, rfl, hpre⟩ hl
  try dsimp only at hpre
  change swp _ _ _ _ _ 1 _
  dsimp only
  obtain ⟨hid, hep, hsb⟩ := id hpre
  have hep2 : In n.ep 0 100 := ⟨hep.1, Int.le_trans hep.2 (by decide)⟩
  have hfs : FitVs n.seen := hsb.fit
  have hlt : n.seen.length < LIM := hsb.lt
  have hLL : n.seen.length ≤ LIM := hfs.1
  by_cases hm : mayN n
  · obtain ⟨hm1, hm2⟩ := id hm
    repeat' ((conv => whnf); first
      | refine ⟨_, rfl, ?_⟩
      | refine ⟨rfl, ?_⟩
      | refine ⟨_, _, rfl, at_map (by assumption), ?_⟩
      | refine idx_mapX (i := 0) rfl (by assumption) ?_
      | refine idx_map (by omega) (fun x hx => ?_)
      | refine idx_mapX (wrap_dn (by omega) (by omega)) (by assumption) ?_
      | refine idx_mapE (wrap_dn (by omega) (by omega)) (by omega) (fun x hx => ?_)
      | refine idx_mapL (by omega) (by first | assumption | (simp only [LIM]; omega)) (fun x hx => ?_)
      | refine idx_mapI (by omega) (by first | omega | (simp only [List.length_map] at *; omega)) (fun x hx => ?_)
      | refine ⟨_, ldc_cells hupd_at (Nat.le_of_ble_eq_true rfl), ?_⟩
      | refine ⟨_, ldc_cells (by first | assumption | exact zk ‹_› (by omega) | exact zk (zk ‹_› (by omega)) (by omega)) (Nat.le_of_ble_eq_true rfl), ?_⟩
      | refine ⟨_, _, hupd_at, rfl, rfl, Nat.le_of_ble_eq_true rfl, ?_⟩
      | refine ⟨_, _, rfl, rfl, rfl, Nat.le_of_ble_eq_true rfl, ?_⟩
      | (refine ⟨?_, _, (?_ : (_ : Option Ob) = _), rfl, rfl, ?_, ?_⟩; rotate_left; (exact hk_); exact Nat.le_of_ble_eq_true rfl)
      | refine ⟨_, _, _, _, ((by exact hk_) : (_ : Option Ob) = _), rfl, at_mapA (by assumption), ?_⟩
      | refine idx_ow (by exact hk_) (by omega) (fun x hx => ?_)
      | refine ⟨_, _, _, _, ((by exact hk_) : (_ : Option Ob) = _), rfl, fill_at (by omega), ?_⟩
      | refine ⟨_, _, _, _, ((by exact hk_) : (_ : Option Ob) = _), fill_at (by omega), rfl, rfl, Nat.le_of_ble_eq_true rfl, ?_⟩
      | refine idx_owL (by exact hk_) (by omega) (by simp only [LIM]; omega) (fun x hx => ?_)
      | refine idx_owI (by exact hk_) (by omega) (by first | omega | (simp only [List.length_map] at *; omega)) (fun x hx => ?_)
      | refine ⟨_, _, _, _, ((by exact hk_) : (_ : Option Ob) = _), at_mapA (by assumption), rfl, rfl, Nat.le_of_ble_eq_true rfl, ?_⟩
      | refine ⟨_, ldc_pa (by exact hk_) (at_mapA (by assumption)) (Nat.le_of_ble_eq_true rfl), ?_⟩
      | refine ⟨_, _, _, ((by exact hk_) : (_ : Option Ob) = _), ?_⟩
      | refine ⟨_, ((by exact hk_) : (_ : Option Ob) = _), ?_⟩
      | (refine ⟨fun hc => ?_, fun hc => ?_⟩ <;> (try simp (disch := omega) only [List.length_map, wrap64] at hc) <;> (try (exfalso; first | contradiction | omega)))
      | (refine calle (b := [one (vsF _)]) v_spec_l11Tip rfl ⟨_, rfl, (by refine ⟨?_, ?_⟩ <;> (exact pr_))⟩ (.inl rfl) (by first | assumption | omega) (fun r hr => K_spec_l11Tip (a := _) hr) ?_)
      | fail)
    conv => whnf
    refine ⟨fun fr H nx rm' => ∃ i : Nat, Has fr [(1, .w (.o (.ptr 1 0))), (2, .w (.o (.ptr 17 0))), (3, .w (.o (.ptr 33 0))), (5, I (tipM n.seen).length), (6, I i)] ∧ i ≤ n.seen.length ∧ H 1 = some (.cells (ndK n 0)) ∧ H 17 = some (.cells [cI 0, cI 0, cI 0, .e0]) ∧ H 33 = some (.cells [cI 0, .e0]) ∧ (∀ j u, j < i → n.seen[j]? = some u → ¬ FitsN true n u) ∧ 49 ≤ nx ∧ H 0 = some (tokO n.seen) ∧ rm' = rm,
      fun fr _ _ _ => n.seen.length - ix (fr 6), ⟨0, ⟨rfl, rfl, rfl, congrArg (fun z : Nat => I (z : Int)) (List.length_map ..), rfl, trivial⟩, Nat.zero_le _, hk_, hk_, hk_, fun j u h => by omega, ln_, hk_, rfl⟩, ?_⟩
    rintro fr H nx rm' ⟨i, hfr, hi, hH1, hH17, hH33, hq, hnx, hH0, rfl⟩
    rw [hfr.eq]
    rcases Nat.lt_or_ge i n.seen.length with hi' | hi'
    · obtain ⟨x, hx⟩ : ∃ x, n.seen[i]? = some x := ⟨_, List.getElem?_eq_getElem hi'⟩
      have hxm : x ∈ n.seen := List.mem_of_getElem? hx
      have hxv : VoteOk x := hsb.2 x hxm
      have hx0 : 0 < x.c.length := List.length_pos_iff.2 hxv.2.1
      have hx16 : x.c.length ≤ 16 := hxv.2.2.2
      have hxL : x.c.length ≤ LIM := Nat.le_trans hx16 (by decide)
      have hxF : FitV x := hxL
      have hstep : ¬ FitsN true n x → ∀ j u, j < i + 1 → n.seen[j]? = some u → ¬ FitsN true n u := by
        intro hh j u hj1 hj2
        by_cases e : j < i
        · exact hq j u e hj2
        · have e : j = i := by omega
          subst e; cases (hx.symm.trans hj2); exact hh
      by_cases hF : FitsN true n x
      · have hFM : FitsM n x ((tipM n.seen).length : Int) := ⟨hF.1, hF.2.1, congrArg (fun z : Nat => (z : Int)) hF.2.2.1, hF.2.2.2⟩
        have e3 : tryN true n = voteN n x.c := tryN_some hm hx hq hF
        repeat' ((conv => whnf); first
          | refine ⟨_, _, rfl, at_map hx, ?_⟩
          | refine mq_tri (n := n) (t := 0) v_spec_l12Vote (by omega) (by first | assumption | omega) hH0 rfl (fun _ => rfl) ⟨(n, x.c), rfl, rfl, hfs, hxL⟩ (fun r obs' h => K_spec_l12Vote h) (fun t' H' ht' hH' hk' => ?_)
          | refine ⟨_, rfl, ?_⟩
          | refine ⟨rfl, ?_⟩
          | refine ⟨_, _, rfl, at_map (by assumption), ?_⟩
          | refine idx_mapX (i := 0) rfl (by assumption) ?_
          | refine idx_map (by omega) (fun x hx => ?_)
          | refine idx_mapX (wrap_dn (by omega) (by omega)) (by assumption) ?_
          | refine idx_mapE (wrap_dn (by omega) (by omega)) (by omega) (fun x hx => ?_)
          | refine idx_mapL (by omega) (by first | assumption | (simp only [LIM]; omega)) (fun x hx => ?_)
          | refine idx_mapI (by omega) (by first | omega | (simp only [List.length_map] at *; omega)) (fun x hx => ?_)
          | refine ⟨_, ldc_cells hupd_at (Nat.le_of_ble_eq_true rfl), ?_⟩
          | refine ⟨_, ldc_cells (by first | assumption | exact zk ‹_› (by omega) | exact zk (zk ‹_› (by omega)) (by omega)) (Nat.le_of_ble_eq_true rfl), ?_⟩
          | refine ⟨_, _, hupd_at, rfl, rfl, Nat.le_of_ble_eq_true rfl, ?_⟩
          | refine ⟨_, _, rfl, rfl, rfl, Nat.le_of_ble_eq_true rfl, ?_⟩
          | (refine ⟨?_, _, (?_ : (_ : Option Ob) = _), rfl, rfl, ?_, ?_⟩; rotate_left; (exact hk_); exact Nat.le_of_ble_eq_true rfl)
          | refine ⟨_, _, _, _, ((by exact hk_) : (_ : Option Ob) = _), rfl, at_mapA (by assumption), ?_⟩
          | refine idx_ow (by exact hk_) (by omega) (fun x hx => ?_)
          | refine ⟨_, _, _, _, ((by exact hk_) : (_ : Option Ob) = _), rfl, fill_at (by omega), ?_⟩
          | refine ⟨_, _, _, _, ((by exact hk_) : (_ : Option Ob) = _), fill_at (by omega), rfl, rfl, Nat.le_of_ble_eq_true rfl, ?_⟩
          | refine idx_owL (by exact hk_) (by omega) (by simp only [LIM]; omega) (fun x hx => ?_)
          | refine idx_owI (by exact hk_) (by omega) (by first | omega | (simp only [List.length_map] at *; omega)) (fun x hx => ?_)
          | refine ⟨_, _, _, _, ((by exact hk_) : (_ : Option Ob) = _), at_mapA (by assumption), rfl, rfl, Nat.le_of_ble_eq_true rfl, ?_⟩
          | refine ⟨_, ldc_pa (by exact hk_) (at_mapA (by assumption)) (Nat.le_of_ble_eq_true rfl), ?_⟩
          | refine ⟨_, _, _, ((by exact hk_) : (_ : Option Ob) = _), ?_⟩
          | refine ⟨_, ((by exact hk_) : (_ : Option Ob) = _), ?_⟩
          | (refine ⟨fun hc => ?_, fun hc => ?_⟩ <;> (try simp (disch := omega) only [List.length_map, wrap64] at hc) <;> (try (exfalso; first | contradiction | omega)))
          | (refine callt (b := [agg (ndF ⟨_, _, _, _⟩), agg (voF ⟨_, _⟩), I _]) v_spec_l12Fits rfl ⟨(⟨_, _, _, _⟩, ⟨_, _⟩, _), rfl, (by refine ⟨?_, ?_, ?_, ?_⟩ <;> (exact pr_))⟩ (.inl rfl) (by first | assumption | omega) (fun r hr => K_spec_l12Fits (a := (⟨_, _, _, _⟩, ⟨_, _⟩, _)) hr) (fun hj => ?_) (fun hj => ?_) <;> (try simp only [etaPa, etaIt, etaVo] at hj) <;> (try simp only [etaNd, etaVo] at hj) <;> (try contradiction))
          | fail)
        have hG17 : H' 17 = some (.cells [cI 0, cI 0, cI 0, .e0]) := (hk' 17 (by decide) (by omega)).trans hH17
        have hG33 : H' 33 = some (.cells [cI 0, .e0]) := (hk' 33 (by decide) (by omega)).trans hH33
        have ht17 : t' ≠ 17 ∧ t' ≠ 33 := by rcases ht' with ⟨rfl, _⟩ | ⟨rfl, _⟩ <;> exact ⟨by omega, by omega⟩
        repeat' ((conv => whnf); first
          | refine ⟨_, rfl, ?_⟩
          | refine ⟨rfl, ?_⟩
          | refine ⟨_, _, rfl, at_map (by assumption), ?_⟩
          | refine idx_mapX (i := 0) rfl (by assumption) ?_
          | refine idx_map (by omega) (fun x hx => ?_)
          | refine idx_mapX (wrap_dn (by omega) (by omega)) (by assumption) ?_
          | refine idx_mapE (wrap_dn (by omega) (by omega)) (by omega) (fun x hx => ?_)
          | refine idx_mapL (by omega) (by first | assumption | (simp only [LIM]; omega)) (fun x hx => ?_)
          | refine idx_mapI (by omega) (by first | omega | (simp only [List.length_map] at *; omega)) (fun x hx => ?_)
          | refine ⟨_, ldc_cells hupd_at (Nat.le_of_ble_eq_true rfl), ?_⟩
          | refine ⟨_, ldc_cells (by first | assumption | exact zk ‹_› (by omega) | exact zk (zk ‹_› (by omega)) (by omega)) (Nat.le_of_ble_eq_true rfl), ?_⟩
          | refine ⟨_, _, hupd_at, rfl, rfl, Nat.le_of_ble_eq_true rfl, ?_⟩
          | refine ⟨_, _, rfl, rfl, rfl, Nat.le_of_ble_eq_true rfl, ?_⟩
          | (refine ⟨?_, _, (?_ : (_ : Option Ob) = _), rfl, rfl, ?_, ?_⟩; rotate_left; (exact hk_); exact Nat.le_of_ble_eq_true rfl)
          | refine ⟨_, _, _, _, ((by exact hk_) : (_ : Option Ob) = _), rfl, at_mapA (by assumption), ?_⟩
          | refine idx_ow (by exact hk_) (by omega) (fun x hx => ?_)
          | refine ⟨_, _, _, _, ((by exact hk_) : (_ : Option Ob) = _), rfl, fill_at (by omega), ?_⟩
          | refine ⟨_, _, _, _, ((by exact hk_) : (_ : Option Ob) = _), fill_at (by omega), rfl, rfl, Nat.le_of_ble_eq_true rfl, ?_⟩
          | refine idx_owL (by exact hk_) (by omega) (by simp only [LIM]; omega) (fun x hx => ?_)
          | refine idx_owI (by exact hk_) (by omega) (by first | omega | (simp only [List.length_map] at *; omega)) (fun x hx => ?_)
          | refine ⟨_, _, _, _, ((by exact hk_) : (_ : Option Ob) = _), at_mapA (by assumption), rfl, rfl, Nat.le_of_ble_eq_true rfl, ?_⟩
          | refine ⟨_, ldc_pa (by exact hk_) (at_mapA (by assumption)) (Nat.le_of_ble_eq_true rfl), ?_⟩
          | refine ⟨_, _, _, ((by exact hk_) : (_ : Option Ob) = _), ?_⟩
          | refine ⟨_, ((by exact hk_) : (_ : Option Ob) = _), ?_⟩
          | (refine ⟨fun hc => ?_, fun hc => ?_⟩ <;> (try simp (disch := omega) only [List.length_map, wrap64] at hc))
          | fail)
        refine finM_tri (n := n) (o := voteN n x.c) (Nat.le_refl _) ?_ ?_ (fun ks => ⟨⟨_, rfl, (by first | exact .inl rfl | exact .inr ⟨rfl, rfl⟩)⟩, ⟨_, rfl, (by first | exact .inl rfl | exact .inr ⟨rfl, rfl⟩)⟩, ⟨_, rfl, (by first | exact .inl rfl | exact .inr ⟨rfl, rfl⟩)⟩, trivial⟩) (fun r obs' h => ⟨n, rfl, rfl, by show RT n (tryN true n) r obs'; rw [e3]; exact h⟩)
        · rcases ht' with ⟨rfl, hs⟩ | ⟨rfl, h0⟩
          · exact .inl ⟨rfl, hs⟩
          · exact .inr ⟨by omega, hk_⟩
        · exact zk (zk hH' ht17.1) ht17.2
      · have hFM : ¬ FitsM n x ((tipM n.seen).length : Int) := fun h => hF ⟨h.1, h.2.1, Int.ofNat.inj h.2.2.1, h.2.2.2⟩
        repeat' ((conv => whnf); first
          | refine ⟨_, _, rfl, at_map hx, ?_⟩
          | refine ⟨_, rfl, ?_⟩
          | refine ⟨rfl, ?_⟩
          | refine ⟨_, _, rfl, at_map (by assumption), ?_⟩
          | refine idx_mapX (i := 0) rfl (by assumption) ?_
          | refine idx_map (by omega) (fun x hx => ?_)
          | refine idx_mapX (wrap_dn (by omega) (by omega)) (by assumption) ?_
          | refine idx_mapE (wrap_dn (by omega) (by omega)) (by omega) (fun x hx => ?_)
          | refine idx_mapL (by omega) (by first | assumption | (simp only [LIM]; omega)) (fun x hx => ?_)
          | refine idx_mapI (by omega) (by first | omega | (simp only [List.length_map] at *; omega)) (fun x hx => ?_)
          | refine ⟨_, ldc_cells hupd_at (Nat.le_of_ble_eq_true rfl), ?_⟩
          | refine ⟨_, ldc_cells (by first | assumption | exact zk ‹_› (by omega) | exact zk (zk ‹_› (by omega)) (by omega)) (Nat.le_of_ble_eq_true rfl), ?_⟩
          | refine ⟨_, _, hupd_at, rfl, rfl, Nat.le_of_ble_eq_true rfl, ?_⟩
          | refine ⟨_, _, rfl, rfl, rfl, Nat.le_of_ble_eq_true rfl, ?_⟩
          | (refine ⟨?_, _, (?_ : (_ : Option Ob) = _), rfl, rfl, ?_, ?_⟩; rotate_left; (exact hk_); exact Nat.le_of_ble_eq_true rfl)
          | refine ⟨_, _, _, _, ((by exact hk_) : (_ : Option Ob) = _), rfl, at_mapA (by assumption), ?_⟩
          | refine idx_ow (by exact hk_) (by omega) (fun x hx => ?_)
          | refine ⟨_, _, _, _, ((by exact hk_) : (_ : Option Ob) = _), rfl, fill_at (by omega), ?_⟩
          | refine ⟨_, _, _, _, ((by exact hk_) : (_ : Option Ob) = _), fill_at (by omega), rfl, rfl, Nat.le_of_ble_eq_true rfl, ?_⟩
          | refine idx_owL (by exact hk_) (by omega) (by simp only [LIM]; omega) (fun x hx => ?_)
          | refine idx_owI (by exact hk_) (by omega) (by first | omega | (simp only [List.length_map] at *; omega)) (fun x hx => ?_)
          | refine ⟨_, _, _, _, ((by exact hk_) : (_ : Option Ob) = _), at_mapA (by assumption), rfl, rfl, Nat.le_of_ble_eq_true rfl, ?_⟩
          | refine ⟨_, ldc_pa (by exact hk_) (at_mapA (by assumption)) (Nat.le_of_ble_eq_true rfl), ?_⟩
          | refine ⟨_, _, _, ((by exact hk_) : (_ : Option Ob) = _), ?_⟩
          | refine ⟨_, ((by exact hk_) : (_ : Option Ob) = _), ?_⟩
          | (refine ⟨fun hc => ?_, fun hc => ?_⟩ <;> (try simp (disch := omega) only [List.length_map, wrap64] at hc) <;> (try (exfalso; first | contradiction | omega)))
          | (refine callt (b := [agg (ndF ⟨_, _, _, _⟩), agg (voF ⟨_, _⟩), I _]) v_spec_l12Fits rfl ⟨(⟨_, _, _, _⟩, ⟨_, _⟩, _), rfl, (by refine ⟨?_, ?_, ?_, ?_⟩ <;> (exact pr_))⟩ (.inl rfl) (by first | assumption | omega) (fun r hr => K_spec_l12Fits (a := (⟨_, _, _, _⟩, ⟨_, _⟩, _)) hr) (fun hj => ?_) (fun hj => ?_) <;> (try simp only [etaPa, etaIt, etaVo] at hj) <;> (try simp only [etaNd, etaVo] at hj) <;> (try contradiction))
          | fail)
        refine ⟨⟨i + 1, ⟨rfl, rfl, rfl, rfl, congrArg I (wrap_up hi' hLL), trivial⟩, hi', hk_, hk_, hk_, hstep hF, by omega, hk_, rfl⟩, ?_⟩
        show n.seen.length - ix (I _) < n.seen.length - ix (I _)
        simp only [wrap_up hi' hLL, ix, Int.toNat_natCast]
        omega
    · have hie : i = n.seen.length := by omega
      subst hie
      have e3 : tryN true n = (n, zVo, false) := tryN_none hm hq
      repeat' ((conv => whnf); first
        | refine ⟨_, rfl, ?_⟩
        | refine ⟨rfl, ?_⟩
        | refine ⟨_, _, rfl, at_map (by assumption), ?_⟩
        | refine idx_mapX (i := 0) rfl (by assumption) ?_
        | refine idx_map (by omega) (fun x hx => ?_)
        | refine idx_mapX (wrap_dn (by omega) (by omega)) (by assumption) ?_
        | refine idx_mapE (wrap_dn (by omega) (by omega)) (by omega) (fun x hx => ?_)
        | refine idx_mapL (by omega) (by first | assumption | (simp only [LIM]; omega)) (fun x hx => ?_)
        | refine idx_mapI (by omega) (by first | omega | (simp only [List.length_map] at *; omega)) (fun x hx => ?_)
        | refine ⟨_, ldc_cells hupd_at (Nat.le_of_ble_eq_true rfl), ?_⟩
        | refine ⟨_, ldc_cells (by first | assumption | exact zk ‹_› (by omega) | exact zk (zk ‹_› (by omega)) (by omega)) (Nat.le_of_ble_eq_true rfl), ?_⟩
        | refine ⟨_, _, hupd_at, rfl, rfl, Nat.le_of_ble_eq_true rfl, ?_⟩
        | refine ⟨_, _, rfl, rfl, rfl, Nat.le_of_ble_eq_true rfl, ?_⟩
        | (refine ⟨?_, _, (?_ : (_ : Option Ob) = _), rfl, rfl, ?_, ?_⟩; rotate_left; (exact hk_); exact Nat.le_of_ble_eq_true rfl)
        | refine ⟨_, _, _, _, ((by exact hk_) : (_ : Option Ob) = _), rfl, at_mapA (by assumption), ?_⟩
        | refine idx_ow (by exact hk_) (by omega) (fun x hx => ?_)
        | refine ⟨_, _, _, _, ((by exact hk_) : (_ : Option Ob) = _), rfl, fill_at (by omega), ?_⟩
        | refine ⟨_, _, _, _, ((by exact hk_) : (_ : Option Ob) = _), fill_at (by omega), rfl, rfl, Nat.le_of_ble_eq_true rfl, ?_⟩
        | refine idx_owL (by exact hk_) (by omega) (by simp only [LIM]; omega) (fun x hx => ?_)
        | refine idx_owI (by exact hk_) (by omega) (by first | omega | (simp only [List.length_map] at *; omega)) (fun x hx => ?_)
        | refine ⟨_, _, _, _, ((by exact hk_) : (_ : Option Ob) = _), at_mapA (by assumption), rfl, rfl, Nat.le_of_ble_eq_true rfl, ?_⟩
        | refine ⟨_, ldc_pa (by exact hk_) (at_mapA (by assumption)) (Nat.le_of_ble_eq_true rfl), ?_⟩
        | refine ⟨_, _, _, ((by exact hk_) : (_ : Option Ob) = _), ?_⟩
        | refine ⟨_, ((by exact hk_) : (_ : Option Ob) = _), ?_⟩
        | (refine ⟨fun hc => ?_, fun hc => ?_⟩ <;> (try simp (disch := omega) only [List.length_map, wrap64] at hc) <;> (try (exfalso; first | contradiction | omega)))
        | fail)
      exact finM_tri (n := n) (o := (n, zVo, false)) (t := 0) (Nat.le_add_right _ _) (.inl ⟨rfl, rfl⟩) hk_ (fun ks => ⟨⟨_, rfl, (by first | exact .inl rfl | exact .inr ⟨rfl, rfl⟩)⟩, ⟨_, rfl, (by first | exact .inl rfl | exact .inr ⟨rfl, rfl⟩)⟩, ⟨_, rfl, (by first | exact .inl rfl | exact .inr ⟨rfl, rfl⟩)⟩, trivial⟩) (fun r obs' h => ⟨n, rfl, rfl, by show RT n (tryN true n) r obs'; rw [e3]; exact h⟩)
  · have e3 : tryN true n = (n, zVo, false) := tryN_no hm
    unfold mayN at hm
    obtain ⟨hep0, hep3⟩ := id hep
    repeat' ((conv => whnf); first
      | refine ⟨_, rfl, ?_⟩
      | refine ⟨rfl, ?_⟩
      | refine ⟨_, _, rfl, at_map (by assumption), ?_⟩
      | refine idx_mapX (i := 0) rfl (by assumption) ?_
      | refine idx_map (by omega) (fun x hx => ?_)
      | refine idx_mapX (wrap_dn (by omega) (by omega)) (by assumption) ?_
      | refine idx_mapE (wrap_dn (by omega) (by omega)) (by omega) (fun x hx => ?_)
      | refine idx_mapL (by omega) (by first | assumption | (simp only [LIM]; omega)) (fun x hx => ?_)
      | refine idx_mapI (by omega) (by first | omega | (simp only [List.length_map] at *; omega)) (fun x hx => ?_)
      | refine ⟨_, ldc_cells hupd_at (Nat.le_of_ble_eq_true rfl), ?_⟩
      | refine ⟨_, ldc_cells (by first | assumption | exact zk ‹_› (by omega) | exact zk (zk ‹_› (by omega)) (by omega)) (Nat.le_of_ble_eq_true rfl), ?_⟩
      | refine ⟨_, _, hupd_at, rfl, rfl, Nat.le_of_ble_eq_true rfl, ?_⟩
      | refine ⟨_, _, rfl, rfl, rfl, Nat.le_of_ble_eq_true rfl, ?_⟩
      | (refine ⟨?_, _, (?_ : (_ : Option Ob) = _), rfl, rfl, ?_, ?_⟩; rotate_left; (exact hk_); exact Nat.le_of_ble_eq_true rfl)
      | refine ⟨_, _, _, _, ((by exact hk_) : (_ : Option Ob) = _), rfl, at_mapA (by assumption), ?_⟩
      | refine idx_ow (by exact hk_) (by omega) (fun x hx => ?_)
      | refine ⟨_, _, _, _, ((by exact hk_) : (_ : Option Ob) = _), rfl, fill_at (by omega), ?_⟩
      | refine ⟨_, _, _, _, ((by exact hk_) : (_ : Option Ob) = _), fill_at (by omega), rfl, rfl, Nat.le_of_ble_eq_true rfl, ?_⟩
      | refine idx_owL (by exact hk_) (by omega) (by simp only [LIM]; omega) (fun x hx => ?_)
      | refine idx_owI (by exact hk_) (by omega) (by first | omega | (simp only [List.length_map] at *; omega)) (fun x hx => ?_)
      | refine ⟨_, _, _, _, ((by exact hk_) : (_ : Option Ob) = _), at_mapA (by assumption), rfl, rfl, Nat.le_of_ble_eq_true rfl, ?_⟩
      | refine ⟨_, ldc_pa (by exact hk_) (at_mapA (by assumption)) (Nat.le_of_ble_eq_true rfl), ?_⟩
      | refine ⟨_, _, _, ((by exact hk_) : (_ : Option Ob) = _), ?_⟩
      | refine ⟨_, ((by exact hk_) : (_ : Option Ob) = _), ?_⟩
      | (refine ⟨fun hc => ?_, fun hc => ?_⟩ <;> (try simp (disch := omega) only [List.length_map, wrap64] at hc) <;> (try (exfalso; first | contradiction | omega)))
      | (refine calle (b := [one (vsF _)]) v_spec_l11Tip rfl ⟨_, rfl, (by refine ⟨?_, ?_⟩ <;> (exact pr_))⟩ (.inl rfl) (by first | assumption | omega) (fun r hr => K_spec_l11Tip (a := _) hr) ?_)
      | fail)
    all_goals exact finM_tri (n := n) (o := (n, zVo, false)) (t := 0) (Nat.le_add_right _ _) (.inl ⟨rfl, rfl⟩) hk_ (fun ks => ⟨⟨_, rfl, (by first | exact .inl rfl | exact .inr ⟨rfl, rfl⟩)⟩, ⟨_, rfl, (by first | exact .inl rfl | exact .inr ⟨rfl, rfl⟩)⟩, ⟨_, rfl, (by first | exact .inl rfl | exact .inr ⟨rfl, rfl⟩)⟩, trivial⟩) (fun r obs' h => ⟨n, rfl, rfl, by show RT n (tryN true n) r obs'; rw [e3]; exact h⟩)
theorem vT_spec_l3Add : ValidM Try.prog n_spec_l3Add SM_spec_l3Add := by
  refine validM_of_swp mixed is_spec_l3Add (by rintro _ _ ⟨a, rfl, _⟩; exact Nat.le_of_ble_eq_true rfl) ?_
  rintro _ _ rm ⟨⟨l, v⟩, rfl, rfl, hpre⟩ hl
  dsimp only at hpre
  change swp _ _ _ _ _ 1 _
  obtain ⟨hfs, hfv, hlt⟩ := hpre
  dsimp only
  by_cases hm : v ∈ l
  · skip
    repeat' ((conv => whnf); first
      | refine ⟨_, rfl, ?_⟩
      | refine ⟨rfl, ?_⟩
      | refine ⟨_, _, rfl, at_map (by assumption), ?_⟩
      | refine idx_mapX (i := 0) rfl (by assumption) ?_
      | refine idx_map (by omega) (fun x hx => ?_)
      | refine idx_mapX (wrap_dn (by omega) (by omega)) (by assumption) ?_
      | refine idx_mapE (wrap_dn (by omega) (by omega)) (by omega) (fun x hx => ?_)
      | refine idx_mapL (by omega) (by first | assumption | (simp only [LIM]; omega)) (fun x hx => ?_)
      | refine idx_mapI (by omega) (by first | omega | (simp only [List.length_map] at *; omega)) (fun x hx => ?_)
      | refine ⟨_, ldc_cells hupd_at (Nat.le_of_ble_eq_true rfl), ?_⟩
      | refine ⟨_, ldc_cells (by first | assumption | exact zk ‹_› (by omega) | exact zk (zk ‹_› (by omega)) (by omega)) (Nat.le_of_ble_eq_true rfl), ?_⟩
      | refine ⟨_, _, hupd_at, rfl, rfl, Nat.le_of_ble_eq_true rfl, ?_⟩
      | refine ⟨_, _, rfl, rfl, rfl, Nat.le_of_ble_eq_true rfl, ?_⟩
      | (refine ⟨?_, _, (?_ : (_ : Option Ob) = _), rfl, rfl, ?_, ?_⟩; rotate_left; (exact hk_); exact Nat.le_of_ble_eq_true rfl)
      | refine ⟨_, _, _, _, ((by exact hk_) : (_ : Option Ob) = _), rfl, at_mapA (by assumption), ?_⟩
      | refine idx_ow (by exact hk_) (by omega) (fun x hx => ?_)
      | refine ⟨_, _, _, _, ((by exact hk_) : (_ : Option Ob) = _), rfl, fill_at (by omega), ?_⟩
      | refine ⟨_, _, _, _, ((by exact hk_) : (_ : Option Ob) = _), fill_at (by omega), rfl, rfl, Nat.le_of_ble_eq_true rfl, ?_⟩
      | refine idx_owL (by exact hk_) (by omega) (by simp only [LIM]; omega) (fun x hx => ?_)
      | refine idx_owI (by exact hk_) (by omega) (by first | omega | (simp only [List.length_map] at *; omega)) (fun x hx => ?_)
      | refine ⟨_, _, _, _, ((by exact hk_) : (_ : Option Ob) = _), at_mapA (by assumption), rfl, rfl, Nat.le_of_ble_eq_true rfl, ?_⟩
      | refine ⟨_, ldc_pa (by exact hk_) (at_mapA (by assumption)) (Nat.le_of_ble_eq_true rfl), ?_⟩
      | refine ⟨_, rfl, rfl, _, ((by exact hk_) : (_ : Option Ob) = _), (by exact ap_), ?_⟩
      | refine ⟨_, news_ow hupd_at, newsz_ow hupd_at, _, ((by exact hk_) : (_ : Option Ob) = _), (by exact ap_), ?_⟩
      | refine ⟨_, _, _, ((by exact hk_) : (_ : Option Ob) = _), ?_⟩
      | refine ⟨_, ((by exact hk_) : (_ : Option Ob) = _), ?_⟩
      | refine ⟨(show _ ≠ _ from (by first | decide | omega)), ?_⟩
      | refine ⟨(show _ ≤ _ from (by exact ap_)), ?_⟩
      | (refine ⟨fun hc => ?_, fun hc => ?_⟩ <;> (try simp (disch := omega) only [List.length_map, wrap64] at hc) <;> (try (exfalso; first | contradiction | omega)))
      | (refine ⟨⟨(by omega), (by omega), (by simp only [List.length_map] at *; simp only [LIM] at *; omega), (by simp only [List.length_map] at *; simp only [LIM] at *; omega)⟩, ?_⟩; (try simp only [List.length_map, Int.toNat_natCast]))
      | (refine ⟨_, slc_to rfl (by first | omega | (simp only [List.length_map] at *; omega)), ?_⟩; rw [map_take'])
      | (refine ⟨_, slc_toI rfl (by omega) (by first | omega | (simp only [List.length_map] at *; omega)), ?_⟩; rw [map_take'])
      | (refine callt (b := [one (vsF _), agg (voF ⟨_, _⟩)]) v_spec_l3Has rfl ⟨(_, ⟨_, _⟩), rfl, (by refine ⟨?_, ?_⟩ <;> (exact pr_))⟩ (.inl rfl) (by first | assumption | omega) (fun r hr => K_spec_l3Has (a := (_, ⟨_, _⟩)) hr) (fun hj => ?_) (fun hj => ?_) <;> (try simp only [etaPa, etaIt, etaVo] at hj) <;> (try contradiction))
      | (refine calle (b := [agg (voF ⟨_, _⟩)]) v_spec_l3VoteCopy rfl ⟨⟨_, _⟩, rfl, (by exact pr_)⟩ (.inl rfl) (by first | assumption | omega) (fun r hr => K_spec_l3VoteCopy (a := ⟨_, _⟩) hr) ?_)
      | fail)
    exact finM_one (r0 := .tup [.o (tkC 0 l), .o (cB false)]) (az := [.o (tkC 0 l), .o (cB false)]) (l := l) (Nat.le_refl _) (fun _ => rfl) (Nat.le_refl _) hk_ ⟨⟨_, rfl, .inl rfl⟩, ⟨_, rfl, .inl rfl⟩, trivial⟩ (fun nx => by show _ = AV.tup [.o (tkC (nmap [0] nx 0) l), .o (cB false)]; rw [show nmap [0] nx 0 = 0 from nmap_lt (s := 0) rfl]; rfl) ⟨(l, v), rfl, rfl, .inl ⟨hm, rfl, rfl⟩⟩
  · skip
    repeat' ((conv => whnf); first
      | (refine ⟨_, news_ow hupd_at, newsz_ow hupd_at, [voF v], rfl, hk_, rfl, ap_b hlt, ?_⟩; rw [tkC_snoc, tokO_snoc])
      | refine ⟨_, rfl, ?_⟩
      | refine ⟨rfl, ?_⟩
      | refine ⟨_, _, rfl, at_map (by assumption), ?_⟩
      | refine idx_mapX (i := 0) rfl (by assumption) ?_
      | refine idx_map (by omega) (fun x hx => ?_)
      | refine idx_mapX (wrap_dn (by omega) (by omega)) (by assumption) ?_
      | refine idx_mapE (wrap_dn (by omega) (by omega)) (by omega) (fun x hx => ?_)
      | refine idx_mapL (by omega) (by first | assumption | (simp only [LIM]; omega)) (fun x hx => ?_)
      | refine idx_mapI (by omega) (by first | omega | (simp only [List.length_map] at *; omega)) (fun x hx => ?_)
      | refine ⟨_, ldc_cells hupd_at (Nat.le_of_ble_eq_true rfl), ?_⟩
      | refine ⟨_, ldc_cells (by first | assumption | exact zk ‹_› (by omega) | exact zk (zk ‹_› (by omega)) (by omega)) (Nat.le_of_ble_eq_true rfl), ?_⟩
      | refine ⟨_, _, hupd_at, rfl, rfl, Nat.le_of_ble_eq_true rfl, ?_⟩
      | refine ⟨_, _, rfl, rfl, rfl, Nat.le_of_ble_eq_true rfl, ?_⟩
      | (refine ⟨?_, _, (?_ : (_ : Option Ob) = _), rfl, rfl, ?_, ?_⟩; rotate_left; (exact hk_); exact Nat.le_of_ble_eq_true rfl)
      | refine ⟨_, _, _, _, ((by exact hk_) : (_ : Option Ob) = _), rfl, at_mapA (by assumption), ?_⟩
      | refine idx_ow (by exact hk_) (by omega) (fun x hx => ?_)
      | refine ⟨_, _, _, _, ((by exact hk_) : (_ : Option Ob) = _), rfl, fill_at (by omega), ?_⟩
      | refine ⟨_, _, _, _, ((by exact hk_) : (_ : Option Ob) = _), fill_at (by omega), rfl, rfl, Nat.le_of_ble_eq_true rfl, ?_⟩
      | refine idx_owL (by exact hk_) (by omega) (by simp only [LIM]; omega) (fun x hx => ?_)
      | refine idx_owI (by exact hk_) (by omega) (by first | omega | (simp only [List.length_map] at *; omega)) (fun x hx => ?_)
      | refine ⟨_, _, _, _, ((by exact hk_) : (_ : Option Ob) = _), at_mapA (by assumption), rfl, rfl, Nat.le_of_ble_eq_true rfl, ?_⟩
      | refine ⟨_, ldc_pa (by exact hk_) (at_mapA (by assumption)) (Nat.le_of_ble_eq_true rfl), ?_⟩
      | refine ⟨_, rfl, rfl, _, ((by exact hk_) : (_ : Option Ob) = _), (by exact ap_), ?_⟩
      | refine ⟨_, news_ow hupd_at, newsz_ow hupd_at, _, ((by exact hk_) : (_ : Option Ob) = _), (by exact ap_), ?_⟩
      | refine ⟨_, _, _, ((by exact hk_) : (_ : Option Ob) = _), ?_⟩
      | refine ⟨_, ((by exact hk_) : (_ : Option Ob) = _), ?_⟩
      | refine ⟨(show _ ≠ _ from (by first | decide | omega)), ?_⟩
      | refine ⟨(show _ ≤ _ from (by exact ap_)), ?_⟩
      | (refine ⟨fun hc => ?_, fun hc => ?_⟩ <;> (try simp (disch := omega) only [List.length_map, wrap64] at hc) <;> (try (exfalso; first | contradiction | omega)))
      | (refine ⟨⟨(by omega), (by omega), (by simp only [List.length_map] at *; simp only [LIM] at *; omega), (by simp only [List.length_map] at *; simp only [LIM] at *; omega)⟩, ?_⟩; (try simp only [List.length_map, Int.toNat_natCast]))
      | (refine ⟨_, slc_to rfl (by first | omega | (simp only [List.length_map] at *; omega)), ?_⟩; rw [map_take'])
      | (refine ⟨_, slc_toI rfl (by omega) (by first | omega | (simp only [List.length_map] at *; omega)), ?_⟩; rw [map_take'])
      | (refine callt (b := [one (vsF _), agg (voF ⟨_, _⟩)]) v_spec_l3Has rfl ⟨(_, ⟨_, _⟩), rfl, (by refine ⟨?_, ?_⟩ <;> (exact pr_))⟩ (.inl rfl) (by first | assumption | omega) (fun r hr => K_spec_l3Has (a := (_, ⟨_, _⟩)) hr) (fun hj => ?_) (fun hj => ?_) <;> (try simp only [etaPa, etaIt, etaVo] at hj) <;> (try contradiction))
      | (refine calle (b := [agg (voF ⟨_, _⟩)]) v_spec_l3VoteCopy rfl ⟨⟨_, _⟩, rfl, (by exact pr_)⟩ (.inl rfl) (by first | assumption | omega) (fun r hr => K_spec_l3VoteCopy (a := ⟨_, _⟩) hr) ?_)
      | fail)
    exact finM_snd (r0 := .tup [.o (tkC 1 (l ++ [v])), .o (cB true)]) (k := 161) (az := [.o (tkC 161 (l ++ [v])), .o (cB true)]) (l := l ++ [v]) (Nat.le_refl _) (by decide) hk_ hk_ ⟨⟨_, rfl, .inl rfl⟩, ⟨_, rfl, .inl rfl⟩, trivial⟩ (fun nx => by show _ = AV.tup [.o (tkC (nmap [0, 161] nx 1) (l ++ [v])), .o (cB true)]; rw [show nmap [0, 161] nx 1 = 161 from nmap_lt (s := 0) rfl]; rfl) ⟨(l, v), rfl, rfl, .inr ⟨hm, rfl, rfl⟩⟩
set_option maxHeartbeats 4000000 in
set_option maxRecDepth 100000 in
theorem v_spec_l12Hear : ValidM Try.prog n_spec_l12Hear S_spec_l12Hear := by
  refine validM_of_swp mixed is_spec_l12Hear (by rintro _ _ ⟨a, rfl, _⟩; exact Nat.le_of_ble_eq_true rfl) ?_
  rintro _ _ rm ⟨⟨n, v⟩, rfl, rfl, hpre⟩ hl
  try dsimp only at hpre
  change swp _ _ _ _ _ 1 _
  dsimp only
  obtain ⟨⟨hid, hep, hsb⟩, hfv⟩ := id hpre
  have hst : SM_spec_l3Add.st = 0 := rfl
  have hfs : FitVs n.seen := hsb.fit
  have hlt : n.seen.length < LIM := hsb.lt
  by_cases h1 : VoteOk v
  · by_cases h2 : v.n = n.id
    · have e2 : hearN true n v = (n, zVo, false) := by unfold hearN; rw [tb_neg (fun h => h.2.1 h2)]; rfl
      repeat' ((conv => whnf); first
        | refine ⟨_, rfl, ?_⟩
        | refine ⟨rfl, ?_⟩
        | refine ⟨_, ldc_cells hupd_at (Nat.le_of_ble_eq_true rfl), ?_⟩
        | refine ⟨_, ldc_cells (by first | assumption | exact zk ‹_› (by omega) | exact zk (zk ‹_› (by omega)) (by omega)) (Nat.le_of_ble_eq_true rfl), ?_⟩
        | refine ⟨_, _, hupd_at, rfl, rfl, Nat.le_of_ble_eq_true rfl, ?_⟩
        | refine ⟨_, _, rfl, rfl, rfl, Nat.le_of_ble_eq_true rfl, ?_⟩
        | (refine ⟨?_, _, (?_ : (_ : Option Ob) = _), rfl, rfl, ?_, ?_⟩; rotate_left; (exact hk_); exact Nat.le_of_ble_eq_true rfl)
        | refine ⟨_, _, _, _, ((by exact hk_) : (_ : Option Ob) = _), fill_at (by omega), rfl, rfl, Nat.le_of_ble_eq_true rfl, ?_⟩
        | refine ⟨_, _, _, _, ((by exact hk_) : (_ : Option Ob) = _), at_mapA (by assumption), rfl, rfl, Nat.le_of_ble_eq_true rfl, ?_⟩
        | refine ⟨_, ldc_pa (by exact hk_) (at_mapA (by assumption)) (Nat.le_of_ble_eq_true rfl), ?_⟩
        | refine ⟨_, _, _, ((by exact hk_) : (_ : Option Ob) = _), ?_⟩
        | refine ⟨_, ((by exact hk_) : (_ : Option Ob) = _), ?_⟩
        | (refine ⟨fun hc => ?_, fun hc => ?_⟩ <;> (try simp (disch := omega) only [List.length_map, wrap64] at hc) <;> (try (exfalso; first | contradiction | omega)))
        | (refine callt (b := [agg (voF ⟨_, _⟩)]) v_spec_l3Vote rfl ⟨⟨_, _⟩, rfl, (by exact pr_)⟩ (.inl rfl) (by first | assumption | omega) (fun r hr => K_spec_l3Vote (a := ⟨_, _⟩) hr) (fun hj => ?_) (fun hj => ?_) <;> (try simp only [etaPa, etaIt, etaVo] at hj) <;> (try contradiction))
        | fail)
      all_goals first
        | exact finM_tri (n := n) (o := (n, zVo, false)) (t := 0) (Nat.le_add_right _ _) (.inl ⟨rfl, rfl⟩) hk_ (fun ks => ⟨⟨_, rfl, (by first | exact .inl rfl | exact .inr ⟨rfl, rfl⟩)⟩, ⟨_, rfl, (by first | exact .inl rfl | exact .inr ⟨rfl, rfl⟩)⟩, ⟨_, rfl, (by first | exact .inl rfl | exact .inr ⟨rfl, rfl⟩)⟩, trivial⟩) (fun r obs' h => ⟨(n, v), rfl, rfl, by show RT n (hearN true n v) r obs'; rw [e2]; exact h⟩)
        | exact And.right (a := 0 ≤ 0) (finM_tri (n := n) (o := (n, zVo, false)) (t := 0) (rm' := 0) (lim := 0) (Nat.le_refl _) (.inl ⟨rfl, rfl⟩) hk_ (fun ks => ⟨⟨_, rfl, (by first | exact .inl rfl | exact .inr ⟨rfl, rfl⟩)⟩, ⟨_, rfl, (by first | exact .inl rfl | exact .inr ⟨rfl, rfl⟩)⟩, ⟨_, rfl, (by first | exact .inl rfl | exact .inr ⟨rfl, rfl⟩)⟩, trivial⟩) (fun r obs' h => ⟨(n, v), rfl, rfl, by show RT n (hearN true n v) r obs'; rw [e2]; exact h⟩))
    · by_cases h3 : 80 ≤ n.seen.length
      · have e2 : hearN true n v = (n, zVo, false) := by unfold hearN; rw [tb_neg (fun h => absurd h.2.2 (by omega))]; rfl
        repeat' ((conv => whnf); first
          | refine ⟨_, rfl, ?_⟩
          | refine ⟨rfl, ?_⟩
          | refine ⟨_, ldc_cells hupd_at (Nat.le_of_ble_eq_true rfl), ?_⟩
          | refine ⟨_, ldc_cells (by first | assumption | exact zk ‹_› (by omega) | exact zk (zk ‹_› (by omega)) (by omega)) (Nat.le_of_ble_eq_true rfl), ?_⟩
          | refine ⟨_, _, hupd_at, rfl, rfl, Nat.le_of_ble_eq_true rfl, ?_⟩
          | refine ⟨_, _, rfl, rfl, rfl, Nat.le_of_ble_eq_true rfl, ?_⟩
          | (refine ⟨?_, _, (?_ : (_ : Option Ob) = _), rfl, rfl, ?_, ?_⟩; rotate_left; (exact hk_); exact Nat.le_of_ble_eq_true rfl)
          | refine ⟨_, _, _, _, ((by exact hk_) : (_ : Option Ob) = _), fill_at (by omega), rfl, rfl, Nat.le_of_ble_eq_true rfl, ?_⟩
          | refine ⟨_, _, _, _, ((by exact hk_) : (_ : Option Ob) = _), at_mapA (by assumption), rfl, rfl, Nat.le_of_ble_eq_true rfl, ?_⟩
          | refine ⟨_, ldc_pa (by exact hk_) (at_mapA (by assumption)) (Nat.le_of_ble_eq_true rfl), ?_⟩
          | refine ⟨_, _, _, ((by exact hk_) : (_ : Option Ob) = _), ?_⟩
          | refine ⟨_, ((by exact hk_) : (_ : Option Ob) = _), ?_⟩
          | (refine ⟨fun hc => ?_, fun hc => ?_⟩ <;> (try simp (disch := omega) only [List.length_map, wrap64] at hc) <;> (try (exfalso; first | contradiction | omega)))
          | (refine callt (b := [agg (voF ⟨_, _⟩)]) v_spec_l3Vote rfl ⟨⟨_, _⟩, rfl, (by exact pr_)⟩ (.inl rfl) (by first | assumption | omega) (fun r hr => K_spec_l3Vote (a := ⟨_, _⟩) hr) (fun hj => ?_) (fun hj => ?_) <;> (try simp only [etaPa, etaIt, etaVo] at hj) <;> (try contradiction))
          | fail)
        all_goals first
          | exact finM_tri (n := n) (o := (n, zVo, false)) (t := 0) (Nat.le_add_right _ _) (.inl ⟨rfl, rfl⟩) hk_ (fun ks => ⟨⟨_, rfl, (by first | exact .inl rfl | exact .inr ⟨rfl, rfl⟩)⟩, ⟨_, rfl, (by first | exact .inl rfl | exact .inr ⟨rfl, rfl⟩)⟩, ⟨_, rfl, (by first | exact .inl rfl | exact .inr ⟨rfl, rfl⟩)⟩, trivial⟩) (fun r obs' h => ⟨(n, v), rfl, rfl, by show RT n (hearN true n v) r obs'; rw [e2]; exact h⟩)
          | exact And.right (a := 0 ≤ 0) (finM_tri (n := n) (o := (n, zVo, false)) (t := 0) (rm' := 0) (lim := 0) (Nat.le_refl _) (.inl ⟨rfl, rfl⟩) hk_ (fun ks => ⟨⟨_, rfl, (by first | exact .inl rfl | exact .inr ⟨rfl, rfl⟩)⟩, ⟨_, rfl, (by first | exact .inl rfl | exact .inr ⟨rfl, rfl⟩)⟩, ⟨_, rfl, (by first | exact .inl rfl | exact .inr ⟨rfl, rfl⟩)⟩, trivial⟩) (fun r obs' h => ⟨(n, v), rfl, rfl, by show RT n (hearN true n v) r obs'; rw [e2]; exact h⟩))
      · have hH : HearsN n v := ⟨h1, h2, by omega⟩
        by_cases h4 : v ∈ n.seen
        · have e3 : hearN true n v = tryN true n := by unfold hearN; rw [tb_pos hH, addV_in h4]; rfl
          repeat' ((conv => whnf); first
            | refine mq_l3a (l := n.seen) (v := v) (t := 0) vT_spec_l3Add (by first | assumption | omega) hk_ hfs hfv hlt rfl (fun _ => ?_) (fun h => absurd h4 h)
            | refine ⟨_, rfl, ?_⟩
            | refine ⟨rfl, ?_⟩
            | refine ⟨_, ldc_cells hupd_at (Nat.le_of_ble_eq_true rfl), ?_⟩
            | refine ⟨_, ldc_cells (by first | assumption | exact zk ‹_› (by omega) | exact zk (zk ‹_› (by omega)) (by omega)) (Nat.le_of_ble_eq_true rfl), ?_⟩
            | refine ⟨_, _, hupd_at, rfl, rfl, Nat.le_of_ble_eq_true rfl, ?_⟩
            | refine ⟨_, _, rfl, rfl, rfl, Nat.le_of_ble_eq_true rfl, ?_⟩
            | (refine ⟨?_, _, (?_ : (_ : Option Ob) = _), rfl, rfl, ?_, ?_⟩; rotate_left; (exact hk_); exact Nat.le_of_ble_eq_true rfl)
            | refine ⟨_, _, _, _, ((by exact hk_) : (_ : Option Ob) = _), fill_at (by omega), rfl, rfl, Nat.le_of_ble_eq_true rfl, ?_⟩
            | refine ⟨_, _, _, _, ((by exact hk_) : (_ : Option Ob) = _), at_mapA (by assumption), rfl, rfl, Nat.le_of_ble_eq_true rfl, ?_⟩
            | refine ⟨_, ldc_pa (by exact hk_) (at_mapA (by assumption)) (Nat.le_of_ble_eq_true rfl), ?_⟩
            | refine ⟨_, _, _, ((by exact hk_) : (_ : Option Ob) = _), ?_⟩
            | refine ⟨_, ((by exact hk_) : (_ : Option Ob) = _), ?_⟩
            | (refine ⟨fun hc => ?_, fun hc => ?_⟩ <;> (try simp (disch := omega) only [List.length_map, wrap64] at hc) <;> (try (exfalso; first | contradiction | omega)))
            | (refine callt (b := [agg (voF ⟨_, _⟩)]) v_spec_l3Vote rfl ⟨⟨_, _⟩, rfl, (by exact pr_)⟩ (.inl rfl) (by first | assumption | omega) (fun r hr => K_spec_l3Vote (a := ⟨_, _⟩) hr) (fun hj => ?_) (fun hj => ?_) <;> (try simp only [etaPa, etaIt, etaVo] at hj) <;> (try contradiction))
            | fail)
          have hnb : NdB n := ⟨hid, hep, hsb⟩
          refine mq_tri (n := n) (o := tryN true n) (t := 0) v_spec_l12Try (by omega) (by first | assumption | omega) hk_ rfl (fun _ => rfl) ⟨n, rfl, rfl, hnb⟩ (fun r obs' h => K_spec_l12Try h) (fun t' H' ht' hH' hk' => ?_)
          have hG33 : H' 33 = some (.cells [cI 0, cI 0, cI 0, .e0]) := (hk' 33 (by first | decide | omega) (by omega)).trans hk_
          have hG49 : H' 49 = some (.cells [cI 0, .e0]) := (hk' 49 (by first | decide | omega) (by omega)).trans hk_
          have ht33 : t' ≠ 33 ∧ t' ≠ 49 := by rcases ht' with ⟨rfl, _⟩ | ⟨rfl, _⟩ <;> exact ⟨by omega, by omega⟩
          repeat' ((conv => whnf); first
            | refine ⟨_, rfl, ?_⟩
            | refine ⟨rfl, ?_⟩
            | refine ⟨_, ldc_cells hupd_at (Nat.le_of_ble_eq_true rfl), ?_⟩
            | refine ⟨_, ldc_cells (by first | assumption | exact zk ‹_› (by omega) | exact zk (zk ‹_› (by omega)) (by omega)) (Nat.le_of_ble_eq_true rfl), ?_⟩
            | refine ⟨_, _, hupd_at, rfl, rfl, Nat.le_of_ble_eq_true rfl, ?_⟩
            | refine ⟨_, _, rfl, rfl, rfl, Nat.le_of_ble_eq_true rfl, ?_⟩
            | (refine ⟨?_, _, (?_ : (_ : Option Ob) = _), rfl, rfl, ?_, ?_⟩; rotate_left; (exact hk_); exact Nat.le_of_ble_eq_true rfl)
            | refine ⟨_, _, _, _, ((by exact hk_) : (_ : Option Ob) = _), fill_at (by omega), rfl, rfl, Nat.le_of_ble_eq_true rfl, ?_⟩
            | refine ⟨_, _, _, _, ((by exact hk_) : (_ : Option Ob) = _), at_mapA (by assumption), rfl, rfl, Nat.le_of_ble_eq_true rfl, ?_⟩
            | refine ⟨_, ldc_pa (by exact hk_) (at_mapA (by assumption)) (Nat.le_of_ble_eq_true rfl), ?_⟩
            | refine ⟨_, _, _, ((by exact hk_) : (_ : Option Ob) = _), ?_⟩
            | refine ⟨_, ((by exact hk_) : (_ : Option Ob) = _), ?_⟩
            | (refine ⟨fun hc => ?_, fun hc => ?_⟩ <;> (try simp (disch := omega) only [List.length_map, wrap64] at hc))
            | fail)
          refine finM_tri (n := n) (o := tryN true n) (Nat.le_add_right _ _) ?_ ?_ (fun ks => ⟨⟨_, rfl, (by first | exact .inl rfl | exact .inr ⟨rfl, rfl⟩)⟩, ⟨_, rfl, (by first | exact .inl rfl | exact .inr ⟨rfl, rfl⟩)⟩, ⟨_, rfl, (by first | exact .inl rfl | exact .inr ⟨rfl, rfl⟩)⟩, trivial⟩) (fun r obs' h => ⟨(n, v), rfl, rfl, by show RT n (hearN true n v) r obs'; rw [e3]; exact h⟩)
          · rcases ht' with ⟨rfl, hs⟩ | ⟨rfl, h0⟩
            · exact .inl ⟨rfl, hs⟩
            · exact .inr ⟨by omega, hk_⟩
          · exact zk (zk hH' ht33.1) ht33.2
        · have e3 : hearN true n v = tryN true ⟨n.id, n.ep, n.vt, n.seen ++ [v]⟩ := by unfold hearN; rw [tb_pos hH, addV_new h4]; rfl
          repeat' ((conv => whnf); first
            | refine mq_l3a (l := n.seen) (v := v) (t := 0) vT_spec_l3Add (by first | assumption | omega) hk_ hfs hfv hlt rfl (fun h => absurd h h4) (fun _ => ?_)
            | refine ⟨_, rfl, ?_⟩
            | refine ⟨rfl, ?_⟩
            | refine ⟨_, ldc_cells hupd_at (Nat.le_of_ble_eq_true rfl), ?_⟩
            | refine ⟨_, ldc_cells (by first | assumption | exact zk ‹_› (by omega) | exact zk (zk ‹_› (by omega)) (by omega)) (Nat.le_of_ble_eq_true rfl), ?_⟩
            | refine ⟨_, _, hupd_at, rfl, rfl, Nat.le_of_ble_eq_true rfl, ?_⟩
            | refine ⟨_, _, rfl, rfl, rfl, Nat.le_of_ble_eq_true rfl, ?_⟩
            | (refine ⟨?_, _, (?_ : (_ : Option Ob) = _), rfl, rfl, ?_, ?_⟩; rotate_left; (exact hk_); exact Nat.le_of_ble_eq_true rfl)
            | refine ⟨_, _, _, _, ((by exact hk_) : (_ : Option Ob) = _), fill_at (by omega), rfl, rfl, Nat.le_of_ble_eq_true rfl, ?_⟩
            | refine ⟨_, _, _, _, ((by exact hk_) : (_ : Option Ob) = _), at_mapA (by assumption), rfl, rfl, Nat.le_of_ble_eq_true rfl, ?_⟩
            | refine ⟨_, ldc_pa (by exact hk_) (at_mapA (by assumption)) (Nat.le_of_ble_eq_true rfl), ?_⟩
            | refine ⟨_, _, _, ((by exact hk_) : (_ : Option Ob) = _), ?_⟩
            | refine ⟨_, ((by exact hk_) : (_ : Option Ob) = _), ?_⟩
            | (refine ⟨fun hc => ?_, fun hc => ?_⟩ <;> (try simp (disch := omega) only [List.length_map, wrap64] at hc) <;> (try (exfalso; first | contradiction | omega)))
            | (refine callt (b := [agg (voF ⟨_, _⟩)]) v_spec_l3Vote rfl ⟨⟨_, _⟩, rfl, (by exact pr_)⟩ (.inl rfl) (by first | assumption | omega) (fun r hr => K_spec_l3Vote (a := ⟨_, _⟩) hr) (fun hj => ?_) (fun hj => ?_) <;> (try simp only [etaPa, etaIt, etaVo] at hj) <;> (try contradiction))
            | fail)
          have hnb : NdB (⟨n.id, n.ep, n.vt, n.seen ++ [v]⟩ : Nd) := ⟨hid, hep, by show (n.seen ++ [v]).length ≤ 80; rw [List.length_append, List.length_singleton]; omega, fun u hu => by rcases List.mem_append.1 hu with g | g; exact hsb.2 u g; rw [List.mem_singleton.1 g]; exact h1⟩
          refine mq_tri (n := (⟨n.id, n.ep, n.vt, n.seen ++ [v]⟩ : Nd)) (o := tryN true (⟨n.id, n.ep, n.vt, n.seen ++ [v]⟩ : Nd)) (t := _) v_spec_l12Try (by omega) (by first | assumption | omega) hk_ rfl (fun _ => rfl) ⟨(⟨n.id, n.ep, n.vt, n.seen ++ [v]⟩ : Nd), rfl, rfl, hnb⟩ (fun r obs' h => K_spec_l12Try h) (fun t' H' ht' hH' hk' => ?_)
          have hG33 : H' 33 = some (.cells [cI 0, cI 0, cI 0, .e0]) := (hk' 33 (by first | decide | omega) (by omega)).trans hk_
          have hG49 : H' 49 = some (.cells [cI 0, .e0]) := (hk' 49 (by first | decide | omega) (by omega)).trans hk_
          have ht33 : t' ≠ 33 ∧ t' ≠ 49 := by rcases ht' with ⟨rfl, _⟩ | ⟨rfl, _⟩ <;> exact ⟨by omega, by omega⟩
          repeat' ((conv => whnf); first
            | refine ⟨_, rfl, ?_⟩
            | refine ⟨rfl, ?_⟩
            | refine ⟨_, ldc_cells hupd_at (Nat.le_of_ble_eq_true rfl), ?_⟩
            | refine ⟨_, ldc_cells (by first | assumption | exact zk ‹_› (by omega) | exact zk (zk ‹_› (by omega)) (by omega)) (Nat.le_of_ble_eq_true rfl), ?_⟩
            | refine ⟨_, _, hupd_at, rfl, rfl, Nat.le_of_ble_eq_true rfl, ?_⟩
            | refine ⟨_, _, rfl, rfl, rfl, Nat.le_of_ble_eq_true rfl, ?_⟩
            | (refine ⟨?_, _, (?_ : (_ : Option Ob) = _), rfl, rfl, ?_, ?_⟩; rotate_left; (exact hk_); exact Nat.le_of_ble_eq_true rfl)
            | refine ⟨_, _, _, _, ((by exact hk_) : (_ : Option Ob) = _), fill_at (by omega), rfl, rfl, Nat.le_of_ble_eq_true rfl, ?_⟩
            | refine ⟨_, _, _, _, ((by exact hk_) : (_ : Option Ob) = _), at_mapA (by assumption), rfl, rfl, Nat.le_of_ble_eq_true rfl, ?_⟩
            | refine ⟨_, ldc_pa (by exact hk_) (at_mapA (by assumption)) (Nat.le_of_ble_eq_true rfl), ?_⟩
            | refine ⟨_, _, _, ((by exact hk_) : (_ : Option Ob) = _), ?_⟩
            | refine ⟨_, ((by exact hk_) : (_ : Option Ob) = _), ?_⟩
            | (refine ⟨fun hc => ?_, fun hc => ?_⟩ <;> (try simp (disch := omega) only [List.length_map, wrap64] at hc))
            | fail)
          refine finM_tri (n := n) (o := tryN true (⟨n.id, n.ep, n.vt, n.seen ++ [v]⟩ : Nd)) (Nat.le_add_right _ _) ?_ ?_ (fun ks => ⟨⟨_, rfl, (by first | exact .inl rfl | exact .inr ⟨rfl, rfl⟩)⟩, ⟨_, rfl, (by first | exact .inl rfl | exact .inr ⟨rfl, rfl⟩)⟩, ⟨_, rfl, (by first | exact .inl rfl | exact .inr ⟨rfl, rfl⟩)⟩, trivial⟩) (fun r obs' h => ⟨(n, v), rfl, rfl, by show RT n (hearN true n v) r obs'; rw [e3]; exact h⟩)
          · refine .inr ⟨by rcases ht' with ⟨rfl, hs⟩ | ⟨rfl, h0⟩ <;> omega, ?_⟩
            have hG0 : H' 0 = none := (hk' 0 (by omega) (by omega)).trans hk_
            exact hk_
          · exact zk (zk hH' ht33.1) ht33.2
  · have e2 : hearN true n v = (n, zVo, false) := by unfold hearN; rw [tb_neg (fun h => h1 h.1)]; rfl
    repeat' ((conv => whnf); first
      | refine ⟨_, rfl, ?_⟩
      | refine ⟨rfl, ?_⟩
      | refine ⟨_, ldc_cells hupd_at (Nat.le_of_ble_eq_true rfl), ?_⟩
      | refine ⟨_, ldc_cells (by first | assumption | exact zk ‹_› (by omega) | exact zk (zk ‹_› (by omega)) (by omega)) (Nat.le_of_ble_eq_true rfl), ?_⟩
      | refine ⟨_, _, hupd_at, rfl, rfl, Nat.le_of_ble_eq_true rfl, ?_⟩
      | refine ⟨_, _, rfl, rfl, rfl, Nat.le_of_ble_eq_true rfl, ?_⟩
      | (refine ⟨?_, _, (?_ : (_ : Option Ob) = _), rfl, rfl, ?_, ?_⟩; rotate_left; (exact hk_); exact Nat.le_of_ble_eq_true rfl)
      | refine ⟨_, _, _, _, ((by exact hk_) : (_ : Option Ob) = _), fill_at (by omega), rfl, rfl, Nat.le_of_ble_eq_true rfl, ?_⟩
      | refine ⟨_, _, _, _, ((by exact hk_) : (_ : Option Ob) = _), at_mapA (by assumption), rfl, rfl, Nat.le_of_ble_eq_true rfl, ?_⟩
      | refine ⟨_, ldc_pa (by exact hk_) (at_mapA (by assumption)) (Nat.le_of_ble_eq_true rfl), ?_⟩
      | refine ⟨_, _, _, ((by exact hk_) : (_ : Option Ob) = _), ?_⟩
      | refine ⟨_, ((by exact hk_) : (_ : Option Ob) = _), ?_⟩
      | (refine ⟨fun hc => ?_, fun hc => ?_⟩ <;> (try simp (disch := omega) only [List.length_map, wrap64] at hc) <;> (try (exfalso; first | contradiction | omega)))
      | (refine callt (b := [agg (voF ⟨_, _⟩)]) v_spec_l3Vote rfl ⟨⟨_, _⟩, rfl, (by exact pr_)⟩ (.inl rfl) (by first | assumption | omega) (fun r hr => K_spec_l3Vote (a := ⟨_, _⟩) hr) (fun hj => ?_) (fun hj => ?_) <;> (try simp only [etaPa, etaIt, etaVo] at hj) <;> (try contradiction))
      | fail)
    all_goals first
      | exact finM_tri (n := n) (o := (n, zVo, false)) (t := 0) (Nat.le_add_right _ _) (.inl ⟨rfl, rfl⟩) hk_ (fun ks => ⟨⟨_, rfl, (by first | exact .inl rfl | exact .inr ⟨rfl, rfl⟩)⟩, ⟨_, rfl, (by first | exact .inl rfl | exact .inr ⟨rfl, rfl⟩)⟩, ⟨_, rfl, (by first | exact .inl rfl | exact .inr ⟨rfl, rfl⟩)⟩, trivial⟩) (fun r obs' h => ⟨(n, v), rfl, rfl, by show RT n (hearN true n v) r obs'; rw [e2]; exact h⟩)
      | exact And.right (a := 0 ≤ 0) (finM_tri (n := n) (o := (n, zVo, false)) (t := 0) (rm' := 0) (lim := 0) (Nat.le_refl _) (.inl ⟨rfl, rfl⟩) hk_ (fun ks => ⟨⟨_, rfl, (by first | exact .inl rfl | exact .inr ⟨rfl, rfl⟩)⟩, ⟨_, rfl, (by first | exact .inl rfl | exact .inr ⟨rfl, rfl⟩)⟩, ⟨_, rfl, (by first | exact .inl rfl | exact .inr ⟨rfl, rfl⟩)⟩, trivial⟩) (fun r obs' h => ⟨(n, v), rfl, rfl, by show RT n (hearN true n v) r obs'; rw [e2]; exact h⟩))
set_option maxHeartbeats 4000000 in
set_option maxRecDepth 100000 in
theorem v_spec_NodeHear : Valid Try.prog n_spec_NodeHear S_spec_NodeHear := by
  refine valid_of_swp mixed is_spec_NodeHear (by rintro _ ⟨a, rfl, _⟩; exact Nat.le_of_ble_eq_true rfl) ?_
  rintro _ rm ⟨⟨n, v⟩, rfl, hpre⟩ hl
  try dsimp only at hpre
  have hpre0 := hpre
  obtain ⟨hp1, hp2⟩ := hpre
  by_cases hok : NodeOk n
  · have hnb := hok.ndb
    have hst : S_spec_l12Copy.st = 0 := rfl
    have e2 : hearT n v = hearN true n v := by unfold hearT; rw [tb_pos hok]; exact (hearN_tf hok.2.2.2.2.1).symm
    repeat' ((conv => whnf); first
      | refine mq_cpy (n := n) v_spec_l12Copy (by first | assumption | omega) hp1 rfl ?_
      | refine ⟨_, rfl, ?_⟩
      | refine ⟨rfl, ?_⟩
      | refine ⟨_, ldc_cells hupd_at (Nat.le_of_ble_eq_true rfl), ?_⟩
      | refine ⟨_, ldc_cells (by first | assumption | exact zk ‹_› (by omega) | exact zk (zk ‹_› (by omega)) (by omega)) (Nat.le_of_ble_eq_true rfl), ?_⟩
      | refine ⟨_, _, hupd_at, rfl, rfl, Nat.le_of_ble_eq_true rfl, ?_⟩
      | refine ⟨_, _, rfl, rfl, rfl, Nat.le_of_ble_eq_true rfl, ?_⟩
      | (refine ⟨?_, _, (?_ : (_ : Option Ob) = _), rfl, rfl, ?_, ?_⟩; rotate_left; (exact hk_); exact Nat.le_of_ble_eq_true rfl)
      | refine ⟨_, _, _, _, ((by exact hk_) : (_ : Option Ob) = _), fill_at (by omega), rfl, rfl, Nat.le_of_ble_eq_true rfl, ?_⟩
      | refine ⟨_, _, _, _, ((by exact hk_) : (_ : Option Ob) = _), at_mapA (by assumption), rfl, rfl, Nat.le_of_ble_eq_true rfl, ?_⟩
      | refine ⟨_, ldc_pa (by exact hk_) (at_mapA (by assumption)) (Nat.le_of_ble_eq_true rfl), ?_⟩
      | refine ⟨_, ((by exact hk_) : (_ : Option Ob) = _), ?_⟩
      | (refine ⟨fun hc => ?_, fun hc => ?_⟩ <;> (try simp (disch := omega) only [List.length_map, wrap64] at hc) <;> (try (exfalso; first | contradiction | omega)))
      | (refine callt (b := [agg (ndF ⟨_, _, _, _⟩)]) v_spec_NodeOk rfl ⟨⟨_, _, _, _⟩, rfl, (by exact pr_)⟩ (.inl rfl) (by first | assumption | omega) (fun r hr => K_spec_NodeOk (a := ⟨_, _, _, _⟩) hr) (fun hj => ?_) (fun hj => ?_) <;> (try simp only [etaPa, etaIt, etaVo] at hj) <;> (try simp only [etaNd, etaWo] at hj) <;> (try contradiction))
      | fail)
    refine mq_tri (n := n) (o := hearN true n v) (t := _) v_spec_l12Hear (by omega) (by first | assumption | omega) hk_ rfl (fun _ => rfl) ⟨(n, v), rfl, rfl, hnb, hp2⟩ (fun r obs' h => K_spec_l12Hear h) (fun t' H' ht' hH' hk' => ?_)
    have hG33 : H' 33 = some (.cells [cI 0, cI 0, cI 0, .e0]) := (hk' 33 (by first | decide | omega) (by omega)).trans hk_
    have hG49 : H' 49 = some (.cells [cI 0, .e0]) := (hk' 49 (by first | decide | omega) (by omega)).trans hk_
    have hG0 : H' 0 = none := (hk' 0 (by omega) (by omega)).trans hk_
    have ht33 : t' ≠ 33 ∧ t' ≠ 49 := by rcases ht' with ⟨rfl, _⟩ | ⟨rfl, _⟩ <;> exact ⟨by omega, by omega⟩
    repeat' ((conv => whnf); first
      | refine ⟨_, rfl, ?_⟩
      | refine ⟨rfl, ?_⟩
      | refine ⟨_, ldc_cells hupd_at (Nat.le_of_ble_eq_true rfl), ?_⟩
      | refine ⟨_, ldc_cells (by first | assumption | exact zk ‹_› (by omega) | exact zk (zk ‹_› (by omega)) (by omega)) (Nat.le_of_ble_eq_true rfl), ?_⟩
      | refine ⟨_, _, hupd_at, rfl, rfl, Nat.le_of_ble_eq_true rfl, ?_⟩
      | refine ⟨_, _, rfl, rfl, rfl, Nat.le_of_ble_eq_true rfl, ?_⟩
      | (refine ⟨?_, _, (?_ : (_ : Option Ob) = _), rfl, rfl, ?_, ?_⟩; rotate_left; (exact hk_); exact Nat.le_of_ble_eq_true rfl)
      | refine ⟨_, _, _, _, ((by exact hk_) : (_ : Option Ob) = _), fill_at (by omega), rfl, rfl, Nat.le_of_ble_eq_true rfl, ?_⟩
      | refine ⟨_, _, _, _, ((by exact hk_) : (_ : Option Ob) = _), at_mapA (by assumption), rfl, rfl, Nat.le_of_ble_eq_true rfl, ?_⟩
      | refine ⟨_, ldc_pa (by exact hk_) (at_mapA (by assumption)) (Nat.le_of_ble_eq_true rfl), ?_⟩
      | refine ⟨_, ((by exact hk_) : (_ : Option Ob) = _), ?_⟩
      | (refine ⟨fun hc => ?_, fun hc => ?_⟩ <;> (try simp (disch := omega) only [List.length_map, wrap64] at hc))
      | fail)
    exact ⟨⟨_, rfl, rfl, (n, v), rfl, (by show _ = trip (hearT n v); rw [e2]; rfl)⟩, Nat.le_add_right _ _, h0_⟩
  · have e2 : hearT n v = (zNd, zVo, false) := by unfold hearT; rw [tb_neg hok]; rfl
    repeat' ((conv => whnf); first
      | refine ⟨_, rfl, ?_⟩
      | refine ⟨rfl, ?_⟩
      | refine ⟨_, ldc_cells hupd_at (Nat.le_of_ble_eq_true rfl), ?_⟩
      | refine ⟨_, ldc_cells (by first | assumption | exact zk ‹_› (by omega) | exact zk (zk ‹_› (by omega)) (by omega)) (Nat.le_of_ble_eq_true rfl), ?_⟩
      | refine ⟨_, _, hupd_at, rfl, rfl, Nat.le_of_ble_eq_true rfl, ?_⟩
      | refine ⟨_, _, rfl, rfl, rfl, Nat.le_of_ble_eq_true rfl, ?_⟩
      | (refine ⟨?_, _, (?_ : (_ : Option Ob) = _), rfl, rfl, ?_, ?_⟩; rotate_left; (exact hk_); exact Nat.le_of_ble_eq_true rfl)
      | refine ⟨_, _, _, _, ((by exact hk_) : (_ : Option Ob) = _), fill_at (by omega), rfl, rfl, Nat.le_of_ble_eq_true rfl, ?_⟩
      | refine ⟨_, _, _, _, ((by exact hk_) : (_ : Option Ob) = _), at_mapA (by assumption), rfl, rfl, Nat.le_of_ble_eq_true rfl, ?_⟩
      | refine ⟨_, ldc_pa (by exact hk_) (at_mapA (by assumption)) (Nat.le_of_ble_eq_true rfl), ?_⟩
      | refine ⟨_, ((by exact hk_) : (_ : Option Ob) = _), ?_⟩
      | (refine ⟨fun hc => ?_, fun hc => ?_⟩ <;> (try simp (disch := omega) only [List.length_map, wrap64] at hc) <;> (try (exfalso; first | contradiction | omega)))
      | (refine callt (b := [agg (ndF ⟨_, _, _, _⟩)]) v_spec_NodeOk rfl ⟨⟨_, _, _, _⟩, rfl, (by exact pr_)⟩ (.inl rfl) (by first | assumption | omega) (fun r hr => K_spec_NodeOk (a := ⟨_, _, _, _⟩) hr) (fun hj => ?_) (fun hj => ?_) <;> (try simp only [etaPa, etaIt, etaVo] at hj) <;> (try simp only [etaNd, etaWo] at hj) <;> (try contradiction))
      | exact ⟨⟨_, rfl, rfl, (n, v), rfl, (by show _ = trip (hearT n v); rw [e2]; rfl)⟩, Nat.le_refl _, h0_⟩
      | fail)
end Av
end Go.Proofs.Ytdboofnogabefaa
