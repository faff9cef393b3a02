/- The walks: the reference's functions on nodes. -/
import Derived.Test.YtdboofnogabefaaJ43
set_option linter.unusedVariables false
set_option linter.unusedSimpArgs false
namespace Go.Proofs.Ytdboofnogabefaa
namespace Av
open Go.RowKit
theorem tkC_snoc {k : Nat} {l : List Vo} {v : Vo} : AC.tk k 2 (l.map voF ++ [voF v]) = tkC k (l ++ [v]) := by simp [tkC]
theorem tokO_snoc {l : List Vo} {v : Vo} : Ob.tok ty_impl_Vote 2 ((l.map voF).length + [voF v].length) = tokO (l ++ [v]) := by simp [tokO]
theorem ap_b {l : List Vo} {f : List FV} (hb : l.length < LIM) : ((l.map voF).length + [f].length) * 32 ≤ 140737488355328 := by
  rw [List.length_map]; simp only [LIM] at hb; simp only [List.length_cons, List.length_nil]; omega
section
variable {P : Program} {g : Nat} {S : MSpec} {fr : Env} {H : Hp} {nm nx rm rm' lim k : Nat} {K : KV} {xs : List (X × List (Option Nat))} {res : List Rs} {post : AV → List (Option Ob) → Prop}
/-- A node in, a node and more out. -/
theorem mq_tri {n : Nd} {o : Tri} {t : Nat} {ar : List AV} (hv : ValidM P g S) (hne : nm ≠ t) (hl : rm + S.cost ≤ LIM) (ht : H t = some (tokO n.seen)) (ha : nrmArgs fr xs = .w (.g (ndK n t)) :: ar) (har : ∀ ρ, ar.map (AV.ren ρ) = ar) (hpre : S.pre (.w (.g (ndK n 0)) :: ar) [tokO n.seen])
    (hpost : ∀ r obs', S.post (.w (.g (ndK n 0)) :: ar) [tokO n.seen] r obs' → RT n o r obs')
    (hK : ∀ (t' : Nat) (H' : Hp), ((t' = t ∧ o.1.seen = n.seen) ∨ (t' = nm ∧ H' t = none)) → H' t' = some (tokO o.1.seen) → (∀ k, k ≠ t → k ≠ nm → H' k = H k) → K (tripK o t') H' (rm + S.cost)) : MQ P nm fr H rm K g S xs := by
  have e0 : nmapS S.st [t] nm 0 = t := nmap_lt (s := S.st) rfl
  have e1 : nmapS S.st [t] nm 1 = nm := nmap_next (ks := [t])
  refine ⟨⟨hv, hl, [t], .w (.g (ndK n 0)) :: ar, [tokO n.seen], by simp, rfl, fun i k' h => ?_, ?_, hpre, fun r obs' hp _ _ => ?_⟩⟩
  · match i, h with
    | 0, h => cases h; exact ⟨_, rfl, ht⟩
    | i + 1, h => simp at h
  · rw [ha]
    show AV.w (.g (ndK n (nmapS S.st [t] nm 0))) :: ar.map (AV.ren _) = _
    rw [e0, har]
  · rcases hpost r obs' hp with ⟨hs, rfl, rfl⟩ | ⟨rfl, rfl⟩
    · show K (tripK o (nmapS S.st [t] nm 0)) (hupd (nmapS S.st [t] nm 0) (some (tokO n.seen)) H) _
      rw [e0]
      exact hK t _ (.inl ⟨rfl, hs⟩) (by rw [hs]; exact hupd_at) fun k hk _ => hupd_ne hk
    · show K (tripK o (nmapS S.st [t] nm 1)) (hupd (nmapS S.st [t] nm 1) (some (tokO o.1.seen)) (hupd (nmapS S.st [t] nm 0) none H)) _
      rw [e0, e1]
      exact hK nm _ (.inr ⟨rfl, by rw [hupd_ne hne.symm]; exact hupd_at⟩) hupd_at fun k hk hk' => by rw [hupd_ne hk', hupd_ne hk]
theorem mq_cpy {n : Nd} (hv : ValidM P g S_spec_l12Copy) (hl : rm ≤ LIM) (hf : FitVs n.seen) (ha : nrmArgs fr xs = [agg (ndF n)]) (hK : K (.w (.g (ndK n nm))) (hupd nm (some (tokO n.seen)) H) rm) : MQ P nm fr H rm K g S_spec_l12Copy xs := by
  refine ⟨⟨hv, hl, [], [agg (ndF n)], [], by simp, rfl, fun i k' h => by simp at h, by rw [ha]; rfl, ⟨n, rfl, rfl, hf⟩, fun r obs' hp _ _ => ?_⟩⟩
  obtain ⟨rfl, rfl⟩ := K_spec_l12Copy hp
  show K (.w (.g (ndK n (nmapS 0 [] nm 0)))) (hupd (nmapS 0 [] nm 0) (some (tokO n.seen)) H) _
  rw [show nmapS 0 [] nm 0 = nm from nmap_next (ks := [])]
  exact hK
theorem mq_l3c {l : List Vo} (hv : ValidM P g SM_spec_l3Copy) (hl : rm ≤ LIM) (hf : FitVs l) (ha : nrmArgs fr xs = [one (vsF l)]) (hK : K (.w (.o (tkC nm l))) (hupd nm (some (tokO l)) H) rm) : MQ P nm fr H rm K g SM_spec_l3Copy xs := by
  refine ⟨⟨hv, hl, [], [one (vsF l)], [], by simp, rfl, fun i k' h => by simp at h, by rw [ha]; rfl, ⟨l, rfl, rfl, hf⟩, fun r obs' hp _ _ => ?_⟩⟩
  obtain ⟨rfl, rfl⟩ := KM_spec_l3Copy hp
  show K (.w (.o (tkC (nmapS 0 [] nm 0) l))) (hupd (nmapS 0 [] nm 0) (some (tokO l)) H) _
  rw [show nmapS 0 [] nm 0 = nm from nmap_next (ks := [])]
  exact hK
/-- What such functions end with. -/
theorem finM_one {M : Nat} {r0 : AV} {az : List AW} {l : List Vo} {k : Nat} (hM : M ≤ 1) (hMk : M = 1 → k = 0) (hrm : rm' ≤ lim) (hk : H k = some (tokO l)) (hres : resM [k] fr H res az) (hr : ∀ nx, resV az = r0.ren (nmap [k] nx)) (hpost : post r0 [some (tokO l)]) :
    rm' ≤ lim ∧ ∃ (ks : List Nat) (aw : List AW) (r : AV) (obs' : List (Option Ob)), resM ks fr H res aw ∧ resV aw = r.ren (nmap ks nx) ∧ post r obs' ∧
      ks.Nodup ∧ (∀ i, i < M → ks[i]? = some i) ∧ obs'.length = ks.length ∧
      ∀ (i k : Nat), ks[i]? = some k → (∃ ob : Ob, obs'[i]? = some (some ob) ∧ H k = some (ob.ren (nmap ks nx))) ∨ (obs'[i]? = some none ∧ H k = none) := by
  refine ⟨hrm, [k], az, r0, _, hres, hr nx, hpost, by simp, fun i hi => ?_, rfl, fun i k' h => ?_⟩
  · have h1 : M = 1 := by omega
    have : i = 0 := by omega
    subst this; rw [hMk h1]; rfl
  · match i, h with
    | 0, h => cases h; exact .inl ⟨_, rfl, hk⟩
    | i + 1, h => simp at h
theorem finM_snd {r0 : AV} {az : List AW} {l : List Vo} {k : Nat} (hrm : rm' ≤ lim) (hk0 : 1 ≤ k) (h0 : H 0 = none) (hk : H k = some (tokO l)) (hres : resM [0, k] fr H res az) (hr : ∀ nx, resV az = r0.ren (nmap [0, k] nx)) (hpost : post r0 [none, some (tokO l)]) :
    rm' ≤ lim ∧ ∃ (ks : List Nat) (aw : List AW) (r : AV) (obs' : List (Option Ob)), resM ks fr H res aw ∧ resV aw = r.ren (nmap ks nx) ∧ post r obs' ∧
      ks.Nodup ∧ (∀ i, i < 1 → ks[i]? = some i) ∧ obs'.length = ks.length ∧
      ∀ (i k : Nat), ks[i]? = some k → (∃ ob : Ob, obs'[i]? = some (some ob) ∧ H k = some (ob.ren (nmap ks nx))) ∨ (obs'[i]? = some none ∧ H k = none) := by
  refine ⟨hrm, [0, k], az, r0, _, hres, hr nx, hpost, by simp; omega, fun i hi => ?_, rfl, fun i k' h => ?_⟩
  · have : i = 0 := by omega
    subst this; rfl
  · match i, h with
    | 0, h => cases h; exact .inr ⟨rfl, h0⟩
    | 1, h => cases h; exact .inl ⟨_, rfl, hk⟩
    | i + 2, h => simp at h
theorem ren0 {o : Tri} {nx : Nat} : tripK o 0 = (tripK o 0).ren (nmap [0] nx) := by rw [tripK_ren, show nmap [0] nx 0 = 0 from nmap_lt (s := 0) rfl]
theorem ren1 {o : Tri} {k nx : Nat} : tripK o k = (tripK o 1).ren (nmap [0, k] nx) := by rw [tripK_ren, show nmap [0, k] nx 1 = k from nmap_lt (s := 0) rfl]
theorem finM_tri {n : Nd} {o : Tri} {t : Nat} (hrm : rm' ≤ lim) (ht : (t = 0 ∧ o.1.seen = n.seen) ∨ (1 ≤ t ∧ H 0 = none)) (hH : H t = some (tokO o.1.seen)) (hres : ∀ ks, resM ks fr H res [.g (ndK o.1 t), .g ((voF o.2.1).map AC.c), .o (cB o.2.2)])
    (hpost : ∀ r obs', RT n o r obs' → post r obs') :
    rm' ≤ lim ∧ ∃ (ks : List Nat) (aw : List AW) (r : AV) (obs' : List (Option Ob)), resM ks fr H res aw ∧ resV aw = r.ren (nmap ks nx) ∧ post r obs' ∧
      ks.Nodup ∧ (∀ i, i < 1 → ks[i]? = some i) ∧ obs'.length = ks.length ∧
      ∀ (i k : Nat), ks[i]? = some k → (∃ ob : Ob, obs'[i]? = some (some ob) ∧ H k = some (ob.ren (nmap ks nx))) ∨ (obs'[i]? = some none ∧ H k = none) := by
  rcases ht with ⟨rfl, hs⟩ | ⟨h1, h0⟩
  · exact finM_one (l := n.seen) (Nat.le_refl _) (fun _ => rfl) hrm (by rw [← hs]; exact hH) (hres _) (fun nx => ren0) (hpost _ _ (.inl ⟨hs, rfl, rfl⟩))
  · exact finM_snd hrm h1 h0 hH (hres _) (fun nx => ren1) (hpost _ _ (.inr ⟨rfl, rfl⟩))
theorem ren_nd {n : Nd} {k nx : Nat} : AV.w (.g (ndK n k)) = (AV.w (.g (ndK n 0))).ren (nmap [k] nx) := by
  show _ = AV.w (.g (ndK n (nmap [k] nx 0))); rw [show nmap [k] nx 0 = k from nmap_lt (s := 0) rfl]
end
theorem allFromM_cl {l : List Vo} {N : Nat} : ∀ {r : List Vo} {out : List (List It)}, (∀ v, v ∈ r → v.c.length ≤ N) → (∀ c, c ∈ out → c.length ≤ N) → ∀ c, c ∈ allFromM l r out → c.length ≤ N
  | [], _, _, ho, c, hc => ho c hc
  | v :: r, out, hr, ho, c, hc => by
    refine allFromM_cl (fun u hu => hr u (List.mem_cons_of_mem _ hu)) (fun d hd => ?_) c hc
    split at hd
    · rcases List.mem_append.1 hd with g | g
      · exact ho d g
      · rw [List.mem_singleton.1 g]; exact hr v List.mem_cons_self
    · exact ho d hd
theorem longer_len {N : Nat} : ∀ (L : List (List It)) (o : List It), (∀ c, c ∈ L → c.length ≤ N) → o.length ≤ N → (L.foldl longer o).length ≤ N
  | [], o, _, ho => ho
  | c :: L, o, hL, ho => by
    refine longer_len L _ (fun d hd => hL d (List.mem_cons_of_mem _ hd)) ?_
    unfold longer
    split
    · exact hL c List.mem_cons_self
    · exact ho
theorem tipM_len {l : List Vo} {N : Nat} (h : ∀ v, v ∈ l → v.c.length ≤ N) : (tipM l).length ≤ N := by
  refine longer_len _ _ (fun c hc => ?_) (Nat.zero_le _)
  refine allFromM_cl (l := l) h (fun d hd => ?_) c hc
  rw [List.mem_singleton.1 hd]; exact Nat.zero_le _
set_option maxHeartbeats 4000000 in
set_option maxRecDepth 100000 in
theorem v_spec_l3Copy_o : ValidM Try.prog n_spec_l3Copy_o SM_spec_l3Copy := by
  refine validM_of_swp mixed is_spec_l3Copy_o (by rintro _ _ ⟨a, rfl, _⟩; exact Nat.le_of_ble_eq_true rfl) ?_
  rintro _ _ rm ⟨l, rfl, rfl, hpre⟩ hl
  change swp _ _ _ _ _ 0 _
  have hlen := hpre.1
  conv => whnf
  refine ⟨fun fr H nx rm' => ∃ (i k : Nat), Has fr [(0, one (vsF l)), (3, .w (.o (tkC k (l.take i)))), (4, I i)] ∧ i ≤ l.length ∧ H k = some (tokO (l.take i)) ∧ k < nx ∧ rm' = rm,
    fun fr _ _ _ => l.length - ix (fr 4), ⟨0, _, ⟨rfl, rfl, rfl, trivial⟩, Nat.zero_le _, hupd_at, ln_, rfl⟩, ?_⟩
  rintro fr H nx rm' ⟨i, k, hfr, hi, hk, hkn, rfl⟩
  rw [hfr.eq]
  rcases Nat.lt_or_ge i l.length with hi' | hi'
  · obtain ⟨x, hx⟩ : ∃ x, l[i]? = some x := ⟨_, List.getElem?_eq_getElem hi'⟩
    have hxv : FitV x := hpre.2 x (List.mem_of_getElem? hx)
    have htl : (l.take i).length < LIM := by rw [List.length_take]; omega
    have hts : l.take (i + 1) = l.take i ++ [x] := by rw [List.take_add_one, hx]; rfl
    repeat' ((conv => whnf); first
      | refine ⟨_, _, rfl, at_map hx, ?_⟩
      | (refine ⟨_, news_ow hupd_at, newsz_ow hupd_at, [voF x], rfl, zk hk (by omega), rfl, ap_b htl, ?_⟩; rw [tkC_snoc, tokO_snoc])
      | refine ⟨_, rfl, ?_⟩
      | refine ⟨rfl, ?_⟩
      | refine ⟨_, _, rfl, at_map (by assumption), ?_⟩
      | refine idx_mapX (i := 0) rfl (by assumption) ?_
      | refine idx_map (by omega) (fun x hx => ?_)
      | refine idx_mapX (wrap_dn (by omega) (by omega)) (by assumption) ?_
      | refine idx_mapE (wrap_dn (by omega) (by omega)) (by omega) (fun x hx => ?_)
      | refine idx_mapL (by omega) (by first | assumption | (simp only [LIM]; omega)) (fun x hx => ?_)
      | refine idx_mapI (by omega) (by first | omega | (simp only [List.length_map] at *; omega)) (fun x hx => ?_)
      | refine ⟨_, ldc_cells hupd_at (Nat.le_of_ble_eq_true rfl), ?_⟩
      | refine ⟨_, ldc_cells (by first | assumption | exact zk ‹_› (by omega) | exact zk (zk ‹_› (by omega)) (by omega)) (Nat.le_of_ble_eq_true rfl), ?_⟩
      | refine ⟨_, _, hupd_at, rfl, rfl, Nat.le_of_ble_eq_true rfl, ?_⟩
      | refine ⟨_, _, rfl, rfl, rfl, Nat.le_of_ble_eq_true rfl, ?_⟩
      | (refine ⟨?_, _, (?_ : (_ : Option Ob) = _), rfl, rfl, ?_, ?_⟩; rotate_left; (exact hk_); exact Nat.le_of_ble_eq_true rfl)
      | refine ⟨_, _, _, _, ((by exact hk_) : (_ : Option Ob) = _), rfl, at_mapA (by assumption), ?_⟩
      | refine idx_ow (by exact hk_) (by omega) (fun x hx => ?_)
      | refine ⟨_, _, _, _, ((by exact hk_) : (_ : Option Ob) = _), rfl, fill_at (by omega), ?_⟩
      | refine ⟨_, _, _, _, ((by exact hk_) : (_ : Option Ob) = _), fill_at (by omega), rfl, rfl, Nat.le_of_ble_eq_true rfl, ?_⟩
      | refine idx_owL (by exact hk_) (by omega) (by simp only [LIM]; omega) (fun x hx => ?_)
      | refine idx_owI (by exact hk_) (by omega) (by first | omega | (simp only [List.length_map] at *; omega)) (fun x hx => ?_)
      | refine ⟨_, _, _, _, ((by exact hk_) : (_ : Option Ob) = _), at_mapA (by assumption), rfl, rfl, Nat.le_of_ble_eq_true rfl, ?_⟩
      | refine ⟨_, ldc_pa (by exact hk_) (at_mapA (by assumption)) (Nat.le_of_ble_eq_true rfl), ?_⟩
      | refine ⟨_, rfl, rfl, _, ((by exact hk_) : (_ : Option Ob) = _), (by exact ap_), ?_⟩
      | refine ⟨_, news_ow hupd_at, newsz_ow hupd_at, _, ((by exact hk_) : (_ : Option Ob) = _), (by exact ap_), ?_⟩
      | refine ⟨_, _, _, ((by exact hk_) : (_ : Option Ob) = _), ?_⟩
      | refine ⟨_, ((by exact hk_) : (_ : Option Ob) = _), ?_⟩
      | refine ⟨(show _ ≠ _ from (by first | decide | omega)), ?_⟩
      | refine ⟨(show _ ≤ _ from (by exact ap_)), ?_⟩
      | (refine ⟨fun hc => ?_, fun hc => ?_⟩ <;> (try simp (disch := omega) only [List.length_map, wrap64] at hc) <;> (try (exfalso; first | contradiction | omega)))
      | (refine ⟨⟨(by omega), (by omega), (by simp only [List.length_map] at *; simp only [LIM] at *; omega), (by simp only [List.length_map] at *; simp only [LIM] at *; omega)⟩, ?_⟩; (try simp only [List.length_map, Int.toNat_natCast]))
      | (refine ⟨_, slc_to rfl (by first | omega | (simp only [List.length_map] at *; omega)), ?_⟩; rw [map_take'])
      | (refine ⟨_, slc_toI rfl (by omega) (by first | omega | (simp only [List.length_map] at *; omega)), ?_⟩; rw [map_take'])
      | (refine calle (b := [agg (voF ⟨_, _⟩)]) v_spec_l3VoteCopy rfl ⟨⟨_, _⟩, rfl, (by exact pr_)⟩ (.inl rfl) (by first | assumption | omega) (fun r hr => K_spec_l3VoteCopy (a := ⟨_, _⟩) hr) ?_)
      | (refine ⟨⟨i + 1, _, ⟨rfl, congrArg (fun z => AV.w (.o (tkC _ z))) hts.symm, congrArg I (wrap_up hi' hlen), trivial⟩, hi', (by rw [hts]; exact hupd_at), ln_, rfl⟩, ?_⟩; show l.length - ix (I _) < l.length - ix (I _); simp only [wrap_up hi' hlen, ix, Int.toNat_natCast]; omega)
      | fail)
  · have hie : i = l.length := by omega
    subst hie
    rw [List.take_length] at hk ⊢
    conv => whnf
    refine ⟨rfl, ?_⟩
    conv => whnf
    refine ⟨fun hc => absurd hc (by rw [List.length_map]; omega), fun hc => ?_⟩
    conv => whnf
    exact finM_one (az := [.o (tkC k l)]) (by decide) (fun h => by cases h) (Nat.le_refl _) hk ⟨⟨_, rfl, .inl rfl⟩, trivial⟩ (fun nx => by show _ = AV.w (.o (tkC (nmap [k] nx 0) l)); rw [show nmap [k] nx 0 = k from nmap_lt (s := 0) rfl]; rfl) ⟨l, rfl, rfl, rfl, rfl⟩
attribute [local irreducible] Valid ValidM
set_option maxHeartbeats 4000000 in
set_option maxRecDepth 100000 in
theorem v_spec_l12Copy : ValidM Try.prog n_spec_l12Copy S_spec_l12Copy := by
  refine validM_of_swp mixed is_spec_l12Copy (by rintro _ _ ⟨a, rfl, _⟩; exact Nat.le_of_ble_eq_true rfl) ?_
  rintro _ _ rm ⟨n, rfl, rfl, hpre⟩ hl
  try dsimp only at hpre
  repeat' ((conv => whnf); first
    | refine mq_l3c v_spec_l3Copy_o (by first | assumption | omega) hpre rfl ?_
    | refine ⟨_, rfl, ?_⟩
    | refine ⟨rfl, ?_⟩
    | refine ⟨_, ldc_cells hupd_at (Nat.le_of_ble_eq_true rfl), ?_⟩
    | refine ⟨_, ldc_cells (by first | assumption | exact zk ‹_› (by omega) | exact zk (zk ‹_› (by omega)) (by omega)) (Nat.le_of_ble_eq_true rfl), ?_⟩
    | refine ⟨_, _, hupd_at, rfl, rfl, Nat.le_of_ble_eq_true rfl, ?_⟩
    | refine ⟨_, _, rfl, rfl, rfl, Nat.le_of_ble_eq_true rfl, ?_⟩
    | (refine ⟨?_, _, (?_ : (_ : Option Ob) = _), rfl, rfl, ?_, ?_⟩; rotate_left; (exact hk_); exact Nat.le_of_ble_eq_true rfl)
    | refine ⟨_, _, _, _, ((by exact hk_) : (_ : Option Ob) = _), fill_at (by omega), rfl, rfl, Nat.le_of_ble_eq_true rfl, ?_⟩
    | refine ⟨_, _, _, _, ((by exact hk_) : (_ : Option Ob) = _), at_mapA (by assumption), rfl, rfl, Nat.le_of_ble_eq_true rfl, ?_⟩
    | refine ⟨_, ldc_pa (by exact hk_) (at_mapA (by assumption)) (Nat.le_of_ble_eq_true rfl), ?_⟩
    | refine ⟨_, ((by exact hk_) : (_ : Option Ob) = _), ?_⟩
    | (refine ⟨fun hc => ?_, fun hc => ?_⟩ <;> (try simp (disch := omega) only [List.length_map, wrap64] at hc))
    | fail)
  conv => whnf
  exact finM_one (M := 0) (az := [.g (ndK n _)]) (by decide) (fun h => by cases h) (Nat.le_refl _) hk_ ⟨⟨_, rfl, .inl rfl⟩, trivial⟩ (fun nx => ren_nd) ⟨n, rfl, rfl, rfl, rfl⟩
set_option maxHeartbeats 4000000 in
set_option maxRecDepth 100000 in
theorem v_spec_l12Vote : ValidM Try.prog n_spec_l12Vote S_spec_l12Vote := by
  refine validM_of_swp mixed is_spec_l12Vote (by rintro _ _ ⟨a, rfl, _⟩; exact Nat.le_of_ble_eq_true rfl) ?_
  rintro _ _ rm ⟨⟨n, c⟩, rfl, rfl, hpre⟩ hl
  try dsimp only at hpre
  change swp _ _ _ _ _ 1 _
  dsimp only
  by_cases h8 : 80 ≤ n.seen.length
  · have e2 : voteN n c = (n, zVo, false) := if_pos h8
    repeat' ((conv => whnf); first
      | refine ⟨_, rfl, ?_⟩
      | refine ⟨rfl, ?_⟩
      | refine ⟨_, ldc_cells hupd_at (Nat.le_of_ble_eq_true rfl), ?_⟩
      | refine ⟨_, ldc_cells (by first | assumption | exact zk ‹_› (by omega) | exact zk (zk ‹_› (by omega)) (by omega)) (Nat.le_of_ble_eq_true rfl), ?_⟩
      | refine ⟨_, _, hupd_at, rfl, rfl, Nat.le_of_ble_eq_true rfl, ?_⟩
      | refine ⟨_, _, rfl, rfl, rfl, Nat.le_of_ble_eq_true rfl, ?_⟩
      | (refine ⟨?_, _, (?_ : (_ : Option Ob) = _), rfl, rfl, ?_, ?_⟩; rotate_left; (exact hk_); exact Nat.le_of_ble_eq_true rfl)
      | refine ⟨_, _, _, _, ((by exact hk_) : (_ : Option Ob) = _), fill_at (by omega), rfl, rfl, Nat.le_of_ble_eq_true rfl, ?_⟩
      | refine ⟨_, _, _, _, ((by exact hk_) : (_ : Option Ob) = _), at_mapA (by assumption), rfl, rfl, Nat.le_of_ble_eq_true rfl, ?_⟩
      | refine ⟨_, ldc_pa (by exact hk_) (at_mapA (by assumption)) (Nat.le_of_ble_eq_true rfl), ?_⟩
      | refine ⟨_, rfl, rfl, _, ((by exact hk_) : (_ : Option Ob) = _), (by exact ap_), ?_⟩
      | refine ⟨_, news_ow hupd_at, newsz_ow hupd_at, _, ((by exact hk_) : (_ : Option Ob) = _), (by exact ap_), ?_⟩
      | refine ⟨_, _, _, ((by exact hk_) : (_ : Option Ob) = _), ?_⟩
      | refine ⟨_, ((by exact hk_) : (_ : Option Ob) = _), ?_⟩
      | refine ⟨(show _ ≤ _ from (by exact ap_)), ?_⟩
      | (refine ⟨fun hc => ?_, fun hc => ?_⟩ <;> (try simp (disch := omega) only [List.length_map, wrap64] at hc) <;> (try (exfalso; first | contradiction | omega)))
      | (refine calle (b := [one (chF _)]) v_spec_l1Copy rfl ⟨_, rfl, (by exact pr_)⟩ (.inl rfl) (by first | assumption | omega) (fun r hr => K_spec_l1Copy (a := _) hr) ?_)
      | (refine calle (b := [agg (voF ⟨_, _⟩)]) v_spec_l3VoteCopy rfl ⟨⟨_, _⟩, rfl, (by exact pr_)⟩ (.inl rfl) (by first | assumption | omega) (fun r hr => K_spec_l3VoteCopy (a := ⟨_, _⟩) hr) ?_)
      | fail)
    exact finM_tri (n := n) (o := (n, zVo, false)) (t := 0) (Nat.le_refl _) (.inl ⟨rfl, rfl⟩) hk_ (fun ks => ⟨⟨_, rfl, (by first | exact .inl rfl | exact .inr ⟨rfl, rfl⟩)⟩, ⟨_, rfl, (by first | exact .inl rfl | exact .inr ⟨rfl, rfl⟩)⟩, ⟨_, rfl, (by first | exact .inl rfl | exact .inr ⟨rfl, rfl⟩)⟩, trivial⟩) (fun r obs' h => ⟨(n, c), rfl, rfl, by show RT n (voteN n c) r obs'; rw [e2]; exact h⟩)
  · have e2 : voteN n c = (⟨n.id, n.ep, n.ep, n.seen ++ [⟨n.id, c⟩]⟩, ⟨n.id, c⟩, true) := if_neg h8
    have hlt : n.seen.length < LIM := by simp only [LIM]; omega
    repeat' ((conv => whnf); first
      | (refine ⟨_, news_ow hupd_at, newsz_ow hupd_at, [voF ⟨n.id, c⟩], rfl, hk_, rfl, ap_b hlt, ?_⟩; rw [tkC_snoc, tokO_snoc])
      | refine ⟨⟨.inl (by decide), trivial⟩, ?_⟩
      | refine ⟨_, rfl, ?_⟩
      | refine ⟨rfl, ?_⟩
      | refine ⟨_, ldc_cells hupd_at (Nat.le_of_ble_eq_true rfl), ?_⟩
      | refine ⟨_, ldc_cells (by first | assumption | exact zk ‹_› (by omega) | exact zk (zk ‹_› (by omega)) (by omega)) (Nat.le_of_ble_eq_true rfl), ?_⟩
      | refine ⟨_, _, hupd_at, rfl, rfl, Nat.le_of_ble_eq_true rfl, ?_⟩
      | refine ⟨_, _, rfl, rfl, rfl, Nat.le_of_ble_eq_true rfl, ?_⟩
      | (refine ⟨?_, _, (?_ : (_ : Option Ob) = _), rfl, rfl, ?_, ?_⟩; rotate_left; (exact hk_); exact Nat.le_of_ble_eq_true rfl)
      | refine ⟨_, _, _, _, ((by exact hk_) : (_ : Option Ob) = _), fill_at (by omega), rfl, rfl, Nat.le_of_ble_eq_true rfl, ?_⟩
      | refine ⟨_, _, _, _, ((by exact hk_) : (_ : Option Ob) = _), at_mapA (by assumption), rfl, rfl, Nat.le_of_ble_eq_true rfl, ?_⟩
      | refine ⟨_, ldc_pa (by exact hk_) (at_mapA (by assumption)) (Nat.le_of_ble_eq_true rfl), ?_⟩
      | refine ⟨_, rfl, rfl, _, ((by exact hk_) : (_ : Option Ob) = _), (by exact ap_), ?_⟩
      | refine ⟨_, news_ow hupd_at, newsz_ow hupd_at, _, ((by exact hk_) : (_ : Option Ob) = _), (by exact ap_), ?_⟩
      | refine ⟨_, _, _, ((by exact hk_) : (_ : Option Ob) = _), ?_⟩
      | refine ⟨_, ((by exact hk_) : (_ : Option Ob) = _), ?_⟩
      | refine ⟨(show _ ≤ _ from (by exact ap_)), ?_⟩
      | (refine ⟨fun hc => ?_, fun hc => ?_⟩ <;> (try simp (disch := omega) only [List.length_map, wrap64] at hc) <;> (try (exfalso; first | contradiction | omega)))
      | (refine calle (b := [one (chF _)]) v_spec_l1Copy rfl ⟨_, rfl, (by exact pr_)⟩ (.inl rfl) (by first | assumption | omega) (fun r hr => K_spec_l1Copy (a := _) hr) ?_)
      | (refine calle (b := [agg (voF ⟨_, _⟩)]) v_spec_l3VoteCopy rfl ⟨⟨_, _⟩, rfl, (by exact pr_)⟩ (.inl rfl) (by first | assumption | omega) (fun r hr => K_spec_l3VoteCopy (a := ⟨_, _⟩) hr) ?_)
      | fail)
    refine finM_tri (n := n) (o := (⟨n.id, n.ep, n.ep, n.seen ++ [⟨n.id, c⟩]⟩, ⟨n.id, c⟩, true)) (Nat.le_refl _) ?_ ?_ (fun ks => ⟨⟨_, rfl, (by first | exact .inl rfl | exact .inr ⟨rfl, rfl⟩)⟩, ⟨_, rfl, (by first | exact .inl rfl | exact .inr ⟨rfl, rfl⟩)⟩, ⟨_, rfl, (by first | exact .inl rfl | exact .inr ⟨rfl, rfl⟩)⟩, trivial⟩) (fun r obs' h => ⟨(n, c), rfl, rfl, by show RT n (voteN n c) r obs'; rw [e2]; exact h⟩)
    · exact .inr ⟨by omega, hk_⟩
    · exact hk_
set_option maxHeartbeats 4000000 in
set_option maxRecDepth 100000 in
theorem v_spec_l12Propose : ValidM Try.prog n_spec_l12Propose S_spec_l12Propose := by
  refine validM_of_swp mixed is_spec_l12Propose (by rintro _ _ ⟨a, rfl, _⟩; exact Nat.le_of_ble_eq_true rfl) ?_
  rintro _ _ rm ⟨⟨n, p⟩, rfl, rfl, hpre⟩ hl
  try dsimp only at hpre
  change swp _ _ _ _ _ 1 _
  dsimp only
  obtain ⟨hid, hep, hsb⟩ := id hpre
  obtain ⟨hep0, hep3⟩ := id hep
  have hep2 : In n.ep 0 100 := ⟨hep.1, Int.le_trans hep.2 (by decide)⟩
  have hfs : FitVs n.seen := hsb.fit
  have hlt : n.seen.length < LIM := hsb.lt
  have htl : (tipM n.seen).length ≤ 16 := tipM_len fun v hv => (hsb.2 v hv).2.2.2
  have htL : (tipM n.seen).length ≤ LIM := Nat.le_trans htl (by decide)
  have hcL : (tipM n.seen ++ [(⟨n.ep, p⟩ : It)]).length ≤ LIM := by rw [List.length_append, List.length_singleton]; exact Nat.le_trans (Nat.succ_le_succ htl) (by decide)
  by_cases hm : mayN n ∧ lead n.ep = n.id
  · obtain ⟨⟨hm1, hm2⟩, hm3⟩ := id hm
    by_cases hc : ChainOk (tipM n.seen ++ [(⟨n.ep, p⟩ : It)])
    · have e3 : propN true n p = voteN n (tipM n.seen ++ [⟨n.ep, p⟩]) := by unfold propN; rw [tb_pos (show mayN n ∧ lead n.ep = n.id ∧ ChainOk (tipX true n.seen ++ [(⟨n.ep, p⟩ : It)]) from ⟨hm.1, hm.2, hc⟩)]; rfl
      repeat' ((conv => whnf); first
        | refine .inl ⟨_, ty_impl_Item, 4, arA itF (tipM n.seen ++ [⟨n.ep, p⟩]), _, rfl, hupd_at.trans (arr_snoc rfl), fcellss_f itF _, .inr ?_⟩
        | refine ⟨_, rfl, ?_⟩
        | refine ⟨rfl, ?_⟩
        | refine ⟨_, ldc_cells hupd_at (Nat.le_of_ble_eq_true rfl), ?_⟩
        | refine ⟨_, ldc_cells (by first | assumption | exact zk ‹_› (by omega) | exact zk (zk ‹_› (by omega)) (by omega)) (Nat.le_of_ble_eq_true rfl), ?_⟩
        | refine ⟨_, _, hupd_at, rfl, rfl, Nat.le_of_ble_eq_true rfl, ?_⟩
        | refine ⟨_, _, rfl, rfl, rfl, Nat.le_of_ble_eq_true rfl, ?_⟩
        | (refine ⟨?_, _, (?_ : (_ : Option Ob) = _), rfl, rfl, ?_, ?_⟩; rotate_left; (exact hk_); exact Nat.le_of_ble_eq_true rfl)
        | refine ⟨_, _, _, _, ((by exact hk_) : (_ : Option Ob) = _), fill_at (by omega), rfl, rfl, Nat.le_of_ble_eq_true rfl, ?_⟩
        | refine ⟨_, _, _, _, ((by exact hk_) : (_ : Option Ob) = _), at_mapA (by assumption), rfl, rfl, Nat.le_of_ble_eq_true rfl, ?_⟩
        | refine ⟨_, ldc_pa (by exact hk_) (at_mapA (by assumption)) (Nat.le_of_ble_eq_true rfl), ?_⟩
        | refine ⟨_, rfl, rfl, _, ((by exact hk_) : (_ : Option Ob) = _), (by exact ap_), ?_⟩
        | refine ⟨_, news_ow hupd_at, newsz_ow hupd_at, _, ((by exact hk_) : (_ : Option Ob) = _), (by exact ap_), ?_⟩
        | refine ⟨_, ((by exact hk_) : (_ : Option Ob) = _), ?_⟩
        | refine ⟨(show _ ≤ _ from (by exact ap_)), ?_⟩
        | (refine ⟨fun hc => ?_, fun hc => ?_⟩ <;> (try simp (disch := omega) only [List.length_map, wrap64] at hc) <;> (try (exfalso; first | contradiction | omega)))
        | (refine calle (b := [I _]) v_spec_l3Leader rfl ⟨_, rfl, (by exact pr_)⟩ (.inl rfl) (by first | assumption | omega) (fun r hr => K_spec_l3Leader (a := _) hr) ?_)
        | (refine calle (b := [one (vsF _)]) v_spec_l11Tip rfl ⟨_, rfl, (by refine ⟨?_, ?_⟩ <;> (exact pr_))⟩ (.inl rfl) (by first | assumption | omega) (fun r hr => K_spec_l11Tip (a := _) hr) ?_)
        | (refine OQ.mk1 (ar := [one (chF _)]) rfl ⟨_, rfl, (by first | assumption | (simp only [LIM, List.length_take] at *; omega))⟩ vO_spec_l1Copy (so_spec_l1Copy _) ?_)
        | (refine callt (b := [one (chF _)]) v_spec_ChainOk rfl ⟨_, rfl, (by exact pr_)⟩ (.inl rfl) (by first | assumption | omega) (fun r hr => K_spec_ChainOk (a := _) hr) (fun hj => ?_) (fun hj => ?_) <;> (try simp only [etaPa, etaIt, etaVo] at hj) <;> (try contradiction))
        | fail)
      refine mq_tri (n := n) (t := 0) v_spec_l12Vote (by omega) (by first | assumption | omega) hk_ rfl (fun _ => rfl) ⟨(n, tipM n.seen ++ [⟨n.ep, p⟩]), rfl, rfl, hfs, hcL⟩ (fun r obs' h => K_spec_l12Vote h) (fun t' H' ht' hH' hk' => ?_)
      have hG33 : H' 33 = some (.cells [cI 0, cI 0, cI 0, .e0]) := (hk' 33 (by decide) (by omega)).trans hk_
      have hG49 : H' 49 = some (.cells [cI 0, .e0]) := (hk' 49 (by decide) (by omega)).trans hk_
      have ht33 : t' ≠ 33 ∧ t' ≠ 49 := by rcases ht' with ⟨rfl, _⟩ | ⟨rfl, _⟩ <;> exact ⟨by omega, by omega⟩
      repeat' ((conv => whnf); first
        | refine ⟨_, rfl, ?_⟩
        | refine ⟨rfl, ?_⟩
        | refine ⟨_, ldc_cells hupd_at (Nat.le_of_ble_eq_true rfl), ?_⟩
        | refine ⟨_, ldc_cells (by first | assumption | exact zk ‹_› (by omega) | exact zk (zk ‹_› (by omega)) (by omega)) (Nat.le_of_ble_eq_true rfl), ?_⟩
        | refine ⟨_, _, hupd_at, rfl, rfl, Nat.le_of_ble_eq_true rfl, ?_⟩
        | refine ⟨_, _, rfl, rfl, rfl, Nat.le_of_ble_eq_true rfl, ?_⟩
        | (refine ⟨?_, _, (?_ : (_ : Option Ob) = _), rfl, rfl, ?_, ?_⟩; rotate_left; (exact hk_); exact Nat.le_of_ble_eq_true rfl)
        | refine ⟨_, _, _, _, ((by exact hk_) : (_ : Option Ob) = _), fill_at (by omega), rfl, rfl, Nat.le_of_ble_eq_true rfl, ?_⟩
        | refine ⟨_, _, _, _, ((by exact hk_) : (_ : Option Ob) = _), at_mapA (by assumption), rfl, rfl, Nat.le_of_ble_eq_true rfl, ?_⟩
        | refine ⟨_, ldc_pa (by exact hk_) (at_mapA (by assumption)) (Nat.le_of_ble_eq_true rfl), ?_⟩
        | refine ⟨_, rfl, rfl, _, ((by exact hk_) : (_ : Option Ob) = _), (by exact ap_), ?_⟩
        | refine ⟨_, news_ow hupd_at, newsz_ow hupd_at, _, ((by exact hk_) : (_ : Option Ob) = _), (by exact ap_), ?_⟩
        | refine ⟨_, ((by exact hk_) : (_ : Option Ob) = _), ?_⟩
        | refine ⟨(show _ ≤ _ from (by exact ap_)), ?_⟩
        | (refine ⟨fun hc => ?_, fun hc => ?_⟩ <;> (try simp (disch := omega) only [List.length_map, wrap64] at hc))
        | fail)
      refine finM_tri (n := n) (o := voteN n (tipM n.seen ++ [⟨n.ep, p⟩])) (Nat.le_add_right _ _) ?_ ?_ (fun ks => ⟨⟨_, rfl, (by first | exact .inl rfl | exact .inr ⟨rfl, rfl⟩)⟩, ⟨_, rfl, (by first | exact .inl rfl | exact .inr ⟨rfl, rfl⟩)⟩, ⟨_, rfl, (by first | exact .inl rfl | exact .inr ⟨rfl, rfl⟩)⟩, trivial⟩) (fun r obs' h => ⟨(n, p), rfl, rfl, by show RT n (propN true n p) r obs'; rw [e3]; exact h⟩)
      · rcases ht' with ⟨rfl, hs⟩ | ⟨rfl, h0⟩
        · exact .inl ⟨rfl, hs⟩
        · exact .inr ⟨by omega, hk_⟩
      · exact zk (zk hH' ht33.1) ht33.2
    · have e3 : propN true n p = (n, zVo, false) := by unfold propN; rw [tb_neg (fun h : mayN n ∧ lead n.ep = n.id ∧ ChainOk (tipX true n.seen ++ [(⟨n.ep, p⟩ : It)]) => hc h.2.2)]; rfl
      repeat' ((conv => whnf); first
        | refine .inl ⟨_, ty_impl_Item, 4, arA itF (tipM n.seen ++ [⟨n.ep, p⟩]), _, rfl, hupd_at.trans (arr_snoc rfl), fcellss_f itF _, .inr ?_⟩
        | refine ⟨_, rfl, ?_⟩
        | refine ⟨rfl, ?_⟩
        | refine ⟨_, ldc_cells hupd_at (Nat.le_of_ble_eq_true rfl), ?_⟩
        | refine ⟨_, ldc_cells (by first | assumption | exact zk ‹_› (by omega) | exact zk (zk ‹_› (by omega)) (by omega)) (Nat.le_of_ble_eq_true rfl), ?_⟩
        | refine ⟨_, _, hupd_at, rfl, rfl, Nat.le_of_ble_eq_true rfl, ?_⟩
        | refine ⟨_, _, rfl, rfl, rfl, Nat.le_of_ble_eq_true rfl, ?_⟩
        | (refine ⟨?_, _, (?_ : (_ : Option Ob) = _), rfl, rfl, ?_, ?_⟩; rotate_left; (exact hk_); exact Nat.le_of_ble_eq_true rfl)
        | refine ⟨_, _, _, _, ((by exact hk_) : (_ : Option Ob) = _), fill_at (by omega), rfl, rfl, Nat.le_of_ble_eq_true rfl, ?_⟩
        | refine ⟨_, _, _, _, ((by exact hk_) : (_ : Option Ob) = _), at_mapA (by assumption), rfl, rfl, Nat.le_of_ble_eq_true rfl, ?_⟩
        | refine ⟨_, ldc_pa (by exact hk_) (at_mapA (by assumption)) (Nat.le_of_ble_eq_true rfl), ?_⟩
        | refine ⟨_, rfl, rfl, _, ((by exact hk_) : (_ : Option Ob) = _), (by exact ap_), ?_⟩
        | refine ⟨_, news_ow hupd_at, newsz_ow hupd_at, _, ((by exact hk_) : (_ : Option Ob) = _), (by exact ap_), ?_⟩
        | refine ⟨_, ((by exact hk_) : (_ : Option Ob) = _), ?_⟩
        | refine ⟨(show _ ≤ _ from (by exact ap_)), ?_⟩
        | (refine ⟨fun hc => ?_, fun hc => ?_⟩ <;> (try simp (disch := omega) only [List.length_map, wrap64] at hc) <;> (try (exfalso; first | contradiction | omega)))
        | (refine calle (b := [I _]) v_spec_l3Leader rfl ⟨_, rfl, (by exact pr_)⟩ (.inl rfl) (by first | assumption | omega) (fun r hr => K_spec_l3Leader (a := _) hr) ?_)
        | (refine calle (b := [one (vsF _)]) v_spec_l11Tip rfl ⟨_, rfl, (by refine ⟨?_, ?_⟩ <;> (exact pr_))⟩ (.inl rfl) (by first | assumption | omega) (fun r hr => K_spec_l11Tip (a := _) hr) ?_)
        | (refine OQ.mk1 (ar := [one (chF _)]) rfl ⟨_, rfl, (by first | assumption | (simp only [LIM, List.length_take] at *; omega))⟩ vO_spec_l1Copy (so_spec_l1Copy _) ?_)
        | (refine callt (b := [one (chF _)]) v_spec_ChainOk rfl ⟨_, rfl, (by exact pr_)⟩ (.inl rfl) (by first | assumption | omega) (fun r hr => K_spec_ChainOk (a := _) hr) (fun hj => ?_) (fun hj => ?_) <;> (try simp only [etaPa, etaIt, etaVo] at hj) <;> (try contradiction))
        | fail)
      first
        | exact finM_tri (n := n) (o := (n, zVo, false)) (t := 0) (Nat.le_add_right _ _) (.inl ⟨rfl, rfl⟩) hk_ (fun ks => ⟨⟨_, rfl, (by first | exact .inl rfl | exact .inr ⟨rfl, rfl⟩)⟩, ⟨_, rfl, (by first | exact .inl rfl | exact .inr ⟨rfl, rfl⟩)⟩, ⟨_, rfl, (by first | exact .inl rfl | exact .inr ⟨rfl, rfl⟩)⟩, trivial⟩) (fun r obs' h => ⟨(n, p), rfl, rfl, by show RT n (propN true n p) r obs'; rw [e3]; exact h⟩)
        | exact And.right (a := 0 ≤ 0) (finM_tri (n := n) (o := (n, zVo, false)) (t := 0) (rm' := 0) (lim := 0) (Nat.le_refl _) (.inl ⟨rfl, rfl⟩) hk_ (fun ks => ⟨⟨_, rfl, (by first | exact .inl rfl | exact .inr ⟨rfl, rfl⟩)⟩, ⟨_, rfl, (by first | exact .inl rfl | exact .inr ⟨rfl, rfl⟩)⟩, ⟨_, rfl, (by first | exact .inl rfl | exact .inr ⟨rfl, rfl⟩)⟩, trivial⟩) (fun r obs' h => ⟨(n, p), rfl, rfl, by show RT n (propN true n p) r obs'; rw [e3]; exact h⟩))
  · have e3 : propN true n p = (n, zVo, false) := by unfold propN; rw [tb_neg (fun h : mayN n ∧ lead n.ep = n.id ∧ ChainOk (tipX true n.seen ++ [(⟨n.ep, p⟩ : It)]) => hm ⟨h.1, h.2.1⟩)]; rfl
    unfold mayN at hm
    repeat' ((conv => whnf); first
      | refine ⟨_, rfl, ?_⟩
      | refine ⟨rfl, ?_⟩
      | refine ⟨_, ldc_cells hupd_at (Nat.le_of_ble_eq_true rfl), ?_⟩
      | refine ⟨_, ldc_cells (by first | assumption | exact zk ‹_› (by omega) | exact zk (zk ‹_› (by omega)) (by omega)) (Nat.le_of_ble_eq_true rfl), ?_⟩
      | refine ⟨_, _, hupd_at, rfl, rfl, Nat.le_of_ble_eq_true rfl, ?_⟩
      | refine ⟨_, _, rfl, rfl, rfl, Nat.le_of_ble_eq_true rfl, ?_⟩
      | (refine ⟨?_, _, (?_ : (_ : Option Ob) = _), rfl, rfl, ?_, ?_⟩; rotate_left; (exact hk_); exact Nat.le_of_ble_eq_true rfl)
      | refine ⟨_, _, _, _, ((by exact hk_) : (_ : Option Ob) = _), fill_at (by omega), rfl, rfl, Nat.le_of_ble_eq_true rfl, ?_⟩
      | refine ⟨_, _, _, _, ((by exact hk_) : (_ : Option Ob) = _), at_mapA (by assumption), rfl, rfl, Nat.le_of_ble_eq_true rfl, ?_⟩
      | refine ⟨_, ldc_pa (by exact hk_) (at_mapA (by assumption)) (Nat.le_of_ble_eq_true rfl), ?_⟩
      | refine ⟨_, rfl, rfl, _, ((by exact hk_) : (_ : Option Ob) = _), (by exact ap_), ?_⟩
      | refine ⟨_, news_ow hupd_at, newsz_ow hupd_at, _, ((by exact hk_) : (_ : Option Ob) = _), (by exact ap_), ?_⟩
      | refine ⟨_, ((by exact hk_) : (_ : Option Ob) = _), ?_⟩
      | refine ⟨(show _ ≤ _ from (by exact ap_)), ?_⟩
      | (refine ⟨fun hc => ?_, fun hc => ?_⟩ <;> (try simp (disch := omega) only [List.length_map, wrap64] at hc) <;> (try (exfalso; first | contradiction | omega)))
      | (refine calle (b := [I _]) v_spec_l3Leader rfl ⟨_, rfl, (by exact pr_)⟩ (.inl rfl) (by first | assumption | omega) (fun r hr => K_spec_l3Leader (a := _) hr) ?_)
      | fail)
    all_goals first
      | exact finM_tri (n := n) (o := (n, zVo, false)) (t := 0) (Nat.le_add_right _ _) (.inl ⟨rfl, rfl⟩) hk_ (fun ks => ⟨⟨_, rfl, (by first | exact .inl rfl | exact .inr ⟨rfl, rfl⟩)⟩, ⟨_, rfl, (by first | exact .inl rfl | exact .inr ⟨rfl, rfl⟩)⟩, ⟨_, rfl, (by first | exact .inl rfl | exact .inr ⟨rfl, rfl⟩)⟩, trivial⟩) (fun r obs' h => ⟨(n, p), rfl, rfl, by show RT n (propN true n p) r obs'; rw [e3]; exact h⟩)
      | exact And.right (a := 0 ≤ 0) (finM_tri (n := n) (o := (n, zVo, false)) (t := 0) (rm' := 0) (lim := 0) (Nat.le_refl _) (.inl ⟨rfl, rfl⟩) hk_ (fun ks => ⟨⟨_, rfl, (by first | exact .inl rfl | exact .inr ⟨rfl, rfl⟩)⟩, ⟨_, rfl, (by first | exact .inl rfl | exact .inr ⟨rfl, rfl⟩)⟩, ⟨_, rfl, (by first | exact .inl rfl | exact .inr ⟨rfl, rfl⟩)⟩, trivial⟩) (fun r obs' h => ⟨(n, p), rfl, rfl, by show RT n (propN true n p) r obs'; rw [e3]; exact h⟩))
set_option maxHeartbeats 4000000 in
set_option maxRecDepth 100000 in
theorem v_spec_NodePropose : Valid Try.prog n_spec_NodePropose S_spec_NodePropose := by
  refine valid_of_swp mixed is_spec_NodePropose (by rintro _ ⟨a, rfl, _⟩; exact Nat.le_of_ble_eq_true rfl) ?_
  rintro _ rm ⟨⟨n, p⟩, rfl, hpre⟩ hl
  try dsimp only at hpre
  have hpre0 := hpre
  have hp1 := hpre
  by_cases hok : NodeOk n ∧ PayOk p
  · have hok1 := hok.1
    have hok2 := hok.2
    have hnb := hok.1.ndb
    have hst : S_spec_l12Copy.st = 0 := rfl
    have e2 : propT n p = propN true n p := by unfold propT; rw [tb_pos hok]; exact (propN_tf hok.1.2.2.2.2.1).symm
    repeat' ((conv => whnf); first
      | refine mq_cpy (n := n) v_spec_l12Copy (by first | assumption | omega) hp1 rfl ?_
      | refine ⟨_, rfl, ?_⟩
      | refine ⟨rfl, ?_⟩
      | refine ⟨_, ldc_cells hupd_at (Nat.le_of_ble_eq_true rfl), ?_⟩
      | refine ⟨_, ldc_cells (by first | assumption | exact zk ‹_› (by omega) | exact zk (zk ‹_› (by omega)) (by omega)) (Nat.le_of_ble_eq_true rfl), ?_⟩
      | refine ⟨_, _, hupd_at, rfl, rfl, Nat.le_of_ble_eq_true rfl, ?_⟩
      | refine ⟨_, _, rfl, rfl, rfl, Nat.le_of_ble_eq_true rfl, ?_⟩
      | (refine ⟨?_, _, (?_ : (_ : Option Ob) = _), rfl, rfl, ?_, ?_⟩; rotate_left; (exact hk_); exact Nat.le_of_ble_eq_true rfl)
      | refine ⟨_, _, _, _, ((by exact hk_) : (_ : Option Ob) = _), fill_at (by omega), rfl, rfl, Nat.le_of_ble_eq_true rfl, ?_⟩
      | refine ⟨_, _, _, _, ((by exact hk_) : (_ : Option Ob) = _), at_mapA (by assumption), rfl, rfl, Nat.le_of_ble_eq_true rfl, ?_⟩
      | refine ⟨_, ldc_pa (by exact hk_) (at_mapA (by assumption)) (Nat.le_of_ble_eq_true rfl), ?_⟩
      | refine ⟨_, ((by exact hk_) : (_ : Option Ob) = _), ?_⟩
      | (refine ⟨fun hc => ?_, fun hc => ?_⟩ <;> (try simp (disch := omega) only [List.length_map, wrap64] at hc) <;> (try (exfalso; first | contradiction | omega)))
      | (refine callt (b := [agg (ndF ⟨_, _, _, _⟩)]) v_spec_NodeOk rfl ⟨⟨_, _, _, _⟩, rfl, (by exact pr_)⟩ (.inl rfl) (by first | assumption | omega) (fun r hr => K_spec_NodeOk (a := ⟨_, _, _, _⟩) hr) (fun hj => ?_) (fun hj => ?_) <;> (try simp only [etaPa, etaIt, etaVo] at hj) <;> (try simp only [etaNd, etaWo] at hj) <;> (try contradiction))
      | (refine callt (b := [agg (paF ⟨_, _, _⟩)]) v_spec_PayOk rfl ⟨⟨_, _, _⟩, rfl, (by exact True.intro)⟩ (.inl rfl) (by first | assumption | omega) (fun r hr => K_spec_PayOk (a := ⟨_, _, _⟩) hr) (fun hj => ?_) (fun hj => ?_) <;> (try simp only [etaPa, etaIt, etaVo] at hj) <;> (try contradiction))
      | fail)
    refine mq_tri (n := n) (o := propN true n p) (t := _) v_spec_l12Propose (by omega) (by first | assumption | omega) hk_ rfl (fun _ => rfl) ⟨(n, p), rfl, rfl, hnb⟩ (fun r obs' h => K_spec_l12Propose h) (fun t' H' ht' hH' hk' => ?_)
    have hG33 : H' 33 = some (.cells [cI 0, cI 0, cI 0, .e0]) := (hk' 33 (by first | decide | omega) (by omega)).trans hk_
    have hG49 : H' 49 = some (.cells [cI 0, .e0]) := (hk' 49 (by first | decide | omega) (by omega)).trans hk_
    have hG0 : H' 0 = none := (hk' 0 (by omega) (by omega)).trans hk_
    have ht33 : t' ≠ 33 ∧ t' ≠ 49 := by rcases ht' with ⟨rfl, _⟩ | ⟨rfl, _⟩ <;> exact ⟨by omega, by omega⟩
    repeat' ((conv => whnf); first
      | refine ⟨_, rfl, ?_⟩
      | refine ⟨rfl, ?_⟩
      | refine ⟨_, ldc_cells hupd_at (Nat.le_of_ble_eq_true rfl), ?_⟩
      | refine ⟨_, ldc_cells (by first | assumption | exact zk ‹_› (by omega) | exact zk (zk ‹_› (by omega)) (by omega)) (Nat.le_of_ble_eq_true rfl), ?_⟩
      | refine ⟨_, _, hupd_at, rfl, rfl, Nat.le_of_ble_eq_true rfl, ?_⟩
      | refine ⟨_, _, rfl, rfl, rfl, Nat.le_of_ble_eq_true rfl, ?_⟩
      | (refine ⟨?_, _, (?_ : (_ : Option Ob) = _), rfl, rfl, ?_, ?_⟩; rotate_left; (exact hk_); exact Nat.le_of_ble_eq_true rfl)
      | refine ⟨_, _, _, _, ((by exact hk_) : (_ : Option Ob) = _), fill_at (by omega), rfl, rfl, Nat.le_of_ble_eq_true rfl, ?_⟩
      | refine ⟨_, _, _, _, ((by exact hk_) : (_ : Option Ob) = _), at_mapA (by assumption), rfl, rfl, Nat.le_of_ble_eq_true rfl, ?_⟩
      | refine ⟨_, ldc_pa (by exact hk_) (at_mapA (by assumption)) (Nat.le_of_ble_eq_true rfl), ?_⟩
      | refine ⟨_, ((by exact hk_) : (_ : Option Ob) = _), ?_⟩
      | (refine ⟨fun hc => ?_, fun hc => ?_⟩ <;> (try simp (disch := omega) only [List.length_map, wrap64] at hc))
      | fail)
    exact ⟨⟨_, rfl, rfl, (n, p), rfl, (by show _ = trip (propT n p); rw [e2]; rfl)⟩, Nat.le_add_right _ _, h0_⟩
  · have e2 : propT n p = (zNd, zVo, false) := by unfold propT; rw [tb_neg hok]; rfl
    repeat' ((conv => whnf); first
      | refine ⟨_, rfl, ?_⟩
      | refine ⟨rfl, ?_⟩
      | refine ⟨_, ldc_cells hupd_at (Nat.le_of_ble_eq_true rfl), ?_⟩
      | refine ⟨_, ldc_cells (by first | assumption | exact zk ‹_› (by omega) | exact zk (zk ‹_› (by omega)) (by omega)) (Nat.le_of_ble_eq_true rfl), ?_⟩
      | refine ⟨_, _, hupd_at, rfl, rfl, Nat.le_of_ble_eq_true rfl, ?_⟩
      | refine ⟨_, _, rfl, rfl, rfl, Nat.le_of_ble_eq_true rfl, ?_⟩
      | (refine ⟨?_, _, (?_ : (_ : Option Ob) = _), rfl, rfl, ?_, ?_⟩; rotate_left; (exact hk_); exact Nat.le_of_ble_eq_true rfl)
      | refine ⟨_, _, _, _, ((by exact hk_) : (_ : Option Ob) = _), fill_at (by omega), rfl, rfl, Nat.le_of_ble_eq_true rfl, ?_⟩
      | refine ⟨_, _, _, _, ((by exact hk_) : (_ : Option Ob) = _), at_mapA (by assumption), rfl, rfl, Nat.le_of_ble_eq_true rfl, ?_⟩
      | refine ⟨_, ldc_pa (by exact hk_) (at_mapA (by assumption)) (Nat.le_of_ble_eq_true rfl), ?_⟩
      | refine ⟨_, ((by exact hk_) : (_ : Option Ob) = _), ?_⟩
      | (refine ⟨fun hc => ?_, fun hc => ?_⟩ <;> (try simp (disch := omega) only [List.length_map, wrap64] at hc) <;> (try (exfalso; first | contradiction | omega)))
      | (refine callt (b := [agg (ndF ⟨_, _, _, _⟩)]) v_spec_NodeOk rfl ⟨⟨_, _, _, _⟩, rfl, (by exact pr_)⟩ (.inl rfl) (by first | assumption | omega) (fun r hr => K_spec_NodeOk (a := ⟨_, _, _, _⟩) hr) (fun hj => ?_) (fun hj => ?_) <;> (try simp only [etaPa, etaIt, etaVo] at hj) <;> (try simp only [etaNd, etaWo] at hj) <;> (try contradiction))
      | (refine callt (b := [agg (paF ⟨_, _, _⟩)]) v_spec_PayOk rfl ⟨⟨_, _, _⟩, rfl, (by exact True.intro)⟩ (.inl rfl) (by first | assumption | omega) (fun r hr => K_spec_PayOk (a := ⟨_, _, _⟩) hr) (fun hj => ?_) (fun hj => ?_) <;> (try simp only [etaPa, etaIt, etaVo] at hj) <;> (try contradiction))
      | exact ⟨⟨_, rfl, rfl, (n, p), rfl, (by show _ = trip (propT n p); rw [e2]; rfl)⟩, Nat.le_refl _, h0_⟩
      | fail)
    all_goals exact absurd ⟨by assumption, by assumption⟩ hok
end Av
end Go.Proofs.Ytdboofnogabefaa
