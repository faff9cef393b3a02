/- Contracts: making a cert with memory of its own. -/
import Derived.Test.YtdboofnogabefaaCA
import Derived.Test.YtdboofnogabefaaJ39
import Derived.Test.YtdboofnogabefaaJ35
set_option linter.unusedVariables false
set_option linter.unusedSimpArgs false
namespace Go.Proofs.Ytdboofnogabefaa
namespace Av
open Go.RowKit
abbrev S_slices_Clip_nSS_o : MSpec := S_nclip nS
theorem encVoC_inj (a b : List Vo × List It) (h : [one (vsF a.1), one (chF a.2)] = [one (vsF b.1), one (chF b.2)]) : a = b := by
  obtain ⟨x, y⟩ := a; obtain ⟨z, w⟩ := b
  simp only [List.cons.injEq, and_true, one_inj, vsF_inj, chF_inj] at h
  rw [h.1, h.2]
noncomputable def SO_impl_votes_voters_L : OSpec := mkOF (α := List Vo × List It) ty_int 1 inF inF_v (fun a => [one (vsF a.1), one (chF a.2)]) (fun a => FitVs a.1 ∧ a.2.length ≤ LIM) (fun a => voters a.1 a.2) fun _ => rfl
theorem so_impl_votes_voters_L (l : List Vo) (c : List It) : SO_impl_votes_voters_L.ob [one (vsF l), one (chF c)] = isO (voters l c) :=
  mkOF_ob (enc := fun a : List Vo × List It => [one (vsF a.1), one (chF a.2)]) (g := fun a => voters a.1 a.2) (hcl := fun _ => rfl) encVoC_inj (l, c)
/-! ### a function that looks at objects, and hands back a view -/
section
variable {ρ : Nat → Nat} {D : Nat → Prop}
theorem renC_same (h : ∀ x, D x → ρ x = x) {c : AC} (hc : okC D c) : c.ren ρ = c := by
  cases c <;> simp only [AC.ren] <;> (try rw [h _ hc])
theorem renO_same (h : ∀ x, D x → ρ x = x) {ob : Ob} (hc : okOb D ob) : ob.ren ρ = ob := by
  cases ob with
  | cells cs =>
    refine congrArg Ob.cells ?_
    exact (List.map_congr_left fun c hx => renC_same h (hc c hx)).trans (List.map_id _)
  | arr T sz xs =>
    refine congrArg (Ob.arr T sz) ?_
    refine (List.map_congr_left fun x hx => ?_).trans (List.map_id _)
    show x.map _ = x
    exact (List.map_congr_left fun c hc' => renC_same h (hc x hx c hc')).trans (List.map_id _)
  | tok _ _ _ => rfl
  | rd _ => rfl
end
theorem finM_look {fr : Env} {H : Hp} {nx rm' lim M : Nat} {res : List Rs} {post : AV → List (Option Ob) → Prop} {obs : List Ob} {c : AC} (hrm : rm' ≤ lim) (hM : M = obs.length) (hH : ∀ i ob, obs[i]? = some ob → H i = some ob) (hok : ∀ ob, ob ∈ obs → okOb (· < obs.length) ob) (hc : okC (· < obs.length) c)
    (hres : resM (List.range obs.length) fr H res [.o c]) (hpost : post (.w (.o c)) (obs.map some)) : rm' ≤ lim ∧ ∃ (ks : List Nat) (az : List AW) (r : AV) (obs' : List (Option Ob)), resM ks fr H res az ∧ resV az = r.ren (nmap ks nx) ∧ post r obs' ∧
      ks.Nodup ∧ (∀ i, i < M → ks[i]? = some i) ∧ obs'.length = ks.length ∧
      ∀ (i k : Nat), ks[i]? = some k → (∃ ob : Ob, obs'[i]? = some (some ob) ∧ H k = some (ob.ren (nmap ks nx))) ∨ (obs'[i]? = some none ∧ H k = none) := by
  have hat : ∀ j, j < obs.length → (List.range obs.length)[j]? = some j := fun j hj => List.getElem?_range hj
  have hρ : ∀ x, x < obs.length → nmap (List.range obs.length) nx x = x := fun x hx => nmap_lt (s := 0) (hat x hx)
  refine ⟨hrm, List.range obs.length, _, .w (.o c), _, hres, ?_, hpost, List.nodup_range, fun i hi => hat i (by omega), by simp, fun i k' h => ?_⟩
  · show AV.w (.o c) = AV.w (.o (c.ren _))
    rw [renC_same hρ hc]
  · left
    have hi : i < obs.length := by
      have := (List.getElem?_eq_some_iff.1 h).1
      simpa using this
    rw [hat i hi] at h
    cases h
    have hx := List.getElem?_eq_getElem hi
    exact ⟨obs[i], by rw [List.getElem?_map, hx]; rfl, by rw [renO_same hρ (hok _ (List.getElem_mem hi))]; exact hH i _ hx⟩
theorem mq_look {P : Program} {g : Nat} {S : MSpec} {fr : Env} {H : Hp} {nm rm : Nat} {K : KV} {xs : List (X × List (Option Nat))} {ks : List Nat} {obs : List Ob} {args : List AV} {r0 r1 : AV} (hv : ValidM P g S) (hc : S.cost = 0) (hst : S.st = 0) (hl : rm ≤ LIM) (hnd : ks.Nodup) (hlen : obs.length = ks.length)
    (hob : ∀ (i k' : Nat), ks[i]? = some k' → ∃ ob : Ob, obs[i]? = some ob ∧ H k' = some (ob.ren (nmapS 0 ks nm))) (ha : nrmArgs fr xs = args.map (AV.ren (nmapS 0 ks nm))) (hpre : S.pre args obs) (hpost : ∀ r obs', S.post args obs r obs' → r = r0 ∧ obs' = obs.map some) (hr : r0.ren (nmapS 0 ks nm) = r1) (hK : K r1 H rm) : MQ P nm fr H rm K g S xs := by
  refine ⟨⟨hv, by rw [hc]; exact hl, ks, args, obs, hnd, hlen, fun i k' hi => ?_, by rw [hst]; exact ha.symm, hpre, fun r obs' hp _ _ => ?_⟩⟩
  · rw [hst]; exact hob i k' hi
  obtain ⟨rfl, rfl⟩ := hpost r obs' hp
  rw [hst, hc, Nat.add_zero]
  have hρ : ∀ i k', ks[i]? = some k' → nmapS 0 ks nm i = k' := fun i k' h => nmap_lt (s := 0) h
  have hH : hput (nmapS 0 ks nm) 0 (obs.map some) H = H := by
    have hget := hput_at (nmapS 0 ks nm) (obs.map some) 0 H (fun j j' _ h1 _ h2 e => by
      rw [List.length_map] at h1 h2
      have g1 : j < ks.length := by omega
      have g2 : j' < ks.length := by omega
      rw [hρ j _ (List.getElem?_eq_getElem g1), hρ j' _ (List.getElem?_eq_getElem g2)] at e
      have a1 := hnd.idxOf_getElem j g1
      have a2 := hnd.idxOf_getElem j' g2
      rw [e] at a1
      exact a1.symm.trans a2)
    funext x
    by_cases hx : x ∈ ks
    · obtain ⟨i, hi⟩ := List.mem_iff_getElem?.1 hx
      obtain ⟨ob, h1, h2⟩ := hob i x hi
      have := hget.1 i (some ob) (by rw [List.getElem?_map, h1]; rfl)
      rw [Nat.zero_add, hρ i x hi] at this
      rw [this, h2]; rfl
    · exact hget.2 x fun j _ hj e => hx (by
        rw [List.length_map] at hj
        have g1 : j < ks.length := by omega
        rw [hρ j _ (List.getElem?_eq_getElem g1)] at e
        exact List.mem_of_getElem (h := g1) e)
  rw [hH, hr]; exact hK
/-- A cert's chain, other objects, and how far to look. -/
def RestOk (l : List Ob) : Prop := ∀ ob, ob ∈ l → okOb (· < l.length + 1) ob ∧ ∀ cs, ob ≠ .cells cs
noncomputable def S_prefix0 : MSpec := mkM (α := (List It × Int) × AC × List Ob) (fun a => [.w (.g [.ow 0, a.2.1]), I a.1.2]) (fun a => itO a.1.1 :: a.2.2) (fun a => (0 ≤ a.1.2 ∧ a.1.2 ≤ 2 ∧ 3 ≤ a.1.1.length ∧ a.1.1.length ≤ LIM) ∧ RestOk a.2.2)
  (fun a r obs' => RestOk a.2.2 ∧ r = .w (.o (.vw 0 (a.1.1.length - 2 + a.1.2.toNat))) ∧ obs' = (itO a.1.1 :: a.2.2).map some) 0
  (fun a h => ⟨_, _, ⟨h.2, rfl, rfl⟩, by simp [okV, okW, okC], fun j ob hj => by
    rw [List.getElem?_map] at hj
    obtain ⟨x, hx, e⟩ := Option.map_eq_some_iff.1 hj
    cases e
    simp only [List.map_cons, List.length_cons, List.length_map]
    rcases List.mem_cons.1 (List.mem_of_getElem? hx) with rfl | hm
    · exact arA_ok _
    · exact (h.2 _ hm).1⟩)
  (fun a r obs' h => by obtain ⟨_, _, rfl⟩ := h; simp)
noncomputable def S_impl_Cert_prefix_o : MSpec := { S_prefix0 with
  la := true
  hla := by
    intro _ args obs r obs' h
    obtain ⟨a, -, e, -, -, h⟩ := h
    rw [h, e] }
theorem K_impl_Cert_prefix_o {c : List It} {k : Int} {y : AC} {rest : List Ob} {r : AV} {obs' : List (Option Ob)} (h : S_impl_Cert_prefix_o.post [.w (.g [.ow 0, y]), I k] (itO c :: rest) r obs') : r = .w (.o (.vw 0 (c.length - 2 + k.toNat))) ∧ obs' = (itO c :: rest).map some := by
  obtain ⟨⟨⟨c', k'⟩, y', rest'⟩, h1, h2, _, h3, h4⟩ := h
  have e1 := List.cons.inj h1
  have e2 := aI_inj.1 (List.cons.inj e1.2).1
  have e3 := List.cons.inj h2
  have e4 : c = c' := itO_inj (congrArg (fun z => [z]) e3.1)
  dsimp only at e2 e3 h3 h4
  rw [h3, h4, ← e2, ← e4, ← e3.2]
  exact ⟨rfl, rfl⟩
/-! ### the cert -/
def ceR (b1 b2 : Bool) (l : List Vo) (r : AV) (obs' : List (Option Ob)) : Prop := obs'.length ≤ 16 ∧ ((certB l = false ∧ match b1, b2 with
  | false, _ => r = .tup [.g [.e0, .e0], .o (cB false)] ∧ obs' = []
  | true, false => r = .tup [.g [.ow 0, .e0], .o (cB false)] ∧ obs' = [some (itO [])]
  | true, true => r = .tup [.g [.ow 0, .ow 1], .o (cB false)] ∧ obs' = ceObs noCe) ∨ (certB l = true ∧ r = .tup [.g [.ow 0, .ow 1], .o (cB true)] ∧ obs' = ceObs (certOf l)))
theorem certOf_b {l : List Vo} (h : certB l = true) : (certOf l).b.length = 3 := by unfold certOf; rw [h]; rfl
theorem ceR_inh (b1 b2 : Bool) (l : List Vo) : ∃ r obs', ceR b1 b2 l r obs' ∧ okV (· < obs'.length) r ∧ ∀ (j : Nat) o, obs'[j]? = some (some o) → okOb (· < obs'.length) o := by
  cases h : certB l with
  | true => exact ⟨_, _, ⟨by rw [ceObs_len, certOf_b h]; decide, .inr ⟨h, rfl, rfl⟩⟩, by
      intro x hx
      rw [ceObs_len]
      simp only [List.mem_cons, List.not_mem_nil, or_false] at hx
      rcases hx with rfl | rfl
      · intro c hc
        simp only [List.mem_cons, List.not_mem_nil, or_false] at hc
        rcases hc with rfl | rfl
        · show 0 < _; omega
        · show 1 < _; omega
      · trivial, ceObs_ok⟩
  | false =>
    match b1, b2 with
    | false, _ => exact ⟨_, _, ⟨Nat.zero_le _, .inl ⟨h, rfl, rfl⟩⟩, by simp [okV, okW, okC], fun j o h => by simp at h⟩
    | true, false => exact ⟨_, _, ⟨by decide, .inl ⟨h, rfl, rfl⟩⟩, by simp [okV, okW, okC], ok_sg (arA_ok _)⟩
    | true, true => exact ⟨_, _, ⟨by decide, .inl ⟨h, rfl, rfl⟩⟩, by simp [okV, okW, okC, ceObs, ceIn, noCe], ceObs_ok⟩
noncomputable def S_ceR (b1 b2 : Bool) : MSpec := mkN (α := List Vo) (fun l => [one (vsF l)]) (fun l => FitVs l ∧ l.length < LIM) (fun l r obs' => ceR b1 b2 l r obs') 0 (fun l _ => ceR_inh b1 b2 l) (fun l r obs' h => h.1)
noncomputable def S_impl_CertOf_o : MSpec := S_ceR true true
theorem K_impl_CertOf_o {l : List Vo} {r : AV} {obs' : List (Option Ob)} (h : S_impl_CertOf_o.post [one (vsF l)] [] r obs') : r = .tup [.g [.ow 0, .ow 1], .o (cB (certB l))] ∧ obs' = ceObs (certOf l) := by
  obtain ⟨b, hb, _, h2⟩ := h
  have e0 : l = b := by simpa only [List.cons.injEq, and_true, one_inj, vsF_inj] using hb
  subst e0
  obtain ⟨_, ⟨h1, h3, h4⟩ | ⟨h1, h3, h4⟩⟩ := h2
  · rw [h1, h3, h4, show certOf l = noCe from by unfold certOf; rw [h1]; rfl]
    exact ⟨rfl, rfl⟩
  · rw [h1, h3, h4]
    exact ⟨rfl, rfl⟩
theorem valid_ceR {P : Program} {f : Nat} (hv : ValidM P f (S_ceR false false)) : ValidM P f (S_ceR true true) := by
  have h1 : ValidM P f (S_ceR true false) := by
    refine valid_e0tt hv rfl (fun args obs h => h) fun args obs r obs' hp ⟨a, h1, h2, h3, h4⟩ => ?_
    rcases h4 with ⟨q1, rfl, rfl⟩ | ⟨q1, q2, q3⟩
    · exact .inl ⟨_, 0, _, 0, rfl, rfl, rfl, ty_impl_Item, 4, a, h1, h2, by decide, .inl ⟨q1, rfl, rfl⟩⟩
    · exact .inr ⟨a, h1, h2, h3, .inr ⟨q1, q2, q3⟩⟩
  refine valid_e0tt h1 rfl (fun args obs h => h) fun args obs r obs' hp ⟨a, h1, h2, h3, h4⟩ => ?_
  rcases h4 with ⟨q1, rfl, rfl⟩ | ⟨q1, q2, q3⟩
  · exact .inl ⟨_, 0, _, 1, rfl, rfl, rfl, ty_Sint, 1, a, h1, h2, by decide, .inl ⟨q1, rfl, rfl⟩⟩
  · exact .inr ⟨a, h1, h2, h3, .inr ⟨q1, q2, q3⟩⟩
/-- A call to which its arguments are lent, and that hands back a cert. -/
theorem bq_ce {P : Program} {g : Nat} {S : MSpec} {fr : Env} {H : Hp} {nm rm : Nat} {K : KV} {xs : List (X × List (Option Nat))} {c : Ce} {t : Bool} {ar : List AV} (hv : ValidM P g S) (hc : S.cost = 0) (ha : borArgs fr H xs = ar) (hpre : S.pre ar []) (hcl : ar.all clV = true) (hst : c.b.length ≤ 14 + S.st)
    (hpost : ∀ r obs', S.post ar [] r obs' → r = .tup [.g [.ow 0, .ow 1], .o (cB t)] ∧ obs' = ceObs c)
    (hK : ∀ (n : Nat) (H' : Hp), nm = n → H' n = some (itO c.c) → nS.At H' (n + 2 + c.b.length) (n + 1) (fun j => n + 2 + j) c.b → (∀ k, k < n → H' k = H k) → K (.tup [.g [.ow n, .ow (n + 1)], .o (cB t)]) H' rm) : BQ P nm fr H rm K g S xs := by
  refine BQ.mk1 ha hv hc hpre hcl (fun r obs' hp => ?_) fun r obs' hp => ?_
  · obtain ⟨rfl, rfl⟩ := hpost r obs' hp
    refine ⟨fun x hx => ?_, fun j ob hj => ?_⟩
    · simp only [List.mem_cons, List.not_mem_nil, or_false] at hx
      rcases hx with rfl | rfl
      · intro c hc
        simp only [List.mem_cons, List.not_mem_nil, or_false] at hc
        rcases hc with rfl | rfl <;> trivial
      · trivial
    · rcases j with _ | _ | j
      · cases hj; exact itO_plain _
      · cases hj
        intro x hx y hy
        obtain ⟨i, hi⟩ := List.mem_iff_getElem?.1 hx
        simp only [Nest.K, List.getElem?_mapIdx, Option.map_eq_some_iff] at hi
        obtain ⟨v, hv, rfl⟩ := hi
        simp only [Nest.cell, nS, List.map_nil, List.nil_append, List.mem_cons, List.not_mem_nil, or_false] at hy
        subst hy; trivial
      · have hlt := (List.getElem?_eq_some_iff.1 hj).1
        rw [ceObs_len] at hlt
        rw [ceObs_at (List.getElem?_eq_getElem (show j < c.b.length by omega))] at hj
        cases hj
        intro x hx y hy
        obtain ⟨z, _, rfl⟩ := List.mem_map.1 hx
        obtain ⟨w, hw, rfl⟩ := List.mem_map.1 hy
        obtain ⟨v, rfl⟩ := inF_v z w hw; trivial
  · obtain ⟨rfl, rfl⟩ := hpost r obs' hp
    have hρ : ∀ i, i ≤ c.b.length + 1 → nmapS S.st [] nm i = nm + i := by
      intro i hi
      simp only [nmapS, List.length_nil, Nat.not_lt_zero, dite_false, Nat.sub_zero]
      omega
    have hget := hput_at (nmapS S.st [] nm) (ceObs c) 0 H (fun j j' _ h1 _ h2 e => by
      rw [ceObs_len] at h1 h2
      rw [hρ j (by omega), hρ j' (by omega)] at e
      omega)
    have e0 : AV.tup [.g [.ow nm, .ow (nm + 1)], .o (cB t)] = (AV.tup [.g [.ow 0, .ow 1], .o (cB t)]).ren (nmapS S.st [] nm) := by
      show _ = AV.tup [.g [.ow (nmapS S.st [] nm 0), .ow (nmapS S.st [] nm 1)], .o (cB t)]
      rw [hρ 0 (Nat.zero_le _), hρ 1 (by omega)]; rfl
    rw [← e0]
    refine hK nm _ rfl ?_ ⟨?_, fun j v hj => ?_, fun j hj => by omega, fun j j' _ _ e => by omega, by omega, fun j hj => by omega⟩ fun k hk => ?_
    · have := hget.1 0 _ rfl
      rw [Nat.zero_add, hρ 0 (Nat.zero_le _)] at this
      refine this.trans ?_
      show some ((itO c.c).ren _) = _
      rw [arr_ren]
    · have := hget.1 1 _ rfl
      rw [Nat.zero_add, hρ 1 (by omega)] at this
      refine this.trans ?_
      show some ((nS.ob (· + 2) c.b).ren _) = _
      rw [Nest.ob_ren (f := fun j => nm + 2 + j) (fun j hj => by rw [hρ (j + 2) (by omega)]; omega)]
    · have hlt := (List.getElem?_eq_some_iff.1 hj).1
      have := hget.1 (j + 2) _ (ceObs_at hj)
      rw [Nat.zero_add, hρ (j + 2) (by omega)] at this
      rw [show nm + 2 + j = nm + (j + 2) by omega, this]
      show some ((nS.ob1 v).ren _) = _
      rw [Nest.ob1_ren]
    · exact hget.2 k fun j _ hj e => by
        rw [ceObs_len] at hj
        rw [hρ j (by omega)] at e; omega
/-! ### marks that are held -/
def lni (l : List (List Int)) : List Nat := l.map List.length
theorem endIs_lni : ∀ (l m : List (List Int)) (k : Int), lni l = lni m → endIs l k = endIs m k
  | [], [], _, _ => rfl
  | [], _ :: _, _, h => by simp [lni] at h
  | _ :: _, [], _, h => by simp [lni] at h
  | v :: r, w :: s, k, h => by
    simp only [lni, List.map_cons, List.cons.injEq] at h
    simp only [endIs, h.1]
    exact endIs_lni r s _ h.2
theorem lni_mk : ∀ (l : List (List Int)) (k : Int), lni (mkIs l k) = lni l
  | [], _ => rfl
  | v :: r, k => by
    have := lni_mk r (k + v.length)
    simp only [lni] at this ⊢
    simp only [mkIs, List.map_cons, mkI_len, this]
noncomputable def S_laws_heldIntSS : FSpec := iF (α := List (List Int) × Int) (fun a => [one (nssF (mkIs a.1 a.2)), I a.2]) (fun a => SmBs a.1 ∧ 0 ≤ a.2 ∧ a.2 ≤ 1099511627776) (fun a => endIs a.1 a.2) (fun _ => rfl)
theorem K_laws_heldIntSS {l : List (List Int)} {k : Int} {r : AV} (h : S_laws_heldIntSS.post [one (nssF (mkIs l k)), I k] r) : r = I (endIs l k) := by
  obtain ⟨⟨m, j⟩, h1, h2⟩ := h
  have e1 := nssF_inj.1 (one_inj.1 (List.cons.inj h1).1)
  have e2 := aI_inj.1 (List.cons.inj (List.cons.inj h1).2).1
  dsimp only at e1 e2 h2
  subst e2
  have e3 : lni l = lni m := by rw [← lni_mk l k, e1, lni_mk]
  rw [h2, endIs_lni l m k e3]
noncomputable def S_laws_heldCert : FSpec := iF (α := Ce × Int) (fun a => [agg (ceF (mkCe a.1 a.2)), I a.2]) (fun a => SmCe a.1 ∧ 0 ≤ a.2 ∧ a.2 ≤ 1099500000000) (fun a => endCe a.1 a.2) (fun _ => rfl)
theorem K_laws_heldCert {c : Ce} {k : Int} {r : AV} (h : S_laws_heldCert.post [agg (ceF (mkCe c k)), I k] r) : r = I (endCe c k) := by
  obtain ⟨⟨m, j⟩, h1, h2⟩ := h
  have e1 := ceF_inj.1 (agg_inj.1 (List.cons.inj h1).1)
  have e2 := aI_inj.1 (List.cons.inj (List.cons.inj h1).2).1
  dsimp only at e1 e2 h2
  subst e2
  have e3 := (Ce.mk.inj e1).1
  have e4 := (Ce.mk.inj e1).2
  have e5 := congrArg List.length e3
  rw [mkC_len, mkC_len] at e5
  rw [e5] at e4
  have e6 : lni c.b = lni m.b := by rw [← lni_mk c.b (k + 4 * m.c.length), e4, lni_mk]
  rw [h2]
  unfold endCe
  rw [e5, endIs_lni c.b m.b _ e6]
noncomputable def S_laws_FnExactCertOf : FSpec := tF (α := (List Vo)) (fun a => [one (vsF a)]) (fun a => BigVs a) (fun a => True) (fun _ => rfl)
theorem K_laws_FnExactCertOf {a : (List Vo)} {r : AV} (h : S_laws_FnExactCertOf.post ([one (vsF a)]) r) : (True ∧ r = B true) ∨ (¬ (True) ∧ r = B false) :=
  tF_post (hcl := fun _ => rfl) (a := a) (by intro a b h; simpa only [List.cons.injEq, and_true, true_and, one_inj, agg_inj, paF_inj, itF_inj, chF_inj, voF_inj, vsF_inj, csF_inj, nsF_inj, nssF_inj, ndF_inj, ceF_inj, woF_inj, evF_inj, byF_inj, ndsF_inj, evsF_inj, pasF_inj, aI_inj, aB_inj, aRp_inj, fI_inj, fBo_inj] using h) h
end Av
end Go.Proofs.Ytdboofnogabefaa
