/- The walk: the law FnExactVotesAdd. -/
import Derived.Test.YtmboljfckljjhaaVF
import Derived.Test.YtmboljfckljjhaaW1
set_option linter.unusedVariables false
set_option linter.unusedSimpArgs false
namespace Go.Proofs.Ytmboljfckljjhaa
namespace Av
open Go.RowKit

section
variable {H : Hp} {l : List Vo} {v : Vo} {k : Nat}
variable {P : Program} {g : Nat} {S : MSpec} {fr : Env} {nm rm : Nat} {K : KV} {xs : List (X × List (Option Nat))}
theorem bor_vo (h : H k = some (itO v.c)) : borV H [none, some 4] (.w (.g (voK v k))) = agg (voF v) := by
  show AV.w (.g [.c (fI v.n), bor H (some 4) (.ow k)]) = _
  rw [bor_ow h (fcellss_f itF v.c)]
  rfl
/-- A call to which its arguments are lent, and which hands back a nest and a bool. -/
theorem bq_nestB {t : Bool} {α : Type} {N : Nest α} {l : List α} {ar : List AV} (hN : N.Plain) (hv : ValidM P g S) (hc : S.cost = 0) (ha : borArgs fr H xs = ar) (hpre : S.pre ar []) (hcl : ar.all clV = true) (hst : l.length ≤ 15 + S.st)
    (hpost : ∀ r obs', S.post ar [] r obs' → r = .tup [.o (.ow 0), .o (cB t)] ∧ obs' = N.obs l)
    (hK : ∀ (n : Nat) (H' : Hp), nm = n → N.At H' (n + 1 + l.length) n (fun j => n + 1 + j) l → (∀ k, k < n → H' k = H k) → K (.tup [.o (.ow n), .o (cB t)]) H' rm) : BQ P nm fr H rm K g S xs := by
  refine BQ.mk1 ha hv hc hpre hcl (fun r obs' hp => by
    obtain ⟨rfl, rfl⟩ := hpost r obs' hp
    refine ⟨fun c hc => ?_, hN.obs⟩
    simp only [List.mem_cons, List.not_mem_nil, or_false] at hc
    rcases hc with rfl | rfl <;> trivial) fun r obs' hp => ?_
  obtain ⟨rfl, rfl⟩ := hpost r obs' hp
  have hρ : ∀ i, i ≤ l.length → nmapS S.st [] nm i = nm + i := by
    intro i hi
    simp only [nmapS, List.length_nil, Nat.not_lt_zero, dite_false, Nat.sub_zero]
    omega
  have hget := hput_at (nmapS S.st [] nm) (N.obs l) 0 H (fun j j' _ h1 _ h2 e => by
    rw [Nest.obs_len] at h1 h2
    rw [hρ j (by omega), hρ j' (by omega)] at e
    omega)
  have e0 : (AV.tup [.o (.ow nm), .o (cB t)]) = (AV.tup [.o (.ow 0), .o (cB t)]).ren (nmapS S.st [] nm) := by
    show _ = AV.tup [.o (.ow (nmapS S.st [] nm 0)), .o (cB t)]
    rw [hρ 0 (Nat.zero_le _), Nat.add_zero]
  rw [← e0]
  refine hK nm _ rfl ⟨?_, fun j v hj => ?_, fun j hj => by omega, fun j j' _ _ e => by omega, by omega, fun j hj => by omega⟩ fun k hk => ?_
  · have := hget.1 0 _ Nest.obs_at0
    rw [Nat.zero_add, hρ 0 (Nat.zero_le _)] at this
    refine this.trans ?_
    show some ((N.ob (· + 1) l).ren _) = _
    rw [Nest.ob_ren (f := fun j => nm + 1 + j) (fun j hj => by rw [hρ (j + 1) (by omega)]; omega)]
  · have hlt := (List.getElem?_eq_some_iff.1 hj).1
    have := hget.1 (j + 1) _ (Nest.obs_at hj)
    rw [Nat.zero_add, hρ (j + 1) (by omega)] at this
    rw [show nm + 1 + j = nm + (j + 1) by omega, this]
    show some ((N.ob1 v).ren _) = _
    rw [Nest.ob1_ren]
  · exact hget.2 k fun j _ hj e => by
      rw [Nest.obs_len] at hj
      rw [hρ j (by omega)] at e; omega
theorem mq_vo' {v : Vo} (hv : ValidM P g S) (hl : rm + S.cost ≤ LIM) (ha : nrmArgs fr xs = [agg (voF v)]) (hpre : S.pre [agg (voF v)] [])
    (hpost : ∀ r obs', S.post [agg (voF v)] [] r obs' → r = .w (.g (voK v 0)) ∧ obs' = [some (itO v.c)])
    (hK : ∀ (n : Nat) (H' : Hp), nm = n → H' n = some (itO v.c) → (∀ j, j ≠ n → H' j = H j) → K (.w (.g (voK v n))) H' (rm + S.cost)) : MQ P nm fr H rm K g S xs :=
  mq_vo hv hl ha hpre hpost (hK nm _ rfl hupd_at fun j hj => hupd_ne hj)
/-- Marks on a vote. -/
theorem mq_vmark {v : Vo} {k : Nat} {n m : Int} {c : List It} (hv : ValidM P g S) (hl : rm + S.cost ≤ LIM) (hk : H k = some (itO v.c)) (ha : nrmArgs fr xs = [.w (.g (voK v k)), I n]) (hpre : S.pre [.w (.g (voK v 0)), I n] [itO v.c])
    (hpost : ∀ r obs', S.post [.w (.g (voK v 0)), I n] [itO v.c] r obs' → r = I m ∧ obs' = [some (itO c)])
    (hK : ∀ H' : Hp, H' k = some (itO c) → (∀ j, j ≠ k → H' j = H j) → K (I m) H' (rm + S.cost)) : MQ P nm fr H rm K g S xs := by
  have e0 : nmapS S.st [k] nm 0 = k := nmap_lt (s := S.st) rfl
  refine ⟨⟨hv, hl, [k], [.w (.g (voK v 0)), I n], [itO v.c], by simp, rfl, fun i k' h => ?_, ?_, hpre, fun r obs' hp _ _ => ?_⟩⟩
  · match i, h with
    | 0, h => cases h; exact ⟨_, rfl, by rw [hk]; exact congrArg some (arr_ren ..).symm⟩
    | i + 1, h => simp at h
  · rw [ha]
    show [AV.w (.g [.c (fI v.n), .ow (nmapS S.st [k] nm 0)]), I n] = _
    rw [e0]; rfl
  · obtain ⟨rfl, rfl⟩ := hpost r obs' hp
    show K (I m) (hupd (nmapS S.st [k] nm 0) (some ((itO c).ren _)) H) _
    rw [e0]
    exact hK _ (hupd_at.trans (congrArg some (arr_ren ..))) fun j hj => hupd_ne hj
theorem add_sm {l : List Vo} {v : Vo} (h : SmVs l) (hv : v.c.length ≤ SM) : SmVs2 (addL l v) := by
  have h1 : l.length ≤ 1048576 := h.1
  unfold addL
  split
  · split
    · exact h.two
    · refine ⟨by rw [List.length_append]; simp only [List.length_cons, List.length_nil]; omega, fun u hu => ?_⟩
      rcases List.mem_append.1 hu with hu | hu
      · exact h.2 u hu
      · rw [List.mem_singleton.1 hu]; exact hv
  · exact ⟨by simp, fun u hu => by simp at hu⟩
theorem SmVs2.fit {l : List Vo} (h : SmVs2 l) : FitVs l := ⟨Nat.le_trans h.1 (by decide), fun v hv => Nat.le_trans (h.2 v hv) (by decide)⟩
theorem one0 : (0 : Int) ≤ 1 := by decide
theorem oneM2 : (1 : Int) ≤ 1099511627776 := by decide
end
attribute [local irreducible] addL addB mkC mkVs endV
attribute [local irreducible] Valid ValidM
set_option maxHeartbeats 4000000 in
set_option maxRecDepth 100000 in
theorem v_laws_FnExactVotesAdd : Valid Try.prog n_laws_FnExactVotesAdd S_laws_FnExactVotesAdd := by
  refine valid_of_swp mixed is_laws_FnExactVotesAdd (by rintro _ ⟨a, rfl, _⟩; exact Nat.le_of_ble_eq_true rfl) ?_
  rintro _ rm ⟨⟨l, v⟩, rfl, hpre⟩ hl
  try dsimp only at hpre
  have hpre0 := hpre
  obtain ⟨hp1, hp2⟩ := hpre
  have hb1 := hp1.1
  have hb2 := hp1.2
  repeat' ((conv => whnf); first
    | refine ⟨_, rfl, ?_⟩
    | refine ⟨rfl, ?_⟩
    | refine ⟨_, ldc_cells hupd_at (Nat.le_of_ble_eq_true rfl), ?_⟩
    | refine ⟨_, ldc_cells (by first | assumption | exact zk ‹_› (by omega) | exact zk (zk ‹_› (by omega)) (by omega)) (Nat.le_of_ble_eq_true rfl), ?_⟩
    | refine ⟨_, _, hupd_at, rfl, rfl, Nat.le_of_ble_eq_true rfl, ?_⟩
    | refine ⟨_, _, rfl, rfl, rfl, Nat.le_of_ble_eq_true rfl, ?_⟩
    | (refine ⟨?_, _, (?_ : (_ : Option Ob) = _), rfl, rfl, ?_, ?_⟩; rotate_left; (exact hk_); exact Nat.le_of_ble_eq_true rfl)
    | refine ⟨_, _, _, _, ((by exact hk_) : (_ : Option Ob) = _), fill_at (by omega), rfl, rfl, Nat.le_of_ble_eq_true rfl, ?_⟩
    | refine ⟨_, _, _, _, ((by exact hk_) : (_ : Option Ob) = _), at_mapA (by assumption), rfl, rfl, Nat.le_of_ble_eq_true rfl, ?_⟩
    | refine ⟨_, ldc_pa (by exact hk_) (at_mapA (by assumption)) (Nat.le_of_ble_eq_true rfl), ?_⟩
    | refine ⟨_, ((by exact hk_) : (_ : Option Ob) = _), ?_⟩
    | (refine ⟨fun hc => ?_, fun hc => ?_⟩ <;> (try simp (disch := omega) only [List.length_map, wrap64] at hc))
    | (refine callk (b := [one (vsF _), I _]) v_laws_szVoteS rfl ⟨(_, _), rfl, (by refine ⟨?_, ?_, ?_⟩ <;> (exact pr_))⟩ (.inl rfl) (by first | assumption | omega) (fun r hr => ?_); have hj := K_laws_szVoteS (a := (_, _)) hr; clear hr; obtain ⟨k, rfl, hk1, hk2⟩ := hj)
    | (refine callk (b := [agg (voF ⟨_, _⟩), I _]) v_laws_szVote rfl ⟨(⟨_, _⟩, _), rfl, (by refine ⟨?_, ?_, ?_⟩ <;> (exact pr_))⟩ (.inl rfl) (by first | assumption | omega) (fun r hr => ?_); have hj := K_laws_szVote (a := (⟨_, _⟩, _)) hr; clear hr; obtain ⟨k, rfl, hk1, hk2⟩ := hj)
    | exact ⟨⟨_, rfl, rfl, (l, v), rfl, (by refine congrArg B (Eq.symm (tb_pos ?_)); (try dsimp only); first | done | exact absurd True.intro hj | (exact True.intro))⟩, (by first | exact Nat.le_refl _ | omega), (by exact h0_)⟩
    | exact ⟨⟨_, rfl, rfl, (l, v), rfl, (by refine congrArg B (Eq.symm (tb_neg ?_)); (try dsimp only); first | done | exact absurd True.intro hj | (exact True.intro))⟩, (by first | exact Nat.le_refl _ | omega), (by exact h0_)⟩
    | fail)
  rename_i k1 q1 q2 q3
  have hsm : SmVs l := q2 q3
  have hvs : v.c.length ≤ SM := hk2 hc
  have hvs' : v.c.length ≤ 1048576 := hvs
  have hfl : FitVs l := hsm.fit
  have hfv : FitV v := Nat.le_trans hvs (by decide)
  have hlt : l.length < LIM := hsm.lt
  have hln : l.length ≤ 1048576 := hsm.1
  have hst : S_laws_toVoteS_o.st = 4194304 := NB_eq
  have hsA : S_impl_VotesAdd_o.st = 4194304 := NB_eq
  have hal : (addL l v).length ≤ l.length + 1 := addL_len l v
  have ha2 : SmVs2 (addL l v) := add_sm hsm hvs
  have haf : FitVs (addL l v) := ha2.fit
  have hbb : (!(addB l v == addB l v)) = false := by simp
  have hEb := endV_bounds l 1 fun v hv => hsm.2 v hv
  repeat' ((conv => whnf); first
    | refine ⟨_, rfl, ?_⟩
    | refine ⟨rfl, ?_⟩
    | refine ⟨_, ldc_cells hupd_at (Nat.le_of_ble_eq_true rfl), ?_⟩
    | refine ⟨_, ldc_cells (by first | assumption | exact zk ‹_› (by omega) | exact zk (zk ‹_› (by omega)) (by omega)) (Nat.le_of_ble_eq_true rfl), ?_⟩
    | refine ⟨_, _, hupd_at, rfl, rfl, Nat.le_of_ble_eq_true rfl, ?_⟩
    | refine ⟨_, _, rfl, rfl, rfl, Nat.le_of_ble_eq_true rfl, ?_⟩
    | (refine ⟨?_, _, (?_ : (_ : Option Ob) = _), rfl, rfl, ?_, ?_⟩; rotate_left; (exact hk_); exact Nat.le_of_ble_eq_true rfl)
    | refine ⟨_, _, _, _, ((by exact hk_) : (_ : Option Ob) = _), fill_at (by omega), rfl, rfl, Nat.le_of_ble_eq_true rfl, ?_⟩
    | refine ⟨_, _, _, _, ((by exact hk_) : (_ : Option Ob) = _), at_mapA (by assumption), rfl, rfl, Nat.le_of_ble_eq_true rfl, ?_⟩
    | refine ⟨_, ldc_pa (by exact hk_) (at_mapA (by assumption)) (Nat.le_of_ble_eq_true rfl), ?_⟩
    | refine ⟨_, ((by exact hk_) : (_ : Option Ob) = _), ?_⟩
    | (refine ⟨fun hc => ?_, fun hc => ?_⟩ <;> (try simp (disch := omega) only [List.length_map, wrap64] at hc))
    | (refine calle (b := [one (vsF _)]) v_laws_toVoteS rfl ⟨_, rfl, (by exact pr_)⟩ (.inl rfl) (by first | assumption | omega) (fun r hr => K_laws_toVoteS (a := _) hr) ?_)
    | (refine calle (b := [agg (voF ⟨_, _⟩)]) v_laws_toVote rfl ⟨⟨_, _⟩, rfl, (by exact pr_)⟩ (.inl rfl) (by first | assumption | omega) (fun r hr => K_laws_toVote (a := ⟨_, _⟩) hr) ?_)
    | (refine callk (b := [one (vsF _), agg (voF ⟨_, _⟩)]) v_spec_VotesAdd rfl ⟨(_, ⟨_, _⟩), rfl, (by refine ⟨?_, ?_, ?_⟩ <;> (exact pr_))⟩ (.inl rfl) (by first | assumption | omega) (fun r hr => ?_); have hj := K_spec_VotesAdd (a := (_, ⟨_, _⟩)) hr; clear hr; unfold R_spec_VotesAdd at hj; dsimp only at hj; (try simp only [etaVo] at hj); (try rw [eL1, eB1] at hj); (try rw [eL2, eB2] at hj); (try rw [eL3, eB3] at hj); (try rw [eL4, eB4] at hj); subst hj)
    | fail)
  conv => whnf
  refine mq_nest (N := nV) (l := l) (ar := [one (vsF l)]) v_laws_toVoteS_o (by exact hl) (by rfl) rfl ⟨l, rfl, rfl, hsm⟩ (by rw [hst]; omega) (fun r obs' h => by rw [nV_obs]; exact K_laws_toVoteS_o h) fun n1 H1 e1 h1A h1o => ?_
  have h1p := (h1o 1 (by omega)).trans hupd_at
  repeat' ((conv => whnf); first
    | (refine ⟨_, ldc_cells h1p (Nat.le_of_ble_eq_true rfl), ?_⟩)
    | refine ⟨_, rfl, ?_⟩
    | refine ⟨rfl, ?_⟩
    | refine ⟨_, ldc_cells hupd_at (Nat.le_of_ble_eq_true rfl), ?_⟩
    | refine ⟨_, ldc_cells (by first | assumption | exact zk ‹_› (by omega) | exact zk (zk ‹_› (by omega)) (by omega)) (Nat.le_of_ble_eq_true rfl), ?_⟩
    | refine ⟨_, _, hupd_at, rfl, rfl, Nat.le_of_ble_eq_true rfl, ?_⟩
    | refine ⟨_, _, rfl, rfl, rfl, Nat.le_of_ble_eq_true rfl, ?_⟩
    | (refine ⟨?_, _, (?_ : (_ : Option Ob) = _), rfl, rfl, ?_, ?_⟩; rotate_left; (exact hk_); exact Nat.le_of_ble_eq_true rfl)
    | refine ⟨_, _, _, _, ((by exact hk_) : (_ : Option Ob) = _), fill_at (by omega), rfl, rfl, Nat.le_of_ble_eq_true rfl, ?_⟩
    | refine ⟨_, _, _, _, ((by exact hk_) : (_ : Option Ob) = _), at_mapA (by assumption), rfl, rfl, Nat.le_of_ble_eq_true rfl, ?_⟩
    | refine ⟨_, ldc_pa (by exact hk_) (at_mapA (by assumption)) (Nat.le_of_ble_eq_true rfl), ?_⟩
    | refine ⟨_, ((by exact hk_) : (_ : Option Ob) = _), ?_⟩
    | (refine ⟨fun hc => ?_, fun hc => ?_⟩ <;> (try simp (disch := omega) only [List.length_map, wrap64] at hc))
    | (refine calle (b := [agg (voF ⟨_, _⟩)]) v_laws_toVote rfl ⟨⟨_, _⟩, rfl, (by exact pr_)⟩ (.inl rfl) (by first | assumption | omega) (fun r hr => K_laws_toVote (a := ⟨_, _⟩) hr) ?_)
    | fail)
  conv => whnf
  refine mq_vo' (v := v) v_laws_toVote_o (by exact hl) (by rfl) ⟨v, rfl, rfl, hfv⟩ (fun r obs' h => K_laws_toVote_o h) fun n2 H2 e2 h2k h2o => ?_
  have hn2 : n1 + 1 + l.length < n2 := by omega
  have h2A := h1A.mono (b' := n2) (H' := H2) (by omega) fun i hi => h2o i (by omega)
  have h2p := (h2o 1 (by omega)).trans h1p
  have h20 : H2 0 = none := (h2o 0 (by omega)).trans ((h1o 0 (by omega)).trans (zk (by rfl) (by omega)))
  repeat' ((conv => whnf); first
    | refine ⟨_, rfl, ?_⟩
    | refine ⟨rfl, ?_⟩
    | refine ⟨_, ldc_cells hupd_at (Nat.le_of_ble_eq_true rfl), ?_⟩
    | refine ⟨_, ldc_cells (by first | assumption | exact zk ‹_› (by omega) | exact zk (zk ‹_› (by omega)) (by omega)) (Nat.le_of_ble_eq_true rfl), ?_⟩
    | refine ⟨_, _, hupd_at, rfl, rfl, Nat.le_of_ble_eq_true rfl, ?_⟩
    | refine ⟨_, _, rfl, rfl, rfl, Nat.le_of_ble_eq_true rfl, ?_⟩
    | (refine ⟨?_, _, (?_ : (_ : Option Ob) = _), rfl, rfl, ?_, ?_⟩; rotate_left; (exact hk_); exact Nat.le_of_ble_eq_true rfl)
    | refine ⟨_, _, _, _, ((by exact hk_) : (_ : Option Ob) = _), fill_at (by omega), rfl, rfl, Nat.le_of_ble_eq_true rfl, ?_⟩
    | refine ⟨_, _, _, _, ((by exact hk_) : (_ : Option Ob) = _), at_mapA (by assumption), rfl, rfl, Nat.le_of_ble_eq_true rfl, ?_⟩
    | refine ⟨_, ldc_pa (by exact hk_) (at_mapA (by assumption)) (Nat.le_of_ble_eq_true rfl), ?_⟩
    | refine ⟨_, ((by exact hk_) : (_ : Option Ob) = _), ?_⟩
    | (refine ⟨fun hc => ?_, fun hc => ?_⟩ <;> (try simp (disch := omega) only [List.length_map, wrap64] at hc))
    | fail)
  conv => whnf
  refine bq_nestB (N := nV) (l := addL l v) (t := addB l v) (ar := [one (vsF l), agg (voF v)]) nV_plain v_impl_VotesAdd_o rfl (l2 (congrArg (fun x => AV.w (.o x)) (h2A.mono (Nat.le_refl _) fun i hi => zk (zk rfl (by omega)) (by omega)).bor) (bor_vo (zk (zk h2k (by omega)) (by omega)))) ⟨(l, v), rfl, rfl, hfl, hfv, hsm.1⟩ rfl (by rw [hsA]; omega) (fun r obs' h => K_impl_VotesAdd_o h) fun n3 H3 e3 h3N h3o => ?_
  have h3x : H3 _ = some (.cells (voK v n2)) := (h3o _ (by omega)).trans hupd_at
  have h3k := (h3o n2 (by omega)).trans (zk (zk h2k (by omega)) (by omega))
  have h3p := (h3o 1 (by omega)).trans (zk (zk h2p (by omega)) (by omega))
  have h30 := (h3o 0 (by omega)).trans (zk (zk h20 (by omega)) (by omega))
  have h3A := h2A.mono (b' := n2) (H' := H3) (Nat.le_refl _) fun i hi => (h3o i (by omega)).trans (zk (zk rfl (by omega)) (by omega))
  repeat' ((conv => whnf); first
    | (rw [hbb]; conv => whnf)
    | (refine callt (b := [one (vsF (addL l v)), one (vsF (addL l v))]) v_laws_eqVoteS (l2 (congrArg (fun x => AV.w (.o x)) h3N.bor) rfl) ⟨(addL l v, addL l v), rfl, haf, haf⟩ (.inr ⟨rfl, rfl⟩) (by exact hl) (fun r hr => K_laws_eqVoteS (a := (addL l v, addL l v)) hr) (fun hj => ?_) (fun hj => ?_) <;> (try (exact absurd rfl hj)))
    | (refine callt (b := [one (vsF l), one (vsF l)]) v_laws_eqVoteS (l2 (congrArg (fun x => AV.w (.o x)) h3A.bor) rfl) ⟨(l, l), rfl, hfl, hfl⟩ (.inr ⟨rfl, rfl⟩) (by exact hl) (fun r hr => K_laws_eqVoteS (a := (l, l)) hr) (fun hj => ?_) (fun hj => ?_) <;> (try (exact absurd rfl hj)))
    | (refine ⟨_, ldc_cells h3x (Nat.le_of_ble_eq_true rfl), ?_⟩)
    | (refine ⟨_, ldc_cells h3p (Nat.le_of_ble_eq_true rfl), ?_⟩)
    | (refine callt (b := [agg (voF v), agg (voF v)]) v_laws_eqVote (l2 (bor_vo h3k) rfl) ⟨(v, v), rfl, hfv, hfv⟩ (.inr ⟨rfl, rfl⟩) (by exact hl) (fun r hr => K_laws_eqVote (a := (v, v)) hr) (fun hj => ?_) (fun hj => ?_) <;> (try (exact absurd rfl hj)))
    | refine ⟨_, rfl, ?_⟩
    | refine ⟨rfl, ?_⟩
    | refine ⟨_, ldc_cells hupd_at (Nat.le_of_ble_eq_true rfl), ?_⟩
    | refine ⟨_, ldc_cells (by first | assumption | exact zk ‹_› (by omega) | exact zk (zk ‹_› (by omega)) (by omega)) (Nat.le_of_ble_eq_true rfl), ?_⟩
    | refine ⟨_, _, hupd_at, rfl, rfl, Nat.le_of_ble_eq_true rfl, ?_⟩
    | refine ⟨_, _, rfl, rfl, rfl, Nat.le_of_ble_eq_true rfl, ?_⟩
    | (refine ⟨?_, _, (?_ : (_ : Option Ob) = _), rfl, rfl, ?_, ?_⟩; rotate_left; (exact hk_); exact Nat.le_of_ble_eq_true rfl)
    | refine ⟨_, _, _, _, ((by exact hk_) : (_ : Option Ob) = _), fill_at (by omega), rfl, rfl, Nat.le_of_ble_eq_true rfl, ?_⟩
    | refine ⟨_, _, _, _, ((by exact hk_) : (_ : Option Ob) = _), at_mapA (by assumption), rfl, rfl, Nat.le_of_ble_eq_true rfl, ?_⟩
    | refine ⟨_, ldc_pa (by exact hk_) (at_mapA (by assumption)) (Nat.le_of_ble_eq_true rfl), ?_⟩
    | refine ⟨_, ((by exact hk_) : (_ : Option Ob) = _), ?_⟩
    | (refine ⟨fun hc => ?_, fun hc => ?_⟩ <;> (try simp (disch := omega) only [List.length_map, wrap64] at hc) <;> (try (exfalso; first | contradiction | omega)))
    | (refine calle (b := [one (vsF _)]) v_laws_toVoteS rfl ⟨_, rfl, (by exact pr_)⟩ (.inl rfl) (by first | assumption | omega) (fun r hr => K_laws_toVoteS (a := _) hr) ?_)
    | (refine calle (b := [agg (voF ⟨_, _⟩)]) v_laws_toVote rfl ⟨⟨_, _⟩, rfl, (by exact pr_)⟩ (.inl rfl) (by first | assumption | omega) (fun r hr => K_laws_toVote (a := ⟨_, _⟩) hr) ?_)
    | fail)
  conv => whnf
  refine mq_nin (N := nV) (l := l) (l' := mkVs l 1) (n := 1) (m := endV l 1) v_laws_markVoteS_o (by exact hl) h3A (by rfl) ⟨(l, 1), rfl, rfl, hsm.two, one0, oneM2⟩ (mkVs_len l 1) (fun r obs' h => by rw [nV_obs]; exact K_laws_markVoteS_o h) fun H4 h4A h4o => ?_
  have hOff4 : ∀ i, i < n1 ∨ n2 ≤ i → H4 i = H3 i := fun i hi => h4o i ⟨by omega, fun j _ => by show n1 + 1 + j ≠ i; omega⟩
  have h4x : H4 _ = some (.cells (voK v n2)) := (hOff4 _ (.inr (by omega))).trans h3x
  have h4k := (hOff4 n2 (.inr (by omega))).trans h3k
  have h4p := (hOff4 1 (.inl (by omega))).trans h3p
  have h40 := (hOff4 0 (.inl (by omega))).trans h30
  have h4N := h3N.same (H' := H4) (Nat.le_refl _) fun i hi => hOff4 i (by
    rcases Nat.lt_or_ge i n3 with h | h
    · exact absurd ⟨by omega, fun j _ => by show n3 + 1 + j ≠ i; omega⟩ hi
    · exact .inr (by omega))
  repeat' ((conv => whnf); first
    | (refine ⟨_, ldc_cells h4x (Nat.le_of_ble_eq_true rfl), ?_⟩)
    | refine ⟨_, rfl, ?_⟩
    | refine ⟨rfl, ?_⟩
    | refine ⟨_, ldc_cells hupd_at (Nat.le_of_ble_eq_true rfl), ?_⟩
    | refine ⟨_, ldc_cells (by first | assumption | exact zk ‹_› (by omega) | exact zk (zk ‹_› (by omega)) (by omega)) (Nat.le_of_ble_eq_true rfl), ?_⟩
    | refine ⟨_, _, hupd_at, rfl, rfl, Nat.le_of_ble_eq_true rfl, ?_⟩
    | refine ⟨_, _, rfl, rfl, rfl, Nat.le_of_ble_eq_true rfl, ?_⟩
    | (refine ⟨?_, _, (?_ : (_ : Option Ob) = _), rfl, rfl, ?_, ?_⟩; rotate_left; (exact hk_); exact Nat.le_of_ble_eq_true rfl)
    | refine ⟨_, _, _, _, ((by exact hk_) : (_ : Option Ob) = _), fill_at (by omega), rfl, rfl, Nat.le_of_ble_eq_true rfl, ?_⟩
    | refine ⟨_, _, _, _, ((by exact hk_) : (_ : Option Ob) = _), at_mapA (by assumption), rfl, rfl, Nat.le_of_ble_eq_true rfl, ?_⟩
    | refine ⟨_, ldc_pa (by exact hk_) (at_mapA (by assumption)) (Nat.le_of_ble_eq_true rfl), ?_⟩
    | refine ⟨_, ((by exact hk_) : (_ : Option Ob) = _), ?_⟩
    | (refine ⟨fun hc => ?_, fun hc => ?_⟩ <;> (try simp (disch := omega) only [List.length_map, wrap64] at hc) <;> (try (exfalso; first | contradiction | omega)))
    | fail)
  conv => whnf
  refine mq_vmark (v := v) (k := n2) (n := endV l 1) (m := endV l 1 + 4 * v.c.length) (c := mkC v.c.length (endV l 1)) v_laws_markVote_o (by exact hl) h4k (by rfl) ⟨(v, endV l 1), rfl, rfl, hvs, by dsimp only; omega, by dsimp only [MK]; omega⟩ (fun r obs' h => K_laws_markVote_o h) fun H5 h5k h5o => ?_
  have h5p := (h5o 1 (by omega)).trans h4p
  have h50 := (h5o 0 (by omega)).trans h40
  have h5N := h4N.same (H' := H5) (Nat.le_refl _) fun i hi => h5o i (by
    intro e
    exact absurd ⟨by omega, fun j _ => by show n3 + 1 + j ≠ i; omega⟩ hi)
  repeat' ((conv => whnf); first
    | (rw [hbb]; conv => whnf)
    | (refine callt (b := [one (vsF (addL l v)), one (vsF (addL l v))]) v_laws_eqVoteS (l2 (congrArg (fun x => AV.w (.o x)) h5N.bor) rfl) ⟨(addL l v, addL l v), rfl, haf, haf⟩ (.inr ⟨rfl, rfl⟩) (by exact hl) (fun r hr => K_laws_eqVoteS (a := (addL l v, addL l v)) hr) (fun hj => ?_) (fun hj => ?_) <;> (try (exact absurd rfl hj)))
    | refine ⟨_, rfl, ?_⟩
    | refine ⟨rfl, ?_⟩
    | refine ⟨_, ldc_cells hupd_at (Nat.le_of_ble_eq_true rfl), ?_⟩
    | refine ⟨_, ldc_cells (by first | assumption | exact zk ‹_› (by omega) | exact zk (zk ‹_› (by omega)) (by omega)) (Nat.le_of_ble_eq_true rfl), ?_⟩
    | refine ⟨_, _, hupd_at, rfl, rfl, Nat.le_of_ble_eq_true rfl, ?_⟩
    | refine ⟨_, _, rfl, rfl, rfl, Nat.le_of_ble_eq_true rfl, ?_⟩
    | (refine ⟨?_, _, (?_ : (_ : Option Ob) = _), rfl, rfl, ?_, ?_⟩; rotate_left; (exact hk_); exact Nat.le_of_ble_eq_true rfl)
    | refine ⟨_, _, _, _, ((by exact hk_) : (_ : Option Ob) = _), fill_at (by omega), rfl, rfl, Nat.le_of_ble_eq_true rfl, ?_⟩
    | refine ⟨_, _, _, _, ((by exact hk_) : (_ : Option Ob) = _), at_mapA (by assumption), rfl, rfl, Nat.le_of_ble_eq_true rfl, ?_⟩
    | refine ⟨_, ldc_pa (by exact hk_) (at_mapA (by assumption)) (Nat.le_of_ble_eq_true rfl), ?_⟩
    | refine ⟨_, ((by exact hk_) : (_ : Option Ob) = _), ?_⟩
    | (refine ⟨fun hc => ?_, fun hc => ?_⟩ <;> (try simp (disch := omega) only [List.length_map, wrap64] at hc) <;> (try (exfalso; first | contradiction | omega)))
    | fail)
  conv => whnf
  refine mq_nin (N := nV) (l := addL l v) (l' := mkVs (addL l v) 1) (n := 1) (m := endV (addL l v) 1) v_laws_markVoteS_o (by exact hl) h5N (by rfl) ⟨(addL l v, 1), rfl, rfl, ha2, one0, oneM2⟩ (mkVs_len _ 1) (fun r obs' h => by rw [nV_obs]; exact K_laws_markVoteS_o h) fun H6 h6N h6o => ?_
  have h6p := (h6o 1 ⟨by omega, fun j _ => by show n3 + 1 + j ≠ 1; omega⟩).trans h5p
  have h60 := (h6o 0 ⟨by omega, fun j _ => by show n3 + 1 + j ≠ 0; omega⟩).trans h50
  have hEa := endV_bounds (addL l v) 1 ha2.2
  repeat' ((conv => whnf); first
    | (refine calle (b := [one (vsF (mkVs (addL l v) 1)), I 1]) v_laws_heldVoteS (l2 (congrArg (fun x => AV.w (.o x)) h6N.bor) rfl) ⟨(addL l v, 1), rfl, ha2, one0, oneM2⟩ (.inr ⟨rfl, rfl⟩) (by exact hl) (fun r hr => K_laws_heldVoteS hr) ?_)
    | refine ⟨_, rfl, ?_⟩
    | refine ⟨rfl, ?_⟩
    | refine ⟨_, ldc_cells hupd_at (Nat.le_of_ble_eq_true rfl), ?_⟩
    | refine ⟨_, ldc_cells (by first | assumption | exact zk ‹_› (by omega) | exact zk (zk ‹_› (by omega)) (by omega)) (Nat.le_of_ble_eq_true rfl), ?_⟩
    | refine ⟨_, _, hupd_at, rfl, rfl, Nat.le_of_ble_eq_true rfl, ?_⟩
    | refine ⟨_, _, rfl, rfl, rfl, Nat.le_of_ble_eq_true rfl, ?_⟩
    | (refine ⟨?_, _, (?_ : (_ : Option Ob) = _), rfl, rfl, ?_, ?_⟩; rotate_left; (exact hk_); exact Nat.le_of_ble_eq_true rfl)
    | refine ⟨_, _, _, _, ((by exact hk_) : (_ : Option Ob) = _), fill_at (by omega), rfl, rfl, Nat.le_of_ble_eq_true rfl, ?_⟩
    | refine ⟨_, _, _, _, ((by exact hk_) : (_ : Option Ob) = _), at_mapA (by assumption), rfl, rfl, Nat.le_of_ble_eq_true rfl, ?_⟩
    | refine ⟨_, ldc_pa (by exact hk_) (at_mapA (by assumption)) (Nat.le_of_ble_eq_true rfl), ?_⟩
    | refine ⟨_, ((by exact hk_) : (_ : Option Ob) = _), ?_⟩
    | (refine ⟨fun hc => ?_, fun hc => ?_⟩ <;> (try simp (disch := omega) only [List.length_map, wrap64] at hc) <;> (try (exfalso; first | contradiction | omega)))
    | fail)
  conv => whnf
  refine mq_nest (N := nV) (l := l) (ar := [one (vsF l)]) v_laws_toVoteS_o (by exact hl) (by rfl) rfl ⟨l, rfl, rfl, hsm⟩ (by rw [hst]; omega) (fun r obs' h => by rw [nV_obs]; exact K_laws_toVoteS_o h) fun n7 H7 e7 h7A h7o => ?_
  have h7p := (h7o 1 (by omega)).trans h6p
  have h70 := (h7o 0 (by omega)).trans h60
  have h7N := h6N.mono (b' := n7) (H' := H7) (by omega) fun i hi => h7o i (by omega)
  repeat' ((conv => whnf); first
    | (refine ⟨_, ldc_cells h7p (Nat.le_of_ble_eq_true rfl), ?_⟩)
    | refine ⟨_, rfl, ?_⟩
    | refine ⟨rfl, ?_⟩
    | refine ⟨_, ldc_cells hupd_at (Nat.le_of_ble_eq_true rfl), ?_⟩
    | refine ⟨_, ldc_cells (by first | assumption | exact zk ‹_› (by omega) | exact zk (zk ‹_› (by omega)) (by omega)) (Nat.le_of_ble_eq_true rfl), ?_⟩
    | refine ⟨_, _, hupd_at, rfl, rfl, Nat.le_of_ble_eq_true rfl, ?_⟩
    | refine ⟨_, _, rfl, rfl, rfl, Nat.le_of_ble_eq_true rfl, ?_⟩
    | (refine ⟨?_, _, (?_ : (_ : Option Ob) = _), rfl, rfl, ?_, ?_⟩; rotate_left; (exact hk_); exact Nat.le_of_ble_eq_true rfl)
    | refine ⟨_, _, _, _, ((by exact hk_) : (_ : Option Ob) = _), fill_at (by omega), rfl, rfl, Nat.le_of_ble_eq_true rfl, ?_⟩
    | refine ⟨_, _, _, _, ((by exact hk_) : (_ : Option Ob) = _), at_mapA (by assumption), rfl, rfl, Nat.le_of_ble_eq_true rfl, ?_⟩
    | refine ⟨_, ldc_pa (by exact hk_) (at_mapA (by assumption)) (Nat.le_of_ble_eq_true rfl), ?_⟩
    | refine ⟨_, ((by exact hk_) : (_ : Option Ob) = _), ?_⟩
    | (refine ⟨fun hc => ?_, fun hc => ?_⟩ <;> (try simp (disch := omega) only [List.length_map, wrap64] at hc) <;> (try (exfalso; first | contradiction | omega)))
    | fail)
  conv => whnf
  refine mq_vo' (v := v) v_laws_toVote_o (by exact hl) (by rfl) ⟨v, rfl, rfl, hfv⟩ (fun r obs' h => K_laws_toVote_o h) fun n8 H8 e8 h8k h8o => ?_
  have h8A := h7A.mono (b' := n8) (H' := H8) (by omega) fun i hi => h8o i (by omega)
  have h8N := h7N.mono (b' := n7) (H' := H8) (Nat.le_refl _) fun i hi => h8o i (by omega)
  have h80 := (h8o 0 (by omega)).trans h70
  conv => whnf
  refine bq_nestB (N := nV) (l := addL l v) (t := addB l v) (ar := [one (vsF l), agg (voF v)]) nV_plain v_impl_VotesAdd_o rfl (l2 (congrArg (fun x => AV.w (.o x)) h8A.bor) (bor_vo h8k)) ⟨(l, v), rfl, rfl, hfl, hfv, hsm.1⟩ rfl (by rw [hsA]; omega) (fun r obs' h => K_impl_VotesAdd_o h) fun n9 H9 e9 h9N h9o => ?_
  have h9M := h8N.mono (b' := n7) (H' := H9) (Nat.le_refl _) fun i hi => h9o i (by omega)
  have h90 := (h9o 0 (by omega)).trans h80
  repeat' ((conv => whnf); first
    | (rw [hbb]; conv => whnf)
    | (refine callt (b := [one (vsF (addL l v)), one (vsF (addL l v))]) v_laws_eqVoteS (l2 (congrArg (fun x => AV.w (.o x)) h9N.bor) rfl) ⟨(addL l v, addL l v), rfl, haf, haf⟩ (.inr ⟨rfl, rfl⟩) (by exact hl) (fun r hr => K_laws_eqVoteS (a := (addL l v, addL l v)) hr) (fun hj => ?_) (fun hj => ?_) <;> (try (exact absurd rfl hj)))
    | (refine calle (b := [one (vsF (mkVs (addL l v) 1)), I 1]) v_laws_heldVoteS (l2 (congrArg (fun x => AV.w (.o x)) h9M.bor) rfl) ⟨(addL l v, 1), rfl, ha2, one0, oneM2⟩ (.inr ⟨rfl, rfl⟩) (by exact hl) (fun r hr => K_laws_heldVoteS hr) ?_)
    | refine ⟨_, rfl, ?_⟩
    | refine ⟨rfl, ?_⟩
    | refine ⟨_, ldc_cells hupd_at (Nat.le_of_ble_eq_true rfl), ?_⟩
    | refine ⟨_, ldc_cells (by first | assumption | exact zk ‹_› (by omega) | exact zk (zk ‹_› (by omega)) (by omega)) (Nat.le_of_ble_eq_true rfl), ?_⟩
    | refine ⟨_, _, hupd_at, rfl, rfl, Nat.le_of_ble_eq_true rfl, ?_⟩
    | refine ⟨_, _, rfl, rfl, rfl, Nat.le_of_ble_eq_true rfl, ?_⟩
    | (refine ⟨?_, _, (?_ : (_ : Option Ob) = _), rfl, rfl, ?_, ?_⟩; rotate_left; (exact hk_); exact Nat.le_of_ble_eq_true rfl)
    | refine ⟨_, _, _, _, ((by exact hk_) : (_ : Option Ob) = _), fill_at (by omega), rfl, rfl, Nat.le_of_ble_eq_true rfl, ?_⟩
    | refine ⟨_, _, _, _, ((by exact hk_) : (_ : Option Ob) = _), at_mapA (by assumption), rfl, rfl, Nat.le_of_ble_eq_true rfl, ?_⟩
    | refine ⟨_, ldc_pa (by exact hk_) (at_mapA (by assumption)) (Nat.le_of_ble_eq_true rfl), ?_⟩
    | refine ⟨_, ((by exact hk_) : (_ : Option Ob) = _), ?_⟩
    | (refine ⟨fun hc => ?_, fun hc => ?_⟩ <;> (try simp (disch := omega) only [List.length_map, wrap64] at hc) <;> (try (exfalso; first | contradiction | omega)))
    | exact ⟨⟨_, rfl, rfl, (l, v), rfl, (by refine congrArg B (Eq.symm (tb_pos ?_)); (try dsimp only); first | done | exact absurd True.intro hj | (exact True.intro))⟩, (by first | exact Nat.le_refl _ | omega), (by exact h0_)⟩
    | exact ⟨⟨_, rfl, rfl, (l, v), rfl, (by refine congrArg B (Eq.symm (tb_neg ?_)); (try dsimp only); first | done | exact absurd True.intro hj | (exact True.intro))⟩, (by first | exact Nat.le_refl _ | omega), (by exact h0_)⟩
    | fail)
end Av
end Go.Proofs.Ytmboljfckljjhaa
