/- The walk: the law FnExactCertOf. -/
import Derived.Test.YtdboofnogabefaaGD
import Derived.Test.YtdboofnogabefaaBP
import Derived.Test.YtdboofnogabefaaJ42
set_option linter.unusedVariables false
set_option linter.unusedSimpArgs false
namespace Go.Proofs.Ytdboofnogabefaa
namespace Av
open Go.RowKit
theorem mkIs_at {l : List (List Int)} {i : Nat} {x : List Int} (hx : l[i]? = some x) (k : Int) : (mkIs l k)[i]? = some (mkI x.length (endIs (l.take i) k)) := by
  have hl : (mkIs (l.take i) k).length = i := by
    have := (List.getElem?_eq_some_iff.1 hx).1
    rw [mkIs_len, List.length_take]; omega
  have hd : l.drop i = x :: l.drop (i + 1) := by
    obtain ⟨h1, rfl⟩ := List.getElem?_eq_some_iff.1 hx
    exact List.drop_eq_getElem_cons h1
  have e : mkIs l k = mkIs (l.take i) k ++ mkIs (l.drop i) (endIs (l.take i) k) := by rw [← mkIs_app, List.take_append_drop]
  rw [e, List.getElem?_append_right (Nat.le_of_eq hl), hl, Nat.sub_self, hd]; rfl
set_option maxHeartbeats 4000000 in
set_option maxRecDepth 100000 in
theorem v_laws_heldIntSS : Valid Try.prog n_laws_heldIntSS S_laws_heldIntSS := by
  refine valid_of_swp mixed is_laws_heldIntSS (by rintro _ ⟨a, rfl, _⟩; exact Nat.le_of_ble_eq_true rfl) ?_
  rintro _ rm ⟨⟨l, k0⟩, rfl, hsm, hk0, hkM⟩ hl
  dsimp only at hsm hk0 hkM
  have hlen : l.length ≤ 1048576 := hsm.1
  have hlenL : l.length ≤ LIM := Nat.le_trans hlen (by decide)
  have hml := mkIs_len l k0
  have hbd := fun i => endIs_bounds (l.take i) k0 fun v hv => hsm.2 v (List.mem_of_mem_take hv)
  have htl : ∀ i, (l.take i).length ≤ l.length := fun i => by rw [List.length_take]; omega
  have hE0 : endIs (l.take 0) k0 = k0 := by simp [endIs]
  repeat' ((conv => whnf); first
    | refine ⟨_, rfl, ?_⟩
    | refine ⟨rfl, ?_⟩
    | refine ⟨_, _, rfl, at_map (by assumption), ?_⟩
    | refine idx_mapX (i := 0) rfl (by assumption) ?_
    | refine idx_map (by omega) (fun x hx => ?_)
    | refine idx_mapX (wrap_dn (by omega) (by omega)) (by assumption) ?_
    | refine idx_mapE (wrap_dn (by omega) (by omega)) (by omega) (fun x hx => ?_)
    | refine idx_mapL (by omega) (by first | assumption | (simp only [LIM]; omega)) (fun x hx => ?_)
    | refine idx_mapI (by omega) (by first | omega | (simp only [List.length_map] at *; omega)) (fun x hx => ?_)
    | refine ⟨_, ldc_cells hupd_at (Nat.le_of_ble_eq_true rfl), ?_⟩
    | refine ⟨_, ldc_cells (by first | assumption | exact zk ‹_› (by omega) | exact zk (zk ‹_› (by omega)) (by omega)) (Nat.le_of_ble_eq_true rfl), ?_⟩
    | (refine ⟨fun hc => ?_, fun hc => ?_⟩ <;> (try simp (disch := omega) only [List.length_map, wrap64] at hc))
    | fail)
  conv => whnf
  refine ⟨fun fr H nx rm' => ∃ i : Nat, Has fr [(0, one (nssF (mkIs l k0))), (1, I (endIs (l.take i) k0)), (5, I i)] ∧ i ≤ l.length ∧ 1 ≤ nx ∧ H 0 = none ∧ rm' = rm,
    fun fr _ _ _ => l.length - ix (fr 5), ⟨0, ⟨rfl, congrArg I hE0.symm, rfl, trivial⟩, Nat.zero_le _, ln_, ne_, rfl⟩, ?_⟩
  rintro fr H nx rm' ⟨i, hfr, hi, hnx, hH, rfl⟩
  rw [hfr.eq]
  have hb := hbd i
  have ht := htl i
  rcases Nat.lt_or_ge i l.length with hi' | hi'
  · obtain ⟨x, hx⟩ : ∃ x, l[i]? = some x := ⟨_, List.getElem?_eq_getElem hi'⟩
    have hxc : x.length ≤ SM := hsm.2 x (List.mem_of_getElem? hx)
    have hxc' := hxc
    simp only [SM] at hxc'
    have hat := mkIs_at hx k0
    have hb' := hbd (i + 1)
    have ht' := htl (i + 1)
    have hee := endIs_take hx k0
    repeat' ((conv => whnf); first
      | refine ⟨_, _, rfl, at_map hat, ?_⟩
      | (refine calle (b := [one (nsF (mkI x.length (endIs (l.take i) k0))), I (endIs (l.take i) k0)]) v_laws_heldIntS rfl ⟨(x.length, endIs (l.take i) k0), rfl, hxc, by dsimp only; omega, by dsimp only [MK]; omega⟩ (.inl rfl) (by exact hl) (fun r hr => K_laws_heldIntS hr) ?_)
      | (refine ⟨⟨i + 1, ⟨rfl, congrArg I hee.symm, congrArg I (wrap_up hi' hlenL), trivial⟩, hi', by omega, h0_, rfl⟩, ?_⟩; show l.length - ix (I _) < l.length - ix (I _); simp only [wrap_up hi' hlenL, ix, Int.toNat_natCast]; omega)
      | refine ⟨_, rfl, ?_⟩
      | refine ⟨rfl, ?_⟩
      | refine ⟨_, _, rfl, at_map (by assumption), ?_⟩
      | refine idx_mapX (i := 0) rfl (by assumption) ?_
      | refine idx_map (by omega) (fun x hx => ?_)
      | refine idx_mapX (wrap_dn (by omega) (by omega)) (by assumption) ?_
      | refine idx_mapE (wrap_dn (by omega) (by omega)) (by omega) (fun x hx => ?_)
      | refine idx_mapL (by omega) (by first | assumption | (simp only [LIM]; omega)) (fun x hx => ?_)
      | refine idx_mapI (by omega) (by first | omega | (simp only [List.length_map] at *; omega)) (fun x hx => ?_)
      | refine ⟨_, ldc_cells hupd_at (Nat.le_of_ble_eq_true rfl), ?_⟩
      | refine ⟨_, ldc_cells (by first | assumption | exact zk ‹_› (by omega) | exact zk (zk ‹_› (by omega)) (by omega)) (Nat.le_of_ble_eq_true rfl), ?_⟩
      | (refine ⟨fun hc => ?_, fun hc => ?_⟩ <;> (try simp (disch := omega) only [List.length_map, wrap64] at hc) <;> (try (exfalso; first | contradiction | omega)))
      | fail)
  · have hie : i = l.length := by omega
    subst hie
    rw [List.take_length] at *
    repeat' ((conv => whnf); first
      | refine ⟨_, rfl, ?_⟩
      | refine ⟨rfl, ?_⟩
      | refine ⟨_, _, rfl, at_map (by assumption), ?_⟩
      | refine idx_mapX (i := 0) rfl (by assumption) ?_
      | refine idx_map (by omega) (fun x hx => ?_)
      | refine idx_mapX (wrap_dn (by omega) (by omega)) (by assumption) ?_
      | refine idx_mapE (wrap_dn (by omega) (by omega)) (by omega) (fun x hx => ?_)
      | refine idx_mapL (by omega) (by first | assumption | (simp only [LIM]; omega)) (fun x hx => ?_)
      | refine idx_mapI (by omega) (by first | omega | (simp only [List.length_map] at *; omega)) (fun x hx => ?_)
      | refine ⟨_, ldc_cells hupd_at (Nat.le_of_ble_eq_true rfl), ?_⟩
      | refine ⟨_, ldc_cells (by first | assumption | exact zk ‹_› (by omega) | exact zk (zk ‹_› (by omega)) (by omega)) (Nat.le_of_ble_eq_true rfl), ?_⟩
      | (refine ⟨fun hc => ?_, fun hc => ?_⟩ <;> (try simp (disch := omega) only [List.length_map, wrap64] at hc) <;> (try (exfalso; first | contradiction | omega)))
      | exact ⟨⟨_, rfl, rfl, (l, k0), rfl, rfl⟩, (by first | exact Nat.le_refl _ | exact Nat.le_add_right _ _), (by first | assumption | exact ne_)⟩
      | fail)
set_option maxHeartbeats 4000000 in
set_option maxRecDepth 100000 in
theorem v_laws_heldCert : Valid Try.prog n_laws_heldCert S_laws_heldCert := by
  refine valid_of_swp mixed is_laws_heldCert (by rintro _ ⟨a, rfl, _⟩; exact Nat.le_of_ble_eq_true rfl) ?_
  rintro _ rm ⟨⟨c, k⟩, rfl, hsm, hk0, hkM⟩ hl
  dsimp only at hsm hk0 hkM
  have hcl : c.c.length ≤ 1048576 := hsm.1
  have hbl : c.b.length ≤ 1048576 := hsm.2.1
  have hEb := endIs_bounds c.b (k + 4 * c.c.length) hsm.2.2
  repeat' ((conv => whnf); first
    | (refine calle (b := [one (chF (mkC c.c.length k)), I k]) v_laws_heldItemS rfl ⟨(c.c.length, k), rfl, hsm.1, hk0, by dsimp only [MK]; omega⟩ (.inl rfl) (by first | assumption | omega) (fun r hr => K_laws_heldItemS hr) ?_)
    | (refine calle (b := [one (nssF (mkIs c.b (k + 4 * c.c.length))), I (k + 4 * c.c.length)]) v_laws_heldIntSS rfl ⟨(c.b, k + 4 * c.c.length), rfl, hsm.2, by dsimp only; omega, by dsimp only; omega⟩ (.inl rfl) (by first | assumption | omega) (fun r hr => K_laws_heldIntSS hr) ?_)
    | refine ⟨_, rfl, ?_⟩
    | refine ⟨rfl, ?_⟩
    | refine ⟨_, ldc_cells hupd_at (Nat.le_of_ble_eq_true rfl), ?_⟩
    | refine ⟨_, ldc_cells (by first | assumption | exact zk ‹_› (by omega) | exact zk (zk ‹_› (by omega)) (by omega)) (Nat.le_of_ble_eq_true rfl), ?_⟩
    | (refine ⟨fun hc => ?_, fun hc => ?_⟩ <;> (try simp (disch := omega) only [List.length_map, wrap64] at hc) <;> (try (exfalso; first | contradiction | omega)))
    | exact ⟨⟨_, rfl, rfl, (c, k), rfl, rfl⟩, (by first | exact Nat.le_refl _ | exact Nat.le_add_right _ _), h0_⟩
    | fail)
/-- The reference's cert, as the law keeps it. -/
def SpAt (H : Hp) (B : Nat) (x y : AC) (c : Ce) : Prop := (x = .e0 ∧ y = .e0 ∧ c = noCe) ∨ ∃ k, x = .c (chF c.c) ∧ y = .ow k ∧ H k = some (bsO c.b) ∧ k < B
theorem SpAt.same {H H' : Hp} {B : Nat} {x y : AC} {c : Ce} (h : SpAt H B x y c) (hs : ∀ i, i < B → H' i = H i) : SpAt H' B x y c := by
  rcases h with h | ⟨k, h1, h2, h3, h4⟩
  · exact .inl h
  · exact .inr ⟨k, h1, h2, (hs k h4).trans h3, h4⟩
theorem bor_sp {H : Hp} {B : Nat} {x y : AC} {c : Ce} (h : SpAt H B x y c) : borV H [some 4, some 1] (.w (.g [x, y])) = agg (ceF c) := by
  rcases h with ⟨rfl, rfl, rfl⟩ | ⟨k, rfl, rfl, h3, h4⟩
  · rfl
  · show AV.w (.g [bor H (some 4) (.c (chF c.c)), bor H (some 1) (.ow k)]) = _
    rw [bor_ow h3 (fcellss_f (fun n => [nsF n]) c.b)]; rfl
theorem mq_sp {P : Program} {f : Nat} {S : MSpec} {fr : Env} {H : Hp} {nm rm : Nat} {K : KV} {xs : List (X × List (Option Nat))} {l : List Vo} (hv : ValidM P f S) (hl : rm + S.cost ≤ LIM) (ha : nrmArgs fr xs = [one (vsF l)]) (hpre : S.pre [one (vsF l)] []) (hpost : ∀ r obs', S.post [one (vsF l)] [] r obs' → ofL l r obs')
    (hK : ∀ n x y H', nm = n → SpAt H' (n + 1) x y (certOf l) → (∀ j, j ≠ n → H' j = H j) → K (.tup [.g [x, y], .o (cB (certB l))]) H' (rm + S.cost)) : MQ P nm fr H rm K f S xs := by
  refine mq_of (Q0 := certB l = false) (Q1 := certB l = true) (c := (certOf l).c) (bs := (certOf l).b) hv hl ha rfl hpre (fun r obs' h => hpost r obs' h) (fun h => ?_) (fun h => ?_)
  · have := hK nm .e0 .e0 H rfl (.inl ⟨rfl, rfl, certOf_no h⟩) (fun _ _ => rfl)
    rwa [h] at this
  · have := hK nm _ _ (hupd nm (some (bsO (certOf l).b)) H) rfl (.inr ⟨nm, rfl, rfl, hupd_at, Nat.lt_succ_self _⟩) (fun j hj => hupd_ne hj)
    rwa [h] at this
theorem certOf_sm (l : List Vo) : SmCe (certOf l) ∧ (certOf l).b.length ≤ 3 := by
  cases h : certB l with
  | true =>
    obtain ⟨q1, q2, q3⟩ := certOf_small h
    exact ⟨⟨Nat.le_trans q1 (by decide), by rw [q2]; decide, fun x hx => Nat.le_trans (q3 x hx) (by decide)⟩, Nat.le_of_eq q2⟩
  | false =>
    rw [certOf_no h]
    exact ⟨⟨Nat.zero_le _, Nat.zero_le _, fun x hx => by cases hx⟩, Nat.zero_le _⟩
attribute [local irreducible] certOf certB mkIs mkC endIs mkVs endV
attribute [local irreducible] Valid ValidM
set_option maxHeartbeats 4000000 in
set_option maxRecDepth 100000 in
theorem v_laws_FnExactCertOf : Valid Try.prog n_laws_FnExactCertOf S_laws_FnExactCertOf := by
  refine valid_of_swp mixed is_laws_FnExactCertOf (by rintro _ ⟨a, rfl, _⟩; exact Nat.le_of_ble_eq_true rfl) ?_
  rintro _ rm ⟨l, rfl, hpre⟩ hl
  try dsimp only at hpre
  have hpre0 := hpre
  have hp1 := hpre
  have cc_laws_FnExactCertOf : S_laws_FnExactCertOf.cost = 0 := rfl
  have cc_laws_szVoteS : S_laws_szVoteS.cost = 0 := rfl
  have cc_laws_toVoteS : S_laws_toVoteS.cost = 0 := rfl
  have cc_laws_eqCert : S_laws_eqCert.cost = 0 := rfl
  have cc_laws_eqVoteS : S_laws_eqVoteS.cost = 0 := rfl
  repeat' ((conv => whnf); first
    | refine ⟨_, rfl, ?_⟩
    | refine ⟨rfl, ?_⟩
    | refine ⟨_, ldc_cells hupd_at (Nat.le_of_ble_eq_true rfl), ?_⟩
    | refine ⟨_, ldc_cells (by first | assumption | exact zk ‹_› (by omega) | exact zk (zk ‹_› (by omega)) (by omega)) (Nat.le_of_ble_eq_true rfl), ?_⟩
    | refine ⟨_, _, hupd_at, rfl, rfl, Nat.le_of_ble_eq_true rfl, ?_⟩
    | refine ⟨_, _, rfl, rfl, rfl, Nat.le_of_ble_eq_true rfl, ?_⟩
    | (refine ⟨?_, _, (?_ : (_ : Option Ob) = _), rfl, rfl, ?_, ?_⟩; rotate_left; (exact hk_); exact Nat.le_of_ble_eq_true rfl)
    | refine ⟨_, _, _, _, ((by exact hk_) : (_ : Option Ob) = _), fill_at (by omega), rfl, rfl, Nat.le_of_ble_eq_true rfl, ?_⟩
    | refine ⟨_, _, _, _, ((by exact hk_) : (_ : Option Ob) = _), at_mapA (by assumption), rfl, rfl, Nat.le_of_ble_eq_true rfl, ?_⟩
    | refine ⟨_, ldc_pa (by exact hk_) (at_mapA (by assumption)) (Nat.le_of_ble_eq_true rfl), ?_⟩
    | refine ⟨_, ((by exact hk_) : (_ : Option Ob) = _), ?_⟩
    | (refine ⟨fun hc => ?_, fun hc => ?_⟩ <;> (try simp (disch := omega) only [List.length_map, wrap64] at hc))
    | (refine callk (b := [one (vsF _), I _]) v_laws_szVoteS rfl ⟨(_, _), rfl, (by refine ⟨?_, ?_, ?_⟩ <;> (exact pr_))⟩ (.inl rfl) (by first | assumption | omega) (fun r hr => ?_); have hj := K_laws_szVoteS (a := (_, _)) hr; clear hr; obtain ⟨k, rfl, hk1, hk2⟩ := hj)
    | exact ⟨⟨_, rfl, rfl, l, rfl, (by refine congrArg B (Eq.symm (tb_pos ?_)); (try dsimp only); first | done | exact absurd True.intro hj | (exact True.intro))⟩, (by first | exact Nat.le_refl _ | omega), (by exact h0_)⟩
    | exact ⟨⟨_, rfl, rfl, l, rfl, (by refine congrArg B (Eq.symm (tb_neg ?_)); (try dsimp only); first | done | exact absurd True.intro hj | (exact True.intro))⟩, (by first | exact Nat.le_refl _ | omega), (by exact h0_)⟩
    | fail)
  have hsm : SmVs l := hk2 hc
  have hfl : FitVs l := hsm.fit
  have hlt : l.length < LIM := hsm.lt
  have hln : l.length ≤ 1048576 := hsm.1
  obtain ⟨hcs, hb3⟩ := certOf_sm l
  have hcf : FitCe (certOf l) := hcs.fit
  have hst : S_laws_toVoteS_o.st = 4194304 := NB_eq
  have hs2 : S_impl_CertOf_o.st = 0 := rfl
  have hs3 : S_spec_CertOf.st = 0 := rfl
  have hs4 : S_laws_markVoteS_o.st = 0 := rfl
  have hs5 : S_laws_markCert_o.st = 0 := rfl
  have d1 : S_spec_CertOf.cost = 0 := rfl
  have d2 : S_laws_toVoteS_o.cost = 0 := rfl
  have d3 : S_laws_markVoteS_o.cost = 0 := rfl
  have d4 : S_laws_markCert_o.cost = 0 := rfl
  have d5 : S_laws_heldCert.cost = 0 := rfl
  have d6 : S_impl_CertOf_o.cost = 0 := rfl
  have hbb : ∀ b : Bool, (!(b == b)) = false := by simp
  have hEb := endV_bounds l 1 fun v hv => hsm.2 v hv
  have hEc := endIs_bounds (certOf l).b (1 + 4 * (certOf l).c.length) hcs.2.2
  have hEd : endCe (certOf l) 1 = endIs (certOf l).b (1 + 4 * (certOf l).c.length) := rfl
  repeat' ((conv => whnf); first
    | refine ⟨_, rfl, ?_⟩
    | refine ⟨rfl, ?_⟩
    | refine ⟨_, ldc_cells hupd_at (Nat.le_of_ble_eq_true rfl), ?_⟩
    | refine ⟨_, ldc_cells (by first | assumption | exact zk ‹_› (by omega) | exact zk (zk ‹_› (by omega)) (by omega)) (Nat.le_of_ble_eq_true rfl), ?_⟩
    | refine ⟨_, _, hupd_at, rfl, rfl, Nat.le_of_ble_eq_true rfl, ?_⟩
    | refine ⟨_, _, rfl, rfl, rfl, Nat.le_of_ble_eq_true rfl, ?_⟩
    | (refine ⟨?_, _, (?_ : (_ : Option Ob) = _), rfl, rfl, ?_, ?_⟩; rotate_left; (exact hk_); exact Nat.le_of_ble_eq_true rfl)
    | refine ⟨_, _, _, _, ((by exact hk_) : (_ : Option Ob) = _), fill_at (by omega), rfl, rfl, Nat.le_of_ble_eq_true rfl, ?_⟩
    | refine ⟨_, _, _, _, ((by exact hk_) : (_ : Option Ob) = _), at_mapA (by assumption), rfl, rfl, Nat.le_of_ble_eq_true rfl, ?_⟩
    | refine ⟨_, ldc_pa (by exact hk_) (at_mapA (by assumption)) (Nat.le_of_ble_eq_true rfl), ?_⟩
    | refine ⟨_, ((by exact hk_) : (_ : Option Ob) = _), ?_⟩
    | (refine ⟨fun hc => ?_, fun hc => ?_⟩ <;> (try simp (disch := omega) only [List.length_map, wrap64] at hc))
    | (refine calle (b := [one (vsF _)]) v_laws_toVoteS rfl ⟨_, rfl, (by exact pr_)⟩ (.inl rfl) (by first | assumption | omega) (fun r hr => K_laws_toVoteS (a := _) hr) ?_)
    | fail)
  refine mq_sp (l := l) v_spec_CertOf (by first | assumption | omega) (by rfl) ⟨l, rfl, rfl, hfl, hlt⟩ (fun r obs' h => K_spec_CertOf h) fun n0 x y H0 e0 hS h0o => ?_
  have h00 : H0 0 = none := (h0o 0 (by omega)).trans ne_
  repeat' ((conv => whnf); first
    | refine ⟨_, rfl, ?_⟩
    | refine ⟨rfl, ?_⟩
    | refine ⟨_, ldc_cells hupd_at (Nat.le_of_ble_eq_true rfl), ?_⟩
    | refine ⟨_, ldc_cells (by first | assumption | exact zk ‹_› (by omega) | exact zk (zk ‹_› (by omega)) (by omega)) (Nat.le_of_ble_eq_true rfl), ?_⟩
    | refine ⟨_, _, hupd_at, rfl, rfl, Nat.le_of_ble_eq_true rfl, ?_⟩
    | refine ⟨_, _, rfl, rfl, rfl, Nat.le_of_ble_eq_true rfl, ?_⟩
    | (refine ⟨?_, _, (?_ : (_ : Option Ob) = _), rfl, rfl, ?_, ?_⟩; rotate_left; (exact hk_); exact Nat.le_of_ble_eq_true rfl)
    | refine ⟨_, _, _, _, ((by exact hk_) : (_ : Option Ob) = _), fill_at (by omega), rfl, rfl, Nat.le_of_ble_eq_true rfl, ?_⟩
    | refine ⟨_, _, _, _, ((by exact hk_) : (_ : Option Ob) = _), at_mapA (by assumption), rfl, rfl, Nat.le_of_ble_eq_true rfl, ?_⟩
    | refine ⟨_, ldc_pa (by exact hk_) (at_mapA (by assumption)) (Nat.le_of_ble_eq_true rfl), ?_⟩
    | refine ⟨_, ((by exact hk_) : (_ : Option Ob) = _), ?_⟩
    | (refine ⟨fun hc => ?_, fun hc => ?_⟩ <;> (try simp (disch := omega) only [List.length_map, wrap64] at hc))
    | fail)
  refine mq_nest (N := nV) (l := l) (ar := [one (vsF l)]) v_laws_toVoteS_o (by first | assumption | omega) (by rfl) rfl ⟨l, rfl, rfl, hsm⟩ (by rw [hst]; omega) (fun r obs' h => by rw [nV_obs]; exact K_laws_toVoteS_o h) fun n1 H1 e1 h1A h1o => ?_
  have h1c : H1 225 = some (.cells [x, y]) := (h1o 225 (by omega)).trans hk_
  have h1S := hS.same (H' := H1) fun i hi => (h1o i (by omega)).trans (by (repeat (refine (hupd_ne (by omega)).trans ?_)); rfl)
  have h10 : H1 0 = none := (h1o 0 (by omega)).trans ne_
  repeat' ((conv => whnf); first
    | refine ⟨_, rfl, ?_⟩
    | refine ⟨rfl, ?_⟩
    | refine ⟨_, ldc_cells hupd_at (Nat.le_of_ble_eq_true rfl), ?_⟩
    | refine ⟨_, ldc_cells (by first | assumption | exact zk ‹_› (by omega) | exact zk (zk ‹_› (by omega)) (by omega)) (Nat.le_of_ble_eq_true rfl), ?_⟩
    | refine ⟨_, _, hupd_at, rfl, rfl, Nat.le_of_ble_eq_true rfl, ?_⟩
    | refine ⟨_, _, rfl, rfl, rfl, Nat.le_of_ble_eq_true rfl, ?_⟩
    | (refine ⟨?_, _, (?_ : (_ : Option Ob) = _), rfl, rfl, ?_, ?_⟩; rotate_left; (exact hk_); exact Nat.le_of_ble_eq_true rfl)
    | refine ⟨_, _, _, _, ((by exact hk_) : (_ : Option Ob) = _), fill_at (by omega), rfl, rfl, Nat.le_of_ble_eq_true rfl, ?_⟩
    | refine ⟨_, _, _, _, ((by exact hk_) : (_ : Option Ob) = _), at_mapA (by assumption), rfl, rfl, Nat.le_of_ble_eq_true rfl, ?_⟩
    | refine ⟨_, ldc_pa (by exact hk_) (at_mapA (by assumption)) (Nat.le_of_ble_eq_true rfl), ?_⟩
    | refine ⟨_, ((by exact hk_) : (_ : Option Ob) = _), ?_⟩
    | (refine ⟨fun hc => ?_, fun hc => ?_⟩ <;> (try simp (disch := omega) only [List.length_map, wrap64] at hc))
    | fail)
  refine bq_ce (c := certOf l) (t := certB l) (ar := [one (vsF l)]) v_impl_CertOf_o rfl (congrArg (fun z => [AV.w (.o z)]) (Nest.At.bor (h1A.mid (n := n1) (Nat.le_refl _) (fun j => by show n1 ≤ n1 + 1 + j; omega) (fun i hi hi2 => (by (repeat (refine (hupd_ne (by omega)).trans ?_)); rfl))))) ⟨l, rfl, rfl, hfl, hlt⟩ rfl (by omega) (fun r obs' h => K_impl_CertOf_o h) fun n2 H2 e2 h2k h2B h2o => ?_
  have h2c : H2 225 = some (.cells [x, y]) := (h2o 225 (by omega)).trans (by (repeat (refine (hupd_ne (by omega)).trans ?_)); exact h1c)
  have h2S := h1S.same (H' := H2) fun i hi => (h2o i (by omega)).trans (by (repeat (refine (hupd_ne (by omega)).trans ?_)); rfl)
  have h2A := h1A.mid (H' := H2) (n := n1) (Nat.le_refl _) (fun j => by show n1 ≤ n1 + 1 + j; omega) (fun i hi hi2 => (h2o i (by omega)).trans (by (repeat (refine (hupd_ne (by omega)).trans ?_)); rfl))
  have h20 : H2 0 = none := (h2o 0 (by omega)).trans ne_
  repeat' ((conv => whnf); first
    | (rw [hbb]; conv => whnf)
    | refine ⟨_, ldc_cells hk_ (Nat.le_of_ble_eq_true rfl), ?_⟩
    | (refine callt (b := [agg (ceF (certOf l)), agg (ceF (certOf l))]) v_laws_eqCert (l2 (bor_cert (hk_ : (_ : Option Ob) = _) (h2B.mid (n := n2) (by omega) (fun j => by show n2 ≤ n2 + 2 + j; omega) (fun i hi hi2 => (by (repeat (refine (hupd_ne (by omega)).trans ?_)); rfl)))) (bor_sp (h2S.same fun i hi => (by (repeat (refine (hupd_ne (by omega)).trans ?_)); rfl)))) ⟨(certOf l, certOf l), rfl, hcf, hcf⟩ (.inr ⟨rfl, rfl⟩) (by first | assumption | omega) (fun r hr => K_laws_eqCert (a := (certOf l, certOf l)) hr) (fun hj => ?_) (fun hj => ?_) <;> (try (exact absurd rfl hj)))
    | (refine callt (b := [one (vsF l), one (vsF l)]) v_laws_eqVoteS (l2 (congrArg (fun z => AV.w (.o z)) (Nest.At.bor (h2A.mid (n := n1) (Nat.le_refl _) (fun j => by show n1 ≤ n1 + 1 + j; omega) (fun i hi hi2 => (by (repeat (refine (hupd_ne (by omega)).trans ?_)); rfl))))) rfl) ⟨(l, l), rfl, hfl, hfl⟩ (.inr ⟨rfl, rfl⟩) (by first | assumption | omega) (fun r hr => K_laws_eqVoteS (a := (l, l)) hr) (fun hj => ?_) (fun hj => ?_) <;> (try (exact absurd rfl hj)))
    | refine ⟨_, rfl, ?_⟩
    | refine ⟨rfl, ?_⟩
    | refine ⟨_, ldc_cells hupd_at (Nat.le_of_ble_eq_true rfl), ?_⟩
    | refine ⟨_, ldc_cells (by first | assumption | exact zk ‹_› (by omega) | exact zk (zk ‹_› (by omega)) (by omega)) (Nat.le_of_ble_eq_true rfl), ?_⟩
    | refine ⟨_, _, hupd_at, rfl, rfl, Nat.le_of_ble_eq_true rfl, ?_⟩
    | refine ⟨_, _, rfl, rfl, rfl, Nat.le_of_ble_eq_true rfl, ?_⟩
    | (refine ⟨?_, _, (?_ : (_ : Option Ob) = _), rfl, rfl, ?_, ?_⟩; rotate_left; (exact hk_); exact Nat.le_of_ble_eq_true rfl)
    | refine ⟨_, _, _, _, ((by exact hk_) : (_ : Option Ob) = _), fill_at (by omega), rfl, rfl, Nat.le_of_ble_eq_true rfl, ?_⟩
    | refine ⟨_, _, _, _, ((by exact hk_) : (_ : Option Ob) = _), at_mapA (by assumption), rfl, rfl, Nat.le_of_ble_eq_true rfl, ?_⟩
    | refine ⟨_, ldc_pa (by exact hk_) (at_mapA (by assumption)) (Nat.le_of_ble_eq_true rfl), ?_⟩
    | refine ⟨_, ((by exact hk_) : (_ : Option Ob) = _), ?_⟩
    | (refine ⟨fun hc => ?_, fun hc => ?_⟩ <;> (try simp (disch := omega) only [List.length_map, wrap64] at hc) <;> (try (exfalso; first | contradiction | omega)))
    | (refine calle (b := [one (vsF _)]) v_laws_toVoteS rfl ⟨_, rfl, (by exact pr_)⟩ (.inl rfl) (by first | assumption | omega) (fun r hr => K_laws_toVoteS (a := _) hr) ?_)
    | fail)
  refine mq_nin (N := nV) (l := l) (l' := mkVs l 1) (n := 1) (m := endV l 1) v_laws_markVoteS_o (by first | assumption | omega) (h2A.mid (n := n1) (Nat.le_refl _) (fun j => by show n1 ≤ n1 + 1 + j; omega) (fun i hi hi2 => (by (repeat (refine (hupd_ne (by omega)).trans ?_)); rfl))) (by rfl) ⟨(l, 1), rfl, rfl, hsm.two, one0, oneM2⟩ (mkVs_len l 1) (fun r obs' h => by rw [nV_obs]; exact K_laws_markVoteS_o h) fun H3 h3A h3o => ?_
  have hoA : ∀ i, i < n1 ∨ n1 + 1 + l.length ≤ i → nV.Off n1 (fun j => n1 + 1 + j) l i := fun i hi => ⟨by omega, fun j _ => by show n1 + 1 + j ≠ _; omega⟩
  have h3d : H3 _ = some (.cells [.ow n2, .ow (n2 + 1)]) := (h3o _ (hoA _ (by omega))).trans hupd_at
  have h3c : H3 225 = some (.cells [x, y]) := (h3o 225 (hoA _ (by omega))).trans (by (repeat (refine (hupd_ne (by omega)).trans ?_)); exact h2c)
  have h3k : H3 n2 = some (itO (certOf l).c) := (h3o n2 (hoA _ (by omega))).trans (by (repeat (refine (hupd_ne (by omega)).trans ?_)); exact h2k)
  have h3S := h2S.same (H' := H3) fun i hi => (h3o i (hoA _ (by omega))).trans (by (repeat (refine (hupd_ne (by omega)).trans ?_)); rfl)
  have h3B := h2B.mid (H' := H3) (n := n2) (by omega) (fun j => by show n2 ≤ n2 + 2 + j; omega) (fun i hi hi2 => (h3o i (hoA _ (by omega))).trans (by (repeat (refine (hupd_ne (by omega)).trans ?_)); rfl))
  have h30 : H3 0 = none := (h3o 0 (hoA _ (by omega))).trans ne_
  repeat' ((conv => whnf); first
    | (rw [hbb]; conv => whnf)
    | refine ⟨_, ldc_cells hk_ (Nat.le_of_ble_eq_true rfl), ?_⟩
    | (refine callt (b := [agg (ceF (certOf l)), agg (ceF (certOf l))]) v_laws_eqCert (l2 (bor_cert (hk_ : (_ : Option Ob) = _) h3B) (bor_sp h3S)) ⟨(certOf l, certOf l), rfl, hcf, hcf⟩ (.inr ⟨rfl, rfl⟩) (by first | assumption | omega) (fun r hr => K_laws_eqCert (a := (certOf l, certOf l)) hr) (fun hj => ?_) (fun hj => ?_) <;> (try (exact absurd rfl hj)))
    | refine ⟨_, rfl, ?_⟩
    | refine ⟨rfl, ?_⟩
    | refine ⟨_, ldc_cells hupd_at (Nat.le_of_ble_eq_true rfl), ?_⟩
    | refine ⟨_, ldc_cells (by first | assumption | exact zk ‹_› (by omega) | exact zk (zk ‹_› (by omega)) (by omega)) (Nat.le_of_ble_eq_true rfl), ?_⟩
    | refine ⟨_, _, hupd_at, rfl, rfl, Nat.le_of_ble_eq_true rfl, ?_⟩
    | refine ⟨_, _, rfl, rfl, rfl, Nat.le_of_ble_eq_true rfl, ?_⟩
    | (refine ⟨?_, _, (?_ : (_ : Option Ob) = _), rfl, rfl, ?_, ?_⟩; rotate_left; (exact hk_); exact Nat.le_of_ble_eq_true rfl)
    | refine ⟨_, _, _, _, ((by exact hk_) : (_ : Option Ob) = _), fill_at (by omega), rfl, rfl, Nat.le_of_ble_eq_true rfl, ?_⟩
    | refine ⟨_, _, _, _, ((by exact hk_) : (_ : Option Ob) = _), at_mapA (by assumption), rfl, rfl, Nat.le_of_ble_eq_true rfl, ?_⟩
    | refine ⟨_, ldc_pa (by exact hk_) (at_mapA (by assumption)) (Nat.le_of_ble_eq_true rfl), ?_⟩
    | refine ⟨_, ((by exact hk_) : (_ : Option Ob) = _), ?_⟩
    | (refine ⟨fun hc => ?_, fun hc => ?_⟩ <;> (try simp (disch := omega) only [List.length_map, wrap64] at hc) <;> (try (exfalso; first | contradiction | omega)))
    | fail)
  refine mq_cin (a := n2) (k := n2 + 1) (f := fun j => n2 + 2 + j) (c := certOf l) (c' := mkCe (certOf l) 1) (n := 1) (m := endCe (certOf l) 1) v_laws_markCert_o (by first | assumption | omega) h3k h3B (by omega) (fun j _ => by show n2 + 2 + j ≠ n2; omega) (by rfl) ⟨(certOf l, 1), rfl, rfl, hcs, one0, (by decide : (1 : Int) ≤ 1099500000000)⟩ (mkIs_len _ _) (fun r obs' h => K_laws_markCert_o h) fun H4 h4k h4B h4o => ?_
  have hoB : ∀ i, i < n2 ∨ n2 + 2 + (certOf l).b.length ≤ i → H4 i = H3 i := fun i hi => h4o i (by omega) ⟨by omega, fun j _ => by show n2 + 2 + j ≠ i; omega⟩
  have hml : (mkCe (certOf l) 1).b.length = (certOf l).b.length := mkIs_len _ _
  have h4d : H4 _ = some (.cells [.ow n2, .ow (n2 + 1)]) := (hoB _ (by omega)).trans h3d
  have h4c : H4 225 = some (.cells [x, y]) := (hoB 225 (by omega)).trans h3c
  have h4S := h3S.same (H' := H4) fun i hi => hoB i (by omega)
  have h40 : H4 0 = none := (hoB 0 (by omega)).trans h30
  repeat' ((conv => whnf); first
    | (rw [hbb]; conv => whnf)
    | refine ⟨_, ldc_cells hk_ (Nat.le_of_ble_eq_true rfl), ?_⟩
    | (refine calle (b := [agg (ceF (mkCe (certOf l) 1)), I 1]) v_laws_heldCert (l2 (bor_cert (c := mkCe (certOf l) 1) (hk_ : (_ : Option Ob) = _) h4B) rfl) ⟨(certOf l, 1), rfl, hcs, one0, (by decide : (1 : Int) ≤ 1099500000000)⟩ (.inr ⟨rfl, rfl⟩) (by first | assumption | omega) (fun r hr => K_laws_heldCert hr) ?_)
    | refine ⟨_, rfl, ?_⟩
    | refine ⟨rfl, ?_⟩
    | refine ⟨_, ldc_cells hupd_at (Nat.le_of_ble_eq_true rfl), ?_⟩
    | refine ⟨_, ldc_cells (by first | assumption | exact zk ‹_› (by omega) | exact zk (zk ‹_› (by omega)) (by omega)) (Nat.le_of_ble_eq_true rfl), ?_⟩
    | refine ⟨_, _, hupd_at, rfl, rfl, Nat.le_of_ble_eq_true rfl, ?_⟩
    | refine ⟨_, _, rfl, rfl, rfl, Nat.le_of_ble_eq_true rfl, ?_⟩
    | (refine ⟨?_, _, (?_ : (_ : Option Ob) = _), rfl, rfl, ?_, ?_⟩; rotate_left; (exact hk_); exact Nat.le_of_ble_eq_true rfl)
    | refine ⟨_, _, _, _, ((by exact hk_) : (_ : Option Ob) = _), fill_at (by omega), rfl, rfl, Nat.le_of_ble_eq_true rfl, ?_⟩
    | refine ⟨_, _, _, _, ((by exact hk_) : (_ : Option Ob) = _), at_mapA (by assumption), rfl, rfl, Nat.le_of_ble_eq_true rfl, ?_⟩
    | refine ⟨_, ldc_pa (by exact hk_) (at_mapA (by assumption)) (Nat.le_of_ble_eq_true rfl), ?_⟩
    | refine ⟨_, ((by exact hk_) : (_ : Option Ob) = _), ?_⟩
    | (refine ⟨fun hc => ?_, fun hc => ?_⟩ <;> (try simp (disch := omega) only [List.length_map, wrap64] at hc) <;> (try (exfalso; first | contradiction | omega)))
    | fail)
  refine mq_nest (N := nV) (l := l) (ar := [one (vsF l)]) v_laws_toVoteS_o (by first | assumption | omega) (by rfl) rfl ⟨l, rfl, rfl, hsm⟩ (by rw [hst]; omega) (fun r obs' h => by rw [nV_obs]; exact K_laws_toVoteS_o h) fun n5 H5 e5 h5A h5o => ?_
  have h5d : H5 _ = some (.cells [.ow n2, .ow (n2 + 1)]) := (h5o _ (by omega)).trans h4d
  have h5c : H5 225 = some (.cells [x, y]) := (h5o 225 (by omega)).trans h4c
  have h5k : H5 n2 = some (itO (mkCe (certOf l) 1).c) := (h5o n2 (by omega)).trans h4k
  have h5S := h4S.same (H' := H5) fun i hi => h5o i (by omega)
  have h5B := h4B.mid (H' := H5) (n := n2) (by omega) (fun j => by show n2 ≤ n2 + 2 + j; omega) (fun i hi hi2 => h5o i (by omega))
  have h50 : H5 0 = none := (h5o 0 (by omega)).trans h40
  repeat' ((conv => whnf); first
    | refine ⟨_, rfl, ?_⟩
    | refine ⟨rfl, ?_⟩
    | refine ⟨_, ldc_cells hupd_at (Nat.le_of_ble_eq_true rfl), ?_⟩
    | refine ⟨_, ldc_cells (by first | assumption | exact zk ‹_› (by omega) | exact zk (zk ‹_› (by omega)) (by omega)) (Nat.le_of_ble_eq_true rfl), ?_⟩
    | refine ⟨_, _, hupd_at, rfl, rfl, Nat.le_of_ble_eq_true rfl, ?_⟩
    | refine ⟨_, _, rfl, rfl, rfl, Nat.le_of_ble_eq_true rfl, ?_⟩
    | (refine ⟨?_, _, (?_ : (_ : Option Ob) = _), rfl, rfl, ?_, ?_⟩; rotate_left; (exact hk_); exact Nat.le_of_ble_eq_true rfl)
    | refine ⟨_, _, _, _, ((by exact hk_) : (_ : Option Ob) = _), fill_at (by omega), rfl, rfl, Nat.le_of_ble_eq_true rfl, ?_⟩
    | refine ⟨_, _, _, _, ((by exact hk_) : (_ : Option Ob) = _), at_mapA (by assumption), rfl, rfl, Nat.le_of_ble_eq_true rfl, ?_⟩
    | refine ⟨_, ldc_pa (by exact hk_) (at_mapA (by assumption)) (Nat.le_of_ble_eq_true rfl), ?_⟩
    | refine ⟨_, ((by exact hk_) : (_ : Option Ob) = _), ?_⟩
    | (refine ⟨fun hc => ?_, fun hc => ?_⟩ <;> (try simp (disch := omega) only [List.length_map, wrap64] at hc))
    | fail)
  refine bq_ce (c := certOf l) (t := certB l) (ar := [one (vsF l)]) v_impl_CertOf_o rfl (congrArg (fun z => [AV.w (.o z)]) (Nest.At.bor h5A)) ⟨l, rfl, rfl, hfl, hlt⟩ rfl (by omega) (fun r obs' h => K_impl_CertOf_o h) fun n6 H6 e6 h6k h6B h6o => ?_
  have h6d : H6 _ = some (.cells [.ow n2, .ow (n2 + 1)]) := (h6o _ (by omega)).trans h5d
  have h6c : H6 225 = some (.cells [x, y]) := (h6o 225 (by omega)).trans h5c
  have h6m : H6 n2 = some (itO (mkCe (certOf l) 1).c) := (h6o n2 (by omega)).trans h5k
  have h6S := h5S.same (H' := H6) fun i hi => h6o i (by omega)
  have h6M := h5B.mid (H' := H6) (n := n2) (by omega) (fun j => by show n2 ≤ n2 + 2 + j; omega) (fun i hi hi2 => h6o i (by omega))
  have h60 : H6 0 = none := (h6o 0 (by omega)).trans h50
  repeat' ((conv => whnf); first
    | (rw [hbb]; conv => whnf)
    | refine ⟨_, ldc_cells hk_ (Nat.le_of_ble_eq_true rfl), ?_⟩
    | (refine callt (b := [agg (ceF (certOf l)), agg (ceF (certOf l))]) v_laws_eqCert (l2 (bor_cert (hk_ : (_ : Option Ob) = _) (h6B.mid (n := n6) (by omega) (fun j => by show n6 ≤ n6 + 2 + j; omega) (fun i hi hi2 => (by (repeat (refine (hupd_ne (by omega)).trans ?_)); rfl)))) (bor_sp (h6S.same fun i hi => (by (repeat (refine (hupd_ne (by omega)).trans ?_)); rfl)))) ⟨(certOf l, certOf l), rfl, hcf, hcf⟩ (.inr ⟨rfl, rfl⟩) (by first | assumption | omega) (fun r hr => K_laws_eqCert (a := (certOf l, certOf l)) hr) (fun hj => ?_) (fun hj => ?_) <;> (try (exact absurd rfl hj)))
    | (refine calle (b := [agg (ceF (mkCe (certOf l) 1)), I 1]) v_laws_heldCert (l2 (bor_cert (c := mkCe (certOf l) 1) (hk_ : (_ : Option Ob) = _) (h6M.mid (n := n2) (by omega) (fun j => by show n2 ≤ n2 + 2 + j; omega) (fun i hi hi2 => (by (repeat (refine (hupd_ne (by omega)).trans ?_)); rfl)))) rfl) ⟨(certOf l, 1), rfl, hcs, one0, (by decide : (1 : Int) ≤ 1099500000000)⟩ (.inr ⟨rfl, rfl⟩) (by first | assumption | omega) (fun r hr => K_laws_heldCert hr) ?_)
    | refine ⟨_, rfl, ?_⟩
    | refine ⟨rfl, ?_⟩
    | refine ⟨_, ldc_cells hupd_at (Nat.le_of_ble_eq_true rfl), ?_⟩
    | refine ⟨_, ldc_cells (by first | assumption | exact zk ‹_› (by omega) | exact zk (zk ‹_› (by omega)) (by omega)) (Nat.le_of_ble_eq_true rfl), ?_⟩
    | refine ⟨_, _, hupd_at, rfl, rfl, Nat.le_of_ble_eq_true rfl, ?_⟩
    | refine ⟨_, _, rfl, rfl, rfl, Nat.le_of_ble_eq_true rfl, ?_⟩
    | (refine ⟨?_, _, (?_ : (_ : Option Ob) = _), rfl, rfl, ?_, ?_⟩; rotate_left; (exact hk_); exact Nat.le_of_ble_eq_true rfl)
    | refine ⟨_, _, _, _, ((by exact hk_) : (_ : Option Ob) = _), fill_at (by omega), rfl, rfl, Nat.le_of_ble_eq_true rfl, ?_⟩
    | refine ⟨_, _, _, _, ((by exact hk_) : (_ : Option Ob) = _), at_mapA (by assumption), rfl, rfl, Nat.le_of_ble_eq_true rfl, ?_⟩
    | refine ⟨_, ldc_pa (by exact hk_) (at_mapA (by assumption)) (Nat.le_of_ble_eq_true rfl), ?_⟩
    | refine ⟨_, ((by exact hk_) : (_ : Option Ob) = _), ?_⟩
    | (refine ⟨fun hc => ?_, fun hc => ?_⟩ <;> (try simp (disch := omega) only [List.length_map, wrap64] at hc) <;> (try (exfalso; first | contradiction | omega)))
    | exact ⟨⟨_, rfl, rfl, l, rfl, (by refine congrArg B (Eq.symm (tb_pos ?_)); (try dsimp only); first | done | exact absurd True.intro hj | (exact True.intro))⟩, (by first | exact Nat.le_refl _ | omega), (by exact h0_)⟩
    | exact ⟨⟨_, rfl, rfl, l, rfl, (by refine congrArg B (Eq.symm (tb_neg ?_)); (try dsimp only); first | done | exact absurd True.intro hj | (exact True.intro))⟩, (by first | exact Nat.le_refl _ | omega), (by exact h0_)⟩
    | fail)
end Av
end Go.Proofs.Ytdboofnogabefaa
