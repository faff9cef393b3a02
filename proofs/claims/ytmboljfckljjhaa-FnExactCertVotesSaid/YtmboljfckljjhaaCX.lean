/- The walks: a cert's votes of one's own; the marks stand on votes; the law FnExactCertVotes. -/
import Derived.Test.YtmboljfckljjhaaCW
import Derived.Test.YtmboljfckljjhaaW1
set_option linter.unusedVariables false
set_option linter.unusedSimpArgs false
namespace Go.Proofs.Ytmboljfckljjhaa
namespace Av
open Go.RowKit

set_option maxHeartbeats 4000000 in
set_option maxRecDepth 100000 in
theorem v_slices_Clip_VoteS_o : ValidM Try.prog n_slices_Clip_VoteS_o S_slices_Clip_VoteS_o := by
  refine validM_of_swp mixed is_slices_Clip_VoteS_o (by rintro _ _ ⟨a, rfl, _⟩; exact Nat.le_of_ble_eq_true rfl) ?_
  rintro _ _ rm ⟨l, rfl, rfl, -⟩ hl
  have hE1 : ∀ j v, l[j]? = some v → (nV.In l)[j + 1]? = some (nV.ob1 v) := fun j v h => Nest.In_at h
  have hlen : (nV.In l).length = l.length + 1 := Nest.In_len
  have hkl : (nV.K (· + 1) l).length = l.length := Nest.K_len
  conv => whnf
  refine ⟨_, _, _, rfl, ?_⟩
  conv => whnf
  refine ⟨_, _, _, rfl, ?_⟩
  conv => whnf
  refine .inl ⟨0, _, nV.K (· + 1) l, rfl, rfl, rfl, rfl, ?_⟩
  conv => whnf
  refine finM_nclip (l := l) hlen (Nat.le_refl _) ?_ hupd_at (by omega) (fun j v hj => ?_) ⟨⟨_, rfl, .inl rfl⟩, trivial⟩ ⟨l, rfl, rfl, rfl, rfl⟩
  · rw [hupd_ne (by omega)]; exact hupd_at
  · have hj' := (List.getElem?_eq_some_iff.1 hj).1
    rw [hupd_ne (by omega), hupd_ne (by omega)]; exact hE1 j v hj
set_option maxHeartbeats 4000000 in
set_option maxRecDepth 100000 in
theorem v_impl_CertVotes_e : ValidM Try.prog n_impl_CertVotes_o S_impl_CertVotes_e := by
  refine validM_of_swp mixed is_impl_CertVotes_o (by rintro _ _ ⟨a, rfl, _⟩; exact Nat.le_of_ble_eq_true rfl) ?_
  rintro _ _ rm ⟨c, rfl, rfl, hp1⟩ hl
  change swp _ _ _ _ _ 0 _
  have hfc := hp1.1
  have hL := hfc
  simp only [LIM] at hL
  by_cases hok : CertOk c
  · have hb3 := hok.2.2.2.1
    have h3 := hok.2.1
    have hrb := fun i => rows_bound hok i
    have eV := certVotes_ok hok
    repeat' ((conv => whnf); first
      | refine ⟨_, rfl, ?_⟩
      | (refine callt (b := [agg (ceF ⟨_, _⟩)]) v_impl_CertOk rfl ⟨⟨_, _⟩, rfl, (by exact pr_)⟩ (.inl rfl) (by first | assumption | omega) (fun r hr => K_impl_CertOk (a := ⟨_, _⟩) hr) (fun hj => ?_) (fun hj => ?_) <;> (try simp only [etaPa, etaIt, etaVo] at hj) <;> (try contradiction))
      | fail)
    conv => whnf
    refine ⟨fun fr H nx r2 => ∃ (i ko : Nat) (f : Nat → Nat), Has fr [(1, .w (.o (.ptr 0 0))), (3, .w (.o (.ow ko))), (13, one (nssF c.b)), (14, I (c.b.map fun n => [nsF n]).length), (15, I i)] ∧ i ≤ 3 ∧ H 0 = some (.cells ((ceF c).map AC.c)) ∧ nV.At H nx ko f (certRows c.c 0 (c.b.take i)) ∧ 1 ≤ ko ∧ r2 = rm,
      fun fr _ _ _ => 3 - ix (fr 15), ⟨0, _, id, ⟨rfl, rfl, rfl, rfl, rfl, trivial⟩, by omega, hk_, ⟨hk_, fun j v h => by simp [certRows] at h, fun j h => by simp [certRows] at h, fun j j' h => by simp [certRows] at h, ln_, fun j h => by simp [certRows] at h⟩, ln_, rfl⟩, ?_⟩
    rintro fr H nx r2 ⟨i, ko, f, hfr, hi, hH1, hA, hko1, rfl⟩
    rw [hfr.eq]
    rcases Nat.lt_or_ge i 3 with hi' | hi'
    · obtain ⟨x, hx⟩ : ∃ x, c.b[i]? = some x := ⟨_, List.getElem?_eq_getElem (by omega)⟩
      have hxl := hp1.b hx
      repeat' ((conv => whnf); first
        | refine ⟨_, _, rfl, at_map hx, ?_⟩
        | refine ⟨_, rfl, ?_⟩
        | refine ⟨rfl, ?_⟩
        | (refine ⟨fun hc => ?_, fun hc => ?_⟩ <;> (try simp (disch := omega) only [List.length_map, wrap64] at hc) <;> (try (exfalso; first | contradiction | omega)))
        | fail)
      conv => whnf
      refine ⟨fun fr H nx r3 => ∃ (j ko : Nat) (f : Nat → Nat), Has fr [(1, .w (.o (.ptr 0 0))), (3, .w (.o (.ow ko))), (4, I i), (13, one (nssF c.b)), (14, I (c.b.map fun n => [nsF n]).length), (15, I i), (20, one (nsF x)), (21, I (x.map fun n => [fI n]).length), (22, I j)] ∧ j ≤ x.length ∧ H 0 = some (.cells ((ceF c).map AC.c)) ∧ nV.At H nx ko f (certRows c.c 0 (c.b.take i) ++ (certRow c.c i x).take j) ∧ 1 ≤ ko ∧ r3 = r2,
        fun fr _ _ _ => x.length - ix (fr 22), ⟨0, ko, f, ⟨rfl, rfl, rfl, rfl, rfl, rfl, rfl, rfl, rfl, trivial⟩, by omega, hk_, (by rw [List.take_zero, List.append_nil]; exact hA.mono (by omega) fun _ _ => rfl), hko1, rfl⟩, ?_⟩
      rintro fr H nx r3 ⟨j, ko, f, hfr, hj, hH1, hA, hko1, rfl⟩
      rw [hfr.eq]
      have hkon := hA.lt
      have hxv := hok.2.2.2.2 x (List.mem_of_getElem? hx)
      have hi0 : (0 : Int) ≤ (i : Int) := Int.natCast_nonneg i
      have hi2 : (i : Int) ≤ 2 := by omega
      have hrl := hrb i
      have hrl2 : ((certRow c.c i x).take j).length ≤ 4 := by
        have h5 := hrb (i + 1)
        rw [← rows_at hx] at h5
        have h6 : x.length ≤ 4 := by
          show _ ≤ ([1, 2, 3, 4] : List Int).length
          refine List.Nodup.length_le_of_subset (asc_nodup (asc_vt hxv)) fun n hn => ?_
          have := vt_in hxv hn
          obtain ⟨q1, q2⟩ := this
          have : n = 1 ∨ n = 2 ∨ n = 3 ∨ n = 4 := by omega
          simpa using this
        simp only [List.length_take, certRow, List.length_map]; omega
      have hct : (c.c.take (c.c.length - 2 + i)).length ≤ LIM := by simp only [List.length_take]; omega
      rcases Nat.lt_or_ge j x.length with hj' | hj'
      · obtain ⟨n, hn⟩ : ∃ n, x[j]? = some n := ⟨_, List.getElem?_eq_getElem hj'⟩
        repeat' ((conv => whnf); first
          | refine ⟨_, _, rfl, at_map hn, ?_⟩
          | refine ⟨_, rfl, ?_⟩
          | refine ⟨rfl, ?_⟩
          | refine ⟨_, ldc_cells (by first | assumption | exact zk ‹_› (by omega) | exact zk (zk ‹_› (by omega)) (by omega)) (Nat.le_of_ble_eq_true rfl), ?_⟩
          | (refine ⟨fun hc => ?_, fun hc => ?_⟩ <;> (try simp (disch := omega) only [List.length_map, wrap64] at hc) <;> (try (exfalso; first | contradiction | omega)))
          | (refine calle (b := [agg (ceF ⟨_, _⟩), I _]) v_impl_Cert_prefix rfl ⟨(⟨_, _⟩, _), rfl, (by refine ⟨?_, ?_, ?_, ?_⟩ <;> (exact pr_))⟩ (.inl rfl) (by first | assumption | omega) (fun r hr => K_impl_Cert_prefix (a := (⟨_, _⟩, _)) hr) ?_)
          | fail)
        conv => whnf
        refine OQ.mk1 (ar := [one (chF (c.c.take (c.c.length - 2 + i)))]) (by rfl) ⟨c.c.take (c.c.length - 2 + i), rfl, hct⟩ vO_impl_copied (so_impl_copied _) ?_
        conv => whnf
        refine ⟨_, news_ow hupd_at, newsz_ow hupd_at, nV.K f (certRows c.c 0 (c.b.take i) ++ (certRow c.c i x).take j), ?_, ?_, ?_⟩
        · exact zk (zk hA.out (by omega)) (by omega)
        · rw [Nest.K_len, List.length_append]
          simp only [List.length_cons, List.length_nil]
          omega
        · have hS := fun n1 n2 n3 b' o2 h1 h2 h3 h4 => Nest.At.snoc (N := nV) hA (x := ⟨n, c.c.take (c.c.length - 2 + i)⟩) (n := n1) (n' := n3) (n2 := n2) (b' := b') (o2 := o2) h1 h2 h3 h4
          rw [row_snoc hn] at hS
          repeat' ((conv => whnf); first
            | refine ⟨rfl, ?_⟩
            | fail)
          conv => whnf
          refine ⟨⟨j + 1, _, _, ⟨rfl, rfl, rfl, rfl, rfl, rfl, rfl, rfl, congrArg I (wrap_up (n := x.length) (by omega) hxl), trivial⟩, by omega, hk_, hS _ _ _ _ _ (by omega) (by omega) (by omega) (by omega), by omega, rfl⟩, ?_⟩
          show x.length - ix (I _) < x.length - ix (I _)
          simp only [wrap_up (n := x.length) (i := j) (by omega) hxl, ix, Int.toNat_natCast]; omega
      · have hje : j = x.length := by omega
        subst hje
        rw [rows_at hx] at hA
        repeat' ((conv => whnf); first
          | refine ⟨rfl, ?_⟩
          | (refine ⟨fun hc => ?_, fun hc => ?_⟩ <;> (try simp (disch := omega) only [List.length_map, wrap64] at hc) <;> (try (exfalso; first | contradiction | omega)))
          | (refine ⟨⟨i + 1, ko, f, ⟨rfl, rfl, rfl, rfl, congrArg I (wrap_up (n := 3) (by omega) (by decide)), trivial⟩, by omega, hk_, hA.mono (by omega) (fun _ _ => rfl), hko1, rfl⟩, (by show 3 - ix (I _) < 3 - ix (I _); simp only [wrap_up (n := 3) (i := i) (by omega) (by decide), ix, Int.toNat_natCast]; omega)⟩)
          | fail)
    · have hi3 : i = 3 := by omega
      subst hi3
      have e4 : c.b.take 3 = c.b := List.take_of_length_le (by omega)
      rw [e4] at hA
      repeat' ((conv => whnf); first
        | refine ⟨rfl, ?_⟩
        | (refine ⟨fun hc => ?_, fun hc => ?_⟩ <;> (try simp (disch := omega) only [List.length_map, wrap64] at hc) <;> (try (exfalso; first | contradiction | omega)))
        | fail)
      conv => whnf
      refine mq_nclip (N := nV) (f := f) (l := certRows c.c 0 c.b) v_slices_Clip_VoteS_o (by exact hl) hA (by omega) (by rfl) fun n H' e hA' ho => ?_
      conv => whnf
      exact finM_nest (N := nV) (f := f) (l := certRows c.c 0 c.b) (Nat.le_refl _) hA' ⟨⟨_, rfl, .inl rfl⟩, trivial⟩ ⟨c, rfl, rfl, .inr ⟨rfl, by rw [eV]⟩⟩
  · have eV := certVotes_no hok
    repeat' ((conv => whnf); first
      | refine ⟨_, rfl, ?_⟩
      | (refine callt (b := [agg (ceF ⟨_, _⟩)]) v_impl_CertOk rfl ⟨⟨_, _⟩, rfl, (by exact pr_)⟩ (.inl rfl) (by first | assumption | omega) (fun r hr => K_impl_CertOk (a := ⟨_, _⟩) hr) (fun hj => ?_) (fun hj => ?_) <;> (try simp only [etaPa, etaIt, etaVo] at hj) <;> (try contradiction))
      | fail)
    conv => whnf
    exact finM_e0 (Nat.le_refl _) ⟨⟨_, rfl, .inl rfl⟩, trivial⟩ ⟨c, rfl, rfl, .inl ⟨rfl, rfl, eV⟩⟩
theorem v_impl_CertVotes_o : ValidM Try.prog n_impl_CertVotes_o S_impl_CertVotes_o := by
  refine valid_e0 v_impl_CertVotes_e rfl (fun args obs ⟨l, h, h0, hp⟩ => ⟨⟨l, h, h0, hp⟩, h0⟩) fun args r obs' ⟨l, h, _, hp⟩ hq => ?_
  subst h
  rcases K_impl_CertVotes_e hq with ⟨h1, h2, h3⟩ | ⟨h1, h2⟩
  · exact .inl ⟨h1, h2, ty_impl_Vote, 2, l, rfl, rfl, rfl, by rw [h3]; rfl⟩
  · exact .inr ⟨l, rfl, rfl, h1, h2⟩
attribute [local irreducible] mkC mkVs endV
set_option maxHeartbeats 4000000 in
set_option maxRecDepth 100000 in
theorem v_laws_heldVoteS : Valid Try.prog n_laws_heldVoteS S_laws_heldVoteS := by
  refine valid_of_swp mixed is_laws_heldVoteS (by rintro _ ⟨a, rfl, _⟩; exact Nat.le_of_ble_eq_true rfl) ?_
  rintro _ rm ⟨⟨l, k0⟩, rfl, hsm, hk0, hkM⟩ hl
  dsimp only at hsm hk0 hkM
  have hlen : l.length ≤ 1048576 := hsm.1
  have hlenL : l.length ≤ LIM := Nat.le_trans hlen (by decide)
  have hml := mkVs_len l k0
  have hbd := fun i => endV_bounds (l.take i) k0 fun v hv => hsm.2 v (List.mem_of_mem_take hv)
  have htl : ∀ i, (l.take i).length ≤ l.length := fun i => by rw [List.length_take]; omega
  have hE0 : endV (l.take 0) k0 = k0 := by simp [endV]
  skip
  conv => whnf
  refine ⟨fun fr H nx rm' => ∃ i : Nat, Has fr [(0, one (vsF (mkVs l k0))), (1, I (endV (l.take i) k0)), (5, I i)] ∧ i ≤ l.length ∧ 1 ≤ nx ∧ H 0 = none ∧ rm' = rm,
    fun fr _ _ _ => l.length - ix (fr 5), ⟨0, ⟨rfl, congrArg I hE0.symm, rfl, trivial⟩, Nat.zero_le _, ln_, ne_, rfl⟩, ?_⟩
  rintro fr H nx rm' ⟨i, hfr, hi, hnx, hH, rfl⟩
  rw [hfr.eq]
  have hb := hbd i
  have ht := htl i
  rcases Nat.lt_or_ge i l.length with hi' | hi'
  · obtain ⟨x, hx⟩ : ∃ x, l[i]? = some x := ⟨_, List.getElem?_eq_getElem hi'⟩
    have hxc : x.c.length ≤ SM := hsm.2 x (List.mem_of_getElem? hx)
    have hxc' := hxc
    simp only [SM] at hxc'
    have hat := mkVs_at (k := k0) hx
    have hb' := hbd (i + 1)
    have ht' := htl (i + 1)
    have hee := endV_take hx k0
    have w1 : IntKind.i64.wrap (endV (l.take i) k0 + 1) = endV (l.take i) k0 + 1 := by rw [wrap64] <;> omega
    repeat' ((conv => whnf); first
      | refine ⟨_, _, rfl, at_map hat, ?_⟩
      | (refine calle (b := [one (chF (mkC x.c.length (endV (l.take i) k0 + 1))), I (endV (l.take i) k0 + 1)]) v_laws_heldItemS (l2 rfl (congrArg I w1)) ⟨(x.c.length, endV (l.take i) k0 + 1), rfl, hxc, by dsimp only; omega, by dsimp only [MK]; omega⟩ (.inl rfl) (by exact hl) (fun r hr => K_laws_heldItemS hr) ?_)
      | (refine ⟨⟨i + 1, ⟨rfl, congrArg I hee.symm, congrArg I (wrap_up hi' hlenL), trivial⟩, hi', by omega, h0_, rfl⟩, ?_⟩; show l.length - ix (I _) < l.length - ix (I _); simp only [wrap_up hi' hlenL, ix, Int.toNat_natCast]; omega)
      | refine ⟨_, rfl, ?_⟩
      | refine ⟨rfl, ?_⟩
      | (refine ⟨fun hc => ?_, fun hc => ?_⟩ <;> (try simp (disch := omega) only [List.length_map, wrap64] at hc) <;> (try (exfalso; first | contradiction | omega)))
      | fail)
  · have hie : i = l.length := by omega
    subst hie
    rw [List.take_length] at hfr ⊢
    repeat' ((conv => whnf); first
      | exact ⟨⟨_, rfl, rfl, (l, k0), rfl, rfl⟩, Nat.le_refl _, h0_⟩
      | refine ⟨rfl, ?_⟩
      | (refine ⟨fun hc => ?_, fun hc => ?_⟩ <;> (try simp (disch := omega) only [List.length_map, wrap64] at hc) <;> (try (exfalso; first | contradiction | omega)))
      | fail)
end Av
end Go.Proofs.Ytmboljfckljjhaa
