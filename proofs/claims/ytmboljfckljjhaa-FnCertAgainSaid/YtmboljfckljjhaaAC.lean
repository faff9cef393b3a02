/- The walks: a cert's votes, to be appended to; the law FnCertAgain. -/
import Derived.Test.YtmboljfckljjhaaAB
import Derived.Test.YtmboljfckljjhaaU3
set_option linter.unusedVariables false
set_option linter.unusedSimpArgs false
namespace Go.Proofs.Ytmboljfckljjhaa
namespace Av
open Go.RowKit

attribute [local irreducible] Valid ValidM
set_option maxHeartbeats 4000000 in
set_option maxRecDepth 100000 in
theorem v_slices_Clip_VoteS_f : ValidM Try.prog n_slices_Clip_VoteS_f S_slices_Clip_VoteS_f := by
  refine validM_of_swp mixed is_slices_Clip_VoteS_f (by rintro _ _ ⟨a, rfl, _⟩; exact Nat.le_of_ble_eq_true rfl) ?_
  rintro _ _ rm ⟨l, rfl, rfl, hpre⟩ hl
  try dsimp only at hpre
  change swp _ _ _ _ _ 1 _
  conv => whnf
  refine ⟨_, _, _, rfl, ?_⟩
  conv => whnf
  refine ⟨_, _, _, rfl, ?_⟩
  conv => whnf
  refine .inl ⟨0, ty_impl_Vote, arA voF l, rfl, rfl, rfl, rfl, ?_⟩
  conv => whnf
  exact finM_mv (F := voF) (T := ty_impl_Vote) (sz := 2) (l := l) (Nat.le_refl _) hk_ hupd_at (by omega) ⟨⟨_, rfl, .inl rfl⟩, trivial⟩ ⟨l, rfl, rfl, rfl, rfl⟩
set_option maxHeartbeats 4000000 in
set_option maxRecDepth 100000 in
theorem v_impl_CertVotes_f : ValidM Try.prog n_impl_CertVotes_f S_impl_CertVotes_f := by
  refine validM_of_swp mixed is_impl_CertVotes_f (by rintro _ _ ⟨a, rfl, _⟩; exact Nat.le_of_ble_eq_true rfl) ?_
  rintro _ _ rm ⟨c, rfl, rfl, hpre⟩ hl
  try dsimp only at hpre
  change swp _ _ _ _ _ 0 _
  have hp1 := hpre
  have hfc := hp1.1
  have hL := hfc
  simp only [LIM] at hL
  by_cases hok : CertOk c
  · have hb3 := hok.2.2.2.1
    have h3 := hok.2.1
    have hrb := fun i => rows_bound hok i
    have eV := certVotes_ok hok
    repeat' ((conv => whnf); first
      | refine ⟨_, rfl, ?_⟩
      | (refine callt (b := [agg (ceF ⟨_, _⟩)]) v_impl_CertOk rfl ⟨⟨_, _⟩, rfl, (by exact pr_)⟩ (.inl rfl) (by first | assumption | omega) (fun r hr => K_impl_CertOk (a := ⟨_, _⟩) hr) (fun hj => ?_) (fun hj => ?_) <;> (try simp only [etaPa, etaIt, etaVo] at hj) <;> (try contradiction))
      | fail)
    conv => whnf
    refine ⟨fun fr H nx r2 => ∃ (i ko : Nat), Has fr [(1, .w (.o (.ptr 0 0))), (3, .w (.o (.ow ko))), (13, one (nssF c.b)), (14, I (c.b.map fun n => [nsF n]).length), (15, I i)] ∧ i ≤ 3 ∧ H 0 = some (.cells ((ceF c).map AC.c)) ∧ H ko = some (voO (certRows c.c 0 (c.b.take i))) ∧ 1 ≤ ko ∧ ko < nx ∧ r2 = rm,
      fun fr _ _ _ => 3 - ix (fr 15), ⟨0, _, ⟨rfl, rfl, rfl, rfl, rfl, trivial⟩, by omega, hk_, hk_, ln_, ln_, rfl⟩, ?_⟩
    rintro fr H nx r2 ⟨i, ko, hfr, hi, hH1, hko, hko1, hkon, rfl⟩
    rw [hfr.eq]
    rcases Nat.lt_or_ge i 3 with hi' | hi'
    · obtain ⟨x, hx⟩ : ∃ x, c.b[i]? = some x := ⟨_, List.getElem?_eq_getElem (by omega)⟩
      have hxl := hp1.b hx
      repeat' ((conv => whnf); first
        | refine ⟨_, _, rfl, at_map hx, ?_⟩
        | refine ⟨_, rfl, ?_⟩
        | refine ⟨rfl, ?_⟩
        | (refine ⟨fun hc => ?_, fun hc => ?_⟩ <;> (try simp (disch := omega) only [List.length_map, wrap64] at hc) <;> (try (exfalso; first | contradiction | omega)))
        | fail)
      conv => whnf
      refine ⟨fun fr H nx r3 => ∃ (j ko : Nat), Has fr [(1, .w (.o (.ptr 0 0))), (3, .w (.o (.ow ko))), (4, I i), (13, one (nssF c.b)), (14, I (c.b.map fun n => [nsF n]).length), (15, I i), (20, one (nsF x)), (21, I (x.map fun n => [fI n]).length), (22, I j)] ∧ j ≤ x.length ∧ H 0 = some (.cells ((ceF c).map AC.c)) ∧ H ko = some (voO (certRows c.c 0 (c.b.take i) ++ (certRow c.c i x).take j)) ∧ 1 ≤ ko ∧ ko < nx ∧ r3 = r2,
        fun fr _ _ _ => x.length - ix (fr 22), ⟨0, ko, ⟨rfl, rfl, rfl, rfl, rfl, rfl, rfl, rfl, rfl, trivial⟩, by omega, hk_, (by rw [List.take_zero, List.append_nil]; exact hko), hko1, ln_, rfl⟩, ?_⟩
      rintro fr H nx r3 ⟨j, ko, hfr, hj, hH1, hko, hko1, hkon, rfl⟩
      rw [hfr.eq]
      have hxv := hok.2.2.2.2 x (List.mem_of_getElem? hx)
      have hi0 : (0 : Int) ≤ (i : Int) := Int.natCast_nonneg i
      have hi2 : (i : Int) ≤ 2 := by omega
      have hrl := hrb i
      have hrl2 : ((certRow c.c i x).take j).length ≤ 4 := by
        have h5 := hrb (i + 1)
        rw [← rows_at hx] at h5
        have h6 : x.length ≤ 4 := by
          show _ ≤ ([1, 2, 3, 4] : List Int).length
          refine List.Nodup.length_le_of_subset (asc_nodup (asc_vt hxv)) fun n hn => ?_
          have := vt_in hxv hn
          obtain ⟨q1, q2⟩ := this
          have : n = 1 ∨ n = 2 ∨ n = 3 ∨ n = 4 := by omega
          simpa using this
        simp only [List.length_take, certRow, List.length_map]; omega
      have hct : (c.c.take (c.c.length - 2 + i)).length ≤ LIM := by simp only [List.length_take]; omega
      rcases Nat.lt_or_ge j x.length with hj' | hj'
      · obtain ⟨n, hn⟩ : ∃ n, x[j]? = some n := ⟨_, List.getElem?_eq_getElem hj'⟩
        repeat' ((conv => whnf); first
          | refine ⟨_, _, rfl, at_map hn, ?_⟩
          | refine ⟨_, rfl, ?_⟩
          | refine ⟨rfl, ?_⟩
          | refine ⟨_, ldc_cells (by first | assumption | exact zk ‹_› (by omega) | exact zk (zk ‹_› (by omega)) (by omega)) (Nat.le_of_ble_eq_true rfl), ?_⟩
          | refine ⟨_, news_ow hupd_at, newsz_ow hupd_at, _, ((by exact hk_) : (_ : Option Ob) = _), (by exact ap_), ?_⟩
          | (refine ⟨fun hc => ?_, fun hc => ?_⟩ <;> (try simp (disch := omega) only [List.length_map, wrap64] at hc) <;> (try (exfalso; first | contradiction | omega)))
          | (refine calle (b := [agg (ceF ⟨_, _⟩), I _]) v_impl_Cert_prefix rfl ⟨(⟨_, _⟩, _), rfl, (by refine ⟨?_, ?_, ?_, ?_⟩ <;> (exact pr_))⟩ (.inl rfl) (by first | assumption | omega) (fun r hr => K_impl_Cert_prefix (a := (⟨_, _⟩, _)) hr) ?_)
          | (refine calle (b := [one (chF _)]) v_impl_copied rfl ⟨_, rfl, (by exact pr_)⟩ (.inl rfl) (by first | assumption | omega) (fun r hr => K_impl_copied (a := _) hr) ?_)
          | (refine ⟨⟨j + 1, _, ⟨rfl, rfl, rfl, rfl, rfl, rfl, rfl, rfl, congrArg I (wrap_up (n := x.length) (by omega) hxl), trivial⟩, by omega, hk_, Eq.trans (b := some (Ob.arr _ _ (arA voF (certRows c.c 0 (c.b.take i) ++ (certRow c.c i x).take j) ++ _))) hk_ ((arr_snoc (x := ⟨n, c.c.take (c.c.length - 2 + i)⟩) rfl).trans (by rw [row_snoc hn])), ln_, ln_, rfl⟩, (by show x.length - ix (I _) < x.length - ix (I _); simp only [wrap_up (n := x.length) (i := j) (by omega) hxl, ix, Int.toNat_natCast]; omega)⟩)
          | fail)
      · have hje : j = x.length := by omega
        subst hje
        rw [rows_at hx] at hko
        repeat' ((conv => whnf); first
          | refine ⟨rfl, ?_⟩
          | (refine ⟨fun hc => ?_, fun hc => ?_⟩ <;> (try simp (disch := omega) only [List.length_map, wrap64] at hc) <;> (try (exfalso; first | contradiction | omega)))
          | (refine ⟨⟨i + 1, ko, ⟨rfl, rfl, rfl, rfl, congrArg I (wrap_up (n := 3) (by omega) (by decide)), trivial⟩, by omega, hk_, hk_, hko1, ln_, rfl⟩, (by show 3 - ix (I _) < 3 - ix (I _); simp only [wrap_up (n := 3) (i := i) (by omega) (by decide), ix, Int.toNat_natCast]; omega)⟩)
          | fail)
    · have hi3 : i = 3 := by omega
      subst hi3
      have e4 : c.b.take 3 = c.b := List.take_of_length_le (by omega)
      rw [e4] at hko
      repeat' ((conv => whnf); first
        | refine ⟨rfl, ?_⟩
        | (refine ⟨fun hc => ?_, fun hc => ?_⟩ <;> (try simp (disch := omega) only [List.length_map, wrap64] at hc) <;> (try (exfalso; first | contradiction | omega)))
        | fail)
      conv => whnf
      refine mq_mv (F := voF) (T := ty_impl_Vote) (sz := 2) (l := certRows c.c 0 c.b) v_slices_Clip_VoteS_f (by exact hl) hko (by rfl) ⟨_, rfl, rfl, trivial⟩ (fun r obs' h => K_slices_Clip_VoteS_f h) ?_
      conv => whnf
      exact finM_new (F := voF) (T := ty_impl_Vote) (sz := 2) (l := certRows c.c 0 c.b) (Nat.le_refl _) hupd_at ⟨⟨_, rfl, .inl rfl⟩, trivial⟩ ⟨c, rfl, rfl, .inr ⟨rfl, by rw [eV], hok⟩⟩
  · have eV := certVotes_no hok
    repeat' ((conv => whnf); first
      | refine ⟨_, rfl, ?_⟩
      | (refine callt (b := [agg (ceF ⟨_, _⟩)]) v_impl_CertOk rfl ⟨⟨_, _⟩, rfl, (by exact pr_)⟩ (.inl rfl) (by first | assumption | omega) (fun r hr => K_impl_CertOk (a := ⟨_, _⟩) hr) (fun hj => ?_) (fun hj => ?_) <;> (try simp only [etaPa, etaIt, etaVo] at hj) <;> (try contradiction))
      | fail)
    conv => whnf
    exact finM_e0 (Nat.le_refl _) ⟨⟨_, rfl, .inl rfl⟩, trivial⟩ ⟨c, rfl, rfl, .inl ⟨rfl, rfl, hok⟩⟩
theorem certOf_fit {l : List Vo} : FitCe (certOf l) := by
  cases hB : certB l with
  | true =>
    obtain ⟨q1, q2, q3⟩ := certOf_small hB
    exact ⟨Nat.le_trans q1 (by decide), by rw [q2]; decide, fun x hx => Nat.le_trans (q3 x hx) (by decide)⟩
  | false => rw [certOf_no hB]; exact drce0.fit
theorem vo_snoc (L : List Vo) (x : Vo) : L.map voF ++ [voF x] = (L ++ [x]).map voF := by simp
attribute [local irreducible] certVotes certFin certOf certB
set_option maxHeartbeats 4000000 in
set_option maxRecDepth 100000 in
theorem v_laws_FnCertAgain : Valid Try.prog n_laws_FnCertAgain S_laws_FnCertAgain := by
  refine valid_of_swp mixed is_laws_FnCertAgain (by rintro _ ⟨a, rfl, _⟩; exact Nat.le_of_ble_eq_true rfl) ?_
  rintro _ rm ⟨code, rfl, hpre⟩ hl
  try dsimp only at hpre
  have hpre0 := hpre
  have hp1 := hpre
  have cc_laws_FnCertAgain : S_laws_FnCertAgain.cost = 200000 := rfl
  have cc_spec_DrawCertVotes : S_spec_DrawCertVotes.cost = 60000 := rfl
  have cc_spec_CertVotes : S_spec_CertVotes.cost = 0 := rfl
  have cc_laws_lwVotes : S_laws_lwVotes.cost = 0 := rfl
  have cc_spec_CertOk : S_spec_CertOk.cost = 0 := rfl
  have cc_impl_CertOf : S_impl_CertOf.cost = 0 := rfl
  have cc_laws_lwSame : S_laws_lwSame.cost = 0 := rfl
  have cc_impl_CertFinal : S_impl_CertFinal.cost = 0 := rfl
  have ccV : S_impl_CertVotes_f.cost = 0 := rfl
  repeat' ((conv => whnf); first
    | refine ⟨_, rfl, ?_⟩
    | refine ⟨rfl, ?_⟩
    | refine ⟨_, _, hupd_at, rfl, rfl, Nat.le_of_ble_eq_true rfl, ?_⟩
    | (refine ⟨fun hc => ?_, fun hc => ?_⟩ <;> (try simp (disch := omega) only [List.length_map, wrap64] at hc))
    | (refine callk (b := [one (byF _)]) v_spec_DrawCertVotes rfl ⟨_, rfl, (by exact pr_)⟩ (.inl rfl) (by omega) (fun r hr => ?_); have hj := K_spec_DrawCertVotes (a := _) hr; clear hr; obtain ⟨c, rfl, hdc⟩ := hj)
    | exact ⟨⟨_, rfl, rfl, code, rfl, (by unfold R_laws_FnCertAgain; dsimp only; first | done | exact absurd True.intro hj | (rfl))⟩, (by first | exact Nat.le_refl _ | omega), (by exact h0_)⟩
    | fail)
  have hfc := hdc.fit
  have hc1 := hfc.1
  have hL := hc1
  simp only [LIM] at hL
  refine mq_clone (F := voF) (T := ty_impl_Vote) (sz := 2) (Q := fun m => m = certVotes c ∧ CertOk c) (Q0 := fun _ => ¬ CertOk c) v_impl_CertVotes_f (by omega) rfl rfl ⟨c, rfl, rfl, hfc⟩ (fun r obs' h => by
    rcases K_impl_CertVotes_f h with ⟨h1, h2, h3⟩ | ⟨h1, h2, h3⟩
    · exact .inl ⟨h1, h2, h3⟩
    · exact .inr ⟨_, h1, h2, rfl, h3⟩) (fun hok => ?_) (fun m hm => ?_)
  · have e := certVotes_no hok
    have hfv : FitVs (certVotes c) := by rw [e]; exact ⟨Nat.zero_le _, fun v h => by cases h⟩
    repeat' ((conv => whnf); first
      | (refine callt (b := [one (vsF []), one (vsF (certVotes c))]) v_laws_lwVotes rfl ⟨([], certVotes c), rfl, ⟨Nat.zero_le _, fun v h => by cases h⟩, hfv⟩ (.inl rfl) (by omega) (fun r hr => K_laws_lwVotes (a := ([], certVotes c)) hr) (fun hj => ?_) (fun hj => ?_) <;> (try (exact absurd e.symm hj)))
      | refine ⟨_, rfl, ?_⟩
      | refine .inr ?_
      | (refine calle (b := [agg (ceF ⟨_, _⟩)]) v_spec_CertVotes rfl ⟨⟨_, _⟩, rfl, (by exact pr_)⟩ (.inl rfl) (by first | assumption | omega) (fun r hr => K_spec_CertVotes (a := ⟨_, _⟩) hr) ?_)
      | (refine callt (b := [agg (ceF ⟨_, _⟩)]) v_spec_CertOk rfl ⟨⟨_, _⟩, rfl, (by exact pr_)⟩ (.inl rfl) (by first | assumption | omega) (fun r hr => K_spec_CertOk (a := ⟨_, _⟩) hr) (fun hj => ?_) (fun hj => ?_) <;> (try simp only [etaPa, etaIt, etaVo] at hj) <;> (try contradiction))
      | exact ⟨⟨_, rfl, rfl, code, rfl, (by unfold R_laws_FnCertAgain; dsimp only; first | done | exact absurd True.intro hj | (first | rfl | (exfalso; first | contradiction | omega | grind)))⟩, (by first | exact Nat.le_refl _ | omega), (by exact h0_)⟩
      | fail)
  · obtain ⟨rfl, hok⟩ := hm
    obtain ⟨hfv, hfl⟩ := rows_fit hok hfc
    have h3 := hok.2.1
    obtain ⟨hB, hC, hF⟩ := again_cert hok
    have hn16 : c.c.length ≤ 16 := hok.1.2
    conv => whnf
    refine .inl ⟨_, _, _, _, _, rfl, hupd_at, fcellss_f voF _, .inl ?_⟩
    repeat' ((conv => whnf); first
      | refine ⟨_, rfl, ?_⟩
      | (refine calle (b := [agg (ceF ⟨_, _⟩)]) v_spec_CertVotes rfl ⟨⟨_, _⟩, rfl, (by exact pr_)⟩ (.inl rfl) (by first | assumption | omega) (fun r hr => K_spec_CertVotes (a := ⟨_, _⟩) hr) ?_)
      | (refine callt (b := [one (vsF _), one (vsF _)]) v_laws_lwVotes rfl ⟨(_, _), rfl, (by refine ⟨?_, ?_⟩ <;> (exact pr_))⟩ (.inl rfl) (by first | assumption | omega) (fun r hr => K_laws_lwVotes (a := (_, _)) hr) (fun hj => ?_) (fun hj => ?_) <;> (try simp only [etaPa, etaIt, etaVo] at hj) <;> (try contradiction))
      | (refine callt (b := [agg (ceF ⟨_, _⟩)]) v_spec_CertOk rfl ⟨⟨_, _⟩, rfl, (by exact pr_)⟩ (.inl rfl) (by first | assumption | omega) (fun r hr => K_spec_CertOk (a := ⟨_, _⟩) hr) (fun hj => ?_) (fun hj => ?_) <;> (try simp only [etaPa, etaIt, etaVo] at hj) <;> (try contradiction))
      | fail)
    conv => whnf
    refine ⟨fun fr H nx r2 => ∃ (i k3 ko : Nat), Has fr [(3, .w (.o (.ptr k3 0))), (4, .w (.o (.tk ko 2 ((certVotes c ++ ext c.c i).map voF)))), (5, I ((i + 1 : Nat) : Int))] ∧ i + 3 ≤ c.c.length ∧ H k3 = some (.cells ((ceF c).map AC.c)) ∧ H ko = some (.tok ty_impl_Vote 2 (certVotes c ++ ext c.c i).length) ∧ 1 ≤ k3 ∧ k3 < nx ∧ 1 ≤ ko ∧ ko < nx ∧ ko ≠ k3 ∧ H 0 = none ∧ r2 ≤ rm + 60000,
      fun fr _ _ _ => c.c.length - ix (fr 5), ⟨0, _, _, ⟨rfl, congrArg (fun z => AV.w (.o (.tk _ 2 (List.map voF z)))) (List.append_nil _).symm, rfl, trivial⟩, by omega, hk_, Eq.trans (b := some (.tok ty_impl_Vote 2 (arA voF (certVotes c)).length)) hk_ (congrArg (fun n => some (Ob.tok _ 2 n)) (by simp [arA, ext])), ln_, ln_, ln_, ln_, (by omega), ne_, by omega⟩, ?_⟩
    rintro fr H nx r2 ⟨i, k3, ko, hfr, hi, hH3, hko, h31, h3n, ho1, hon, hne, hH, hr⟩
    rw [hfr.eq]
    have w2 : IntKind.i64.wrap (((i + 1 : Nat) : Int) + 2) = ((i + 3 : Nat) : Int) := by rw [wrap64] <;> omega
    have hel := ext_len c.c i
    rcases Nat.lt_or_ge (i + 3) c.c.length with hi' | hi'
    · have hib := hi'
      repeat' ((conv => whnf); first
        | refine ⟨rfl, ?_⟩
        | refine ⟨_, ldc_cells (by first | assumption | exact zk ‹_› (by omega) | exact zk (zk ‹_› (by omega)) (by omega)) (Nat.le_of_ble_eq_true rfl), ?_⟩
        | (refine ⟨fun hc => ?_, fun hc => ?_⟩ <;> (try simp (disch := omega) only [List.length_map, wrap64] at hc) <;> (try (exfalso; first | contradiction | omega)))
        | fail)
      conv => whnf
      refine ⟨fun fr H nx r3 => ∃ (j k3 ko : Nat), Has fr [(3, .w (.o (.ptr k3 0))), (4, .w (.o (.tk ko 2 ((certVotes c ++ ext c.c i ++ four (c.c.take (i + 1)) j).map voF)))), (5, I ((i + 1 : Nat) : Int)), (6, I ((j + 1 : Nat) : Int))] ∧ j ≤ 4 ∧ H k3 = some (.cells ((ceF c).map AC.c)) ∧ H ko = some (.tok ty_impl_Vote 2 (certVotes c ++ ext c.c i ++ four (c.c.take (i + 1)) j).length) ∧ 1 ≤ k3 ∧ k3 < nx ∧ 1 ≤ ko ∧ ko < nx ∧ ko ≠ k3 ∧ H 0 = none ∧ r3 ≤ rm + 60000,
        fun fr _ _ _ => 5 - ix (fr 6), ⟨0, k3, ko, ⟨rfl, congrArg (fun z => AV.w (.o (.tk _ 2 (List.map voF z)))) (List.append_nil _).symm, rfl, rfl, trivial⟩, by omega, hk_, Eq.trans (b := some (.tok ty_impl_Vote 2 (certVotes c ++ ext c.c i).length)) hk_ (congrArg (fun n => some (Ob.tok _ 2 n)) (by simp [four])), ln_, ln_, ln_, ln_, (by omega), ne_, by omega⟩, ?_⟩
      rintro fr H nx r3 ⟨j, k3, ko, hfr, hj, hH3, hko, h31, h3n, ho1, hon, hne, hH, hr⟩
      rw [hfr.eq]
      have w1 : IntKind.i64.wrap (((j + 1 : Nat) : Int) + 1) = ((j + 1 + 1 : Nat) : Int) := by rw [wrap64] <;> omega
      have w3 : IntKind.i64.wrap (((i + 1 : Nat) : Int) + 1) = ((i + 1 + 1 : Nat) : Int) := by rw [wrap64] <;> omega
      have hLn : (certVotes c ++ ext c.c i ++ four (c.c.take (i + 1)) j).length ≤ 200 := by
        simp only [List.length_append, hel, four_len]; omega
      rcases Nat.lt_or_ge j 4 with hj' | hj'
      · have hjb := hj'
        repeat' ((conv => whnf); first
          | (refine ⟨_, news_ow hupd_at, newsz_ow hupd_at, _, rfl, ((zk hko (by omega)).trans (by rw [List.length_map])), rfl, (by rw [List.length_map]; simp only [List.length_cons, List.length_nil]; omega), ?_⟩)
          | refine ⟨rfl, ?_⟩
          | refine ⟨_, ldc_cells (by first | assumption | exact zk ‹_› (by omega) | exact zk (zk ‹_› (by omega)) (by omega)) (Nat.le_of_ble_eq_true rfl), ?_⟩
          | (refine ⟨fun hc => ?_, fun hc => ?_⟩ <;> (try simp (disch := omega) only [List.length_map, wrap64] at hc) <;> (try (exfalso; first | contradiction | omega)))
          | (refine ⟨_, slc_to rfl (by first | omega | (simp only [List.length_map] at *; omega)), ?_⟩; rw [map_take'])
          | fail)
        skip
        skip
        conv => whnf
        refine ⟨⟨j + 1, k3, _, ⟨rfl, congrArg (fun z => AV.w (.o (.tk _ 2 z))) (show (certVotes c ++ ext c.c i ++ four (c.c.take (i + 1)) j).map voF ++ [voF ⟨((j + 1 : Nat) : Int), c.c.take (i + 1)⟩] = _ from by simp [four]), rfl, congrArg I w1, trivial⟩, by omega, hk_, Eq.trans (b := some (.tok ty_impl_Vote 2 (((certVotes c ++ ext c.c i ++ four (c.c.take (i + 1)) j).map voF).length + 1))) hk_ (congrArg (fun n => some (Ob.tok _ 2 n)) (by rw [List.length_map]; simp [four]; omega)), ln_, ln_, ln_, ln_, by omega, hk_, by omega⟩, ?_⟩
        show 5 - ix (I _) < 5 - ix (I _)
        simp only [w1, ix, Int.toNat_natCast]
        omega
      · have hje : j = 4 := by omega
        subst hje
        repeat' ((conv => whnf); first
          | refine ⟨rfl, ?_⟩
          | (refine ⟨fun hc => ?_, fun hc => ?_⟩ <;> (try simp (disch := omega) only [List.length_map, wrap64] at hc) <;> (try (exfalso; first | contradiction | omega)))
          | fail)
        conv => whnf
        skip
        refine ⟨⟨i + 1, k3, ko, ⟨rfl, congrArg (fun z => AV.w (.o (.tk _ 2 (List.map voF z)))) (by rw [List.append_assoc]; rfl), congrArg I w3, trivial⟩, by omega, hk_, hko.trans (congrArg (fun z => some (Ob.tok _ 2 (List.length z))) (by rw [List.append_assoc]; rfl)), ln_, ln_, ln_, ln_, by omega, hk_, by omega⟩, ?_⟩
        show c.c.length - ix (I _) < c.c.length - ix (I _)
        simp only [w3, ix, Int.toNat_natCast]
        omega
    · have hie : i = c.c.length - 3 := by omega
      subst hie
      skip
      have hLl : (certVotes c ++ ext c.c (c.c.length - 3)).length ≤ 200 := by simp only [List.length_append, hel]; omega
      have hLL : (certVotes c ++ ext c.c (c.c.length - 3)).length < LIM := by simp only [LIM]; omega
      have hLf : FitVs (certVotes c ++ ext c.c (c.c.length - 3)) := by
        refine ⟨by simp only [LIM]; omega, fun v hv => ?_⟩
        rcases List.mem_append.1 hv with hv | hv
        · exact hfv.2 v hv
        · obtain ⟨k, _, h1⟩ := mem_ext.1 hv
          obtain ⟨q, _, h2⟩ := mem_four.1 h1
          show v.c.length ≤ LIM
          rw [h2, List.length_take]; omega
      have hcf : (certFin c).length ≤ LIM := by rw [certFin_ok hok, List.length_take]; omega
      have hfo : FitCe (certOf (certVotes c ++ ext c.c (c.c.length - 3))) := certOf_fit
      generalize hLe : certVotes c ++ ext c.c (c.c.length - 3) = L at *
      have hcl : (certOf L).c.length ≤ LIM := by rw [hC]; exact hc1
      have hcl2 : (certFin (certOf L)).length ≤ LIM := by rw [hF]; exact hcf
      repeat' ((conv => whnf); first
        | refine ⟨rfl, ?_⟩
        | refine ⟨_, ldc_cells hupd_at (Nat.le_of_ble_eq_true rfl), ?_⟩
        | refine ⟨_, ldc_cells (by first | assumption | exact zk ‹_› (by omega) | exact zk (zk ‹_› (by omega)) (by omega)) (Nat.le_of_ble_eq_true rfl), ?_⟩
        | refine ⟨_, _, hupd_at, rfl, rfl, Nat.le_of_ble_eq_true rfl, ?_⟩
        | (refine ⟨fun hc => ?_, fun hc => ?_⟩ <;> (try simp (disch := omega) only [List.length_map, wrap64] at hc) <;> (try (exfalso; first | contradiction | omega)))
        | (refine callk (b := [one (vsF _)]) v_impl_CertOf rfl ⟨_, rfl, (by refine ⟨?_, ?_⟩ <;> (exact pr_))⟩ (.inl rfl) (by first | assumption | omega) (fun r hr => ?_); have hj := K_impl_CertOf (a := _) hr; clear hr; unfold R_impl_CertOf at hj; (try dsimp only at hj); (try rw [hB] at hj); (try rw [hB2] at hj); subst hj)
        | (refine callt (b := [one (chF _), one (chF _)]) v_laws_lwSame rfl ⟨(_, _), rfl, (by refine ⟨?_, ?_⟩ <;> (exact pr_))⟩ (.inl rfl) (by first | assumption | omega) (fun r hr => K_laws_lwSame (a := (_, _)) hr) (fun hj => ?_) (fun hj => ?_) <;> (try simp only [etaPa, etaIt, etaVo] at hj) <;> (try contradiction))
        | (refine calle (b := [agg (ceF ⟨_, _⟩)]) v_impl_CertFinal rfl ⟨⟨_, _⟩, rfl, (by exact pr_)⟩ (.inl rfl) (by first | assumption | omega) (fun r hr => K_impl_CertFinal (a := ⟨_, _⟩) hr) ?_)
        | exact ⟨⟨_, rfl, rfl, code, rfl, (by unfold R_laws_FnCertAgain; dsimp only; first | done | exact absurd True.intro hj | (first | rfl | (exfalso; first | contradiction | exact hj hC | exact hj hF | omega | grind)))⟩, (by first | exact Nat.le_refl _ | omega), (by exact h0_)⟩
        | fail)
end Av
end Go.Proofs.Ytmboljfckljjhaa
