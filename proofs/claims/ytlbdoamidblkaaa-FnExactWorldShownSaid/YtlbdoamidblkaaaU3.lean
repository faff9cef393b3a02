/- The walks: making a cert. -/
import Derived.Test.YtlbdoamidblkaaaU2
import Derived.Test.YtlbdoamidblkaaaJ49
import Derived.Test.YtlbdoamidblkaaaP4
import Derived.Test.YtlbdoamidblkaaaJ50
import Derived.Test.YtlbdoamidblkaaaU8
set_option linter.unusedVariables false
set_option linter.unusedSimpArgs false
namespace Go.Proofs.Ytlbdoamidblkaaa
namespace Av
open Go.RowKit
end Av
end Go.Proofs.Ytlbdoamidblkaaa
/- The walks: the reference's certs, certs' votes. -/
namespace Go.Proofs.Ytlbdoamidblkaaa
namespace Av
open Go.RowKit
section
variable {res : List Rs} {fr : Env} {H : Hp} {nx rm' lim : Nat} {post : AV → List (Option Ob) → Prop}
end
end Av
end Go.Proofs.Ytlbdoamidblkaaa
/- The walks: a cert's votes, drawn certs. -/
namespace Go.Proofs.Ytlbdoamidblkaaa
namespace Av
open Go.RowKit
attribute [local irreducible] Valid ValidM
set_option maxHeartbeats 4000000 in
set_option maxRecDepth 100000 in
theorem v_impl_CertVotes : Valid Try.prog n_impl_CertVotes S_impl_CertVotes := by
  refine valid_of_swp mixed is_impl_CertVotes (by rintro _ ⟨a, rfl, _⟩; exact Nat.le_of_ble_eq_true rfl) ?_
  rintro _ rm ⟨c, rfl, hpre⟩ hl
  try dsimp only at hpre
  have hpre0 := hpre
  have hp1 := hpre
  have ccA : S_slices_Clip_VoteS.cost = 0 := rfl
  have ccB : S_impl_CertVotes.cost = 0 := rfl
  have hfc := hp1.1
  have hL := hfc
  simp only [LIM] at hL
  by_cases hok : CertOk c
  · have hb3 := hok.2.2.2.1
    have h3 := hok.2.1
    have hrb := fun i => rows_bound hok i
    have eV := certVotes_ok hok
    repeat' ((conv => whnf); first
      | refine ⟨_, rfl, ?_⟩
      | refine ⟨rfl, ?_⟩
      | refine ⟨_, _, rfl, at_map (by assumption), ?_⟩
      | refine idx_mapX (i := 0) rfl (by assumption) ?_
      | refine idx_map (by omega) (fun x hx => ?_)
      | refine idx_mapX (wrap_dn (by omega) (by omega)) (by assumption) ?_
      | refine idx_mapE (wrap_dn (by omega) (by omega)) (by omega) (fun x hx => ?_)
      | refine idx_mapL (by omega) (by first | assumption | (simp only [LIM]; omega)) (fun x hx => ?_)
      | refine idx_mapI (by omega) (by first | omega | (simp only [List.length_map] at *; omega)) (fun x hx => ?_)
      | refine ⟨_, ldc_cells hupd_at (Nat.le_of_ble_eq_true rfl), ?_⟩
      | refine ⟨_, ldc_cells (by first | assumption | exact zk ‹_› (by omega) | exact zk (zk ‹_› (by omega)) (by omega)) (Nat.le_of_ble_eq_true rfl), ?_⟩
      | refine ⟨_, _, _, _, ((by exact hk_) : (_ : Option Ob) = _), rfl, at_mapA (by assumption), ?_⟩
      | refine idx_ow (by exact hk_) (by omega) (fun x hx => ?_)
      | refine ⟨_, _, _, _, ((by exact hk_) : (_ : Option Ob) = _), rfl, fill_at (by omega), ?_⟩
      | refine idx_owL (by exact hk_) (by omega) (by simp only [LIM]; omega) (fun x hx => ?_)
      | refine idx_owI (by exact hk_) (by omega) (by first | omega | (simp only [List.length_map] at *; omega)) (fun x hx => ?_)
      | refine ⟨_, ldc_pa (by exact hk_) (at_mapA (by assumption)) (Nat.le_of_ble_eq_true rfl), ?_⟩
      | refine ⟨_, rfl, rfl, _, ((by exact hk_) : (_ : Option Ob) = _), (by exact ap_), ?_⟩
      | refine ⟨_, news_ow hupd_at, newsz_ow hupd_at, _, ((by exact hk_) : (_ : Option Ob) = _), (by exact ap_), ?_⟩
      | refine ⟨_, _, _, ((by exact hk_) : (_ : Option Ob) = _), ?_⟩
      | refine ⟨_, ((by exact hk_) : (_ : Option Ob) = _), ?_⟩
      | refine ⟨(show _ ≤ _ from (by exact ap_)), ?_⟩
      | (refine ⟨fun hc => ?_, fun hc => ?_⟩ <;> (try simp (disch := omega) only [List.length_map, wrap64] at hc) <;> (try (exfalso; first | contradiction | omega)))
      | (refine callt (b := [agg (ceF ⟨_, _⟩)]) v_impl_CertOk rfl ⟨⟨_, _⟩, rfl, (by exact pr_)⟩ (.inl rfl) (by first | assumption | omega) (fun r hr => K_impl_CertOk (a := ⟨_, _⟩) hr) (fun hj => ?_) (fun hj => ?_) <;> (try simp only [etaPa, etaIt, etaVo] at hj) <;> (try contradiction))
      | fail)
    conv => whnf
    refine ⟨fun fr H nx r2 => ∃ (i ko : Nat), Has fr [(1, .w (.o (.ptr 1 0))), (3, .w (.o (.ow ko))), (13, one (nssF c.b)), (14, I (c.b.map fun n => [nsF n]).length), (15, I i)] ∧ i ≤ 3 ∧ H 1 = some (.cells ((ceF c).map AC.c)) ∧ H ko = some (voO (certRows c.c 0 (c.b.take i))) ∧ 2 ≤ ko ∧ ko < nx ∧ H 0 = none ∧ r2 = rm,
      fun fr _ _ _ => 3 - ix (fr 15), ⟨0, _, ⟨rfl, rfl, rfl, rfl, rfl, trivial⟩, by omega, hk_, hk_, ln_, ln_, ne_, rfl⟩, ?_⟩
    rintro fr H nx r2 ⟨i, ko, hfr, hi, hH1, hko, hko1, hkon, hH, rfl⟩
    rw [hfr.eq]
    rcases Nat.lt_or_ge i 3 with hi' | hi'
    · obtain ⟨x, hx⟩ : ∃ x, c.b[i]? = some x := ⟨_, List.getElem?_eq_getElem (by omega)⟩
      have hxl := hp1.b hx
      repeat' ((conv => whnf); first
        | refine ⟨_, _, rfl, at_map hx, ?_⟩
        | refine ⟨_, rfl, ?_⟩
        | refine ⟨rfl, ?_⟩
        | refine ⟨_, _, rfl, at_map (by assumption), ?_⟩
        | refine idx_mapX (i := 0) rfl (by assumption) ?_
        | refine idx_map (by omega) (fun x hx => ?_)
        | refine idx_mapX (wrap_dn (by omega) (by omega)) (by assumption) ?_
        | refine idx_mapE (wrap_dn (by omega) (by omega)) (by omega) (fun x hx => ?_)
        | refine idx_mapL (by omega) (by first | assumption | (simp only [LIM]; omega)) (fun x hx => ?_)
        | refine idx_mapI (by omega) (by first | omega | (simp only [List.length_map] at *; omega)) (fun x hx => ?_)
        | refine ⟨_, ldc_cells hupd_at (Nat.le_of_ble_eq_true rfl), ?_⟩
        | refine ⟨_, ldc_cells (by first | assumption | exact zk ‹_› (by omega) | exact zk (zk ‹_› (by omega)) (by omega)) (Nat.le_of_ble_eq_true rfl), ?_⟩
        | refine ⟨_, _, _, _, ((by exact hk_) : (_ : Option Ob) = _), rfl, at_mapA (by assumption), ?_⟩
        | refine idx_ow (by exact hk_) (by omega) (fun x hx => ?_)
        | refine ⟨_, _, _, _, ((by exact hk_) : (_ : Option Ob) = _), rfl, fill_at (by omega), ?_⟩
        | refine idx_owL (by exact hk_) (by omega) (by simp only [LIM]; omega) (fun x hx => ?_)
        | refine idx_owI (by exact hk_) (by omega) (by first | omega | (simp only [List.length_map] at *; omega)) (fun x hx => ?_)
        | refine ⟨_, ldc_pa (by exact hk_) (at_mapA (by assumption)) (Nat.le_of_ble_eq_true rfl), ?_⟩
        | refine ⟨_, rfl, rfl, _, ((by exact hk_) : (_ : Option Ob) = _), (by exact ap_), ?_⟩
        | refine ⟨_, news_ow hupd_at, newsz_ow hupd_at, _, ((by exact hk_) : (_ : Option Ob) = _), (by exact ap_), ?_⟩
        | refine ⟨_, _, _, ((by exact hk_) : (_ : Option Ob) = _), ?_⟩
        | refine ⟨_, ((by exact hk_) : (_ : Option Ob) = _), ?_⟩
        | refine ⟨(show _ ≤ _ from (by exact ap_)), ?_⟩
        | (refine ⟨fun hc => ?_, fun hc => ?_⟩ <;> (try simp (disch := omega) only [List.length_map, wrap64] at hc) <;> (try (exfalso; first | contradiction | omega)))
        | fail)
      conv => whnf
      refine ⟨fun fr H nx r3 => ∃ (j ko : Nat), Has fr [(1, .w (.o (.ptr 1 0))), (3, .w (.o (.ow ko))), (4, I i), (13, one (nssF c.b)), (14, I (c.b.map fun n => [nsF n]).length), (15, I i), (20, one (nsF x)), (21, I (x.map fun n => [fI n]).length), (22, I j)] ∧ j ≤ x.length ∧ H 1 = some (.cells ((ceF c).map AC.c)) ∧ H ko = some (voO (certRows c.c 0 (c.b.take i) ++ (certRow c.c i x).take j)) ∧ 2 ≤ ko ∧ ko < nx ∧ H 0 = none ∧ r3 = r2,
        fun fr _ _ _ => x.length - ix (fr 22), ⟨0, ko, ⟨rfl, rfl, rfl, rfl, rfl, rfl, rfl, rfl, rfl, trivial⟩, by omega, hk_, (by rw [List.take_zero, List.append_nil]; exact hko), hko1, ln_, ne_, rfl⟩, ?_⟩
      rintro fr H nx r3 ⟨j, ko, hfr, hj, hH1, hko, hko1, hkon, hH, rfl⟩
      rw [hfr.eq]
      have hxv := hok.2.2.2.2 x (List.mem_of_getElem? hx)
      have hi0 : (0 : Int) ≤ (i : Int) := Int.natCast_nonneg i
      have hi2 : (i : Int) ≤ 2 := by omega
      have hrl := hrb i
      have hrl2 : ((certRow c.c i x).take j).length ≤ 4 := by
        have h5 := hrb (i + 1)
        rw [← rows_at hx] at h5
        have h6 : x.length ≤ 4 := by
          show _ ≤ ([1, 2, 3, 4] : List Int).length
          refine List.Nodup.length_le_of_subset (asc_nodup (asc_vt hxv)) fun n hn => ?_
          have := vt_in hxv hn
          obtain ⟨q1, q2⟩ := this
          have : n = 1 ∨ n = 2 ∨ n = 3 ∨ n = 4 := by omega
          simpa using this
        simp only [List.length_take, certRow, List.length_map]; omega
      have hct : (c.c.take (c.c.length - 2 + i)).length ≤ LIM := by simp only [List.length_take]; omega
      rcases Nat.lt_or_ge j x.length with hj' | hj'
      · obtain ⟨n, hn⟩ : ∃ n, x[j]? = some n := ⟨_, List.getElem?_eq_getElem hj'⟩
        repeat' ((conv => whnf); first
          | refine ⟨_, _, rfl, at_map hn, ?_⟩
          | refine ⟨_, rfl, ?_⟩
          | refine ⟨rfl, ?_⟩
          | refine ⟨_, _, rfl, at_map (by assumption), ?_⟩
          | refine idx_mapX (i := 0) rfl (by assumption) ?_
          | refine idx_map (by omega) (fun x hx => ?_)
          | refine idx_mapX (wrap_dn (by omega) (by omega)) (by assumption) ?_
          | refine idx_mapE (wrap_dn (by omega) (by omega)) (by omega) (fun x hx => ?_)
          | refine idx_mapL (by omega) (by first | assumption | (simp only [LIM]; omega)) (fun x hx => ?_)
          | refine idx_mapI (by omega) (by first | omega | (simp only [List.length_map] at *; omega)) (fun x hx => ?_)
          | refine ⟨_, ldc_cells hupd_at (Nat.le_of_ble_eq_true rfl), ?_⟩
          | refine ⟨_, ldc_cells (by first | assumption | exact zk ‹_› (by omega) | exact zk (zk ‹_› (by omega)) (by omega)) (Nat.le_of_ble_eq_true rfl), ?_⟩
          | refine ⟨_, _, _, _, ((by exact hk_) : (_ : Option Ob) = _), rfl, at_mapA (by assumption), ?_⟩
          | refine idx_ow (by exact hk_) (by omega) (fun x hx => ?_)
          | refine ⟨_, _, _, _, ((by exact hk_) : (_ : Option Ob) = _), rfl, fill_at (by omega), ?_⟩
          | refine idx_owL (by exact hk_) (by omega) (by simp only [LIM]; omega) (fun x hx => ?_)
          | refine idx_owI (by exact hk_) (by omega) (by first | omega | (simp only [List.length_map] at *; omega)) (fun x hx => ?_)
          | refine ⟨_, ldc_pa (by exact hk_) (at_mapA (by assumption)) (Nat.le_of_ble_eq_true rfl), ?_⟩
          | refine ⟨_, rfl, rfl, _, ((by exact hk_) : (_ : Option Ob) = _), (by exact ap_), ?_⟩
          | refine ⟨_, news_ow hupd_at, newsz_ow hupd_at, _, ((by exact hk_) : (_ : Option Ob) = _), (by exact ap_), ?_⟩
          | refine ⟨_, _, _, ((by exact hk_) : (_ : Option Ob) = _), ?_⟩
          | refine ⟨_, ((by exact hk_) : (_ : Option Ob) = _), ?_⟩
          | refine ⟨(show _ ≤ _ from (by exact ap_)), ?_⟩
          | (refine ⟨fun hc => ?_, fun hc => ?_⟩ <;> (try simp (disch := omega) only [List.length_map, wrap64] at hc) <;> (try (exfalso; first | contradiction | omega)))
          | (refine calle (b := [agg (ceF ⟨_, _⟩), I _]) v_impl_Cert_prefix rfl ⟨(⟨_, _⟩, _), rfl, (by refine ⟨?_, ?_, ?_, ?_⟩ <;> (exact pr_))⟩ (.inl rfl) (by first | assumption | omega) (fun r hr => K_impl_Cert_prefix (a := (⟨_, _⟩, _)) hr) ?_)
          | (refine calle (b := [one (chF _)]) v_impl_copied rfl ⟨_, rfl, (by exact pr_)⟩ (.inl rfl) (by first | assumption | omega) (fun r hr => K_impl_copied (a := _) hr) ?_)
          | (refine ⟨⟨j + 1, _, ⟨rfl, rfl, rfl, rfl, rfl, rfl, rfl, rfl, congrArg I (wrap_up (n := x.length) (by omega) hxl), trivial⟩, by omega, hk_, Eq.trans (b := some (Ob.arr _ _ (arA voF (certRows c.c 0 (c.b.take i) ++ (certRow c.c i x).take j) ++ _))) hk_ ((arr_snoc (x := ⟨n, c.c.take (c.c.length - 2 + i)⟩) rfl).trans (by rw [row_snoc hn])), ln_, ln_, ne_, rfl⟩, (by show x.length - ix (I _) < x.length - ix (I _); simp only [wrap_up (n := x.length) (i := j) (by omega) hxl, ix, Int.toNat_natCast]; omega)⟩)
          | fail)
      · have hje : j = x.length := by omega
        subst hje
        rw [rows_at hx] at hko
        repeat' ((conv => whnf); first
          | refine ⟨_, _, rfl, at_map hx, ?_⟩
          | refine ⟨_, rfl, ?_⟩
          | refine ⟨rfl, ?_⟩
          | refine ⟨_, _, rfl, at_map (by assumption), ?_⟩
          | refine idx_mapX (i := 0) rfl (by assumption) ?_
          | refine idx_map (by omega) (fun x hx => ?_)
          | refine idx_mapX (wrap_dn (by omega) (by omega)) (by assumption) ?_
          | refine idx_mapE (wrap_dn (by omega) (by omega)) (by omega) (fun x hx => ?_)
          | refine idx_mapL (by omega) (by first | assumption | (simp only [LIM]; omega)) (fun x hx => ?_)
          | refine idx_mapI (by omega) (by first | omega | (simp only [List.length_map] at *; omega)) (fun x hx => ?_)
          | refine ⟨_, ldc_cells hupd_at (Nat.le_of_ble_eq_true rfl), ?_⟩
          | refine ⟨_, ldc_cells (by first | assumption | exact zk ‹_› (by omega) | exact zk (zk ‹_› (by omega)) (by omega)) (Nat.le_of_ble_eq_true rfl), ?_⟩
          | refine ⟨_, _, _, _, ((by exact hk_) : (_ : Option Ob) = _), rfl, at_mapA (by assumption), ?_⟩
          | refine idx_ow (by exact hk_) (by omega) (fun x hx => ?_)
          | refine ⟨_, _, _, _, ((by exact hk_) : (_ : Option Ob) = _), rfl, fill_at (by omega), ?_⟩
          | refine idx_owL (by exact hk_) (by omega) (by simp only [LIM]; omega) (fun x hx => ?_)
          | refine idx_owI (by exact hk_) (by omega) (by first | omega | (simp only [List.length_map] at *; omega)) (fun x hx => ?_)
          | refine ⟨_, ldc_pa (by exact hk_) (at_mapA (by assumption)) (Nat.le_of_ble_eq_true rfl), ?_⟩
          | refine ⟨_, rfl, rfl, _, ((by exact hk_) : (_ : Option Ob) = _), (by exact ap_), ?_⟩
          | refine ⟨_, news_ow hupd_at, newsz_ow hupd_at, _, ((by exact hk_) : (_ : Option Ob) = _), (by exact ap_), ?_⟩
          | refine ⟨_, _, _, ((by exact hk_) : (_ : Option Ob) = _), ?_⟩
          | refine ⟨_, ((by exact hk_) : (_ : Option Ob) = _), ?_⟩
          | refine ⟨(show _ ≤ _ from (by exact ap_)), ?_⟩
          | (refine ⟨fun hc => ?_, fun hc => ?_⟩ <;> (try simp (disch := omega) only [List.length_map, wrap64] at hc) <;> (try (exfalso; first | contradiction | omega)))
          | (refine ⟨⟨i + 1, ko, ⟨rfl, rfl, rfl, rfl, congrArg I (wrap_up (n := 3) (by omega) (by decide)), trivial⟩, by omega, hk_, hk_, hko1, ln_, ne_, rfl⟩, (by show 3 - ix (I _) < 3 - ix (I _); simp only [wrap_up (n := 3) (i := i) (by omega) (by decide), ix, Int.toNat_natCast]; omega)⟩)
          | fail)
    · have hi3 : i = 3 := by omega
      subst hi3
      have e4 : c.b.take 3 = c.b := List.take_of_length_le (by omega)
      rw [e4] at hko
      have hclL : (certRows c.c 0 c.b).length ≤ LIM := by have := hrb 3; rw [e4] at this; exact Nat.le_trans this (by decide)
      repeat' ((conv => whnf); first
        | refine ⟨_, rfl, ?_⟩
        | refine ⟨rfl, ?_⟩
        | refine ⟨_, _, rfl, at_map (by assumption), ?_⟩
        | refine idx_mapX (i := 0) rfl (by assumption) ?_
        | refine idx_map (by omega) (fun x hx => ?_)
        | refine idx_mapX (wrap_dn (by omega) (by omega)) (by assumption) ?_
        | refine idx_mapE (wrap_dn (by omega) (by omega)) (by omega) (fun x hx => ?_)
        | refine idx_mapL (by omega) (by first | assumption | (simp only [LIM]; omega)) (fun x hx => ?_)
        | refine idx_mapI (by omega) (by first | omega | (simp only [List.length_map] at *; omega)) (fun x hx => ?_)
        | refine ⟨_, ldc_cells hupd_at (Nat.le_of_ble_eq_true rfl), ?_⟩
        | refine ⟨_, ldc_cells (by first | assumption | exact zk ‹_› (by omega) | exact zk (zk ‹_› (by omega)) (by omega)) (Nat.le_of_ble_eq_true rfl), ?_⟩
        | refine ⟨_, _, _, _, ((by exact hk_) : (_ : Option Ob) = _), rfl, at_mapA (by assumption), ?_⟩
        | refine idx_ow (by exact hk_) (by omega) (fun x hx => ?_)
        | refine ⟨_, _, _, _, ((by exact hk_) : (_ : Option Ob) = _), rfl, fill_at (by omega), ?_⟩
        | refine idx_owL (by exact hk_) (by omega) (by simp only [LIM]; omega) (fun x hx => ?_)
        | refine idx_owI (by exact hk_) (by omega) (by first | omega | (simp only [List.length_map] at *; omega)) (fun x hx => ?_)
        | refine ⟨_, ldc_pa (by exact hk_) (at_mapA (by assumption)) (Nat.le_of_ble_eq_true rfl), ?_⟩
        | refine ⟨_, rfl, rfl, _, ((by exact hk_) : (_ : Option Ob) = _), (by exact ap_), ?_⟩
        | refine ⟨_, news_ow hupd_at, newsz_ow hupd_at, _, ((by exact hk_) : (_ : Option Ob) = _), (by exact ap_), ?_⟩
        | refine ⟨_, _, _, ((by exact hk_) : (_ : Option Ob) = _), ?_⟩
        | refine ⟨_, ((by exact hk_) : (_ : Option Ob) = _), ?_⟩
        | refine ⟨(show _ ≤ _ from (by exact ap_)), ?_⟩
        | (refine ⟨fun hc => ?_, fun hc => ?_⟩ <;> (try simp (disch := omega) only [List.length_map, wrap64] at hc) <;> (try (exfalso; first | contradiction | omega)))
        | exact ⟨⟨_, rfl, rfl, c, rfl, rfl⟩, (by first | exact Nat.le_refl _ | omega), (by exact h0_)⟩
        | exact ⟨⟨_, rfl, rfl, c, rfl, (by refine congrArg one (?_ : (_ : FV) = _); (try dsimp only); first | done | exact absurd True.intro hj | ((rw [eV]; first | done | rfl)))⟩, (by first | exact Nat.le_refl _ | omega), (by exact h0_)⟩
        | exact ⟨⟨[.o (.c _)], congrArg (fun x => some [AW.o x]) (bor_ow (by exact hk_) (by first | rfl | (exact fcellss_c _))), rfl, c, rfl, (by first | rfl | (refine congrArg one (?_ : (_ : FV) = _); (try dsimp only); first | done | exact absurd True.intro hj | ((rw [eV]; first | done | rfl))))⟩, (by first | exact Nat.le_refl _ | omega), (by exact h0_)⟩
        | (refine mq_clip (F := voF) (T := ty_impl_Vote) (sz := 2) (n := (certRows c.c 0 c.b).length) (l := certRows c.c 0 c.b) (f0 := vsF (certRows c.c 0 c.b)) v_slices_Clip_VoteS (by exact hl) hko rfl ⟨_, rfl, rfl, hclL⟩ (fun r obs' h => K_slices_Clip_VoteS h) ?_)
        | fail)
  · have eV := certVotes_no hok
    repeat' ((conv => whnf); first
      | refine ⟨_, rfl, ?_⟩
      | refine ⟨rfl, ?_⟩
      | refine ⟨_, _, rfl, at_map (by assumption), ?_⟩
      | refine idx_mapX (i := 0) rfl (by assumption) ?_
      | refine idx_map (by omega) (fun x hx => ?_)
      | refine idx_mapX (wrap_dn (by omega) (by omega)) (by assumption) ?_
      | refine idx_mapE (wrap_dn (by omega) (by omega)) (by omega) (fun x hx => ?_)
      | refine idx_mapL (by omega) (by first | assumption | (simp only [LIM]; omega)) (fun x hx => ?_)
      | refine idx_mapI (by omega) (by first | omega | (simp only [List.length_map] at *; omega)) (fun x hx => ?_)
      | refine ⟨_, ldc_cells hupd_at (Nat.le_of_ble_eq_true rfl), ?_⟩
      | refine ⟨_, ldc_cells (by first | assumption | exact zk ‹_› (by omega) | exact zk (zk ‹_› (by omega)) (by omega)) (Nat.le_of_ble_eq_true rfl), ?_⟩
      | refine ⟨_, _, _, _, ((by exact hk_) : (_ : Option Ob) = _), rfl, at_mapA (by assumption), ?_⟩
      | refine idx_ow (by exact hk_) (by omega) (fun x hx => ?_)
      | refine ⟨_, _, _, _, ((by exact hk_) : (_ : Option Ob) = _), rfl, fill_at (by omega), ?_⟩
      | refine idx_owL (by exact hk_) (by omega) (by simp only [LIM]; omega) (fun x hx => ?_)
      | refine idx_owI (by exact hk_) (by omega) (by first | omega | (simp only [List.length_map] at *; omega)) (fun x hx => ?_)
      | refine ⟨_, ldc_pa (by exact hk_) (at_mapA (by assumption)) (Nat.le_of_ble_eq_true rfl), ?_⟩
      | refine ⟨_, rfl, rfl, _, ((by exact hk_) : (_ : Option Ob) = _), (by exact ap_), ?_⟩
      | refine ⟨_, news_ow hupd_at, newsz_ow hupd_at, _, ((by exact hk_) : (_ : Option Ob) = _), (by exact ap_), ?_⟩
      | refine ⟨_, _, _, ((by exact hk_) : (_ : Option Ob) = _), ?_⟩
      | refine ⟨_, ((by exact hk_) : (_ : Option Ob) = _), ?_⟩
      | refine ⟨(show _ ≤ _ from (by exact ap_)), ?_⟩
      | (refine ⟨fun hc => ?_, fun hc => ?_⟩ <;> (try simp (disch := omega) only [List.length_map, wrap64] at hc) <;> (try (exfalso; first | contradiction | omega)))
      | (refine callt (b := [agg (ceF ⟨_, _⟩)]) v_impl_CertOk rfl ⟨⟨_, _⟩, rfl, (by exact pr_)⟩ (.inl rfl) (by first | assumption | omega) (fun r hr => K_impl_CertOk (a := ⟨_, _⟩) hr) (fun hj => ?_) (fun hj => ?_) <;> (try simp only [etaPa, etaIt, etaVo] at hj) <;> (try contradiction))
      | exact ⟨⟨_, rfl, rfl, c, rfl, rfl⟩, (by first | exact Nat.le_refl _ | omega), (by exact h0_)⟩
      | exact ⟨⟨_, rfl, rfl, c, rfl, (by refine congrArg one (?_ : (_ : FV) = _); (try dsimp only); first | done | exact absurd True.intro hj | ((rw [eV]; first | done | rfl)))⟩, (by first | exact Nat.le_refl _ | omega), (by exact h0_)⟩
      | exact ⟨⟨[.o (.c _)], congrArg (fun x => some [AW.o x]) (bor_ow (by exact hk_) (by first | rfl | (exact fcellss_c _))), rfl, c, rfl, (by first | rfl | (refine congrArg one (?_ : (_ : FV) = _); (try dsimp only); first | done | exact absurd True.intro hj | ((rw [eV]; first | done | rfl))))⟩, (by first | exact Nat.le_refl _ | omega), (by exact h0_)⟩
      | fail)
end Av
end Go.Proofs.Ytlbdoamidblkaaa
/- The walks: drawn certs. -/
namespace Go.Proofs.Ytlbdoamidblkaaa
namespace Av
open Go.RowKit
end Av
end Go.Proofs.Ytlbdoamidblkaaa
