/- The walks: the law FnCertEpochs. -/
import Derived.Test.YtmboljfckljjhaaU3
import Derived.Test.YtmboljfckljjhaaCI
import Derived.Test.YtmboljfckljjhaaCL
set_option linter.unusedVariables false
set_option linter.unusedSimpArgs false
namespace Go.Proofs.Ytmboljfckljjhaa
namespace Av
open Go.RowKit

theorem nxt_late {b d : Int} (h1 : Nxt b d) (h2 : 1 ≤ d) (h3 : d ≤ 30) : ¬ Nxt b (d + 1) := fun h => by
  unfold Nxt at h1 h; omega
theorem late_bad {c : Ce} {d : It} (hok : CertOk c) (hd : c.c[c.c.length - 1]? = some d) (h1 : 1 ≤ d.e) (h2 : d.e ≤ 30) : ¬ CertOk ⟨lateC c.c d, c.b⟩ := by
  intro h
  have h3 := hok.2.1
  obtain ⟨x, y, z, a1, a2, a3, a4, a5⟩ := hok.2.2.1
  obtain ⟨x', y', z', b1, b2, b3, b4, b5⟩ := h.2.2.1
  have hl : (lateC c.c d).length = c.c.length := by simp [lateC]
  dsimp only at b1 b2 b3
  rw [hl] at b1 b2 b3
  rw [show c.c.length - 3 + 1 = c.c.length - 2 by omega] at a2 b2
  rw [show c.c.length - 3 + 2 = c.c.length - 1 by omega] at a3 b3
  rw [hd] at a3; cases a3
  unfold lateC at b2 b3
  rw [List.getElem?_set_ne (by omega), a2] at b2
  cases b2
  rw [List.getElem?_set_self (by omega)] at b3
  cases b3
  exact nxt_late a5 h1 h2 b5
theorem skip_bad {c : Ce} {d : It} (hok : CertOk c) (hd : c.c[c.c.length - 1]? = some d) (h1 : 1 ≤ d.e) (h2 : d.e ≤ 30) : ¬ CertOk ⟨skipC c.c d, c.b⟩ := by
  intro h
  have h3 := hok.2.1
  obtain ⟨x, y, z, a1, a2, a3, a4, a5⟩ := hok.2.2.1
  obtain ⟨x', y', z', b1, b2, b3, b4, b5⟩ := h.2.2.1
  have hl : (skipC c.c d).length = c.c.length - 1 := by simp [skipC]; omega
  have h4 : 3 ≤ (skipC c.c d).length := h.2.1
  dsimp only at b1 b2 b3
  rw [hl] at b1 b2 b3 h4
  rw [show c.c.length - 3 + 1 = c.c.length - 2 by omega] at a2
  rw [show c.c.length - 3 + 2 = c.c.length - 1 by omega] at a3
  rw [show c.c.length - 1 - 3 + 1 = c.c.length - 3 by omega] at b2
  rw [show c.c.length - 1 - 3 + 2 = c.c.length - 2 by omega] at b3
  rw [hd] at a3; cases a3
  unfold skipC at b2 b3
  rw [List.getElem?_append_left (by simp; omega), List.getElem?_take_of_lt (by omega), a1] at b2
  cases b2
  rw [List.getElem?_append_right (by simp), List.length_take, Nat.min_eq_left (by omega), Nat.sub_self] at b3
  cases b3
  unfold Nxt at a4 a5 b5
  rw [a4] at b5
  rw [wrap64 (n := y.e + 1)] at a5 <;> omega
theorem noBy_bad (c : List It) : ¬ CertOk ⟨c, []⟩ := fun h => by have := h.2.2.2.1; simp at this
theorem certFin_len' {c : Ce} (h : FitCe c) : (certFin c).length ≤ LIM := by
  unfold certFin
  split
  · have := h.1; simp only [List.length_take]; omega
  · exact Nat.zero_le _
attribute [local irreducible] certFin lateC skipC
attribute [local irreducible] Valid ValidM
set_option maxHeartbeats 4000000 in
set_option maxRecDepth 100000 in
theorem v_laws_FnCertEpochs : Valid Try.prog n_laws_FnCertEpochs S_laws_FnCertEpochs := by
  refine valid_of_swp mixed is_laws_FnCertEpochs (by rintro _ ⟨a, rfl, _⟩; exact Nat.le_of_ble_eq_true rfl) ?_
  rintro _ rm ⟨code, rfl, hpre⟩ hl
  try dsimp only at hpre
  have hpre0 := hpre
  have hp1 := hpre
  have cc_laws_FnCertEpochs : S_laws_FnCertEpochs.cost = 200000 := rfl
  have cc_spec_DrawCertOk : S_spec_DrawCertOk.cost = 60000 := rfl
  have cc_impl_CertOk : S_impl_CertOk.cost = 0 := rfl
  have cc_spec_CertOk : S_spec_CertOk.cost = 0 := rfl
  have cc_impl_CertFinal : S_impl_CertFinal.cost = 0 := rfl
  repeat' ((conv => whnf); first
    | refine ⟨_, rfl, ?_⟩
    | refine ⟨rfl, ?_⟩
    | refine ⟨_, _, hupd_at, rfl, rfl, Nat.le_of_ble_eq_true rfl, ?_⟩
    | (refine ⟨fun hc => ?_, fun hc => ?_⟩ <;> (try simp (disch := omega) only [List.length_map, wrap64] at hc))
    | (refine callk (b := [one (byF _)]) v_spec_DrawCertOk rfl ⟨_, rfl, (by exact pr_)⟩ (.inl rfl) (by omega) (fun r hr => ?_); have hj := K_spec_DrawCertOk (a := _) hr; clear hr; obtain ⟨c, rfl, hdc⟩ := hj)
    | exact ⟨⟨_, rfl, rfl, code, rfl, (by unfold R_laws_FnCertEpochs; dsimp only; first | done | exact absurd True.intro hj | (rfl))⟩, (by first | exact Nat.le_refl _ | omega), (by exact h0_)⟩
    | fail)
  have hfc := hdc.fit
  have hc1 := hfc.1
  have hL := hc1
  simp only [LIM] at hL
  by_cases hok : CertOk c
  · have h3 := hok.2.1
    obtain ⟨d, hd⟩ : ∃ d, c.c[c.c.length - 1]? = some d := ⟨_, List.getElem?_eq_getElem (by omega)⟩
    have hdi := hok.1.1 _ _ hd
    have hd1 : 1 ≤ d.e := hdi.1.1
    have hd2 : d.e ≤ 30 := hdi.1.2
    have hw : IntKind.i64.wrap (((c.c.map itF).length : Int) - 1) = ((c.c.length - 1 : Nat) : Int) := by rw [List.length_map, wrap64] <;> omega
    have hw2 : IntKind.i64.wrap (((c.c.map itF).length : Int) - 2) = ((c.c.length - 2 : Nat) : Int) := by rw [List.length_map, wrap64] <;> omega
    have hwe : IntKind.i64.wrap (d.e + 1) = d.e + 1 := by rw [wrap64] <;> omega
    have hat : ([] ++ (c.c.map itF).map fun x : List FV => x.map AC.c)[c.c.length - 1]? = some ((itF d).map AC.c) := by simp [hd]
    have hz : fcellss (([] ++ (c.c.map itF).map fun x : List FV => x.map AC.c).set (c.c.length - 1) (put ((itF d).map AC.c) 0 [cI (IntKind.i64.wrap (d.e + 1))])) = some ((lateC c.c d).map itF) := by
      have e : ([] ++ (c.c.map itF).map fun x : List FV => x.map AC.c).set (c.c.length - 1) (put ((itF d).map AC.c) 0 [cI (IntKind.i64.wrap (d.e + 1))]) = arA itF (lateC c.c d) := by
        rw [List.nil_append, List.map_map, hwe]
        unfold lateC arA
        rw [List.map_set]
        rfl
      rw [e]; exact fcellss_f itF _
    have hz2 : fcellss (([] ++ ((c.c.take (c.c.length - 2)).map itF).map fun x : List FV => x.map AC.c) ++ [(itF d).map AC.c]) = some ((skipC c.c d).map itF) := by
      have e : (([] ++ ((c.c.take (c.c.length - 2)).map itF).map fun x : List FV => x.map AC.c) ++ [(itF d).map AC.c]) = arA itF (skipC c.c d) := by
        rw [List.nil_append, List.map_map]
        unfold skipC arA
        rw [List.map_append]
        rfl
      rw [e]; exact fcellss_f itF _
    have hlate := late_bad hok hd hd1 hd2
    have hskip := skip_bad hok hd hd1 hd2
    have hno := noBy_bad c.c
    have hfl : FitCe ⟨lateC c.c d, c.b⟩ := ⟨by unfold lateC; dsimp only; rw [List.length_set]; exact hc1, hfc.2⟩
    have hfs : FitCe ⟨skipC c.c d, c.b⟩ := ⟨by unfold skipC; dsimp only; rw [List.length_append, List.length_take]; simp only [List.length_cons, List.length_nil, LIM]; omega, hfc.2⟩
    have hfn : FitCe ⟨c.c, []⟩ := ⟨hc1, Nat.zero_le _, fun x hx => by cases hx⟩
    have hcf0 : (arA itF (certFin ⟨lateC c.c d, c.b⟩)).length = 0 := by rw [certFin_no hlate]; rfl
    repeat' ((conv => whnf); first
      | (refine ⟨_, _, c.c.length - 1, _, hk_, hw, hat, ?_⟩)
      | (refine ⟨_, _, _, _, hk_, hat, rfl, rfl, Nat.le_of_ble_eq_true rfl, ?_⟩)
      | (refine ⟨rfl, c.c.length - 1, _, hw, at_map hd, ?_⟩)
      | (refine ⟨_, slc_to (congrArg I hw2) (by simp only [List.length_map]; omega), ?_⟩; rw [map_take'])
      | (refine callt (b := [agg (ceF ⟨lateC c.c d, c.b⟩)]) v_impl_CertOk (congrArg (fun z => [AV.w (.g [z, .c (nssF c.b)])]) (bor_ow hk_ hz)) ⟨_, rfl, hfl⟩ (.inr ⟨rfl, rfl⟩) (by omega) (fun r hr => K_impl_CertOk (a := ⟨lateC c.c d, c.b⟩) hr) (fun hj => absurd hj hlate) (fun hj => ?_))
      | (refine callt (b := [agg (ceF ⟨skipC c.c d, c.b⟩)]) v_impl_CertOk (congrArg (fun z => [AV.w (.g [z, .c (nssF c.b)])]) (bor_ow hk_ hz2)) ⟨_, rfl, hfs⟩ (.inr ⟨rfl, rfl⟩) (by omega) (fun r hr => K_impl_CertOk (a := ⟨skipC c.c d, c.b⟩) hr) (fun hj => absurd hj hskip) (fun hj => ?_))
      | (refine callt (b := [agg (ceF ⟨c.c, []⟩)]) v_impl_CertOk rfl ⟨_, rfl, hfn⟩ (.inr ⟨rfl, rfl⟩) (by omega) (fun r hr => K_impl_CertOk (a := ⟨c.c, []⟩) hr) (fun hj => absurd hj hno) (fun hj => ?_))
      | (refine OQ.mk1 (ar := [agg (ceF ⟨lateC c.c d, c.b⟩)]) (congrArg (fun z => [AV.w (.g [z, .c (nssF c.b)])]) (bor_ow hk_ hz)) ⟨_, rfl, hfl⟩ vO_impl_CertFinal (so_impl_CertFinal _) ?_)
      | refine ⟨_, rfl, ?_⟩
      | refine ⟨rfl, ?_⟩
      | refine ⟨_, _, hupd_at, rfl, rfl, Nat.le_of_ble_eq_true rfl, ?_⟩
      | refine ⟨_, _, _, ((by exact hk_) : (_ : Option Ob) = _), ?_⟩
      | refine ⟨(show _ ≤ _ from (by exact ap_)), ?_⟩
      | (refine ⟨fun hc => ?_, fun hc => ?_⟩ <;> (try simp (disch := omega) only [List.length_map, wrap64] at hc) <;> (try (exfalso; first | contradiction | omega)))
      | (refine callt (b := [agg (ceF ⟨_, _⟩)]) v_impl_CertOk rfl ⟨⟨_, _⟩, rfl, (by exact pr_)⟩ (.inl rfl) (by first | assumption | omega) (fun r hr => K_impl_CertOk (a := ⟨_, _⟩) hr) (fun hj => ?_) (fun hj => ?_) <;> (try simp only [etaPa, etaIt, etaVo] at hj) <;> (try contradiction))
      | (refine callt (b := [agg (ceF ⟨_, _⟩)]) v_spec_CertOk rfl ⟨⟨_, _⟩, rfl, (by exact pr_)⟩ (.inl rfl) (by first | assumption | omega) (fun r hr => K_spec_CertOk (a := ⟨_, _⟩) hr) (fun hj => ?_) (fun hj => ?_) <;> (try simp only [etaPa, etaIt, etaVo] at hj) <;> (try contradiction))
      | exact ⟨⟨_, rfl, rfl, code, rfl, (by unfold R_laws_FnCertEpochs; dsimp only; first | done | exact absurd True.intro hj | (first | rfl | (exfalso; first | contradiction | omega | grind)))⟩, (by first | exact Nat.le_refl _ | omega), (by exact h0_)⟩
      | fail)
  · skip
    repeat' ((conv => whnf); first
      | refine ⟨_, rfl, ?_⟩
      | (refine callt (b := [agg (ceF ⟨_, _⟩)]) v_impl_CertOk rfl ⟨⟨_, _⟩, rfl, (by exact pr_)⟩ (.inl rfl) (by first | assumption | omega) (fun r hr => K_impl_CertOk (a := ⟨_, _⟩) hr) (fun hj => ?_) (fun hj => ?_) <;> (try simp only [etaPa, etaIt, etaVo] at hj) <;> (try contradiction))
      | (refine callt (b := [agg (ceF ⟨_, _⟩)]) v_spec_CertOk rfl ⟨⟨_, _⟩, rfl, (by exact pr_)⟩ (.inl rfl) (by first | assumption | omega) (fun r hr => K_spec_CertOk (a := ⟨_, _⟩) hr) (fun hj => ?_) (fun hj => ?_) <;> (try simp only [etaPa, etaIt, etaVo] at hj) <;> (try contradiction))
      | exact ⟨⟨_, rfl, rfl, code, rfl, (by unfold R_laws_FnCertEpochs; dsimp only; first | done | exact absurd True.intro hj | (first | rfl | (exfalso; first | contradiction | omega | grind)))⟩, (by first | exact Nat.le_refl _ | omega), (by exact h0_)⟩
      | fail)
end Av
end Go.Proofs.Ytmboljfckljjhaa
