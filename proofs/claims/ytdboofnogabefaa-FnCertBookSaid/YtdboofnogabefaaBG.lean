/- The walk: the law FnCertBook. -/
import Derived.Test.YtdboofnogabefaaBD
import Derived.Test.YtdboofnogabefaaBF
import Derived.Test.YtdboofnogabefaaU3
import Derived.Test.YtdboofnogabefaaP4
set_option linter.unusedVariables false
set_option linter.unusedSimpArgs false
namespace Go.Proofs.Ytdboofnogabefaa
namespace Av
open Go.RowKit
theorem bookOf_step {c : List It} {x : It} (hc : ChainOk c) (hx : c[c.length - 1]? = some x) (h0 : 0 < c.length) (hf : ChainOk (c.take (c.length - 1))) : payT (bookOf (c.take (c.length - 1))) x.p = bookOf c := by
  unfold payT
  rw [tb_pos ⟨bookOf_ok hf, (hc.1 _ x hx).2.1⟩]
  unfold bookOf
  rw [tb_pos hc, tb_pos hf]
  show payL (paysL newB _) x.p = paysL newB c
  rw [← paysL_take newB hx, show c.length - 1 + 1 = c.length by omega, List.take_length]
theorem bookOf_len (c : List It) : (bookOf c).length ≤ LIM := by
  by_cases h : ChainOk c
  · rw [(bookOf_ok h).2.1]; decide
  · unfold bookOf; rw [tb_neg h]; exact Nat.zero_le _
theorem certFin_lenB {c : Ce} (h : FitCe c) : (certFin ⟨c.c, c.b⟩).length ≤ LIM := by
  unfold certFin
  split
  · have := h.1; simp only [List.length_take]; omega
  · exact Nat.zero_le _
attribute [local irreducible] bookOf payT certFin
attribute [local irreducible] Valid ValidM
set_option maxHeartbeats 4000000 in
set_option maxRecDepth 100000 in
theorem v_laws_FnCertBook : Valid Try.prog n_laws_FnCertBook S_laws_FnCertBook := by
  refine valid_of_swp mixed is_laws_FnCertBook (by rintro _ ⟨a, rfl, _⟩; exact Nat.le_of_ble_eq_true rfl) ?_
  rintro _ rm ⟨code, rfl, hpre⟩ hl
  try dsimp only at hpre
  have hpre0 := hpre
  have hp1 := hpre
  have cc_laws_FnCertBook : S_laws_FnCertBook.cost = 200000 := rfl
  have cc_spec_DrawCertFinal : S_spec_DrawCertFinal.cost = 60000 := rfl
  have cc_impl_CertFinal : S_impl_CertFinal.cost = 0 := rfl
  have cc_spec_CertFinal : S_spec_CertFinal.cost = 0 := rfl
  have cc_spec_CertOk : S_spec_CertOk.cost = 0 := rfl
  have cc_laws_lwSame : S_laws_lwSame.cost = 0 := rfl
  have cc_laws_lwInts : S_laws_lwInts.cost = 0 := rfl
  have cc_impl_BookOk : S_impl_BookOk.cost = 0 := rfl
  repeat' ((conv => whnf); first
    | refine ⟨_, rfl, ?_⟩
    | refine ⟨rfl, ?_⟩
    | refine ⟨_, _, rfl, at_map (by assumption), ?_⟩
    | refine idx_mapX (i := 0) rfl (by assumption) ?_
    | refine idx_map (by omega) (fun x hx => ?_)
    | refine idx_mapX (wrap_dn (by omega) (by omega)) (by assumption) ?_
    | refine idx_mapE (wrap_dn (by omega) (by omega)) (by omega) (fun x hx => ?_)
    | refine idx_mapL (by omega) (by first | assumption | (simp only [LIM]; omega)) (fun x hx => ?_)
    | refine idx_mapI (by omega) (by first | omega | (simp only [List.length_map] at *; omega)) (fun x hx => ?_)
    | refine ⟨_, ldc_cells hupd_at (Nat.le_of_ble_eq_true rfl), ?_⟩
    | refine ⟨_, ldc_cells (by first | assumption | exact zk ‹_› (by omega) | exact zk (zk ‹_› (by omega)) (by omega)) (Nat.le_of_ble_eq_true rfl), ?_⟩
    | refine ⟨_, _, hupd_at, rfl, rfl, Nat.le_of_ble_eq_true rfl, ?_⟩
    | refine ⟨_, _, rfl, rfl, rfl, Nat.le_of_ble_eq_true rfl, ?_⟩
    | (refine ⟨?_, _, (?_ : (_ : Option Ob) = _), rfl, rfl, ?_, ?_⟩; rotate_left; (exact hk_); exact Nat.le_of_ble_eq_true rfl)
    | refine ⟨_, _, _, _, ((by exact hk_) : (_ : Option Ob) = _), rfl, at_mapA (by assumption), ?_⟩
    | refine idx_ow (by exact hk_) (by omega) (fun x hx => ?_)
    | refine ⟨_, _, _, _, ((by exact hk_) : (_ : Option Ob) = _), rfl, fill_at (by omega), ?_⟩
    | refine ⟨_, _, _, _, ((by exact hk_) : (_ : Option Ob) = _), fill_at (by omega), rfl, rfl, Nat.le_of_ble_eq_true rfl, ?_⟩
    | refine idx_owL (by exact hk_) (by omega) (by simp only [LIM]; omega) (fun x hx => ?_)
    | refine idx_owI (by exact hk_) (by omega) (by first | omega | (simp only [List.length_map] at *; omega)) (fun x hx => ?_)
    | refine ⟨_, _, _, _, ((by exact hk_) : (_ : Option Ob) = _), at_mapA (by assumption), rfl, rfl, Nat.le_of_ble_eq_true rfl, ?_⟩
    | refine ⟨_, ldc_pa (by exact hk_) (at_mapA (by assumption)) (Nat.le_of_ble_eq_true rfl), ?_⟩
    | refine ⟨_, _, _, ((by exact hk_) : (_ : Option Ob) = _), ?_⟩
    | refine ⟨_, ((by exact hk_) : (_ : Option Ob) = _), ?_⟩
    | (refine ⟨fun hc => ?_, fun hc => ?_⟩ <;> (try simp (disch := omega) only [List.length_map, wrap64] at hc))
    | (refine callk (b := [one (byF _)]) v_spec_DrawCertFinal rfl ⟨_, rfl, (by exact pr_)⟩ (.inl rfl) (by omega) (fun r hr => ?_); have hj := K_spec_DrawCertFinal (a := _) hr; clear hr; obtain ⟨c, rfl, hdc⟩ := hj)
    | exact ⟨⟨_, rfl, rfl, code, rfl, (by unfold R_laws_FnCertBook; dsimp only; first | done | exact absurd True.intro hj | (rfl))⟩, (by first | exact Nat.le_refl _ | omega), (by exact h0_)⟩
    | fail)
  have hfc := hdc.fit
  have hc1 := hfc.1
  have hL := hc1
  simp only [LIM] at hL
  have hfl2 := certFin_lenB hfc
  by_cases hok : CertOk c
  · have h3 := hok.2.1
    have hcf : certFin c = c.c.take (c.c.length - 1) := by unfold certFin; rw [tb_pos hok]; rfl
    have hch := chainOk_pre hok.1 (c.c.length - 1)
    obtain ⟨d, hd⟩ : ∃ d, c.c[c.c.length - 1]? = some d := ⟨_, List.getElem?_eq_getElem (by omega)⟩
    have hw : IntKind.i64.wrap (((c.c.map itF).length : Int) - 1) = ((c.c.length - 1 : Nat) : Int) := by rw [List.length_map, wrap64] <;> omega
    have hstep := bookOf_step hok.1 hd (by omega) hch
    rw [← hcf] at hch hstep
    have hB := bookOf_ok hch
    have hBl := hB.2.1
    have hBc := bookOf_len c.c
    have hfl : (certFin c).length ≤ LIM := by rw [hcf, List.length_take]; simp only [LIM]; omega
    generalize hbb : bookOf (certFin c) = B at *
    have hBL : B.length ≤ LIM := by rw [hBl]; decide
    repeat' ((conv => whnf); first
      | (refine OQ.mk1 (ar := [one (chF (certFin c))]) (by rfl) ⟨_, rfl, hfl⟩ vO_impl_BookOf ((so_impl_BookOf _).trans (by rw [hbb])) ?_)
      | refine ⟨rfl, c.c.length - 1, _, hw, at_map hd, ?_⟩
      | (refine callt (b := [one (nsF B)]) v_impl_BookOk (congrArg (fun z => [AV.w (.o z)]) (bor_ow hk_ (fcellss_f inF _))) ⟨_, rfl, hBL⟩ (.inr ⟨rfl, rfl⟩) (by omega) (fun r hr => K_impl_BookOk hr) (fun hj => ?_) (fun hj => absurd hB hj))
      | (refine OQ.mk1 (ar := [one (nsF B), agg (paF d.p)]) (congrArg (fun z => [AV.w (.o z), agg (paF d.p)]) (bor_ow hk_ (fcellss_f inF _))) ⟨(B, d.p), rfl, hBL⟩ vO_impl_BookPay ((so_impl_BookPay _ _).trans (by rw [hstep])) ?_)
      | (refine OQ.mk1 (ar := [one (chF c.c)]) (by rfl) ⟨_, rfl, hc1⟩ vO_impl_BookOf (so_impl_BookOf _) ?_)
      | (refine callt (b := [one (nsF (bookOf c.c)), one (nsF (bookOf c.c))]) v_laws_lwInts (l2 (congrArg (fun z => AV.w (.o z)) (bor_ow hk_ (fcellss_f inF _))) (congrArg (fun z => AV.w (.o z)) (bor_ow hk_ (fcellss_f inF _)))) ⟨(_, _), rfl, hBc, hBc⟩ (.inr ⟨rfl, rfl⟩) (by omega) (fun r hr => K_laws_lwInts (a := (bookOf c.c, bookOf c.c)) hr) (fun hj => ?_) (fun hj => absurd rfl hj))
      | refine ⟨_, rfl, ?_⟩
      | refine ⟨rfl, ?_⟩
      | refine ⟨_, _, rfl, at_map (by assumption), ?_⟩
      | refine idx_mapX (i := 0) rfl (by assumption) ?_
      | refine idx_map (by omega) (fun x hx => ?_)
      | refine idx_mapX (wrap_dn (by omega) (by omega)) (by assumption) ?_
      | refine idx_mapE (wrap_dn (by omega) (by omega)) (by omega) (fun x hx => ?_)
      | refine idx_mapL (by omega) (by first | assumption | (simp only [LIM]; omega)) (fun x hx => ?_)
      | refine idx_mapI (by omega) (by first | omega | (simp only [List.length_map] at *; omega)) (fun x hx => ?_)
      | refine ⟨_, ldc_cells hupd_at (Nat.le_of_ble_eq_true rfl), ?_⟩
      | refine ⟨_, ldc_cells (by first | assumption | exact zk ‹_› (by omega) | exact zk (zk ‹_› (by omega)) (by omega)) (Nat.le_of_ble_eq_true rfl), ?_⟩
      | refine ⟨_, _, hupd_at, rfl, rfl, Nat.le_of_ble_eq_true rfl, ?_⟩
      | refine ⟨_, _, rfl, rfl, rfl, Nat.le_of_ble_eq_true rfl, ?_⟩
      | (refine ⟨?_, _, (?_ : (_ : Option Ob) = _), rfl, rfl, ?_, ?_⟩; rotate_left; (exact hk_); exact Nat.le_of_ble_eq_true rfl)
      | refine ⟨_, _, _, _, ((by exact hk_) : (_ : Option Ob) = _), rfl, at_mapA (by assumption), ?_⟩
      | refine idx_ow (by exact hk_) (by omega) (fun x hx => ?_)
      | refine ⟨_, _, _, _, ((by exact hk_) : (_ : Option Ob) = _), rfl, fill_at (by omega), ?_⟩
      | refine ⟨_, _, _, _, ((by exact hk_) : (_ : Option Ob) = _), fill_at (by omega), rfl, rfl, Nat.le_of_ble_eq_true rfl, ?_⟩
      | refine idx_owL (by exact hk_) (by omega) (by simp only [LIM]; omega) (fun x hx => ?_)
      | refine idx_owI (by exact hk_) (by omega) (by first | omega | (simp only [List.length_map] at *; omega)) (fun x hx => ?_)
      | refine ⟨_, _, _, _, ((by exact hk_) : (_ : Option Ob) = _), at_mapA (by assumption), rfl, rfl, Nat.le_of_ble_eq_true rfl, ?_⟩
      | refine ⟨_, ldc_pa (by exact hk_) (at_mapA (by assumption)) (Nat.le_of_ble_eq_true rfl), ?_⟩
      | refine ⟨_, _, _, ((by exact hk_) : (_ : Option Ob) = _), ?_⟩
      | refine ⟨_, ((by exact hk_) : (_ : Option Ob) = _), ?_⟩
      | (refine ⟨fun hc => ?_, fun hc => ?_⟩ <;> (try simp (disch := omega) only [List.length_map, wrap64] at hc) <;> (try (exfalso; first | contradiction | omega)))
      | (refine calle (b := [agg (ceF ⟨_, _⟩)]) v_impl_CertFinal rfl ⟨⟨_, _⟩, rfl, (by exact pr_)⟩ (.inl rfl) (by first | assumption | omega) (fun r hr => K_impl_CertFinal (a := ⟨_, _⟩) hr) ?_)
      | (refine calle (b := [agg (ceF ⟨_, _⟩)]) v_spec_CertFinal rfl ⟨⟨_, _⟩, rfl, (by exact pr_)⟩ (.inl rfl) (by first | assumption | omega) (fun r hr => K_spec_CertFinal (a := ⟨_, _⟩) hr) ?_)
      | (refine callt (b := [one (chF _), one (chF _)]) v_laws_lwSame rfl ⟨(_, _), rfl, (by refine ⟨?_, ?_⟩ <;> (exact pr_))⟩ (.inl rfl) (by first | assumption | omega) (fun r hr => K_laws_lwSame (a := (_, _)) hr) (fun hj => ?_) (fun hj => ?_) <;> (try simp only [etaPa, etaIt, etaVo] at hj) <;> (try contradiction))
      | (refine callt (b := [agg (ceF ⟨_, _⟩)]) v_spec_CertOk rfl ⟨⟨_, _⟩, rfl, (by exact pr_)⟩ (.inl rfl) (by first | assumption | omega) (fun r hr => K_spec_CertOk (a := ⟨_, _⟩) hr) (fun hj => ?_) (fun hj => ?_) <;> (try simp only [etaPa, etaIt, etaVo] at hj) <;> (try contradiction))
      | (refine callt (b := [one (nsF _), one (nsF _)]) v_laws_lwInts rfl ⟨(_, _), rfl, (by refine ⟨?_, ?_⟩ <;> (exact pr_))⟩ (.inl rfl) (by first | assumption | omega) (fun r hr => K_laws_lwInts (a := (_, _)) hr) (fun hj => ?_) (fun hj => ?_) <;> (try simp only [etaPa, etaIt, etaVo] at hj) <;> (try contradiction))
      | fail)
    all_goals (try exact ⟨⟨_, rfl, rfl, code, rfl, rfl⟩, (by omega), h0_⟩)
  · skip
    repeat' ((conv => whnf); first
      | refine ⟨_, rfl, ?_⟩
      | refine ⟨rfl, ?_⟩
      | refine ⟨_, _, rfl, at_map (by assumption), ?_⟩
      | refine idx_mapX (i := 0) rfl (by assumption) ?_
      | refine idx_map (by omega) (fun x hx => ?_)
      | refine idx_mapX (wrap_dn (by omega) (by omega)) (by assumption) ?_
      | refine idx_mapE (wrap_dn (by omega) (by omega)) (by omega) (fun x hx => ?_)
      | refine idx_mapL (by omega) (by first | assumption | (simp only [LIM]; omega)) (fun x hx => ?_)
      | refine idx_mapI (by omega) (by first | omega | (simp only [List.length_map] at *; omega)) (fun x hx => ?_)
      | refine ⟨_, ldc_cells hupd_at (Nat.le_of_ble_eq_true rfl), ?_⟩
      | refine ⟨_, ldc_cells (by first | assumption | exact zk ‹_› (by omega) | exact zk (zk ‹_› (by omega)) (by omega)) (Nat.le_of_ble_eq_true rfl), ?_⟩
      | refine ⟨_, _, hupd_at, rfl, rfl, Nat.le_of_ble_eq_true rfl, ?_⟩
      | refine ⟨_, _, rfl, rfl, rfl, Nat.le_of_ble_eq_true rfl, ?_⟩
      | (refine ⟨?_, _, (?_ : (_ : Option Ob) = _), rfl, rfl, ?_, ?_⟩; rotate_left; (exact hk_); exact Nat.le_of_ble_eq_true rfl)
      | refine ⟨_, _, _, _, ((by exact hk_) : (_ : Option Ob) = _), rfl, at_mapA (by assumption), ?_⟩
      | refine idx_ow (by exact hk_) (by omega) (fun x hx => ?_)
      | refine ⟨_, _, _, _, ((by exact hk_) : (_ : Option Ob) = _), rfl, fill_at (by omega), ?_⟩
      | refine ⟨_, _, _, _, ((by exact hk_) : (_ : Option Ob) = _), fill_at (by omega), rfl, rfl, Nat.le_of_ble_eq_true rfl, ?_⟩
      | refine idx_owL (by exact hk_) (by omega) (by simp only [LIM]; omega) (fun x hx => ?_)
      | refine idx_owI (by exact hk_) (by omega) (by first | omega | (simp only [List.length_map] at *; omega)) (fun x hx => ?_)
      | refine ⟨_, _, _, _, ((by exact hk_) : (_ : Option Ob) = _), at_mapA (by assumption), rfl, rfl, Nat.le_of_ble_eq_true rfl, ?_⟩
      | refine ⟨_, ldc_pa (by exact hk_) (at_mapA (by assumption)) (Nat.le_of_ble_eq_true rfl), ?_⟩
      | refine ⟨_, _, _, ((by exact hk_) : (_ : Option Ob) = _), ?_⟩
      | refine ⟨_, ((by exact hk_) : (_ : Option Ob) = _), ?_⟩
      | (refine ⟨fun hc => ?_, fun hc => ?_⟩ <;> (try simp (disch := omega) only [List.length_map, wrap64] at hc) <;> (try (exfalso; first | contradiction | omega)))
      | (refine calle (b := [agg (ceF ⟨_, _⟩)]) v_impl_CertFinal rfl ⟨⟨_, _⟩, rfl, (by exact pr_)⟩ (.inl rfl) (by first | assumption | omega) (fun r hr => K_impl_CertFinal (a := ⟨_, _⟩) hr) ?_)
      | (refine calle (b := [agg (ceF ⟨_, _⟩)]) v_spec_CertFinal rfl ⟨⟨_, _⟩, rfl, (by exact pr_)⟩ (.inl rfl) (by first | assumption | omega) (fun r hr => K_spec_CertFinal (a := ⟨_, _⟩) hr) ?_)
      | (refine callt (b := [one (chF _), one (chF _)]) v_laws_lwSame rfl ⟨(_, _), rfl, (by refine ⟨?_, ?_⟩ <;> (exact pr_))⟩ (.inl rfl) (by first | assumption | omega) (fun r hr => K_laws_lwSame (a := (_, _)) hr) (fun hj => ?_) (fun hj => ?_) <;> (try simp only [etaPa, etaIt, etaVo] at hj) <;> (try contradiction))
      | (refine callt (b := [agg (ceF ⟨_, _⟩)]) v_spec_CertOk rfl ⟨⟨_, _⟩, rfl, (by exact pr_)⟩ (.inl rfl) (by first | assumption | omega) (fun r hr => K_spec_CertOk (a := ⟨_, _⟩) hr) (fun hj => ?_) (fun hj => ?_) <;> (try simp only [etaPa, etaIt, etaVo] at hj) <;> (try contradiction))
      | exact ⟨⟨_, rfl, rfl, code, rfl, (by unfold R_laws_FnCertBook; dsimp only; first | done | exact absurd True.intro hj | (first | rfl | (exfalso; first | contradiction | omega | grind)))⟩, (by first | exact Nat.le_refl _ | omega), (by exact h0_)⟩
      | fail)
end Av
end Go.Proofs.Ytdboofnogabefaa
