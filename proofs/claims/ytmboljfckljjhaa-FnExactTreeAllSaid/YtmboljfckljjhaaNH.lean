/- The walks: chains of chains of one's own; all, tip. -/
import Derived.Test.YtmboljfckljjhaaNG
import Derived.Test.YtmboljfckljjhaaG4
set_option linter.unusedVariables false
set_option linter.unusedSimpArgs false
namespace Go.Proofs.Ytmboljfckljjhaa
namespace Av
open Go.RowKit

theorem arA_len {α : Type} {F : α → List FV} (l : List α) : (arA F l).length = l.length := by simp [arA]
set_option maxHeartbeats 4000000 in
set_option maxRecDepth 100000 in
theorem v_slices_Clip_ISS_o : ValidM Try.prog n_slices_Clip_ISS_o S_slices_Clip_ISS_o := by
  refine validM_of_swp mixed is_slices_Clip_ISS_o (by rintro _ _ ⟨a, rfl, _⟩; exact Nat.le_of_ble_eq_true rfl) ?_
  rintro _ _ rm ⟨l, rfl, rfl, -⟩ hl
  have hE1 : ∀ j v, l[j]? = some v → (nC.In l)[j + 1]? = some (nC.ob1 v) := fun j v h => Nest.In_at h
  have hlen : (nC.In l).length = l.length + 1 := Nest.In_len
  have hkl : (nC.K (· + 1) l).length = l.length := Nest.K_len
  conv => whnf
  refine ⟨_, _, _, rfl, ?_⟩
  conv => whnf
  refine ⟨_, _, _, rfl, ?_⟩
  conv => whnf
  refine .inl ⟨0, _, nC.K (· + 1) l, rfl, rfl, rfl, rfl, ?_⟩
  conv => whnf
  refine finM_nclip (l := l) hlen (Nat.le_refl _) ?_ hupd_at (by omega) (fun j v hj => ?_) ⟨⟨_, rfl, .inl rfl⟩, trivial⟩ ⟨l, rfl, rfl, rfl, rfl⟩
  · rw [hupd_ne (by omega)]; exact hupd_at
  · have hj' := (List.getElem?_eq_some_iff.1 hj).1
    rw [hupd_ne (by omega), hupd_ne (by omega)]; exact hE1 j v hj
set_option maxHeartbeats 4000000 in
set_option maxRecDepth 100000 in
theorem v_impl_votes_all_o : ValidM Try.prog n_impl_votes_all_o S_impl_votes_all_o := by
  refine validM_of_swp mixed is_impl_votes_all_o (by rintro _ _ ⟨a, rfl, _⟩; exact Nat.le_of_ble_eq_true rfl) ?_
  rintro _ _ rm ⟨l, rfl, rfl, hfit, hsm⟩ hl
  change swp _ _ _ _ _ 0 _
  have hsm' := hsm
  simp only [SM] at hsm'
  conv => whnf
  refine ⟨fun fr H nx rm' => ∃ (i k : Nat) (f : Nat → Nat) (out : List (List It)), Has fr [(0, one (vsF l)), (3, .w (.o (.ow k))), (9, one (vsF l)), (10, I l.length), (11, I i)] ∧ i ≤ l.length ∧ allFrom l (l.drop i) out = allS l ∧
      nC.At H nx k f out ∧ out.length ≤ i + 1 ∧ (∀ c, c ∈ out → c.length ≤ LIM) ∧ rm' = rm,
    fun fr _ _ _ => l.length - ix (fr 11), ⟨0, _, fun _ => _, [[]], ⟨rfl, rfl, rfl, by show I _ = I _; simp, rfl, trivial⟩, Nat.zero_le _, rfl, ⟨hupd_at, fun j v hj => ?_, fun j hj => ?_, fun j j' hj hj' _ => ?_, ?_, fun j hj => ?_⟩, by decide, by simp, rfl⟩, ?_⟩
  · cases j with
    | zero => cases hj; exact (hupd_ne (by omega)).trans hupd_at
    | succ j => simp at hj
  · omega
  · simp only [List.length_cons, List.length_nil] at hj hj'; omega
  · omega
  · omega
  rintro fr H nx rm' ⟨i, k, f, out, hfr, hi, hq, hA, hol, hoc, rfl⟩
  rw [hfr.eq]
  have hkn := hA.lt
  conv => whnf
  refine ⟨rfl, ?_⟩
  conv => whnf
  refine ⟨fun h2 => ?_, fun h2 => ?_⟩
  · have h2 : i < l.length := by simpa using h2
    obtain ⟨v, hv⟩ : ∃ v, l[i]? = some v := ⟨_, List.getElem?_eq_getElem h2⟩
    have hvm : v ∈ l := List.mem_of_getElem? hv
    have hvc : v.c.length ≤ LIM := hfit.2 v hvm
    have hdrop : l.drop i = v :: l.drop (i + 1) := by
      obtain ⟨hlt', rfl⟩ := List.getElem?_eq_some_iff.1 hv
      exact List.drop_eq_getElem_cons hlt'
    rw [hdrop] at hq
    conv => whnf
    refine ⟨rfl, i, _, rfl, at_map hv, ?_⟩
    conv => whnf
    refine ⟨_, rfl, ?_⟩
    conv => whnf
    refine ⟨_, _, hupd_at, rfl, rfl, Nat.le_of_ble_eq_true rfl, ?_⟩
    conv => whnf
    refine callq (b := [one (csF out), fnAll v]) ?_ ⟨(out, v), rfl, ⟨by dsimp only; simp only [LIM]; omega, hoc⟩, hvc⟩ v_slices_ContainsFunc_ISS (.inr ⟨rfl, rfl⟩) hl fun r hr => ?_
    · exact l2 (congrArg (fun x => AV.w (.o x)) (Nest.At.bor (N := nC) (b := nx) (f := f) (l := out) (hA.mono (Nat.le_refl _) fun j hj => by rw [hupd_ne (by omega), hupd_ne (by omega)]))) (congrArg (fun x => AV.fn (.func n_impl_votes_all_1) [] [.o x]) (bor_cells hupd_at (fcells_c (voF v))))
    rcases J_ContainsFunc_ISS (l := out) (v := v) hr with ⟨h3, rfl⟩ | ⟨h3, rfl⟩
    · conv => whnf
      refine ⟨rfl, ?_⟩
      conv => whnf
      refine ⟨⟨i + 1, k, f, out, ⟨rfl, rfl, rfl, rfl, congrArg I (wrap_up h2 hfit.1), trivial⟩, h2, ?_, hA.mono (by omega) fun j hj => by rw [hupd_ne (by omega), hupd_ne (by omega)], by omega, hoc, rfl⟩, ?_⟩
      · rw [← hq, all_no fun h => h.1 h3]
      · show l.length - ix (I _) < l.length - ix (I _)
        simp only [wrap_up h2 hfit.1, ix, Int.toNat_natCast]
        omega
    · conv => whnf
      refine ⟨_, ldc_cells hupd_at (Nat.le_of_ble_eq_true rfl), ?_⟩
      conv => whnf
      refine ⟨⟨(l, v.c), rfl, hfit, hvc⟩, v_impl_votes_sure, .inl rfl, hl, fun r hr => ?_⟩
      rcases J_sure (l := l) (c := v.c) hr with ⟨h4, rfl⟩ | ⟨h4, rfl⟩
      · conv => whnf
        refine ⟨_, ldc_cells hupd_at (Nat.le_of_ble_eq_true rfl), ?_⟩
        conv => whnf
        refine OQ.mk1 (ar := [one (chF v.c)]) rfl ⟨v.c, rfl, hvc⟩ vO_impl_copied (so_impl_copied v.c) ?_
        conv => whnf
        refine ⟨_, news_ow hupd_at, newsz_ow hupd_at, nC.K f out, ?_, ?_, ?_⟩
        · exact zk (zk (zk (zk hA.out (by omega)) (by omega)) (by omega)) (by omega)
        · rw [Nest.K_len]
          simp only [List.length_cons, List.length_nil]
          omega
        · conv => whnf
          refine ⟨rfl, ?_⟩
          conv => whnf
          refine ⟨⟨i + 1, _, updF f out.length _, out ++ [v.c], ⟨rfl, rfl, rfl, rfl, congrArg I (wrap_up h2 hfit.1), trivial⟩, h2, ?_, Nest.At.snoc (N := nC) (b := nx) (x := v.c) (hA.mono (Nat.le_refl _) fun j hj => by rw [hupd_ne (by omega), hupd_ne (by omega)]) (by omega) (by omega) (by omega) (by omega), by simp only [List.length_append, List.length_cons, List.length_nil]; omega, ?_, rfl⟩, ?_⟩
          · rw [← hq, all_yes h3 h4]
          · intro c hc
            rcases List.mem_append.1 hc with hc | hc
            · exact hoc c hc
            · rw [List.mem_singleton.1 hc]; exact hvc
          · show l.length - ix (I _) < l.length - ix (I _)
            simp only [wrap_up h2 hfit.1, ix, Int.toNat_natCast]
            omega
      · conv => whnf
        refine ⟨rfl, ?_⟩
        conv => whnf
        refine ⟨⟨i + 1, k, f, out, ⟨rfl, rfl, rfl, rfl, congrArg I (wrap_up h2 hfit.1), trivial⟩, h2, ?_, hA.mono (by omega) fun j hj => by rw [hupd_ne (by omega), hupd_ne (by omega)], by omega, hoc, rfl⟩, ?_⟩
        · rw [← hq, all_no fun h => h4 h.2]
        · show l.length - ix (I _) < l.length - ix (I _)
          simp only [wrap_up h2 hfit.1, ix, Int.toNat_natCast]
          omega
  · have h2 : l.length ≤ i := by simpa using h2
    rw [List.drop_eq_nil_of_le h2] at hq
    have hout : out = allS l := hq
    subst hout
    conv => whnf
    refine mq_nclip (N := nC) (f := f) (l := allS l) v_slices_Clip_ISS_o (by exact hl) hA (by omega) (by rfl) fun n H' e hA' ho => ?_
    conv => whnf
    exact finM_nest (N := nC) (f := f) (l := allS l) (Nat.le_refl _) hA' ⟨⟨_, rfl, .inl rfl⟩, trivial⟩ ⟨l, rfl, rfl, hsm, rfl, rfl⟩
set_option maxHeartbeats 4000000 in
set_option maxRecDepth 100000 in
theorem vO_impl_votes_tip : ValidM Try.prog n_impl_votes_tip_o SO_impl_votes_tip.toM := by
  refine validM_of_swp mixed is_impl_votes_tip_o (by rintro _ _ ⟨_, a, rfl, _⟩; exact Nat.le_of_ble_eq_true rfl) ?_
  rintro _ _ rm ⟨rfl, l, rfl, hfit, hsm⟩ hl
  change swp _ _ _ _ _ 0 _
  have hsm' := hsm
  simp only [SM] at hsm'
  have hal := allS_len l
  have hst : S_impl_votes_all_o.st = 4194304 := NB_eq
  conv => whnf
  refine mq_nest (N := nC) (l := allS l) (ar := [one (vsF l)]) v_impl_votes_all_o (by exact hl) (by rfl) (by rfl) ⟨l, rfl, rfl, hfit, hsm⟩ (by rw [hst]; omega) (fun r obs' h => K_nestV h) fun n H' e hA ho => ?_
  generalize hcs : allS l = cs at *
  have hlen : cs.length ≤ LIM := by simp only [LIM]; omega
  conv => whnf
  refine ⟨_, _, _, hA.out, ?_⟩
  conv => whnf
  refine ⟨fun fr H nx rm' => ∃ (i kk : Nat) (o : List It), Has fr [(3, .w (.o (.ow kk))), (8, .w (.o (.ow n))), (9, I cs.length), (10, I i)] ∧ i ≤ cs.length ∧ (cs.drop i).foldl longer o = tip l ∧ H' kk = some (itO o) ∧ H = H' ∧ rm' = rm,
    fun fr _ _ _ => cs.length - ix (fr 10), ⟨0, _, [], ⟨rfl, rfl, congrArg (fun z : Nat => I (z : Int)) Nest.K_len, rfl, trivial⟩, Nat.zero_le _, by rw [← hcs]; rfl, (ho _ (by omega)).trans hupd_at, rfl, rfl⟩, ?_⟩
  rintro fr H nx rm' ⟨i, kk, o, hfr, hi, hq, hkk, rfl, rfl⟩
  rw [hfr.eq]
  conv => whnf
  refine ⟨rfl, ?_⟩
  conv => whnf
  refine ⟨fun h2 => ?_, fun h2 => ?_⟩
  · have h2 : i < cs.length := by simpa using h2
    obtain ⟨c, hc⟩ : ∃ c, cs[i]? = some c := ⟨_, List.getElem?_eq_getElem h2⟩
    have hdrop : cs.drop i = c :: cs.drop (i + 1) := by
      obtain ⟨hlt', rfl⟩ := List.getElem?_eq_some_iff.1 hc
      exact List.drop_eq_getElem_cons hlt'
    rw [hdrop] at hq
    conv => whnf
    refine ⟨_, _, i, _, hA.out, rfl, Nest.K_at hc, ?_⟩
    conv => whnf
    refine ⟨_, ldc_pa hA.out (Nest.K_at hc) (Nat.le_of_ble_eq_true rfl), ?_⟩
    conv => whnf
    refine ⟨_, _, _, hA.inn i c hc, ?_⟩
    conv => whnf
    refine ⟨_, _, _, hkk, ?_⟩
    conv => whnf
    refine ⟨rfl, ?_⟩
    conv => whnf
    refine ⟨fun h3 => ?_, fun h3 => ?_⟩
    · have h3 : o.length < c.length := by
        rw [arA_len, arA_len] at h3
        simpa [nC] using h3
      conv => whnf
      refine ⟨rfl, ?_⟩
      conv => whnf
      refine ⟨⟨i + 1, _, c, ⟨rfl, rfl, rfl, congrArg I (wrap_up h2 hlen), trivial⟩, h2, ?_, hA.inn i c hc, rfl, rfl⟩, ?_⟩
      · rw [← hq]; simp only [List.foldl_cons, longer, if_pos h3]
      · show cs.length - ix (I _) < cs.length - ix (I _)
        simp only [wrap_up h2 hlen, ix, Int.toNat_natCast]
        omega
    · have h3 : ¬ o.length < c.length := by
        rw [arA_len, arA_len] at h3
        have : (c.length : Int) ≤ o.length := by simpa [nC] using h3
        omega
      conv => whnf
      refine ⟨rfl, ?_⟩
      conv => whnf
      refine ⟨⟨i + 1, _, o, ⟨rfl, rfl, rfl, congrArg I (wrap_up h2 hlen), trivial⟩, h2, ?_, hkk, rfl, rfl⟩, ?_⟩
      · rw [← hq]; simp only [List.foldl_cons, longer, if_neg h3]
      · show cs.length - ix (I _) < cs.length - ix (I _)
        simp only [wrap_up h2 hlen, ix, Int.toNat_natCast]
        omega
  · have h2 : cs.length ≤ i := by simpa using h2
    rw [List.drop_eq_nil_of_le h2] at hq
    have hq : o = tip l := hq
    subst hq
    conv => whnf
    exact finM_new (F := itF) (T := ty_impl_Item) (sz := 4) (l := tip l) (Nat.le_refl _) hkk ⟨⟨_, rfl, .inl rfl⟩, trivial⟩ ⟨rfl, rfl, by rw [so_impl_votes_tip]⟩
attribute [local irreducible] Valid ValidM
set_option maxHeartbeats 4000000 in
set_option maxRecDepth 100000 in
theorem v_impl_TreeTip_o : ValidM Try.prog n_impl_TreeTip_o S_impl_TreeTip_o := by
  refine validM_of_swp mixed is_impl_TreeTip_o (by rintro _ _ ⟨a, rfl, _⟩; exact Nat.le_of_ble_eq_true rfl) ?_
  rintro _ _ rm ⟨l, rfl, rfl, hpre⟩ hl
  try dsimp only at hpre
  change swp _ _ _ _ _ 0 _
  have hp1 := hpre.1
  by_cases hV : VotesOk l
  · have e : tipT l = tip l := by unfold tipT; rw [tb_pos hV]; rfl
    repeat' ((conv => whnf); first
      | refine ⟨_, rfl, ?_⟩
      | refine ⟨rfl, ?_⟩
      | refine ⟨_, _, rfl, at_map (by assumption), ?_⟩
      | refine idx_mapX (i := 0) rfl (by assumption) ?_
      | refine idx_map (by omega) (fun x hx => ?_)
      | refine idx_mapX (wrap_dn (by omega) (by omega)) (by assumption) ?_
      | refine idx_mapE (wrap_dn (by omega) (by omega)) (by omega) (fun x hx => ?_)
      | refine idx_mapL (by omega) (by first | assumption | (simp only [LIM]; omega)) (fun x hx => ?_)
      | refine idx_mapI (by omega) (by first | omega | (simp only [List.length_map] at *; omega)) (fun x hx => ?_)
      | refine ⟨_, ldc_cells hupd_at (Nat.le_of_ble_eq_true rfl), ?_⟩
      | refine ⟨_, ldc_cells (by first | assumption | exact zk ‹_› (by omega) | exact zk (zk ‹_› (by omega)) (by omega)) (Nat.le_of_ble_eq_true rfl), ?_⟩
      | refine ⟨_, _, hupd_at, rfl, rfl, Nat.le_of_ble_eq_true rfl, ?_⟩
      | refine ⟨_, _, rfl, rfl, rfl, Nat.le_of_ble_eq_true rfl, ?_⟩
      | (refine ⟨?_, _, (?_ : (_ : Option Ob) = _), rfl, rfl, ?_, ?_⟩; rotate_left; (exact hk_); exact Nat.le_of_ble_eq_true rfl)
      | refine ⟨_, _, _, _, ((by exact hk_) : (_ : Option Ob) = _), rfl, at_mapA (by assumption), ?_⟩
      | refine idx_ow (by exact hk_) (by omega) (fun x hx => ?_)
      | refine ⟨_, _, _, _, ((by exact hk_) : (_ : Option Ob) = _), rfl, fill_at (by omega), ?_⟩
      | refine ⟨_, _, _, _, ((by exact hk_) : (_ : Option Ob) = _), fill_at (by omega), rfl, rfl, Nat.le_of_ble_eq_true rfl, ?_⟩
      | refine idx_owL (by exact hk_) (by omega) (by simp only [LIM]; omega) (fun x hx => ?_)
      | refine idx_owI (by exact hk_) (by omega) (by first | omega | (simp only [List.length_map] at *; omega)) (fun x hx => ?_)
      | refine ⟨_, _, _, _, ((by exact hk_) : (_ : Option Ob) = _), at_mapA (by assumption), rfl, rfl, Nat.le_of_ble_eq_true rfl, ?_⟩
      | refine ⟨_, ldc_pa (by exact hk_) (at_mapA (by assumption)) (Nat.le_of_ble_eq_true rfl), ?_⟩
      | refine ⟨_, rfl, rfl, _, ((by exact hk_) : (_ : Option Ob) = _), (by exact ap_), ?_⟩
      | refine ⟨_, news_ow hupd_at, newsz_ow hupd_at, _, ((by exact hk_) : (_ : Option Ob) = _), (by exact ap_), ?_⟩
      | refine ⟨_, _, _, ((by exact hk_) : (_ : Option Ob) = _), ?_⟩
      | refine ⟨_, ((by exact hk_) : (_ : Option Ob) = _), ?_⟩
      | refine ⟨(show _ ≠ _ from (by first | decide | omega)), ?_⟩
      | refine ⟨(show _ ≤ _ from (by exact ap_)), ?_⟩
      | (refine ⟨fun hc => ?_, fun hc => ?_⟩ <;> (try simp (disch := omega) only [List.length_map, wrap64] at hc) <;> (try (exfalso; first | contradiction | omega)))
      | (refine ⟨⟨(by omega), (by omega), (by simp only [List.length_map] at *; simp only [LIM] at *; omega), (by simp only [List.length_map] at *; simp only [LIM] at *; omega)⟩, ?_⟩; (try simp only [List.length_map, Int.toNat_natCast]))
      | (refine ⟨_, slc_to rfl (by first | omega | (simp only [List.length_map] at *; omega)), ?_⟩; rw [map_take'])
      | (refine ⟨_, slc_toI rfl (by omega) (by first | omega | (simp only [List.length_map] at *; omega)), ?_⟩; rw [map_take'])
      | (refine callt (b := [one (vsF _)]) v_impl_VotesOk rfl ⟨_, rfl, (by exact pr_)⟩ (.inl rfl) (by first | assumption | omega) (fun r hr => K_impl_VotesOk (a := _) hr) (fun hj => ?_) (fun hj => ?_) <;> (try simp only [etaPa, etaIt, etaVo] at hj) <;> (try contradiction))
      | fail)
    conv => whnf
    refine OQ.mk1 (ar := [one (vsF l)]) (by rfl) ⟨l, rfl, hpre⟩ vO_impl_votes_tip (so_impl_votes_tip l) ?_
    conv => whnf
    exact finM_new (F := itF) (T := ty_impl_Item) (sz := 4) (l := tip l) (Nat.le_refl _) hupd_at ⟨⟨_, rfl, .inl rfl⟩, trivial⟩ ⟨l, rfl, rfl, .inr ⟨rfl, by rw [e]⟩⟩
  · have e : tipT l = [] := by unfold tipT; rw [tb_neg hV]; rfl
    repeat' ((conv => whnf); first
      | refine ⟨_, rfl, ?_⟩
      | refine ⟨rfl, ?_⟩
      | refine ⟨_, _, rfl, at_map (by assumption), ?_⟩
      | refine idx_mapX (i := 0) rfl (by assumption) ?_
      | refine idx_map (by omega) (fun x hx => ?_)
      | refine idx_mapX (wrap_dn (by omega) (by omega)) (by assumption) ?_
      | refine idx_mapE (wrap_dn (by omega) (by omega)) (by omega) (fun x hx => ?_)
      | refine idx_mapL (by omega) (by first | assumption | (simp only [LIM]; omega)) (fun x hx => ?_)
      | refine idx_mapI (by omega) (by first | omega | (simp only [List.length_map] at *; omega)) (fun x hx => ?_)
      | refine ⟨_, ldc_cells hupd_at (Nat.le_of_ble_eq_true rfl), ?_⟩
      | refine ⟨_, ldc_cells (by first | assumption | exact zk ‹_› (by omega) | exact zk (zk ‹_› (by omega)) (by omega)) (Nat.le_of_ble_eq_true rfl), ?_⟩
      | refine ⟨_, _, hupd_at, rfl, rfl, Nat.le_of_ble_eq_true rfl, ?_⟩
      | refine ⟨_, _, rfl, rfl, rfl, Nat.le_of_ble_eq_true rfl, ?_⟩
      | (refine ⟨?_, _, (?_ : (_ : Option Ob) = _), rfl, rfl, ?_, ?_⟩; rotate_left; (exact hk_); exact Nat.le_of_ble_eq_true rfl)
      | refine ⟨_, _, _, _, ((by exact hk_) : (_ : Option Ob) = _), rfl, at_mapA (by assumption), ?_⟩
      | refine idx_ow (by exact hk_) (by omega) (fun x hx => ?_)
      | refine ⟨_, _, _, _, ((by exact hk_) : (_ : Option Ob) = _), rfl, fill_at (by omega), ?_⟩
      | refine ⟨_, _, _, _, ((by exact hk_) : (_ : Option Ob) = _), fill_at (by omega), rfl, rfl, Nat.le_of_ble_eq_true rfl, ?_⟩
      | refine idx_owL (by exact hk_) (by omega) (by simp only [LIM]; omega) (fun x hx => ?_)
      | refine idx_owI (by exact hk_) (by omega) (by first | omega | (simp only [List.length_map] at *; omega)) (fun x hx => ?_)
      | refine ⟨_, _, _, _, ((by exact hk_) : (_ : Option Ob) = _), at_mapA (by assumption), rfl, rfl, Nat.le_of_ble_eq_true rfl, ?_⟩
      | refine ⟨_, ldc_pa (by exact hk_) (at_mapA (by assumption)) (Nat.le_of_ble_eq_true rfl), ?_⟩
      | refine ⟨_, rfl, rfl, _, ((by exact hk_) : (_ : Option Ob) = _), (by exact ap_), ?_⟩
      | refine ⟨_, news_ow hupd_at, newsz_ow hupd_at, _, ((by exact hk_) : (_ : Option Ob) = _), (by exact ap_), ?_⟩
      | refine ⟨_, _, _, ((by exact hk_) : (_ : Option Ob) = _), ?_⟩
      | refine ⟨_, ((by exact hk_) : (_ : Option Ob) = _), ?_⟩
      | refine ⟨(show _ ≠ _ from (by first | decide | omega)), ?_⟩
      | refine ⟨(show _ ≤ _ from (by exact ap_)), ?_⟩
      | (refine ⟨fun hc => ?_, fun hc => ?_⟩ <;> (try simp (disch := omega) only [List.length_map, wrap64] at hc) <;> (try (exfalso; first | contradiction | omega)))
      | (refine ⟨⟨(by omega), (by omega), (by simp only [List.length_map] at *; simp only [LIM] at *; omega), (by simp only [List.length_map] at *; simp only [LIM] at *; omega)⟩, ?_⟩; (try simp only [List.length_map, Int.toNat_natCast]))
      | (refine ⟨_, slc_to rfl (by first | omega | (simp only [List.length_map] at *; omega)), ?_⟩; rw [map_take'])
      | (refine ⟨_, slc_toI rfl (by omega) (by first | omega | (simp only [List.length_map] at *; omega)), ?_⟩; rw [map_take'])
      | (refine callt (b := [one (vsF _)]) v_impl_VotesOk rfl ⟨_, rfl, (by exact pr_)⟩ (.inl rfl) (by first | assumption | omega) (fun r hr => K_impl_VotesOk (a := _) hr) (fun hj => ?_) (fun hj => ?_) <;> (try simp only [etaPa, etaIt, etaVo] at hj) <;> (try contradiction))
      | fail)
    conv => whnf
    exact finM_e0 (Nat.le_refl _) ⟨⟨_, rfl, .inl rfl⟩, trivial⟩ ⟨l, rfl, rfl, .inl ⟨rfl, rfl, e⟩⟩
theorem vO_impl_TreeTip : ValidM Try.prog n_impl_TreeTip SO_impl_TreeTip.toM := by
  refine valid_O v_impl_TreeTip_o rfl (fun args ⟨l, h, hp⟩ => ⟨l, h, rfl, hp⟩) fun args r obs' ⟨l, h, hp⟩ hq => ?_
  subst h
  rw [so_impl_TreeTip]
  rcases K_impl_TreeTip_o hq with ⟨h1, h2, h3⟩ | ⟨h1, h2⟩
  · exact .inl ⟨h1, h2, ty_impl_Item, 4, by rw [h3]; rfl⟩
  · exact .inr ⟨h1, h2⟩
set_option maxHeartbeats 4000000 in
set_option maxRecDepth 100000 in
theorem v_impl_TreeAll_e : ValidM Try.prog n_impl_TreeAll_o S_impl_TreeAll_e := by
  refine validM_of_swp mixed is_impl_TreeAll_o (by rintro _ _ ⟨a, rfl, _⟩; exact Nat.le_of_ble_eq_true rfl) ?_
  rintro _ _ rm ⟨l, rfl, rfl, hpre⟩ hl
  change swp _ _ _ _ _ 0 _
  have hp1 := hpre.1
  have hsm := hpre.2
  have hsm' := hsm
  simp only [SM] at hsm'
  have hal := allS_len l
  have hst : S_impl_votes_all_o.st = 4194304 := NB_eq
  by_cases hV : VotesOk l
  · have e : allT l = allS l := by unfold allT; rw [tb_pos hV]; rfl
    repeat' ((conv => whnf); first
      | refine ⟨_, rfl, ?_⟩
      | refine ⟨rfl, ?_⟩
      | refine ⟨_, _, rfl, at_map (by assumption), ?_⟩
      | refine idx_mapX (i := 0) rfl (by assumption) ?_
      | refine idx_map (by omega) (fun x hx => ?_)
      | refine idx_mapX (wrap_dn (by omega) (by omega)) (by assumption) ?_
      | refine idx_mapE (wrap_dn (by omega) (by omega)) (by omega) (fun x hx => ?_)
      | refine idx_mapL (by omega) (by first | assumption | (simp only [LIM]; omega)) (fun x hx => ?_)
      | refine idx_mapI (by omega) (by first | omega | (simp only [List.length_map] at *; omega)) (fun x hx => ?_)
      | refine ⟨_, ldc_cells hupd_at (Nat.le_of_ble_eq_true rfl), ?_⟩
      | refine ⟨_, ldc_cells (by first | assumption | exact zk ‹_› (by omega) | exact zk (zk ‹_› (by omega)) (by omega)) (Nat.le_of_ble_eq_true rfl), ?_⟩
      | refine ⟨_, _, hupd_at, rfl, rfl, Nat.le_of_ble_eq_true rfl, ?_⟩
      | refine ⟨_, _, rfl, rfl, rfl, Nat.le_of_ble_eq_true rfl, ?_⟩
      | (refine ⟨?_, _, (?_ : (_ : Option Ob) = _), rfl, rfl, ?_, ?_⟩; rotate_left; (exact hk_); exact Nat.le_of_ble_eq_true rfl)
      | refine ⟨_, _, _, _, ((by exact hk_) : (_ : Option Ob) = _), rfl, at_mapA (by assumption), ?_⟩
      | refine idx_ow (by exact hk_) (by omega) (fun x hx => ?_)
      | refine ⟨_, _, _, _, ((by exact hk_) : (_ : Option Ob) = _), rfl, fill_at (by omega), ?_⟩
      | refine ⟨_, _, _, _, ((by exact hk_) : (_ : Option Ob) = _), fill_at (by omega), rfl, rfl, Nat.le_of_ble_eq_true rfl, ?_⟩
      | refine idx_owL (by exact hk_) (by omega) (by simp only [LIM]; omega) (fun x hx => ?_)
      | refine idx_owI (by exact hk_) (by omega) (by first | omega | (simp only [List.length_map] at *; omega)) (fun x hx => ?_)
      | refine ⟨_, _, _, _, ((by exact hk_) : (_ : Option Ob) = _), at_mapA (by assumption), rfl, rfl, Nat.le_of_ble_eq_true rfl, ?_⟩
      | refine ⟨_, ldc_pa (by exact hk_) (at_mapA (by assumption)) (Nat.le_of_ble_eq_true rfl), ?_⟩
      | refine ⟨_, rfl, rfl, _, ((by exact hk_) : (_ : Option Ob) = _), (by exact ap_), ?_⟩
      | refine ⟨_, news_ow hupd_at, newsz_ow hupd_at, _, ((by exact hk_) : (_ : Option Ob) = _), (by exact ap_), ?_⟩
      | refine ⟨_, _, _, ((by exact hk_) : (_ : Option Ob) = _), ?_⟩
      | refine ⟨_, ((by exact hk_) : (_ : Option Ob) = _), ?_⟩
      | refine ⟨(show _ ≠ _ from (by first | decide | omega)), ?_⟩
      | refine ⟨(show _ ≤ _ from (by exact ap_)), ?_⟩
      | (refine ⟨fun hc => ?_, fun hc => ?_⟩ <;> (try simp (disch := omega) only [List.length_map, wrap64] at hc) <;> (try (exfalso; first | contradiction | omega)))
      | (refine ⟨⟨(by omega), (by omega), (by simp only [List.length_map] at *; simp only [LIM] at *; omega), (by simp only [List.length_map] at *; simp only [LIM] at *; omega)⟩, ?_⟩; (try simp only [List.length_map, Int.toNat_natCast]))
      | (refine ⟨_, slc_to rfl (by first | omega | (simp only [List.length_map] at *; omega)), ?_⟩; rw [map_take'])
      | (refine ⟨_, slc_toI rfl (by omega) (by first | omega | (simp only [List.length_map] at *; omega)), ?_⟩; rw [map_take'])
      | (refine callt (b := [one (vsF _)]) v_impl_VotesOk rfl ⟨_, rfl, (by exact pr_)⟩ (.inl rfl) (by first | assumption | omega) (fun r hr => K_impl_VotesOk (a := _) hr) (fun hj => ?_) (fun hj => ?_) <;> (try simp only [etaPa, etaIt, etaVo] at hj) <;> (try contradiction))
      | fail)
    conv => whnf
    refine mq_nest (N := nC) (l := allS l) (ar := [one (vsF l)]) v_impl_votes_all_o (by exact hl) (by rfl) (by rfl) ⟨l, rfl, rfl, hpre⟩ (by rw [hst]; omega) (fun r obs' h => K_nestV h) fun n H' _ hA ho => ?_
    conv => whnf
    exact finM_nest (N := nC) (l := allS l) (Nat.le_refl _) hA ⟨⟨_, rfl, .inl rfl⟩, trivial⟩ ⟨l, rfl, rfl, hsm, .inr ⟨rfl, by rw [e]⟩⟩
  · have e : allT l = [] := by unfold allT; rw [tb_neg hV]; rfl
    repeat' ((conv => whnf); first
      | refine ⟨_, rfl, ?_⟩
      | refine ⟨rfl, ?_⟩
      | refine ⟨_, _, rfl, at_map (by assumption), ?_⟩
      | refine idx_mapX (i := 0) rfl (by assumption) ?_
      | refine idx_map (by omega) (fun x hx => ?_)
      | refine idx_mapX (wrap_dn (by omega) (by omega)) (by assumption) ?_
      | refine idx_mapE (wrap_dn (by omega) (by omega)) (by omega) (fun x hx => ?_)
      | refine idx_mapL (by omega) (by first | assumption | (simp only [LIM]; omega)) (fun x hx => ?_)
      | refine idx_mapI (by omega) (by first | omega | (simp only [List.length_map] at *; omega)) (fun x hx => ?_)
      | refine ⟨_, ldc_cells hupd_at (Nat.le_of_ble_eq_true rfl), ?_⟩
      | refine ⟨_, ldc_cells (by first | assumption | exact zk ‹_› (by omega) | exact zk (zk ‹_› (by omega)) (by omega)) (Nat.le_of_ble_eq_true rfl), ?_⟩
      | refine ⟨_, _, hupd_at, rfl, rfl, Nat.le_of_ble_eq_true rfl, ?_⟩
      | refine ⟨_, _, rfl, rfl, rfl, Nat.le_of_ble_eq_true rfl, ?_⟩
      | (refine ⟨?_, _, (?_ : (_ : Option Ob) = _), rfl, rfl, ?_, ?_⟩; rotate_left; (exact hk_); exact Nat.le_of_ble_eq_true rfl)
      | refine ⟨_, _, _, _, ((by exact hk_) : (_ : Option Ob) = _), rfl, at_mapA (by assumption), ?_⟩
      | refine idx_ow (by exact hk_) (by omega) (fun x hx => ?_)
      | refine ⟨_, _, _, _, ((by exact hk_) : (_ : Option Ob) = _), rfl, fill_at (by omega), ?_⟩
      | refine ⟨_, _, _, _, ((by exact hk_) : (_ : Option Ob) = _), fill_at (by omega), rfl, rfl, Nat.le_of_ble_eq_true rfl, ?_⟩
      | refine idx_owL (by exact hk_) (by omega) (by simp only [LIM]; omega) (fun x hx => ?_)
      | refine idx_owI (by exact hk_) (by omega) (by first | omega | (simp only [List.length_map] at *; omega)) (fun x hx => ?_)
      | refine ⟨_, _, _, _, ((by exact hk_) : (_ : Option Ob) = _), at_mapA (by assumption), rfl, rfl, Nat.le_of_ble_eq_true rfl, ?_⟩
      | refine ⟨_, ldc_pa (by exact hk_) (at_mapA (by assumption)) (Nat.le_of_ble_eq_true rfl), ?_⟩
      | refine ⟨_, rfl, rfl, _, ((by exact hk_) : (_ : Option Ob) = _), (by exact ap_), ?_⟩
      | refine ⟨_, news_ow hupd_at, newsz_ow hupd_at, _, ((by exact hk_) : (_ : Option Ob) = _), (by exact ap_), ?_⟩
      | refine ⟨_, _, _, ((by exact hk_) : (_ : Option Ob) = _), ?_⟩
      | refine ⟨_, ((by exact hk_) : (_ : Option Ob) = _), ?_⟩
      | refine ⟨(show _ ≠ _ from (by first | decide | omega)), ?_⟩
      | refine ⟨(show _ ≤ _ from (by exact ap_)), ?_⟩
      | (refine ⟨fun hc => ?_, fun hc => ?_⟩ <;> (try simp (disch := omega) only [List.length_map, wrap64] at hc) <;> (try (exfalso; first | contradiction | omega)))
      | (refine ⟨⟨(by omega), (by omega), (by simp only [List.length_map] at *; simp only [LIM] at *; omega), (by simp only [List.length_map] at *; simp only [LIM] at *; omega)⟩, ?_⟩; (try simp only [List.length_map, Int.toNat_natCast]))
      | (refine ⟨_, slc_to rfl (by first | omega | (simp only [List.length_map] at *; omega)), ?_⟩; rw [map_take'])
      | (refine ⟨_, slc_toI rfl (by omega) (by first | omega | (simp only [List.length_map] at *; omega)), ?_⟩; rw [map_take'])
      | (refine callt (b := [one (vsF _)]) v_impl_VotesOk rfl ⟨_, rfl, (by exact pr_)⟩ (.inl rfl) (by first | assumption | omega) (fun r hr => K_impl_VotesOk (a := _) hr) (fun hj => ?_) (fun hj => ?_) <;> (try simp only [etaPa, etaIt, etaVo] at hj) <;> (try contradiction))
      | fail)
    conv => whnf
    exact finM_e0 (Nat.le_refl _) ⟨⟨_, rfl, .inl rfl⟩, trivial⟩ ⟨l, rfl, rfl, hsm, .inl ⟨rfl, rfl, e⟩⟩
theorem v_impl_TreeAll_o : ValidM Try.prog n_impl_TreeAll_o S_impl_TreeAll_o := by
  refine valid_e0 v_impl_TreeAll_e rfl (fun args obs ⟨l, h, h0, hp⟩ => ⟨⟨l, h, h0, hp⟩, h0⟩) fun args r obs' ⟨l, h, _, hp⟩ hq => ?_
  subst h
  rcases K_impl_TreeAll_e hq with ⟨h1, h2, h3⟩ | ⟨h1, h2⟩
  · exact .inl ⟨h1, h2, ty_Simpl_Item, 1, l, rfl, rfl, hp.2, rfl, by rw [h3]; rfl⟩
  · exact .inr ⟨l, rfl, rfl, hp.2, h1, h2⟩
theorem nC_plain : nC.Plain := ⟨fun a c h => by simp [nC] at h, fun b c h => by
  simp only [nC, itF, paF, fI, List.mem_cons, List.not_mem_nil, or_false, List.mem_append] at h
  rcases h with rfl | rfl | rfl | rfl <;> exact ⟨_, rfl⟩⟩
theorem nC_K {f : Nat → Nat} {l m : List (List It)} (h : l.length = m.length) : nC.K f l = nC.K f m := by
  apply List.ext_getElem?
  intro j
  simp only [Nest.K, List.getElem?_mapIdx]
  by_cases hj : j < l.length
  · rw [List.getElem?_eq_getElem hj, List.getElem?_eq_getElem (show j < m.length by omega)]; rfl
  · rw [List.getElem?_eq_none (by omega), List.getElem?_eq_none (by omega)]
theorem markC_heap {H : Hp} {l : List (List It)} {k0 e : Int} {i : Nat} {x : List It} (hx : l[i]? = some x) (he : e = endCs (l.take i) k0) (hH1 : ∀ j v, (partCs l k0 i)[j]? = some v → H (j + 1) = some (nC.ob1 v)) :
    ∀ j v, (partCs l k0 (i + 1))[j]? = some v → hupd (i + 1) (some (itO (mkC x.length e))) H (j + 1) = some (nC.ob1 v) := by
  intro j v hj
  have hi := (List.getElem?_eq_some_iff.1 hx).1
  rw [← partCs_step hx, List.getElem?_set, partCs_len (Nat.le_of_lt hi)] at hj
  by_cases h : i = j
  · subst h
    rw [if_pos rfl, if_pos hi] at hj
    cases hj
    rw [hupd_at, he]; rfl
  · rw [if_neg h] at hj
    rw [hupd_ne (by omega)]
    exact hH1 j v hj
set_option maxHeartbeats 4000000 in
set_option maxRecDepth 100000 in
theorem v_laws_markItemSS_o : ValidM Try.prog n_laws_markItemSS_o S_laws_markItemSS_o := by
  refine validM_of_swp mixed is_laws_markItemSS_o (by rintro _ _ ⟨a, rfl, _⟩; exact Nat.le_of_ble_eq_true rfl) ?_
  rintro _ _ rm ⟨⟨l, k0⟩, rfl, rfl, hpre⟩ hl
  try dsimp only at hpre
  obtain ⟨hsm, hk0, hkM⟩ := hpre
  have hlen : l.length ≤ 2097152 := hsm.1
  have hlenL : l.length ≤ LIM := Nat.le_trans hlen (by decide)
  have hE1 : ∀ j v, l[j]? = some v → (nC.In l)[j + 1]? = some (nC.ob1 v) := fun j v hj => Nest.In_at hj
  have hE0 : (nC.In l)[0]? = some (nC.ob (· + 1) l) := rfl
  have hEl : (nC.In l).length = l.length + 1 := Nest.In_len
  have hbd := fun i => endCs_bounds (l.take i) k0 fun v hv => hsm.2 v (List.mem_of_mem_take hv)
  have htl : ∀ i, (l.take i).length ≤ l.length := fun i => by rw [List.length_take]; omega
  conv => whnf
  conv => whnf
  refine ⟨fun fr H nx rm' => ∃ i : Nat, Has fr [(0, ow0), (1, I (endCs (l.take i) k0)), (5, I i)] ∧ i ≤ l.length ∧ H 0 = some (nC.ob (· + 1) (partCs l k0 i)) ∧ (∀ j v, (partCs l k0 i)[j]? = some v → H (j + 1) = some (nC.ob1 v)) ∧ l.length < nx ∧ rm' = rm,
    fun fr _ _ _ => l.length - ix (fr 5), ⟨0, ⟨rfl, rfl, rfl, trivial⟩, Nat.zero_le _, by rw [partCs_zero]; exact hE0, by rw [partCs_zero]; exact hE1, by show _ < (nC.In l).length + 16 + 16; omega, rfl⟩, ?_⟩
  rintro fr H nx rm' ⟨i, hfr, hi, hH0, hH1, hnx, rfl⟩
  rw [hfr.eq]
  have hpl := partCs_len (k := k0) hi
  have hvl : (nC.K (· + 1) (partCs l k0 i)).length = l.length := by rw [Nest.K_len, hpl]
  rcases Nat.lt_or_ge i l.length with hi' | hi'
  · obtain ⟨x, hx⟩ : ∃ x, l[i]? = some x := ⟨_, List.getElem?_eq_getElem hi'⟩
    have hax := partCs_at (k := k0) hx
    have hvat := Nest.K_at (N := nC) (f := (· + 1)) hax
    have hb := hbd i
    have ht := htl i
    have hxc : x.length ≤ SM := hsm.2 x (List.mem_of_getElem? hx)
    repeat' ((conv => whnf); first
      | (refine ⟨_, _, _, hH0, ?_⟩)
      | (refine ⟨_, _, _, _, hH0, rfl, hvat, ?_⟩)
      | (refine ⟨_, ldc_pa hH0 hvat (Nat.le_of_ble_eq_true rfl), ?_⟩)
      | (refine mq_mark (F := itF) (T := ty_impl_Item) (sz := 4) (k := i + 1) (l := x) (l' := mkC x.length (endCs (l.take i) k0)) (n := endCs (l.take i) k0) v_laws_markItemS_o (by exact hl) (hH1 i x hax) rfl ⟨(some x, _), rfl, rfl, fun c hc => by cases hc; exact hxc, by dsimp only; omega, by dsimp only [MK]; omega⟩ (fun r obs' h => K_mark_o h) ?_)
      | refine ⟨_, rfl, ?_⟩
      | refine ⟨rfl, ?_⟩
      | refine ⟨_, _, rfl, at_map (by assumption), ?_⟩
      | refine idx_mapX (i := 0) rfl (by assumption) ?_
      | refine idx_map (by omega) (fun x hx => ?_)
      | refine idx_mapX (wrap_dn (by omega) (by omega)) (by assumption) ?_
      | refine idx_mapE (wrap_dn (by omega) (by omega)) (by omega) (fun x hx => ?_)
      | refine idx_mapL (by omega) (by first | assumption | (simp only [LIM]; omega)) (fun x hx => ?_)
      | refine idx_mapI (by omega) (by first | omega | (simp only [List.length_map] at *; omega)) (fun x hx => ?_)
      | refine ⟨_, ldc_cells hupd_at (Nat.le_of_ble_eq_true rfl), ?_⟩
      | refine ⟨_, ldc_cells (by first | assumption | exact zk ‹_› (by omega) | exact zk (zk ‹_› (by omega)) (by omega)) (Nat.le_of_ble_eq_true rfl), ?_⟩
      | refine ⟨_, _, hupd_at, rfl, rfl, Nat.le_of_ble_eq_true rfl, ?_⟩
      | refine ⟨_, _, rfl, rfl, rfl, Nat.le_of_ble_eq_true rfl, ?_⟩
      | (refine ⟨?_, _, (?_ : (_ : Option Ob) = _), rfl, rfl, ?_, ?_⟩; rotate_left; (exact hk_); exact Nat.le_of_ble_eq_true rfl)
      | refine ⟨_, _, _, _, ((by exact hk_) : (_ : Option Ob) = _), rfl, at_mapA (by assumption), ?_⟩
      | refine idx_ow (by exact hk_) (by omega) (fun x hx => ?_)
      | refine ⟨_, _, _, _, ((by exact hk_) : (_ : Option Ob) = _), rfl, fill_at (by omega), ?_⟩
      | refine ⟨_, _, _, _, ((by exact hk_) : (_ : Option Ob) = _), fill_at (by omega), rfl, rfl, Nat.le_of_ble_eq_true rfl, ?_⟩
      | refine idx_owL (by exact hk_) (by omega) (by simp only [LIM]; omega) (fun x hx => ?_)
      | refine idx_owI (by exact hk_) (by omega) (by first | omega | (simp only [List.length_map] at *; omega)) (fun x hx => ?_)
      | refine ⟨_, _, _, _, ((by exact hk_) : (_ : Option Ob) = _), at_mapA (by assumption), rfl, rfl, Nat.le_of_ble_eq_true rfl, ?_⟩
      | refine ⟨_, ldc_pa (by exact hk_) (at_mapA (by assumption)) (Nat.le_of_ble_eq_true rfl), ?_⟩
      | refine ⟨_, rfl, rfl, _, ((by exact hk_) : (_ : Option Ob) = _), (by exact ap_), ?_⟩
      | refine ⟨_, news_ow hupd_at, newsz_ow hupd_at, _, ((by exact hk_) : (_ : Option Ob) = _), (by exact ap_), ?_⟩
      | refine ⟨_, _, _, ((by exact hk_) : (_ : Option Ob) = _), ?_⟩
      | refine ⟨_, ((by exact hk_) : (_ : Option Ob) = _), ?_⟩
      | refine ⟨(show _ ≠ _ from (by first | decide | omega)), ?_⟩
      | refine ⟨(show _ ≤ _ from (by exact ap_)), ?_⟩
      | (refine ⟨fun hc => ?_, fun hc => ?_⟩ <;> (try simp (disch := omega) only [List.length_map, wrap64] at hc) <;> (try (exfalso; first | contradiction | omega)))
      | (refine ⟨⟨(by omega), (by omega), (by simp only [List.length_map] at *; simp only [LIM] at *; omega), (by simp only [List.length_map] at *; simp only [LIM] at *; omega)⟩, ?_⟩; (try simp only [List.length_map, Int.toNat_natCast]))
      | (refine ⟨_, slc_to rfl (by first | omega | (simp only [List.length_map] at *; omega)), ?_⟩; rw [map_take'])
      | (refine ⟨_, slc_toI rfl (by omega) (by first | omega | (simp only [List.length_map] at *; omega)), ?_⟩; rw [map_take'])
      | fail)
    conv => whnf
    refine ⟨⟨i + 1, ⟨rfl, congrArg I (by rw [endCs_take hx]), congrArg I (wrap_up hi' hlenL), trivial⟩, hi', ?_, markC_heap hx rfl hH1, by omega, rfl⟩, ?_⟩
    · rw [hupd_ne (by omega)]
      exact hH0.trans (congrArg (fun z => some (Ob.arr ty_Simpl_Item 1 z)) (nC_K (by rw [partCs_len (Nat.le_of_lt hi'), partCs_len hi'])))
    · show l.length - ix (I _) < l.length - ix (I _)
      simp only [wrap_up hi' hlenL, ix, Int.toNat_natCast]
      omega
  · have hie : i = l.length := by omega
    subst hie
    rw [partCs_end] at hH0 hH1
    rw [List.take_length] at hfr ⊢
    have hml := mkCs_len l k0
    have hvm : (nC.K (· + 1) (mkCs l k0)).length = l.length := by rw [Nest.K_len, hml]
    repeat' ((conv => whnf); first
      | (refine ⟨_, _, _, hH0, ?_⟩)
      | exact finM_nin (N := nC) (l := mkCs l k0) (Nat.le_refl _) (by rw [hml]; exact hEl) hH0 hH1 ⟨⟨_, rfl, .inl rfl⟩, trivial⟩ ⟨(l, k0), rfl, rfl, rfl, rfl⟩
      | refine ⟨_, rfl, ?_⟩
      | refine ⟨rfl, ?_⟩
      | refine ⟨_, _, rfl, at_map (by assumption), ?_⟩
      | refine idx_mapX (i := 0) rfl (by assumption) ?_
      | refine idx_map (by omega) (fun x hx => ?_)
      | refine idx_mapX (wrap_dn (by omega) (by omega)) (by assumption) ?_
      | refine idx_mapE (wrap_dn (by omega) (by omega)) (by omega) (fun x hx => ?_)
      | refine idx_mapL (by omega) (by first | assumption | (simp only [LIM]; omega)) (fun x hx => ?_)
      | refine idx_mapI (by omega) (by first | omega | (simp only [List.length_map] at *; omega)) (fun x hx => ?_)
      | refine ⟨_, ldc_cells hupd_at (Nat.le_of_ble_eq_true rfl), ?_⟩
      | refine ⟨_, ldc_cells (by first | assumption | exact zk ‹_› (by omega) | exact zk (zk ‹_› (by omega)) (by omega)) (Nat.le_of_ble_eq_true rfl), ?_⟩
      | refine ⟨_, _, hupd_at, rfl, rfl, Nat.le_of_ble_eq_true rfl, ?_⟩
      | refine ⟨_, _, rfl, rfl, rfl, Nat.le_of_ble_eq_true rfl, ?_⟩
      | (refine ⟨?_, _, (?_ : (_ : Option Ob) = _), rfl, rfl, ?_, ?_⟩; rotate_left; (exact hk_); exact Nat.le_of_ble_eq_true rfl)
      | refine ⟨_, _, _, _, ((by exact hk_) : (_ : Option Ob) = _), rfl, at_mapA (by assumption), ?_⟩
      | refine idx_ow (by exact hk_) (by omega) (fun x hx => ?_)
      | refine ⟨_, _, _, _, ((by exact hk_) : (_ : Option Ob) = _), rfl, fill_at (by omega), ?_⟩
      | refine ⟨_, _, _, _, ((by exact hk_) : (_ : Option Ob) = _), fill_at (by omega), rfl, rfl, Nat.le_of_ble_eq_true rfl, ?_⟩
      | refine idx_owL (by exact hk_) (by omega) (by simp only [LIM]; omega) (fun x hx => ?_)
      | refine idx_owI (by exact hk_) (by omega) (by first | omega | (simp only [List.length_map] at *; omega)) (fun x hx => ?_)
      | refine ⟨_, _, _, _, ((by exact hk_) : (_ : Option Ob) = _), at_mapA (by assumption), rfl, rfl, Nat.le_of_ble_eq_true rfl, ?_⟩
      | refine ⟨_, ldc_pa (by exact hk_) (at_mapA (by assumption)) (Nat.le_of_ble_eq_true rfl), ?_⟩
      | refine ⟨_, rfl, rfl, _, ((by exact hk_) : (_ : Option Ob) = _), (by exact ap_), ?_⟩
      | refine ⟨_, news_ow hupd_at, newsz_ow hupd_at, _, ((by exact hk_) : (_ : Option Ob) = _), (by exact ap_), ?_⟩
      | refine ⟨_, _, _, ((by exact hk_) : (_ : Option Ob) = _), ?_⟩
      | refine ⟨_, ((by exact hk_) : (_ : Option Ob) = _), ?_⟩
      | refine ⟨(show _ ≠ _ from (by first | decide | omega)), ?_⟩
      | refine ⟨(show _ ≤ _ from (by exact ap_)), ?_⟩
      | (refine ⟨fun hc => ?_, fun hc => ?_⟩ <;> (try simp (disch := omega) only [List.length_map, wrap64] at hc) <;> (try (exfalso; first | contradiction | omega)))
      | (refine ⟨⟨(by omega), (by omega), (by simp only [List.length_map] at *; simp only [LIM] at *; omega), (by simp only [List.length_map] at *; simp only [LIM] at *; omega)⟩, ?_⟩; (try simp only [List.length_map, Int.toNat_natCast]))
      | (refine ⟨_, slc_to rfl (by first | omega | (simp only [List.length_map] at *; omega)), ?_⟩; rw [map_take'])
      | (refine ⟨_, slc_toI rfl (by omega) (by first | omega | (simp only [List.length_map] at *; omega)), ?_⟩; rw [map_take'])
      | fail)
theorem mkCs_at {l : List (List It)} {k : Int} {i : Nat} {x : List It} (hx : l[i]? = some x) : (mkCs l k)[i]? = some (mkC x.length (endCs (l.take i) k)) := by
  have hi := (List.getElem?_eq_some_iff.1 hx).1
  have e : l = l.take i ++ x :: l.drop (i + 1) := by
    obtain ⟨hlt', rfl⟩ := List.getElem?_eq_some_iff.1 hx
    rw [← List.drop_eq_getElem_cons hlt', List.take_append_drop]
  have hl : (mkCs (l.take i) k).length = i := by rw [mkCs_len, List.length_take]; omega
  have h2 : mkCs l k = mkCs (l.take i) k ++ mkCs (x :: l.drop (i + 1)) (endCs (l.take i) k) := by rw [← mkCs_app, ← e]
  rw [h2, List.getElem?_append_right (by omega), hl, Nat.sub_self]
  rfl
attribute [local irreducible] mkC mkCs endCs
set_option maxHeartbeats 4000000 in
set_option maxRecDepth 100000 in
theorem v_laws_heldItemSS : Valid Try.prog n_laws_heldItemSS S_laws_heldItemSS := by
  refine valid_of_swp mixed is_laws_heldItemSS (by rintro _ ⟨a, rfl, _⟩; exact Nat.le_of_ble_eq_true rfl) ?_
  rintro _ rm ⟨⟨l, k0⟩, rfl, hsm, hk0, hkM⟩ hl
  dsimp only at hsm hk0 hkM
  have hlen : l.length ≤ 2097152 := hsm.1
  have hlenL : l.length ≤ LIM := Nat.le_trans hlen (by decide)
  have hml := mkCs_len l k0
  have hbd := fun i => endCs_bounds (l.take i) k0 fun v hv => hsm.2 v (List.mem_of_mem_take hv)
  have htl : ∀ i, (l.take i).length ≤ l.length := fun i => by rw [List.length_take]; omega
  repeat' ((conv => whnf); first
    | refine ⟨_, rfl, ?_⟩
    | refine ⟨rfl, ?_⟩
    | refine ⟨_, _, rfl, at_map (by assumption), ?_⟩
    | refine idx_mapX (i := 0) rfl (by assumption) ?_
    | refine idx_map (by omega) (fun x hx => ?_)
    | refine idx_mapX (wrap_dn (by omega) (by omega)) (by assumption) ?_
    | refine idx_mapE (wrap_dn (by omega) (by omega)) (by omega) (fun x hx => ?_)
    | refine idx_mapL (by omega) (by first | assumption | (simp only [LIM]; omega)) (fun x hx => ?_)
    | refine idx_mapI (by omega) (by first | omega | (simp only [List.length_map] at *; omega)) (fun x hx => ?_)
    | refine ⟨_, ldc_cells hupd_at (Nat.le_of_ble_eq_true rfl), ?_⟩
    | refine ⟨_, ldc_cells (by first | assumption | exact zk ‹_› (by omega) | exact zk (zk ‹_› (by omega)) (by omega)) (Nat.le_of_ble_eq_true rfl), ?_⟩
    | (refine ⟨fun hc => ?_, fun hc => ?_⟩ <;> (try simp (disch := omega) only [List.length_map, wrap64] at hc))
    | fail)
  conv => whnf
  refine ⟨fun fr H nx rm' => ∃ i : Nat, Has fr [(0, one (csF (mkCs l k0))), (1, I (endCs (l.take i) k0)), (5, I i)] ∧ i ≤ l.length ∧ 1 ≤ nx ∧ H 0 = none ∧ rm' = rm,
    fun fr _ _ _ => l.length - ix (fr 5), ⟨0, ⟨rfl, congrArg I (by simp [endCs]), rfl, trivial⟩, Nat.zero_le _, ln_, ne_, rfl⟩, ?_⟩
  rintro fr H nx rm' ⟨i, hfr, hi, hnx, hH, rfl⟩
  rw [hfr.eq]
  have hb := hbd i
  have ht := htl i
  rcases Nat.lt_or_ge i l.length with hi' | hi'
  · obtain ⟨x, hx⟩ : ∃ x, l[i]? = some x := ⟨_, List.getElem?_eq_getElem hi'⟩
    have hxc : x.length ≤ SM := hsm.2 x (List.mem_of_getElem? hx)
    have hxc' := hxc
    simp only [SM] at hxc'
    have hat := mkCs_at (k := k0) hx
    have hb' := hbd (i + 1)
    have ht' := htl (i + 1)
    have hee := endCs_take hx k0
    repeat' ((conv => whnf); first
      | refine ⟨_, _, rfl, at_map hat, ?_⟩
      | (refine calle (b := [one (chF (mkC x.length (endCs (l.take i) k0))), I (endCs (l.take i) k0)]) v_laws_heldItemS rfl ⟨(x.length, endCs (l.take i) k0), rfl, hxc, by dsimp only; omega, by dsimp only [MK]; omega⟩ (.inl rfl) (by exact hl) (fun r hr => K_laws_heldItemS hr) ?_)
      | (refine ⟨⟨i + 1, ⟨rfl, congrArg I hee.symm, congrArg I (wrap_up hi' hlenL), trivial⟩, hi', by omega, h0_, rfl⟩, ?_⟩; show l.length - ix (I _) < l.length - ix (I _); simp only [wrap_up hi' hlenL, ix, Int.toNat_natCast]; omega)
      | refine ⟨_, rfl, ?_⟩
      | refine ⟨rfl, ?_⟩
      | refine ⟨_, _, rfl, at_map (by assumption), ?_⟩
      | refine idx_mapX (i := 0) rfl (by assumption) ?_
      | refine idx_map (by omega) (fun x hx => ?_)
      | refine idx_mapX (wrap_dn (by omega) (by omega)) (by assumption) ?_
      | refine idx_mapE (wrap_dn (by omega) (by omega)) (by omega) (fun x hx => ?_)
      | refine idx_mapL (by omega) (by first | assumption | (simp only [LIM]; omega)) (fun x hx => ?_)
      | refine idx_mapI (by omega) (by first | omega | (simp only [List.length_map] at *; omega)) (fun x hx => ?_)
      | refine ⟨_, ldc_cells hupd_at (Nat.le_of_ble_eq_true rfl), ?_⟩
      | refine ⟨_, ldc_cells (by first | assumption | exact zk ‹_› (by omega) | exact zk (zk ‹_› (by omega)) (by omega)) (Nat.le_of_ble_eq_true rfl), ?_⟩
      | (refine ⟨fun hc => ?_, fun hc => ?_⟩ <;> (try simp (disch := omega) only [List.length_map, wrap64] at hc) <;> (try (exfalso; first | contradiction | omega)))
      | fail)
  · have hie : i = l.length := by omega
    subst hie
    rw [List.take_length] at hfr ⊢
    repeat' ((conv => whnf); first
      | exact ⟨⟨_, rfl, rfl, (l, k0), rfl, rfl⟩, Nat.le_refl _, h0_⟩
      | refine ⟨_, rfl, ?_⟩
      | refine ⟨rfl, ?_⟩
      | refine ⟨_, _, rfl, at_map (by assumption), ?_⟩
      | refine idx_mapX (i := 0) rfl (by assumption) ?_
      | refine idx_map (by omega) (fun x hx => ?_)
      | refine idx_mapX (wrap_dn (by omega) (by omega)) (by assumption) ?_
      | refine idx_mapE (wrap_dn (by omega) (by omega)) (by omega) (fun x hx => ?_)
      | refine idx_mapL (by omega) (by first | assumption | (simp only [LIM]; omega)) (fun x hx => ?_)
      | refine idx_mapI (by omega) (by first | omega | (simp only [List.length_map] at *; omega)) (fun x hx => ?_)
      | refine ⟨_, ldc_cells hupd_at (Nat.le_of_ble_eq_true rfl), ?_⟩
      | refine ⟨_, ldc_cells (by first | assumption | exact zk ‹_› (by omega) | exact zk (zk ‹_› (by omega)) (by omega)) (Nat.le_of_ble_eq_true rfl), ?_⟩
      | (refine ⟨fun hc => ?_, fun hc => ?_⟩ <;> (try simp (disch := omega) only [List.length_map, wrap64] at hc) <;> (try (exfalso; first | contradiction | omega)))
      | fail)
set_option maxHeartbeats 4000000 in
set_option maxRecDepth 100000 in
theorem v_laws_eqItemSS : Valid Try.prog n_laws_eqItemSS S_laws_eqItemSS := by
  refine valid_of_swp mixed is_laws_eqItemSS (by rintro _ ⟨a, rfl, _⟩; exact Nat.le_of_ble_eq_true rfl) ?_
  rintro _ rm ⟨⟨l, m⟩, rfl, hpre⟩ hl
  try dsimp only at hpre
  have hpre0 := hpre
  obtain ⟨hp1, hp2⟩ := hpre
  repeat' ((conv => whnf); first
    | refine ⟨_, rfl, ?_⟩
    | refine ⟨rfl, ?_⟩
    | refine ⟨_, _, rfl, at_map (by assumption), ?_⟩
    | refine idx_mapX (i := 0) rfl (by assumption) ?_
    | refine idx_map (by omega) (fun x hx => ?_)
    | refine idx_mapX (wrap_dn (by omega) (by omega)) (by assumption) ?_
    | refine idx_mapE (wrap_dn (by omega) (by omega)) (by omega) (fun x hx => ?_)
    | refine idx_mapL (by omega) (by first | assumption | (simp only [LIM]; omega)) (fun x hx => ?_)
    | refine idx_mapI (by omega) (by first | omega | (simp only [List.length_map] at *; omega)) (fun x hx => ?_)
    | refine ⟨_, ldc_cells hupd_at (Nat.le_of_ble_eq_true rfl), ?_⟩
    | refine ⟨_, ldc_cells (by first | assumption | exact zk ‹_› (by omega) | exact zk (zk ‹_› (by omega)) (by omega)) (Nat.le_of_ble_eq_true rfl), ?_⟩
    | (refine ⟨fun hc => ?_, fun hc => ?_⟩ <;> (try simp (disch := omega) only [List.length_map, wrap64] at hc))
    | exact ⟨⟨_, rfl, rfl, (l, m), rfl, (by refine congrArg B (Eq.symm (tb_pos ?_)); (try dsimp only); first | done | exact absurd True.intro hj | ((rintro rfl; simp at hc)))⟩, (by first | exact Nat.le_refl _ | omega), (by exact h0_)⟩
    | exact ⟨⟨_, rfl, rfl, (l, m), rfl, (by refine congrArg B (Eq.symm (tb_neg ?_)); (try dsimp only); first | done | exact absurd True.intro hj | ((rintro rfl; simp at hc)))⟩, (by first | exact Nat.le_refl _ | omega), (by exact h0_)⟩
    | fail)
  conv => whnf
  refine ⟨fun fr H nx rm' => ∃ (i : Nat), Has fr [(0, one (csF l)), (1, one (csF m)), (5, I i)] ∧ i ≤ l.length ∧ (∀ j x, j < i → l[j]? = some x → m[j]? = some x) ∧ 1 ≤ nx ∧ H 0 = none ∧ rm' = rm,
    fun fr _ _ _ => l.length - ix (fr 5), ⟨0, ⟨(by first | rfl | (show I _ = I _; simp)), (by first | rfl | (show I _ = I _; simp)), (by first | rfl | (show I _ = I _; simp)), trivial⟩, Nat.zero_le _, (by first | trivial | rfl | (intros; omega) | simp), (by first | decide | omega), (by exact h0_), rfl⟩, ?_⟩
  rintro fr H nx rm' ⟨i, hfr, hi, hq, hnx, hH, rfl⟩
  rw [hfr.eq]
  repeat' ((conv => whnf); first
    | refine ⟨_, rfl, ?_⟩
    | refine ⟨rfl, ?_⟩
    | refine ⟨_, _, rfl, at_map (by assumption), ?_⟩
    | refine idx_mapX (i := 0) rfl (by assumption) ?_
    | refine idx_map (by omega) (fun x hx => ?_)
    | refine idx_mapX (wrap_dn (by omega) (by omega)) (by assumption) ?_
    | refine idx_mapE (wrap_dn (by omega) (by omega)) (by omega) (fun x hx => ?_)
    | refine idx_mapL (by omega) (by first | assumption | (simp only [LIM]; omega)) (fun x hx => ?_)
    | refine idx_mapI (by omega) (by first | omega | (simp only [List.length_map] at *; omega)) (fun x hx => ?_)
    | refine ⟨_, ldc_cells hupd_at (Nat.le_of_ble_eq_true rfl), ?_⟩
    | refine ⟨_, ldc_cells (by first | assumption | exact zk ‹_› (by omega) | exact zk (zk ‹_› (by omega)) (by omega)) (Nat.le_of_ble_eq_true rfl), ?_⟩
    | (refine ⟨fun hc => ?_, fun hc => ?_⟩ <;> (try simp (disch := omega) only [List.length_map, wrap64] at hc))
    | (refine callt (b := [one (chF _), one (chF _)]) v_laws_eqItemS rfl ⟨(_, _), rfl, (by refine ⟨?_, ?_⟩ <;> (exact pr_))⟩ (.inl rfl) (by first | assumption | omega) (fun r hr => K_laws_eqItemS (a := (_, _)) hr) (fun hj => ?_) (fun hj => ?_) <;> (try simp only [etaPa, etaIt, etaVo] at hj))
    | (refine ⟨⟨i + 1, ⟨rfl, rfl, congrArg I (wrap_up (n := l.length) (by omega) (hp1.1)), trivial⟩, (by omega), (by grind), (by omega), (by exact h0_), rfl⟩, ?_⟩; show l.length - ix (I _) < l.length - ix (I _); simp only [wrap_up (n := l.length) (i := i) (by omega) (hp1.1), ix, Int.toNat_natCast]; omega)
    | exact ⟨⟨_, rfl, rfl, (l, m), rfl, (by refine congrArg B (Eq.symm (tb_pos ?_)); (try dsimp only); first | done | exact absurd True.intro hj | (first | grind | (exact ext_of (by omega) (by grind)) ))⟩, (by first | exact Nat.le_refl _ | omega), (by exact h0_)⟩
    | exact ⟨⟨_, rfl, rfl, (l, m), rfl, (by refine congrArg B (Eq.symm (tb_neg ?_)); (try dsimp only); first | done | exact absurd True.intro hj | (first | grind | (exact ext_of (by omega) (by grind)) ))⟩, (by first | exact Nat.le_refl _ | omega), (by exact h0_)⟩
    | fail)
end Av
end Go.Proofs.Ytmboljfckljjhaa
