/- Texts of the layer, joined. -/
import Derived.Test.YtdboofnogabefaaJ45
import Derived.Test.YtdboofnogabefaaJ22
import Derived.Test.YtdboofnogabefaaZC
import Derived.Test.YtdboofnogabefaaZG
set_option linter.unusedVariables false
set_option linter.unusedSimpArgs false
namespace Go.Proofs.Ytdboofnogabefaa
namespace Av
open Go.RowKit
theorem arA_len {α : Type} {F : α → List FV} (l : List α) : (arA F l).length = l.length := by simp [arA]
set_option maxHeartbeats 4000000 in
set_option maxRecDepth 100000 in
theorem v_slices_Clip_ISS_o : ValidM Try.prog n_slices_Clip_ISS_o S_slices_Clip_ISS_o := by
  refine validM_of_swp mixed is_slices_Clip_ISS_o (by rintro _ _ ⟨a, rfl, _⟩; exact Nat.le_of_ble_eq_true rfl) ?_
  rintro _ _ rm ⟨l, rfl, rfl, -⟩ hl
  have hE1 : ∀ j v, l[j]? = some v → (nC.In l)[j + 1]? = some (nC.ob1 v) := fun j v h => Nest.In_at h
  have hlen : (nC.In l).length = l.length + 1 := Nest.In_len
  have hkl : (nC.K (· + 1) l).length = l.length := Nest.K_len
  conv => whnf
  refine ⟨_, _, _, rfl, ?_⟩
  conv => whnf
  refine ⟨_, _, _, rfl, ?_⟩
  conv => whnf
  refine .inl ⟨0, _, nC.K (· + 1) l, rfl, rfl, rfl, rfl, ?_⟩
  conv => whnf
  refine finM_nclip (l := l) hlen (Nat.le_refl _) ?_ hupd_at (by omega) (fun j v hj => ?_) ⟨⟨_, rfl, .inl rfl⟩, trivial⟩ ⟨l, rfl, rfl, rfl, rfl⟩
  · rw [hupd_ne (by omega)]; exact hupd_at
  · have hj' := (List.getElem?_eq_some_iff.1 hj).1
    rw [hupd_ne (by omega), hupd_ne (by omega)]; exact hE1 j v hj
set_option maxHeartbeats 4000000 in
set_option maxRecDepth 100000 in
theorem v_impl_votes_all_o : ValidM Try.prog n_impl_votes_all_o S_impl_votes_all_o := by
  refine validM_of_swp mixed is_impl_votes_all_o (by rintro _ _ ⟨a, rfl, _⟩; exact Nat.le_of_ble_eq_true rfl) ?_
  rintro _ _ rm ⟨l, rfl, rfl, hfit, hsm⟩ hl
  change swp _ _ _ _ _ 0 _
  have hsm' := hsm
  simp only [SM] at hsm'
  conv => whnf
  refine ⟨fun fr H nx rm' => ∃ (i k : Nat) (f : Nat → Nat) (out : List (List It)), Has fr [(0, one (vsF l)), (3, .w (.o (.ow k))), (9, one (vsF l)), (10, I l.length), (11, I i)] ∧ i ≤ l.length ∧ allFrom l (l.drop i) out = allS l ∧
      nC.At H nx k f out ∧ out.length ≤ i + 1 ∧ (∀ c, c ∈ out → c.length ≤ LIM) ∧ rm' = rm,
    fun fr _ _ _ => l.length - ix (fr 11), ⟨0, _, fun _ => _, [[]], ⟨rfl, rfl, rfl, by show I _ = I _; simp, rfl, trivial⟩, Nat.zero_le _, rfl, ⟨hupd_at, fun j v hj => ?_, fun j hj => ?_, fun j j' hj hj' _ => ?_, ?_, fun j hj => ?_⟩, by decide, by simp, rfl⟩, ?_⟩
  · cases j with
    | zero => cases hj; exact (hupd_ne (by omega)).trans hupd_at
    | succ j => simp at hj
  · omega
  · simp only [List.length_cons, List.length_nil] at hj hj'; omega
  · omega
  · omega
  rintro fr H nx rm' ⟨i, k, f, out, hfr, hi, hq, hA, hol, hoc, rfl⟩
  rw [hfr.eq]
  have hkn := hA.lt
  conv => whnf
  refine ⟨rfl, ?_⟩
  conv => whnf
  refine ⟨fun h2 => ?_, fun h2 => ?_⟩
  · have h2 : i < l.length := by simpa using h2
    obtain ⟨v, hv⟩ : ∃ v, l[i]? = some v := ⟨_, List.getElem?_eq_getElem h2⟩
    have hvm : v ∈ l := List.mem_of_getElem? hv
    have hvc : v.c.length ≤ LIM := hfit.2 v hvm
    have hdrop : l.drop i = v :: l.drop (i + 1) := by
      obtain ⟨hlt', rfl⟩ := List.getElem?_eq_some_iff.1 hv
      exact List.drop_eq_getElem_cons hlt'
    rw [hdrop] at hq
    conv => whnf
    refine ⟨rfl, i, _, rfl, at_map hv, ?_⟩
    conv => whnf
    refine ⟨_, rfl, ?_⟩
    conv => whnf
    refine ⟨_, _, hupd_at, rfl, rfl, Nat.le_of_ble_eq_true rfl, ?_⟩
    conv => whnf
    refine callq (b := [one (csF out), fnAll v]) ?_ ⟨(out, v), rfl, ⟨by dsimp only; simp only [LIM]; omega, hoc⟩, hvc⟩ v_slices_ContainsFunc_ISS (.inr ⟨rfl, rfl⟩) hl fun r hr => ?_
    · exact l2 (congrArg (fun x => AV.w (.o x)) (Nest.At.bor (N := nC) (b := nx) (f := f) (l := out) (hA.mono (Nat.le_refl _) fun j hj => by rw [hupd_ne (by omega), hupd_ne (by omega)]))) (congrArg (fun x => AV.fn (.func n_impl_votes_all_1) [] [.o x]) (bor_cells hupd_at (fcells_c (voF v))))
    rcases J_ContainsFunc_ISS (l := out) (v := v) hr with ⟨h3, rfl⟩ | ⟨h3, rfl⟩
    · conv => whnf
      refine ⟨rfl, ?_⟩
      conv => whnf
      refine ⟨⟨i + 1, k, f, out, ⟨rfl, rfl, rfl, rfl, congrArg I (wrap_up h2 hfit.1), trivial⟩, h2, ?_, hA.mono (by omega) fun j hj => by rw [hupd_ne (by omega), hupd_ne (by omega)], by omega, hoc, rfl⟩, ?_⟩
      · rw [← hq, all_no fun h => h.1 h3]
      · show l.length - ix (I _) < l.length - ix (I _)
        simp only [wrap_up h2 hfit.1, ix, Int.toNat_natCast]
        omega
    · conv => whnf
      refine ⟨_, ldc_cells hupd_at (Nat.le_of_ble_eq_true rfl), ?_⟩
      conv => whnf
      refine ⟨⟨(l, v.c), rfl, hfit, hvc⟩, v_impl_votes_sure, .inl rfl, hl, fun r hr => ?_⟩
      rcases J_sure (l := l) (c := v.c) hr with ⟨h4, rfl⟩ | ⟨h4, rfl⟩
      · conv => whnf
        refine ⟨_, ldc_cells hupd_at (Nat.le_of_ble_eq_true rfl), ?_⟩
        conv => whnf
        refine OQ.mk1 (ar := [one (chF v.c)]) rfl ⟨v.c, rfl, hvc⟩ vO_impl_copied (so_impl_copied v.c) ?_
        conv => whnf
        refine ⟨_, news_ow hupd_at, newsz_ow hupd_at, nC.K f out, ?_, ?_, ?_⟩
        · exact zk (zk (zk (zk hA.out (by omega)) (by omega)) (by omega)) (by omega)
        · rw [Nest.K_len]
          simp only [List.length_cons, List.length_nil]
          omega
        · conv => whnf
          refine ⟨rfl, ?_⟩
          conv => whnf
          refine ⟨⟨i + 1, _, updF f out.length _, out ++ [v.c], ⟨rfl, rfl, rfl, rfl, congrArg I (wrap_up h2 hfit.1), trivial⟩, h2, ?_, Nest.At.snoc (N := nC) (b := nx) (x := v.c) (hA.mono (Nat.le_refl _) fun j hj => by rw [hupd_ne (by omega), hupd_ne (by omega)]) (by omega) (by omega) (by omega) (by omega), by simp only [List.length_append, List.length_cons, List.length_nil]; omega, ?_, rfl⟩, ?_⟩
          · rw [← hq, all_yes h3 h4]
          · intro c hc
            rcases List.mem_append.1 hc with hc | hc
            · exact hoc c hc
            · rw [List.mem_singleton.1 hc]; exact hvc
          · show l.length - ix (I _) < l.length - ix (I _)
            simp only [wrap_up h2 hfit.1, ix, Int.toNat_natCast]
            omega
      · conv => whnf
        refine ⟨rfl, ?_⟩
        conv => whnf
        refine ⟨⟨i + 1, k, f, out, ⟨rfl, rfl, rfl, rfl, congrArg I (wrap_up h2 hfit.1), trivial⟩, h2, ?_, hA.mono (by omega) fun j hj => by rw [hupd_ne (by omega), hupd_ne (by omega)], by omega, hoc, rfl⟩, ?_⟩
        · rw [← hq, all_no fun h => h4 h.2]
        · show l.length - ix (I _) < l.length - ix (I _)
          simp only [wrap_up h2 hfit.1, ix, Int.toNat_natCast]
          omega
  · have h2 : l.length ≤ i := by simpa using h2
    rw [List.drop_eq_nil_of_le h2] at hq
    have hout : out = allS l := hq
    subst hout
    conv => whnf
    refine mq_nclip (N := nC) (f := f) (l := allS l) v_slices_Clip_ISS_o (by exact hl) hA (by omega) (by rfl) fun n H' e hA' ho => ?_
    conv => whnf
    exact finM_nest (N := nC) (f := f) (l := allS l) (Nat.le_refl _) hA' ⟨⟨_, rfl, .inl rfl⟩, trivial⟩ ⟨l, rfl, rfl, hsm, rfl, rfl⟩
set_option maxHeartbeats 4000000 in
set_option maxRecDepth 100000 in
theorem vO_impl_votes_tip : ValidM Try.prog n_impl_votes_tip_o SO_impl_votes_tip.toM := by
  refine validM_of_swp mixed is_impl_votes_tip_o (by rintro _ _ ⟨_, a, rfl, _⟩; exact Nat.le_of_ble_eq_true rfl) ?_
  rintro _ _ rm ⟨rfl, l, rfl, hfit, hsm⟩ hl
  change swp _ _ _ _ _ 0 _
  have hsm' := hsm
  simp only [SM] at hsm'
  have hal := allS_len l
  have hst : S_impl_votes_all_o.st = 4194304 := NB_eq
  conv => whnf
  refine mq_nest (N := nC) (l := allS l) (ar := [one (vsF l)]) v_impl_votes_all_o (by exact hl) (by rfl) (by rfl) ⟨l, rfl, rfl, hfit, hsm⟩ (by rw [hst]; omega) (fun r obs' h => K_nestV h) fun n H' e hA ho => ?_
  generalize hcs : allS l = cs at *
  have hlen : cs.length ≤ LIM := by simp only [LIM]; omega
  conv => whnf
  refine ⟨_, _, _, hA.out, ?_⟩
  conv => whnf
  refine ⟨fun fr H nx rm' => ∃ (i kk : Nat) (o : List It), Has fr [(3, .w (.o (.ow kk))), (8, .w (.o (.ow n))), (9, I cs.length), (10, I i)] ∧ i ≤ cs.length ∧ (cs.drop i).foldl longer o = tip l ∧ H' kk = some (itO o) ∧ H = H' ∧ rm' = rm,
    fun fr _ _ _ => cs.length - ix (fr 10), ⟨0, _, [], ⟨rfl, rfl, congrArg (fun z : Nat => I (z : Int)) Nest.K_len, rfl, trivial⟩, Nat.zero_le _, by rw [← hcs]; rfl, (ho _ (by omega)).trans hupd_at, rfl, rfl⟩, ?_⟩
  rintro fr H nx rm' ⟨i, kk, o, hfr, hi, hq, hkk, rfl, rfl⟩
  rw [hfr.eq]
  conv => whnf
  refine ⟨rfl, ?_⟩
  conv => whnf
  refine ⟨fun h2 => ?_, fun h2 => ?_⟩
  · have h2 : i < cs.length := by simpa using h2
    obtain ⟨c, hc⟩ : ∃ c, cs[i]? = some c := ⟨_, List.getElem?_eq_getElem h2⟩
    have hdrop : cs.drop i = c :: cs.drop (i + 1) := by
      obtain ⟨hlt', rfl⟩ := List.getElem?_eq_some_iff.1 hc
      exact List.drop_eq_getElem_cons hlt'
    rw [hdrop] at hq
    conv => whnf
    refine ⟨_, _, i, _, hA.out, rfl, Nest.K_at hc, ?_⟩
    conv => whnf
    refine ⟨_, ldc_pa hA.out (Nest.K_at hc) (Nat.le_of_ble_eq_true rfl), ?_⟩
    conv => whnf
    refine ⟨_, _, _, hA.inn i c hc, ?_⟩
    conv => whnf
    refine ⟨_, _, _, hkk, ?_⟩
    conv => whnf
    refine ⟨rfl, ?_⟩
    conv => whnf
    refine ⟨fun h3 => ?_, fun h3 => ?_⟩
    · have h3 : o.length < c.length := by
        rw [arA_len, arA_len] at h3
        simpa [nC] using h3
      conv => whnf
      refine ⟨rfl, ?_⟩
      conv => whnf
      refine ⟨⟨i + 1, _, c, ⟨rfl, rfl, rfl, congrArg I (wrap_up h2 hlen), trivial⟩, h2, ?_, hA.inn i c hc, rfl, rfl⟩, ?_⟩
      · rw [← hq]; simp only [List.foldl_cons, longer, if_pos h3]
      · show cs.length - ix (I _) < cs.length - ix (I _)
        simp only [wrap_up h2 hlen, ix, Int.toNat_natCast]
        omega
    · have h3 : ¬ o.length < c.length := by
        rw [arA_len, arA_len] at h3
        have : (c.length : Int) ≤ o.length := by simpa [nC] using h3
        omega
      conv => whnf
      refine ⟨rfl, ?_⟩
      conv => whnf
      refine ⟨⟨i + 1, _, o, ⟨rfl, rfl, rfl, congrArg I (wrap_up h2 hlen), trivial⟩, h2, ?_, hkk, rfl, rfl⟩, ?_⟩
      · rw [← hq]; simp only [List.foldl_cons, longer, if_neg h3]
      · show cs.length - ix (I _) < cs.length - ix (I _)
        simp only [wrap_up h2 hlen, ix, Int.toNat_natCast]
        omega
  · have h2 : cs.length ≤ i := by simpa using h2
    rw [List.drop_eq_nil_of_le h2] at hq
    have hq : o = tip l := hq
    subst hq
    conv => whnf
    exact finM_new (F := itF) (T := ty_impl_Item) (sz := 4) (l := tip l) (Nat.le_refl _) hkk ⟨⟨_, rfl, .inl rfl⟩, trivial⟩ ⟨rfl, rfl, by rw [so_impl_votes_tip]⟩
attribute [local irreducible] mkC
end Av
end Go.Proofs.Ytdboofnogabefaa

namespace Go.Proofs.Ytdboofnogabefaa
namespace Av
open Go.RowKit
attribute [local irreducible] Valid ValidM
end Av
end Go.Proofs.Ytdboofnogabefaa

