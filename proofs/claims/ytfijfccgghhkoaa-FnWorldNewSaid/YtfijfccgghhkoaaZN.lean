/- The walks: the reference's functions on worlds: ticks, events, new worlds. -/
import Derived.Test.YtfijfccgghhkoaaZM
set_option linter.unusedVariables false
set_option linter.unusedSimpArgs false
namespace Go.Proofs.Ytfijfccgghhkoaa
namespace Av
open Go.RowKit
attribute [local irreducible] Valid ValidM
theorem ndsK_snoc {f : Nat → Nat} {l : List Nd} {n : Nd} {t : Nat} : ndsK f l ++ [ndK n t] = ndsK (fupd f (l.length + 1) t) (l ++ [n]) := by
  apply List.ext_getElem?
  intro j
  rw [ndsK_get]
  by_cases h : j < l.length
  · rw [List.getElem?_append_left (by rw [ndsK_len]; exact h), List.getElem?_append_left h, ndsK_get, fupd_ne (by omega)]
  · rw [List.getElem?_append_right (by rw [ndsK_len]; omega), List.getElem?_append_right (by omega), ndsK_len]
    by_cases e : j = l.length
    · subst e; rw [Nat.sub_self, fupd_at]; rfl
    · rw [List.getElem?_eq_none (by simp; omega), List.getElem?_eq_none (by simp; omega)]; rfl
theorem newW_at {bad : Int} {i : Nat} (h : i < 4) : (newW bad).nodes[i]? = some ⟨((i + 1 : Nat) : Int), 0, 0, []⟩ := by
  match i, h with
  | 0, _ => rfl
  | 1, _ => rfl
  | 2, _ => rfl
  | 3, _ => rfl
theorem newW_take {bad : Int} {i : Nat} (h : i < 4) : (newW bad).nodes.take (i + 1) = (newW bad).nodes.take i ++ [⟨((i + 1 : Nat) : Int), 0, 0, []⟩] := by
  rw [List.take_add_one, newW_at h]; rfl
theorem newW_snoc {bad : Int} {f : Nat → Nat} {i t : Nat} (h : i < 4) : ndsK f ((newW bad).nodes.take i) ++ [ndK ⟨((i + 1 : Nat) : Int), 0, 0, []⟩ t] = ndsK (fupd f (i + 1) t) ((newW bad).nodes.take (i + 1)) := by
  rw [ndsK_snoc, newW_take h, List.length_take, show min i (newW bad).nodes.length = i from by show min i 4 = i; omega]
set_option maxHeartbeats 4000000 in
set_option maxRecDepth 100000 in
theorem v_spec_WorldNew : ValidM Try.prog n_spec_WorldNew S_spec_WorldNew := by
  refine validM_of_swp mixed is_spec_WorldNew (by rintro _ _ ⟨a, rfl, _⟩; exact Nat.le_of_ble_eq_true rfl) ?_
  rintro _ _ rm ⟨bad, rfl, rfl, hpre⟩ hl
  try dsimp only at hpre
  have hst : S_spec_NodeNew.st = 0 := rfl
  change swp _ _ _ _ _ 0 _
  dsimp only
  repeat' ((conv => whnf); first
    | refine ⟨_, _, hupd_at, rfl, rfl, Nat.le_of_ble_eq_true rfl, ?_⟩
    | (refine callt (b := [I _, I _, I _]) v_spec_l6In rfl ⟨(_, _, _), rfl, (by exact True.intro)⟩ (.inl rfl) (by first | assumption | omega) (fun r hr => K_spec_l6In (a := (_, _, _)) hr) (fun hj => ?_) (fun hj => ?_) <;> (try simp only [etaPa, etaIt, etaVo] at hj) <;> (try contradiction))
    | fail)
  conv => whnf
  refine ⟨fun fr H nx rm' => ∃ (i kN : Nat) (f : Nat → Nat) (cN : AC), Has fr [(2, .w (.o (.ptr 0 0))), (4, .w (.o (.ptr 128 0))), (5, I ((i + 1 : Nat) : Int))] ∧ i ≤ 4 ∧ H 128 = some (.cells [cI 0, cN, tkC (f 0) [], cI bad]) ∧ H 0 = some (.cells [cI 0, .e0, .e0, cI 0]) ∧
      ((i = 0 ∧ cN = .e0) ∨ (0 < i ∧ cN = .ow kN ∧ H kN = some (.arr ty_impl_Node 4 (ndsK f ((newW bad).nodes.take i))))) ∧ kN < nx ∧ (∀ j, j ≤ i → H (f j) = some (tokO []) ∧ f j < nx) ∧ (∀ a b, a ≤ i → b ≤ i → f a = f b → a = b) ∧ 160 ≤ nx ∧ rm' = rm,
    fun fr _ _ _ => 5 - ix (fr 5), ⟨0, 0, fun _ => 96, .e0, ⟨rfl, rfl, rfl, trivial⟩, Nat.zero_le _, hk_, hk_, .inl ⟨rfl, rfl⟩, by omega, fun j hj => ⟨hk_, (by show 96 < _; omega)⟩, fun a b ha hb _ => by omega, ln_, rfl⟩, ?_⟩
  rintro fr H nx rm' ⟨i, kN, f, cN, hfr, hi, hH1, hH0, hN, hkn, hf, hinj, hnx, rfl⟩
  rw [hfr.eq]
  rcases Nat.lt_or_ge i 4 with hi' | hi'
  · have hin : In ((i + 1 : Nat) : Int) 1 4 := ⟨by omega, by omega⟩
    have hin2 : In ((i : Int) + 1) 1 4 := ⟨by omega, by omega⟩
    have hd : ∀ j, j ≤ i → f j ≠ 128 ∧ f j ≠ 0 := fun j hj => by
      have := (hf j hj).1
      exact ⟨(fun e => by rw [e, hH1] at this; cases this), (fun e => by rw [e, hH0] at this; cases this)⟩
    rcases hN with ⟨rfl, rfl⟩ | ⟨h0, rfl, hA⟩
    · skip
      repeat' ((conv => whnf); first
        | refine mq_nn v_spec_NodeNew (by first | assumption | omega) hin rfl ?_
        | refine ⟨_, ldc_cells hk_ (Nat.le_of_ble_eq_true rfl), ?_⟩
        | refine ⟨_, news_ow hupd_at, newsz_ow hupd_at, (by simp), ?_⟩
        | refine ⟨rfl, ?_⟩
        | refine ⟨_, _, hupd_at, rfl, rfl, Nat.le_of_ble_eq_true rfl, ?_⟩
        | (refine ⟨?_, _, (?_ : (_ : Option Ob) = _), rfl, rfl, ?_, ?_⟩; rotate_left; (exact hk_); exact Nat.le_of_ble_eq_true rfl)
        | (refine ⟨fun hc => ?_, fun hc => ?_⟩ <;> (try simp (disch := omega) only [List.length_map, wrap64] at hc) <;> (try (exfalso; first | contradiction | omega)))
        | fail)
      refine ⟨⟨0 + 1, _, fupd f (0 + 1) (nx + 16 + 16 + 16), _, ⟨rfl, rfl, congrArg I (wrap_up (n := 5) (i := 0 + 1) (by omega) (by decide)), trivial⟩, by omega, hk_, hk_, .inr ⟨by omega, rfl, ?_⟩, ln_, fun j hj => ?_, fun a b ha hb e => ?_, by omega, rfl⟩, ?_⟩
      · refine Eq.trans (b := some (Ob.arr ty_impl_Node 4 (ndsK f ((newW bad).nodes.take 0) ++ [ndK ⟨((0 + 1 : Nat) : Int), 0, 0, []⟩ (nx + 16 + 16 + 16)]))) hk_ ?_
        exact congrArg (fun z => some (Ob.arr ty_impl_Node 4 z)) (newW_snoc (f := f) hi')
      · by_cases e : j = 0 + 1
        · subst e
          rw [fupd_at]
          exact ⟨hk_, by omega⟩
        · rw [fupd_ne e]
          obtain ⟨g1, g2⟩ := hf j (by omega)
          obtain ⟨g3, g4⟩ := hd j (by omega)
          skip
          refine ⟨?_, by omega⟩
          refine Eq.trans (b := H (f j)) ?_ g1
          (repeat (refine (hupd_ne (by omega)).trans ?_)); rfl
      · by_cases ea : a = 0 + 1
        · subst ea
          by_cases eb : b = 0 + 1
          · exact eb.symm
          · rw [fupd_at, fupd_ne eb] at e
            have := (hf b (by omega)).2
            omega
        · rw [fupd_ne ea] at e
          by_cases eb : b = 0 + 1
          · subst eb
            rw [fupd_at] at e
            have := (hf a (by omega)).2
            omega
          · rw [fupd_ne eb] at e
            exact hinj a b (by omega) (by omega) e
      · show 5 - ix (I _) < 5 - ix (I _)
        simp only [wrap_up (n := 5) (i := 0 + 1) (by omega) (by decide), ix, Int.toNat_natCast]
        omega
    · have hk1 : kN ≠ 128 := fun e => by rw [e, hH1] at hA; cases hA
      have hk2 : kN ≠ 0 := fun e => by rw [e, hH0] at hA; cases hA
      have hln : (ndsK f ((newW bad).nodes.take i)).length = i := by rw [ndsK_len, List.length_take]; show min i 4 = i; omega
      repeat' ((conv => whnf); first
        | refine mq_nn v_spec_NodeNew (by first | assumption | omega) hin rfl ?_
        | refine ⟨_, ldc_cells hk_ (Nat.le_of_ble_eq_true rfl), ?_⟩
        | refine ⟨_, news_ow hupd_at, newsz_ow hupd_at, _, (hk_ : (_ : Option Ob) = _), (by rw [hln]; simp; omega), ?_⟩
        | refine ⟨rfl, ?_⟩
        | refine ⟨_, _, hupd_at, rfl, rfl, Nat.le_of_ble_eq_true rfl, ?_⟩
        | (refine ⟨?_, _, (?_ : (_ : Option Ob) = _), rfl, rfl, ?_, ?_⟩; rotate_left; (exact hk_); exact Nat.le_of_ble_eq_true rfl)
        | (refine ⟨fun hc => ?_, fun hc => ?_⟩ <;> (try simp (disch := omega) only [List.length_map, wrap64] at hc) <;> (try (exfalso; first | contradiction | omega)))
        | fail)
      refine ⟨⟨i + 1, _, fupd f (i + 1) (nx + 16 + 16 + 16), _, ⟨rfl, rfl, congrArg I (wrap_up (n := 5) (i := i + 1) (by omega) (by decide)), trivial⟩, by omega, hk_, hk_, .inr ⟨by omega, rfl, ?_⟩, ln_, fun j hj => ?_, fun a b ha hb e => ?_, by omega, rfl⟩, ?_⟩
      · refine Eq.trans (b := some (Ob.arr ty_impl_Node 4 (ndsK f ((newW bad).nodes.take i) ++ [ndK ⟨((i + 1 : Nat) : Int), 0, 0, []⟩ (nx + 16 + 16 + 16)]))) hk_ ?_
        exact congrArg (fun z => some (Ob.arr ty_impl_Node 4 z)) (newW_snoc (f := f) hi')
      · by_cases e : j = i + 1
        · subst e
          rw [fupd_at]
          exact ⟨hk_, by omega⟩
        · rw [fupd_ne e]
          obtain ⟨g1, g2⟩ := hf j (by omega)
          obtain ⟨g3, g4⟩ := hd j (by omega)
          have g5 : f j ≠ kN := fun e => by rw [e, hA] at g1; cases g1
          refine ⟨?_, by omega⟩
          refine Eq.trans (b := H (f j)) ?_ g1
          (repeat (refine (hupd_ne (by omega)).trans ?_)); rfl
      · by_cases ea : a = i + 1
        · subst ea
          by_cases eb : b = i + 1
          · exact eb.symm
          · rw [fupd_at, fupd_ne eb] at e
            have := (hf b (by omega)).2
            omega
        · rw [fupd_ne ea] at e
          by_cases eb : b = i + 1
          · subst eb
            rw [fupd_at] at e
            have := (hf a (by omega)).2
            omega
          · rw [fupd_ne eb] at e
            exact hinj a b (by omega) (by omega) e
      · show 5 - ix (I _) < 5 - ix (I _)
        simp only [wrap_up (n := 5) (i := i + 1) (by omega) (by decide), ix, Int.toNat_natCast]
        omega
  · have hie : i = 4 := by omega
    subst hie
    rcases hN with ⟨h0, _⟩ | ⟨h0, rfl, hA⟩
    · exact absurd h0 (by decide)
    repeat' ((conv => whnf); first
      | refine ⟨rfl, ?_⟩
      | refine ⟨_, ldc_cells (by first | assumption | exact zk ‹_› (by omega) | exact zk (zk ‹_› (by omega)) (by omega)) (Nat.le_of_ble_eq_true rfl), ?_⟩
      | (refine ⟨?_, _, (?_ : (_ : Option Ob) = _), rfl, rfl, ?_, ?_⟩; rotate_left; (exact hk_); exact Nat.le_of_ble_eq_true rfl)
      | (refine ⟨fun hc => ?_, fun hc => ?_⟩ <;> (try simp (disch := omega) only [List.length_map, wrap64] at hc) <;> (try (exfalso; first | contradiction | omega)))
      | fail)
    have hW : WAt H nx (newW bad) kN f := ⟨hA, fun j hj => by
      rw [(hf j (by omega)).1]
      match j, hj with
      | 0, _ => rfl
      | 1, _ => rfl
      | 2, _ => rfl
      | 3, _ => rfl
      | 4, _ => rfl, fun a b ha hb => hinj a b (by omega) (by omega), hkn, fun j hj => (hf j (by omega)).2, rfl⟩
    exact finM_nW (w := newW bad) (kN := kN) (f := f) (Nat.le_add_right _ _) (hW.box hH0) (fun ks => ⟨⟨_, rfl, .inl rfl⟩, ⟨_, rfl, .inl rfl⟩, trivial⟩) ⟨bad, rfl, rfl, rfl, rfl⟩
end Av
end Go.Proofs.Ytfijfccgghhkoaa
