/- The walks: plays drawn: votes are brought. -/
import Derived.Test.YtlbdoamidblkaaaJ37
set_option linter.unusedVariables false
set_option linter.unusedSimpArgs false
namespace Go.Proofs.Ytlbdoamidblkaaa
namespace Av
open Go.RowKit
attribute [local irreducible] Valid ValidM
noncomputable def lpB : A := (.loop
 (.seq
 (.seq
 (.rg [⟨some 53, none, .mv (.t 12)⟩,
   ⟨some 54, none, .bin 0 .leq (.t 53) (.k (.int .i64 4))⟩,
   ⟨some 55, none, .mv (.t 54)⟩,
   ⟨some 56, some (55, true), .fld 2 (.t 6)⟩,
   ⟨some 57, some (55, true), .load none (.t 56)⟩,
   ⟨some 58, some (55, true), .len (.t 57)⟩,
   ⟨some 59, some (55, true), .bin 0 .gtr (.t 58) (.k (.int .i64 0))⟩,
   ⟨some 60, none, .pick (.t 55) (.t 59) (.k (.bool false))⟩])
 (.cond (.t 60)
 .skip
 (.exit 4)))
 (.seq
 (.block 5
 (.seq
 (.rg [⟨some 63, none, .fld 2 (.t 6)⟩,
   ⟨some 64, none, .load none (.t 63)⟩,
   ⟨some 65, none, .len (.t 64)⟩,
   ⟨some 66, none, .bin 0 .sub (.t 65) (.k (.int .i64 1))⟩,
   ⟨some 67, none, .mv (.t 12)⟩,
   ⟨some 68, none, .build [.int .i64 0, .int .i64 0, .int .i64 0, .int .i64 0, .int .i64 0, .int .i64 0, .int .i64 0, .slice none 0 0] [(0, 1, .k (.int .i64 3)), (1, 1, .t 66), (2, 1, .t 67)]⟩,
   ⟨some 13, none, .alloc [.int .i64 0, .int .i64 0, .int .i64 0, .int .i64 0, .int .i64 0, .int .i64 0, .int .i64 0, .slice none 0 0]⟩,
   ⟨none, none, .store 8 (.t 13) (.t 68)⟩])
 (.seq
 (.rg [⟨some 69, none, .mv (.t 8)⟩,
   ⟨some 70, none, .load (some 8) (.t 13)⟩,
   ⟨some 71, none, .bsl 65 8 [.t 70]⟩,
   ⟨some 72, none, .app 65 8 80 [.int .i64 0, .int .i64 0, .int .i64 0, .int .i64 0, .int .i64 0, .int .i64 0, .int .i64 0, .slice none 0 0] (.t 69) (.t 71)⟩,
   ⟨some 8, none, .mv (.t 72)⟩])
 (.rg [⟨some 73, none, .load (some 4) (.t 6)⟩,
   ⟨some 74, none, .load (some 8) (.t 13)⟩,
   ⟨some 75, none, .callm n_spec_l21Do S_spec_l21Do [(.t 73, [none, some 4, some 2]), (.t 74, [none, none, none, none, none, none, none, some 4])]⟩,
   ⟨none, none, .store 4 (.t 6) (.t 75)⟩]))))
 (.rg [⟨some 61, none, .mv (.t 12)⟩,
   ⟨some 62, none, .bin 0 .add (.t 61) (.k (.int .i64 1))⟩,
   ⟨some 12, none, .mv (.t 62)⟩]))))
set_option maxHeartbeats 4000000 in
set_option maxRecDepth 100000 in
theorem lpB_ok {b : List Int} {bad n9 : Int} {Q : Post} {fr : Env} {H : Hp} {nx rm : Nat} {w : Wo} {kN : Nat} {f : Nat → Nat} {kE : Nat} {evs : List (List AC)} (hP : PSt b 177 H nx w kN f kE evs) (hfr : Has fr [(0, pt0), (4, .w (.o (.ptr 33 0))), (5, I bad), (6, .w (.o (.ptr 177 0))), (8, .w (.o (.ow kE))), (9, I n9), (12, I 1)]) (hlen : evs.length ≤ 60) (hlim : rm ≤ LIM)
    (hQ : ∀ fr' H' nx' w' kN' f' kE' evs', Has fr' [(0, pt0), (4, .w (.o (.ptr 33 0))), (5, I bad), (6, .w (.o (.ptr 177 0))), (8, .w (.o (.ow kE'))), (9, I n9)] → PSt b 177 H' nx' w' kN' f' kE' evs' → evs'.length ≤ evs.length + 4 → nx ≤ nx' → Q (.exit 4) fr' H' nx' rm) : swp Try.prog lpB Q fr H nx rm := by
  obtain ⟨nx0, hnx0⟩ : ∃ z, z = nx := ⟨_, rfl⟩
  rw [← hnx0] at hQ
  conv => whnf
  refine ⟨fun fr H nx rm' => ∃ (i : Nat) (w : Wo) (kN : Nat) (f : Nat → Nat) (kE : Nat) (evs' : List (List AC)), Has fr [(0, pt0), (4, .w (.o (.ptr 33 0))), (5, I bad), (6, .w (.o (.ptr 177 0))), (8, .w (.o (.ow kE))), (9, I n9), (12, I ((i + 1 : Nat) : Int))] ∧ i ≤ 4 ∧ PSt b 177 H nx w kN f kE evs' ∧ evs'.length ≤ evs.length + i ∧ nx0 ≤ nx ∧ rm' = rm,
    fun fr _ _ _ => 5 - ix (fr 12), ⟨0, w, kN, f, kE, evs, hfr, Nat.zero_le _, hP, by omega, by omega, rfl⟩, ?_⟩
  clear hP hfr hnx0
  rintro fr H nx rm' ⟨i, w, kN, f, kE, evs, hfr, hi, hP, hlen2, hnn, rfl⟩
  rw [hfr.eq]
  obtain ⟨hE0, hE33, hE177⟩ := hP.e0
  have hEk := hP.ke
  have hEv := hP.ev
  have hBx := hP.box
  have hRd : H 0 = some (.rd (byF b)) := hP.rd
  have hRs := hP.res
  have hNx := hP.b2
  have hFE : FitV (⟨0, []⟩ : Vo) := Nat.zero_le _
  by_cases hgo : i < 4 ∧ 0 < w.log.length
  · obtain ⟨hi', hlg⟩ := id hgo
    repeat' ((conv => whnf); first
      | refine ⟨_, ldc_cells hk_ (Nat.le_of_ble_eq_true rfl), ?_⟩
      | refine ⟨_, news_ow hupd_at, newsz_ow hupd_at, _, (hk_ : (_ : Option Ob) = _), (by simp only [List.length_cons, List.length_nil]; omega), ?_⟩
      | refine ⟨rfl, ?_⟩
      | refine ⟨_, _, hupd_at, rfl, rfl, Nat.le_of_ble_eq_true rfl, ?_⟩
      | (refine ⟨fun hc => ?_, fun hc => ?_⟩ <;> (try simp (disch := omega) only [List.length_map, wrap64] at hc) <;> (try (exfalso; first | contradiction | omega)))
      | fail)
    refine mq_W (w := w) (w' := doW w ((⟨3, IntKind.i64.wrap (((w.log.map voF).length : Int) - 1), ((i + 1 : Nat) : Int), ⟨0, 0, 0⟩, ⟨0, []⟩⟩ : Ev))) (kN := kN) (f := f) v_spec_l21Do rfl hlim (hP.wat2 (by omega) (fun k h1 h2 => by (repeat (refine (hupd_ne (by omega)).trans ?_)); rfl)) ((doW_inv hP.inv).2.2.1) rfl (fun _ => rfl) ⟨(w, (⟨3, IntKind.i64.wrap (((w.log.map voF).length : Int) - 1), ((i + 1 : Nat) : Int), ⟨0, 0, 0⟩, ⟨0, []⟩⟩ : Ev)), rfl, rfl, hP.inv, hFE⟩ (fun r obs' h => K_spec_l21Do h) (fun f' H'' hW' hT' hK' => ?_)
    have hB2 : H'' 177 = some (.cells (wvC w kN f)) := (hK' 177 (Ne.symm hP.n0.2.2) (fun j hj => (hP.f0 hj).2.2.symm) (by omega)).trans hk_
    repeat' ((conv => whnf); first
      | refine ⟨rfl, ?_⟩
      | (refine ⟨?_, _, (?_ : (_ : Option Ob) = _), rfl, rfl, ?_, ?_⟩; rotate_left; (exact hk_); exact Nat.le_of_ble_eq_true rfl)
      | fail)
    refine ⟨⟨i + 1, _, kN, f', _, _, ⟨rfl, rfl, rfl, rfl, rfl, rfl, congrArg I (wrap_up (n := 5) (i := i + 1) (by omega) (by decide)), trivial⟩, hi', hP.next (x := [cI 3, cI (IntKind.i64.wrap (((w.log.map voF).length : Int) - 1)), cI ((i + 1 : Nat) : Int), cI 0, cI 0, cI 0, cI 0, .e0]) (fun k h1 h2 => by (repeat (refine (hupd_ne (by omega)).trans ?_)); rfl) hk_ (by omega) (by omega) (by first | exact ⟨_, .inl rfl, (by assumption)⟩ | exact ⟨⟨_, _, _, ⟨_, _, _⟩, ⟨_, []⟩⟩, .inr ⟨rfl, rfl⟩, Nat.zero_le _⟩) (doW_inv hP.inv) hW' hK' (by omega), (by simp only [List.length_append, List.length_cons, List.length_nil]; omega), (by omega), rfl⟩, ?_⟩
    show 5 - ix (I _) < 5 - ix (I _)
    simp only [wrap_up (n := 5) (i := i + 1) (by omega) (by decide), ix, Int.toNat_natCast]
    omega
  · skip
    repeat' ((conv => whnf); first
      | refine ⟨rfl, ?_⟩
      | refine ⟨_, ldc_cells (by first | assumption | exact zk ‹_› (by omega) | exact zk (zk ‹_› (by omega)) (by omega)) (Nat.le_of_ble_eq_true rfl), ?_⟩
      | (refine ⟨fun hc => ?_, fun hc => ?_⟩ <;> (try simp (disch := omega) only [List.length_map, wrap64] at hc) <;> (try (exfalso; first | contradiction | omega)))
      | fail)
    all_goals exact hQ _ _ _ _ _ _ _ _ ⟨rfl, rfl, rfl, rfl, rfl, rfl, trivial⟩ (hP.keep (by omega) (fun k hk => rfl)) (by omega) (by omega)
end Av
end Go.Proofs.Ytlbdoamidblkaaa
/- The walks: plays drawn: votes are brought. -/
namespace Go.Proofs.Ytlbdoamidblkaaa
namespace Av
open Go.RowKit
attribute [local irreducible] Valid ValidM
noncomputable def lpC : A := (.loop
 (.seq
 (.seq
 (.rg [⟨some 76, none, .mv (.t 14)⟩,
   ⟨some 77, none, .bin 0 .leq (.t 76) (.k (.int .i64 4))⟩,
   ⟨some 78, none, .mv (.t 77)⟩,
   ⟨some 79, some (78, true), .fld 2 (.t 6)⟩,
   ⟨some 80, some (78, true), .load none (.t 79)⟩,
   ⟨some 81, some (78, true), .len (.t 80)⟩,
   ⟨some 82, some (78, true), .bin 0 .gtr (.t 81) (.k (.int .i64 1))⟩,
   ⟨some 83, none, .pick (.t 78) (.t 82) (.k (.bool false))⟩])
 (.cond (.t 83)
 .skip
 (.exit 6)))
 (.seq
 (.block 7
 (.seq
 (.rg [⟨some 86, none, .fld 2 (.t 6)⟩,
   ⟨some 87, none, .load none (.t 86)⟩,
   ⟨some 88, none, .len (.t 87)⟩,
   ⟨some 89, none, .bin 0 .sub (.t 88) (.k (.int .i64 2))⟩,
   ⟨some 90, none, .mv (.t 14)⟩,
   ⟨some 91, none, .build [.int .i64 0, .int .i64 0, .int .i64 0, .int .i64 0, .int .i64 0, .int .i64 0, .int .i64 0, .slice none 0 0] [(0, 1, .k (.int .i64 3)), (1, 1, .t 89), (2, 1, .t 90)]⟩,
   ⟨some 15, none, .alloc [.int .i64 0, .int .i64 0, .int .i64 0, .int .i64 0, .int .i64 0, .int .i64 0, .int .i64 0, .slice none 0 0]⟩,
   ⟨none, none, .store 8 (.t 15) (.t 91)⟩])
 (.seq
 (.rg [⟨some 92, none, .mv (.t 8)⟩,
   ⟨some 93, none, .load (some 8) (.t 15)⟩,
   ⟨some 94, none, .bsl 65 8 [.t 93]⟩,
   ⟨some 95, none, .app 65 8 80 [.int .i64 0, .int .i64 0, .int .i64 0, .int .i64 0, .int .i64 0, .int .i64 0, .int .i64 0, .slice none 0 0] (.t 92) (.t 94)⟩,
   ⟨some 8, none, .mv (.t 95)⟩])
 (.rg [⟨some 96, none, .load (some 4) (.t 6)⟩,
   ⟨some 97, none, .load (some 8) (.t 15)⟩,
   ⟨some 98, none, .callm n_spec_l21Do S_spec_l21Do [(.t 96, [none, some 4, some 2]), (.t 97, [none, none, none, none, none, none, none, some 4])]⟩,
   ⟨none, none, .store 4 (.t 6) (.t 98)⟩]))))
 (.rg [⟨some 84, none, .mv (.t 14)⟩,
   ⟨some 85, none, .bin 0 .add (.t 84) (.k (.int .i64 1))⟩,
   ⟨some 14, none, .mv (.t 85)⟩]))))
set_option maxHeartbeats 4000000 in
set_option maxRecDepth 100000 in
theorem lpC_ok {b : List Int} {bad n9 : Int} {Q : Post} {fr : Env} {H : Hp} {nx rm : Nat} {w : Wo} {kN : Nat} {f : Nat → Nat} {kE : Nat} {evs : List (List AC)} (hP : PSt b 177 H nx w kN f kE evs) (hfr : Has fr [(0, pt0), (4, .w (.o (.ptr 33 0))), (5, I bad), (6, .w (.o (.ptr 177 0))), (8, .w (.o (.ow kE))), (9, I n9), (14, I 1)]) (hlen : evs.length ≤ 60) (hlim : rm ≤ LIM)
    (hQ : ∀ fr' H' nx' w' kN' f' kE' evs', Has fr' [(0, pt0), (4, .w (.o (.ptr 33 0))), (5, I bad), (6, .w (.o (.ptr 177 0))), (8, .w (.o (.ow kE'))), (9, I n9)] → PSt b 177 H' nx' w' kN' f' kE' evs' → evs'.length ≤ evs.length + 4 → nx ≤ nx' → Q (.exit 6) fr' H' nx' rm) : swp Try.prog lpC Q fr H nx rm := by
  obtain ⟨nx0, hnx0⟩ : ∃ z, z = nx := ⟨_, rfl⟩
  rw [← hnx0] at hQ
  conv => whnf
  refine ⟨fun fr H nx rm' => ∃ (i : Nat) (w : Wo) (kN : Nat) (f : Nat → Nat) (kE : Nat) (evs' : List (List AC)), Has fr [(0, pt0), (4, .w (.o (.ptr 33 0))), (5, I bad), (6, .w (.o (.ptr 177 0))), (8, .w (.o (.ow kE))), (9, I n9), (14, I ((i + 1 : Nat) : Int))] ∧ i ≤ 4 ∧ PSt b 177 H nx w kN f kE evs' ∧ evs'.length ≤ evs.length + i ∧ nx0 ≤ nx ∧ rm' = rm,
    fun fr _ _ _ => 5 - ix (fr 14), ⟨0, w, kN, f, kE, evs, hfr, Nat.zero_le _, hP, by omega, by omega, rfl⟩, ?_⟩
  clear hP hfr hnx0
  rintro fr H nx rm' ⟨i, w, kN, f, kE, evs, hfr, hi, hP, hlen2, hnn, rfl⟩
  rw [hfr.eq]
  obtain ⟨hE0, hE33, hE177⟩ := hP.e0
  have hEk := hP.ke
  have hEv := hP.ev
  have hBx := hP.box
  have hRd : H 0 = some (.rd (byF b)) := hP.rd
  have hRs := hP.res
  have hNx := hP.b2
  have hFE : FitV (⟨0, []⟩ : Vo) := Nat.zero_le _
  by_cases hgo : i < 4 ∧ 1 < w.log.length
  · obtain ⟨hi', hlg⟩ := id hgo
    repeat' ((conv => whnf); first
      | refine ⟨_, ldc_cells hk_ (Nat.le_of_ble_eq_true rfl), ?_⟩
      | refine ⟨_, news_ow hupd_at, newsz_ow hupd_at, _, (hk_ : (_ : Option Ob) = _), (by simp only [List.length_cons, List.length_nil]; omega), ?_⟩
      | refine ⟨rfl, ?_⟩
      | refine ⟨_, _, hupd_at, rfl, rfl, Nat.le_of_ble_eq_true rfl, ?_⟩
      | (refine ⟨fun hc => ?_, fun hc => ?_⟩ <;> (try simp (disch := omega) only [List.length_map, wrap64] at hc) <;> (try (exfalso; first | contradiction | omega)))
      | fail)
    refine mq_W (w := w) (w' := doW w ((⟨3, IntKind.i64.wrap (((w.log.map voF).length : Int) - 2), ((i + 1 : Nat) : Int), ⟨0, 0, 0⟩, ⟨0, []⟩⟩ : Ev))) (kN := kN) (f := f) v_spec_l21Do rfl hlim (hP.wat2 (by omega) (fun k h1 h2 => by (repeat (refine (hupd_ne (by omega)).trans ?_)); rfl)) ((doW_inv hP.inv).2.2.1) rfl (fun _ => rfl) ⟨(w, (⟨3, IntKind.i64.wrap (((w.log.map voF).length : Int) - 2), ((i + 1 : Nat) : Int), ⟨0, 0, 0⟩, ⟨0, []⟩⟩ : Ev)), rfl, rfl, hP.inv, hFE⟩ (fun r obs' h => K_spec_l21Do h) (fun f' H'' hW' hT' hK' => ?_)
    have hB2 : H'' 177 = some (.cells (wvC w kN f)) := (hK' 177 (Ne.symm hP.n0.2.2) (fun j hj => (hP.f0 hj).2.2.symm) (by omega)).trans hk_
    repeat' ((conv => whnf); first
      | refine ⟨rfl, ?_⟩
      | (refine ⟨?_, _, (?_ : (_ : Option Ob) = _), rfl, rfl, ?_, ?_⟩; rotate_left; (exact hk_); exact Nat.le_of_ble_eq_true rfl)
      | fail)
    refine ⟨⟨i + 1, _, kN, f', _, _, ⟨rfl, rfl, rfl, rfl, rfl, rfl, congrArg I (wrap_up (n := 5) (i := i + 1) (by omega) (by decide)), trivial⟩, hi', hP.next (x := [cI 3, cI (IntKind.i64.wrap (((w.log.map voF).length : Int) - 2)), cI ((i + 1 : Nat) : Int), cI 0, cI 0, cI 0, cI 0, .e0]) (fun k h1 h2 => by (repeat (refine (hupd_ne (by omega)).trans ?_)); rfl) hk_ (by omega) (by omega) (by first | exact ⟨_, .inl rfl, (by assumption)⟩ | exact ⟨⟨_, _, _, ⟨_, _, _⟩, ⟨_, []⟩⟩, .inr ⟨rfl, rfl⟩, Nat.zero_le _⟩) (doW_inv hP.inv) hW' hK' (by omega), (by simp only [List.length_append, List.length_cons, List.length_nil]; omega), (by omega), rfl⟩, ?_⟩
    show 5 - ix (I _) < 5 - ix (I _)
    simp only [wrap_up (n := 5) (i := i + 1) (by omega) (by decide), ix, Int.toNat_natCast]
    omega
  · skip
    repeat' ((conv => whnf); first
      | refine ⟨rfl, ?_⟩
      | refine ⟨_, ldc_cells (by first | assumption | exact zk ‹_› (by omega) | exact zk (zk ‹_› (by omega)) (by omega)) (Nat.le_of_ble_eq_true rfl), ?_⟩
      | (refine ⟨fun hc => ?_, fun hc => ?_⟩ <;> (try simp (disch := omega) only [List.length_map, wrap64] at hc) <;> (try (exfalso; first | contradiction | omega)))
      | fail)
    all_goals exact hQ _ _ _ _ _ _ _ _ ⟨rfl, rfl, rfl, rfl, rfl, rfl, trivial⟩ (hP.keep (by omega) (fun k hk => rfl)) (by omega) (by omega)
end Av
end Go.Proofs.Ytlbdoamidblkaaa
/- The walks: plays drawn: an epoch begins. -/
namespace Go.Proofs.Ytlbdoamidblkaaa
namespace Av
open Go.RowKit
attribute [local irreducible] Valid ValidM
noncomputable def lpA : A := (.loop
 (.seq
 (.rg [⟨some 42, none, .bin 0 .lss (.t 41) (.t 40)⟩])
 (.seq
 (.cond (.t 42)
 .skip
 (.exit 2))
 (.seq
 (.block 3
 (.seq
 (.rg [⟨some 43, none, .idx 8 (.t 39) (.t 41)⟩,
   ⟨some 44, none, .load (some 8) (.t 43)⟩,
   ⟨some 11, none, .alloc [.int .i64 0, .int .i64 0, .int .i64 0, .int .i64 0, .int .i64 0, .int .i64 0, .int .i64 0, .slice none 0 0]⟩,
   ⟨none, none, .store 8 (.t 11) (.t 44)⟩])
 (.seq
 (.rg [⟨some 45, none, .mv (.t 8)⟩,
   ⟨some 46, none, .load (some 8) (.t 11)⟩,
   ⟨some 47, none, .bsl 65 8 [.t 46]⟩,
   ⟨some 48, none, .app 65 8 80 [.int .i64 0, .int .i64 0, .int .i64 0, .int .i64 0, .int .i64 0, .int .i64 0, .int .i64 0, .slice none 0 0] (.t 45) (.t 47)⟩,
   ⟨some 8, none, .mv (.t 48)⟩])
 (.rg [⟨some 49, none, .load (some 4) (.t 6)⟩,
   ⟨some 50, none, .load (some 8) (.t 11)⟩,
   ⟨some 51, none, .callm n_spec_l21Do S_spec_l21Do [(.t 49, [none, some 4, some 2]), (.t 50, [none, none, none, none, none, none, none, some 4])]⟩,
   ⟨none, none, .store 4 (.t 6) (.t 51)⟩]))))
 (.rg [⟨some 52, none, .bin 0 .add (.t 41) (.k (.int .i64 1))⟩,
   ⟨some 41, none, .mv (.t 52)⟩])))))
set_option maxHeartbeats 4000000 in
set_option maxRecDepth 100000 in
theorem lpA_ok {b : List Int} {bad n9 : Int} {Q : Post} {fr : Env} {H : Hp} {nx rm : Nat} {w : Wo} {kN : Nat} {f : Nat → Nat} {kE : Nat} {evs : List (List AC)} {ld : Int} {p : Pa} {kA : Nat} (hP : PSt b 177 H nx w kN f kE evs) (hfr : Has fr [(0, pt0), (4, .w (.o (.ptr 33 0))), (5, I bad), (6, .w (.o (.ptr 177 0))), (8, .w (.o (.ow kE))), (9, I n9), (39, .w (.o (.ow kA))), (40, I 2), (41, I 0)]) (hA : H kA = some (.arr ty_impl_Event 8 [[cI 1, cI 0, cI 0, cI 0, cI 0, cI 0, cI 0, .e0], [cI 2, cI ld, cI 0, cI p.f, cI p.t, cI p.s, cI 0, .e0]])) (hAE : kA ≠ kE) (hAx : kA < nx) (hlen : evs.length ≤ 60) (hlim : rm ≤ LIM)
    (hQ : ∀ fr' H' nx' w' kN' f' kE' evs', Has fr' [(0, pt0), (4, .w (.o (.ptr 33 0))), (5, I bad), (6, .w (.o (.ptr 177 0))), (8, .w (.o (.ow kE'))), (9, I n9)] → PSt b 177 H' nx' w' kN' f' kE' evs' → evs'.length ≤ evs.length + 2 → nx ≤ nx' → Q (.exit 2) fr' H' nx' rm) : swp Try.prog lpA Q fr H nx rm := by
  obtain ⟨nx0, hnx0⟩ : ∃ z, z = nx := ⟨_, rfl⟩
  rw [← hnx0] at hQ
  conv => whnf
  refine ⟨fun fr H nx rm' => ∃ (i : Nat) (w : Wo) (kN : Nat) (f : Nat → Nat) (kE : Nat) (evs' : List (List AC)), Has fr [(0, pt0), (4, .w (.o (.ptr 33 0))), (5, I bad), (6, .w (.o (.ptr 177 0))), (8, .w (.o (.ow kE))), (9, I n9), (39, .w (.o (.ow kA))), (40, I 2), (41, I i)] ∧ i ≤ 2 ∧ PSt b 177 H nx w kN f kE evs' ∧ H kA = some (.arr ty_impl_Event 8 [[cI 1, cI 0, cI 0, cI 0, cI 0, cI 0, cI 0, .e0], [cI 2, cI ld, cI 0, cI p.f, cI p.t, cI p.s, cI 0, .e0]]) ∧ kA ≠ kE ∧ kA < nx ∧ evs'.length ≤ evs.length + i ∧ nx0 ≤ nx ∧ rm' = rm,
    fun fr _ _ _ => 2 - ix (fr 41), ⟨0, w, kN, f, kE, evs, hfr, Nat.zero_le _, hP, hA, hAE, hAx, by omega, by omega, rfl⟩, ?_⟩
  clear hP hA hfr hAE hAx hnx0
  rintro fr H nx rm' ⟨i, w, kN, f, kE, evs, hfr, hi, hP, hA, hAE, hAx, hlen2, hnn, rfl⟩
  rw [hfr.eq]
  obtain ⟨hE0, hE33, hE177⟩ := hP.e0
  have hEk := hP.ke
  have hEv := hP.ev
  have hBx := hP.box
  have hRd : H 0 = some (.rd (byF b)) := hP.rd
  have hRs := hP.res
  have hNx := hP.b2
  have hA177 : kA ≠ 177 := fun e => by rw [e, hP.box] at hA; cases hA
  have hFE : FitV (⟨0, []⟩ : Vo) := Nat.zero_le _
  rcases Nat.lt_or_ge i 2 with hi' | hi'
  · obtain rfl | rfl : i = 0 ∨ i = 1 := by omega
    · skip
      repeat' ((conv => whnf); first
        | refine ⟨_, _, 0, _, hA, rfl, rfl, ?_⟩
        | refine ⟨_, ldc_pa hA rfl (Nat.le_of_ble_eq_true rfl), ?_⟩
        | refine ⟨_, ldc_cells hk_ (Nat.le_of_ble_eq_true rfl), ?_⟩
        | refine ⟨_, news_ow hupd_at, newsz_ow hupd_at, _, (hk_ : (_ : Option Ob) = _), (by simp only [List.length_cons, List.length_nil]; omega), ?_⟩
        | refine ⟨rfl, ?_⟩
        | refine ⟨_, _, hupd_at, rfl, rfl, Nat.le_of_ble_eq_true rfl, ?_⟩
        | (refine ⟨fun hc => ?_, fun hc => ?_⟩ <;> (try simp (disch := omega) only [List.length_map, wrap64] at hc) <;> (try (exfalso; first | contradiction | omega)))
        | fail)
      refine mq_W (w := w) (w' := doW w ((⟨1, 0, 0, ⟨0, 0, 0⟩, ⟨0, []⟩⟩ : Ev))) (kN := kN) (f := f) v_spec_l21Do rfl hlim (hP.wat2 (by omega) (fun k h1 h2 => by (repeat (refine (hupd_ne (by omega)).trans ?_)); rfl)) ((doW_inv hP.inv).2.2.1) rfl (fun _ => rfl) ⟨(w, (⟨1, 0, 0, ⟨0, 0, 0⟩, ⟨0, []⟩⟩ : Ev)), rfl, rfl, hP.inv, hFE⟩ (fun r obs' h => K_spec_l21Do h) (fun f' H'' hW' hT' hK' => ?_)
      have hB2 : H'' 177 = some (.cells (wvC w kN f)) := (hK' 177 (Ne.symm hP.n0.2.2) (fun j hj => (hP.f0 hj).2.2.symm) (by omega)).trans hk_
      repeat' ((conv => whnf); first
        | refine ⟨rfl, ?_⟩
        | (refine ⟨?_, _, (?_ : (_ : Option Ob) = _), rfl, rfl, ?_, ?_⟩; rotate_left; (exact hk_); exact Nat.le_of_ble_eq_true rfl)
        | fail)
      refine ⟨⟨0 + 1, _, kN, f', _, _, ⟨rfl, rfl, rfl, rfl, rfl, rfl, rfl, rfl, rfl, trivial⟩, hi', hP.next (x := [cI 1, cI 0, cI 0, cI 0, cI 0, cI 0, cI 0, .e0]) (fun k h1 h2 => by (repeat (refine (hupd_ne (by omega)).trans ?_)); rfl) hk_ (by omega) (by omega) (by first | exact ⟨_, .inl rfl, (by assumption)⟩ | exact ⟨⟨_, _, _, ⟨_, _, _⟩, ⟨_, []⟩⟩, .inr ⟨rfl, rfl⟩, Nat.zero_le _⟩) (doW_inv hP.inv) hW' hK' (by omega), ?_, (by omega), (by omega), (by simp only [List.length_append, List.length_cons, List.length_nil]; omega), (by omega), rfl⟩, ?_⟩
      · rw [hupd_ne hA177, hK' kA (fun e => ?_) (fun j hj e => ?_) (by omega)]
        · refine Eq.trans ?_ hA
          (repeat (refine (hupd_ne (by omega)).trans ?_)); rfl
        · rw [e, hP.wat.arr] at hA
          exact absurd (Ob.arr.inj (Option.some.inj hA)).1 (by decide)
        · rw [e, hP.wat.tok j hj] at hA; cases hA
      · show 2 - ix (I _) < 2 - ix (I _)
        first | decide | (simp [ix])
    · skip
      repeat' ((conv => whnf); first
        | refine ⟨_, _, 1, _, hA, rfl, rfl, ?_⟩
        | refine ⟨_, ldc_pa hA rfl (Nat.le_of_ble_eq_true rfl), ?_⟩
        | refine ⟨_, ldc_cells hk_ (Nat.le_of_ble_eq_true rfl), ?_⟩
        | refine ⟨_, news_ow hupd_at, newsz_ow hupd_at, _, (hk_ : (_ : Option Ob) = _), (by simp only [List.length_cons, List.length_nil]; omega), ?_⟩
        | refine ⟨rfl, ?_⟩
        | refine ⟨_, _, hupd_at, rfl, rfl, Nat.le_of_ble_eq_true rfl, ?_⟩
        | (refine ⟨fun hc => ?_, fun hc => ?_⟩ <;> (try simp (disch := omega) only [List.length_map, wrap64] at hc) <;> (try (exfalso; first | contradiction | omega)))
        | fail)
      refine mq_W (w := w) (w' := doW w ((⟨2, ld, 0, p, ⟨0, []⟩⟩ : Ev))) (kN := kN) (f := f) v_spec_l21Do rfl hlim (hP.wat2 (by omega) (fun k h1 h2 => by (repeat (refine (hupd_ne (by omega)).trans ?_)); rfl)) ((doW_inv hP.inv).2.2.1) rfl (fun _ => rfl) ⟨(w, (⟨2, ld, 0, p, ⟨0, []⟩⟩ : Ev)), rfl, rfl, hP.inv, hFE⟩ (fun r obs' h => K_spec_l21Do h) (fun f' H'' hW' hT' hK' => ?_)
      have hB2 : H'' 177 = some (.cells (wvC w kN f)) := (hK' 177 (Ne.symm hP.n0.2.2) (fun j hj => (hP.f0 hj).2.2.symm) (by omega)).trans hk_
      repeat' ((conv => whnf); first
        | refine ⟨rfl, ?_⟩
        | (refine ⟨?_, _, (?_ : (_ : Option Ob) = _), rfl, rfl, ?_, ?_⟩; rotate_left; (exact hk_); exact Nat.le_of_ble_eq_true rfl)
        | fail)
      refine ⟨⟨1 + 1, _, kN, f', _, _, ⟨rfl, rfl, rfl, rfl, rfl, rfl, rfl, rfl, rfl, trivial⟩, hi', hP.next (x := [cI 2, cI ld, cI 0, cI p.f, cI p.t, cI p.s, cI 0, .e0]) (fun k h1 h2 => by (repeat (refine (hupd_ne (by omega)).trans ?_)); rfl) hk_ (by omega) (by omega) (by first | exact ⟨_, .inl rfl, (by assumption)⟩ | exact ⟨⟨_, _, _, ⟨_, _, _⟩, ⟨_, []⟩⟩, .inr ⟨rfl, rfl⟩, Nat.zero_le _⟩) (doW_inv hP.inv) hW' hK' (by omega), ?_, (by omega), (by omega), (by simp only [List.length_append, List.length_cons, List.length_nil]; omega), (by omega), rfl⟩, ?_⟩
      · rw [hupd_ne hA177, hK' kA (fun e => ?_) (fun j hj e => ?_) (by omega)]
        · refine Eq.trans ?_ hA
          (repeat (refine (hupd_ne (by omega)).trans ?_)); rfl
        · rw [e, hP.wat.arr] at hA
          exact absurd (Ob.arr.inj (Option.some.inj hA)).1 (by decide)
        · rw [e, hP.wat.tok j hj] at hA; cases hA
      · show 2 - ix (I _) < 2 - ix (I _)
        first | decide | (simp [ix])
  · have hi5 : i = 2 := by omega
    subst hi5
    repeat' ((conv => whnf); first
      | refine ⟨rfl, ?_⟩
      | (refine ⟨fun hc => ?_, fun hc => ?_⟩ <;> (try simp (disch := omega) only [List.length_map, wrap64] at hc) <;> (try (exfalso; first | contradiction | omega)))
      | fail)
    exact hQ _ _ _ _ _ _ _ _ ⟨rfl, rfl, rfl, rfl, rfl, rfl, trivial⟩ (hP.keep (by omega) (fun k hk => rfl)) (by omega) (by omega)
end Av
end Go.Proofs.Ytlbdoamidblkaaa
