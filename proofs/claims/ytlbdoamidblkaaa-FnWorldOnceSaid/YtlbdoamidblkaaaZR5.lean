/- The walks: plays drawn: the epochs. -/
import Derived.Test.YtlbdoamidblkaaaZRA
set_option linter.unusedVariables false
set_option linter.unusedSimpArgs false
namespace Go.Proofs.Ytlbdoamidblkaaa
namespace Av
open Go.RowKit
attribute [local irreducible] Valid ValidM
noncomputable def lp1 : A := (.loop
 (.seq
 (.seq
 (.rg [⟨some 27, none, .mv (.t 9)⟩,
   ⟨some 28, none, .bin 0 .gtr (.t 27) (.k (.int .i64 0))⟩])
 (.cond (.t 28)
 .skip
 (.exit 0)))
 (.seq
 (.block 1
 (.seq
 (.seq
 (.rg [⟨some 31, none, .build [.int .i64 0, .int .i64 0, .int .i64 0, .int .i64 0, .int .i64 0, .int .i64 0, .int .i64 0, .slice none 0 0] [(0, 1, .k (.int .i64 1))]⟩,
   ⟨some 32, none, .fld 0 (.t 6)⟩,
   ⟨some 33, none, .load none (.t 32)⟩,
   ⟨some 34, none, .bin 0 .add (.t 33) (.k (.int .i64 1))⟩,
   ⟨some 35, none, .call n_spec_l3Leader S_spec_l3Leader [(.t 34, [])]⟩,
   ⟨some 36, none, .mv (.t 0)⟩,
   ⟨some 37, none, .call n_spec_l71Pay S_spec_l71Pay [(.t 36, [])]⟩,
   ⟨some 38, none, .build [.int .i64 0, .int .i64 0, .int .i64 0, .int .i64 0, .int .i64 0, .int .i64 0, .int .i64 0, .slice none 0 0] [(0, 1, .k (.int .i64 2)), (1, 1, .t 35), (3, 3, .t 37)]⟩,
   ⟨some 39, none, .bsl 65 8 [.t 31, .t 38]⟩,
   ⟨some 40, none, .len (.t 39)⟩,
   ⟨some 41, none, .mv (.k (.int .i64 0))⟩])
 (.block 2
 (.loop
 (.seq
 (.rg [⟨some 42, none, .bin 0 .lss (.t 41) (.t 40)⟩])
 (.seq
 (.cond (.t 42)
 .skip
 (.exit 2))
 (.seq
 (.block 3
 (.seq
 (.rg [⟨some 43, none, .idx 8 (.t 39) (.t 41)⟩,
   ⟨some 44, none, .load (some 8) (.t 43)⟩,
   ⟨some 11, none, .alloc [.int .i64 0, .int .i64 0, .int .i64 0, .int .i64 0, .int .i64 0, .int .i64 0, .int .i64 0, .slice none 0 0]⟩,
   ⟨none, none, .store 8 (.t 11) (.t 44)⟩])
 (.seq
 (.rg [⟨some 45, none, .mv (.t 8)⟩,
   ⟨some 46, none, .load (some 8) (.t 11)⟩,
   ⟨some 47, none, .bsl 65 8 [.t 46]⟩,
   ⟨some 48, none, .app 65 8 80 [.int .i64 0, .int .i64 0, .int .i64 0, .int .i64 0, .int .i64 0, .int .i64 0, .int .i64 0, .slice none 0 0] (.t 45) (.t 47)⟩,
   ⟨some 8, none, .mv (.t 48)⟩])
 (.rg [⟨some 49, none, .load (some 4) (.t 6)⟩,
   ⟨some 50, none, .load (some 8) (.t 11)⟩,
   ⟨some 51, none, .callm n_spec_l21Do S_spec_l21Do [(.t 49, [none, some 4, some 2]), (.t 50, [none, none, none, none, none, none, none, some 4])]⟩,
   ⟨none, none, .store 4 (.t 6) (.t 51)⟩]))))
 (.rg [⟨some 52, none, .bin 0 .add (.t 41) (.k (.int .i64 1))⟩,
   ⟨some 41, none, .mv (.t 52)⟩])))))))
 (.seq
 (.seq
 (.rg [⟨some 12, none, .mv (.k (.int .i64 1))⟩])
 (.block 4
 (.loop
 (.seq
 (.seq
 (.rg [⟨some 53, none, .mv (.t 12)⟩,
   ⟨some 54, none, .bin 0 .leq (.t 53) (.k (.int .i64 4))⟩,
   ⟨some 55, none, .mv (.t 54)⟩,
   ⟨some 56, some (55, true), .fld 2 (.t 6)⟩,
   ⟨some 57, some (55, true), .load none (.t 56)⟩,
   ⟨some 58, some (55, true), .len (.t 57)⟩,
   ⟨some 59, some (55, true), .bin 0 .gtr (.t 58) (.k (.int .i64 0))⟩,
   ⟨some 60, none, .pick (.t 55) (.t 59) (.k (.bool false))⟩])
 (.cond (.t 60)
 .skip
 (.exit 4)))
 (.seq
 (.block 5
 (.seq
 (.rg [⟨some 63, none, .fld 2 (.t 6)⟩,
   ⟨some 64, none, .load none (.t 63)⟩,
   ⟨some 65, none, .len (.t 64)⟩,
   ⟨some 66, none, .bin 0 .sub (.t 65) (.k (.int .i64 1))⟩,
   ⟨some 67, none, .mv (.t 12)⟩,
   ⟨some 68, none, .build [.int .i64 0, .int .i64 0, .int .i64 0, .int .i64 0, .int .i64 0, .int .i64 0, .int .i64 0, .slice none 0 0] [(0, 1, .k (.int .i64 3)), (1, 1, .t 66), (2, 1, .t 67)]⟩,
   ⟨some 13, none, .alloc [.int .i64 0, .int .i64 0, .int .i64 0, .int .i64 0, .int .i64 0, .int .i64 0, .int .i64 0, .slice none 0 0]⟩,
   ⟨none, none, .store 8 (.t 13) (.t 68)⟩])
 (.seq
 (.rg [⟨some 69, none, .mv (.t 8)⟩,
   ⟨some 70, none, .load (some 8) (.t 13)⟩,
   ⟨some 71, none, .bsl 65 8 [.t 70]⟩,
   ⟨some 72, none, .app 65 8 80 [.int .i64 0, .int .i64 0, .int .i64 0, .int .i64 0, .int .i64 0, .int .i64 0, .int .i64 0, .slice none 0 0] (.t 69) (.t 71)⟩,
   ⟨some 8, none, .mv (.t 72)⟩])
 (.rg [⟨some 73, none, .load (some 4) (.t 6)⟩,
   ⟨some 74, none, .load (some 8) (.t 13)⟩,
   ⟨some 75, none, .callm n_spec_l21Do S_spec_l21Do [(.t 73, [none, some 4, some 2]), (.t 74, [none, none, none, none, none, none, none, some 4])]⟩,
   ⟨none, none, .store 4 (.t 6) (.t 75)⟩]))))
 (.rg [⟨some 61, none, .mv (.t 12)⟩,
   ⟨some 62, none, .bin 0 .add (.t 61) (.k (.int .i64 1))⟩,
   ⟨some 12, none, .mv (.t 62)⟩]))))))
 (.seq
 (.rg [⟨some 14, none, .mv (.k (.int .i64 1))⟩])
 (.block 6
 (.loop
 (.seq
 (.seq
 (.rg [⟨some 76, none, .mv (.t 14)⟩,
   ⟨some 77, none, .bin 0 .leq (.t 76) (.k (.int .i64 4))⟩,
   ⟨some 78, none, .mv (.t 77)⟩,
   ⟨some 79, some (78, true), .fld 2 (.t 6)⟩,
   ⟨some 80, some (78, true), .load none (.t 79)⟩,
   ⟨some 81, some (78, true), .len (.t 80)⟩,
   ⟨some 82, some (78, true), .bin 0 .gtr (.t 81) (.k (.int .i64 1))⟩,
   ⟨some 83, none, .pick (.t 78) (.t 82) (.k (.bool false))⟩])
 (.cond (.t 83)
 .skip
 (.exit 6)))
 (.seq
 (.block 7
 (.seq
 (.rg [⟨some 86, none, .fld 2 (.t 6)⟩,
   ⟨some 87, none, .load none (.t 86)⟩,
   ⟨some 88, none, .len (.t 87)⟩,
   ⟨some 89, none, .bin 0 .sub (.t 88) (.k (.int .i64 2))⟩,
   ⟨some 90, none, .mv (.t 14)⟩,
   ⟨some 91, none, .build [.int .i64 0, .int .i64 0, .int .i64 0, .int .i64 0, .int .i64 0, .int .i64 0, .int .i64 0, .slice none 0 0] [(0, 1, .k (.int .i64 3)), (1, 1, .t 89), (2, 1, .t 90)]⟩,
   ⟨some 15, none, .alloc [.int .i64 0, .int .i64 0, .int .i64 0, .int .i64 0, .int .i64 0, .int .i64 0, .int .i64 0, .slice none 0 0]⟩,
   ⟨none, none, .store 8 (.t 15) (.t 91)⟩])
 (.seq
 (.rg [⟨some 92, none, .mv (.t 8)⟩,
   ⟨some 93, none, .load (some 8) (.t 15)⟩,
   ⟨some 94, none, .bsl 65 8 [.t 93]⟩,
   ⟨some 95, none, .app 65 8 80 [.int .i64 0, .int .i64 0, .int .i64 0, .int .i64 0, .int .i64 0, .int .i64 0, .int .i64 0, .slice none 0 0] (.t 92) (.t 94)⟩,
   ⟨some 8, none, .mv (.t 95)⟩])
 (.rg [⟨some 96, none, .load (some 4) (.t 6)⟩,
   ⟨some 97, none, .load (some 8) (.t 15)⟩,
   ⟨some 98, none, .callm n_spec_l21Do S_spec_l21Do [(.t 96, [none, some 4, some 2]), (.t 97, [none, none, none, none, none, none, none, some 4])]⟩,
   ⟨none, none, .store 4 (.t 6) (.t 98)⟩]))))
 (.rg [⟨some 84, none, .mv (.t 14)⟩,
   ⟨some 85, none, .bin 0 .add (.t 84) (.k (.int .i64 1))⟩,
   ⟨some 14, none, .mv (.t 85)⟩])))))))))
 (.rg [⟨some 29, none, .mv (.t 9)⟩,
   ⟨some 30, none, .bin 0 .sub (.t 29) (.k (.int .i64 1))⟩,
   ⟨some 9, none, .mv (.t 30)⟩]))))
set_option maxHeartbeats 4000000 in
set_option maxRecDepth 100000 in
theorem lp1_ok {b : List Int} {bad n9 : Int} {Q : Post} {fr : Env} {H : Hp} {nx rm0 rm : Nat} {w : Wo} {kN : Nat} {f : Nat → Nat} {kE : Nat} {evs : List (List AC)} (hrd : RdOk b) (hP : PSt b 177 H nx w kN f kE evs) (hfr : Has fr [(0, pt0), (4, .w (.o (.ptr 33 0))), (5, I bad), (6, .w (.o (.ptr 177 0))), (8, .w (.o (.ow kE))), (9, I n9)]) (hn9 : 0 ≤ n9) (hlen : (evs.length : Int) + 10 * n9 ≤ 40) (hrm : (rm : Int) + 20 * n9 ≤ rm0) (hlim : rm0 + 1000 ≤ LIM)
    (hQ : ∀ fr' H' nx' rm' w' kN' f' kE' evs', Has fr' [(0, pt0), (4, .w (.o (.ptr 33 0))), (5, I bad), (6, .w (.o (.ptr 177 0))), (8, .w (.o (.ow kE')))] → PSt b 177 H' nx' w' kN' f' kE' evs' → evs'.length ≤ 40 → rm' ≤ rm0 → Q (.exit 0) fr' H' nx' rm') : swp Try.prog lp1 Q fr H nx rm := by
  have cc_spec_l71Pay : S_spec_l71Pay.cost = 10 := rfl
  have cc_spec_l3Leader : S_spec_l3Leader.cost = 0 := rfl
  conv => whnf
  refine ⟨fun fr H nx rm' => ∃ (n9 : Int) (w : Wo) (kN : Nat) (f : Nat → Nat) (kE : Nat) (evs : List (List AC)), Has fr [(0, pt0), (4, .w (.o (.ptr 33 0))), (5, I bad), (6, .w (.o (.ptr 177 0))), (8, .w (.o (.ow kE))), (9, I n9)] ∧ 0 ≤ n9 ∧ PSt b 177 H nx w kN f kE evs ∧ (evs.length : Int) + 10 * n9 ≤ 40 ∧ (rm' : Int) + 20 * n9 ≤ rm0,
    fun fr _ _ _ => ix (fr 9), ⟨n9, w, kN, f, kE, evs, hfr, hn9, hP, hlen, hrm⟩, ?_⟩
  clear hP hfr hn9 hlen hrm
  rintro fr H nx rm' ⟨n9, w, kN, f, kE, evs, hfr, hn9, hP, hlen, hrm⟩
  rw [hfr.eq]
  obtain ⟨hE0, hE33, hE177⟩ := hP.e0
  have hEk := hP.ke
  have hEv := hP.ev
  have hBx := hP.box
  have hRd : H 0 = some (.rd (byF b)) := hP.rd
  have hRs := hP.res
  have hNx := hP.b2
  have hwn : 0 < n9 → IntKind.i64.wrap (n9 - 1) = n9 - 1 := fun h => by rw [wrap64] <;> omega
  have hwe : IntKind.i64.wrap (w.ep + 1) = w.ep + 1 := by obtain ⟨q1, q2⟩ := hP.inv.1; rw [wrap64] <;> omega
  have hLp : In (IntKind.i64.wrap (w.ep + 1)) 0 100 := by rw [hwe]; obtain ⟨q1, q2⟩ := hP.inv.1; exact ⟨by omega, by omega⟩
  by_cases h9 : 0 < n9
  · skip
    repeat' ((conv => whnf); first
      | refine ⟨rfl, ?_⟩
      | refine ⟨_, ldc_cells (by first | assumption | exact zk ‹_› (by omega) | exact zk (zk ‹_› (by omega)) (by omega)) (Nat.le_of_ble_eq_true rfl), ?_⟩
      | refine ⟨_, _, _, ((by exact hk_) : (_ : Option Ob) = _), ?_⟩
      | (refine ⟨fun hc => ?_, fun hc => ?_⟩ <;> (try simp (disch := omega) only [List.length_map, wrap64] at hc) <;> (try (exfalso; first | contradiction | omega)))
      | (refine calle (b := [I _]) v_spec_l3Leader rfl ⟨_, rfl, (by exact pr_)⟩ (.inl rfl) (by first | assumption | omega) (fun r hr => K_spec_l3Leader (a := _) hr) ?_)
      | (refine callrd (by exact hk_) rfl rfl ⟨_, rfl, (by exact pr_)⟩ v_spec_l71Pay (by omega) (fun r hr => ?_); have hj := K_spec_l71Pay (a := _) hr; clear hr; obtain ⟨p, rfl⟩ := hj)
      | fail)
    refine lpA_ok (b := b) (bad := bad) (n9 := n9) (w := w) (kN := kN) (f := f) (kE := kE) (evs := evs) (ld := lead (IntKind.i64.wrap (w.ep + 1))) (p := p) (kA := nx + 160) (hP.keep (by omega) (fun k hk => by (repeat (refine (hupd_ne (by omega)).trans ?_)); rfl)) ⟨rfl, rfl, rfl, rfl, rfl, rfl, rfl, rfl, rfl, trivial⟩ (hupd_at.trans rfl) (by omega) (by omega) (by omega) (by omega) (fun fr2 H2 nx2 w2 kN2 f2 kE2 evs2 hfr2 hP2 hlen2 hnx2 => ?_)
    clear hP hEv hBx hRs hRd hfr
    rw [hfr2.eq]
    skip
    refine lpB_ok (b := b) (bad := bad) (n9 := n9) (hP2.keep (by omega) (fun k hk => rfl)) ⟨rfl, rfl, rfl, rfl, rfl, rfl, rfl, trivial⟩ (by omega) (by omega) (fun fr3 H3 nx3 w3 kN3 f3 kE3 evs3 hfr3 hP3 hlen3 hnx3 => ?_)
    clear hP2 hfr2
    rw [hfr3.eq]
    skip
    refine lpC_ok (b := b) (bad := bad) (n9 := n9) (hP3.keep (by omega) (fun k hk => rfl)) ⟨rfl, rfl, rfl, rfl, rfl, rfl, rfl, trivial⟩ (by omega) (by omega) (fun fr4 H4 nx4 w4 kN4 f4 kE4 evs4 hfr4 hP4 hlen4 hnx4 => ?_)
    clear hP3 hfr3
    rw [hfr4.eq]
    repeat' ((conv => whnf); first
      | refine ⟨rfl, ?_⟩
      | fail)
    refine ⟨⟨n9 - 1, w4, kN4, f4, kE4, evs4, ⟨rfl, rfl, rfl, rfl, rfl, congrArg I (hwn h9), trivial⟩, by omega, hP4.keep (by omega) (fun k hk => rfl), by omega, by omega⟩, ?_⟩
    show ix (I _) < ix (I _)
    rw [hwn h9]; simp only [ix]; omega
  · have h90 : n9 = 0 := by omega
    subst h90
    repeat' ((conv => whnf); first
      | refine ⟨rfl, ?_⟩
      | (refine ⟨fun hc => ?_, fun hc => ?_⟩ <;> (try simp (disch := omega) only [List.length_map, wrap64] at hc) <;> (try (exfalso; first | contradiction | omega)))
      | fail)
    exact hQ _ _ _ _ _ _ _ _ _ ⟨rfl, rfl, rfl, rfl, rfl, trivial⟩ (hP.keep (by omega) (fun k hk => rfl)) (by omega) (by omega)
end Av
end Go.Proofs.Ytlbdoamidblkaaa
