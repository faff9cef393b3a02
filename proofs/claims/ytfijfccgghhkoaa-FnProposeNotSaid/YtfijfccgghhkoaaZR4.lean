/- The walks: plays drawn: what else happens. -/
import Derived.Test.YtfijfccgghhkoaaJ36
set_option linter.unusedVariables false
set_option linter.unusedSimpArgs false
namespace Go.Proofs.Ytfijfccgghhkoaa
namespace Av
open Go.RowKit
attribute [local irreducible] Valid ValidM
noncomputable def lp2 : A := (.loop
 (.seq
 (.seq
 (.rg [⟨some 99, none, .mv (.t 8)⟩,
   ⟨some 100, none, .len (.t 99)⟩,
   ⟨some 101, none, .bin 0 .lss (.t 100) (.k (.int .i64 69))⟩,
   ⟨some 102, none, .mv (.t 101)⟩,
   ⟨some 103, some (102, true), .mv (.t 0)⟩,
   ⟨some 104, some (102, true), .call n_spec_l6Rd_pick S_spec_l6Rd_pick [(.t 103, []), (.k (.int .i64 40), [])]⟩,
   ⟨some 105, some (102, true), .bin 0 .gtr (.t 104) (.k (.int .i64 0))⟩,
   ⟨some 106, none, .pick (.t 102) (.t 105) (.k (.bool false))⟩])
 (.cond (.t 106)
 .skip
 (.exit 8)))
 (.block 9
 (.seq
 (.rg [⟨some 107, none, .mv (.t 0)⟩,
   ⟨some 108, none, .load (some 4) (.t 6)⟩,
   ⟨some 109, none, .callm n_spec_l72Event S_spec_l72Event [(.t 107, []), (.t 108, [none, some 4, some 2])]⟩,
   ⟨some 16, none, .alloc [.int .i64 0, .int .i64 0, .int .i64 0, .int .i64 0, .int .i64 0, .int .i64 0, .int .i64 0, .slice none 0 0]⟩,
   ⟨none, none, .store 8 (.t 16) (.t 109)⟩])
 (.seq
 (.rg [⟨some 110, none, .mv (.t 8)⟩,
   ⟨some 111, none, .load (some 8) (.t 16)⟩,
   ⟨some 112, none, .bsl 120 8 [.t 111]⟩,
   ⟨some 113, none, .app 120 8 80 [.int .i64 0, .int .i64 0, .int .i64 0, .int .i64 0, .int .i64 0, .int .i64 0, .int .i64 0, .slice none 0 0] (.t 110) (.t 112)⟩,
   ⟨some 8, none, .mv (.t 113)⟩])
 (.rg [⟨some 114, none, .load (some 4) (.t 6)⟩,
   ⟨some 115, none, .load (some 8) (.t 16)⟩,
   ⟨some 116, none, .callm n_spec_l21Do S_spec_l21Do [(.t 114, [none, some 4, some 2]), (.t 115, [none, none, none, none, none, none, none, some 4])]⟩,
   ⟨none, none, .store 4 (.t 6) (.t 116)⟩]))))))
set_option maxHeartbeats 4000000 in
set_option maxRecDepth 100000 in
theorem lp2_ok {b : List Int} {bad : Int} {Q : Post} {fr : Env} {H : Hp} {nx rm0 rm : Nat} {w : Wo} {kN : Nat} {f : Nat → Nat} {kE : Nat} {evs : List (List AC)} (hrd : RdOk b) (hP : PSt b 177 H nx w kN f kE evs) (hfr : Has fr [(0, pt0), (4, .w (.o (.ptr 33 0))), (5, I bad), (6, .w (.o (.ptr 177 0))), (8, .w (.o (.ow kE)))]) (hlen : evs.length ≤ 40) (hrm : rm ≤ rm0) (hlim0 : rm0 + 29000 ≤ LIM)
    (hQ : ∀ fr' H' nx' rm' w' kN' f' kE' evs', Has fr' [(0, pt0), (4, .w (.o (.ptr 33 0))), (5, I bad), (6, .w (.o (.ptr 177 0))), (8, .w (.o (.ow kE')))] → PSt b 177 H' nx' w' kN' f' kE' evs' → rm' ≤ rm0 + 25000 → Q (.exit 8) fr' H' nx' rm') : swp Try.prog lp2 Q fr H nx rm := by
  have cc_spec_l6Rd_pick : S_spec_l6Rd_pick.cost = 1 := rfl
  have c2 : S_spec_l72Event.cost = 300 := rfl
  have s2 : S_spec_l21Do.st = 0 := rfl
  have s3 : S_spec_l72Event.st = 0 := rfl
  have c3 : S_spec_l21Do.cost = 0 := rfl
  conv => whnf
  refine ⟨fun fr H nx rm' => ∃ (w : Wo) (kN : Nat) (f : Nat → Nat) (kE : Nat) (evs : List (List AC)), Has fr [(0, pt0), (4, .w (.o (.ptr 33 0))), (5, I bad), (6, .w (.o (.ptr 177 0))), (8, .w (.o (.ow kE)))] ∧ PSt b 177 H nx w kN f kE evs ∧ evs.length ≤ 69 ∧ rm' ≤ rm0 + 200 + 310 * evs.length,
    fun _ _ _ rm' => rm0 + 30000 - rm', ⟨w, kN, f, kE, evs, hfr, hP, by omega, by omega⟩, ?_⟩
  clear hP hfr hlen hrm
  rintro fr H nx rm' ⟨w, kN, f, kE, evs, hfr, hP, hlen, hrm⟩
  rw [hfr.eq]
  obtain ⟨hE0, hE33, hE177⟩ := hP.e0
  have hEk := hP.ke
  have hEv := hP.ev
  have hBx := hP.box
  have hRd : H 0 = some (.rd (byF b)) := hP.rd
  have hRs := hP.res
  have hNx := hP.b2
  by_cases h9 : evs.length < 69
  · skip
    repeat' ((conv => whnf); first
      | refine ⟨rfl, ?_⟩
      | refine ⟨_, ldc_cells (by first | assumption | exact zk ‹_› (by omega) | exact zk (zk ‹_› (by omega)) (by omega)) (Nat.le_of_ble_eq_true rfl), ?_⟩
      | refine ⟨_, _, _, ((by exact hk_) : (_ : Option Ob) = _), ?_⟩
      | (refine ⟨fun hc => ?_, fun hc => ?_⟩ <;> (try simp (disch := omega) only [List.length_map, wrap64] at hc) <;> (try (exfalso; first | contradiction | omega)))
      | (refine callrd (by exact hk_) rfl rfl ⟨(_, _), rfl, (by exact pr_)⟩ v_spec_l6Rd_pick (by omega) (fun r hr => ?_); have hj := K_spec_l6Rd_pick (a := (_, _)) hr; clear hr; obtain ⟨k, rfl, hk0, hk1⟩ := hj; dsimp only at hk1; (try simp (disch := omega) only [List.length_map, ncast, wrap64] at hk1))
      | fail)
    · refine mq_WR (w := w) (kN := kN) (kr := 0) (f := f) (b := b) (Q := QEvent) v_spec_l72Event (by omega) (hP.wat.keep (by omega) (fun k hk => by (repeat (refine (hupd_ne (by omega)).trans ?_)); rfl)) hk_ (by omega) rfl ⟨(w, b), rfl, rfl, hP.inv, hrd⟩ (fun r obs' h => mkR2_post h) (fun r hq ρ => by obtain ⟨v, rfl, _⟩ := hq; exact agg_ren) (fun r ⟨e, hr, he⟩ => ?_)
      subst hr
      have hFE : FitV e.v := Nat.le_trans he (by decide)
      have hlim : rm' + S_spec_l6Rd_pick.cost + S_spec_l72Event.cost ≤ LIM := by omega
      repeat' ((conv => whnf); first
        | refine ⟨_, ldc_cells hk_ (Nat.le_of_ble_eq_true rfl), ?_⟩
        | refine ⟨_, news_ow hupd_at, newsz_ow hupd_at, _, (hk_ : (_ : Option Ob) = _), (by simp only [List.length_cons, List.length_nil]; omega), ?_⟩
        | refine ⟨_, _, hupd_at, rfl, rfl, Nat.le_of_ble_eq_true rfl, ?_⟩
        | fail)
      refine mq_W (w := w) (w' := doW w ((e : Ev))) (kN := kN) (f := f) v_spec_l21Do rfl hlim (hP.wat2 (by omega) (fun k h1 h2 => by (repeat (refine (hupd_ne (by omega)).trans ?_)); rfl)) ((doW_inv hP.inv).2.2.1) rfl (fun _ => rfl) ⟨(w, (e : Ev)), rfl, rfl, hP.inv, hFE⟩ (fun r obs' h => K_spec_l21Do h) (fun f' H'' hW' hT' hK' => ?_)
      have hB2 : H'' 177 = some (.cells (wvC w kN f)) := (hK' 177 (Ne.symm hP.n0.2.2) (fun j hj => (hP.f0 hj).2.2.symm) (by omega)).trans hk_
      repeat' ((conv => whnf); first
        | (refine ⟨?_, _, (?_ : (_ : Option Ob) = _), rfl, rfl, ?_, ?_⟩; rotate_left; (exact hk_); exact Nat.le_of_ble_eq_true rfl)
        | fail)
      refine ⟨⟨_, kN, f', _, _, ⟨rfl, rfl, rfl, rfl, rfl, trivial⟩, hP.next (x := ((evF e).map AC.c)) (fun k h1 h2 => by (repeat (refine (hupd_ne (by omega)).trans ?_)); rfl) hk_ (by omega) (by omega) rfl (doW_inv hP.inv) hW' hK' (by omega), (by simp only [List.length_append, List.length_cons, List.length_nil]; omega), (by simp only [List.length_append, List.length_cons, List.length_nil]; omega)⟩, ?_⟩
      show rm0 + 30000 - (rm' + S_spec_l6Rd_pick.cost + S_spec_l72Event.cost + S_spec_l21Do.cost) < rm0 + 30000 - rm'
      omega
    · exact hQ _ _ _ _ _ _ _ _ _ ⟨rfl, rfl, rfl, rfl, rfl, trivial⟩ (hP.keep (by omega) (fun k hk => rfl)) (by omega)
  · skip
    repeat' ((conv => whnf); first
      | refine ⟨rfl, ?_⟩
      | refine ⟨_, _, _, ((by exact hk_) : (_ : Option Ob) = _), ?_⟩
      | (refine ⟨fun hc => ?_, fun hc => ?_⟩ <;> (try simp (disch := omega) only [List.length_map, wrap64] at hc) <;> (try (exfalso; first | contradiction | omega)))
      | fail)
    exact hQ _ _ _ _ _ _ _ _ _ ⟨rfl, rfl, rfl, rfl, rfl, trivial⟩ (hP.keep (by omega) (fun k hk => rfl)) (by omega)
end Av
end Go.Proofs.Ytfijfccgghhkoaa
