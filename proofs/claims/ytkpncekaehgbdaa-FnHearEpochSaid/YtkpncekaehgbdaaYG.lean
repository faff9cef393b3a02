/- The walk: the law FnHearEpoch. -/
import Derived.Test.YtkpncekaehgbdaaZV
import Derived.Test.YtkpncekaehgbdaaZD
import Derived.Test.YtkpncekaehgbdaaYA
import Derived.Test.YtkpncekaehgbdaaG5
import Derived.Test.YtkpncekaehgbdaaK0
import Derived.Test.YtkpncekaehgbdaaW1
import Derived.Test.YtkpncekaehgbdaaQF
set_option linter.unusedVariables false
set_option linter.unusedSimpArgs false
namespace Go.Proofs.Ytkpncekaehgbdaa
namespace Av
open Go.RowKit

theorem lastE_snoc {i : Int} {l : List It} {x : It} : lastE ⟨i, l ++ [x]⟩ = x.e := by
  refine lastE_at (v := ⟨i, l ++ [x]⟩) ?_
  show (l ++ [x])[(l ++ [x]).length - 1]? = some x
  rw [List.length_append, List.length_singleton, Nat.add_sub_cancel, List.getElem?_append_right (Nat.le_refl _), Nat.sub_self]; rfl
attribute [local irreducible] Valid ValidM
set_option maxHeartbeats 4000000 in
set_option maxRecDepth 100000 in
theorem v_impl_TreeTip : Valid Try.prog n_impl_TreeTip S_impl_TreeTip := by
  refine valid_of_swp mixed is_impl_TreeTip (by rintro _ ⟨a, rfl, _⟩; exact Nat.le_of_ble_eq_true rfl) ?_
  rintro _ rm ⟨l, rfl, hpre⟩ hl
  try dsimp only at hpre
  have hpre0 := hpre
  obtain ⟨hp1, hp2⟩ := hpre
  repeat' ((conv => whnf); first
    | (refine callt (b := [one (vsF _)]) v_impl_VotesOk rfl ⟨_, rfl, (by exact pr_)⟩ (.inl rfl) (by first | assumption | omega) (fun r hr => K_impl_VotesOk (a := _) hr) (fun hj => ?_) (fun hj => ?_) <;> (try simp only [etaPa, etaIt, etaVo] at hj))
    | (refine calle (b := [one (vsF _)]) v_impl_votes_tip rfl ⟨_, rfl, (by refine ⟨?_, ?_⟩ <;> (exact pr_))⟩ (.inl rfl) (by first | assumption | omega) (fun r hr => K_impl_votes_tip (a := _) hr) ?_)
    | exact ⟨⟨_, rfl, rfl, l, rfl, (by refine congrArg one (?_ : (_ : FV) = _); (try dsimp only); first | done | exact absurd True.intro hj | ((unfold tipT; first | (rw [tb_pos (by assumption)]; rfl) | (rw [tb_neg (by assumption)]; rfl))))⟩, (by first | exact Nat.le_refl _ | omega), (by exact h0_)⟩
    | fail)
noncomputable def lpE : A := (.loop
 (.seq
 (.seq
 (.rg [⟨some 118, none, .mv (.t 17)⟩,
   ⟨some 119, none, .fld 3 (.t 5)⟩,
   ⟨some 120, none, .load none (.t 119)⟩,
   ⟨some 121, none, .len (.t 120)⟩,
   ⟨some 122, none, .bin 0 .lss (.t 118) (.t 121)⟩])
 (.cond (.t 122)
 .skip
 (.exit 0)))
 (.seq
 (.block 1
 (.seq
 (.rg [⟨some 125, none, .fld 3 (.t 5)⟩,
   ⟨some 126, none, .load none (.t 125)⟩,
   ⟨some 127, none, .mv (.t 17)⟩,
   ⟨some 128, none, .idx 2 (.t 126) (.t 127)⟩,
   ⟨some 129, none, .fld 0 (.t 128)⟩,
   ⟨some 130, none, .load none (.t 129)⟩,
   ⟨some 131, none, .mv (.t 16)⟩,
   ⟨some 132, none, .bin 0 .eql (.t 130) (.t 131)⟩,
   ⟨some 133, none, .mv (.t 132)⟩,
   ⟨some 134, some (133, true), .fld 3 (.t 5)⟩,
   ⟨some 135, some (133, true), .load none (.t 134)⟩,
   ⟨some 136, some (133, true), .mv (.t 17)⟩,
   ⟨some 137, some (133, true), .idx 2 (.t 135) (.t 136)⟩,
   ⟨some 138, some (133, true), .fld 1 (.t 137)⟩,
   ⟨some 139, some (133, true), .load none (.t 138)⟩,
   ⟨some 140, some (133, true), .fld 3 (.t 5)⟩,
   ⟨some 141, some (133, true), .load none (.t 140)⟩,
   ⟨some 142, some (133, true), .mv (.t 17)⟩,
   ⟨some 143, some (133, true), .idx 2 (.t 141) (.t 142)⟩,
   ⟨some 144, some (133, true), .fld 1 (.t 143)⟩,
   ⟨some 145, some (133, true), .load none (.t 144)⟩,
   ⟨some 146, some (133, true), .len (.t 145)⟩,
   ⟨some 147, some (133, true), .bin 0 .sub (.t 146) (.k (.int .i64 1))⟩,
   ⟨some 148, some (133, true), .idx 4 (.t 139) (.t 147)⟩,
   ⟨some 149, some (133, true), .fld 0 (.t 148)⟩,
   ⟨some 150, some (133, true), .load none (.t 149)⟩,
   ⟨some 151, some (133, true), .fld 1 (.t 5)⟩,
   ⟨some 152, some (133, true), .load none (.t 151)⟩,
   ⟨some 153, some (133, true), .bin 0 .eql (.t 150) (.t 152)⟩,
   ⟨some 154, none, .pick (.t 133) (.t 153) (.k (.bool false))⟩])
 (.cond (.t 154)
 (.seq
 (.rg [⟨some 4, none, .mv (.k (.bool true))⟩])
 .ret)
 .skip)))
 (.rg [⟨some 123, none, .mv (.t 17)⟩,
   ⟨some 124, none, .bin 0 .add (.t 123) (.k (.int .i64 1))⟩,
   ⟨some 17, none, .mv (.t 124)⟩]))))
noncomputable def tlE : A := (.seq
 (.rg [⟨some 155, none, .bsl 40 4 []⟩,
   ⟨some 156, none, .mv (.t 13)⟩,
   ⟨some 157, none, .app 40 4 32 [.int .i64 0, .int .i64 0, .int .i64 0, .int .i64 0] (.t 155) (.t 156)⟩,
   ⟨some 158, none, .fld 1 (.t 5)⟩,
   ⟨some 159, none, .load none (.t 158)⟩,
   ⟨some 160, none, .build [.int .i64 0, .int .i64 0, .int .i64 0] [(0, 1, .k (.int .i64 1)), (1, 1, .k (.int .i64 2)), (2, 1, .k (.int .i64 1))]⟩,
   ⟨some 161, none, .build [.int .i64 0, .int .i64 0, .int .i64 0, .int .i64 0] [(0, 1, .t 159), (1, 3, .t 160)]⟩,
   ⟨some 162, none, .bsl 40 4 [.t 161]⟩,
   ⟨some 163, none, .app 40 4 32 [.int .i64 0, .int .i64 0, .int .i64 0, .int .i64 0] (.t 157) (.t 162)⟩,
   ⟨some 18, none, .mv (.t 163)⟩])
 (.seq
 (.frz 18 (.rg [⟨some 165, none, .load (some 4) (.t 5)⟩,
   ⟨some 166, none, .mv (.t 16)⟩,
   ⟨some 167, none, .mv (.t 15)⟩,
   ⟨some 168, none, .build [.int .i64 0, .slice none 0 0] [(0, 1, .t 166), (1, 1, .t 167)]⟩,
   ⟨some 169, none, .call n_impl_NodeHear S_impl_NodeHear [(.t 165, [none, none, none, some 2]), (.t 168, [none, some 4])]⟩,
   ⟨some 164, none, .mv (.t 169)⟩,
   ⟨some 170, none, .ext (.t 164) 0⟩,
   ⟨some 171, none, .ext (.t 164) 1⟩,
   ⟨some 172, none, .ext (.t 164) 2⟩,
   ⟨some 19, none, .alloc [.int .i64 0, .int .i64 0, .int .i64 0, .slice none 0 0]⟩,
   ⟨some 20, none, .alloc [.int .i64 0, .slice none 0 0]⟩,
   ⟨none, none, .store 4 (.t 19) (.t 170)⟩,
   ⟨none, none, .store 2 (.t 20) (.t 171)⟩,
   ⟨some 21, none, .mv (.t 172)⟩]))
 (.seq
 (.rg [⟨some 174, none, .load (some 4) (.t 5)⟩,
   ⟨some 175, none, .mv (.t 16)⟩,
   ⟨some 176, none, .bin 0 .rem (.t 175) (.k (.int .i64 4))⟩,
   ⟨some 177, none, .bin 0 .add (.t 176) (.k (.int .i64 1))⟩,
   ⟨some 178, none, .mv (.t 18)⟩,
   ⟨some 179, none, .build [.int .i64 0, .slice none 0 0] [(0, 1, .t 177), (1, 1, .t 178)]⟩,
   ⟨some 180, none, .call n_impl_NodeHear S_impl_NodeHear [(.t 174, [none, none, none, some 2]), (.t 179, [none, some 4])]⟩,
   ⟨some 173, none, .mv (.t 180)⟩,
   ⟨some 181, none, .ext (.t 173) 0⟩,
   ⟨some 182, none, .ext (.t 173) 1⟩,
   ⟨some 183, none, .ext (.t 173) 2⟩,
   ⟨some 22, none, .alloc [.int .i64 0, .int .i64 0, .int .i64 0, .slice none 0 0]⟩,
   ⟨some 23, none, .alloc [.int .i64 0, .slice none 0 0]⟩,
   ⟨none, none, .store 4 (.t 22) (.t 181)⟩,
   ⟨none, none, .store 2 (.t 23) (.t 182)⟩,
   ⟨some 24, none, .mv (.t 183)⟩])
 (.seq
 (.rg [⟨some 184, none, .mv (.t 21)⟩,
   ⟨some 185, none, .un .not (.t 184)⟩,
   ⟨some 186, none, .mv (.t 185)⟩,
   ⟨some 187, some (186, true), .mv (.t 24)⟩,
   ⟨some 188, some (186, true), .un .not (.t 187)⟩,
   ⟨some 189, none, .pick (.t 186) (.t 188) (.k (.bool false))⟩,
   ⟨some 4, none, .mv (.t 189)⟩])
 .ret))))
abbrev NoE (n : Nd) : Prop := ∀ v, v ∈ n.seen → ¬ (v.n = lead n.ep ∧ lastE v = n.ep)
set_option maxHeartbeats 4000000 in
set_option maxRecDepth 100000 in
theorem lpE_ok {n : Nd} {C : List It} {Q : Post} {fr : Env} {H : Hp} {nx rm : Nat} (hok : NodeOk n) (hle : leadV n.ep = lead n.ep) (hfr : Has fr [(5, .w (.o (.ptr 225 0))), (13, one (chF (tipT n.seen))), (15, one (chF C)), (16, I (leadV n.ep)), (17, I 0)]) (hH : H 0 = none) (hnx : 300 ≤ nx) (hH1 : H 225 = some (.cells ((ndF n).map AC.c)))
    (hE : ∀ fr' H' nx', NoE n → Has fr' [(5, .w (.o (.ptr 225 0))), (13, one (chF (tipT n.seen))), (15, one (chF C)), (16, I (leadV n.ep))] → H' 0 = none → 300 ≤ nx' → H' 225 = some (.cells ((ndF n).map AC.c)) → Q (.exit 0) fr' H' nx' rm)
    (hR : ∀ fr' H' nx', Has fr' [(4, B true)] → H' 0 = none → Q .ret fr' H' nx' rm) : swp Try.prog lpE Q fr H nx rm := by
  have hfs : FitVs n.seen := hok.fit
  have hVo := hok.2.2.2.2.1
  conv => whnf
  refine ⟨fun fr H nx rm' => ∃ (i : Nat), Has fr [(5, .w (.o (.ptr 225 0))), (13, one (chF (tipT n.seen))), (15, one (chF C)), (16, I (leadV n.ep)), (17, I i)] ∧ i ≤ n.seen.length ∧ (∀ j u, j < i → n.seen[j]? = some u → ¬ (u.n = lead n.ep ∧ lastE u = n.ep)) ∧ 300 ≤ nx ∧ H 225 = some (.cells ((ndF n).map AC.c)) ∧ H 0 = none ∧ rm' = rm,
    fun fr _ _ _ => n.seen.length - ix (fr 17), ⟨0, hfr, Nat.zero_le _, (fun j u h => absurd h (Nat.not_lt_zero _)), hnx, hH1, hH, rfl⟩, ?_⟩
  clear hfr hH hnx hH1
  rintro fr H nx rm' ⟨i, hfr, hi, hq, hnx, hH1, hH, rfl⟩
  rw [hfr.eq]
  have hfl := hfs.1
  rcases Nat.lt_or_ge i n.seen.length with hi' | hi'
  · obtain ⟨u, hu⟩ : ∃ x, n.seen[i]? = some x := ⟨_, List.getElem?_eq_getElem hi'⟩
    have hum : u ∈ n.seen := List.mem_of_getElem? hu
    have hu0 := votesOk_ne hVo hum
    have huL : u.c.length ≤ LIM := hfs.2 u hum
    obtain ⟨z, hz⟩ : ∃ y, u.c[u.c.length - 1]? = some y := ⟨_, List.getElem?_eq_getElem (by omega)⟩
    have hlz := lastE_at hz
    have hw : IntKind.i64.wrap (((u.c.map itF).length : Int) - 1) = ((u.c.length - 1 : Nat) : Int) := by rw [List.length_map]; exact wrap_dn hu0 huL
    have hstep : ¬ (u.n = lead n.ep ∧ lastE u = n.ep) → ∀ j v, j < i + 1 → n.seen[j]? = some v → ¬ (v.n = lead n.ep ∧ lastE v = n.ep) := by
      intro hh j v hj1 hj2
      by_cases e : j < i
      · exact hq j v e hj2
      · have e : j = i := by omega
        subst e; cases (hu.symm.trans hj2); exact hh
    clear hok hVo hfs
    by_cases hh : u.n = lead n.ep ∧ lastE u = n.ep
    · obtain ⟨g1, g2⟩ := id hh
      rw [hlz] at g2
      rw [← hle] at g1
      repeat' ((conv => whnf); first
        | refine ⟨_, _, rfl, at_map hu, ?_⟩
        | refine idx_mapX hw hz ?_
        | refine ⟨_, rfl, ?_⟩
        | refine ⟨rfl, ?_⟩
        | refine ⟨_, ldc_cells (by first | assumption | exact zk ‹_› (by omega) | exact zk (zk ‹_› (by omega)) (by omega)) (Nat.le_of_ble_eq_true rfl), ?_⟩
        | (refine ⟨fun hc => ?_, fun hc => ?_⟩ <;> (try simp (disch := omega) only [List.length_map, wrap64] at hc) <;> (try (exfalso; first | contradiction | omega)))
        | exact hR _ _ _ ⟨rfl, trivial⟩ (by first | assumption | exact ne_)
        | fail)
    · have g : ¬ (u.n = leadV n.ep ∧ z.e = n.ep) := by rw [← hlz, hle]; exact hh
      repeat' ((conv => whnf); first
        | refine ⟨_, _, rfl, at_map hu, ?_⟩
        | refine idx_mapX hw hz ?_
        | refine ⟨_, rfl, ?_⟩
        | refine ⟨rfl, ?_⟩
        | refine ⟨_, ldc_cells (by first | assumption | exact zk ‹_› (by omega) | exact zk (zk ‹_› (by omega)) (by omega)) (Nat.le_of_ble_eq_true rfl), ?_⟩
        | (refine ⟨fun hc => ?_, fun hc => ?_⟩ <;> (try simp (disch := omega) only [List.length_map, wrap64] at hc) <;> (try (exfalso; first | contradiction | omega)))
        | (refine ⟨⟨i + 1, ⟨rfl, rfl, rfl, rfl, congrArg I (wrap_up (n := n.seen.length) (by omega) hfl), trivial⟩, (by omega), hstep hh, (by omega), (by first | assumption | exact hk_), (by first | assumption | exact ne_), rfl⟩, ?_⟩; show n.seen.length - ix (I _) < n.seen.length - ix (I _); simp only [wrap_up (n := n.seen.length) (i := i) (by omega) hfl, ix, Int.toNat_natCast]; omega)
        | fail)
  · have hall : NoE n := fun v hv => by
      obtain ⟨j, hj⟩ := List.mem_iff_getElem?.1 hv
      exact hq j v (by have := (List.getElem?_eq_some_iff.1 hj).1; omega) hj
    clear hok hVo hfs
    repeat' ((conv => whnf); first
      | refine ⟨rfl, ?_⟩
      | refine ⟨_, ldc_cells (by first | assumption | exact zk ‹_› (by omega) | exact zk (zk ‹_› (by omega)) (by omega)) (Nat.le_of_ble_eq_true rfl), ?_⟩
      | (refine ⟨fun hc => ?_, fun hc => ?_⟩ <;> (try simp (disch := omega) only [List.length_map, wrap64] at hc) <;> (try (exfalso; first | contradiction | omega)))
      | exact hE _ _ _ hall ⟨rfl, rfl, rfl, rfl, trivial⟩ (by first | assumption | exact ne_) (by omega) (by first | assumption | exact hk_)
      | fail)
set_option maxHeartbeats 4000000 in
set_option maxRecDepth 100000 in
theorem tlE_ok {n : Nd} {C D : List It} {Q : Post} {fr : Env} {H : Hp} {nx rm : Nat} (hok : NodeOk n) (hall : NoE n) (hle : leadV n.ep = lead n.ep) (hlb : 1 ≤ lead n.ep ∧ lead n.ep ≤ 4) (htl : (tipT n.seen).length ≤ 16) (hD : D = tipT n.seen ++ [⟨n.ep, ⟨1, 2, 1⟩⟩]) (hCl : C.length ≤ LIM) (hDl : D.length ≤ LIM) (hCe : ∀ i, lastE ⟨i, C⟩ ≠ n.ep) (hfr : Has fr [(5, .w (.o (.ptr 225 0))), (13, one (chF (tipT n.seen))), (15, one (chF C)), (16, I (leadV n.ep))]) (hH : H 0 = none) (hnx : 300 ≤ nx) (hH1 : H 225 = some (.cells ((ndF n).map AC.c))) (hl : rm ≤ LIM)
    (hR : ∀ fr' H' nx', Has fr' [(4, B true)] → H' 0 = none → Q .ret fr' H' nx' rm) : swp Try.prog tlE Q fr H nx rm := by
  have hfs : FitVs n.seen := hok.fit
  have cc_impl_NodeHear : S_impl_NodeHear.cost = 0 := rfl
  have hi2n : IntKind.i64.wrap (Int.tmod (leadV n.ep) 4 + 1) ≠ lead n.ep := by
    rw [hle]
    have a1 := Int.tmod_nonneg (a := lead n.ep) 4 (by omega)
    have a2 := Int.tmod_lt_of_pos (a := lead n.ep) (b := 4) (by decide)
    rw [wrap64 (by omega) (by omega)]
    intro h
    have h4 : lead n.ep = 1 ∨ lead n.ep = 2 ∨ lead n.ep = 3 ∨ lead n.ep = 4 := by omega
    rcases h4 with e | e | e | e <;> rw [e] at h <;> exact absurd h (by decide)
  have f5 : (hearN false n ⟨leadV n.ep, C⟩).2.2 = false := hear_epoch hall fun h => hCe _ h.2
  have f6 : (hearN false n ⟨IntKind.i64.wrap (Int.tmod (leadV n.ep) 4 + 1), D⟩).2.2 = false := hear_epoch hall fun h => hi2n h.1
  obtain ⟨o5, ho5⟩ : ∃ o, hearN false n ⟨leadV n.ep, C⟩ = o := ⟨_, rfl⟩
  obtain ⟨o6, ho6⟩ : ∃ o, hearN false n ⟨IntKind.i64.wrap (Int.tmod (leadV n.ep) 4 + 1), D⟩ = o := ⟨_, rfl⟩
  rw [ho5] at f5
  rw [ho6] at f6
  obtain ⟨x5, y5, t5⟩ := o5
  obtain ⟨x6, y6, t6⟩ := o6
  dsimp only at f5 f6
  subst f5 f6
  have e5 := (hearT_ok hok ⟨leadV n.ep, C⟩).trans ho5
  have e6 := (hearT_ok hok ⟨IntKind.i64.wrap (Int.tmod (leadV n.ep) 4 + 1), D⟩).trans ho6
  clear hok hall hle hlb hCe hi2n ho5 ho6
  rw [hfr.eq]
  repeat' ((conv => whnf); first
    | refine ⟨_, ldc_cells hk_ (Nat.le_of_ble_eq_true rfl), ?_⟩
    | refine ⟨_, rfl, ?_⟩
    | refine ⟨rfl, ?_⟩
    | refine ⟨_, news_ow hupd_at, newsz_ow hupd_at, _, ((by exact hk_) : (_ : Option Ob) = _), (by exact ap_), ?_⟩
    | refine ⟨_, ((by exact hk_) : (_ : Option Ob) = _), ?_⟩
    | refine ⟨(show _ ≤ _ from (by exact ap_)), ?_⟩
    | fail)
  refine .inl ⟨_, _, _, _, _, rfl, hupd_at.trans (by rw [hD]; exact (congrArg (fun z => some (Ob.arr _ _ (z ++ _))) (show [] ++ List.map (fun x => x.map AC.c) (List.map itF (tipT n.seen)) = arA itF (tipT n.seen) by simp [arA])).trans (arr_snoc rfl)), fcellss_f itF D, .inr ?_⟩
  repeat' ((conv => whnf); first
    | refine ⟨_, ldc_cells hk_ (Nat.le_of_ble_eq_true rfl), ?_⟩
    | (refine calle (b := [agg (ndF n), agg (voF ⟨leadV n.ep, C⟩)]) v_impl_NodeHear rfl ⟨(n, ⟨leadV n.ep, C⟩), rfl, ⟨hfs, hCl⟩⟩ (.inl rfl) (by first | assumption | omega) (fun r hr => (show r = trip (hearT n ⟨leadV n.ep, C⟩) from K_impl_NodeHear (a := (n, ⟨leadV n.ep, C⟩)) hr).trans (congrArg trip e5)) ?_)
    | (refine calle (b := [agg (ndF n), agg (voF ⟨IntKind.i64.wrap (Int.tmod (leadV n.ep) 4 + 1), D⟩)]) v_impl_NodeHear rfl ⟨(n, ⟨IntKind.i64.wrap (Int.tmod (leadV n.ep) 4 + 1), D⟩), rfl, ⟨hfs, hDl⟩⟩ (.inl rfl) (by first | assumption | omega) (fun r hr => (show r = trip (hearT n ⟨IntKind.i64.wrap (Int.tmod (leadV n.ep) 4 + 1), D⟩) from K_impl_NodeHear (a := (n, ⟨IntKind.i64.wrap (Int.tmod (leadV n.ep) 4 + 1), D⟩)) hr).trans (congrArg trip e6)) ?_)
    | refine ⟨rfl, ?_⟩
    | (refine ⟨?_, _, (?_ : (_ : Option Ob) = _), rfl, rfl, ?_, ?_⟩; rotate_left; (exact hk_); exact Nat.le_of_ble_eq_true rfl)
    | refine ⟨(show _ ≠ _ from (by first | decide | omega)), ?_⟩
    | exact hR _ _ _ ⟨rfl, trivial⟩ (by first | assumption | exact ne_)
    | fail)
set_option maxHeartbeats 4000000 in
set_option maxRecDepth 100000 in
theorem v_laws_FnHearEpoch : Valid Try.prog n_laws_FnHearEpoch S_laws_FnHearEpoch := by
  refine valid_of_swp mixed is_laws_FnHearEpoch (by rintro _ ⟨a, rfl, _⟩; exact Nat.le_of_ble_eq_true rfl) ?_
  rintro _ rm ⟨⟨code, more⟩, rfl, hpre⟩ hl
  try dsimp only at hpre
  have hpre0 := hpre
  obtain ⟨hp1, hp2⟩ := hpre
  have cc_laws_FnHearEpoch : S_laws_FnHearEpoch.cost = 200000 := rfl
  have cc_impl_TreeTip : S_impl_TreeTip.cost = 0 := rfl
  have cc_impl_VoteLeader : S_impl_VoteLeader.cost = 0 := rfl
  have cc_spec_DrawNodeHear : S_spec_DrawNodeHear.cost = 60000 := rfl
  have cc_spec_NodeHear : S_spec_NodeHear.cost = 0 := rfl
  have cc_impl_NodeHear : S_impl_NodeHear.cost = 0 := rfl
  have cc_laws_lwNode : S_laws_lwNode.cost = 0 := rfl
  have cc_laws_lwVote : S_laws_lwVote.cost = 0 := rfl
  have cc_spec_NodeOk : S_spec_NodeOk.cost = 0 := rfl
  have cc_impl_NodeOk : S_impl_NodeOk.cost = 0 := rfl
  repeat' ((conv => whnf); first
    | refine ⟨_, rfl, ?_⟩
    | refine ⟨rfl, ?_⟩
    | refine ⟨_, _, rfl, rfl, rfl, Nat.le_of_ble_eq_true rfl, ?_⟩
    | (refine ⟨fun hc => ?_, fun hc => ?_⟩ <;> (try simp (disch := omega) only [List.length_map, wrap64] at hc))
    | (refine callk (b := [one (byF _)]) v_spec_DrawNodeHear rfl ⟨_, rfl, (by exact pr_)⟩ (.inl rfl) (by omega) (fun r hr => ?_); have hj := K_spec_DrawNodeHear (a := _) hr; clear hr; obtain ⟨n, v, rfl, hdn, hdv⟩ := hj)
    | exact ⟨⟨_, rfl, rfl, (code, more), rfl, (by unfold R_laws_FnHearEpoch; dsimp only; first | done | exact absurd True.intro hj | (rfl))⟩, (by first | exact Nat.le_refl _ | omega), (by exact h0_)⟩
    | fail)
  have hfs : FitVs n.seen := hdn.fit
  have hlt : n.seen.length < LIM := hdn.lt
  have hfz : FitVs zNd.seen := ⟨Nat.zero_le _, fun v h => by cases h⟩
  have hfzv : FitV zVo := Nat.zero_le _
  have hfv : FitV v := Nat.le_trans hdv (by decide)
  by_cases hok : NodeOk n
  · have hfy : FitV (hearN false n v).2.1 := Nat.le_trans (hearN_b (b := false) hok.ndb.1 hok.ndb.2.2).2.2.2.2 (by decide)
    have hx : NodeOk (hearN false n v).1 := hearN_ok hok
    obtain ⟨o, ho⟩ : ∃ o, hearN false n v = o := ⟨_, rfl⟩
    rw [ho] at hfy hx
    obtain ⟨x, y, t⟩ := o
    have hfx : FitVs x.seen := hx.fit
    have e2 : hearT n v = (x, y, t) := (hearT_ok hok v).trans ho
    by_cases hm : n.ep = 0 ∨ n.vt = n.ep
    · rcases t with _ | _
      · skip
        repeat' ((conv => whnf); first
          | (refine calle (b := [agg (ndF n), agg (voF v)]) v_impl_NodeHear rfl ⟨(n, v), rfl, ⟨hfs, hfv⟩⟩ (.inl rfl) (by first | assumption | omega) (fun r hr => (show r = trip (hearT n v) from K_impl_NodeHear (a := (n, v)) hr).trans (congrArg trip e2)) ?_)
          | (refine calle (b := [agg (ndF n), agg (voF v)]) v_spec_NodeHear rfl ⟨(n, v), rfl, ⟨hfs, hfv⟩⟩ (.inl rfl) (by first | assumption | omega) (fun r hr => (show r = trip (hearT n v) from K_spec_NodeHear (a := (n, v)) hr).trans (congrArg trip e2)) ?_)
          | refine ⟨_, rfl, ?_⟩
          | refine ⟨rfl, ?_⟩
          | refine ⟨_, _, rfl, rfl, rfl, Nat.le_of_ble_eq_true rfl, ?_⟩
          | (refine ⟨fun hc => ?_, fun hc => ?_⟩ <;> (try simp (disch := omega) only [List.length_map, wrap64] at hc) <;> (try (exfalso; first | contradiction | omega)))
          | (refine callt (b := [agg (ndF ⟨_, _, _, _⟩), agg (ndF ⟨_, _, _, _⟩)]) v_laws_lwNode rfl ⟨(⟨_, _, _, _⟩, ⟨_, _, _, _⟩), rfl, (by refine ⟨?_, ?_⟩ <;> (exact pr_))⟩ (.inl rfl) (by first | assumption | omega) (fun r hr => K_laws_lwNode (a := (⟨_, _, _, _⟩, ⟨_, _, _, _⟩)) hr) (fun hj => ?_) (fun hj => ?_) <;> (try simp only [etaPa, etaIt, etaVo] at hj) <;> (try simp only [etaNd] at hj) <;> (try contradiction))
          | (refine callt (b := [agg (voF ⟨_, _⟩), agg (voF ⟨_, _⟩)]) v_laws_lwVote rfl ⟨(⟨_, _⟩, ⟨_, _⟩), rfl, (by refine ⟨?_, ?_⟩ <;> (exact pr_))⟩ (.inl rfl) (by first | assumption | omega) (fun r hr => K_laws_lwVote (a := (⟨_, _⟩, ⟨_, _⟩)) hr) (fun hj => ?_) (fun hj => ?_) <;> (try simp only [etaPa, etaIt, etaVo] at hj) <;> (try contradiction))
          | (refine ⟨⟨n, rfl, (by exact pr_)⟩, v_spec_NodeOk, (.inl rfl), (by first | assumption | omega), fun r hr => ?_⟩; rcases K_spec_NodeOk (a := n) hr with ⟨hj, rfl⟩ | ⟨hj, rfl⟩ <;> clear hr <;> (try simp only [etaPa, etaIt, etaVo] at hj) <;> (try simp only [etaNd, etaWo] at hj) <;> (try contradiction))
          | exact ⟨⟨_, rfl, rfl, (code, more), rfl, (by unfold R_laws_FnHearEpoch; dsimp only; first | done | exact absurd True.intro hj | (first | rfl | (exfalso; first | contradiction | omega | grind)))⟩, (by first | exact Nat.le_refl _ | omega), (by exact h0_)⟩
          | fail)
      · skip
        repeat' ((conv => whnf); first
          | (refine calle (b := [agg (ndF n), agg (voF v)]) v_impl_NodeHear rfl ⟨(n, v), rfl, ⟨hfs, hfv⟩⟩ (.inl rfl) (by first | assumption | omega) (fun r hr => (show r = trip (hearT n v) from K_impl_NodeHear (a := (n, v)) hr).trans (congrArg trip e2)) ?_)
          | (refine calle (b := [agg (ndF n), agg (voF v)]) v_spec_NodeHear rfl ⟨(n, v), rfl, ⟨hfs, hfv⟩⟩ (.inl rfl) (by first | assumption | omega) (fun r hr => (show r = trip (hearT n v) from K_spec_NodeHear (a := (n, v)) hr).trans (congrArg trip e2)) ?_)
          | refine ⟨_, rfl, ?_⟩
          | refine ⟨rfl, ?_⟩
          | refine ⟨_, _, rfl, rfl, rfl, Nat.le_of_ble_eq_true rfl, ?_⟩
          | (refine ⟨fun hc => ?_, fun hc => ?_⟩ <;> (try simp (disch := omega) only [List.length_map, wrap64] at hc) <;> (try (exfalso; first | contradiction | omega)))
          | (refine callt (b := [agg (ndF ⟨_, _, _, _⟩), agg (ndF ⟨_, _, _, _⟩)]) v_laws_lwNode rfl ⟨(⟨_, _, _, _⟩, ⟨_, _, _, _⟩), rfl, (by refine ⟨?_, ?_⟩ <;> (exact pr_))⟩ (.inl rfl) (by first | assumption | omega) (fun r hr => K_laws_lwNode (a := (⟨_, _, _, _⟩, ⟨_, _, _, _⟩)) hr) (fun hj => ?_) (fun hj => ?_) <;> (try simp only [etaPa, etaIt, etaVo] at hj) <;> (try simp only [etaNd] at hj) <;> (try contradiction))
          | (refine callt (b := [agg (voF ⟨_, _⟩), agg (voF ⟨_, _⟩)]) v_laws_lwVote rfl ⟨(⟨_, _⟩, ⟨_, _⟩), rfl, (by refine ⟨?_, ?_⟩ <;> (exact pr_))⟩ (.inl rfl) (by first | assumption | omega) (fun r hr => K_laws_lwVote (a := (⟨_, _⟩, ⟨_, _⟩)) hr) (fun hj => ?_) (fun hj => ?_) <;> (try simp only [etaPa, etaIt, etaVo] at hj) <;> (try contradiction))
          | (refine ⟨⟨n, rfl, (by exact pr_)⟩, v_spec_NodeOk, (.inl rfl), (by first | assumption | omega), fun r hr => ?_⟩; rcases K_spec_NodeOk (a := n) hr with ⟨hj, rfl⟩ | ⟨hj, rfl⟩ <;> clear hr <;> (try simp only [etaPa, etaIt, etaVo] at hj) <;> (try simp only [etaNd, etaWo] at hj) <;> (try contradiction))
          | exact ⟨⟨_, rfl, rfl, (code, more), rfl, (by unfold R_laws_FnHearEpoch; dsimp only; first | done | exact absurd True.intro hj | (first | rfl | (exfalso; first | contradiction | omega | grind)))⟩, (by first | exact Nat.le_refl _ | omega), (by exact h0_)⟩
          | fail)
    · have hep1 : n.ep ≠ 0 := fun h => hm (.inl h)
      have hep2 : n.vt ≠ n.ep := fun h => hm (.inr h)
      obtain ⟨he1, he2⟩ := hok.2.1
      have hLp : In n.ep 0 100 := ⟨he1, by omega⟩
      have htl : (tipT n.seen).length ≤ 16 := by rw [tip_ok hok.2.2.2.2.1, ← tipM_eq hok.2.2.2.2.1]; exact tipM_len fun u hu => (hok.2.2.2.2.1.ok' hu).2.2.2
      have hle : leadV n.ep = lead n.ep := leadV_in (by omega) he2
      have hlb : 1 ≤ lead n.ep ∧ lead n.ep ≤ 4 := by
        have a1 := Int.tmod_nonneg (a := n.ep - 1) 4 (by omega)
        have a2 := Int.tmod_lt_of_pos (a := n.ep - 1) (b := 4) (by decide)
        unfold lead; omega
      obtain ⟨at', hat⟩ : ∃ e : Int, e = IntKind.i64.wrap (IntKind.i64.wrap (n.ep + 1) + Int.tmod (((more.map fun n => [FV.v (.int .u8 n)]).length : Nat) : Int) 3) := ⟨_, rfl⟩
      have hat2 : n.ep < at' := by
        have a1 := Int.tmod_nonneg (a := (((more.map fun n => [FV.v (.int .u8 n)]).length : Nat) : Int)) 3 (by omega)
        have a2 := Int.tmod_lt_of_pos (a := (((more.map fun n => [FV.v (.int .u8 n)]).length : Nat) : Int)) (b := 3) (by decide)
        rw [hat, wrap64 (n := n.ep + 1) (by omega) (by omega), wrap64 (by omega) (by omega)]; omega
      obtain ⟨C, hC⟩ : ∃ C, C = tipT n.seen ++ [⟨at', ⟨1, 2, 1⟩⟩] := ⟨_, rfl⟩
      obtain ⟨D, hD⟩ : ∃ D, D = tipT n.seen ++ [⟨n.ep, ⟨1, 2, 1⟩⟩] := ⟨_, rfl⟩
      have hCl : C.length ≤ LIM := by rw [hC, List.length_append, List.length_singleton]; show _ ≤ 1099511627776; omega
      have hDl : D.length ≤ LIM := by rw [hD, List.length_append, List.length_singleton]; show _ ≤ 1099511627776; omega
      have hCe : ∀ i, lastE ⟨i, C⟩ = at' := fun i => by rw [hC]; exact lastE_snoc
      rcases t with _ | _
      all_goals
        repeat' ((conv => whnf); first
          | (refine calle (b := [agg (ndF n), agg (voF v)]) v_impl_NodeHear rfl ⟨(n, v), rfl, ⟨hfs, hfv⟩⟩ (.inl rfl) (by first | assumption | omega) (fun r hr => (show r = trip (hearT n v) from K_impl_NodeHear (a := (n, v)) hr).trans (congrArg trip e2)) ?_)
          | (refine calle (b := [agg (ndF n), agg (voF v)]) v_spec_NodeHear rfl ⟨(n, v), rfl, ⟨hfs, hfv⟩⟩ (.inl rfl) (by first | assumption | omega) (fun r hr => (show r = trip (hearT n v) from K_spec_NodeHear (a := (n, v)) hr).trans (congrArg trip e2)) ?_)
          | refine ⟨_, rfl, ?_⟩
          | refine ⟨rfl, ?_⟩
          | refine ⟨_, _, rfl, rfl, rfl, Nat.le_of_ble_eq_true rfl, ?_⟩
          | refine ⟨(show _ ≠ _ from (by first | decide | omega)), ?_⟩
          | refine ⟨(show _ ≤ _ from (by exact ap_)), ?_⟩
          | (refine ⟨fun hc => ?_, fun hc => ?_⟩ <;> (try simp (disch := omega) only [List.length_map, wrap64] at hc) <;> (try (exfalso; first | contradiction | omega)))
          | (refine callt (b := [agg (ndF ⟨_, _, _, _⟩), agg (ndF ⟨_, _, _, _⟩)]) v_laws_lwNode rfl ⟨(⟨_, _, _, _⟩, ⟨_, _, _, _⟩), rfl, (by refine ⟨?_, ?_⟩ <;> (exact pr_))⟩ (.inl rfl) (by first | assumption | omega) (fun r hr => K_laws_lwNode (a := (⟨_, _, _, _⟩, ⟨_, _, _, _⟩)) hr) (fun hj => ?_) (fun hj => ?_) <;> (try simp only [etaPa, etaIt, etaVo] at hj) <;> (try simp only [etaNd] at hj) <;> (try contradiction))
          | (refine callt (b := [agg (voF ⟨_, _⟩), agg (voF ⟨_, _⟩)]) v_laws_lwVote rfl ⟨(⟨_, _⟩, ⟨_, _⟩), rfl, (by refine ⟨?_, ?_⟩ <;> (exact pr_))⟩ (.inl rfl) (by first | assumption | omega) (fun r hr => K_laws_lwVote (a := (⟨_, _⟩, ⟨_, _⟩)) hr) (fun hj => ?_) (fun hj => ?_) <;> (try simp only [etaPa, etaIt, etaVo] at hj) <;> (try contradiction))
          | (refine ⟨⟨n, rfl, (by exact pr_)⟩, v_spec_NodeOk, (.inl rfl), (by first | assumption | omega), fun r hr => ?_⟩; rcases K_spec_NodeOk (a := n) hr with ⟨hj, rfl⟩ | ⟨hj, rfl⟩ <;> clear hr <;> (try simp only [etaPa, etaIt, etaVo] at hj) <;> (try simp only [etaNd, etaWo] at hj) <;> (try contradiction))
          | (refine calle (b := [one (vsF _)]) v_impl_TreeTip rfl ⟨_, rfl, (by refine ⟨?_, ?_⟩ <;> (exact pr_))⟩ (.inl rfl) (by first | assumption | omega) (fun r hr => K_impl_TreeTip (a := _) hr) ?_)
          | fail)
        refine .inl ⟨_, _, _, _, _, rfl, hupd_at.trans (by rw [hC]; exact (congrArg (fun z => some (Ob.arr _ _ (z ++ _))) (show [] ++ List.map (fun x => x.map AC.c) (List.map itF (tipT n.seen)) = arA itF (tipT n.seen) by simp [arA])).trans (arr_snoc (by rw [hat]; rfl))), fcellss_f itF C, .inr ?_⟩
        repeat' ((conv => whnf); first
          | refine ⟨_, rfl, ?_⟩
          | (refine calle (b := [I _]) v_impl_VoteLeader rfl ⟨_, rfl, (by exact pr_)⟩ (.inl rfl) (by first | assumption | omega) (fun r hr => K_impl_VoteLeader (a := _) hr) ?_)
          | fail)
        conv => whnf
        refine lpE_ok (n := n) (C := C) hok hle ⟨rfl, rfl, rfl, rfl, rfl, trivial⟩ ne_ (by first | decide | omega) rfl (fun fr' H' nx' hall hfr hH hnx hH1 => ?_) (fun fr' H' nx' hfr hH => ?_)
        · refine tlE_ok (n := n) (C := C) (D := D) hok hall hle hlb htl hD hCl hDl (fun i h => by rw [hCe] at h; omega) hfr hH hnx hH1 (by omega) (fun fr2 H2 nx2 hfr2 hH2 => ?_)
          rw [hfr2.eq]
          exact ⟨⟨_, rfl, rfl, (code, more), rfl, rfl⟩, (by omega), hH2⟩
        · rw [hfr.eq]
          exact ⟨⟨_, rfl, rfl, (code, more), rfl, rfl⟩, (by omega), hH⟩
  · have e2 : hearT n v = (zNd, zVo, false) := hearT_no hok v
    repeat' ((conv => whnf); first
      | (refine calle (b := [agg (ndF n), agg (voF v)]) v_impl_NodeHear rfl ⟨(n, v), rfl, ⟨hfs, hfv⟩⟩ (.inl rfl) (by first | assumption | omega) (fun r hr => (show r = trip (hearT n v) from K_impl_NodeHear (a := (n, v)) hr).trans (congrArg trip e2)) ?_)
      | (refine calle (b := [agg (ndF n), agg (voF v)]) v_spec_NodeHear rfl ⟨(n, v), rfl, ⟨hfs, hfv⟩⟩ (.inl rfl) (by first | assumption | omega) (fun r hr => (show r = trip (hearT n v) from K_spec_NodeHear (a := (n, v)) hr).trans (congrArg trip e2)) ?_)
      | refine ⟨_, rfl, ?_⟩
      | refine ⟨_, _, rfl, rfl, rfl, Nat.le_of_ble_eq_true rfl, ?_⟩
      | (refine callt (b := [agg (ndF ⟨_, _, _, _⟩), agg (ndF ⟨_, _, _, _⟩)]) v_laws_lwNode rfl ⟨(⟨_, _, _, _⟩, ⟨_, _, _, _⟩), rfl, (by refine ⟨?_, ?_⟩ <;> (exact pr_))⟩ (.inl rfl) (by first | assumption | omega) (fun r hr => K_laws_lwNode (a := (⟨_, _, _, _⟩, ⟨_, _, _, _⟩)) hr) (fun hj => ?_) (fun hj => ?_) <;> (try simp only [etaPa, etaIt, etaVo] at hj) <;> (try simp only [etaNd] at hj) <;> (try contradiction))
      | (refine callt (b := [agg (voF ⟨_, _⟩), agg (voF ⟨_, _⟩)]) v_laws_lwVote rfl ⟨(⟨_, _⟩, ⟨_, _⟩), rfl, (by refine ⟨?_, ?_⟩ <;> (exact pr_))⟩ (.inl rfl) (by first | assumption | omega) (fun r hr => K_laws_lwVote (a := (⟨_, _⟩, ⟨_, _⟩)) hr) (fun hj => ?_) (fun hj => ?_) <;> (try simp only [etaPa, etaIt, etaVo] at hj) <;> (try contradiction))
      | (refine ⟨⟨n, rfl, (by exact pr_)⟩, v_spec_NodeOk, (.inl rfl), (by first | assumption | omega), fun r hr => ?_⟩; rcases K_spec_NodeOk (a := n) hr with ⟨hj, rfl⟩ | ⟨hj, rfl⟩ <;> clear hr <;> (try simp only [etaPa, etaIt, etaVo] at hj) <;> (try simp only [etaNd, etaWo] at hj) <;> (try contradiction))
      | exact ⟨⟨_, rfl, rfl, (code, more), rfl, (by unfold R_laws_FnHearEpoch; dsimp only; first | done | exact absurd True.intro hj | (first | rfl | (exfalso; first | contradiction | omega | grind)))⟩, (by first | exact Nat.le_refl _ | omega), (by exact h0_)⟩
      | fail)
end Av
end Go.Proofs.Ytkpncekaehgbdaa
