/- The walk: a node drawn, and a vote that it is to hear. -/
import Derived.Test.YtkpncekaehgbdaaZU
set_option linter.unusedVariables false
set_option linter.unusedSimpArgs false
namespace Go.Proofs.Ytkpncekaehgbdaa
namespace Av
open Go.RowKit

attribute [local irreducible] Valid ValidM
set_option maxHeartbeats 4000000 in
set_option maxRecDepth 100000 in
theorem v_spec_DrawNodeHear : Valid Try.prog n_spec_DrawNodeHear S_spec_DrawNodeHear := by
  refine valid_of_swp mixed is_spec_DrawNodeHear (by rintro _ ⟨a, rfl, _⟩; exact Nat.le_of_ble_eq_true rfl) ?_
  rintro _ rm ⟨code, rfl, hpre⟩ hl
  try dsimp only at hpre
  have hpre0 := hpre
  have hp1 := hpre
  have c1 : S_spec_l72Node.cost = 31000 := rfl
  have c3 : S_spec_DrawNodeHear.cost = 60000 := rfl
  have s1 : S_spec_l6Open.st = 0 := rfl
  have s2 : S_spec_l72Node.st = 0 := rfl
  have s3 : S_spec_l12Enter.st = 0 := rfl
  have s4 : S_spec_l3VoteCopy_o.st = 0 := rfl
  have c2 : S_spec_l6Open.cost = 0 := rfl
  have c4 : S_spec_l12Enter.cost = 0 := rfl
  have cc_spec_l6Rd_pick : S_spec_l6Rd_pick.cost = 1 := rfl
  have cc_spec_l71Vote : S_spec_l71Vote.cost = 300 := rfl
  have cc_spec_l71Pay : S_spec_l71Pay.cost = 10 := rfl
  have cc_spec_l3Leader : S_spec_l3Leader.cost = 0 := rfl
  have cc_spec_NodeOk : S_spec_NodeOk.cost = 0 := rfl
  have cc_spec_l11Tip : S_spec_l11Tip.cost = 0 := rfl
  repeat' ((conv => whnf); first
    | (refine mq_open (Q := fun g => ∃ b, g = byF b ∧ RdOk b) (ar := [one (byF _)]) v_spec_l6Open (by first | assumption | omega) rfl rfl ⟨_, rfl, rfl, (by assumption)⟩ (fun r obs' h => by obtain ⟨b, h1, h2, h3⟩ := K_spec_l6Open h; exact ⟨byF b, h1, h2, b, rfl, h3⟩) (fun g hg => ?_); obtain ⟨b, rfl, hrd⟩ := hg)
    | fail)
  refine mq_node (b := b) vP_spec_l72Node (by omega) hk_ (by omega) rfl hrd (fun n w hdn hsl => ?_)
  obtain ⟨he1, he2⟩ := hdn.2.2
  have hfs : FitVs n.seen := hdn.fit
  have hlt : n.seen.length < LIM := hdn.lt
  have hep : In n.ep (-100) 100 := ⟨by omega, by omega⟩
  have hwe : IntKind.i64.wrap (n.ep + 1) = n.ep + 1 := by rw [wrap64] <;> omega
  have hen : n.ep < 30 → entN n (IntKind.i64.wrap (n.ep + 1)) = ⟨n.id, n.ep + 1, n.vt, n.seen⟩ := fun h => by rw [hwe]; exact if_pos ⟨Int.le_refl _, by omega⟩
  have htl : (tipM n.seen).length ≤ 16 := tipM_len hdn.2.1
  have htL : (tipM n.seen).length ≤ LIM := Nat.le_trans htl (by decide)
  have hLp : In (n.ep + 1) 0 100 := ⟨by omega, by omega⟩
  have hwl : ∀ v, v ∈ w.log → v.c.length ≤ 16 := fun v hv => (hsl.2 v hv).2.2.2
  repeat' ((conv => whnf); first
    | refine ⟨_, ldc_cells hk_ (Nat.le_of_ble_eq_true rfl), ?_⟩
    | refine ⟨_, rfl, ?_⟩
    | refine ⟨rfl, ?_⟩
    | refine idx_mapI (by omega) (by first | omega | (simp only [List.length_map] at *; omega)) (fun x hx => ?_)
    | refine ⟨_, _, hupd_at, rfl, rfl, Nat.le_of_ble_eq_true rfl, ?_⟩
    | refine ⟨_, _, rfl, rfl, rfl, Nat.le_of_ble_eq_true rfl, ?_⟩
    | (refine ⟨fun hc => ?_, fun hc => ?_⟩ <;> (try simp (disch := omega) only [List.length_map, wrap64] at hc))
    | (refine callrd (by exact hk_) rfl rfl ⟨_, rfl, (by exact pr_)⟩ v_spec_l71Vote (by omega) (fun r hr => ?_); have hj := K_spec_l71Vote (a := _) hr; clear hr; obtain ⟨v, rfl, hv⟩ := hj)
    | (refine callrd (by exact hk_) rfl rfl ⟨(_, _), rfl, (by exact pr_)⟩ v_spec_l6Rd_pick (by omega) (fun r hr => ?_); have hj := K_spec_l6Rd_pick (a := (_, _)) hr; clear hr; obtain ⟨k, rfl, hk0, hk1⟩ := hj; dsimp only at hk1; (try simp (disch := omega) only [List.length_map, ncast, wrap64] at hk1))
    | (refine callt (b := [agg (ndF ⟨_, _, _, _⟩)]) v_spec_NodeOk rfl ⟨⟨_, _, _, _⟩, rfl, (by exact pr_)⟩ (.inl rfl) (by first | assumption | omega) (fun r hr => K_spec_NodeOk (a := ⟨_, _, _, _⟩) hr) (fun hj => ?_) (fun hj => ?_) <;> (try simp only [etaPa, etaIt, etaVo] at hj) <;> (try simp only [etaNd, etaWo] at hj))
    | fail)
  all_goals try (refine mq_ent (n := n) (e := IntKind.i64.wrap (n.ep + 1)) (t := 97) v_spec_l12Enter (by omega) hk_ hep rfl ?_; rw [hen (by assumption)])
  repeat' ((conv => whnf); first
    | refine ⟨_, ldc_cells hk_ (Nat.le_of_ble_eq_true rfl), ?_⟩
    | refine ⟨_, news_ow hupd_at, newsz_ow hupd_at, _, (hk_ : (_ : Option Ob) = _), (by simp only [arA, List.length_map, List.length_cons, List.length_nil]; omega), ?_⟩
    | refine ⟨_, _, rfl, rfl, rfl, Nat.le_of_ble_eq_true rfl, ?_⟩
    | (refine calle (b := [I _]) v_spec_l3Leader rfl ⟨_, rfl, (by exact pr_)⟩ (.inl rfl) (by first | assumption | omega) (fun r hr => K_spec_l3Leader (a := _) hr) ?_)
    | (refine calle (b := [one (vsF _)]) v_spec_l11Tip rfl ⟨_, rfl, (by refine ⟨?_, ?_⟩ <;> (exact pr_))⟩ (.inl rfl) (by first | assumption | omega) (fun r hr => K_spec_l11Tip (a := _) hr) ?_)
    | (refine OQ.mk1 (ar := [one (chF _)]) rfl ⟨_, rfl, (by first | assumption | (simp only [LIM, List.length_take] at *; omega))⟩ vO_spec_l1Copy (so_spec_l1Copy _) ?_)
    | (refine callrd (by exact hk_) rfl rfl ⟨_, rfl, (by exact pr_)⟩ v_spec_l71Pay (by omega) (fun r hr => ?_); have hj := K_spec_l71Pay (a := _) hr; clear hr; obtain ⟨p, rfl⟩ := hj)
    | fail)
  all_goals first
    | refine bq_vc (v := x) v_spec_l3VoteCopy_o rfl (Nat.le_trans (hwl x (List.mem_of_getElem? (by assumption))) (by decide)) ?_
    | refine bq_vc (v := v) v_spec_l3VoteCopy_o rfl (Nat.le_trans (by assumption) (by decide)) ?_
    | refine bq_vc (v := (⟨lead (n.ep + 1), tipM n.seen ++ [⟨n.ep + 1, p⟩]⟩ : Vo)) v_spec_l3VoteCopy_o (congrArg (fun z => [AV.w (.g [cI (lead (n.ep + 1)), z])]) (bor_ow (Eq.trans (b := some (Ob.arr _ _ (arA itF (tipM n.seen) ++ _))) hk_ (arr_snoc (F := itF) (x := (⟨n.ep + 1, p⟩ : It)) rfl)) (fcellss_f itF _))) (by show (tipM n.seen ++ [(⟨n.ep + 1, p⟩ : It)]).length ≤ LIM; rw [List.length_append, List.length_singleton]; exact Nat.le_trans (Nat.succ_le_succ htl) (by decide)) ?_
  repeat' ((conv => whnf); first
    | refine ⟨_, _, rfl, rfl, rfl, Nat.le_of_ble_eq_true rfl, ?_⟩
    | fail)
  all_goals first
    | exact ⟨⟨[.g ((ndF n).map AC.c), .g ((voF x).map AC.c)], congrArg (fun zz => some [AW.g ((ndF n).map AC.c), AW.g [cI (x).n, zz]]) (bor_ow hk_ (fcellss_f itF (x).c)), rfl, code, rfl, (by unfold R_spec_DrawNodeHear; exact ⟨n, x, rfl, hdn, (Nat.le_trans (hwl x (List.mem_of_getElem? (by assumption))) (by decide))⟩)⟩, (by omega), h0_⟩
    | exact ⟨⟨[.g ((ndF n).map AC.c), .g ((voF v).map AC.c)], congrArg (fun zz => some [AW.g ((ndF n).map AC.c), AW.g [cI (v).n, zz]]) (bor_ow hk_ (fcellss_f itF (v).c)), rfl, code, rfl, (by unfold R_spec_DrawNodeHear; exact ⟨n, v, rfl, hdn, (Nat.le_trans (by assumption) (by decide))⟩)⟩, (by omega), h0_⟩
    | exact ⟨⟨[.g ((ndF (⟨n.id, n.ep + 1, n.vt, n.seen⟩ : Nd)).map AC.c), .g ((voF (⟨lead (n.ep + 1), tipM n.seen ++ [⟨n.ep + 1, p⟩]⟩ : Vo)).map AC.c)], congrArg (fun zz => some [AW.g ((ndF (⟨n.id, n.ep + 1, n.vt, n.seen⟩ : Nd)).map AC.c), AW.g [cI ((⟨lead (n.ep + 1), tipM n.seen ++ [⟨n.ep + 1, p⟩]⟩ : Vo)).n, zz]]) (bor_ow hk_ (fcellss_f itF ((⟨lead (n.ep + 1), tipM n.seen ++ [⟨n.ep + 1, p⟩]⟩ : Vo)).c)), rfl, code, rfl, (by unfold R_spec_DrawNodeHear; exact ⟨(⟨n.id, n.ep + 1, n.vt, n.seen⟩ : Nd), (⟨lead (n.ep + 1), tipM n.seen ++ [⟨n.ep + 1, p⟩]⟩ : Vo), rfl, ⟨hdn.1, hdn.2.1, (by show (0 : Int) ≤ n.ep + 1; omega), (by show n.ep + 1 ≤ 30; omega)⟩, (by show (tipM n.seen ++ [(⟨n.ep + 1, p⟩ : It)]).length ≤ 17; rw [List.length_append, List.length_singleton]; omega)⟩)⟩, (by omega), h0_⟩
end Av
end Go.Proofs.Ytkpncekaehgbdaa
