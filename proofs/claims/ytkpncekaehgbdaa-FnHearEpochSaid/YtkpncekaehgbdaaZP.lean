/- The walks: events drawn in worlds. -/
import Derived.Test.YtkpncekaehgbdaaZO
set_option linter.unusedVariables false
set_option linter.unusedSimpArgs false
namespace Go.Proofs.Ytkpncekaehgbdaa
namespace Av
open Go.RowKit

theorem agg_ren {l : List FV} {ρ : Nat → Nat} : (agg l).ren ρ = agg l := by
  show AV.w (.g ((l.map AC.c).map (AC.ren ρ))) = _
  rw [List.map_map]; rfl
attribute [local irreducible] Valid ValidM
set_option maxHeartbeats 4000000 in
set_option maxRecDepth 100000 in
theorem v_spec_l72Event : ValidM Try.prog n_spec_l72Event S_spec_l72Event := by
  refine validM_of_swp mixed is_spec_l72Event (by rintro _ _ ⟨a, rfl, _⟩; exact Nat.le_of_ble_eq_true rfl) ?_
  rintro _ _ rm ⟨⟨w, b⟩, rfl, rfl, hpre⟩ hl
  try dsimp only at hpre
  obtain ⟨hI, hrd⟩ := hpre
  have hl4 := hI.2.2.1
  have hfs : FitVs w.log := hI.2.2.2.1.fit
  have c1 : S_spec_l72Event.cost = 300 := rfl
  have c2 : S_spec_l72Forge.cost = 200 := rfl
  have c3 : S_spec_l72Forge.st = 0 := rfl
  have cc_spec_l6Rd_pick : S_spec_l6Rd_pick.cost = 1 := rfl
  have cc_spec_l71Pay : S_spec_l71Pay.cost = 10 := rfl
  have cc_spec_l3Leader : S_spec_l3Leader.cost = 0 := rfl
  have hmx : In (if 1 > w.ep then 1 else w.ep) 0 100 := by
    obtain ⟨q1, q2⟩ := hI.1
    split <;> exact ⟨by omega, by omega⟩
  change swp _ _ _ _ (fun k : Nat => (obsR w b)[k]?) 7 _
  dsimp only
  have hW0 := startR (b := b) hI.2.2.1
  have hR0 : (fun k : Nat => (obsR w b)[k]?) 6 = some (.rd (byF b)) := rfl
  generalize (fun k : Nat => (obsR w b)[k]?) = H0 at *
  have hA0 : H0 0 = some (.arr ty_impl_Node 4 (ndsK stdF w.nodes)) := hW0.arr
  repeat' ((conv => whnf); first
    | (refine mq_WR (w := w) (kN := 0) (kr := 6) (f := stdF) (b := b) (Q := QForge) v_spec_l72Forge (by omega) (hW0.keep (by omega) (fun k hk => by (repeat (refine (hupd_ne (by omega)).trans ?_)); rfl)) hk_ (by omega) rfl ⟨(w, b), rfl, rfl, hI, hrd⟩ (fun r obs' h => mkR2_post h) (fun r hq ρ => by obtain ⟨v, rfl, _⟩ := hq; exact agg_ren) (fun r ⟨v, hr, hv⟩ => ?_); subst hr)
    | refine ⟨_, rfl, ?_⟩
    | refine ⟨rfl, ?_⟩
    | refine ⟨_, _, hupd_at, rfl, rfl, Nat.le_of_ble_eq_true rfl, ?_⟩
    | (refine ⟨fun hc => ?_, fun hc => ?_⟩ <;> (try simp (disch := omega) only [List.length_map, wrap64] at hc))
    | (refine callrd (by exact hk_) rfl rfl ⟨(_, _), rfl, (by exact pr_)⟩ v_spec_l6Rd_pick (by omega) (fun r hr => ?_); have hj := K_spec_l6Rd_pick (a := (_, _)) hr; clear hr; obtain ⟨k, rfl, hk0, hk1⟩ := hj; dsimp only at hk1; (try simp (disch := omega) only [List.length_map, ncast, wrap64] at hk1))
    | (refine callrd (by exact hk_) rfl rfl ⟨_, rfl, (by exact pr_)⟩ v_spec_l71Pay (by omega) (fun r hr => ?_); have hj := K_spec_l71Pay (a := _) hr; clear hr; obtain ⟨p, rfl⟩ := hj)
    | (refine calle (b := [I _]) v_spec_l3Leader rfl ⟨_, rfl, (by exact pr_)⟩ (.inl rfl) (by first | assumption | omega) (fun r hr => K_spec_l3Leader (a := _) hr) ?_)
    | fail)
  all_goals first
    | exact finM_R (w := w) (b := b) (az := [.g ((evF (⟨3, _, _, ⟨0, 0, 0⟩, ⟨0, []⟩⟩ : Ev)).map AC.c)]) (by omega) (hW0.keep (Nat.le_refl _) (fun k hk => by (repeat (refine (hupd_ne (by omega)).trans ?_)); rfl)) hk_ ⟨⟨_, rfl, .inr ⟨rfl, rfl⟩⟩, trivial⟩ rfl (fun _ => rfl) ⟨(w, b), rfl, rfl, ⟨_, rfl, Nat.zero_le _⟩, rfl⟩
    | exact finM_R (w := w) (b := b) (az := [.g ((evF (⟨1, 0, 0, ⟨0, 0, 0⟩, ⟨0, []⟩⟩ : Ev)).map AC.c)]) (by omega) (hW0.keep (Nat.le_refl _) (fun k hk => by (repeat (refine (hupd_ne (by omega)).trans ?_)); rfl)) hk_ ⟨⟨_, rfl, .inr ⟨rfl, rfl⟩⟩, trivial⟩ rfl (fun _ => rfl) ⟨(w, b), rfl, rfl, ⟨_, rfl, Nat.zero_le _⟩, rfl⟩
    | exact finM_R (w := w) (b := b) (az := [.g ((evF (⟨2, _, 0, ‹Pa›, ⟨0, []⟩⟩ : Ev)).map AC.c)]) (by omega) (hW0.keep (Nat.le_refl _) (fun k hk => by (repeat (refine (hupd_ne (by omega)).trans ?_)); rfl)) hk_ ⟨⟨_, rfl, .inr ⟨rfl, rfl⟩⟩, trivial⟩ rfl (fun _ => rfl) ⟨(w, b), rfl, rfl, ⟨_, rfl, Nat.zero_le _⟩, rfl⟩
    | exact finM_R (w := w) (b := b) (az := [.g ((evF (⟨4, 0, 0, ⟨0, 0, 0⟩, ‹Vo›⟩ : Ev)).map AC.c)]) (by omega) (hW0.keep (Nat.le_refl _) (fun k hk => by (repeat (refine (hupd_ne (by omega)).trans ?_)); rfl)) hk_ ⟨⟨_, rfl, .inr ⟨rfl, rfl⟩⟩, trivial⟩ rfl (fun _ => rfl) ⟨(w, b), rfl, rfl, ⟨_, rfl, by assumption⟩, rfl⟩
end Av
end Go.Proofs.Ytkpncekaehgbdaa
