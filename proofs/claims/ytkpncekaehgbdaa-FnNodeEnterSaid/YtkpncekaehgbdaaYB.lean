/- The walks: the laws FnNodeEnter, FnEnterTwice. -/
import Derived.Test.YtkpncekaehgbdaaZU
import Derived.Test.YtkpncekaehgbdaaYA
import Derived.Test.YtkpncekaehgbdaaG5
import Derived.Test.YtkpncekaehgbdaaK0
import Derived.Test.YtkpncekaehgbdaaQ7
set_option linter.unusedVariables false
set_option linter.unusedSimpArgs false
namespace Go.Proofs.Ytkpncekaehgbdaa
namespace Av
open Go.RowKit

attribute [local irreducible] Valid ValidM
set_option maxHeartbeats 4000000 in
set_option maxRecDepth 100000 in
theorem v_laws_FnNodeEnter : Valid Try.prog n_laws_FnNodeEnter S_laws_FnNodeEnter := by
  refine valid_of_swp mixed is_laws_FnNodeEnter (by rintro _ ⟨a, rfl, _⟩; exact Nat.le_of_ble_eq_true rfl) ?_
  rintro _ rm ⟨code, rfl, hpre⟩ hl
  try dsimp only at hpre
  have hpre0 := hpre
  have hp1 := hpre
  have cc_laws_FnNodeEnter : S_laws_FnNodeEnter.cost = 200000 := rfl
  have cc_spec_DrawNodeEnter : S_spec_DrawNodeEnter.cost = 60000 := rfl
  have cc_spec_NodeEnter : S_spec_NodeEnter.cost = 0 := rfl
  have cc_impl_NodeEnter : S_impl_NodeEnter.cost = 0 := rfl
  have cc_laws_lwNode : S_laws_lwNode.cost = 0 := rfl
  have cc_spec_NodeOk : S_spec_NodeOk.cost = 0 := rfl
  have cc_impl_NodeOk : S_impl_NodeOk.cost = 0 := rfl
  repeat' ((conv => whnf); first
    | refine ⟨_, rfl, ?_⟩
    | refine ⟨rfl, ?_⟩
    | refine ⟨_, _, hupd_at, rfl, rfl, Nat.le_of_ble_eq_true rfl, ?_⟩
    | (refine ⟨fun hc => ?_, fun hc => ?_⟩ <;> (try simp (disch := omega) only [List.length_map, wrap64] at hc))
    | (refine callk (b := [one (byF _)]) v_spec_DrawNodeEnter rfl ⟨_, rfl, (by exact pr_)⟩ (.inl rfl) (by omega) (fun r hr => ?_); have hj := K_spec_DrawNodeEnter (a := _) hr; clear hr; obtain ⟨n, e, rfl, hdn, hde⟩ := hj)
    | exact ⟨⟨_, rfl, rfl, code, rfl, (by unfold R_laws_FnNodeEnter; dsimp only; first | done | exact absurd True.intro hj | (rfl))⟩, (by first | exact Nat.le_refl _ | omega), (by exact h0_)⟩
    | fail)
  have hfs : FitVs n.seen := hdn.fit
  have hfz : FitVs zNd.seen := ⟨Nat.zero_le _, fun v h => by cases h⟩
  obtain ⟨he1, he2⟩ := hde
  by_cases hok : NodeOk n
  · by_cases he : n.ep + 1 ≤ e ∧ e ≤ 30
    · obtain ⟨he3, he4⟩ := id he
      have e2 : entT n e = (⟨n.id, e, n.vt, n.seen⟩ : Nd) := (entT_ok hok e).trans (entN_up he)
      have hx : NodeOk (⟨n.id, e, n.vt, n.seen⟩ : Nd) := nodeOk_up hok he
      repeat' ((conv => whnf); first
        | (refine calle (b := [agg (ndF n), I e]) v_impl_NodeEnter rfl ⟨(n, e), rfl, hfs⟩ (.inl rfl) (by first | assumption | omega) (fun r hr => (K_impl_NodeEnter (a := (n, e)) hr).trans (congrArg (fun z => agg (ndF z)) e2)) ?_)
        | (refine calle (b := [agg (ndF n), I e]) v_spec_NodeEnter rfl ⟨(n, e), rfl, hfs⟩ (.inl rfl) (by first | assumption | omega) (fun r hr => (K_spec_NodeEnter (a := (n, e)) hr).trans (congrArg (fun z => agg (ndF z)) e2)) ?_)
        | refine ⟨_, rfl, ?_⟩
        | refine ⟨rfl, ?_⟩
        | refine ⟨_, _, hupd_at, rfl, rfl, Nat.le_of_ble_eq_true rfl, ?_⟩
        | (refine ⟨fun hc => ?_, fun hc => ?_⟩ <;> (try simp (disch := omega) only [List.length_map, wrap64] at hc) <;> (try (exfalso; first | contradiction | omega)))
        | (refine callt (b := [agg (ndF ⟨_, _, _, _⟩), agg (ndF ⟨_, _, _, _⟩)]) v_laws_lwNode rfl ⟨(⟨_, _, _, _⟩, ⟨_, _, _, _⟩), rfl, (by refine ⟨?_, ?_⟩ <;> (exact pr_))⟩ (.inl rfl) (by first | assumption | omega) (fun r hr => K_laws_lwNode (a := (⟨_, _, _, _⟩, ⟨_, _, _, _⟩)) hr) (fun hj => ?_) (fun hj => ?_) <;> (try simp only [etaPa, etaIt, etaVo] at hj) <;> (try simp only [etaNd] at hj) <;> (try contradiction))
        | (refine ⟨⟨(⟨n.id, n.ep, n.vt, n.seen⟩, n), rfl, (by refine ⟨?_, ?_⟩ <;> (exact pr_))⟩, v_laws_lwNode, (.inl rfl), (by first | assumption | omega), fun r hr => ?_⟩; rcases K_laws_lwNode (a := (⟨n.id, n.ep, n.vt, n.seen⟩, n)) hr with ⟨hj, rfl⟩ | ⟨hj, rfl⟩ <;> clear hr <;> (try simp only [etaPa, etaIt, etaVo] at hj) <;> (try simp only [etaNd] at hj) <;> (try contradiction))
        | (refine ⟨⟨n, rfl, (by exact pr_)⟩, v_spec_NodeOk, (.inl rfl), (by first | assumption | omega), fun r hr => ?_⟩; rcases K_spec_NodeOk (a := n) hr with ⟨hj, rfl⟩ | ⟨hj, rfl⟩ <;> clear hr <;> (try simp only [etaPa, etaIt, etaVo] at hj) <;> (try simp only [etaNd, etaWo] at hj) <;> (try contradiction))
        | (refine ⟨⟨⟨n.id, e, n.vt, n.seen⟩, rfl, (by exact pr_)⟩, v_impl_NodeOk, (.inl rfl), (by first | assumption | omega), fun r hr => ?_⟩; rcases K_impl_NodeOk (a := ⟨n.id, e, n.vt, n.seen⟩) hr with ⟨hj, rfl⟩ | ⟨hj, rfl⟩ <;> clear hr <;> (try simp only [etaPa, etaIt, etaVo] at hj) <;> (try simp only [etaNd, etaWo] at hj) <;> (try contradiction))
        | exact ⟨⟨_, rfl, rfl, code, rfl, (by unfold R_laws_FnNodeEnter; dsimp only; first | done | exact absurd True.intro hj | (first | rfl | (exfalso; first | contradiction | omega | grind)))⟩, (by first | exact Nat.le_refl _ | omega), (by exact h0_)⟩
        | fail)
    · have e2 : entT n e = n := (entT_ok hok e).trans (entN_no he)
      repeat' ((conv => whnf); first
        | (refine calle (b := [agg (ndF n), I e]) v_impl_NodeEnter rfl ⟨(n, e), rfl, hfs⟩ (.inl rfl) (by first | assumption | omega) (fun r hr => (K_impl_NodeEnter (a := (n, e)) hr).trans (congrArg (fun z => agg (ndF z)) e2)) ?_)
        | (refine calle (b := [agg (ndF n), I e]) v_spec_NodeEnter rfl ⟨(n, e), rfl, hfs⟩ (.inl rfl) (by first | assumption | omega) (fun r hr => (K_spec_NodeEnter (a := (n, e)) hr).trans (congrArg (fun z => agg (ndF z)) e2)) ?_)
        | refine ⟨_, rfl, ?_⟩
        | refine ⟨rfl, ?_⟩
        | refine ⟨_, _, hupd_at, rfl, rfl, Nat.le_of_ble_eq_true rfl, ?_⟩
        | (refine ⟨fun hc => ?_, fun hc => ?_⟩ <;> (try simp (disch := omega) only [List.length_map, wrap64] at hc) <;> (try (exfalso; first | contradiction | omega)))
        | (refine callt (b := [agg (ndF ⟨_, _, _, _⟩), agg (ndF ⟨_, _, _, _⟩)]) v_laws_lwNode rfl ⟨(⟨_, _, _, _⟩, ⟨_, _, _, _⟩), rfl, (by refine ⟨?_, ?_⟩ <;> (exact pr_))⟩ (.inl rfl) (by first | assumption | omega) (fun r hr => K_laws_lwNode (a := (⟨_, _, _, _⟩, ⟨_, _, _, _⟩)) hr) (fun hj => ?_) (fun hj => ?_) <;> (try simp only [etaPa, etaIt, etaVo] at hj) <;> (try simp only [etaNd] at hj) <;> (try contradiction))
        | (refine ⟨⟨n, rfl, (by exact pr_)⟩, v_spec_NodeOk, (.inl rfl), (by first | assumption | omega), fun r hr => ?_⟩; rcases K_spec_NodeOk (a := n) hr with ⟨hj, rfl⟩ | ⟨hj, rfl⟩ <;> clear hr <;> (try simp only [etaPa, etaIt, etaVo] at hj) <;> (try simp only [etaNd, etaWo] at hj) <;> (try contradiction))
        | (refine ⟨⟨n, rfl, (by exact pr_)⟩, v_impl_NodeOk, (.inl rfl), (by first | assumption | omega), fun r hr => ?_⟩; rcases K_impl_NodeOk (a := n) hr with ⟨hj, rfl⟩ | ⟨hj, rfl⟩ <;> clear hr <;> (try simp only [etaPa, etaIt, etaVo] at hj) <;> (try simp only [etaNd, etaWo] at hj) <;> (try contradiction))
        | exact ⟨⟨_, rfl, rfl, code, rfl, (by unfold R_laws_FnNodeEnter; dsimp only; first | done | exact absurd True.intro hj | (first | rfl | (exfalso; first | contradiction | omega | grind)))⟩, (by first | exact Nat.le_refl _ | omega), (by exact h0_)⟩
        | fail)
  · have e2 : entT n e = zNd := entT_no hok e
    repeat' ((conv => whnf); first
      | (refine calle (b := [agg (ndF n), I e]) v_impl_NodeEnter rfl ⟨(n, e), rfl, hfs⟩ (.inl rfl) (by first | assumption | omega) (fun r hr => (K_impl_NodeEnter (a := (n, e)) hr).trans (congrArg (fun z => agg (ndF z)) e2)) ?_)
      | (refine calle (b := [agg (ndF n), I e]) v_spec_NodeEnter rfl ⟨(n, e), rfl, hfs⟩ (.inl rfl) (by first | assumption | omega) (fun r hr => (K_spec_NodeEnter (a := (n, e)) hr).trans (congrArg (fun z => agg (ndF z)) e2)) ?_)
      | refine ⟨_, rfl, ?_⟩
      | refine ⟨_, _, hupd_at, rfl, rfl, Nat.le_of_ble_eq_true rfl, ?_⟩
      | (refine callt (b := [agg (ndF ⟨_, _, _, _⟩), agg (ndF ⟨_, _, _, _⟩)]) v_laws_lwNode rfl ⟨(⟨_, _, _, _⟩, ⟨_, _, _, _⟩), rfl, (by refine ⟨?_, ?_⟩ <;> (exact pr_))⟩ (.inl rfl) (by first | assumption | omega) (fun r hr => K_laws_lwNode (a := (⟨_, _, _, _⟩, ⟨_, _, _, _⟩)) hr) (fun hj => ?_) (fun hj => ?_) <;> (try simp only [etaPa, etaIt, etaVo] at hj) <;> (try simp only [etaNd] at hj) <;> (try contradiction))
      | (refine ⟨⟨n, rfl, (by exact pr_)⟩, v_spec_NodeOk, (.inl rfl), (by first | assumption | omega), fun r hr => ?_⟩; rcases K_spec_NodeOk (a := n) hr with ⟨hj, rfl⟩ | ⟨hj, rfl⟩ <;> clear hr <;> (try simp only [etaPa, etaIt, etaVo] at hj) <;> (try simp only [etaNd, etaWo] at hj) <;> (try contradiction))
      | exact ⟨⟨_, rfl, rfl, code, rfl, (by unfold R_laws_FnNodeEnter; dsimp only; first | done | exact absurd True.intro hj | (first | rfl | (exfalso; first | contradiction | omega | grind)))⟩, (by first | exact Nat.le_refl _ | omega), (by exact h0_)⟩
      | fail)
end Av
end Go.Proofs.Ytkpncekaehgbdaa
