/- The walk: the law FnHearSees. -/
import Derived.Test.YtkpncekaehgbdaaZV
import Derived.Test.YtkpncekaehgbdaaZD
import Derived.Test.YtkpncekaehgbdaaYA
import Derived.Test.YtkpncekaehgbdaaG5
import Derived.Test.YtkpncekaehgbdaaK0
import Derived.Test.YtkpncekaehgbdaaQD
set_option linter.unusedVariables false
set_option linter.unusedSimpArgs false
namespace Go.Proofs.Ytkpncekaehgbdaa
namespace Av
open Go.RowKit

attribute [local irreducible] Valid ValidM
set_option maxHeartbeats 4000000 in
set_option maxRecDepth 100000 in
theorem v_laws_FnHearSees : Valid Try.prog n_laws_FnHearSees S_laws_FnHearSees := by
  refine valid_of_swp mixed is_laws_FnHearSees (by rintro _ ⟨a, rfl, _⟩; exact Nat.le_of_ble_eq_true rfl) ?_
  rintro _ rm ⟨code, rfl, hpre⟩ hl
  try dsimp only at hpre
  have hpre0 := hpre
  have hp1 := hpre
  have cc_laws_FnHearSees : S_laws_FnHearSees.cost = 200000 := rfl
  have cc_laws_lwVotes : S_laws_lwVotes.cost = 0 := rfl
  have cc_laws_lwHas : S_laws_lwHas.cost = 0 := rfl
  have cc_impl_VoteOk : S_impl_VoteOk.cost = 0 := rfl
  have cc_spec_DrawNodeHear : S_spec_DrawNodeHear.cost = 60000 := rfl
  have cc_spec_NodeHear : S_spec_NodeHear.cost = 0 := rfl
  have cc_impl_NodeHear : S_impl_NodeHear.cost = 0 := rfl
  have cc_laws_lwNode : S_laws_lwNode.cost = 0 := rfl
  have cc_laws_lwVote : S_laws_lwVote.cost = 0 := rfl
  have cc_spec_NodeOk : S_spec_NodeOk.cost = 0 := rfl
  have cc_impl_NodeOk : S_impl_NodeOk.cost = 0 := rfl
  repeat' ((conv => whnf); first
    | refine ⟨_, rfl, ?_⟩
    | refine ⟨rfl, ?_⟩
    | refine ⟨_, _, rfl, rfl, rfl, Nat.le_of_ble_eq_true rfl, ?_⟩
    | (refine ⟨fun hc => ?_, fun hc => ?_⟩ <;> (try simp (disch := omega) only [List.length_map, wrap64] at hc))
    | (refine callk (b := [one (byF _)]) v_spec_DrawNodeHear rfl ⟨_, rfl, (by exact pr_)⟩ (.inl rfl) (by omega) (fun r hr => ?_); have hj := K_spec_DrawNodeHear (a := _) hr; clear hr; obtain ⟨n, v, rfl, hdn, hdv⟩ := hj)
    | exact ⟨⟨_, rfl, rfl, code, rfl, (by unfold R_laws_FnHearSees; dsimp only; first | done | exact absurd True.intro hj | (rfl))⟩, (by first | exact Nat.le_refl _ | omega), (by exact h0_)⟩
    | fail)
  have hfs : FitVs n.seen := hdn.fit
  have hfz : FitVs zNd.seen := ⟨Nat.zero_le _, fun v h => by cases h⟩
  have hfzv : FitV zVo := Nat.zero_le _
  have hfv : FitV v := Nat.le_trans hdv (by decide)
  by_cases hok : NodeOk n
  · have hx : NodeOk (hearN false n v).1 := hearN_ok hok
    have hse := hear_sees (n := n) (v := v)
    have hfy : FitV (hearN false n v).2.1 := Nat.le_trans (hearN_b (b := false) hok.ndb.1 hok.ndb.2.2).2.2.2.2 (by decide)
    obtain ⟨o, ho⟩ : ∃ o, hearN false n v = o := ⟨_, rfl⟩
    rw [ho] at hx hse hfy
    obtain ⟨x, y, t⟩ := o
    dsimp only at hse
    obtain ⟨s1, s2, s3, s4, s5⟩ := hse
    have e2 : hearT n v = (x, y, t) := (hearT_ok hok v).trans ho
    have hfx : FitVs x.seen := hx.fit
    have hn80 : n.seen.length ≤ 80 := hok.2.2.2.1
    have hwm : IntKind.i64.wrap (((n.seen.map voF).length : Int) + 2) = ((n.seen.length + 2 : Nat) : Int) := by rw [List.length_map, wrap64] <;> omega
    have hwm2 : IntKind.i64.wrap ((n.seen.length : Int) + 2) = ((n.seen.length + 2 : Nat) : Int) := by rw [wrap64] <;> omega
    rcases t with _ | _
    · skip
      repeat' ((conv => whnf); first
        | (refine calle (b := [agg (ndF n), agg (voF v)]) v_impl_NodeHear rfl ⟨(n, v), rfl, ⟨hfs, hfv⟩⟩ (.inl rfl) (by first | assumption | omega) (fun r hr => (show r = trip (hearT n v) from K_impl_NodeHear (a := (n, v)) hr).trans (congrArg trip e2)) ?_)
        | (refine calle (b := [agg (ndF n), agg (voF v)]) v_spec_NodeHear rfl ⟨(n, v), rfl, ⟨hfs, hfv⟩⟩ (.inl rfl) (by first | assumption | omega) (fun r hr => (show r = trip (hearT n v) from K_spec_NodeHear (a := (n, v)) hr).trans (congrArg trip e2)) ?_)
        | (refine ⟨_, slc_to (i := n.seen.length) (congrArg (fun z : Nat => I (z : Int)) (List.length_map ..)) (by rw [List.length_map]; omega), ?_⟩; rw [map_take', s3])
        | refine ⟨_, rfl, ?_⟩
        | refine ⟨rfl, ?_⟩
        | refine ⟨_, _, rfl, rfl, rfl, Nat.le_of_ble_eq_true rfl, ?_⟩
        | (refine ⟨fun hc => ?_, fun hc => ?_⟩ <;> (try simp (disch := omega) only [List.length_map, wrap64] at hc) <;> (try (exfalso; first | contradiction | omega)))
        | (refine callt (b := [agg (ndF ⟨_, _, _, _⟩), agg (ndF ⟨_, _, _, _⟩)]) v_laws_lwNode rfl ⟨(⟨_, _, _, _⟩, ⟨_, _, _, _⟩), rfl, (by refine ⟨?_, ?_⟩ <;> (exact pr_))⟩ (.inl rfl) (by first | assumption | omega) (fun r hr => K_laws_lwNode (a := (⟨_, _, _, _⟩, ⟨_, _, _, _⟩)) hr) (fun hj => ?_) (fun hj => ?_) <;> (try simp only [etaPa, etaIt, etaVo] at hj) <;> (try simp only [etaNd] at hj) <;> (try contradiction))
        | (refine callt (b := [agg (voF ⟨_, _⟩), agg (voF ⟨_, _⟩)]) v_laws_lwVote rfl ⟨(⟨_, _⟩, ⟨_, _⟩), rfl, (by refine ⟨?_, ?_⟩ <;> (exact pr_))⟩ (.inl rfl) (by first | assumption | omega) (fun r hr => K_laws_lwVote (a := (⟨_, _⟩, ⟨_, _⟩)) hr) (fun hj => ?_) (fun hj => ?_) <;> (try simp only [etaPa, etaIt, etaVo] at hj) <;> (try contradiction))
        | (refine callt (b := [one (vsF _), one (vsF _)]) v_laws_lwVotes rfl ⟨(_, _), rfl, (by refine ⟨?_, ?_⟩ <;> (exact pr_))⟩ (.inl rfl) (by first | assumption | omega) (fun r hr => K_laws_lwVotes (a := (_, _)) hr) (fun hj => ?_) (fun hj => ?_) <;> (try simp only [etaPa, etaIt, etaVo] at hj) <;> (try contradiction))
        | (refine callt (b := [one (vsF _), agg (voF ⟨_, _⟩)]) v_laws_lwHas rfl ⟨(_, ⟨_, _⟩), rfl, (by refine ⟨?_, ?_⟩ <;> (exact pr_))⟩ (.inl rfl) (by first | assumption | omega) (fun r hr => K_laws_lwHas (a := (_, ⟨_, _⟩)) hr) (fun hj => ?_) (fun hj => ?_) <;> (try simp only [etaPa, etaIt, etaVo] at hj) <;> (try contradiction))
        | (refine ⟨⟨v, rfl, (by exact pr_)⟩, v_impl_VoteOk, (.inl rfl), (by first | assumption | omega), fun r hr => ?_⟩; rcases K_impl_VoteOk (a := v) hr with ⟨hj, rfl⟩ | ⟨hj, rfl⟩ <;> clear hr <;> (try simp only [etaPa, etaIt, etaVo] at hj) <;> (try contradiction))
        | (refine ⟨⟨x, rfl, (by exact pr_)⟩, v_impl_NodeOk, (.inl rfl), (by first | assumption | omega), fun r hr => ?_⟩; rcases K_impl_NodeOk (a := x) hr with ⟨hj, rfl⟩ | ⟨hj, rfl⟩ <;> clear hr <;> (try simp only [etaPa, etaIt, etaVo] at hj) <;> (try simp only [etaNd, etaWo] at hj) <;> (try contradiction))
        | (refine ⟨⟨n, rfl, (by exact pr_)⟩, v_spec_NodeOk, (.inl rfl), (by first | assumption | omega), fun r hr => ?_⟩; rcases K_spec_NodeOk (a := n) hr with ⟨hj, rfl⟩ | ⟨hj, rfl⟩ <;> clear hr <;> (try simp only [etaPa, etaIt, etaVo] at hj) <;> (try simp only [etaNd, etaWo] at hj) <;> (try contradiction))
        | exact ⟨⟨_, rfl, rfl, code, rfl, (by unfold R_laws_FnHearSees; dsimp only; first | done | exact absurd True.intro hj | (first | rfl | (exfalso; first | contradiction | omega | exact hj (s4 ⟨by assumption, by assumption, by omega⟩) | (have hs := s5 (fun h => by obtain ⟨q1, q2, q3⟩ := h; first | contradiction | omega); omega) | grind)))⟩, (by first | exact Nat.le_refl _ | omega), (by exact h0_)⟩
        | fail)
    · skip
      repeat' ((conv => whnf); first
        | (refine calle (b := [agg (ndF n), agg (voF v)]) v_impl_NodeHear rfl ⟨(n, v), rfl, ⟨hfs, hfv⟩⟩ (.inl rfl) (by first | assumption | omega) (fun r hr => (show r = trip (hearT n v) from K_impl_NodeHear (a := (n, v)) hr).trans (congrArg trip e2)) ?_)
        | (refine calle (b := [agg (ndF n), agg (voF v)]) v_spec_NodeHear rfl ⟨(n, v), rfl, ⟨hfs, hfv⟩⟩ (.inl rfl) (by first | assumption | omega) (fun r hr => (show r = trip (hearT n v) from K_spec_NodeHear (a := (n, v)) hr).trans (congrArg trip e2)) ?_)
        | (refine ⟨_, slc_to (i := n.seen.length) (congrArg (fun z : Nat => I (z : Int)) (List.length_map ..)) (by rw [List.length_map]; omega), ?_⟩; rw [map_take', s3])
        | refine ⟨_, rfl, ?_⟩
        | refine ⟨rfl, ?_⟩
        | refine ⟨_, _, rfl, rfl, rfl, Nat.le_of_ble_eq_true rfl, ?_⟩
        | (refine ⟨fun hc => ?_, fun hc => ?_⟩ <;> (try simp (disch := omega) only [List.length_map, wrap64] at hc) <;> (try (exfalso; first | contradiction | omega)))
        | (refine callt (b := [agg (ndF ⟨_, _, _, _⟩), agg (ndF ⟨_, _, _, _⟩)]) v_laws_lwNode rfl ⟨(⟨_, _, _, _⟩, ⟨_, _, _, _⟩), rfl, (by refine ⟨?_, ?_⟩ <;> (exact pr_))⟩ (.inl rfl) (by first | assumption | omega) (fun r hr => K_laws_lwNode (a := (⟨_, _, _, _⟩, ⟨_, _, _, _⟩)) hr) (fun hj => ?_) (fun hj => ?_) <;> (try simp only [etaPa, etaIt, etaVo] at hj) <;> (try simp only [etaNd] at hj) <;> (try contradiction))
        | (refine callt (b := [agg (voF ⟨_, _⟩), agg (voF ⟨_, _⟩)]) v_laws_lwVote rfl ⟨(⟨_, _⟩, ⟨_, _⟩), rfl, (by refine ⟨?_, ?_⟩ <;> (exact pr_))⟩ (.inl rfl) (by first | assumption | omega) (fun r hr => K_laws_lwVote (a := (⟨_, _⟩, ⟨_, _⟩)) hr) (fun hj => ?_) (fun hj => ?_) <;> (try simp only [etaPa, etaIt, etaVo] at hj) <;> (try contradiction))
        | (refine callt (b := [one (vsF _), one (vsF _)]) v_laws_lwVotes rfl ⟨(_, _), rfl, (by refine ⟨?_, ?_⟩ <;> (exact pr_))⟩ (.inl rfl) (by first | assumption | omega) (fun r hr => K_laws_lwVotes (a := (_, _)) hr) (fun hj => ?_) (fun hj => ?_) <;> (try simp only [etaPa, etaIt, etaVo] at hj) <;> (try contradiction))
        | (refine callt (b := [one (vsF _), agg (voF ⟨_, _⟩)]) v_laws_lwHas rfl ⟨(_, ⟨_, _⟩), rfl, (by refine ⟨?_, ?_⟩ <;> (exact pr_))⟩ (.inl rfl) (by first | assumption | omega) (fun r hr => K_laws_lwHas (a := (_, ⟨_, _⟩)) hr) (fun hj => ?_) (fun hj => ?_) <;> (try simp only [etaPa, etaIt, etaVo] at hj) <;> (try contradiction))
        | (refine ⟨⟨v, rfl, (by exact pr_)⟩, v_impl_VoteOk, (.inl rfl), (by first | assumption | omega), fun r hr => ?_⟩; rcases K_impl_VoteOk (a := v) hr with ⟨hj, rfl⟩ | ⟨hj, rfl⟩ <;> clear hr <;> (try simp only [etaPa, etaIt, etaVo] at hj) <;> (try contradiction))
        | (refine ⟨⟨x, rfl, (by exact pr_)⟩, v_impl_NodeOk, (.inl rfl), (by first | assumption | omega), fun r hr => ?_⟩; rcases K_impl_NodeOk (a := x) hr with ⟨hj, rfl⟩ | ⟨hj, rfl⟩ <;> clear hr <;> (try simp only [etaPa, etaIt, etaVo] at hj) <;> (try simp only [etaNd, etaWo] at hj) <;> (try contradiction))
        | (refine ⟨⟨n, rfl, (by exact pr_)⟩, v_spec_NodeOk, (.inl rfl), (by first | assumption | omega), fun r hr => ?_⟩; rcases K_spec_NodeOk (a := n) hr with ⟨hj, rfl⟩ | ⟨hj, rfl⟩ <;> clear hr <;> (try simp only [etaPa, etaIt, etaVo] at hj) <;> (try simp only [etaNd, etaWo] at hj) <;> (try contradiction))
        | exact ⟨⟨_, rfl, rfl, code, rfl, (by unfold R_laws_FnHearSees; dsimp only; first | done | exact absurd True.intro hj | (first | rfl | (exfalso; first | contradiction | omega | exact hj (s4 ⟨by assumption, by assumption, by omega⟩) | (have hs := s5 (fun h => by obtain ⟨q1, q2, q3⟩ := h; first | contradiction | omega); omega) | grind)))⟩, (by first | exact Nat.le_refl _ | omega), (by exact h0_)⟩
        | fail)
  · have e2 : hearT n v = (zNd, zVo, false) := hearT_no hok v
    repeat' ((conv => whnf); first
      | (refine calle (b := [agg (ndF n), agg (voF v)]) v_impl_NodeHear rfl ⟨(n, v), rfl, ⟨hfs, hfv⟩⟩ (.inl rfl) (by first | assumption | omega) (fun r hr => (show r = trip (hearT n v) from K_impl_NodeHear (a := (n, v)) hr).trans (congrArg trip e2)) ?_)
      | (refine calle (b := [agg (ndF n), agg (voF v)]) v_spec_NodeHear rfl ⟨(n, v), rfl, ⟨hfs, hfv⟩⟩ (.inl rfl) (by first | assumption | omega) (fun r hr => (show r = trip (hearT n v) from K_spec_NodeHear (a := (n, v)) hr).trans (congrArg trip e2)) ?_)
      | refine ⟨_, rfl, ?_⟩
      | refine ⟨_, _, rfl, rfl, rfl, Nat.le_of_ble_eq_true rfl, ?_⟩
      | (refine callt (b := [agg (ndF ⟨_, _, _, _⟩), agg (ndF ⟨_, _, _, _⟩)]) v_laws_lwNode rfl ⟨(⟨_, _, _, _⟩, ⟨_, _, _, _⟩), rfl, (by refine ⟨?_, ?_⟩ <;> (exact pr_))⟩ (.inl rfl) (by first | assumption | omega) (fun r hr => K_laws_lwNode (a := (⟨_, _, _, _⟩, ⟨_, _, _, _⟩)) hr) (fun hj => ?_) (fun hj => ?_) <;> (try simp only [etaPa, etaIt, etaVo] at hj) <;> (try simp only [etaNd] at hj) <;> (try contradiction))
      | (refine callt (b := [agg (voF ⟨_, _⟩), agg (voF ⟨_, _⟩)]) v_laws_lwVote rfl ⟨(⟨_, _⟩, ⟨_, _⟩), rfl, (by refine ⟨?_, ?_⟩ <;> (exact pr_))⟩ (.inl rfl) (by first | assumption | omega) (fun r hr => K_laws_lwVote (a := (⟨_, _⟩, ⟨_, _⟩)) hr) (fun hj => ?_) (fun hj => ?_) <;> (try simp only [etaPa, etaIt, etaVo] at hj) <;> (try contradiction))
      | (refine ⟨⟨n, rfl, (by exact pr_)⟩, v_spec_NodeOk, (.inl rfl), (by first | assumption | omega), fun r hr => ?_⟩; rcases K_spec_NodeOk (a := n) hr with ⟨hj, rfl⟩ | ⟨hj, rfl⟩ <;> clear hr <;> (try simp only [etaPa, etaIt, etaVo] at hj) <;> (try simp only [etaNd, etaWo] at hj) <;> (try contradiction))
      | exact ⟨⟨_, rfl, rfl, code, rfl, (by unfold R_laws_FnHearSees; dsimp only; first | done | exact absurd True.intro hj | (first | rfl | (exfalso; first | contradiction | omega | grind)))⟩, (by first | exact Nat.le_refl _ | omega), (by exact h0_)⟩
      | fail)
end Av
end Go.Proofs.Ytkpncekaehgbdaa
