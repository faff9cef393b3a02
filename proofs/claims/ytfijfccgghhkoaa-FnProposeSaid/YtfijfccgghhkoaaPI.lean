/- The walk: the law FnPropose. -/
import Derived.Test.YtfijfccgghhkoaaJ42
import Derived.Test.YtfijfccgghhkoaaJ49
import Derived.Test.YtfijfccgghhkoaaJ50
import Derived.Test.YtfijfccgghhkoaaG5
import Derived.Test.YtfijfccgghhkoaaK0
import Derived.Test.YtfijfccgghhkoaaW1
import Derived.Test.YtfijfccgghhkoaaPH
set_option linter.unusedVariables false
set_option linter.unusedSimpArgs false
namespace Go.Proofs.Ytfijfccgghhkoaa
namespace Av
open Go.RowKit
attribute [local irreducible] Valid ValidM
set_option maxHeartbeats 4000000 in
set_option maxRecDepth 100000 in
theorem v_laws_FnPropose : Valid Try.prog n_laws_FnPropose S_laws_FnPropose := by
  refine valid_of_swp mixed is_laws_FnPropose (by rintro _ ⟨a, rfl, _⟩; exact Nat.le_of_ble_eq_true rfl) ?_
  rintro _ rm ⟨code, rfl, hpre⟩ hl
  try dsimp only at hpre
  have hpre0 := hpre
  have hp1 := hpre
  have cc_laws_FnPropose : S_laws_FnPropose.cost = 200000 := rfl
  have cc_spec_DrawNodePropose : S_spec_DrawNodePropose.cost = 60000 := rfl
  have cc_spec_NodePropose : S_spec_NodePropose.cost = 0 := rfl
  have cc_impl_NodePropose : S_impl_NodePropose.cost = 0 := rfl
  have cc_laws_lwNode : S_laws_lwNode.cost = 0 := rfl
  have cc_laws_lwVote : S_laws_lwVote.cost = 0 := rfl
  have cc_laws_lwHas : S_laws_lwHas.cost = 0 := rfl
  have cc_impl_NodeOk : S_impl_NodeOk.cost = 0 := rfl
  have cc_impl_TreeTip : S_impl_TreeTip.cost = 0 := rfl
  have cc_impl_VoteLeader : S_impl_VoteLeader.cost = 0 := rfl
  repeat' ((conv => whnf); first
    | refine ⟨_, rfl, ?_⟩
    | refine ⟨rfl, ?_⟩
    | refine ⟨_, _, rfl, rfl, rfl, Nat.le_of_ble_eq_true rfl, ?_⟩
    | (refine ⟨fun hc => ?_, fun hc => ?_⟩ <;> (try simp (disch := omega) only [List.length_map, wrap64] at hc))
    | (refine callk (b := [one (byF _)]) v_spec_DrawNodePropose rfl ⟨_, rfl, (by exact pr_)⟩ (.inl rfl) (by omega) (fun r hr => ?_); have hj := K_spec_DrawNodePropose (a := _) hr; clear hr; obtain ⟨n, p, rfl, hdn⟩ := hj)
    | exact ⟨⟨_, rfl, rfl, code, rfl, (by unfold R_laws_FnPropose; dsimp only; first | done | exact absurd True.intro hj | (rfl))⟩, (by first | exact Nat.le_refl _ | omega), (by exact h0_)⟩
    | fail)
  have hfs : FitVs n.seen := hdn.fit
  have hlt : n.seen.length < LIM := hdn.lt
  have hfz : FitVs zNd.seen := ⟨Nat.zero_le _, fun v h => by cases h⟩
  have hfzv : FitV zVo := Nat.zero_le _
  by_cases hok : NodeOk n ∧ PayOk p
  · obtain ⟨hok1, hok2⟩ := id hok
    obtain ⟨he1, he2⟩ := hok1.2.1
    have hLp : In n.ep 0 100 := ⟨he1, by omega⟩
    rcases prop_cases n p with e | ⟨hmay, hlead, hC, e⟩
    · have e2 : propT n p = (n, zVo, false) := (propT_ok hok1 hok2).trans e
      repeat' ((conv => whnf); first
        | (refine calle (b := [agg (ndF n), agg (paF p)]) v_impl_NodePropose rfl ⟨(n, p), rfl, hfs⟩ (.inl rfl) (by first | assumption | omega) (fun r hr => (show r = trip (propT n p) from K_impl_NodePropose (a := (n, p)) hr).trans (congrArg trip e2)) ?_)
        | (refine calle (b := [agg (ndF n), agg (paF p)]) v_spec_NodePropose rfl ⟨(n, p), rfl, hfs⟩ (.inl rfl) (by first | assumption | omega) (fun r hr => (show r = trip (propT n p) from K_spec_NodePropose (a := (n, p)) hr).trans (congrArg trip e2)) ?_)
        | refine ⟨_, rfl, ?_⟩
        | refine ⟨_, _, rfl, rfl, rfl, Nat.le_of_ble_eq_true rfl, ?_⟩
        | (refine callt (b := [agg (ndF ⟨_, _, _, _⟩), agg (ndF ⟨_, _, _, _⟩)]) v_laws_lwNode rfl ⟨(⟨_, _, _, _⟩, ⟨_, _, _, _⟩), rfl, (by refine ⟨?_, ?_⟩ <;> (exact pr_))⟩ (.inl rfl) (by first | assumption | omega) (fun r hr => K_laws_lwNode (a := (⟨_, _, _, _⟩, ⟨_, _, _, _⟩)) hr) (fun hj => ?_) (fun hj => ?_) <;> (try simp only [etaPa, etaIt, etaVo] at hj) <;> (try simp only [etaNd] at hj) <;> (try contradiction))
        | (refine callt (b := [agg (voF ⟨_, _⟩), agg (voF ⟨_, _⟩)]) v_laws_lwVote rfl ⟨(⟨_, _⟩, ⟨_, _⟩), rfl, (by refine ⟨?_, ?_⟩ <;> (exact pr_))⟩ (.inl rfl) (by first | assumption | omega) (fun r hr => K_laws_lwVote (a := (⟨_, _⟩, ⟨_, _⟩)) hr) (fun hj => ?_) (fun hj => ?_) <;> (try simp only [etaPa, etaIt, etaVo] at hj) <;> (try contradiction))
        | exact ⟨⟨_, rfl, rfl, code, rfl, (by unfold R_laws_FnPropose; dsimp only; first | done | exact absurd True.intro hj | (first | rfl | (exfalso; first | contradiction | omega | grind)))⟩, (by first | exact Nat.le_refl _ | omega), (by exact h0_)⟩
        | fail)
    · have hx := newN_ok hok1 hmay hC (newN_no e)
      have e4 : propT (newN n p) p = (newN n p, zVo, false) := (propT_ok hx hok2).trans prop_again
      have hvl : FitV ⟨n.id, newC n p⟩ := (hx.fit).2 _ (List.mem_append_right _ (List.mem_singleton.2 rfl))
      have hvm : (⟨n.id, newC n p⟩ : Vo) ∈ (newN n p).seen := List.mem_append_right _ (List.mem_singleton.2 rfl)
      have hxv : (newN n p).vt = n.ep := rfl
      obtain ⟨C, hCC⟩ : ∃ C, C = newC n p := ⟨_, rfl⟩
      have hC2 : C = tipT n.seen ++ [⟨n.ep, p⟩] := by rw [hCC, tip_ok hok1.2.2.2.2.1]
      have htl : (tipT n.seen).length ≤ 16 := by rw [tip_ok hok1.2.2.2.2.1, ← tipM_eq hok1.2.2.2.2.1]; exact tipM_len fun u hu => (hok1.2.2.2.2.1.ok' hu).2.2.2
      rw [← hCC] at hvl hvm e
      generalize hxx : newN n p = x at *
      have hle : leadV n.ep = n.id := (if_pos ⟨by have := hmay.1; omega, he2⟩ : leadV n.ep = lead n.ep).trans hlead
      have hep0 := hmay.1
      have hvt : n.vt < n.ep := by have h1 := hok1.2.2.1.2; have h2 := hmay.2; omega
      have e2 : propT n p = (x, ⟨n.id, C⟩, true) := (propT_ok hok1 hok2).trans e
      have hfx : FitVs x.seen := hx.fit
      repeat' ((conv => whnf); first
        | (refine calle (b := [agg (ndF n), agg (paF p)]) v_impl_NodePropose rfl ⟨(n, p), rfl, hfs⟩ (.inl rfl) (by first | assumption | omega) (fun r hr => (show r = trip (propT n p) from K_impl_NodePropose (a := (n, p)) hr).trans (congrArg trip e2)) ?_)
        | (refine calle (b := [agg (ndF n), agg (paF p)]) v_spec_NodePropose rfl ⟨(n, p), rfl, hfs⟩ (.inl rfl) (by first | assumption | omega) (fun r hr => (show r = trip (propT n p) from K_spec_NodePropose (a := (n, p)) hr).trans (congrArg trip e2)) ?_)
        | (refine calle (b := [agg (ndF x), agg (paF p)]) v_impl_NodePropose rfl ⟨(x, p), rfl, hfx⟩ (.inl rfl) (by first | assumption | omega) (fun r hr => (show r = trip (propT x p) from K_impl_NodePropose (a := (x, p)) hr).trans (congrArg trip e4)) ?_)
        | refine ⟨_, rfl, ?_⟩
        | refine ⟨rfl, ?_⟩
        | refine ⟨_, _, rfl, rfl, rfl, Nat.le_of_ble_eq_true rfl, ?_⟩
        | refine ⟨(show _ ≤ _ from (by exact ap_)), ?_⟩
        | (refine callt (b := [agg (ndF ⟨_, _, _, _⟩), agg (ndF ⟨_, _, _, _⟩)]) v_laws_lwNode rfl ⟨(⟨_, _, _, _⟩, ⟨_, _, _, _⟩), rfl, (by refine ⟨?_, ?_⟩ <;> (exact pr_))⟩ (.inl rfl) (by first | assumption | omega) (fun r hr => K_laws_lwNode (a := (⟨_, _, _, _⟩, ⟨_, _, _, _⟩)) hr) (fun hj => ?_) (fun hj => ?_) <;> (try simp only [etaPa, etaIt, etaVo] at hj) <;> (try simp only [etaNd] at hj) <;> (try contradiction))
        | (refine callt (b := [agg (voF ⟨_, _⟩), agg (voF ⟨_, _⟩)]) v_laws_lwVote rfl ⟨(⟨_, _⟩, ⟨_, _⟩), rfl, (by refine ⟨?_, ?_⟩ <;> (exact pr_))⟩ (.inl rfl) (by first | assumption | omega) (fun r hr => K_laws_lwVote (a := (⟨_, _⟩, ⟨_, _⟩)) hr) (fun hj => ?_) (fun hj => ?_) <;> (try simp only [etaPa, etaIt, etaVo] at hj) <;> (try contradiction))
        | (refine calle (b := [one (vsF _)]) v_impl_TreeTip rfl ⟨_, rfl, (by refine ⟨?_, ?_⟩ <;> (exact pr_))⟩ (.inl rfl) (by first | assumption | omega) (fun r hr => K_impl_TreeTip (a := _) hr) ?_)
        | fail)
      refine .inl ⟨_, _, _, _, _, rfl, hupd_at.trans (by rw [hC2]; exact (congrArg (fun z => some (Ob.arr _ _ (z ++ _))) (show [] ++ List.map (fun x => x.map AC.c) (List.map itF (tipT n.seen)) = arA itF (tipT n.seen) by simp [arA])).trans (arr_snoc rfl)), fcellss_f itF C, .inr ?_⟩
      repeat' ((conv => whnf); first
        | refine ⟨_, rfl, ?_⟩
        | refine ⟨rfl, ?_⟩
        | (refine ⟨fun hc => ?_, fun hc => ?_⟩ <;> (try simp (disch := omega) only [List.length_map, wrap64] at hc) <;> (try (exfalso; first | contradiction | omega)))
        | (refine callt (b := [agg (voF ⟨_, _⟩), agg (voF ⟨_, _⟩)]) v_laws_lwVote rfl ⟨(⟨_, _⟩, ⟨_, _⟩), rfl, (by refine ⟨?_, ?_⟩ <;> (exact pr_))⟩ (.inl rfl) (by first | assumption | omega) (fun r hr => K_laws_lwVote (a := (⟨_, _⟩, ⟨_, _⟩)) hr) (fun hj => ?_) (fun hj => ?_) <;> (try simp only [etaPa, etaIt, etaVo] at hj) <;> (try contradiction))
        | (refine callt (b := [one (vsF _), agg (voF ⟨_, _⟩)]) v_laws_lwHas rfl ⟨(_, ⟨_, _⟩), rfl, (by refine ⟨?_, ?_⟩ <;> (exact pr_))⟩ (.inl rfl) (by first | assumption | omega) (fun r hr => K_laws_lwHas (a := (_, ⟨_, _⟩)) hr) (fun hj => ?_) (fun hj => ?_) <;> (try simp only [etaPa, etaIt, etaVo] at hj) <;> (try contradiction))
        | (refine callt (b := [agg (ndF ⟨_, _, _, _⟩)]) v_impl_NodeOk rfl ⟨⟨_, _, _, _⟩, rfl, (by exact pr_)⟩ (.inl rfl) (by first | assumption | omega) (fun r hr => K_impl_NodeOk (a := ⟨_, _, _, _⟩) hr) (fun hj => ?_) (fun hj => ?_) <;> (try simp only [etaPa, etaIt, etaVo] at hj) <;> (try simp only [etaNd, etaWo] at hj) <;> (try contradiction))
        | (refine calle (b := [I _]) v_impl_VoteLeader rfl ⟨_, rfl, (by exact pr_)⟩ (.inl rfl) (by first | assumption | omega) (fun r hr => K_impl_VoteLeader (a := _) hr) ?_)
        | exact ⟨⟨_, rfl, rfl, code, rfl, (by unfold R_laws_FnPropose; dsimp only; first | done | exact absurd True.intro hj | (first | rfl | (exfalso; first | contradiction | omega | grind)))⟩, (by first | exact Nat.le_refl _ | omega), (by exact h0_)⟩
        | fail)
  · have e2 : propT n p = (zNd, zVo, false) := propT_no hok
    repeat' ((conv => whnf); first
      | (refine calle (b := [agg (ndF n), agg (paF p)]) v_impl_NodePropose rfl ⟨(n, p), rfl, hfs⟩ (.inl rfl) (by first | assumption | omega) (fun r hr => (show r = trip (propT n p) from K_impl_NodePropose (a := (n, p)) hr).trans (congrArg trip e2)) ?_)
      | (refine calle (b := [agg (ndF n), agg (paF p)]) v_spec_NodePropose rfl ⟨(n, p), rfl, hfs⟩ (.inl rfl) (by first | assumption | omega) (fun r hr => (show r = trip (propT n p) from K_spec_NodePropose (a := (n, p)) hr).trans (congrArg trip e2)) ?_)
      | refine ⟨_, rfl, ?_⟩
      | refine ⟨_, _, rfl, rfl, rfl, Nat.le_of_ble_eq_true rfl, ?_⟩
      | (refine callt (b := [agg (ndF ⟨_, _, _, _⟩), agg (ndF ⟨_, _, _, _⟩)]) v_laws_lwNode rfl ⟨(⟨_, _, _, _⟩, ⟨_, _, _, _⟩), rfl, (by refine ⟨?_, ?_⟩ <;> (exact pr_))⟩ (.inl rfl) (by first | assumption | omega) (fun r hr => K_laws_lwNode (a := (⟨_, _, _, _⟩, ⟨_, _, _, _⟩)) hr) (fun hj => ?_) (fun hj => ?_) <;> (try simp only [etaPa, etaIt, etaVo] at hj) <;> (try simp only [etaNd] at hj) <;> (try contradiction))
      | (refine callt (b := [agg (voF ⟨_, _⟩), agg (voF ⟨_, _⟩)]) v_laws_lwVote rfl ⟨(⟨_, _⟩, ⟨_, _⟩), rfl, (by refine ⟨?_, ?_⟩ <;> (exact pr_))⟩ (.inl rfl) (by first | assumption | omega) (fun r hr => K_laws_lwVote (a := (⟨_, _⟩, ⟨_, _⟩)) hr) (fun hj => ?_) (fun hj => ?_) <;> (try simp only [etaPa, etaIt, etaVo] at hj) <;> (try contradiction))
      | exact ⟨⟨_, rfl, rfl, code, rfl, (by unfold R_laws_FnPropose; dsimp only; first | done | exact absurd True.intro hj | (first | rfl | (exfalso; first | contradiction | omega | grind)))⟩, (by first | exact Nat.le_refl _ | omega), (by exact h0_)⟩
      | fail)
end Av
end Go.Proofs.Ytfijfccgghhkoaa
