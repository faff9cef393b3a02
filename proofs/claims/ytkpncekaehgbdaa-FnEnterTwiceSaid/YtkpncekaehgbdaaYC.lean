/- The walk: the law FnEnterTwice. -/
import Derived.Test.YtkpncekaehgbdaaZU
import Derived.Test.YtkpncekaehgbdaaYA
import Derived.Test.YtkpncekaehgbdaaG5
import Derived.Test.YtkpncekaehgbdaaK0
import Derived.Test.YtkpncekaehgbdaaQ9
set_option linter.unusedVariables false
set_option linter.unusedSimpArgs false
namespace Go.Proofs.Ytkpncekaehgbdaa
namespace Av
open Go.RowKit

attribute [local irreducible] Valid ValidM
set_option maxHeartbeats 4000000 in
set_option maxRecDepth 100000 in
theorem v_laws_FnEnterTwice : Valid Try.prog n_laws_FnEnterTwice S_laws_FnEnterTwice := by
  refine valid_of_swp mixed is_laws_FnEnterTwice (by rintro _ ⟨a, rfl, _⟩; exact Nat.le_of_ble_eq_true rfl) ?_
  rintro _ rm ⟨⟨code, more⟩, rfl, hpre⟩ hl
  try dsimp only at hpre
  have hpre0 := hpre
  obtain ⟨hp1, hp2⟩ := hpre
  have cc_laws_FnEnterTwice : S_laws_FnEnterTwice.cost = 200000 := rfl
  have cc_spec_DrawNodeEnter : S_spec_DrawNodeEnter.cost = 60000 := rfl
  have cc_spec_NodeEnter : S_spec_NodeEnter.cost = 0 := rfl
  have cc_impl_NodeEnter : S_impl_NodeEnter.cost = 0 := rfl
  have cc_laws_lwNode : S_laws_lwNode.cost = 0 := rfl
  have cc_spec_NodeOk : S_spec_NodeOk.cost = 0 := rfl
  have cc_impl_NodeOk : S_impl_NodeOk.cost = 0 := rfl
  repeat' ((conv => whnf); first
    | refine ⟨_, rfl, ?_⟩
    | refine ⟨rfl, ?_⟩
    | refine ⟨_, _, hupd_at, rfl, rfl, Nat.le_of_ble_eq_true rfl, ?_⟩
    | (refine ⟨fun hc => ?_, fun hc => ?_⟩ <;> (try simp (disch := omega) only [List.length_map, wrap64] at hc))
    | (refine callk (b := [one (byF _)]) v_spec_DrawNodeEnter rfl ⟨_, rfl, (by exact pr_)⟩ (.inl rfl) (by omega) (fun r hr => ?_); have hj := K_spec_DrawNodeEnter (a := _) hr; clear hr; obtain ⟨n, e, rfl, hdn, hde⟩ := hj)
    | exact ⟨⟨_, rfl, rfl, (code, more), rfl, (by unfold R_laws_FnEnterTwice; dsimp only; first | done | exact absurd True.intro hj | (rfl))⟩, (by first | exact Nat.le_refl _ | omega), (by exact h0_)⟩
    | fail)
  have hfs : FitVs n.seen := hdn.fit
  have hfz : FitVs zNd.seen := ⟨Nat.zero_le _, fun v h => by cases h⟩
  obtain ⟨he1, he2⟩ := hde
  obtain ⟨hn1, hn2⟩ := hdn.2.2
  by_cases hok : NodeOk n
  · have hq1 : 0 ≤ (((more.map fun n => [FV.v (.int .u8 n)]).length : Nat) : Int).tmod 4 := Int.tmod_nonneg 4 (by omega)
    have hq2 : (((more.map fun n => [FV.v (.int .u8 n)]).length : Nat) : Int).tmod 4 < 4 := Int.tmod_lt_of_pos _ (by decide)
    obtain ⟨M, hM⟩ : ∃ M, (if n.ep > e then n.ep else e) = M := ⟨_, rfl⟩
    have hM1 : n.ep ≤ M ∧ e ≤ M ∧ (M = n.ep ∨ M = e) := by rw [← hM]; split <;> omega
    obtain ⟨hM2, hM3, hM4⟩ := hM1
    obtain ⟨L, hL⟩ : ∃ L, IntKind.i64.wrap ((if n.ep > e then n.ep else e) + (((more.map fun n => [FV.v (.int .u8 n)]).length : Nat) : Int).tmod 4) = L := ⟨_, rfl⟩
    have hLc : IntKind.i64.wrap ((if false = true then (if n.ep < e then n.ep else e) else if n.ep > e then n.ep else e) + ((more.length : Nat) : Int).tmod 4) = L := by rw [List.length_map] at hL; exact hL
    have hL2 : M ≤ L ∧ L ≤ M + 3 := by
      rw [hM, wrap64 (by omega) (by omega)] at hL
      omega
    obtain ⟨hL3, hL4⟩ := hL2
    clear hq1 hq2
    by_cases h30 : 30 < L
    · by_cases he : n.ep + 1 ≤ e ∧ e ≤ 30
      · have e2 : entT n e = (⟨n.id, e, n.vt, n.seen⟩ : Nd) := (entT_ok hok e).trans (entN_up he)
        have hx : NodeOk (⟨n.id, e, n.vt, n.seen⟩ : Nd) := nodeOk_up hok he
        have e3 : entT (⟨n.id, e, n.vt, n.seen⟩ : Nd) L = (⟨n.id, e, n.vt, n.seen⟩ : Nd) := (entT_ok hx L).trans (entN_no fun h => by omega)
        repeat' ((conv => whnf); first
          | (refine calle (b := [agg (ndF n), I e]) v_impl_NodeEnter rfl ⟨(n, e), rfl, hfs⟩ (.inl rfl) (by first | assumption | omega) (fun r hr => (K_impl_NodeEnter (a := (n, e)) hr).trans (congrArg (fun z => agg (ndF z)) e2)) ?_)
          | (refine calle (b := [agg (ndF n), I e]) v_spec_NodeEnter rfl ⟨(n, e), rfl, hfs⟩ (.inl rfl) (by first | assumption | omega) (fun r hr => (K_spec_NodeEnter (a := (n, e)) hr).trans (congrArg (fun z => agg (ndF z)) e2)) ?_)
          | (refine calle (b := [agg (ndF (⟨n.id, e, n.vt, n.seen⟩ : Nd)), I L]) v_impl_NodeEnter (congrArg (fun z => [agg (ndF (⟨n.id, e, n.vt, n.seen⟩ : Nd)), I z]) hL) ⟨((⟨n.id, e, n.vt, n.seen⟩ : Nd), L), rfl, hfs⟩ (.inl rfl) (by first | assumption | omega) (fun r hr => (K_impl_NodeEnter (a := ((⟨n.id, e, n.vt, n.seen⟩ : Nd), L)) hr).trans (congrArg (fun z => agg (ndF z)) e3)) ?_)
          | refine ⟨_, rfl, ?_⟩
          | refine ⟨rfl, ?_⟩
          | refine ⟨_, _, hupd_at, rfl, rfl, Nat.le_of_ble_eq_true rfl, ?_⟩
          | refine ⟨(show _ ≠ _ from (by first | decide | omega)), ?_⟩
          | (refine ⟨fun hc => ?_, fun hc => ?_⟩ <;> (try simp (disch := omega) only [List.length_map, wrap64] at hc) <;> (try (exfalso; first | contradiction | omega)))
          | (refine callt (b := [agg (ndF ⟨_, _, _, _⟩), agg (ndF ⟨_, _, _, _⟩)]) v_laws_lwNode rfl ⟨(⟨_, _, _, _⟩, ⟨_, _, _, _⟩), rfl, (by refine ⟨?_, ?_⟩ <;> (exact pr_))⟩ (.inl rfl) (by first | assumption | omega) (fun r hr => K_laws_lwNode (a := (⟨_, _, _, _⟩, ⟨_, _, _, _⟩)) hr) (fun hj => ?_) (fun hj => ?_) <;> (try simp only [etaPa, etaIt, etaVo] at hj) <;> (try simp only [etaNd] at hj) <;> (try contradiction))
          | (refine ⟨⟨n, rfl, (by exact pr_)⟩, v_spec_NodeOk, (.inl rfl), (by first | assumption | omega), fun r hr => ?_⟩; rcases K_spec_NodeOk (a := n) hr with ⟨hj, rfl⟩ | ⟨hj, rfl⟩ <;> clear hr <;> (try simp only [etaPa, etaIt, etaVo] at hj) <;> (try simp only [etaNd, etaWo] at hj) <;> (try contradiction))
          | exact ⟨⟨_, rfl, rfl, (code, more), rfl, (by unfold R_laws_FnEnterTwice; dsimp only; first | done | exact absurd True.intro hj | (first | rfl | (exfalso; first | contradiction | omega | (rw [hL] at *; omega) | grind)))⟩, (by first | exact Nat.le_refl _ | omega), (by exact h0_)⟩
          | fail)
      · have e2 : entT n e = n := (entT_ok hok e).trans (entN_no he)
        have e3 : entT n L = n := (entT_ok hok L).trans (entN_no fun h => by omega)
        repeat' ((conv => whnf); first
          | (refine calle (b := [agg (ndF n), I e]) v_impl_NodeEnter rfl ⟨(n, e), rfl, hfs⟩ (.inl rfl) (by first | assumption | omega) (fun r hr => (K_impl_NodeEnter (a := (n, e)) hr).trans (congrArg (fun z => agg (ndF z)) e2)) ?_)
          | (refine calle (b := [agg (ndF n), I e]) v_spec_NodeEnter rfl ⟨(n, e), rfl, hfs⟩ (.inl rfl) (by first | assumption | omega) (fun r hr => (K_spec_NodeEnter (a := (n, e)) hr).trans (congrArg (fun z => agg (ndF z)) e2)) ?_)
          | (refine calle (b := [agg (ndF n), I L]) v_impl_NodeEnter (congrArg (fun z => [agg (ndF n), I z]) hL) ⟨(n, L), rfl, hfs⟩ (.inl rfl) (by first | assumption | omega) (fun r hr => (K_impl_NodeEnter (a := (n, L)) hr).trans (congrArg (fun z => agg (ndF z)) e3)) ?_)
          | refine ⟨_, rfl, ?_⟩
          | refine ⟨rfl, ?_⟩
          | refine ⟨_, _, hupd_at, rfl, rfl, Nat.le_of_ble_eq_true rfl, ?_⟩
          | refine ⟨(show _ ≠ _ from (by first | decide | omega)), ?_⟩
          | (refine ⟨fun hc => ?_, fun hc => ?_⟩ <;> (try simp (disch := omega) only [List.length_map, wrap64] at hc) <;> (try (exfalso; first | contradiction | omega)))
          | (refine callt (b := [agg (ndF ⟨_, _, _, _⟩), agg (ndF ⟨_, _, _, _⟩)]) v_laws_lwNode rfl ⟨(⟨_, _, _, _⟩, ⟨_, _, _, _⟩), rfl, (by refine ⟨?_, ?_⟩ <;> (exact pr_))⟩ (.inl rfl) (by first | assumption | omega) (fun r hr => K_laws_lwNode (a := (⟨_, _, _, _⟩, ⟨_, _, _, _⟩)) hr) (fun hj => ?_) (fun hj => ?_) <;> (try simp only [etaPa, etaIt, etaVo] at hj) <;> (try simp only [etaNd] at hj) <;> (try contradiction))
          | (refine ⟨⟨n, rfl, (by exact pr_)⟩, v_spec_NodeOk, (.inl rfl), (by first | assumption | omega), fun r hr => ?_⟩; rcases K_spec_NodeOk (a := n) hr with ⟨hj, rfl⟩ | ⟨hj, rfl⟩ <;> clear hr <;> (try simp only [etaPa, etaIt, etaVo] at hj) <;> (try simp only [etaNd, etaWo] at hj) <;> (try contradiction))
          | exact ⟨⟨_, rfl, rfl, (code, more), rfl, (by unfold R_laws_FnEnterTwice; dsimp only; first | done | exact absurd True.intro hj | (first | rfl | (exfalso; first | contradiction | omega | (rw [hL] at *; omega) | grind)))⟩, (by first | exact Nat.le_refl _ | omega), (by exact h0_)⟩
          | fail)
    · by_cases he : n.ep + 1 ≤ e ∧ e ≤ 30
      · have e2 : entT n e = (⟨n.id, e, n.vt, n.seen⟩ : Nd) := (entT_ok hok e).trans (entN_up he)
        have hx : NodeOk (⟨n.id, e, n.vt, n.seen⟩ : Nd) := nodeOk_up hok he
        have e4 : entT n L = (⟨n.id, L, n.vt, n.seen⟩ : Nd) := (entT_ok hok L).trans (entN_up ⟨by omega, by omega⟩)
        have e3 : entT (⟨n.id, e, n.vt, n.seen⟩ : Nd) L = (⟨n.id, L, n.vt, n.seen⟩ : Nd) := by
          rw [entT_ok hx L]
          by_cases hh : e + 1 ≤ L
          · exact entN_up ⟨hh, by omega⟩
          · have : L = e := by omega
            subst this
            exact entN_no fun h => hh h.1
        have e5 : entT (⟨n.id, e, n.vt, n.seen⟩ : Nd) e = (⟨n.id, e, n.vt, n.seen⟩ : Nd) := (entT_ok hx e).trans (entN_no fun h => by have h1 : e + 1 ≤ e := h.1; omega)
        repeat' ((conv => whnf); first
          | (refine calle (b := [agg (ndF n), I e]) v_impl_NodeEnter rfl ⟨(n, e), rfl, hfs⟩ (.inl rfl) (by first | assumption | omega) (fun r hr => (K_impl_NodeEnter (a := (n, e)) hr).trans (congrArg (fun z => agg (ndF z)) e2)) ?_)
          | (refine calle (b := [agg (ndF n), I e]) v_spec_NodeEnter rfl ⟨(n, e), rfl, hfs⟩ (.inl rfl) (by first | assumption | omega) (fun r hr => (K_spec_NodeEnter (a := (n, e)) hr).trans (congrArg (fun z => agg (ndF z)) e2)) ?_)
          | (refine calle (b := [agg (ndF (⟨n.id, e, n.vt, n.seen⟩ : Nd)), I L]) v_impl_NodeEnter (congrArg (fun z => [agg (ndF (⟨n.id, e, n.vt, n.seen⟩ : Nd)), I z]) hL) ⟨((⟨n.id, e, n.vt, n.seen⟩ : Nd), L), rfl, hfs⟩ (.inl rfl) (by first | assumption | omega) (fun r hr => (K_impl_NodeEnter (a := ((⟨n.id, e, n.vt, n.seen⟩ : Nd), L)) hr).trans (congrArg (fun z => agg (ndF z)) e3)) ?_)
          | (refine calle (b := [agg (ndF n), I L]) v_impl_NodeEnter (congrArg (fun z => [agg (ndF n), I z]) hL) ⟨(n, L), rfl, hfs⟩ (.inl rfl) (by first | assumption | omega) (fun r hr => (K_impl_NodeEnter (a := (n, L)) hr).trans (congrArg (fun z => agg (ndF z)) e4)) ?_)
          | (refine calle (b := [agg (ndF (⟨n.id, e, n.vt, n.seen⟩ : Nd)), I e]) v_impl_NodeEnter rfl ⟨((⟨n.id, e, n.vt, n.seen⟩ : Nd), e), rfl, hfs⟩ (.inl rfl) (by first | assumption | omega) (fun r hr => (K_impl_NodeEnter (a := ((⟨n.id, e, n.vt, n.seen⟩ : Nd), e)) hr).trans (congrArg (fun z => agg (ndF z)) e5)) ?_)
          | refine ⟨_, rfl, ?_⟩
          | refine ⟨rfl, ?_⟩
          | refine ⟨_, _, hupd_at, rfl, rfl, Nat.le_of_ble_eq_true rfl, ?_⟩
          | refine ⟨(show _ ≠ _ from (by first | decide | omega)), ?_⟩
          | (refine ⟨fun hc => ?_, fun hc => ?_⟩ <;> (try simp (disch := omega) only [List.length_map, wrap64] at hc) <;> (try (exfalso; first | contradiction | omega)))
          | (refine callt (b := [agg (ndF ⟨_, _, _, _⟩), agg (ndF ⟨_, _, _, _⟩)]) v_laws_lwNode rfl ⟨(⟨_, _, _, _⟩, ⟨_, _, _, _⟩), rfl, (by refine ⟨?_, ?_⟩ <;> (exact pr_))⟩ (.inl rfl) (by first | assumption | omega) (fun r hr => K_laws_lwNode (a := (⟨_, _, _, _⟩, ⟨_, _, _, _⟩)) hr) (fun hj => ?_) (fun hj => ?_) <;> (try simp only [etaPa, etaIt, etaVo] at hj) <;> (try simp only [etaNd] at hj) <;> (try contradiction))
          | (refine ⟨⟨n, rfl, (by exact pr_)⟩, v_spec_NodeOk, (.inl rfl), (by first | assumption | omega), fun r hr => ?_⟩; rcases K_spec_NodeOk (a := n) hr with ⟨hj, rfl⟩ | ⟨hj, rfl⟩ <;> clear hr <;> (try simp only [etaPa, etaIt, etaVo] at hj) <;> (try simp only [etaNd, etaWo] at hj) <;> (try contradiction))
          | exact ⟨⟨_, rfl, rfl, (code, more), rfl, (by unfold R_laws_FnEnterTwice; dsimp only; first | done | exact absurd True.intro hj | (first | rfl | (exfalso; first | contradiction | omega | (rw [hL] at *; omega) | grind)))⟩, (by first | exact Nat.le_refl _ | omega), (by exact h0_)⟩
          | fail)
      · have e2 : entT n e = n := (entT_ok hok e).trans (entN_no he)
        obtain ⟨m, e3⟩ : ∃ m, entT n L = m := ⟨_, rfl⟩
        have hfm : FitVs m.seen := by rw [← e3, entT_ok hok, entN_seen]; exact hfs
        repeat' ((conv => whnf); first
          | (refine calle (b := [agg (ndF n), I e]) v_impl_NodeEnter rfl ⟨(n, e), rfl, hfs⟩ (.inl rfl) (by first | assumption | omega) (fun r hr => (K_impl_NodeEnter (a := (n, e)) hr).trans (congrArg (fun z => agg (ndF z)) e2)) ?_)
          | (refine calle (b := [agg (ndF n), I e]) v_spec_NodeEnter rfl ⟨(n, e), rfl, hfs⟩ (.inl rfl) (by first | assumption | omega) (fun r hr => (K_spec_NodeEnter (a := (n, e)) hr).trans (congrArg (fun z => agg (ndF z)) e2)) ?_)
          | (refine calle (b := [agg (ndF n), I L]) v_impl_NodeEnter (congrArg (fun z => [agg (ndF n), I z]) hL) ⟨(n, L), rfl, hfs⟩ (.inl rfl) (by first | assumption | omega) (fun r hr => (K_impl_NodeEnter (a := (n, L)) hr).trans (congrArg (fun z => agg (ndF z)) e3)) ?_)
          | refine ⟨_, rfl, ?_⟩
          | refine ⟨rfl, ?_⟩
          | refine ⟨_, _, hupd_at, rfl, rfl, Nat.le_of_ble_eq_true rfl, ?_⟩
          | refine ⟨(show _ ≠ _ from (by first | decide | omega)), ?_⟩
          | (refine ⟨fun hc => ?_, fun hc => ?_⟩ <;> (try simp (disch := omega) only [List.length_map, wrap64] at hc) <;> (try (exfalso; first | contradiction | omega)))
          | (refine callt (b := [agg (ndF ⟨_, _, _, _⟩), agg (ndF ⟨_, _, _, _⟩)]) v_laws_lwNode rfl ⟨(⟨_, _, _, _⟩, ⟨_, _, _, _⟩), rfl, (by refine ⟨?_, ?_⟩ <;> (exact pr_))⟩ (.inl rfl) (by first | assumption | omega) (fun r hr => K_laws_lwNode (a := (⟨_, _, _, _⟩, ⟨_, _, _, _⟩)) hr) (fun hj => ?_) (fun hj => ?_) <;> (try simp only [etaPa, etaIt, etaVo] at hj) <;> (try simp only [etaNd] at hj) <;> (try contradiction))
          | (refine ⟨⟨n, rfl, (by exact pr_)⟩, v_spec_NodeOk, (.inl rfl), (by first | assumption | omega), fun r hr => ?_⟩; rcases K_spec_NodeOk (a := n) hr with ⟨hj, rfl⟩ | ⟨hj, rfl⟩ <;> clear hr <;> (try simp only [etaPa, etaIt, etaVo] at hj) <;> (try simp only [etaNd, etaWo] at hj) <;> (try contradiction))
          | exact ⟨⟨_, rfl, rfl, (code, more), rfl, (by unfold R_laws_FnEnterTwice; dsimp only; first | done | exact absurd True.intro hj | (first | rfl | (exfalso; first | contradiction | omega | (rw [hL] at *; omega) | grind)))⟩, (by first | exact Nat.le_refl _ | omega), (by exact h0_)⟩
          | fail)
  · have e2 : entT n e = zNd := entT_no hok e
    repeat' ((conv => whnf); first
      | (refine calle (b := [agg (ndF n), I e]) v_impl_NodeEnter rfl ⟨(n, e), rfl, hfs⟩ (.inl rfl) (by first | assumption | omega) (fun r hr => (K_impl_NodeEnter (a := (n, e)) hr).trans (congrArg (fun z => agg (ndF z)) e2)) ?_)
      | (refine calle (b := [agg (ndF n), I e]) v_spec_NodeEnter rfl ⟨(n, e), rfl, hfs⟩ (.inl rfl) (by first | assumption | omega) (fun r hr => (K_spec_NodeEnter (a := (n, e)) hr).trans (congrArg (fun z => agg (ndF z)) e2)) ?_)
      | refine ⟨_, rfl, ?_⟩
      | refine ⟨_, _, hupd_at, rfl, rfl, Nat.le_of_ble_eq_true rfl, ?_⟩
      | (refine callt (b := [agg (ndF ⟨_, _, _, _⟩), agg (ndF ⟨_, _, _, _⟩)]) v_laws_lwNode rfl ⟨(⟨_, _, _, _⟩, ⟨_, _, _, _⟩), rfl, (by refine ⟨?_, ?_⟩ <;> (exact pr_))⟩ (.inl rfl) (by first | assumption | omega) (fun r hr => K_laws_lwNode (a := (⟨_, _, _, _⟩, ⟨_, _, _, _⟩)) hr) (fun hj => ?_) (fun hj => ?_) <;> (try simp only [etaPa, etaIt, etaVo] at hj) <;> (try simp only [etaNd] at hj) <;> (try contradiction))
      | (refine ⟨⟨n, rfl, (by exact pr_)⟩, v_spec_NodeOk, (.inl rfl), (by first | assumption | omega), fun r hr => ?_⟩; rcases K_spec_NodeOk (a := n) hr with ⟨hj, rfl⟩ | ⟨hj, rfl⟩ <;> clear hr <;> (try simp only [etaPa, etaIt, etaVo] at hj) <;> (try simp only [etaNd, etaWo] at hj) <;> (try contradiction))
      | exact ⟨⟨_, rfl, rfl, (code, more), rfl, (by unfold R_laws_FnEnterTwice; dsimp only; first | done | exact absurd True.intro hj | (first | rfl | (exfalso; first | contradiction | omega | grind)))⟩, (by first | exact Nat.le_refl _ | omega), (by exact h0_)⟩
      | fail)
end Av
end Go.Proofs.Ytkpncekaehgbdaa
