/- The walk: a world begins, or does not: the reference's. -/
import Derived.Test.YtfijfccgghhkoaaWB
import Derived.Test.YtfijfccgghhkoaaZN
set_option linter.unusedVariables false
set_option linter.unusedSimpArgs false
namespace Go.Proofs.Ytfijfccgghhkoaa
namespace Av
open Go.RowKit
section
variable {P : Program} {g : Nat} {S : MSpec} {fr : Env} {H : Hp} {nm nx rm rm' lim : Nat} {K : KV} {xs : List (X × List (Option Nat))} {res : List Rs} {post : AV → List (Option Ob) → Prop}
theorem mq_nWs {bad : Int} (hv : ValidM P g S_spec_WorldNew_s) (hl : rm ≤ LIM) (hb : In bad 0 4) (ha : nrmArgs fr xs = [I bad]) (hK : ∀ H', WAt H' (nm + 16) (newW bad) nm (fun j => nm + 1 + j) → (∀ k, k < nm → H' k = H k) → K (.tup [.g (wvC (newW bad) nm (fun j => nm + 1 + j)), .o (cB true)]) H' rm) : MQ P nm fr H rm K g S_spec_WorldNew_s xs := by
  have e : ∀ i, i < 6 → nmapS 0 [] nm i = nm + i := fun i hi => by unfold nmapS; simp; omega
  refine ⟨⟨hv, hl, [], [I bad], [], by simp, rfl, fun i k' h => by simp at h, by rw [ha]; rfl, ⟨bad, rfl, rfl, trivial⟩, fun r obs' hp _ _ => ?_⟩⟩
  rcases K_spec_WorldNew_s hp with ⟨_, rfl, rfl⟩ | ⟨hn, _⟩
  rotate_left
  · exact absurd hb hn
  show K (.tup [.g (wvC (newW bad) (nmapS 0 [] nm 0) (fun j => nmapS 0 [] nm (stdF j))), .o (cB true)]) (hput (nmapS 0 [] nm) 0 ((obsW (newW bad)).map some) H) _
  have ew : wvC (newW bad) (nmapS 0 [] nm 0) (fun j => nmapS 0 [] nm (stdF j)) = wvC (newW bad) nm (fun j => nm + 1 + j) := by
    show [cI 0, AC.ow (nmapS 0 [] nm 0), tkC (nmapS 0 [] nm 1) [], cI bad] = [cI 0, AC.ow nm, tkC (nm + 1 + 0) [], cI bad]
    rw [e 0 (by omega), e 1 (by omega)]; rfl
  rw [ew]
  have hin : ∀ {i j : Nat}, i < 6 → j < 6 → nmapS 0 [] nm i = nmapS 0 [] nm j → i = j := fun hi hj h => by rw [e _ hi, e _ hj] at h; omega
  obtain ⟨g1, g2⟩ := hput_at (nmapS 0 [] nm) ((obsW (newW bad)).map some) 0 H (fun j j' _ h2 _ h4 h => hin (by simpa [obsW] using h2) (by simpa [obsW] using h4) h)
  have g1' : ∀ (j : Nat) ob, j < 6 → ((obsW (newW bad)).map some)[j]? = some ob → hput (nmapS 0 [] nm) 0 ((obsW (newW bad)).map some) H (nm + j) = ob.map (Ob.ren (nmapS 0 [] nm)) := fun j ob hj h => by have := g1 j ob h; rwa [Nat.zero_add, e j hj] at this
  refine hK _ ⟨?_, fun j hj => ?_, fun i j _ _ h => by omega, by omega, fun j hj => by show nm + 1 + j < _; omega, rfl⟩ (fun k hk => g2 k fun j _ _ => nmapS_out (by simp) hk)
  · have := g1' 0 _ (by omega) rfl
    rw [Nat.add_zero] at this
    rw [this]
    show some ((arrK stdF (newW bad).nodes).ren _) = _
    rw [arrK_ren, arrK_congr (f := fun j => nmapS 0 [] nm (stdF j)) (h := fun j => nm + 1 + j) (ns := (newW bad).nodes) rfl fun j hj => (e (j + 1) (by omega)).trans (by omega : nm + (j + 1) = nm + 1 + j)]
  · have := g1' (j + 1) (some (tokO (lst (newW bad) j))) (by omega) (by
      match j, hj with
      | 0, _ => rfl
      | 1, _ => rfl
      | 2, _ => rfl
      | 3, _ => rfl
      | 4, _ => rfl)
    rw [show nm + (j + 1) = nm + 1 + j by omega] at this
    exact this
theorem mq_nWn {bad : Int} (hv : ValidM P g S_spec_WorldNew_s) (hl : rm ≤ LIM) (hb : ¬ In bad 0 4) (ha : nrmArgs fr xs = [I bad]) (hK : K (.tup [.g [cI 0, .e0, .e0, cI 0], .o (cB false)]) H rm) : MQ P nm fr H rm K g S_spec_WorldNew_s xs := by
  refine ⟨⟨hv, hl, [], [I bad], [], by simp, rfl, fun i k' h => by simp at h, by rw [ha]; rfl, ⟨bad, rfl, rfl, trivial⟩, fun r obs' hp _ _ => ?_⟩⟩
  rcases K_spec_WorldNew_s hp with ⟨h, _⟩ | ⟨_, rfl, rfl⟩
  · exact absurd h hb
  · exact hK
end
attribute [local irreducible] Valid ValidM
set_option maxHeartbeats 4000000 in
set_option maxRecDepth 100000 in
theorem v_spec_WorldNew_n : ValidM Try.prog n_spec_WorldNew S_spec_WorldNew_n := by
  refine validM_of_swp mixed is_spec_WorldNew (by rintro _ _ ⟨a, rfl, _⟩; exact Nat.le_of_ble_eq_true rfl) ?_
  rintro _ _ rm ⟨i, rfl, rfl, hpre⟩ hl
  change swp _ _ _ _ _ 0 _
  have cc_spec_l6In : S_spec_l6In.cost = 0 := rfl
  repeat' ((conv => whnf); first
    | refine ⟨_, rfl, ?_⟩
    | refine ⟨rfl, ?_⟩
    | refine ⟨_, _, rfl, at_map (by assumption), ?_⟩
    | refine idx_mapX (i := 0) rfl (by assumption) ?_
    | refine idx_map (by omega) (fun x hx => ?_)
    | refine idx_mapX (wrap_dn (by omega) (by omega)) (by assumption) ?_
    | refine idx_mapE (wrap_dn (by omega) (by omega)) (by omega) (fun x hx => ?_)
    | refine idx_mapL (by omega) (by first | assumption | (simp only [LIM]; omega)) (fun x hx => ?_)
    | refine idx_mapI (by omega) (by first | omega | (simp only [List.length_map] at *; omega)) (fun x hx => ?_)
    | refine ⟨_, ldc_cells hupd_at (Nat.le_of_ble_eq_true rfl), ?_⟩
    | refine ⟨_, ldc_cells (by first | assumption | exact zk ‹_› (by omega) | exact zk (zk ‹_› (by omega)) (by omega)) (Nat.le_of_ble_eq_true rfl), ?_⟩
    | refine ⟨_, _, hupd_at, rfl, rfl, Nat.le_of_ble_eq_true rfl, ?_⟩
    | refine ⟨_, _, rfl, rfl, rfl, Nat.le_of_ble_eq_true rfl, ?_⟩
    | (refine ⟨?_, _, (?_ : (_ : Option Ob) = _), rfl, rfl, ?_, ?_⟩; rotate_left; (exact hk_); exact Nat.le_of_ble_eq_true rfl)
    | refine ⟨_, _, _, _, ((by exact hk_) : (_ : Option Ob) = _), rfl, at_mapA (by assumption), ?_⟩
    | refine idx_ow (by exact hk_) (by omega) (fun x hx => ?_)
    | refine ⟨_, _, _, _, ((by exact hk_) : (_ : Option Ob) = _), rfl, fill_at (by omega), ?_⟩
    | refine ⟨_, _, _, _, ((by exact hk_) : (_ : Option Ob) = _), fill_at (by omega), rfl, rfl, Nat.le_of_ble_eq_true rfl, ?_⟩
    | refine idx_owL (by exact hk_) (by omega) (by simp only [LIM]; omega) (fun x hx => ?_)
    | refine idx_owI (by exact hk_) (by omega) (by first | omega | (simp only [List.length_map] at *; omega)) (fun x hx => ?_)
    | refine ⟨_, _, _, _, ((by exact hk_) : (_ : Option Ob) = _), at_mapA (by assumption), rfl, rfl, Nat.le_of_ble_eq_true rfl, ?_⟩
    | refine ⟨_, ldc_pa (by exact hk_) (at_mapA (by assumption)) (Nat.le_of_ble_eq_true rfl), ?_⟩
    | refine ⟨_, rfl, rfl, _, ((by exact hk_) : (_ : Option Ob) = _), (by exact ap_), ?_⟩
    | refine ⟨_, news_ow hupd_at, newsz_ow hupd_at, _, ((by exact hk_) : (_ : Option Ob) = _), (by exact ap_), ?_⟩
    | refine ⟨_, _, _, ((by exact hk_) : (_ : Option Ob) = _), ?_⟩
    | refine ⟨_, ((by exact hk_) : (_ : Option Ob) = _), ?_⟩
    | refine ⟨(show _ ≠ _ from (by first | decide | omega)), ?_⟩
    | refine ⟨(show _ ≤ _ from (by exact ap_)), ?_⟩
    | (refine ⟨fun hc => ?_, fun hc => ?_⟩ <;> (try simp (disch := omega) only [List.length_map, wrap64] at hc) <;> (try (exfalso; first | contradiction | omega)))
    | (refine ⟨⟨(by omega), (by omega), (by simp only [List.length_map] at *; simp only [LIM] at *; omega), (by simp only [List.length_map] at *; simp only [LIM] at *; omega)⟩, ?_⟩; (try simp only [List.length_map, Int.toNat_natCast]))
    | (refine ⟨_, slc_to rfl (by first | omega | (simp only [List.length_map] at *; omega)), ?_⟩; rw [map_take'])
    | (refine ⟨_, slc_toI rfl (by omega) (by first | omega | (simp only [List.length_map] at *; omega)), ?_⟩; rw [map_take'])
    | (refine callt (b := [I _, I _, I _]) v_spec_l6In rfl ⟨(_, _, _), rfl, (by exact True.intro)⟩ (.inl rfl) (by first | assumption | omega) (fun r hr => K_spec_l6In (a := (_, _, _)) hr) (fun hj => ?_) (fun hj => ?_) <;> (try simp only [etaPa, etaIt, etaVo] at hj) <;> (try contradiction))
    | fail)
  exact ⟨by omega, [], [.g [cI 0, .e0, .e0, cI 0], .o (cB false)], .tup [.g [cI 0, .e0, .e0, cI 0], .o (cB false)], [], ⟨⟨_, rfl, .inl rfl⟩, ⟨_, rfl, .inl rfl⟩, trivial⟩, rfl, ⟨i, rfl, rfl, rfl, rfl⟩, List.nodup_nil, fun i hi => absurd hi (Nat.not_lt_zero i), rfl, fun i k h => by simp at h⟩
theorem v_spec_WorldNew_s : ValidM Try.prog n_spec_WorldNew S_spec_WorldNew_s :=
  validM_split v_spec_WorldNew v_spec_WorldNew_n rfl rfl fun args obs ⟨i, h1, h2, _⟩ => by
    subst h1 h2
    by_cases hb : In i 0 4
    · exact .inl ⟨⟨i, rfl, rfl, hb⟩, fun r o h => ⟨i, rfl, rfl, .inl ⟨hb, K_spec_WorldNew h⟩⟩⟩
    · refine .inr ⟨⟨i, rfl, rfl, hb⟩, fun r o h => ⟨i, rfl, rfl, .inr ⟨hb, ?_⟩⟩⟩
      exact mkN_post (enc := fun i => [I i]) (a := i) (R := fun _ r obs' => r = .tup [.g [cI 0, .e0, .e0, cI 0], .o (cB false)] ∧ obs' = []) (fun _ _ h => by simpa only [List.cons.injEq, and_true, aI_inj] using h) h
end Av
end Go.Proofs.Ytfijfccgghhkoaa
