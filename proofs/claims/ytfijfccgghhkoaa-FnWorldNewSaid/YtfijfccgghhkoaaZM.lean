/- The walks: the reference's functions on worlds. -/
import Derived.Test.YtfijfccgghhkoaaZL
set_option linter.unusedVariables false
set_option linter.unusedSimpArgs false
namespace Go.Proofs.Ytfijfccgghhkoaa
namespace Av
open Go.RowKit
section
variable {P : Program} {g : Nat} {S : MSpec} {fr : Env} {H : Hp} {nm nx rm rm' lim : Nat} {K : KV} {xs : List (X × List (Option Nat))} {res : List Rs} {post : AV → List (Option Ob) → Prop}
theorem mq_nn {i : Int} (hv : ValidM P g S_spec_NodeNew) (hl : rm ≤ LIM) (hi : In i 1 4) (ha : nrmArgs fr xs = [I i]) (hK : K (.tup [.g (ndK ⟨i, 0, 0, []⟩ nm), .o (cB true)]) (hupd nm (some (tokO [])) H) rm) : MQ P nm fr H rm K g S_spec_NodeNew xs := by
  refine ⟨⟨hv, hl, [], [I i], [], by simp, rfl, fun i k' h => by simp at h, by rw [ha]; rfl, ⟨i, rfl, rfl, hi⟩, fun r obs' hp _ _ => ?_⟩⟩
  obtain ⟨rfl, rfl⟩ := K_spec_NodeNew hp
  show K (.tup [.g (ndK ⟨i, 0, 0, []⟩ (nmapS 0 [] nm 0)), .o (cB true)]) (hupd (nmapS 0 [] nm 0) (some (tokO [])) H) _
  rw [show nmapS 0 [] nm 0 = nm from nmap_next (ks := [])]
  exact hK
/-- A new world goes out. -/
theorem finM_nW {w : Wo} {kN : Nat} {f : Nat → Nat} (hrm : rm' ≤ lim) (hW : WAt H nm w kN f) (hres : ∀ ks, resM ks fr H res [.g (wvC w kN f), .o (cB true)]) (hpost : post (.tup [.g (wvC w 0 stdF), .o (cB true)]) ((obsW w).map some)) :
    rm' ≤ lim ∧ ∃ (ks : List Nat) (aw : List AW) (r : AV) (obs' : List (Option Ob)), resM ks fr H res aw ∧ resV aw = r.ren (nmap ks nx) ∧ post r obs' ∧
      ks.Nodup ∧ (∀ i, i < 0 → ks[i]? = some i) ∧ obs'.length = ks.length ∧
      ∀ (i k : Nat), ks[i]? = some k → (∃ ob : Ob, obs'[i]? = some (some ob) ∧ H k = some (ob.ren (nmap ks nx))) ∨ (obs'[i]? = some none ∧ H k = none) := by
  have e0 : nmap [kN, f 0, f 1, f 2, f 3, f 4] nx 0 = kN := nmap_lt (s := 0) rfl
  have ef : ∀ j, j < 5 → nmap [kN, f 0, f 1, f 2, f 3, f 4] nx (stdF j) = f j := fun j hj => nmap_lt (s := 0) (by simpa using ksW_get (ex := []) hj)
  refine ⟨hrm, [kN, f 0, f 1, f 2, f 3, f 4], _, _, _, hres _, ?_, hpost, ksW_nodup hW, fun i hi => absurd hi (Nat.not_lt_zero i), by simp [obsW], fun i k h => .inl ?_⟩
  · show AV.tup [.g [cI w.ep, .ow kN, tkC (f 0) w.log, cI w.bad], .o (cB true)] = AV.tup [.g [cI w.ep, .ow (nmap _ nx 0), tkC (nmap _ nx (stdF 0)) w.log, cI w.bad], .o (cB true)]
    rw [e0, ef 0 (by omega)]
  · have := ksW_obs (ex := []) (eo := []) hW e0 ef (fun i k h => by simp at h) i k (by simpa using h)
    obtain ⟨ob, h1, h2⟩ := this
    refine ⟨ob, ?_, h2⟩
    rw [List.getElem?_map]
    rw [List.append_nil] at h1
    rw [h1]; rfl
end
attribute [local irreducible] Valid ValidM
set_option maxHeartbeats 4000000 in
set_option maxRecDepth 100000 in
theorem v_spec_NodeNew : ValidM Try.prog n_spec_NodeNew S_spec_NodeNew := by
  refine validM_of_swp mixed is_spec_NodeNew (by rintro _ _ ⟨a, rfl, _⟩; exact Nat.le_of_ble_eq_true rfl) ?_
  rintro _ _ rm ⟨i, rfl, rfl, hpre⟩ hl
  try dsimp only at hpre
  change swp _ _ _ _ _ 0 _
  repeat' ((conv => whnf); first
    | refine ⟨_, _, rfl, rfl, rfl, Nat.le_of_ble_eq_true rfl, ?_⟩
    | (refine callt (b := [I _, I _, I _]) v_spec_l6In rfl ⟨(_, _, _), rfl, (by exact True.intro)⟩ (.inl rfl) (by first | assumption | omega) (fun r hr => K_spec_l6In (a := (_, _, _)) hr) (fun hj => ?_) (fun hj => ?_) <;> (try simp only [etaPa, etaIt, etaVo] at hj) <;> (try contradiction))
    | fail)
  exact finM_one (M := 0) (l := []) (k := 96) (r0 := .tup [.g (ndK ⟨i, 0, 0, []⟩ 0), .o (cB true)]) (az := [.g (ndK ⟨i, 0, 0, []⟩ 96), .o (cB true)]) (by decide) (fun h => by cases h) (Nat.le_refl _) hk_ ⟨⟨_, rfl, .inl rfl⟩, ⟨_, rfl, .inl rfl⟩, trivial⟩ (fun nx => by show _ = AV.tup [.g (ndK ⟨i, 0, 0, []⟩ (nmap [96] nx 0)), .o (cB true)]; rw [show nmap [96] nx 0 = 96 from nmap_lt (s := 0) rfl]; rfl) ⟨i, rfl, rfl, rfl, rfl⟩
end Av
end Go.Proofs.Ytfijfccgghhkoaa
