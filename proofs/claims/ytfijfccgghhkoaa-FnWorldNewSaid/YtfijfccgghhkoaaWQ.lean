/- The contracts of plays, and of the laws on them. -/
import Derived.Test.YtfijfccgghhkoaaWA
import Derived.Test.YtfijfccgghhkoaaQ0
set_option linter.unusedVariables false
set_option linter.unusedSimpArgs false
namespace Go.Proofs.Ytfijfccgghhkoaa
namespace Av
open Go.RowKit
def FitW (w : Wo) : Prop := w.nodes.length ≤ LIM ∧ (∀ n, n ∈ w.nodes → FitVs n.seen) ∧ FitVs w.log
def zWo : Wo := ⟨0, [], [], 0⟩
theorem zWo_fit : FitW zWo := ⟨Nat.zero_le _, (fun n h => by cases h), Nat.zero_le _, fun n h => by cases h⟩
section
variable {P : Program} {g : Nat} {fr : Env} {H : Hp} {nm nx rm rm' lim : Nat} {K : KV} {xs : List (X × List (Option Nat))} {res : List Rs} {post : AV → List (Option Ob) → Prop}
theorem mq_newI {bad : Int} (hv : ValidM P g S_impl_WorldNew_s) (hl : rm ≤ LIM) (ha : nrmArgs fr xs = [I bad])
    (h1 : In bad 0 4 → K (.tup [.g (wiC (newW bad) nm), .o (cB true)]) (hupd nm (some (nsO (newW bad))) H) rm)
    (h2 : ¬ In bad 0 4 → K (.tup [.g [cI 0, .c (.sl 4 []), .c (vsF []), cI 0], .o (cB false)]) H rm) : MQ P nm fr H rm K g S_impl_WorldNew_s xs := by
  have e0 : nmapS 0 [] nm 0 = nm := nmap_next (ks := [])
  refine ⟨⟨hv, hl, [], [I bad], [], by simp, rfl, fun i k' h => by simp at h, by rw [ha]; rfl, ⟨bad, rfl, rfl, trivial⟩, fun r obs' hp _ _ => ?_⟩⟩
  rcases K_impl_WorldNew_s hp with ⟨hb, rfl, rfl⟩ | ⟨hb, rfl, rfl⟩
  · show K (.tup [.g ((wiC (newW bad) 0).map (AC.ren _)), .o (cB true)]) (hupd (nmapS 0 [] nm 0) (some ((nsO (newW bad)).ren _)) H) _
    rw [nsO_ren, wiC_ren]
    show K (.tup [.g (wiC (newW bad) (nmapS 0 [] nm 0)), .o (cB true)]) (hupd (nmapS 0 [] nm 0) _ H) _
    rw [e0]; exact h1 hb
  · exact h2 hb
end
/-- A world begins, or does not. -/
def RNewS (bad : Int) (r : AV) (obs' : List (Option Ob)) : Prop := (In bad 0 4 ∧ RNew bad r obs') ∨ (¬ In bad 0 4 ∧ r = .tup [.g [cI 0, .e0, .e0, cI 0], .o (cB false)] ∧ obs' = [])
def S_spec_WorldNew_n : MSpec := mkN (α := Int) (fun i => [I i]) (fun i => ¬ In i 0 4) (fun _ r obs' => r = .tup [.g [cI 0, .e0, .e0, cI 0], .o (cB false)] ∧ obs' = []) 0
  (fun i _ => ⟨_, _, ⟨rfl, rfl⟩, ok_4 trivial trivial trivial trivial trivial, fun j o h => by simp at h⟩) (fun i r obs' ⟨_, h⟩ => by rw [h]; simp)
def S_spec_WorldNew_s : MSpec := mkN (α := Int) (fun i => [I i]) (fun _ => True) RNewS 0 (fun i _ => by
    by_cases h : In i 0 4
    · obtain ⟨r, obs', h1, h2, h3⟩ := S_spec_WorldNew.inh [I i] [] ⟨i, rfl, rfl, h⟩
      exact ⟨r, obs', .inl ⟨h, K_spec_WorldNew h1⟩, h2, h3⟩
    · exact ⟨_, _, .inr ⟨h, rfl, rfl⟩, ok_4 trivial trivial trivial trivial trivial, fun j o h => by simp at h⟩) (fun i r obs' h => by
      rcases h with ⟨_, _, rfl⟩ | ⟨_, _, rfl⟩ <;> simp [obsW])
theorem K_spec_WorldNew_s {i : Int} {r : AV} {obs' : List (Option Ob)} (h : S_spec_WorldNew_s.post [I i] [] r obs') : RNewS i r obs' :=
  mkN_post (enc := fun i => [I i]) (a := i) (R := RNewS) (fun _ _ h => by simpa only [List.cons.injEq, and_true, aI_inj] using h) h
theorem validM_split {P : Program} {f : Nat} {S S1 S2 : MSpec} (h1 : ValidM P f S1) (h2 : ValidM P f S2) (k1 : S1.cost = S.cost) (k2 : S2.cost = S.cost)
    (h : ∀ args obs, S.pre args obs → (S1.pre args obs ∧ ∀ r o, S1.post args obs r o → S.post args obs r o) ∨ (S2.pre args obs ∧ ∀ r o, S2.post args obs r o → S.post args obs r o)) : ValidM P f S := by
  refine ⟨h1.1, fun args obs rm hp hl => ?_⟩
  have key : ∀ T : MSpec, T.cost = S.cost → (∀ r o, T.post args obs r o → S.post args obs r o) → FnM P f args obs T.cost rm (T.post args obs) → FnM P f args obs S.cost rm (S.post args obs) := by
    intro T hc hpq hT
    rw [hc] at hT
    intro V O own w vals q1 q2 q3 q4 q5 q6 q7
    refine (hT V O own w vals q1 q2 q3 q4 q5 q6 q7).mono fun e w' hw => ?_
    obtain ⟨v, r, obs', V', O', own', g1, g2, g3⟩ := hw
    exact ⟨v, r, obs', V', O', own', g1, hpq r obs' g2, g3⟩
  rcases h args obs hp with ⟨a, b⟩ | ⟨a, b⟩
  · exact key S1 k1 b (h1.2 args obs rm a (by rw [k1]; exact hl))
  · exact key S2 k2 b (h2.2 args obs rm a (by rw [k2]; exact hl))
noncomputable def S_laws_lwWorld : FSpec := tF (α := (Wo) × (Wo)) (fun a => [agg (woF a.1), agg (woF a.2)]) (fun a => FitW a.1 ∧ FitW a.2) (fun a => a.1 = a.2) (fun _ => rfl)
theorem K_laws_lwWorld {a : (Wo) × (Wo)} {r : AV} (h : S_laws_lwWorld.post ([agg (woF a.1), agg (woF a.2)]) r) : (a.1 = a.2 ∧ r = B true) ∨ (¬ (a.1 = a.2) ∧ r = B false) :=
  tF_post (hcl := fun _ => rfl) (a := a) (by rintro ⟨x0, x1⟩ ⟨y0, y1⟩ h; simp only [List.cons.injEq, and_true, true_and, one_inj, agg_inj, paF_inj, itF_inj, chF_inj, voF_inj, vsF_inj, csF_inj, nsF_inj, nssF_inj, ndF_inj, ceF_inj, woF_inj, evF_inj, byF_inj, ndsF_inj, evsF_inj, pasF_inj, aI_inj, aB_inj, aRp_inj, fI_inj, fBo_inj] at h; obtain ⟨rfl, rfl⟩ := h; rfl) h
end Av
end Go.Proofs.Ytfijfccgghhkoaa
