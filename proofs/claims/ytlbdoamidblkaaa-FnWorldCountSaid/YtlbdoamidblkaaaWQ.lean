/- The contracts of plays, and of the laws on them. -/
import Derived.Test.YtlbdoamidblkaaaWA
import Derived.Test.YtlbdoamidblkaaaJ7
set_option linter.unusedVariables false
set_option linter.unusedSimpArgs false
namespace Go.Proofs.Ytlbdoamidblkaaa
namespace Av
open Go.RowKit
def EvsOk (es : List Ev) : Prop := es.length ≤ 71 ∧ ∀ e, e ∈ es → e.v.c.length ≤ 17
def FitW (w : Wo) : Prop := w.nodes.length ≤ LIM ∧ (∀ n, n ∈ w.nodes → FitVs n.seen) ∧ FitVs w.log
def zWo : Wo := ⟨0, [], [], 0⟩
noncomputable def playT (bad : Int) (es : List Ev) : Wo × Bool := if tb (In bad 0 4 ∧ es.length ≤ 70) = true then (playW bad es, true) else (zWo, false)
theorem playT_yes {bad : Int} {es : List Ev} (h : In bad 0 4 ∧ es.length ≤ 70) : playT bad es = (playW bad es, true) := by unfold playT; rw [tb_pos h]; rfl
theorem playT_no {bad : Int} {es : List Ev} (h : ¬ (In bad 0 4 ∧ es.length ≤ 70)) : playT bad es = (zWo, false) := by unfold playT; rw [tb_neg h]; rfl
theorem WInv.fitW {w : Wo} (h : WInv w) : FitW w := ⟨by rw [h.2.2.1]; decide, fun n hn => (h.2.2.2.2 n hn).2.2.fit, h.2.2.2.1.fit⟩
theorem zWo_fit : FitW zWo := ⟨Nat.zero_le _, (fun n h => by cases h), Nat.zero_le _, fun n h => by cases h⟩
theorem wiC_inj {a b : Wo} {k : Nat} (h1 : wiC a k = wiC b k) (h2 : nsO a = nsO b) : a = b := by
  have hn := arA_inj (fun _ _ h => ndF_inj.1 h) (Ob.arr.inj h2).2.2
  simp only [wiC, List.cons.injEq, and_true, true_and, AC.c.injEq, FV.v.injEq, Value.int.injEq, vsF_inj] at h1
  obtain ⟨e1, e2, e3⟩ := h1
  cases a; cases b
  simp only at hn e1 e2 e3
  subst hn e1 e2 e3; rfl
theorem wiC_okV {w : Wo} {k n : Nat} (h : k < n) : okV (· < n) (.w (.g (wiC w k))) := fun c hc => by
  simp only [wiC, List.mem_cons, List.not_mem_nil, or_false] at hc
  rcases hc with rfl | rfl | rfl | rfl
  · trivial
  · exact h
  · trivial
  · trivial
def S_impl_World_copied : MSpec := mkM (α := Wo) (fun w => [.w (.g (wiC w 0))]) (fun w => [nsO w]) FitW (fun w r obs' => r = .w (.g (wiC w 1)) ∧ obs' = [some (nsO w), some (nsO w)]) 0
  (fun w _ => ⟨_, _, ⟨rfl, rfl⟩, wiC_okV (show 1 < 2 by decide), ok_two (arA_ok _) (arA_ok _)⟩) (fun w r obs' ⟨_, h⟩ => by rw [h]; simp)
theorem K_impl_World_copied {w : Wo} {r : AV} {obs' : List (Option Ob)} (h : S_impl_World_copied.post [.w (.g (wiC w 0))] [nsO w] r obs') : r = .w (.g (wiC w 1)) ∧ obs' = [some (nsO w), some (nsO w)] :=
  mkM_post (enc := fun w => [.w (.g (wiC w 0))]) (ob := fun w => [nsO w]) (R := fun w r obs' => r = .w (.g (wiC w 1)) ∧ obs' = [some (nsO w), some (nsO w)]) (a := w) (fun a b h1 h2 => wiC_inj (AW.g.inj (AV.w.inj (List.cons.inj h1).1)) (List.cons.inj h2).1) h
section
variable {P : Program} {g : Nat} {fr : Env} {H : Hp} {nm nx rm rm' lim : Nat} {K : KV} {xs : List (X × List (Option Nat))} {res : List Rs} {post : AV → List (Option Ob) → Prop}
theorem mq_cp {w : Wo} {kN : Nat} (hv : ValidM P g S_impl_World_copied) (hl : rm ≤ LIM) (hN : H kN = some (nsO w)) (ha : nrmArgs fr xs = [.w (.g (wiC w kN))]) (hf : FitW w)
    (hK : K (.w (.g (wiC w nm))) (hupd nm (some (nsO w)) (hupd kN (some (nsO w)) H)) rm) : MQ P nm fr H rm K g S_impl_World_copied xs := by
  have e0 : nmapS 0 [kN] nm 0 = kN := nmap_lt (s := 0) rfl
  have e1 : nmapS 0 [kN] nm 1 = nm := nmap_next (ks := [kN])
  refine ⟨⟨hv, hl, [kN], [.w (.g (wiC w 0))], [nsO w], by simp, rfl, fun i k' h => ?_, ?_, ⟨w, rfl, rfl, hf⟩, fun r obs' hp _ _ => ?_⟩⟩
  · match i, h with
    | 0, h => cases h; exact ⟨_, rfl, by rw [nsO_ren]; exact hN⟩
    | i + 1, h => simp at h
  · rw [ha]
    show [AV.w (.g ((wiC w 0).map (AC.ren _)))] = _
    rw [wiC_ren]
    show [AV.w (.g (wiC w (nmapS 0 [kN] nm 0)))] = _
    rw [e0]
  · obtain ⟨rfl, rfl⟩ := K_impl_World_copied hp
    show K (AV.w (.g ((wiC w 1).map (AC.ren _)))) (hupd (nmapS 0 [kN] nm 1) (some ((nsO w).ren _)) (hupd (nmapS 0 [kN] nm 0) (some ((nsO w).ren _)) H)) _
    rw [nsO_ren, wiC_ren]
    show K (AV.w (.g (wiC w (nmapS 0 [kN] nm 1)))) (hupd (nmapS 0 [kN] nm 1) _ (hupd (nmapS 0 [kN] nm 0) _ H)) _
    rw [e0, e1]; exact hK
theorem finM_cp {w : Wo} {k : Nat} (hrm : rm' ≤ lim) (h0 : H 0 = some (nsO w)) (hk : H k = some (nsO w)) (hk1 : 1 ≤ k) (hres : resM [0, k] fr H res [.g (wiC w k)]) (hpost : post (.w (.g (wiC w 1))) [some (nsO w), some (nsO w)]) :
    rm' ≤ lim ∧ ∃ (ks : List Nat) (az : List AW) (r : AV) (obs' : List (Option Ob)), resM ks fr H res az ∧ resV az = r.ren (nmap ks nx) ∧ post r obs' ∧
      ks.Nodup ∧ (∀ i, i < 1 → ks[i]? = some i) ∧ obs'.length = ks.length ∧
      ∀ (i k : Nat), ks[i]? = some k → (∃ ob : Ob, obs'[i]? = some (some ob) ∧ H k = some (ob.ren (nmap ks nx))) ∨ (obs'[i]? = some none ∧ H k = none) := by
  have e1 : nmap [0, k] nx 1 = k := nmap_lt (s := 0) rfl
  refine ⟨hrm, [0, k], _, _, _, hres, ?_, hpost, by simp; omega, fun i hi => ?_, rfl, fun i k' h => .inl ?_⟩
  · show AV.w (.g (wiC w k)) = AV.w (.g ((wiC w 1).map (AC.ren _)))
    rw [wiC_ren, e1]
  · have : i = 0 := by omega
    subst this; rfl
  · match i, h with
    | 0, h => cases h; exact ⟨_, rfl, by rw [nsO_ren]; exact h0⟩
    | 1, h => cases h; exact ⟨_, rfl, by rw [nsO_ren]; exact hk⟩
    | i + 2, h => simp at h
theorem mq_newI {bad : Int} (hv : ValidM P g S_impl_WorldNew_s) (hl : rm ≤ LIM) (ha : nrmArgs fr xs = [I bad])
    (h1 : In bad 0 4 → K (.tup [.g (wiC (newW bad) nm), .o (cB true)]) (hupd nm (some (nsO (newW bad))) H) rm)
    (h2 : ¬ In bad 0 4 → K (.tup [.g [cI 0, .c (.sl 4 []), .c (vsF []), cI 0], .o (cB false)]) H rm) : MQ P nm fr H rm K g S_impl_WorldNew_s xs := by
  have e0 : nmapS 0 [] nm 0 = nm := nmap_next (ks := [])
  refine ⟨⟨hv, hl, [], [I bad], [], by simp, rfl, fun i k' h => by simp at h, by rw [ha]; rfl, ⟨bad, rfl, rfl, trivial⟩, fun r obs' hp _ _ => ?_⟩⟩
  rcases K_impl_WorldNew_s hp with ⟨hb, rfl, rfl⟩ | ⟨hb, rfl, rfl⟩
  · show K (.tup [.g ((wiC (newW bad) 0).map (AC.ren _)), .o (cB true)]) (hupd (nmapS 0 [] nm 0) (some ((nsO (newW bad)).ren _)) H) _
    rw [nsO_ren, wiC_ren]
    show K (.tup [.g (wiC (newW bad) (nmapS 0 [] nm 0)), .o (cB true)]) (hupd (nmapS 0 [] nm 0) _ H) _
    rw [e0]; exact h1 hb
  · exact h2 hb
end
/-- A world begins, or does not. -/
def RNewS (bad : Int) (r : AV) (obs' : List (Option Ob)) : Prop := (In bad 0 4 ∧ RNew bad r obs') ∨ (¬ In bad 0 4 ∧ r = .tup [.g [cI 0, .e0, .e0, cI 0], .o (cB false)] ∧ obs' = [])
def S_spec_WorldNew_n : MSpec := mkN (α := Int) (fun i => [I i]) (fun i => ¬ In i 0 4) (fun _ r obs' => r = .tup [.g [cI 0, .e0, .e0, cI 0], .o (cB false)] ∧ obs' = []) 0
  (fun i _ => ⟨_, _, ⟨rfl, rfl⟩, ok_4 trivial trivial trivial trivial trivial, fun j o h => by simp at h⟩) (fun i r obs' ⟨_, h⟩ => by rw [h]; simp)
def S_spec_WorldNew_s : MSpec := mkN (α := Int) (fun i => [I i]) (fun _ => True) RNewS 0 (fun i _ => by
    by_cases h : In i 0 4
    · obtain ⟨r, obs', h1, h2, h3⟩ := S_spec_WorldNew.inh [I i] [] ⟨i, rfl, rfl, h⟩
      exact ⟨r, obs', .inl ⟨h, K_spec_WorldNew h1⟩, h2, h3⟩
    · exact ⟨_, _, .inr ⟨h, rfl, rfl⟩, ok_4 trivial trivial trivial trivial trivial, fun j o h => by simp at h⟩) (fun i r obs' h => by
      rcases h with ⟨_, _, rfl⟩ | ⟨_, _, rfl⟩ <;> simp [obsW])
theorem K_spec_WorldNew_s {i : Int} {r : AV} {obs' : List (Option Ob)} (h : S_spec_WorldNew_s.post [I i] [] r obs') : RNewS i r obs' :=
  mkN_post (enc := fun i => [I i]) (a := i) (R := RNewS) (fun _ _ h => by simpa only [List.cons.injEq, and_true, aI_inj] using h) h
theorem validM_split {P : Program} {f : Nat} {S S1 S2 : MSpec} (h1 : ValidM P f S1) (h2 : ValidM P f S2) (k1 : S1.cost = S.cost) (k2 : S2.cost = S.cost)
    (h : ∀ args obs, S.pre args obs → (S1.pre args obs ∧ ∀ r o, S1.post args obs r o → S.post args obs r o) ∨ (S2.pre args obs ∧ ∀ r o, S2.post args obs r o → S.post args obs r o)) : ValidM P f S := by
  refine ⟨h1.1, fun args obs rm hp hl => ?_⟩
  have key : ∀ T : MSpec, T.cost = S.cost → (∀ r o, T.post args obs r o → S.post args obs r o) → FnM P f args obs T.cost rm (T.post args obs) → FnM P f args obs S.cost rm (S.post args obs) := by
    intro T hc hpq hT
    rw [hc] at hT
    intro V O own w vals q1 q2 q3 q4 q5 q6 q7
    refine (hT V O own w vals q1 q2 q3 q4 q5 q6 q7).mono fun e w' hw => ?_
    obtain ⟨v, r, obs', V', O', own', g1, g2, g3⟩ := hw
    exact ⟨v, r, obs', V', O', own', g1, hpq r obs' g2, g3⟩
  rcases h args obs hp with ⟨a, b⟩ | ⟨a, b⟩
  · exact key S1 k1 b (h1.2 args obs rm a (by rw [k1]; exact hl))
  · exact key S2 k2 b (h2.2 args obs rm a (by rw [k2]; exact hl))
def R_impl_WorldPlay (a : (Int) × (List Ev)) (r : AV) : Prop := r = .tup [.g ((woF (playT a.1 a.2).1).map AC.c), .o (cB (playT a.1 a.2).2)]
def R_spec_WorldPlay (a : (Int) × (List Ev)) (r : AV) : Prop := r = .tup [.g ((woF (playT a.1 a.2).1).map AC.c), .o (cB (playT a.1 a.2).2)]
def R_spec_DrawWorldPlay (a : (List Int)) (r : AV) : Prop := ∃ (bad : Int) (es : List Ev), r = .tup [.o (cI bad), .o (.c (evsF es))] ∧ EvsOk es
theorem inh_impl_WorldPlay : ∀ a : Int × List Ev, EvsOk a.2 → ∃ r, R_impl_WorldPlay a r ∧ okV noN r := fun a _ => ⟨_, rfl, ok2 (b := []) trivial⟩
theorem inh_spec_WorldPlay : ∀ a : Int × List Ev, EvsOk a.2 → ∃ r, R_spec_WorldPlay a r ∧ okV noN r := fun a _ => ⟨_, rfl, ok2 (b := []) trivial⟩
theorem inh_spec_DrawWorldPlay : ∀ a : List Int, CodeOk a → ∃ r, R_spec_DrawWorldPlay a r ∧ okV noN r := fun a _ => ⟨_, ⟨0, [], rfl, Nat.zero_le _, fun e h => by cases h⟩, fun c hc => by
  simp only [List.mem_cons, List.not_mem_nil, or_false] at hc
  rcases hc with rfl | rfl <;> trivial⟩
noncomputable def S_impl_WorldPlay : FSpec := mkR (α := (Int) × (List Ev)) (fun a => [I a.1, one (evsF a.2)]) (fun a => EvsOk a.2) R_impl_WorldPlay 0 false (fun h => by cases h) inh_impl_WorldPlay (fun _ => rfl)
noncomputable def S_spec_WorldPlay : FSpec := mkR (α := (Int) × (List Ev)) (fun a => [I a.1, one (evsF a.2)]) (fun a => EvsOk a.2) R_spec_WorldPlay 0 false (fun h => by cases h) inh_spec_WorldPlay (fun _ => rfl)
noncomputable def S_spec_DrawWorldPlay : FSpec := mkR (α := (List Int)) (fun a => [one (byF a)]) (fun a => CodeOk a) R_spec_DrawWorldPlay 60000 false (fun h => by cases h) inh_spec_DrawWorldPlay (fun _ => rfl)
noncomputable def S_laws_lwWorld : FSpec := tF (α := (Wo) × (Wo)) (fun a => [agg (woF a.1), agg (woF a.2)]) (fun a => FitW a.1 ∧ FitW a.2) (fun a => a.1 = a.2) (fun _ => rfl)
theorem K_impl_WorldPlay {a : (Int) × (List Ev)} {r : AV} (h : S_impl_WorldPlay.post ([I a.1, one (evsF a.2)]) r) : R_impl_WorldPlay a r :=
  mkR_post (a := a) (by rintro ⟨x0, x1⟩ ⟨y0, y1⟩ h; simp only [List.cons.injEq, and_true, true_and, one_inj, agg_inj, paF_inj, itF_inj, chF_inj, voF_inj, vsF_inj, csF_inj, nsF_inj, nssF_inj, ndF_inj, ceF_inj, woF_inj, evF_inj, byF_inj, ndsF_inj, evsF_inj, pasF_inj, aI_inj, aB_inj, aRp_inj, fI_inj, fBo_inj] at h; obtain ⟨rfl, rfl⟩ := h; rfl) h
theorem K_spec_WorldPlay {a : (Int) × (List Ev)} {r : AV} (h : S_spec_WorldPlay.post ([I a.1, one (evsF a.2)]) r) : R_spec_WorldPlay a r :=
  mkR_post (a := a) (by rintro ⟨x0, x1⟩ ⟨y0, y1⟩ h; simp only [List.cons.injEq, and_true, true_and, one_inj, agg_inj, paF_inj, itF_inj, chF_inj, voF_inj, vsF_inj, csF_inj, nsF_inj, nssF_inj, ndF_inj, ceF_inj, woF_inj, evF_inj, byF_inj, ndsF_inj, evsF_inj, pasF_inj, aI_inj, aB_inj, aRp_inj, fI_inj, fBo_inj] at h; obtain ⟨rfl, rfl⟩ := h; rfl) h
theorem K_spec_DrawWorldPlay {a : (List Int)} {r : AV} (h : S_spec_DrawWorldPlay.post ([one (byF a)]) r) : R_spec_DrawWorldPlay a r :=
  mkR_post (a := a) (by intro a b h; simpa only [List.cons.injEq, and_true, true_and, one_inj, agg_inj, paF_inj, itF_inj, chF_inj, voF_inj, vsF_inj, csF_inj, nsF_inj, nssF_inj, ndF_inj, ceF_inj, woF_inj, evF_inj, byF_inj, ndsF_inj, evsF_inj, pasF_inj, aI_inj, aB_inj, aRp_inj, fI_inj, fBo_inj] using h) h
theorem K_laws_lwWorld {a : (Wo) × (Wo)} {r : AV} (h : S_laws_lwWorld.post ([agg (woF a.1), agg (woF a.2)]) r) : (a.1 = a.2 ∧ r = B true) ∨ (¬ (a.1 = a.2) ∧ r = B false) :=
  tF_post (hcl := fun _ => rfl) (a := a) (by rintro ⟨x0, x1⟩ ⟨y0, y1⟩ h; simp only [List.cons.injEq, and_true, true_and, one_inj, agg_inj, paF_inj, itF_inj, chF_inj, voF_inj, vsF_inj, csF_inj, nsF_inj, nssF_inj, ndF_inj, ceF_inj, woF_inj, evF_inj, byF_inj, ndsF_inj, evsF_inj, pasF_inj, aI_inj, aB_inj, aRp_inj, fI_inj, fBo_inj] at h; obtain ⟨rfl, rfl⟩ := h; rfl) h
def R_laws_FnWorldOnce (a : (List Int)) (r : AV) : Prop := r = B true
def R_laws_FnWorldCount (a : (List Int)) (r : AV) : Prop := r = B true
theorem inh_laws_FnWorldOnce : ∀ a : List Int, LawB a → ∃ r, R_laws_FnWorldOnce a r ∧ okV noN r := inh_yes (R := R_laws_FnWorldOnce) fun _ => rfl
theorem inh_laws_FnWorldCount : ∀ a : List Int, LawB a → ∃ r, R_laws_FnWorldCount a r ∧ okV noN r := inh_yes (R := R_laws_FnWorldCount) fun _ => rfl
noncomputable def S_laws_FnWorldOnce : FSpec := mkR (α := (List Int)) (fun a => [one (byF a)]) (fun a => LawB a) R_laws_FnWorldOnce 200000 false (fun h => by cases h) inh_laws_FnWorldOnce (fun _ => rfl)
noncomputable def S_laws_FnWorldCount : FSpec := mkR (α := (List Int)) (fun a => [one (byF a)]) (fun a => LawB a) R_laws_FnWorldCount 200000 false (fun h => by cases h) inh_laws_FnWorldCount (fun _ => rfl)
theorem K_laws_FnWorldOnce {a : (List Int)} {r : AV} (h : S_laws_FnWorldOnce.post ([one (byF a)]) r) : R_laws_FnWorldOnce a r :=
  mkR_post (a := a) (by intro a b h; simpa only [List.cons.injEq, and_true, true_and, one_inj, agg_inj, paF_inj, itF_inj, chF_inj, voF_inj, vsF_inj, csF_inj, nsF_inj, nssF_inj, ndF_inj, ceF_inj, woF_inj, evF_inj, byF_inj, ndsF_inj, evsF_inj, pasF_inj, aI_inj, aB_inj, aRp_inj, fI_inj, fBo_inj] using h) h
theorem K_laws_FnWorldCount {a : (List Int)} {r : AV} (h : S_laws_FnWorldCount.post ([one (byF a)]) r) : R_laws_FnWorldCount a r :=
  mkR_post (a := a) (by intro a b h; simpa only [List.cons.injEq, and_true, true_and, one_inj, agg_inj, paF_inj, itF_inj, chF_inj, voF_inj, vsF_inj, csF_inj, nsF_inj, nssF_inj, ndF_inj, ceF_inj, woF_inj, evF_inj, byF_inj, ndsF_inj, evsF_inj, pasF_inj, aI_inj, aB_inj, aRp_inj, fI_inj, fBo_inj] using h) h
end Av
end Go.Proofs.Ytlbdoamidblkaaa
