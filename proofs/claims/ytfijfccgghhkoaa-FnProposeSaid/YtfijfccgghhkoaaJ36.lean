/- Texts of the layer, joined. -/
import Derived.Test.YtfijfccgghhkoaaZO
set_option linter.unusedVariables false
set_option linter.unusedSimpArgs false
namespace Go.Proofs.Ytfijfccgghhkoaa
namespace Av
open Go.RowKit
theorem agg_ren {l : List FV} {ρ : Nat → Nat} : (agg l).ren ρ = agg l := by
  show AV.w (.g ((l.map AC.c).map (AC.ren ρ))) = _
  rw [List.map_map]; rfl
attribute [local irreducible] Valid ValidM
set_option maxHeartbeats 4000000 in
set_option maxRecDepth 100000 in
theorem v_spec_l72Event : ValidM Try.prog n_spec_l72Event S_spec_l72Event := by
  refine validM_of_swp mixed is_spec_l72Event (by rintro _ _ ⟨a, rfl, _⟩; exact Nat.le_of_ble_eq_true rfl) ?_
  rintro _ _ rm ⟨⟨w, b⟩, rfl, rfl, hpre⟩ hl
  try dsimp only at hpre
  obtain ⟨hI, hrd⟩ := hpre
  have hl4 := hI.2.2.1
  have hfs : FitVs w.log := hI.2.2.2.1.fit
  have c1 : S_spec_l72Event.cost = 300 := rfl
  have c2 : S_spec_l72Forge.cost = 200 := rfl
  have c3 : S_spec_l72Forge.st = 0 := rfl
  have cc_spec_l6Rd_pick : S_spec_l6Rd_pick.cost = 1 := rfl
  have cc_spec_l71Pay : S_spec_l71Pay.cost = 10 := rfl
  have cc_spec_l3Leader : S_spec_l3Leader.cost = 0 := rfl
  have hmx : In (if 1 > w.ep then 1 else w.ep) 0 100 := by
    obtain ⟨q1, q2⟩ := hI.1
    split <;> exact ⟨by omega, by omega⟩
  change swp _ _ _ _ (fun k : Nat => (obsR w b)[k]?) 7 _
  dsimp only
  have hW0 := startR (b := b) hI.2.2.1
  have hR0 : (fun k : Nat => (obsR w b)[k]?) 6 = some (.rd (byF b)) := rfl
  generalize (fun k : Nat => (obsR w b)[k]?) = H0 at *
  have hA0 : H0 0 = some (.arr ty_impl_Node 4 (ndsK stdF w.nodes)) := hW0.arr
  repeat' ((conv => whnf); first
    | (refine mq_WR (w := w) (kN := 0) (kr := 6) (f := stdF) (b := b) (Q := QForge) v_spec_l72Forge (by omega) (hW0.keep (by omega) (fun k hk => by (repeat (refine (hupd_ne (by omega)).trans ?_)); rfl)) hk_ (by omega) rfl ⟨(w, b), rfl, rfl, hI, hrd⟩ (fun r obs' h => mkR2_post h) (fun r hq ρ => by obtain ⟨v, rfl, _⟩ := hq; exact agg_ren) (fun r ⟨v, hr, hv⟩ => ?_); subst hr)
    | refine ⟨_, rfl, ?_⟩
    | refine ⟨rfl, ?_⟩
    | refine ⟨_, _, hupd_at, rfl, rfl, Nat.le_of_ble_eq_true rfl, ?_⟩
    | (refine ⟨fun hc => ?_, fun hc => ?_⟩ <;> (try simp (disch := omega) only [List.length_map, wrap64] at hc))
    | (refine callrd (by exact hk_) rfl rfl ⟨(_, _), rfl, (by exact pr_)⟩ v_spec_l6Rd_pick (by omega) (fun r hr => ?_); have hj := K_spec_l6Rd_pick (a := (_, _)) hr; clear hr; obtain ⟨k, rfl, hk0, hk1⟩ := hj; dsimp only at hk1; (try simp (disch := omega) only [List.length_map, ncast, wrap64] at hk1))
    | (refine callrd (by exact hk_) rfl rfl ⟨_, rfl, (by exact pr_)⟩ v_spec_l71Pay (by omega) (fun r hr => ?_); have hj := K_spec_l71Pay (a := _) hr; clear hr; obtain ⟨p, rfl⟩ := hj)
    | (refine calle (b := [I _]) v_spec_l3Leader rfl ⟨_, rfl, (by exact pr_)⟩ (.inl rfl) (by first | assumption | omega) (fun r hr => K_spec_l3Leader (a := _) hr) ?_)
    | fail)
  all_goals first
    | exact finM_R (w := w) (b := b) (az := [.g ((evF (⟨3, _, _, ⟨0, 0, 0⟩, ⟨0, []⟩⟩ : Ev)).map AC.c)]) (by omega) (hW0.keep (Nat.le_refl _) (fun k hk => by (repeat (refine (hupd_ne (by omega)).trans ?_)); rfl)) hk_ ⟨⟨_, rfl, .inr ⟨rfl, rfl⟩⟩, trivial⟩ rfl (fun _ => rfl) ⟨(w, b), rfl, rfl, ⟨_, rfl, Nat.zero_le _⟩, rfl⟩
    | exact finM_R (w := w) (b := b) (az := [.g ((evF (⟨1, 0, 0, ⟨0, 0, 0⟩, ⟨0, []⟩⟩ : Ev)).map AC.c)]) (by omega) (hW0.keep (Nat.le_refl _) (fun k hk => by (repeat (refine (hupd_ne (by omega)).trans ?_)); rfl)) hk_ ⟨⟨_, rfl, .inr ⟨rfl, rfl⟩⟩, trivial⟩ rfl (fun _ => rfl) ⟨(w, b), rfl, rfl, ⟨_, rfl, Nat.zero_le _⟩, rfl⟩
    | exact finM_R (w := w) (b := b) (az := [.g ((evF (⟨2, _, 0, ‹Pa›, ⟨0, []⟩⟩ : Ev)).map AC.c)]) (by omega) (hW0.keep (Nat.le_refl _) (fun k hk => by (repeat (refine (hupd_ne (by omega)).trans ?_)); rfl)) hk_ ⟨⟨_, rfl, .inr ⟨rfl, rfl⟩⟩, trivial⟩ rfl (fun _ => rfl) ⟨(w, b), rfl, rfl, ⟨_, rfl, Nat.zero_le _⟩, rfl⟩
    | exact finM_R (w := w) (b := b) (az := [.g ((evF (⟨4, 0, 0, ⟨0, 0, 0⟩, ‹Vo›⟩ : Ev)).map AC.c)]) (by omega) (hW0.keep (Nat.le_refl _) (fun k hk => by (repeat (refine (hupd_ne (by omega)).trans ?_)); rfl)) hk_ ⟨⟨_, rfl, .inr ⟨rfl, rfl⟩⟩, trivial⟩ rfl (fun _ => rfl) ⟨(w, b), rfl, rfl, ⟨_, rfl, by assumption⟩, rfl⟩
end Av
end Go.Proofs.Ytfijfccgghhkoaa

namespace Go.Proofs.Ytfijfccgghhkoaa
namespace Av
open Go.RowKit
theorem WAt.keepN {H H' : Hp} {nx nx' : Nat} {w : Wo} {kN : Nat} {f : Nat → Nat} (h : WAt H nx w kN f) (hle : nx ≤ nx') (h1 : H' kN = H kN) (h2 : ∀ j, j < 5 → H' (f j) = H (f j)) : WAt H' nx' w kN f :=
  ⟨by rw [h1]; exact h.arr, fun j hj => by rw [h2 j hj]; exact h.tok j hj, h.inj, Nat.lt_of_lt_of_le h.kn hle, fun j hj => Nat.lt_of_lt_of_le (h.fn j hj) hle, h.len⟩
/-- What a play has in memory: the reader, the world in its variable, what happened so far. -/
structure PSt (b : List Int) (kB : Nat) (H : Hp) (nx : Nat) (w : Wo) (kN : Nat) (f : Nat → Nat) (kE : Nat) (evs : List (List AC)) : Prop where
  rd : H 0 = some (rdO b)
  res : H 33 = some (.cells [cI 0, .e0, .e0, cI 0])
  box : H kB = some (.cells (wvC w kN f))
  wat : WAt H nx w kN f
  inv : WInv w
  ev : H kE = some (.arr ty_impl_Event 8 evs)
  ke : kE < nx
  ok : ∀ x, x ∈ evs → x.all clC = true
  b1 : 33 < kB
  b2 : kB < nx
section
variable {b : List Int} {kB : Nat} {H : Hp} {nx : Nat} {w : Wo} {kN : Nat} {f : Nat → Nat} {kE : Nat} {evs : List (List AC)} (h : PSt b kB H nx w kN f kE evs)
include h
theorem PSt.nE : kN ≠ kE := fun e => by
  have h1 := h.wat.arr
  rw [e, h.ev] at h1
  have h2 := (Ob.arr.inj (Option.some.inj h1)).1
  exact absurd h2 (by decide)
theorem PSt.fE {j : Nat} (hj : j < 5) : f j ≠ kE := fun e => by
  have h1 := h.wat.tok j hj
  rw [e, h.ev] at h1; cases h1
theorem PSt.e0 : kE ≠ 0 ∧ kE ≠ 33 ∧ kE ≠ kB := ⟨(fun e => by have h1 := h.ev; rw [e, h.rd] at h1; cases h1), (fun e => by have h1 := h.ev; rw [e, h.res] at h1; cases h1), (fun e => by have h1 := h.ev; rw [e, h.box] at h1; cases h1)⟩
theorem PSt.n0 : kN ≠ 0 ∧ kN ≠ 33 ∧ kN ≠ kB := ⟨(fun e => by have h1 := h.wat.arr; rw [e, h.rd] at h1; cases h1), (fun e => by have h1 := h.wat.arr; rw [e, h.res] at h1; cases h1), (fun e => by have h1 := h.wat.arr; rw [e, h.box] at h1; cases h1)⟩
theorem PSt.f0 {j : Nat} (hj : j < 5) : f j ≠ 0 ∧ f j ≠ 33 ∧ f j ≠ kB := ⟨(fun e => by have h1 := h.wat.tok j hj; rw [e, h.rd] at h1; cases h1), (fun e => by have h1 := h.wat.tok j hj; rw [e, h.res] at h1; cases h1), (fun e => by have h1 := h.wat.tok j hj; rw [e, h.box] at h1; cases h1)⟩
theorem PSt.keep {H' : Hp} {nx' : Nat} (hle : nx ≤ nx') (hk : ∀ k, k < nx → H' k = H k) : PSt b kB H' nx' w kN f kE evs :=
  have hb := h.b2
  have hb1 := h.b1
  ⟨by rw [hk 0 (by omega)]; exact h.rd, by rw [hk 33 (by omega)]; exact h.res, by rw [hk kB hb]; exact h.box, h.wat.keep hle hk, h.inv, by rw [hk kE h.ke]; exact h.ev, Nat.lt_of_lt_of_le h.ke hle, h.ok, h.b1, Nat.lt_of_lt_of_le h.b2 hle⟩
/-- The world still lies there when what happens was noted. -/
theorem PSt.wat2 {H' : Hp} {nx' : Nat} (hle : nx ≤ nx') (hk : ∀ k, k < nx → k ≠ kE → H' k = H k) : WAt H' nx' w kN f :=
  h.wat.keepN hle (hk _ h.wat.kn h.nE) fun j hj => hk _ (h.wat.fn j hj) (h.fE hj)
theorem PSt.next {Hc H'' : Hp} {nm nx' : Nat} {w' : Wo} {f' : Nat → Nat} {kE' : Nat} {x : List AC} (hk : ∀ k, k < nx → k ≠ kE → Hc k = H k) (hE : Hc kE' = some (.arr ty_impl_Event 8 (evs ++ [x]))) (h1 : nx ≤ kE') (h2 : kE' < nm) (hx : x.all clC = true) (hI : WInv w')
    (hW : WAt H'' (nm + 16) w' kN f') (hf : ∀ k, k ≠ kN → (∀ j, j < 5 → k ≠ f j) → k < nm → H'' k = Hc k) (hle : nm + 16 ≤ nx') : PSt b kB (hupd kB (some (.cells (wvC w' kN f'))) H'') nx' w' kN f' kE' (evs ++ [x]) := by
  have hb1 := h.b1
  have hb2 := h.b2
  obtain ⟨e1, e2, e3⟩ := h.e0
  obtain ⟨n1, n2, n3⟩ := h.n0
  have hH : ∀ k, k < nx → k ≠ kE → k ≠ kN → (∀ j, j < 5 → k ≠ f j) → H'' k = H k := fun k a1 a2 a3 a4 => by rw [hf k a3 a4 (by omega), hk k a1 a2]
  have hB : H'' kB = some (.cells (wvC w kN f)) := by rw [hH kB hb2 (Ne.symm e3) (Ne.symm n3) (fun j hj => (h.f0 hj).2.2.symm)]; exact h.box
  refine ⟨?_, ?_, hupd_at, ?_, hI, ?_, by omega, ?_, h.b1, by omega⟩
  · rw [hupd_ne (by omega), hH 0 (by omega) (Ne.symm e1) (Ne.symm n1) (fun j hj => (h.f0 hj).1.symm)]; exact h.rd
  · rw [hupd_ne (by omega), hH 33 (by omega) (Ne.symm e2) (Ne.symm n2) (fun j hj => (h.f0 hj).2.1.symm)]; exact h.res
  · exact (hW.box hB).keep hle (fun k _ => rfl)
  · have := h.wat.kn
    rw [hupd_ne (by omega), hf kE' (by omega) (fun j hj => by have := h.wat.fn j hj; omega) h2]; exact hE
  · intro y hy
    rcases List.mem_append.1 hy with g | g
    · exact h.ok y g
    · rw [List.mem_singleton.1 g]; exact hx
theorem okE : okOb noN (.arr ty_impl_Event 8 evs) := by
  intro x hx c hc
  have := h.ok x hx
  rw [List.all_eq_true] at this
  have := this c hc
  cases c <;> first | trivial | cases this
end
section
variable {P : Program} {g : Nat} {S : MSpec} {fr : Env} {H : Hp} {nm nx rm rm' lim : Nat} {K : KV} {xs : List (X × List (Option Nat))} {res : List Rs} {post : AV → List (Option Ob) → Prop}
theorem mq_nW {bad : Int} (hv : ValidM P g S_spec_WorldNew) (hl : rm ≤ LIM) (hb : In bad 0 4) (ha : nrmArgs fr xs = [I bad]) (hK : ∀ H', WAt H' (nm + 16) (newW bad) nm (fun j => nm + 1 + j) → (∀ k, k < nm → H' k = H k) → K (.tup [.g (wvC (newW bad) nm (fun j => nm + 1 + j)), .o (cB true)]) H' rm) : MQ P nm fr H rm K g S_spec_WorldNew xs := by
  have e : ∀ i, i < 6 → nmapS 0 [] nm i = nm + i := fun i hi => by unfold nmapS; simp; omega
  refine ⟨⟨hv, hl, [], [I bad], [], by simp, rfl, fun i k' h => by simp at h, by rw [ha]; rfl, ⟨bad, rfl, rfl, hb⟩, fun r obs' hp _ _ => ?_⟩⟩
  obtain ⟨rfl, rfl⟩ := K_spec_WorldNew hp
  show K (.tup [.g (wvC (newW bad) (nmapS 0 [] nm 0) (fun j => nmapS 0 [] nm (stdF j))), .o (cB true)]) (hput (nmapS 0 [] nm) 0 ((obsW (newW bad)).map some) H) _
  have ew : wvC (newW bad) (nmapS 0 [] nm 0) (fun j => nmapS 0 [] nm (stdF j)) = wvC (newW bad) nm (fun j => nm + 1 + j) := by
    show [cI 0, AC.ow (nmapS 0 [] nm 0), tkC (nmapS 0 [] nm 1) [], cI bad] = [cI 0, AC.ow nm, tkC (nm + 1 + 0) [], cI bad]
    rw [e 0 (by omega), e 1 (by omega)]; rfl
  rw [ew]
  have hin : ∀ {i j : Nat}, i < 6 → j < 6 → nmapS 0 [] nm i = nmapS 0 [] nm j → i = j := fun hi hj h => by rw [e _ hi, e _ hj] at h; omega
  obtain ⟨g1, g2⟩ := hput_at (nmapS 0 [] nm) ((obsW (newW bad)).map some) 0 H (fun j j' _ h2 _ h4 h => hin (by simpa [obsW] using h2) (by simpa [obsW] using h4) h)
  have g1' : ∀ (j : Nat) ob, j < 6 → ((obsW (newW bad)).map some)[j]? = some ob → hput (nmapS 0 [] nm) 0 ((obsW (newW bad)).map some) H (nm + j) = ob.map (Ob.ren (nmapS 0 [] nm)) := fun j ob hj h => by have := g1 j ob h; rwa [Nat.zero_add, e j hj] at this
  refine hK _ ⟨?_, fun j hj => ?_, fun i j _ _ h => by omega, by omega, fun j hj => by show nm + 1 + j < _; omega, rfl⟩ (fun k hk => g2 k fun j _ _ => nmapS_out (by simp) hk)
  · have := g1' 0 _ (by omega) rfl
    rw [Nat.add_zero] at this
    rw [this]
    show some ((arrK stdF (newW bad).nodes).ren _) = _
    rw [arrK_ren, arrK_congr (f := fun j => nmapS 0 [] nm (stdF j)) (h := fun j => nm + 1 + j) (ns := (newW bad).nodes) rfl fun j hj => (e (j + 1) (by omega)).trans (by omega : nm + (j + 1) = nm + 1 + j)]
  · have := g1' (j + 1) (some (tokO (lst (newW bad) j))) (by omega) (by
      match j, hj with
      | 0, _ => rfl
      | 1, _ => rfl
      | 2, _ => rfl
      | 3, _ => rfl
      | 4, _ => rfl)
    rw [show nm + (j + 1) = nm + 1 + j by omega] at this
    exact this
end
end Av
end Go.Proofs.Ytfijfccgghhkoaa

