/- Texts of the layer, joined. -/
import Derived.Test.YtlbdoamidblkaaaJ36
set_option linter.unusedVariables false
set_option linter.unusedSimpArgs false
namespace Go.Proofs.Ytlbdoamidblkaaa
namespace Av
open Go.RowKit
theorem WAt.keepN {H H' : Hp} {nx nx' : Nat} {w : Wo} {kN : Nat} {f : Nat → Nat} (h : WAt H nx w kN f) (hle : nx ≤ nx') (h1 : H' kN = H kN) (h2 : ∀ j, j < 5 → H' (f j) = H (f j)) : WAt H' nx' w kN f :=
  ⟨by rw [h1]; exact h.arr, fun j hj => by rw [h2 j hj]; exact h.tok j hj, h.inj, Nat.lt_of_lt_of_le h.kn hle, fun j hj => Nat.lt_of_lt_of_le (h.fn j hj) hle, h.len⟩
/-- What a play has in memory: the reader, the world in its variable, what happened so far. -/
structure PSt (b : List Int) (kB : Nat) (H : Hp) (nx : Nat) (w : Wo) (kN : Nat) (f : Nat → Nat) (kE : Nat) (evs : List (List AC)) : Prop where
  rd : H 0 = some (rdO b)
  res : H 33 = some (.cells [cI 0, .e0, .e0, cI 0])
  box : H kB = some (.cells (wvC w kN f))
  wat : WAt H nx w kN f
  inv : WInv w
  ev : H kE = some (.arr ty_impl_Event 8 evs)
  ke : kE < nx
  ok : EvL evs
  b1 : 33 < kB
  b2 : kB < nx
section
variable {b : List Int} {kB : Nat} {H : Hp} {nx : Nat} {w : Wo} {kN : Nat} {f : Nat → Nat} {kE : Nat} {evs : List (List AC)} (h : PSt b kB H nx w kN f kE evs)
include h
theorem PSt.nE : kN ≠ kE := fun e => by
  have h1 := h.wat.arr
  rw [e, h.ev] at h1
  have h2 := (Ob.arr.inj (Option.some.inj h1)).1
  exact absurd h2 (by decide)
theorem PSt.fE {j : Nat} (hj : j < 5) : f j ≠ kE := fun e => by
  have h1 := h.wat.tok j hj
  rw [e, h.ev] at h1; cases h1
theorem PSt.e0 : kE ≠ 0 ∧ kE ≠ 33 ∧ kE ≠ kB := ⟨(fun e => by have h1 := h.ev; rw [e, h.rd] at h1; cases h1), (fun e => by have h1 := h.ev; rw [e, h.res] at h1; cases h1), (fun e => by have h1 := h.ev; rw [e, h.box] at h1; cases h1)⟩
theorem PSt.n0 : kN ≠ 0 ∧ kN ≠ 33 ∧ kN ≠ kB := ⟨(fun e => by have h1 := h.wat.arr; rw [e, h.rd] at h1; cases h1), (fun e => by have h1 := h.wat.arr; rw [e, h.res] at h1; cases h1), (fun e => by have h1 := h.wat.arr; rw [e, h.box] at h1; cases h1)⟩
theorem PSt.f0 {j : Nat} (hj : j < 5) : f j ≠ 0 ∧ f j ≠ 33 ∧ f j ≠ kB := ⟨(fun e => by have h1 := h.wat.tok j hj; rw [e, h.rd] at h1; cases h1), (fun e => by have h1 := h.wat.tok j hj; rw [e, h.res] at h1; cases h1), (fun e => by have h1 := h.wat.tok j hj; rw [e, h.box] at h1; cases h1)⟩
theorem PSt.keep {H' : Hp} {nx' : Nat} (hle : nx ≤ nx') (hk : ∀ k, k < nx → H' k = H k) : PSt b kB H' nx' w kN f kE evs :=
  have hb := h.b2
  have hb1 := h.b1
  ⟨by rw [hk 0 (by omega)]; exact h.rd, by rw [hk 33 (by omega)]; exact h.res, by rw [hk kB hb]; exact h.box, h.wat.keep hle hk, h.inv, by rw [hk kE h.ke]; exact h.ev, Nat.lt_of_lt_of_le h.ke hle, h.ok, h.b1, Nat.lt_of_lt_of_le h.b2 hle⟩
/-- The world still lies there when what happens was noted. -/
theorem PSt.wat2 {H' : Hp} {nx' : Nat} (hle : nx ≤ nx') (hk : ∀ k, k < nx → k ≠ kE → H' k = H k) : WAt H' nx' w kN f :=
  h.wat.keepN hle (hk _ h.wat.kn h.nE) fun j hj => hk _ (h.wat.fn j hj) (h.fE hj)
theorem PSt.next {Hc H'' : Hp} {nm nx' : Nat} {w' : Wo} {f' : Nat → Nat} {kE' : Nat} {x : List AC} (hk : ∀ k, k < nx → k ≠ kE → Hc k = H k) (hE : Hc kE' = some (.arr ty_impl_Event 8 (evs ++ [x]))) (h1 : nx ≤ kE') (h2 : kE' < nm) (hx : ∃ e : Ev, EvC x e ∧ e.v.c.length ≤ 17) (hI : WInv w')
    (hW : WAt H'' (nm + 16) w' kN f') (hf : ∀ k, k ≠ kN → (∀ j, j < 5 → k ≠ f j) → k < nm → H'' k = Hc k) (hle : nm + 16 ≤ nx') : PSt b kB (hupd kB (some (.cells (wvC w' kN f'))) H'') nx' w' kN f' kE' (evs ++ [x]) := by
  have hb1 := h.b1
  have hb2 := h.b2
  obtain ⟨e1, e2, e3⟩ := h.e0
  obtain ⟨n1, n2, n3⟩ := h.n0
  have hH : ∀ k, k < nx → k ≠ kE → k ≠ kN → (∀ j, j < 5 → k ≠ f j) → H'' k = H k := fun k a1 a2 a3 a4 => by rw [hf k a3 a4 (by omega), hk k a1 a2]
  have hB : H'' kB = some (.cells (wvC w kN f)) := by rw [hH kB hb2 (Ne.symm e3) (Ne.symm n3) (fun j hj => (h.f0 hj).2.2.symm)]; exact h.box
  refine ⟨?_, ?_, hupd_at, ?_, hI, ?_, by omega, ?_, h.b1, by omega⟩
  · rw [hupd_ne (by omega), hH 0 (by omega) (Ne.symm e1) (Ne.symm n1) (fun j hj => (h.f0 hj).1.symm)]; exact h.rd
  · rw [hupd_ne (by omega), hH 33 (by omega) (Ne.symm e2) (Ne.symm n2) (fun j hj => (h.f0 hj).2.1.symm)]; exact h.res
  · exact (hW.box hB).keep hle (fun k _ => rfl)
  · have := h.wat.kn
    rw [hupd_ne (by omega), hf kE' (by omega) (fun j hj => by have := h.wat.fn j hj; omega) h2]; exact hE
  · intro y hy
    rcases List.mem_append.1 hy with g | g
    · exact h.ok y g
    · rw [List.mem_singleton.1 g]; exact hx
end
section
variable {P : Program} {g : Nat} {S : MSpec} {fr : Env} {H : Hp} {nm nx rm rm' lim : Nat} {K : KV} {xs : List (X × List (Option Nat))} {res : List Rs} {post : AV → List (Option Ob) → Prop}
theorem mq_nW {bad : Int} (hv : ValidM P g S_spec_WorldNew) (hl : rm ≤ LIM) (hb : In bad 0 4) (ha : nrmArgs fr xs = [I bad]) (hK : ∀ H', WAt H' (nm + 16) (newW bad) nm (fun j => nm + 1 + j) → (∀ k, k < nm → H' k = H k) → K (.tup [.g (wvC (newW bad) nm (fun j => nm + 1 + j)), .o (cB true)]) H' rm) : MQ P nm fr H rm K g S_spec_WorldNew xs := by
  have e : ∀ i, i < 6 → nmapS 0 [] nm i = nm + i := fun i hi => by unfold nmapS; simp; omega
  refine ⟨⟨hv, hl, [], [I bad], [], by simp, rfl, fun i k' h => by simp at h, by rw [ha]; rfl, ⟨bad, rfl, rfl, hb⟩, fun r obs' hp _ _ => ?_⟩⟩
  obtain ⟨rfl, rfl⟩ := K_spec_WorldNew hp
  show K (.tup [.g (wvC (newW bad) (nmapS 0 [] nm 0) (fun j => nmapS 0 [] nm (stdF j))), .o (cB true)]) (hput (nmapS 0 [] nm) 0 ((obsW (newW bad)).map some) H) _
  have ew : wvC (newW bad) (nmapS 0 [] nm 0) (fun j => nmapS 0 [] nm (stdF j)) = wvC (newW bad) nm (fun j => nm + 1 + j) := by
    show [cI 0, AC.ow (nmapS 0 [] nm 0), tkC (nmapS 0 [] nm 1) [], cI bad] = [cI 0, AC.ow nm, tkC (nm + 1 + 0) [], cI bad]
    rw [e 0 (by omega), e 1 (by omega)]; rfl
  rw [ew]
  have hin : ∀ {i j : Nat}, i < 6 → j < 6 → nmapS 0 [] nm i = nmapS 0 [] nm j → i = j := fun hi hj h => by rw [e _ hi, e _ hj] at h; omega
  obtain ⟨g1, g2⟩ := hput_at (nmapS 0 [] nm) ((obsW (newW bad)).map some) 0 H (fun j j' _ h2 _ h4 h => hin (by simpa [obsW] using h2) (by simpa [obsW] using h4) h)
  have g1' : ∀ (j : Nat) ob, j < 6 → ((obsW (newW bad)).map some)[j]? = some ob → hput (nmapS 0 [] nm) 0 ((obsW (newW bad)).map some) H (nm + j) = ob.map (Ob.ren (nmapS 0 [] nm)) := fun j ob hj h => by have := g1 j ob h; rwa [Nat.zero_add, e j hj] at this
  refine hK _ ⟨?_, fun j hj => ?_, fun i j _ _ h => by omega, by omega, fun j hj => by show nm + 1 + j < _; omega, rfl⟩ (fun k hk => g2 k fun j _ _ => nmapS_out (by simp) hk)
  · have := g1' 0 _ (by omega) rfl
    rw [Nat.add_zero] at this
    rw [this]
    show some ((arrK stdF (newW bad).nodes).ren _) = _
    rw [arrK_ren, arrK_congr (f := fun j => nmapS 0 [] nm (stdF j)) (h := fun j => nm + 1 + j) (ns := (newW bad).nodes) rfl fun j hj => (e (j + 1) (by omega)).trans (by omega : nm + (j + 1) = nm + 1 + j)]
  · have := g1' (j + 1) (some (tokO (lst (newW bad) j))) (by omega) (by
      match j, hj with
      | 0, _ => rfl
      | 1, _ => rfl
      | 2, _ => rfl
      | 3, _ => rfl
      | 4, _ => rfl)
    rw [show nm + (j + 1) = nm + 1 + j by omega] at this
    exact this
end
end Av
end Go.Proofs.Ytlbdoamidblkaaa

namespace Go.Proofs.Ytlbdoamidblkaaa
namespace Av
open Go.RowKit
attribute [local irreducible] Valid ValidM
noncomputable def lp2 : A := (.loop
 (.seq
 (.seq
 (.rg [⟨some 99, none, .mv (.t 8)⟩,
   ⟨some 100, none, .len (.t 99)⟩,
   ⟨some 101, none, .bin 0 .lss (.t 100) (.k (.int .i64 69))⟩,
   ⟨some 102, none, .mv (.t 101)⟩,
   ⟨some 103, some (102, true), .mv (.t 0)⟩,
   ⟨some 104, some (102, true), .call n_spec_l6Rd_pick S_spec_l6Rd_pick [(.t 103, []), (.k (.int .i64 40), [])]⟩,
   ⟨some 105, some (102, true), .bin 0 .gtr (.t 104) (.k (.int .i64 0))⟩,
   ⟨some 106, none, .pick (.t 102) (.t 105) (.k (.bool false))⟩])
 (.cond (.t 106)
 .skip
 (.exit 8)))
 (.block 9
 (.seq
 (.rg [⟨some 107, none, .mv (.t 0)⟩,
   ⟨some 108, none, .load (some 4) (.t 6)⟩,
   ⟨some 109, none, .callm n_spec_l72Event S_spec_l72Event [(.t 107, []), (.t 108, [none, some 4, some 2])]⟩,
   ⟨some 16, none, .alloc [.int .i64 0, .int .i64 0, .int .i64 0, .int .i64 0, .int .i64 0, .int .i64 0, .int .i64 0, .slice none 0 0]⟩,
   ⟨none, none, .store 8 (.t 16) (.t 109)⟩])
 (.seq
 (.rg [⟨some 110, none, .mv (.t 8)⟩,
   ⟨some 111, none, .load (some 8) (.t 16)⟩,
   ⟨some 112, none, .bsl 65 8 [.t 111]⟩,
   ⟨some 113, none, .app 65 8 80 [.int .i64 0, .int .i64 0, .int .i64 0, .int .i64 0, .int .i64 0, .int .i64 0, .int .i64 0, .slice none 0 0] (.t 110) (.t 112)⟩,
   ⟨some 8, none, .mv (.t 113)⟩])
 (.rg [⟨some 114, none, .load (some 4) (.t 6)⟩,
   ⟨some 115, none, .load (some 8) (.t 16)⟩,
   ⟨some 116, none, .callm n_spec_l21Do S_spec_l21Do [(.t 114, [none, some 4, some 2]), (.t 115, [none, none, none, none, none, none, none, some 4])]⟩,
   ⟨none, none, .store 4 (.t 6) (.t 116)⟩]))))))
set_option maxHeartbeats 4000000 in
set_option maxRecDepth 100000 in
theorem lp2_ok {b : List Int} {bad : Int} {Q : Post} {fr : Env} {H : Hp} {nx rm0 rm : Nat} {w : Wo} {kN : Nat} {f : Nat → Nat} {kE : Nat} {evs : List (List AC)} (hrd : RdOk b) (hP : PSt b 177 H nx w kN f kE evs) (hfr : Has fr [(0, pt0), (4, .w (.o (.ptr 33 0))), (5, I bad), (6, .w (.o (.ptr 177 0))), (8, .w (.o (.ow kE)))]) (hlen : evs.length ≤ 40) (hrm : rm ≤ rm0) (hlim0 : rm0 + 29000 ≤ LIM)
    (hQ : ∀ fr' H' nx' rm' w' kN' f' kE' evs', Has fr' [(0, pt0), (4, .w (.o (.ptr 33 0))), (5, I bad), (6, .w (.o (.ptr 177 0))), (8, .w (.o (.ow kE')))] → PSt b 177 H' nx' w' kN' f' kE' evs' → evs'.length ≤ 69 → rm' ≤ rm0 + 25000 → Q (.exit 8) fr' H' nx' rm') : swp Try.prog lp2 Q fr H nx rm := by
  have cc_spec_l6Rd_pick : S_spec_l6Rd_pick.cost = 1 := rfl
  have c2 : S_spec_l72Event.cost = 300 := rfl
  have s2 : S_spec_l21Do.st = 0 := rfl
  have s3 : S_spec_l72Event.st = 0 := rfl
  have c3 : S_spec_l21Do.cost = 0 := rfl
  conv => whnf
  refine ⟨fun fr H nx rm' => ∃ (w : Wo) (kN : Nat) (f : Nat → Nat) (kE : Nat) (evs : List (List AC)), Has fr [(0, pt0), (4, .w (.o (.ptr 33 0))), (5, I bad), (6, .w (.o (.ptr 177 0))), (8, .w (.o (.ow kE)))] ∧ PSt b 177 H nx w kN f kE evs ∧ evs.length ≤ 69 ∧ rm' ≤ rm0 + 200 + 310 * evs.length,
    fun _ _ _ rm' => rm0 + 30000 - rm', ⟨w, kN, f, kE, evs, hfr, hP, by omega, by omega⟩, ?_⟩
  clear hP hfr hlen hrm
  rintro fr H nx rm' ⟨w, kN, f, kE, evs, hfr, hP, hlen, hrm⟩
  rw [hfr.eq]
  obtain ⟨hE0, hE33, hE177⟩ := hP.e0
  have hEk := hP.ke
  have hEv := hP.ev
  have hBx := hP.box
  have hRd : H 0 = some (.rd (byF b)) := hP.rd
  have hRs := hP.res
  have hNx := hP.b2
  by_cases h9 : evs.length < 69
  · skip
    repeat' ((conv => whnf); first
      | refine ⟨rfl, ?_⟩
      | refine ⟨_, ldc_cells (by first | assumption | exact zk ‹_› (by omega) | exact zk (zk ‹_› (by omega)) (by omega)) (Nat.le_of_ble_eq_true rfl), ?_⟩
      | refine ⟨_, _, _, ((by exact hk_) : (_ : Option Ob) = _), ?_⟩
      | (refine ⟨fun hc => ?_, fun hc => ?_⟩ <;> (try simp (disch := omega) only [List.length_map, wrap64] at hc) <;> (try (exfalso; first | contradiction | omega)))
      | (refine callrd (by exact hk_) rfl rfl ⟨(_, _), rfl, (by exact pr_)⟩ v_spec_l6Rd_pick (by omega) (fun r hr => ?_); have hj := K_spec_l6Rd_pick (a := (_, _)) hr; clear hr; obtain ⟨k, rfl, hk0, hk1⟩ := hj; dsimp only at hk1; (try simp (disch := omega) only [List.length_map, ncast, wrap64] at hk1))
      | fail)
    · refine mq_WR (w := w) (kN := kN) (kr := 0) (f := f) (b := b) (Q := QEvent) v_spec_l72Event (by omega) (hP.wat.keep (by omega) (fun k hk => by (repeat (refine (hupd_ne (by omega)).trans ?_)); rfl)) hk_ (by omega) rfl ⟨(w, b), rfl, rfl, hP.inv, hrd⟩ (fun r obs' h => mkR2_post h) (fun r hq ρ => by obtain ⟨v, rfl, _⟩ := hq; exact agg_ren) (fun r ⟨e, hr, he⟩ => ?_)
      subst hr
      have hFE : FitV e.v := Nat.le_trans he (by decide)
      have hlim : rm' + S_spec_l6Rd_pick.cost + S_spec_l72Event.cost ≤ LIM := by omega
      repeat' ((conv => whnf); first
        | refine ⟨_, ldc_cells hk_ (Nat.le_of_ble_eq_true rfl), ?_⟩
        | refine ⟨_, news_ow hupd_at, newsz_ow hupd_at, _, (hk_ : (_ : Option Ob) = _), (by simp only [List.length_cons, List.length_nil]; omega), ?_⟩
        | refine ⟨_, _, hupd_at, rfl, rfl, Nat.le_of_ble_eq_true rfl, ?_⟩
        | fail)
      refine mq_W (w := w) (w' := doW w ((e : Ev))) (kN := kN) (f := f) v_spec_l21Do rfl hlim (hP.wat2 (by omega) (fun k h1 h2 => by (repeat (refine (hupd_ne (by omega)).trans ?_)); rfl)) ((doW_inv hP.inv).2.2.1) rfl (fun _ => rfl) ⟨(w, (e : Ev)), rfl, rfl, hP.inv, hFE⟩ (fun r obs' h => K_spec_l21Do h) (fun f' H'' hW' hT' hK' => ?_)
      have hB2 : H'' 177 = some (.cells (wvC w kN f)) := (hK' 177 (Ne.symm hP.n0.2.2) (fun j hj => (hP.f0 hj).2.2.symm) (by omega)).trans hk_
      repeat' ((conv => whnf); first
        | (refine ⟨?_, _, (?_ : (_ : Option Ob) = _), rfl, rfl, ?_, ?_⟩; rotate_left; (exact hk_); exact Nat.le_of_ble_eq_true rfl)
        | fail)
      refine ⟨⟨_, kN, f', _, _, ⟨rfl, rfl, rfl, rfl, rfl, trivial⟩, hP.next (x := ((evF e).map AC.c)) (fun k h1 h2 => by (repeat (refine (hupd_ne (by omega)).trans ?_)); rfl) hk_ (by omega) (by omega) (by first | exact ⟨_, .inl rfl, (by assumption)⟩ | exact ⟨⟨_, _, _, ⟨_, _, _⟩, ⟨_, []⟩⟩, .inr ⟨rfl, rfl⟩, Nat.zero_le _⟩) (doW_inv hP.inv) hW' hK' (by omega), (by simp only [List.length_append, List.length_cons, List.length_nil]; omega), (by simp only [List.length_append, List.length_cons, List.length_nil]; omega)⟩, ?_⟩
      show rm0 + 30000 - (rm' + S_spec_l6Rd_pick.cost + S_spec_l72Event.cost + S_spec_l21Do.cost) < rm0 + 30000 - rm'
      omega
    · exact hQ _ _ _ _ _ _ _ _ _ ⟨rfl, rfl, rfl, rfl, rfl, trivial⟩ (hP.keep (by omega) (fun k hk => rfl)) (by omega) (by omega)
  · skip
    repeat' ((conv => whnf); first
      | refine ⟨rfl, ?_⟩
      | refine ⟨_, _, _, ((by exact hk_) : (_ : Option Ob) = _), ?_⟩
      | (refine ⟨fun hc => ?_, fun hc => ?_⟩ <;> (try simp (disch := omega) only [List.length_map, wrap64] at hc) <;> (try (exfalso; first | contradiction | omega)))
      | fail)
    exact hQ _ _ _ _ _ _ _ _ _ ⟨rfl, rfl, rfl, rfl, rfl, trivial⟩ (hP.keep (by omega) (fun k hk => rfl)) (by omega) (by omega)
end Av
end Go.Proofs.Ytlbdoamidblkaaa

