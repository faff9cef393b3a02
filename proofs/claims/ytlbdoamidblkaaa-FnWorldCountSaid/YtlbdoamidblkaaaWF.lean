/- The walks: the reference plays; plays drawn. -/
import Derived.Test.YtlbdoamidblkaaaWB
import Derived.Test.YtlbdoamidblkaaaJ40
import Derived.Test.YtlbdoamidblkaaaZN
set_option linter.unusedVariables false
set_option linter.unusedSimpArgs false
namespace Go.Proofs.Ytlbdoamidblkaaa
namespace Av
open Go.RowKit
section
variable {P : Program} {g : Nat} {S : MSpec} {fr : Env} {H : Hp} {nm nx rm rm' lim : Nat} {K : KV} {xs : List (X × List (Option Nat))} {res : List Rs} {post : AV → List (Option Ob) → Prop}
theorem mq_nWs {bad : Int} (hv : ValidM P g S_spec_WorldNew_s) (hl : rm ≤ LIM) (hb : In bad 0 4) (ha : nrmArgs fr xs = [I bad]) (hK : ∀ H', WAt H' (nm + 16) (newW bad) nm (fun j => nm + 1 + j) → (∀ k, k < nm → H' k = H k) → K (.tup [.g (wvC (newW bad) nm (fun j => nm + 1 + j)), .o (cB true)]) H' rm) : MQ P nm fr H rm K g S_spec_WorldNew_s xs := by
  have e : ∀ i, i < 6 → nmapS 0 [] nm i = nm + i := fun i hi => by unfold nmapS; simp; omega
  refine ⟨⟨hv, hl, [], [I bad], [], by simp, rfl, fun i k' h => by simp at h, by rw [ha]; rfl, ⟨bad, rfl, rfl, trivial⟩, fun r obs' hp _ _ => ?_⟩⟩
  rcases K_spec_WorldNew_s hp with ⟨_, rfl, rfl⟩ | ⟨hn, _⟩
  rotate_left
  · exact absurd hb hn
  show K (.tup [.g (wvC (newW bad) (nmapS 0 [] nm 0) (fun j => nmapS 0 [] nm (stdF j))), .o (cB true)]) (hput (nmapS 0 [] nm) 0 ((obsW (newW bad)).map some) H) _
  have ew : wvC (newW bad) (nmapS 0 [] nm 0) (fun j => nmapS 0 [] nm (stdF j)) = wvC (newW bad) nm (fun j => nm + 1 + j) := by
    show [cI 0, AC.ow (nmapS 0 [] nm 0), tkC (nmapS 0 [] nm 1) [], cI bad] = [cI 0, AC.ow nm, tkC (nm + 1 + 0) [], cI bad]
    rw [e 0 (by omega), e 1 (by omega)]; rfl
  rw [ew]
  have hin : ∀ {i j : Nat}, i < 6 → j < 6 → nmapS 0 [] nm i = nmapS 0 [] nm j → i = j := fun hi hj h => by rw [e _ hi, e _ hj] at h; omega
  obtain ⟨g1, g2⟩ := hput_at (nmapS 0 [] nm) ((obsW (newW bad)).map some) 0 H (fun j j' _ h2 _ h4 h => hin (by simpa [obsW] using h2) (by simpa [obsW] using h4) h)
  have g1' : ∀ (j : Nat) ob, j < 6 → ((obsW (newW bad)).map some)[j]? = some ob → hput (nmapS 0 [] nm) 0 ((obsW (newW bad)).map some) H (nm + j) = ob.map (Ob.ren (nmapS 0 [] nm)) := fun j ob hj h => by have := g1 j ob h; rwa [Nat.zero_add, e j hj] at this
  refine hK _ ⟨?_, fun j hj => ?_, fun i j _ _ h => by omega, by omega, fun j hj => by show nm + 1 + j < _; omega, rfl⟩ (fun k hk => g2 k fun j _ _ => nmapS_out (by simp) hk)
  · have := g1' 0 _ (by omega) rfl
    rw [Nat.add_zero] at this
    rw [this]
    show some ((arrK stdF (newW bad).nodes).ren _) = _
    rw [arrK_ren, arrK_congr (f := fun j => nmapS 0 [] nm (stdF j)) (h := fun j => nm + 1 + j) (ns := (newW bad).nodes) rfl fun j hj => (e (j + 1) (by omega)).trans (by omega : nm + (j + 1) = nm + 1 + j)]
  · have := g1' (j + 1) (some (tokO (lst (newW bad) j))) (by omega) (by
      match j, hj with
      | 0, _ => rfl
      | 1, _ => rfl
      | 2, _ => rfl
      | 3, _ => rfl
      | 4, _ => rfl)
    rw [show nm + (j + 1) = nm + 1 + j by omega] at this
    exact this
theorem mq_nWn {bad : Int} (hv : ValidM P g S_spec_WorldNew_s) (hl : rm ≤ LIM) (hb : ¬ In bad 0 4) (ha : nrmArgs fr xs = [I bad]) (hK : K (.tup [.g [cI 0, .e0, .e0, cI 0], .o (cB false)]) H rm) : MQ P nm fr H rm K g S_spec_WorldNew_s xs := by
  refine ⟨⟨hv, hl, [], [I bad], [], by simp, rfl, fun i k' h => by simp at h, by rw [ha]; rfl, ⟨bad, rfl, rfl, trivial⟩, fun r obs' hp _ _ => ?_⟩⟩
  rcases K_spec_WorldNew_s hp with ⟨h, _⟩ | ⟨_, rfl, rfl⟩
  · exact absurd h hb
  · exact hK
end
theorem WAt.off {H : Hp} {nx : Nat} {w : Wo} {kN : Nat} {f : Nat → Nat} (h : WAt H nx w kN f) {k : Nat} {o : Option Ob} (hk : H k = o) (ho : (∃ cs, o = some (.cells cs)) ∨ o = none ∨ ∃ b, o = some (.rd b)) : k ≠ kN ∧ ∀ j, j < 5 → k ≠ f j := by
  refine ⟨fun e => ?_, fun j hj e => ?_⟩
  · rw [e, h.arr] at hk
    rcases ho with ⟨cs, ho⟩ | ho | ⟨b, ho⟩ <;> rw [ho] at hk <;> cases hk
  · rw [e, h.tok j hj] at hk
    rcases ho with ⟨cs, ho⟩ | ho | ⟨b, ho⟩ <;> rw [ho] at hk <;> cases hk
theorem bor_nds {H : Hp} {w : Wo} {kN : Nat} {f : Nat → Nat} (h : H kN = some (arrK f w.nodes)) (hl : w.nodes.length = 4) : bor H (some 4) (.ow kN) = .c (ndsF w.nodes) :=
  (List.cons.inj (List.cons.inj (AW.g.inj (AV.w.inj (bor_W (w := w) (f := f) h hl)))).2).1
def EvR : List (List AC) → List Ev → Prop
  | [], [] => True
  | x :: xs, e :: es => EvC x e ∧ EvR xs es
  | _, _ => False
theorem evR_of : ∀ {evs : List (List AC)}, EvL evs → ∃ es, EvR evs es ∧ es.length = evs.length ∧ ∀ e, e ∈ es → e.v.c.length ≤ 17
  | [], _ => ⟨[], trivial, rfl, fun e h => by cases h⟩
  | x :: xs, h => by
    obtain ⟨e, h1, h2⟩ := h x (List.mem_cons_self ..)
    obtain ⟨es, h3, h4, h5⟩ := evR_of (evs := xs) fun y hy => h y (List.mem_cons_of_mem _ hy)
    refine ⟨e :: es, ⟨h1, h3⟩, by simp [h4], fun d hd => ?_⟩
    rcases List.mem_cons.1 hd with rfl | g
    · exact h2
    · exact h5 d g
theorem evR_f : ∀ {evs : List (List AC)} {es : List Ev} {ys : List (List FV)}, EvR evs es → fcellss evs = some ys → ys = es.map evF
  | [], [], ys, _, h => by cases h; rfl
  | x :: xs, e :: es, ys, hr, h => by
    obtain ⟨h1, h2⟩ := hr
    rcases h1 with rfl | ⟨_, rfl⟩
    · simp only [fcellss, fcells_c, Option.bind_some, Option.map_eq_some_iff] at h
      obtain ⟨zs, h3, rfl⟩ := h
      rw [evR_f h2 h3]; rfl
    · exact absurd h (by simp [fcellss, fcells])
  | [], _ :: _, _, hr, _ => hr.elim
  | _ :: _, [], _, hr, _ => hr.elim
theorem evR_d {H : Hp} : ∀ {evs : List (List AC)} {es : List Ev}, EvR evs es → allO (allO (deep H 3 8)) evs = some (es.map evF)
  | [], [], _ => rfl
  | x :: xs, e :: es, hr => by
    obtain ⟨h1, h2⟩ := hr
    have hx : allO (deep H 3 8) x = some (evF e) := by
      rcases h1 with rfl | ⟨h0, rfl⟩
      · rfl
      · have : evF e = [fI e.k, fI e.a, fI e.b, fI e.p.f, fI e.p.t, fI e.p.s, fI e.v.n, chF []] := by rw [← h0]; rfl
        rw [this]; rfl
    simp only [allO, hx, evR_d h2, Option.bind_some, Option.map_some, List.map_cons]
  | [], _ :: _, hr => hr.elim
  | _ :: _, [], hr => hr.elim
theorem bor_ev {H : Hp} {k T : Nat} {evs : List (List AC)} {es : List Ev} (h : H k = some (.arr T 8 evs)) (hr : EvR evs es) : bor H (some 8) (.ow k) = .c (evsF es) := by
  cases hf : fcellss evs with
  | some ys => simp only [bor, h, hf]; rw [evR_f hr hf]; rfl
  | none => simp only [bor, h, hf, evR_d hr]; rfl
set_option maxHeartbeats 4000000 in
set_option maxRecDepth 100000 in
theorem v_spec_WorldNew_n : ValidM Try.prog n_spec_WorldNew S_spec_WorldNew_n := by
  refine validM_of_swp mixed is_spec_WorldNew (by rintro _ _ ⟨a, rfl, _⟩; exact Nat.le_of_ble_eq_true rfl) ?_
  rintro _ _ rm ⟨i, rfl, rfl, hpre⟩ hl
  change swp _ _ _ _ _ 0 _
  have cc_spec_l6In : S_spec_l6In.cost = 0 := rfl
  repeat' ((conv => whnf); first
    | refine ⟨_, _, hupd_at, rfl, rfl, Nat.le_of_ble_eq_true rfl, ?_⟩
    | (refine callt (b := [I _, I _, I _]) v_spec_l6In rfl ⟨(_, _, _), rfl, (by exact True.intro)⟩ (.inl rfl) (by first | assumption | omega) (fun r hr => K_spec_l6In (a := (_, _, _)) hr) (fun hj => ?_) (fun hj => ?_) <;> (try simp only [etaPa, etaIt, etaVo] at hj) <;> (try contradiction))
    | fail)
  exact ⟨by omega, [], [.g [cI 0, .e0, .e0, cI 0], .o (cB false)], .tup [.g [cI 0, .e0, .e0, cI 0], .o (cB false)], [], ⟨⟨_, rfl, .inl rfl⟩, ⟨_, rfl, .inl rfl⟩, trivial⟩, rfl, ⟨i, rfl, rfl, rfl, rfl⟩, List.nodup_nil, fun i hi => absurd hi (Nat.not_lt_zero i), rfl, fun i k h => by simp at h⟩
theorem v_spec_WorldNew_s : ValidM Try.prog n_spec_WorldNew S_spec_WorldNew_s :=
  validM_split v_spec_WorldNew v_spec_WorldNew_n rfl rfl fun args obs ⟨i, h1, h2, _⟩ => by
    subst h1 h2
    by_cases hb : In i 0 4
    · exact .inl ⟨⟨i, rfl, rfl, hb⟩, fun r o h => ⟨i, rfl, rfl, .inl ⟨hb, K_spec_WorldNew h⟩⟩⟩
    · refine .inr ⟨⟨i, rfl, rfl, hb⟩, fun r o h => ⟨i, rfl, rfl, .inr ⟨hb, ?_⟩⟩⟩
      exact mkN_post (enc := fun i => [I i]) (a := i) (R := fun _ r obs' => r = .tup [.g [cI 0, .e0, .e0, cI 0], .o (cB false)] ∧ obs' = []) (fun _ _ h => by simpa only [List.cons.injEq, and_true, aI_inj] using h) h
attribute [local irreducible] Valid ValidM
set_option maxHeartbeats 4000000 in
set_option maxRecDepth 100000 in
theorem v_spec_WorldPlay : Valid Try.prog n_spec_WorldPlay S_spec_WorldPlay := by
  refine valid_of_swp mixed is_spec_WorldPlay (by rintro _ ⟨a, rfl, _⟩; exact Nat.le_of_ble_eq_true rfl) ?_
  rintro _ rm ⟨⟨bad, es⟩, rfl, hpre⟩ hl
  try dsimp only at hpre
  have hpre0 := hpre
  have hp1 := hpre
  obtain ⟨he1, he2⟩ := id hpre
  have s1 : S_spec_WorldNew_s.st = 0 := rfl
  have c1 : S_spec_WorldNew_s.cost = 0 := rfl
  have s2 : S_spec_l21Do.st = 0 := rfl
  have c2 : S_spec_l21Do.cost = 0 := rfl
  have heL : es.length ≤ LIM := Nat.le_trans he1 (by decide)
  skip
  by_cases hb : In bad 0 4
  · refine mq_nWs v_spec_WorldNew_s (by first | assumption | omega) hb rfl (fun H1 hW1 hF1 => ?_)
    have hs1 : H1 1 = some (.cells [cI 0, .e0, .e0, cI 0]) := (hF1 1 (by omega)).trans hk_
    have hs0 : H1 0 = none := (hF1 0 (by omega)).trans ne_
    by_cases h70 : es.length ≤ 70
    · have e2 : playT bad es = (playW bad es, true) := playT_yes ⟨hb, h70⟩
      have hJ : ∀ i, WJ ((es.take i).foldl doW (newW bad)) := fun i => playW_wj hb (es.take i)
      have hstep : ∀ i e, es[i]? = some e → (es.take (i + 1)).foldl doW (newW bad) = doW ((es.take i).foldl doW (newW bad)) e := fun i e he => by
        rw [List.take_add_one, he, List.foldl_append]; rfl
      repeat' ((conv => whnf); first
        | refine ⟨rfl, ?_⟩
        | refine ⟨_, _, hupd_at, rfl, rfl, Nat.le_of_ble_eq_true rfl, ?_⟩
        | (refine ⟨fun hc => ?_, fun hc => ?_⟩ <;> (try simp (disch := omega) only [List.length_map, wrap64] at hc) <;> (try (exfalso; first | contradiction | omega)))
        | fail)
      conv => whnf
      refine ⟨fun fr H nx rm' => ∃ (i kN : Nat) (f : Nat → Nat), Has fr [(1, one (evsF es)), (4, .w (.o (.ptr 1 0))), (6, .w (.o (.ptr 113 0))), (8, I i)] ∧ i ≤ es.length ∧ 114 ≤ nx ∧ WAt H nx ((es.take i).foldl doW (newW bad)) kN f ∧ H 113 = some (.cells (wvC ((es.take i).foldl doW (newW bad)) kN f)) ∧ H 1 = some (.cells [cI 0, .e0, .e0, cI 0]) ∧ H 0 = none ∧ rm' ≤ rm,
        fun fr _ _ _ => es.length - ix (fr 8), ⟨0, 49, _, ⟨rfl, rfl, rfl, rfl, trivial⟩, Nat.zero_le _, ln_, hW1.keep (by omega) (fun k hk => by (repeat (refine (hupd_ne (by omega)).trans ?_)); rfl), hk_, hk_, ne_, (by omega)⟩, ?_⟩
      clear hW1 hF1 hs1 hs0
      rintro fr H nx rm' ⟨i, kN, f, hfr, hi, hnx, hW, hHB, hH1, hH0, hrm⟩
      rw [hfr.eq]
      obtain ⟨o1, o2⟩ := hW.off hHB (.inl ⟨_, rfl⟩)
      obtain ⟨o3, o4⟩ := hW.off hH1 (.inl ⟨_, rfl⟩)
      obtain ⟨o5, o6⟩ := hW.off hH0 (.inr (.inl rfl))
      have hkn := hW.kn
      rcases Nat.lt_or_ge i es.length with hi' | hi'
      · obtain ⟨e, he⟩ : ∃ e, es[i]? = some e := ⟨_, List.getElem?_eq_getElem hi'⟩
        have hfe : FitV e.v := Nat.le_trans (he2 e (List.mem_of_getElem? he)) (by decide)
        have hst := hstep i e he
        have hJi := (hJ i).inv
        generalize (es.take i).foldl doW (newW bad) = w at *
        repeat' ((conv => whnf); first
          | refine ⟨rfl, i, _, rfl, at_map he, ?_⟩
          | refine ⟨_, ldc_cells hk_ (Nat.le_of_ble_eq_true rfl), ?_⟩
          | refine ⟨_, rfl, ?_⟩
          | refine ⟨rfl, ?_⟩
          | (refine ⟨fun hc => ?_, fun hc => ?_⟩ <;> (try simp (disch := omega) only [List.length_map, wrap64] at hc) <;> (try (exfalso; first | contradiction | omega)))
          | fail)
        refine mq_W (w := w) (w' := doW w e) (kN := kN) (f := f) v_spec_l21Do rfl (by omega) (hW.keep (by omega) (fun k hk => rfl)) ((doW_inv hJi).2.2.1) rfl (fun _ => rfl) ⟨(w, e), rfl, rfl, hJi, hfe⟩ (fun r obs' h => K_spec_l21Do h) (fun f' H'' hW' hT' hK' => ?_)
        have hB2 : H'' 113 = some (.cells (wvC w kN f)) := (hK' 113 o1 o2 (by omega)).trans hHB
        have h12 : H'' 1 = some (.cells [cI 0, .e0, .e0, cI 0]) := (hK' 1 o3 o4 (by omega)).trans hH1
        have h02 : H'' 0 = none := (hK' 0 o5 o6 (by omega)).trans hH0
        repeat' ((conv => whnf); first
          | refine ⟨rfl, ?_⟩
          | (refine ⟨?_, _, (?_ : (_ : Option Ob) = _), rfl, rfl, ?_, ?_⟩; rotate_left; (exact hk_); exact Nat.le_of_ble_eq_true rfl)
          | fail)
        refine ⟨⟨i + 1, kN, f', ⟨rfl, rfl, rfl, congrArg I (wrap_up (n := es.length) (by omega) heL), trivial⟩, (by omega), (by omega), (by rw [hst]; exact (hW'.box hB2).keep (by omega) (fun k hk => rfl)), (by rw [hst]; exact hk_), hk_, ne_, (by omega)⟩, ?_⟩
        show es.length - ix (I _) < es.length - ix (I _)
        simp only [wrap_up (n := es.length) (i := i) (by omega) heL, ix, Int.toNat_natCast]
        omega
      · have hie : i = es.length := by omega
        subst hie
        have hJi := (hJ es.length).inv
        rw [List.take_length] at hW hHB hJi
        have hP : es.foldl doW (newW bad) = playW bad es := rfl
        rw [hP] at hW hHB hJi
        generalize playW bad es = w at *
        repeat' ((conv => whnf); first
          | refine ⟨_, ldc_cells hk_ (Nat.le_of_ble_eq_true rfl), ?_⟩
          | refine ⟨rfl, ?_⟩
          | (refine ⟨?_, _, (?_ : (_ : Option Ob) = _), rfl, rfl, ?_, ?_⟩; rotate_left; (exact hk_); exact Nat.le_of_ble_eq_true rfl)
          | (refine ⟨fun hc => ?_, fun hc => ?_⟩ <;> (try simp (disch := omega) only [List.length_map, wrap64] at hc) <;> (try (exfalso; first | contradiction | omega)))
          | fail)
        exact ⟨⟨[.g ((woF w).map AC.c), .o (cB true)], congrArg (fun x => some [AW.g [cI w.ep, x, .c (vsF w.log), cI w.bad], .o (cB true)]) (bor_nds (f := f) ((hupd_ne (Ne.symm o3)).trans hW.arr) hJi.2.2.1), rfl, (bad, es), rfl, (by show _ = AV.tup [.g ((woF (playT bad es).1).map AC.c), .o (cB (playT bad es).2)]; rw [e2]; rfl)⟩, (by omega), h0_⟩
    · have e2 : playT bad es = (zWo, false) := playT_no fun h => h70 h.2
      repeat' ((conv => whnf); first
        | refine ⟨rfl, ?_⟩
        | refine ⟨_, _, hupd_at, rfl, rfl, Nat.le_of_ble_eq_true rfl, ?_⟩
        | (refine ⟨?_, _, (?_ : (_ : Option Ob) = _), rfl, rfl, ?_, ?_⟩; rotate_left; (exact hk_); exact Nat.le_of_ble_eq_true rfl)
        | (refine ⟨fun hc => ?_, fun hc => ?_⟩ <;> (try simp (disch := omega) only [List.length_map, wrap64] at hc) <;> (try (exfalso; first | contradiction | omega)))
        | fail)
      exact ⟨⟨_, rfl, rfl, (bad, es), rfl, (by show _ = AV.tup [.g ((woF (playT bad es).1).map AC.c), .o (cB (playT bad es).2)]; rw [e2]; rfl)⟩, (by omega), h0_⟩
  · have e2 : playT bad es = (zWo, false) := playT_no fun h => hb h.1
    refine mq_nWn v_spec_WorldNew_s (by first | assumption | omega) hb rfl ?_
    repeat' ((conv => whnf); first
      | refine ⟨_, _, hupd_at, rfl, rfl, Nat.le_of_ble_eq_true rfl, ?_⟩
      | refine ⟨_, _, rfl, rfl, rfl, Nat.le_of_ble_eq_true rfl, ?_⟩
      | fail)
    exact ⟨⟨_, rfl, rfl, (bad, es), rfl, (by show _ = AV.tup [.g ((woF (playT bad es).1).map AC.c), .o (cB (playT bad es).2)]; rw [e2]; rfl)⟩, (by omega), h0_⟩
set_option maxHeartbeats 4000000 in
set_option maxRecDepth 100000 in
theorem v_spec_DrawWorldPlay : Valid Try.prog n_spec_DrawWorldPlay S_spec_DrawWorldPlay := by
  refine valid_of_swp mixed is_spec_DrawWorldPlay (by rintro _ ⟨a, rfl, _⟩; exact Nat.le_of_ble_eq_true rfl) ?_
  rintro _ rm ⟨code, rfl, hpre⟩ hl
  try dsimp only at hpre
  have hpre0 := hpre
  have hp1 := hpre
  have c1 : S_spec_l72Play.cost = 30000 := rfl
  have c3 : S_spec_DrawWorldPlay.cost = 60000 := rfl
  have s1 : S_spec_l6Open.st = 0 := rfl
  have s2 : S_spec_l72Play.st = 0 := rfl
  have c2 : S_spec_l6Open.cost = 0 := rfl
  have cc_spec_l6Rd_pick : S_spec_l6Rd_pick.cost = 1 := rfl
  repeat' ((conv => whnf); first
    | (refine mq_open (Q := fun g => ∃ b, g = byF b ∧ RdOk b) (ar := [one (byF _)]) v_spec_l6Open (by first | assumption | omega) rfl rfl ⟨_, rfl, rfl, (by assumption)⟩ (fun r obs' h => by obtain ⟨b, h1, h2, h3⟩ := K_spec_l6Open h; exact ⟨byF b, h1, h2, b, rfl, h3⟩) (fun g hg => ?_); obtain ⟨b, rfl, hrd⟩ := hg)
    | fail)
  refine mq_play (k := 49) vP_spec_l72Play (by omega) hk_ (by omega) rfl hrd (fun bad w H1 hbad hI hW hF evs hE hL => ?_)
  have hR1 : H1 49 = some (.rd (byF b)) := (hF 49 (by omega)).trans hk_
  have h01 : H1 0 = none := (hF 0 (by omega)).trans ne_
  have hE97 : H1 97 = some (.arr ty_impl_Event 8 evs) := hE
  obtain ⟨es, hr, hlen, h17⟩ := evR_of hL.1
  have hes : EvsOk es := ⟨by rw [hlen]; have := hL.2; omega, h17⟩
  repeat' ((conv => whnf); first
    | refine ⟨rfl, ?_⟩
    | refine ⟨_, _, hupd_at, rfl, rfl, Nat.le_of_ble_eq_true rfl, ?_⟩
    | (refine ⟨fun hc => ?_, fun hc => ?_⟩ <;> (try simp (disch := omega) only [List.length_map, wrap64] at hc) <;> (try (exfalso; first | contradiction | omega)))
    | (refine callrd (by exact hk_) rfl rfl ⟨(_, _), rfl, (by exact pr_)⟩ v_spec_l6Rd_pick (by omega) (fun r hr => ?_); have hj := K_spec_l6Rd_pick (a := (_, _)) hr; clear hr; obtain ⟨k, rfl, hk0, hk1⟩ := hj; dsimp only at hk1; (try simp (disch := omega) only [List.length_map, ncast, wrap64] at hk1))
    | refine idx_ints (l := [-1, 5]) hupd_at (by omega) (by simp only [List.length_cons, List.length_nil]; omega) (fun j y hjy hy => ?_)
    | refine ⟨_, ldc_pa (xs := ([-1, 5] : List Int).map fun n => [cI n]) hupd_at (at_mapA (by assumption)) (Nat.le_of_ble_eq_true rfl), ?_⟩
    | fail)
  · exact ⟨⟨[.o (cI y), .o (.c (evsF es))], congrArg (fun x => some [AW.o (cI y), AW.o x]) (bor_ev (T := ty_impl_Event) hk_ hr), rfl, code, rfl, (by unfold R_spec_DrawWorldPlay; exact ⟨y, es, rfl, hes⟩)⟩, (by omega), h0_⟩
  · refine ⟨fun fr H nx rm' => ∃ (k : Nat) (evs : List (List AC)), Has fr [(5, I bad), (6, .w (.o (.ow k)))] ∧ H k = some (.arr ty_impl_Event 8 evs) ∧ EvL evs ∧ evs.length ≤ 71 ∧ k < nx ∧ nx + 128 * (72 - evs.length) ≤ 100000 ∧ H 0 = none ∧ rm' ≤ rm + 40000,
      fun _ _ nx _ => 100000 - nx, ⟨97, evs, ⟨rfl, rfl, trivial⟩, hk_, hL.1, (by have := hL.2; omega), (by omega), (by omega), ne_, (by omega)⟩, ?_⟩
    clear hE hE97 hL hr hlen h17 hes es hR1 h01
    rintro fr H nx rm' ⟨k, evs, hfr, hHk, hL, hlen, hk, hnx, hH0, hrm⟩
    rw [hfr.eq]
    have hk0 : k ≠ 0 := fun e => by rw [e, hH0] at hHk; cases hHk
    have hlL : evs.length ≤ LIM := Nat.le_trans hlen (by decide)
    by_cases h70 : evs.length ≤ 70
    · skip
      repeat' ((conv => whnf); first
        | refine ⟨_, _, _, (hk_ : (_ : Option Ob) = _), ?_⟩
        | refine ⟨_, news_ow hupd_at, newsz_ow hupd_at, _, (hk_ : (_ : Option Ob) = _), (by simp only [List.length_cons, List.length_nil]; omega), ?_⟩
        | refine ⟨rfl, ?_⟩
        | (refine ⟨fun hc => ?_, fun hc => ?_⟩ <;> (try simp (disch := omega) only [List.length_map, wrap64] at hc) <;> (try (exfalso; first | contradiction | omega)))
        | fail)
      refine ⟨⟨nx + 16 + 16 + 16 + 16 + 16 + 16, evs ++ [[cI 1, cI 0, cI 0, cI 0, cI 0, cI 0, cI 0, .e0]], ⟨rfl, rfl, trivial⟩, hk_, (fun x hx => ?_), (by rw [List.length_append]; simp only [List.length_cons, List.length_nil]; omega), (by omega), (by rw [List.length_append]; simp only [List.length_cons, List.length_nil]; omega), ne_, (by omega)⟩, ?_⟩
      · rcases List.mem_append.1 hx with g | g
        · exact hL x g
        · rw [List.mem_singleton.1 g]; exact ⟨⟨1, 0, 0, ⟨0, 0, 0⟩, ⟨0, []⟩⟩, .inr ⟨rfl, rfl⟩, Nat.zero_le _⟩
      · show 100000 - (nx + 16 + 16 + 16 + 16 + 16 + 16 + 16 + 16) < 100000 - nx
        omega
    · skip
      repeat' ((conv => whnf); first
        | refine ⟨_, _, _, (hk_ : (_ : Option Ob) = _), ?_⟩
        | refine ⟨rfl, ?_⟩
        | (refine ⟨fun hc => ?_, fun hc => ?_⟩ <;> (try simp (disch := omega) only [List.length_map, wrap64] at hc) <;> (try (exfalso; first | contradiction | omega)))
        | fail)
      obtain ⟨es, hr, hle, h17⟩ := evR_of hL
      have hes : EvsOk es := ⟨by rw [hle]; exact hlen, h17⟩
      exact ⟨⟨[.o (cI bad), .o (.c (evsF es))], congrArg (fun x => some [AW.o (cI bad), AW.o x]) (bor_ev (T := ty_impl_Event) hk_ hr), rfl, code, rfl, (by unfold R_spec_DrawWorldPlay; exact ⟨bad, es, rfl, hes⟩)⟩, (by omega), h0_⟩
  · exact ⟨⟨[.o (cI bad), .o (.c (evsF es))], congrArg (fun x => some [AW.o (cI bad), AW.o x]) (bor_ev (T := ty_impl_Event) hk_ hr), rfl, code, rfl, (by unfold R_spec_DrawWorldPlay; exact ⟨bad, es, rfl, hes⟩)⟩, (by omega), h0_⟩
end Av
end Go.Proofs.Ytlbdoamidblkaaa
