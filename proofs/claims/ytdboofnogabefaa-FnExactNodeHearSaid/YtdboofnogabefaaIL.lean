/- The walk: a node hears, with memory of its own: the loop. -/
import Derived.Test.YtdboofnogabefaaJ34
import Derived.Test.YtdboofnogabefaaIE
set_option linter.unusedVariables false
set_option linter.unusedSimpArgs false
namespace Go.Proofs.Ytdboofnogabefaa
namespace Av
open Go.RowKit
theorem nodup_at {ks : List Nat} (h : ks.Nodup) {i j x : Nat} (hi : ks[i]? = some x) (hj : ks[j]? = some x) : i = j := by
  obtain ⟨h1, e1⟩ := List.getElem?_eq_some_iff.1 hi
  obtain ⟨h2, e2⟩ := List.getElem?_eq_some_iff.1 hj
  have a1 := h.idxOf_getElem i h1
  have a2 := h.idxOf_getElem j h2
  rw [e1] at a1; rw [e2] at a2
  exact a1.symm.trans a2
/-- What a call brought, beside what was there. -/
theorem tri_join {H H' : Hp} {B B' nm : Nat} {ks0 ks1 : List Nat} {m : Nd} {o : Tri} {k k' : Nat} {f f' : Nat → Nat} {cv : AC} (h0 : TriAt H B ks0 false (m, zVo, false) k f .e0) (h1 : TriAt H' B' ks1 false o k' f' cv) (hks : ∀ i, i ≤ m.seen.length → ks1[i]? = (nks k f m.seen.length)[i]?)
    (hkm : ∀ x, x ∈ ks1 → x ∈ nks k f m.seen.length ∨ (nm ≤ x ∧ x < nm + 16)) (hlt : ∀ x, x ∈ ks0 → x < nm) (hs : ∀ i, i < nm → nV.Off k f m.seen i → H' i = H i) : TriAt H' B' (ks0 ++ ks1.drop (m.seen.length + 1)) false o k' f' cv := by
  have hnk : ∀ x, x ∈ nks k f m.seen.length → x ∈ ks0 := fun x hx => by
    rcases List.mem_cons.1 hx with rfl | hx
    · exact h0.k'
    · obtain ⟨j, hj, rfl⟩ := List.mem_map.1 hx
      exact h0.f' j (List.mem_range.1 hj)
  have hsub : ∀ x, x ∈ nks k f m.seen.length → x ∈ ks1 := fun x hx => by
    obtain ⟨i, hi⟩ := List.mem_iff_getElem?.1 hx
    have hi' : i ≤ m.seen.length := by have := (List.getElem?_eq_some_iff.1 hi).1; rw [nks_len] at this; omega
    exact List.mem_of_getElem? ((hks i hi').trans hi)
  have hdrop : ∀ x, x ∈ ks1.drop (m.seen.length + 1) → nm ≤ x := fun x hx => by
    rcases hkm x (List.mem_of_mem_drop hx) with h | h
    · exfalso
      obtain ⟨i, hi⟩ := List.mem_iff_getElem?.1 h
      have hi' : i ≤ m.seen.length := by have := (List.getElem?_eq_some_iff.1 hi).1; rw [nks_len] at this; omega
      obtain ⟨j, hj⟩ := List.mem_iff_getElem?.1 hx
      rw [List.getElem?_drop] at hj
      have := nodup_at h1.nd ((hks i hi').trans hi) hj
      omega
    · exact h.1
  refine h1.more (fun x hx => ?_) ?_ (fun x ob hx e => ?_)
  · rw [← List.take_append_drop (m.seen.length + 1) ks1] at hx
    rcases List.mem_append.1 hx with h | h
    · refine List.mem_append.2 (.inl ?_)
      obtain ⟨i, hi⟩ := List.mem_iff_getElem?.1 h
      rw [List.getElem?_take] at hi
      split at hi
      · rw [hks i (by omega)] at hi; exact hnk x (List.mem_of_getElem? hi)
      · cases hi
    · exact List.mem_append.2 (.inr h)
  · exact List.nodup_append.2 ⟨h0.nd, h1.nd.sublist (List.drop_sublist ..), fun a ha b hb e => by have := hlt a ha; have := hdrop b hb; omega⟩
  · by_cases hx1 : x ∈ ks1
    · exact .inl hx1
    · right
      have hx0 : x ∈ ks0 := by
        rcases List.mem_append.1 hx with h | h
        · exact h
        · exact absurd (List.mem_of_mem_drop h) hx1
      have hno : x ∉ nks k f m.seen.length := fun h => hx1 (hsub x h)
      have hoff : nV.Off k f m.seen x := ⟨fun e => hno (by rw [e]; exact List.mem_cons_self ..), fun j hj e => hno (List.mem_cons_of_mem _ (List.mem_map.2 ⟨j, List.mem_range.2 hj, e⟩))⟩
      rw [hs x (hlt x hx0) hoff] at e
      have h2 := h0.ob x ob hx0 e
      exact ⟨okOb_in (fun y hy => List.mem_append.2 (.inl hy)) h2.1, h2.2⟩
theorem bor_vw {H : Hp} {k T sz hi : Nat} {xs : List (List AC)} {ys : List (List FV)} {sh : Option Nat} (h : H k = some (.arr T sz xs)) (hy : fcellss xs = some ys) : bor H sh (.vw k hi) = .c (.sl sz (ys.take hi)) := by simp only [bor, h, hy]
theorem bnd_at {fr : Env} {x : X} {n : Int} {i : Nat} (hx : ev fr x = I n) (h : n = (i : Int)) : bnd fr 0 (some x) = some i := by
  subst h
  simp only [bnd, hx]
  rw [if_pos (Int.natCast_nonneg i), Int.toNat_natCast]
theorem bor_vo2 {H : Hp} {v : Vo} {k : Nat} (h : H k = some (itO v.c)) : borV H [none, some 4] (.w (.g (voK v k))) = agg (voF v) := by
  show AV.w (.g [.c (fI v.n), bor H (some 4) (.ow k)]) = _
  rw [bor_ow h (fcellss_f itF v.c)]
  rfl
/-- How things lie while a node hears. -/
structure HearS (H : Hp) (nx L : Nat) (ks0 : List Nat) (m : Nd) (k : Nat) (f : Nat → Nat) : Prop where
  node : H L = some (.cells (ndO m k))
  z4 : H (L + 32) = some (.cells [cI 0, cI 0, cI 0, .e0])
  z2 : H (L + 48) = some (.cells [cI 0, .e0])
  tri : TriAt H nx ks0 false (m, zVo, false) k f .e0
  lt : ∀ x, x ∈ ks0 → x < nx ∧ x ≠ L ∧ x ≠ L + 32 ∧ x ≠ L + 48
  nx : L + 64 ≤ nx
theorem HearS.up {H H' : Hp} {nx nx' L : Nat} {ks0 : List Nat} {m : Nd} {k : Nat} {f : Nat → Nat} (h : HearS H nx L ks0 m k f) (hn : nx ≤ nx') (hs : ∀ i, i < nx → H' i = H i) : HearS H' nx' L ks0 m k f :=
  ⟨(hs _ (by have := h.nx; omega)).trans h.node, (hs _ (by have := h.nx; omega)).trans h.z4, (hs _ (by have := h.nx; omega)).trans h.z2, h.tri.same hn fun x hx => hs x (h.lt x hx).1, fun x hx => ⟨Nat.lt_of_lt_of_le (h.lt x hx).1 hn, (h.lt x hx).2⟩, Nat.le_trans h.nx hn⟩
noncomputable def lpH : A := (.loop
 (.seq
 (.rg [⟨some 57, none, .bin 0 .lss (.t 56) (.t 55)⟩])
 (.seq
 (.cond (.t 57)
 .skip
 (.exit 0))
 (.seq
 (.block 1
 (.seq
 (.rg [⟨some 58, none, .idx 2 (.t 54) (.t 56)⟩,
   ⟨some 59, none, .load (some 2) (.t 58)⟩,
   ⟨some 11, none, .alloc [.int .i64 0, .slice none 0 0]⟩,
   ⟨none, none, .store 2 (.t 11) (.t 59)⟩])
 (.seq
 (.rg [⟨some 60, none, .fld 1 (.t 11)⟩,
   ⟨some 61, none, .load none (.t 60)⟩,
   ⟨some 62, none, .fld 1 (.t 11)⟩,
   ⟨some 63, none, .load none (.t 62)⟩,
   ⟨some 64, none, .len (.t 63)⟩,
   ⟨some 65, none, .bin 0 .sub (.t 64) (.k (.int .i64 1))⟩,
   ⟨some 66, none, .slv 4 (.t 61) (.t 65)⟩,
   ⟨some 12, none, .mv (.t 66)⟩])
 (.seq
 (.rg [⟨some 67, none, .fld 0 (.t 11)⟩,
   ⟨some 68, none, .load none (.t 67)⟩,
   ⟨some 69, none, .mv (.t 9)⟩,
   ⟨some 70, none, .bin 0 .eql (.t 68) (.t 69)⟩,
   ⟨some 71, none, .mv (.t 70)⟩,
   ⟨some 72, some (71, true), .load (some 2) (.t 11)⟩,
   ⟨some 73, some (71, true), .call n_impl_Vote_last S_impl_Vote_last [(.t 72, [none, some 4])]⟩,
   ⟨some 74, some (71, true), .fld 1 (.t 2)⟩,
   ⟨some 75, some (71, true), .load none (.t 74)⟩,
   ⟨some 76, some (71, true), .bin 0 .eql (.t 73) (.t 75)⟩,
   ⟨some 77, none, .pick (.t 71) (.t 76) (.k (.bool false))⟩,
   ⟨some 78, none, .mv (.t 77)⟩,
   ⟨some 79, some (78, true), .mv (.t 12)⟩,
   ⟨some 80, some (78, true), .len (.t 79)⟩,
   ⟨some 81, some (78, true), .mv (.t 8)⟩,
   ⟨some 82, some (78, true), .bin 0 .eql (.t 80) (.t 81)⟩,
   ⟨some 83, none, .pick (.t 78) (.t 82) (.k (.bool false))⟩,
   ⟨some 84, none, .mv (.t 83)⟩,
   ⟨some 85, some (84, true), .mv (.t 7)⟩,
   ⟨some 86, some (84, true), .mv (.t 12)⟩,
   ⟨some 87, some (84, true), .call n_impl_votes_sure S_impl_votes_sure [(.t 85, [some 2]), (.t 86, [some 4])]⟩,
   ⟨some 88, none, .pick (.t 84) (.t 87) (.k (.bool false))⟩])
 (.cond (.t 88)
 (.seq
 (.rg [⟨some 89, none, .load (some 4) (.t 2)⟩,
   ⟨some 90, none, .fld 1 (.t 11)⟩,
   ⟨some 91, none, .load none (.t 90)⟩,
   ⟨some 92, none, .callm n_impl_Node_vote_o S_impl_Node_vote_o [(.t 89, [none, none, none, some 2]), (.t 91, [some 4])]⟩,
   ⟨some 93, none, .ext (.t 92) 0⟩,
   ⟨some 94, none, .ext (.t 92) 1⟩,
   ⟨some 95, none, .ext (.t 92) 2⟩,
   ⟨none, none, .store 4 (.t 4) (.t 93)⟩,
   ⟨none, none, .store 2 (.t 5) (.t 94)⟩,
   ⟨some 6, none, .mv (.t 95)⟩])
 .ret)
 .skip)))))
 (.rg [⟨some 96, none, .bin 0 .add (.t 56) (.k (.int .i64 1))⟩,
   ⟨some 56, none, .mv (.t 96)⟩])))))
attribute [local irreducible] voteN tryN hearN
set_option maxHeartbeats 4000000 in
set_option maxRecDepth 100000 in
theorem lpH_ok {m : Nd} {L : Nat} {ks0 : List Nat} {k : Nat} {f : Nat → Nat} {Q : Post} {fr : Env} {H : Hp} {nx rm : Nat} (hVL : VotesOk m.seen) (hll : m.seen.length ≤ 81) (hfr : Has fr [(2, .w (.o (.ptr L 0))), (4, .w (.o (.ptr (L + 32) 0))), (5, .w (.o (.ptr (L + 48) 0))), (7, .w (.o (.ow k))), (8, I (tip m.seen).length), (9, I (lead m.ep)), (54, .w (.o (.ow k))), (55, I m.seen.length), (56, I 0)]) (hS : HearS H nx L ks0 m k f) (hlim : rm ≤ LIM)
    (hE : ∀ fr' H' nx', Has fr' [(2, .w (.o (.ptr L 0))), (4, .w (.o (.ptr (L + 32) 0))), (5, .w (.o (.ptr (L + 48) 0)))] → HearS H' nx' L ks0 m k f → (∀ j u, j < m.seen.length → m.seen[j]? = some u → ¬ FitsN false m u) → Q (.exit 0) fr' H' nx' rm)
    (hR : ∀ fr' H' nx' (ks : List Nat) k' f' cv (i : Nat) (u : Vo), m.seen[i]? = some u → (∀ (j : Nat) u, j < i → m.seen[j]? = some u → ¬ FitsN false m u) → FitsN false m u → Has fr' [(4, .w (.o (.ptr (L + 32) 0))), (5, .w (.o (.ptr (L + 48) 0))), (6, B (voteN m u.c).2.2)] → H' (L + 32) = some (.cells [cI (voteN m u.c).1.id, cI (voteN m u.c).1.ep, cI (voteN m u.c).1.vt, .ow k']) → H' (L + 48) = some (.cells [cI (voteN m u.c).2.1.n, cv]) → TriAt H' nx' (ks0 ++ ks) false (voteN m u.c) k' f' cv → ks.length ≤ 3 → Q .ret fr' H' nx' rm) : swp Try.prog lpH Q fr H nx rm := by
  have hLL : m.seen.length ≤ LIM := Nat.le_trans hll (by decide)
  have hfs : FitVs m.seen := ⟨hLL, fun u hu => Nat.le_trans (hVL.ok' hu).2.2.2 (by decide)⟩
  have hsm : m.seen.length ≤ SM := Nat.le_trans hll (by decide)
  have c1 : S_impl_Node_vote_o.cost = 0 := rfl
  have cc_impl_Vote_last : S_impl_Vote_last.cost = 0 := rfl
  have cc_impl_votes_sure : S_impl_votes_sure.cost = 0 := rfl
  conv => whnf
  refine ⟨fun fr H nx rm' => ∃ i : Nat, Has fr [(2, .w (.o (.ptr L 0))), (4, .w (.o (.ptr (L + 32) 0))), (5, .w (.o (.ptr (L + 48) 0))), (7, .w (.o (.ow k))), (8, I (tip m.seen).length), (9, I (lead m.ep)), (54, .w (.o (.ow k))), (55, I m.seen.length), (56, I i)] ∧ i ≤ m.seen.length ∧ (∀ j u, j < i → m.seen[j]? = some u → ¬ FitsN false m u) ∧ HearS H nx L ks0 m k f ∧ rm' = rm,
    fun fr _ _ _ => m.seen.length - ix (fr 56), ⟨0, hfr, Nat.zero_le _, (fun j u h => absurd h (Nat.not_lt_zero _)), hS, rfl⟩, ?_⟩
  clear hfr hS
  rintro fr H nx rm' ⟨i, hfr, hi, hq, hS, rfl⟩
  rw [hfr.eq]
  have hnx := hS.nx
  have hnode := hS.node
  have hz4 := hS.z4
  have hz2 := hS.z2
  have hAt := hS.tri.at'
  have hk : H k = some (.arr ty_impl_Vote 2 (nV.K f m.seen)) := hAt.out
  have hkn : k < nx := hAt.lt
  rcases Nat.lt_or_ge i m.seen.length with hi' | hi'
  · obtain ⟨x, hx⟩ : ∃ x, m.seen[i]? = some x := ⟨_, List.getElem?_eq_getElem hi'⟩
    have hxm : x ∈ m.seen := List.mem_of_getElem? hx
    have hxv : VoteOk x := hVL.ok' hxm
    have hx0 : 0 < x.c.length := List.length_pos_iff.2 hxv.2.1
    have hx16 : x.c.length ≤ 16 := hxv.2.2.2
    have hxL : x.c.length ≤ LIM := Nat.le_trans hx16 (by decide)
    have hxt : (x.c.take (x.c.length - 1)).length = x.c.length - 1 := by rw [List.length_take]; omega
    have hxtL : (x.c.take (x.c.length - 1)).length ≤ LIM := by rw [hxt]; exact Nat.le_trans (Nat.sub_le _ _) hxL
    have hal : (arA itF x.c).length = x.c.length := by rw [arA, List.length_map]
    have hw : IntKind.i64.wrap (((arA itF x.c).length : Int) - 1) = ((x.c.length - 1 : Nat) : Int) := by rw [hal]; exact wrapL hx0 hxL
    have hfi : H (f i) = some (.arr ty_impl_Item 4 (arA itF x.c)) := hAt.inn i x hx
    have hfin : f i < nx := hAt.lts i hi'
    have hKi : (nV.K f m.seen)[i]? = some [cI x.n, .ow (f i)] := Nest.K_at hx
    have hstep : ¬ FitsN false m x → ∀ j u, j < i + 1 → m.seen[j]? = some u → ¬ FitsN false m u := by
      intro hh j u hj1 hj2
      by_cases e : j < i
      · exact hq j u e hj2
      · have e : j = i := by omega
        subst e; cases (hx.symm.trans hj2); exact hh
    by_cases hF : FitsN false m x
    · obtain ⟨f1, f2, f3, f4⟩ := id hF
      have f3' : (x.c.take (x.c.length - 1)).length = (tip m.seen).length := hxt.trans f3
      have f4' : Sure m.seen (x.c.take (x.c.length - 1)) := f4
      have f1' : x.n = lead m.ep := f1
      have f2' : lastE x = m.ep := f2
      have f3'' : x.c.length - 1 = (tip m.seen).length := f3
      repeat' ((conv => whnf); first
        | refine ⟨_, ldc_cells hk_ (Nat.le_of_ble_eq_true rfl), ?_⟩
        | refine ⟨_, _, _, _, (hk_ : (_ : Option Ob) = _), rfl, hKi, ?_⟩
        | refine ⟨_, ldc_pa hk_ hKi (Nat.le_of_ble_eq_true rfl), ?_⟩
        | refine ⟨_, _, x.c.length - 1, (hk_ : (_ : Option Ob) = _), bnd_at rfl hw, ⟨(by rw [hal]; omega), (by rw [hal]; omega)⟩, ?_⟩
        | (refine calle (b := [agg (voF x)]) v_impl_Vote_last (congrArg (fun z => [z]) (bor_vo2 (v := x) hk_)) ⟨x, rfl, hxL, hx0⟩ (.inr ⟨rfl, rfl⟩) (by first | assumption | omega) (fun r hr => K_impl_Vote_last (a := x) hr) ?_)
        | (refine callt (b := [one (vsF m.seen), one (chF (x.c.take (x.c.length - 1)))]) v_impl_votes_sure (l2 (congrArg (fun z => AV.w (.o z)) (Nest.At.bor (hAt.mono (b' := nx) (Nat.le_refl _) fun i hi => (by (repeat (refine (hupd_ne (by omega)).trans ?_)); rfl)))) (congrArg (fun z => AV.w (.o z)) ((bor_vw hk_ (fcellss_f itF x.c)).trans (congrArg (fun z => AC.c (.sl 4 z)) List.map_take.symm)))) ⟨(m.seen, x.c.take (x.c.length - 1)), rfl, hfs, hxtL⟩ (.inr ⟨rfl, rfl⟩) (by first | assumption | omega) (fun r hr => K_impl_votes_sure (a := (m.seen, x.c.take (x.c.length - 1))) hr) (fun hj => ?_) (fun hj => ?_) <;> (try contradiction))
        | refine ⟨rfl, ?_⟩
        | refine ⟨_, _, hupd_at, rfl, rfl, Nat.le_of_ble_eq_true rfl, ?_⟩
        | refine ⟨_, _, _, ((by exact hk_) : (_ : Option Ob) = _), ?_⟩
        | (refine ⟨fun hc => ?_, fun hc => ?_⟩ <;> (try simp (disch := omega) only [List.length_map, wrap64] at hc) <;> (try (exfalso; first | contradiction | omega)))
        | fail)
      have hoff : ∀ y, (y ≠ k ∧ ∀ j, j < m.seen.length → f j ≠ y) → nV.Off k f m.seen y := fun y h => h
      have ho4 : nV.Off k f m.seen (L + 32) := ⟨fun e => (hS.lt k hS.tri.k').2.2.1 e.symm, fun j hj e => (hS.lt _ (hS.tri.f' j hj)).2.2.1 e⟩
      have ho5 : nV.Off k f m.seen (L + 48) := ⟨fun e => (hS.lt k hS.tri.k').2.2.2 e.symm, fun j hj e => (hS.lt _ (hS.tri.f' j hj)).2.2.2 e⟩
      have hcx : chX m.seen (.inr i) = x.c := by simp only [chX, hx]
      refine mq_tri0 (n1 := m.seen.length + 4) (by omega) (l := m.seen) (k := k) (f := f) (b := nx) (args := [ndOF m 0, .w (.o (acF (· + 1) (.inr i)))]) (o := voteN m x.c) v_impl_Node_vote_o rfl rfl (by omega) (hAt.mono (b' := nx) (Nat.le_refl _) fun i hi => (by (repeat (refine (hupd_ne (by omega)).trans ?_)); rfl)) (by omega) (fun ρ q0 q1 => (by show [(ndOF m 0).ren ρ, .w (.o (.ow (ρ (i + 1))))] = _; rw [ndOF_ren, q0, q1 i hi']; rfl)) ⟨(m, .inr i), rfl, rfl, (show okX m.seen (.inr i) from ⟨x, hx, hxL⟩), hsm⟩ (fun r obs' h => by rw [← hcx]; exact K_impl_Node_vote_o (x := .inr i) h) fun H' ks k' f' cv hT hks hkm hl1 hl2 ho => ?_
      have hb4 : H' (L + 32) = some (.cells [cI 0, cI 0, cI 0, .e0]) := (ho _ (by omega) ho4).trans hk_
      have hb5 : H' (L + 48) = some (.cells [cI 0, .e0]) := (ho _ (by omega) ho5).trans hk_
      have hJ := tri_join (hS.up (H' := _) (nx' := nx) (Nat.le_refl _) fun i hi => (by (repeat (refine (hupd_ne (by omega)).trans ?_)); rfl)).tri hT hks hkm (fun y hy => by have := (hS.lt y hy).1; omega) ho
      have hdr : ∀ y, y ∈ ks.drop (m.seen.length + 1) → y ≠ L + 32 ∧ y ≠ L + 48 := fun y hy => by
        have h1 := hJ.nd
        rcases hkm y (List.mem_of_mem_drop hy) with h | h
        · rcases List.mem_cons.1 h with rfl | h
          · exact (hS.lt _ hS.tri.k').2.2
          · obtain ⟨j, hj, rfl⟩ := List.mem_map.1 h
            exact (hS.lt _ (hS.tri.f' j (List.mem_range.1 hj))).2.2
        · omega
      have hno : ∀ y, y ∈ ks0 ++ ks.drop (m.seen.length + 1) → y ≠ L + 32 ∧ y ≠ L + 48 := fun y hy => by
        rcases List.mem_append.1 hy with h | h
        · exact (hS.lt y h).2.2
        · exact hdr y h
      repeat' ((conv => whnf); first
        | (refine ⟨?_, _, (?_ : (_ : Option Ob) = _), rfl, rfl, ?_, ?_⟩; rotate_left; (exact hk_); exact Nat.le_of_ble_eq_true rfl)
        | exact hR _ _ _ (ks.drop (m.seen.length + 1)) k' f' cv i x hx hq hF ⟨rfl, rfl, rfl, trivial⟩ (hk_) (hk_) (hJ.same (by omega) fun y hy => (hupd_ne (hno y hy).2).trans (hupd_ne (hno y hy).1)) (by rw [List.length_drop]; omega)
        | fail)
    · have hFF := hF
      repeat' ((conv => whnf); first
        | (exfalso; exact hF ⟨by assumption, by assumption, (by show x.c.length - 1 = (tip m.seen).length; omega), by assumption⟩)
        | (exfalso; omega)
        | refine ⟨_, ldc_cells hk_ (Nat.le_of_ble_eq_true rfl), ?_⟩
        | refine ⟨_, _, _, _, (hk_ : (_ : Option Ob) = _), rfl, hKi, ?_⟩
        | refine ⟨_, ldc_pa hk_ hKi (Nat.le_of_ble_eq_true rfl), ?_⟩
        | refine ⟨_, _, x.c.length - 1, (hk_ : (_ : Option Ob) = _), bnd_at rfl hw, ⟨(by rw [hal]; omega), (by rw [hal]; omega)⟩, ?_⟩
        | (refine calle (b := [agg (voF x)]) v_impl_Vote_last (congrArg (fun z => [z]) (bor_vo2 (v := x) hk_)) ⟨x, rfl, hxL, hx0⟩ (.inr ⟨rfl, rfl⟩) (by first | assumption | omega) (fun r hr => K_impl_Vote_last (a := x) hr) ?_)
        | (refine callt (b := [one (vsF m.seen), one (chF (x.c.take (x.c.length - 1)))]) v_impl_votes_sure (l2 (congrArg (fun z => AV.w (.o z)) (Nest.At.bor (hAt.mono (b' := nx) (Nat.le_refl _) fun i hi => (by (repeat (refine (hupd_ne (by omega)).trans ?_)); rfl)))) (congrArg (fun z => AV.w (.o z)) ((bor_vw hk_ (fcellss_f itF x.c)).trans (congrArg (fun z => AC.c (.sl 4 z)) List.map_take.symm)))) ⟨(m.seen, x.c.take (x.c.length - 1)), rfl, hfs, hxtL⟩ (.inr ⟨rfl, rfl⟩) (by first | assumption | omega) (fun r hr => K_impl_votes_sure (a := (m.seen, x.c.take (x.c.length - 1))) hr) (fun hj => ?_) (fun hj => ?_))
        | refine ⟨rfl, ?_⟩
        | refine ⟨_, _, hupd_at, rfl, rfl, Nat.le_of_ble_eq_true rfl, ?_⟩
        | refine ⟨_, _, _, ((by exact hk_) : (_ : Option Ob) = _), ?_⟩
        | (refine ⟨fun hc => ?_, fun hc => ?_⟩ <;> (try simp (disch := omega) only [List.length_map, wrap64] at hc))
        | (refine ⟨⟨i + 1, ⟨rfl, rfl, rfl, rfl, rfl, rfl, rfl, rfl, congrArg I (wrap_up hi' hLL), trivial⟩, hi', hstep hF, hS.up (by omega) (fun i hi => (by (repeat (refine (hupd_ne (by omega)).trans ?_)); rfl)), rfl⟩, ?_⟩; show m.seen.length - ix (I _) < m.seen.length - ix (I _); simp only [wrap_up hi' hLL, ix, Int.toNat_natCast]; omega)
        | fail)
  · have hie : i = m.seen.length := by omega
    subst hie
    repeat' ((conv => whnf); first
      | refine ⟨rfl, ?_⟩
      | (refine ⟨fun hc => ?_, fun hc => ?_⟩ <;> (try simp (disch := omega) only [List.length_map, wrap64] at hc) <;> (try (exfalso; first | contradiction | omega)))
      | exact hE _ _ _ ⟨rfl, rfl, rfl, trivial⟩ (hS.up (by omega) fun i hi => rfl) hq
      | fail)
end Av
end Go.Proofs.Ytdboofnogabefaa
