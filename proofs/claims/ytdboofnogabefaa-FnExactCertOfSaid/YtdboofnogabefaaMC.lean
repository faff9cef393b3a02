/- Layer Av, part 20: names: what an operation hands on holds names that were there, or its own. -/
import Derived.Test.YtdboofnogabefaaMB
import Derived.Orders
import Derived.Tactics
import Derived.Deep.LoopGhost
import Derived.Laws.Sem
set_option linter.unusedVariables false
set_option linter.unusedSimpArgs false
namespace Go.Proofs.Ytdboofnogabefaa
namespace Av
open Go.RowKit
section
variable {P : Program} {H : Hp} {rm n nm : Nat} {fr fr' : Env} {K K' : AV → Hp → Nat → Prop} {D D' : Nat → Prop}
theorem ok_cellsOf {v : AV} {cs : List AC} (h : okV D v) (hc : cellsOf v = some cs) : ∀ c, c ∈ cs → okC D c := by
  unfold cellsOf at hc
  split at hc
  · cases hc
  · cases hc; intro c hm; cases hm with
    | head => exact h
    | tail _ hm => cases hm
  · cases hc; exact h
  · cases hc
theorem ok_put {cs ds : List AC} {off : Nat} (h : ∀ c, c ∈ cs → okC D c) (h' : ∀ c, c ∈ ds → okC D c) : ∀ c, c ∈ put cs off ds → okC D c := by
  intro c hc
  unfold put at hc
  simp only [List.mem_append] at hc
  rcases hc with (hc | hc) | hc
  · exact h c (List.mem_of_mem_take hc)
  · exact h' c hc
  · exact h c (List.mem_of_mem_drop hc)
theorem ok_fillA (hG : Good D fr H) : ∀ {ps : List (Nat × Nat × X)} {cs ds : List AC}, (∀ c, c ∈ cs → okC D c) → fillA fr cs ps = some ds → ∀ c, c ∈ ds → okC D c
  | [], cs, ds, h, hf => by cases hf; exact h
  | (off, k, x) :: ps, cs, ds, h, hf => by
    simp only [fillA] at hf
    split at hf
    · rename_i es he
      split at hf
      · exact ok_fillA hG (ok_put h (ok_cellsOf (okV_ev hG x) he)) hf
      · cases hf
    · cases hf
theorem ok_cellssOf (hG : Good D fr H) {sz : Nat} : ∀ {xs : List X} {css : List (List AC)}, cellssOf fr sz xs = some css → ∀ x, x ∈ css → ∀ c, c ∈ x → okC D c
  | [], css, h => by cases h; intro x hx; cases hx
  | x :: xs, css, h => by
    simp only [cellssOf] at h
    split at h
    · rename_i ds rest h1 h2
      split at h
      · cases h
        intro y hy
        cases hy with
        | head => exact ok_cellsOf (okV_ev hG x) h1
        | tail _ hy => exact ok_cellssOf hG h2 y hy
      · cases h
    · cases h
theorem ok_awsOf (hG : Good D fr H) : ∀ {xs : List X} {as : List AW}, awsOf fr xs = some as → ∀ c, c ∈ as → okW D c
  | [], as, h => by cases h; intro c hc; cases hc
  | x :: xs, as, h => by
    simp only [awsOf] at h
    split at h
    · rename_i a rest h1 h2
      cases h
      intro c hc
      cases hc with
      | head =>
        have := okV_ev hG x
        revert h1
        unfold awOf
        split
        · rename_i y hy; rw [hy] at this; intro e; cases e; exact this
        · intro e; cases e
      | tail _ hc => exact ok_awsOf hG h2 c hc
    · cases h
theorem ok_consts (zs : List Value) : ∀ c, c ∈ zs.map ofV → okC D c := by
  intro c hc
  obtain ⟨x, _, rfl⟩ := List.mem_map.1 hc
  exact okC_ofV x
theorem ok_ldc (hG : Good D fr H) {v : AV} {k : Nat} {cs : List AC} (hv : okV D v) (h : ldc H v k = some cs) : ∀ c, c ∈ cs → okC D c := by
  unfold ldc at h
  split at h
  · split at h
    · rename_i ds hk
      split at h
      · cases h
        intro c hc
        exact (hG.ob _ _ hk).2 c (List.mem_of_mem_drop (List.mem_of_mem_take hc))
      · cases h
    · cases h
  · split at h
    · rename_i T s xs hk
      split at h
      · obtain ⟨x, h1, rfl⟩ := Option.map_eq_some_iff.1 h
        intro c hc
        exact (hG.ob _ _ hk).2 x (List.mem_of_getElem? h1) c (List.mem_of_mem_drop (List.mem_of_mem_take hc))
      · cases h
    · cases h
  · split at h
    · cases h
      intro c hc
      obtain ⟨f, _, rfl⟩ := List.mem_map.1 hc
      exact trivial
    · cases h
  · cases h
theorem ok_mkw {k : Option Nat} {cs : List AC} (h : ∀ c, c ∈ cs → okC D c) : okV D (mkw k cs) := by
  unfold mkw
  split
  · exact h
  · exact h _ (by simp)
  · exact trivial
theorem ok_ren {ρ : Nat → Nat} {E : Nat → Prop} (hρ : ∀ j, E j → D (ρ j)) {c : AC} (h : okC E c) : okC D (c.ren ρ) := by
  cases c <;> first | exact hρ _ h | exact trivial
theorem ok_renW {ρ : Nat → Nat} {E : Nat → Prop} (hρ : ∀ j, E j → D (ρ j)) {c : AW} (h : okW E c) : okW D (c.ren ρ) := by
  cases c with
  | o c => exact ok_ren hρ h
  | g cs =>
    intro c hc
    obtain ⟨d, h1, rfl⟩ := List.mem_map.1 hc
    exact ok_ren hρ (h d h1)
theorem ok_renV {ρ : Nat → Nat} {E : Nat → Prop} (hρ : ∀ j, E j → D (ρ j)) {c : AV} (h : okV E c) : okV D (c.ren ρ) := by
  cases c with
  | w c => exact ok_renW hρ h
  | fn f a b =>
    refine ⟨fun c hc => ?_, fun c hc => ?_⟩
    · obtain ⟨d, h1, rfl⟩ := List.mem_map.1 hc; exact ok_renW hρ (h.1 d h1)
    · obtain ⟨d, h1, rfl⟩ := List.mem_map.1 hc; exact ok_renW hρ (h.2 d h1)
  | tup xs =>
    intro c hc
    obtain ⟨d, h1, rfl⟩ := List.mem_map.1 hc; exact ok_renW hρ (h d h1)
theorem ok_renO {ρ : Nat → Nat} {E : Nat → Prop} (hρ : ∀ j, E j → D (ρ j)) {c : Ob} (h : okOb E c) : okOb D (c.ren ρ) := by
  cases c with
  | cells cs =>
    intro c hc
    obtain ⟨d, h1, rfl⟩ := List.mem_map.1 hc; exact ok_ren hρ (h d h1)
  | arr T sz xs =>
    intro x hx c hc
    obtain ⟨y, h1, rfl⟩ := List.mem_map.1 hx
    obtain ⟨d, h2, rfl⟩ := List.mem_map.1 hc
    exact ok_ren hρ (h y h1 d h2)
  | _ => exact trivial
abbrev withN (D : Nat → Prop) (nm s : Nat) : Nat → Prop := fun k => D k ∨ (nm ≤ k ∧ k < nm + s)
abbrev HG (D : Nat → Prop) (H : Hp) : Prop := ∀ k x, H k = some x → D k ∧ okOb D x
theorem HG_mono (h : ∀ k, D k → D' k) (hH : HG D H) : HG D' H := fun k x e => ⟨h _ (hH k x e).1, okOb_mono h (hH k x e).2⟩
theorem HG_hupd {k : Nat} {x : Option Ob} (hH : HG D H) (hx : ∀ y, x = some y → D k ∧ okOb D y) : HG D (hupd k x H) := by
  intro j y e
  unfold hupd at e
  split at e
  · rename_i h; subst h; exact hx y e
  · exact hH j y e
theorem HG_hput {ρ : Nat → Nat} : ∀ {l : List (Option Ob)} {i : Nat} {H : Hp}, HG D H → (∀ (j : Nat) ob, l[j]? = some (some ob) → D (ρ (i + j)) ∧ okOb D (ob.ren ρ)) → HG D (hput ρ i l H)
  | [], _, _, h, _ => h
  | ob :: l, i, H, h, hl => by
    simp only [hput]
    refine HG_hput (HG_hupd h fun y hy => ?_) fun j ob' hj => ?_
    · obtain ⟨z, rfl, rfl⟩ := Option.map_eq_some_iff.1 hy
      exact hl 0 z rfl
    · have := hl (j + 1) ob' (by simpa using hj)
      rwa [show i + (j + 1) = i + 1 + j by omega] at this
theorem opw_good (hG : Good D fr H) {o : AO} (h : opw P nm fr H rm K o) : opw P nm fr H rm (fun r H' rm' => K r H' rm' ∧ okV (withN D nm (stp o)) r ∧ HG (withN D nm (stp o)) H') o := by
  have hD : ∀ k, D k → withN D nm (stp o) k := fun k h => .inl h
  have hnm : withN D nm (stp o) nm := .inr ⟨Nat.le_refl _, by have := stp_pos o; omega⟩
  have hH : HG (withN D nm (stp o)) H := HG_mono hD hG.ob
  have one : ∀ {r : AV}, (∃ H', sem P nm fr H o = some (.one r H') ∧ cls o < 3 ∧ HG (withN D nm (stp o)) H') → okV D r → opw P nm fr H rm (fun r H' rm' => K r H' rm' ∧ okV (withN D nm (stp o)) r ∧ HG (withN D nm (stp o)) H') o := by
    rintro r ⟨H', hs, hc, hH'⟩ hr
    rw [opw_sem hc, hs] at h
    rw [opw_sem hc, hs]
    exact ⟨h, okV_mono hD hr, hH'⟩
  have any : ∀ {pre c R}, sem P nm fr H o = some (.any pre c R) → cls o < 3 → (∀ r, R r → okV D r) → opw P nm fr H rm (fun r H' rm' => K r H' rm' ∧ okV (withN D nm (stp o)) r ∧ HG (withN D nm (stp o)) H') o := by
    intro pre c R hs hc hR
    rw [opw_sem hc, hs] at h
    rw [opw_sem hc, hs]
    exact ⟨h.1, h.2.1, fun r hr => ⟨h.2.2 r hr, okV_mono hD (hR r hr), hH⟩⟩
  have none : sem P nm fr H o = .none → cls o < 3 → opw P nm fr H rm (fun r H' rm' => K r H' rm' ∧ okV (withN D nm (stp o)) r ∧ HG (withN D nm (stp o)) H') o := by
    intro hs hc
    rw [opw_sem hc, hs] at h
    exact h.elim
  cases o with
  | mv x => exact one ⟨H, rfl, by simp [cls], hH⟩ (okV_ev hG x)
  | pick c x y =>
    cases hs : sem P nm fr H (.pick c x y) with
    | none => exact none hs (by simp [cls])
    | some out =>
      have hs' := hs
      simp only [sem] at hs
      split at hs
      · rename_i t ht
        cases hs
        exact one ⟨H, hs', by simp [cls], hH⟩ (by split; exact okV_ev hG x; exact okV_ev hG y)
      · cases hs
  | alloc zs => exact ⟨h, hnm, HG_hupd hH fun y e => by cases e; exact ⟨hnm, ok_consts zs⟩⟩
  | box x =>
    cases hx : cellsOf (ev fr x) with
    | none => simp only [opw, sem, hx] at h
    | some cs =>
      simp only [opw, sem, hx] at h ⊢
      exact ⟨h, hnm, HG_hupd hH fun y e => by cases e; exact ⟨hnm, fun c hc => okC_mono hD (ok_cellsOf (okV_ev hG x) hx c hc)⟩⟩
  | build zs ps =>
    cases hx : fillA fr (zs.map ofV) ps with
    | none => simp only [opw, sem, hx] at h
    | some cs =>
      simp only [opw, sem, hx] at h ⊢
      exact ⟨h, okV_mono hD (show okV D (.w (.g cs)) from ok_fillA hG (ok_consts zs) hx), hH⟩
  | bsl T sz xs =>
    cases hx : cellssOf fr sz xs with
    | none => simp only [opw, sem, hx] at h
    | some css =>
      simp only [opw, sem, hx] at h ⊢
      exact ⟨h, hnm, HG_hupd hH fun y e => by cases e; exact ⟨hnm, fun x hm c hc => okC_mono hD (ok_cellssOf hG hx x hm c hc)⟩⟩
  | bsl0 T sz => exact ⟨h, trivial, HG_hupd hH fun y e => by cases e; exact ⟨hnm, fun x hx => by cases hx⟩⟩
  | bslf tk T sz xs =>
    cases hx : cellssOf fr sz xs with
    | none => simp only [opw, sem, hx] at h
    | some css =>
      cases hy : fcellss css with
      | none => simp only [opw, sem, hx, hy] at h
      | some ys =>
        simp only [opw, sem, hx, hy] at h ⊢
        exact ⟨h, (by cases tk; exact trivial; exact hnm), HG_hupd hH fun y e => by cases e; exact ⟨hnm, trivial⟩⟩
  | callo f S xs =>
    by_cases hp : S.pre (oArgs S.fl fr H xs) ∧ ValidM P f S.toM
    · simp only [opw, sem, if_pos hp] at h ⊢
      exact ⟨h, hnm, HG_hupd hH fun y e => by cases e; exact ⟨hnm, okOb_mono (fun _ h => h.elim) (S.hok _)⟩⟩
    · simp only [opw, sem, if_neg hp] at h
  | load k p =>
    cases hx : ldc H (ev fr p) (k.getD 1) with
    | none => simp only [opw, sem, hx] at h
    | some cs =>
      simp only [opw, sem, hx] at h ⊢
      exact ⟨h, okV_mono hD (ok_mkw (ok_ldc hG (okV_ev hG p) hx)), hH⟩
  | store k p x =>
    have hp := okV_ev hG p
    simp only [opw] at h ⊢
    split at h
    · rename_i j off ds h1 h2
      rw [h1] at hp
      split at h
      · rename_i cs hk
        try simp only [h1, h2, hk]
        refine ⟨h.1, h.2.1, h.2.2, trivial, HG_hupd hH fun y e => ?_⟩
        cases e
        exact ⟨hD _ hp, fun c hc => okC_mono hD (ok_put (hG.ob _ _ hk).2 (ok_cellsOf (okV_ev hG x) h2) c hc)⟩
      · exact h.elim
    · rename_i j sz i off ds h1 h2
      rw [h1] at hp
      split at h
      · rename_i T s xs hk
        split at h
        · rename_i e he
          try simp only [h1, h2, hk, he]
          refine ⟨h.1, h.2.1, h.2.2.1, h.2.2.2, trivial, HG_hupd hH fun y q => ?_⟩
          cases q
          refine ⟨hD _ hp, fun y hy c hc => okC_mono hD ?_⟩
          have hob := (hG.ob _ _ hk).2
          rcases List.mem_or_eq_of_mem_set hy with hy | rfl
          · exact hob y hy c hc
          · exact ok_put (hob e (List.mem_of_getElem? he)) (ok_cellsOf (okV_ev hG x) h2) c hc
        · exact h.elim
      · exact h.elim
    · exact h.elim
  | nilc x =>
    cases hs : sem P nm fr H (.nilc x) with
    | none => exact none hs (by simp [cls])
    | some out =>
      have hs' := hs
      have hx := okV_ev hG x
      simp only [sem] at hs
      split at hs
      · rename_i c hc
        rw [hc] at hx
        split at hs
        · cases hs; exact one ⟨H, hs', by simp [cls], hH⟩ hx
        · cases hs
      · cases hs
  | bin kd op x y =>
    have hlt : cls (.bin kd op x y) < 3 := by simp only [cls]; split <;> omega
    cases hs : sem P nm fr H (.bin kd op x y) with
    | none => exact none hs hlt
    | some out =>
      have hs' := hs
      simp only [sem] at hs
      unfold binA at hs
      split at hs
      · split at hs
        · rename_i k a k' b _ _ _
          obtain ⟨r, h1, rfl⟩ := Option.map_eq_some_iff.1 hs
          refine one ⟨H, hs', hlt, hH⟩ ?_
          unfold intOp at h1
          repeat' split at h1
          all_goals cases h1
          all_goals exact trivial
        · cases hs
      · split at hs <;> cases hs <;> exact one ⟨H, hs', hlt, hH⟩ trivial
      · split at hs
        · split at hs <;> cases hs <;> exact one ⟨H, hs', hlt, hH⟩ trivial
        · split at hs
          · split at hs <;> cases hs <;> exact one ⟨H, hs', hlt, hH⟩ trivial
          · cases hs
      · split at hs <;> cases hs <;> exact any hs' hlt (by rintro r ⟨t, rfl, _⟩; exact trivial)
      · split at hs <;> cases hs <;> exact any hs' hlt (by rintro r ⟨t, rfl⟩; exact trivial)
      · split at hs
        · split at hs <;> cases hs <;> exact any hs' hlt (by rintro r ⟨t, rfl, _⟩; exact trivial)
        · cases hs
      · cases hs
  | eqs neg T m x y =>
    cases hs : sem P nm fr H (.eqs neg T m x y) with
    | none => exact none hs (by simp [cls])
    | some out =>
      have hs' := hs
      simp only [sem] at hs
      split at hs
      · split at hs
        · split at hs
          · cases hs; exact any hs' (by simp [cls]) (by rintro r rfl; exact trivial)
          · cases hs
        · cases hs
      · cases hs
  | un op x =>
    cases hs : sem P nm fr H (.un op x) with
    | none => exact none hs (by simp [cls])
    | some out =>
      have hs' := hs
      simp only [sem] at hs
      split at hs <;> cases hs <;> exact one ⟨H, hs', by simp [cls], hH⟩ trivial
  | conv k x =>
    cases hs : sem P nm fr H (.conv k x) with
    | none => exact none hs (by simp [cls])
    | some out =>
      have hs' := hs
      simp only [sem] at hs
      split at hs <;> cases hs <;> exact one ⟨H, hs', by simp [cls], hH⟩ trivial
  | mkfn f first cap =>
    cases hs : sem P nm fr H (.mkfn f first cap) with
    | none => exact none hs (by simp [cls])
    | some out =>
      have hs' := hs
      simp only [sem] at hs
      split at hs
      · rename_i as bs h1 h2
        cases hs; exact one ⟨H, hs', by simp [cls], hH⟩ ⟨ok_awsOf hG h1, ok_awsOf hG h2⟩
      · cases hs
  | mksl T sz bytes zs l c =>
    simp only [opw, sem] at h ⊢
    split at h
    · exact h.elim
    · rename_i hs
      try simp only [hs]
      split at hs
      · split at hs
        · cases hs
          refine ⟨h, hnm, HG_hupd hH fun y e => ?_⟩
          cases e
          refine ⟨hnm, fun x hx c hc => ?_⟩
          rw [List.eq_of_mem_replicate hx] at hc
          exact ok_consts zs c hc
        · cases hs
      · cases hs
    · rename_i hs
      split at hs
      · split at hs <;> cases hs
      · cases hs
  | slc sz x lo hi mx =>
    cases hs : sem P nm fr H (.slc sz x lo hi mx) with
    | none => exact none hs (by simp [cls])
    | some out =>
      have hs' := hs
      simp only [sem, slcA] at hs
      repeat' split at hs
      all_goals (try cases hs)
      all_goals refine one ⟨H, hs', by simp [cls], hH⟩ ?_
      all_goals first | exact trivial | (split <;> exact trivial)
  | fld off p =>
    cases hs : sem P nm fr H (.fld off p) with
    | none => exact none hs (by simp [cls])
    | some out =>
      have hs' := hs
      have hp := okV_ev hG p
      simp only [sem, fldA] at hs
      split at hs
      · rename_i q; rw [q] at hp; cases hs; exact one ⟨H, hs', by simp [cls], hH⟩ hp
      · rename_i q; rw [q] at hp; cases hs; exact one ⟨H, hs', by simp [cls], hH⟩ hp
      · split at hs <;> cases hs; exact one ⟨H, hs', by simp [cls], hH⟩ trivial
      · cases hs
  | slv sz x hi =>
    cases hs : sem P nm fr H (.slv sz x hi) with
    | none => exact none hs (by simp [cls])
    | some out =>
      have hs' := hs
      have hp := okV_ev hG x
      simp only [sem, slvA] at hs
      split at hs
      · rename_i q; rw [q] at hp
        split at hs
        · split at hs
          · split at hs
            · cases hs; exact one ⟨H, hs', by simp [cls], hH⟩ hp
            · cases hs
          · cases hs
        · cases hs
      · cases hs
  | idx sz x i =>
    cases hs : sem P nm fr H (.idx sz x i) with
    | none => exact none hs (by simp [cls])
    | some out =>
      have hs' := hs
      have hp := okV_ev hG x
      simp only [sem, idxA] at hs
      split at hs
      · split at hs
        · obtain ⟨e, _, h2⟩ := Option.map_eq_some_iff.1 hs; cases h2; exact one ⟨H, hs', by simp [cls], hH⟩ trivial
        · cases hs
      · split at hs
        · obtain ⟨e, _, h2⟩ := Option.map_eq_some_iff.1 hs; cases h2; exact one ⟨H, hs', by simp [cls], hH⟩ trivial
        · cases hs
      · rename_i q _; rw [q] at hp
        split at hs
        · split at hs
          · obtain ⟨e, _, h2⟩ := Option.map_eq_some_iff.1 hs; cases h2; exact one ⟨H, hs', by simp [cls], hH⟩ hp
          · cases hs
        · cases hs
      · cases hs
  | ext x i =>
    cases hs : sem P nm fr H (.ext x i) with
    | none => exact none hs (by simp [cls])
    | some out =>
      have hs' := hs
      have hp := okV_ev hG x
      simp only [sem] at hs
      split at hs
      · rename_i q; rw [q] at hp
        obtain ⟨e, h1, h2⟩ := Option.map_eq_some_iff.1 hs; cases h2
        exact one ⟨H, hs', by simp [cls], hH⟩ (hp e (List.mem_of_getElem? h1))
      · cases hs
  | len x =>
    cases hs : sem P nm fr H (.len x) with
    | none => exact none hs (by simp [cls])
    | some out =>
      have hs' := hs
      simp only [sem] at hs
      obtain ⟨e, h1, h2⟩ := Option.map_eq_some_iff.1 hs; cases h2
      exact one ⟨H, hs', by simp [cls], hH⟩ trivial
  | mnmx mn x y =>
    cases hs : sem P nm fr H (.mnmx mn x y) with
    | none => exact none hs (by simp [cls])
    | some out =>
      have hs' := hs
      simp only [sem] at hs
      split at hs <;> cases hs <;> exact one ⟨H, hs', by simp [cls], hH⟩ trivial
  | call f S xs => exact any rfl (by simp [cls]) (fun r hr => okV_mono (fun _ h => h.elim) hr.2)
  | callv x S xs =>
    cases hs : sem P nm fr H (.callv x S xs) with
    | none => exact none hs (by simp [cls])
    | some out =>
      have hs' := hs
      simp only [sem] at hs
      split at hs
      · cases hs; exact any hs' (by simp [cls]) (fun r hr => okV_mono (fun _ h => h.elim) hr.2)
      · cases hs
  | clip sz x hi mx =>
    simp only [opw] at h ⊢
    rcases h with ⟨k, T, xs, g1, g2, g3, g4, g5⟩ | ⟨g1, g2, g3, g4⟩
    · refine .inl ⟨k, T, xs, g1, g2, g3, g4, g5, hnm, HG_hupd (HG_hupd hH fun y e => by cases e) fun y e => ?_⟩
      cases e
      exact ⟨hnm, fun y hm c hc => okC_mono hD ((hG.ob _ _ g2).2 y hm c hc)⟩
    · exact .inr ⟨g1, g2, g3, g4, trivial, hH⟩
  | app T sz bytes zs s x =>
    have hs := okV_ev hG s
    have hx := okV_ev hG x
    simp only [opw] at h ⊢
    split at h
    · exact h.elim
    · rename_i ys hy
      try simp only [hy]
      refine ⟨h.1, ?_⟩
      replace h := h.2
      have hys : ∀ y, y ∈ ys → ∀ c, c ∈ y → okC D c := by
        unfold news at hy
        split at hy
        · rename_i q
          split at hy
          · rename_i hk; cases hy; exact (hG.ob _ _ hk).2
          · cases hy
        · obtain ⟨zs', h1, rfl⟩ := Option.map_eq_some_iff.1 hy
          intro y hm c hc
          obtain ⟨z, _, rfl⟩ := List.mem_map.1 hm
          obtain ⟨f, _, rfl⟩ := List.mem_map.1 hc
          exact trivial
      split at h
      · rename_i k q
        rw [q] at hs
        split at h
        · rename_i T' s' xs hk
          try simp only [q, hk]
          refine ⟨h.1, h.2.1, h.2.2.1, h.2.2.2, hnm, HG_hupd (HG_hupd hH fun y e => by cases e) fun y e => ?_⟩
          cases e
          refine ⟨hnm, fun y hm c hc => okC_mono hD ?_⟩
          rcases List.mem_append.1 hm with hm | hm
          · exact (hG.ob _ _ hk).2 y hm c hc
          · exact hys y hm c hc
        · exact h.elim
      · rename_i k s' xs q
        rw [q] at hs
        split at h
        · rename_i T' s'' m gs hk hg
          try simp only [q, hk, hg]
          refine ⟨h.1, h.2.1, h.2.2.1, h.2.2.2.1, h.2.2.2.2.1, h.2.2.2.2.2, hnm, HG_hupd (HG_hupd hH fun y e => by cases e) fun y e => ?_⟩
          cases e
          exact ⟨hnm, trivial⟩
        · exact h.elim
      · rename_i q
        try simp only [q]
        refine ⟨h.1, h.2, hnm, HG_hupd hH fun y e => ?_⟩
        cases e
        exact ⟨hnm, fun y hm c hc => okC_mono hD (hys y hm c hc)⟩
      · exact h.elim
  | callb f S xs =>
    simp only [opw] at h ⊢
    obtain ⟨h1, h2, h3, h4, h5, h6⟩ := h
    have hρ : ∀ j, withN D nm (stp (.callb f S xs)) (nmapS S.st [] nm j) := by
      intro j
      simp only [nmapS, List.length_nil, Nat.not_lt_zero, dite_false, Nat.sub_zero]
      exact .inr ⟨by omega, by simp only [stp]; omega⟩
    refine ⟨h1, h2, h3, h4, h5, fun r obs' q1 q2 q3 => ⟨h6 r obs' q1 q2 q3, ok_renV (fun j _ => hρ j) q2, ?_⟩⟩
    exact HG_hput hH fun j ob hj => ⟨hρ _, ok_renO (fun j _ => hρ j) (q3 j ob hj)⟩
  | callm f S xs =>
    simp only [opw] at h ⊢
    obtain ⟨h1, h2, ks, args, obs, h3, h4, h5, h6, h7, h8⟩ := h
    refine ⟨h1, h2, ks, args, obs, h3, h4, h5, h6, h7, fun r obs' q1 q2 q3 => ⟨h8 r obs' q1 q2 q3, ?_, ?_⟩⟩
    · have hl := (S.hlen _ _ _ _ q1).2
      refine ok_renV (fun j hj' => ?_) q2
      unfold nmapS
      split
      · rename_i hj
        obtain ⟨ob, _, q⟩ := h5 j _ (List.getElem?_eq_getElem hj)
        exact hD _ (hG.ob _ _ q).1
      · exact .inr ⟨by omega, by simp only [stp]; omega⟩
    · have hl := (S.hlen _ _ _ _ q1).2
      have hρ : ∀ j, j < obs'.length → withN D nm (stp (.callm f S xs)) (nmapS S.st ks nm j) := by
        intro j hj'
        unfold nmapS
        split
        · rename_i hj
          obtain ⟨ob, _, q⟩ := h5 j _ (List.getElem?_eq_getElem hj)
          exact hD _ (hG.ob _ _ q).1
        · exact .inr ⟨by omega, by simp only [stp]; omega⟩
      exact HG_hput hH fun j ob hj => ⟨hρ _ (by have := (List.getElem?_eq_some_iff.1 hj).1; omega), ok_renO (fun j hj => hρ j hj) (q3 j ob hj)⟩
end
end Av
end Go.Proofs.Ytdboofnogabefaa
/- Layer Av, part 21: the operations of a region in any order. -/
namespace Go.Proofs.Ytdboofnogabefaa
namespace Av
open Go.RowKit
def mode (fr : Env) : Option (Nat × Bool) → Option Bool
  | none => some true
  | some (s, want) => match fr s with
    | .w (.o (.c (.v (.bool t)))) => some (t == want)
    | .tup [] => some false
    | _ => none
abbrev KE := Env → Hp → Nat → Prop
def st1 (P : Program) (nm : Nat) (op : Op1) (K : KE) (fr : Env) (H : Hp) (rm : Nat) : Prop :=
  match mode fr op.g with
  | none => False
  | some true => opw P nm fr H rm (fun v H' rm' => K (updo op.d v fr) H' rm') op.o
  | some false => K (updo op.d U fr) H rm
def xT : X → Option Nat
  | .t n => some n
  | _ => none
def lk (op : Op1) : List Nat := (match op.g with | some (s, _) => [s] | none => []) ++ (opsX op.o).filterMap xT
def dOut (d : Option Nat) (l : List Nat) : Bool := match d with | some d => !l.contains d | none => true
def dNe : Option Nat → Option Nat → Bool
  | some d, some e => d != e
  | _, _ => true
def apart1 (i j : Op1) : Bool := dOut i.d (lk j) && dNe i.d j.d && dOut j.d (lk i)
def isCallm : AO → Bool
  | .callm .. => true
  | _ => false
/-- May the second one, which stands behind the first, come up ahead of it? -/
def freshM : AO → Bool
  | .callm _ S _ => S.nk
  | _ => false
def isApp : AO → Bool
  | .app .. => true
  | _ => false
/-- It looks at an object whose name its slot holds. -/
def isLk : AO → Bool
  | .load .. | .idx .. | .len _ => true
  | _ => false
/-- It changes nothing that was there; what it hands back is new. -/
def freshJ : AO → Bool
  | .callo .. | .callb .. => true
  | _ => false
def isCallo : AO → Bool
  | .callo .. => true
  | _ => false
def clsOK (i j : AO) : Bool :=
  (isCallo i && cls j == 1) || (cls i == 1 && freshJ j) || (isApp i && isLk j) || (freshM i && cls j == 1) || cls i == 0 || cls j == 0 || (cls i == 1 && decide (cls j ≤ 2)) || (cls i == 2 && !isCallm j) || (cls i == 3 && cls j == 2)
/-- A load and a store through slots that point to different objects. -/
def ldst (ps : List (Nat × Nat)) : AO → AO → Bool
  | .load _ (.t p), .store _ (.t q) _ => p != q && ps.contains (p, q)
  | .store _ (.t q) _, .load _ (.t p) => p != q && ps.contains (p, q)
  | .callm _ S _, .load _ (.t p) => S.ar && ps.contains (p, p)
  | .callm _ S _, .idx _ (.t _) _ => S.ta
  | .load _ (.t _), .callm _ S _ => S.ta || S.la
  | _, _ => false
def indep (ps : List (Nat × Nat)) (i j : Op1) : Bool := apart1 i j && (clsOK i.o j.o || ldst ps i.o j.o)
section
variable {P : Program} {K : KE} {fr : Env} {H : Hp} {rm nm : Nat} {D : Nat → Prop}
theorem seqw_cons (op : Op1) (r : List Op1) : seqw P K (op :: r) nm fr H rm ↔ st1 P nm op (fun fr' H' rm' => seqw P K r (nm + stp op.o) fr' H' rm') fr H rm := by
  obtain ⟨d, g, o⟩ := op
  cases g with
  | none => exact Iff.rfl
  | some p =>
    obtain ⟨s, want⟩ := p
    simp only [seqw, st1, mode]
    split
    · rename_i t ht
      cases t <;> cases want <;> simp [ht]
    · rename_i ht
      simp [ht]
    · rename_i hne hne2
      split <;> rename_i q
      · exact Iff.rfl
      · exfalso
        revert q
        split
        · rename_i t ht; exact (hne t ht).elim
        · intro q; cases q
        · intro q; cases q
      · exfalso
        revert q
        split
        · rename_i t ht; exact (hne t ht).elim
        · rename_i ht; exact (hne2 ht).elim
        · intro q; cases q
theorem st1_mono {K' : KE} {op : Op1} (h : ∀ fr H rm, K fr H rm → K' fr H rm) (hs : st1 P nm op K fr H rm) : st1 P nm op K' fr H rm := by
  unfold st1 at hs ⊢
  split <;> rename_i q <;> simp only [q] at hs
  · exact opw_mono (fun _ _ _ => h _ _ _) hs
  · exact h _ _ _ hs
theorem Good_put {d : Option Nat} {v : AV} {H' : Hp} {D' : Nat → Prop} (hG : Good D fr H) (hD : ∀ k, D k → D' k) (hv : okV D' v) (hH : HG D' H') : Good D' (updo d v fr) H' := by
  refine ⟨fun t => ?_, hH⟩
  cases d with
  | none => exact okV_mono hD (hG.fr t)
  | some d =>
    show okV D' (if t = d then v else fr t)
    split
    · exact hv
    · exact okV_mono hD (hG.fr t)
theorem st1_good {op : Op1} (hG : Good D fr H) (hs : st1 P nm op K fr H rm) : st1 P nm op (fun fr' H' rm' => K fr' H' rm' ∧ Good (withN D nm (stp op.o)) fr' H' ∧ ∃ v, fr' = updo op.d v fr) fr H rm := by
  unfold st1 at hs ⊢
  split <;> rename_i q <;> simp only [q] at hs
  · exact opw_mono (fun r H' rm' ⟨h1, h2, h3⟩ => ⟨h1, Good_put hG (fun _ h => .inl h) h2 h3, r, rfl⟩) (opw_good hG hs)
  · exact ⟨hs, Good_put hG (fun _ h => .inl h) (fun c h => by cases h) (HG_mono (fun _ h => .inl h) hG.ob), U, rfl⟩
theorem updo_ne {d : Option Nat} {v : AV} {l : List Nat} (h : dOut d l = true) {t : Nat} (ht : t ∈ l) : updo d v fr t = fr t := by
  cases d with
  | none => rfl
  | some d =>
    simp only [dOut, Bool.not_eq_true', List.contains_eq_mem, decide_eq_false_iff_not] at h
    show (if t = d then v else fr t) = fr t
    rw [if_neg (fun e : t = d => h (e ▸ ht))]
theorem updo_comm {d e : Option Nat} {u v : AV} (h : dNe d e = true) : updo d u (updo e v fr) = updo e v (updo d u fr) := by
  cases d with
  | none => rfl
  | some d =>
    cases e with
    | none => rfl
    | some e =>
      simp only [dNe, bne_iff_ne, ne_eq] at h
      funext t
      simp only [updo, upd]
      by_cases h1 : t = d
      · subst h1; simp [h]
      · simp [h1]
theorem mode_put {d : Option Nat} {v : AV} {op : Op1} (h : dOut d (lk op) = true) : mode (updo d v fr) op.g = mode fr op.g := by
  obtain ⟨e, g, o⟩ := op
  cases g with
  | none => rfl
  | some p =>
    obtain ⟨s, want⟩ := p
    simp only [mode]
    rw [updo_ne h (show s ∈ lk ⟨e, some (s, want), o⟩ by simp [lk])]
theorem ev_put {d : Option Nat} {v : AV} {op : Op1} (h : dOut d (lk op) = true) : ∀ x ∈ opsX op.o, ev (updo d v fr) x = ev fr x := by
  intro x hx
  cases x with
  | t n =>
    refine updo_ne h ?_
    unfold lk
    exact List.mem_append_right _ (List.mem_filterMap.2 ⟨.t n, hx, rfl⟩)
  | _ => rfl
theorem Apart_at : ∀ {ps : List (Nat × Nat)} {p q : Nat}, Apart fr ps → ps.contains (p, q) = true → ∃ k o k' o', fr p = .w (.o (.ptr k o)) ∧ fr q = .w (.o (.ptr k' o')) ∧ (k ≠ k' ∨ p = q)
  | [], p, q, _, h => by simp at h
  | (a, b) :: r, p, q, hA, h => by
    simp only [List.contains_cons, Bool.or_eq_true, beq_iff_eq, Prod.mk.injEq] at h
    rcases h with ⟨rfl, rfl⟩ | h
    · have h0 := hA.1
      split at h0
      · rename_i k o k' o' e1 e2; exact ⟨k, o, k', o', e1, e2, h0⟩
      · exact h0.elim
    · exact Apart_at hA.2 h
theorem Apart_put {d : Option Nat} {v : AV} : ∀ {ps : List (Nat × Nat)}, dOut d (ps.map (·.1) ++ ps.map (·.2)) = true → Apart fr ps → Apart (updo d v fr) ps
  | [], _, _ => trivial
  | (a, b) :: r, hd, hA => by
    have hd' : dOut d (r.map (·.1) ++ r.map (·.2)) = true := by
      cases d with
      | none => rfl
      | some d => simp [dOut] at hd ⊢; exact ⟨hd.2.1, hd.2.2.2⟩
    refine ⟨?_, Apart_put hd' hA.2⟩
    rw [updo_ne hd (t := a) (by simp), updo_ne hd (t := b) (by simp)]
    exact hA.1
theorem hput_fix {ρ : Nat → Nat} : ∀ {l : List Ob} {i : Nat} {H : Hp}, (∀ (j : Nat) ob, l[j]? = some ob → H (ρ (i + j)) = some (ob.ren ρ)) → hput ρ i (l.map some) H = H
  | [], _, _, _ => rfl
  | ob :: l, i, H, h => by
    have e : hupd (ρ i) (some (ob.ren ρ)) H = H := by
      funext x
      unfold hupd
      split
      · rename_i hx
        rw [hx]
        exact (h 0 ob rfl).symm
      · rfl
    show hput ρ (i + 1) (l.map some) (hupd (ρ i) (some (ob.ren ρ)) H) = H
    rw [e]
    exact hput_fix fun j ob' hj => by
      have := h (j + 1) ob' hj
      rwa [show i + (j + 1) = i + 1 + j by omega] at this
theorem hput_cells {ρ : Nat → Nat} {k : Nat} {es : List AC} : ∀ {l : List (Option Ob)} {i : Nat} {H : Hp}, (∀ (j : Nat) (cs : List AC), l[j]? ≠ some (some (.cells cs))) → hput ρ i l H k = some (.cells es) → H k = some (.cells es)
  | [], _, _, _, h => h
  | ob :: l, i, H, hn, h => by
    have h1 := hput_cells (l := l) (i := i + 1) (fun j cs => by have := hn (j + 1) cs; simpa using this) h
    unfold hupd at h1
    split at h1
    · cases ob with
      | none => cases h1
      | some ob =>
        cases ob with
        | cells cs => exact absurd rfl (hn 0 cs)
        | _ => simp [Ob.ren] at h1
    · exact h1
theorem ldc_via {k o n : Nat} {cs : List AC} {H H' : Hp} (hH : ∀ es, H' k = some (.cells es) → H k = some (.cells es)) (h : ldc H' (.w (.o (.ptr k o))) n = some cs) : ldc H (.w (.o (.ptr k o))) n = some cs := by
  unfold ldc at h ⊢
  dsimp only at h ⊢
  split at h
  · rename_i es he
    rw [hH es he]
    exact h
  · cases h
theorem hput_arr {ρ : Nat → Nat} {k T s : Nat} {es : List (List AC)} : ∀ {l : List (Option Ob)} {i : Nat} {H : Hp}, (∀ (j T s : Nat) (xs : List (List AC)), l[j]? ≠ some (some (.arr T s xs))) → hput ρ i l H k = some (.arr T s es) → H k = some (.arr T s es)
  | [], _, _, _, h => h
  | ob :: l, i, H, hn, h => by
    have h1 := hput_arr (l := l) (i := i + 1) (fun j T s xs => by have := hn (j + 1) T s xs; simpa using this) h
    unfold hupd at h1
    split at h1
    · cases ob with
      | none => cases h1
      | some ob =>
        cases ob with
        | arr T' s' cs => exact absurd rfl (hn 0 T' s' cs)
        | _ => simp [Ob.ren] at h1
    · exact h1
theorem idxA_via {sz : Nat} {a i : AV} {H H' : Hp} (hH : ∀ k T s xs, H' k = some (.arr T s xs) → H k = some (.arr T s xs)) {out : Out} (h : idxA sz a i H' = some out) : ∃ r, out = .one r H' ∧ idxA sz a i H = some (.one r H) := by
  unfold idxA at h ⊢
  split at h
  · split at h
    · rename_i hc
      rw [Option.map_eq_some_iff] at h
      obtain ⟨e, he, rfl⟩ := h
      exact ⟨_, rfl, by rw [if_pos hc, he]; rfl⟩
    · cases h
  · split at h
    · rename_i hc
      rw [Option.map_eq_some_iff] at h
      obtain ⟨e, he, rfl⟩ := h
      exact ⟨_, rfl, by rw [if_pos hc, he]; rfl⟩
    · cases h
  · split at h
    · rename_i he0
      split at h
      · rename_i hc
        rw [Option.map_eq_some_iff] at h
        obtain ⟨e, he, rfl⟩ := h
        exact ⟨_, rfl, by rw [hH _ _ _ _ he0]; simp only; rw [if_pos hc, he]; rfl⟩
      · cases h
    · cases h
  · cases h
theorem hput_out {ρ : Nat → Nat} {k : Nat} : ∀ {l : List (Option Ob)} {i : Nat} {H : Hp}, (∀ j, i ≤ j → j < i + l.length → ρ j ≠ k) → hput ρ i l H k = H k
  | [], _, _, _ => rfl
  | ob :: l, i, H, h => by
    show hput ρ (i + 1) l (hupd (ρ i) (ob.map (Ob.ren ρ)) H) k = H k
    rw [hput_out (l := l) (i := i + 1) fun j h1 h2 => h j (by omega) (by simp only [List.length_cons]; omega)]
    unfold hupd
    rw [if_neg (Ne.symm (h i (Nat.le_refl _) (by simp)))]
theorem ldc_fwd {v : AV} {n : Nat} {cs : List AC} {H H' : Hp} (hH : ∀ k ob, H k = some ob → notTok ob → H' k = some ob) (h : ldc H v n = some cs) : ldc H' v n = some cs := by
  unfold ldc at h ⊢
  split at h
  · split at h
    · rename_i e; rw [hH _ _ e trivial]; exact h
    · cases h
  · split at h
    · rename_i e; rw [hH _ _ e trivial]; exact h
    · cases h
  · exact h
  · cases h
theorem ldst_comm {nmi nmj : Nat} {oi oj : AO} {K : AV → AV → Hp → Nat → Prop} {ps : List (Nat × Nat)} (hG : Good D fr H) (hj : ∀ k, nmj ≤ k → k < nmj + stp oj → ¬ D k) (hA : Apart fr ps) (hc : ldst ps oi oj = true)
    (h : opw P nmi fr H rm (fun r H' rm' => opw P nmj fr H' rm' (fun u H'' rm'' => K r u H'' rm'') oj) oi) : opw P nmj fr H rm (fun u H' rm' => opw P nmi fr H' rm' (fun r H'' rm'' => K r u H'' rm'') oi) oj := by
  unfold ldst at hc
  split at hc
  · rename_i n p m q x
    simp only [Bool.and_eq_true, bne_iff_ne, ne_eq] at hc
    obtain ⟨k, o, k', o', e1, e2, hne⟩ := Apart_at hA hc.2
    replace hne := hne.resolve_right hc.1
    have e1' : ev fr (.t p) = .w (.o (.ptr k o)) := e1
    have e2' : ev fr (.t q) = .w (.o (.ptr k' o')) := e2
    have hl : ∀ y, ldc (hupd k' y H) (.w (.o (.ptr k o))) (n.getD 1) = ldc H (.w (.o (.ptr k o))) (n.getD 1) := fun y => by simp only [ldc, hupd_ne hne]
    simp only [opw, sem, e1', e2'] at h ⊢
    cases h1 : ldc H (.w (.o (.ptr k o))) (n.getD 1) with
    | none => simp only [h1] at h
    | some cs =>
      simp only [h1] at h
      cases hx : cellsOf (ev fr x) with
      | none => simp only [hx] at h
      | some ds =>
        simp only [hx] at h ⊢
        cases hk : H k' with
        | none => simp only [hk] at h
        | some ob =>
          cases ob with
          | cells es =>
            simp only [hk] at h ⊢
            refine ⟨h.1, h.2.1, ?_⟩
            simp only [hl, h1]
            exact h.2.2
          | _ => simp only [hk] at h
  · rename_i m q x n p
    simp only [Bool.and_eq_true, bne_iff_ne, ne_eq] at hc
    obtain ⟨k, o, k', o', e1, e2, hne⟩ := Apart_at hA hc.2
    replace hne := hne.resolve_right hc.1
    have e1' : ev fr (.t p) = .w (.o (.ptr k o)) := e1
    have e2' : ev fr (.t q) = .w (.o (.ptr k' o')) := e2
    have hl : ∀ y, ldc (hupd k' y H) (.w (.o (.ptr k o))) (n.getD 1) = ldc H (.w (.o (.ptr k o))) (n.getD 1) := fun y => by simp only [ldc, hupd_ne hne]
    simp only [opw, sem, e1', e2'] at h ⊢
    cases hx : cellsOf (ev fr x) with
    | none => simp only [hx] at h
    | some ds =>
      simp only [hx] at h
      cases hk : H k' with
      | none => simp only [hk] at h
      | some ob =>
        cases ob with
        | cells es =>
          simp only [hk] at h
          obtain ⟨g1, g2, h⟩ := h
          simp only [hl] at h
          cases h1 : ldc H (.w (.o (.ptr k o))) (n.getD 1) with
          | none => simp only [h1] at h
          | some cs =>
            simp only [h1] at h
            simp only [hx, hk]
            exact ⟨g1, g2, h⟩
        | _ => simp only [hk] at h
  · rename_i f S xs n p
    simp only [Bool.and_eq_true] at hc
    obtain ⟨k, o, -, -, e1, -, -⟩ := Apart_at hA hc.2
    have e1' : ev fr (.t p) = .w (.o (.ptr k o)) := e1
    simp only [opw, sem, e1'] at h ⊢
    obtain ⟨hv, hlim, ks, args, obs, hnd, hlen, hobs, hargs, hpre, hK⟩ := h
    have hl : ∀ r obs', S.post args obs r obs' → ∀ {cs}, ldc (hput (nmapS S.st ks nmi) 0 obs' H) (.w (.o (.ptr k o))) (n.getD 1) = some cs → ldc H (.w (.o (.ptr k o))) (n.getD 1) = some cs :=
      fun r obs' hp cs hcs => ldc_via (fun es he => hput_cells (S.har hc.1 _ _ _ _ hp) he) hcs
    obtain ⟨r0, obs0, q1, q2, q3⟩ := S.inh _ _ hpre
    have h0 := hK r0 obs0 q1 q2 q3
    cases hx : ldc (hput (nmapS S.st ks nmi) 0 obs0 H) (.w (.o (.ptr k o))) (n.getD 1) with
    | none => simp only [hx] at h0
    | some cs =>
      have hx' := hl r0 obs0 q1 hx
      simp only [hx']
      refine ⟨hv, hlim, ks, args, obs, hnd, hlen, hobs, hargs, hpre, fun r obs' a1 a2 a3 => ?_⟩
      have h1 := hK r obs' a1 a2 a3
      cases hy : ldc (hput (nmapS S.st ks nmi) 0 obs' H) (.w (.o (.ptr k o))) (n.getD 1) with
      | none => simp only [hy] at h1
      | some ds =>
        have hy' := hl r obs' a1 hy
        rw [hx'] at hy'
        cases hy'
        simp only [hy] at h1
        exact h1
  · rename_i f S xs sz p y
    simp only [opw, sem] at h ⊢
    obtain ⟨hv, hlim, ks, args, obs, hnd, hlen, hobs, hargs, hpre, hK⟩ := h
    have hl : ∀ r obs', S.post args obs r obs' → ∀ {out}, idxA sz (ev fr (.t p)) (ev fr y) (hput (nmapS S.st ks nmi) 0 obs' H) = some out → ∃ r, out = .one r (hput (nmapS S.st ks nmi) 0 obs' H) ∧ idxA sz (ev fr (.t p)) (ev fr y) H = some (.one r H) :=
      fun r obs' hp out ho => idxA_via (fun k T s xs he => hput_arr (fun j T s xs e => by obtain ⟨T', s', n', e'⟩ := (S.hta hc).2 _ _ _ _ hp j _ e; cases e') he) ho
    obtain ⟨r0, obs0, q1, q2, q3⟩ := S.inh _ _ hpre
    have h0 := hK r0 obs0 q1 q2 q3
    cases hx : idxA sz (ev fr (.t p)) (ev fr y) (hput (nmapS S.st ks nmi) 0 obs0 H) with
    | none => simp only [hx] at h0
    | some out =>
      obtain ⟨u, -, hu⟩ := hl r0 obs0 q1 hx
      simp only [hu]
      refine ⟨hv, hlim, ks, args, obs, hnd, hlen, hobs, hargs, hpre, fun r obs' a1 a2 a3 => ?_⟩
      have h1 := hK r obs' a1 a2 a3
      cases hy : idxA sz (ev fr (.t p)) (ev fr y) (hput (nmapS S.st ks nmi) 0 obs' H) with
      | none => simp only [hy] at h1
      | some out =>
        obtain ⟨u', rfl, hu'⟩ := hl r obs' a1 hy
        rw [hu] at hu'
        cases hu'
        simp only [hy] at h1
        exact h1
  · rename_i n p f S xs
    simp only [opw, sem] at h ⊢
    cases hx : ldc H (ev fr (.t p)) (n.getD 1) with
    | none => simp only [hx] at h
    | some cs =>
      simp only [hx] at h
      obtain ⟨hv, hlim, ks, args, obs, hnd, hlen, hobs, hargs, hpre, hK⟩ := h
      refine ⟨hv, hlim, ks, args, obs, hnd, hlen, hobs, hargs, hpre, fun r obs' a1 a2 a3 => ?_⟩
      have hl : ldc (hput (nmapS S.st ks nmj) 0 obs' H) (ev fr (.t p)) (n.getD 1) = some cs := by
        rcases Bool.or_eq_true_iff.1 hc with hc | hc
        case inr =>
          have hfix : hput (nmapS S.st ks nmj) 0 (obs.map some) H = H := hput_fix fun j ob hj => by
            have hlt : j < ks.length := by
              have := (List.getElem?_eq_some_iff.1 hj).1
              omega
            obtain ⟨ob', h1, h2⟩ := hobs j ks[j] (List.getElem?_eq_getElem hlt)
            rw [hj] at h1; cases h1
            rw [Nat.zero_add, show nmapS S.st ks nmj j = ks[j] from by unfold nmapS; rw [dif_pos hlt]]
            exact h2
          rw [S.hla hc _ _ _ _ a1, hfix]
          exact hx
        refine ldc_fwd (fun k ob hk hn => ?_) hx
        rw [hput_out fun m _ hm e => ?_]
        · exact hk
        · unfold nmapS at e
          split at e
          · rename_i hlt
            obtain ⟨ob', h1, h2⟩ := hobs m ks[m] (List.getElem?_eq_getElem hlt)
            obtain ⟨T, s, n', rfl⟩ := (S.hta hc).1 _ _ hpre m _ h1
            rw [e, hk] at h2
            cases h2
            exact hn
          · refine hj k (by omega) ?_ (hG.ob k ob hk).1
            show k < nmj + (16 + S.st)
            omega
      simp only [hl]
      exact hK r obs' a1 a2 a3
  · cases hc
theorem opw1_of_hput {o : AO} (hc : cls o < 3) (hG : Good D fr H) {nm : Nat} {ρ : Nat → Nat} : ∀ {l : List (Option Ob)} {i : Nat} {H' : Hp} {rm : Nat} {K : AV → Hp → Nat → Prop}, (∀ k, D k → H' k = H k) → (∀ j, i ≤ j → j < i + l.length → ¬ D (ρ j) ∧ (ρ j < nm ∨ nm + stp o ≤ ρ j)) →
    opw P nm fr (hput ρ i l H') rm K o → opw P nm fr H' rm (fun r H'' rm' => K r (hput ρ i l H'') rm') o
  | [], _, _, _, _, _, _, h => h
  | ob :: l, i, H', rm, K, hag, hj, h => by
    have h1 := opw1_of_hput hc hG (i := i + 1) (fun k hk => (hupd_ne (fun e => (hj i (Nat.le_refl _) (by simp only [List.length_cons]; omega)).1 (by rw [← e]; exact hk))).trans (hag k hk)) (fun j h1 h2 => hj j (by omega) (by simp only [List.length_cons]; omega)) (l := l) (H' := hupd (ρ i) (ob.map (Ob.ren ρ)) H') h
    obtain ⟨h2, h3⟩ := hj i (Nat.le_refl _) (by simp only [List.length_cons]; omega)
    rw [opw_sem hc] at h1 ⊢
    rw [sem_hupd h2 hG hag (by have := stp_pos o; omega) hc] at h1
    revert h1
    cases sem P nm fr H' o with
    | none => exact id
    | some out => cases out <;> exact id
theorem opw_app1 {T sz bytes : Nat} {zs : List Value} {s x : X} {nm : Nat} {K : AV → Hp → Nat → Prop} (h : opw P nm fr H rm K (.app T sz bytes zs s x)) :
    ∃ r H', K r H' rm ∧ (∀ K2 : AV → Hp → Nat → Prop, K2 r H' rm → opw P nm fr H rm K2 (.app T sz bytes zs s x)) ∧ ((∃ y, H' = hupd nm y H) ∨ ∃ y k, H' = hupd nm y (hupd k none H)) := by
  simp only [opw] at h ⊢
  split at h
  · exact h.elim
  · rename_i ys hy
    obtain ⟨h1, h2⟩ := h
    split at h2
    · rename_i k hs
      split at h2
      · rename_i T' s' xs hk
        exact ⟨_, _, h2.2.2.2, fun K2 hK => ⟨h1, h2.1, h2.2.1, h2.2.2.1, hK⟩, .inr ⟨_, k, rfl⟩⟩
      · exact h2.elim
    · rename_i k s' xs hs
      split at h2
      · rename_i T' s'' n hk hz
        exact ⟨_, _, h2.2.2.2.2.2, fun K2 hK => ⟨h1, h2.1, h2.2.1, h2.2.2.1, h2.2.2.2.1, h2.2.2.2.2.1, hK⟩, .inr ⟨_, k, rfl⟩⟩
      · exact h2.elim
    · exact ⟨_, _, h2.2, fun K2 hK => ⟨h1, h2.1, hK⟩, .inl ⟨_, rfl⟩⟩
    · exact h2.elim
theorem at_gone {m k j : Nat} {x : Option Ob} {ob : Ob} (hm : ¬ D m) (hj : D j) (h : hupd m x (hupd k none H) j = some ob) : H j = some ob := by
  have : j ≠ m := fun e => hm (e ▸ hj)
  rw [hupd_ne this] at h
  unfold hupd at h
  split at h
  · cases h
  · exact h
theorem ldc_gone {m k n : Nat} {x : Option Ob} {v : AV} {cs : List AC} (hm : ¬ D m) (hv : okV D v) (h : ldc (hupd m x (hupd k none H)) v n = some cs) : ldc H v n = some cs := by
  unfold ldc at h ⊢
  split at h
  · rename_i j off
    split at h
    · rename_i ds hd
      rw [at_gone hm (show D j from hv) hd]; exact h
    · cases h
  · rename_i j sz i off
    split at h
    · rename_i T s xs hd
      rw [at_gone hm (show D j from hv) hd]; exact h
    · cases h
  · exact h
  · cases h
theorem lenA_gone {m k n : Nat} {x : Option Ob} {v : AV} (hm : ¬ D m) (hv : okV D v) (h : lenA (hupd m x (hupd k none H)) v = some n) : lenA H v = some n := by
  unfold lenA at h ⊢
  split at h <;> try exact h
  · rename_i j
    split at h
    · rename_i T s xs hd
      rw [at_gone hm (show D j from hv) hd]; exact h
    · cases h
  · rename_i j hi
    split at h
    · rename_i T s xs hd
      rw [at_gone hm (show D j from hv) hd]; exact h
    · cases h
theorem idxA_gone {m k sz : Nat} {x : Option Ob} {v i : AV} {H2 : Hp} {out : Out} (hm : ¬ D m) (hv : okV D v) (h : idxA sz v i (hupd m x (hupd k none H)) = some out) : ∃ r, out = .one r (hupd m x (hupd k none H)) ∧ idxA sz v i H = some (.one r H) := by
  unfold idxA at h ⊢
  split at h
  · split at h
    · rename_i hc
      obtain ⟨e, he, rfl⟩ := Option.map_eq_some_iff.1 h
      exact ⟨_, rfl, by simp only [if_pos hc, he, Option.map_some]⟩
    · cases h
  · split at h
    · rename_i hc
      obtain ⟨e, he, rfl⟩ := Option.map_eq_some_iff.1 h
      exact ⟨_, rfl, by simp only [if_pos hc, he, Option.map_some]⟩
    · cases h
  · rename_i j _ _
    split at h
    · rename_i T s xs hd
      split at h
      · rename_i hc
        obtain ⟨e, he, rfl⟩ := Option.map_eq_some_iff.1 h
        exact ⟨_, rfl, by simp only [at_gone hm (show D j from hv) hd, if_pos hc, he, Option.map_some]⟩
      · cases h
    · cases h
  · cases h
/-- What is seen behind an append was seen ahead of it. -/
theorem look_gone {o : AO} (hl : isLk o = true) (hG : Good D fr H) {nm m k : Nat} {x : Option Ob} (hm : ¬ D m) {K : AV → Hp → Nat → Prop} (h : opw P nm fr (hupd m x (hupd k none H)) rm K o) :
    ∃ u, K u (hupd m x (hupd k none H)) rm ∧ ∀ (K2 : AV → Hp → Nat → Prop) (rm2 : Nat), K2 u H rm2 → opw P nm fr H rm2 K2 o := by
  cases o with
  | load n p =>
    simp only [opw, sem] at h ⊢
    cases hx : ldc (hupd m x (hupd k none H)) (ev fr p) (n.getD 1) with
    | none => simp only [hx] at h
    | some cs =>
      simp only [hx] at h
      exact ⟨_, h, fun K2 rm2 hK => by simp only [ldc_gone hm (okV_ev hG p) hx]; exact hK⟩
  | len p =>
    simp only [opw, sem] at h ⊢
    cases hx : lenA (hupd m x (hupd k none H)) (ev fr p) with
    | none => simp only [hx, Option.map_none] at h
    | some n =>
      simp only [hx, Option.map_some] at h
      exact ⟨_, h, fun K2 rm2 hK => by simp only [lenA_gone hm (okV_ev hG p) hx, Option.map_some]; exact hK⟩
  | idx sz p i =>
    simp only [opw, sem] at h ⊢
    cases hx : idxA sz (ev fr p) (ev fr i) (hupd m x (hupd k none H)) with
    | none => simp only [hx] at h
    | some out =>
      obtain ⟨r, rfl, h2⟩ := idxA_gone (H2 := H) hm (okV_ev hG p) hx
      simp only [hx] at h
      exact ⟨_, h, fun K2 rm2 hK => by simp only [h2]; exact hK⟩
  | _ => cases hl
theorem hupd_none_id {k : Nat} (h : H k = none) : hupd k none H = H := by
  funext j
  unfold hupd
  split
  · rename_i e; rw [e, h]
  · rfl
theorem opw_callb {f : Nat} {S : MSpec} {xs : List (X × List (Option Nat))} {nm : Nat} {K : AV → Hp → Nat → Prop} : opw P nm fr H rm K (.callb f S xs) ↔ ValidM P f S ∧ S.cost = 0 ∧ S.pre (borArgs fr H xs) [] ∧ (borArgs fr H xs).all clV = true ∧ (∀ r obs', S.post (borArgs fr H xs) [] r obs' → plainV r ∧ ∀ (j : Nat) ob, obs'[j]? = some (some ob) → plainO ob) ∧
      ∀ r obs', S.post (borArgs fr H xs) [] r obs' → okV (· < obs'.length) r → (∀ (j : Nat) ob, obs'[j]? = some (some ob) → okOb (· < obs'.length) ob) → K (r.ren (nmapS S.st [] nm)) (hput (nmapS S.st [] nm) 0 obs' H) rm := Iff.rfl
theorem opw1_to_hput {o : AO} (hc : cls o < 3) (hG : Good D fr H) {nm : Nat} {ρ : Nat → Nat} : ∀ {l : List (Option Ob)} {i : Nat} {H' : Hp} {rm : Nat} {K : AV → Hp → Nat → Prop}, (∀ k, D k → H' k = H k) → (∀ j, i ≤ j → j < i + l.length → ¬ D (ρ j) ∧ (ρ j < nm ∨ nm + stp o ≤ ρ j)) →
    opw P nm fr H' rm (fun r H'' rm' => K r (hput ρ i l H'') rm') o → opw P nm fr (hput ρ i l H') rm K o
  | [], _, _, _, _, _, _, h => h
  | ob :: l, i, H', rm, K, hag, hj, h => by
    refine opw1_to_hput hc hG (i := i + 1) (l := l) (H' := hupd (ρ i) (ob.map (Ob.ren ρ)) H') (fun k hk => (hupd_ne (fun e => (hj i (Nat.le_refl _) (by simp only [List.length_cons]; omega)).1 (by rw [← e]; exact hk))).trans (hag k hk)) (fun j h1 h2 => hj j (by omega) (by simp only [List.length_cons]; omega)) ?_
    obtain ⟨h2, h3⟩ := hj i (Nat.le_refl _) (by simp only [List.length_cons]; omega)
    rw [opw_sem hc] at h ⊢
    rw [sem_hupd h2 hG hag (by have := stp_pos o; omega) hc]
    revert h
    cases sem P nm fr H' o with
    | none => exact id
    | some out => cases out <;> exact id
/-- Two operations whose order makes no difference: the second may come first. -/
theorem opw_comm {nmi nmj : Nat} {oi oj : AO} {K : AV → AV → Hp → Nat → Prop} (hG : Good D fr H) (hi : ∀ k, nmi ≤ k → k < nmi + stp oi → ¬ D k) (hj : ∀ k, nmj ≤ k → k < nmj + stp oj → ¬ D k) (hd : nmi + stp oi ≤ nmj ∨ nmj + stp oj ≤ nmi) (hc : clsOK oi oj = true)
    (h : opw P nmi fr H rm (fun r H' rm' => opw P nmj fr H' rm' (fun u H'' rm'' => K r u H'' rm'') oj) oi) : opw P nmj fr H rm (fun u H' rm' => opw P nmi fr H' rm' (fun r H'' rm'' => K r u H'' rm'') oi) oj := by
  have pi := stp_pos oi
  have pj := stp_pos oj
  have z0 : cls oi = 0 → opw P nmj fr H rm (fun u H' rm' => opw P nmi fr H' rm' (fun r H'' rm'' => K r u H'' rm'') oi) oj := by
    intro h0
    obtain ⟨x, hx⟩ := opw_cls0 (P := P) (fr := fr) h0
    rw [hx] at h
    cases x with
    | none => exact h.elim
    | some r => exact opw_mono (fun u H' rm' hk => (hx _ _ _ _).2 hk) h
  have z1 : cls oj = 0 → opw P nmj fr H rm (fun u H' rm' => opw P nmi fr H' rm' (fun r H'' rm'' => K r u H'' rm'') oi) oj := by
    intro h0
    obtain ⟨x, hx⟩ := opw_cls0 (P := P) (fr := fr) h0
    rw [hx]
    have h2 := opw_mono (fun r H' rm' hk => (hx _ _ _ _).1 hk) h
    cases x with
    | none => obtain ⟨_, _, _, hf⟩ := opw_inh h2; exact hf.elim
    | some u => exact h2
  have z2 : cls oi = 2 → isCallm oj = false → opw P nmj fr H rm (fun u H' rm' => opw P nmi fr H' rm' (fun r H'' rm'' => K r u H'' rm'') oi) oj := by
    intro h0 hno
    obtain ⟨x, hx⟩ := opw_cls2 (P := P) (fr := fr) (nm := nmi) h0
    rw [hx] at h
    cases x with
    | none => exact h.elim
    | some p =>
      obtain ⟨r, ob⟩ := p
      have h2 := opw_of_hupd (hi nmi (Nat.le_refl _) (by omega)) hG (by omega) (fun f S xs e => by rw [e] at hno; cases hno) h
      exact opw_mono (fun u H' rm' hk => (hx _ _ _).2 hk) h2
  have z3 : cls oj = 2 → opw P nmj fr H rm (fun u H' rm' => opw P nmi fr H' rm' (fun r H'' rm'' => K r u H'' rm'') oi) oj := by
    intro h0
    obtain ⟨x, hx⟩ := opw_cls2 (P := P) (fr := fr) (nm := nmj) h0
    rw [hx]
    have h2 := opw_mono (fun r H' rm' hk => (hx _ _ _).1 hk) h
    cases x with
    | none => obtain ⟨_, _, _, hf⟩ := opw_inh h2; exact hf.elim
    | some p =>
      obtain ⟨u, ob⟩ := p
      exact opw_to_hupd (hj nmj (Nat.le_refl _) (by omega)) hG (by omega) h2
  have z4 : cls oi = 1 → cls oj = 1 → opw P nmj fr H rm (fun u H' rm' => opw P nmi fr H' rm' (fun r H'' rm'' => K r u H'' rm'') oi) oj := by
    intro h0 h1
    obtain ⟨p1, b1, c1, R1, i1, g1, e1⟩ := opw_cls1 (P := P) (fr := fr) (H := H) (nm := nmi) h0
    obtain ⟨p2, b2, c2, R2, i2, g2, e2⟩ := opw_cls1 (P := P) (fr := fr) (H := H) (nm := nmj) h1
    rw [e1] at h
    rw [e2]
    obtain ⟨q1, q2, q3⟩ := h
    obtain ⟨r0, hr0⟩ := i1 q1
    have q4 := (e2 _ _).1 (q3 r0 hr0)
    refine ⟨q4.1, fun hb => by have := q4.2.1 hb; omega, fun u hu => (e1 _ _).2 ⟨q1, fun hb => ?_, fun r hr => ?_⟩⟩
    · cases b2 with
      | true => have := q4.2.1 rfl; omega
      | false => have := q2 hb; have := g2 rfl; omega
    · have q5 := ((e2 _ _).1 (q3 r hr)).2.2 u hu
      rwa [show rm + c2 + c1 = rm + c1 + c2 by omega]
  have z5 : freshM oi = true → cls oj = 1 → opw P nmj fr H rm (fun u H' rm' => opw P nmi fr H' rm' (fun r H'' rm'' => K r u H'' rm'') oi) oj := by
    intro h0 h1
    cases oi with
    | callm f S xs =>
      simp only [opw] at h
      obtain ⟨hv, hlim, ks, args, obs, hnd, hlen, hobs, hargs, hpre, hK⟩ := h
      have ho := S.hnk h0 _ _ hpre
      subst ho
      have hk : ks = [] := List.eq_nil_of_length_eq_zero hlen.symm
      subst hk
      have hA : ∀ r obs', S.post args [] r obs' → okV (· < obs'.length) r → (∀ (j : Nat) ob, obs'[j]? = some (some ob) → okOb (· < obs'.length) ob) →
          opw P nmj fr H (rm + S.cost) (fun u H' rm' => K (r.ren (nmapS S.st [] nmi)) u (hput (nmapS S.st [] nmi) 0 obs' H') rm') oj := fun r obs' q1 q2 q3 =>
        opw1_of_hput (by omega) hG (fun _ _ => rfl) (fun j _ hj2 => by
          have e : nmapS S.st [] nmi j = nmi + min j (15 + S.st) := by simp [nmapS]
          have hst : stp (.callm f S xs) = 16 + S.st := rfl
          simp only [hst] at hi hd
          rw [e]
          exact ⟨hi _ (by omega) (by omega), by omega⟩) (hK r obs' q1 q2 q3)
      obtain ⟨p2, b2, c2, R2, i2, g2, e2⟩ := opw_cls1 (P := P) (fr := fr) (H := H) (nm := nmj) h1
      obtain ⟨r0, obs0, q1, q2, q3⟩ := S.inh _ _ hpre
      have a0 := (e2 _ _).1 (hA r0 obs0 q1 q2 q3)
      refine (e2 _ _).2 ⟨a0.1, fun hb => by have := a0.2.1 hb; omega, fun u hu => ?_⟩
      simp only [opw]
      refine ⟨hv, ?_, [], args, [], hnd, hlen, hobs, hargs, hpre, fun r obs' q1 q2 q3 => ?_⟩
      · cases b2 with
        | true => have := a0.2.1 rfl; omega
        | false => have := g2 rfl; omega
      · have a1 := ((e2 _ _).1 (hA r obs' q1 q2 q3)).2.2 u hu
        rwa [show rm + c2 + S.cost = rm + S.cost + c2 by omega]
    | _ => cases h0
  have z7 : cls oi = 1 → freshJ oj = true → opw P nmj fr H rm (fun u H' rm' => opw P nmi fr H' rm' (fun r H'' rm'' => K r u H'' rm'') oi) oj := by
    intro h0 h1
    obtain ⟨p1, b1, c1, R1, i1, g1, e1⟩ := opw_cls1 (P := P) (fr := fr) (H := H) (nm := nmi) h0
    rw [e1] at h
    obtain ⟨q1, q2, q3⟩ := h
    obtain ⟨r0, hr0⟩ := i1 q1
    cases oj with
    | callo f S xs =>
      have q4 := opw_callo.1 (q3 r0 hr0)
      rw [opw_callo]
      refine ⟨q4.1, opw_to_hupd (hj nmj (Nat.le_refl _) (by omega)) hG (by omega) ?_⟩
      rw [e1]
      exact ⟨q1, q2, fun r hr => (opw_callo.1 (q3 r hr)).2⟩
    | callb f S xs =>
      have q4 := opw_callb.1 (q3 r0 hr0)
      refine opw_callb.2 ⟨q4.1, q4.2.1, q4.2.2.1, q4.2.2.2.1, q4.2.2.2.2.1, fun u obs' a1 a2 a3 => ?_⟩
      have hst : stp (.callb f S xs) = 16 + S.st := rfl
      simp only [hst] at hj hd
      refine opw1_to_hput (show cls oi < 3 by omega) hG (fun _ _ => rfl) (fun j _ hj2 => ?_) ?_
      · have e : nmapS S.st [] nmj j = nmj + min j (15 + S.st) := by simp [nmapS]
        rw [e]
        exact ⟨hj _ (by omega) (by omega), by omega⟩
      · rw [e1]
        refine ⟨q1, q2, fun r hr => ?_⟩
        exact (opw_callb.1 (q3 r hr)).2.2.2.2.2 u obs' a1 a2 a3
    | _ => cases h1
  have z6 : isApp oi = true → isLk oj = true → opw P nmj fr H rm (fun u H' rm' => opw P nmi fr H' rm' (fun r H'' rm'' => K r u H'' rm'') oi) oj := by
    intro h0 h1
    cases oi with
    | app T sz bytes zs s x =>
      obtain ⟨r, H', hK, hback, hform⟩ := opw_app1 h
      have hni : ¬ D nmi := hi nmi (Nat.le_refl _) (by omega)
      rcases hform with ⟨y, rfl⟩ | ⟨y, k, rfl⟩
      · have hnone : H nmi = none := by
          cases hh : H nmi with
          | none => rfl
          | some ob => exact absurd (hG.ob _ _ hh).1 hni
        rw [← hupd_none_id hnone] at hK
        obtain ⟨u, hk, hl⟩ := look_gone h1 hG hni hK
        rw [hupd_none_id hnone] at hk
        exact hl _ _ (hback (fun r H' rm => K r u H' rm) hk)
      · obtain ⟨u, hk, hl⟩ := look_gone h1 hG hni hK
        exact hl _ _ (hback (fun r H' rm => K r u H' rm) hk)
    | _ => cases h0
  have z8 : isCallo oi = true → cls oj = 1 → opw P nmj fr H rm (fun u H' rm' => opw P nmi fr H' rm' (fun r H'' rm'' => K r u H'' rm'') oi) oj := by
    intro h0 h1
    cases oi with
    | callo f S xs =>
      obtain ⟨q1, q2⟩ := opw_callo.1 h
      obtain ⟨p2, b2, c2, R2, i2, g2, e2⟩ := opw_cls1 (P := P) (fr := fr) (H := H) (nm := nmj) h1
      have h2 := (e2 _ _).1 (opw_of_hupd (hi nmi (Nat.le_refl _) (by omega)) hG (by omega) (fun f S xs e => by rw [e] at h1; cases h1) q2)
      exact (e2 _ _).2 ⟨h2.1, h2.2.1, fun u hu => opw_callo.2 ⟨q1, h2.2.2 u hu⟩⟩
    | _ => cases h0
  simp only [clsOK, Bool.or_eq_true, beq_iff_eq, Bool.and_eq_true, decide_eq_true_eq, Bool.not_eq_true'] at hc
  rcases hc with (((((((h0 | h0) | h0) | h0) | h0) | h0) | h0) | h0) | h0
  · exact z8 h0.1 h0.2
  · exact z7 h0.1 h0.2
  · exact z6 h0.1 h0.2
  · exact z5 h0.1 h0.2
  · exact z0 h0
  · exact z1 h0
  · have : cls oj = 0 ∨ cls oj = 1 ∨ cls oj = 2 := by omega
    rcases this with h1 | h1 | h1
    · exact z1 h1
    · exact z4 h0.1 h1
    · exact z3 h1
  · exact z2 h0.1 h0.2
  · exact z3 h0.2
theorem st1_comm {nmi nmj : Nat} {i j : Op1} {ps : List (Nat × Nat)} (hA : Apart fr ps) (hG : Good D fr H) (hi : ∀ k, nmi ≤ k → k < nmi + stp i.o → ¬ D k) (hj : ∀ k, nmj ≤ k → k < nmj + stp j.o → ¬ D k) (hd : nmi + stp i.o ≤ nmj ∨ nmj + stp j.o ≤ nmi) (hind : indep ps i j = true)
    (h : st1 P nmi i (st1 P nmj j K) fr H rm) : st1 P nmj j (st1 P nmi i K) fr H rm := by
  simp only [indep, apart1, Bool.and_eq_true, Bool.or_eq_true] at hind
  obtain ⟨⟨⟨a1, a2⟩, a3⟩, hc⟩ := hind
  have mi : ∀ v, mode (updo j.d v fr) i.g = mode fr i.g := fun v => mode_put a3
  have mj : ∀ v, mode (updo i.d v fr) j.g = mode fr j.g := fun v => mode_put a1
  have fi : ∀ v nm H rm K, opw P nm (updo j.d v fr) H rm K i.o ↔ opw P nm fr H rm K i.o := fun v nm H rm K => opw_fr (ev_put a3)
  have fj : ∀ v nm H rm K, opw P nm (updo i.d v fr) H rm K j.o ↔ opw P nm fr H rm K j.o := fun v nm H rm K => opw_fr (ev_put a1)
  have cm : ∀ u v, updo i.d u (updo j.d v fr) = updo j.d v (updo i.d u fr) := fun u v => updo_comm a2
  unfold st1 at h ⊢
  simp only [mi, mj, fi, fj] at h ⊢
  cases hmi : mode fr i.g with
  | none => simp only [hmi] at h
  | some bi =>
    cases bi with
    | true =>
      simp only [hmi] at h ⊢
      cases hmj : mode fr j.g with
      | none => simp only [hmj] at h; obtain ⟨_, _, _, hf⟩ := opw_inh h; exact hf.elim
      | some bj =>
        cases bj with
        | true =>
          simp only [hmj] at h ⊢
          have := hc.elim (fun hc => opw_comm (K := fun r u H'' rm'' => K (updo j.d u (updo i.d r fr)) H'' rm'') hG hi hj hd hc h) (fun hc => ldst_comm hG hj (K := fun r u H'' rm'' => K (updo j.d u (updo i.d r fr)) H'' rm'') hA hc h)
          simpa only [cm] using this
        | false =>
          simp only [hmj] at h ⊢
          simpa only [cm] using h
    | false =>
      simp only [hmi] at h ⊢
      cases hmj : mode fr j.g with
      | none => simp only [hmj] at h
      | some bj =>
        cases bj with
        | true =>
          simp only [hmj] at h ⊢
          simpa only [cm] using h
        | false =>
          simp only [hmj] at h ⊢
          simpa only [cm] using h
end
end Av
end Go.Proofs.Ytdboofnogabefaa
/- Layer Av, part 22: regions: one walk of the lexical order serves every order; the check of a region, its soundness. -/
namespace Go.Proofs.Ytdboofnogabefaa
namespace Av
open Go.RowKit
/-- The names that stand ahead of an operation's own. -/
def off (ops : List Op1) (i : Nat) : Nat := tot (ops.take i)
theorem tot_app : ∀ (l m : List Op1), tot (l ++ m) = tot l + tot m
  | [], m => by simp [tot]
  | o :: l, m => by simp only [List.cons_append, tot, tot_app l m]; omega
theorem off_succ {ops : List Op1} {i : Nat} {o : Op1} (h : ops[i]? = some o) : off ops (i + 1) = off ops i + stp o.o := by
  unfold off
  rw [List.take_add_one, h, tot_app]; rfl
theorem off_mono (ops : List Op1) {i j : Nat} (h : i ≤ j) : off ops i ≤ off ops j := by
  unfold off
  have : ops.take j = ops.take i ++ (ops.take j).drop i := by
    conv => lhs; rw [← List.take_append_drop i (ops.take j)]
    rw [List.take_take, Nat.min_eq_left h]
  rw [this, tot_app]; omega
theorem off_tot (ops : List Op1) (i : Nat) : off ops i ≤ tot ops := by
  have h : tot ops = off ops i + tot (ops.drop i) := by unfold off; rw [← tot_app, List.take_append_drop]
  omega
theorem off_disj {ops : List Op1} {nx i j k : Nat} (hij : i ≠ j) (h1 : nx + off ops j ≤ k) (h2 : k < nx + off ops (j + 1)) (h3 : nx + off ops i ≤ k) (h4 : k < nx + off ops (i + 1)) : False := by
  rcases Nat.lt_or_gt_of_ne hij with h | h
  · have := off_mono ops (show i + 1 ≤ j from h); omega
  · have := off_mono ops (show j + 1 ≤ i from h); omega
def aOp (P : Program) (ops1 : List Op1) (nx i : Nat) (K : KE) (fr : Env) (H : Hp) (rm : Nat) : Prop :=
  match ops1[i]? with
  | none => K fr H rm
  | some op => st1 P (nx + off ops1 i) op K fr H rm
/-- Whatever order is picked. -/
def AA (P : Program) (md : Region.Mode) (ops : Array Oper) (ops1 : List Op1) (nx : Nat) (Q : KE) : Nat → Array Bool → KE
  | 0, listed, fr, H, rm => Region.ready md ops listed = [] ∧ Q fr H rm
  | fuel + 1, listed, fr, H, rm => (Region.ready md ops listed = [] → Q fr H rm) ∧
      ∀ i ∈ Region.ready md ops listed, aOp P ops1 nx i (AA P md ops ops1 nx Q fuel (listed.setIfInBounds i true)) fr H rm
/-- Which operations wait for one of these, at once or through others. -/
def reachL (md : Region.Mode) (ops : Array Oper) : Nat → Nat → List Nat → List Nat
  | 0, _, acc => acc
  | fuel + 1, k, acc => match ops[k]? with
    | some o => if o.after.any (fun e => Region.binds md e && acc.contains e.on) then reachL md ops fuel (k + 1) (k :: acc) else reachL md ops fuel (k + 1) acc
    | none => acc
def freeW (ops : Array Oper) (ops1 : List Op1) (ps : List (Nat × Nat)) (listed : Array Bool) (i : Nat) (oi : Op1) (R : List Nat) : Bool :=
  (List.range ops.size).all fun j => j == i || listed.getD j true || R.contains j || match ops1[j]? with
      | some pj => indep ps oi pj
      | none => true
def freeA (md : Region.Mode) (ops : Array Oper) (ops1 : List Op1) (ps : List (Nat × Nat)) (listed : Array Bool) (i : Nat) : Bool :=
  match ops1[i]? with
  | none => false
  | some oi => freeW ops ops1 ps listed i oi (reachL md ops ops.size 0 [i])
/-- Slots of pointers to parts of what is known to be apart. -/
def fldNew (ps : List (Nat × Nat)) : Option Op1 → List (Nat × Nat)
  | some ⟨some p, none, .fld _ (.t s)⟩ => ps.filterMap fun x => if x.1 == s && p != s then (if x.2 == s then some (p, p) else if x.2 != p then some (p, x.2) else none) else none
  | _ => []
abbrev sls (ps : List (Nat × Nat)) : List Nat := ps.map (·.1) ++ ps.map (·.2)
def unsetA (ops1 : List Op1) (ps : List (Nat × Nat)) (listed : Array Bool) : Bool :=
  (List.range ops1.length).all fun j => listed.getD j true || match ops1[j]? with
    | some pj => dOut pj.d (sls ps)
    | none => true
def lexA (md : Region.Mode) (ops : Array Oper) (ops1 : List Op1) : List (Nat × Nat) → Nat → Nat → Array Bool → Bool
  | _, 0, _, listed => (Region.ready md ops listed).isEmpty
  | ps, fuel + 1, k, listed => (Region.ready md ops listed).contains k && freeA md ops ops1 ps listed k && (match fldNew ps ops1[k]? with
      | [] => lexA md ops ops1 ps fuel (k + 1) (listed.setIfInBounds k true)
      | q :: r => unsetA ops1 (q :: r ++ ps) (listed.setIfInBounds k true) && lexA md ops ops1 (q :: r ++ ps) fuel (k + 1) (listed.setIfInBounds k true))
/-- What is listed has all ahead of it listed. -/
def Closed (md : Region.Mode) (ops : Array Oper) (listed : Array Bool) : Prop :=
  ∀ (j : Nat) oj, ops[j]? = some oj → listed.getD j false = true → ∀ e ∈ oj.after, Region.binds md e = true → listed.getD e.on false = true
theorem Closed.step {md : Region.Mode} {ops : Array Oper} {listed : Array Bool} (h : Closed md ops listed) {i : Nat} (hi : i ∈ Region.ready md ops listed) : Closed md ops (listed.setIfInBounds i true) := by
  intro j oj hj hl e he hb
  obtain ⟨_, oi, hoi, hall⟩ := mem_ready.1 hi
  by_cases hji : i = j
  · subst hji
    rw [hoi] at hj; cases hj
    exact getD_set_true (hall e he hb)
  · rw [getD_set_ne false hji] at hl
    exact getD_set_true (h j oj hj hl e he hb)
theorem reachL_un {md : Region.Mode} {ops : Array Oper} {listed : Array Bool} (h : Closed md ops listed) : ∀ (fuel k : Nat) (acc : List Nat), (∀ m ∈ acc, listed.getD m false = false) → ∀ m ∈ reachL md ops fuel k acc, listed.getD m false = false
  | 0, _, acc, ha => ha
  | fuel + 1, k, acc, ha => by
    unfold reachL
    split
    · rename_i o ho
      split
      · rename_i hany
        refine reachL_un h fuel (k + 1) (k :: acc) fun m hm => ?_
        cases hm with
        | head =>
          obtain ⟨e, he, hb⟩ := Array.any_eq_true'.1 hany
          simp only [Bool.and_eq_true, List.contains_eq_mem, decide_eq_true_eq] at hb
          cases hl : listed.getD k false with
          | false => rfl
          | true => have := h k o ho hl e he hb.1; rw [ha _ hb.2] at this; cases this
        | tail _ hm => exact ha m hm
      · exact reachL_un h fuel (k + 1) acc ha
    · exact ha
theorem reachL_why {md : Region.Mode} {ops : Array Oper} (i : Nat) : ∀ (fuel k : Nat) (acc R : List Nat), reachL md ops fuel k acc = R → (∀ m ∈ acc, m ∈ R) ∧ ((∀ m ∈ acc, m = i ∨ ∃ o, ops[m]? = some o ∧ ∃ e ∈ o.after, Region.binds md e = true ∧ e.on ∈ R) → ∀ m ∈ R, m = i ∨ ∃ o, ops[m]? = some o ∧ ∃ e ∈ o.after, Region.binds md e = true ∧ e.on ∈ R)
  | 0, _, acc, R, h => by
    unfold reachL at h; subst h
    exact ⟨fun m h => h, fun h => h⟩
  | fuel + 1, k, acc, R, h => by
    unfold reachL at h
    split at h
    · rename_i o ho
      split at h
      · rename_i hany
        obtain ⟨i1, i2⟩ := reachL_why i fuel (k + 1) (k :: acc) R h
        refine ⟨fun m hm => i1 m (List.mem_cons_of_mem _ hm), fun hq => i2 fun m hm => ?_⟩
        cases hm with
        | head =>
          obtain ⟨e, he, hb⟩ := Array.any_eq_true'.1 hany
          simp only [Bool.and_eq_true, List.contains_eq_mem, decide_eq_true_eq] at hb
          exact .inr ⟨o, ho, e, he, hb.1, i1 _ (List.mem_cons_of_mem _ hb.2)⟩
        | tail _ hm => exact hq m hm
      · exact reachL_why i fuel (k + 1) acc R h
    · subst h
      exact ⟨fun m h => h, fun h => h⟩
section
variable {P : Program} {md : Region.Mode} {ops : Array Oper} {ops1 : List Op1} {ps : List (Nat × Nat)} {nx : Nat} {Q : KE} {fr : Env} {H : Hp} {rm n : Nat} {D : Nat → Prop}
abbrev nmsOut (nx : Nat) (ops1 : List Op1) (listed : Array Bool) (D : Nat → Prop) : Prop := ∀ j, listed.getD j true = false → ∀ k, nx + off ops1 j ≤ k → k < nx + off ops1 (j + 1) → ¬ D k
abbrev withI (D : Nat → Prop) (nx : Nat) (ops1 : List Op1) (i : Nat) : Nat → Prop := fun k => D k ∨ (nx + off ops1 i ≤ k ∧ k < nx + off ops1 (i + 1))
theorem nmsOut_step {listed : Array Bool} {i : Nat} (h : nmsOut nx ops1 listed D) : nmsOut nx ops1 (listed.setIfInBounds i true) (withI D nx ops1 i) := by
  intro j hj k h1 h2
  have hji : i ≠ j := by
    intro e; subst e
    rcases Nat.lt_or_ge i listed.size with h' | h'
    · simp [h'] at hj
    · simp [Array.getElem?_eq_none h'] at hj
  rw [getD_set_ne true hji] at hj
  rintro (hk | ⟨h3, h4⟩)
  · exact h j hj k h1 h2 hk
  · exact off_disj hji h1 h2 h3 h4
theorem aOp_mono {i : Nat} {K K' : KE} (h : ∀ fr H rm, K fr H rm → K' fr H rm) (hs : aOp P ops1 nx i K fr H rm) : aOp P ops1 nx i K' fr H rm := by
  unfold aOp at hs ⊢
  split <;> rename_i q <;> simp only [q] at hs
  · exact h _ _ _ hs
  · exact st1_mono h hs
/-- What is not yet done sets none of these slots. -/
abbrev psU (ops1 : List Op1) (ps : List (Nat × Nat)) (listed : Array Bool) : Prop := ∀ j pj, ops1[j]? = some pj → listed.getD j true = false → dOut pj.d (sls ps) = true
theorem psU_step {listed : Array Bool} {i : Nat} (h : psU ops1 ps listed) : psU ops1 ps (listed.setIfInBounds i true) := by
  intro j pj hp hl
  refine h j pj hp ?_
  by_cases hij : i = j
  · subst hij
    rcases Nat.lt_or_ge i listed.size with h' | h'
    · simp [h'] at hl
    · simp [Array.getElem?_eq_none h'] at hl
  · rwa [getD_set_ne true hij] at hl
theorem unset_spec {listed : Array Bool} (h : unsetA ops1 ps listed = true) : psU ops1 ps listed := by
  intro j pj hp hl
  simp only [unsetA, List.all_eq_true, List.mem_range] at h
  have h1 := h j (List.getElem?_eq_some_iff.1 hp).1
  simpa only [hl, hp, Bool.false_or] using h1
theorem Apart_of {fr : Env} : ∀ {l : List (Nat × Nat)}, (∀ p q, (p, q) ∈ l → ∃ k o k' o', fr p = .w (.o (.ptr k o)) ∧ fr q = .w (.o (.ptr k' o')) ∧ (k ≠ k' ∨ p = q)) → Apart fr l
  | [], _ => trivial
  | (p, q) :: l, h => by
    obtain ⟨k, o, k', o', e1, e2, h1⟩ := h p q List.mem_cons_self
    refine ⟨?_, Apart_of fun p q hm => h p q (List.mem_cons_of_mem _ hm)⟩
    rw [e1, e2]; exact h1
theorem Apart_app {fr : Env} : ∀ {l m : List (Nat × Nat)}, Apart fr l → Apart fr m → Apart fr (l ++ m)
  | [], _, _, h => h
  | _ :: _, _, h, h' => ⟨h.1, Apart_app h.2 h'⟩
theorem aOp_good {i : Nat} {K : KE} (hps : ∀ op, ops1[i]? = some op → dOut op.d (sls ps) = true) (hA : Apart fr ps) (hG : Good D fr H) (hs : aOp P ops1 nx i K fr H rm) : aOp P ops1 nx i (fun fr' H' rm' => K fr' H' rm' ∧ Good (withI D nx ops1 i) fr' H' ∧ Apart fr' ps) fr H rm := by
  unfold aOp at hs ⊢
  split <;> rename_i q <;> simp only [q] at hs
  · exact ⟨hs, ⟨fun t => okV_mono (fun _ h => .inl h) (hG.fr t), HG_mono (fun _ h => .inl h) hG.ob⟩, hA⟩
  · refine st1_mono (fun fr' H' rm' ⟨h1, h2, v, h3⟩ => ⟨h1, (by show Good (fun k => D k ∨ (nx + off ops1 i ≤ k ∧ k < nx + off ops1 (i + 1))) _ _; rw [off_succ q, ← Nat.add_assoc]; exact h2), ?_⟩) (st1_good hG hs)
    rw [h3]; exact Apart_put (hps _ q) hA
theorem fldNew_none (ps : List (Nat × Nat)) {d : Option Nat} {g : Option (Nat × Bool)} {o : AO} (h : ∀ p off s, ¬ (d = some p ∧ g = none ∧ o = .fld off (.t s))) : fldNew ps (some ⟨d, g, o⟩) = [] := by
  unfold fldNew
  split
  · rename_i e
    simp only [Option.some.injEq, Op1.mk.injEq] at e
    exact absurd e (h _ _ _)
  · rfl
/-- Such an operation, and what is then known to be apart. -/
theorem aOp_fld {i : Nat} {K : KE} {op : Op1} (h0 : ops1[i]? = some op) (hps : dOut op.d (sls ps) = true) (hA : Apart fr ps) (hs : aOp P ops1 nx i K fr H rm) (hk : ∀ fr' H' rm', K fr' H' rm' → Apart fr' ps) :
    aOp P ops1 nx i (fun fr' H' rm' => K fr' H' rm' ∧ Apart fr' (fldNew ps (some op) ++ ps)) fr H rm := by
  obtain ⟨d, g, o⟩ := op
  by_cases hn : ∃ p off s, d = some p ∧ g = none ∧ o = .fld off (.t s)
  · obtain ⟨p, off, s, rfl, rfl, rfl⟩ := hn
    cases hf : fldNew ps (some ⟨some p, none, .fld off (.t s)⟩) with
    | nil => exact aOp_mono (fun fr' H' rm' h => ⟨h, hk _ _ _ h⟩) hs
    | cons x0 r0 =>
      rw [← hf]
      have hx0 : x0 ∈ fldNew ps (some ⟨some p, none, .fld off (.t s)⟩) := by rw [hf]; exact List.mem_cons_self
      have hget : ∀ a b, (a, b) ∈ fldNew ps (some ⟨some p, none, .fld off (.t s)⟩) → a = p ∧ p ≠ s ∧ ((b = p ∧ ps.contains (s, s) = true) ∨ (b ≠ p ∧ b ≠ s ∧ ps.contains (s, b) = true)) := by
        intro a b hm
        simp only [fldNew, List.mem_filterMap] at hm
        obtain ⟨⟨u, v⟩, hu, he⟩ := hm
        split at he
        · rename_i hc
          simp only [Bool.and_eq_true, beq_iff_eq, bne_iff_ne, ne_eq] at hc
          obtain ⟨rfl, hps⟩ := hc
          split at he
          · rename_i hv
            simp only [beq_iff_eq] at hv
            subst hv
            simp only [Option.some.injEq, Prod.mk.injEq] at he
            obtain ⟨rfl, rfl⟩ := he
            exact ⟨rfl, hps, .inl ⟨rfl, by simpa using hu⟩⟩
          · rename_i hv
            split at he
            · rename_i hw
              simp only [beq_iff_eq, bne_iff_ne, ne_eq] at hv hw
              simp only [Option.some.injEq, Prod.mk.injEq] at he
              obtain ⟨rfl, rfl⟩ := he
              exact ⟨rfl, hps, .inr ⟨hw, hv, by simpa using hu⟩⟩
            · cases he
        · cases he
      obtain ⟨a0, b0⟩ := x0
      obtain ⟨k, o1, e1⟩ : ∃ k o1, fr s = .w (.o (.ptr k o1)) := by
        rcases (hget _ _ hx0).2.2 with ⟨_, h4⟩ | ⟨_, _, h4⟩
        · obtain ⟨k, o1, -, -, e1, -, -⟩ := Apart_at hA h4; exact ⟨k, o1, e1⟩
        · obtain ⟨k, o1, -, -, e1, -, -⟩ := Apart_at hA h4; exact ⟨k, o1, e1⟩
      have e1' : ev fr (.t s) = .w (.o (.ptr k o1)) := e1
      unfold aOp st1 at hs ⊢
      simp only [h0, mode, opw, sem, e1', fldA] at hs ⊢
      refine ⟨hs, Apart_app (Apart_of fun a b hm => ?_) (hk _ _ _ hs)⟩
      have hat : updo (some p) (.w (.o (.ptr k (o1 + off)))) fr p = .w (.o (.ptr k (o1 + off))) := by show upd _ _ _ _ = _; unfold upd; rw [if_pos rfl]
      obtain ⟨rfl, h2, ⟨rfl, h4⟩ | ⟨h3, h3', h4⟩⟩ := hget a b hm
      · exact ⟨k, o1 + off, k, o1 + off, hat, hat, .inr rfl⟩
      · obtain ⟨k2, o2, k', o', g1, g2, g3⟩ := Apart_at hA h4
        rw [e1] at g1
        cases g1
        exact ⟨k, o1 + off, k', o', hat, by show upd _ _ _ _ = _; unfold upd; rw [if_neg h3]; exact g2, .inl (g3.resolve_right (Ne.symm h3'))⟩
  · rw [fldNew_none ps (fun p off s h => hn ⟨p, off, s, h⟩)]
    exact aOp_mono (fun fr' H' rm' h => ⟨h, hk _ _ _ h⟩) hs
theorem AA_first (hlen : ops1.length = ops.size) {i : Nat} {oi : Op1} (hi : ops1[i]? = some oi) : ∀ (fuel : Nat) (listed : Array Bool) (fr : Env) (H : Hp) (rm : Nat) (D : Nat → Prop),
    (∀ j pj, ops1[j]? = some pj → j < ops.size → j ≠ i → listed.getD j true = false → j ∉ reachL md ops ops.size 0 [i] → indep ps oi pj = true) → Closed md ops listed → psU ops1 ps listed →
    i ∈ Region.ready md ops listed → Apart fr ps → Good D fr H → nmsOut nx ops1 listed D →
    aOp P ops1 nx i (AA P md ops ops1 nx Q fuel (listed.setIfInBounds i true)) fr H rm → AA P md ops ops1 nx Q (fuel + 1) listed fr H rm := by
  intro fuel
  induction fuel with
  | zero =>
    intro listed fr H rm D _ _ _ hr _ _ _ h
    refine ⟨fun h => (by rw [h] at hr; cases hr), fun j hj => ?_⟩
    by_cases hji : j = i
    · subst hji; exact h
    · have hne := ready_mono hj hji
      exfalso
      have h2 : aOp P ops1 nx i (fun _ _ _ => False) fr H rm := aOp_mono (fun fr H rm ⟨h3, _⟩ => by rw [h3] at hne; cases hne) h
      unfold aOp at h2
      simp only [hi] at h2
      unfold st1 at h2
      revert h2
      split
      · exact id
      · intro h2; obtain ⟨_, _, _, hf⟩ := opw_inh h2; exact hf
      · exact id
  | succ fuel ih =>
    intro listed fr H rm D hfree hcl hps hr hA hG hn h
    refine ⟨fun h => (by rw [h] at hr; cases hr), fun j hj => ?_⟩
    by_cases hji : j = i
    · subst hji; exact h
    · obtain ⟨hjun, oj, hoj, hall⟩ := mem_ready.1 hj
      have hiun := (mem_ready.1 hr).1
      have hjlt : j < ops.size := (Array.getElem?_eq_some_iff.1 hoj).1
      have hpj : ops1[j]? = some ops1[j] := List.getElem?_eq_getElem (by omega)
      have hnot : j ∉ reachL md ops ops.size 0 [i] := by
        intro hjr
        have hun := reachL_un hcl ops.size 0 [i] (fun m hm => by
          simp only [List.mem_singleton] at hm; subst hm
          rcases Nat.lt_or_ge m listed.size with h' | h'
          · simpa [h'] using hiun
          · simp [Array.getElem?_eq_none h'])
        rcases (reachL_why (md := md) (ops := ops) i ops.size 0 [i] _ rfl).2 (fun m hm => .inl (by simpa using hm)) j hjr with e | ⟨o, ho, e, he, hb, hon⟩
        · exact hji e
        · rw [hoj] at ho; cases ho
          have h1 := hall e he hb
          rw [hun _ hon] at h1; cases h1
      have hind := hfree j _ hpj hjlt hji hjun hnot
      have h1 : aOp P ops1 nx i (aOp P ops1 nx j (AA P md ops ops1 nx Q fuel ((listed.setIfInBounds i true).setIfInBounds j true))) fr H rm :=
        aOp_mono (fun fr H rm h2 => h2.2 j (ready_mono hj hji)) h
      have h2 : aOp P ops1 nx j (aOp P ops1 nx i (AA P md ops ops1 nx Q fuel ((listed.setIfInBounds i true).setIfInBounds j true))) fr H rm := by
        unfold aOp at h1 ⊢
        simp only [hi, hpj] at h1 ⊢
        have ei := off_succ hi
        have ej := off_succ hpj
        refine st1_comm hA hG (fun k h3 h4 => hn i hiun k h3 (by omega)) (fun k h3 h4 => hn j hjun k h3 (by omega)) ?_ hind h1
        rcases Nat.lt_or_gt_of_ne hji with h3 | h3
        · have := off_mono ops1 (show j + 1 ≤ i from h3); omega
        · have := off_mono ops1 (show i + 1 ≤ j from h3); omega
      refine aOp_mono (fun fr' H' rm' h3 => ?_) (aOp_good (fun op ho => hps j op ho hjun) hA hG h2)
      refine ih (listed.setIfInBounds j true) fr' H' rm' (withI D nx ops1 j) (fun k pk hpk hkl hki hun hno => ?_) (hcl.step hj) (psU_step hps) (ready_mono hr (Ne.symm hji)) h3.2.2 h3.2.1 (nmsOut_step hn) ?_
      · refine hfree k pk hpk hkl hki ?_ hno
        by_cases hjk : j = k
        · subst hjk; exact hjun
        · rw [getD_set_ne true hjk] at hun; exact hun
      · rw [Array.setIfInBounds_comm _ _ hji]; exact h3.1
theorem freeA_spec {i : Nat} {oi : Op1} {listed : Array Bool} (hi : ops1[i]? = some oi) (h : freeA md ops ops1 ps listed i = true) (j : Nat) (pj : Op1)
    (hpj : ops1[j]? = some pj) (hjl : j < ops.size) (hne : j ≠ i) (hun : listed.getD j true = false) (hno : j ∉ reachL md ops ops.size 0 [i]) :
    indep ps oi pj = true := by
  simp only [freeA, hi, freeW, List.all_eq_true, List.mem_range] at h
  have h1 := h j hjl
  simpa only [hpj, Bool.or_eq_true, beq_iff_eq, hne, false_or, hun, Bool.false_eq_true, List.contains_eq_mem, decide_eq_true_eq, hno] using h1
theorem AA_lex (hlen : ops1.length = ops.size) : ∀ (l : List Op1) (ps : List (Nat × Nat)) (k : Nat) (listed : Array Bool) (fr : Env) (H : Hp) (rm : Nat) (D : Nat → Prop), (∀ j, l[j]? = ops1[k + j]?) →
    lexA md ops ops1 ps l.length k listed = true → Closed md ops listed → psU ops1 ps listed → Apart fr ps → Good D fr H → nmsOut nx ops1 listed D → seqw P Q l (nx + off ops1 k) fr H rm → AA P md ops ops1 nx Q l.length listed fr H rm
  | [], _, _, _, _, _, _, _, _, hB, _, _, _, _, _, h => ⟨by simpa [lexA] using hB, h⟩
  | o :: l, ps, k, listed, fr, H, rm, D, hl, hB, hcl, hps, hA, hG, hn, h => by
    have h0 : ops1[k]? = some o := by simpa using (hl 0).symm
    simp only [List.length_cons, lexA, Bool.and_eq_true] at hB
    obtain ⟨⟨hr, hf⟩, hB'⟩ := hB
    have h1 : aOp P ops1 nx k (fun fr' H' rm' => seqw P Q l (nx + off ops1 (k + 1)) fr' H' rm') fr H rm := by
      unfold aOp
      simp only [h0]
      have := seqw_cons o l |>.1 h
      rwa [show nx + off ops1 k + stp o.o = nx + off ops1 (k + 1) from by rw [off_succ h0]; omega] at this
    have hr' : k ∈ Region.ready md ops listed := by simpa using hr
    have hun : listed.getD k true = false := (mem_ready.1 hr').1
    refine AA_first hlen h0 l.length listed fr H rm D (freeA_spec h0 hf) hcl hps hr' hA hG hn ?_
    have h2 := aOp_fld h0 (hps k o h0 hun) hA (aOp_good (fun op ho => hps k op ho hun) hA hG h1) (fun _ _ _ h => h.2.2)
    refine aOp_mono (fun fr' H' rm' ⟨⟨h2, h3, _⟩, h4⟩ => ?_) h2
    rw [h0] at hB'
    cases hf : fldNew ps (some o) with
    | nil =>
      rw [hf] at hB' h4
      exact AA_lex hlen l ps (k + 1) _ fr' H' rm' _ (fun j => by have := hl (j + 1); simpa [Nat.add_assoc, Nat.add_comm 1 j] using this) hB' (hcl.step hr') (psU_step hps) h4 h3 (nmsOut_step hn) h2
    | cons q r =>
      rw [hf] at hB' h4
      simp only [Bool.and_eq_true] at hB'
      exact AA_lex hlen l _ (k + 1) _ fr' H' rm' _ (fun j => by have := hl (j + 1); simpa [Nat.add_assoc, Nat.add_comm 1 j] using this) hB'.2 (hcl.step hr') (unset_spec hB'.1) h4 h3 (nmsOut_step hn) h2
/-! ### down to the machine -/
def chk1 (P : Program) (n : Nat) (ops : Array Oper) (o : Oper) (op : Op1) : Bool :=
  o.dst == op.d && (match op.d with | some d => decide (d < n) | none => true) &&
  (match o.guard, op.g with
    | none, none => true
    | some (j, w), some (s, w') => w == w' && (match ops[j]? with | some oj => oj.dst == some s | none => false)
    | _, _ => false) && chk P o op.o
def chkL (P : Program) (n : Nat) (ops : Array Oper) : List Oper → List Op1 → Bool
  | [], [] => true
  | o :: r, op :: s => chk1 P n ops o op && chkL P n ops r s
  | _, _ => false
def chkR (P : Program) (n : Nat) (ops : Array Oper) (draw : Bool) (ps : List (Nat × Nat)) (ops1 : List Op1) : Bool :=
  chkL P n ops ops.toList ops1 && (!draw || (lexA .any ops ops1 ps ops1.length 0 (Array.replicate ops.size false) && ops1.all fun op => dOut op.d (ps.map (·.1) ++ ps.map (·.2))))
theorem chkL_len : ∀ {l : List Oper} {s : List Op1}, chkL P n ops l s = true → l.length = s.length
  | [], [], _ => rfl
  | o :: r, op :: s, h => by
    simp only [chkL, Bool.and_eq_true] at h
    simp [chkL_len h.2]
  | [], _ :: _, h => by simp [chkL] at h
  | _ :: _, [], h => by simp [chkL] at h
theorem chkL_at : ∀ {l : List Oper} {s : List Op1}, chkL P n ops l s = true → ∀ (j : Nat) (o : Oper) (op : Op1), l[j]? = some o → s[j]? = some op → chk1 P n ops o op = true
  | [], [], _, j, o, op, h1, _ => by simp at h1
  | a :: r, b :: s, h, j, o, op, h1, h2 => by
    simp only [chkL, Bool.and_eq_true] at h
    cases j with
    | zero => simp at h1 h2; subst h1; subst h2; exact h.1
    | succ j => exact chkL_at h.2 j o op (by simpa using h1) (by simpa using h2)
  | [], _ :: _, h, _, _, _, _, _ => by simp [chkL] at h
  | _ :: _, [], h, _, _, _, _, _ => by simp [chkL] at h
variable {bs : Base} {V : Vw} {O : Nat → Option Value} {own : Nat → Option Nat} {dom : Nat → Prop} {w : World} {a : Act} {nm : Nat} {QC : Exit → Act → World → Prop}
theorem WR_Good (hw : WR bs V O own dom w H rm) (hf : FRn n V O a fr) : Good dom fr H :=
  ⟨fun t => RV_ok hw.domO (hf.2.2 t), fun k x e => ⟨hw.domH k x e, OR_ok hw.domO (hw.obs k x e)⟩⟩
theorem wanted_mode (hf : FRn n V O a fr) {o : Oper} {op : Op1} (hc : chk1 P n ops o op = true) : (mode fr op.g = some true → Region.wanted o (yielded ops a.tmps) = true) ∧ (mode fr op.g = some false → Region.wanted o (yielded ops a.tmps) = false) := by
  simp only [chk1, Bool.and_eq_true] at hc
  obtain ⟨⟨_, hg⟩, _⟩ := hc
  unfold Region.wanted
  cases h1 : o.guard with
  | none =>
    cases h2 : op.g with
    | none => simp [mode]
    | some p => rw [h1, h2] at hg; simp at hg
  | some p =>
    obtain ⟨j, w'⟩ := p
    cases h2 : op.g with
    | none => rw [h1, h2] at hg; simp at hg
    | some q =>
      obtain ⟨s, want⟩ := q
      rw [h1, h2] at hg
      simp only [Bool.and_eq_true, beq_iff_eq] at hg
      obtain ⟨rfl, hg⟩ := hg
      split at hg
      · rename_i oj hoj
        simp only [beq_iff_eq] at hg
        have hd : (ops[j]?).bind (·.dst) = some s := by rw [hoj]; exact hg
        simp only [mode]
        split
        · rename_i t ht
          have hrv := hf.2.2 s
          rw [ht] at hrv
          have hval := v_bool hrv
          have hget : a.tmps[s]? = some (.bool t) := by
            rcases Nat.lt_or_ge s a.tmps.size with h' | h'
            · rw [Array.getElem?_eq_getElem h']; simpa [Array.getD, h'] using hval
            · exfalso
              simp [Array.getD, Nat.not_lt.2 h', undef] at hval
          have hy : yielded ops a.tmps j = some t := by
            unfold yielded
            rw [hd]
            simp [hget]
          simp only [hy]
          cases t <;> cases w' <;> simp
        · rename_i ht
          have hrv := hf.2.2 s
          rw [ht] at hrv
          obtain ⟨l, hval, hl, _⟩ := hrv
          have hl0 : l = [] := List.eq_nil_of_length_eq_zero hl
          subst hl0
          have hy : yielded ops a.tmps j = none := by
            unfold yielded
            rw [hd]
            rcases Nat.lt_or_ge s a.tmps.size with h' | h'
            · have : a.tmps[s] = .tuple #[] := by simpa [Array.getD, h'] using hval
              simp [h', this]
            · simp [Array.getElem?_eq_none h']
          simp [hy]
        · simp
      · cases hg
theorem st1_sound (hw : WR bs V O own dom w H rm) (hf : FRn n V O a fr) {o : Oper} {op : Op1} (hd : ∀ k, nm ≤ k → k < nm + stp op.o → ¬ dom k) (hc : chk1 P n ops o op = true) {K : KE} (h : st1 P nm op K fr H rm) {KC : Act → World → Prop}
    (hK : ∀ fr' H' rm' a' w' V' O' own', K fr' H' rm' → WR bs V' O' own' (withN dom nm (stp op.o)) w' H' rm' → FRn n V' O' a' fr' → KC a' w') :
    if Region.wanted o (yielded ops a.tmps) then o.wp P a w KC QC ∨ (o.asks P a w ∧ LetsOut QC) else KC (a.put o.dst undef) w := by
  obtain ⟨m1, m2⟩ := wanted_mode hf hc
  simp only [chk1, Bool.and_eq_true] at hc
  obtain ⟨⟨⟨hdst, hdn⟩, _⟩, hck⟩ := hc
  rw [beq_iff_eq] at hdst
  have hdn' : ∀ t, o.dst = some t → t < n := by
    intro t ht
    rw [hdst] at ht
    rw [ht] at hdn
    simpa using hdn
  unfold st1 at h
  split at h
  · exact h.elim
  · rename_i hm
    rw [if_pos (m1 hm)]
    left
    refine opw_sound hw hf hd hck h KC QC ?_
    rintro v w' ⟨r, H', rm', V', O', own', h1, h2, h3, h4, h5⟩
    refine hK _ _ _ _ _ V' O' own' h1 h5 ?_
    have := (hf.mono h3 h4).put hdn' h2
    rwa [hdst] at this ⊢
  · rename_i hm
    rw [if_neg (by rw [m2 hm]; simp)]
    refine hK _ _ _ _ _ V O own h (hw.dommono fun k h => .inl h) ?_
    have := hf.put hdn' (show RV V O undef U from ⟨[], rfl, rfl, fun i x c h => by simp at h⟩)
    rwa [hdst] at this ⊢
theorem seq_sound {ops1' : List Op1} : ∀ {l : List Oper} {s : List Op1} {nm : Nat} {fr : Env} {H : Hp} {rm : Nat} {V : Vw} {O : Nat → Option Value} {own : Nat → Option Nat} {a : Act} {w : World}, chkL P n ops l s = true →
    WR bs V O own (fun k => k < nm) w H rm → FRn n V O a fr → seqw P Q s nm fr H rm →
    (∀ fr' H' rm' a' w' V' O' own', Q fr' H' rm' → WR bs V' O' own' (fun k => k < nm + tot s) w' H' rm' → FRn n V' O' a' fr' → QC .normal a' w') → wpList P ops QC l a w
  | [], [], nm, fr, H, rm, V, O, own, a, w, _, hw, hf, h, hQ => hQ _ _ _ _ _ _ _ _ h hw hf
  | o :: l, op :: s, nm, fr, H, rm, V, O, own, a, w, hc, hw, hf, h, hQ => by
    simp only [chkL, Bool.and_eq_true] at hc
    unfold wpList
    refine st1_sound (QC := QC) hw hf (fun k h1 _ h2 => by omega) hc.1 (seqw_cons op s |>.1 h) fun fr' H' rm' a' w' V' O' own' h1 h2 h3 => ?_
    refine seq_sound (ops1' := ops1') hc.2 (h2.dommono (dom' := fun k => k < nm + stp op.o) fun k hk => ?_) h3 h1 fun fr2 H2 rm2 a2 w2 V2 O2 own2 g1 g2 g3 => hQ _ _ _ _ _ _ _ _ g1 (g2.dommono fun k hk => ?_) g3
    · rcases hk with hk | hk <;> omega
    · simp only [tot]; omega
  | [], _ :: _, _, _, _, _, _, _, _, _, _, h, _, _, _, _ => by simp [chkL] at h
  | _ :: _, [], _, _, _, _, _, _, _, _, _, h, _, _, _, _ => by simp [chkL] at h
theorem AA_sound (hc : chkL P n ops ops.toList ops1 = true) (hQ : ∀ fr' H' rm' a' w' V' O' own', Q fr' H' rm' → WR bs V' O' own' (fun k => k < nx + tot ops1) w' H' rm' → FRn n V' O' a' fr' → QC .normal a' w') :
    ∀ (fuel : Nat) (listed : Array Bool) (fr : Env) (H : Hp) (rm : Nat) (V : Vw) (O : Nat → Option Value) (own : Nat → Option Nat) (dom : Nat → Prop) (a : Act) (w : World),
      WR bs V O own dom w H rm → FRn n V O a fr → nmsOut nx ops1 listed dom → (∀ k, dom k → k < nx + tot ops1) → AA P md ops ops1 nx Q fuel listed fr H rm → wpAny P md ops QC fuel listed a w := by
  have hlen := chkL_len hc
  rw [Array.length_toList] at hlen
  intro fuel
  induction fuel with
  | zero => intro listed fr H rm V O own dom a w hw hf hn hlt h; exact ⟨h.1, hQ _ _ _ _ _ _ _ _ h.2 (hw.dommono hlt) hf⟩
  | succ fuel ih =>
    intro listed fr H rm V O own dom a w hw hf hn hlt h
    refine ⟨fun h0 => hQ _ _ _ _ _ _ _ _ (h.1 h0) (hw.dommono hlt) hf, fun i hi => ?_⟩
    have h1 := h.2 i hi
    obtain ⟨hun, o, ho, _⟩ := mem_ready.1 hi
    have hilt : i < ops.size := (Array.getElem?_eq_some_iff.1 ho).1
    have hp : ops1[i]? = some ops1[i] := List.getElem?_eq_getElem (by omega)
    unfold aOp at h1
    simp only [hp] at h1
    unfold wpOp
    simp only [ho]
    have hck := chkL_at hc i o _ (by rw [Array.getElem?_toList]; exact ho) hp
    have es := off_succ hp
    refine st1_sound (QC := QC) hw hf (fun k h3 h4 => hn i hun k h3 (by omega)) hck h1 fun fr' H' rm' a' w' V' O' own' g1 g2 g3 => ?_
    refine ih _ fr' H' rm' V' O' own' (withI dom nx ops1 i) a' w' (g2.dommono fun k hk => hk.imp id fun h => ⟨h.1, by omega⟩) g3 (nmsOut_step hn) (fun k hk => ?_) g1
    rcases hk with hk | hk
    · exact hlt k hk
    · have := off_tot ops1 (i + 1); omega
theorem region_sound {id : Nat} {draw : Bool} (hm : P.follows .mixedOrders = true) (hc : chkR P n ops draw ps ops1 = true) (hA : Apart fr ps) (hw : WR bs V O own (fun k => k < nx) w H rm) (hf : FRn n V O a fr) (h : seqw P Q ops1 nx fr H rm)
    (hQ : ∀ fr' H' rm' a' w' V' O' own', Q fr' H' rm' → WR bs V' O' own' (fun k => k < nx + tot ops1) w' H' rm' → FRn n V' O' a' fr' → QC .normal a' w') : (Code.region id ops draw).wp P QC a w := by
  simp only [chkR, Bool.and_eq_true, Bool.or_eq_true, Bool.not_eq_true'] at hc
  obtain ⟨hc, hl⟩ := hc
  have hlen := chkL_len hc
  rw [Array.length_toList] at hlen
  cases draw with
  | false => exact wp_region_list (seq_sound (ops1' := ops1) hc hw hf h hQ)
  | true =>
    replace hl := hl.resolve_left (by simp)
    simp only [Bool.and_eq_true, List.all_eq_true] at hl
    obtain ⟨hl, hps⟩ := hl
    refine wp_region_any hm ?_
    have hw' : WR bs V O own (fun k => k < nx) { w with drawn := w.drawn + 1 } H rm := hw.drew
    have hn : nmsOut nx ops1 (Array.replicate ops.size false) (fun k => k < nx) := by intro j _ k h1 _ h2; omega
    refine AA_sound hc hQ _ _ fr H rm V O own (fun k => k < nx) a _ hw' hf hn (fun k hk => by omega) ?_
    have := AA_lex (P := P) (ops := ops) (ops1 := ops1) (Q := Q) (nx := nx) (md := .any) hlen.symm ops1 ps 0 (Array.replicate ops.size false) fr H rm (fun k => k < nx) (fun j => by rw [Nat.zero_add]) hl (fun j oj _ hf' => by
      exfalso
      simp only [Array.getD_eq_getD_getElem?, Array.getElem?_replicate] at hf'
      split at hf' <;> simp at hf') (fun j pj hp _ => hps pj (List.mem_of_getElem? hp)) hA (WR_Good hw hf) hn (by simpa [off, tot] using h)
    rwa [← hlen] at this
end
end Av
end Go.Proofs.Ytdboofnogabefaa
/- Layer Av, part 23: code. -/
namespace Go.Proofs.Ytdboofnogabefaa
namespace Av
open Go.RowKit
def chkA (P : Program) (n : Nat) : Code → A → Bool
  | .region _ ops draw, .rg ops1 => chkR P n ops draw [] ops1
  | .region _ ops draw, .rgp ps ops1 => chkR P n ops draw ps ops1
  | .seq a b, .seq x y => chkA P n a x && chkA P n b y
  | .cond c a b, .cond u x y => xeq c u && chkA P n a x && chkA P n b y
  | .block i a, .block j x => i == j && chkA P n a x
  | .loop a, .loop x => chkA P n a x
  | .exit i, .exit j => i == j
  | .ret, .ret => true
  | .skip, .skip => true
  | _, .dead => true
  | c, .frz _ a => chkA P n c a
  | c, .tke _ _ _ _ a => chkA P n c a
  | _, _ => false
def exOf : Ex → Exit
  | .normal => .normal
  | .exit i => .exit i
  | .ret => .ret
/-- Machine and abstract state belong together. -/
def Rel (bs : Base) (n : Nat) (fr : Env) (H : Hp) (nx rm : Nat) (a : Act) (w : World) : Prop :=
  ∃ V O own, WR bs V O own (fun k => k < nx) w H rm ∧ FRn n V O a fr
def Rep (bs : Base) (n : Nat) (Q : Post) (QC : Exit → Act → World → Prop) : Prop :=
  ∀ e fr H nx rm a w, Q e fr H nx rm → Rel bs n fr H nx rm a w → QC (exOf e) a w
theorem WR.tke {bs : Base} {V : Vw} {O : Nat → Option Value} {own : Nat → Option Nat} {dom : Nat → Prop} {w : World} {H : Hp} {rm : Nat} (hw : WR bs V O own dom w H rm) {nm : Nat} (hd : ¬ dom nm) {k off T sz : Nat} {cs : List AC} (hk : H k = some (.cells cs)) (ho : cs[off]? = some .e0) :
    ∃ O', (∀ k v, O k = some v → O' k = some v) ∧ WR bs V O' own (fun j => dom j ∨ j = nm) w (hupd nm (some (.tok T sz 0)) (hupd k (some (.cells (cs.set off (.tk nm sz [])))) H)) rm := by
  have hO : ∀ u, O nm = some u → False := fun u e => hd (hw.domO _ _ e)
  have hkn : k ≠ nm := fun e => hd (e ▸ hw.domH _ _ hk)
  obtain ⟨b, T0, l, g1, g2, g3, g4⟩ := hw.obs _ _ hk
  have hlen := g4.1
  have hoff : off < cs.length := (List.getElem?_eq_some_iff.1 ho).1
  obtain ⟨x, hx⟩ : ∃ x, l[off]? = some x := ⟨_, List.getElem?_eq_getElem (by omega)⟩
  obtain ⟨A, hA⟩ := (g4.2 off x _ hx ho).1
  have hle := updO_le (k := nm) (v := x) hO
  refine ⟨updO nm x O, hle, ⟨hw.sub, fun b o u e => ?_, fun j ob e => ?_, fun j u e => ?_, fun j ob e => ?_, fun b j e => ⟨(hw.ownb b j e).1, (hw.ownb b j e).2.1, .inl (hw.ownb b j e).2.2⟩, hw.uniq, hw.vb, hw.v0, hw.os, hw.tape, hw.output, hw.size, hw.block, fun j u e => hle j u (hw.o0 j u e)⟩⟩
  · rcases hw.vo b o u e with h0 | ⟨j, T', sz', m, h1, h2, h3⟩
    · exact .inl h0
    · refine .inr ⟨j, T', sz', m, h1, ?_, h3⟩
      have hj1 : j ≠ nm := fun e => hd (e ▸ hw.domH _ _ h2)
      have hj2 : j ≠ k := fun e => by rw [e, hk] at h2; cases h2
      unfold hupd; rw [if_neg hj1, if_neg hj2]; exact h2
  · unfold hupd at e
    split at e
    · rename_i ej; subst ej; simp only [Option.some.injEq] at e; subst e
      exact .inl ⟨rfl, A, by rw [updO_self, hA]⟩
    · split at e
      · rename_i ej; subst ej; simp only [Option.some.injEq] at e; subst e
        refine ⟨b, T0, l, hle _ _ g1, g2, g3, by rw [List.length_set]; exact hlen, fun i y a hy ha => ?_⟩
        rw [List.getElem?_set] at ha
        split at ha
        · rename_i ei
          subst ei
          simp only [Option.some.injEq] at ha; subst ha
          rw [hx] at hy; cases hy
          refine ⟨⟨updO_self _ _ _, ?_⟩, (g4.2 off x _ hx ho).2⟩
          rw [hA]
          exact RF.sl (b := 0) (off := 0) (fun _ _ => undef) rfl (Nat.le_refl _) (by omega) (fun h => absurd h (by omega)) (fun j y hy => by simp at hy) (fun j y i f hy => by simp at hy) (fun j y i f hy => by simp at hy)
        · exact ⟨(g4.2 i y a hy ha).1.mono (Vw.le_refl _) hle, (g4.2 i y a hy ha).2⟩
      · exact (hw.obs j ob e).mono (Vw.le_refl _) hle (fun b hb => ⟨hb, rfl⟩) (Nat.le_refl _)
  · unfold updO at e
    split at e
    · exact .inr (by assumption)
    · exact .inl (hw.domO _ _ e)
  · unfold hupd at e
    split at e
    · exact .inr (by assumption)
    · split at e
      · rename_i ej; exact .inl (ej ▸ hw.domH _ _ hk)
      · exact .inl (hw.domH _ _ e)
theorem code_sound {P : Program} {bs : Base} {n : Nat} (hm : P.follows .mixedOrders = true) : ∀ {x : A} {c : Code} {Q : Post} {QC : Exit → Act → World → Prop} {fr : Env} {H : Hp} {nx rm : Nat} {a : Act} {w : World},
    chkA P n c x = true → Rel bs n fr H nx rm a w → awp P x Q fr H nx rm → Rep bs n Q QC → c.wp P QC a w := by
  intro x
  induction x with
  | rg ops1 =>
    intro c Q QC fr H nx rm a w hc hr h hQ
    cases c <;> simp only [chkA, Bool.false_eq_true] at hc
    obtain ⟨V, O, own, hw, hf⟩ := hr
    exact region_sound (Q := fun fr' H' rm' => Q .normal fr' H' (nx + tot ops1) rm') hm hc trivial hw hf h fun fr' H' rm' a' w' V' O' own' h1 h2 h3 => hQ .normal _ _ _ _ _ _ h1 ⟨V', O', own', h2, h3⟩
  | rgp ps ops1 =>
    intro c Q QC fr H nx rm a w hc hr h hQ
    cases c <;> simp only [chkA, Bool.false_eq_true] at hc
    obtain ⟨V, O, own, hw, hf⟩ := hr
    exact region_sound (Q := fun fr' H' rm' => Q .normal fr' H' (nx + tot ops1) rm') hm hc h.1 hw hf h.2 fun fr' H' rm' a' w' V' O' own' h1 h2 h3 => hQ .normal _ _ _ _ _ _ h1 ⟨V', O', own', h2, h3⟩
  | seq x y ihx ihy =>
    intro c Q QC fr H nx rm a w hc hr h hQ
    cases c <;> simp only [chkA, Bool.false_eq_true, Bool.and_eq_true] at hc
    refine wp_seq (ihx hc.1 hr h fun e fr' H' nx' rm' a' w' h1 h2 => ?_)
    cases e with
    | normal => exact ihy hc.2 h2 h1 hQ
    | exit i => exact hQ (.exit i) _ _ _ _ _ _ h1 h2
    | ret => exact hQ .ret _ _ _ _ _ _ h1 h2
  | cond u x y ihx ihy =>
    intro c Q QC fr H nx rm a w hc hr h hQ
    cases c <;> simp only [chkA, Bool.false_eq_true, Bool.and_eq_true] at hc
    unfold awp at h
    have hr' := hr
    obtain ⟨V, O, own, hw, hf⟩ := hr
    split at h
    · rename_i t ht
      have e1 := xeq_eval hf hc.1.1
      rw [ht] at e1
      exact wp_cond_split (v_bool e1) (fun e => ihx hc.1.2 hr' (h.1 e) hQ) (fun e => ihy hc.2 hr' (h.2 e) hQ)
    · exact h.elim
  | block i x ih =>
    intro c Q QC fr H nx rm a w hc hr h hQ
    cases c <;> simp only [chkA, Bool.false_eq_true, Bool.and_eq_true, beq_iff_eq] at hc
    obtain ⟨rfl, hc⟩ := hc
    refine wp_block (ih hc hr h fun e fr' H' nx' rm' a' w' h1 h2 => ?_)
    cases e with
    | normal => exact hQ .normal _ _ _ _ _ _ h1 h2
    | exit j =>
      simp only [Post.blk] at h1
      show Exit.inBlock _ QC (.exit j) a' w'
      simp only [Exit.inBlock]
      split at h1
      · rename_i e; subst e; rw [if_pos rfl]; exact hQ .normal _ _ _ _ _ _ h1 h2
      · rename_i e; rw [if_neg e]; exact hQ (.exit j) _ _ _ _ _ _ h1 h2
    | ret => exact hQ .ret _ _ _ _ _ _ h1 h2
  | loop x ih =>
    intro c Q QC fr H nx rm a w hc hr h hQ
    cases c <;> simp only [chkA, Bool.false_eq_true] at hc
    obtain ⟨I, m, h0, hround⟩ := h
    refine wp_loop_ghost (fun k a w => ∃ fr H nx rm, m fr H nx rm = k ∧ I fr H nx rm ∧ Rel bs n fr H nx rm a w) (m fr H nx rm) ⟨fr, H, nx, rm, rfl, h0, hr⟩ ?_
    rintro k a w ⟨fr, H, nx, rm, rfl, hI, hrel⟩
    refine ih hc hrel (hround fr H nx rm hI) fun e fr' H' nx' rm' a' w' h1 h2 => ?_
    cases e with
    | normal => exact ⟨_, h1.2, fr', H', nx', rm', rfl, h1.1, h2⟩
    | exit i => exact hQ (.exit i) _ _ _ _ _ _ h1 h2
    | ret => exact hQ .ret _ _ _ _ _ _ h1 h2
  | exit i =>
    intro c Q QC fr H nx rm a w hc hr h hQ
    cases c <;> simp only [chkA, Bool.false_eq_true, beq_iff_eq] at hc
    subst hc
    exact wp_exit (hQ (.exit _) _ _ _ _ _ _ h hr)
  | ret =>
    intro c Q QC fr H nx rm a w hc hr h hQ
    cases c <;> simp only [chkA, Bool.false_eq_true] at hc
    exact wp_ret (hQ .ret _ _ _ _ _ _ h hr)
  | skip =>
    intro c Q QC fr H nx rm a w hc hr h hQ
    cases c <;> simp only [chkA, Bool.false_eq_true] at hc
    exact wp_skip (hQ .normal _ _ _ _ _ _ h hr)
  | dead =>
    intro c Q QC fr H nx rm a w hc hr h hQ
    exact h.elim
  | frz t x ih =>
    intro c Q QC fr H nx rm a w hc hr h hQ
    have hc : chkA P n c x = true := by cases c <;> simpa only [chkA] using hc
    rcases h with ⟨k, T, sz, xs, ys, h1, h2, h3, h4⟩ | h
    · obtain ⟨V, O, own, hw, hf⟩ := hr
      obtain ⟨V', hV, hw', hRF⟩ := hw.freeze h2 h3
      have h5 := hf.2.2 t
      rw [h1] at h5
      rcases h4 with h4 | h4
      · refine ih hc ⟨V', O, own, hw', hf.1, hf.2.1, fun s => ?_⟩ h4 hQ
        show RV V' O _ (if s = t then _ else fr s)
        split
        · rename_i e
          subst e
          exact ⟨⟨h5.1.1, hRF _ h5.1.1⟩, fun _ => h5.1.2⟩
        · exact (hf.2.2 s).mono hV (fun _ _ h => h)
      · refine ih hc ⟨V', O, own, hw', hf.1, hf.2.1, fun s => ?_⟩ h4 hQ
        show RV V' O _ (if s = t then _ else fr s)
        split
        · rename_i e
          subst e
          exact ⟨hRF _ h5.1.1, fun _ => h5.1.2⟩
        · exact (hf.2.2 s).mono hV (fun _ _ h => h)
    · exact ih hc hr h hQ
  | tke t off T sz x ih =>
    intro c Q QC fr H nx rm a w hc hr h hQ
    have hc : chkA P n c x = true := by cases c <;> simpa only [chkA] using hc
    obtain ⟨k, cs, h1, h2, h3, h4⟩ := h
    obtain ⟨V, O, own, hw, hf⟩ := hr
    obtain ⟨O', hO, hw'⟩ := hw.tke (nm := nx) (by omega) (T := T) (sz := sz) h2 h3
    exact ih hc ⟨V, O', own, hw'.dommono (fun j hj => by omega), hf.1, hf.2.1, fun s => (hf.2.2 s).mono (Vw.le_refl _) hO⟩ h4 hQ
end Av
end Go.Proofs.Ytdboofnogabefaa
/- Layer Av, part 24: what a function hands back; a function's contract from its code (awp). -/
namespace Go.Proofs.Ytdboofnogabefaa
namespace Av
open Go.RowKit
structure Rs where
  cell : Option (Option Nat)   -- none: the slot itself; some m: what the slot's pointer points to
  t : Nat
  sh : List (Option Nat)
def chkRes1 (P : Program) : ResultVar → Rs → Bool
  | .tmp t, ⟨none, u, _⟩ => t == u
  | .cell t ty, ⟨some m, u, _⟩ => t == u && tsize P ty == some (m.getD 1) && tagg P ty == some m.isSome
  | _, _ => false
def chkRes (P : Program) : List ResultVar → List Rs → Bool
  | [], [] => true
  | a :: r, b :: s => chkRes1 P a b && chkRes P r s
  | _, _ => false
def resC (fr : Env) (H : Hp) : Rs → Option AW
  | ⟨none, t, sh⟩ => (awOf (fr t)).map (borW H sh)
  | ⟨some m, t, sh⟩ => (ldc H (fr t) (m.getD 1)).bind fun cs => (awOf (mkw m cs)).map (borW H sh)
def resL (fr : Env) (H : Hp) : List Rs → Option (List AW)
  | [] => some []
  | r :: rs => (resC fr H r).bind fun a => (resL fr H rs).map (a :: ·)
def resV : List AW → AV
  | [x] => .w x
  | xs => .tup xs
/-- Names stay names: results that are handed back as they are. -/
def rawC (fr : Env) (H : Hp) : Rs → Option AW
  | ⟨none, t, _⟩ => awOf (fr t)
  | ⟨some m, t, _⟩ => (ldc H (fr t) (m.getD 1)).bind fun cs => awOf (mkw m cs)
def rawL (fr : Env) (H : Hp) : List Rs → Option (List AW)
  | [] => some []
  | r :: rs => (rawC fr H r).bind fun a => (rawL fr H rs).map (a :: ·)
section
variable {P : Program} {bs : Base} {V : Vw} {O : Nat → Option Value} {own : Nat → Option Nat} {dom : Nat → Prop} {w : World} {H : Hp} {rm n nm : Nat} {a : Act} {fr : Env}
theorem awOf_sound {x : Value} {v : AV} {c : AW} (h : RV V O x v) (hc : awOf v = some c) : RW V O x c := by
  unfold awOf at hc
  split at hc
  · cases hc; exact h
  · cases hc
theorem run_cell (hw : WR bs V O own dom w H rm) {x : Value} {p : AV} (hp : RV V O x p) {m : Option Nat} {t : TypeId} (hz : tsize P t = some (m.getD 1)) (hg : tagg P t = some m.isSome) {cs : List AC} (h : ldc H p (m.getD 1) = some cs) :
    ∃ v, (asAddr x >>= loadVar t).run P w = .ok v w ∧ RV V O v (mkw m cs) := by
  obtain ⟨b, off, l, rfl, hl, hr, hc⟩ := ldc_sound hw hp h
  obtain ⟨v, h1, h2⟩ := run_load_sound hw hp hz hg h
  refine ⟨v, ?_, h2⟩
  rw [← h1]
  simp [asAddr, Instr.loadAt, Instr.sureAddr]
def resOne (tmps : Array Value) : ResultVar → Sem Value
  | .tmp t => pure (tmps.getD t undef)
  | .cell a t => do loadVar t (← asAddr (tmps.getD a undef))
def pack : List Value → Value
  | [v] => v
  | vs => .tuple vs.toArray
theorem results_eq (fn : Func) (tmps : Array Value) : results fn tmps = (do
    let vs ← fn.results.toList.mapM (resOne tmps)
    pure (pack vs)) := by
  have e0 : results fn tmps = (do
      let vs ← fn.results.mapM (resOne tmps)
      pure (if h : vs.size = 1 then vs[0] else .tuple vs)) := rfl
  have this : fn.results.mapM (resOne tmps) = List.toArray <$> fn.results.toList.mapM (resOne tmps) := Array.mapM_eq_mapM_toList
  rw [e0]
  rw [this]
  simp only [map_eq_pure_bind, bind_assoc, pure_bind]
  congr 1
  funext vs
  match vs with
  | [] => rfl
  | [v] => rfl
  | v :: u :: r => simp [pack]
theorem res1_run (hw : WR bs V O own dom w H rm) (hf : FRn n V O a fr) {r : ResultVar} {s : Rs} (hc : chkRes1 P r s = true) {c : AW} (h : rawC fr H s = some c) : ∃ v, (resOne a.tmps r).run P w = .ok v w ∧ RW V O v c := by
  obtain ⟨cell, t, sh⟩ := s
  cases r with
  | tmp u =>
    cases cell with
    | none =>
      simp only [chkRes1, beq_iff_eq] at hc
      subst hc
      exact ⟨_, by simp [resOne], awOf_sound (hf.2.2 u) h⟩
    | some m => simp [chkRes1] at hc
  | cell u ty =>
    cases cell with
    | none => simp [chkRes1] at hc
    | some m =>
      simp only [chkRes1, Bool.and_eq_true, beq_iff_eq] at hc
      obtain ⟨⟨rfl, h1⟩, h2⟩ := hc
      simp only [rawC] at h
      cases hl : ldc H (fr u) (m.getD 1) with
      | none => rw [hl] at h; simp at h
      | some cs =>
        rw [hl] at h
        obtain ⟨v, h3, h4⟩ := run_cell hw (hf.2.2 u) h1 h2 hl
        exact ⟨v, h3, awOf_sound h4 h⟩
theorem resL_run (hw : WR bs V O own dom w H rm) (hf : FRn n V O a fr) : ∀ {rs : List ResultVar} {ss : List Rs}, chkRes P rs ss = true → ∀ {as : List AW}, rawL fr H ss = some as →
    ∃ vs : List Value, (rs.mapM (resOne a.tmps)).run P w = .ok vs w ∧ RWs V O vs as
  | [], [], _, as, h => by cases h; exact ⟨[], by simp, rfl, fun i x c h1 => by simp at h1⟩
  | r :: rs, s :: ss, hc, as, h => by
    simp only [chkRes, Bool.and_eq_true] at hc
    simp only [rawL] at h
    obtain ⟨c, h1, h2⟩ := Option.bind_eq_some_iff.1 h
    obtain ⟨cs, h3, rfl⟩ := Option.map_eq_some_iff.1 h2
    obtain ⟨v, e1, r1⟩ := res1_run hw hf hc.1 h1
    obtain ⟨vs, e2, r2⟩ := resL_run hw hf hc.2 h3
    refine ⟨v :: vs, ?_, by simp [r2.1], fun i x d h4 h5 => ?_⟩
    · simp [List.mapM_cons, e1, e2]
    · cases i with
      | zero => simp at h4 h5; subst h4; subst h5; exact r1
      | succ i => exact r2.2 i x d (by simpa using h4) (by simpa using h5)
  | [], _ :: _, hc, _, _ => by simp [chkRes] at hc
  | _ :: _, [], hc, _, _ => by simp [chkRes] at hc
/-- A whole value, frozen. -/
theorem borW_gen (hw : WR bs V O own dom w H rm) {V1 : Vw} (hle : V.le V1) (hV1 : ∀ b k, own b = some k → (∀ f, H k ≠ some (.rd f)) → ∀ o, V1 b o = w.cell? ⟨b, o, none⟩) {x : Value} {c : AW} {sh : List (Option Nat)} (h : RW V O x c) (hcl : clW (borW H sh c) = true) : RW V1 O0 x (borW H sh c) :=
  bor_liftp (p := True) (v := .w c) (fun x c sh h hcl _ => bor_gen hw hle hV1 h hcl) h (.inr trivial) hcl
theorem resL_gen (hw : WR bs V O own dom w H rm) {V1 : Vw} (hle : V.le V1) (hV1 : ∀ b k, own b = some k → (∀ f, H k ≠ some (.rd f)) → ∀ o, V1 b o = w.cell? ⟨b, o, none⟩) :
    ∀ {ss : List Rs} {as cs : List AW} {vs : List Value}, resL fr H ss = some as → rawL fr H ss = some cs → as.all clW = true → RWs V O vs cs → RWs V1 O0 vs as
  | [], as, cs, vs, h1, h2, _, hr => by
    cases h1; cases h2
    exact ⟨hr.1, fun i x c _ h => by simp at h⟩
  | s :: ss, as, cs, vs, h1, h2, hcl, hr => by
    simp only [resL] at h1
    simp only [rawL] at h2
    obtain ⟨c1, p1, p2⟩ := Option.bind_eq_some_iff.1 h1
    obtain ⟨r1, p3, rfl⟩ := Option.map_eq_some_iff.1 p2
    obtain ⟨c2, q1, q2⟩ := Option.bind_eq_some_iff.1 h2
    obtain ⟨r2, q3, rfl⟩ := Option.map_eq_some_iff.1 q2
    simp only [List.all_cons, Bool.and_eq_true] at hcl
    have hc1 : c1 = borW H s.sh c2 := by
      obtain ⟨cell, t, sh⟩ := s
      cases cell with
      | none =>
        simp only [resC] at p1
        simp only [rawC] at q1
        rw [q1] at p1; simpa using p1.symm
      | some m =>
        simp only [resC] at p1
        simp only [rawC] at q1
        cases hl : ldc H (fr t) (m.getD 1) with
        | none => rw [hl] at q1; simp at q1
        | some ds =>
          rw [hl] at p1 q1
          simp only [Option.bind_some] at p1 q1
          rw [q1] at p1; simpa using p1.symm
    cases vs with
    | nil => exact absurd hr.1 (by simp)
    | cons v vs =>
      have h0 := hr.2 0 v c2 rfl rfl
      have ht : RWs V O vs r2 := ⟨by have := hr.1; simpa using this, fun i x c e1 e2 => hr.2 (i + 1) x c (by simpa using e1) (by simpa using e2)⟩
      have ih := resL_gen hw hle hV1 p3 q3 hcl.2 ht
      refine ⟨by simp [ih.1], fun i x c e1 e2 => ?_⟩
      cases i with
      | zero =>
        simp at e1 e2; subst e1; subst e2
        rw [hc1]
        exact borW_gen hw hle hV1 h0 (by rw [← hc1]; exact hcl.1)
      | succ i => exact ih.2 i x c (by simpa using e1) (by simpa using e2)
theorem rawL_of_resL : ∀ {ss : List Rs} {as : List AW}, resL fr H ss = some as → ∃ cs, rawL fr H ss = some cs
  | [], _, _ => ⟨[], rfl⟩
  | s :: ss, as, h => by
    simp only [resL] at h
    obtain ⟨c1, p1, p2⟩ := Option.bind_eq_some_iff.1 h
    obtain ⟨r1, p3, rfl⟩ := Option.map_eq_some_iff.1 p2
    obtain ⟨cs, hcs⟩ := rawL_of_resL p3
    have : ∃ c, rawC fr H s = some c := by
      obtain ⟨cell, t, sh⟩ := s
      cases cell with
      | none =>
        simp only [resC] at p1
        obtain ⟨c, h1, _⟩ := Option.map_eq_some_iff.1 p1
        exact ⟨c, h1⟩
      | some m =>
        simp only [resC] at p1
        obtain ⟨ds, h1, h2⟩ := Option.bind_eq_some_iff.1 p1
        obtain ⟨c, h3, _⟩ := Option.map_eq_some_iff.1 h2
        exact ⟨c, by simp only [rawC, h1, Option.bind_some]; exact h3⟩
    obtain ⟨c, hc⟩ := this
    exact ⟨c :: cs, by simp only [rawL, hc, hcs, Option.bind_some, Option.map_some]⟩
theorem resV_sound {fn : Func} (hw : WR bs V O own dom w H rm) (hf : FRn n V O a fr) {V1 : Vw} (hle : V.le V1) (hV1 : ∀ b k, own b = some k → (∀ f, H k ≠ some (.rd f)) → ∀ o, V1 b o = w.cell? ⟨b, o, none⟩)
    {ss : List Rs} (hc : chkRes P fn.results.toList ss = true) {as : List AW} (h : resL fr H ss = some as) (hcl : as.all clW = true) :
    ∃ v, (results fn a.tmps).run P w = .ok v w ∧ RV V1 O0 v (resV as) := by
  obtain ⟨cs, hcs⟩ := rawL_of_resL h
  obtain ⟨vs, h1, h2⟩ := resL_run hw hf hc hcs
  have hr := resL_gen hw hle hV1 h hcs hcl h2
  rw [results_eq]
  refine ⟨pack vs, by simp only [Sem.run_bind, h1, Result.andThen_ok, Sem.run_pure], ?_⟩
  obtain ⟨hl, hr⟩ := hr
  match vs, as, hl, hr with
  | [v], [c], _, hr => exact hr 0 v c rfl rfl
  | [], [], _, hr => exact ⟨[], rfl, rfl, hr⟩
  | _ :: _ :: _, _ :: _ :: _, hl, hr => exact ⟨_, rfl, hl, hr⟩
end
/-! ### a contract from the code -/
def headRp : List AV → List AV
  | .w (.o (.rp _)) :: r => .w (.o (.ptr 0 0)) :: r
  | l => l
/-- The frame that a call begins with. -/
def ent (args : List AV) : Env := fun t => (headRp args).getD t J
def entH (args : List AV) : Hp := fun k => if k = 0 then (rdOf args).map Ob.rd else none
/-- What must hold at the end. -/
def Fin (res : List Rs) (args : List AV) (rm : Nat) (post : AV → Prop) : Post
  | .normal, fr, H, _, rm' | .ret, fr, H, _, rm' => (∃ as, resL fr H res = some as ∧ as.all clW = true ∧ post (resV as)) ∧ rm' ≤ rm ∧ H 0 = (rdOf args).map Ob.rd
  | .exit _, _, _, _, _ => False
structure FC where
  n : Nat
  body : A
  res : List Rs
/-- A function's code is this, in the small language. -/
def IsF (P : Program) (f : Nat) (c : FC) : Prop := ∃ fn code, P.funcs[f]? = some fn ∧ fn.body = some code ∧ fn.name ≠ "runtime.NumGoroutine" ∧ fn.ntmps = c.n ∧ chkA P fn.ntmps code c.body = true ∧ chkRes P fn.results.toList c.res = true
theorem RV_cl {V : Vw} {O O' : Nat → Option Value} {x : Value} {v : AV} (h : RV V O x v) (hcl : clV v = true) : RV V O' x v := by
  have hC : ∀ {x : Value} {c : AC}, RC V O x c → clC c = true → RC V O' x c := by
    intro x c h hcl
    cases c <;> first | exact h | (simp [clC] at hcl)
  have hCs : ∀ {l : List Value} {cs : List AC}, RCs V O l cs → cs.all clC = true → RCs V O' l cs := fun h hcl =>
    ⟨h.1, fun i x c h1 h2 => ⟨hC (h.2 i x c h1 h2).1 (List.all_eq_true.1 hcl _ (List.mem_of_getElem? h2)), (h.2 i x c h1 h2).2⟩⟩
  have hW : ∀ {x : Value} {c : AW}, RW V O x c → clW c = true → RW V O' x c := by
    intro x c h hcl
    cases c with
    | o c => exact ⟨hC h.1 hcl, h.2⟩
    | g cs => obtain ⟨l, h1, h2⟩ := h; exact ⟨l, h1, hCs h2 hcl⟩
  have hWs : ∀ {l : List Value} {cs : List AW}, RWs V O l cs → cs.all clW = true → RWs V O' l cs := fun h hcl =>
    ⟨h.1, fun i x c h1 h2 => hW (h.2 i x c h1 h2) (List.all_eq_true.1 hcl _ (List.mem_of_getElem? h2))⟩
  cases v with
  | w c => exact hW h hcl
  | fn f a b =>
    obtain ⟨l, m, h1, h2, h3⟩ := h
    simp only [clV, Bool.and_eq_true] at hcl
    exact ⟨l, m, h1, hWs h2 hcl.1, hWs h3 hcl.2⟩
  | tup xs => simp [clV] at hcl
theorem valid_of_awp {P : Program} {f : Nat} {c : FC} {S : FSpec} (hm : P.follows .mixedOrders = true) (hF : IsF P f c) (hlen : ∀ args, S.pre args → args.length ≤ c.n)
    (h : ∀ args rm, S.pre args → rm + S.cost ≤ LIM → awp P c.body (Fin c.res args (rm + S.cost) (S.post args)) (ent args) (entH args) 1 rm) : Valid P f S := by
  obtain ⟨fn, code, hfn, hbody, hname, hn, hchk, hres⟩ := hF
  refine ⟨⟨fn, hfn, by rw [hbody]; rfl, hname⟩, fun args rm hpre hlim => ?_⟩
  intro V O own w vals hsub hO hown huniq hnoV hargs hrd hnord
  refine calls_of_wp hfn hbody ?_
  let bs : Base := ⟨w, V, own, O⟩
  have hlenv : vals.length = args.length := hargs.1
  have hle := hlen args hpre
  have hcl := S.hcl args hpre
  -- the arguments, as the frame holds them
  have hhead : RVs V O vals (headRp args) := by
    unfold headRp
    split
    · rename_i g r
      obtain ⟨h1, h2⟩ := hrd g rfl
      refine ⟨hargs.1, fun i x c e1 e2 => ?_⟩
      cases i with
      | zero =>
        simp only [List.getElem?_cons_zero, Option.some.injEq] at e2
        subst e2
        obtain ⟨b, T, y, p, g1, _⟩ := h2
        rw [List.head?_eq_getElem?, e1, g1] at h1
        cases h1
        exact ⟨⟨b, g1, rfl⟩, fun _ => rfl⟩
      | succ i => exact hargs.2 (i + 1) x c e1 (by simpa using e2)
    · exact hargs
  have hlh : (headRp args).length = args.length := by unfold headRp; split <;> rfl
  have hfr : FRn c.n V O { tmps := vals.toArray ++ Array.replicate (fn.ntmps - vals.toArray.size) undef, defers := [] } (ent args) := by
    refine ⟨by simp [hn]; omega, rfl, fun t => ?_⟩
    show RV V O _ ((headRp args).getD t J)
    rcases Nat.lt_or_ge t vals.length with ht | ht
    · have e1 : vals[t]? = some vals[t] := List.getElem?_eq_getElem ht
      have ht2 : t < (headRp args).length := by omega
      have e2 : (headRp args)[t]? = some (headRp args)[t] := List.getElem?_eq_getElem ht2
      have := hhead.2 t _ _ e1 e2
      have e3 : (vals.toArray ++ Array.replicate (fn.ntmps - vals.toArray.size) undef).getD t undef = vals[t] := by
        rw [Array.getD_eq_getD_getElem?, Array.getElem?_append_left (by simpa using ht)]
        simp [ht]
      rw [List.getD_eq_getElem?_getD, e2, e3]; exact this
    · have : (headRp args).getD t J = J := by rw [List.getD_eq_getElem?_getD, List.getElem?_eq_none (by omega)]; rfl
      rw [this]; exact RV_junk _ _ _
  have hw : WR bs V O own (fun k => k < 1) w (entH args) rm := by
    refine ⟨hsub, fun b o u e => ?_, fun k ob e => ?_, fun k v e => ?_, fun k ob e => ?_, fun b k e => ?_, huniq, fun b o u e => .inl (by show V b o ≠ none; rw [e]; simp), Vw.le_refl _, rfl, rfl, rfl, Nat.le_refl _, fun _ _ _ => rfl, fun _ _ h => h⟩
    · left
      cases ho : own b with
      | none => rfl
      | some k => have := hnoV b k o ho; rw [e] at this; cases this
    · unfold entH at e
      split at e
      · rename_i hk; subst hk
        obtain ⟨g, h1, rfl⟩ := Option.map_eq_some_iff.1 e
        exact (hrd g h1).2
      · cases e
    · have := hO k v e; omega
    · unfold entH at e
      split at e
      · omega
      · cases e
    · obtain ⟨h1, h2⟩ := hown b k e
      refine ⟨h2, .inl ?_, by omega⟩
      show own b ≠ none
      rw [e]; simp
  refine code_sound (bs := bs) (n := fn.ntmps) hm (x := c.body) hchk ⟨V, O, own, hw, by simpa only [hn] using hfr⟩ (h args rm hpre hlim) ?_
  intro e fr H nx rm' a' w' hfin hrel
  have main : (∃ as, resL fr H c.res = some as ∧ as.all clW = true ∧ S.post args (resV as)) ∧ rm' ≤ rm + S.cost ∧ H 0 = (rdOf args).map Ob.rd →
      a'.defers = [] ∧ ∃ v, (results fn a'.tmps).run P w' = .ok v w' ∧ ∃ v' r V', Ending.returned v = .returned v' ∧ S.post args r ∧ RV V' (fun _ => none) v' r ∧ V.le V' ∧ V'.sub w' ∧
        (∀ b o u, V' b o = some u → V b o = some u ∨ w.heap.size ≤ b) ∧ Kept w w' own ∧ (∀ f, rdOf args = some f → OR V' O own w' (rm + S.cost) 0 (.rd f)) := by
    rintro ⟨⟨as, h1, h2, h3⟩, h4, h5⟩
    obtain ⟨V2, O2, own2, hw2, hf2⟩ := hrel
    let V1 : Vw := fun b o => if w.heap.size ≤ b then w'.cell? ⟨b, o, none⟩ else V b o
    have hold : ∀ b k, b < w.heap.size → own2 b = some k → k = 0 ∧ own b = some 0 := by
      intro b k hb hk
      rcases (hw2.ownb b k hk).2.1 with h6 | h6
      · replace h6 : own b ≠ none := h6
        cases ho : own b with
        | none => exact absurd ho h6
        | some j =>
          have hj := (hown b j ho).1
          subst hj
          -- the reader's block
          cases hr : rdOf args with
          | none => rw [hnord hr b] at ho; cases ho
          | some g =>
            obtain ⟨b1, T, y, p, g1, g2, _⟩ := (hrd g hr).2
            have hb1 : b1 = b := huniq _ _ _ g2 ho
            subst hb1
            rw [hr] at h5
            obtain ⟨b2, T2, y2, p2, k1, k2, _⟩ := hw2.obs 0 _ h5
            have := hw2.o0 0 _ g1
            rw [this] at k1
            cases k1
            rw [k2] at hk; cases hk
            exact ⟨rfl, rfl⟩
      · exact absurd hb (Nat.not_lt.2 h6)
    have hV1 : ∀ b k, own2 b = some k → (∀ f, H k ≠ some (.rd f)) → ∀ o, V1 b o = w'.cell? ⟨b, o, none⟩ := by
      intro b k hk hno o
      show (if w.heap.size ≤ b then w'.cell? ⟨b, o, none⟩ else V b o) = _
      split
      · rfl
      · rename_i hb
        obtain ⟨rfl, h6⟩ := hold b k (by omega) hk
        cases hr : rdOf args with
        | none => rw [hnord hr b] at h6; cases h6
        | some g => rw [hr] at h5; exact absurd h5 (hno g)
    have hle2 : V2.le V1 := by
      intro b o u e
      show (if w.heap.size ≤ b then w'.cell? ⟨b, o, none⟩ else V b o) = _
      split
      · exact hw2.sub _ _ _ e
      · rename_i hb
        rcases hw2.vb b o u e with h6 | h6 | h6
        · replace h6 : V b o ≠ none := h6
          cases hV : V b o with
          | none => exact absurd hV h6
          | some u' =>
            have := hw2.v0 b o u' hV
            rw [e] at this; exact this.symm
        · exact absurd h6 hb
        · replace h6 : own b ≠ none := h6
          exfalso
          cases ho : own b with
          | none => exact h6 ho
          | some j =>
            have hj := (hown b j ho).1
            subst hj
            cases hr : rdOf args with
            | none => rw [hnord hr b] at ho; cases ho
            | some g =>
              obtain ⟨b1, T, y, p, g1, g2, _⟩ := (hrd g hr).2
              have hb1 : b1 = b := huniq _ _ _ g2 ho
              subst hb1
              rw [hr] at h5
              have h5' : H 0 = some (.rd g) := h5
              obtain ⟨b2, T2, y2, p2, k1, k2, _⟩ := hw2.obs 0 _ h5'
              have := hw2.o0 0 _ g1
              rw [this] at k1
              cases k1
              exact hw2.noV h5' trivial k2 o u e
    obtain ⟨v, q1, q2⟩ := resV_sound (V1 := V1) hw2 hf2 hle2 hV1 hres h1 h2
    refine ⟨hf2.2.1, v, q1, v, _, V1, rfl, h3, q2, Vw.le_trans hw2.v0 hle2, fun b o u e => ?_, fun b o u e => ?_, ⟨hw2.os, hw2.tape, hw2.output, hw2.size, hw2.block⟩, fun g hr => ?_⟩
    · replace e : (if w.heap.size ≤ b then w'.cell? ⟨b, o, none⟩ else V b o) = some u := e
      split at e
      · exact e
      · exact hw2.sub _ _ _ (hw2.v0 _ _ _ e)
    · replace e : (if w.heap.size ≤ b then w'.cell? ⟨b, o, none⟩ else V b o) = some u := e
      split at e
      · rename_i hb; exact .inr hb
      · exact .inl e
    · rw [hr] at h5
      obtain ⟨b2, T2, y2, p2, k1, k2, k3, k4, k5, k6⟩ := hw2.obs 0 _ h5
      obtain ⟨b1, T, y, p, g1, g2, _⟩ := (hrd g hr).2
      have := hw2.o0 0 _ g1
      rw [this] at k1
      cases k1
      exact ⟨_, T2, y2, p2, g1, g2, k3, k4.mono hle2, k5, by omega⟩
  cases e with
  | normal => exact main hfin
  | exit i => exact hfin.elim
  | ret => exact main hfin
end Av
end Go.Proofs.Ytdboofnogabefaa
/- Layer Av, part 25: the small language's wp in a form by which one walks: what is asked for comes as one question after the other. -/
namespace Go.Proofs.Ytdboofnogabefaa
namespace Av
open Go.RowKit
abbrev KV := AV → Hp → Nat → Prop
def binS (op : BinOp) (k : IntKind) (a b : Int) (K : AV → Prop) : Prop :=
  match op with
  | .eql => (a = b → K (B true)) ∧ (a ≠ b → K (B false))
  | .neq => (a = b → K (B false)) ∧ (a ≠ b → K (B true))
  | .lss => (a < b → K (B true)) ∧ (b ≤ a → K (B false))
  | .leq => (a ≤ b → K (B true)) ∧ (b < a → K (B false))
  | .gtr => (b < a → K (B true)) ∧ (a ≤ b → K (B false))
  | .geq => (b ≤ a → K (B true)) ∧ (a < b → K (B false))
  | .add => K (.w (.o (.c (.v (.int k (k.wrap (a + b)))))))
  | .sub => K (.w (.o (.c (.v (.int k (k.wrap (a - b)))))))
  | .mul => K (.w (.o (.c (.v (.int k (k.wrap (a * b)))))))
  | .quo => b ≠ 0 ∧ K (.w (.o (.c (.v (.int k (k.wrap (a.tdiv b)))))))
  | .rem => b ≠ 0 ∧ K (.w (.o (.c (.v (.int k (a.tmod b))))))
  | .xor => K (.w (.o (.c (.v (.int k (k.wrap (BitVec.ofInt k.bits a ^^^ BitVec.ofInt k.bits b).toNat))))))
  | _ => False
/-- What a call of a function that is handed objects asks. -/
structure MQ (P : Program) (nm : Nat) (fr : Env) (H : Hp) (rm : Nat) (K : KV) (f : Nat) (S : MSpec) (xs : List (X × List (Option Nat))) : Prop where
  get : ValidM P f S ∧ rm + S.cost ≤ LIM ∧ ∃ (ks : List Nat) (args : List AV) (obs : List Ob), ks.Nodup ∧ obs.length = ks.length ∧
      (∀ (i k : Nat), ks[i]? = some k → ∃ ob : Ob, obs[i]? = some ob ∧ H k = some (ob.ren (nmapS S.st ks nm))) ∧ args.map (AV.ren (nmapS S.st ks nm)) = nrmArgs fr xs ∧ S.pre args obs ∧
      ∀ r obs', S.post args obs r obs' → okV (· < obs'.length) r → (∀ (j : Nat) ob, obs'[j]? = some (some ob) → okOb (· < obs'.length) ob) → K (r.ren (nmapS S.st ks nm)) (hput (nmapS S.st ks nm) 0 obs' H) (rm + S.cost)
/-- What a call of a function that hands back one new array asks. -/
structure OQ (P : Program) (nm : Nat) (fr : Env) (H : Hp) (rm : Nat) (K : KV) (f : Nat) (S : OSpec) (xs : List (X × List (Option Nat))) : Prop where
  get : (S.pre (oArgs S.fl fr H xs) ∧ ValidM P f S.toM) ∧ K (.w (.o (.ow nm))) (hupd nm (some (S.ob (oArgs S.fl fr H xs))) H) rm
theorem OQ.mk1 {P : Program} {nm : Nat} {fr : Env} {H : Hp} {rm : Nat} {K : KV} {f : Nat} {S : OSpec} {xs : List (X × List (Option Nat))} {ar : List AV} {ob : Ob} (ha : oArgs S.fl fr H xs = ar) (hp : S.pre ar) (hv : ValidM P f S.toM) (ho : S.ob ar = ob)
    (hK : K (.w (.o (.ow nm))) (hupd nm (some ob) H) rm) : OQ P nm fr H rm K f S xs := ⟨by subst ha; subst ho; exact ⟨⟨hp, hv⟩, hK⟩⟩
/-- What a call of a function asks to which its arguments are lent, and which hands back new objects alone. -/
structure BQ (P : Program) (nm : Nat) (fr : Env) (H : Hp) (rm : Nat) (K : KV) (f : Nat) (S : MSpec) (xs : List (X × List (Option Nat))) : Prop where
  get : opw P nm fr H rm K (.callb f S xs)
theorem BQ.mk1 {P : Program} {nm : Nat} {fr : Env} {H : Hp} {rm : Nat} {K : KV} {f : Nat} {S : MSpec} {xs : List (X × List (Option Nat))} {ar : List AV} (ha : borArgs fr H xs = ar) (hv : ValidM P f S) (hc : S.cost = 0) (hp : S.pre ar []) (hcl : ar.all clV = true)
    (hpl : ∀ r obs', S.post ar [] r obs' → plainV r ∧ ∀ (j : Nat) ob, obs'[j]? = some (some ob) → plainO ob)
    (hK : ∀ r obs', S.post ar [] r obs' → K (r.ren (nmapS S.st [] nm)) (hput (nmapS S.st [] nm) 0 obs' H) rm) : BQ P nm fr H rm K f S xs := ⟨by subst ha; exact ⟨hv, hc, hp, hcl, hpl, fun r obs' q1 _ _ => hK r obs' q1⟩⟩
def ops (P : Program) (nm : Nat) (fr : Env) (H : Hp) (rm : Nat) (K : KV) : AO → Prop
  | .mv x => K (ev fr x) H rm
  | .pick c a b => match ev fr c with
    | .w (.o (.c (.v (.bool true)))) => K (ev fr a) H rm
    | .w (.o (.c (.v (.bool false)))) => K (ev fr b) H rm
    | _ => False
  | .bin 0 op x y => match ev fr x, ev fr y with
    | .w (.o (.c (.v (.int k a)))), .w (.o (.c (.v (.int k' b)))) => k = k' ∧ binS op k a b fun v => K v H rm
    | _, _ => False
  | .un .not x => match ev fr x with
    | .w (.o (.c (.v (.bool true)))) => K (B false) H rm
    | .w (.o (.c (.v (.bool false)))) => K (B true) H rm
    | _ => False
  | .idx sz x i => match ev fr x, ev fr i with
    | .w (.o (.c (.sl s xs))), .w (.o (.c (.v (.int _ n)))) => s = sz ∧ ∃ (j : Nat) (e : List FV), n = j ∧ xs[j]? = some e ∧ K (.w (.o (.ep e))) H rm
    | .w (.o (.tk _ s xs)), .w (.o (.c (.v (.int _ n)))) => s = sz ∧ ∃ (j : Nat) (e : List FV), n = j ∧ xs[j]? = some e ∧ K (.w (.o (.ep e))) H rm
    | .w (.o (.ow k)), .w (.o (.c (.v (.int _ n)))) => ∃ (T : Nat) (xs : List (List AC)) (j : Nat) (e : List AC), H k = some (.arr T sz xs) ∧ n = j ∧ xs[j]? = some e ∧ K (.w (.o (.pa k sz j 0))) H rm
    | _, _ => False
  | .slv sz x hi => match ev fr x with
    | .w (.o (.ow k)) => ∃ (T : Nat) (xs : List (List AC)) (h : Nat), H k = some (.arr T sz xs) ∧ bnd fr 0 (some hi) = some h ∧ (h ≤ xs.length ∧ 0 < xs.length) ∧ K (.w (.o (.vw k h))) H rm
    | _ => False
  | .len x => match ev fr x with
    | .w (.o (.c (.sl _ xs))) => K (I xs.length) H rm
    | .w (.o (.tk _ _ xs)) => K (I xs.length) H rm
    | .w (.o .e0) => K (I 0) H rm
    | .w (.o (.ow k)) => ∃ (T s : Nat) (xs : List (List AC)), H k = some (.arr T s xs) ∧ K (I xs.length) H rm
    | .w (.o (.vw k hi)) => ∃ (T s : Nat) (xs : List (List AC)), H k = some (.arr T s xs) ∧ K (I hi) H rm
    | _ => False
  | .load n p => ∃ cs, ldc H (ev fr p) (n.getD 1) = some cs ∧ K (mkw n cs) H rm
  | .slc sz x lo hi mx => ∃ r, slcA fr sz (ev fr x) lo hi mx H = some (.one r H) ∧ K r H rm
  | .mksl T sz bytes zs l c => match ev fr l, ev fr c with
    | .w (.o (.c (.v (.int .i64 m)))), .w (.o (.c (.v (.int .i64 n)))) => (0 ≤ m ∧ m ≤ n ∧ n * bytes ≤ 140737488355328 ∧ n ≤ 4611686018427387904) ∧ K (.w (.o (.ow nm))) (hupd nm (some (.arr T sz (List.replicate m.toNat (zs.map ofV)))) H) rm
    | _, _ => False
  | .store n p x => match ev fr p with
    | .w (.o (.ptr k off)) => ∃ cs ds, H k = some (.cells cs) ∧ cellsOf (ev fr x) = some ds ∧ ds.length = n ∧ off + n ≤ cs.length ∧ K J (hupd k (some (.cells (put cs off ds))) H) rm
    | .w (.o (.pa k sz i off)) => ∃ (T : Nat) (xs : List (List AC)) (e ds : List AC), H k = some (.arr T sz xs) ∧ xs[i]? = some e ∧ cellsOf (ev fr x) = some ds ∧ ds.length = n ∧ off + n ≤ sz ∧ K J (hupd k (some (.arr T sz (xs.set i (put e off ds)))) H) rm
    | _ => False
  | .clip sz x hi mx => (∃ (k T : Nat) (xs : List (List AC)), ev fr x = .w (.o (.ow k)) ∧ H k = some (.arr T sz xs) ∧ bnd fr 0 (some hi) = some xs.length ∧ bnd fr 0 (some mx) = some xs.length ∧
        K (.w (.o (.ow nm))) (hupd nm (some (.arr T sz xs)) (hupd k none H)) rm) ∨
      ((ev fr x = .w (.o .e0) ∨ ∃ s, ev fr x = .w (.o (.c (.sl s [])))) ∧ bnd fr 0 (some hi) = some 0 ∧ bnd fr 0 (some mx) = some 0 ∧ K (.w (.o .e0)) H rm)
  | .app T sz bytes zs s x => ∃ ys, news H (ev fr x) = some ys ∧ newsz H sz (ev fr x) ∧ (match ev fr s with
      | .w (.o (.ow k)) => ∃ xs, H k = some (.arr T sz xs) ∧ (xs.length + ys.length) * bytes ≤ 140737488355328 ∧ K (.w (.o (.ow nm))) (hupd nm (some (.arr T sz (xs ++ ys))) (hupd k none H)) rm
      | .w (.o (.tk k s' xs)) => ∃ zs, s' = sz ∧ H k = some (.tok T sz xs.length) ∧ fcellss ys = some zs ∧ (xs.length + zs.length) * bytes ≤ 140737488355328 ∧
            K (.w (.o (.tk nm sz (xs ++ zs)))) (hupd nm (some (.tok T sz (xs.length + zs.length))) (hupd k none H)) rm
      | .w (.o .e0) => ys.length * bytes ≤ 140737488355328 ∧ K (.w (.o (.ow nm))) (hupd nm (some (.arr T sz ys)) H) rm
      | _ => False)
  | .call f S xs => S.pre (borArgs fr H xs) ∧ Valid P f S ∧ ((xs.all fun p => keepsV H (ev fr p.1)) = true ∨ (S.sc = true ∧ rdOf (borArgs fr H xs) = none)) ∧ rm + S.cost ≤ LIM ∧ ∀ r, S.post (borArgs fr H xs) r → K r H (rm + S.cost)
  | .callm f S xs => MQ P nm fr H rm K f S xs
  | .callo f S xs => OQ P nm fr H rm K f S xs
  | .callb f S xs => BQ P nm fr H rm K f S xs
  | o => opw P nm fr H rm K o
abbrev SQ := Nat → Env → Hp → Nat → Prop
/-- A value, seen first: so no frame holds the frames before it. -/
noncomputable def frc (v : AV) (K : AV → Prop) : Prop := AV.rec (motive := fun _ => Prop) (fun c => K (.w c)) (fun f a b => K (.fn f a b)) (fun xs => K (.tup xs)) v
theorem frc_of {v : AV} {K : AV → Prop} (h : frc v K) : K v := by cases v <;> exact h
/-- One operation, what follows behind a variable. (By recursors, not by equations: so the kernel meets the same words on its way.) -/
noncomputable def stk (o : AO) (F : Nat → Prop) : Prop := match o with
  | .callm _ S _ => F (16 + S.st)
  | .callb _ S _ => F (16 + S.st)
  | _ => F 16
theorem stk_of {o : AO} {F : Nat → Prop} (h : stk o F) : F (stp o) := by cases o <;> exact h
noncomputable def sq1 (P : Program) (op : Op1) (k : SQ) : SQ := fun nm fr H rm =>
  match op.g with
  | none => stk op.o fun s => ops P nm fr H rm (fun v H' rm' => frc v fun v => k (nm + s) (updo op.d v fr) H' rm') op.o
  | some (s, want) => match fr s with
    | .w (.o (.c (.v (.bool t)))) => (match t == want with
      | true => stk op.o fun s => ops P nm fr H rm (fun v H' rm' => frc v fun v => k (nm + s) (updo op.d v fr) H' rm') op.o
      | false => stk op.o fun s => k (nm + s) (updo op.d U fr) H rm)
    | .tup [] => stk op.o fun s => k (nm + s) (updo op.d U fr) H rm
    | _ => False
noncomputable def sqs (P : Program) (K : SQ) (l : List Op1) : SQ :=
  List.rec (motive := fun _ => SQ) K (fun op _ k => sq1 P op k) l
abbrev SW := Post → Env → Hp → Nat → Nat → Prop
noncomputable def w1rg (P : Program) (l : List Op1) : SW := fun Q fr H nx rm => sqs P (fun nx' fr' H' rm' => Q .normal fr' H' nx' rm') l nx fr H rm
noncomputable def w1rgp (P : Program) (ps : List (Nat × Nat)) (l : List Op1) : SW := fun Q fr H nx rm => Apart fr ps ∧ sqs P (fun nx' fr' H' rm' => Q .normal fr' H' nx' rm') l nx fr H rm
def w1seq (a b : SW) : SW := fun Q fr H nx rm => a (Post.seq (b Q) Q) fr H nx rm
def w1cond (x : X) (a b : SW) : SW := fun Q fr H nx rm => match ev fr x with
    | .w (.o (.c (.v (.bool true)))) => a Q fr H nx rm
    | .w (.o (.c (.v (.bool false)))) => b Q fr H nx rm
    | _ => False
def w1block (id : Nat) (a : SW) : SW := fun Q fr H nx rm => a (Post.blk id Q) fr H nx rm
def w1loop (a : SW) : SW := fun Q fr H nx rm => ∃ (I : Env → Hp → Nat → Nat → Prop) (m : Env → Hp → Nat → Nat → Nat), I fr H nx rm ∧
      ∀ fr H nx rm, I fr H nx rm → a (Post.seq (fun fr' H' nx' rm' => I fr' H' nx' rm' ∧ m fr' H' nx' rm' < m fr H nx rm) Q) fr H nx rm
def w1frz (t : Nat) (a : SW) : SW := fun Q fr H nx rm => (∃ (k T sz : Nat) (xs : List (List AC)) (ys : List (List FV)), fr t = .w (.o (.ow k)) ∧ H k = some (.arr T sz xs) ∧ fcellss xs = some ys ∧
      (a Q (updo (some t) (.w (.o (.tk k sz ys))) fr) (hupd k (some (.tok T sz xs.length)) H) nx rm ∨ a Q (updo (some t) (.w (.o (.c (.sl sz ys)))) fr) (hupd k (some (.tok T sz xs.length)) H) nx rm)) ∨ a Q fr H nx rm
def w1tke (t off T sz : Nat) (a : SW) : SW := fun Q fr H nx rm => ∃ (k : Nat) (cs : List AC), fr t = .w (.o (.ptr k 0)) ∧ H k = some (.cells cs) ∧ cs[off]? = some .e0 ∧
      a Q fr (hupd nx (some (.tok T sz 0)) (hupd k (some (.cells (cs.set off (.tk nx sz [])))) H)) (nx + 16) rm
/-- The walk. -/
noncomputable def swp (P : Program) (a : A) : SW :=
  A.rec (motive := fun _ => SW) (fun l => w1rg P l) (fun ps l => w1rgp P ps l) (fun _ _ a b => w1seq a b) (fun x _ _ a b => w1cond x a b) (fun id _ a => w1block id a) (fun _ a => w1loop a)
    (fun id Q fr H nx rm => Q (.exit id) fr H nx rm) (fun Q fr H nx rm => Q .ret fr H nx rm) (fun Q fr H nx rm => Q .normal fr H nx rm) (fun _ _ _ _ _ => False) (fun t _ a => w1frz t a) (fun t off T sz _ a => w1tke t off T sz a) a
section
variable {P : Program} {fr : Env} {H : Hp} {rm nm : Nat} {K : KV}
theorem binS_sound {op : BinOp} {k : IntKind} {a b : Int} {K : AV → Prop} (h : binS op k a b K) : ∃ v, intOp op k a b = some v ∧ K v := by
  unfold binS at h
  unfold intOp
  split at h
  · by_cases e : a = b
    · exact ⟨_, rfl, by simpa [e] using h.1 e⟩
    · exact ⟨_, rfl, by have := h.2 e; rwa [show (a == b) = false by simpa using e]⟩
  · by_cases e : a = b
    · exact ⟨_, rfl, by have := h.1 e; rwa [show (a != b) = false by simpa using e]⟩
    · exact ⟨_, rfl, by have := h.2 e; rwa [show (a != b) = true by simpa using e]⟩
  · by_cases e : a < b
    · exact ⟨_, rfl, by have := h.1 e; rwa [decide_eq_true e]⟩
    · exact ⟨_, rfl, by have := h.2 (by omega); rwa [decide_eq_false e]⟩
  · by_cases e : a ≤ b
    · exact ⟨_, rfl, by have := h.1 e; rwa [decide_eq_true e]⟩
    · exact ⟨_, rfl, by have := h.2 (by omega); rwa [decide_eq_false e]⟩
  · by_cases e : b < a
    · exact ⟨_, rfl, by have := h.1 e; rwa [show decide (a > b) = true from decide_eq_true e]⟩
    · exact ⟨_, rfl, by have := h.2 (by omega); rwa [show decide (a > b) = false from decide_eq_false e]⟩
  · by_cases e : b ≤ a
    · exact ⟨_, rfl, by have := h.1 e; rwa [show decide (a ≥ b) = true from decide_eq_true e]⟩
    · exact ⟨_, rfl, by have := h.2 (by omega); rwa [show decide (a ≥ b) = false from decide_eq_false e]⟩
  · exact ⟨_, rfl, h⟩
  · exact ⟨_, rfl, h⟩
  · exact ⟨_, rfl, h⟩
  · exact ⟨_, if_neg h.1, h.2⟩
  · exact ⟨_, if_neg h.1, h.2⟩
  · exact ⟨_, rfl, h⟩
  · exact h.elim
theorem ops_sound {o : AO} (h : ops P nm fr H rm K o) : opw P nm fr H rm K o := by
  unfold ops at h
  split at h
  · exact h
  · rename_i c a b
    split at h
    · rename_i e; simp only [opw, sem, e]; simpa using h
    · rename_i e; simp only [opw, sem, e]; simpa using h
    · exact h.elim
  · rename_i op x y
    split at h
    · rename_i k a k' b e1 e2
      obtain ⟨rfl, h⟩ := h
      obtain ⟨v, h1, h2⟩ := binS_sound h
      simp only [opw, sem, e1, e2, binA, if_true, h1, Option.map_some]
      exact h2
    · exact h.elim
  · rename_i x
    split at h
    · rename_i e; simp only [opw, sem, e]; exact h
    · rename_i e; simp only [opw, sem, e]; exact h
    · exact h.elim
  · rename_i sz x i
    split at h
    · rename_i s xs kk n e1 e2
      obtain ⟨rfl, j, e, rfl, h1, h2⟩ := h
      simp only [opw, sem, e1, e2, idxA]
      have h3 : xs[(j : Int).toNat]? = some e := by rwa [Int.toNat_natCast]
      rw [if_pos ⟨trivial, Int.natCast_nonneg j⟩, h3]; exact h2
    · rename_i kk0 s xs kk n e1 e2
      obtain ⟨rfl, j, e, rfl, h1, h2⟩ := h
      simp only [opw, sem, e1, e2, idxA]
      have h3 : xs[(j : Int).toNat]? = some e := by rwa [Int.toNat_natCast]
      rw [if_pos ⟨trivial, Int.natCast_nonneg j⟩, h3]; exact h2
    · rename_i k kk n e1 e2
      obtain ⟨T, xs, j, e, hk, rfl, h1, h2⟩ := h
      simp only [opw, sem, e1, e2, idxA, hk]
      have h3 : xs[(j : Int).toNat]? = some e := by rwa [Int.toNat_natCast]
      rw [if_pos ⟨trivial, Int.natCast_nonneg j⟩, h3]; simpa [Int.toNat_natCast] using h2
    · exact h.elim
  · rename_i sz x hi
    split at h
    · rename_i k e
      obtain ⟨T, xs, h', h1, h2, h3, h4⟩ := h
      simp only [opw, sem, e, slvA, h1, h2]; rw [if_pos ⟨trivial, h3⟩]; exact h4
    · exact h.elim
  · rename_i x
    split at h
    · rename_i e; simp only [opw, sem, e, lenA]; exact h
    · rename_i e; simp only [opw, sem, e, lenA]; exact h
    · rename_i e; simp only [opw, sem, e, lenA]; exact h
    · rename_i k e
      obtain ⟨T, s, xs, hk, h⟩ := h
      simp only [opw, sem, e, lenA, hk]; exact h
    · rename_i k hi e
      obtain ⟨T, s, xs, hk, h⟩ := h
      simp only [opw, sem, e, lenA, hk]; exact h
    · exact h.elim
  · rename_i n p
    obtain ⟨cs, h1, h2⟩ := h
    simp only [opw, sem, h1]; exact h2
  · rename_i sz x lo hi mx
    obtain ⟨r, h1, h2⟩ := h
    simp only [opw, sem, h1]; exact h2
  · rename_i T sz bytes zs l c
    split at h
    · rename_i m n e1 e2
      obtain ⟨h1, h2⟩ := h
      simp only [opw, sem, e1, e2, if_pos h1]; exact h2
    · exact h.elim
  · rename_i n p x
    split at h
    · rename_i k off e
      obtain ⟨cs, ds, h1, h2, h3, h4, h5⟩ := h
      simp only [opw, e, h1, h2]; exact ⟨h3, h4, h5⟩
    · rename_i k sz i off e
      obtain ⟨T, xs, e0, ds, h1, h2, h3, h4, h5, h6⟩ := h
      simp only [opw, e, h1, h2, h3]; exact ⟨trivial, h4, h5, h6⟩
    · exact h.elim
  · simp only [opw]; exact h
  · rename_i T sz bytes zs s x
    obtain ⟨ys, h1, h2, h3⟩ := h
    split at h3
    · rename_i k e
      obtain ⟨xs, g1, g2, g3⟩ := h3
      simp only [opw, h1, e, g1]; exact ⟨h2, trivial, trivial, g2, g3⟩
    · rename_i k s' xs e
      obtain ⟨zs', rfl, g1, g2, g3, g4⟩ := h3
      simp only [opw, h1, e, g1, g2]; exact ⟨h2, trivial, trivial, trivial, trivial, g3, g4⟩
    · rename_i e
      simp only [opw, h1, e]; exact ⟨h2, h3.1, h3.2⟩
    · exact h3.elim
  · rename_i f S xs
    obtain ⟨h1, h2, h3, h4, h5⟩ := h
    exact ⟨⟨h1, h2, h3⟩, h4, fun r hr => h5 r hr.1⟩
  · exact h.get
  · obtain ⟨h1, h2⟩ := h.get
    simp only [opw, sem, if_pos h1]; exact h2
  · exact h.get
  · exact h
theorem sqs_cons {K : SQ} {op : Op1} {r : List Op1} : sqs P K (op :: r) = sq1 P op (sqs P K r) := rfl
theorem sqs_sound {K : SQ} : ∀ {l : List Op1} {nm : Nat} {fr : Env} {H : Hp} {rm : Nat}, sqs P K l nm fr H rm → seqw P (K (nm + tot l)) l nm fr H rm
  | [], nm, fr, H, rm, h => h
  | ⟨d, none, o⟩ :: r, nm, fr, H, rm, h => by
    rw [sqs_cons] at h
    simp only [sq1] at h
    have h := stk_of h
    have e : nm + tot (⟨d, none, o⟩ :: r) = nm + stp o + tot r := by simp only [tot]; omega
    rw [e]
    exact opw_mono (K := fun v H' rm' => frc v fun v => sqs P K r (nm + stp o) (updo d v fr) H' rm') (fun v H' rm' h => sqs_sound (frc_of (K := fun v => sqs P K r (nm + stp o) (updo d v fr) H' rm') h)) (ops_sound h)
  | ⟨d, some (s, want), o⟩ :: r, nm, fr, H, rm, h => by
    rw [sqs_cons] at h
    simp only [sq1] at h
    have e : nm + tot (⟨d, some (s, want), o⟩ :: r) = nm + stp o + tot r := by simp only [tot]; omega
    rw [e]
    unfold seqw
    split at h
    · rename_i t ht
      simp only [ht]
      split at h
      · rename_i e
        have e : t = want := by simpa using e
        subst e
        have h := stk_of h
        exact ⟨fun _ => opw_mono (K := fun v H' rm' => frc v fun v => sqs P K r (nm + stp o) (updo d v fr) H' rm') (fun v H' rm' h => sqs_sound (frc_of (K := fun v => sqs P K r (nm + stp o) (updo d v fr) H' rm') h)) (ops_sound h), fun q => by cases t <;> cases q⟩
      · rename_i e
        have e : t ≠ want := by simpa using e
        exact ⟨fun q => absurd q e, fun _ => sqs_sound (stk_of h)⟩
    · rename_i ht; simp only [ht]; exact sqs_sound (stk_of h)
    · exact h.elim
theorem seqw_mono {K K' : KE} (hK : ∀ fr H rm, K fr H rm → K' fr H rm) : ∀ {l : List Op1} {nm : Nat} {fr : Env} {H : Hp} {rm : Nat}, seqw P K l nm fr H rm → seqw P K' l nm fr H rm
  | [], nm, fr, H, rm, h => hK _ _ _ h
  | op :: r, nm, fr, H, rm, h => (seqw_cons op r).2 (st1_mono (fun _ _ _ h => seqw_mono hK h) ((seqw_cons op r).1 h))
theorem awp_mono : ∀ {a : A} {Q Q' : Post} {fr : Env} {H : Hp} {nx rm : Nat}, (∀ e fr H nx rm, Q e fr H nx rm → Q' e fr H nx rm) → awp P a Q fr H nx rm → awp P a Q' fr H nx rm := by
  intro a
  induction a with
  | rg l => intro Q Q' fr H nx rm hQ h; exact seqw_mono (fun _ _ _ h => hQ _ _ _ _ _ h) h
  | rgp ps l => intro Q Q' fr H nx rm hQ h; exact ⟨h.1, seqw_mono (fun _ _ _ h => hQ _ _ _ _ _ h) h.2⟩
  | seq a b iha ihb =>
    intro Q Q' fr H nx rm hQ h
    refine iha (fun e fr H nx rm h => ?_) h
    cases e with
    | normal => exact ihb hQ h
    | exit i => exact hQ _ _ _ _ _ h
    | ret => exact hQ _ _ _ _ _ h
  | cond x a b iha ihb =>
    intro Q Q' fr H nx rm hQ h
    unfold awp at h ⊢
    split at h
    · exact ⟨fun e => iha hQ (h.1 e), fun e => ihb hQ (h.2 e)⟩
    · exact h.elim
  | block id a ih =>
    intro Q Q' fr H nx rm hQ h
    refine ih (fun e fr H nx rm h => ?_) h
    cases e with
    | normal => exact hQ _ _ _ _ _ h
    | exit i =>
      simp only [Post.blk] at h ⊢
      split at h
      · rename_i e; rw [if_pos e]; exact hQ _ _ _ _ _ h
      · rename_i e; rw [if_neg e]; exact hQ _ _ _ _ _ h
    | ret => exact hQ _ _ _ _ _ h
  | loop a ih =>
    intro Q Q' fr H nx rm hQ h
    obtain ⟨I, m, h1, h2⟩ := h
    refine ⟨I, m, h1, fun fr H nx rm hI => ih (fun e fr H nx rm h => ?_) (h2 fr H nx rm hI)⟩
    cases e with
    | normal => exact h
    | exit i => exact hQ _ _ _ _ _ h
    | ret => exact hQ _ _ _ _ _ h
  | exit i => intro Q Q' fr H nx rm hQ h; exact hQ _ _ _ _ _ h
  | ret => intro Q Q' fr H nx rm hQ h; exact hQ _ _ _ _ _ h
  | skip => intro Q Q' fr H nx rm hQ h; exact hQ _ _ _ _ _ h
  | dead => intro Q Q' fr H nx rm hQ h; exact h
  | frz t a ih =>
    intro Q Q' fr H nx rm hQ h
    rcases h with ⟨k, T, sz, xs, ys, h1, h2, h3, h4 | h4⟩ | h
    · exact .inl ⟨k, T, sz, xs, ys, h1, h2, h3, .inl (ih hQ h4)⟩
    · exact .inl ⟨k, T, sz, xs, ys, h1, h2, h3, .inr (ih hQ h4)⟩
    · exact .inr (ih hQ h)
  | tke t off T sz a ih =>
    intro Q Q' fr H nx rm hQ h
    obtain ⟨k, cs, h1, h2, h3, h4⟩ := h
    exact ⟨k, cs, h1, h2, h3, ih hQ h4⟩
theorem swp_sound : ∀ {a : A} {Q : Post} {fr : Env} {H : Hp} {nx rm : Nat}, swp P a Q fr H nx rm → awp P a Q fr H nx rm := by
  intro a
  induction a with
  | rg l => intro Q fr H nx rm h; exact sqs_sound h
  | rgp ps l => intro Q fr H nx rm h; exact ⟨h.1, sqs_sound h.2⟩
  | seq a b iha ihb =>
    intro Q fr H nx rm h
    have h0 : swp P a (Post.seq (swp P b Q) Q) fr H nx rm := h
    show awp P a (Post.seq (awp P b Q) Q) fr H nx rm
    refine awp_mono (fun e fr H nx rm h => ?_) (iha h0)
    cases e with
    | normal => exact ihb h
    | exit i => exact h
    | ret => exact h
  | cond x a b iha ihb =>
    intro Q fr H nx rm h
    replace h : w1cond x (swp P a) (swp P b) Q fr H nx rm := h
    unfold w1cond at h
    unfold awp
    split at h
    · rename_i ht; simp only [ht]; exact ⟨fun _ => iha h, fun e => by cases e⟩
    · rename_i ht; simp only [ht]; exact ⟨fun e => (by cases e), fun _ => ihb h⟩
    · exact h.elim
  | block id a ih => intro Q fr H nx rm h; exact ih (Q := Post.blk id Q) h
  | loop a ih =>
    intro Q fr H nx rm h
    obtain ⟨I, m, h1, h2⟩ := h
    exact ⟨I, m, h1, fun fr H nx rm hI => ih (h2 fr H nx rm hI)⟩
  | exit i => intro Q fr H nx rm h; exact h
  | ret => intro Q fr H nx rm h; exact h
  | skip => intro Q fr H nx rm h; exact h
  | dead => intro Q fr H nx rm h; exact h
  | frz t a ih =>
    intro Q fr H nx rm h
    rcases h with ⟨k, T, sz, xs, ys, h1, h2, h3, h4 | h4⟩ | h
    · exact .inl ⟨k, T, sz, xs, ys, h1, h2, h3, .inl (ih h4)⟩
    · exact .inl ⟨k, T, sz, xs, ys, h1, h2, h3, .inr (ih h4)⟩
    · exact .inr (ih h)
  | tke t off T sz a ih =>
    intro Q fr H nx rm h
    obtain ⟨k, cs, h1, h2, h3, h4⟩ := h
    exact ⟨k, cs, h1, h2, h3, ih h4⟩
end
theorem valid_of_swp {P : Program} {f : Nat} {c : FC} {S : FSpec} (hm : P.follows .mixedOrders = true) (hF : IsF P f c) (hlen : ∀ args, S.pre args → args.length ≤ c.n)
    (h : ∀ args rm, S.pre args → rm + S.cost ≤ LIM → swp P c.body (Fin c.res args (rm + S.cost) (S.post args)) (ent args) (entH args) 1 rm) : Valid P f S :=
  valid_of_awp hm hF hlen fun args rm hp hl => swp_sound (h args rm hp hl)
end Av
end Go.Proofs.Ytdboofnogabefaa
/- Layer Av, part 26: the contract of a function that is handed objects, or hands back new ones, from its code (awp, swp). -/
namespace Go.Proofs.Ytdboofnogabefaa
namespace Av
open Go.RowKit
/-- The objects without those that are handed on. -/
def hcut (ks : List Nat) (H : Hp) : Hp := fun k => if k ∈ ks then none else H k
def ocut (ks : List Nat) (own : Nat → Option Nat) : Nat → Option Nat := fun b => match own b with
  | some k => if k ∈ ks then none else some k
  | none => none
theorem ocut_iff {ks : List Nat} {own : Nat → Option Nat} {b k : Nat} : ocut ks own b = some k ↔ own b = some k ∧ k ∉ ks := by
  unfold ocut
  cases h : own b with
  | none => simp
  | some j =>
    simp only
    split
    · rename_i hj
      constructor
      · intro h; cases h
      · rintro ⟨e, h⟩; cases e; exact absurd hj (by assumption)
    · rename_i hj
      constructor
      · intro e; cases e; exact ⟨rfl, hj⟩
      · rintro ⟨e, h⟩; exact e
theorem hcut_eq {ks : List Nat} {H : Hp} {k : Nat} {ob : Ob} (h : hcut ks H k = some ob) : H k = some ob ∧ k ∉ ks := by
  unfold hcut at h
  split at h
  · cases h
  · rename_i hk; exact ⟨h, hk⟩
/-- What is handed back: as it is, or frozen where no handed-on object stands in it. -/
def resM (ks : List Nat) (fr : Env) (H : Hp) : List Rs → List AW → Prop
  | [], [] => True
  | s :: ss, a :: as => (∃ c, rawC fr H s = some c ∧ (a = c ∨ (a = borW (hcut ks H) s.sh c ∧ clW a = true))) ∧ resM ks fr H ss as
  | _, _ => False
/-- What must hold at the end; ks: which objects are handed on, in the callee's order. -/
def FinM (res : List Rs) (n0 : Nat) (lim : Nat) (post : AV → List (Option Ob) → Prop) : Post
  | .normal, fr, H, nx, rm' | .ret, fr, H, nx, rm' => rm' ≤ lim ∧ ∃ (ks : List Nat) (as : List AW) (r : AV) (obs' : List (Option Ob)), resM ks fr H res as ∧ resV as = r.ren (nmap ks nx) ∧ post r obs' ∧
      ks.Nodup ∧ (∀ i, i < n0 → ks[i]? = some i) ∧ obs'.length = ks.length ∧
      ∀ (i k : Nat), ks[i]? = some k → (∃ ob : Ob, obs'[i]? = some (some ob) ∧ H k = some (ob.ren (nmap ks nx))) ∨ (obs'[i]? = some none ∧ H k = none)
  | .exit _, _, _, _, _ => False
section
variable {P : Program} {bs : Base} {V : Vw} {O : Nat → Option Value} {own : Nat → Option Nat} {dom : Nat → Prop} {w : World} {H : Hp} {rm n nm : Nat} {a : Act} {fr : Env}
theorem WR.cut (hw : WR bs V O own dom w H rm) (ks : List Nat) : WR bs V O (ocut ks own) dom w (hcut ks H) rm := by
  refine ⟨hw.sub, fun b o u e => ?_, fun k ob e => ?_, hw.domO, fun k ob e => hw.domH k ob (hcut_eq e).1, fun b k e => hw.ownb b k (ocut_iff.1 e).1, fun b b' k e e' => hw.uniq b b' k (ocut_iff.1 e).1 (ocut_iff.1 e').1,
    hw.vb, hw.v0, hw.os, hw.tape, hw.output, hw.size, hw.block, hw.o0⟩
  · rcases hw.vo b o u e with h | ⟨k, T, sz, m, h1, h2, h3⟩
    · left; unfold ocut; rw [h]
    · by_cases hk : k ∈ ks
      · left; unfold ocut; rw [h1]; simp [hk]
      · exact .inr ⟨k, T, sz, m, ocut_iff.2 ⟨h1, hk⟩, by unfold hcut; rw [if_neg hk]; exact h2, h3⟩
  · obtain ⟨h1, h2⟩ := hcut_eq e
    exact (hw.obs k ob h1).mono (Vw.le_refl _) (fun _ _ h => h) (fun b hb => ⟨ocut_iff.2 ⟨hb, h2⟩, rfl⟩) (Nat.le_refl _)
theorem RW_cl {V : Vw} {O O' : Nat → Option Value} {x : Value} {c : AW} (h : RW V O x c) (hcl : clW c = true) : RW V O' x c := RV_cl (v := .w c) h hcl
theorem resM_run (hw : WR bs V O own dom w H rm) (hf : FRn n V O a fr) {ks : List Nat} {V1 : Vw} (hle : V.le V1) (hV1 : ∀ b k, ocut ks own b = some k → (∀ f, hcut ks H k ≠ some (.rd f)) → ∀ o, V1 b o = w.cell? ⟨b, o, none⟩) :
    ∀ {rs : List ResultVar} {ss : List Rs}, chkRes P rs ss = true → ∀ {as : List AW}, resM ks fr H ss as → ∃ vs : List Value, (rs.mapM (resOne a.tmps)).run P w = .ok vs w ∧ RWs V1 O vs as
  | [], [], _, as, h => by
    cases as with
    | nil => exact ⟨[], by simp, rfl, fun i x c h1 => by simp at h1⟩
    | cons a as => exact h.elim
  | r :: rs, s :: ss, hc, as, h => by
    simp only [chkRes, Bool.and_eq_true] at hc
    cases as with
    | nil => exact h.elim
    | cons a0 as =>
      obtain ⟨⟨c, h1, h2⟩, h3⟩ := h
      obtain ⟨v, e1, r1⟩ := res1_run hw hf hc.1 h1
      obtain ⟨vs, e2, r2⟩ := resM_run hw hf hle hV1 hc.2 h3
      have r1' : RW V1 O v a0 := by
        rcases h2 with rfl | ⟨rfl, hcl⟩
        · exact r1.mono hle (fun _ _ h => h)
        · exact RW_cl (borW_gen (hw.cut ks) hle hV1 r1 hcl) hcl
      refine ⟨v :: vs, ?_, by simp [r2.1], fun i x d h4 h5 => ?_⟩
      · simp [List.mapM_cons, e1, e2]
      · cases i with
        | zero => simp at h4 h5; subst h4; subst h5; exact r1'
        | succ i => exact r2.2 i x d (by simpa using h4) (by simpa using h5)
  | [], _ :: _, hc, _, _ => by simp [chkRes] at hc
  | _ :: _, [], hc, _, _ => by simp [chkRes] at hc
end
/-- The frame that a call begins with. -/
def entM (args : List AV) : Env := fun t => args.getD t J
theorem validM_of_awp {P : Program} {f : Nat} {c : FC} {S : MSpec} (hm : P.follows .mixedOrders = true) (hF : IsF P f c) (hlen : ∀ args obs, S.pre args obs → args.length ≤ c.n)
    (h : ∀ args obs rm, S.pre args obs → rm + S.cost ≤ LIM → awp P c.body (FinM c.res obs.length (rm + S.cost) (S.post args obs)) (entM args) (fun k => obs[k]?) obs.length rm) : ValidM P f S := by
  obtain ⟨fn, code, hfn, hbody, hname, hn, hchk, hres⟩ := hF
  refine ⟨⟨fn, hfn, by rw [hbody]; rfl, hname⟩, fun args obs rm hpre hlim => ?_⟩
  intro V O own w vals hsub hO hown huniq hvo hobs hargs
  refine calls_of_wp hfn hbody ?_
  let bs : Base := ⟨w, V, own, O⟩
  have hlenv : vals.length = args.length := hargs.1
  have hle := hlen args obs hpre
  have hfr : FRn c.n V O { tmps := vals.toArray ++ Array.replicate (fn.ntmps - vals.toArray.size) undef, defers := [] } (entM args) := by
    refine ⟨by simp [hn]; omega, rfl, fun t => ?_⟩
    show RV V O _ (args.getD t J)
    rcases Nat.lt_or_ge t vals.length with ht | ht
    · have e1 : vals[t]? = some vals[t] := List.getElem?_eq_getElem ht
      have ht2 : t < args.length := by omega
      have e2 : args[t]? = some args[t] := List.getElem?_eq_getElem ht2
      have := hargs.2 t _ _ e1 e2
      have e3 : (vals.toArray ++ Array.replicate (fn.ntmps - vals.toArray.size) undef).getD t undef = vals[t] := by
        rw [Array.getD_eq_getD_getElem?, Array.getElem?_append_left (by simpa using ht)]
        simp [ht]
      rw [List.getD_eq_getElem?_getD, e2, e3]; exact this
    · have : args.getD t J = J := by rw [List.getD_eq_getElem?_getD, List.getElem?_eq_none (by omega)]; rfl
      rw [this]; exact RV_junk _ _ _
  have hw : WR bs V O own (fun k => k < obs.length) w (fun k => obs[k]?) rm := by
    refine ⟨hsub, hvo, hobs, hO, fun k ob e => (List.getElem?_eq_some_iff.1 e).1, fun b k e => ?_, huniq, fun b o u e => .inl (by show V b o ≠ none; rw [e]; simp), Vw.le_refl _, rfl, rfl, rfl, Nat.le_refl _, fun _ _ _ => rfl, fun _ _ h => h⟩
    obtain ⟨h1, h2⟩ := hown b k e
    exact ⟨h2, .inl (by show own b ≠ none; rw [e]; simp), h1⟩
  refine code_sound (bs := bs) (n := fn.ntmps) hm (x := c.body) hchk ⟨V, O, own, hw, by simpa only [hn] using hfr⟩ (h args obs rm hpre hlim) ?_
  intro e fr H nx rm' a' w' hfin hrel
  have main : (rm' ≤ rm + S.cost ∧ ∃ (ks : List Nat) (as : List AW) (r : AV) (obs' : List (Option Ob)), resM ks fr H c.res as ∧ resV as = r.ren (nmap ks nx) ∧ S.post args obs r obs' ∧
      ks.Nodup ∧ (∀ i, i < obs.length → ks[i]? = some i) ∧ obs'.length = ks.length ∧
      ∀ (i k : Nat), ks[i]? = some k → (∃ ob : Ob, obs'[i]? = some (some ob) ∧ H k = some (ob.ren (nmap ks nx))) ∨ (obs'[i]? = some none ∧ H k = none)) →
      a'.defers = [] ∧ ∃ v, (results fn a'.tmps).run P w' = .ok v w' ∧ ∃ v' r obs' V' O' own', Ending.returned v = .returned v' ∧ S.post args obs r obs' ∧ RV V' O' v' r ∧ V.le V' ∧ V'.sub w' ∧
        (∀ k v, O k = some v → O' k = some v) ∧ (∀ k v, O' k = some v → k < obs'.length) ∧
        (∀ (k : Nat) ob, obs'[k]? = some (some ob) → OR V' O' own' w' (rm + S.cost) k ob) ∧
        (∀ b o u, V' b o = some u → own' b = none ∨ ∃ (k T sz n : Nat), own' b = some k ∧ obs'[k]? = some (some (.tok T sz n)) ∧ o < n * sz) ∧
        (∀ b k, own' b = some k → k < obs'.length ∧ b < w'.heap.size ∧ (own b ≠ none ∨ w.heap.size ≤ b)) ∧ (∀ b b' k, own' b = some k → own' b' = some k → b = b') ∧
        (∀ b o u, V' b o = some u → V b o = some u ∨ w.heap.size ≤ b ∨ own b ≠ none) ∧ Kept w w' own := by
    rintro ⟨hrm, ks, as, r, obs', h1, h2, h3, hnd, hk0, hkl, hks⟩
    obtain ⟨V2, O2, own2, hw2, hf2⟩ := hrel
    have klt : ∀ i k : Nat, ks[i]? = some k → H k ≠ none → k < nx := by
      intro i k hk hH
      cases hh : H k with
      | none => exact absurd hh hH
      | some ob => exact hw2.domH k ob hh
    -- cells that are handed back frozen
    let V1 : Vw := fun b o => match ocut ks own2 b with
      | some k => w'.cell? ⟨b, o, none⟩
      | none => V2 b o
    have hV1 : ∀ b k, ocut ks own2 b = some k → (∀ f, hcut ks H k ≠ some (.rd f)) → ∀ o, V1 b o = w'.cell? ⟨b, o, none⟩ := by
      intro b k hk _ o
      show (match ocut ks own2 b with | some k => w'.cell? ⟨b, o, none⟩ | none => V2 b o) = _
      rw [hk]
    have hle2 : V2.le V1 := by
      intro b o u e
      show (match ocut ks own2 b with | some k => w'.cell? ⟨b, o, none⟩ | none => V2 b o) = _
      split
      · exact hw2.sub _ _ _ e
      · exact e
    have hsub1 : V1.sub w' := by
      intro b o u e
      replace e : (match ocut ks own2 b with | some k => w'.cell? ⟨b, o, none⟩ | none => V2 b o) = some u := e
      split at e
      · exact e
      · exact hw2.sub _ _ _ e
    obtain ⟨vs, q1, q2⟩ := resM_run hw2 hf2 hle2 hV1 hres h1
    generalize hρ : nmap ks nx = ρ at *
    have ρlo : ∀ i k : Nat, ks[i]? = some k → ρ i = k := by
      intro i k h
      obtain ⟨hi, rfl⟩ := List.getElem?_eq_some_iff.1 h
      rw [← hρ]; simp [nmapS, hi]
    have ρhi : ∀ i, ks.length ≤ i → nx ≤ ρ i := by
      intro i h
      rw [← hρ]
      have : ¬ i < ks.length := by omega
      simp only [nmapS, this, dite_false]
      omega
    let O' : Nat → Option Value := fun i => if i < ks.length then O2 (ρ i) else none
    let own' : Nat → Option Nat := fun b => match own2 b with | some k => ks.idxOf? k | none => none
    have own'_iff : ∀ b i, own' b = some i ↔ ∃ k, own2 b = some k ∧ ks[i]? = some k := by
      intro b i
      show (match own2 b with | some k => ks.idxOf? k | none => none) = some i ↔ _
      cases own2 b with
      | none => simp
      | some k =>
        simp only [Option.some.injEq, exists_eq_left', List.idxOf?, List.findIdx?_eq_some_iff_getElem]
        constructor
        · rintro ⟨hi, h1, _⟩
          simp only [beq_iff_eq] at h1
          rw [List.getElem?_eq_getElem hi, h1]
        · intro h
          obtain ⟨hi, h1⟩ := List.getElem?_eq_some_iff.1 h
          refine ⟨hi, by simp [h1], fun j hj e => ?_⟩
          simp only [beq_iff_eq] at e
          have := nodup_inj hnd (e.trans h1.symm)
          omega
    have hO' : ∀ j v, O2 (ρ j) = some v → O' j = some v := by
      intro j v hv
      show (if j < ks.length then O2 (ρ j) else none) = some v
      split
      · exact hv
      · rename_i hj
        have := ρhi j (by omega)
        have := hw2.domO _ _ hv
        omega
    have hrv : RV V1 O' (pack vs) r := by
      have : RV V1 O2 (pack vs) (resV as) := by
        obtain ⟨hl, hr⟩ := q2
        match vs, as, hl, hr with
        | [v], [c], _, hr => exact hr 0 v c rfl rfl
        | [], [], _, hr => exact ⟨[], rfl, rfl, hr⟩
        | _ :: _ :: _, _ :: _ :: _, hl, hr => exact ⟨_, rfl, hl, hr⟩
      rw [h2] at this
      exact this.unren hO'
    refine ⟨hf2.2.1, pack vs, by rw [results_eq]; simp only [Sem.run_bind, q1, Result.andThen_ok, Sem.run_pure], pack vs, r, obs', V1, O', own', rfl, h3, hrv, Vw.le_trans hw2.v0 hle2, hsub1, fun k v e => ?_, fun k v e => ?_, fun k ob e => ?_, fun b o u e => ?_, fun b k e => ?_, fun b b' k e e' => ?_, fun b o u e => ?_, ⟨hw2.os, hw2.tape, hw2.output, hw2.size, hw2.block⟩⟩
    · have hk := hO k v e
      have hki := hk0 k hk
      refine hO' k v ?_
      rw [ρlo k k hki]
      exact hw2.o0 k v e
    · replace e : (if k < ks.length then O2 (ρ k) else none) = some v := e
      split at e
      · rw [hkl]; assumption
      · cases e
    · have hk : k < ks.length := by rw [← hkl]; exact (List.getElem?_eq_some_iff.1 e).1
      rcases hks k _ (List.getElem?_eq_getElem hk) with ⟨ob', e1, e2⟩ | ⟨e1, _⟩
      · rw [e] at e1; cases e1
        have ho := (hw2.obs _ _ e2).mono hle2 (fun _ _ h => h) (fun b hb => ⟨hb, rfl⟩) hrm
        rw [← ρlo k _ (List.getElem?_eq_getElem hk)] at ho
        refine ho.unren hO' fun b hb => (own'_iff b k).2 ⟨_, hb, ?_⟩
        rw [ρlo k _ (List.getElem?_eq_getElem hk)]; exact List.getElem?_eq_getElem hk
      · rw [e] at e1; cases e1
    · cases ho : own' b with
      | none => exact .inl rfl
      | some i =>
        right
        obtain ⟨k, e1, e2⟩ := (own'_iff b i).1 ho
        have hmem : k ∈ ks := List.mem_of_getElem? e2
        have hcut : ocut ks own2 b = none := by
          cases hc : ocut ks own2 b with
          | none => rfl
          | some j =>
            obtain ⟨h5, h6⟩ := ocut_iff.1 hc
            rw [e1] at h5; cases h5
            exact absurd hmem h6
        replace e : (match ocut ks own2 b with | some k => w'.cell? ⟨b, o, none⟩ | none => V2 b o) = some u := e
        rw [hcut] at e
        rcases hw2.vo b o u e with h5 | ⟨k', T, sz, m, h5, h6, h7⟩
        · rw [e1] at h5; cases h5
        · rw [e1] at h5; cases h5
          rcases hks i k e2 with ⟨ob, h8, h9⟩ | ⟨_, h9⟩
          · rw [h6] at h9
            have := ren_tok (Option.some.inj h9).symm
            subst this
            exact ⟨i, T, sz, m, rfl, h8, h7⟩
          · rw [h6] at h9; cases h9
    · obtain ⟨k', e1, e2⟩ := (own'_iff b k).1 e
      obtain ⟨h5, h6, _⟩ := hw2.ownb _ _ e1
      exact ⟨by rw [hkl]; exact (List.getElem?_eq_some_iff.1 e2).1, h5, h6⟩
    · obtain ⟨k1, e1, e2⟩ := (own'_iff b k).1 e
      obtain ⟨k2, e3, e4⟩ := (own'_iff b' k).1 e'
      rw [e2] at e4; cases e4
      exact hw2.uniq _ _ _ e1 e3
    · replace e : (match ocut ks own2 b with | some k => w'.cell? ⟨b, o, none⟩ | none => V2 b o) = some u := e
      split at e
      · rename_i k hc
        obtain ⟨h5, _⟩ := ocut_iff.1 hc
        rcases (hw2.ownb _ _ h5).2.1 with h6 | h6
        · exact .inr (.inr h6)
        · exact .inr (.inl h6)
      · rcases hw2.vb b o u e with h6 | h6 | h6
        · left
          replace h6 : V b o ≠ none := h6
          cases hV : V b o with
          | none => exact absurd hV h6
          | some u' =>
            have := hw2.v0 b o u' hV
            rw [e] at this; exact this.symm
        · exact .inr (.inl h6)
        · exact .inr (.inr h6)
  cases e with
  | normal => exact main hfin
  | exit i => exact hfin.elim
  | ret => exact main hfin
theorem validM_of_swp {P : Program} {f : Nat} {c : FC} {S : MSpec} (hm : P.follows .mixedOrders = true) (hF : IsF P f c) (hlen : ∀ args obs, S.pre args obs → args.length ≤ c.n)
    (h : ∀ args obs rm, S.pre args obs → rm + S.cost ≤ LIM → swp P c.body (FinM c.res obs.length (rm + S.cost) (S.post args obs)) (entM args) (fun k => obs[k]?) obs.length rm) : ValidM P f S :=
  validM_of_awp hm hF hlen fun args obs rm hp hl => swp_sound (h args obs rm hp hl)
end Av
end Go.Proofs.Ytdboofnogabefaa
/- Layer Av, part 27: a reader of bytes as an object of two cells. -/
namespace Go.Proofs.Ytdboofnogabefaa
namespace Av
open Go.RowKit
end Av
end Go.Proofs.Ytdboofnogabefaa
