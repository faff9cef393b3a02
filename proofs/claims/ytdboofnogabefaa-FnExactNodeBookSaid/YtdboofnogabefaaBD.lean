/- The book: walks. -/
import Derived.Test.YtdboofnogabefaaBC
import Derived.Test.YtdboofnogabefaaBA
import Derived.Test.YtdboofnogabefaaMF
import Derived.Test.YtdboofnogabefaaG0
set_option linter.unusedVariables false
set_option linter.unusedSimpArgs false
namespace Go.Proofs.Ytdboofnogabefaa
namespace Av
open Go.RowKit
theorem vO_slices_Repeat_nS : ValidM Try.prog n_slices_Repeat_nS SO_slices_Repeat_nS.toM := by
  refine ⟨callableB_ok (by kernel_rfl), fun args obs rm ⟨h0, u, ha, _⟩ hlim => ?_⟩
  subst h0 ha
  intro V O own w vals hsub hO hown huniq hvo hobs hargs
  have hO0 : ∀ k, O k = none := fun k => by
    cases h : O k with
    | none => rfl
    | some v => have := hO k v h; simp at this
  have hown0 : ∀ b, own b = none := fun b => by
    cases h : own b with
    | none => rfl
    | some k => have := (hown b k h).1; simp at this
  obtain ⟨hl, hat⟩ := hargs
  obtain ⟨v0, v1, rfl⟩ : ∃ v0 v1, vals = [v0, v1] := by
    match vals, hl with
    | [x, y], _ => exact ⟨x, y, rfl⟩
  have h0 : RV V O v0 (one (nsF [9])) := hat 0 _ _ rfl rfl
  have h1 : RV V O v1 (I 3) := hat 1 _ _ rfl rfl
  have e1 : v1 = .int .i64 3 := v_int h1
  subst e1
  obtain ⟨cap, b, off, rfl, hc⟩ : ∃ (cap b off : Nat), v0 = .slice (some ⟨b, off, none⟩) 1 cap ∧ w.cell? ⟨b, off, none⟩ = some (.int .i64 9) := by
    have h2 : RF V v0 (.sl 1 [[fI 9]]) := h0.1
    cases h2 with
    | sl u kl kc km kA ks kV kr =>
      rename_i A len cap b off
      have hl' : len = 1 := by rw [← kl]; rfl
      subst hl'
      have e := kA Nat.one_pos
      subst e
      have hq := kV 0 _ 0 _ rfl rfl
      have hr' := kr 0 _ 0 _ rfl rfl
      have hu : u 0 0 = .int .i64 9 := by
        generalize u 0 0 = z at hr'
        cases hr'; rfl
      rw [hu] at hq
      exact ⟨cap, b, off, rfl, hsub _ _ _ hq⟩
  refine (calls_Repeat b off cap w hc).mono ?_
  rintro e w' ⟨v', rfl, rfl, hh, hB⟩
  have hO' : ∀ k v, O k = some v → (fun k => if k = 0 then some (Value.slice (some ⟨w.heap.size, 0, none⟩) 3 3) else none) k = some v := fun k v h => by rw [hO0] at h; cases h
  have hlt : w.heap.size < w'.heap.size := by
    rcases Nat.lt_or_ge w.heap.size w'.heap.size with h | h
    · exact h
    · rw [Array.getElem?_eq_none h] at hh; cases hh
  refine ⟨_, ow0, [some (SO_slices_Repeat_nS.ob [one (nsF [9]), I 3])], V, fun k => if k = 0 then some (.slice (some ⟨w.heap.size, 0, none⟩) 3 3) else none, fun b => if b = w.heap.size then some 0 else none, rfl, ⟨rfl, rfl, rfl⟩, ⟨⟨rfl, rfl⟩, fun _ => rfl⟩, Vw.le_refl _, ?_, hO', ?_, ?_, ?_, ?_, ?_, fun b o u e => .inl e, ⟨hB.os, hB.tape, hB.output, hB.size, fun b hb _ => hB.block b hb⟩⟩
  · intro b o u e
    have hb := Vw.sub_lt hsub e
    rw [World.cell?_of_block (hB.block b hb)]
    exact hsub _ _ _ e
  · intro k v h
    dsimp only at h
    split at h
    · rename_i hk; subst hk; exact Nat.one_pos
    · cases h
  · intro k ob h
    cases k with
    | succ k => simp at h
    | zero =>
      simp only [List.getElem?_cons_zero, Option.some.injEq] at h
      subst h
      rw [so_slices_Repeat_nS]
      refine ⟨fun j x hx => ?_, .inr ⟨w.heap.size, 3, [.int .i64 9, .int .i64 9, .int .i64 9], [], rfl, if_pos rfl, hh, Nat.le_refl _, by decide, by decide, rfl, fun i x a hx ha => ?_⟩⟩
      · obtain ⟨z, _, rfl⟩ := List.mem_map.1 (List.mem_of_getElem? hx)
        rfl
      · match i, hx, ha with
        | 0, hx, ha => cases hx; cases ha; exact ⟨.v rfl, rfl⟩
        | 1, hx, ha => cases hx; cases ha; exact ⟨.v rfl, rfl⟩
        | 2, hx, ha => cases hx; cases ha; exact ⟨.v rfl, rfl⟩
        | i + 3, hx, ha => simp at hx
  · intro b o u e
    have hb := Vw.sub_lt hsub e
    left
    show (if b = w.heap.size then some 0 else none) = none
    rw [if_neg (by omega)]
  · intro b k h
    dsimp only at h
    split at h
    · rename_i hb
      simp only [Option.some.injEq] at h
      subst h; subst hb
      exact ⟨Nat.one_pos, hlt, .inr (Nat.le_refl _)⟩
    · cases h
  · intro b b' k h h'
    dsimp only at h h'
    split at h
    · split at h'
      · rename_i h1 h2; rw [h1, h2]
      · cases h'
    · cases h
section
variable {fr : Env} {H : Hp} {nx rm' lim : Nat} {res : List Rs} {post : AV → List (Option Ob) → Prop}
theorem finM_u {α : Type} {F : α → List FV} {l : List α} {T sz : Nat} (hrm : rm' ≤ lim) (hk : H 0 = some (.arr T sz (arA F l))) (hres : resM [0] fr H res []) (hpost : post (.tup []) [some (.arr T sz (arA F l))]) : rm' ≤ lim ∧ ∃ (ks : List Nat) (az : List AW) (r : AV) (obs' : List (Option Ob)), resM ks fr H res az ∧ resV az = r.ren (nmap ks nx) ∧ post r obs' ∧
      ks.Nodup ∧ (∀ i, i < 1 → ks[i]? = some i) ∧ obs'.length = ks.length ∧
      ∀ (i k : Nat), ks[i]? = some k → (∃ ob : Ob, obs'[i]? = some (some ob) ∧ H k = some (ob.ren (nmap ks nx))) ∨ (obs'[i]? = some none ∧ H k = none) := by
  refine ⟨hrm, [0], [], .tup [], _, hres, rfl, hpost, by simp, fun i hi => ?_, rfl, fun i k' h => ?_⟩
  · have : i = 0 := by omega
    subst this; rfl
  · match i, h with
    | 0, h => cases h; exact .inl ⟨_, rfl, by rw [arr_ren]; exact hk⟩
    | i + 1, h => simp at h
end
section
variable {P : Program} {g : Nat} {fr : Env} {H : Hp} {nm rm : Nat} {K : KV} {xs : List (X × List (Option Nat))}
theorem agg_renB {l : List FV} {ρ : Nat → Nat} : (agg l).ren ρ = agg l := by
  show AV.w (.g ((l.map AC.c).map (AC.ren ρ))) = _
  rw [List.map_map]; rfl
theorem mq_pay {b : List Int} {p : Pa} {k : Nat} (hv : ValidM P g S_impl_pay) (hl : rm ≤ LIM) (hk : H k = some (isO b)) (ha : nrmArgs fr xs = [.w (.o (.ow k)), agg (paF p)]) (hb : BookOk b) (hp : PayOk p)
    (hK : K (.tup []) (hupd k (some (isO (payL b p))) H) rm) : MQ P nm fr H rm K g S_impl_pay xs := by
  refine ⟨⟨hv, hl, [k], [ow0, agg (paF p)], [isO b], by simp, rfl, fun i k' h => ?_, ?_, ⟨(b, p), rfl, rfl, hb, hp⟩, fun r obs' hq _ _ => ?_⟩⟩
  · cases i with
    | zero => simp at h; subst h; exact ⟨_, rfl, by rw [arr_ren]; exact hk⟩
    | succ i => simp at h
  · rw [ha]
    show [AV.w (.o (.ow (nmapS 0 [k] nm 0))), (agg (paF p)).ren _] = _
    rw [nmap_lt (ks := [k]) rfl, agg_renB]
  · obtain ⟨rfl, rfl⟩ := K_impl_pay hq
    show K (.tup []) (hupd (nmapS 0 [k] nm 0) (some ((isO (payL b p)).ren _)) H) rm
    rw [arr_ren, nmap_lt (ks := [k]) (i := 0) rfl]
    exact hK
end
attribute [local irreducible] Valid ValidM
set_option maxHeartbeats 4000000 in
set_option maxRecDepth 100000 in
theorem v_slices_Clip_nS_o : ValidM Try.prog n_slices_Clip_nS_o S_slices_Clip_nS_o := by
  refine validM_of_swp mixed is_slices_Clip_nS_o (by rintro _ _ ⟨a, rfl, _⟩; exact Nat.le_of_ble_eq_true rfl) ?_
  rintro _ _ rm ⟨c, rfl, rfl, -⟩ hl
  change swp _ _ _ _ _ 1 _
  conv => whnf
  refine ⟨_, _, _, rfl, ?_⟩
  conv => whnf
  refine ⟨_, _, _, rfl, ?_⟩
  conv => whnf
  refine .inl ⟨0, ty_int, arA inF c, rfl, rfl, rfl, rfl, ?_⟩
  conv => whnf
  exact finM_mv (F := inF) (T := ty_int) (sz := 1) (l := c) (Nat.le_refl _) hk_ hupd_at (by omega) ⟨⟨_, rfl, .inl rfl⟩, trivial⟩ ⟨c, rfl, rfl, rfl, rfl⟩
set_option maxHeartbeats 4000000 in
set_option maxRecDepth 100000 in
theorem vO_impl_BookNew : ValidM Try.prog n_impl_BookNew SO_impl_BookNew.toM := by
  refine validM_of_swp mixed is_impl_BookNew (by rintro _ _ ⟨_, a, rfl, _⟩; exact Nat.le_of_ble_eq_true rfl) ?_
  rintro _ _ rm ⟨rfl, a, rfl, -⟩ hl
  change swp _ _ _ _ _ 0 _
  repeat' ((conv => whnf); first
    | refine ⟨_, rfl, ?_⟩
    | refine ⟨rfl, ?_⟩
    | refine ⟨_, _, rfl, at_map (by assumption), ?_⟩
    | refine idx_mapX (i := 0) rfl (by assumption) ?_
    | refine idx_map (by omega) (fun x hx => ?_)
    | refine idx_mapX (wrap_dn (by omega) (by omega)) (by assumption) ?_
    | refine idx_mapE (wrap_dn (by omega) (by omega)) (by omega) (fun x hx => ?_)
    | refine idx_mapL (by omega) (by first | assumption | (simp only [LIM]; omega)) (fun x hx => ?_)
    | refine idx_mapI (by omega) (by first | omega | (simp only [List.length_map] at *; omega)) (fun x hx => ?_)
    | refine ⟨_, ldc_cells hupd_at (Nat.le_of_ble_eq_true rfl), ?_⟩
    | refine ⟨_, ldc_cells (by first | assumption | exact zk ‹_› (by omega) | exact zk (zk ‹_› (by omega)) (by omega)) (Nat.le_of_ble_eq_true rfl), ?_⟩
    | refine ⟨_, _, hupd_at, rfl, rfl, Nat.le_of_ble_eq_true rfl, ?_⟩
    | refine ⟨_, _, rfl, rfl, rfl, Nat.le_of_ble_eq_true rfl, ?_⟩
    | (refine ⟨?_, _, (?_ : (_ : Option Ob) = _), rfl, rfl, ?_, ?_⟩; rotate_left; (exact hk_); exact Nat.le_of_ble_eq_true rfl)
    | refine ⟨_, _, _, _, ((by exact hk_) : (_ : Option Ob) = _), rfl, at_mapA (by assumption), ?_⟩
    | refine idx_ow (by exact hk_) (by omega) (fun x hx => ?_)
    | refine ⟨_, _, _, _, ((by exact hk_) : (_ : Option Ob) = _), rfl, fill_at (by omega), ?_⟩
    | refine ⟨_, _, _, _, ((by exact hk_) : (_ : Option Ob) = _), fill_at (by omega), rfl, rfl, Nat.le_of_ble_eq_true rfl, ?_⟩
    | refine idx_owL (by exact hk_) (by omega) (by simp only [LIM]; omega) (fun x hx => ?_)
    | refine idx_owI (by exact hk_) (by omega) (by first | omega | (simp only [List.length_map] at *; omega)) (fun x hx => ?_)
    | refine ⟨_, _, _, _, ((by exact hk_) : (_ : Option Ob) = _), at_mapA (by assumption), rfl, rfl, Nat.le_of_ble_eq_true rfl, ?_⟩
    | refine ⟨_, ldc_pa (by exact hk_) (at_mapA (by assumption)) (Nat.le_of_ble_eq_true rfl), ?_⟩
    | refine ⟨_, rfl, rfl, _, ((by exact hk_) : (_ : Option Ob) = _), (by exact ap_), ?_⟩
    | refine ⟨_, news_ow hupd_at, newsz_ow hupd_at, _, ((by exact hk_) : (_ : Option Ob) = _), (by exact ap_), ?_⟩
    | refine ⟨_, _, _, ((by exact hk_) : (_ : Option Ob) = _), ?_⟩
    | refine ⟨_, ((by exact hk_) : (_ : Option Ob) = _), ?_⟩
    | refine ⟨(show _ ≠ _ from (by first | decide | omega)), ?_⟩
    | refine ⟨(show _ ≤ _ from (by exact ap_)), ?_⟩
    | (refine ⟨fun hc => ?_, fun hc => ?_⟩ <;> (try simp (disch := omega) only [List.length_map, wrap64] at hc))
    | (refine ⟨⟨(by omega), (by omega), (by simp only [List.length_map] at *; simp only [LIM] at *; omega), (by simp only [List.length_map] at *; simp only [LIM] at *; omega)⟩, ?_⟩; (try simp only [List.length_map, Int.toNat_natCast]))
    | (refine ⟨_, slc_to rfl (by first | omega | (simp only [List.length_map] at *; omega)), ?_⟩; rw [map_take'])
    | (refine ⟨_, slc_toI rfl (by omega) (by first | omega | (simp only [List.length_map] at *; omega)), ?_⟩; rw [map_take'])
    | fail)
  refine OQ.mk1 (ar := [one (nsF [9]), I 3]) (by rfl) ⟨(), rfl, trivial⟩ vO_slices_Repeat_nS so_slices_Repeat_nS ?_
  repeat' ((conv => whnf); first
    | refine ⟨_, rfl, ?_⟩
    | refine ⟨rfl, ?_⟩
    | refine ⟨_, _, rfl, at_map (by assumption), ?_⟩
    | refine idx_mapX (i := 0) rfl (by assumption) ?_
    | refine idx_map (by omega) (fun x hx => ?_)
    | refine idx_mapX (wrap_dn (by omega) (by omega)) (by assumption) ?_
    | refine idx_mapE (wrap_dn (by omega) (by omega)) (by omega) (fun x hx => ?_)
    | refine idx_mapL (by omega) (by first | assumption | (simp only [LIM]; omega)) (fun x hx => ?_)
    | refine idx_mapI (by omega) (by first | omega | (simp only [List.length_map] at *; omega)) (fun x hx => ?_)
    | refine ⟨_, ldc_cells hupd_at (Nat.le_of_ble_eq_true rfl), ?_⟩
    | refine ⟨_, ldc_cells (by first | assumption | exact zk ‹_› (by omega) | exact zk (zk ‹_› (by omega)) (by omega)) (Nat.le_of_ble_eq_true rfl), ?_⟩
    | refine ⟨_, _, hupd_at, rfl, rfl, Nat.le_of_ble_eq_true rfl, ?_⟩
    | refine ⟨_, _, rfl, rfl, rfl, Nat.le_of_ble_eq_true rfl, ?_⟩
    | (refine ⟨?_, _, (?_ : (_ : Option Ob) = _), rfl, rfl, ?_, ?_⟩; rotate_left; (exact hk_); exact Nat.le_of_ble_eq_true rfl)
    | refine ⟨_, _, _, _, ((by exact hk_) : (_ : Option Ob) = _), rfl, at_mapA (by assumption), ?_⟩
    | refine idx_ow (by exact hk_) (by omega) (fun x hx => ?_)
    | refine ⟨_, _, _, _, ((by exact hk_) : (_ : Option Ob) = _), rfl, fill_at (by omega), ?_⟩
    | refine ⟨_, _, _, _, ((by exact hk_) : (_ : Option Ob) = _), fill_at (by omega), rfl, rfl, Nat.le_of_ble_eq_true rfl, ?_⟩
    | refine idx_owL (by exact hk_) (by omega) (by simp only [LIM]; omega) (fun x hx => ?_)
    | refine idx_owI (by exact hk_) (by omega) (by first | omega | (simp only [List.length_map] at *; omega)) (fun x hx => ?_)
    | refine ⟨_, _, _, _, ((by exact hk_) : (_ : Option Ob) = _), at_mapA (by assumption), rfl, rfl, Nat.le_of_ble_eq_true rfl, ?_⟩
    | refine ⟨_, ldc_pa (by exact hk_) (at_mapA (by assumption)) (Nat.le_of_ble_eq_true rfl), ?_⟩
    | refine ⟨_, rfl, rfl, _, ((by exact hk_) : (_ : Option Ob) = _), (by exact ap_), ?_⟩
    | refine ⟨_, news_ow hupd_at, newsz_ow hupd_at, _, ((by exact hk_) : (_ : Option Ob) = _), (by exact ap_), ?_⟩
    | refine ⟨_, _, _, ((by exact hk_) : (_ : Option Ob) = _), ?_⟩
    | refine ⟨_, ((by exact hk_) : (_ : Option Ob) = _), ?_⟩
    | refine ⟨(show _ ≠ _ from (by first | decide | omega)), ?_⟩
    | refine ⟨(show _ ≤ _ from (by exact ap_)), ?_⟩
    | (refine ⟨fun hc => ?_, fun hc => ?_⟩ <;> (try simp (disch := omega) only [List.length_map, wrap64] at hc))
    | (refine ⟨⟨(by omega), (by omega), (by simp only [List.length_map] at *; simp only [LIM] at *; omega), (by simp only [List.length_map] at *; simp only [LIM] at *; omega)⟩, ?_⟩; (try simp only [List.length_map, Int.toNat_natCast]))
    | (refine ⟨_, slc_to rfl (by first | omega | (simp only [List.length_map] at *; omega)), ?_⟩; rw [map_take'])
    | (refine ⟨_, slc_toI rfl (by omega) (by first | omega | (simp only [List.length_map] at *; omega)), ?_⟩; rw [map_take'])
    | fail)
  refine mq_mv (F := inF) (T := ty_int) (sz := 1) (l := newB) v_slices_Clip_nS_o (by exact hl) hupd_at rfl ⟨newB, rfl, rfl, trivial⟩ (fun r obs' h => K_slices_Clip_nS_o h) ?_
  repeat' ((conv => whnf); first
    | refine ⟨_, rfl, ?_⟩
    | refine ⟨rfl, ?_⟩
    | refine ⟨_, _, rfl, at_map (by assumption), ?_⟩
    | refine idx_mapX (i := 0) rfl (by assumption) ?_
    | refine idx_map (by omega) (fun x hx => ?_)
    | refine idx_mapX (wrap_dn (by omega) (by omega)) (by assumption) ?_
    | refine idx_mapE (wrap_dn (by omega) (by omega)) (by omega) (fun x hx => ?_)
    | refine idx_mapL (by omega) (by first | assumption | (simp only [LIM]; omega)) (fun x hx => ?_)
    | refine idx_mapI (by omega) (by first | omega | (simp only [List.length_map] at *; omega)) (fun x hx => ?_)
    | refine ⟨_, ldc_cells hupd_at (Nat.le_of_ble_eq_true rfl), ?_⟩
    | refine ⟨_, ldc_cells (by first | assumption | exact zk ‹_› (by omega) | exact zk (zk ‹_› (by omega)) (by omega)) (Nat.le_of_ble_eq_true rfl), ?_⟩
    | refine ⟨_, _, hupd_at, rfl, rfl, Nat.le_of_ble_eq_true rfl, ?_⟩
    | refine ⟨_, _, rfl, rfl, rfl, Nat.le_of_ble_eq_true rfl, ?_⟩
    | (refine ⟨?_, _, (?_ : (_ : Option Ob) = _), rfl, rfl, ?_, ?_⟩; rotate_left; (exact hk_); exact Nat.le_of_ble_eq_true rfl)
    | refine ⟨_, _, _, _, ((by exact hk_) : (_ : Option Ob) = _), rfl, at_mapA (by assumption), ?_⟩
    | refine idx_ow (by exact hk_) (by omega) (fun x hx => ?_)
    | refine ⟨_, _, _, _, ((by exact hk_) : (_ : Option Ob) = _), rfl, fill_at (by omega), ?_⟩
    | refine ⟨_, _, _, _, ((by exact hk_) : (_ : Option Ob) = _), fill_at (by omega), rfl, rfl, Nat.le_of_ble_eq_true rfl, ?_⟩
    | refine idx_owL (by exact hk_) (by omega) (by simp only [LIM]; omega) (fun x hx => ?_)
    | refine idx_owI (by exact hk_) (by omega) (by first | omega | (simp only [List.length_map] at *; omega)) (fun x hx => ?_)
    | refine ⟨_, _, _, _, ((by exact hk_) : (_ : Option Ob) = _), at_mapA (by assumption), rfl, rfl, Nat.le_of_ble_eq_true rfl, ?_⟩
    | refine ⟨_, ldc_pa (by exact hk_) (at_mapA (by assumption)) (Nat.le_of_ble_eq_true rfl), ?_⟩
    | refine ⟨_, rfl, rfl, _, ((by exact hk_) : (_ : Option Ob) = _), (by exact ap_), ?_⟩
    | refine ⟨_, news_ow hupd_at, newsz_ow hupd_at, _, ((by exact hk_) : (_ : Option Ob) = _), (by exact ap_), ?_⟩
    | refine ⟨_, _, _, ((by exact hk_) : (_ : Option Ob) = _), ?_⟩
    | refine ⟨_, ((by exact hk_) : (_ : Option Ob) = _), ?_⟩
    | refine ⟨(show _ ≠ _ from (by first | decide | omega)), ?_⟩
    | refine ⟨(show _ ≤ _ from (by exact ap_)), ?_⟩
    | (refine ⟨fun hc => ?_, fun hc => ?_⟩ <;> (try simp (disch := omega) only [List.length_map, wrap64] at hc))
    | (refine ⟨⟨(by omega), (by omega), (by simp only [List.length_map] at *; simp only [LIM] at *; omega), (by simp only [List.length_map] at *; simp only [LIM] at *; omega)⟩, ?_⟩; (try simp only [List.length_map, Int.toNat_natCast]))
    | (refine ⟨_, slc_to rfl (by first | omega | (simp only [List.length_map] at *; omega)), ?_⟩; rw [map_take'])
    | (refine ⟨_, slc_toI rfl (by omega) (by first | omega | (simp only [List.length_map] at *; omega)), ?_⟩; rw [map_take'])
    | fail)
  exact finM_new (F := inF) (T := ty_int) (sz := 1) (l := newB) (Nat.le_refl _) hupd_at ⟨⟨_, rfl, .inl rfl⟩, trivial⟩ ⟨rfl, rfl, by rw [so_impl_BookNew]⟩
theorem payB_at {b : List Int} {i : Int} (hb : BookOk b) (hi : In i 1 3) : b[(i - 1).toNat]? = some (at0 b i) ∧ IntKind.i64.wrap (i - 1) = (((i - 1).toNat : Nat) : Int) ∧ In (at0 b i) 0 27 := by
  have hl := hb.2.1
  obtain ⟨h1, h2⟩ := hi
  have e : b[(i - 1).toNat]? = some (at0 b i) := by
    unfold at0
    rw [List.getD_eq_getElem?_getD, List.getElem?_eq_getElem (show (i - 1).toNat < b.length by omega)]; rfl
  refine ⟨e, by rw [wrap64] <;> omega, in_mem hb.1 e⟩
theorem arI_at {b : List Int} {i : Nat} {x : Int} (h : b[i]? = some x) : (arA inF b)[i]? = some ((inF x).map AC.c) := by rw [arA, List.getElem?_map, h]; rfl
theorem arI_set {b : List Int} {i : Nat} {x y : Int} : (arA inF b).set i (put ((inF x).map AC.c) 0 [cI y]) = arA inF (b.set i y) := by
  rw [arA, arA, List.map_set]; rfl
/-- What is read in the middle of a payment. -/
theorem payB_mid {b : List Int} {p : Pa} (hb : BookOk b) (hp : PayOk p) : let d := b.set (p.f - 1).toNat (at0 b p.f - p.s)
    d[(p.t - 1).toNat]? = some (at0 d p.t) ∧ In (at0 d p.t) 0 27 ∧ (p.s ≤ at0 b p.f → payL b p = d.set (p.t - 1).toNat (at0 d p.t + p.s)) := by
  intro d
  have hl : d.length = 3 := by rw [List.length_set]; exact hb.2.1
  obtain ⟨hf, ht, hne, _⟩ := hp
  have h1 := ht.1
  have h2 := ht.2
  have h3 := hf.1
  have h4 := hf.2
  have e : d[(p.t - 1).toNat]? = some (at0 d p.t) := by
    unfold at0
    rw [List.getD_eq_getElem?_getD, List.getElem?_eq_getElem (show (p.t - 1).toNat < d.length by omega)]; rfl
  have e2 : d[(p.t - 1).toNat]? = b[(p.t - 1).toNat]? := List.getElem?_set_ne (by omega)
  refine ⟨e, ?_, fun h => ?_⟩
  · rw [e2, (payB_at hb ht).1] at e
    rw [← Option.some.inj e]; exact (payB_at hb ht).2.2
  · unfold payL lessB
    rw [if_pos h]
set_option maxHeartbeats 4000000 in
set_option maxRecDepth 100000 in
theorem v_impl_pay : ValidM Try.prog n_impl_pay S_impl_pay := by
  refine validM_of_swp mixed is_impl_pay (by rintro _ _ ⟨a, rfl, _⟩; exact Nat.le_of_ble_eq_true rfl) ?_
  rintro _ _ rm ⟨⟨b, p⟩, rfl, rfl, hpre⟩ hl
  try dsimp only at hpre
  obtain ⟨hb, hp⟩ := hpre
  obtain ⟨hx, hwf, hxi⟩ := payB_at hb hp.1
  obtain ⟨hy, hwt, hyi⟩ := payB_at hb hp.2.1
  obtain ⟨hz, hzi, hpl⟩ := payB_mid hb hp
  have hs := hp.2.2.2
  obtain ⟨x1, x2⟩ := hxi
  obtain ⟨z1, z2⟩ := hzi
  obtain ⟨s1, s2⟩ := hs
  have w1 : IntKind.i64.wrap (at0 b p.f - p.s) = at0 b p.f - p.s := by rw [wrap64] <;> omega
  generalize hd : b.set (p.f - 1).toNat (at0 b p.f - p.s) = d at *
  have w2 : IntKind.i64.wrap (at0 d p.t + p.s) = at0 d p.t + p.s := by rw [wrap64] <;> omega
  have hax := arI_at hx
  have haz : ((arA inF b).set (p.f - 1).toNat (put ((inF (at0 b p.f)).map AC.c) 0 [cI (IntKind.i64.wrap (at0 b p.f - p.s))]))[(p.t - 1).toNat]? = some ((inF (at0 d p.t)).map AC.c) := by
    rw [w1, arI_set, hd]; exact arI_at hz
  have hend : ((arA inF b).set (p.f - 1).toNat (put ((inF (at0 b p.f)).map AC.c) 0 [cI (IntKind.i64.wrap (at0 b p.f - p.s))])).set (p.t - 1).toNat (put ((inF (at0 d p.t)).map AC.c) 0 [cI (IntKind.i64.wrap (at0 d p.t + p.s))]) = arA inF (d.set (p.t - 1).toNat (at0 d p.t + p.s)) := by
    rw [w1, w2, arI_set, hd, arI_set]
  generalize hX : at0 b p.f = X at *
  generalize hZ : at0 d p.t = Z at *
  clear hx hy hz
  change swp _ _ _ _ _ 1 _
  repeat' ((conv => whnf); first
    | refine ⟨_, ldc_cells hk_ (Nat.le_of_ble_eq_true rfl), ?_⟩
    | refine ⟨_, _, _, _, (hk_ : (_ : Option Ob) = _), hwf, hax, ?_⟩
    | refine ⟨_, _, _, _, (hk_ : (_ : Option Ob) = _), hwt, haz, ?_⟩
    | refine ⟨_, ldc_pa hk_ hax (Nat.le_of_ble_eq_true rfl), ?_⟩
    | refine ⟨_, ldc_pa hk_ haz (Nat.le_of_ble_eq_true rfl), ?_⟩
    | refine ⟨_, _, _, _, (hk_ : (_ : Option Ob) = _), hax, rfl, rfl, Nat.le_of_ble_eq_true rfl, ?_⟩
    | refine ⟨_, _, _, _, (hk_ : (_ : Option Ob) = _), haz, rfl, rfl, Nat.le_of_ble_eq_true rfl, ?_⟩
    | refine ⟨_, rfl, ?_⟩
    | refine ⟨rfl, ?_⟩
    | refine ⟨_, _, rfl, at_map (by assumption), ?_⟩
    | refine idx_mapX (i := 0) rfl (by assumption) ?_
    | refine idx_map (by omega) (fun x hx => ?_)
    | refine idx_mapX (wrap_dn (by omega) (by omega)) (by assumption) ?_
    | refine idx_mapE (wrap_dn (by omega) (by omega)) (by omega) (fun x hx => ?_)
    | refine idx_mapL (by omega) (by first | assumption | (simp only [LIM]; omega)) (fun x hx => ?_)
    | refine idx_mapI (by omega) (by first | omega | (simp only [List.length_map] at *; omega)) (fun x hx => ?_)
    | refine ⟨_, ldc_cells hupd_at (Nat.le_of_ble_eq_true rfl), ?_⟩
    | refine ⟨_, ldc_cells (by first | assumption | exact zk ‹_› (by omega) | exact zk (zk ‹_› (by omega)) (by omega)) (Nat.le_of_ble_eq_true rfl), ?_⟩
    | refine ⟨_, _, hupd_at, rfl, rfl, Nat.le_of_ble_eq_true rfl, ?_⟩
    | refine ⟨_, _, rfl, rfl, rfl, Nat.le_of_ble_eq_true rfl, ?_⟩
    | (refine ⟨fun hc => ?_, fun hc => ?_⟩ <;> (try simp (disch := omega) only [List.length_map, wrap64] at hc) <;> (try (exfalso; first | contradiction | omega)))
    | fail)
  · exact finM_u (F := inF) (T := ty_int) (sz := 1) (l := payL b p) (Nat.le_refl _) (hupd_at.trans (by rw [hpl hc]; exact congrArg (fun z => some (Ob.arr ty_int 1 z)) hend)) trivial ⟨(b, p), rfl, rfl, rfl, rfl⟩
  · have hpn : payL b p = b := if_neg (by rw [hX]; exact Int.not_le.2 hc)
    exact finM_u (F := inF) (T := ty_int) (sz := 1) (l := payL b p) (Nat.le_refl _) (by rw [hpn]; rfl) trivial ⟨(b, p), rfl, rfl, rfl, rfl⟩
set_option maxHeartbeats 4000000 in
set_option maxRecDepth 100000 in
theorem v_impl_BookOf : ValidM Try.prog n_impl_BookOf S_impl_BookOf := by
  refine validM_of_swp mixed is_impl_BookOf (by rintro _ _ ⟨a, rfl, _⟩; exact Nat.le_of_ble_eq_true rfl) ?_
  rintro _ _ rm ⟨c, rfl, rfl, hpre⟩ hl
  try dsimp only at hpre
  have hcc := hpre
  change swp _ _ _ _ _ 0 _
  repeat' ((conv => whnf); first
    | refine ⟨_, rfl, ?_⟩
    | refine ⟨rfl, ?_⟩
    | refine ⟨_, _, rfl, at_map (by assumption), ?_⟩
    | refine idx_mapX (i := 0) rfl (by assumption) ?_
    | refine idx_map (by omega) (fun x hx => ?_)
    | refine idx_mapX (wrap_dn (by omega) (by omega)) (by assumption) ?_
    | refine idx_mapE (wrap_dn (by omega) (by omega)) (by omega) (fun x hx => ?_)
    | refine idx_mapL (by omega) (by first | assumption | (simp only [LIM]; omega)) (fun x hx => ?_)
    | refine idx_mapI (by omega) (by first | omega | (simp only [List.length_map] at *; omega)) (fun x hx => ?_)
    | refine ⟨_, ldc_cells hupd_at (Nat.le_of_ble_eq_true rfl), ?_⟩
    | refine ⟨_, ldc_cells (by first | assumption | exact zk ‹_› (by omega) | exact zk (zk ‹_› (by omega)) (by omega)) (Nat.le_of_ble_eq_true rfl), ?_⟩
    | refine ⟨_, _, hupd_at, rfl, rfl, Nat.le_of_ble_eq_true rfl, ?_⟩
    | refine ⟨_, _, rfl, rfl, rfl, Nat.le_of_ble_eq_true rfl, ?_⟩
    | (refine ⟨?_, _, (?_ : (_ : Option Ob) = _), rfl, rfl, ?_, ?_⟩; rotate_left; (exact hk_); exact Nat.le_of_ble_eq_true rfl)
    | refine ⟨_, _, _, _, ((by exact hk_) : (_ : Option Ob) = _), rfl, at_mapA (by assumption), ?_⟩
    | refine idx_ow (by exact hk_) (by omega) (fun x hx => ?_)
    | refine ⟨_, _, _, _, ((by exact hk_) : (_ : Option Ob) = _), rfl, fill_at (by omega), ?_⟩
    | refine ⟨_, _, _, _, ((by exact hk_) : (_ : Option Ob) = _), fill_at (by omega), rfl, rfl, Nat.le_of_ble_eq_true rfl, ?_⟩
    | refine idx_owL (by exact hk_) (by omega) (by simp only [LIM]; omega) (fun x hx => ?_)
    | refine idx_owI (by exact hk_) (by omega) (by first | omega | (simp only [List.length_map] at *; omega)) (fun x hx => ?_)
    | refine ⟨_, _, _, _, ((by exact hk_) : (_ : Option Ob) = _), at_mapA (by assumption), rfl, rfl, Nat.le_of_ble_eq_true rfl, ?_⟩
    | refine ⟨_, ldc_pa (by exact hk_) (at_mapA (by assumption)) (Nat.le_of_ble_eq_true rfl), ?_⟩
    | refine ⟨_, _, _, ((by exact hk_) : (_ : Option Ob) = _), ?_⟩
    | refine ⟨_, ((by exact hk_) : (_ : Option Ob) = _), ?_⟩
    | (refine ⟨fun hc => ?_, fun hc => ?_⟩ <;> (try simp (disch := omega) only [List.length_map, wrap64] at hc) <;> (try (exfalso; first | contradiction | omega)))
    | (refine callt (b := [one (chF _)]) v_impl_ChainOk rfl ⟨_, rfl, (by exact pr_)⟩ (.inl rfl) (by first | assumption | omega) (fun r hr => K_impl_ChainOk (a := _) hr) (fun hj => ?_) (fun hj => ?_) <;> (try simp only [etaPa, etaIt, etaVo] at hj) <;> (try contradiction))
    | fail)
  · have c1 : S_impl_ChainOk.cost = 0 := rfl
    have c2 : S_impl_pay.cost = 0 := rfl
    have c3 : S_impl_BookOf.cost = 0 := rfl
    refine OQ.mk1 (ar := []) (by rfl) ⟨(), rfl, trivial⟩ vO_impl_BookNew so_impl_BookNew ?_
    repeat' ((conv => whnf); first
      | refine ⟨_, rfl, ?_⟩
      | refine ⟨rfl, ?_⟩
      | refine ⟨_, _, rfl, at_map (by assumption), ?_⟩
      | refine idx_mapX (i := 0) rfl (by assumption) ?_
      | refine idx_map (by omega) (fun x hx => ?_)
      | refine idx_mapX (wrap_dn (by omega) (by omega)) (by assumption) ?_
      | refine idx_mapE (wrap_dn (by omega) (by omega)) (by omega) (fun x hx => ?_)
      | refine idx_mapL (by omega) (by first | assumption | (simp only [LIM]; omega)) (fun x hx => ?_)
      | refine idx_mapI (by omega) (by first | omega | (simp only [List.length_map] at *; omega)) (fun x hx => ?_)
      | refine ⟨_, ldc_cells hupd_at (Nat.le_of_ble_eq_true rfl), ?_⟩
      | refine ⟨_, ldc_cells (by first | assumption | exact zk ‹_› (by omega) | exact zk (zk ‹_› (by omega)) (by omega)) (Nat.le_of_ble_eq_true rfl), ?_⟩
      | refine ⟨_, _, hupd_at, rfl, rfl, Nat.le_of_ble_eq_true rfl, ?_⟩
      | refine ⟨_, _, rfl, rfl, rfl, Nat.le_of_ble_eq_true rfl, ?_⟩
      | (refine ⟨?_, _, (?_ : (_ : Option Ob) = _), rfl, rfl, ?_, ?_⟩; rotate_left; (exact hk_); exact Nat.le_of_ble_eq_true rfl)
      | refine ⟨_, _, _, _, ((by exact hk_) : (_ : Option Ob) = _), rfl, at_mapA (by assumption), ?_⟩
      | refine idx_ow (by exact hk_) (by omega) (fun x hx => ?_)
      | refine ⟨_, _, _, _, ((by exact hk_) : (_ : Option Ob) = _), rfl, fill_at (by omega), ?_⟩
      | refine ⟨_, _, _, _, ((by exact hk_) : (_ : Option Ob) = _), fill_at (by omega), rfl, rfl, Nat.le_of_ble_eq_true rfl, ?_⟩
      | refine idx_owL (by exact hk_) (by omega) (by simp only [LIM]; omega) (fun x hx => ?_)
      | refine idx_owI (by exact hk_) (by omega) (by first | omega | (simp only [List.length_map] at *; omega)) (fun x hx => ?_)
      | refine ⟨_, _, _, _, ((by exact hk_) : (_ : Option Ob) = _), at_mapA (by assumption), rfl, rfl, Nat.le_of_ble_eq_true rfl, ?_⟩
      | refine ⟨_, ldc_pa (by exact hk_) (at_mapA (by assumption)) (Nat.le_of_ble_eq_true rfl), ?_⟩
      | refine ⟨_, _, _, ((by exact hk_) : (_ : Option Ob) = _), ?_⟩
      | refine ⟨_, ((by exact hk_) : (_ : Option Ob) = _), ?_⟩
      | (refine ⟨fun hc => ?_, fun hc => ?_⟩ <;> (try simp (disch := omega) only [List.length_map, wrap64] at hc))
      | fail)
    conv => whnf
    refine ⟨fun fr H nx rm' => ∃ (i k : Nat), Has fr [(3, .w (.o (.ow k))), (10, one (chF c)), (11, I (c.map itF).length), (12, I i)] ∧ i ≤ c.length ∧ H k = some (isO (paysL newB (c.take i))) ∧ k < nx ∧ rm' = rm,
      fun fr _ _ _ => c.length - ix (fr 12), ⟨0, _, ⟨rfl, rfl, rfl, rfl, trivial⟩, Nat.zero_le _, hupd_at, ln_, by omega⟩, ?_⟩
    rintro fr H nx rm' ⟨i, k, hfr, hi, hk, hkn, rfl⟩
    rw [hfr.eq]
    rcases Nat.lt_or_ge i c.length with hi' | hi'
    · obtain ⟨x, hx⟩ : ∃ x, c[i]? = some x := ⟨_, List.getElem?_eq_getElem hi'⟩
      have hb := bookOk_take hj i
      have hp := (hj.1 i x hx).2.1
      repeat' ((conv => whnf); first
        | refine ⟨_, _, rfl, at_map hx, ?_⟩
        | refine mq_pay (b := paysL newB (c.take i)) (k := k) (p := x.p) v_impl_pay (by omega) hk_ rfl hb hp ?_
        | refine ⟨_, rfl, ?_⟩
        | refine ⟨rfl, ?_⟩
        | refine ⟨_, _, rfl, at_map (by assumption), ?_⟩
        | refine idx_mapX (i := 0) rfl (by assumption) ?_
        | refine idx_map (by omega) (fun x hx => ?_)
        | refine idx_mapX (wrap_dn (by omega) (by omega)) (by assumption) ?_
        | refine idx_mapE (wrap_dn (by omega) (by omega)) (by omega) (fun x hx => ?_)
        | refine idx_mapL (by omega) (by first | assumption | (simp only [LIM]; omega)) (fun x hx => ?_)
        | refine idx_mapI (by omega) (by first | omega | (simp only [List.length_map] at *; omega)) (fun x hx => ?_)
        | refine ⟨_, ldc_cells hupd_at (Nat.le_of_ble_eq_true rfl), ?_⟩
        | refine ⟨_, ldc_cells (by first | assumption | exact zk ‹_› (by omega) | exact zk (zk ‹_› (by omega)) (by omega)) (Nat.le_of_ble_eq_true rfl), ?_⟩
        | refine ⟨_, _, hupd_at, rfl, rfl, Nat.le_of_ble_eq_true rfl, ?_⟩
        | refine ⟨_, _, rfl, rfl, rfl, Nat.le_of_ble_eq_true rfl, ?_⟩
        | (refine ⟨?_, _, (?_ : (_ : Option Ob) = _), rfl, rfl, ?_, ?_⟩; rotate_left; (exact hk_); exact Nat.le_of_ble_eq_true rfl)
        | refine ⟨_, _, _, _, ((by exact hk_) : (_ : Option Ob) = _), rfl, at_mapA (by assumption), ?_⟩
        | refine idx_ow (by exact hk_) (by omega) (fun x hx => ?_)
        | refine ⟨_, _, _, _, ((by exact hk_) : (_ : Option Ob) = _), rfl, fill_at (by omega), ?_⟩
        | refine ⟨_, _, _, _, ((by exact hk_) : (_ : Option Ob) = _), fill_at (by omega), rfl, rfl, Nat.le_of_ble_eq_true rfl, ?_⟩
        | refine idx_owL (by exact hk_) (by omega) (by simp only [LIM]; omega) (fun x hx => ?_)
        | refine idx_owI (by exact hk_) (by omega) (by first | omega | (simp only [List.length_map] at *; omega)) (fun x hx => ?_)
        | refine ⟨_, _, _, _, ((by exact hk_) : (_ : Option Ob) = _), at_mapA (by assumption), rfl, rfl, Nat.le_of_ble_eq_true rfl, ?_⟩
        | refine ⟨_, ldc_pa (by exact hk_) (at_mapA (by assumption)) (Nat.le_of_ble_eq_true rfl), ?_⟩
        | refine ⟨_, _, _, ((by exact hk_) : (_ : Option Ob) = _), ?_⟩
        | refine ⟨_, ((by exact hk_) : (_ : Option Ob) = _), ?_⟩
        | (refine ⟨fun hc => ?_, fun hc => ?_⟩ <;> (try simp (disch := omega) only [List.length_map, wrap64] at hc) <;> (try (exfalso; first | contradiction | omega)))
        | fail)
      conv => whnf
      refine ⟨⟨i + 1, k, ⟨rfl, rfl, rfl, congrArg I (wrap_up hi' hcc), trivial⟩, hi', hupd_at.trans (by rw [paysL_take _ hx]), by omega, rfl⟩, ?_⟩
      show c.length - ix (I _) < c.length - ix (I _)
      simp only [wrap_up hi' hcc, ix, Int.toNat_natCast]
      omega
    · have hie : i = c.length := by omega
      repeat' ((conv => whnf); first
        | refine ⟨_, rfl, ?_⟩
        | refine ⟨rfl, ?_⟩
        | refine ⟨_, _, rfl, at_map (by assumption), ?_⟩
        | refine idx_mapX (i := 0) rfl (by assumption) ?_
        | refine idx_map (by omega) (fun x hx => ?_)
        | refine idx_mapX (wrap_dn (by omega) (by omega)) (by assumption) ?_
        | refine idx_mapE (wrap_dn (by omega) (by omega)) (by omega) (fun x hx => ?_)
        | refine idx_mapL (by omega) (by first | assumption | (simp only [LIM]; omega)) (fun x hx => ?_)
        | refine idx_mapI (by omega) (by first | omega | (simp only [List.length_map] at *; omega)) (fun x hx => ?_)
        | refine ⟨_, ldc_cells hupd_at (Nat.le_of_ble_eq_true rfl), ?_⟩
        | refine ⟨_, ldc_cells (by first | assumption | exact zk ‹_› (by omega) | exact zk (zk ‹_› (by omega)) (by omega)) (Nat.le_of_ble_eq_true rfl), ?_⟩
        | refine ⟨_, _, hupd_at, rfl, rfl, Nat.le_of_ble_eq_true rfl, ?_⟩
        | refine ⟨_, _, rfl, rfl, rfl, Nat.le_of_ble_eq_true rfl, ?_⟩
        | (refine ⟨?_, _, (?_ : (_ : Option Ob) = _), rfl, rfl, ?_, ?_⟩; rotate_left; (exact hk_); exact Nat.le_of_ble_eq_true rfl)
        | refine ⟨_, _, _, _, ((by exact hk_) : (_ : Option Ob) = _), rfl, at_mapA (by assumption), ?_⟩
        | refine idx_ow (by exact hk_) (by omega) (fun x hx => ?_)
        | refine ⟨_, _, _, _, ((by exact hk_) : (_ : Option Ob) = _), rfl, fill_at (by omega), ?_⟩
        | refine ⟨_, _, _, _, ((by exact hk_) : (_ : Option Ob) = _), fill_at (by omega), rfl, rfl, Nat.le_of_ble_eq_true rfl, ?_⟩
        | refine idx_owL (by exact hk_) (by omega) (by simp only [LIM]; omega) (fun x hx => ?_)
        | refine idx_owI (by exact hk_) (by omega) (by first | omega | (simp only [List.length_map] at *; omega)) (fun x hx => ?_)
        | refine ⟨_, _, _, _, ((by exact hk_) : (_ : Option Ob) = _), at_mapA (by assumption), rfl, rfl, Nat.le_of_ble_eq_true rfl, ?_⟩
        | refine ⟨_, ldc_pa (by exact hk_) (at_mapA (by assumption)) (Nat.le_of_ble_eq_true rfl), ?_⟩
        | refine ⟨_, _, _, ((by exact hk_) : (_ : Option Ob) = _), ?_⟩
        | refine ⟨_, ((by exact hk_) : (_ : Option Ob) = _), ?_⟩
        | (refine ⟨fun hc => ?_, fun hc => ?_⟩ <;> (try simp (disch := omega) only [List.length_map, wrap64] at hc) <;> (try (exfalso; first | contradiction | omega)))
        | fail)
      conv => whnf
      rw [hie, List.take_length] at hk
      exact finM_new (F := inF) (T := ty_int) (sz := 1) (l := paysL newB c) (Nat.le_add_right _ _) hk ⟨⟨_, rfl, .inl rfl⟩, trivial⟩ ⟨c, rfl, rfl, .inr ⟨rfl, by unfold bookOf; rw [tb_pos hj]; rfl⟩⟩
  · skip
    repeat' ((conv => whnf); first
      | refine ⟨_, rfl, ?_⟩
      | refine ⟨rfl, ?_⟩
      | refine ⟨_, _, rfl, at_map (by assumption), ?_⟩
      | refine idx_mapX (i := 0) rfl (by assumption) ?_
      | refine idx_map (by omega) (fun x hx => ?_)
      | refine idx_mapX (wrap_dn (by omega) (by omega)) (by assumption) ?_
      | refine idx_mapE (wrap_dn (by omega) (by omega)) (by omega) (fun x hx => ?_)
      | refine idx_mapL (by omega) (by first | assumption | (simp only [LIM]; omega)) (fun x hx => ?_)
      | refine idx_mapI (by omega) (by first | omega | (simp only [List.length_map] at *; omega)) (fun x hx => ?_)
      | refine ⟨_, ldc_cells hupd_at (Nat.le_of_ble_eq_true rfl), ?_⟩
      | refine ⟨_, ldc_cells (by first | assumption | exact zk ‹_› (by omega) | exact zk (zk ‹_› (by omega)) (by omega)) (Nat.le_of_ble_eq_true rfl), ?_⟩
      | refine ⟨_, _, hupd_at, rfl, rfl, Nat.le_of_ble_eq_true rfl, ?_⟩
      | refine ⟨_, _, rfl, rfl, rfl, Nat.le_of_ble_eq_true rfl, ?_⟩
      | (refine ⟨?_, _, (?_ : (_ : Option Ob) = _), rfl, rfl, ?_, ?_⟩; rotate_left; (exact hk_); exact Nat.le_of_ble_eq_true rfl)
      | refine ⟨_, _, _, _, ((by exact hk_) : (_ : Option Ob) = _), rfl, at_mapA (by assumption), ?_⟩
      | refine idx_ow (by exact hk_) (by omega) (fun x hx => ?_)
      | refine ⟨_, _, _, _, ((by exact hk_) : (_ : Option Ob) = _), rfl, fill_at (by omega), ?_⟩
      | refine ⟨_, _, _, _, ((by exact hk_) : (_ : Option Ob) = _), fill_at (by omega), rfl, rfl, Nat.le_of_ble_eq_true rfl, ?_⟩
      | refine idx_owL (by exact hk_) (by omega) (by simp only [LIM]; omega) (fun x hx => ?_)
      | refine idx_owI (by exact hk_) (by omega) (by first | omega | (simp only [List.length_map] at *; omega)) (fun x hx => ?_)
      | refine ⟨_, _, _, _, ((by exact hk_) : (_ : Option Ob) = _), at_mapA (by assumption), rfl, rfl, Nat.le_of_ble_eq_true rfl, ?_⟩
      | refine ⟨_, ldc_pa (by exact hk_) (at_mapA (by assumption)) (Nat.le_of_ble_eq_true rfl), ?_⟩
      | refine ⟨_, _, _, ((by exact hk_) : (_ : Option Ob) = _), ?_⟩
      | refine ⟨_, ((by exact hk_) : (_ : Option Ob) = _), ?_⟩
      | (refine ⟨fun hc => ?_, fun hc => ?_⟩ <;> (try simp (disch := omega) only [List.length_map, wrap64] at hc) <;> (try (exfalso; first | contradiction | omega)))
      | fail)
    exact finM_e0 (Nat.le_refl _) ⟨⟨_, rfl, .inl rfl⟩, trivial⟩ ⟨c, rfl, rfl, .inl ⟨rfl, rfl, by unfold bookOf; rw [tb_neg hj]; rfl⟩⟩
theorem vO_impl_BookOf : ValidM Try.prog n_impl_BookOf SO_impl_BookOf.toM := valid_ON encC_inj v_impl_BookOf
set_option maxHeartbeats 4000000 in
set_option maxRecDepth 100000 in
theorem v_spec_BookNew : Valid Try.prog n_spec_BookNew S_spec_BookNew := by
  refine valid_of_swp mixed is_spec_BookNew (by rintro _ ⟨a, rfl, _⟩; exact Nat.le_of_ble_eq_true rfl) ?_
  rintro _ rm ⟨_, rfl, hpre⟩ hl
  try dsimp only at hpre
  have hpre0 := hpre
  have hp1 := hpre
  repeat' ((conv => whnf); first
    | refine ⟨_, rfl, ?_⟩
    | refine ⟨rfl, ?_⟩
    | refine ⟨_, ((by exact hk_) : (_ : Option Ob) = _), ?_⟩
    | (refine ⟨fun hc => ?_, fun hc => ?_⟩ <;> (try simp (disch := omega) only [List.length_map, wrap64] at hc))
    | exact ⟨⟨_, rfl, rfl, (), rfl, rfl⟩, (by first | exact Nat.le_refl _ | omega), (by exact h0_)⟩
    | exact ⟨⟨_, rfl, rfl, (), rfl, (by refine congrArg one (?_ : (_ : FV) = _); (try dsimp only); first | done | exact absurd True.intro hj | (first | assumption | grind))⟩, (by first | exact Nat.le_refl _ | omega), (by exact h0_)⟩
    | exact ⟨⟨[.o (.c _)], congrArg (fun x => some [AW.o x]) (bor_ow (by exact hk_) (by first | rfl | (rfl))), rfl, (), rfl, (by first | rfl | (refine congrArg one (?_ : (_ : FV) = _); (try dsimp only); first | done | exact absurd True.intro hj | (first | assumption | grind)))⟩, (by first | exact Nat.le_refl _ | omega), (by exact h0_)⟩
    | fail)
set_option maxHeartbeats 4000000 in
set_option maxRecDepth 100000 in
theorem v_spec_l2Pay : Valid Try.prog n_spec_l2Pay S_spec_l2Pay := by
  refine valid_of_swp mixed is_spec_l2Pay (by rintro _ ⟨a, rfl, _⟩; exact Nat.le_of_ble_eq_true rfl) ?_
  rintro _ rm ⟨⟨b1, p⟩, rfl, hpre⟩ hl
  try dsimp only at hpre
  have hpre0 := hpre
  obtain ⟨hp1, hp2⟩ := hpre
  have hb := hp1
  have hp := hp2
  obtain ⟨hx, hwf, hxi⟩ := payB_at hb hp.1
  obtain ⟨hy, hwt, hyi⟩ := payB_at hb hp.2.1
  obtain ⟨hz, hzi, hpl⟩ := payB_mid hb hp
  have hs := hp.2.2.2
  obtain ⟨x1, x2⟩ := hxi
  obtain ⟨z1, z2⟩ := hzi
  obtain ⟨s1, s2⟩ := hs
  have hbl := hb.2.1
  have w1 : IntKind.i64.wrap (at0 b1 p.f - p.s) = at0 b1 p.f - p.s := by rw [wrap64] <;> omega
  generalize hd : b1.set (p.f - 1).toNat (at0 b1 p.f - p.s) = d at *
  have w2 : IntKind.i64.wrap (at0 d p.t + p.s) = at0 d p.t + p.s := by rw [wrap64] <;> omega
  have hA : [] ++ (b1.map fun n => [fI n]).map (fun x : List FV => x.map AC.c) = arA inF b1 := by simp [arA, inF]
  have hax : ([] ++ (b1.map fun n => [fI n]).map (fun x : List FV => x.map AC.c))[(p.f - 1).toNat]? = some ((inF (at0 b1 p.f)).map AC.c) := by rw [hA]; exact arI_at hx
  have haz : (([] ++ (b1.map fun n => [fI n]).map (fun x : List FV => x.map AC.c)).set (p.f - 1).toNat (put ((inF (at0 b1 p.f)).map AC.c) 0 [cI (IntKind.i64.wrap (at0 b1 p.f - p.s))]))[(p.t - 1).toNat]? = some ((inF (at0 d p.t)).map AC.c) := by
    rw [hA, w1, arI_set, hd]; exact arI_at hz
  have hend : p.s ≤ at0 b1 p.f → fcellss ((([] ++ (b1.map fun n => [fI n]).map (fun x : List FV => x.map AC.c)).set (p.f - 1).toNat (put ((inF (at0 b1 p.f)).map AC.c) 0 [cI (IntKind.i64.wrap (at0 b1 p.f - p.s))])).set (p.t - 1).toNat (put ((inF (at0 d p.t)).map AC.c) 0 [cI (IntKind.i64.wrap (at0 d p.t + p.s))])) = some ((payL b1 p).map fun n => [fI n]) := fun h => by
    rw [hA, w1, w2, arI_set, hd, arI_set, ← hpl h]; exact fcellss_f inF _
  have hen2 : ¬ p.s ≤ at0 b1 p.f → fcellss ([] ++ (b1.map fun n => [fI n]).map (fun x : List FV => x.map AC.c)) = some ((payL b1 p).map fun n => [fI n]) := fun h => by
    rw [hA, show payL b1 p = b1 from if_neg h]; exact fcellss_f inF _
  have happ : ((([] : List (List AC)).length : Int) + (((b1.map fun n => [fI n]).map (fun x : List FV => x.map AC.c)).length : Int)) * 8 ≤ 140737488355328 := by
    rw [List.length_map, List.length_map, hbl]; decide
  generalize at0 b1 p.f = X at *
  generalize at0 d p.t = Z at *
  clear hx hy hz
  repeat' ((conv => whnf); first
    | refine ⟨_, ldc_cells hk_ (Nat.le_of_ble_eq_true rfl), ?_⟩
    | refine ⟨_, _, _, _, (hk_ : (_ : Option Ob) = _), hwf, hax, ?_⟩
    | refine ⟨_, _, _, _, (hk_ : (_ : Option Ob) = _), hwt, haz, ?_⟩
    | refine ⟨_, ldc_pa hk_ hax (Nat.le_of_ble_eq_true rfl), ?_⟩
    | refine ⟨_, ldc_pa hk_ haz (Nat.le_of_ble_eq_true rfl), ?_⟩
    | refine ⟨_, _, _, _, (hk_ : (_ : Option Ob) = _), hax, rfl, rfl, Nat.le_of_ble_eq_true rfl, ?_⟩
    | refine ⟨_, _, _, _, (hk_ : (_ : Option Ob) = _), haz, rfl, rfl, Nat.le_of_ble_eq_true rfl, ?_⟩
    | refine ⟨_, rfl, ?_⟩
    | refine ⟨rfl, ?_⟩
    | refine ⟨_, _, rfl, at_map (by assumption), ?_⟩
    | refine idx_mapX (i := 0) rfl (by assumption) ?_
    | refine idx_map (by omega) (fun x hx => ?_)
    | refine idx_mapX (wrap_dn (by omega) (by omega)) (by assumption) ?_
    | refine idx_mapE (wrap_dn (by omega) (by omega)) (by omega) (fun x hx => ?_)
    | refine idx_mapL (by omega) (by first | assumption | (simp only [LIM]; omega)) (fun x hx => ?_)
    | refine idx_mapI (by omega) (by first | omega | (simp only [List.length_map] at *; omega)) (fun x hx => ?_)
    | refine ⟨_, ldc_cells hupd_at (Nat.le_of_ble_eq_true rfl), ?_⟩
    | refine ⟨_, ldc_cells (by first | assumption | exact zk ‹_› (by omega) | exact zk (zk ‹_› (by omega)) (by omega)) (Nat.le_of_ble_eq_true rfl), ?_⟩
    | refine ⟨_, _, hupd_at, rfl, rfl, Nat.le_of_ble_eq_true rfl, ?_⟩
    | refine ⟨_, _, rfl, rfl, rfl, Nat.le_of_ble_eq_true rfl, ?_⟩
    | (refine ⟨?_, _, (?_ : (_ : Option Ob) = _), rfl, rfl, ?_, ?_⟩; rotate_left; (exact hk_); exact Nat.le_of_ble_eq_true rfl)
    | refine ⟨_, _, _, _, ((by exact hk_) : (_ : Option Ob) = _), rfl, at_mapA (by assumption), ?_⟩
    | refine idx_ow (by exact hk_) (by omega) (fun x hx => ?_)
    | refine ⟨_, _, _, _, ((by exact hk_) : (_ : Option Ob) = _), rfl, fill_at (by omega), ?_⟩
    | refine ⟨_, _, _, _, ((by exact hk_) : (_ : Option Ob) = _), fill_at (by omega), rfl, rfl, Nat.le_of_ble_eq_true rfl, ?_⟩
    | refine idx_owL (by exact hk_) (by omega) (by simp only [LIM]; omega) (fun x hx => ?_)
    | refine idx_owI (by exact hk_) (by omega) (by first | omega | (simp only [List.length_map] at *; omega)) (fun x hx => ?_)
    | refine ⟨_, _, _, _, ((by exact hk_) : (_ : Option Ob) = _), at_mapA (by assumption), rfl, rfl, Nat.le_of_ble_eq_true rfl, ?_⟩
    | refine ⟨_, ldc_pa (by exact hk_) (at_mapA (by assumption)) (Nat.le_of_ble_eq_true rfl), ?_⟩
    | refine ⟨_, rfl, rfl, _, ((by exact hk_) : (_ : Option Ob) = _), (by exact ap_), ?_⟩
    | refine ⟨_, news_ow hupd_at, newsz_ow hupd_at, _, ((by exact hk_) : (_ : Option Ob) = _), (by exact ap_), ?_⟩
    | refine ⟨_, ((by exact hk_) : (_ : Option Ob) = _), ?_⟩
    | refine ⟨(show _ ≤ _ from (by exact ap_)), ?_⟩
    | (refine ⟨fun hc => ?_, fun hc => ?_⟩ <;> (try simp (disch := omega) only [List.length_map, wrap64] at hc) <;> (try (exfalso; first | contradiction | omega)))
    | fail)
  · exact ⟨⟨[.o (.c _)], congrArg (fun x => some [AW.o x]) (bor_ow hk_ (hend hc)), rfl, (b1, p), rfl, rfl⟩, (by first | exact Nat.le_refl _ | omega), ne_⟩
  · exact ⟨⟨[.o (.c _)], congrArg (fun x => some [AW.o x]) (bor_ow hk_ (hen2 (Int.not_le.2 hc))), rfl, (b1, p), rfl, rfl⟩, (by first | exact Nat.le_refl _ | omega), ne_⟩
set_option maxHeartbeats 4000000 in
set_option maxRecDepth 100000 in
theorem v_spec_BookOf : Valid Try.prog n_spec_BookOf S_spec_BookOf := by
  refine valid_of_swp mixed is_spec_BookOf (by rintro _ ⟨a, rfl, _⟩; exact Nat.le_of_ble_eq_true rfl) ?_
  rintro _ rm ⟨c, rfl, hpre⟩ hl
  try dsimp only at hpre
  have hpre0 := hpre
  have hp1 := hpre
  have e0 : ¬ ChainOk c → bookOf c = [] := fun h => by unfold bookOf; rw [tb_neg h]; rfl
  have cc_spec_BookOf : S_spec_BookOf.cost = 0 := rfl
  have cc_spec_ChainOk : S_spec_ChainOk.cost = 0 := rfl
  have cc_spec_BookNew : S_spec_BookNew.cost = 0 := rfl
  have cc_spec_l2Pay : S_spec_l2Pay.cost = 0 := rfl
  repeat' ((conv => whnf); first
    | refine ⟨_, rfl, ?_⟩
    | refine ⟨rfl, ?_⟩
    | refine ⟨_, _, rfl, at_map (by assumption), ?_⟩
    | refine idx_mapX (i := 0) rfl (by assumption) ?_
    | refine idx_map (by omega) (fun x hx => ?_)
    | refine idx_mapX (wrap_dn (by omega) (by omega)) (by assumption) ?_
    | refine idx_mapE (wrap_dn (by omega) (by omega)) (by omega) (fun x hx => ?_)
    | refine idx_mapL (by omega) (by first | assumption | (simp only [LIM]; omega)) (fun x hx => ?_)
    | refine idx_mapI (by omega) (by first | omega | (simp only [List.length_map] at *; omega)) (fun x hx => ?_)
    | refine ⟨_, ldc_cells hupd_at (Nat.le_of_ble_eq_true rfl), ?_⟩
    | refine ⟨_, ldc_cells (by first | assumption | exact zk ‹_› (by omega) | exact zk (zk ‹_› (by omega)) (by omega)) (Nat.le_of_ble_eq_true rfl), ?_⟩
    | refine ⟨_, _, _, _, ((by exact hk_) : (_ : Option Ob) = _), rfl, at_mapA (by assumption), ?_⟩
    | refine idx_ow (by exact hk_) (by omega) (fun x hx => ?_)
    | refine ⟨_, _, _, _, ((by exact hk_) : (_ : Option Ob) = _), rfl, fill_at (by omega), ?_⟩
    | refine idx_owL (by exact hk_) (by omega) (by simp only [LIM]; omega) (fun x hx => ?_)
    | refine idx_owI (by exact hk_) (by omega) (by first | omega | (simp only [List.length_map] at *; omega)) (fun x hx => ?_)
    | refine ⟨_, ldc_pa (by exact hk_) (at_mapA (by assumption)) (Nat.le_of_ble_eq_true rfl), ?_⟩
    | refine ⟨_, _, _, ((by exact hk_) : (_ : Option Ob) = _), ?_⟩
    | refine ⟨_, ((by exact hk_) : (_ : Option Ob) = _), ?_⟩
    | (refine ⟨fun hc => ?_, fun hc => ?_⟩ <;> (try simp (disch := omega) only [List.length_map, wrap64] at hc) <;> (try (exfalso; first | contradiction | omega)))
    | (refine callt (b := [one (chF _)]) v_spec_ChainOk rfl ⟨_, rfl, (by exact pr_)⟩ (.inl rfl) (by first | assumption | omega) (fun r hr => K_spec_ChainOk (a := _) hr) (fun hj => ?_) (fun hj => ?_) <;> (try simp only [etaPa, etaIt, etaVo] at hj) <;> (try contradiction))
    | (refine calle (b := []) v_spec_BookNew rfl ⟨(), rfl, (by exact True.intro)⟩ (.inl rfl) (by first | assumption | omega) (fun r hr => K_spec_BookNew (a := ()) hr) ?_)
    | exact ⟨⟨_, rfl, rfl, c, rfl, rfl⟩, (by first | exact Nat.le_refl _ | omega), (by exact h0_)⟩
    | exact ⟨⟨_, rfl, rfl, c, rfl, (by refine congrArg one (?_ : (_ : FV) = _); (try dsimp only); first | done | exact absurd True.intro hj | (exact congrArg nsF (Eq.symm (e0 hj))))⟩, (by first | exact Nat.le_refl _ | omega), (by exact h0_)⟩
    | exact ⟨⟨[.o (.c _)], congrArg (fun x => some [AW.o x]) (bor_ow (by exact hk_) (by first | rfl | (exact fcellss_c _))), rfl, c, rfl, (by first | rfl | (refine congrArg one (?_ : (_ : FV) = _); (try dsimp only); first | done | exact absurd True.intro hj | (exact congrArg nsF (Eq.symm (e0 hj)))))⟩, (by first | exact Nat.le_refl _ | omega), (by exact h0_)⟩
    | fail)
  conv => whnf
  refine ⟨fun fr H nx rm' => ∃ i : Nat, Has fr [(0, one (chF c)), (3, one (nsF (paysL newB (c.take i)))), (4, I i)] ∧ i ≤ c.length ∧ 1 ≤ nx ∧ H 0 = none ∧ rm' = rm,
    fun fr _ _ _ => c.length - ix (fr 4), ⟨0, ⟨rfl, rfl, rfl, trivial⟩, Nat.zero_le _, ln_, ne_, by omega⟩, ?_⟩
  rintro fr H nx rm' ⟨i, hfr, hi, hnx, hH, rfl⟩
  rw [hfr.eq]
  rcases Nat.lt_or_ge i c.length with hi' | hi'
  · obtain ⟨x, hx⟩ : ∃ x, c[i]? = some x := ⟨_, List.getElem?_eq_getElem hi'⟩
    have hb := bookOk_take hj i
    have hp := (hj.1 i x hx).2.1
    repeat' ((conv => whnf); first
      | refine ⟨_, _, rfl, at_map hx, ?_⟩
      | (refine calle (b := [one (nsF (paysL newB (c.take i))), agg (paF x.p)]) v_spec_l2Pay rfl ⟨(paysL newB (c.take i), x.p), rfl, hb, hp⟩ (.inl rfl) (by first | assumption | omega) (fun r hr => K_spec_l2Pay (a := (paysL newB (c.take i), x.p)) hr) ?_)
      | refine ⟨_, rfl, ?_⟩
      | refine ⟨rfl, ?_⟩
      | refine ⟨_, _, rfl, at_map (by assumption), ?_⟩
      | refine idx_mapX (i := 0) rfl (by assumption) ?_
      | refine idx_map (by omega) (fun x hx => ?_)
      | refine idx_mapX (wrap_dn (by omega) (by omega)) (by assumption) ?_
      | refine idx_mapE (wrap_dn (by omega) (by omega)) (by omega) (fun x hx => ?_)
      | refine idx_mapL (by omega) (by first | assumption | (simp only [LIM]; omega)) (fun x hx => ?_)
      | refine idx_mapI (by omega) (by first | omega | (simp only [List.length_map] at *; omega)) (fun x hx => ?_)
      | refine ⟨_, ldc_cells hupd_at (Nat.le_of_ble_eq_true rfl), ?_⟩
      | refine ⟨_, ldc_cells (by first | assumption | exact zk ‹_› (by omega) | exact zk (zk ‹_› (by omega)) (by omega)) (Nat.le_of_ble_eq_true rfl), ?_⟩
      | refine ⟨_, _, _, _, ((by exact hk_) : (_ : Option Ob) = _), rfl, at_mapA (by assumption), ?_⟩
      | refine idx_ow (by exact hk_) (by omega) (fun x hx => ?_)
      | refine ⟨_, _, _, _, ((by exact hk_) : (_ : Option Ob) = _), rfl, fill_at (by omega), ?_⟩
      | refine idx_owL (by exact hk_) (by omega) (by simp only [LIM]; omega) (fun x hx => ?_)
      | refine idx_owI (by exact hk_) (by omega) (by first | omega | (simp only [List.length_map] at *; omega)) (fun x hx => ?_)
      | refine ⟨_, ldc_pa (by exact hk_) (at_mapA (by assumption)) (Nat.le_of_ble_eq_true rfl), ?_⟩
      | refine ⟨_, _, _, ((by exact hk_) : (_ : Option Ob) = _), ?_⟩
      | refine ⟨_, ((by exact hk_) : (_ : Option Ob) = _), ?_⟩
      | (refine ⟨fun hc => ?_, fun hc => ?_⟩ <;> (try simp (disch := omega) only [List.length_map, wrap64] at hc) <;> (try (exfalso; first | contradiction | omega)))
      | fail)
    conv => whnf
    refine ⟨⟨i + 1, ⟨rfl, congrArg (fun b => one (nsF b)) (paysL_take _ hx).symm, congrArg I (wrap_up hi' hp1), trivial⟩, hi', by omega, (by first | assumption | exact ne_), rfl⟩, ?_⟩
    show c.length - ix (I _) < c.length - ix (I _)
    simp only [wrap_up hi' hp1, ix, Int.toNat_natCast]
    omega
  · have hie : i = c.length := by omega
    subst hie
    rw [List.take_length] at *
    repeat' ((conv => whnf); first
      | refine ⟨_, rfl, ?_⟩
      | refine ⟨rfl, ?_⟩
      | refine ⟨_, _, rfl, at_map (by assumption), ?_⟩
      | refine idx_mapX (i := 0) rfl (by assumption) ?_
      | refine idx_map (by omega) (fun x hx => ?_)
      | refine idx_mapX (wrap_dn (by omega) (by omega)) (by assumption) ?_
      | refine idx_mapE (wrap_dn (by omega) (by omega)) (by omega) (fun x hx => ?_)
      | refine idx_mapL (by omega) (by first | assumption | (simp only [LIM]; omega)) (fun x hx => ?_)
      | refine idx_mapI (by omega) (by first | omega | (simp only [List.length_map] at *; omega)) (fun x hx => ?_)
      | refine ⟨_, ldc_cells hupd_at (Nat.le_of_ble_eq_true rfl), ?_⟩
      | refine ⟨_, ldc_cells (by first | assumption | exact zk ‹_› (by omega) | exact zk (zk ‹_› (by omega)) (by omega)) (Nat.le_of_ble_eq_true rfl), ?_⟩
      | refine ⟨_, _, _, _, ((by exact hk_) : (_ : Option Ob) = _), rfl, at_mapA (by assumption), ?_⟩
      | refine idx_ow (by exact hk_) (by omega) (fun x hx => ?_)
      | refine ⟨_, _, _, _, ((by exact hk_) : (_ : Option Ob) = _), rfl, fill_at (by omega), ?_⟩
      | refine idx_owL (by exact hk_) (by omega) (by simp only [LIM]; omega) (fun x hx => ?_)
      | refine idx_owI (by exact hk_) (by omega) (by first | omega | (simp only [List.length_map] at *; omega)) (fun x hx => ?_)
      | refine ⟨_, ldc_pa (by exact hk_) (at_mapA (by assumption)) (Nat.le_of_ble_eq_true rfl), ?_⟩
      | refine ⟨_, _, _, ((by exact hk_) : (_ : Option Ob) = _), ?_⟩
      | refine ⟨_, ((by exact hk_) : (_ : Option Ob) = _), ?_⟩
      | (refine ⟨fun hc => ?_, fun hc => ?_⟩ <;> (try simp (disch := omega) only [List.length_map, wrap64] at hc) <;> (try (exfalso; first | contradiction | omega)))
      | fail)
    exact ⟨⟨_, rfl, rfl, c, rfl, congrArg one (congrArg nsF (show paysL newB c = bookOf c from by unfold bookOf; rw [tb_pos hj]; rfl))⟩, (by first | exact Nat.le_refl _ | omega), (by first | assumption | exact ne_)⟩
end Av
end Go.Proofs.Ytdboofnogabefaa
