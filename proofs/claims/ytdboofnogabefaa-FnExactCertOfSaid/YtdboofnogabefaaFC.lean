/- The walks: copies of chains. -/
import Derived.Test.YtdboofnogabefaaFB
import Derived.Test.YtdboofnogabefaaT2
set_option linter.unusedVariables false
set_option linter.unusedSimpArgs false
namespace Go.Proofs.Ytdboofnogabefaa
namespace Av
open Go.RowKit
attribute [local irreducible] Valid ValidM
set_option maxHeartbeats 4000000 in
set_option maxRecDepth 100000 in
theorem v_slices_Clone_ItemS_o : ValidM Try.prog n_slices_Clone_ItemS_o S_slices_Clone_ItemS_o := by
  refine validM_of_swp mixed is_slices_Clone_ItemS_o (by rintro _ _ ⟨a, rfl, _⟩; exact Nat.le_of_ble_eq_true rfl) ?_
  rintro _ _ rm ⟨c, rfl, rfl, hpre⟩ hl
  try dsimp only at hpre
  change swp _ _ _ _ _ 0 _
  have hlen' := hpre
  simp only [LIM] at hlen'
  conv => whnf
  refine ⟨trivial, hl, ?_⟩
  rintro r ⟨t, rfl, ht⟩
  cases t with
  | true =>
    have hc0 : c = [] := List.map_eq_nil_iff.1 (ht rfl)
    subst hc0
    conv => whnf
    exact finM_e0 (Nat.le_refl _) ⟨⟨_, rfl, .inl rfl⟩, trivial⟩ ⟨[], rfl, rfl, .inl ⟨rfl, rfl, rfl⟩⟩
  | false =>
    conv => whnf
    refine ⟨_, rfl, rfl, [], hupd_at, ?_, ?_⟩
    · simp
      omega
    · conv => whnf
      exact finM_new (F := itF) (T := ty_impl_Item) (sz := 4) (l := c) (Nat.le_refl _) (hupd_at.trans (by simp [arA])) ⟨⟨_, rfl, .inl rfl⟩, trivial⟩ ⟨c, rfl, rfl, .inr ⟨rfl, rfl⟩⟩
set_option maxHeartbeats 4000000 in
theorem v_slices_Clip_ItemS_o : ValidM Try.prog n_slices_Clip_ItemS_o S_slices_Clip_ItemS_o := by
  refine validM_of_swp mixed is_slices_Clip_ItemS_o (by rintro _ _ ⟨a, rfl, _⟩; cases a <;> exact Nat.le_of_ble_eq_true rfl) ?_
  rintro _ _ rm ⟨c, rfl, rfl, -⟩ hl
  cases c with
  | none =>
    change swp _ _ _ _ _ 0 _
    conv => whnf
    refine .inr ⟨.inr ⟨_, rfl⟩, rfl, rfl, ?_⟩
    conv => whnf
    exact finM_e0 (Nat.le_refl _) ⟨⟨_, rfl, .inl rfl⟩, trivial⟩ ⟨none, rfl, rfl, rfl, rfl⟩
  | some c =>
    change swp _ _ _ _ _ 1 _
    conv => whnf
    refine ⟨_, _, _, rfl, ?_⟩
    conv => whnf
    refine ⟨_, _, _, rfl, ?_⟩
    conv => whnf
    refine .inl ⟨0, ty_impl_Item, arA itF c, rfl, rfl, rfl, rfl, ?_⟩
    conv => whnf
    exact finM_mv (F := itF) (T := ty_impl_Item) (sz := 4) (l := c) (Nat.le_refl _) hk_ hupd_at (by omega) ⟨⟨_, rfl, .inl rfl⟩, trivial⟩ ⟨some c, rfl, rfl, rfl, rfl⟩
set_option maxHeartbeats 4000000 in
set_option maxRecDepth 100000 in
theorem v_impl_copied_o : ValidM Try.prog n_impl_copied_o S_impl_copied_o := by
  refine validM_of_swp mixed is_impl_copied_o (by rintro _ _ ⟨a, rfl, _⟩; exact Nat.le_of_ble_eq_true rfl) ?_
  rintro _ _ rm ⟨c, rfl, rfl, hpre⟩ hl
  try dsimp only at hpre
  change swp _ _ _ _ _ 0 _
  conv => whnf
  refine mq_clone (F := itF) (T := ty_impl_Item) (sz := 4) (Q := fun m => c = m) (Q0 := fun _ => c = []) v_slices_Clone_ItemS_o (by exact hl) rfl rfl ⟨c, rfl, rfl, hpre⟩ (fun r obs' h => by rcases K_ownC h with ⟨h1, h2, h3⟩ | ⟨h1, h2⟩; exact .inl ⟨h1, h2, h3⟩; exact .inr ⟨c, h1, h2, rfl⟩) (fun h0 => ?_) (fun m hm => ?_)
  · subst h0
    conv => whnf
    refine mq_non (ar := [one (chF [])]) (r0 := .w (.o .e0)) (fun _ => rfl) v_slices_Clip_ItemS_o (by exact hl) rfl rfl ⟨none, rfl, rfl, trivial⟩ (fun r obs' h => K_clip_e h) ?_
    conv => whnf
    exact finM_e0 (Nat.le_refl _) ⟨⟨_, rfl, .inl rfl⟩, trivial⟩ ⟨[], rfl, rfl, .inl ⟨rfl, rfl, rfl⟩⟩
  · subst hm
    conv => whnf
    refine mq_mv (F := itF) (T := ty_impl_Item) (sz := 4) (l := c) v_slices_Clip_ItemS_o (by exact hl) hupd_at rfl ⟨some c, rfl, rfl, trivial⟩ (fun r obs' h => K_clip_o h) ?_
    conv => whnf
    exact finM_new (F := itF) (T := ty_impl_Item) (sz := 4) (l := c) (Nat.le_refl _) hupd_at ⟨⟨_, rfl, .inl rfl⟩, trivial⟩ ⟨c, rfl, rfl, .inr ⟨rfl, rfl⟩⟩
section
variable {P : Program} {f : Nat} {S : OSpec} {fr : Env} {H : Hp} {nm rm : Nat} {K : KV} {xs : List (X × List (Option Nat))}
end
end Av
end Go.Proofs.Ytdboofnogabefaa
