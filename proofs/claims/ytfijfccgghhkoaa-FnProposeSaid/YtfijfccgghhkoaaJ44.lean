/- Texts of the layer, joined. -/
import Derived.Test.YtfijfccgghhkoaaJ43
import Derived.Test.YtfijfccgghhkoaaD1
import Derived.Test.YtfijfccgghhkoaaProg
import Derived.KernelRfl
import Derived.Test.YtfijfccgghhkoaaJ42
import Derived.Test.YtfijfccgghhkoaaG4
import Derived.Test.YtfijfccgghhkoaaJ5
import Derived.Test.YtfijfccgghhkoaaG2
set_option linter.unusedVariables false
set_option linter.unusedSimpArgs false
namespace Go.Proofs.Ytfijfccgghhkoaa
namespace Av
noncomputable def c_slices_Clone_ItemS_o : FC := { n := 8, res := [⟨none, 2, [some 4]⟩], body :=
 (.seq
 (.rg [⟨some 2, none, .mv (.k (.slice none 0 0))⟩])
 (.seq
 (.seq
 (.rg [⟨some 3, none, .mv (.t 0)⟩,
   ⟨some 4, none, .bin 3 .eql (.t 3) (.k (.slice none 0 0))⟩])
 (.cond (.t 4)
 (.seq
 (.rg [⟨some 2, none, .mv (.k (.slice none 0 0))⟩])
 .ret)
 .skip))
 (.seq
 (.rg [⟨some 5, none, .bsl 43 4 []⟩,
   ⟨some 6, none, .mv (.t 0)⟩,
   ⟨some 7, none, .app 43 4 32 [.int .i64 0, .int .i64 0, .int .i64 0, .int .i64 0] (.t 5) (.t 6)⟩,
   ⟨some 2, none, .mv (.t 7)⟩])
 .ret))) }
theorem is_slices_Clone_ItemS_o : IsF Try.prog n_slices_Clone_ItemS_o c_slices_Clone_ItemS_o := ⟨Try.f110, _, Try.func110, rfl, by decide, rfl, by kernel_rfl, by kernel_rfl⟩
noncomputable def c_slices_Clip_ItemS_o : FC := { n := 9, res := [⟨none, 2, [some 4]⟩], body :=
 (.seq
 (.rg [⟨some 2, none, .mv (.k (.slice none 0 0))⟩])
 (.seq
 (.rg [⟨some 3, none, .mv (.t 0)⟩,
   ⟨some 4, none, .mv (.t 0)⟩,
   ⟨some 5, none, .len (.t 4)⟩,
   ⟨some 6, none, .mv (.t 0)⟩,
   ⟨some 7, none, .len (.t 6)⟩,
   ⟨some 8, none, .clip 4 (.t 3) (.t 5) (.t 7)⟩,
   ⟨some 2, none, .mv (.t 8)⟩])
 .ret)) }
theorem is_slices_Clip_ItemS_o : IsF Try.prog n_slices_Clip_ItemS_o c_slices_Clip_ItemS_o := ⟨Try.f109, _, Try.func109, rfl, by decide, rfl, by kernel_rfl, by kernel_rfl⟩
noncomputable def c_impl_copied_o : FC := { n := 6, res := [⟨none, 2, [some 4]⟩], body :=
 (.seq
 (.rg [⟨some 2, none, .mv (.k (.slice none 0 0))⟩])
 (.seq
 (.rg [⟨some 3, none, .mv (.t 0)⟩,
   ⟨some 4, none, .callm n_slices_Clone_ItemS_o S_slices_Clone_ItemS_o [(.t 3, [some 4])]⟩,
   ⟨some 5, none, .callm n_slices_Clip_ItemS_o S_slices_Clip_ItemS_o [(.t 4, [some 4])]⟩,
   ⟨some 2, none, .mv (.t 5)⟩])
 .ret)) }
theorem is_impl_copied_o : IsF Try.prog n_impl_copied_o c_impl_copied_o := ⟨Try.f70, _, Try.func70, rfl, by decide, rfl, by kernel_rfl, by kernel_rfl⟩
end Av
end Go.Proofs.Ytfijfccgghhkoaa

namespace Go.Proofs.Ytfijfccgghhkoaa
namespace Av
noncomputable def c_impl_TreeTip : FC := { n := 8, res := [⟨none, 2, [some 4]⟩], body :=
 (.seq
 (.rg [⟨some 2, none, .mv (.k (.slice none 0 0))⟩])
 (.seq
 (.seq
 (.rg [⟨some 3, none, .mv (.t 0)⟩,
   ⟨some 4, none, .call n_impl_VotesOk S_impl_VotesOk [(.t 3, [some 2])]⟩,
   ⟨some 5, none, .un .not (.t 4)⟩])
 (.cond (.t 5)
 (.seq
 (.rg [⟨some 2, none, .mv (.k (.slice none 0 0))⟩])
 .ret)
 .skip))
 (.seq
 (.rg [⟨some 6, none, .mv (.t 0)⟩,
   ⟨some 7, none, .call n_impl_votes_tip S_impl_votes_tip [(.t 6, [some 2])]⟩,
   ⟨some 2, none, .mv (.t 7)⟩])
 .ret))) }
theorem is_impl_TreeTip : IsF Try.prog n_impl_TreeTip c_impl_TreeTip := ⟨Try.f17, _, Try.func17, rfl, by decide, rfl, by kernel_rfl, by kernel_rfl⟩
end Av
end Go.Proofs.Ytfijfccgghhkoaa

namespace Go.Proofs.Ytfijfccgghhkoaa
namespace Av
open Go.RowKit
/-- How a sure chain begins is sure. -/
theorem Sure.take {l : List Vo} {c : List It} (h : Sure l c) (k : Nat) : Sure l (c.take k) := by
  intro n h1 h2
  simp only [List.length_take] at h2
  unfold SureAt
  rw [List.take_take, Nat.min_eq_left (by omega)]
  exact h n h1 (by omega)
end Av
end Go.Proofs.Ytfijfccgghhkoaa

namespace Go.Proofs.Ytfijfccgghhkoaa
namespace Av
open Go.RowKit
attribute [local irreducible] Valid ValidM
set_option maxHeartbeats 4000000 in
set_option maxRecDepth 100000 in
theorem v_impl_TreeTip : Valid Try.prog n_impl_TreeTip S_impl_TreeTip := by
  refine valid_of_swp mixed is_impl_TreeTip (by rintro _ ⟨a, rfl, _⟩; exact Nat.le_of_ble_eq_true rfl) ?_
  rintro _ rm ⟨l, rfl, hpre⟩ hl
  try dsimp only at hpre
  have hpre0 := hpre
  obtain ⟨hp1, hp2⟩ := hpre
  repeat' ((conv => whnf); first
    | (refine callt (b := [one (vsF _)]) v_impl_VotesOk rfl ⟨_, rfl, (by exact pr_)⟩ (.inl rfl) (by first | assumption | omega) (fun r hr => K_impl_VotesOk (a := _) hr) (fun hj => ?_) (fun hj => ?_) <;> (try simp only [etaPa, etaIt, etaVo] at hj))
    | (refine calle (b := [one (vsF _)]) v_impl_votes_tip rfl ⟨_, rfl, (by refine ⟨?_, ?_⟩ <;> (exact pr_))⟩ (.inl rfl) (by first | assumption | omega) (fun r hr => K_impl_votes_tip (a := _) hr) ?_)
    | exact ⟨⟨_, rfl, rfl, l, rfl, (by refine congrArg one (?_ : (_ : FV) = _); (try dsimp only); first | done | exact absurd True.intro hj | ((unfold tipT; first | (rw [tb_pos (by assumption)]; rfl) | (rw [tb_neg (by assumption)]; rfl))))⟩, (by first | exact Nat.le_refl _ | omega), (by exact h0_)⟩
    | fail)
end Av
end Go.Proofs.Ytfijfccgghhkoaa

namespace Go.Proofs.Ytfijfccgghhkoaa
namespace Av
open Go.RowKit
attribute [local irreducible] Valid ValidM
set_option maxHeartbeats 4000000 in
set_option maxRecDepth 100000 in
theorem v_slices_Clone_ItemS_o : ValidM Try.prog n_slices_Clone_ItemS_o S_slices_Clone_ItemS_o := by
  refine validM_of_swp mixed is_slices_Clone_ItemS_o (by rintro _ _ ⟨a, rfl, _⟩; exact Nat.le_of_ble_eq_true rfl) ?_
  rintro _ _ rm ⟨c, rfl, rfl, hpre⟩ hl
  try dsimp only at hpre
  change swp _ _ _ _ _ 0 _
  have hlen' := hpre
  simp only [LIM] at hlen'
  conv => whnf
  refine ⟨trivial, hl, ?_⟩
  rintro r ⟨t, rfl, ht⟩
  cases t with
  | true =>
    have hc0 : c = [] := List.map_eq_nil_iff.1 (ht rfl)
    subst hc0
    conv => whnf
    exact finM_e0 (Nat.le_refl _) ⟨⟨_, rfl, .inl rfl⟩, trivial⟩ ⟨[], rfl, rfl, .inl ⟨rfl, rfl, rfl⟩⟩
  | false =>
    conv => whnf
    refine ⟨_, rfl, rfl, [], hupd_at, ?_, ?_⟩
    · simp
      omega
    · conv => whnf
      exact finM_new (F := itF) (T := ty_impl_Item) (sz := 4) (l := c) (Nat.le_refl _) (hupd_at.trans (by simp [arA])) ⟨⟨_, rfl, .inl rfl⟩, trivial⟩ ⟨c, rfl, rfl, .inr ⟨rfl, rfl⟩⟩
set_option maxHeartbeats 4000000 in
theorem v_slices_Clip_ItemS_o : ValidM Try.prog n_slices_Clip_ItemS_o S_slices_Clip_ItemS_o := by
  refine validM_of_swp mixed is_slices_Clip_ItemS_o (by rintro _ _ ⟨a, rfl, _⟩; cases a <;> exact Nat.le_of_ble_eq_true rfl) ?_
  rintro _ _ rm ⟨c, rfl, rfl, -⟩ hl
  cases c with
  | none =>
    change swp _ _ _ _ _ 0 _
    conv => whnf
    refine .inr ⟨.inr ⟨_, rfl⟩, rfl, rfl, ?_⟩
    conv => whnf
    exact finM_e0 (Nat.le_refl _) ⟨⟨_, rfl, .inl rfl⟩, trivial⟩ ⟨none, rfl, rfl, rfl, rfl⟩
  | some c =>
    change swp _ _ _ _ _ 1 _
    conv => whnf
    refine ⟨_, _, _, rfl, ?_⟩
    conv => whnf
    refine ⟨_, _, _, rfl, ?_⟩
    conv => whnf
    refine .inl ⟨0, ty_impl_Item, arA itF c, rfl, rfl, rfl, rfl, ?_⟩
    conv => whnf
    exact finM_mv (F := itF) (T := ty_impl_Item) (sz := 4) (l := c) (Nat.le_refl _) hk_ hupd_at (by omega) ⟨⟨_, rfl, .inl rfl⟩, trivial⟩ ⟨some c, rfl, rfl, rfl, rfl⟩
set_option maxHeartbeats 4000000 in
set_option maxRecDepth 100000 in
theorem v_impl_copied_o : ValidM Try.prog n_impl_copied_o S_impl_copied_o := by
  refine validM_of_swp mixed is_impl_copied_o (by rintro _ _ ⟨a, rfl, _⟩; exact Nat.le_of_ble_eq_true rfl) ?_
  rintro _ _ rm ⟨c, rfl, rfl, hpre⟩ hl
  try dsimp only at hpre
  change swp _ _ _ _ _ 0 _
  conv => whnf
  refine mq_clone (F := itF) (T := ty_impl_Item) (sz := 4) (Q := fun m => c = m) (Q0 := fun _ => c = []) v_slices_Clone_ItemS_o (by exact hl) rfl rfl ⟨c, rfl, rfl, hpre⟩ (fun r obs' h => by rcases K_ownC h with ⟨h1, h2, h3⟩ | ⟨h1, h2⟩; exact .inl ⟨h1, h2, h3⟩; exact .inr ⟨c, h1, h2, rfl⟩) (fun h0 => ?_) (fun m hm => ?_)
  · subst h0
    conv => whnf
    refine mq_non (ar := [one (chF [])]) (r0 := .w (.o .e0)) (fun _ => rfl) v_slices_Clip_ItemS_o (by exact hl) rfl rfl ⟨none, rfl, rfl, trivial⟩ (fun r obs' h => K_clip_e h) ?_
    conv => whnf
    exact finM_e0 (Nat.le_refl _) ⟨⟨_, rfl, .inl rfl⟩, trivial⟩ ⟨[], rfl, rfl, .inl ⟨rfl, rfl, rfl⟩⟩
  · subst hm
    conv => whnf
    refine mq_mv (F := itF) (T := ty_impl_Item) (sz := 4) (l := c) v_slices_Clip_ItemS_o (by exact hl) hupd_at rfl ⟨some c, rfl, rfl, trivial⟩ (fun r obs' h => K_clip_o h) ?_
    conv => whnf
    exact finM_new (F := itF) (T := ty_impl_Item) (sz := 4) (l := c) (Nat.le_refl _) hupd_at ⟨⟨_, rfl, .inl rfl⟩, trivial⟩ ⟨c, rfl, rfl, .inr ⟨rfl, rfl⟩⟩
theorem vO_impl_copied : ValidM Try.prog n_impl_copied SO_impl_copied.toM := by
  refine valid_O v_impl_copied_o rfl (fun args ⟨l, h, hp⟩ => ⟨l, h, rfl, hp⟩) fun args r obs' ⟨l, h, hp⟩ hq => ?_
  subst h
  rw [so_impl_copied]
  rcases K_ownC hq with ⟨h1, h2, h3⟩ | ⟨h1, h2⟩
  · exact .inl ⟨h1, h2, ty_impl_Item, 4, by rw [h3]; rfl⟩
  · exact .inr ⟨h1, h2⟩
section
variable {P : Program} {f : Nat} {S : OSpec} {fr : Env} {H : Hp} {nm rm : Nat} {K : KV} {xs : List (X × List (Option Nat))}
end
end Av
end Go.Proofs.Ytfijfccgghhkoaa

namespace Go.Proofs.Ytfijfccgghhkoaa
namespace Av
end Av
end Go.Proofs.Ytfijfccgghhkoaa

namespace Go.Proofs.Ytfijfccgghhkoaa
namespace Av
open Go.RowKit
attribute [local irreducible] Valid ValidM
end Av
end Go.Proofs.Ytfijfccgghhkoaa

