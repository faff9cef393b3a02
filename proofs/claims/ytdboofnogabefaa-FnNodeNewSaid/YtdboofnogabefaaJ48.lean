/- Texts of the layer, joined. -/
import Derived.Test.YtdboofnogabefaaJ47
import Derived.Test.YtdboofnogabefaaT2
import Derived.Test.YtdboofnogabefaaJ6
import Derived.Test.YtdboofnogabefaaD1
import Derived.Test.YtdboofnogabefaaProg
import Derived.KernelRfl
import Derived.Test.YtdboofnogabefaaG2
import Derived.Test.YtdboofnogabefaaJ20
set_option linter.unusedVariables false
set_option linter.unusedSimpArgs false
namespace Go.Proofs.Ytdboofnogabefaa
namespace Av
open Go.RowKit
attribute [local irreducible] Valid ValidM
set_option maxHeartbeats 4000000 in
set_option maxRecDepth 100000 in
theorem v_slices_Clone_ItemS_o : ValidM Try.prog n_slices_Clone_ItemS_o S_slices_Clone_ItemS_o := by
  refine validM_of_swp mixed is_slices_Clone_ItemS_o (by rintro _ _ ⟨a, rfl, _⟩; exact Nat.le_of_ble_eq_true rfl) ?_
  rintro _ _ rm ⟨c, rfl, rfl, hpre⟩ hl
  try dsimp only at hpre
  change swp _ _ _ _ _ 0 _
  have hlen' := hpre
  simp only [LIM] at hlen'
  conv => whnf
  refine ⟨trivial, hl, ?_⟩
  rintro r ⟨t, rfl, ht⟩
  cases t with
  | true =>
    have hc0 : c = [] := List.map_eq_nil_iff.1 (ht rfl)
    subst hc0
    conv => whnf
    exact finM_e0 (Nat.le_refl _) ⟨⟨_, rfl, .inl rfl⟩, trivial⟩ ⟨[], rfl, rfl, .inl ⟨rfl, rfl, rfl⟩⟩
  | false =>
    conv => whnf
    refine ⟨_, rfl, rfl, [], hupd_at, ?_, ?_⟩
    · simp
      omega
    · conv => whnf
      exact finM_new (F := itF) (T := ty_impl_Item) (sz := 4) (l := c) (Nat.le_refl _) (hupd_at.trans (by simp [arA])) ⟨⟨_, rfl, .inl rfl⟩, trivial⟩ ⟨c, rfl, rfl, .inr ⟨rfl, rfl⟩⟩
set_option maxHeartbeats 4000000 in
theorem v_slices_Clip_ItemS_o : ValidM Try.prog n_slices_Clip_ItemS_o S_slices_Clip_ItemS_o := by
  refine validM_of_swp mixed is_slices_Clip_ItemS_o (by rintro _ _ ⟨a, rfl, _⟩; cases a <;> exact Nat.le_of_ble_eq_true rfl) ?_
  rintro _ _ rm ⟨c, rfl, rfl, -⟩ hl
  cases c with
  | none =>
    change swp _ _ _ _ _ 0 _
    conv => whnf
    refine .inr ⟨.inr ⟨_, rfl⟩, rfl, rfl, ?_⟩
    conv => whnf
    exact finM_e0 (Nat.le_refl _) ⟨⟨_, rfl, .inl rfl⟩, trivial⟩ ⟨none, rfl, rfl, rfl, rfl⟩
  | some c =>
    change swp _ _ _ _ _ 1 _
    conv => whnf
    refine ⟨_, _, _, rfl, ?_⟩
    conv => whnf
    refine ⟨_, _, _, rfl, ?_⟩
    conv => whnf
    refine .inl ⟨0, ty_impl_Item, arA itF c, rfl, rfl, rfl, rfl, ?_⟩
    conv => whnf
    exact finM_mv (F := itF) (T := ty_impl_Item) (sz := 4) (l := c) (Nat.le_refl _) hk_ hupd_at (by omega) ⟨⟨_, rfl, .inl rfl⟩, trivial⟩ ⟨some c, rfl, rfl, rfl, rfl⟩
set_option maxHeartbeats 4000000 in
set_option maxRecDepth 100000 in
theorem v_impl_copied_o : ValidM Try.prog n_impl_copied_o S_impl_copied_o := by
  refine validM_of_swp mixed is_impl_copied_o (by rintro _ _ ⟨a, rfl, _⟩; exact Nat.le_of_ble_eq_true rfl) ?_
  rintro _ _ rm ⟨c, rfl, rfl, hpre⟩ hl
  try dsimp only at hpre
  change swp _ _ _ _ _ 0 _
  conv => whnf
  refine mq_clone (F := itF) (T := ty_impl_Item) (sz := 4) (Q := fun m => c = m) (Q0 := fun _ => c = []) v_slices_Clone_ItemS_o (by exact hl) rfl rfl ⟨c, rfl, rfl, hpre⟩ (fun r obs' h => by rcases K_ownC h with ⟨h1, h2, h3⟩ | ⟨h1, h2⟩; exact .inl ⟨h1, h2, h3⟩; exact .inr ⟨c, h1, h2, rfl⟩) (fun h0 => ?_) (fun m hm => ?_)
  · subst h0
    conv => whnf
    refine mq_non (ar := [one (chF [])]) (r0 := .w (.o .e0)) (fun _ => rfl) v_slices_Clip_ItemS_o (by exact hl) rfl rfl ⟨none, rfl, rfl, trivial⟩ (fun r obs' h => K_clip_e h) ?_
    conv => whnf
    exact finM_e0 (Nat.le_refl _) ⟨⟨_, rfl, .inl rfl⟩, trivial⟩ ⟨[], rfl, rfl, .inl ⟨rfl, rfl, rfl⟩⟩
  · subst hm
    conv => whnf
    refine mq_mv (F := itF) (T := ty_impl_Item) (sz := 4) (l := c) v_slices_Clip_ItemS_o (by exact hl) hupd_at rfl ⟨some c, rfl, rfl, trivial⟩ (fun r obs' h => K_clip_o h) ?_
    conv => whnf
    exact finM_new (F := itF) (T := ty_impl_Item) (sz := 4) (l := c) (Nat.le_refl _) hupd_at ⟨⟨_, rfl, .inl rfl⟩, trivial⟩ ⟨c, rfl, rfl, .inr ⟨rfl, rfl⟩⟩
theorem vO_impl_copied : ValidM Try.prog n_impl_copied SO_impl_copied.toM := by
  refine valid_O v_impl_copied_o rfl (fun args ⟨l, h, hp⟩ => ⟨l, h, rfl, hp⟩) fun args r obs' ⟨l, h, hp⟩ hq => ?_
  subst h
  rw [so_impl_copied]
  rcases K_ownC hq with ⟨h1, h2, h3⟩ | ⟨h1, h2⟩
  · exact .inl ⟨h1, h2, ty_impl_Item, 4, by rw [h3]; rfl⟩
  · exact .inr ⟨h1, h2⟩
section
variable {P : Program} {f : Nat} {S : OSpec} {fr : Env} {H : Hp} {nm rm : Nat} {K : KV} {xs : List (X × List (Option Nat))}
end
end Av
end Go.Proofs.Ytdboofnogabefaa

namespace Go.Proofs.Ytdboofnogabefaa
namespace Av
end Av
end Go.Proofs.Ytdboofnogabefaa

namespace Go.Proofs.Ytdboofnogabefaa
namespace Av
open Go.RowKit
attribute [local irreducible] Valid ValidM
end Av
end Go.Proofs.Ytdboofnogabefaa

namespace Go.Proofs.Ytdboofnogabefaa
namespace Av
open Go.RowKit
attribute [local irreducible] Valid ValidM
end Av
end Go.Proofs.Ytdboofnogabefaa
/- The walks: the laws' copies that are written later. -/
namespace Go.Proofs.Ytdboofnogabefaa
namespace Av
open Go.RowKit
def updF (f : Nat → Nat) (i n : Nat) : Nat → Nat := fun j => if j = i then n else f j
section
variable {P : Program} {g : Nat} {S : MSpec} {fr : Env} {H : Hp} {nm nx rm rm' lim : Nat} {K : KV} {xs : List (X × List (Option Nat))} {res : List Rs} {post : AV → List (Option Ob) → Prop}
end
end Av
end Go.Proofs.Ytdboofnogabefaa
/- Owned votes, seen by a callee that only reads; and what a call of the copy comes to. -/
namespace Go.Proofs.Ytdboofnogabefaa
namespace Av
open Go.RowKit
theorem allO_mk {α β : Type} {g : α → Option β} : ∀ {l : List α} {ys : List β}, l.length = ys.length → (∀ (i : Nat) x y, l[i]? = some x → ys[i]? = some y → g x = some y) → allO g l = some ys
  | [], [], _, _ => rfl
  | x :: r, y :: ys, h, hg => by
    have h1 := hg 0 x y rfl rfl
    have h2 : allO g r = some ys := allO_mk (by simpa using h) fun i a b ha hb => hg (i + 1) a b (by simpa using ha) (by simpa using hb)
    simp only [allO, h1, h2, Option.bind_some, Option.map_some]
  | [], _ :: _, h, _ => by simp at h
  | _ :: _, [], h, _ => by simp at h
theorem deep_c {H : Hp} {d s : Nat} (l : List FV) : allO (deep H (d + 1) s) (l.map AC.c) = some l := by
  refine allO_mk (by simp) fun i x y hx hy => ?_
  rw [List.getElem?_map, hy] at hx
  cases hx; rfl
theorem arA_deep {α : Type} {F : α → List FV} {H : Hp} {d s : Nat} (l : List α) : allO (allO (deep H (d + 1) s)) (arA F l) = some (l.map F) := by
  refine allO_mk (by simp [arA]) fun i x y hx hy => ?_
  rw [arA, List.getElem?_map] at hx
  rw [List.getElem?_map] at hy
  cases ha : l[i]? with
  | none => rw [ha] at hx; cases hx
  | some a =>
    rw [ha] at hx hy
    cases hx; cases hy
    exact deep_c _
theorem bor_deep {H : Hp} {k T sz : Nat} {xs : List (List AC)} {ys : List (List FV)} {sh : Option Nat} (h : H k = some (.arr T sz xs)) (hy : allO (allO (deep H 3 sz)) xs = some ys) : bor H sh (.ow k) = .c (.sl sz ys) := by
  simp only [bor, h]
  cases hz : fcellss xs with
  | none => simp only [hy]
  | some zs =>
    simp only
    have h1 := fcellss_eq hz
    have h2 : allO (allO (deep H 3 sz)) xs = some zs := by
      rw [h1]
      refine allO_mk (by simp) fun i x y hx hy => ?_
      rw [List.getElem?_map, hy] at hx
      cases hx; exact deep_c _
    rw [h2] at hy; cases hy; rfl
theorem deep_ow {H : Hp} {d sz k T s : Nat} {xs : List (List AC)} (h : H k = some (.arr T s xs)) : deep H (d + 1) sz (.ow k) = (allO (allO (deep H d s)) xs).map (.sl s ·) := by
  unfold deep
  simp only [h]
section
variable {P : Program} {g : Nat} {S : MSpec} {fr : Env} {H : Hp} {nm rm : Nat} {K : KV} {xs : List (X × List (Option Nat))}
end
end Av
end Go.Proofs.Ytdboofnogabefaa
/- The walks: the marks on chains. -/
namespace Go.Proofs.Ytdboofnogabefaa
namespace Av
open Go.RowKit
end Av
end Go.Proofs.Ytdboofnogabefaa
/- The walk: 'the marks stand' on chains. -/
namespace Go.Proofs.Ytdboofnogabefaa
namespace Av
open Go.RowKit
end Av
end Go.Proofs.Ytdboofnogabefaa
/- The walk: the marks on votes. -/
namespace Go.Proofs.Ytdboofnogabefaa
namespace Av
open Go.RowKit
section
variable {fr : Env} {H : Hp} {nx rm' lim : Nat} {res : List Rs} {post : AV → List (Option Ob) → Prop}
end
end Av
end Go.Proofs.Ytdboofnogabefaa
/- Chains of one's own azz the answer of an operation; the marks on votes, azz a call. -/
namespace Go.Proofs.Ytdboofnogabefaa
namespace Av
open Go.RowKit
section
variable {P : Program} {g : Nat} {S : MSpec} {fr : Env} {H : Hp} {nm rm : Nat} {K : KV} {xs : List (X × List (Option Nat))}
end
theorem vsEnc_inj (l m : List Vo) (h : [one (vsF l)] = [one (vsF m)]) : l = m := by simpa only [List.cons.injEq, and_true, one_inj, vsF_inj] using h
section
variable {P : Program} {f : Nat} {S : OSpec} {fr : Env} {H : Hp} {nm rm : Nat} {K : KV} {x : X} {sh : List (Option Nat)}
end
section
variable {P : Program} {g : Nat} {S : MSpec} {fr : Env} {H : Hp} {nm rm : Nat} {K : KV} {xs : List (X × List (Option Nat))}
end
end Av
end Go.Proofs.Ytdboofnogabefaa

