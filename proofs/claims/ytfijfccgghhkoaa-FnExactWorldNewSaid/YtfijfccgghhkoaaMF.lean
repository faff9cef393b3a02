/- The walks: within, epochOk, nodeOk, PayOk. -/
import Derived.Test.YtfijfccgghhkoaaE1
set_option linter.unusedVariables false
set_option linter.unusedSimpArgs false
namespace Go.Proofs.Ytfijfccgghhkoaa
namespace Av
open Go.RowKit
theorem v_impl_within : Valid Try.prog n_impl_within S_impl_within := by
  refine valid_of_swp mixed is_impl_within (by rintro _ ⟨a, rfl, _⟩; exact Nat.le_of_ble_eq_true rfl) ?_
  rintro _ rm ⟨⟨a, b, c⟩, rfl, _⟩ _
  repeat' (conv => whnf
           first | refine ⟨rfl, ?_⟩ | refine ⟨_, rfl, ?_⟩ | refine ⟨fun _ => ?_, fun _ => ?_⟩ | fail)
  all_goals (conv => whnf
             refine ⟨⟨_, rfl, rfl, (a, b, c), rfl, ?_⟩, Nat.le_refl _, rfl⟩
             show B _ = B (tb (In a b c)))
  all_goals dsimp only at *
  · rw [tb_pos (by unfold In; omega)]
  · rw [tb_neg (by unfold In; omega)]
  · rw [tb_neg (by unfold In; omega)]
end Av
end Go.Proofs.Ytfijfccgghhkoaa
/- The walks: slices.Equal on items, ChainOk. -/
namespace Go.Proofs.Ytfijfccgghhkoaa
namespace Av
open Go.RowKit
end Av
end Go.Proofs.Ytfijfccgghhkoaa
/- The walk: ChainOk. -/
namespace Go.Proofs.Ytfijfccgghhkoaa
namespace Av
open Go.RowKit
theorem ldc_cells {H : Hp} {k off n : Nat} {cs : List AC} (h : H k = some (.cells cs)) (hn : off + n ≤ cs.length) : ldc H (.w (.o (.ptr k off))) n = some ((cs.drop off).take n) := by
  simp only [ldc, h, if_pos hn]
theorem hupd_at {H : Hp} {k : Nat} {x : Option Ob} : hupd k x H k = x := by simp [hupd]
theorem z0 {H : Hp} {k : Nat} {x : Option Ob} (h : H 0 = none) (hk : 0 ≠ k) : hupd k x H 0 = none := by rw [hupd_ne hk]; exact h
end Av
end Go.Proofs.Ytfijfccgghhkoaa
/- The walks: a vote among votes. -/
namespace Go.Proofs.Ytfijfccgghhkoaa
namespace Av
open Go.RowKit
end Av
end Go.Proofs.Ytfijfccgghhkoaa
/- The walks: VoteOk, VotesOk. -/
namespace Go.Proofs.Ytfijfccgghhkoaa
namespace Av
open Go.RowKit
theorem slc_to {fr : Env} {sz i : Nat} {xs : List (List FV)} {x : X} {H : Hp} (hx : ev fr x = I i) (hi : i ≤ xs.length) : slcA fr sz (S sz xs) none (some x) none H = some (.one (S sz (xs.take i)) H) := by
  have h0 : (0 : Int) ≤ (i : Int) := Int.natCast_nonneg i
  simp only [slcA, bnd, hx, if_pos h0, Int.toNat_natCast, Nat.zero_le, hi, and_self, true_and, if_true, List.drop_zero]
theorem map_take' {α : Type} {f : α → List FV} {l : List α} {i : Nat} : (l.map f).take i = (l.take i).map f := by rw [List.map_take]
end Av
end Go.Proofs.Ytfijfccgghhkoaa
/- The walks: voters. -/
namespace Go.Proofs.Ytfijfccgghhkoaa
namespace Av
open Go.RowKit
theorem news_ow {H : Hp} {k T sz : Nat} {xs : List (List AC)} (h : H k = some (.arr T sz xs)) : news H (.w (.o (.ow k))) = some xs := by simp only [news, h]
theorem newsz_ow {H : Hp} {k T sz : Nat} {xs : List (List AC)} (h : H k = some (.arr T sz xs)) : newsz H sz (.w (.o (.ow k))) := by simp only [newsz, h]
end Av
end Go.Proofs.Ytfijfccgghhkoaa
/- The walk: sure. -/
namespace Go.Proofs.Ytfijfccgghhkoaa
namespace Av
open Go.RowKit
end Av
end Go.Proofs.Ytfijfccgghhkoaa
/- The walks: Clip, Clone, copied on items. -/
namespace Go.Proofs.Ytfijfccgghhkoaa
namespace Av
open Go.RowKit
theorem fcells_c (l : List FV) : fcells (l.map AC.c) = some l := by
  induction l with
  | nil => rfl
  | cons a l ih => simp only [List.map_cons, fcells, ih]; rfl
theorem fcellss_c (xs : List (List FV)) : fcellss (xs.map fun x => x.map AC.c) = some xs := by
  induction xs with
  | nil => rfl
  | cons a l ih => simp only [List.map_cons, fcellss, fcells_c, ih]; rfl
theorem bor_ow {H : Hp} {k T sz : Nat} {xs : List (List AC)} {ys : List (List FV)} {sh : Option Nat} (h : H k = some (.arr T sz xs)) (hy : fcellss xs = some ys) : bor H sh (.ow k) = .c (.sl sz ys) := by simp only [bor, h, hy]
end Av
end Go.Proofs.Ytfijfccgghhkoaa
/- The walks: a chain among chains. -/
namespace Go.Proofs.Ytfijfccgghhkoaa
namespace Av
open Go.RowKit
end Av
end Go.Proofs.Ytfijfccgghhkoaa
/- The walk: all. -/
namespace Go.Proofs.Ytfijfccgghhkoaa
namespace Av
open Go.RowKit
theorem l2 {a b c d : AV} (h : a = b) (h' : c = d) : [a, c] = [b, d] := by rw [h, h']
end Av
end Go.Proofs.Ytfijfccgghhkoaa
/- The walks: tip, TreeLong. -/
namespace Go.Proofs.Ytfijfccgghhkoaa
namespace Av
open Go.RowKit
end Av
end Go.Proofs.Ytfijfccgghhkoaa
