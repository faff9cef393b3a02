/- Texts of the layer, joined. -/
import Derived.Test.YtkpncekaehgbdaaG1
import Derived.Test.YtkpncekaehgbdaaJ10
import Derived.Test.YtkpncekaehgbdaaD1
import Derived.Test.YtkpncekaehgbdaaProg
import Derived.KernelRfl
set_option linter.unusedVariables false
set_option linter.unusedSimpArgs false
namespace Go.Proofs.Ytkpncekaehgbdaa
namespace Av
open Go.RowKit
theorem mem_take_succ {α : Type} {l : List α} {i : Nat} {x a : α} (hx : l[i]? = some x) : a ∈ l.take (i + 1) ↔ a ∈ l.take i ∨ x = a := by
  rw [List.take_add_one, hx]; simp [eq_comm]
attribute [local irreducible] Valid ValidM
set_option maxHeartbeats 4000000 in
set_option maxRecDepth 100000 in
theorem v_spec_l1Copy : Valid Try.prog n_spec_l1Copy S_spec_l1Copy := by
  refine valid_of_swp mixed is_spec_l1Copy (by rintro _ ⟨a, rfl, _⟩; exact Nat.le_of_ble_eq_true rfl) ?_
  rintro _ rm ⟨c, rfl, hpre⟩ hl
  try dsimp only at hpre
  have hpre0 := hpre
  have hp1 := hpre
  repeat' ((conv => whnf); first
    | refine ⟨_, rfl, ?_⟩
    | refine ⟨rfl, ?_⟩
    | refine ⟨(show _ ≤ _ from (by exact ap_)), ?_⟩
    | exact ⟨⟨[.o (.c _)], congrArg (fun x => some [AW.o x]) (bor_ow (by exact hk_) (by first | rfl | (exact fcellss_c _))), rfl, c, rfl, (by first | rfl | (refine congrArg one (?_ : (_ : FV) = _); (try dsimp only); first | done | exact absurd True.intro hj | (first | assumption | grind)))⟩, (by first | exact Nat.le_refl _ | omega), (by exact h0_)⟩
    | fail)
end Av
end Go.Proofs.Ytkpncekaehgbdaa

namespace Go.Proofs.Ytkpncekaehgbdaa
namespace Av
end Av
end Go.Proofs.Ytkpncekaehgbdaa

