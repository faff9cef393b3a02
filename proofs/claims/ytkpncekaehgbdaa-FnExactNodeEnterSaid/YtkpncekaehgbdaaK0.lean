/- The walks: the reader: opening, picking a number. -/
import Derived.Test.YtkpncekaehgbdaaE7
import Derived.Test.YtkpncekaehgbdaaW0
import Derived.Test.YtkpncekaehgbdaaJ28
set_option linter.unusedVariables false
set_option linter.unusedSimpArgs false
namespace Go.Proofs.Ytkpncekaehgbdaa
namespace Av
open Go.RowKit
end Av
end Go.Proofs.Ytkpncekaehgbdaa
/- The walks: drawn payments and chains. -/
namespace Go.Proofs.Ytkpncekaehgbdaa
namespace Av
open Go.RowKit
attribute [local irreducible] Valid ValidM
end Av
end Go.Proofs.Ytkpncekaehgbdaa
/- The walks: two drawn chains, a drawn vote, votes anew and one more. -/
namespace Go.Proofs.Ytkpncekaehgbdaa
namespace Av
open Go.RowKit
set_option maxHeartbeats 4000000 in
set_option maxRecDepth 100000 in
theorem v_spec_l3VoteCopy : Valid Try.prog n_spec_l3VoteCopy S_spec_l3VoteCopy := by
  refine valid_of_swp mixed is_spec_l3VoteCopy (by rintro _ ⟨a, rfl, _⟩; exact Nat.le_of_ble_eq_true rfl) ?_
  rintro _ rm ⟨v, rfl, hpre⟩ hl
  try dsimp only at hpre
  have hpre0 := hpre
  have hp1 := hpre
  repeat' ((conv => whnf); first
    | refine ⟨_, rfl, ?_⟩
    | refine ⟨_, _, rfl, rfl, rfl, Nat.le_of_ble_eq_true rfl, ?_⟩
    | (refine calle (b := [one (chF _)]) v_spec_l1Copy rfl ⟨_, rfl, (by exact pr_)⟩ (.inl rfl) (by first | assumption | omega) (fun r hr => K_spec_l1Copy (a := _) hr) ?_)
    | exact ⟨⟨_, rfl, rfl, v, rfl, rfl⟩, (by first | exact Nat.le_refl _ | omega), (by exact h0_)⟩
    | fail)
end Av
end Go.Proofs.Ytkpncekaehgbdaa
/- The walks: drawn votes. -/
namespace Go.Proofs.Ytkpncekaehgbdaa
namespace Av
open Go.RowKit
end Av
end Go.Proofs.Ytkpncekaehgbdaa
/- The walks: votes drawn, some spoilt; the drawing functions of the laws. -/
namespace Go.Proofs.Ytkpncekaehgbdaa
namespace Av
open Go.RowKit
theorem fit16 {c : List It} (h : c.length ≤ 16) : c.length ≤ LIM := Nat.le_trans h (by decide)
end Av
end Go.Proofs.Ytkpncekaehgbdaa
