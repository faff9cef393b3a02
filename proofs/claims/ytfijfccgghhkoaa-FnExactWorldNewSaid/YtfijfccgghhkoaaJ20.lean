/- Texts of the layer, joined. -/
import Derived.Test.YtfijfccgghhkoaaJ19
import Derived.Test.YtfijfccgghhkoaaJ9
import Derived.Test.YtfijfccgghhkoaaJ13
import Derived.Test.YtfijfccgghhkoaaProg
import Derived.KernelRfl
set_option linter.unusedVariables false
set_option linter.unusedSimpArgs false
namespace Go.Proofs.Ytfijfccgghhkoaa
namespace Av
open Go.RowKit
theorem filter_len_mono {α : Type} {p q : α → Bool} (h : ∀ a, p a = true → q a = true) : ∀ l : List α, (l.filter p).length ≤ (l.filter q).length
  | [] => Nat.le_refl _
  | a :: l => by
    have ih := filter_len_mono h l
    cases hp : p a with
    | true => simp [hp, h a hp]; exact ih
    | false =>
      cases hq : q a with
      | true => simp [hp, hq]; omega
      | false => simp [hp, hq]; exact ih
theorem voters_mono {l m : List Vo} (h : ∀ v, v ∈ l → v ∈ m) (c : List It) : (voters l c).length ≤ (voters m c).length :=
  filter_len_mono (fun n hn => by rw [tb_iff] at hn ⊢; exact h _ hn) _
theorem Sure.mono {l m : List Vo} (h : ∀ v, v ∈ l → v ∈ m) {c : List It} (hs : Sure l c) : Sure m c :=
  fun n h1 h2 => Nat.le_trans (hs n h1 h2) (voters_mono h _)
theorem FitCs.take {l : List (List It)} (h : FitCs l) (i : Nat) : FitCs (l.take i) :=
  ⟨by have := h.1; simp only [List.length_take]; omega, fun v hv => h.2 v (List.mem_of_mem_take hv)⟩
end Av
end Go.Proofs.Ytfijfccgghhkoaa

namespace Go.Proofs.Ytfijfccgghhkoaa
namespace Av
end Av
end Go.Proofs.Ytfijfccgghhkoaa

