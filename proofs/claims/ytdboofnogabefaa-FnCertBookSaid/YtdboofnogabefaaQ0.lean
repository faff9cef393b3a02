/- The contracts of the laws on drawn votes: they say yes. -/
import Derived.Test.YtdboofnogabefaaE8
set_option linter.unusedVariables false
set_option linter.unusedSimpArgs false
namespace Go.Proofs.Ytdboofnogabefaa
namespace Av
open Go.RowKit
def LawB (b : List Int) : Prop := b.length ≤ BIG ∧ Bytes b
theorem LawB.code {b : List Int} (h : LawB b) (h' : (b.length : Int) ≤ 1048576) : CodeOk b := ⟨by simp only [LIM]; omega, h.2⟩
theorem inh_yes {α : Sort _} {p : α → Prop} {R : α → AV → Prop} (h : ∀ a, R a (B true)) : ∀ a, p a → ∃ r, R a r ∧ okV noN r := fun a _ => ⟨B true, h a, trivial⟩
end Av
end Go.Proofs.Ytdboofnogabefaa
