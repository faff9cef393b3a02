/- Arrays of numbers of one's own; an operation that hands back one new flat array. -/
import Derived.Test.YtdboofnogabefaaW1
import Derived.Test.YtdboofnogabefaaN0
import Derived.Test.YtdboofnogabefaaE0
set_option linter.unusedVariables false
set_option linter.unusedSimpArgs false
namespace Go.Proofs.Ytdboofnogabefaa
namespace Av
open Go.RowKit
/-- An operation that hands back one new flat array. -/
noncomputable def mkOF {α β : Type} (T sz : Nat) (F : β → List FV) (hF : ∀ b c, c ∈ F b → ∃ v, c = .v v) (enc : α → List AV) (p : α → Prop) (g : α → List β) (hcl : ∀ a, (enc a).all clV = true) : OSpec where
  pre args := ∃ a, args = enc a ∧ p a
  ob args := @dite _ (∃ a, args = enc a) (Classical.propDecidable _) (fun h => .arr T sz (arA F (g h.choose))) fun _ => .arr T sz (arA F [])
  hok args := by split <;> exact arA_ok _
  hcl := fun args ⟨a, h, _⟩ => by rw [h]; exact hcl a
  fl := true
  hfl := fun _ args => by
    have key : ∀ l : List β, flatO (.arr T sz (arA F l)) := fun l x hx y hy => by
      obtain ⟨z, _, rfl⟩ := List.mem_map.1 hx
      obtain ⟨w, hw, rfl⟩ := List.mem_map.1 hy
      obtain ⟨v, rfl⟩ := hF z w hw; exact ⟨v, rfl⟩
    split <;> exact key _
theorem mkOF_ob {α β : Type} {T sz : Nat} {F : β → List FV} {hF : ∀ b c, c ∈ F b → ∃ v, c = .v v} {enc : α → List AV} {p : α → Prop} {g : α → List β} {hcl : ∀ a, (enc a).all clV = true} (hinj : ∀ a b, enc a = enc b → a = b) (a : α) : (mkOF T sz F hF enc p g hcl).ob (enc a) = .arr T sz (arA F (g a)) := by
  have h : ∃ b, enc a = enc b := ⟨a, rfl⟩
  show @dite _ (∃ b, enc a = enc b) (Classical.propDecidable _) (fun h => Ob.arr T sz (arA F (g h.choose))) (fun _ => .arr T sz (arA F [])) = _
  rw [dif_pos h, ← hinj _ _ h.choose_spec]
def inF (n : Int) : List FV := [fI n]
abbrev isO (b : List Int) : Ob := .arr ty_int 1 (arA inF b)
theorem inF_v : ∀ (b : Int) c, c ∈ inF b → ∃ v, c = .v v := fun b c h => by
  simp only [inF, fI, List.mem_cons, List.not_mem_nil, or_false] at h
  exact ⟨_, h⟩
theorem inF_inj (a b : Int) (h : inF a = inF b) : a = b := by simpa [inF] using h
theorem isO_inj {a b : List Int} (h : [isO a] = [isO b]) : a = b := arA_inj inF_inj (Ob.arr.inj (List.cons.inj h).1).2.2
end Av
end Go.Proofs.Ytdboofnogabefaa
