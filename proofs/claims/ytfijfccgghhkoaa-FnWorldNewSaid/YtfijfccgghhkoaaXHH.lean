/- FnWorldNew holds: for every argument the law says yes, and the argument reads as it did. No further conditions. -/
import Derived.Test.YtfijfccgghhkoaaRA
import Derived.Test.YtfijfccgghhkoaaHH
set_option linter.unusedVariables false
set_option linter.unusedSimpArgs false
namespace Go.Proofs.Ytfijfccgghhkoaa
open Go.ChangeShapes Go.WideShapes Go.ChangeAt Go.RowKit Av
set_option maxRecDepth 100000 in
theorem fnWorldNew_lifted (os : Os) (started : os.Started) (H : Type) (enc : TypeId × Value → H) :
    ReturnsInHanded {} Try.checked os 7 .any (Rows.fnWorldNewSpec.pre6 enc Try.prog Try.f7 Rows.fnWorldNewRow.domain false) (Rows.fnWorldNewSpec.post enc Try.prog Try.f7 false true false false) := by
  refine returnsInHanded_of_change (C := Try.checked) own1 started (by kernel_rfl) Try.func7
    (ChangeSpec.witness6 (enc := enc) (C := Try.checked) false ⟨#[], #[.slice none 0 0], []⟩ 8 (by kernel_rfl) (by kernel_rfl) (by kernel_rfl) (by kernel_rfl)) ?_
  intro W base args ds gs before hval0 hW0 hcnd _
  have hval : ∀ (j : Nat) t v, Try.f7.params[j]? = some t → args[j]? = some v → Value.okWide Try.prog W .any base t v := hval0
  have hW : DataW.Whole enc Try.prog Try.f7.params.toList Rows.fnWorldNewSpec.vars false W args.toList ds gs before := hW0
  have hW' := hW
  obtain ⟨p, q, hA, hV, rfl, hfz, hnd⟩ := hW
  have hA2 := hA
  rw [Try.params7] at hA2 hval
  obtain ⟨v0, d0, rfl, rfl, h0⟩ := trodAll_one hA2
  obtain ⟨rfl, rfl⟩ := trodVars_none hV
  obtain ⟨l, hr, hq⟩ := arg_slice (F := byF) Try.underlying22 rd_By (hval 0 _ v0 rfl rfl) h0
  exact row_yes (S := S_laws_FnWorldNew) (g := n_laws_FnWorldNew) (xs := [one (byF l)]) laid1 hW' rfl rfl (by rw [Try.params7]; decide +kernel) (by kernel_rfl) Try.underlying4 v_laws_FnWorldNew ⟨l, rfl, lawB_of hq⟩ (by decide) rfl (.cons' hr .nil') (fun r hr => K_laws_FnWorldNew (a := l) hr)
theorem fnWorldNew_holds : Rows.FnWorldNewSaid :=
  OpenClaim.holds_of_wide 7 Try.f7 rfl rfl rfl rfl rfl rfl rfl ⟨rfl, rfl, rfl, rfl, rfl⟩ rfl rfl rfl rfl rfl (by kernel_rfl) Try.func7 (by kernel_rfl)
    (of_decide_eq_true (by kernel_rfl)) (by unfold Func.isWrapper; first | (rw [if_pos (by decide +kernel)]; kernel_rfl) | (rw [if_neg (by decide +kernel)]; exact ⟨rfl, rfl⟩))
    (fun os started H enc _ => fnWorldNew_lifted os started H enc)
end Go.Proofs.Ytfijfccgghhkoaa
