/- FnExactCertOf holds: for every argument the law says yes, and the argument reads as it did. No further conditions. -/
import Derived.Test.YtdboofnogabefaaJ11
import Derived.Test.YtdboofnogabefaaGE
set_option linter.unusedVariables false
set_option linter.unusedSimpArgs false
namespace Go.Proofs.Ytdboofnogabefaa
open Go.ChangeShapes Go.WideShapes Go.ChangeAt Go.RowKit Av
set_option maxRecDepth 100000 in
theorem fnExactCertOf_lifted (os : Os) (started : os.Started) (H : Type) (enc : TypeId × Value → H) :
    ReturnsInHanded {} Try.checked os 6 .any (Rows.fnExactCertOfSpec.pre6 enc Try.prog Try.f6 Rows.fnExactCertOfRow.domain false) (Rows.fnExactCertOfSpec.post enc Try.prog Try.f6 false true false false) := by
  refine returnsInHanded_of_change (C := Try.checked) own0 started (by kernel_rfl) Try.func6
    (ChangeSpec.witness6 (enc := enc) (C := Try.checked) false ⟨#[], #[.slice none 0 0], []⟩ 8 (by kernel_rfl) (by kernel_rfl) (by kernel_rfl) (by kernel_rfl)) ?_
  intro W base args ds gs before hval0 hW0 hcnd _
  have hval : ∀ (j : Nat) t v, Try.f6.params[j]? = some t → args[j]? = some v → Value.okWide Try.prog W .any base t v := hval0
  have hW : DataW.Whole enc Try.prog Try.f6.params.toList Rows.fnExactCertOfSpec.vars false W args.toList ds gs before := hW0
  have hW' := hW
  obtain ⟨p, q, hA, hV, rfl, hfz, hnd⟩ := hW
  have hA2 := hA
  rw [Try.params6] at hA2 hval
  obtain ⟨v0, d0, rfl, rfl, h0⟩ := trodAll_one hA2
  obtain ⟨rfl, rfl⟩ := trodVars_none hV
  obtain ⟨l, hr, hq⟩ := arg_slice (F := vsF) Try.underlying55 rd_Vs (hval 0 _ v0 rfl rfl) h0
  exact row_yes (S := S_laws_FnExactCertOf) (g := n_laws_FnExactCertOf) (xs := [one (vsF l)]) laid0 hW' rfl rfl (by rw [Try.params6]; decide +kernel) (by kernel_rfl) Try.underlying4 v_laws_FnExactCertOf ⟨l, rfl, hq.big⟩ (by decide) rfl (.cons' hr .nil') (fun r hr => by
    rcases K_laws_FnExactCertOf (a := l) hr with ⟨_, h⟩ | ⟨h, _⟩
    · exact h
    · exact absurd True.intro h)
theorem fnExactCertOf_holds : Rows.FnExactCertOfSaid :=
  OpenClaim.holds_of_wide 6 Try.f6 rfl rfl rfl rfl rfl rfl rfl ⟨rfl, rfl, rfl, rfl, rfl⟩ rfl rfl rfl rfl rfl (by kernel_rfl) Try.func6 (by kernel_rfl)
    (of_decide_eq_true (by kernel_rfl)) (by unfold Func.isWrapper; first | (rw [if_pos (by decide +kernel)]; kernel_rfl) | (rw [if_neg (by decide +kernel)]; exact ⟨rfl, rfl⟩))
    (fun os started H enc _ => fnExactCertOf_lifted os started H enc)
end Go.Proofs.Ytdboofnogabefaa
