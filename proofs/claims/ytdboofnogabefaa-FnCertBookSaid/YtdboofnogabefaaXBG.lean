/- FnCertBook holds: for every argument the law says yes, and the argument reads as it did. No further conditions. -/
import Derived.Test.YtdboofnogabefaaRA
import Derived.Test.YtdboofnogabefaaBG
set_option linter.unusedVariables false
set_option linter.unusedSimpArgs false
namespace Go.Proofs.Ytdboofnogabefaa
open Go.ChangeShapes Go.WideShapes Go.ChangeAt Go.RowKit Av
set_option maxRecDepth 100000 in
theorem fnCertBook_lifted (os : Os) (started : os.Started) (H : Type) (enc : TypeId × Value → H) :
    ReturnsInHanded {} Try.checked os 4 .any (Rows.fnCertBookSpec.pre6 enc Try.prog Try.f4 Rows.fnCertBookRow.domain false) (Rows.fnCertBookSpec.post enc Try.prog Try.f4 false true false false) := by
  refine returnsInHanded_of_change (C := Try.checked) own1 started (by kernel_rfl) Try.func4
    (ChangeSpec.witness6 (enc := enc) (C := Try.checked) false ⟨#[], #[.slice none 0 0], []⟩ 8 (by kernel_rfl) (by kernel_rfl) (by kernel_rfl) (by kernel_rfl)) ?_
  intro W base args ds gs before hval0 hW0 hcnd _
  have hval : ∀ (j : Nat) t v, Try.f4.params[j]? = some t → args[j]? = some v → Value.okWide Try.prog W .any base t v := hval0
  have hW : DataW.Whole enc Try.prog Try.f4.params.toList Rows.fnCertBookSpec.vars false W args.toList ds gs before := hW0
  have hW' := hW
  obtain ⟨p, q, hA, hV, rfl, hfz, hnd⟩ := hW
  have hA2 := hA
  rw [Try.params4] at hA2 hval
  obtain ⟨v0, d0, rfl, rfl, h0⟩ := trodAll_one hA2
  obtain ⟨rfl, rfl⟩ := trodVars_none hV
  obtain ⟨l, hr, hq⟩ := arg_slice (F := byF) Try.underlying22 rd_By (hval 0 _ v0 rfl rfl) h0
  exact row_yes (S := S_laws_FnCertBook) (g := n_laws_FnCertBook) (xs := [one (byF l)]) laid1 hW' rfl rfl (by rw [Try.params4]; decide +kernel) (by kernel_rfl) Try.underlying4 v_laws_FnCertBook ⟨l, rfl, lawB_of hq⟩ (by decide) rfl (.cons' hr .nil') (fun r hr => K_laws_FnCertBook (a := l) hr)
theorem fnCertBook_holds : Rows.FnCertBookSaid :=
  OpenClaim.holds_of_wide 4 Try.f4 rfl rfl rfl rfl rfl rfl rfl ⟨rfl, rfl, rfl, rfl, rfl⟩ rfl rfl rfl rfl rfl (by kernel_rfl) Try.func4 (by kernel_rfl)
    (of_decide_eq_true (by kernel_rfl)) (by unfold Func.isWrapper; first | (rw [if_pos (by decide +kernel)]; kernel_rfl) | (rw [if_neg (by decide +kernel)]; exact ⟨rfl, rfl⟩))
    (fun os started H enc _ => fnCertBook_lifted os started H enc)
end Go.Proofs.Ytdboofnogabefaa
