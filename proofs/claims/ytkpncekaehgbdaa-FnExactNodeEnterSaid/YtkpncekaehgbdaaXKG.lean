/- FnExactNodeEnter holds: for every argument the law says yes, and the argument reads as it did. No further conditions. -/
import Derived.Test.YtkpncekaehgbdaaRN
import Derived.Test.YtkpncekaehgbdaaKG
set_option linter.unusedVariables false
set_option linter.unusedSimpArgs false
namespace Go.Proofs.Ytkpncekaehgbdaa
open Go.ChangeShapes Go.WideShapes Go.ChangeAt Go.RowKit Av
set_option maxRecDepth 100000 in
theorem fnExactNodeEnter_lifted (os : Os) (started : os.Started) (H : Type) (enc : TypeId × Value → H) :
    ReturnsInHanded {} Try.checked os 5 .any (Rows.fnExactNodeEnterSpec.pre6 enc Try.prog Try.f5 Rows.fnExactNodeEnterRow.domain false) (Rows.fnExactNodeEnterSpec.post enc Try.prog Try.f5 false true false false) := by
  refine returnsInHanded_of_change (C := Try.checked) own0 started (by kernel_rfl) Try.func5
    (ChangeSpec.witness6 (enc := enc) (C := Try.checked) false ⟨#[], #[.agg #[.int .i64 0, .int .i64 0, .int .i64 0, .slice none 0 0], .int .i64 0], []⟩ 8 (by kernel_rfl) (by kernel_rfl) (by kernel_rfl) (by kernel_rfl)) ?_
  intro W base args ds gs before hval0 hW0 hcnd _
  have hval : ∀ (j : Nat) t v, Try.f5.params[j]? = some t → args[j]? = some v → Value.okWide Try.prog W .any base t v := hval0
  have hW : DataW.Whole enc Try.prog Try.f5.params.toList Rows.fnExactNodeEnterSpec.vars false W args.toList ds gs before := hW0
  have hW' := hW
  obtain ⟨p, q, hA, hV, rfl, hfz, hnd⟩ := hW
  have hA2 := hA
  rw [Try.params5] at hA2 hval
  obtain ⟨v0, v1, d0, d1, p0, p1, rfl, rfl, rfl, h0, h1⟩ := trodAll_two hA2
  obtain ⟨rfl, rfl⟩ := trodVars_none hV
  obtain ⟨l, hr, hq⟩ := arg_struct (F := ndF) Try.underlying49 rd_Nd (hval 0 _ v0 rfl rfl) h0
  obtain ⟨u, hr1, hq1⟩ := arg_int Try.underlying3 (hval 1 _ v1 rfl rfl) h1
  exact row_yes (S := S_laws_FnExactNodeEnter) (g := n_laws_FnExactNodeEnter) (xs := [agg (ndF l), I u]) laid0 hW' rfl rfl (by rw [Try.params5]; decide +kernel) (by kernel_rfl) Try.underlying4 v_laws_FnExactNodeEnter ⟨(l, u), rfl, hq.big⟩ (by decide) rfl (.cons' hr (.cons' hr1 .nil')) (fun r hr => by
    rcases K_laws_FnExactNodeEnter (a := (l, u)) hr with ⟨_, h⟩ | ⟨h, _⟩
    · exact h
    · exact absurd True.intro h)
theorem fnExactNodeEnter_holds : Rows.FnExactNodeEnterSaid :=
  OpenClaim.holds_of_wide 5 Try.f5 rfl rfl rfl rfl rfl rfl rfl ⟨rfl, rfl, rfl, rfl, rfl⟩ rfl rfl rfl rfl rfl (by kernel_rfl) Try.func5 (by kernel_rfl)
    (of_decide_eq_true (by kernel_rfl)) (by unfold Func.isWrapper; first | (rw [if_pos (by decide +kernel)]; kernel_rfl) | (rw [if_neg (by decide +kernel)]; exact ⟨rfl, rfl⟩))
    (fun os started H enc _ => fnExactNodeEnter_lifted os started H enc)
end Go.Proofs.Ytkpncekaehgbdaa
