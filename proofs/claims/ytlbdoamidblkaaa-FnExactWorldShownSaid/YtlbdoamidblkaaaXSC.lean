/- FnExactWorldShown holds: for every argument the law says yes, and the argument reads as it did. No further conditions. -/
import Derived.Test.YtlbdoamidblkaaaJ14
import Derived.Test.YtlbdoamidblkaaaCR
import Derived.Test.YtlbdoamidblkaaaSC
set_option linter.unusedVariables false
set_option linter.unusedSimpArgs false
namespace Go.Proofs.Ytlbdoamidblkaaa
open Go.ChangeShapes Go.WideShapes Go.ChangeAt Go.RowKit Av
set_option maxRecDepth 100000 in
theorem fnExactWorldShown_lifted (os : Os) (started : os.Started) (H : Type) (enc : TypeId × Value → H) :
    ReturnsInHanded {} Try.checked os 4 .any (Rows.fnExactWorldShownSpec.pre6 enc Try.prog Try.f4 Rows.fnExactWorldShownRow.domain false) (Rows.fnExactWorldShownSpec.post enc Try.prog Try.f4 false true false false) := by
  refine returnsInHanded_of_change (C := Try.checked) own0 started (by kernel_rfl) Try.func4
    (ChangeSpec.witness6 (enc := enc) (C := Try.checked) false ⟨#[], #[.agg #[.int .i64 0, .slice none 0 0, .slice none 0 0, .int .i64 0], .agg #[.slice none 0 0, .slice none 0 0]], []⟩ 8 (by kernel_rfl) (by kernel_rfl) (by kernel_rfl) (by kernel_rfl)) ?_
  intro W base args ds gs before hval0 hW0 hcnd _
  have hval : ∀ (j : Nat) t v, Try.f4.params[j]? = some t → args[j]? = some v → Value.okWide Try.prog W .any base t v := hval0
  have hW : DataW.Whole enc Try.prog Try.f4.params.toList Rows.fnExactWorldShownSpec.vars false W args.toList ds gs before := hW0
  have hW' := hW
  obtain ⟨p, q, hA, hV, rfl, hfz, hnd⟩ := hW
  have hA2 := hA
  rw [Try.params4] at hA2 hval
  obtain ⟨v0, v1, d0, d1, p0, p1, rfl, rfl, rfl, h0, h1⟩ := trodAll_two hA2
  obtain ⟨rfl, rfl⟩ := trodVars_none hV
  obtain ⟨l, hr, hq⟩ := arg_struct (F := woF) Try.underlying44 rd_Wo (hval 0 _ v0 rfl rfl) h0
  obtain ⟨m, hs, hm⟩ := arg_struct (F := ceF) Try.underlying48 rd_Ce (hval 1 _ v1 rfl rfl) h1
  exact row_yes (S := S_laws_FnExactWorldShown) (g := n_laws_FnExactWorldShown) (xs := [agg (woF l), agg (ceF m)]) laid0 hW' rfl rfl (by rw [Try.params4]; decide +kernel) (by kernel_rfl) Try.underlying4 v_laws_FnExactWorldShown ⟨(l, m), rfl, hq.big.1, hq.big.2, hm.big⟩ (by decide) rfl (.cons' hr (.cons' hs .nil')) (fun r hr => by
    rcases K_laws_FnExactWorldShown (a := (l, m)) hr with ⟨_, h⟩ | ⟨h, _⟩
    · exact h
    · exact absurd True.intro h)
theorem fnExactWorldShown_holds : Rows.FnExactWorldShownSaid :=
  OpenClaim.holds_of_wide 4 Try.f4 rfl rfl rfl rfl rfl rfl rfl ⟨rfl, rfl, rfl, rfl, rfl⟩ rfl rfl rfl rfl rfl (by kernel_rfl) Try.func4 (by kernel_rfl)
    (of_decide_eq_true (by kernel_rfl)) (by unfold Func.isWrapper; first | (rw [if_pos (by decide +kernel)]; kernel_rfl) | (rw [if_neg (by decide +kernel)]; exact ⟨rfl, rfl⟩))
    (fun os started H enc _ => fnExactWorldShown_lifted os started H enc)
end Go.Proofs.Ytlbdoamidblkaaa
