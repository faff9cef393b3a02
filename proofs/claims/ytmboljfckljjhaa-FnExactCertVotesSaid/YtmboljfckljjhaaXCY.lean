/- FnExactCertVotes holds: for every argument the law says yes, and the argument reads as it did. No further conditions. -/
import Derived.Test.YtmboljfckljjhaaCR
import Derived.Test.YtmboljfckljjhaaCY
set_option linter.unusedVariables false
set_option linter.unusedSimpArgs false
namespace Go.Proofs.Ytmboljfckljjhaa
open Go.ChangeShapes Go.WideShapes Go.ChangeAt Go.RowKit Av

set_option maxRecDepth 100000 in
theorem fnExactCertVotes_lifted (os : Os) (started : os.Started) (H : Type) (enc : TypeId × Value → H) :
    ReturnsInHanded {} Try.checked os 10 .any (Rows.fnExactCertVotesSpec.pre6 enc Try.prog Try.f10 Rows.fnExactCertVotesRow.domain false) (Rows.fnExactCertVotesSpec.post enc Try.prog Try.f10 false true false false) := by
  refine returnsInHanded_of_change (C := Try.checked) own0 started (by kernel_rfl) Try.func10
    (ChangeSpec.witness6 (enc := enc) (C := Try.checked) false ⟨#[], #[.agg #[.slice none 0 0, .slice none 0 0]], []⟩ 8 (by kernel_rfl) (by kernel_rfl) (by kernel_rfl) (by kernel_rfl)) ?_
  intro W base args ds gs before hval0 hW0 hcnd _
  have hval : ∀ (j : Nat) t v, Try.f10.params[j]? = some t → args[j]? = some v → Value.okWide Try.prog W .any base t v := hval0
  have hW : DataW.Whole enc Try.prog Try.f10.params.toList Rows.fnExactCertVotesSpec.vars false W args.toList ds gs before := hW0
  have hW' := hW
  obtain ⟨p, q, hA, hV, rfl, hfz, hnd⟩ := hW
  have hA2 := hA
  rw [Try.params10] at hA2 hval
  obtain ⟨v0, d0, rfl, rfl, h0⟩ := trodAll_one hA2
  obtain ⟨rfl, rfl⟩ := trodVars_none hV
  obtain ⟨l, hr, hq⟩ := arg_struct (F := ceF) Try.underlying38 rd_Ce (hval 0 _ v0 rfl rfl) h0
  exact row_yes (S := S_laws_FnExactCertVotes) (g := n_laws_FnExactCertVotes) (xs := [agg (ceF l)]) laid0 hW' rfl rfl (by rw [Try.params10]; decide +kernel) (by kernel_rfl) Try.underlying4 v_laws_FnExactCertVotes ⟨l, rfl, hq.big⟩ (by decide) rfl (.cons' hr .nil') (fun r hr => by
    rcases K_laws_FnExactCertVotes (a := l) hr with ⟨_, h⟩ | ⟨h, _⟩
    · exact h
    · exact absurd True.intro h)

theorem fnExactCertVotes_holds : Rows.FnExactCertVotesSaid :=
  OpenClaim.holds_of_wide 10 Try.f10 rfl rfl rfl rfl rfl rfl rfl ⟨rfl, rfl, rfl, rfl, rfl⟩ rfl rfl rfl rfl rfl (by kernel_rfl) Try.func10 (by kernel_rfl)
    (of_decide_eq_true (by kernel_rfl)) (by unfold Func.isWrapper; first | (rw [if_pos (by decide +kernel)]; kernel_rfl) | (rw [if_neg (by decide +kernel)]; exact ⟨rfl, rfl⟩))
    (fun os started H enc _ => fnExactCertVotes_lifted os started H enc)
end Go.Proofs.Ytmboljfckljjhaa
