/- Worlds as they are drawn: what happens in them, in plain words; what keeps them bounded. -/
import Derived.Test.YtdboofnogabefaaZE
import Derived.Test.YtdboofnogabefaaZC
set_option linter.unusedVariables false
set_option linter.unusedSimpArgs false
namespace Go.Proofs.Ytdboofnogabefaa
namespace Av
open Go.RowKit
theorem fitsN_tf {m : Nd} {u : Vo} (h : VotesOk m.seen) : FitsN true m u ↔ FitsN false m u := by
  show (u.n = lead m.ep ∧ lastE u = m.ep ∧ u.c.length - 1 = (tipM m.seen).length ∧ SureM m.seen _) ↔ (u.n = lead m.ep ∧ lastE u = m.ep ∧ u.c.length - 1 = (tip m.seen).length ∧ Sure m.seen _)
  rw [tipM_eq h, sureM_iff h]
theorem tryN_tf {m : Nd} (h : VotesOk m.seen) : tryN true m = tryN false m := by
  unfold tryN; rw [show FitsN true m = FitsN false m from funext fun u => propext (fitsN_tf h)]
theorem hearN_tf {n : Nd} {v : Vo} (h : VotesOk n.seen) : hearN true n v = hearN false n v := by
  by_cases hh : HearsN n v
  · unfold hearN; rw [tb_pos hh]; exact tryN_tf (addV_ok h hh.1)
  · unfold hearN; rw [tb_neg hh]; rfl
/-! ### bounds -/
def NdV (n : Nd) (o : Tri) : Prop := o.1.id = n.id ∧ o.1.ep = n.ep ∧ SeenB o.1.seen ∧ (o.2.2 = true → VoteOk o.2.1) ∧ o.2.1.c.length ≤ 16
theorem NdV.ndb {n : Nd} {o : Tri} (h : NdV n o) (hn : NdB n) : NdB o.1 := ⟨by rw [h.1]; exact hn.1, by rw [h.2.1]; exact hn.2.1, h.2.2.1⟩
end Av
end Go.Proofs.Ytdboofnogabefaa
