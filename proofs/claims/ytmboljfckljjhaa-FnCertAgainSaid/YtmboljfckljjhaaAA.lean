/- What the law FnCertAgain needs of contracts: a cert's votes, to be appended to. -/
import Derived.Test.YtmboljfckljjhaaFA
import Derived.Test.YtmboljfckljjhaaU0
import Derived.Test.YtmboljfckljjhaaQ4
set_option linter.unusedVariables false
set_option linter.unusedSimpArgs false
namespace Go.Proofs.Ytmboljfckljjhaa
namespace Av
open Go.RowKit

def S_slices_Clip_VoteS_f : MSpec := mkM (α := List Vo) (fun _ => [ow0]) (fun l => [voO l]) (fun _ => True) (fun l r obs' => r = .w (.o (.ow 1)) ∧ obs' = [none, some (voO l)]) 0
  (fun l _ => ⟨_, _, ⟨rfl, rfl⟩, okw (by simp), ok_nw (arA_ok _)⟩) (fun l r obs' ⟨_, h⟩ => by rw [h]; simp)
theorem K_slices_Clip_VoteS_f {l : List Vo} {r : AV} {obs' : List (Option Ob)} (h : S_slices_Clip_VoteS_f.post [ow0] [voO l] r obs') : r = .w (.o (.ow 1)) ∧ obs' = [none, some (voO l)] :=
  mkM_post (enc := fun _ : List Vo => [ow0]) (ob := fun l => [voO l]) (fun _ _ _ h => voO_inj h) h
noncomputable def S_impl_CertVotes_f : MSpec := mkN (α := Ce) (fun c => [agg (ceF c)]) FitCe (fun c r obs' => (r = .w (.o .e0) ∧ obs' = [] ∧ ¬ CertOk c) ∨ (r = ow0 ∧ obs' = [some (voO (certVotes c))] ∧ CertOk c)) 0
  (fun c _ => by
    by_cases h : CertOk c
    · exact ⟨_, _, .inr ⟨rfl, rfl, h⟩, okw Nat.one_pos, ok_sg (arA_ok _)⟩
    · exact ⟨_, _, .inl ⟨rfl, rfl, h⟩, trivial, fun j o h => by simp at h⟩)
  (fun c r obs' h => by rcases h with ⟨_, h, _⟩ | ⟨_, h, _⟩ <;> rw [h] <;> simp)
theorem K_impl_CertVotes_f {c : Ce} {r : AV} {obs' : List (Option Ob)} (h : S_impl_CertVotes_f.post [agg (ceF c)] [] r obs') : (r = .w (.o .e0) ∧ obs' = [] ∧ ¬ CertOk c) ∨ (r = ow0 ∧ obs' = [some (voO (certVotes c))] ∧ CertOk c) :=
  mkN_post (R := fun c r obs' => (r = .w (.o .e0) ∧ obs' = [] ∧ ¬ CertOk c) ∨ (r = ow0 ∧ obs' = [some (voO (certVotes c))] ∧ CertOk c)) (enc := fun b : Ce => [agg (ceF b)]) (a := c) (fun _ _ h => by simpa only [List.cons.injEq, and_true, agg_inj, ceF_inj] using h) h
end Av
end Go.Proofs.Ytmboljfckljjhaa
