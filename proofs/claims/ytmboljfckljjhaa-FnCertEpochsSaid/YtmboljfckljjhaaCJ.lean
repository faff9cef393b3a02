/- The contract of what is final of a cert, of one's own. -/
import Derived.Test.YtmboljfckljjhaaU0
import Derived.Test.YtmboljfckljjhaaFA
set_option linter.unusedVariables false
set_option linter.unusedSimpArgs false
namespace Go.Proofs.Ytmboljfckljjhaa
namespace Av
open Go.RowKit

theorem ceEnc_inj (l m : Ce) (h : [agg (ceF l)] = [agg (ceF m)]) : l = m := by simpa only [List.cons.injEq, and_true, agg_inj, ceF_inj] using h
noncomputable def S_impl_CertFinal_o : MSpec := mkN (α := Ce) (fun c => [agg (ceF c)]) FitCe (fun c => ownC (certFin c)) 0 (fun c _ => ownC_inh (certFin c)) (fun _ _ _ h => ownC_len h)
theorem K_impl_CertFinal_o {c : Ce} {r : AV} {obs' : List (Option Ob)} (h : S_impl_CertFinal_o.post [agg (ceF c)] [] r obs') : ownC (certFin c) r obs' :=
  mkN_post (R := fun c => ownC (certFin c)) (enc := fun b => [agg (ceF b)]) (a := c) ceEnc_inj h
noncomputable def SO_impl_CertFinal : OSpec := mkO (α := Ce) (fun c => [agg (ceF c)]) FitCe certFin fun _ => rfl
theorem so_impl_CertFinal (c : Ce) : SO_impl_CertFinal.ob [agg (ceF c)] = itO (certFin c) := mkO_ob (enc := fun c => [agg (ceF c)]) (hcl := fun _ => rfl) ceEnc_inj c
end Av
end Go.Proofs.Ytmboljfckljjhaa
