/- The numbers of the functions in this translation. -/
import Derived.Test.YtfijfccgghhkoaaD0
namespace Go.Proofs.Ytfijfccgghhkoaa
namespace Av
abbrev n_laws_FnExactWorldNew : Nat := 8
abbrev n_spec_NodeNew : Nat := 21
abbrev n_spec_WorldNew : Nat := 35
abbrev n_impl_WorldNew : Nat := 36
abbrev n_laws_eqWorld : Nat := 40
abbrev n_laws_markWorld : Nat := 41
abbrev n_laws_heldWorld : Nat := 42
abbrev n_spec_l6In : Nat := 55
abbrev n_impl_within : Nat := 61
abbrev n_laws_eqNodeS : Nat := 81
abbrev n_laws_eqVoteS : Nat := 82
abbrev n_laws_markNodeS : Nat := 83
abbrev n_laws_markVoteS : Nat := 84
abbrev n_laws_heldNodeS : Nat := 85
abbrev n_laws_heldVoteS : Nat := 86
abbrev n_laws_eqNode : Nat := 112
abbrev n_laws_eqVote : Nat := 113
abbrev n_laws_markItemS : Nat := 114
abbrev n_laws_heldItemS : Nat := 115
abbrev n_laws_eqItemS : Nat := 137
abbrev n_laws_eqItem : Nat := 156
abbrev n_laws_eqPay : Nat := 161
abbrev ty_impl_Node : Nat := 25
abbrev ty_impl_Vote : Nat := 32
end Av
end Go.Proofs.Ytfijfccgghhkoaa
