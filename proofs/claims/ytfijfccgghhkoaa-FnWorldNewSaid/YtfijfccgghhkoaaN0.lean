/- The numbers of the functions in this translation. -/
import Derived.Test.YtfijfccgghhkoaaD0
namespace Go.Proofs.Ytfijfccgghhkoaa
namespace Av
abbrev n_laws_FnWorldNew : Nat := 7
abbrev n_laws_lwNode : Nat := 12
abbrev n_laws_lwVote : Nat := 13
abbrev n_impl_NodeOk : Nat := 19
abbrev n_spec_NodeNew : Nat := 21
abbrev n_laws_lwSame : Nat := 28
abbrev n_spec_DrawWorldNew : Nat := 34
abbrev n_spec_WorldNew : Nat := 35
abbrev n_impl_WorldNew : Nat := 36
abbrev n_laws_lwWorld : Nat := 37
abbrev n_impl_WorldOk : Nat := 38
abbrev n_impl_WorldOk_s : Nat := 38
abbrev n_laws_lwAgreed : Nat := 39
abbrev n_spec_l6Open : Nat := 43
abbrev n_spec_l6Rd_pick : Nat := 45
abbrev n_impl_PayOk : Nat := 51
abbrev n_laws_lwVotes : Nat := 54
abbrev n_spec_l6In : Nat := 55
abbrev n_impl_epochOk : Nat := 57
abbrev n_impl_VotesOk : Nat := 58
abbrev n_impl_nodeOk : Nat := 60
abbrev n_impl_within : Nat := 61
abbrev n_slices_ContainsFunc_VoteS : Nat := 62
abbrev n_slices_ContainsFunc_VoteS_s : Nat := 62
abbrev n_impl_NodeOk_1 : Nat := 63
abbrev n_impl_Vote_last : Nat := 64
abbrev n_impl_votes_final : Nat := 65
abbrev n_impl_copied : Nat := 70
abbrev n_impl_ChainOk : Nat := 74
abbrev n_impl_WorldOk_1 : Nat := 77
abbrev n_laws_lwFits : Nat := 79
abbrev n_impl_TreeFinal : Nat := 80
abbrev n_impl_VoteOk : Nat := 98
abbrev n_impl_votes_has : Nat := 99
abbrev n_impl_votes_all : Nat := 100
abbrev n_slices_IndexFunc_VoteS : Nat := 101
abbrev n_impl_votes_shown : Nat := 102
abbrev n_impl_final : Nat := 103
abbrev n_slices_Clip_ItemS : Nat := 109
abbrev n_slices_Clone_ItemS : Nat := 110
abbrev n_impl_ChainIn : Nat := 111
abbrev n_slices_ContainsFunc_votes : Nat := 124
abbrev n_impl_Vote_same : Nat := 125
abbrev n_slices_ContainsFunc_ISS : Nat := 126
abbrev n_impl_votes_all_1 : Nat := 127
abbrev n_slices_Equal_ItemS : Nat := 128
abbrev n_impl_votes_sure : Nat := 129
abbrev n_slices_Clip_ISS : Nat := 130
abbrev n_impl_begins : Nat := 136
abbrev n_slices_IndexFunc_votes : Nat := 148
abbrev n_slices_IndexFunc_ISS : Nat := 149
abbrev n_impl_votes_voters : Nat := 150
abbrev ty_impl_Node : Nat := 25
abbrev ty_int : Nat := 3
abbrev ty_Simpl_Item : Nat := 30
abbrev ty_impl_Vote : Nat := 32
end Av
end Go.Proofs.Ytfijfccgghhkoaa
