/- Texts of the layer, joined. -/
import Derived.Test.YtdboofnogabefaaNE
import Derived.Test.YtdboofnogabefaaZA
import Derived.Test.YtdboofnogabefaaD1
import Derived.Test.YtdboofnogabefaaProg
import Derived.KernelRfl
set_option linter.unusedVariables false
set_option linter.unusedSimpArgs false
namespace Go.Proofs.Ytdboofnogabefaa
namespace Av
open Go.RowKit
def nC : Nest (List It) where
  β := It
  T := ty_Simpl_Item
  sz := 1
  pp _ := []
  inn c := c
  T1 := ty_impl_Item
  s1 := 4
  F1 := itF
  ext _ _ _ h := arA_inj (fun _ _ h => itF_inj.1 h) h
abbrev S_slices_Clip_ISS_o : MSpec := S_nclip nC
noncomputable abbrev S_impl_votes_all_o : MSpec := S_nestV nC allS allS_len
noncomputable def SO_impl_votes_tip : OSpec := { mkO (α := List Vo) (fun l => [one (vsF l)]) (fun l => FitVs l ∧ l.length ≤ SM) tip (fun _ => rfl) with fl := false, hfl := fun h => by cases h }
theorem so_impl_votes_tip (l : List Vo) : SO_impl_votes_tip.ob [one (vsF l)] = itO (tip l) := mkO_ob (p := fun l => FitVs l ∧ l.length ≤ SM) (enc := fun l => [one (vsF l)]) (hcl := fun _ => rfl) vsEnc_inj l
end Av
end Go.Proofs.Ytdboofnogabefaa

namespace Go.Proofs.Ytdboofnogabefaa
namespace Av
open Go.RowKit
end Av
end Go.Proofs.Ytdboofnogabefaa

namespace Go.Proofs.Ytdboofnogabefaa
namespace Av
noncomputable def c_impl_Node_propose : FC := { n := 41, res := [⟨some (some 4), 4, [none, none, none, some 2]⟩, ⟨some (some 2), 5, [none, some 4]⟩, ⟨none, 6, []⟩], body :=
 (.seq
 (.rg [⟨some 2, none, .box (.t 0)⟩,
   ⟨some 3, none, .box (.t 1)⟩,
   ⟨some 4, none, .alloc [.int .i64 0, .int .i64 0, .int .i64 0, .slice none 0 0]⟩,
   ⟨some 5, none, .alloc [.int .i64 0, .slice none 0 0]⟩,
   ⟨some 6, none, .mv (.k (.bool false))⟩])
 (.seq
 (.rg [⟨some 8, none, .fld 3 (.t 2)⟩,
   ⟨some 9, none, .load none (.t 8)⟩,
   ⟨some 10, none, .callo n_impl_votes_tip SO_impl_votes_tip [(.t 9, [some 2])]⟩,
   ⟨some 11, none, .fld 1 (.t 2)⟩,
   ⟨some 12, none, .load none (.t 11)⟩,
   ⟨some 13, none, .load (some 3) (.t 3)⟩,
   ⟨some 14, none, .build [.int .i64 0, .int .i64 0, .int .i64 0, .int .i64 0] [(0, 1, .t 12), (1, 3, .t 13)]⟩,
   ⟨some 15, none, .bsl 54 4 [.t 14]⟩,
   ⟨some 16, none, .app 54 4 32 [.int .i64 0, .int .i64 0, .int .i64 0, .int .i64 0] (.t 10) (.t 15)⟩,
   ⟨some 7, none, .mv (.t 16)⟩])
 (.seq
 (.seq
 (.frz 7 (.rg [⟨some 17, none, .load (some 4) (.t 2)⟩,
   ⟨some 18, none, .call n_impl_Node_may S_impl_Node_may [(.t 17, [none, none, none, some 2])]⟩,
   ⟨some 19, none, .un .not (.t 18)⟩,
   ⟨some 20, none, .mv (.t 19)⟩,
   ⟨some 21, some (20, false), .fld 1 (.t 2)⟩,
   ⟨some 22, some (20, false), .load none (.t 21)⟩,
   ⟨some 23, some (20, false), .call n_impl_VoteLeader S_impl_VoteLeader [(.t 22, [])]⟩,
   ⟨some 24, some (20, false), .fld 0 (.t 2)⟩,
   ⟨some 25, some (20, false), .load none (.t 24)⟩,
   ⟨some 26, some (20, false), .bin 0 .neq (.t 23) (.t 25)⟩,
   ⟨some 27, none, .pick (.t 20) (.k (.bool true)) (.t 26)⟩,
   ⟨some 28, none, .mv (.t 27)⟩,
   ⟨some 29, some (28, false), .mv (.t 7)⟩,
   ⟨some 30, some (28, false), .call n_impl_ChainOk S_impl_ChainOk [(.t 29, [some 4])]⟩,
   ⟨some 31, some (28, false), .un .not (.t 30)⟩,
   ⟨some 32, none, .pick (.t 28) (.k (.bool true)) (.t 31)⟩]))
 (.cond (.t 32)
 (.seq
 (.rg [⟨some 33, none, .load (some 4) (.t 2)⟩,
   ⟨some 34, none, .build [.int .i64 0, .slice none 0 0] []⟩,
   ⟨none, none, .store 4 (.t 4) (.t 33)⟩,
   ⟨none, none, .store 2 (.t 5) (.t 34)⟩,
   ⟨some 6, none, .mv (.k (.bool false))⟩])
 .ret)
 .skip))
 (.seq
 (.rg [⟨some 35, none, .load (some 4) (.t 2)⟩,
   ⟨some 36, none, .mv (.t 7)⟩,
   ⟨some 37, none, .call n_impl_Node_vote S_impl_Node_vote [(.t 35, [none, none, none, some 2]), (.t 36, [some 4])]⟩,
   ⟨some 38, none, .ext (.t 37) 0⟩,
   ⟨some 39, none, .ext (.t 37) 1⟩,
   ⟨some 40, none, .ext (.t 37) 2⟩,
   ⟨none, none, .store 4 (.t 4) (.t 38)⟩,
   ⟨none, none, .store 2 (.t 5) (.t 39)⟩,
   ⟨some 6, none, .mv (.t 40)⟩])
 .ret)))) }
theorem is_impl_Node_propose : IsF Try.prog n_impl_Node_propose c_impl_Node_propose := ⟨Try.f60, _, Try.func60, rfl, by decide, rfl, by kernel_rfl, by kernel_rfl⟩
noncomputable def c_impl_NodePropose : FC := { n := 24, res := [⟨some (some 4), 4, [none, none, none, some 2]⟩, ⟨some (some 2), 5, [none, some 4]⟩, ⟨none, 6, []⟩], body :=
 (.seq
 (.rg [⟨some 2, none, .box (.t 0)⟩,
   ⟨some 3, none, .box (.t 1)⟩,
   ⟨some 4, none, .alloc [.int .i64 0, .int .i64 0, .int .i64 0, .slice none 0 0]⟩,
   ⟨some 5, none, .alloc [.int .i64 0, .slice none 0 0]⟩,
   ⟨some 6, none, .mv (.k (.bool false))⟩])
 (.seq
 (.seq
 (.rg [⟨some 7, none, .load (some 4) (.t 2)⟩,
   ⟨some 8, none, .call n_impl_NodeOk S_impl_NodeOk [(.t 7, [none, none, none, some 2])]⟩,
   ⟨some 9, none, .un .not (.t 8)⟩,
   ⟨some 10, none, .mv (.t 9)⟩,
   ⟨some 11, some (10, false), .load (some 3) (.t 3)⟩,
   ⟨some 12, some (10, false), .call n_impl_PayOk S_impl_PayOk [(.t 11, [])]⟩,
   ⟨some 13, some (10, false), .un .not (.t 12)⟩,
   ⟨some 14, none, .pick (.t 10) (.k (.bool true)) (.t 13)⟩])
 (.cond (.t 14)
 (.seq
 (.rg [⟨some 15, none, .build [.int .i64 0, .int .i64 0, .int .i64 0, .slice none 0 0] []⟩,
   ⟨some 16, none, .build [.int .i64 0, .slice none 0 0] []⟩,
   ⟨none, none, .store 4 (.t 4) (.t 15)⟩,
   ⟨none, none, .store 2 (.t 5) (.t 16)⟩,
   ⟨some 6, none, .mv (.k (.bool false))⟩])
 .ret)
 .skip))
 (.seq
 (.rg [⟨some 17, none, .load (some 4) (.t 2)⟩,
   ⟨some 18, none, .call n_impl_Node_copied S_impl_Node_copied [(.t 17, [none, none, none, some 2])]⟩,
   ⟨some 19, none, .load (some 3) (.t 3)⟩,
   ⟨some 20, none, .call n_impl_Node_propose S_impl_Node_propose [(.t 18, [none, none, none, some 2]), (.t 19, [])]⟩,
   ⟨some 21, none, .ext (.t 20) 0⟩,
   ⟨some 22, none, .ext (.t 20) 1⟩,
   ⟨some 23, none, .ext (.t 20) 2⟩,
   ⟨none, none, .store 4 (.t 4) (.t 21)⟩,
   ⟨none, none, .store 2 (.t 5) (.t 22)⟩,
   ⟨some 6, none, .mv (.t 23)⟩])
 .ret))) }
theorem is_impl_NodePropose : IsF Try.prog n_impl_NodePropose c_impl_NodePropose := ⟨Try.f13, _, Try.func13, rfl, by decide, rfl, by kernel_rfl, by kernel_rfl⟩
end Av
end Go.Proofs.Ytdboofnogabefaa

namespace Go.Proofs.Ytdboofnogabefaa
namespace Av
noncomputable def c_slices_Clip_ISS_o : FC := { n := 9, res := [⟨none, 2, [some 1]⟩], body :=
 (.seq
 (.rg [⟨some 2, none, .mv (.k (.slice none 0 0))⟩])
 (.seq
 (.rg [⟨some 3, none, .mv (.t 0)⟩,
   ⟨some 4, none, .mv (.t 0)⟩,
   ⟨some 5, none, .len (.t 4)⟩,
   ⟨some 6, none, .mv (.t 0)⟩,
   ⟨some 7, none, .len (.t 6)⟩,
   ⟨some 8, none, .clip 1 (.t 3) (.t 5) (.t 7)⟩,
   ⟨some 2, none, .mv (.t 8)⟩])
 .ret)) }
theorem is_slices_Clip_ISS_o : IsF Try.prog n_slices_Clip_ISS_o c_slices_Clip_ISS_o := ⟨Try.f152, _, Try.func152, rfl, by decide, rfl, by kernel_rfl, by kernel_rfl⟩
noncomputable def c_impl_votes_all_o : FC := { n := 35, res := [⟨none, 2, [some 1]⟩], body :=
 (.seq
 (.rg [⟨some 2, none, .mv (.k (.slice none 0 0))⟩])
 (.seq
 (.rg [⟨some 7, none, .bsl 54 4 []⟩,
   ⟨some 8, none, .bsl 30 1 [.t 7]⟩,
   ⟨some 3, none, .mv (.t 8)⟩])
 (.seq
 (.seq
 (.rg [⟨some 9, none, .mv (.t 0)⟩,
   ⟨some 10, none, .len (.t 9)⟩,
   ⟨some 11, none, .mv (.k (.int .i64 0))⟩])
 (.block 0
 (.loop
 (.seq
 (.rg [⟨some 12, none, .bin 0 .lss (.t 11) (.t 10)⟩])
 (.seq
 (.cond (.t 12)
 .skip
 (.exit 0))
 (.seq
 (.block 1
 (.seq
 (.rg [⟨some 13, none, .idx 2 (.t 9) (.t 11)⟩,
   ⟨some 14, none, .load (some 2) (.t 13)⟩,
   ⟨some 5, none, .alloc [.int .i64 0, .slice none 0 0]⟩,
   ⟨none, none, .store 2 (.t 5) (.t 14)⟩])
 (.seq
 (.rg [⟨some 15, none, .mv (.t 3)⟩,
   ⟨some 16, none, .mkfn (.func n_impl_votes_all_1) [] [.t 5]⟩,
   ⟨some 17, none, .call n_slices_ContainsFunc_ISS S_slices_ContainsFunc_ISS [(.t 15, [some 1]), (.t 16, [])]⟩,
   ⟨some 6, none, .mv (.t 17)⟩])
 (.seq
 (.rg [⟨some 18, none, .mv (.t 6)⟩,
   ⟨some 19, none, .un .not (.t 18)⟩,
   ⟨some 20, none, .mv (.t 19)⟩,
   ⟨some 21, some (20, true), .mv (.t 0)⟩,
   ⟨some 22, some (20, true), .fld 1 (.t 5)⟩,
   ⟨some 23, some (20, true), .load none (.t 22)⟩,
   ⟨some 24, some (20, true), .call n_impl_votes_sure S_impl_votes_sure [(.t 21, [some 2]), (.t 23, [some 4])]⟩,
   ⟨some 25, none, .pick (.t 20) (.t 24) (.k (.bool false))⟩])
 (.cond (.t 25)
 (.rg [⟨some 26, none, .mv (.t 3)⟩,
   ⟨some 27, none, .fld 1 (.t 5)⟩,
   ⟨some 28, none, .load none (.t 27)⟩,
   ⟨some 29, none, .callo n_impl_copied SO_impl_copied [(.t 28, [some 4])]⟩,
   ⟨some 30, none, .bsl 30 1 [.t 29]⟩,
   ⟨some 31, none, .app 30 1 24 [.slice none 0 0] (.t 26) (.t 30)⟩,
   ⟨some 3, none, .mv (.t 31)⟩])
 .skip)))))
 (.rg [⟨some 32, none, .bin 0 .add (.t 11) (.k (.int .i64 1))⟩,
   ⟨some 11, none, .mv (.t 32)⟩])))))))
 (.seq
 (.rg [⟨some 33, none, .mv (.t 3)⟩,
   ⟨some 34, none, .callm n_slices_Clip_ISS_o S_slices_Clip_ISS_o [(.t 33, [some 1])]⟩,
   ⟨some 2, none, .mv (.t 34)⟩])
 .ret)))) }
theorem is_impl_votes_all_o : IsF Try.prog n_impl_votes_all_o c_impl_votes_all_o := ⟨Try.f128, _, Try.func128, rfl, by decide, rfl, by kernel_rfl, by kernel_rfl⟩
noncomputable def c_impl_votes_tip_o : FC := { n := 22, res := [⟨none, 2, [some 4]⟩], body :=
 (.seq
 (.rg [⟨some 2, none, .mv (.k (.slice none 0 0))⟩])
 (.seq
 (.rg [⟨some 6, none, .bsl 54 4 []⟩,
   ⟨some 3, none, .mv (.t 6)⟩])
 (.seq
 (.seq
 (.rg [⟨some 7, none, .mv (.t 0)⟩,
   ⟨some 8, none, .callm n_impl_votes_all_o S_impl_votes_all_o [(.t 7, [some 2])]⟩,
   ⟨some 9, none, .len (.t 8)⟩,
   ⟨some 10, none, .mv (.k (.int .i64 0))⟩])
 (.block 0
 (.loop
 (.seq
 (.rg [⟨some 11, none, .bin 0 .lss (.t 10) (.t 9)⟩])
 (.seq
 (.cond (.t 11)
 .skip
 (.exit 0))
 (.seq
 (.block 1
 (.seq
 (.rg [⟨some 12, none, .idx 1 (.t 8) (.t 10)⟩,
   ⟨some 13, none, .load none (.t 12)⟩,
   ⟨some 5, none, .mv (.t 13)⟩])
 (.seq
 (.rg [⟨some 14, none, .mv (.t 5)⟩,
   ⟨some 15, none, .len (.t 14)⟩,
   ⟨some 16, none, .mv (.t 3)⟩,
   ⟨some 17, none, .len (.t 16)⟩,
   ⟨some 18, none, .bin 0 .gtr (.t 15) (.t 17)⟩])
 (.cond (.t 18)
 (.rg [⟨some 19, none, .mv (.t 5)⟩,
   ⟨some 3, none, .mv (.t 19)⟩])
 .skip))))
 (.rg [⟨some 20, none, .bin 0 .add (.t 10) (.k (.int .i64 1))⟩,
   ⟨some 10, none, .mv (.t 20)⟩])))))))
 (.seq
 (.rg [⟨some 21, none, .mv (.t 3)⟩,
   ⟨some 2, none, .mv (.t 21)⟩])
 .ret)))) }
theorem is_impl_votes_tip_o : IsF Try.prog n_impl_votes_tip_o c_impl_votes_tip_o := ⟨Try.f106, _, Try.func106, rfl, by decide, rfl, by kernel_rfl, by kernel_rfl⟩
end Av
end Go.Proofs.Ytdboofnogabefaa

