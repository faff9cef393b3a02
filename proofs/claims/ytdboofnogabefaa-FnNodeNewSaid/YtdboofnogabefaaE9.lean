/- The functions' code in the small language, and that it is theirs. -/
import Derived.Test.YtdboofnogabefaaJ9
import Derived.Test.YtdboofnogabefaaD1
import Derived.Test.YtdboofnogabefaaProg
import Derived.KernelRfl
set_option linter.unusedVariables false
namespace Go.Proofs.Ytdboofnogabefaa
namespace Av
noncomputable def c_laws_lwSame : FC := { n := 26, res := [⟨none, 4, []⟩], body :=
 (.seq
 (.rg [⟨some 4, none, .mv (.k (.bool false))⟩])
 (.seq
 (.seq
 (.rg [⟨some 6, none, .mv (.t 0)⟩,
   ⟨some 7, none, .len (.t 6)⟩,
   ⟨some 8, none, .mv (.t 1)⟩,
   ⟨some 9, none, .len (.t 8)⟩,
   ⟨some 10, none, .bin 0 .neq (.t 7) (.t 9)⟩])
 (.cond (.t 10)
 (.seq
 (.rg [⟨some 4, none, .mv (.k (.bool false))⟩])
 .ret)
 .skip))
 (.seq
 (.seq
 (.rg [⟨some 5, none, .mv (.k (.int .i64 0))⟩])
 (.block 0
 (.loop
 (.seq
 (.seq
 (.rg [⟨some 11, none, .mv (.t 5)⟩,
   ⟨some 12, none, .mv (.t 0)⟩,
   ⟨some 13, none, .len (.t 12)⟩,
   ⟨some 14, none, .bin 0 .lss (.t 11) (.t 13)⟩])
 (.cond (.t 14)
 .skip
 (.exit 0)))
 (.seq
 (.block 1
 (.seq
 (.rg [⟨some 17, none, .mv (.t 0)⟩,
   ⟨some 18, none, .mv (.t 5)⟩,
   ⟨some 19, none, .idx 4 (.t 17) (.t 18)⟩,
   ⟨some 20, none, .load (some 4) (.t 19)⟩,
   ⟨some 21, none, .mv (.t 1)⟩,
   ⟨some 22, none, .mv (.t 5)⟩,
   ⟨some 23, none, .idx 4 (.t 21) (.t 22)⟩,
   ⟨some 24, none, .load (some 4) (.t 23)⟩,
   ⟨some 25, none, .eqs true 54 4 (.t 20) (.t 24)⟩])
 (.cond (.t 25)
 (.seq
 (.rg [⟨some 4, none, .mv (.k (.bool false))⟩])
 .ret)
 .skip)))
 (.rg [⟨some 15, none, .mv (.t 5)⟩,
   ⟨some 16, none, .bin 0 .add (.t 15) (.k (.int .i64 1))⟩,
   ⟨some 5, none, .mv (.t 16)⟩]))))))
 (.seq
 (.rg [⟨some 4, none, .mv (.k (.bool true))⟩])
 .ret)))) }
theorem is_laws_lwSame : IsF Try.prog n_laws_lwSame c_laws_lwSame := ⟨Try.f20, _, Try.func20, rfl, by decide, rfl, by kernel_rfl, by kernel_rfl⟩
noncomputable def c_laws_lwVote : FC := { n := 17, res := [⟨none, 4, []⟩], body :=
 (.seq
 (.rg [⟨some 2, none, .box (.t 0)⟩,
   ⟨some 3, none, .box (.t 1)⟩,
   ⟨some 4, none, .mv (.k (.bool false))⟩])
 (.seq
 (.rg [⟨some 5, none, .fld 0 (.t 2)⟩,
   ⟨some 6, none, .load none (.t 5)⟩,
   ⟨some 7, none, .fld 0 (.t 3)⟩,
   ⟨some 8, none, .load none (.t 7)⟩,
   ⟨some 9, none, .bin 0 .eql (.t 6) (.t 8)⟩,
   ⟨some 10, none, .mv (.t 9)⟩,
   ⟨some 11, some (10, true), .fld 1 (.t 2)⟩,
   ⟨some 12, some (10, true), .load none (.t 11)⟩,
   ⟨some 13, some (10, true), .fld 1 (.t 3)⟩,
   ⟨some 14, some (10, true), .load none (.t 13)⟩,
   ⟨some 15, some (10, true), .call n_laws_lwSame S_laws_lwSame [(.t 12, [some 4]), (.t 14, [some 4])]⟩,
   ⟨some 16, none, .pick (.t 10) (.t 15) (.k (.bool false))⟩,
   ⟨some 4, none, .mv (.t 16)⟩])
 .ret)) }
theorem is_laws_lwVote : IsF Try.prog n_laws_lwVote c_laws_lwVote := ⟨Try.f104, _, Try.func104, rfl, by decide, rfl, by kernel_rfl, by kernel_rfl⟩
noncomputable def c_laws_lwVotes : FC := { n := 27, res := [⟨none, 4, []⟩], body :=
 (.seq
 (.rg [⟨some 4, none, .mv (.k (.bool false))⟩])
 (.seq
 (.seq
 (.rg [⟨some 6, none, .mv (.t 0)⟩,
   ⟨some 7, none, .len (.t 6)⟩,
   ⟨some 8, none, .mv (.t 1)⟩,
   ⟨some 9, none, .len (.t 8)⟩,
   ⟨some 10, none, .bin 0 .neq (.t 7) (.t 9)⟩])
 (.cond (.t 10)
 (.seq
 (.rg [⟨some 4, none, .mv (.k (.bool false))⟩])
 .ret)
 .skip))
 (.seq
 (.seq
 (.rg [⟨some 5, none, .mv (.k (.int .i64 0))⟩])
 (.block 0
 (.loop
 (.seq
 (.seq
 (.rg [⟨some 11, none, .mv (.t 5)⟩,
   ⟨some 12, none, .mv (.t 0)⟩,
   ⟨some 13, none, .len (.t 12)⟩,
   ⟨some 14, none, .bin 0 .lss (.t 11) (.t 13)⟩])
 (.cond (.t 14)
 .skip
 (.exit 0)))
 (.seq
 (.block 1
 (.seq
 (.rg [⟨some 17, none, .mv (.t 0)⟩,
   ⟨some 18, none, .mv (.t 5)⟩,
   ⟨some 19, none, .idx 2 (.t 17) (.t 18)⟩,
   ⟨some 20, none, .load (some 2) (.t 19)⟩,
   ⟨some 21, none, .mv (.t 1)⟩,
   ⟨some 22, none, .mv (.t 5)⟩,
   ⟨some 23, none, .idx 2 (.t 21) (.t 22)⟩,
   ⟨some 24, none, .load (some 2) (.t 23)⟩,
   ⟨some 25, none, .call n_laws_lwVote S_laws_lwVote [(.t 20, [none, some 4]), (.t 24, [none, some 4])]⟩,
   ⟨some 26, none, .un .not (.t 25)⟩])
 (.cond (.t 26)
 (.seq
 (.rg [⟨some 4, none, .mv (.k (.bool false))⟩])
 .ret)
 .skip)))
 (.rg [⟨some 15, none, .mv (.t 5)⟩,
   ⟨some 16, none, .bin 0 .add (.t 15) (.k (.int .i64 1))⟩,
   ⟨some 5, none, .mv (.t 16)⟩]))))))
 (.seq
 (.rg [⟨some 4, none, .mv (.k (.bool true))⟩])
 .ret)))) }
theorem is_laws_lwVotes : IsF Try.prog n_laws_lwVotes c_laws_lwVotes := ⟨Try.f57, _, Try.func57, rfl, by decide, rfl, by kernel_rfl, by kernel_rfl⟩
noncomputable def c_laws_lwInts : FC := { n := 26, res := [⟨none, 4, []⟩], body :=
 (.seq
 (.rg [⟨some 4, none, .mv (.k (.bool false))⟩])
 (.seq
 (.seq
 (.rg [⟨some 6, none, .mv (.t 0)⟩,
   ⟨some 7, none, .len (.t 6)⟩,
   ⟨some 8, none, .mv (.t 1)⟩,
   ⟨some 9, none, .len (.t 8)⟩,
   ⟨some 10, none, .bin 0 .neq (.t 7) (.t 9)⟩])
 (.cond (.t 10)
 (.seq
 (.rg [⟨some 4, none, .mv (.k (.bool false))⟩])
 .ret)
 .skip))
 (.seq
 (.seq
 (.rg [⟨some 5, none, .mv (.k (.int .i64 0))⟩])
 (.block 0
 (.loop
 (.seq
 (.seq
 (.rg [⟨some 11, none, .mv (.t 5)⟩,
   ⟨some 12, none, .mv (.t 0)⟩,
   ⟨some 13, none, .len (.t 12)⟩,
   ⟨some 14, none, .bin 0 .lss (.t 11) (.t 13)⟩])
 (.cond (.t 14)
 .skip
 (.exit 0)))
 (.seq
 (.block 1
 (.seq
 (.rg [⟨some 17, none, .mv (.t 0)⟩,
   ⟨some 18, none, .mv (.t 5)⟩,
   ⟨some 19, none, .idx 1 (.t 17) (.t 18)⟩,
   ⟨some 20, none, .load none (.t 19)⟩,
   ⟨some 21, none, .mv (.t 1)⟩,
   ⟨some 22, none, .mv (.t 5)⟩,
   ⟨some 23, none, .idx 1 (.t 21) (.t 22)⟩,
   ⟨some 24, none, .load none (.t 23)⟩,
   ⟨some 25, none, .bin 0 .neq (.t 20) (.t 24)⟩])
 (.cond (.t 25)
 (.seq
 (.rg [⟨some 4, none, .mv (.k (.bool false))⟩])
 .ret)
 .skip)))
 (.rg [⟨some 15, none, .mv (.t 5)⟩,
   ⟨some 16, none, .bin 0 .add (.t 15) (.k (.int .i64 1))⟩,
   ⟨some 5, none, .mv (.t 16)⟩]))))))
 (.seq
 (.rg [⟨some 4, none, .mv (.k (.bool true))⟩])
 .ret)))) }
theorem is_laws_lwInts : IsF Try.prog n_laws_lwInts c_laws_lwInts := ⟨Try.f15, _, Try.func15, rfl, by decide, rfl, by kernel_rfl, by kernel_rfl⟩
noncomputable def c_impl_Vote_copied : FC := { n := 9, res := [⟨some (some 2), 2, [none, some 4]⟩], body :=
 (.seq
 (.rg [⟨some 1, none, .box (.t 0)⟩,
   ⟨some 2, none, .alloc [.int .i64 0, .slice none 0 0]⟩])
 (.seq
 (.rg [⟨some 3, none, .fld 0 (.t 1)⟩,
   ⟨some 4, none, .load none (.t 3)⟩,
   ⟨some 5, none, .fld 1 (.t 1)⟩,
   ⟨some 6, none, .load none (.t 5)⟩,
   ⟨some 7, none, .call n_impl_copied S_impl_copied [(.t 6, [some 4])]⟩,
   ⟨some 8, none, .build [.int .i64 0, .slice none 0 0] [(0, 1, .t 4), (1, 1, .t 7)]⟩,
   ⟨none, none, .store 2 (.t 2) (.t 8)⟩])
 .ret)) }
theorem is_impl_Vote_copied : IsF Try.prog n_impl_Vote_copied c_impl_Vote_copied := ⟨Try.f139, _, Try.func139, rfl, by decide, rfl, by kernel_rfl, by kernel_rfl⟩
noncomputable def c_impl_votes_copied : FC := { n := 22, res := [⟨none, 2, [some 2]⟩], body :=
 (.seq
 (.rg [⟨some 2, none, .mv (.k (.slice none 0 0))⟩])
 (.seq
 (.rg [⟨some 6, none, .mv (.t 0)⟩,
   ⟨some 7, none, .len (.t 6)⟩,
   ⟨some 8, none, .mksl 32 2 32 [.int .i64 0, .slice none 0 0] (.k (.int .i64 0)) (.t 7)⟩,
   ⟨some 3, none, .mv (.t 8)⟩])
 (.seq
 (.seq
 (.rg [⟨some 9, none, .mv (.t 0)⟩,
   ⟨some 10, none, .len (.t 9)⟩,
   ⟨some 11, none, .mv (.k (.int .i64 0))⟩])
 (.block 0
 (.loop
 (.seq
 (.rg [⟨some 12, none, .bin 0 .lss (.t 11) (.t 10)⟩])
 (.seq
 (.cond (.t 12)
 .skip
 (.exit 0))
 (.seq
 (.block 1
 (.seq
 (.rg [⟨some 13, none, .idx 2 (.t 9) (.t 11)⟩,
   ⟨some 14, none, .load (some 2) (.t 13)⟩,
   ⟨some 5, none, .alloc [.int .i64 0, .slice none 0 0]⟩,
   ⟨none, none, .store 2 (.t 5) (.t 14)⟩])
 (.rg [⟨some 15, none, .mv (.t 3)⟩,
   ⟨some 16, none, .load (some 2) (.t 5)⟩,
   ⟨some 17, none, .call n_impl_Vote_copied S_impl_Vote_copied [(.t 16, [none, some 4])]⟩,
   ⟨some 18, none, .bsl 32 2 [.t 17]⟩,
   ⟨some 19, none, .app 32 2 32 [.int .i64 0, .slice none 0 0] (.t 15) (.t 18)⟩,
   ⟨some 3, none, .mv (.t 19)⟩])))
 (.rg [⟨some 20, none, .bin 0 .add (.t 11) (.k (.int .i64 1))⟩,
   ⟨some 11, none, .mv (.t 20)⟩])))))))
 (.seq
 (.rg [⟨some 21, none, .mv (.t 3)⟩,
   ⟨some 2, none, .mv (.t 21)⟩])
 .ret)))) }
theorem is_impl_votes_copied : IsF Try.prog n_impl_votes_copied c_impl_votes_copied := ⟨Try.f105, _, Try.func105, rfl, by decide, rfl, by kernel_rfl, by kernel_rfl⟩
noncomputable def c_slices_Clip_VoteS : FC := { n := 9, res := [⟨none, 2, [some 2]⟩], body :=
 (.seq
 (.rg [⟨some 2, none, .mv (.k (.slice none 0 0))⟩])
 (.seq
 (.frz 0 (.rg [⟨some 3, none, .mv (.t 0)⟩,
   ⟨some 4, none, .mv (.t 0)⟩,
   ⟨some 5, none, .len (.t 4)⟩,
   ⟨some 6, none, .mv (.t 0)⟩,
   ⟨some 7, none, .len (.t 6)⟩,
   ⟨some 8, none, .slc 2 (.t 3) none (some (.t 5)) (some (.t 7))⟩,
   ⟨some 2, none, .mv (.t 8)⟩]))
 .ret)) }
theorem is_slices_Clip_VoteS : IsF Try.prog n_slices_Clip_VoteS c_slices_Clip_VoteS := ⟨Try.f156, _, Try.func156, rfl, by decide, rfl, by kernel_rfl, by kernel_rfl⟩
noncomputable def c_slices_Clone_VoteS : FC := { n := 8, res := [⟨none, 2, [some 2]⟩], body :=
 (.seq
 (.rg [⟨some 2, none, .mv (.k (.slice none 0 0))⟩])
 (.seq
 (.seq
 (.rg [⟨some 3, none, .mv (.t 0)⟩,
   ⟨some 4, none, .bin 3 .eql (.t 3) (.k (.slice none 0 0))⟩])
 (.cond (.t 4)
 (.seq
 (.rg [⟨some 2, none, .mv (.k (.slice none 0 0))⟩])
 .ret)
 .skip))
 (.seq
 (.rg [⟨some 5, none, .bsl 32 2 []⟩,
   ⟨some 6, none, .mv (.t 0)⟩,
   ⟨some 7, none, .app 32 2 32 [.int .i64 0, .slice none 0 0] (.t 5) (.t 6)⟩,
   ⟨some 2, none, .mv (.t 7)⟩])
 .ret))) }
theorem is_slices_Clone_VoteS : IsF Try.prog n_slices_Clone_VoteS c_slices_Clone_VoteS := ⟨Try.f157, _, Try.func157, rfl, by decide, rfl, by kernel_rfl, by kernel_rfl⟩
noncomputable def c_impl_votes_with : FC := { n := 12, res := [⟨none, 4, [some 2]⟩], body :=
 (.seq
 (.rg [⟨some 3, none, .box (.t 1)⟩,
   ⟨some 4, none, .mv (.k (.slice none 0 0))⟩])
 (.seq
 (.rg [⟨some 5, none, .mv (.t 0)⟩,
   ⟨some 6, none, .callm n_slices_Clone_VoteS S_slices_Clone_VoteS [(.t 5, [some 2])]⟩,
   ⟨some 7, none, .load (some 2) (.t 3)⟩,
   ⟨some 8, none, .call n_impl_Vote_copied S_impl_Vote_copied [(.t 7, [none, some 4])]⟩,
   ⟨some 9, none, .bsl 32 2 [.t 8]⟩,
   ⟨some 10, none, .app 32 2 32 [.int .i64 0, .slice none 0 0] (.t 6) (.t 9)⟩,
   ⟨some 11, none, .callm n_slices_Clip_VoteS S_slices_Clip_VoteS [(.t 10, [some 2])]⟩,
   ⟨some 4, none, .mv (.t 11)⟩])
 .ret)) }
theorem is_impl_votes_with : IsF Try.prog n_impl_votes_with c_impl_votes_with := ⟨Try.f137, _, Try.func137, rfl, by decide, rfl, by kernel_rfl, by kernel_rfl⟩
end Av
end Go.Proofs.Ytdboofnogabefaa
