/- The functions' code in the small language, and that it is theirs. -/
import Derived.Test.YtdboofnogabefaaO0
import Derived.Test.YtdboofnogabefaaD1
import Derived.Test.YtdboofnogabefaaProg
import Derived.KernelRfl
set_option linter.unusedVariables false
namespace Go.Proofs.Ytdboofnogabefaa
namespace Av
noncomputable def c_laws_toItemS_o : FC := { n := 23, res := [⟨none, 2, [some 4]⟩], body :=
 (.seq
 (.rg [⟨some 2, none, .mv (.k (.slice none 0 0))⟩])
 (.seq
 (.rg [⟨some 5, none, .mv (.t 0)⟩,
   ⟨some 6, none, .len (.t 5)⟩,
   ⟨some 7, none, .mksl 54 4 32 [.int .i64 0, .int .i64 0, .int .i64 0, .int .i64 0] (.t 6) (.t 6)⟩,
   ⟨some 3, none, .mv (.t 7)⟩])
 (.seq
 (.seq
 (.rg [⟨some 4, none, .mv (.k (.int .i64 0))⟩])
 (.block 0
 (.loop
 (.seq
 (.seq
 (.rg [⟨some 8, none, .mv (.t 4)⟩,
   ⟨some 9, none, .mv (.t 0)⟩,
   ⟨some 10, none, .len (.t 9)⟩,
   ⟨some 11, none, .bin 0 .lss (.t 8) (.t 10)⟩])
 (.cond (.t 11)
 .skip
 (.exit 0)))
 (.seq
 (.block 1
 (.rg [⟨some 14, none, .mv (.t 3)⟩,
   ⟨some 15, none, .mv (.t 4)⟩,
   ⟨some 16, none, .mv (.t 0)⟩,
   ⟨some 17, none, .mv (.t 4)⟩,
   ⟨some 18, none, .idx 4 (.t 16) (.t 17)⟩,
   ⟨some 19, none, .load (some 4) (.t 18)⟩,
   ⟨some 20, none, .call n_laws_toItem S_laws_toItem [(.t 19, [])]⟩,
   ⟨some 21, none, .idx 4 (.t 14) (.t 15)⟩,
   ⟨none, none, .store 4 (.t 21) (.t 20)⟩]))
 (.rg [⟨some 12, none, .mv (.t 4)⟩,
   ⟨some 13, none, .bin 0 .add (.t 12) (.k (.int .i64 1))⟩,
   ⟨some 4, none, .mv (.t 13)⟩]))))))
 (.seq
 (.rg [⟨some 22, none, .mv (.t 3)⟩,
   ⟨some 2, none, .mv (.t 22)⟩])
 .ret)))) }
theorem is_laws_toItemS_o : IsF Try.prog n_laws_toItemS_o c_laws_toItemS_o := ⟨Try.f102, _, Try.func102, rfl, by decide, rfl, by kernel_rfl, by kernel_rfl⟩
noncomputable def c_laws_toVote_o : FC := { n := 12, res := [⟨some (some 2), 2, [none, some 4]⟩], body :=
 (.seq
 (.rg [⟨some 1, none, .box (.t 0)⟩,
   ⟨some 2, none, .alloc [.int .i64 0, .slice none 0 0]⟩])
 (.seq
 (.rg [⟨some 3, none, .alloc [.int .i64 0, .slice none 0 0]⟩])
 (.seq
 (.rg [⟨some 4, none, .fld 0 (.t 1)⟩,
   ⟨some 5, none, .load none (.t 4)⟩,
   ⟨some 6, none, .fld 0 (.t 3)⟩,
   ⟨none, none, .store 1 (.t 6) (.t 5)⟩])
 (.seq
 (.rg [⟨some 7, none, .fld 1 (.t 1)⟩,
   ⟨some 8, none, .load none (.t 7)⟩,
   ⟨some 9, none, .callm n_laws_toItemS_o S_laws_toItemS_o [(.t 8, [some 4])]⟩,
   ⟨some 10, none, .fld 1 (.t 3)⟩,
   ⟨none, none, .store 1 (.t 10) (.t 9)⟩])
 (.seq
 (.rg [⟨some 11, none, .load (some 2) (.t 3)⟩,
   ⟨none, none, .store 2 (.t 2) (.t 11)⟩])
 .ret))))) }
theorem is_laws_toVote_o : IsF Try.prog n_laws_toVote_o c_laws_toVote_o := ⟨Try.f51, _, Try.func51, rfl, by decide, rfl, by kernel_rfl, by kernel_rfl⟩
noncomputable def c_laws_toVoteS_o : FC := { n := 23, res := [⟨none, 2, [some 2]⟩], body :=
 (.seq
 (.rg [⟨some 2, none, .mv (.k (.slice none 0 0))⟩])
 (.seq
 (.rg [⟨some 5, none, .mv (.t 0)⟩,
   ⟨some 6, none, .len (.t 5)⟩,
   ⟨some 7, none, .mksl 32 2 32 [.int .i64 0, .slice none 0 0] (.t 6) (.t 6)⟩,
   ⟨some 3, none, .mv (.t 7)⟩])
 (.seq
 (.seq
 (.rg [⟨some 4, none, .mv (.k (.int .i64 0))⟩])
 (.block 0
 (.loop
 (.seq
 (.seq
 (.rg [⟨some 8, none, .mv (.t 4)⟩,
   ⟨some 9, none, .mv (.t 0)⟩,
   ⟨some 10, none, .len (.t 9)⟩,
   ⟨some 11, none, .bin 0 .lss (.t 8) (.t 10)⟩])
 (.cond (.t 11)
 .skip
 (.exit 0)))
 (.seq
 (.block 1
 (.rg [⟨some 14, none, .mv (.t 3)⟩,
   ⟨some 15, none, .mv (.t 4)⟩,
   ⟨some 16, none, .mv (.t 0)⟩,
   ⟨some 17, none, .mv (.t 4)⟩,
   ⟨some 18, none, .idx 2 (.t 16) (.t 17)⟩,
   ⟨some 19, none, .load (some 2) (.t 18)⟩,
   ⟨some 20, none, .callm n_laws_toVote_o S_laws_toVote_o [(.t 19, [none, some 4])]⟩,
   ⟨some 21, none, .idx 2 (.t 14) (.t 15)⟩,
   ⟨none, none, .store 2 (.t 21) (.t 20)⟩]))
 (.rg [⟨some 12, none, .mv (.t 4)⟩,
   ⟨some 13, none, .bin 0 .add (.t 12) (.k (.int .i64 1))⟩,
   ⟨some 4, none, .mv (.t 13)⟩]))))))
 (.seq
 (.rg [⟨some 22, none, .mv (.t 3)⟩,
   ⟨some 2, none, .mv (.t 22)⟩])
 .ret)))) }
theorem is_laws_toVoteS_o : IsF Try.prog n_laws_toVoteS_o c_laws_toVoteS_o := ⟨Try.f36, _, Try.func36, rfl, by decide, rfl, by kernel_rfl, by kernel_rfl⟩
noncomputable def c_laws_markItemS_o : FC := { n := 44, res := [⟨none, 4, []⟩], body :=
 (.seq
 (.rg [⟨some 4, none, .mv (.k (.int .i64 0))⟩])
 (.seq
 (.seq
 (.rg [⟨some 5, none, .mv (.k (.int .i64 0))⟩])
 (.block 0
 (.loop
 (.seq
 (.seq
 (.rg [⟨some 6, none, .mv (.t 5)⟩,
   ⟨some 7, none, .mv (.t 0)⟩,
   ⟨some 8, none, .len (.t 7)⟩,
   ⟨some 9, none, .bin 0 .lss (.t 6) (.t 8)⟩])
 (.cond (.t 9)
 .skip
 (.exit 0)))
 (.seq
 (.block 1
 (.seq
 (.rg [⟨some 12, none, .mv (.t 0)⟩,
   ⟨some 13, none, .mv (.t 5)⟩,
   ⟨some 14, none, .mv (.t 1)⟩,
   ⟨some 15, none, .idx 4 (.t 12) (.t 13)⟩,
   ⟨some 16, none, .fld 0 (.t 15)⟩,
   ⟨none, none, .store 1 (.t 16) (.t 14)⟩])
 (.seq
 (.rg [⟨some 17, none, .mv (.t 1)⟩,
   ⟨some 18, none, .bin 0 .add (.t 17) (.k (.int .i64 1))⟩,
   ⟨some 1, none, .mv (.t 18)⟩])
 (.seq
 (.rg [⟨some 19, none, .mv (.t 0)⟩,
   ⟨some 20, none, .mv (.t 5)⟩,
   ⟨some 21, none, .mv (.t 1)⟩,
   ⟨some 22, none, .idx 4 (.t 19) (.t 20)⟩,
   ⟨some 23, none, .fld 1 (.t 22)⟩,
   ⟨some 24, none, .fld 0 (.t 23)⟩,
   ⟨none, none, .store 1 (.t 24) (.t 21)⟩])
 (.seq
 (.rg [⟨some 25, none, .mv (.t 1)⟩,
   ⟨some 26, none, .bin 0 .add (.t 25) (.k (.int .i64 1))⟩,
   ⟨some 1, none, .mv (.t 26)⟩])
 (.seq
 (.rg [⟨some 27, none, .mv (.t 0)⟩,
   ⟨some 28, none, .mv (.t 5)⟩,
   ⟨some 29, none, .mv (.t 1)⟩,
   ⟨some 30, none, .idx 4 (.t 27) (.t 28)⟩,
   ⟨some 31, none, .fld 1 (.t 30)⟩,
   ⟨some 32, none, .fld 1 (.t 31)⟩,
   ⟨none, none, .store 1 (.t 32) (.t 29)⟩])
 (.seq
 (.rg [⟨some 33, none, .mv (.t 1)⟩,
   ⟨some 34, none, .bin 0 .add (.t 33) (.k (.int .i64 1))⟩,
   ⟨some 1, none, .mv (.t 34)⟩])
 (.seq
 (.rg [⟨some 35, none, .mv (.t 0)⟩,
   ⟨some 36, none, .mv (.t 5)⟩,
   ⟨some 37, none, .mv (.t 1)⟩,
   ⟨some 38, none, .idx 4 (.t 35) (.t 36)⟩,
   ⟨some 39, none, .fld 1 (.t 38)⟩,
   ⟨some 40, none, .fld 2 (.t 39)⟩,
   ⟨none, none, .store 1 (.t 40) (.t 37)⟩])
 (.rg [⟨some 41, none, .mv (.t 1)⟩,
   ⟨some 42, none, .bin 0 .add (.t 41) (.k (.int .i64 1))⟩,
   ⟨some 1, none, .mv (.t 42)⟩])))))))))
 (.rg [⟨some 10, none, .mv (.t 5)⟩,
   ⟨some 11, none, .bin 0 .add (.t 10) (.k (.int .i64 1))⟩,
   ⟨some 5, none, .mv (.t 11)⟩]))))))
 (.seq
 (.rg [⟨some 43, none, .mv (.t 1)⟩,
   ⟨some 4, none, .mv (.t 43)⟩])
 .ret))) }
theorem is_laws_markItemS_o : IsF Try.prog n_laws_markItemS_o c_laws_markItemS_o := ⟨Try.f92, _, Try.func92, rfl, by decide, rfl, by kernel_rfl, by kernel_rfl⟩
noncomputable def c_laws_heldItemS : FC := { n := 52, res := [⟨none, 4, []⟩], body :=
 (.seq
 (.rg [⟨some 4, none, .mv (.k (.int .i64 0))⟩])
 (.seq
 (.seq
 (.rg [⟨some 5, none, .mv (.k (.int .i64 0))⟩])
 (.block 0
 (.loop
 (.seq
 (.seq
 (.rg [⟨some 6, none, .mv (.t 5)⟩,
   ⟨some 7, none, .mv (.t 0)⟩,
   ⟨some 8, none, .len (.t 7)⟩,
   ⟨some 9, none, .bin 0 .lss (.t 6) (.t 8)⟩])
 (.cond (.t 9)
 .skip
 (.exit 0)))
 (.seq
 (.block 1
 (.seq
 (.seq
 (.rg [⟨some 12, none, .mv (.t 0)⟩,
   ⟨some 13, none, .mv (.t 5)⟩,
   ⟨some 14, none, .idx 4 (.t 12) (.t 13)⟩,
   ⟨some 15, none, .fld 0 (.t 14)⟩,
   ⟨some 16, none, .load none (.t 15)⟩,
   ⟨some 17, none, .mv (.t 1)⟩,
   ⟨some 18, none, .bin 0 .neq (.t 16) (.t 17)⟩])
 (.cond (.t 18)
 (.seq
 (.rg [⟨some 4, none, .mv (.k (.int .i64 (-1)))⟩])
 .ret)
 .skip))
 (.seq
 (.rg [⟨some 19, none, .mv (.t 1)⟩,
   ⟨some 20, none, .bin 0 .add (.t 19) (.k (.int .i64 1))⟩,
   ⟨some 1, none, .mv (.t 20)⟩])
 (.seq
 (.seq
 (.rg [⟨some 21, none, .mv (.t 0)⟩,
   ⟨some 22, none, .mv (.t 5)⟩,
   ⟨some 23, none, .idx 4 (.t 21) (.t 22)⟩,
   ⟨some 24, none, .fld 1 (.t 23)⟩,
   ⟨some 25, none, .fld 0 (.t 24)⟩,
   ⟨some 26, none, .load none (.t 25)⟩,
   ⟨some 27, none, .mv (.t 1)⟩,
   ⟨some 28, none, .bin 0 .neq (.t 26) (.t 27)⟩])
 (.cond (.t 28)
 (.seq
 (.rg [⟨some 4, none, .mv (.k (.int .i64 (-1)))⟩])
 .ret)
 .skip))
 (.seq
 (.rg [⟨some 29, none, .mv (.t 1)⟩,
   ⟨some 30, none, .bin 0 .add (.t 29) (.k (.int .i64 1))⟩,
   ⟨some 1, none, .mv (.t 30)⟩])
 (.seq
 (.seq
 (.rg [⟨some 31, none, .mv (.t 0)⟩,
   ⟨some 32, none, .mv (.t 5)⟩,
   ⟨some 33, none, .idx 4 (.t 31) (.t 32)⟩,
   ⟨some 34, none, .fld 1 (.t 33)⟩,
   ⟨some 35, none, .fld 1 (.t 34)⟩,
   ⟨some 36, none, .load none (.t 35)⟩,
   ⟨some 37, none, .mv (.t 1)⟩,
   ⟨some 38, none, .bin 0 .neq (.t 36) (.t 37)⟩])
 (.cond (.t 38)
 (.seq
 (.rg [⟨some 4, none, .mv (.k (.int .i64 (-1)))⟩])
 .ret)
 .skip))
 (.seq
 (.rg [⟨some 39, none, .mv (.t 1)⟩,
   ⟨some 40, none, .bin 0 .add (.t 39) (.k (.int .i64 1))⟩,
   ⟨some 1, none, .mv (.t 40)⟩])
 (.seq
 (.seq
 (.rg [⟨some 41, none, .mv (.t 0)⟩,
   ⟨some 42, none, .mv (.t 5)⟩,
   ⟨some 43, none, .idx 4 (.t 41) (.t 42)⟩,
   ⟨some 44, none, .fld 1 (.t 43)⟩,
   ⟨some 45, none, .fld 2 (.t 44)⟩,
   ⟨some 46, none, .load none (.t 45)⟩,
   ⟨some 47, none, .mv (.t 1)⟩,
   ⟨some 48, none, .bin 0 .neq (.t 46) (.t 47)⟩])
 (.cond (.t 48)
 (.seq
 (.rg [⟨some 4, none, .mv (.k (.int .i64 (-1)))⟩])
 .ret)
 .skip))
 (.rg [⟨some 49, none, .mv (.t 1)⟩,
   ⟨some 50, none, .bin 0 .add (.t 49) (.k (.int .i64 1))⟩,
   ⟨some 1, none, .mv (.t 50)⟩])))))))))
 (.rg [⟨some 10, none, .mv (.t 5)⟩,
   ⟨some 11, none, .bin 0 .add (.t 10) (.k (.int .i64 1))⟩,
   ⟨some 5, none, .mv (.t 11)⟩]))))))
 (.seq
 (.rg [⟨some 51, none, .mv (.t 1)⟩,
   ⟨some 4, none, .mv (.t 51)⟩])
 .ret))) }
theorem is_laws_heldItemS : IsF Try.prog n_laws_heldItemS c_laws_heldItemS := ⟨Try.f94, _, Try.func94, rfl, by decide, rfl, by kernel_rfl, by kernel_rfl⟩
noncomputable def c_laws_markVoteS_o : FC := { n := 27, res := [⟨none, 4, []⟩], body :=
 (.seq
 (.rg [⟨some 4, none, .mv (.k (.int .i64 0))⟩])
 (.seq
 (.seq
 (.rg [⟨some 5, none, .mv (.k (.int .i64 0))⟩])
 (.block 0
 (.loop
 (.seq
 (.seq
 (.rg [⟨some 6, none, .mv (.t 5)⟩,
   ⟨some 7, none, .mv (.t 0)⟩,
   ⟨some 8, none, .len (.t 7)⟩,
   ⟨some 9, none, .bin 0 .lss (.t 6) (.t 8)⟩])
 (.cond (.t 9)
 .skip
 (.exit 0)))
 (.seq
 (.block 1
 (.seq
 (.rg [⟨some 12, none, .mv (.t 0)⟩,
   ⟨some 13, none, .mv (.t 5)⟩,
   ⟨some 14, none, .mv (.t 1)⟩,
   ⟨some 15, none, .idx 2 (.t 12) (.t 13)⟩,
   ⟨some 16, none, .fld 0 (.t 15)⟩,
   ⟨none, none, .store 1 (.t 16) (.t 14)⟩])
 (.seq
 (.rg [⟨some 17, none, .mv (.t 1)⟩,
   ⟨some 18, none, .bin 0 .add (.t 17) (.k (.int .i64 1))⟩,
   ⟨some 1, none, .mv (.t 18)⟩])
 (.rg [⟨some 19, none, .mv (.t 0)⟩,
   ⟨some 20, none, .mv (.t 5)⟩,
   ⟨some 21, none, .idx 2 (.t 19) (.t 20)⟩,
   ⟨some 22, none, .fld 1 (.t 21)⟩,
   ⟨some 23, none, .load none (.t 22)⟩,
   ⟨some 24, none, .mv (.t 1)⟩,
   ⟨some 25, none, .callm n_laws_markItemS_o S_laws_markItemS_o [(.t 23, [some 4]), (.t 24, [])]⟩,
   ⟨some 1, none, .mv (.t 25)⟩]))))
 (.rg [⟨some 10, none, .mv (.t 5)⟩,
   ⟨some 11, none, .bin 0 .add (.t 10) (.k (.int .i64 1))⟩,
   ⟨some 5, none, .mv (.t 11)⟩]))))))
 (.seq
 (.rg [⟨some 26, none, .mv (.t 1)⟩,
   ⟨some 4, none, .mv (.t 26)⟩])
 .ret))) }
theorem is_laws_markVoteS_o : IsF Try.prog n_laws_markVoteS_o c_laws_markVoteS_o := ⟨Try.f40, _, Try.func40, rfl, by decide, rfl, by kernel_rfl, by kernel_rfl⟩
end Av
end Go.Proofs.Ytdboofnogabefaa
