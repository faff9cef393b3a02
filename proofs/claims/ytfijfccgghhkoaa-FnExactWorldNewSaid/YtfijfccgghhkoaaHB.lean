/- The functions' code in the small language, and that it is theirs. -/
import Derived.Test.YtfijfccgghhkoaaHA
import Derived.Test.YtfijfccgghhkoaaJ13
import Derived.Test.YtfijfccgghhkoaaProg
import Derived.KernelRfl
set_option linter.unusedVariables false
namespace Go.Proofs.Ytfijfccgghhkoaa
namespace Av
noncomputable def c_laws_eqNode : FC := { n := 26, res := [⟨none, 4, []⟩], body :=
 (.seq
 (.rg [⟨some 2, none, .box (.t 0)⟩,
   ⟨some 3, none, .box (.t 1)⟩,
   ⟨some 4, none, .mv (.k (.bool false))⟩])
 (.seq
 (.seq
 (.rg [⟨some 5, none, .fld 0 (.t 2)⟩,
   ⟨some 6, none, .load none (.t 5)⟩,
   ⟨some 7, none, .fld 0 (.t 3)⟩,
   ⟨some 8, none, .load none (.t 7)⟩,
   ⟨some 9, none, .bin 0 .neq (.t 6) (.t 8)⟩])
 (.cond (.t 9)
 (.seq
 (.rg [⟨some 4, none, .mv (.k (.bool false))⟩])
 .ret)
 .skip))
 (.seq
 (.seq
 (.rg [⟨some 10, none, .fld 1 (.t 2)⟩,
   ⟨some 11, none, .load none (.t 10)⟩,
   ⟨some 12, none, .fld 1 (.t 3)⟩,
   ⟨some 13, none, .load none (.t 12)⟩,
   ⟨some 14, none, .bin 0 .neq (.t 11) (.t 13)⟩])
 (.cond (.t 14)
 (.seq
 (.rg [⟨some 4, none, .mv (.k (.bool false))⟩])
 .ret)
 .skip))
 (.seq
 (.seq
 (.rg [⟨some 15, none, .fld 2 (.t 2)⟩,
   ⟨some 16, none, .load none (.t 15)⟩,
   ⟨some 17, none, .fld 2 (.t 3)⟩,
   ⟨some 18, none, .load none (.t 17)⟩,
   ⟨some 19, none, .bin 0 .neq (.t 16) (.t 18)⟩])
 (.cond (.t 19)
 (.seq
 (.rg [⟨some 4, none, .mv (.k (.bool false))⟩])
 .ret)
 .skip))
 (.seq
 (.seq
 (.rg [⟨some 20, none, .fld 3 (.t 2)⟩,
   ⟨some 21, none, .load none (.t 20)⟩,
   ⟨some 22, none, .fld 3 (.t 3)⟩,
   ⟨some 23, none, .load none (.t 22)⟩,
   ⟨some 24, none, .call n_laws_eqVoteS S_laws_eqVoteS [(.t 21, [some 2]), (.t 23, [some 2])]⟩,
   ⟨some 25, none, .un .not (.t 24)⟩])
 (.cond (.t 25)
 (.seq
 (.rg [⟨some 4, none, .mv (.k (.bool false))⟩])
 .ret)
 .skip))
 (.seq
 (.rg [⟨some 4, none, .mv (.k (.bool true))⟩])
 .ret)))))) }
theorem is_laws_eqNode : IsF Try.prog n_laws_eqNode c_laws_eqNode := ⟨Try.f112, _, Try.func112, rfl, by decide, rfl, by kernel_rfl, by kernel_rfl⟩
noncomputable def c_laws_eqNodeS : FC := { n := 27, res := [⟨none, 4, []⟩], body :=
 (.seq
 (.rg [⟨some 4, none, .mv (.k (.bool false))⟩])
 (.seq
 (.seq
 (.rg [⟨some 6, none, .mv (.t 0)⟩,
   ⟨some 7, none, .len (.t 6)⟩,
   ⟨some 8, none, .mv (.t 1)⟩,
   ⟨some 9, none, .len (.t 8)⟩,
   ⟨some 10, none, .bin 0 .neq (.t 7) (.t 9)⟩])
 (.cond (.t 10)
 (.seq
 (.rg [⟨some 4, none, .mv (.k (.bool false))⟩])
 .ret)
 .skip))
 (.seq
 (.seq
 (.rg [⟨some 5, none, .mv (.k (.int .i64 0))⟩])
 (.block 0
 (.loop
 (.seq
 (.seq
 (.rg [⟨some 11, none, .mv (.t 5)⟩,
   ⟨some 12, none, .mv (.t 0)⟩,
   ⟨some 13, none, .len (.t 12)⟩,
   ⟨some 14, none, .bin 0 .lss (.t 11) (.t 13)⟩])
 (.cond (.t 14)
 .skip
 (.exit 0)))
 (.seq
 (.block 1
 (.seq
 (.rg [⟨some 17, none, .mv (.t 0)⟩,
   ⟨some 18, none, .mv (.t 5)⟩,
   ⟨some 19, none, .idx 4 (.t 17) (.t 18)⟩,
   ⟨some 20, none, .load (some 4) (.t 19)⟩,
   ⟨some 21, none, .mv (.t 1)⟩,
   ⟨some 22, none, .mv (.t 5)⟩,
   ⟨some 23, none, .idx 4 (.t 21) (.t 22)⟩,
   ⟨some 24, none, .load (some 4) (.t 23)⟩,
   ⟨some 25, none, .call n_laws_eqNode S_laws_eqNode [(.t 20, [none, none, none, some 2]), (.t 24, [none, none, none, some 2])]⟩,
   ⟨some 26, none, .un .not (.t 25)⟩])
 (.cond (.t 26)
 (.seq
 (.rg [⟨some 4, none, .mv (.k (.bool false))⟩])
 .ret)
 .skip)))
 (.rg [⟨some 15, none, .mv (.t 5)⟩,
   ⟨some 16, none, .bin 0 .add (.t 15) (.k (.int .i64 1))⟩,
   ⟨some 5, none, .mv (.t 16)⟩]))))))
 (.seq
 (.rg [⟨some 4, none, .mv (.k (.bool true))⟩])
 .ret)))) }
theorem is_laws_eqNodeS : IsF Try.prog n_laws_eqNodeS c_laws_eqNodeS := ⟨Try.f81, _, Try.func81, rfl, by decide, rfl, by kernel_rfl, by kernel_rfl⟩
noncomputable def c_laws_eqWorld : FC := { n := 27, res := [⟨none, 4, []⟩], body :=
 (.seq
 (.rg [⟨some 2, none, .box (.t 0)⟩,
   ⟨some 3, none, .box (.t 1)⟩,
   ⟨some 4, none, .mv (.k (.bool false))⟩])
 (.seq
 (.seq
 (.rg [⟨some 5, none, .fld 0 (.t 2)⟩,
   ⟨some 6, none, .load none (.t 5)⟩,
   ⟨some 7, none, .fld 0 (.t 3)⟩,
   ⟨some 8, none, .load none (.t 7)⟩,
   ⟨some 9, none, .bin 0 .neq (.t 6) (.t 8)⟩])
 (.cond (.t 9)
 (.seq
 (.rg [⟨some 4, none, .mv (.k (.bool false))⟩])
 .ret)
 .skip))
 (.seq
 (.seq
 (.rg [⟨some 10, none, .fld 1 (.t 2)⟩,
   ⟨some 11, none, .load none (.t 10)⟩,
   ⟨some 12, none, .fld 1 (.t 3)⟩,
   ⟨some 13, none, .load none (.t 12)⟩,
   ⟨some 14, none, .call n_laws_eqNodeS S_laws_eqNodeS [(.t 11, [some 4]), (.t 13, [some 4])]⟩,
   ⟨some 15, none, .un .not (.t 14)⟩])
 (.cond (.t 15)
 (.seq
 (.rg [⟨some 4, none, .mv (.k (.bool false))⟩])
 .ret)
 .skip))
 (.seq
 (.seq
 (.rg [⟨some 16, none, .fld 2 (.t 2)⟩,
   ⟨some 17, none, .load none (.t 16)⟩,
   ⟨some 18, none, .fld 2 (.t 3)⟩,
   ⟨some 19, none, .load none (.t 18)⟩,
   ⟨some 20, none, .call n_laws_eqVoteS S_laws_eqVoteS [(.t 17, [some 2]), (.t 19, [some 2])]⟩,
   ⟨some 21, none, .un .not (.t 20)⟩])
 (.cond (.t 21)
 (.seq
 (.rg [⟨some 4, none, .mv (.k (.bool false))⟩])
 .ret)
 .skip))
 (.seq
 (.seq
 (.rg [⟨some 22, none, .fld 3 (.t 2)⟩,
   ⟨some 23, none, .load none (.t 22)⟩,
   ⟨some 24, none, .fld 3 (.t 3)⟩,
   ⟨some 25, none, .load none (.t 24)⟩,
   ⟨some 26, none, .bin 0 .neq (.t 23) (.t 25)⟩])
 (.cond (.t 26)
 (.seq
 (.rg [⟨some 4, none, .mv (.k (.bool false))⟩])
 .ret)
 .skip))
 (.seq
 (.rg [⟨some 4, none, .mv (.k (.bool true))⟩])
 .ret)))))) }
theorem is_laws_eqWorld : IsF Try.prog n_laws_eqWorld c_laws_eqWorld := ⟨Try.f40, _, Try.func40, rfl, by decide, rfl, by kernel_rfl, by kernel_rfl⟩
noncomputable def c_laws_markVoteS : FC := { n := 27, res := [⟨none, 4, []⟩], body :=
 (.seq
 (.rg [⟨some 4, none, .mv (.k (.int .i64 0))⟩])
 (.seq
 (.seq
 (.rg [⟨some 5, none, .mv (.k (.int .i64 0))⟩])
 (.block 0
 (.loop
 (.seq
 (.seq
 (.rg [⟨some 6, none, .mv (.t 5)⟩,
   ⟨some 7, none, .mv (.t 0)⟩,
   ⟨some 8, none, .len (.t 7)⟩,
   ⟨some 9, none, .bin 0 .lss (.t 6) (.t 8)⟩])
 (.cond (.t 9)
 .skip
 (.exit 0)))
 (.seq
 (.block 1
 (.seq
 (.rg [⟨some 12, none, .mv (.t 0)⟩,
   ⟨some 13, none, .mv (.t 5)⟩,
   ⟨some 14, none, .mv (.t 1)⟩,
   ⟨some 15, none, .idx 2 (.t 12) (.t 13)⟩,
   ⟨some 16, none, .fld 0 (.t 15)⟩,
   ⟨none, none, .store 1 (.t 16) (.t 14)⟩])
 (.seq
 (.rg [⟨some 17, none, .mv (.t 1)⟩,
   ⟨some 18, none, .bin 0 .add (.t 17) (.k (.int .i64 1))⟩,
   ⟨some 1, none, .mv (.t 18)⟩])
 (.rg [⟨some 19, none, .mv (.t 0)⟩,
   ⟨some 20, none, .mv (.t 5)⟩,
   ⟨some 21, none, .idx 2 (.t 19) (.t 20)⟩,
   ⟨some 22, none, .fld 1 (.t 21)⟩,
   ⟨some 23, none, .load none (.t 22)⟩,
   ⟨some 24, none, .mv (.t 1)⟩,
   ⟨some 25, none, .call n_laws_markItemS S_laws_markItemS [(.t 23, [some 4]), (.t 24, [])]⟩,
   ⟨some 1, none, .mv (.t 25)⟩]))))
 (.rg [⟨some 10, none, .mv (.t 5)⟩,
   ⟨some 11, none, .bin 0 .add (.t 10) (.k (.int .i64 1))⟩,
   ⟨some 5, none, .mv (.t 11)⟩]))))))
 (.seq
 (.rg [⟨some 26, none, .mv (.t 1)⟩,
   ⟨some 4, none, .mv (.t 26)⟩])
 .ret))) }
theorem is_laws_markVoteS : IsF Try.prog n_laws_markVoteS c_laws_markVoteS := ⟨Try.f84, _, Try.func84, rfl, by decide, rfl, by kernel_rfl, by kernel_rfl⟩
noncomputable def c_laws_heldVoteS : FC := { n := 31, res := [⟨none, 4, []⟩], body :=
 (.seq
 (.rg [⟨some 4, none, .mv (.k (.int .i64 0))⟩])
 (.seq
 (.seq
 (.rg [⟨some 5, none, .mv (.k (.int .i64 0))⟩])
 (.block 0
 (.loop
 (.seq
 (.seq
 (.rg [⟨some 6, none, .mv (.t 5)⟩,
   ⟨some 7, none, .mv (.t 0)⟩,
   ⟨some 8, none, .len (.t 7)⟩,
   ⟨some 9, none, .bin 0 .lss (.t 6) (.t 8)⟩])
 (.cond (.t 9)
 .skip
 (.exit 0)))
 (.seq
 (.block 1
 (.seq
 (.seq
 (.rg [⟨some 12, none, .mv (.t 0)⟩,
   ⟨some 13, none, .mv (.t 5)⟩,
   ⟨some 14, none, .idx 2 (.t 12) (.t 13)⟩,
   ⟨some 15, none, .fld 0 (.t 14)⟩,
   ⟨some 16, none, .load none (.t 15)⟩,
   ⟨some 17, none, .mv (.t 1)⟩,
   ⟨some 18, none, .bin 0 .neq (.t 16) (.t 17)⟩])
 (.cond (.t 18)
 (.seq
 (.rg [⟨some 4, none, .mv (.k (.int .i64 (-1)))⟩])
 .ret)
 .skip))
 (.seq
 (.rg [⟨some 19, none, .mv (.t 1)⟩,
   ⟨some 20, none, .bin 0 .add (.t 19) (.k (.int .i64 1))⟩,
   ⟨some 1, none, .mv (.t 20)⟩])
 (.seq
 (.rg [⟨some 21, none, .mv (.t 0)⟩,
   ⟨some 22, none, .mv (.t 5)⟩,
   ⟨some 23, none, .idx 2 (.t 21) (.t 22)⟩,
   ⟨some 24, none, .fld 1 (.t 23)⟩,
   ⟨some 25, none, .load none (.t 24)⟩,
   ⟨some 26, none, .mv (.t 1)⟩,
   ⟨some 27, none, .call n_laws_heldItemS S_laws_heldItemS [(.t 25, [some 4]), (.t 26, [])]⟩,
   ⟨some 1, none, .mv (.t 27)⟩])
 (.seq
 (.rg [⟨some 28, none, .mv (.t 1)⟩,
   ⟨some 29, none, .bin 0 .lss (.t 28) (.k (.int .i64 0))⟩])
 (.cond (.t 29)
 (.seq
 (.rg [⟨some 4, none, .mv (.k (.int .i64 (-1)))⟩])
 .ret)
 .skip))))))
 (.rg [⟨some 10, none, .mv (.t 5)⟩,
   ⟨some 11, none, .bin 0 .add (.t 10) (.k (.int .i64 1))⟩,
   ⟨some 5, none, .mv (.t 11)⟩]))))))
 (.seq
 (.rg [⟨some 30, none, .mv (.t 1)⟩,
   ⟨some 4, none, .mv (.t 30)⟩])
 .ret))) }
theorem is_laws_heldVoteS : IsF Try.prog n_laws_heldVoteS c_laws_heldVoteS := ⟨Try.f86, _, Try.func86, rfl, by decide, rfl, by kernel_rfl, by kernel_rfl⟩
noncomputable def c_laws_heldNodeS : FC := { n := 49, res := [⟨none, 4, []⟩], body :=
 (.seq
 (.rg [⟨some 4, none, .mv (.k (.int .i64 0))⟩])
 (.seq
 (.seq
 (.rg [⟨some 5, none, .mv (.k (.int .i64 0))⟩])
 (.block 0
 (.loop
 (.seq
 (.seq
 (.rg [⟨some 6, none, .mv (.t 5)⟩,
   ⟨some 7, none, .mv (.t 0)⟩,
   ⟨some 8, none, .len (.t 7)⟩,
   ⟨some 9, none, .bin 0 .lss (.t 6) (.t 8)⟩])
 (.cond (.t 9)
 .skip
 (.exit 0)))
 (.seq
 (.block 1
 (.seq
 (.seq
 (.rg [⟨some 12, none, .mv (.t 0)⟩,
   ⟨some 13, none, .mv (.t 5)⟩,
   ⟨some 14, none, .idx 4 (.t 12) (.t 13)⟩,
   ⟨some 15, none, .fld 0 (.t 14)⟩,
   ⟨some 16, none, .load none (.t 15)⟩,
   ⟨some 17, none, .mv (.t 1)⟩,
   ⟨some 18, none, .bin 0 .neq (.t 16) (.t 17)⟩])
 (.cond (.t 18)
 (.seq
 (.rg [⟨some 4, none, .mv (.k (.int .i64 (-1)))⟩])
 .ret)
 .skip))
 (.seq
 (.rg [⟨some 19, none, .mv (.t 1)⟩,
   ⟨some 20, none, .bin 0 .add (.t 19) (.k (.int .i64 1))⟩,
   ⟨some 1, none, .mv (.t 20)⟩])
 (.seq
 (.seq
 (.rg [⟨some 21, none, .mv (.t 0)⟩,
   ⟨some 22, none, .mv (.t 5)⟩,
   ⟨some 23, none, .idx 4 (.t 21) (.t 22)⟩,
   ⟨some 24, none, .fld 1 (.t 23)⟩,
   ⟨some 25, none, .load none (.t 24)⟩,
   ⟨some 26, none, .mv (.t 1)⟩,
   ⟨some 27, none, .bin 0 .neq (.t 25) (.t 26)⟩])
 (.cond (.t 27)
 (.seq
 (.rg [⟨some 4, none, .mv (.k (.int .i64 (-1)))⟩])
 .ret)
 .skip))
 (.seq
 (.rg [⟨some 28, none, .mv (.t 1)⟩,
   ⟨some 29, none, .bin 0 .add (.t 28) (.k (.int .i64 1))⟩,
   ⟨some 1, none, .mv (.t 29)⟩])
 (.seq
 (.seq
 (.rg [⟨some 30, none, .mv (.t 0)⟩,
   ⟨some 31, none, .mv (.t 5)⟩,
   ⟨some 32, none, .idx 4 (.t 30) (.t 31)⟩,
   ⟨some 33, none, .fld 2 (.t 32)⟩,
   ⟨some 34, none, .load none (.t 33)⟩,
   ⟨some 35, none, .mv (.t 1)⟩,
   ⟨some 36, none, .bin 0 .neq (.t 34) (.t 35)⟩])
 (.cond (.t 36)
 (.seq
 (.rg [⟨some 4, none, .mv (.k (.int .i64 (-1)))⟩])
 .ret)
 .skip))
 (.seq
 (.rg [⟨some 37, none, .mv (.t 1)⟩,
   ⟨some 38, none, .bin 0 .add (.t 37) (.k (.int .i64 1))⟩,
   ⟨some 1, none, .mv (.t 38)⟩])
 (.seq
 (.rg [⟨some 39, none, .mv (.t 0)⟩,
   ⟨some 40, none, .mv (.t 5)⟩,
   ⟨some 41, none, .idx 4 (.t 39) (.t 40)⟩,
   ⟨some 42, none, .fld 3 (.t 41)⟩,
   ⟨some 43, none, .load none (.t 42)⟩,
   ⟨some 44, none, .mv (.t 1)⟩,
   ⟨some 45, none, .call n_laws_heldVoteS S_laws_heldVoteS [(.t 43, [some 2]), (.t 44, [])]⟩,
   ⟨some 1, none, .mv (.t 45)⟩])
 (.seq
 (.rg [⟨some 46, none, .mv (.t 1)⟩,
   ⟨some 47, none, .bin 0 .lss (.t 46) (.k (.int .i64 0))⟩])
 (.cond (.t 47)
 (.seq
 (.rg [⟨some 4, none, .mv (.k (.int .i64 (-1)))⟩])
 .ret)
 .skip))))))))))
 (.rg [⟨some 10, none, .mv (.t 5)⟩,
   ⟨some 11, none, .bin 0 .add (.t 10) (.k (.int .i64 1))⟩,
   ⟨some 5, none, .mv (.t 11)⟩]))))))
 (.seq
 (.rg [⟨some 48, none, .mv (.t 1)⟩,
   ⟨some 4, none, .mv (.t 48)⟩])
 .ret))) }
theorem is_laws_heldNodeS : IsF Try.prog n_laws_heldNodeS c_laws_heldNodeS := ⟨Try.f85, _, Try.func85, rfl, by decide, rfl, by kernel_rfl, by kernel_rfl⟩
noncomputable def c_laws_heldWorld : FC := { n := 18, res := [⟨none, 4, []⟩], body :=
 (.seq
 (.rg [⟨some 2, none, .box (.t 0)⟩,
   ⟨some 4, none, .mv (.k (.int .i64 0))⟩])
 (.seq
 (.rg [⟨some 5, none, .fld 1 (.t 2)⟩,
   ⟨some 6, none, .load none (.t 5)⟩,
   ⟨some 7, none, .mv (.t 1)⟩,
   ⟨some 8, none, .call n_laws_heldNodeS S_laws_heldNodeS [(.t 6, [some 4]), (.t 7, [])]⟩,
   ⟨some 1, none, .mv (.t 8)⟩])
 (.seq
 (.seq
 (.rg [⟨some 9, none, .mv (.t 1)⟩,
   ⟨some 10, none, .bin 0 .lss (.t 9) (.k (.int .i64 0))⟩])
 (.cond (.t 10)
 (.seq
 (.rg [⟨some 4, none, .mv (.k (.int .i64 (-1)))⟩])
 .ret)
 .skip))
 (.seq
 (.rg [⟨some 11, none, .fld 2 (.t 2)⟩,
   ⟨some 12, none, .load none (.t 11)⟩,
   ⟨some 13, none, .mv (.t 1)⟩,
   ⟨some 14, none, .call n_laws_heldVoteS S_laws_heldVoteS [(.t 12, [some 2]), (.t 13, [])]⟩,
   ⟨some 1, none, .mv (.t 14)⟩])
 (.seq
 (.seq
 (.rg [⟨some 15, none, .mv (.t 1)⟩,
   ⟨some 16, none, .bin 0 .lss (.t 15) (.k (.int .i64 0))⟩])
 (.cond (.t 16)
 (.seq
 (.rg [⟨some 4, none, .mv (.k (.int .i64 (-1)))⟩])
 .ret)
 .skip))
 (.seq
 (.rg [⟨some 17, none, .mv (.t 1)⟩,
   ⟨some 4, none, .mv (.t 17)⟩])
 .ret)))))) }
theorem is_laws_heldWorld : IsF Try.prog n_laws_heldWorld c_laws_heldWorld := ⟨Try.f42, _, Try.func42, rfl, by decide, rfl, by kernel_rfl, by kernel_rfl⟩
noncomputable def c_laws_markNodeS : FC := { n := 41, res := [⟨none, 4, []⟩], body :=
 (.seq
 (.rg [⟨some 4, none, .mv (.k (.int .i64 0))⟩])
 (.seq
 (.seq
 (.rg [⟨some 5, none, .mv (.k (.int .i64 0))⟩])
 (.block 0
 (.loop
 (.seq
 (.seq
 (.rg [⟨some 6, none, .mv (.t 5)⟩,
   ⟨some 7, none, .mv (.t 0)⟩,
   ⟨some 8, none, .len (.t 7)⟩,
   ⟨some 9, none, .bin 0 .lss (.t 6) (.t 8)⟩])
 (.cond (.t 9)
 .skip
 (.exit 0)))
 (.seq
 (.block 1
 (.seq
 (.rg [⟨some 12, none, .mv (.t 0)⟩,
   ⟨some 13, none, .mv (.t 5)⟩,
   ⟨some 14, none, .mv (.t 1)⟩,
   ⟨some 15, none, .idx 4 (.t 12) (.t 13)⟩,
   ⟨some 16, none, .fld 0 (.t 15)⟩,
   ⟨none, none, .store 1 (.t 16) (.t 14)⟩])
 (.seq
 (.rg [⟨some 17, none, .mv (.t 1)⟩,
   ⟨some 18, none, .bin 0 .add (.t 17) (.k (.int .i64 1))⟩,
   ⟨some 1, none, .mv (.t 18)⟩])
 (.seq
 (.rg [⟨some 19, none, .mv (.t 0)⟩,
   ⟨some 20, none, .mv (.t 5)⟩,
   ⟨some 21, none, .mv (.t 1)⟩,
   ⟨some 22, none, .idx 4 (.t 19) (.t 20)⟩,
   ⟨some 23, none, .fld 1 (.t 22)⟩,
   ⟨none, none, .store 1 (.t 23) (.t 21)⟩])
 (.seq
 (.rg [⟨some 24, none, .mv (.t 1)⟩,
   ⟨some 25, none, .bin 0 .add (.t 24) (.k (.int .i64 1))⟩,
   ⟨some 1, none, .mv (.t 25)⟩])
 (.seq
 (.rg [⟨some 26, none, .mv (.t 0)⟩,
   ⟨some 27, none, .mv (.t 5)⟩,
   ⟨some 28, none, .mv (.t 1)⟩,
   ⟨some 29, none, .idx 4 (.t 26) (.t 27)⟩,
   ⟨some 30, none, .fld 2 (.t 29)⟩,
   ⟨none, none, .store 1 (.t 30) (.t 28)⟩])
 (.seq
 (.rg [⟨some 31, none, .mv (.t 1)⟩,
   ⟨some 32, none, .bin 0 .add (.t 31) (.k (.int .i64 1))⟩,
   ⟨some 1, none, .mv (.t 32)⟩])
 (.rg [⟨some 33, none, .mv (.t 0)⟩,
   ⟨some 34, none, .mv (.t 5)⟩,
   ⟨some 35, none, .idx 4 (.t 33) (.t 34)⟩,
   ⟨some 36, none, .fld 3 (.t 35)⟩,
   ⟨some 37, none, .load none (.t 36)⟩,
   ⟨some 38, none, .mv (.t 1)⟩,
   ⟨some 39, none, .call n_laws_markVoteS S_laws_markVoteS [(.t 37, [some 2]), (.t 38, [])]⟩,
   ⟨some 1, none, .mv (.t 39)⟩]))))))))
 (.rg [⟨some 10, none, .mv (.t 5)⟩,
   ⟨some 11, none, .bin 0 .add (.t 10) (.k (.int .i64 1))⟩,
   ⟨some 5, none, .mv (.t 11)⟩]))))))
 (.seq
 (.rg [⟨some 40, none, .mv (.t 1)⟩,
   ⟨some 4, none, .mv (.t 40)⟩])
 .ret))) }
theorem is_laws_markNodeS : IsF Try.prog n_laws_markNodeS c_laws_markNodeS := ⟨Try.f83, _, Try.func83, rfl, by decide, rfl, by kernel_rfl, by kernel_rfl⟩
noncomputable def c_laws_markWorld : FC := { n := 14, res := [⟨none, 4, []⟩], body :=
 (.seq
 (.rg [⟨some 2, none, .box (.t 0)⟩,
   ⟨some 4, none, .mv (.k (.int .i64 0))⟩])
 (.seq
 (.rg [⟨some 5, none, .fld 1 (.t 2)⟩,
   ⟨some 6, none, .load none (.t 5)⟩,
   ⟨some 7, none, .mv (.t 1)⟩,
   ⟨some 8, none, .callm n_laws_markNodeS S_laws_markNodeS [(.t 6, [some 4]), (.t 7, [])]⟩,
   ⟨some 1, none, .mv (.t 8)⟩])
 (.seq
 (.rg [⟨some 9, none, .fld 2 (.t 2)⟩,
   ⟨some 10, none, .load none (.t 9)⟩,
   ⟨some 11, none, .mv (.t 1)⟩,
   ⟨some 12, none, .call n_laws_markVoteS S_laws_markVoteS [(.t 10, [some 2]), (.t 11, [])]⟩,
   ⟨some 1, none, .mv (.t 12)⟩])
 (.seq
 (.rg [⟨some 13, none, .mv (.t 1)⟩,
   ⟨some 4, none, .mv (.t 13)⟩])
 .ret)))) }
theorem is_laws_markWorld : IsF Try.prog n_laws_markWorld c_laws_markWorld := ⟨Try.f41, _, Try.func41, rfl, by decide, rfl, by kernel_rfl, by kernel_rfl⟩
noncomputable def c_laws_FnExactWorldNew : FC := { n := 63, res := [⟨none, 2, []⟩], body :=
 (.seq
 (.rg [⟨some 2, none, .mv (.k (.bool false))⟩])
 (.seq
 (.rg [⟨some 12, none, .mv (.t 0)⟩,
   ⟨some 13, none, .callm n_spec_WorldNew S_spec_WorldNew_s [(.t 12, [])]⟩,
   ⟨some 11, none, .mv (.t 13)⟩,
   ⟨some 14, none, .ext (.t 11) 0⟩,
   ⟨some 15, none, .ext (.t 11) 1⟩,
   ⟨some 3, none, .alloc [.int .i64 0, .slice none 0 0, .slice none 0 0, .int .i64 0]⟩,
   ⟨none, none, .store 4 (.t 3) (.t 14)⟩,
   ⟨some 4, none, .mv (.t 15)⟩])
 (.seq
 (.rg [⟨some 17, none, .mv (.t 0)⟩,
   ⟨some 18, none, .callm n_impl_WorldNew S_impl_WorldNew_s [(.t 17, [])]⟩,
   ⟨some 16, none, .mv (.t 18)⟩,
   ⟨some 19, none, .ext (.t 16) 0⟩,
   ⟨some 20, none, .ext (.t 16) 1⟩,
   ⟨some 5, none, .alloc [.int .i64 0, .slice none 0 0, .slice none 0 0, .int .i64 0]⟩,
   ⟨none, none, .store 4 (.t 5) (.t 19)⟩,
   ⟨some 6, none, .mv (.t 20)⟩])
 (.seq
 (.seq
 (.rg [⟨some 21, none, .load (some 4) (.t 5)⟩,
   ⟨some 22, none, .load (some 4) (.t 3)⟩,
   ⟨some 23, none, .call n_laws_eqWorld S_laws_eqWorld [(.t 21, [none, some 4, some 2]), (.t 22, [none, some 4, some 2])]⟩,
   ⟨some 24, none, .un .not (.t 23)⟩,
   ⟨some 25, none, .mv (.t 24)⟩,
   ⟨some 26, some (25, false), .mv (.t 6)⟩,
   ⟨some 27, some (25, false), .mv (.t 4)⟩,
   ⟨some 28, some (25, false), .bin 1 .neq (.t 26) (.t 27)⟩,
   ⟨some 29, none, .pick (.t 25) (.k (.bool true)) (.t 28)⟩])
 (.cond (.t 29)
 (.seq
 (.rg [⟨some 2, none, .mv (.k (.bool false))⟩])
 .ret)
 .skip))
 (.seq
 (.rg [⟨some 7, none, .mv (.k (.int .i64 1))⟩])
 (.seq
 (.rg [⟨some 30, none, .load (some 4) (.t 5)⟩,
   ⟨some 31, none, .mv (.t 7)⟩,
   ⟨some 32, none, .callm n_laws_markWorld S_laws_markWorld [(.t 30, [none, some 4, some 2]), (.t 31, [])]⟩,
   ⟨some 7, none, .mv (.t 32)⟩])
 (.seq
 (.rg [⟨some 8, none, .mv (.k (.int .i64 1))⟩])
 (.seq
 (.rg [⟨some 33, none, .load (some 4) (.t 5)⟩,
   ⟨some 34, none, .mv (.t 8)⟩,
   ⟨some 35, none, .call n_laws_heldWorld S_laws_heldWorld [(.t 33, [none, some 4, some 2]), (.t 34, [])]⟩,
   ⟨some 8, none, .mv (.t 35)⟩])
 (.seq
 (.seq
 (.rg [⟨some 36, none, .mv (.t 8)⟩,
   ⟨some 37, none, .bin 0 .lss (.t 36) (.k (.int .i64 0))⟩])
 (.cond (.t 37)
 (.seq
 (.rg [⟨some 2, none, .mv (.k (.bool false))⟩])
 .ret)
 .skip))
 (.seq
 (.seq
 (.rg [⟨some 38, none, .mv (.t 8)⟩,
   ⟨some 39, none, .mv (.t 7)⟩,
   ⟨some 40, none, .bin 0 .neq (.t 38) (.t 39)⟩])
 (.cond (.t 40)
 (.seq
 (.rg [⟨some 2, none, .mv (.k (.bool false))⟩])
 .ret)
 .skip))
 (.seq
 (.rg [⟨some 42, none, .mv (.t 0)⟩,
   ⟨some 43, none, .callm n_impl_WorldNew S_impl_WorldNew_s [(.t 42, [])]⟩,
   ⟨some 41, none, .mv (.t 43)⟩,
   ⟨some 44, none, .ext (.t 41) 0⟩,
   ⟨some 45, none, .ext (.t 41) 1⟩,
   ⟨some 9, none, .alloc [.int .i64 0, .slice none 0 0, .slice none 0 0, .int .i64 0]⟩,
   ⟨none, none, .store 4 (.t 9) (.t 44)⟩,
   ⟨some 10, none, .mv (.t 45)⟩])
 (.seq
 (.seq
 (.rg [⟨some 46, none, .load (some 4) (.t 9)⟩,
   ⟨some 47, none, .load (some 4) (.t 3)⟩,
   ⟨some 48, none, .call n_laws_eqWorld S_laws_eqWorld [(.t 46, [none, some 4, some 2]), (.t 47, [none, some 4, some 2])]⟩,
   ⟨some 49, none, .un .not (.t 48)⟩,
   ⟨some 50, none, .mv (.t 49)⟩,
   ⟨some 51, some (50, false), .mv (.t 10)⟩,
   ⟨some 52, some (50, false), .mv (.t 4)⟩,
   ⟨some 53, some (50, false), .bin 1 .neq (.t 51) (.t 52)⟩,
   ⟨some 54, none, .pick (.t 50) (.k (.bool true)) (.t 53)⟩])
 (.cond (.t 54)
 (.seq
 (.rg [⟨some 2, none, .mv (.k (.bool false))⟩])
 .ret)
 .skip))
 (.seq
 (.rg [⟨some 8, none, .mv (.k (.int .i64 1))⟩])
 (.seq
 (.rg [⟨some 55, none, .load (some 4) (.t 5)⟩,
   ⟨some 56, none, .mv (.t 8)⟩,
   ⟨some 57, none, .call n_laws_heldWorld S_laws_heldWorld [(.t 55, [none, some 4, some 2]), (.t 56, [])]⟩,
   ⟨some 8, none, .mv (.t 57)⟩])
 (.seq
 (.seq
 (.rg [⟨some 58, none, .mv (.t 8)⟩,
   ⟨some 59, none, .bin 0 .lss (.t 58) (.k (.int .i64 0))⟩])
 (.cond (.t 59)
 (.seq
 (.rg [⟨some 2, none, .mv (.k (.bool false))⟩])
 .ret)
 .skip))
 (.seq
 (.seq
 (.rg [⟨some 60, none, .mv (.t 8)⟩,
   ⟨some 61, none, .mv (.t 7)⟩,
   ⟨some 62, none, .bin 0 .neq (.t 60) (.t 61)⟩])
 (.cond (.t 62)
 (.seq
 (.rg [⟨some 2, none, .mv (.k (.bool false))⟩])
 .ret)
 .skip))
 (.seq
 (.rg [⟨some 2, none, .mv (.k (.bool true))⟩])
 .ret))))))))))))))))) }
theorem is_laws_FnExactWorldNew : IsF Try.prog n_laws_FnExactWorldNew c_laws_FnExactWorldNew := ⟨Try.f8, _, Try.func8, rfl, by decide, rfl, by kernel_rfl, by kernel_rfl⟩
end Av
end Go.Proofs.Ytfijfccgghhkoaa
