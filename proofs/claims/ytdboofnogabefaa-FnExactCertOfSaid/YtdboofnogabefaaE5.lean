/- The functions' code in the small language, and that it is theirs. -/
import Derived.Test.YtdboofnogabefaaE4
import Derived.Test.YtdboofnogabefaaD1
import Derived.Test.YtdboofnogabefaaProg
import Derived.KernelRfl
set_option linter.unusedVariables false
namespace Go.Proofs.Ytdboofnogabefaa
namespace Av
noncomputable def c_laws_szItemS : FC := { n := 12, res := [⟨none, 4, []⟩], body :=
 (.seq
 (.rg [⟨some 4, none, .mv (.k (.int .i64 0))⟩])
 (.seq
 (.rg [⟨some 5, none, .mv (.t 1)⟩,
   ⟨some 6, none, .mv (.t 0)⟩,
   ⟨some 7, none, .len (.t 6)⟩,
   ⟨some 8, none, .bin 0 .sub (.t 5) (.t 7)⟩,
   ⟨some 1, none, .mv (.t 8)⟩])
 (.seq
 (.seq
 (.rg [⟨some 9, none, .mv (.t 1)⟩,
   ⟨some 10, none, .bin 0 .lss (.t 9) (.k (.int .i64 0))⟩])
 (.cond (.t 10)
 (.seq
 (.rg [⟨some 4, none, .mv (.k (.int .i64 (-1)))⟩])
 .ret)
 .skip))
 (.seq
 (.rg [⟨some 11, none, .mv (.t 1)⟩,
   ⟨some 4, none, .mv (.t 11)⟩])
 .ret)))) }
theorem is_laws_szItemS : IsF Try.prog n_laws_szItemS c_laws_szItemS := ⟨Try.f100, _, Try.func100, rfl, by decide, rfl, by kernel_rfl, by kernel_rfl⟩
noncomputable def c_laws_szVote : FC := { n := 12, res := [⟨none, 4, []⟩], body :=
 (.seq
 (.rg [⟨some 2, none, .box (.t 0)⟩,
   ⟨some 4, none, .mv (.k (.int .i64 0))⟩])
 (.seq
 (.rg [⟨some 5, none, .fld 1 (.t 2)⟩,
   ⟨some 6, none, .load none (.t 5)⟩,
   ⟨some 7, none, .mv (.t 1)⟩,
   ⟨some 8, none, .call n_laws_szItemS S_laws_szItemS [(.t 6, [some 4]), (.t 7, [])]⟩,
   ⟨some 1, none, .mv (.t 8)⟩])
 (.seq
 (.seq
 (.rg [⟨some 9, none, .mv (.t 1)⟩,
   ⟨some 10, none, .bin 0 .lss (.t 9) (.k (.int .i64 0))⟩])
 (.cond (.t 10)
 (.seq
 (.rg [⟨some 4, none, .mv (.k (.int .i64 (-1)))⟩])
 .ret)
 .skip))
 (.seq
 (.rg [⟨some 11, none, .mv (.t 1)⟩,
   ⟨some 4, none, .mv (.t 11)⟩])
 .ret)))) }
theorem is_laws_szVote : IsF Try.prog n_laws_szVote c_laws_szVote := ⟨Try.f49, _, Try.func49, rfl, by decide, rfl, by kernel_rfl, by kernel_rfl⟩
noncomputable def c_laws_szVoteS : FC := { n := 27, res := [⟨none, 4, []⟩], body :=
 (.seq
 (.rg [⟨some 4, none, .mv (.k (.int .i64 0))⟩])
 (.seq
 (.rg [⟨some 6, none, .mv (.t 1)⟩,
   ⟨some 7, none, .mv (.t 0)⟩,
   ⟨some 8, none, .len (.t 7)⟩,
   ⟨some 9, none, .bin 0 .sub (.t 6) (.t 8)⟩,
   ⟨some 1, none, .mv (.t 9)⟩])
 (.seq
 (.seq
 (.rg [⟨some 10, none, .mv (.t 1)⟩,
   ⟨some 11, none, .bin 0 .lss (.t 10) (.k (.int .i64 0))⟩])
 (.cond (.t 11)
 (.seq
 (.rg [⟨some 4, none, .mv (.k (.int .i64 (-1)))⟩])
 .ret)
 .skip))
 (.seq
 (.seq
 (.rg [⟨some 5, none, .mv (.k (.int .i64 0))⟩])
 (.block 0
 (.loop
 (.seq
 (.seq
 (.rg [⟨some 12, none, .mv (.t 5)⟩,
   ⟨some 13, none, .mv (.t 0)⟩,
   ⟨some 14, none, .len (.t 13)⟩,
   ⟨some 15, none, .bin 0 .lss (.t 12) (.t 14)⟩])
 (.cond (.t 15)
 .skip
 (.exit 0)))
 (.seq
 (.block 1
 (.seq
 (.rg [⟨some 18, none, .mv (.t 0)⟩,
   ⟨some 19, none, .mv (.t 5)⟩,
   ⟨some 20, none, .idx 2 (.t 18) (.t 19)⟩,
   ⟨some 21, none, .load (some 2) (.t 20)⟩,
   ⟨some 22, none, .mv (.t 1)⟩,
   ⟨some 23, none, .call n_laws_szVote S_laws_szVote [(.t 21, [none, some 4]), (.t 22, [])]⟩,
   ⟨some 1, none, .mv (.t 23)⟩])
 (.seq
 (.rg [⟨some 24, none, .mv (.t 1)⟩,
   ⟨some 25, none, .bin 0 .lss (.t 24) (.k (.int .i64 0))⟩])
 (.cond (.t 25)
 (.seq
 (.rg [⟨some 4, none, .mv (.k (.int .i64 (-1)))⟩])
 .ret)
 .skip))))
 (.rg [⟨some 16, none, .mv (.t 5)⟩,
   ⟨some 17, none, .bin 0 .add (.t 16) (.k (.int .i64 1))⟩,
   ⟨some 5, none, .mv (.t 17)⟩]))))))
 (.seq
 (.rg [⟨some 26, none, .mv (.t 1)⟩,
   ⟨some 4, none, .mv (.t 26)⟩])
 .ret))))) }
theorem is_laws_szVoteS : IsF Try.prog n_laws_szVoteS c_laws_szVoteS := ⟨Try.f34, _, Try.func34, rfl, by decide, rfl, by kernel_rfl, by kernel_rfl⟩
noncomputable def c_laws_toPay : FC := { n := 14, res := [⟨some (some 3), 2, []⟩], body :=
 (.seq
 (.rg [⟨some 1, none, .box (.t 0)⟩,
   ⟨some 2, none, .alloc [.int .i64 0, .int .i64 0, .int .i64 0]⟩])
 (.seq
 (.rg [⟨some 3, none, .alloc [.int .i64 0, .int .i64 0, .int .i64 0]⟩])
 (.seq
 (.rg [⟨some 4, none, .fld 0 (.t 1)⟩,
   ⟨some 5, none, .load none (.t 4)⟩,
   ⟨some 6, none, .fld 0 (.t 3)⟩,
   ⟨none, none, .store 1 (.t 6) (.t 5)⟩])
 (.seq
 (.rg [⟨some 7, none, .fld 1 (.t 1)⟩,
   ⟨some 8, none, .load none (.t 7)⟩,
   ⟨some 9, none, .fld 1 (.t 3)⟩,
   ⟨none, none, .store 1 (.t 9) (.t 8)⟩])
 (.seq
 (.rg [⟨some 10, none, .fld 2 (.t 1)⟩,
   ⟨some 11, none, .load none (.t 10)⟩,
   ⟨some 12, none, .fld 2 (.t 3)⟩,
   ⟨none, none, .store 1 (.t 12) (.t 11)⟩])
 (.seq
 (.rg [⟨some 13, none, .load (some 3) (.t 3)⟩,
   ⟨none, none, .store 3 (.t 2) (.t 13)⟩])
 .ret)))))) }
theorem is_laws_toPay : IsF Try.prog n_laws_toPay c_laws_toPay := ⟨Try.f44, _, Try.func44, rfl, by decide, rfl, by kernel_rfl, by kernel_rfl⟩
noncomputable def c_laws_toItem : FC := { n := 12, res := [⟨some (some 4), 2, []⟩], body :=
 (.seq
 (.rg [⟨some 1, none, .box (.t 0)⟩,
   ⟨some 2, none, .alloc [.int .i64 0, .int .i64 0, .int .i64 0, .int .i64 0]⟩])
 (.seq
 (.rg [⟨some 3, none, .alloc [.int .i64 0, .int .i64 0, .int .i64 0, .int .i64 0]⟩])
 (.seq
 (.rg [⟨some 4, none, .fld 0 (.t 1)⟩,
   ⟨some 5, none, .load none (.t 4)⟩,
   ⟨some 6, none, .fld 0 (.t 3)⟩,
   ⟨none, none, .store 1 (.t 6) (.t 5)⟩])
 (.seq
 (.rg [⟨some 7, none, .fld 1 (.t 1)⟩,
   ⟨some 8, none, .load (some 3) (.t 7)⟩,
   ⟨some 9, none, .call n_laws_toPay S_laws_toPay [(.t 8, [])]⟩,
   ⟨some 10, none, .fld 1 (.t 3)⟩,
   ⟨none, none, .store 3 (.t 10) (.t 9)⟩])
 (.seq
 (.rg [⟨some 11, none, .load (some 4) (.t 3)⟩,
   ⟨none, none, .store 4 (.t 2) (.t 11)⟩])
 .ret))))) }
theorem is_laws_toItem : IsF Try.prog n_laws_toItem c_laws_toItem := ⟨Try.f136, _, Try.func136, rfl, by decide, rfl, by kernel_rfl, by kernel_rfl⟩
noncomputable def c_laws_toItemS : FC := { n := 23, res := [⟨none, 2, [some 4]⟩], body :=
 (.seq
 (.rg [⟨some 2, none, .mv (.k (.slice none 0 0))⟩])
 (.seq
 (.rg [⟨some 5, none, .mv (.t 0)⟩,
   ⟨some 6, none, .len (.t 5)⟩,
   ⟨some 7, none, .mksl 54 4 32 [.int .i64 0, .int .i64 0, .int .i64 0, .int .i64 0] (.t 6) (.t 6)⟩,
   ⟨some 3, none, .mv (.t 7)⟩])
 (.seq
 (.seq
 (.rg [⟨some 4, none, .mv (.k (.int .i64 0))⟩])
 (.block 0
 (.loop
 (.seq
 (.seq
 (.rg [⟨some 8, none, .mv (.t 4)⟩,
   ⟨some 9, none, .mv (.t 0)⟩,
   ⟨some 10, none, .len (.t 9)⟩,
   ⟨some 11, none, .bin 0 .lss (.t 8) (.t 10)⟩])
 (.cond (.t 11)
 .skip
 (.exit 0)))
 (.seq
 (.block 1
 (.rg [⟨some 14, none, .mv (.t 3)⟩,
   ⟨some 15, none, .mv (.t 4)⟩,
   ⟨some 16, none, .mv (.t 0)⟩,
   ⟨some 17, none, .mv (.t 4)⟩,
   ⟨some 18, none, .idx 4 (.t 16) (.t 17)⟩,
   ⟨some 19, none, .load (some 4) (.t 18)⟩,
   ⟨some 20, none, .call n_laws_toItem S_laws_toItem [(.t 19, [])]⟩,
   ⟨some 21, none, .idx 4 (.t 14) (.t 15)⟩,
   ⟨none, none, .store 4 (.t 21) (.t 20)⟩]))
 (.rg [⟨some 12, none, .mv (.t 4)⟩,
   ⟨some 13, none, .bin 0 .add (.t 12) (.k (.int .i64 1))⟩,
   ⟨some 4, none, .mv (.t 13)⟩]))))))
 (.seq
 (.rg [⟨some 22, none, .mv (.t 3)⟩,
   ⟨some 2, none, .mv (.t 22)⟩])
 .ret)))) }
theorem is_laws_toItemS : IsF Try.prog n_laws_toItemS c_laws_toItemS := ⟨Try.f102, _, Try.func102, rfl, by decide, rfl, by kernel_rfl, by kernel_rfl⟩
noncomputable def c_laws_toVote : FC := { n := 12, res := [⟨some (some 2), 2, [none, some 4]⟩], body :=
 (.seq
 (.rg [⟨some 1, none, .box (.t 0)⟩,
   ⟨some 2, none, .alloc [.int .i64 0, .slice none 0 0]⟩])
 (.seq
 (.rg [⟨some 3, none, .alloc [.int .i64 0, .slice none 0 0]⟩])
 (.seq
 (.rg [⟨some 4, none, .fld 0 (.t 1)⟩,
   ⟨some 5, none, .load none (.t 4)⟩,
   ⟨some 6, none, .fld 0 (.t 3)⟩,
   ⟨none, none, .store 1 (.t 6) (.t 5)⟩])
 (.seq
 (.rg [⟨some 7, none, .fld 1 (.t 1)⟩,
   ⟨some 8, none, .load none (.t 7)⟩,
   ⟨some 9, none, .call n_laws_toItemS S_laws_toItemS [(.t 8, [some 4])]⟩,
   ⟨some 10, none, .fld 1 (.t 3)⟩,
   ⟨none, none, .store 1 (.t 10) (.t 9)⟩])
 (.seq
 (.rg [⟨some 11, none, .load (some 2) (.t 3)⟩,
   ⟨none, none, .store 2 (.t 2) (.t 11)⟩])
 .ret))))) }
theorem is_laws_toVote : IsF Try.prog n_laws_toVote c_laws_toVote := ⟨Try.f51, _, Try.func51, rfl, by decide, rfl, by kernel_rfl, by kernel_rfl⟩
noncomputable def c_laws_toVoteS : FC := { n := 23, res := [⟨none, 2, [some 2]⟩], body :=
 (.seq
 (.rg [⟨some 2, none, .mv (.k (.slice none 0 0))⟩])
 (.seq
 (.rg [⟨some 5, none, .mv (.t 0)⟩,
   ⟨some 6, none, .len (.t 5)⟩,
   ⟨some 7, none, .mksl 32 2 32 [.int .i64 0, .slice none 0 0] (.t 6) (.t 6)⟩,
   ⟨some 3, none, .mv (.t 7)⟩])
 (.seq
 (.seq
 (.rg [⟨some 4, none, .mv (.k (.int .i64 0))⟩])
 (.block 0
 (.loop
 (.seq
 (.seq
 (.rg [⟨some 8, none, .mv (.t 4)⟩,
   ⟨some 9, none, .mv (.t 0)⟩,
   ⟨some 10, none, .len (.t 9)⟩,
   ⟨some 11, none, .bin 0 .lss (.t 8) (.t 10)⟩])
 (.cond (.t 11)
 .skip
 (.exit 0)))
 (.seq
 (.block 1
 (.rg [⟨some 14, none, .mv (.t 3)⟩,
   ⟨some 15, none, .mv (.t 4)⟩,
   ⟨some 16, none, .mv (.t 0)⟩,
   ⟨some 17, none, .mv (.t 4)⟩,
   ⟨some 18, none, .idx 2 (.t 16) (.t 17)⟩,
   ⟨some 19, none, .load (some 2) (.t 18)⟩,
   ⟨some 20, none, .call n_laws_toVote S_laws_toVote [(.t 19, [none, some 4])]⟩,
   ⟨some 21, none, .idx 2 (.t 14) (.t 15)⟩,
   ⟨none, none, .store 2 (.t 21) (.t 20)⟩]))
 (.rg [⟨some 12, none, .mv (.t 4)⟩,
   ⟨some 13, none, .bin 0 .add (.t 12) (.k (.int .i64 1))⟩,
   ⟨some 4, none, .mv (.t 13)⟩]))))))
 (.seq
 (.rg [⟨some 22, none, .mv (.t 3)⟩,
   ⟨some 2, none, .mv (.t 22)⟩])
 .ret)))) }
theorem is_laws_toVoteS : IsF Try.prog n_laws_toVoteS c_laws_toVoteS := ⟨Try.f36, _, Try.func36, rfl, by decide, rfl, by kernel_rfl, by kernel_rfl⟩
noncomputable def c_laws_eqPay : FC := { n := 20, res := [⟨none, 4, []⟩], body :=
 (.seq
 (.rg [⟨some 2, none, .box (.t 0)⟩,
   ⟨some 3, none, .box (.t 1)⟩,
   ⟨some 4, none, .mv (.k (.bool false))⟩])
 (.seq
 (.seq
 (.rg [⟨some 5, none, .fld 0 (.t 2)⟩,
   ⟨some 6, none, .load none (.t 5)⟩,
   ⟨some 7, none, .fld 0 (.t 3)⟩,
   ⟨some 8, none, .load none (.t 7)⟩,
   ⟨some 9, none, .bin 0 .neq (.t 6) (.t 8)⟩])
 (.cond (.t 9)
 (.seq
 (.rg [⟨some 4, none, .mv (.k (.bool false))⟩])
 .ret)
 .skip))
 (.seq
 (.seq
 (.rg [⟨some 10, none, .fld 1 (.t 2)⟩,
   ⟨some 11, none, .load none (.t 10)⟩,
   ⟨some 12, none, .fld 1 (.t 3)⟩,
   ⟨some 13, none, .load none (.t 12)⟩,
   ⟨some 14, none, .bin 0 .neq (.t 11) (.t 13)⟩])
 (.cond (.t 14)
 (.seq
 (.rg [⟨some 4, none, .mv (.k (.bool false))⟩])
 .ret)
 .skip))
 (.seq
 (.seq
 (.rg [⟨some 15, none, .fld 2 (.t 2)⟩,
   ⟨some 16, none, .load none (.t 15)⟩,
   ⟨some 17, none, .fld 2 (.t 3)⟩,
   ⟨some 18, none, .load none (.t 17)⟩,
   ⟨some 19, none, .bin 0 .neq (.t 16) (.t 18)⟩])
 (.cond (.t 19)
 (.seq
 (.rg [⟨some 4, none, .mv (.k (.bool false))⟩])
 .ret)
 .skip))
 (.seq
 (.rg [⟨some 4, none, .mv (.k (.bool true))⟩])
 .ret))))) }
theorem is_laws_eqPay : IsF Try.prog n_laws_eqPay c_laws_eqPay := ⟨Try.f153, _, Try.func153, rfl, by decide, rfl, by kernel_rfl, by kernel_rfl⟩
noncomputable def c_laws_eqItem : FC := { n := 16, res := [⟨none, 4, []⟩], body :=
 (.seq
 (.rg [⟨some 2, none, .box (.t 0)⟩,
   ⟨some 3, none, .box (.t 1)⟩,
   ⟨some 4, none, .mv (.k (.bool false))⟩])
 (.seq
 (.seq
 (.rg [⟨some 5, none, .fld 0 (.t 2)⟩,
   ⟨some 6, none, .load none (.t 5)⟩,
   ⟨some 7, none, .fld 0 (.t 3)⟩,
   ⟨some 8, none, .load none (.t 7)⟩,
   ⟨some 9, none, .bin 0 .neq (.t 6) (.t 8)⟩])
 (.cond (.t 9)
 (.seq
 (.rg [⟨some 4, none, .mv (.k (.bool false))⟩])
 .ret)
 .skip))
 (.seq
 (.seq
 (.rg [⟨some 10, none, .fld 1 (.t 2)⟩,
   ⟨some 11, none, .load (some 3) (.t 10)⟩,
   ⟨some 12, none, .fld 1 (.t 3)⟩,
   ⟨some 13, none, .load (some 3) (.t 12)⟩,
   ⟨some 14, none, .call n_laws_eqPay S_laws_eqPay [(.t 11, []), (.t 13, [])]⟩,
   ⟨some 15, none, .un .not (.t 14)⟩])
 (.cond (.t 15)
 (.seq
 (.rg [⟨some 4, none, .mv (.k (.bool false))⟩])
 .ret)
 .skip))
 (.seq
 (.rg [⟨some 4, none, .mv (.k (.bool true))⟩])
 .ret)))) }
theorem is_laws_eqItem : IsF Try.prog n_laws_eqItem c_laws_eqItem := ⟨Try.f129, _, Try.func129, rfl, by decide, rfl, by kernel_rfl, by kernel_rfl⟩
noncomputable def c_laws_eqItemS : FC := { n := 27, res := [⟨none, 4, []⟩], body :=
 (.seq
 (.rg [⟨some 4, none, .mv (.k (.bool false))⟩])
 (.seq
 (.seq
 (.rg [⟨some 6, none, .mv (.t 0)⟩,
   ⟨some 7, none, .len (.t 6)⟩,
   ⟨some 8, none, .mv (.t 1)⟩,
   ⟨some 9, none, .len (.t 8)⟩,
   ⟨some 10, none, .bin 0 .neq (.t 7) (.t 9)⟩])
 (.cond (.t 10)
 (.seq
 (.rg [⟨some 4, none, .mv (.k (.bool false))⟩])
 .ret)
 .skip))
 (.seq
 (.seq
 (.rg [⟨some 5, none, .mv (.k (.int .i64 0))⟩])
 (.block 0
 (.loop
 (.seq
 (.seq
 (.rg [⟨some 11, none, .mv (.t 5)⟩,
   ⟨some 12, none, .mv (.t 0)⟩,
   ⟨some 13, none, .len (.t 12)⟩,
   ⟨some 14, none, .bin 0 .lss (.t 11) (.t 13)⟩])
 (.cond (.t 14)
 .skip
 (.exit 0)))
 (.seq
 (.block 1
 (.seq
 (.rg [⟨some 17, none, .mv (.t 0)⟩,
   ⟨some 18, none, .mv (.t 5)⟩,
   ⟨some 19, none, .idx 4 (.t 17) (.t 18)⟩,
   ⟨some 20, none, .load (some 4) (.t 19)⟩,
   ⟨some 21, none, .mv (.t 1)⟩,
   ⟨some 22, none, .mv (.t 5)⟩,
   ⟨some 23, none, .idx 4 (.t 21) (.t 22)⟩,
   ⟨some 24, none, .load (some 4) (.t 23)⟩,
   ⟨some 25, none, .call n_laws_eqItem S_laws_eqItem [(.t 20, []), (.t 24, [])]⟩,
   ⟨some 26, none, .un .not (.t 25)⟩])
 (.cond (.t 26)
 (.seq
 (.rg [⟨some 4, none, .mv (.k (.bool false))⟩])
 .ret)
 .skip)))
 (.rg [⟨some 15, none, .mv (.t 5)⟩,
   ⟨some 16, none, .bin 0 .add (.t 15) (.k (.int .i64 1))⟩,
   ⟨some 5, none, .mv (.t 16)⟩]))))))
 (.seq
 (.rg [⟨some 4, none, .mv (.k (.bool true))⟩])
 .ret)))) }
theorem is_laws_eqItemS : IsF Try.prog n_laws_eqItemS c_laws_eqItemS := ⟨Try.f90, _, Try.func90, rfl, by decide, rfl, by kernel_rfl, by kernel_rfl⟩
noncomputable def c_laws_eqVote : FC := { n := 16, res := [⟨none, 4, []⟩], body :=
 (.seq
 (.rg [⟨some 2, none, .box (.t 0)⟩,
   ⟨some 3, none, .box (.t 1)⟩,
   ⟨some 4, none, .mv (.k (.bool false))⟩])
 (.seq
 (.seq
 (.rg [⟨some 5, none, .fld 0 (.t 2)⟩,
   ⟨some 6, none, .load none (.t 5)⟩,
   ⟨some 7, none, .fld 0 (.t 3)⟩,
   ⟨some 8, none, .load none (.t 7)⟩,
   ⟨some 9, none, .bin 0 .neq (.t 6) (.t 8)⟩])
 (.cond (.t 9)
 (.seq
 (.rg [⟨some 4, none, .mv (.k (.bool false))⟩])
 .ret)
 .skip))
 (.seq
 (.seq
 (.rg [⟨some 10, none, .fld 1 (.t 2)⟩,
   ⟨some 11, none, .load none (.t 10)⟩,
   ⟨some 12, none, .fld 1 (.t 3)⟩,
   ⟨some 13, none, .load none (.t 12)⟩,
   ⟨some 14, none, .call n_laws_eqItemS S_laws_eqItemS [(.t 11, [some 4]), (.t 13, [some 4])]⟩,
   ⟨some 15, none, .un .not (.t 14)⟩])
 (.cond (.t 15)
 (.seq
 (.rg [⟨some 4, none, .mv (.k (.bool false))⟩])
 .ret)
 .skip))
 (.seq
 (.rg [⟨some 4, none, .mv (.k (.bool true))⟩])
 .ret)))) }
theorem is_laws_eqVote : IsF Try.prog n_laws_eqVote c_laws_eqVote := ⟨Try.f45, _, Try.func45, rfl, by decide, rfl, by kernel_rfl, by kernel_rfl⟩
noncomputable def c_laws_eqVoteS : FC := { n := 27, res := [⟨none, 4, []⟩], body :=
 (.seq
 (.rg [⟨some 4, none, .mv (.k (.bool false))⟩])
 (.seq
 (.seq
 (.rg [⟨some 6, none, .mv (.t 0)⟩,
   ⟨some 7, none, .len (.t 6)⟩,
   ⟨some 8, none, .mv (.t 1)⟩,
   ⟨some 9, none, .len (.t 8)⟩,
   ⟨some 10, none, .bin 0 .neq (.t 7) (.t 9)⟩])
 (.cond (.t 10)
 (.seq
 (.rg [⟨some 4, none, .mv (.k (.bool false))⟩])
 .ret)
 .skip))
 (.seq
 (.seq
 (.rg [⟨some 5, none, .mv (.k (.int .i64 0))⟩])
 (.block 0
 (.loop
 (.seq
 (.seq
 (.rg [⟨some 11, none, .mv (.t 5)⟩,
   ⟨some 12, none, .mv (.t 0)⟩,
   ⟨some 13, none, .len (.t 12)⟩,
   ⟨some 14, none, .bin 0 .lss (.t 11) (.t 13)⟩])
 (.cond (.t 14)
 .skip
 (.exit 0)))
 (.seq
 (.block 1
 (.seq
 (.rg [⟨some 17, none, .mv (.t 0)⟩,
   ⟨some 18, none, .mv (.t 5)⟩,
   ⟨some 19, none, .idx 2 (.t 17) (.t 18)⟩,
   ⟨some 20, none, .load (some 2) (.t 19)⟩,
   ⟨some 21, none, .mv (.t 1)⟩,
   ⟨some 22, none, .mv (.t 5)⟩,
   ⟨some 23, none, .idx 2 (.t 21) (.t 22)⟩,
   ⟨some 24, none, .load (some 2) (.t 23)⟩,
   ⟨some 25, none, .call n_laws_eqVote S_laws_eqVote [(.t 20, [none, some 4]), (.t 24, [none, some 4])]⟩,
   ⟨some 26, none, .un .not (.t 25)⟩])
 (.cond (.t 26)
 (.seq
 (.rg [⟨some 4, none, .mv (.k (.bool false))⟩])
 .ret)
 .skip)))
 (.rg [⟨some 15, none, .mv (.t 5)⟩,
   ⟨some 16, none, .bin 0 .add (.t 15) (.k (.int .i64 1))⟩,
   ⟨some 5, none, .mv (.t 16)⟩]))))))
 (.seq
 (.rg [⟨some 4, none, .mv (.k (.bool true))⟩])
 .ret)))) }
theorem is_laws_eqVoteS : IsF Try.prog n_laws_eqVoteS c_laws_eqVoteS := ⟨Try.f39, _, Try.func39, rfl, by decide, rfl, by kernel_rfl, by kernel_rfl⟩
end Av
end Go.Proofs.Ytdboofnogabefaa
