/- The functions' code in the small language, and that it is theirs. -/
import Derived.Test.YtlbdoamidblkaaaCA
import Derived.Test.YtlbdoamidblkaaaD1
import Derived.Test.YtlbdoamidblkaaaProg
import Derived.KernelRfl
set_option linter.unusedVariables false
namespace Go.Proofs.Ytlbdoamidblkaaa
namespace Av
noncomputable def c_laws_szIntS : FC := { n := 12, res := [⟨none, 4, []⟩], body :=
 (.seq
 (.rg [⟨some 4, none, .mv (.k (.int .i64 0))⟩])
 (.seq
 (.rg [⟨some 5, none, .mv (.t 1)⟩,
   ⟨some 6, none, .mv (.t 0)⟩,
   ⟨some 7, none, .len (.t 6)⟩,
   ⟨some 8, none, .bin 0 .sub (.t 5) (.t 7)⟩,
   ⟨some 1, none, .mv (.t 8)⟩])
 (.seq
 (.seq
 (.rg [⟨some 9, none, .mv (.t 1)⟩,
   ⟨some 10, none, .bin 0 .lss (.t 9) (.k (.int .i64 0))⟩])
 (.cond (.t 10)
 (.seq
 (.rg [⟨some 4, none, .mv (.k (.int .i64 (-1)))⟩])
 .ret)
 .skip))
 (.seq
 (.rg [⟨some 11, none, .mv (.t 1)⟩,
   ⟨some 4, none, .mv (.t 11)⟩])
 .ret)))) }
theorem is_laws_szIntS : IsF Try.prog n_laws_szIntS c_laws_szIntS := ⟨Try.f71, _, Try.func71, rfl, by decide, rfl, by kernel_rfl, by kernel_rfl⟩
noncomputable def c_laws_szIntSS : FC := { n := 27, res := [⟨none, 4, []⟩], body :=
 (.seq
 (.rg [⟨some 4, none, .mv (.k (.int .i64 0))⟩])
 (.seq
 (.rg [⟨some 6, none, .mv (.t 1)⟩,
   ⟨some 7, none, .mv (.t 0)⟩,
   ⟨some 8, none, .len (.t 7)⟩,
   ⟨some 9, none, .bin 0 .sub (.t 6) (.t 8)⟩,
   ⟨some 1, none, .mv (.t 9)⟩])
 (.seq
 (.seq
 (.rg [⟨some 10, none, .mv (.t 1)⟩,
   ⟨some 11, none, .bin 0 .lss (.t 10) (.k (.int .i64 0))⟩])
 (.cond (.t 11)
 (.seq
 (.rg [⟨some 4, none, .mv (.k (.int .i64 (-1)))⟩])
 .ret)
 .skip))
 (.seq
 (.seq
 (.rg [⟨some 5, none, .mv (.k (.int .i64 0))⟩])
 (.block 0
 (.loop
 (.seq
 (.seq
 (.rg [⟨some 12, none, .mv (.t 5)⟩,
   ⟨some 13, none, .mv (.t 0)⟩,
   ⟨some 14, none, .len (.t 13)⟩,
   ⟨some 15, none, .bin 0 .lss (.t 12) (.t 14)⟩])
 (.cond (.t 15)
 .skip
 (.exit 0)))
 (.seq
 (.block 1
 (.seq
 (.rg [⟨some 18, none, .mv (.t 0)⟩,
   ⟨some 19, none, .mv (.t 5)⟩,
   ⟨some 20, none, .idx 1 (.t 18) (.t 19)⟩,
   ⟨some 21, none, .load none (.t 20)⟩,
   ⟨some 22, none, .mv (.t 1)⟩,
   ⟨some 23, none, .call n_laws_szIntS S_laws_szIntS [(.t 21, [some 1]), (.t 22, [])]⟩,
   ⟨some 1, none, .mv (.t 23)⟩])
 (.seq
 (.rg [⟨some 24, none, .mv (.t 1)⟩,
   ⟨some 25, none, .bin 0 .lss (.t 24) (.k (.int .i64 0))⟩])
 (.cond (.t 25)
 (.seq
 (.rg [⟨some 4, none, .mv (.k (.int .i64 (-1)))⟩])
 .ret)
 .skip))))
 (.rg [⟨some 16, none, .mv (.t 5)⟩,
   ⟨some 17, none, .bin 0 .add (.t 16) (.k (.int .i64 1))⟩,
   ⟨some 5, none, .mv (.t 17)⟩]))))))
 (.seq
 (.rg [⟨some 26, none, .mv (.t 1)⟩,
   ⟨some 4, none, .mv (.t 26)⟩])
 .ret))))) }
theorem is_laws_szIntSS : IsF Try.prog n_laws_szIntSS c_laws_szIntSS := ⟨Try.f31, _, Try.func31, rfl, by decide, rfl, by kernel_rfl, by kernel_rfl⟩
noncomputable def c_laws_szCert : FC := { n := 18, res := [⟨none, 4, []⟩], body :=
 (.seq
 (.rg [⟨some 2, none, .box (.t 0)⟩,
   ⟨some 4, none, .mv (.k (.int .i64 0))⟩])
 (.seq
 (.rg [⟨some 5, none, .fld 0 (.t 2)⟩,
   ⟨some 6, none, .load none (.t 5)⟩,
   ⟨some 7, none, .mv (.t 1)⟩,
   ⟨some 8, none, .call n_laws_szItemS S_laws_szItemS [(.t 6, [some 4]), (.t 7, [])]⟩,
   ⟨some 1, none, .mv (.t 8)⟩])
 (.seq
 (.seq
 (.rg [⟨some 9, none, .mv (.t 1)⟩,
   ⟨some 10, none, .bin 0 .lss (.t 9) (.k (.int .i64 0))⟩])
 (.cond (.t 10)
 (.seq
 (.rg [⟨some 4, none, .mv (.k (.int .i64 (-1)))⟩])
 .ret)
 .skip))
 (.seq
 (.rg [⟨some 11, none, .fld 1 (.t 2)⟩,
   ⟨some 12, none, .load none (.t 11)⟩,
   ⟨some 13, none, .mv (.t 1)⟩,
   ⟨some 14, none, .call n_laws_szIntSS S_laws_szIntSS [(.t 12, [some 1]), (.t 13, [])]⟩,
   ⟨some 1, none, .mv (.t 14)⟩])
 (.seq
 (.seq
 (.rg [⟨some 15, none, .mv (.t 1)⟩,
   ⟨some 16, none, .bin 0 .lss (.t 15) (.k (.int .i64 0))⟩])
 (.cond (.t 16)
 (.seq
 (.rg [⟨some 4, none, .mv (.k (.int .i64 (-1)))⟩])
 .ret)
 .skip))
 (.seq
 (.rg [⟨some 17, none, .mv (.t 1)⟩,
   ⟨some 4, none, .mv (.t 17)⟩])
 .ret)))))) }
theorem is_laws_szCert : IsF Try.prog n_laws_szCert c_laws_szCert := ⟨Try.f11, _, Try.func11, rfl, by decide, rfl, by kernel_rfl, by kernel_rfl⟩
noncomputable def c_laws_toIntS : FC := { n := 22, res := [⟨none, 2, [some 1]⟩], body :=
 (.seq
 (.rg [⟨some 2, none, .mv (.k (.slice none 0 0))⟩])
 (.seq
 (.rg [⟨some 5, none, .mv (.t 0)⟩,
   ⟨some 6, none, .len (.t 5)⟩,
   ⟨some 7, none, .mksl 3 1 8 [.int .i64 0] (.t 6) (.t 6)⟩,
   ⟨some 3, none, .mv (.t 7)⟩])
 (.seq
 (.seq
 (.rg [⟨some 4, none, .mv (.k (.int .i64 0))⟩])
 (.block 0
 (.loop
 (.seq
 (.seq
 (.rg [⟨some 8, none, .mv (.t 4)⟩,
   ⟨some 9, none, .mv (.t 0)⟩,
   ⟨some 10, none, .len (.t 9)⟩,
   ⟨some 11, none, .bin 0 .lss (.t 8) (.t 10)⟩])
 (.cond (.t 11)
 .skip
 (.exit 0)))
 (.seq
 (.block 1
 (.rg [⟨some 14, none, .mv (.t 3)⟩,
   ⟨some 15, none, .mv (.t 4)⟩,
   ⟨some 16, none, .mv (.t 0)⟩,
   ⟨some 17, none, .mv (.t 4)⟩,
   ⟨some 18, none, .idx 1 (.t 16) (.t 17)⟩,
   ⟨some 19, none, .load none (.t 18)⟩,
   ⟨some 20, none, .idx 1 (.t 14) (.t 15)⟩,
   ⟨none, none, .store 1 (.t 20) (.t 19)⟩]))
 (.rg [⟨some 12, none, .mv (.t 4)⟩,
   ⟨some 13, none, .bin 0 .add (.t 12) (.k (.int .i64 1))⟩,
   ⟨some 4, none, .mv (.t 13)⟩]))))))
 (.seq
 (.rg [⟨some 21, none, .mv (.t 3)⟩,
   ⟨some 2, none, .mv (.t 21)⟩])
 .ret)))) }
theorem is_laws_toIntS : IsF Try.prog n_laws_toIntS c_laws_toIntS := ⟨Try.f81, _, Try.func81, rfl, by decide, rfl, by kernel_rfl, by kernel_rfl⟩
noncomputable def c_laws_toIntSS : FC := { n := 23, res := [⟨none, 2, [some 1]⟩], body :=
 (.seq
 (.rg [⟨some 2, none, .mv (.k (.slice none 0 0))⟩])
 (.seq
 (.rg [⟨some 5, none, .mv (.t 0)⟩,
   ⟨some 6, none, .len (.t 5)⟩,
   ⟨some 7, none, .mksl 63 1 24 [.slice none 0 0] (.t 6) (.t 6)⟩,
   ⟨some 3, none, .mv (.t 7)⟩])
 (.seq
 (.seq
 (.rg [⟨some 4, none, .mv (.k (.int .i64 0))⟩])
 (.block 0
 (.loop
 (.seq
 (.seq
 (.rg [⟨some 8, none, .mv (.t 4)⟩,
   ⟨some 9, none, .mv (.t 0)⟩,
   ⟨some 10, none, .len (.t 9)⟩,
   ⟨some 11, none, .bin 0 .lss (.t 8) (.t 10)⟩])
 (.cond (.t 11)
 .skip
 (.exit 0)))
 (.seq
 (.block 1
 (.rg [⟨some 14, none, .mv (.t 3)⟩,
   ⟨some 15, none, .mv (.t 4)⟩,
   ⟨some 16, none, .mv (.t 0)⟩,
   ⟨some 17, none, .mv (.t 4)⟩,
   ⟨some 18, none, .idx 1 (.t 16) (.t 17)⟩,
   ⟨some 19, none, .load none (.t 18)⟩,
   ⟨some 20, none, .call n_laws_toIntS S_laws_toIntS [(.t 19, [some 1])]⟩,
   ⟨some 21, none, .idx 1 (.t 14) (.t 15)⟩,
   ⟨none, none, .store 1 (.t 21) (.t 20)⟩]))
 (.rg [⟨some 12, none, .mv (.t 4)⟩,
   ⟨some 13, none, .bin 0 .add (.t 12) (.k (.int .i64 1))⟩,
   ⟨some 4, none, .mv (.t 13)⟩]))))))
 (.seq
 (.rg [⟨some 22, none, .mv (.t 3)⟩,
   ⟨some 2, none, .mv (.t 22)⟩])
 .ret)))) }
theorem is_laws_toIntSS : IsF Try.prog n_laws_toIntSS c_laws_toIntSS := ⟨Try.f39, _, Try.func39, rfl, by decide, rfl, by kernel_rfl, by kernel_rfl⟩
noncomputable def c_laws_toCert : FC := { n := 13, res := [⟨some (some 2), 2, [some 4, some 1]⟩], body :=
 (.seq
 (.rg [⟨some 1, none, .box (.t 0)⟩,
   ⟨some 2, none, .alloc [.slice none 0 0, .slice none 0 0]⟩])
 (.seq
 (.rg [⟨some 3, none, .alloc [.slice none 0 0, .slice none 0 0]⟩])
 (.seq
 (.rg [⟨some 4, none, .fld 0 (.t 1)⟩,
   ⟨some 5, none, .load none (.t 4)⟩,
   ⟨some 6, none, .call n_laws_toItemS S_laws_toItemS [(.t 5, [some 4])]⟩,
   ⟨some 7, none, .fld 0 (.t 3)⟩,
   ⟨none, none, .store 1 (.t 7) (.t 6)⟩])
 (.seq
 (.rg [⟨some 8, none, .fld 1 (.t 1)⟩,
   ⟨some 9, none, .load none (.t 8)⟩,
   ⟨some 10, none, .call n_laws_toIntSS S_laws_toIntSS [(.t 9, [some 1])]⟩,
   ⟨some 11, none, .fld 1 (.t 3)⟩,
   ⟨none, none, .store 1 (.t 11) (.t 10)⟩])
 (.seq
 (.rg [⟨some 12, none, .load (some 2) (.t 3)⟩,
   ⟨none, none, .store 2 (.t 2) (.t 12)⟩])
 .ret))))) }
theorem is_laws_toCert : IsF Try.prog n_laws_toCert c_laws_toCert := ⟨Try.f14, _, Try.func14, rfl, by decide, rfl, by kernel_rfl, by kernel_rfl⟩
noncomputable def c_laws_eqIntS : FC := { n := 26, res := [⟨none, 4, []⟩], body :=
 (.seq
 (.rg [⟨some 4, none, .mv (.k (.bool false))⟩])
 (.seq
 (.seq
 (.rg [⟨some 6, none, .mv (.t 0)⟩,
   ⟨some 7, none, .len (.t 6)⟩,
   ⟨some 8, none, .mv (.t 1)⟩,
   ⟨some 9, none, .len (.t 8)⟩,
   ⟨some 10, none, .bin 0 .neq (.t 7) (.t 9)⟩])
 (.cond (.t 10)
 (.seq
 (.rg [⟨some 4, none, .mv (.k (.bool false))⟩])
 .ret)
 .skip))
 (.seq
 (.seq
 (.rg [⟨some 5, none, .mv (.k (.int .i64 0))⟩])
 (.block 0
 (.loop
 (.seq
 (.seq
 (.rg [⟨some 11, none, .mv (.t 5)⟩,
   ⟨some 12, none, .mv (.t 0)⟩,
   ⟨some 13, none, .len (.t 12)⟩,
   ⟨some 14, none, .bin 0 .lss (.t 11) (.t 13)⟩])
 (.cond (.t 14)
 .skip
 (.exit 0)))
 (.seq
 (.block 1
 (.seq
 (.rg [⟨some 17, none, .mv (.t 0)⟩,
   ⟨some 18, none, .mv (.t 5)⟩,
   ⟨some 19, none, .idx 1 (.t 17) (.t 18)⟩,
   ⟨some 20, none, .load none (.t 19)⟩,
   ⟨some 21, none, .mv (.t 1)⟩,
   ⟨some 22, none, .mv (.t 5)⟩,
   ⟨some 23, none, .idx 1 (.t 21) (.t 22)⟩,
   ⟨some 24, none, .load none (.t 23)⟩,
   ⟨some 25, none, .bin 0 .neq (.t 20) (.t 24)⟩])
 (.cond (.t 25)
 (.seq
 (.rg [⟨some 4, none, .mv (.k (.bool false))⟩])
 .ret)
 .skip)))
 (.rg [⟨some 15, none, .mv (.t 5)⟩,
   ⟨some 16, none, .bin 0 .add (.t 15) (.k (.int .i64 1))⟩,
   ⟨some 5, none, .mv (.t 16)⟩]))))))
 (.seq
 (.rg [⟨some 4, none, .mv (.k (.bool true))⟩])
 .ret)))) }
theorem is_laws_eqIntS : IsF Try.prog n_laws_eqIntS c_laws_eqIntS := ⟨Try.f98, _, Try.func98, rfl, by decide, rfl, by kernel_rfl, by kernel_rfl⟩
noncomputable def c_laws_eqIntSS : FC := { n := 27, res := [⟨none, 4, []⟩], body :=
 (.seq
 (.rg [⟨some 4, none, .mv (.k (.bool false))⟩])
 (.seq
 (.seq
 (.rg [⟨some 6, none, .mv (.t 0)⟩,
   ⟨some 7, none, .len (.t 6)⟩,
   ⟨some 8, none, .mv (.t 1)⟩,
   ⟨some 9, none, .len (.t 8)⟩,
   ⟨some 10, none, .bin 0 .neq (.t 7) (.t 9)⟩])
 (.cond (.t 10)
 (.seq
 (.rg [⟨some 4, none, .mv (.k (.bool false))⟩])
 .ret)
 .skip))
 (.seq
 (.seq
 (.rg [⟨some 5, none, .mv (.k (.int .i64 0))⟩])
 (.block 0
 (.loop
 (.seq
 (.seq
 (.rg [⟨some 11, none, .mv (.t 5)⟩,
   ⟨some 12, none, .mv (.t 0)⟩,
   ⟨some 13, none, .len (.t 12)⟩,
   ⟨some 14, none, .bin 0 .lss (.t 11) (.t 13)⟩])
 (.cond (.t 14)
 .skip
 (.exit 0)))
 (.seq
 (.block 1
 (.seq
 (.rg [⟨some 17, none, .mv (.t 0)⟩,
   ⟨some 18, none, .mv (.t 5)⟩,
   ⟨some 19, none, .idx 1 (.t 17) (.t 18)⟩,
   ⟨some 20, none, .load none (.t 19)⟩,
   ⟨some 21, none, .mv (.t 1)⟩,
   ⟨some 22, none, .mv (.t 5)⟩,
   ⟨some 23, none, .idx 1 (.t 21) (.t 22)⟩,
   ⟨some 24, none, .load none (.t 23)⟩,
   ⟨some 25, none, .call n_laws_eqIntS S_laws_eqIntS [(.t 20, [some 1]), (.t 24, [some 1])]⟩,
   ⟨some 26, none, .un .not (.t 25)⟩])
 (.cond (.t 26)
 (.seq
 (.rg [⟨some 4, none, .mv (.k (.bool false))⟩])
 .ret)
 .skip)))
 (.rg [⟨some 15, none, .mv (.t 5)⟩,
   ⟨some 16, none, .bin 0 .add (.t 15) (.k (.int .i64 1))⟩,
   ⟨some 5, none, .mv (.t 16)⟩]))))))
 (.seq
 (.rg [⟨some 4, none, .mv (.k (.bool true))⟩])
 .ret)))) }
theorem is_laws_eqIntSS : IsF Try.prog n_laws_eqIntSS c_laws_eqIntSS := ⟨Try.f49, _, Try.func49, rfl, by decide, rfl, by kernel_rfl, by kernel_rfl⟩
noncomputable def c_laws_eqCert : FC := { n := 17, res := [⟨none, 4, []⟩], body :=
 (.seq
 (.rg [⟨some 2, none, .box (.t 0)⟩,
   ⟨some 3, none, .box (.t 1)⟩,
   ⟨some 4, none, .mv (.k (.bool false))⟩])
 (.seq
 (.seq
 (.rg [⟨some 5, none, .fld 0 (.t 2)⟩,
   ⟨some 6, none, .load none (.t 5)⟩,
   ⟨some 7, none, .fld 0 (.t 3)⟩,
   ⟨some 8, none, .load none (.t 7)⟩,
   ⟨some 9, none, .call n_laws_eqItemS S_laws_eqItemS [(.t 6, [some 4]), (.t 8, [some 4])]⟩,
   ⟨some 10, none, .un .not (.t 9)⟩])
 (.cond (.t 10)
 (.seq
 (.rg [⟨some 4, none, .mv (.k (.bool false))⟩])
 .ret)
 .skip))
 (.seq
 (.seq
 (.rg [⟨some 11, none, .fld 1 (.t 2)⟩,
   ⟨some 12, none, .load none (.t 11)⟩,
   ⟨some 13, none, .fld 1 (.t 3)⟩,
   ⟨some 14, none, .load none (.t 13)⟩,
   ⟨some 15, none, .call n_laws_eqIntSS S_laws_eqIntSS [(.t 12, [some 1]), (.t 14, [some 1])]⟩,
   ⟨some 16, none, .un .not (.t 15)⟩])
 (.cond (.t 16)
 (.seq
 (.rg [⟨some 4, none, .mv (.k (.bool false))⟩])
 .ret)
 .skip))
 (.seq
 (.rg [⟨some 4, none, .mv (.k (.bool true))⟩])
 .ret)))) }
theorem is_laws_eqCert : IsF Try.prog n_laws_eqCert c_laws_eqCert := ⟨Try.f17, _, Try.func17, rfl, by decide, rfl, by kernel_rfl, by kernel_rfl⟩
end Av
end Go.Proofs.Ytlbdoamidblkaaa
