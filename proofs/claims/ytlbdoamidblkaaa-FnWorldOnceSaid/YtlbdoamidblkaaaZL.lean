/- The functions' code in the small language, and that it is theirs. -/
import Derived.Test.YtlbdoamidblkaaaZK
import Derived.Test.YtlbdoamidblkaaaJ10
import Derived.Test.YtlbdoamidblkaaaProg
import Derived.KernelRfl
set_option linter.unusedVariables false
namespace Go.Proofs.Ytlbdoamidblkaaa
namespace Av
noncomputable def c_spec_NodeNew : FC := { n := 11, res := [⟨some (some 4), 2, [none, none, none, some 2]⟩, ⟨none, 3, []⟩], body :=
 (.seq
 (.rg [⟨some 2, none, .alloc [.int .i64 0, .int .i64 0, .int .i64 0, .slice none 0 0]⟩,
   ⟨some 3, none, .mv (.k (.bool false))⟩])
 (.seq
 (.seq
 (.rg [⟨some 4, none, .mv (.t 0)⟩,
   ⟨some 5, none, .call n_spec_l6In S_spec_l6In [(.t 4, []), (.k (.int .i64 1), []), (.k (.int .i64 4), [])]⟩,
   ⟨some 6, none, .un .not (.t 5)⟩])
 (.cond (.t 6)
 (.seq
 (.rg [⟨some 7, none, .build [.int .i64 0, .int .i64 0, .int .i64 0, .slice none 0 0] []⟩,
   ⟨none, none, .store 4 (.t 2) (.t 7)⟩,
   ⟨some 3, none, .mv (.k (.bool false))⟩])
 .ret)
 .skip))
 (.seq
 (.rg [⟨some 8, none, .mv (.t 0)⟩,
   ⟨some 9, none, .bslf true 35 2 []⟩,
   ⟨some 10, none, .build [.int .i64 0, .int .i64 0, .int .i64 0, .slice none 0 0] [(0, 1, .t 8), (3, 1, .t 9)]⟩,
   ⟨none, none, .store 4 (.t 2) (.t 10)⟩,
   ⟨some 3, none, .mv (.k (.bool true))⟩])
 .ret))) }
theorem is_spec_NodeNew : IsF Try.prog n_spec_NodeNew c_spec_NodeNew := ⟨Try.f62, _, Try.func62, rfl, by decide, rfl, by kernel_rfl, by kernel_rfl⟩
noncomputable def c_spec_WorldNew : FC := { n := 31, res := [⟨some (some 4), 2, [none, some 4, some 2]⟩, ⟨none, 3, []⟩], body :=
 (.seq
 (.rg [⟨some 2, none, .alloc [.int .i64 0, .slice none 0 0, .slice none 0 0, .int .i64 0]⟩,
   ⟨some 3, none, .mv (.k (.bool false))⟩])
 (.seq
 (.seq
 (.rg [⟨some 8, none, .mv (.t 0)⟩,
   ⟨some 9, none, .call n_spec_l6In S_spec_l6In [(.t 8, []), (.k (.int .i64 0), []), (.k (.int .i64 4), [])]⟩,
   ⟨some 10, none, .un .not (.t 9)⟩])
 (.cond (.t 10)
 (.seq
 (.rg [⟨some 11, none, .build [.int .i64 0, .slice none 0 0, .slice none 0 0, .int .i64 0] []⟩,
   ⟨none, none, .store 4 (.t 2) (.t 11)⟩,
   ⟨some 3, none, .mv (.k (.bool false))⟩])
 .ret)
 .skip))
 (.seq
 (.rg [⟨some 12, none, .mv (.t 0)⟩,
   ⟨some 13, none, .bslf true 35 2 []⟩,
   ⟨some 14, none, .build [.int .i64 0, .slice none 0 0, .slice none 0 0, .int .i64 0] [(3, 1, .t 12), (2, 1, .t 13)]⟩,
   ⟨some 4, none, .alloc [.int .i64 0, .slice none 0 0, .slice none 0 0, .int .i64 0]⟩,
   ⟨none, none, .store 4 (.t 4) (.t 14)⟩])
 (.seq
 (.seq
 (.rg [⟨some 5, none, .mv (.k (.int .i64 1))⟩])
 (.block 0
 (.loop
 (.seq
 (.seq
 (.rg [⟨some 15, none, .mv (.t 5)⟩,
   ⟨some 16, none, .bin 0 .leq (.t 15) (.k (.int .i64 4))⟩])
 (.cond (.t 16)
 .skip
 (.exit 0)))
 (.seq
 (.block 1
 (.seq
 (.rg [⟨some 20, none, .mv (.t 5)⟩,
   ⟨some 21, none, .callm n_spec_NodeNew S_spec_NodeNew [(.t 20, [])]⟩,
   ⟨some 19, none, .mv (.t 21)⟩,
   ⟨some 22, none, .ext (.t 19) 0⟩,
   ⟨some 23, none, .ext (.t 19) 1⟩,
   ⟨some 6, none, .alloc [.int .i64 0, .int .i64 0, .int .i64 0, .slice none 0 0]⟩,
   ⟨none, none, .store 4 (.t 6) (.t 22)⟩,
   ⟨some 7, none, .mv (.t 23)⟩])
 (.rg [⟨some 24, none, .fld 1 (.t 4)⟩,
   ⟨some 25, none, .load none (.t 24)⟩,
   ⟨some 26, none, .load (some 4) (.t 6)⟩,
   ⟨some 27, none, .bsl 73 4 [.t 26]⟩,
   ⟨some 28, none, .app 73 4 48 [.int .i64 0, .int .i64 0, .int .i64 0, .slice none 0 0] (.t 25) (.t 27)⟩,
   ⟨some 29, none, .fld 1 (.t 4)⟩,
   ⟨none, none, .store 1 (.t 29) (.t 28)⟩])))
 (.rg [⟨some 17, none, .mv (.t 5)⟩,
   ⟨some 18, none, .bin 0 .add (.t 17) (.k (.int .i64 1))⟩,
   ⟨some 5, none, .mv (.t 18)⟩]))))))
 (.seq
 (.rg [⟨some 30, none, .load (some 4) (.t 4)⟩,
   ⟨none, none, .store 4 (.t 2) (.t 30)⟩,
   ⟨some 3, none, .mv (.k (.bool true))⟩])
 .ret))))) }
theorem is_spec_WorldNew : IsF Try.prog n_spec_WorldNew c_spec_WorldNew := ⟨Try.f24, _, Try.func24, rfl, by decide, rfl, by kernel_rfl, by kernel_rfl⟩
noncomputable def c_spec_l21Room : FC := { n := 7, res := [⟨none, 2, []⟩], body :=
 (.seq
 (.rg [⟨some 1, none, .box (.t 0)⟩,
   ⟨some 2, none, .mv (.k (.bool false))⟩])
 (.seq
 (.rg [⟨some 3, none, .fld 2 (.t 1)⟩,
   ⟨some 4, none, .load none (.t 3)⟩,
   ⟨some 5, none, .len (.t 4)⟩,
   ⟨some 6, none, .bin 0 .lss (.t 5) (.k (.int .i64 80))⟩,
   ⟨some 2, none, .mv (.t 6)⟩])
 .ret)) }
theorem is_spec_l21Room : IsF Try.prog n_spec_l21Room c_spec_l21Room := ⟨Try.f110, _, Try.func110, rfl, by decide, rfl, by kernel_rfl, by kernel_rfl⟩
noncomputable def c_spec_l21Tick : FC := { n := 29, res := [⟨some (some 4), 2, [none, some 4, some 2]⟩], body :=
 (.seq
 (.rg [⟨some 1, none, .box (.t 0)⟩,
   ⟨some 2, none, .alloc [.int .i64 0, .slice none 0 0, .slice none 0 0, .int .i64 0]⟩])
 (.seq
 (.rg [⟨some 4, none, .fld 0 (.t 1)⟩,
   ⟨some 5, none, .load none (.t 4)⟩,
   ⟨some 6, none, .bin 0 .add (.t 5) (.k (.int .i64 1))⟩,
   ⟨some 7, none, .mnmx true (.t 6) (.k (.int .i64 30))⟩,
   ⟨some 8, none, .fld 0 (.t 1)⟩,
   ⟨none, none, .store 1 (.t 8) (.t 7)⟩])
 (.seq
 (.seq
 (.rg [⟨some 3, none, .mv (.k (.int .i64 0))⟩])
 (.block 0
 (.loop
 (.seq
 (.seq
 (.rg [⟨some 9, none, .mv (.t 3)⟩,
   ⟨some 10, none, .fld 1 (.t 1)⟩,
   ⟨some 11, none, .load none (.t 10)⟩,
   ⟨some 12, none, .len (.t 11)⟩,
   ⟨some 13, none, .bin 0 .lss (.t 9) (.t 12)⟩])
 (.cond (.t 13)
 .skip
 (.exit 0)))
 (.seq
 (.block 1
 (.rg [⟨some 16, none, .fld 1 (.t 1)⟩,
   ⟨some 17, none, .load none (.t 16)⟩,
   ⟨some 18, none, .mv (.t 3)⟩,
   ⟨some 19, none, .fld 1 (.t 1)⟩,
   ⟨some 20, none, .load none (.t 19)⟩,
   ⟨some 21, none, .mv (.t 3)⟩,
   ⟨some 22, none, .idx 4 (.t 20) (.t 21)⟩,
   ⟨some 23, none, .load (some 4) (.t 22)⟩,
   ⟨some 24, none, .fld 0 (.t 1)⟩,
   ⟨some 25, none, .load none (.t 24)⟩,
   ⟨some 26, none, .callm n_spec_l12Enter S_spec_l12Enter [(.t 23, [none, none, none, some 2]), (.t 25, [])]⟩,
   ⟨some 27, none, .idx 4 (.t 17) (.t 18)⟩,
   ⟨none, none, .store 4 (.t 27) (.t 26)⟩]))
 (.rg [⟨some 14, none, .mv (.t 3)⟩,
   ⟨some 15, none, .bin 0 .add (.t 14) (.k (.int .i64 1))⟩,
   ⟨some 3, none, .mv (.t 15)⟩]))))))
 (.seq
 (.rg [⟨some 28, none, .load (some 4) (.t 1)⟩,
   ⟨none, none, .store 4 (.t 2) (.t 28)⟩])
 .ret)))) }
theorem is_spec_l21Tick : IsF Try.prog n_spec_l21Tick c_spec_l21Tick := ⟨Try.f63, _, Try.func63, rfl, by decide, rfl, by kernel_rfl, by kernel_rfl⟩
noncomputable def c_spec_l21Send : FC := { n := 26, res := [⟨some (some 4), 6, [none, some 4, some 2]⟩], body :=
 (.seq
 (.rg [⟨some 3, none, .box (.t 0)⟩,
   ⟨some 4, none, .box (.t 1)⟩,
   ⟨some 6, none, .alloc [.int .i64 0, .slice none 0 0, .slice none 0 0, .int .i64 0]⟩])
 (.seq
 (.seq
 (.rg [⟨some 9, none, .mv (.t 2)⟩,
   ⟨some 10, none, .mv (.t 9)⟩,
   ⟨some 11, some (10, true), .fld 2 (.t 3)⟩,
   ⟨some 12, some (10, true), .load none (.t 11)⟩,
   ⟨some 13, some (10, true), .len (.t 12)⟩,
   ⟨some 14, some (10, true), .bin 0 .lss (.t 13) (.k (.int .i64 80))⟩,
   ⟨some 15, none, .pick (.t 10) (.t 14) (.k (.bool false))⟩])
 (.cond (.t 15)
 (.seq
 (.rg [⟨some 17, none, .fld 2 (.t 3)⟩,
   ⟨some 18, none, .load none (.t 17)⟩,
   ⟨some 19, none, .load (some 2) (.t 4)⟩,
   ⟨some 20, none, .callm n_spec_l3Add SM_spec_l3Add [(.t 18, [some 2]), (.t 19, [none, some 4])]⟩,
   ⟨some 16, none, .mv (.t 20)⟩,
   ⟨some 21, none, .ext (.t 16) 0⟩,
   ⟨some 22, none, .ext (.t 16) 1⟩,
   ⟨some 7, none, .mv (.t 21)⟩,
   ⟨some 8, none, .mv (.t 22)⟩])
 (.rg [⟨some 23, none, .mv (.t 7)⟩,
   ⟨some 24, none, .fld 2 (.t 3)⟩,
   ⟨none, none, .store 1 (.t 24) (.t 23)⟩]))
 .skip))
 (.seq
 (.rg [⟨some 25, none, .load (some 4) (.t 3)⟩,
   ⟨none, none, .store 4 (.t 6) (.t 25)⟩])
 .ret))) }
theorem is_spec_l21Send : IsF Try.prog n_spec_l21Send c_spec_l21Send := ⟨Try.f67, _, Try.func67, rfl, by decide, rfl, by kernel_rfl, by kernel_rfl⟩
noncomputable def c_spec_l21Propose : FC := { n := 52, res := [⟨some (some 4), 6, [none, some 4, some 2]⟩], body :=
 (.seq
 (.rg [⟨some 3, none, .box (.t 0)⟩,
   ⟨some 5, none, .box (.t 2)⟩,
   ⟨some 6, none, .alloc [.int .i64 0, .slice none 0 0, .slice none 0 0, .int .i64 0]⟩])
 (.seq
 (.seq
 (.rg [⟨some 10, none, .mv (.t 1)⟩,
   ⟨some 11, none, .call n_spec_l6In S_spec_l6In [(.t 10, []), (.k (.int .i64 1), []), (.k (.int .i64 4), [])]⟩,
   ⟨some 12, none, .un .not (.t 11)⟩,
   ⟨some 13, none, .mv (.t 12)⟩,
   ⟨some 14, some (13, false), .mv (.t 1)⟩,
   ⟨some 15, some (13, false), .fld 3 (.t 3)⟩,
   ⟨some 16, some (13, false), .load none (.t 15)⟩,
   ⟨some 17, some (13, false), .bin 0 .eql (.t 14) (.t 16)⟩,
   ⟨some 18, none, .pick (.t 13) (.k (.bool true)) (.t 17)⟩,
   ⟨some 19, none, .mv (.t 18)⟩,
   ⟨some 20, some (19, false), .load (some 3) (.t 5)⟩,
   ⟨some 21, some (19, false), .call n_spec_PayOk S_spec_PayOk [(.t 20, [])]⟩,
   ⟨some 22, some (19, false), .un .not (.t 21)⟩,
   ⟨some 23, none, .pick (.t 19) (.k (.bool true)) (.t 22)⟩,
   ⟨some 24, none, .mv (.t 23)⟩,
   ⟨some 25, some (24, false), .load (some 4) (.t 3)⟩,
   ⟨some 26, some (24, false), .call n_spec_l21Room S_spec_l21Room [(.t 25, [none, some 4, some 2])]⟩,
   ⟨some 27, some (24, false), .un .not (.t 26)⟩,
   ⟨some 28, none, .pick (.t 24) (.k (.bool true)) (.t 27)⟩])
 (.cond (.t 28)
 (.seq
 (.rg [⟨some 29, none, .load (some 4) (.t 3)⟩,
   ⟨none, none, .store 4 (.t 6) (.t 29)⟩])
 .ret)
 .skip))
 (.seq
 (.rg [⟨some 31, none, .fld 1 (.t 3)⟩,
   ⟨some 32, none, .load none (.t 31)⟩,
   ⟨some 33, none, .mv (.t 1)⟩,
   ⟨some 34, none, .bin 0 .sub (.t 33) (.k (.int .i64 1))⟩,
   ⟨some 35, none, .idx 4 (.t 32) (.t 34)⟩,
   ⟨some 36, none, .load (some 4) (.t 35)⟩,
   ⟨some 37, none, .load (some 3) (.t 5)⟩,
   ⟨some 38, none, .callm n_spec_l12Propose S_spec_l12Propose [(.t 36, [none, none, none, some 2]), (.t 37, [])]⟩,
   ⟨some 30, none, .mv (.t 38)⟩,
   ⟨some 39, none, .ext (.t 30) 0⟩,
   ⟨some 40, none, .ext (.t 30) 1⟩,
   ⟨some 41, none, .ext (.t 30) 2⟩,
   ⟨some 7, none, .alloc [.int .i64 0, .int .i64 0, .int .i64 0, .slice none 0 0]⟩,
   ⟨some 8, none, .alloc [.int .i64 0, .slice none 0 0]⟩,
   ⟨none, none, .store 4 (.t 7) (.t 39)⟩,
   ⟨none, none, .store 2 (.t 8) (.t 40)⟩,
   ⟨some 9, none, .mv (.t 41)⟩])
 (.seq
 (.rg [⟨some 42, none, .fld 1 (.t 3)⟩,
   ⟨some 43, none, .load none (.t 42)⟩,
   ⟨some 44, none, .mv (.t 1)⟩,
   ⟨some 45, none, .bin 0 .sub (.t 44) (.k (.int .i64 1))⟩,
   ⟨some 46, none, .load (some 4) (.t 7)⟩,
   ⟨some 47, none, .idx 4 (.t 43) (.t 45)⟩,
   ⟨none, none, .store 4 (.t 47) (.t 46)⟩])
 (.seq
 (.rg [⟨some 48, none, .load (some 4) (.t 3)⟩,
   ⟨some 49, none, .load (some 2) (.t 8)⟩,
   ⟨some 50, none, .mv (.t 9)⟩,
   ⟨some 51, none, .callm n_spec_l21Send S_spec_l21Send [(.t 48, [none, some 4, some 2]), (.t 49, [none, some 4]), (.t 50, [])]⟩,
   ⟨none, none, .store 4 (.t 6) (.t 51)⟩])
 .ret))))) }
theorem is_spec_l21Propose : IsF Try.prog n_spec_l21Propose c_spec_l21Propose := ⟨Try.f64, _, Try.func64, rfl, by decide, rfl, by kernel_rfl, by kernel_rfl⟩
noncomputable def c_spec_l21Bring : FC := { n := 60, res := [⟨some (some 4), 6, [none, some 4, some 2]⟩], body :=
 (.seq
 (.rg [⟨some 3, none, .box (.t 0)⟩,
   ⟨some 6, none, .alloc [.int .i64 0, .slice none 0 0, .slice none 0 0, .int .i64 0]⟩])
 (.seq
 (.seq
 (.rg [⟨some 10, none, .mv (.t 1)⟩,
   ⟨some 11, none, .fld 2 (.t 3)⟩,
   ⟨some 12, none, .load none (.t 11)⟩,
   ⟨some 13, none, .len (.t 12)⟩,
   ⟨some 14, none, .bin 0 .sub (.t 13) (.k (.int .i64 1))⟩,
   ⟨some 15, none, .call n_spec_l6In S_spec_l6In [(.t 10, []), (.k (.int .i64 0), []), (.t 14, [])]⟩,
   ⟨some 16, none, .un .not (.t 15)⟩,
   ⟨some 17, none, .mv (.t 16)⟩,
   ⟨some 18, some (17, false), .mv (.t 2)⟩,
   ⟨some 19, some (17, false), .call n_spec_l6In S_spec_l6In [(.t 18, []), (.k (.int .i64 1), []), (.k (.int .i64 4), [])]⟩,
   ⟨some 20, some (17, false), .un .not (.t 19)⟩,
   ⟨some 21, none, .pick (.t 17) (.k (.bool true)) (.t 20)⟩,
   ⟨some 22, none, .mv (.t 21)⟩,
   ⟨some 23, some (22, false), .mv (.t 2)⟩,
   ⟨some 24, some (22, false), .fld 3 (.t 3)⟩,
   ⟨some 25, some (22, false), .load none (.t 24)⟩,
   ⟨some 26, some (22, false), .bin 0 .eql (.t 23) (.t 25)⟩,
   ⟨some 27, none, .pick (.t 22) (.k (.bool true)) (.t 26)⟩,
   ⟨some 28, none, .mv (.t 27)⟩,
   ⟨some 29, some (28, false), .load (some 4) (.t 3)⟩,
   ⟨some 30, some (28, false), .call n_spec_l21Room S_spec_l21Room [(.t 29, [none, some 4, some 2])]⟩,
   ⟨some 31, some (28, false), .un .not (.t 30)⟩,
   ⟨some 32, none, .pick (.t 28) (.k (.bool true)) (.t 31)⟩])
 (.cond (.t 32)
 (.seq
 (.rg [⟨some 33, none, .load (some 4) (.t 3)⟩,
   ⟨none, none, .store 4 (.t 6) (.t 33)⟩])
 .ret)
 .skip))
 (.seq
 (.rg [⟨some 35, none, .fld 1 (.t 3)⟩,
   ⟨some 36, none, .load none (.t 35)⟩,
   ⟨some 37, none, .mv (.t 2)⟩,
   ⟨some 38, none, .bin 0 .sub (.t 37) (.k (.int .i64 1))⟩,
   ⟨some 39, none, .idx 4 (.t 36) (.t 38)⟩,
   ⟨some 40, none, .load (some 4) (.t 39)⟩,
   ⟨some 41, none, .fld 2 (.t 3)⟩,
   ⟨some 42, none, .load none (.t 41)⟩,
   ⟨some 43, none, .mv (.t 1)⟩,
   ⟨some 44, none, .idx 2 (.t 42) (.t 43)⟩,
   ⟨some 45, none, .load (some 2) (.t 44)⟩,
   ⟨some 46, none, .callm n_spec_l12Hear S_spec_l12Hear [(.t 40, [none, none, none, some 2]), (.t 45, [none, some 4])]⟩,
   ⟨some 34, none, .mv (.t 46)⟩,
   ⟨some 47, none, .ext (.t 34) 0⟩,
   ⟨some 48, none, .ext (.t 34) 1⟩,
   ⟨some 49, none, .ext (.t 34) 2⟩,
   ⟨some 7, none, .alloc [.int .i64 0, .int .i64 0, .int .i64 0, .slice none 0 0]⟩,
   ⟨some 8, none, .alloc [.int .i64 0, .slice none 0 0]⟩,
   ⟨none, none, .store 4 (.t 7) (.t 47)⟩,
   ⟨none, none, .store 2 (.t 8) (.t 48)⟩,
   ⟨some 9, none, .mv (.t 49)⟩])
 (.seq
 (.rg [⟨some 50, none, .fld 1 (.t 3)⟩,
   ⟨some 51, none, .load none (.t 50)⟩,
   ⟨some 52, none, .mv (.t 2)⟩,
   ⟨some 53, none, .bin 0 .sub (.t 52) (.k (.int .i64 1))⟩,
   ⟨some 54, none, .load (some 4) (.t 7)⟩,
   ⟨some 55, none, .idx 4 (.t 51) (.t 53)⟩,
   ⟨none, none, .store 4 (.t 55) (.t 54)⟩])
 (.seq
 (.rg [⟨some 56, none, .load (some 4) (.t 3)⟩,
   ⟨some 57, none, .load (some 2) (.t 8)⟩,
   ⟨some 58, none, .mv (.t 9)⟩,
   ⟨some 59, none, .callm n_spec_l21Send S_spec_l21Send [(.t 56, [none, some 4, some 2]), (.t 57, [none, some 4]), (.t 58, [])]⟩,
   ⟨none, none, .store 4 (.t 6) (.t 59)⟩])
 .ret))))) }
theorem is_spec_l21Bring : IsF Try.prog n_spec_l21Bring c_spec_l21Bring := ⟨Try.f65, _, Try.func65, rfl, by decide, rfl, by kernel_rfl, by kernel_rfl⟩
noncomputable def c_spec_l21Do : FC := { n := 45, res := [⟨some (some 4), 4, [none, some 4, some 2]⟩], body :=
 (.seq
 (.rg [⟨some 2, none, .box (.t 0)⟩,
   ⟨some 3, none, .box (.t 1)⟩,
   ⟨some 4, none, .alloc [.int .i64 0, .slice none 0 0, .slice none 0 0, .int .i64 0]⟩])
 (.seq
 (.seq
 (.rg [⟨some 5, none, .fld 0 (.t 3)⟩,
   ⟨some 6, none, .load none (.t 5)⟩])
 (.block 0
 (.seq
 (.rg [⟨some 8, none, .bin 0 .eql (.t 6) (.k (.int .i64 1))⟩,
   ⟨some 7, none, .mv (.t 8)⟩])
 (.cond (.t 7)
 (.seq
 (.rg [⟨some 9, none, .load (some 4) (.t 2)⟩,
   ⟨some 10, none, .callm n_spec_l21Tick S_spec_l21Tick [(.t 9, [none, some 4, some 2])]⟩,
   ⟨none, none, .store 4 (.t 4) (.t 10)⟩])
 .ret)
 (.seq
 (.rg [⟨some 12, none, .bin 0 .eql (.t 6) (.k (.int .i64 2))⟩,
   ⟨some 11, none, .mv (.t 12)⟩])
 (.cond (.t 11)
 (.seq
 (.rg [⟨some 13, none, .load (some 4) (.t 2)⟩,
   ⟨some 14, none, .fld 1 (.t 3)⟩,
   ⟨some 15, none, .load none (.t 14)⟩,
   ⟨some 16, none, .fld 3 (.t 3)⟩,
   ⟨some 17, none, .load (some 3) (.t 16)⟩,
   ⟨some 18, none, .callm n_spec_l21Propose S_spec_l21Propose [(.t 13, [none, some 4, some 2]), (.t 15, []), (.t 17, [])]⟩,
   ⟨none, none, .store 4 (.t 4) (.t 18)⟩])
 .ret)
 (.seq
 (.rg [⟨some 20, none, .bin 0 .eql (.t 6) (.k (.int .i64 3))⟩,
   ⟨some 19, none, .mv (.t 20)⟩])
 (.cond (.t 19)
 (.seq
 (.rg [⟨some 21, none, .load (some 4) (.t 2)⟩,
   ⟨some 22, none, .fld 1 (.t 3)⟩,
   ⟨some 23, none, .load none (.t 22)⟩,
   ⟨some 24, none, .fld 2 (.t 3)⟩,
   ⟨some 25, none, .load none (.t 24)⟩,
   ⟨some 26, none, .callm n_spec_l21Bring S_spec_l21Bring [(.t 21, [none, some 4, some 2]), (.t 23, []), (.t 25, [])]⟩,
   ⟨none, none, .store 4 (.t 4) (.t 26)⟩])
 .ret)
 (.seq
 (.rg [⟨some 28, none, .bin 0 .eql (.t 6) (.k (.int .i64 4))⟩,
   ⟨some 27, none, .mv (.t 28)⟩])
 (.cond (.t 27)
 (.seq
 (.rg [⟨some 29, none, .fld 6 (.t 3)⟩,
   ⟨some 30, none, .load (some 2) (.t 29)⟩,
   ⟨some 31, none, .call n_spec_l3Vote S_spec_l3Vote [(.t 30, [none, some 4])]⟩,
   ⟨some 32, none, .mv (.t 31)⟩,
   ⟨some 33, some (32, true), .fld 6 (.t 3)⟩,
   ⟨some 34, some (32, true), .fld 0 (.t 33)⟩,
   ⟨some 35, some (32, true), .load none (.t 34)⟩,
   ⟨some 36, some (32, true), .fld 3 (.t 2)⟩,
   ⟨some 37, some (32, true), .load none (.t 36)⟩,
   ⟨some 38, some (32, true), .bin 0 .eql (.t 35) (.t 37)⟩,
   ⟨some 39, none, .pick (.t 32) (.t 38) (.k (.bool false))⟩])
 (.cond (.t 39)
 (.seq
 (.rg [⟨some 40, none, .load (some 4) (.t 2)⟩,
   ⟨some 41, none, .fld 6 (.t 3)⟩,
   ⟨some 42, none, .load (some 2) (.t 41)⟩,
   ⟨some 43, none, .callm n_spec_l21Send S_spec_l21Send [(.t 40, [none, some 4, some 2]), (.t 42, [none, some 4]), (.k (.bool true), [])]⟩,
   ⟨none, none, .store 4 (.t 4) (.t 43)⟩])
 .ret)
 .skip))
 .skip))))))))))
 (.seq
 (.rg [⟨some 44, none, .load (some 4) (.t 2)⟩,
   ⟨none, none, .store 4 (.t 4) (.t 44)⟩])
 .ret))) }
theorem is_spec_l21Do : IsF Try.prog n_spec_l21Do c_spec_l21Do := ⟨Try.f25, _, Try.func25, rfl, by decide, rfl, by kernel_rfl, by kernel_rfl⟩
noncomputable def c_spec_l72Forge : FC := { n := 54, res := [⟨some (some 2), 4, [none, some 4]⟩], body :=
 (.seq
 (.rg [⟨some 3, none, .box (.t 1)⟩,
   ⟨some 4, none, .alloc [.int .i64 0, .slice none 0 0]⟩])
 (.seq
 (.rg [⟨some 7, none, .mv (.t 0)⟩,
   ⟨some 8, none, .callm n_spec_l71Chain S_spec_l71Chain [(.t 7, [])]⟩,
   ⟨some 5, none, .mv (.t 8)⟩])
 (.seq
 (.seq
 (.rg [⟨some 9, none, .fld 2 (.t 3)⟩,
   ⟨some 10, none, .load none (.t 9)⟩,
   ⟨some 11, none, .len (.t 10)⟩,
   ⟨some 12, none, .bin 0 .gtr (.t 11) (.k (.int .i64 0))⟩,
   ⟨some 13, none, .mv (.t 12)⟩,
   ⟨some 14, some (13, true), .mv (.t 0)⟩,
   ⟨some 15, some (13, true), .call n_spec_l6Rd_pick S_spec_l6Rd_pick [(.t 14, []), (.k (.int .i64 4), [])]⟩,
   ⟨some 16, some (13, true), .bin 0 .gtr (.t 15) (.k (.int .i64 0))⟩,
   ⟨some 17, none, .pick (.t 13) (.t 16) (.k (.bool false))⟩])
 (.cond (.t 17)
 (.rg [⟨some 18, none, .fld 2 (.t 3)⟩,
   ⟨some 19, none, .load none (.t 18)⟩,
   ⟨some 20, none, .mv (.t 0)⟩,
   ⟨some 21, none, .fld 2 (.t 3)⟩,
   ⟨some 22, none, .load none (.t 21)⟩,
   ⟨some 23, none, .len (.t 22)⟩,
   ⟨some 24, none, .call n_spec_l6Rd_pick S_spec_l6Rd_pick [(.t 20, []), (.t 23, [])]⟩,
   ⟨some 25, none, .idx 2 (.t 19) (.t 24)⟩,
   ⟨some 26, none, .fld 1 (.t 25)⟩,
   ⟨some 27, none, .load none (.t 26)⟩,
   ⟨some 28, none, .callo n_spec_l1Copy SO_spec_l1Copy [(.t 27, [some 4])]⟩,
   ⟨some 5, none, .mv (.t 28)⟩])
 .skip))
 (.seq
 (.seq
 (.rg [⟨some 29, none, .mv (.t 0)⟩,
   ⟨some 30, none, .call n_spec_l6Rd_pick S_spec_l6Rd_pick [(.t 29, []), (.k (.int .i64 2), [])]⟩,
   ⟨some 31, none, .bin 0 .eql (.t 30) (.k (.int .i64 0))⟩])
 (.cond (.t 31)
 (.seq
 (.rg [⟨some 32, none, .fld 1 (.t 3)⟩,
   ⟨some 33, none, .load none (.t 32)⟩,
   ⟨some 34, none, .mv (.t 0)⟩,
   ⟨some 35, none, .call n_spec_l6Rd_pick S_spec_l6Rd_pick [(.t 34, []), (.k (.int .i64 4), [])]⟩,
   ⟨some 36, none, .idx 4 (.t 33) (.t 35)⟩,
   ⟨some 37, none, .load (some 4) (.t 36)⟩,
   ⟨some 6, none, .alloc [.int .i64 0, .int .i64 0, .int .i64 0, .slice none 0 0]⟩,
   ⟨none, none, .store 4 (.t 6) (.t 37)⟩])
 (.rg [⟨some 38, none, .fld 3 (.t 6)⟩,
   ⟨some 39, none, .load none (.t 38)⟩,
   ⟨some 40, none, .call n_spec_l11Tip S_spec_l11Tip [(.t 39, [some 2])]⟩,
   ⟨some 41, none, .callo n_spec_l1Copy SO_spec_l1Copy [(.t 40, [some 4])]⟩,
   ⟨some 42, none, .fld 0 (.t 3)⟩,
   ⟨some 43, none, .load none (.t 42)⟩,
   ⟨some 44, none, .mnmx false (.t 43) (.k (.int .i64 1))⟩,
   ⟨some 45, none, .mv (.t 0)⟩,
   ⟨some 46, none, .call n_spec_l71Pay S_spec_l71Pay [(.t 45, [])]⟩,
   ⟨some 47, none, .build [.int .i64 0, .int .i64 0, .int .i64 0, .int .i64 0] [(0, 1, .t 44), (1, 3, .t 46)]⟩,
   ⟨some 48, none, .bsl 39 4 [.t 47]⟩,
   ⟨some 49, none, .app 39 4 32 [.int .i64 0, .int .i64 0, .int .i64 0, .int .i64 0] (.t 41) (.t 48)⟩,
   ⟨some 5, none, .mv (.t 49)⟩]))
 .skip))
 (.seq
 (.rg [⟨some 50, none, .fld 3 (.t 3)⟩,
   ⟨some 51, none, .load none (.t 50)⟩,
   ⟨some 52, none, .mv (.t 5)⟩,
   ⟨some 53, none, .build [.int .i64 0, .slice none 0 0] [(0, 1, .t 51), (1, 1, .t 52)]⟩,
   ⟨none, none, .store 2 (.t 4) (.t 53)⟩])
 .ret))))) }
theorem is_spec_l72Forge : IsF Try.prog n_spec_l72Forge c_spec_l72Forge := ⟨Try.f99, _, Try.func99, rfl, by decide, rfl, by kernel_rfl, by kernel_rfl⟩
noncomputable def c_spec_l72Event : FC := { n := 64, res := [⟨some (some 8), 4, [none, none, none, none, none, none, none, some 4]⟩], body :=
 (.seq
 (.rg [⟨some 3, none, .box (.t 1)⟩,
   ⟨some 4, none, .alloc [.int .i64 0, .int .i64 0, .int .i64 0, .int .i64 0, .int .i64 0, .int .i64 0, .int .i64 0, .slice none 0 0]⟩])
 (.seq
 (.rg [⟨some 7, none, .fld 2 (.t 3)⟩,
   ⟨some 8, none, .load none (.t 7)⟩,
   ⟨some 9, none, .len (.t 8)⟩,
   ⟨some 5, none, .mv (.t 9)⟩])
 (.seq
 (.seq
 (.rg [⟨some 10, none, .mv (.t 5)⟩,
   ⟨some 11, none, .bin 0 .gtr (.t 10) (.k (.int .i64 0))⟩,
   ⟨some 12, none, .mv (.t 11)⟩,
   ⟨some 13, some (12, true), .mv (.t 0)⟩,
   ⟨some 14, some (12, true), .call n_spec_l6Rd_pick S_spec_l6Rd_pick [(.t 13, []), (.k (.int .i64 8), [])]⟩,
   ⟨some 15, some (12, true), .bin 0 .lss (.t 14) (.k (.int .i64 5))⟩,
   ⟨some 16, none, .pick (.t 12) (.t 15) (.k (.bool false))⟩])
 (.cond (.t 16)
 (.seq
 (.rg [⟨some 17, none, .mv (.t 5)⟩,
   ⟨some 18, none, .bin 0 .sub (.t 17) (.k (.int .i64 1))⟩,
   ⟨some 19, none, .mv (.t 0)⟩,
   ⟨some 20, none, .mv (.t 5)⟩,
   ⟨some 21, none, .mnmx true (.t 20) (.k (.int .i64 6))⟩,
   ⟨some 22, none, .call n_spec_l6Rd_pick S_spec_l6Rd_pick [(.t 19, []), (.t 21, [])]⟩,
   ⟨some 23, none, .bin 0 .sub (.t 18) (.t 22)⟩,
   ⟨some 6, none, .mv (.t 23)⟩])
 (.seq
 (.seq
 (.rg [⟨some 24, none, .mv (.t 0)⟩,
   ⟨some 25, none, .call n_spec_l6Rd_pick S_spec_l6Rd_pick [(.t 24, []), (.k (.int .i64 4), [])]⟩,
   ⟨some 26, none, .bin 0 .eql (.t 25) (.k (.int .i64 0))⟩])
 (.cond (.t 26)
 (.rg [⟨some 27, none, .mv (.t 0)⟩,
   ⟨some 28, none, .mv (.t 5)⟩,
   ⟨some 29, none, .call n_spec_l6Rd_pick S_spec_l6Rd_pick [(.t 27, []), (.t 28, [])]⟩,
   ⟨some 6, none, .mv (.t 29)⟩])
 .skip))
 (.seq
 (.rg [⟨some 30, none, .mv (.t 6)⟩,
   ⟨some 31, none, .mv (.t 0)⟩,
   ⟨some 32, none, .call n_spec_l6Rd_pick S_spec_l6Rd_pick [(.t 31, []), (.k (.int .i64 4), [])]⟩,
   ⟨some 33, none, .bin 0 .add (.k (.int .i64 1)) (.t 32)⟩,
   ⟨some 34, none, .build [.int .i64 0, .int .i64 0, .int .i64 0, .int .i64 0, .int .i64 0, .int .i64 0, .int .i64 0, .slice none 0 0] [(0, 1, .k (.int .i64 3)), (1, 1, .t 30), (2, 1, .t 33)]⟩,
   ⟨none, none, .store 8 (.t 4) (.t 34)⟩])
 .ret)))
 .skip))
 (.seq
 (.seq
 (.rg [⟨some 35, none, .mv (.t 0)⟩,
   ⟨some 36, none, .call n_spec_l6Rd_pick S_spec_l6Rd_pick [(.t 35, []), (.k (.int .i64 8), [])]⟩])
 (.block 0
 (.seq
 (.seq
 (.rg [⟨some 38, none, .bin 0 .eql (.t 36) (.k (.int .i64 0))⟩,
   ⟨some 37, none, .mv (.t 38)⟩])
 (.cond (.t 37)
 .skip
 (.rg [⟨some 39, none, .bin 0 .eql (.t 36) (.k (.int .i64 1))⟩,
   ⟨some 37, none, .mv (.t 39)⟩])))
 (.cond (.t 37)
 (.seq
 (.rg [⟨some 40, none, .build [.int .i64 0, .int .i64 0, .int .i64 0, .int .i64 0, .int .i64 0, .int .i64 0, .int .i64 0, .slice none 0 0] [(0, 1, .k (.int .i64 1))]⟩,
   ⟨none, none, .store 8 (.t 4) (.t 40)⟩])
 .ret)
 (.seq
 (.seq
 (.rg [⟨some 42, none, .bin 0 .eql (.t 36) (.k (.int .i64 2))⟩,
   ⟨some 41, none, .mv (.t 42)⟩])
 (.cond (.t 41)
 .skip
 (.seq
 (.rg [⟨some 43, none, .bin 0 .eql (.t 36) (.k (.int .i64 3))⟩,
   ⟨some 41, none, .mv (.t 43)⟩])
 (.cond (.t 41)
 .skip
 (.rg [⟨some 44, none, .bin 0 .eql (.t 36) (.k (.int .i64 4))⟩,
   ⟨some 41, none, .mv (.t 44)⟩])))))
 (.cond (.t 41)
 (.seq
 (.rg [⟨some 45, none, .fld 0 (.t 3)⟩,
   ⟨some 46, none, .load none (.t 45)⟩,
   ⟨some 47, none, .mnmx false (.t 46) (.k (.int .i64 1))⟩,
   ⟨some 48, none, .call n_spec_l3Leader S_spec_l3Leader [(.t 47, [])]⟩,
   ⟨some 49, none, .mv (.t 0)⟩,
   ⟨some 50, none, .call n_spec_l71Pay S_spec_l71Pay [(.t 49, [])]⟩,
   ⟨some 51, none, .build [.int .i64 0, .int .i64 0, .int .i64 0, .int .i64 0, .int .i64 0, .int .i64 0, .int .i64 0, .slice none 0 0] [(0, 1, .k (.int .i64 2)), (1, 1, .t 48), (3, 3, .t 50)]⟩,
   ⟨none, none, .store 8 (.t 4) (.t 51)⟩])
 .ret)
 (.seq
 (.rg [⟨some 53, none, .bin 0 .eql (.t 36) (.k (.int .i64 5))⟩,
   ⟨some 52, none, .mv (.t 53)⟩])
 (.cond (.t 52)
 (.seq
 (.rg [⟨some 54, none, .mv (.t 0)⟩,
   ⟨some 55, none, .call n_spec_l6Rd_pick S_spec_l6Rd_pick [(.t 54, []), (.k (.int .i64 4), [])]⟩,
   ⟨some 56, none, .bin 0 .add (.k (.int .i64 1)) (.t 55)⟩,
   ⟨some 57, none, .mv (.t 0)⟩,
   ⟨some 58, none, .call n_spec_l71Pay S_spec_l71Pay [(.t 57, [])]⟩,
   ⟨some 59, none, .build [.int .i64 0, .int .i64 0, .int .i64 0, .int .i64 0, .int .i64 0, .int .i64 0, .int .i64 0, .slice none 0 0] [(0, 1, .k (.int .i64 2)), (1, 1, .t 56), (3, 3, .t 58)]⟩,
   ⟨none, none, .store 8 (.t 4) (.t 59)⟩])
 .ret)
 .skip))))))))
 (.seq
 (.rg [⟨some 60, none, .mv (.t 0)⟩,
   ⟨some 61, none, .load (some 4) (.t 3)⟩,
   ⟨some 62, none, .callm n_spec_l72Forge S_spec_l72Forge [(.t 60, []), (.t 61, [none, some 4, some 2])]⟩,
   ⟨some 63, none, .build [.int .i64 0, .int .i64 0, .int .i64 0, .int .i64 0, .int .i64 0, .int .i64 0, .int .i64 0, .slice none 0 0] [(0, 1, .k (.int .i64 4)), (6, 2, .t 62)]⟩,
   ⟨none, none, .store 8 (.t 4) (.t 63)⟩])
 .ret))))) }
theorem is_spec_l72Event : IsF Try.prog n_spec_l72Event c_spec_l72Event := ⟨Try.f52, _, Try.func52, rfl, by decide, rfl, by kernel_rfl, by kernel_rfl⟩
noncomputable def c_spec_l72Play : FC := { n := 120, res := [⟨none, 2, []⟩, ⟨none, 3, [some 8]⟩, ⟨some (some 4), 4, [none, some 4, some 2]⟩], body :=
 (.seq
 (.rg [⟨some 2, none, .mv (.k (.int .i64 0))⟩,
   ⟨some 3, none, .mv (.k (.slice none 0 0))⟩,
   ⟨some 4, none, .alloc [.int .i64 0, .slice none 0 0, .slice none 0 0, .int .i64 0]⟩])
 (.seq
 (.rg [⟨some 17, none, .mv (.t 0)⟩,
   ⟨some 18, none, .call n_spec_l6Rd_pick S_spec_l6Rd_pick [(.t 17, []), (.k (.int .i64 5), [])]⟩,
   ⟨some 5, none, .mv (.t 18)⟩])
 (.seq
 (.rg [⟨some 20, none, .mv (.t 5)⟩,
   ⟨some 21, none, .callm n_spec_WorldNew S_spec_WorldNew [(.t 20, [])]⟩,
   ⟨some 19, none, .mv (.t 21)⟩,
   ⟨some 22, none, .ext (.t 19) 0⟩,
   ⟨some 23, none, .ext (.t 19) 1⟩,
   ⟨some 6, none, .alloc [.int .i64 0, .slice none 0 0, .slice none 0 0, .int .i64 0]⟩,
   ⟨none, none, .store 4 (.t 6) (.t 22)⟩,
   ⟨some 7, none, .mv (.t 23)⟩])
 (.seq
 (.rg [⟨some 24, none, .bsl 65 8 []⟩,
   ⟨some 8, none, .mv (.t 24)⟩])
 (.seq
 (.seq
 (.rg [⟨some 25, none, .mv (.t 0)⟩,
   ⟨some 26, none, .call n_spec_l6Rd_pick S_spec_l6Rd_pick [(.t 25, []), (.k (.int .i64 5), [])]⟩,
   ⟨some 9, none, .mv (.t 26)⟩])
 (.block 0
 (.loop
 (.seq
 (.seq
 (.rg [⟨some 27, none, .mv (.t 9)⟩,
   ⟨some 28, none, .bin 0 .gtr (.t 27) (.k (.int .i64 0))⟩])
 (.cond (.t 28)
 .skip
 (.exit 0)))
 (.seq
 (.block 1
 (.seq
 (.seq
 (.rg [⟨some 31, none, .build [.int .i64 0, .int .i64 0, .int .i64 0, .int .i64 0, .int .i64 0, .int .i64 0, .int .i64 0, .slice none 0 0] [(0, 1, .k (.int .i64 1))]⟩,
   ⟨some 32, none, .fld 0 (.t 6)⟩,
   ⟨some 33, none, .load none (.t 32)⟩,
   ⟨some 34, none, .bin 0 .add (.t 33) (.k (.int .i64 1))⟩,
   ⟨some 35, none, .call n_spec_l3Leader S_spec_l3Leader [(.t 34, [])]⟩,
   ⟨some 36, none, .mv (.t 0)⟩,
   ⟨some 37, none, .call n_spec_l71Pay S_spec_l71Pay [(.t 36, [])]⟩,
   ⟨some 38, none, .build [.int .i64 0, .int .i64 0, .int .i64 0, .int .i64 0, .int .i64 0, .int .i64 0, .int .i64 0, .slice none 0 0] [(0, 1, .k (.int .i64 2)), (1, 1, .t 35), (3, 3, .t 37)]⟩,
   ⟨some 39, none, .bsl 65 8 [.t 31, .t 38]⟩,
   ⟨some 40, none, .len (.t 39)⟩,
   ⟨some 41, none, .mv (.k (.int .i64 0))⟩])
 (.block 2
 (.loop
 (.seq
 (.rg [⟨some 42, none, .bin 0 .lss (.t 41) (.t 40)⟩])
 (.seq
 (.cond (.t 42)
 .skip
 (.exit 2))
 (.seq
 (.block 3
 (.seq
 (.rg [⟨some 43, none, .idx 8 (.t 39) (.t 41)⟩,
   ⟨some 44, none, .load (some 8) (.t 43)⟩,
   ⟨some 11, none, .alloc [.int .i64 0, .int .i64 0, .int .i64 0, .int .i64 0, .int .i64 0, .int .i64 0, .int .i64 0, .slice none 0 0]⟩,
   ⟨none, none, .store 8 (.t 11) (.t 44)⟩])
 (.seq
 (.rg [⟨some 45, none, .mv (.t 8)⟩,
   ⟨some 46, none, .load (some 8) (.t 11)⟩,
   ⟨some 47, none, .bsl 65 8 [.t 46]⟩,
   ⟨some 48, none, .app 65 8 80 [.int .i64 0, .int .i64 0, .int .i64 0, .int .i64 0, .int .i64 0, .int .i64 0, .int .i64 0, .slice none 0 0] (.t 45) (.t 47)⟩,
   ⟨some 8, none, .mv (.t 48)⟩])
 (.rg [⟨some 49, none, .load (some 4) (.t 6)⟩,
   ⟨some 50, none, .load (some 8) (.t 11)⟩,
   ⟨some 51, none, .callm n_spec_l21Do S_spec_l21Do [(.t 49, [none, some 4, some 2]), (.t 50, [none, none, none, none, none, none, none, some 4])]⟩,
   ⟨none, none, .store 4 (.t 6) (.t 51)⟩]))))
 (.rg [⟨some 52, none, .bin 0 .add (.t 41) (.k (.int .i64 1))⟩,
   ⟨some 41, none, .mv (.t 52)⟩])))))))
 (.seq
 (.seq
 (.rg [⟨some 12, none, .mv (.k (.int .i64 1))⟩])
 (.block 4
 (.loop
 (.seq
 (.seq
 (.rg [⟨some 53, none, .mv (.t 12)⟩,
   ⟨some 54, none, .bin 0 .leq (.t 53) (.k (.int .i64 4))⟩,
   ⟨some 55, none, .mv (.t 54)⟩,
   ⟨some 56, some (55, true), .fld 2 (.t 6)⟩,
   ⟨some 57, some (55, true), .load none (.t 56)⟩,
   ⟨some 58, some (55, true), .len (.t 57)⟩,
   ⟨some 59, some (55, true), .bin 0 .gtr (.t 58) (.k (.int .i64 0))⟩,
   ⟨some 60, none, .pick (.t 55) (.t 59) (.k (.bool false))⟩])
 (.cond (.t 60)
 .skip
 (.exit 4)))
 (.seq
 (.block 5
 (.seq
 (.rg [⟨some 63, none, .fld 2 (.t 6)⟩,
   ⟨some 64, none, .load none (.t 63)⟩,
   ⟨some 65, none, .len (.t 64)⟩,
   ⟨some 66, none, .bin 0 .sub (.t 65) (.k (.int .i64 1))⟩,
   ⟨some 67, none, .mv (.t 12)⟩,
   ⟨some 68, none, .build [.int .i64 0, .int .i64 0, .int .i64 0, .int .i64 0, .int .i64 0, .int .i64 0, .int .i64 0, .slice none 0 0] [(0, 1, .k (.int .i64 3)), (1, 1, .t 66), (2, 1, .t 67)]⟩,
   ⟨some 13, none, .alloc [.int .i64 0, .int .i64 0, .int .i64 0, .int .i64 0, .int .i64 0, .int .i64 0, .int .i64 0, .slice none 0 0]⟩,
   ⟨none, none, .store 8 (.t 13) (.t 68)⟩])
 (.seq
 (.rg [⟨some 69, none, .mv (.t 8)⟩,
   ⟨some 70, none, .load (some 8) (.t 13)⟩,
   ⟨some 71, none, .bsl 65 8 [.t 70]⟩,
   ⟨some 72, none, .app 65 8 80 [.int .i64 0, .int .i64 0, .int .i64 0, .int .i64 0, .int .i64 0, .int .i64 0, .int .i64 0, .slice none 0 0] (.t 69) (.t 71)⟩,
   ⟨some 8, none, .mv (.t 72)⟩])
 (.rg [⟨some 73, none, .load (some 4) (.t 6)⟩,
   ⟨some 74, none, .load (some 8) (.t 13)⟩,
   ⟨some 75, none, .callm n_spec_l21Do S_spec_l21Do [(.t 73, [none, some 4, some 2]), (.t 74, [none, none, none, none, none, none, none, some 4])]⟩,
   ⟨none, none, .store 4 (.t 6) (.t 75)⟩]))))
 (.rg [⟨some 61, none, .mv (.t 12)⟩,
   ⟨some 62, none, .bin 0 .add (.t 61) (.k (.int .i64 1))⟩,
   ⟨some 12, none, .mv (.t 62)⟩]))))))
 (.seq
 (.rg [⟨some 14, none, .mv (.k (.int .i64 1))⟩])
 (.block 6
 (.loop
 (.seq
 (.seq
 (.rg [⟨some 76, none, .mv (.t 14)⟩,
   ⟨some 77, none, .bin 0 .leq (.t 76) (.k (.int .i64 4))⟩,
   ⟨some 78, none, .mv (.t 77)⟩,
   ⟨some 79, some (78, true), .fld 2 (.t 6)⟩,
   ⟨some 80, some (78, true), .load none (.t 79)⟩,
   ⟨some 81, some (78, true), .len (.t 80)⟩,
   ⟨some 82, some (78, true), .bin 0 .gtr (.t 81) (.k (.int .i64 1))⟩,
   ⟨some 83, none, .pick (.t 78) (.t 82) (.k (.bool false))⟩])
 (.cond (.t 83)
 .skip
 (.exit 6)))
 (.seq
 (.block 7
 (.seq
 (.rg [⟨some 86, none, .fld 2 (.t 6)⟩,
   ⟨some 87, none, .load none (.t 86)⟩,
   ⟨some 88, none, .len (.t 87)⟩,
   ⟨some 89, none, .bin 0 .sub (.t 88) (.k (.int .i64 2))⟩,
   ⟨some 90, none, .mv (.t 14)⟩,
   ⟨some 91, none, .build [.int .i64 0, .int .i64 0, .int .i64 0, .int .i64 0, .int .i64 0, .int .i64 0, .int .i64 0, .slice none 0 0] [(0, 1, .k (.int .i64 3)), (1, 1, .t 89), (2, 1, .t 90)]⟩,
   ⟨some 15, none, .alloc [.int .i64 0, .int .i64 0, .int .i64 0, .int .i64 0, .int .i64 0, .int .i64 0, .int .i64 0, .slice none 0 0]⟩,
   ⟨none, none, .store 8 (.t 15) (.t 91)⟩])
 (.seq
 (.rg [⟨some 92, none, .mv (.t 8)⟩,
   ⟨some 93, none, .load (some 8) (.t 15)⟩,
   ⟨some 94, none, .bsl 65 8 [.t 93]⟩,
   ⟨some 95, none, .app 65 8 80 [.int .i64 0, .int .i64 0, .int .i64 0, .int .i64 0, .int .i64 0, .int .i64 0, .int .i64 0, .slice none 0 0] (.t 92) (.t 94)⟩,
   ⟨some 8, none, .mv (.t 95)⟩])
 (.rg [⟨some 96, none, .load (some 4) (.t 6)⟩,
   ⟨some 97, none, .load (some 8) (.t 15)⟩,
   ⟨some 98, none, .callm n_spec_l21Do S_spec_l21Do [(.t 96, [none, some 4, some 2]), (.t 97, [none, none, none, none, none, none, none, some 4])]⟩,
   ⟨none, none, .store 4 (.t 6) (.t 98)⟩]))))
 (.rg [⟨some 84, none, .mv (.t 14)⟩,
   ⟨some 85, none, .bin 0 .add (.t 84) (.k (.int .i64 1))⟩,
   ⟨some 14, none, .mv (.t 85)⟩])))))))))
 (.rg [⟨some 29, none, .mv (.t 9)⟩,
   ⟨some 30, none, .bin 0 .sub (.t 29) (.k (.int .i64 1))⟩,
   ⟨some 9, none, .mv (.t 30)⟩]))))))
 (.seq
 (.block 8
 (.loop
 (.seq
 (.seq
 (.rg [⟨some 99, none, .mv (.t 8)⟩,
   ⟨some 100, none, .len (.t 99)⟩,
   ⟨some 101, none, .bin 0 .lss (.t 100) (.k (.int .i64 69))⟩,
   ⟨some 102, none, .mv (.t 101)⟩,
   ⟨some 103, some (102, true), .mv (.t 0)⟩,
   ⟨some 104, some (102, true), .call n_spec_l6Rd_pick S_spec_l6Rd_pick [(.t 103, []), (.k (.int .i64 40), [])]⟩,
   ⟨some 105, some (102, true), .bin 0 .gtr (.t 104) (.k (.int .i64 0))⟩,
   ⟨some 106, none, .pick (.t 102) (.t 105) (.k (.bool false))⟩])
 (.cond (.t 106)
 .skip
 (.exit 8)))
 (.block 9
 (.seq
 (.rg [⟨some 107, none, .mv (.t 0)⟩,
   ⟨some 108, none, .load (some 4) (.t 6)⟩,
   ⟨some 109, none, .callm n_spec_l72Event S_spec_l72Event [(.t 107, []), (.t 108, [none, some 4, some 2])]⟩,
   ⟨some 16, none, .alloc [.int .i64 0, .int .i64 0, .int .i64 0, .int .i64 0, .int .i64 0, .int .i64 0, .int .i64 0, .slice none 0 0]⟩,
   ⟨none, none, .store 8 (.t 16) (.t 109)⟩])
 (.seq
 (.rg [⟨some 110, none, .mv (.t 8)⟩,
   ⟨some 111, none, .load (some 8) (.t 16)⟩,
   ⟨some 112, none, .bsl 65 8 [.t 111]⟩,
   ⟨some 113, none, .app 65 8 80 [.int .i64 0, .int .i64 0, .int .i64 0, .int .i64 0, .int .i64 0, .int .i64 0, .int .i64 0, .slice none 0 0] (.t 110) (.t 112)⟩,
   ⟨some 8, none, .mv (.t 113)⟩])
 (.rg [⟨some 114, none, .load (some 4) (.t 6)⟩,
   ⟨some 115, none, .load (some 8) (.t 16)⟩,
   ⟨some 116, none, .callm n_spec_l21Do S_spec_l21Do [(.t 114, [none, some 4, some 2]), (.t 115, [none, none, none, none, none, none, none, some 4])]⟩,
   ⟨none, none, .store 4 (.t 6) (.t 116)⟩])))))))
 (.seq
 (.rg [⟨some 117, none, .mv (.t 5)⟩,
   ⟨some 118, none, .mv (.t 8)⟩,
   ⟨some 119, none, .load (some 4) (.t 6)⟩,
   ⟨some 2, none, .mv (.t 117)⟩,
   ⟨some 3, none, .mv (.t 118)⟩,
   ⟨none, none, .store 4 (.t 4) (.t 119)⟩])
 .ret))))))) }
theorem is_spec_l72Play : IsF Try.prog n_spec_l72Play c_spec_l72Play := ⟨Try.f19, _, Try.func19, rfl, by decide, rfl, by kernel_rfl, by kernel_rfl⟩
end Av
end Go.Proofs.Ytlbdoamidblkaaa
