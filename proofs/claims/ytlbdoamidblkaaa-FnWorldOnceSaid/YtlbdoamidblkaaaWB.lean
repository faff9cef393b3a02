/- The functions' code in the small language, and that it is theirs. -/
import Derived.Test.YtlbdoamidblkaaaWQ
import Derived.Test.YtlbdoamidblkaaaJ10
import Derived.Test.YtlbdoamidblkaaaProg
import Derived.KernelRfl
set_option linter.unusedVariables false
namespace Go.Proofs.Ytlbdoamidblkaaa
namespace Av
noncomputable def c_impl_WorldNew : FC := { n := 25, res := [⟨some (some 4), 2, [none, some 4, some 2]⟩, ⟨none, 3, []⟩], body :=
 (.seq
 (.rg [⟨some 2, none, .alloc [.int .i64 0, .slice none 0 0, .slice none 0 0, .int .i64 0]⟩,
   ⟨some 3, none, .mv (.k (.bool false))⟩])
 (.seq
 (.seq
 (.rg [⟨some 6, none, .mv (.t 0)⟩,
   ⟨some 7, none, .call n_impl_within S_impl_within [(.t 6, []), (.k (.int .i64 0), []), (.k (.int .i64 4), [])]⟩,
   ⟨some 8, none, .un .not (.t 7)⟩])
 (.cond (.t 8)
 (.seq
 (.rg [⟨some 9, none, .build [.int .i64 0, .slice none 0 0, .slice none 0 0, .int .i64 0] []⟩,
   ⟨none, none, .store 4 (.t 2) (.t 9)⟩,
   ⟨some 3, none, .mv (.k (.bool false))⟩])
 .ret)
 .skip))
 (.seq
 (.rg [⟨some 10, none, .mv (.t 0)⟩,
   ⟨some 11, none, .mksl 73 4 48 [.int .i64 0, .int .i64 0, .int .i64 0, .slice none 0 0] (.k (.int .i64 0)) (.k (.int .i64 4))⟩,
   ⟨some 12, none, .build [.int .i64 0, .slice none 0 0, .slice none 0 0, .int .i64 0] [(3, 1, .t 10), (1, 1, .t 11)]⟩,
   ⟨some 4, none, .alloc [.int .i64 0, .slice none 0 0, .slice none 0 0, .int .i64 0]⟩,
   ⟨none, none, .store 4 (.t 4) (.t 12)⟩])
 (.seq
 (.seq
 (.rg [⟨some 5, none, .mv (.k (.int .i64 1))⟩])
 (.block 0
 (.loop
 (.seq
 (.seq
 (.rg [⟨some 13, none, .mv (.t 5)⟩,
   ⟨some 14, none, .bin 0 .leq (.t 13) (.k (.int .i64 4))⟩])
 (.cond (.t 14)
 .skip
 (.exit 0)))
 (.seq
 (.block 1
 (.rg [⟨some 17, none, .fld 1 (.t 4)⟩,
   ⟨some 18, none, .load none (.t 17)⟩,
   ⟨some 19, none, .mv (.t 5)⟩,
   ⟨some 20, none, .build [.int .i64 0, .int .i64 0, .int .i64 0, .slice none 0 0] [(0, 1, .t 19)]⟩,
   ⟨some 21, none, .bsl 73 4 [.t 20]⟩,
   ⟨some 22, none, .app 73 4 48 [.int .i64 0, .int .i64 0, .int .i64 0, .slice none 0 0] (.t 18) (.t 21)⟩,
   ⟨some 23, none, .fld 1 (.t 4)⟩,
   ⟨none, none, .store 1 (.t 23) (.t 22)⟩]))
 (.rg [⟨some 15, none, .mv (.t 5)⟩,
   ⟨some 16, none, .bin 0 .add (.t 15) (.k (.int .i64 1))⟩,
   ⟨some 5, none, .mv (.t 16)⟩]))))))
 (.seq
 (.rg [⟨some 24, none, .load (some 4) (.t 4)⟩,
   ⟨none, none, .store 4 (.t 2) (.t 24)⟩,
   ⟨some 3, none, .mv (.k (.bool true))⟩])
 .ret))))) }
theorem is_impl_WorldNew : IsF Try.prog n_impl_WorldNew c_impl_WorldNew := ⟨Try.f21, _, Try.func21, rfl, by decide, rfl, by kernel_rfl, by kernel_rfl⟩
noncomputable def c_impl_World_honest : FC := { n := 31, res := [⟨none, 4, []⟩], body :=
 (.seq
 (.rg [⟨some 4, none, .mv (.k (.pointer none))⟩])
 (.seq
 (.seq
 (.rg [⟨some 5, none, .mv (.t 1)⟩,
   ⟨some 6, none, .call n_impl_nodeOk S_impl_nodeOk [(.t 5, [])]⟩,
   ⟨some 7, none, .un .not (.t 6)⟩,
   ⟨some 8, none, .mv (.t 7)⟩,
   ⟨some 9, some (8, false), .mv (.t 1)⟩,
   ⟨some 10, some (8, false), .mv (.t 0)⟩,
   ⟨some 11, some (8, false), .nilc (.t 10)⟩,
   ⟨some 12, some (8, false), .fld 3 (.t 11)⟩,
   ⟨some 13, some (8, false), .load none (.t 12)⟩,
   ⟨some 14, some (8, false), .bin 0 .eql (.t 9) (.t 13)⟩,
   ⟨some 15, none, .pick (.t 8) (.k (.bool true)) (.t 14)⟩,
   ⟨some 16, none, .mv (.t 15)⟩,
   ⟨some 17, some (16, false), .mv (.t 0)⟩,
   ⟨some 18, some (16, false), .nilc (.t 17)⟩,
   ⟨some 19, some (16, false), .fld 2 (.t 18)⟩,
   ⟨some 20, some (16, false), .load none (.t 19)⟩,
   ⟨some 21, some (16, false), .len (.t 20)⟩,
   ⟨some 22, some (16, false), .bin 0 .geq (.t 21) (.k (.int .i64 80))⟩,
   ⟨some 23, none, .pick (.t 16) (.k (.bool true)) (.t 22)⟩])
 (.cond (.t 23)
 (.seq
 (.rg [⟨some 4, none, .mv (.k (.pointer none))⟩])
 .ret)
 .skip))
 (.seq
 (.rg [⟨some 24, none, .mv (.t 0)⟩,
   ⟨some 25, none, .nilc (.t 24)⟩,
   ⟨some 26, none, .fld 1 (.t 25)⟩,
   ⟨some 27, none, .load none (.t 26)⟩,
   ⟨some 28, none, .mv (.t 1)⟩,
   ⟨some 29, none, .bin 0 .sub (.t 28) (.k (.int .i64 1))⟩,
   ⟨some 30, none, .idx 4 (.t 27) (.t 29)⟩,
   ⟨some 4, none, .mv (.t 30)⟩])
 .ret))) }
theorem is_impl_World_honest : IsF Try.prog n_impl_World_honest c_impl_World_honest := ⟨Try.f101, _, Try.func101, rfl, by decide, rfl, by kernel_rfl, by kernel_rfl⟩
noncomputable def c_impl_World_send : FC := { n := 28, res := [], body :=
 (.seq
 (.rg [⟨some 3, none, .box (.t 1)⟩])
 (.seq
 (.rg [⟨some 4, none, .mv (.t 0)⟩,
   ⟨some 5, none, .nilc (.t 4)⟩,
   ⟨some 6, none, .fld 2 (.t 5)⟩,
   ⟨some 7, none, .load none (.t 6)⟩,
   ⟨some 8, none, .load (some 2) (.t 3)⟩,
   ⟨some 9, none, .call n_impl_votes_has S_impl_votes_has [(.t 7, [some 2]), (.t 8, [none, some 4])]⟩,
   ⟨some 10, none, .un .not (.t 9)⟩,
   ⟨some 11, none, .mv (.t 10)⟩,
   ⟨some 12, some (11, true), .mv (.t 0)⟩,
   ⟨some 13, some (11, true), .nilc (.t 12)⟩,
   ⟨some 14, some (11, true), .fld 2 (.t 13)⟩,
   ⟨some 15, some (11, true), .load none (.t 14)⟩,
   ⟨some 16, some (11, true), .len (.t 15)⟩,
   ⟨some 17, some (11, true), .bin 0 .lss (.t 16) (.k (.int .i64 80))⟩,
   ⟨some 18, none, .pick (.t 11) (.t 17) (.k (.bool false))⟩])
 (.cond (.t 18)
 (.rg [⟨some 19, none, .mv (.t 0)⟩,
   ⟨some 20, none, .mv (.t 0)⟩,
   ⟨some 21, none, .nilc (.t 20)⟩,
   ⟨some 22, none, .fld 2 (.t 21)⟩,
   ⟨some 23, none, .load none (.t 22)⟩,
   ⟨some 24, none, .load (some 2) (.t 3)⟩,
   ⟨some 25, none, .call n_impl_votes_with S_impl_votes_with [(.t 23, [some 2]), (.t 24, [none, some 4])]⟩,
   ⟨some 26, none, .nilc (.t 19)⟩,
   ⟨some 27, none, .fld 2 (.t 26)⟩,
   ⟨none, none, .store 1 (.t 27) (.t 25)⟩])
 .skip))) }
theorem is_impl_World_send : IsF Try.prog n_impl_World_send c_impl_World_send := ⟨Try.f58, _, Try.func58, rfl, by decide, rfl, by kernel_rfl, by kernel_rfl⟩
noncomputable def c_impl_World_tick : FC := { n := 36, res := [], body :=
 (.seq
 (.rg [⟨some 4, none, .mv (.t 0)⟩,
   ⟨some 5, none, .mv (.t 0)⟩,
   ⟨some 6, none, .nilc (.t 5)⟩,
   ⟨some 7, none, .fld 0 (.t 6)⟩,
   ⟨some 8, none, .load none (.t 7)⟩,
   ⟨some 9, none, .bin 0 .add (.t 8) (.k (.int .i64 1))⟩,
   ⟨some 10, none, .mnmx true (.t 9) (.k (.int .i64 30))⟩,
   ⟨some 11, none, .nilc (.t 4)⟩,
   ⟨some 12, none, .fld 0 (.t 11)⟩,
   ⟨none, none, .store 1 (.t 12) (.t 10)⟩])
 (.seq
 (.rg [⟨some 13, none, .mv (.t 0)⟩,
   ⟨some 14, none, .nilc (.t 13)⟩,
   ⟨some 15, none, .fld 1 (.t 14)⟩,
   ⟨some 16, none, .load none (.t 15)⟩,
   ⟨some 17, none, .len (.t 16)⟩,
   ⟨some 18, none, .mv (.k (.int .i64 0))⟩])
 (.block 0
 (.loop
 (.seq
 (.rg [⟨some 19, none, .bin 0 .lss (.t 18) (.t 17)⟩])
 (.seq
 (.cond (.t 19)
 .skip
 (.exit 0))
 (.seq
 (.block 1
 (.seq
 (.rg [⟨some 20, none, .mv (.t 18)⟩,
   ⟨some 21, none, .idx 4 (.t 16) (.t 18)⟩,
   ⟨some 22, none, .load (some 4) (.t 21)⟩,
   ⟨some 3, none, .alloc [.int .i64 0, .int .i64 0, .int .i64 0, .slice none 0 0]⟩,
   ⟨some 2, none, .mv (.t 20)⟩,
   ⟨none, none, .store 4 (.t 3) (.t 22)⟩])
 (.rg [⟨some 23, none, .mv (.t 0)⟩,
   ⟨some 24, none, .nilc (.t 23)⟩,
   ⟨some 25, none, .fld 1 (.t 24)⟩,
   ⟨some 26, none, .load none (.t 25)⟩,
   ⟨some 27, none, .mv (.t 2)⟩,
   ⟨some 28, none, .load (some 4) (.t 3)⟩,
   ⟨some 29, none, .mv (.t 0)⟩,
   ⟨some 30, none, .nilc (.t 29)⟩,
   ⟨some 31, none, .fld 0 (.t 30)⟩,
   ⟨some 32, none, .load none (.t 31)⟩,
   ⟨some 33, none, .call n_impl_Node_enter S_impl_Node_enter [(.t 28, [none, none, none, some 2]), (.t 32, [])]⟩,
   ⟨some 34, none, .idx 4 (.t 26) (.t 27)⟩,
   ⟨none, none, .store 4 (.t 34) (.t 33)⟩])))
 (.rg [⟨some 35, none, .bin 0 .add (.t 18) (.k (.int .i64 1))⟩,
   ⟨some 18, none, .mv (.t 35)⟩])))))))) }
theorem is_impl_World_tick : IsF Try.prog n_impl_World_tick c_impl_World_tick := ⟨Try.f54, _, Try.func54, rfl, by decide, rfl, by kernel_rfl, by kernel_rfl⟩
noncomputable def c_impl_World_propose : FC := { n := 36, res := [], body :=
 (.seq
 (.rg [⟨some 5, none, .box (.t 2)⟩])
 (.seq
 (.rg [⟨some 10, none, .mv (.t 0)⟩,
   ⟨some 11, none, .mv (.t 1)⟩,
   ⟨some 12, none, .callm n_impl_World_honest S_impl_World_honest [(.t 10, []), (.t 11, [])]⟩,
   ⟨some 6, none, .mv (.t 12)⟩])
 (.seq
 (.seq
 (.rg [⟨some 13, none, .mv (.t 6)⟩,
   ⟨some 14, none, .bin 2 .eql (.t 13) (.k (.pointer none))⟩,
   ⟨some 15, none, .mv (.t 14)⟩,
   ⟨some 16, some (15, false), .load (some 3) (.t 5)⟩,
   ⟨some 17, some (15, false), .call n_impl_PayOk S_impl_PayOk [(.t 16, [])]⟩,
   ⟨some 18, some (15, false), .un .not (.t 17)⟩,
   ⟨some 19, none, .pick (.t 15) (.k (.bool true)) (.t 18)⟩])
 (.cond (.t 19)
 .ret
 .skip))
 (.seq
 (.rg [⟨some 21, none, .mv (.t 6)⟩,
   ⟨some 22, none, .nilc (.t 21)⟩,
   ⟨some 23, none, .load (some 4) (.t 22)⟩,
   ⟨some 24, none, .load (some 3) (.t 5)⟩,
   ⟨some 25, none, .call n_impl_Node_propose S_impl_Node_propose [(.t 23, []), (.t 24, [])]⟩,
   ⟨some 20, none, .mv (.t 25)⟩,
   ⟨some 26, none, .ext (.t 20) 0⟩,
   ⟨some 27, none, .ext (.t 20) 1⟩,
   ⟨some 28, none, .ext (.t 20) 2⟩,
   ⟨some 7, none, .alloc [.int .i64 0, .int .i64 0, .int .i64 0, .slice none 0 0]⟩,
   ⟨some 8, none, .alloc [.int .i64 0, .slice none 0 0]⟩,
   ⟨none, none, .store 4 (.t 7) (.t 26)⟩,
   ⟨none, none, .store 2 (.t 8) (.t 27)⟩,
   ⟨some 9, none, .mv (.t 28)⟩])
 (.seq
 (.rg [⟨some 29, none, .mv (.t 6)⟩,
   ⟨some 30, none, .load (some 4) (.t 7)⟩,
   ⟨some 31, none, .nilc (.t 29)⟩,
   ⟨none, none, .store 4 (.t 31) (.t 30)⟩])
 (.seq
 (.rg [⟨some 32, none, .mv (.t 9)⟩])
 (.cond (.t 32)
 (.rg [⟨some 33, none, .mv (.t 0)⟩,
   ⟨some 34, none, .load (some 2) (.t 8)⟩,
   ⟨some 35, none, .callm n_impl_World_send S_impl_World_send [(.t 33, []), (.t 34, [none, some 4])]⟩])
 .skip))))))) }
theorem is_impl_World_propose : IsF Try.prog n_impl_World_propose c_impl_World_propose := ⟨Try.f55, _, Try.func55, rfl, by decide, rfl, by kernel_rfl, by kernel_rfl⟩
noncomputable def c_impl_World_bring : FC := { n := 48, res := [], body :=
 (.seq
 (.rg [⟨some 10, none, .mv (.t 0)⟩,
   ⟨some 11, none, .mv (.t 2)⟩,
   ⟨some 12, none, .callm n_impl_World_honest S_impl_World_honest [(.t 10, []), (.t 11, [])]⟩,
   ⟨some 6, none, .mv (.t 12)⟩])
 (.seq
 (.seq
 (.rg [⟨some 13, none, .mv (.t 6)⟩,
   ⟨some 14, none, .bin 2 .eql (.t 13) (.k (.pointer none))⟩,
   ⟨some 15, none, .mv (.t 14)⟩,
   ⟨some 16, some (15, false), .mv (.t 1)⟩,
   ⟨some 17, some (15, false), .mv (.t 0)⟩,
   ⟨some 18, some (15, false), .nilc (.t 17)⟩,
   ⟨some 19, some (15, false), .fld 2 (.t 18)⟩,
   ⟨some 20, some (15, false), .load none (.t 19)⟩,
   ⟨some 21, some (15, false), .len (.t 20)⟩,
   ⟨some 22, some (15, false), .bin 0 .sub (.t 21) (.k (.int .i64 1))⟩,
   ⟨some 23, some (15, false), .call n_impl_within S_impl_within [(.t 16, []), (.k (.int .i64 0), []), (.t 22, [])]⟩,
   ⟨some 24, some (15, false), .un .not (.t 23)⟩,
   ⟨some 25, none, .pick (.t 15) (.k (.bool true)) (.t 24)⟩])
 (.cond (.t 25)
 .ret
 .skip))
 (.seq
 (.rg [⟨some 27, none, .mv (.t 6)⟩,
   ⟨some 28, none, .nilc (.t 27)⟩,
   ⟨some 29, none, .load (some 4) (.t 28)⟩,
   ⟨some 30, none, .mv (.t 0)⟩,
   ⟨some 31, none, .nilc (.t 30)⟩,
   ⟨some 32, none, .fld 2 (.t 31)⟩,
   ⟨some 33, none, .load none (.t 32)⟩,
   ⟨some 34, none, .mv (.t 1)⟩,
   ⟨some 35, none, .idx 2 (.t 33) (.t 34)⟩,
   ⟨some 36, none, .load (some 2) (.t 35)⟩,
   ⟨some 37, none, .call n_impl_Node_hear S_impl_Node_hear [(.t 29, []), (.t 36, [none, some 4])]⟩,
   ⟨some 26, none, .mv (.t 37)⟩,
   ⟨some 38, none, .ext (.t 26) 0⟩,
   ⟨some 39, none, .ext (.t 26) 1⟩,
   ⟨some 40, none, .ext (.t 26) 2⟩,
   ⟨some 7, none, .alloc [.int .i64 0, .int .i64 0, .int .i64 0, .slice none 0 0]⟩,
   ⟨some 8, none, .alloc [.int .i64 0, .slice none 0 0]⟩,
   ⟨none, none, .store 4 (.t 7) (.t 38)⟩,
   ⟨none, none, .store 2 (.t 8) (.t 39)⟩,
   ⟨some 9, none, .mv (.t 40)⟩])
 (.seq
 (.rg [⟨some 41, none, .mv (.t 6)⟩,
   ⟨some 42, none, .load (some 4) (.t 7)⟩,
   ⟨some 43, none, .nilc (.t 41)⟩,
   ⟨none, none, .store 4 (.t 43) (.t 42)⟩])
 (.seq
 (.rg [⟨some 44, none, .mv (.t 9)⟩])
 (.cond (.t 44)
 (.rg [⟨some 45, none, .mv (.t 0)⟩,
   ⟨some 46, none, .load (some 2) (.t 8)⟩,
   ⟨some 47, none, .callm n_impl_World_send S_impl_World_send [(.t 45, []), (.t 46, [none, some 4])]⟩])
 .skip)))))) }
theorem is_impl_World_bring : IsF Try.prog n_impl_World_bring c_impl_World_bring := ⟨Try.f56, _, Try.func56, rfl, by decide, rfl, by kernel_rfl, by kernel_rfl⟩
noncomputable def c_impl_World_do : FC := { n := 45, res := [], body :=
 (.seq
 (.rg [⟨some 3, none, .box (.t 1)⟩])
 (.seq
 (.rg [⟨some 4, none, .fld 0 (.t 3)⟩,
   ⟨some 5, none, .load none (.t 4)⟩])
 (.block 0
 (.seq
 (.rg [⟨some 7, none, .bin 0 .eql (.t 5) (.k (.int .i64 1))⟩,
   ⟨some 6, none, .mv (.t 7)⟩])
 (.cond (.t 6)
 (.rg [⟨some 8, none, .mv (.t 0)⟩,
   ⟨some 9, none, .callm n_impl_World_tick S_impl_World_tick [(.t 8, [])]⟩])
 (.seq
 (.rg [⟨some 11, none, .bin 0 .eql (.t 5) (.k (.int .i64 2))⟩,
   ⟨some 10, none, .mv (.t 11)⟩])
 (.cond (.t 10)
 (.rg [⟨some 12, none, .mv (.t 0)⟩,
   ⟨some 13, none, .fld 1 (.t 3)⟩,
   ⟨some 14, none, .load none (.t 13)⟩,
   ⟨some 15, none, .fld 3 (.t 3)⟩,
   ⟨some 16, none, .load (some 3) (.t 15)⟩,
   ⟨some 17, none, .callm n_impl_World_propose S_impl_World_propose [(.t 12, []), (.t 14, []), (.t 16, [])]⟩])
 (.seq
 (.rg [⟨some 19, none, .bin 0 .eql (.t 5) (.k (.int .i64 3))⟩,
   ⟨some 18, none, .mv (.t 19)⟩])
 (.cond (.t 18)
 (.rg [⟨some 20, none, .mv (.t 0)⟩,
   ⟨some 21, none, .fld 1 (.t 3)⟩,
   ⟨some 22, none, .load none (.t 21)⟩,
   ⟨some 23, none, .fld 2 (.t 3)⟩,
   ⟨some 24, none, .load none (.t 23)⟩,
   ⟨some 25, none, .callm n_impl_World_bring S_impl_World_bring [(.t 20, []), (.t 22, []), (.t 24, [])]⟩])
 (.seq
 (.rg [⟨some 27, none, .bin 0 .eql (.t 5) (.k (.int .i64 4))⟩,
   ⟨some 26, none, .mv (.t 27)⟩])
 (.cond (.t 26)
 (.seq
 (.rg [⟨some 28, none, .fld 6 (.t 3)⟩,
   ⟨some 29, none, .load (some 2) (.t 28)⟩,
   ⟨some 30, none, .call n_impl_VoteOk S_impl_VoteOk [(.t 29, [none, some 4])]⟩,
   ⟨some 31, none, .mv (.t 30)⟩,
   ⟨some 32, some (31, true), .fld 6 (.t 3)⟩,
   ⟨some 33, some (31, true), .fld 0 (.t 32)⟩,
   ⟨some 34, some (31, true), .load none (.t 33)⟩,
   ⟨some 35, some (31, true), .mv (.t 0)⟩,
   ⟨some 36, some (31, true), .nilc (.t 35)⟩,
   ⟨some 37, some (31, true), .fld 3 (.t 36)⟩,
   ⟨some 38, some (31, true), .load none (.t 37)⟩,
   ⟨some 39, some (31, true), .bin 0 .eql (.t 34) (.t 38)⟩,
   ⟨some 40, none, .pick (.t 31) (.t 39) (.k (.bool false))⟩])
 (.cond (.t 40)
 (.rg [⟨some 41, none, .mv (.t 0)⟩,
   ⟨some 42, none, .fld 6 (.t 3)⟩,
   ⟨some 43, none, .load (some 2) (.t 42)⟩,
   ⟨some 44, none, .callm n_impl_World_send S_impl_World_send [(.t 41, []), (.t 43, [none, some 4])]⟩])
 .skip))
 .skip))))))))))) }
theorem is_impl_World_do : IsF Try.prog n_impl_World_do c_impl_World_do := ⟨Try.f22, _, Try.func22, rfl, by decide, rfl, by kernel_rfl, by kernel_rfl⟩
noncomputable def c_impl_World_copied : FC := { n := 34, res := [⟨some (some 4), 2, [none, some 4, some 2]⟩], body :=
 (.seq
 (.rg [⟨some 1, none, .box (.t 0)⟩,
   ⟨some 2, none, .alloc [.int .i64 0, .slice none 0 0, .slice none 0 0, .int .i64 0]⟩])
 (.seq
 (.rg [⟨some 6, none, .fld 0 (.t 1)⟩,
   ⟨some 7, none, .load none (.t 6)⟩,
   ⟨some 8, none, .fld 1 (.t 1)⟩,
   ⟨some 9, none, .load none (.t 8)⟩,
   ⟨some 10, none, .len (.t 9)⟩,
   ⟨some 11, none, .mksl 73 4 48 [.int .i64 0, .int .i64 0, .int .i64 0, .slice none 0 0] (.k (.int .i64 0)) (.t 10)⟩,
   ⟨some 12, none, .fld 2 (.t 1)⟩,
   ⟨some 13, none, .load none (.t 12)⟩,
   ⟨some 14, none, .call n_impl_votes_copied S_impl_votes_copied [(.t 13, [some 2])]⟩,
   ⟨some 15, none, .fld 3 (.t 1)⟩,
   ⟨some 16, none, .load none (.t 15)⟩,
   ⟨some 17, none, .build [.int .i64 0, .slice none 0 0, .slice none 0 0, .int .i64 0] [(0, 1, .t 7), (1, 1, .t 11), (2, 1, .t 14), (3, 1, .t 16)]⟩,
   ⟨some 3, none, .alloc [.int .i64 0, .slice none 0 0, .slice none 0 0, .int .i64 0]⟩,
   ⟨none, none, .store 4 (.t 3) (.t 17)⟩])
 (.seq
 (.seq
 (.rg [⟨some 18, none, .fld 1 (.t 1)⟩,
   ⟨some 19, none, .load none (.t 18)⟩,
   ⟨some 20, none, .len (.t 19)⟩,
   ⟨some 21, none, .mv (.k (.int .i64 0))⟩])
 (.block 0
 (.loop
 (.seq
 (.rg [⟨some 22, none, .bin 0 .lss (.t 21) (.t 20)⟩])
 (.seq
 (.cond (.t 22)
 .skip
 (.exit 0))
 (.seq
 (.block 1
 (.seq
 (.rg [⟨some 23, none, .idx 4 (.t 19) (.t 21)⟩,
   ⟨some 24, none, .load (some 4) (.t 23)⟩,
   ⟨some 5, none, .alloc [.int .i64 0, .int .i64 0, .int .i64 0, .slice none 0 0]⟩,
   ⟨none, none, .store 4 (.t 5) (.t 24)⟩])
 (.rg [⟨some 25, none, .fld 1 (.t 3)⟩,
   ⟨some 26, none, .load none (.t 25)⟩,
   ⟨some 27, none, .load (some 4) (.t 5)⟩,
   ⟨some 28, none, .call n_impl_Node_copied S_impl_Node_copied [(.t 27, [none, none, none, some 2])]⟩,
   ⟨some 29, none, .bsl 73 4 [.t 28]⟩,
   ⟨some 30, none, .app 73 4 48 [.int .i64 0, .int .i64 0, .int .i64 0, .slice none 0 0] (.t 26) (.t 29)⟩,
   ⟨some 31, none, .fld 1 (.t 3)⟩,
   ⟨none, none, .store 1 (.t 31) (.t 30)⟩])))
 (.rg [⟨some 32, none, .bin 0 .add (.t 21) (.k (.int .i64 1))⟩,
   ⟨some 21, none, .mv (.t 32)⟩])))))))
 (.seq
 (.rg [⟨some 33, none, .load (some 4) (.t 3)⟩,
   ⟨none, none, .store 4 (.t 2) (.t 33)⟩])
 .ret)))) }
theorem is_impl_World_copied : IsF Try.prog n_impl_World_copied c_impl_World_copied := ⟨Try.f23, _, Try.func23, rfl, by decide, rfl, by kernel_rfl, by kernel_rfl⟩
noncomputable def c_impl_WorldPlay : FC := { n := 34, res := [⟨some (some 4), 4, [none, some 4, some 2]⟩, ⟨none, 5, []⟩], body :=
 (.seq
 (.rg [⟨some 4, none, .alloc [.int .i64 0, .slice none 0 0, .slice none 0 0, .int .i64 0]⟩,
   ⟨some 5, none, .mv (.k (.bool false))⟩])
 (.seq
 (.rg [⟨some 11, none, .mv (.t 0)⟩,
   ⟨some 12, none, .callm n_impl_WorldNew S_impl_WorldNew_s [(.t 11, [])]⟩,
   ⟨some 10, none, .mv (.t 12)⟩,
   ⟨some 13, none, .ext (.t 10) 0⟩,
   ⟨some 14, none, .ext (.t 10) 1⟩,
   ⟨some 6, none, .alloc [.int .i64 0, .slice none 0 0, .slice none 0 0, .int .i64 0]⟩,
   ⟨none, none, .store 4 (.t 6) (.t 13)⟩,
   ⟨some 7, none, .mv (.t 14)⟩])
 (.seq
 (.seq
 (.rg [⟨some 15, none, .mv (.t 7)⟩,
   ⟨some 16, none, .un .not (.t 15)⟩,
   ⟨some 17, none, .mv (.t 16)⟩,
   ⟨some 18, some (17, false), .mv (.t 1)⟩,
   ⟨some 19, some (17, false), .len (.t 18)⟩,
   ⟨some 20, some (17, false), .bin 0 .gtr (.t 19) (.k (.int .i64 70))⟩,
   ⟨some 21, none, .pick (.t 17) (.k (.bool true)) (.t 20)⟩])
 (.cond (.t 21)
 (.seq
 (.rg [⟨some 22, none, .build [.int .i64 0, .slice none 0 0, .slice none 0 0, .int .i64 0] []⟩,
   ⟨none, none, .store 4 (.t 4) (.t 22)⟩,
   ⟨some 5, none, .mv (.k (.bool false))⟩])
 .ret)
 .skip))
 (.seq
 (.seq
 (.rg [⟨some 23, none, .mv (.t 1)⟩,
   ⟨some 24, none, .len (.t 23)⟩,
   ⟨some 25, none, .mv (.k (.int .i64 0))⟩])
 (.block 0
 (.loop
 (.seq
 (.rg [⟨some 26, none, .bin 0 .lss (.t 25) (.t 24)⟩])
 (.seq
 (.cond (.t 26)
 .skip
 (.exit 0))
 (.seq
 (.block 1
 (.seq
 (.rg [⟨some 27, none, .idx 8 (.t 23) (.t 25)⟩,
   ⟨some 28, none, .load (some 8) (.t 27)⟩,
   ⟨some 9, none, .alloc [.int .i64 0, .int .i64 0, .int .i64 0, .int .i64 0, .int .i64 0, .int .i64 0, .int .i64 0, .slice none 0 0]⟩,
   ⟨none, none, .store 8 (.t 9) (.t 28)⟩])
 (.rg [⟨some 29, none, .load (some 8) (.t 9)⟩,
   ⟨some 30, none, .callm n_impl_World_do S_impl_World_do [(.t 6, [none, some 4, some 2]), (.t 29, [none, none, none, none, none, none, none, some 4])]⟩])))
 (.rg [⟨some 31, none, .bin 0 .add (.t 25) (.k (.int .i64 1))⟩,
   ⟨some 25, none, .mv (.t 31)⟩])))))))
 (.seq
 (.rg [⟨some 32, none, .load (some 4) (.t 6)⟩,
   ⟨some 33, none, .callm n_impl_World_copied S_impl_World_copied [(.t 32, [none, some 4, some 2])]⟩,
   ⟨none, none, .store 4 (.t 4) (.t 33)⟩,
   ⟨some 5, none, .mv (.k (.bool true))⟩])
 .ret))))) }
theorem is_impl_WorldPlay : IsF Try.prog n_impl_WorldPlay c_impl_WorldPlay := ⟨Try.f7, _, Try.func7, rfl, by decide, rfl, by kernel_rfl, by kernel_rfl⟩
noncomputable def c_spec_WorldPlay : FC := { n := 35, res := [⟨some (some 4), 4, [none, some 4, some 2]⟩, ⟨none, 5, []⟩], body :=
 (.seq
 (.rg [⟨some 4, none, .alloc [.int .i64 0, .slice none 0 0, .slice none 0 0, .int .i64 0]⟩,
   ⟨some 5, none, .mv (.k (.bool false))⟩])
 (.seq
 (.rg [⟨some 10, none, .mv (.t 0)⟩,
   ⟨some 11, none, .callm n_spec_WorldNew S_spec_WorldNew_s [(.t 10, [])]⟩,
   ⟨some 9, none, .mv (.t 11)⟩,
   ⟨some 12, none, .ext (.t 9) 0⟩,
   ⟨some 13, none, .ext (.t 9) 1⟩,
   ⟨some 6, none, .alloc [.int .i64 0, .slice none 0 0, .slice none 0 0, .int .i64 0]⟩,
   ⟨none, none, .store 4 (.t 6) (.t 12)⟩,
   ⟨some 7, none, .mv (.t 13)⟩])
 (.seq
 (.seq
 (.rg [⟨some 14, none, .mv (.t 7)⟩,
   ⟨some 15, none, .un .not (.t 14)⟩,
   ⟨some 16, none, .mv (.t 15)⟩,
   ⟨some 17, some (16, false), .mv (.t 1)⟩,
   ⟨some 18, some (16, false), .len (.t 17)⟩,
   ⟨some 19, some (16, false), .bin 0 .gtr (.t 18) (.k (.int .i64 70))⟩,
   ⟨some 20, none, .pick (.t 16) (.k (.bool true)) (.t 19)⟩])
 (.cond (.t 20)
 (.seq
 (.rg [⟨some 21, none, .build [.int .i64 0, .slice none 0 0, .slice none 0 0, .int .i64 0] []⟩,
   ⟨none, none, .store 4 (.t 4) (.t 21)⟩,
   ⟨some 5, none, .mv (.k (.bool false))⟩])
 .ret)
 .skip))
 (.seq
 (.seq
 (.rg [⟨some 8, none, .mv (.k (.int .i64 0))⟩])
 (.block 0
 (.loop
 (.seq
 (.seq
 (.rg [⟨some 22, none, .mv (.t 8)⟩,
   ⟨some 23, none, .mv (.t 1)⟩,
   ⟨some 24, none, .len (.t 23)⟩,
   ⟨some 25, none, .bin 0 .lss (.t 22) (.t 24)⟩])
 (.cond (.t 25)
 .skip
 (.exit 0)))
 (.seq
 (.block 1
 (.rg [⟨some 28, none, .load (some 4) (.t 6)⟩,
   ⟨some 29, none, .mv (.t 1)⟩,
   ⟨some 30, none, .mv (.t 8)⟩,
   ⟨some 31, none, .idx 8 (.t 29) (.t 30)⟩,
   ⟨some 32, none, .load (some 8) (.t 31)⟩,
   ⟨some 33, none, .callm n_spec_l21Do S_spec_l21Do [(.t 28, [none, some 4, some 2]), (.t 32, [none, none, none, none, none, none, none, some 4])]⟩,
   ⟨none, none, .store 4 (.t 6) (.t 33)⟩]))
 (.rg [⟨some 26, none, .mv (.t 8)⟩,
   ⟨some 27, none, .bin 0 .add (.t 26) (.k (.int .i64 1))⟩,
   ⟨some 8, none, .mv (.t 27)⟩]))))))
 (.seq
 (.rg [⟨some 34, none, .load (some 4) (.t 6)⟩,
   ⟨none, none, .store 4 (.t 4) (.t 34)⟩,
   ⟨some 5, none, .mv (.k (.bool true))⟩])
 .ret))))) }
theorem is_spec_WorldPlay : IsF Try.prog n_spec_WorldPlay c_spec_WorldPlay := ⟨Try.f8, _, Try.func8, rfl, by decide, rfl, by kernel_rfl, by kernel_rfl⟩
noncomputable def c_spec_DrawWorldPlay : FC := { n := 36, res := [⟨none, 2, []⟩, ⟨none, 3, [some 8]⟩], body :=
 (.seq
 (.rg [⟨some 2, none, .mv (.k (.int .i64 0))⟩,
   ⟨some 3, none, .mv (.k (.slice none 0 0))⟩])
 (.seq
 (.rg [⟨some 8, none, .mv (.t 0)⟩,
   ⟨some 9, none, .callm n_spec_l6Open S_spec_l6Open [(.t 8, [some 1])]⟩,
   ⟨some 4, none, .mv (.t 9)⟩])
 (.seq
 (.rg [⟨some 11, none, .mv (.t 4)⟩,
   ⟨some 12, none, .callm n_spec_l72Play S_spec_l72Play [(.t 11, [])]⟩,
   ⟨some 10, none, .mv (.t 12)⟩,
   ⟨some 13, none, .ext (.t 10) 0⟩,
   ⟨some 14, none, .ext (.t 10) 1⟩,
   ⟨some 15, none, .ext (.t 10) 2⟩,
   ⟨some 7, none, .alloc [.int .i64 0, .slice none 0 0, .slice none 0 0, .int .i64 0]⟩,
   ⟨some 5, none, .mv (.t 13)⟩,
   ⟨some 6, none, .mv (.t 14)⟩,
   ⟨none, none, .store 4 (.t 7) (.t 15)⟩])
 (.seq
 (.seq
 (.rg [⟨some 16, none, .mv (.t 4)⟩,
   ⟨some 17, none, .call n_spec_l6Rd_pick S_spec_l6Rd_pick [(.t 16, []), (.k (.int .i64 40), [])]⟩])
 (.block 0
 (.seq
 (.rg [⟨some 19, none, .bin 0 .eql (.t 17) (.k (.int .i64 0))⟩,
   ⟨some 18, none, .mv (.t 19)⟩])
 (.cond (.t 18)
 (.rg [⟨some 20, none, .bsl 3 1 [.k (.int .i64 (-1)), .k (.int .i64 5)]⟩,
   ⟨some 21, none, .mv (.t 4)⟩,
   ⟨some 22, none, .call n_spec_l6Rd_pick S_spec_l6Rd_pick [(.t 21, []), (.k (.int .i64 2), [])]⟩,
   ⟨some 23, none, .idx 1 (.t 20) (.t 22)⟩,
   ⟨some 24, none, .load none (.t 23)⟩,
   ⟨some 5, none, .mv (.t 24)⟩])
 (.seq
 (.rg [⟨some 26, none, .bin 0 .eql (.t 17) (.k (.int .i64 1))⟩,
   ⟨some 25, none, .mv (.t 26)⟩])
 (.cond (.t 25)
 (.block 1
 (.loop
 (.seq
 (.seq
 (.rg [⟨some 27, none, .mv (.t 6)⟩,
   ⟨some 28, none, .len (.t 27)⟩,
   ⟨some 29, none, .bin 0 .leq (.t 28) (.k (.int .i64 70))⟩])
 (.cond (.t 29)
 .skip
 (.exit 1)))
 (.block 2
 (.rg [⟨some 30, none, .mv (.t 6)⟩,
   ⟨some 31, none, .build [.int .i64 0, .int .i64 0, .int .i64 0, .int .i64 0, .int .i64 0, .int .i64 0, .int .i64 0, .slice none 0 0] [(0, 1, .k (.int .i64 1))]⟩,
   ⟨some 32, none, .bsl 65 8 [.t 31]⟩,
   ⟨some 33, none, .app 65 8 80 [.int .i64 0, .int .i64 0, .int .i64 0, .int .i64 0, .int .i64 0, .int .i64 0, .int .i64 0, .slice none 0 0] (.t 30) (.t 32)⟩,
   ⟨some 6, none, .mv (.t 33)⟩])))))
 .skip))))))
 (.seq
 (.rg [⟨some 34, none, .mv (.t 5)⟩,
   ⟨some 35, none, .mv (.t 6)⟩,
   ⟨some 2, none, .mv (.t 34)⟩,
   ⟨some 3, none, .mv (.t 35)⟩])
 .ret))))) }
theorem is_spec_DrawWorldPlay : IsF Try.prog n_spec_DrawWorldPlay c_spec_DrawWorldPlay := ⟨Try.f6, _, Try.func6, rfl, by decide, rfl, by kernel_rfl, by kernel_rfl⟩
noncomputable def c_laws_lwWorld : FC := { n := 54, res := [⟨none, 4, []⟩], body :=
 (.seq
 (.rg [⟨some 2, none, .box (.t 0)⟩,
   ⟨some 3, none, .box (.t 1)⟩,
   ⟨some 4, none, .mv (.k (.bool false))⟩])
 (.seq
 (.seq
 (.rg [⟨some 6, none, .fld 0 (.t 2)⟩,
   ⟨some 7, none, .load none (.t 6)⟩,
   ⟨some 8, none, .fld 0 (.t 3)⟩,
   ⟨some 9, none, .load none (.t 8)⟩,
   ⟨some 10, none, .bin 0 .neq (.t 7) (.t 9)⟩,
   ⟨some 11, none, .mv (.t 10)⟩,
   ⟨some 12, some (11, false), .fld 3 (.t 2)⟩,
   ⟨some 13, some (11, false), .load none (.t 12)⟩,
   ⟨some 14, some (11, false), .fld 3 (.t 3)⟩,
   ⟨some 15, some (11, false), .load none (.t 14)⟩,
   ⟨some 16, some (11, false), .bin 0 .neq (.t 13) (.t 15)⟩,
   ⟨some 17, none, .pick (.t 11) (.k (.bool true)) (.t 16)⟩,
   ⟨some 18, none, .mv (.t 17)⟩,
   ⟨some 19, some (18, false), .fld 1 (.t 2)⟩,
   ⟨some 20, some (18, false), .load none (.t 19)⟩,
   ⟨some 21, some (18, false), .len (.t 20)⟩,
   ⟨some 22, some (18, false), .fld 1 (.t 3)⟩,
   ⟨some 23, some (18, false), .load none (.t 22)⟩,
   ⟨some 24, some (18, false), .len (.t 23)⟩,
   ⟨some 25, some (18, false), .bin 0 .neq (.t 21) (.t 24)⟩,
   ⟨some 26, none, .pick (.t 18) (.k (.bool true)) (.t 25)⟩,
   ⟨some 27, none, .mv (.t 26)⟩,
   ⟨some 28, some (27, false), .fld 2 (.t 2)⟩,
   ⟨some 29, some (27, false), .load none (.t 28)⟩,
   ⟨some 30, some (27, false), .fld 2 (.t 3)⟩,
   ⟨some 31, some (27, false), .load none (.t 30)⟩,
   ⟨some 32, some (27, false), .call n_laws_lwVotes S_laws_lwVotes [(.t 29, [some 2]), (.t 31, [some 2])]⟩,
   ⟨some 33, some (27, false), .un .not (.t 32)⟩,
   ⟨some 34, none, .pick (.t 27) (.k (.bool true)) (.t 33)⟩])
 (.cond (.t 34)
 (.seq
 (.rg [⟨some 4, none, .mv (.k (.bool false))⟩])
 .ret)
 .skip))
 (.seq
 (.seq
 (.rg [⟨some 5, none, .mv (.k (.int .i64 0))⟩])
 (.block 0
 (.loop
 (.seq
 (.seq
 (.rg [⟨some 35, none, .mv (.t 5)⟩,
   ⟨some 36, none, .fld 1 (.t 2)⟩,
   ⟨some 37, none, .load none (.t 36)⟩,
   ⟨some 38, none, .len (.t 37)⟩,
   ⟨some 39, none, .bin 0 .lss (.t 35) (.t 38)⟩])
 (.cond (.t 39)
 .skip
 (.exit 0)))
 (.seq
 (.block 1
 (.seq
 (.rg [⟨some 42, none, .fld 1 (.t 2)⟩,
   ⟨some 43, none, .load none (.t 42)⟩,
   ⟨some 44, none, .mv (.t 5)⟩,
   ⟨some 45, none, .idx 4 (.t 43) (.t 44)⟩,
   ⟨some 46, none, .load (some 4) (.t 45)⟩,
   ⟨some 47, none, .fld 1 (.t 3)⟩,
   ⟨some 48, none, .load none (.t 47)⟩,
   ⟨some 49, none, .mv (.t 5)⟩,
   ⟨some 50, none, .idx 4 (.t 48) (.t 49)⟩,
   ⟨some 51, none, .load (some 4) (.t 50)⟩,
   ⟨some 52, none, .call n_laws_lwNode S_laws_lwNode [(.t 46, [none, none, none, some 2]), (.t 51, [none, none, none, some 2])]⟩,
   ⟨some 53, none, .un .not (.t 52)⟩])
 (.cond (.t 53)
 (.seq
 (.rg [⟨some 4, none, .mv (.k (.bool false))⟩])
 .ret)
 .skip)))
 (.rg [⟨some 40, none, .mv (.t 5)⟩,
   ⟨some 41, none, .bin 0 .add (.t 40) (.k (.int .i64 1))⟩,
   ⟨some 5, none, .mv (.t 41)⟩]))))))
 (.seq
 (.rg [⟨some 4, none, .mv (.k (.bool true))⟩])
 .ret)))) }
theorem is_laws_lwWorld : IsF Try.prog n_laws_lwWorld c_laws_lwWorld := ⟨Try.f9, _, Try.func9, rfl, by decide, rfl, by kernel_rfl, by kernel_rfl⟩
end Av
end Go.Proofs.Ytlbdoamidblkaaa
