/- The functions' code in the small language, and that it is theirs. -/
import Derived.Test.YtdboofnogabefaaZE
import Derived.Test.YtdboofnogabefaaD1
import Derived.Test.YtdboofnogabefaaProg
import Derived.KernelRfl
set_option linter.unusedVariables false
namespace Go.Proofs.Ytdboofnogabefaa
namespace Av
noncomputable def c_spec_l3Copy_o : FC := { n := 21, res := [⟨none, 2, [some 2]⟩], body :=
 (.seq
 (.rg [⟨some 2, none, .mv (.k (.slice none 0 0))⟩])
 (.seq
 (.rg [⟨some 5, none, .bslf true 32 2 []⟩,
   ⟨some 3, none, .mv (.t 5)⟩])
 (.seq
 (.seq
 (.rg [⟨some 4, none, .mv (.k (.int .i64 0))⟩])
 (.block 0
 (.loop
 (.seq
 (.seq
 (.rg [⟨some 6, none, .mv (.t 4)⟩,
   ⟨some 7, none, .mv (.t 0)⟩,
   ⟨some 8, none, .len (.t 7)⟩,
   ⟨some 9, none, .bin 0 .lss (.t 6) (.t 8)⟩])
 (.cond (.t 9)
 .skip
 (.exit 0)))
 (.seq
 (.block 1
 (.rg [⟨some 12, none, .mv (.t 3)⟩,
   ⟨some 13, none, .mv (.t 0)⟩,
   ⟨some 14, none, .mv (.t 4)⟩,
   ⟨some 15, none, .idx 2 (.t 13) (.t 14)⟩,
   ⟨some 16, none, .load (some 2) (.t 15)⟩,
   ⟨some 17, none, .call n_spec_l3VoteCopy S_spec_l3VoteCopy [(.t 16, [none, some 4])]⟩,
   ⟨some 18, none, .bsl 32 2 [.t 17]⟩,
   ⟨some 19, none, .app 32 2 32 [.int .i64 0, .slice none 0 0] (.t 12) (.t 18)⟩,
   ⟨some 3, none, .mv (.t 19)⟩]))
 (.rg [⟨some 10, none, .mv (.t 4)⟩,
   ⟨some 11, none, .bin 0 .add (.t 10) (.k (.int .i64 1))⟩,
   ⟨some 4, none, .mv (.t 11)⟩]))))))
 (.seq
 (.rg [⟨some 20, none, .mv (.t 3)⟩,
   ⟨some 2, none, .mv (.t 20)⟩])
 .ret)))) }
theorem is_spec_l3Copy_o : IsF Try.prog n_spec_l3Copy_o c_spec_l3Copy_o := ⟨Try.f133, _, Try.func133, rfl, by decide, rfl, by kernel_rfl, by kernel_rfl⟩
noncomputable def c_spec_l12Copy : FC := { n := 8, res := [⟨some (some 4), 2, [none, none, none, some 2]⟩], body :=
 (.seq
 (.rg [⟨some 1, none, .box (.t 0)⟩,
   ⟨some 2, none, .alloc [.int .i64 0, .int .i64 0, .int .i64 0, .slice none 0 0]⟩])
 (.seq
 (.rg [⟨some 3, none, .fld 3 (.t 1)⟩,
   ⟨some 4, none, .load none (.t 3)⟩,
   ⟨some 5, none, .callm n_spec_l3Copy SM_spec_l3Copy [(.t 4, [some 2])]⟩,
   ⟨some 6, none, .fld 3 (.t 1)⟩,
   ⟨none, none, .store 1 (.t 6) (.t 5)⟩])
 (.seq
 (.rg [⟨some 7, none, .load (some 4) (.t 1)⟩,
   ⟨none, none, .store 4 (.t 2) (.t 7)⟩])
 .ret))) }
theorem is_spec_l12Copy : IsF Try.prog n_spec_l12Copy c_spec_l12Copy := ⟨Try.f98, _, Try.func98, rfl, by decide, rfl, by kernel_rfl, by kernel_rfl⟩
noncomputable def c_spec_l12Vote : FC := { n := 31, res := [⟨some (some 4), 4, [none, none, none, some 2]⟩, ⟨some (some 2), 5, [none, some 4]⟩, ⟨none, 6, []⟩], body :=
 (.seq
 (.rg [⟨some 2, none, .box (.t 0)⟩,
   ⟨some 4, none, .alloc [.int .i64 0, .int .i64 0, .int .i64 0, .slice none 0 0]⟩,
   ⟨some 5, none, .alloc [.int .i64 0, .slice none 0 0]⟩,
   ⟨some 6, none, .mv (.k (.bool false))⟩])
 (.seq
 (.rg [⟨some 8, none, .fld 0 (.t 2)⟩,
   ⟨some 9, none, .load none (.t 8)⟩,
   ⟨some 10, none, .mv (.t 1)⟩,
   ⟨some 11, none, .call n_spec_l1Copy S_spec_l1Copy [(.t 10, [some 4])]⟩,
   ⟨some 12, none, .build [.int .i64 0, .slice none 0 0] [(0, 1, .t 9), (1, 1, .t 11)]⟩,
   ⟨some 7, none, .alloc [.int .i64 0, .slice none 0 0]⟩,
   ⟨none, none, .store 2 (.t 7) (.t 12)⟩])
 (.seq
 (.seq
 (.rg [⟨some 13, none, .fld 3 (.t 2)⟩,
   ⟨some 14, none, .load none (.t 13)⟩,
   ⟨some 15, none, .len (.t 14)⟩,
   ⟨some 16, none, .bin 0 .geq (.t 15) (.k (.int .i64 80))⟩])
 (.cond (.t 16)
 (.seq
 (.rg [⟨some 17, none, .load (some 4) (.t 2)⟩,
   ⟨some 18, none, .build [.int .i64 0, .slice none 0 0] []⟩,
   ⟨none, none, .store 4 (.t 4) (.t 17)⟩,
   ⟨none, none, .store 2 (.t 5) (.t 18)⟩,
   ⟨some 6, none, .mv (.k (.bool false))⟩])
 .ret)
 .skip))
 (.seq
 (.rg [⟨some 19, none, .fld 1 (.t 2)⟩,
   ⟨some 20, none, .load none (.t 19)⟩,
   ⟨some 21, none, .fld 2 (.t 2)⟩,
   ⟨none, none, .store 1 (.t 21) (.t 20)⟩])
 (.seq
 (.rg [⟨some 22, none, .fld 3 (.t 2)⟩,
   ⟨some 23, none, .load none (.t 22)⟩,
   ⟨some 24, none, .load (some 2) (.t 7)⟩,
   ⟨some 25, none, .call n_spec_l3VoteCopy S_spec_l3VoteCopy [(.t 24, [none, some 4])]⟩,
   ⟨some 26, none, .bsl 32 2 [.t 25]⟩,
   ⟨some 27, none, .app 32 2 32 [.int .i64 0, .slice none 0 0] (.t 23) (.t 26)⟩,
   ⟨some 28, none, .fld 3 (.t 2)⟩,
   ⟨none, none, .store 1 (.t 28) (.t 27)⟩])
 (.seq
 (.rgp [(7, 4)] [⟨some 29, none, .load (some 4) (.t 2)⟩,
   ⟨some 30, none, .load (some 2) (.t 7)⟩,
   ⟨none, none, .store 4 (.t 4) (.t 29)⟩,
   ⟨none, none, .store 2 (.t 5) (.t 30)⟩,
   ⟨some 6, none, .mv (.k (.bool true))⟩])
 .ret)))))) }
theorem is_spec_l12Vote : IsF Try.prog n_spec_l12Vote c_spec_l12Vote := ⟨Try.f132, _, Try.func132, rfl, by decide, rfl, by kernel_rfl, by kernel_rfl⟩
noncomputable def c_spec_l12Fits : FC := { n := 43, res := [⟨none, 6, []⟩], body :=
 (.seq
 (.rg [⟨some 3, none, .box (.t 0)⟩,
   ⟨some 4, none, .box (.t 1)⟩,
   ⟨some 6, none, .mv (.k (.bool false))⟩])
 (.seq
 (.rg [⟨some 8, none, .fld 1 (.t 4)⟩,
   ⟨some 9, none, .load none (.t 8)⟩,
   ⟨some 10, none, .len (.t 9)⟩,
   ⟨some 11, none, .bin 0 .sub (.t 10) (.k (.int .i64 1))⟩,
   ⟨some 7, none, .mv (.t 11)⟩])
 (.seq
 (.rg [⟨some 12, none, .fld 0 (.t 4)⟩,
   ⟨some 13, none, .load none (.t 12)⟩,
   ⟨some 14, none, .fld 1 (.t 3)⟩,
   ⟨some 15, none, .load none (.t 14)⟩,
   ⟨some 16, none, .call n_spec_l3Leader S_spec_l3Leader [(.t 15, [])]⟩,
   ⟨some 17, none, .bin 0 .eql (.t 13) (.t 16)⟩,
   ⟨some 18, none, .mv (.t 17)⟩,
   ⟨some 19, some (18, true), .fld 1 (.t 4)⟩,
   ⟨some 20, some (18, true), .load none (.t 19)⟩,
   ⟨some 21, some (18, true), .mv (.t 7)⟩,
   ⟨some 22, some (18, true), .idx 4 (.t 20) (.t 21)⟩,
   ⟨some 23, some (18, true), .fld 0 (.t 22)⟩,
   ⟨some 24, some (18, true), .load none (.t 23)⟩,
   ⟨some 25, some (18, true), .fld 1 (.t 3)⟩,
   ⟨some 26, some (18, true), .load none (.t 25)⟩,
   ⟨some 27, some (18, true), .bin 0 .eql (.t 24) (.t 26)⟩,
   ⟨some 28, none, .pick (.t 18) (.t 27) (.k (.bool false))⟩,
   ⟨some 29, none, .mv (.t 28)⟩,
   ⟨some 30, some (29, true), .mv (.t 7)⟩,
   ⟨some 31, some (29, true), .mv (.t 2)⟩,
   ⟨some 32, some (29, true), .bin 0 .eql (.t 30) (.t 31)⟩,
   ⟨some 33, none, .pick (.t 29) (.t 32) (.k (.bool false))⟩,
   ⟨some 34, none, .mv (.t 33)⟩,
   ⟨some 35, some (34, true), .fld 3 (.t 3)⟩,
   ⟨some 36, some (34, true), .load none (.t 35)⟩,
   ⟨some 37, some (34, true), .fld 1 (.t 4)⟩,
   ⟨some 38, some (34, true), .load none (.t 37)⟩,
   ⟨some 39, some (34, true), .mv (.t 7)⟩,
   ⟨some 40, some (34, true), .slc 4 (.t 38) none (some (.t 39)) none⟩,
   ⟨some 41, some (34, true), .call n_spec_l11Sure S_spec_l11Sure [(.t 36, [some 2]), (.t 40, [some 4])]⟩,
   ⟨some 42, none, .pick (.t 34) (.t 41) (.k (.bool false))⟩,
   ⟨some 6, none, .mv (.t 42)⟩])
 .ret))) }
theorem is_spec_l12Fits : IsF Try.prog n_spec_l12Fits c_spec_l12Fits := ⟨Try.f155, _, Try.func155, rfl, by decide, rfl, by kernel_rfl, by kernel_rfl⟩
noncomputable def c_spec_l12Try : FC := { n := 51, res := [⟨some (some 4), 2, [none, none, none, some 2]⟩, ⟨some (some 2), 3, [none, some 4]⟩, ⟨none, 4, []⟩], body :=
 (.seq
 (.rg [⟨some 1, none, .box (.t 0)⟩,
   ⟨some 2, none, .alloc [.int .i64 0, .int .i64 0, .int .i64 0, .slice none 0 0]⟩,
   ⟨some 3, none, .alloc [.int .i64 0, .slice none 0 0]⟩,
   ⟨some 4, none, .mv (.k (.bool false))⟩])
 (.seq
 (.seq
 (.rg [⟨some 7, none, .fld 1 (.t 1)⟩,
   ⟨some 8, none, .load none (.t 7)⟩,
   ⟨some 9, none, .bin 0 .eql (.t 8) (.k (.int .i64 0))⟩,
   ⟨some 10, none, .mv (.t 9)⟩,
   ⟨some 11, some (10, false), .fld 2 (.t 1)⟩,
   ⟨some 12, some (10, false), .load none (.t 11)⟩,
   ⟨some 13, some (10, false), .fld 1 (.t 1)⟩,
   ⟨some 14, some (10, false), .load none (.t 13)⟩,
   ⟨some 15, some (10, false), .bin 0 .eql (.t 12) (.t 14)⟩,
   ⟨some 16, none, .pick (.t 10) (.k (.bool true)) (.t 15)⟩])
 (.cond (.t 16)
 (.seq
 (.rg [⟨some 17, none, .load (some 4) (.t 1)⟩,
   ⟨some 18, none, .build [.int .i64 0, .slice none 0 0] []⟩,
   ⟨none, none, .store 4 (.t 2) (.t 17)⟩,
   ⟨none, none, .store 2 (.t 3) (.t 18)⟩,
   ⟨some 4, none, .mv (.k (.bool false))⟩])
 .ret)
 .skip))
 (.seq
 (.rg [⟨some 19, none, .fld 3 (.t 1)⟩,
   ⟨some 20, none, .load none (.t 19)⟩,
   ⟨some 21, none, .call n_spec_l11Tip S_spec_l11Tip [(.t 20, [some 2])]⟩,
   ⟨some 22, none, .len (.t 21)⟩,
   ⟨some 5, none, .mv (.t 22)⟩])
 (.seq
 (.seq
 (.rg [⟨some 6, none, .mv (.k (.int .i64 0))⟩])
 (.block 0
 (.loop
 (.seq
 (.seq
 (.rg [⟨some 23, none, .mv (.t 6)⟩,
   ⟨some 24, none, .fld 3 (.t 1)⟩,
   ⟨some 25, none, .load none (.t 24)⟩,
   ⟨some 26, none, .len (.t 25)⟩,
   ⟨some 27, none, .bin 0 .lss (.t 23) (.t 26)⟩])
 (.cond (.t 27)
 .skip
 (.exit 0)))
 (.seq
 (.block 1
 (.seq
 (.rg [⟨some 30, none, .load (some 4) (.t 1)⟩,
   ⟨some 31, none, .fld 3 (.t 1)⟩,
   ⟨some 32, none, .load none (.t 31)⟩,
   ⟨some 33, none, .mv (.t 6)⟩,
   ⟨some 34, none, .idx 2 (.t 32) (.t 33)⟩,
   ⟨some 35, none, .load (some 2) (.t 34)⟩,
   ⟨some 36, none, .mv (.t 5)⟩,
   ⟨some 37, none, .call n_spec_l12Fits S_spec_l12Fits [(.t 30, [none, none, none, some 2]), (.t 35, [none, some 4]), (.t 36, [])]⟩])
 (.cond (.t 37)
 (.seq
 (.rg [⟨some 38, none, .load (some 4) (.t 1)⟩,
   ⟨some 39, none, .fld 3 (.t 1)⟩,
   ⟨some 40, none, .load none (.t 39)⟩,
   ⟨some 41, none, .mv (.t 6)⟩,
   ⟨some 42, none, .idx 2 (.t 40) (.t 41)⟩,
   ⟨some 43, none, .fld 1 (.t 42)⟩,
   ⟨some 44, none, .load none (.t 43)⟩,
   ⟨some 45, none, .callm n_spec_l12Vote S_spec_l12Vote [(.t 38, [none, none, none, some 2]), (.t 44, [some 4])]⟩,
   ⟨some 46, none, .ext (.t 45) 0⟩,
   ⟨some 47, none, .ext (.t 45) 1⟩,
   ⟨some 48, none, .ext (.t 45) 2⟩,
   ⟨none, none, .store 4 (.t 2) (.t 46)⟩,
   ⟨none, none, .store 2 (.t 3) (.t 47)⟩,
   ⟨some 4, none, .mv (.t 48)⟩])
 .ret)
 .skip)))
 (.rg [⟨some 28, none, .mv (.t 6)⟩,
   ⟨some 29, none, .bin 0 .add (.t 28) (.k (.int .i64 1))⟩,
   ⟨some 6, none, .mv (.t 29)⟩]))))))
 (.seq
 (.rg [⟨some 49, none, .load (some 4) (.t 1)⟩,
   ⟨some 50, none, .build [.int .i64 0, .slice none 0 0] []⟩,
   ⟨none, none, .store 4 (.t 2) (.t 49)⟩,
   ⟨none, none, .store 2 (.t 3) (.t 50)⟩,
   ⟨some 4, none, .mv (.k (.bool false))⟩])
 .ret))))) }
theorem is_spec_l12Try : IsF Try.prog n_spec_l12Try c_spec_l12Try := ⟨Try.f135, _, Try.func135, rfl, by decide, rfl, by kernel_rfl, by kernel_rfl⟩
noncomputable def c_spec_l12Hear : FC := { n := 41, res := [⟨some (some 4), 4, [none, none, none, some 2]⟩, ⟨some (some 2), 5, [none, some 4]⟩, ⟨none, 6, []⟩], body :=
 (.seq
 (.rg [⟨some 2, none, .box (.t 0)⟩,
   ⟨some 3, none, .box (.t 1)⟩,
   ⟨some 4, none, .alloc [.int .i64 0, .int .i64 0, .int .i64 0, .slice none 0 0]⟩,
   ⟨some 5, none, .alloc [.int .i64 0, .slice none 0 0]⟩,
   ⟨some 6, none, .mv (.k (.bool false))⟩])
 (.seq
 (.seq
 (.rg [⟨some 9, none, .load (some 2) (.t 3)⟩,
   ⟨some 10, none, .call n_spec_l3Vote S_spec_l3Vote [(.t 9, [none, some 4])]⟩,
   ⟨some 11, none, .un .not (.t 10)⟩,
   ⟨some 12, none, .mv (.t 11)⟩,
   ⟨some 13, some (12, false), .fld 0 (.t 3)⟩,
   ⟨some 14, some (12, false), .load none (.t 13)⟩,
   ⟨some 15, some (12, false), .fld 0 (.t 2)⟩,
   ⟨some 16, some (12, false), .load none (.t 15)⟩,
   ⟨some 17, some (12, false), .bin 0 .eql (.t 14) (.t 16)⟩,
   ⟨some 18, none, .pick (.t 12) (.k (.bool true)) (.t 17)⟩,
   ⟨some 19, none, .mv (.t 18)⟩,
   ⟨some 20, some (19, false), .fld 3 (.t 2)⟩,
   ⟨some 21, some (19, false), .load none (.t 20)⟩,
   ⟨some 22, some (19, false), .len (.t 21)⟩,
   ⟨some 23, some (19, false), .bin 0 .geq (.t 22) (.k (.int .i64 80))⟩,
   ⟨some 24, none, .pick (.t 19) (.k (.bool true)) (.t 23)⟩])
 (.cond (.t 24)
 (.seq
 (.rg [⟨some 25, none, .load (some 4) (.t 2)⟩,
   ⟨some 26, none, .build [.int .i64 0, .slice none 0 0] []⟩,
   ⟨none, none, .store 4 (.t 4) (.t 25)⟩,
   ⟨none, none, .store 2 (.t 5) (.t 26)⟩,
   ⟨some 6, none, .mv (.k (.bool false))⟩])
 .ret)
 .skip))
 (.seq
 (.rg [⟨some 28, none, .fld 3 (.t 2)⟩,
   ⟨some 29, none, .load none (.t 28)⟩,
   ⟨some 30, none, .load (some 2) (.t 3)⟩,
   ⟨some 31, none, .callm n_spec_l3Add SM_spec_l3Add [(.t 29, [some 2]), (.t 30, [none, some 4])]⟩,
   ⟨some 27, none, .mv (.t 31)⟩,
   ⟨some 32, none, .ext (.t 27) 0⟩,
   ⟨some 33, none, .ext (.t 27) 1⟩,
   ⟨some 7, none, .mv (.t 32)⟩,
   ⟨some 8, none, .mv (.t 33)⟩])
 (.seq
 (.rg [⟨some 34, none, .mv (.t 7)⟩,
   ⟨some 35, none, .fld 3 (.t 2)⟩,
   ⟨none, none, .store 1 (.t 35) (.t 34)⟩])
 (.seq
 (.rg [⟨some 36, none, .load (some 4) (.t 2)⟩,
   ⟨some 37, none, .callm n_spec_l12Try S_spec_l12Try [(.t 36, [none, none, none, some 2])]⟩,
   ⟨some 38, none, .ext (.t 37) 0⟩,
   ⟨some 39, none, .ext (.t 37) 1⟩,
   ⟨some 40, none, .ext (.t 37) 2⟩,
   ⟨none, none, .store 4 (.t 4) (.t 38)⟩,
   ⟨none, none, .store 2 (.t 5) (.t 39)⟩,
   ⟨some 6, none, .mv (.t 40)⟩])
 .ret))))) }
theorem is_spec_l12Hear : IsF Try.prog n_spec_l12Hear c_spec_l12Hear := ⟨Try.f101, _, Try.func101, rfl, by decide, rfl, by kernel_rfl, by kernel_rfl⟩
noncomputable def c_spec_NodeHear : FC := { n := 19, res := [⟨some (some 4), 4, [none, none, none, some 2]⟩, ⟨some (some 2), 5, [none, some 4]⟩, ⟨none, 6, []⟩], body :=
 (.seq
 (.rg [⟨some 2, none, .box (.t 0)⟩,
   ⟨some 3, none, .box (.t 1)⟩,
   ⟨some 4, none, .alloc [.int .i64 0, .int .i64 0, .int .i64 0, .slice none 0 0]⟩,
   ⟨some 5, none, .alloc [.int .i64 0, .slice none 0 0]⟩,
   ⟨some 6, none, .mv (.k (.bool false))⟩])
 (.seq
 (.seq
 (.rg [⟨some 7, none, .load (some 4) (.t 2)⟩,
   ⟨some 8, none, .call n_spec_NodeOk S_spec_NodeOk [(.t 7, [none, none, none, some 2])]⟩,
   ⟨some 9, none, .un .not (.t 8)⟩])
 (.cond (.t 9)
 (.seq
 (.rg [⟨some 10, none, .build [.int .i64 0, .int .i64 0, .int .i64 0, .slice none 0 0] []⟩,
   ⟨some 11, none, .build [.int .i64 0, .slice none 0 0] []⟩,
   ⟨none, none, .store 4 (.t 4) (.t 10)⟩,
   ⟨none, none, .store 2 (.t 5) (.t 11)⟩,
   ⟨some 6, none, .mv (.k (.bool false))⟩])
 .ret)
 .skip))
 (.seq
 (.rg [⟨some 12, none, .load (some 4) (.t 2)⟩,
   ⟨some 13, none, .callm n_spec_l12Copy S_spec_l12Copy [(.t 12, [none, none, none, some 2])]⟩,
   ⟨some 14, none, .load (some 2) (.t 3)⟩,
   ⟨some 15, none, .callm n_spec_l12Hear S_spec_l12Hear [(.t 13, [none, none, none, some 2]), (.t 14, [none, some 4])]⟩,
   ⟨some 16, none, .ext (.t 15) 0⟩,
   ⟨some 17, none, .ext (.t 15) 1⟩,
   ⟨some 18, none, .ext (.t 15) 2⟩,
   ⟨none, none, .store 4 (.t 4) (.t 16)⟩,
   ⟨none, none, .store 2 (.t 5) (.t 17)⟩,
   ⟨some 6, none, .mv (.t 18)⟩])
 .ret))) }
theorem is_spec_NodeHear : IsF Try.prog n_spec_NodeHear c_spec_NodeHear := ⟨Try.f50, _, Try.func50, rfl, by decide, rfl, by kernel_rfl, by kernel_rfl⟩
end Av
end Go.Proofs.Ytdboofnogabefaa
