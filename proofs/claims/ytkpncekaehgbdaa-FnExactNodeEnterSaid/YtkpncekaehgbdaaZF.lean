/- The functions' code in the small language, and that it is theirs. -/
import Derived.Test.YtkpncekaehgbdaaZE
import Derived.Test.YtkpncekaehgbdaaD1
import Derived.Test.YtkpncekaehgbdaaProg
import Derived.KernelRfl
set_option linter.unusedVariables false
namespace Go.Proofs.Ytkpncekaehgbdaa
namespace Av
noncomputable def c_spec_l3Copy_o : FC := { n := 21, res := [⟨none, 2, [some 2]⟩], body :=
 (.seq
 (.rg [⟨some 2, none, .mv (.k (.slice none 0 0))⟩])
 (.seq
 (.rg [⟨some 5, none, .bslf true 28 2 []⟩,
   ⟨some 3, none, .mv (.t 5)⟩])
 (.seq
 (.seq
 (.rg [⟨some 4, none, .mv (.k (.int .i64 0))⟩])
 (.block 0
 (.loop
 (.seq
 (.seq
 (.rg [⟨some 6, none, .mv (.t 4)⟩,
   ⟨some 7, none, .mv (.t 0)⟩,
   ⟨some 8, none, .len (.t 7)⟩,
   ⟨some 9, none, .bin 0 .lss (.t 6) (.t 8)⟩])
 (.cond (.t 9)
 .skip
 (.exit 0)))
 (.seq
 (.block 1
 (.rg [⟨some 12, none, .mv (.t 3)⟩,
   ⟨some 13, none, .mv (.t 0)⟩,
   ⟨some 14, none, .mv (.t 4)⟩,
   ⟨some 15, none, .idx 2 (.t 13) (.t 14)⟩,
   ⟨some 16, none, .load (some 2) (.t 15)⟩,
   ⟨some 17, none, .call n_spec_l3VoteCopy S_spec_l3VoteCopy [(.t 16, [none, some 4])]⟩,
   ⟨some 18, none, .bsl 28 2 [.t 17]⟩,
   ⟨some 19, none, .app 28 2 32 [.int .i64 0, .slice none 0 0] (.t 12) (.t 18)⟩,
   ⟨some 3, none, .mv (.t 19)⟩]))
 (.rg [⟨some 10, none, .mv (.t 4)⟩,
   ⟨some 11, none, .bin 0 .add (.t 10) (.k (.int .i64 1))⟩,
   ⟨some 4, none, .mv (.t 11)⟩]))))))
 (.seq
 (.rg [⟨some 20, none, .mv (.t 3)⟩,
   ⟨some 2, none, .mv (.t 20)⟩])
 .ret)))) }
theorem is_spec_l3Copy_o : IsF Try.prog n_spec_l3Copy_o c_spec_l3Copy_o := ⟨Try.f101, _, Try.func101, rfl, by decide, rfl, by kernel_rfl, by kernel_rfl⟩
noncomputable def c_spec_l12Copy : FC := { n := 8, res := [⟨some (some 4), 2, [none, none, none, some 2]⟩], body :=
 (.seq
 (.rg [⟨some 1, none, .box (.t 0)⟩,
   ⟨some 2, none, .alloc [.int .i64 0, .int .i64 0, .int .i64 0, .slice none 0 0]⟩])
 (.seq
 (.rg [⟨some 3, none, .fld 3 (.t 1)⟩,
   ⟨some 4, none, .load none (.t 3)⟩,
   ⟨some 5, none, .callm n_spec_l3Copy SM_spec_l3Copy [(.t 4, [some 2])]⟩,
   ⟨some 6, none, .fld 3 (.t 1)⟩,
   ⟨none, none, .store 1 (.t 6) (.t 5)⟩])
 (.seq
 (.rg [⟨some 7, none, .load (some 4) (.t 1)⟩,
   ⟨none, none, .store 4 (.t 2) (.t 7)⟩])
 .ret))) }
theorem is_spec_l12Copy : IsF Try.prog n_spec_l12Copy c_spec_l12Copy := ⟨Try.f61, _, Try.func61, rfl, by decide, rfl, by kernel_rfl, by kernel_rfl⟩
noncomputable def c_spec_l12Enter : FC := { n := 13, res := [⟨some (some 4), 4, [none, none, none, some 2]⟩], body :=
 (.seq
 (.rg [⟨some 2, none, .box (.t 0)⟩,
   ⟨some 4, none, .alloc [.int .i64 0, .int .i64 0, .int .i64 0, .slice none 0 0]⟩])
 (.seq
 (.seq
 (.rg [⟨some 5, none, .mv (.t 1)⟩,
   ⟨some 6, none, .fld 1 (.t 2)⟩,
   ⟨some 7, none, .load none (.t 6)⟩,
   ⟨some 8, none, .bin 0 .add (.t 7) (.k (.int .i64 1))⟩,
   ⟨some 9, none, .call n_spec_l6In S_spec_l6In [(.t 5, []), (.t 8, []), (.k (.int .i64 30), [])]⟩])
 (.cond (.t 9)
 (.rg [⟨some 10, none, .mv (.t 1)⟩,
   ⟨some 11, none, .fld 1 (.t 2)⟩,
   ⟨none, none, .store 1 (.t 11) (.t 10)⟩])
 .skip))
 (.seq
 (.rg [⟨some 12, none, .load (some 4) (.t 2)⟩,
   ⟨none, none, .store 4 (.t 4) (.t 12)⟩])
 .ret))) }
theorem is_spec_l12Enter : IsF Try.prog n_spec_l12Enter c_spec_l12Enter := ⟨Try.f54, _, Try.func54, rfl, by decide, rfl, by kernel_rfl, by kernel_rfl⟩
noncomputable def c_spec_NodeEnter : FC := { n := 13, res := [⟨some (some 4), 4, [none, none, none, some 2]⟩], body :=
 (.seq
 (.rg [⟨some 2, none, .box (.t 0)⟩,
   ⟨some 4, none, .alloc [.int .i64 0, .int .i64 0, .int .i64 0, .slice none 0 0]⟩])
 (.seq
 (.seq
 (.rg [⟨some 5, none, .load (some 4) (.t 2)⟩,
   ⟨some 6, none, .call n_spec_NodeOk S_spec_NodeOk [(.t 5, [none, none, none, some 2])]⟩,
   ⟨some 7, none, .un .not (.t 6)⟩])
 (.cond (.t 7)
 (.seq
 (.rg [⟨some 8, none, .build [.int .i64 0, .int .i64 0, .int .i64 0, .slice none 0 0] []⟩,
   ⟨none, none, .store 4 (.t 4) (.t 8)⟩])
 .ret)
 .skip))
 (.seq
 (.rg [⟨some 9, none, .load (some 4) (.t 2)⟩,
   ⟨some 10, none, .callm n_spec_l12Copy S_spec_l12Copy [(.t 9, [none, none, none, some 2])]⟩,
   ⟨some 11, none, .mv (.t 1)⟩,
   ⟨some 12, none, .callm n_spec_l12Enter S_spec_l12Enter [(.t 10, [none, none, none, some 2]), (.t 11, [])]⟩,
   ⟨none, none, .store 4 (.t 4) (.t 12)⟩])
 .ret))) }
theorem is_spec_NodeEnter : IsF Try.prog n_spec_NodeEnter c_spec_NodeEnter := ⟨Try.f28, _, Try.func28, rfl, by decide, rfl, by kernel_rfl, by kernel_rfl⟩
end Av
end Go.Proofs.Ytkpncekaehgbdaa
