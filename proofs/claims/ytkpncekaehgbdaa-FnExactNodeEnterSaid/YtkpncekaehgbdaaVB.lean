/- The functions' code in the small language, and that it is theirs. -/
import Derived.Test.YtkpncekaehgbdaaVA
import Derived.Test.YtkpncekaehgbdaaD1
import Derived.Test.YtkpncekaehgbdaaProg
import Derived.KernelRfl
set_option linter.unusedVariables false
namespace Go.Proofs.Ytkpncekaehgbdaa
namespace Av
noncomputable def c_laws_heldVoteS : FC := { n := 31, res := [⟨none, 4, []⟩], body :=
 (.seq
 (.rg [⟨some 4, none, .mv (.k (.int .i64 0))⟩])
 (.seq
 (.seq
 (.rg [⟨some 5, none, .mv (.k (.int .i64 0))⟩])
 (.block 0
 (.loop
 (.seq
 (.seq
 (.rg [⟨some 6, none, .mv (.t 5)⟩,
   ⟨some 7, none, .mv (.t 0)⟩,
   ⟨some 8, none, .len (.t 7)⟩,
   ⟨some 9, none, .bin 0 .lss (.t 6) (.t 8)⟩])
 (.cond (.t 9)
 .skip
 (.exit 0)))
 (.seq
 (.block 1
 (.seq
 (.seq
 (.rg [⟨some 12, none, .mv (.t 0)⟩,
   ⟨some 13, none, .mv (.t 5)⟩,
   ⟨some 14, none, .idx 2 (.t 12) (.t 13)⟩,
   ⟨some 15, none, .fld 0 (.t 14)⟩,
   ⟨some 16, none, .load none (.t 15)⟩,
   ⟨some 17, none, .mv (.t 1)⟩,
   ⟨some 18, none, .bin 0 .neq (.t 16) (.t 17)⟩])
 (.cond (.t 18)
 (.seq
 (.rg [⟨some 4, none, .mv (.k (.int .i64 (-1)))⟩])
 .ret)
 .skip))
 (.seq
 (.rg [⟨some 19, none, .mv (.t 1)⟩,
   ⟨some 20, none, .bin 0 .add (.t 19) (.k (.int .i64 1))⟩,
   ⟨some 1, none, .mv (.t 20)⟩])
 (.seq
 (.rg [⟨some 21, none, .mv (.t 0)⟩,
   ⟨some 22, none, .mv (.t 5)⟩,
   ⟨some 23, none, .idx 2 (.t 21) (.t 22)⟩,
   ⟨some 24, none, .fld 1 (.t 23)⟩,
   ⟨some 25, none, .load none (.t 24)⟩,
   ⟨some 26, none, .mv (.t 1)⟩,
   ⟨some 27, none, .call n_laws_heldItemS S_laws_heldItemS [(.t 25, [some 4]), (.t 26, [])]⟩,
   ⟨some 1, none, .mv (.t 27)⟩])
 (.seq
 (.rg [⟨some 28, none, .mv (.t 1)⟩,
   ⟨some 29, none, .bin 0 .lss (.t 28) (.k (.int .i64 0))⟩])
 (.cond (.t 29)
 (.seq
 (.rg [⟨some 4, none, .mv (.k (.int .i64 (-1)))⟩])
 .ret)
 .skip))))))
 (.rg [⟨some 10, none, .mv (.t 5)⟩,
   ⟨some 11, none, .bin 0 .add (.t 10) (.k (.int .i64 1))⟩,
   ⟨some 5, none, .mv (.t 11)⟩]))))))
 (.seq
 (.rg [⟨some 30, none, .mv (.t 1)⟩,
   ⟨some 4, none, .mv (.t 30)⟩])
 .ret))) }
theorem is_laws_heldVoteS : IsF Try.prog n_laws_heldVoteS c_laws_heldVoteS := ⟨Try.f81, _, Try.func81, rfl, by decide, rfl, by kernel_rfl, by kernel_rfl⟩
noncomputable def c_impl_Vote_copied_o : FC := { n := 9, res := [⟨some (some 2), 2, [none, some 4]⟩], body :=
 (.seq
 (.rg [⟨some 1, none, .box (.t 0)⟩,
   ⟨some 2, none, .alloc [.int .i64 0, .slice none 0 0]⟩])
 (.seq
 (.rg [⟨some 3, none, .fld 0 (.t 1)⟩,
   ⟨some 4, none, .load none (.t 3)⟩,
   ⟨some 5, none, .fld 1 (.t 1)⟩,
   ⟨some 6, none, .load none (.t 5)⟩,
   ⟨some 7, none, .callo n_impl_copied SO_impl_copied [(.t 6, [some 4])]⟩,
   ⟨some 8, none, .build [.int .i64 0, .slice none 0 0] [(0, 1, .t 4), (1, 1, .t 7)]⟩,
   ⟨none, none, .store 2 (.t 2) (.t 8)⟩])
 .ret)) }
theorem is_impl_Vote_copied_o : IsF Try.prog n_impl_Vote_copied_o c_impl_Vote_copied_o := ⟨Try.f130, _, Try.func130, rfl, by decide, rfl, by kernel_rfl, by kernel_rfl⟩
noncomputable def c_impl_votes_copied_o : FC := { n := 22, res := [⟨none, 2, [some 2]⟩], body :=
 (.seq
 (.rg [⟨some 2, none, .mv (.k (.slice none 0 0))⟩])
 (.seq
 (.rg [⟨some 6, none, .mv (.t 0)⟩,
   ⟨some 7, none, .len (.t 6)⟩,
   ⟨some 8, none, .mksl 28 2 32 [.int .i64 0, .slice none 0 0] (.k (.int .i64 0)) (.t 7)⟩,
   ⟨some 3, none, .mv (.t 8)⟩])
 (.seq
 (.seq
 (.rg [⟨some 9, none, .mv (.t 0)⟩,
   ⟨some 10, none, .len (.t 9)⟩,
   ⟨some 11, none, .mv (.k (.int .i64 0))⟩])
 (.block 0
 (.loop
 (.seq
 (.rg [⟨some 12, none, .bin 0 .lss (.t 11) (.t 10)⟩])
 (.seq
 (.cond (.t 12)
 .skip
 (.exit 0))
 (.seq
 (.block 1
 (.seq
 (.rg [⟨some 13, none, .idx 2 (.t 9) (.t 11)⟩,
   ⟨some 14, none, .load (some 2) (.t 13)⟩,
   ⟨some 5, none, .alloc [.int .i64 0, .slice none 0 0]⟩,
   ⟨none, none, .store 2 (.t 5) (.t 14)⟩])
 (.rg [⟨some 15, none, .mv (.t 3)⟩,
   ⟨some 16, none, .load (some 2) (.t 5)⟩,
   ⟨some 17, none, .callm n_impl_Vote_copied_o S_impl_Vote_copied_o [(.t 16, [none, some 4])]⟩,
   ⟨some 18, none, .bsl 28 2 [.t 17]⟩,
   ⟨some 19, none, .app 28 2 32 [.int .i64 0, .slice none 0 0] (.t 15) (.t 18)⟩,
   ⟨some 3, none, .mv (.t 19)⟩])))
 (.rg [⟨some 20, none, .bin 0 .add (.t 11) (.k (.int .i64 1))⟩,
   ⟨some 11, none, .mv (.t 20)⟩])))))))
 (.seq
 (.rg [⟨some 21, none, .mv (.t 3)⟩,
   ⟨some 2, none, .mv (.t 21)⟩])
 .ret)))) }
theorem is_impl_votes_copied_o : IsF Try.prog n_impl_votes_copied_o c_impl_votes_copied_o := ⟨Try.f102, _, Try.func102, rfl, by decide, rfl, by kernel_rfl, by kernel_rfl⟩
end Av
end Go.Proofs.Ytkpncekaehgbdaa
