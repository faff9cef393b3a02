/- The functions' code in the small language, and that it is theirs. -/
import Derived.Test.YtdboofnogabefaaKD
import Derived.Test.YtdboofnogabefaaD1
import Derived.Test.YtdboofnogabefaaProg
import Derived.KernelRfl
set_option linter.unusedVariables false
namespace Go.Proofs.Ytdboofnogabefaa
namespace Av
noncomputable def c_laws_szNode : FC := { n := 12, res := [⟨none, 4, []⟩], body :=
 (.seq
 (.rg [⟨some 2, none, .box (.t 0)⟩,
   ⟨some 4, none, .mv (.k (.int .i64 0))⟩])
 (.seq
 (.rg [⟨some 5, none, .fld 3 (.t 2)⟩,
   ⟨some 6, none, .load none (.t 5)⟩,
   ⟨some 7, none, .mv (.t 1)⟩,
   ⟨some 8, none, .call n_laws_szVoteS S_laws_szVoteS [(.t 6, [some 2]), (.t 7, [])]⟩,
   ⟨some 1, none, .mv (.t 8)⟩])
 (.seq
 (.seq
 (.rg [⟨some 9, none, .mv (.t 1)⟩,
   ⟨some 10, none, .bin 0 .lss (.t 9) (.k (.int .i64 0))⟩])
 (.cond (.t 10)
 (.seq
 (.rg [⟨some 4, none, .mv (.k (.int .i64 (-1)))⟩])
 .ret)
 .skip))
 (.seq
 (.rg [⟨some 11, none, .mv (.t 1)⟩,
   ⟨some 4, none, .mv (.t 11)⟩])
 .ret)))) }
theorem is_laws_szNode : IsF Try.prog n_laws_szNode c_laws_szNode := ⟨Try.f26, _, Try.func26, rfl, by decide, rfl, by kernel_rfl, by kernel_rfl⟩
noncomputable def c_laws_toNode : FC := { n := 18, res := [⟨some (some 4), 2, [none, none, none, some 2]⟩], body :=
 (.seq
 (.rg [⟨some 1, none, .box (.t 0)⟩,
   ⟨some 2, none, .alloc [.int .i64 0, .int .i64 0, .int .i64 0, .slice none 0 0]⟩])
 (.seq
 (.rg [⟨some 3, none, .alloc [.int .i64 0, .int .i64 0, .int .i64 0, .slice none 0 0]⟩])
 (.seq
 (.rg [⟨some 4, none, .fld 0 (.t 1)⟩,
   ⟨some 5, none, .load none (.t 4)⟩,
   ⟨some 6, none, .fld 0 (.t 3)⟩,
   ⟨none, none, .store 1 (.t 6) (.t 5)⟩])
 (.seq
 (.rg [⟨some 7, none, .fld 1 (.t 1)⟩,
   ⟨some 8, none, .load none (.t 7)⟩,
   ⟨some 9, none, .fld 1 (.t 3)⟩,
   ⟨none, none, .store 1 (.t 9) (.t 8)⟩])
 (.seq
 (.rg [⟨some 10, none, .fld 2 (.t 1)⟩,
   ⟨some 11, none, .load none (.t 10)⟩,
   ⟨some 12, none, .fld 2 (.t 3)⟩,
   ⟨none, none, .store 1 (.t 12) (.t 11)⟩])
 (.seq
 (.rg [⟨some 13, none, .fld 3 (.t 1)⟩,
   ⟨some 14, none, .load none (.t 13)⟩,
   ⟨some 15, none, .call n_laws_toVoteS S_laws_toVoteS [(.t 14, [some 2])]⟩,
   ⟨some 16, none, .fld 3 (.t 3)⟩,
   ⟨none, none, .store 1 (.t 16) (.t 15)⟩])
 (.seq
 (.rg [⟨some 17, none, .load (some 4) (.t 3)⟩,
   ⟨none, none, .store 4 (.t 2) (.t 17)⟩])
 .ret))))))) }
theorem is_laws_toNode : IsF Try.prog n_laws_toNode c_laws_toNode := ⟨Try.f28, _, Try.func28, rfl, by decide, rfl, by kernel_rfl, by kernel_rfl⟩
noncomputable def c_laws_eqNode : FC := { n := 26, res := [⟨none, 4, []⟩], body :=
 (.seq
 (.rg [⟨some 2, none, .box (.t 0)⟩,
   ⟨some 3, none, .box (.t 1)⟩,
   ⟨some 4, none, .mv (.k (.bool false))⟩])
 (.seq
 (.seq
 (.rg [⟨some 5, none, .fld 0 (.t 2)⟩,
   ⟨some 6, none, .load none (.t 5)⟩,
   ⟨some 7, none, .fld 0 (.t 3)⟩,
   ⟨some 8, none, .load none (.t 7)⟩,
   ⟨some 9, none, .bin 0 .neq (.t 6) (.t 8)⟩])
 (.cond (.t 9)
 (.seq
 (.rg [⟨some 4, none, .mv (.k (.bool false))⟩])
 .ret)
 .skip))
 (.seq
 (.seq
 (.rg [⟨some 10, none, .fld 1 (.t 2)⟩,
   ⟨some 11, none, .load none (.t 10)⟩,
   ⟨some 12, none, .fld 1 (.t 3)⟩,
   ⟨some 13, none, .load none (.t 12)⟩,
   ⟨some 14, none, .bin 0 .neq (.t 11) (.t 13)⟩])
 (.cond (.t 14)
 (.seq
 (.rg [⟨some 4, none, .mv (.k (.bool false))⟩])
 .ret)
 .skip))
 (.seq
 (.seq
 (.rg [⟨some 15, none, .fld 2 (.t 2)⟩,
   ⟨some 16, none, .load none (.t 15)⟩,
   ⟨some 17, none, .fld 2 (.t 3)⟩,
   ⟨some 18, none, .load none (.t 17)⟩,
   ⟨some 19, none, .bin 0 .neq (.t 16) (.t 18)⟩])
 (.cond (.t 19)
 (.seq
 (.rg [⟨some 4, none, .mv (.k (.bool false))⟩])
 .ret)
 .skip))
 (.seq
 (.seq
 (.rg [⟨some 20, none, .fld 3 (.t 2)⟩,
   ⟨some 21, none, .load none (.t 20)⟩,
   ⟨some 22, none, .fld 3 (.t 3)⟩,
   ⟨some 23, none, .load none (.t 22)⟩,
   ⟨some 24, none, .call n_laws_eqVoteS S_laws_eqVoteS [(.t 21, [some 2]), (.t 23, [some 2])]⟩,
   ⟨some 25, none, .un .not (.t 24)⟩])
 (.cond (.t 25)
 (.seq
 (.rg [⟨some 4, none, .mv (.k (.bool false))⟩])
 .ret)
 .skip))
 (.seq
 (.rg [⟨some 4, none, .mv (.k (.bool true))⟩])
 .ret)))))) }
theorem is_laws_eqNode : IsF Try.prog n_laws_eqNode c_laws_eqNode := ⟨Try.f30, _, Try.func30, rfl, by decide, rfl, by kernel_rfl, by kernel_rfl⟩
noncomputable def c_laws_toNode_o : FC := { n := 18, res := [⟨some (some 4), 2, [none, none, none, some 2]⟩], body :=
 (.seq
 (.rg [⟨some 1, none, .box (.t 0)⟩,
   ⟨some 2, none, .alloc [.int .i64 0, .int .i64 0, .int .i64 0, .slice none 0 0]⟩])
 (.seq
 (.rg [⟨some 3, none, .alloc [.int .i64 0, .int .i64 0, .int .i64 0, .slice none 0 0]⟩])
 (.seq
 (.rg [⟨some 4, none, .fld 0 (.t 1)⟩,
   ⟨some 5, none, .load none (.t 4)⟩,
   ⟨some 6, none, .fld 0 (.t 3)⟩,
   ⟨none, none, .store 1 (.t 6) (.t 5)⟩])
 (.seq
 (.rg [⟨some 7, none, .fld 1 (.t 1)⟩,
   ⟨some 8, none, .load none (.t 7)⟩,
   ⟨some 9, none, .fld 1 (.t 3)⟩,
   ⟨none, none, .store 1 (.t 9) (.t 8)⟩])
 (.seq
 (.rg [⟨some 10, none, .fld 2 (.t 1)⟩,
   ⟨some 11, none, .load none (.t 10)⟩,
   ⟨some 12, none, .fld 2 (.t 3)⟩,
   ⟨none, none, .store 1 (.t 12) (.t 11)⟩])
 (.seq
 (.rg [⟨some 13, none, .fld 3 (.t 1)⟩,
   ⟨some 14, none, .load none (.t 13)⟩,
   ⟨some 15, none, .callm n_laws_toVoteS_o S_laws_toVoteS_o [(.t 14, [some 2])]⟩,
   ⟨some 16, none, .fld 3 (.t 3)⟩,
   ⟨none, none, .store 1 (.t 16) (.t 15)⟩])
 (.seq
 (.rg [⟨some 17, none, .load (some 4) (.t 3)⟩,
   ⟨none, none, .store 4 (.t 2) (.t 17)⟩])
 .ret))))))) }
theorem is_laws_toNode_o : IsF Try.prog n_laws_toNode_o c_laws_toNode_o := ⟨Try.f28, _, Try.func28, rfl, by decide, rfl, by kernel_rfl, by kernel_rfl⟩
noncomputable def c_laws_markNode_o : FC := { n := 10, res := [⟨none, 4, []⟩], body :=
 (.seq
 (.rg [⟨some 2, none, .box (.t 0)⟩,
   ⟨some 4, none, .mv (.k (.int .i64 0))⟩])
 (.seq
 (.rg [⟨some 5, none, .fld 3 (.t 2)⟩,
   ⟨some 6, none, .load none (.t 5)⟩,
   ⟨some 7, none, .mv (.t 1)⟩,
   ⟨some 8, none, .callm n_laws_markVoteS_o S_laws_markVoteS_o [(.t 6, [some 2]), (.t 7, [])]⟩,
   ⟨some 1, none, .mv (.t 8)⟩])
 (.seq
 (.rg [⟨some 9, none, .mv (.t 1)⟩,
   ⟨some 4, none, .mv (.t 9)⟩])
 .ret))) }
theorem is_laws_markNode_o : IsF Try.prog n_laws_markNode_o c_laws_markNode_o := ⟨Try.f31, _, Try.func31, rfl, by decide, rfl, by kernel_rfl, by kernel_rfl⟩
noncomputable def c_laws_heldNode : FC := { n := 12, res := [⟨none, 4, []⟩], body :=
 (.seq
 (.rg [⟨some 2, none, .box (.t 0)⟩,
   ⟨some 4, none, .mv (.k (.int .i64 0))⟩])
 (.seq
 (.rg [⟨some 5, none, .fld 3 (.t 2)⟩,
   ⟨some 6, none, .load none (.t 5)⟩,
   ⟨some 7, none, .mv (.t 1)⟩,
   ⟨some 8, none, .call n_laws_heldVoteS S_laws_heldVoteS [(.t 6, [some 2]), (.t 7, [])]⟩,
   ⟨some 1, none, .mv (.t 8)⟩])
 (.seq
 (.seq
 (.rg [⟨some 9, none, .mv (.t 1)⟩,
   ⟨some 10, none, .bin 0 .lss (.t 9) (.k (.int .i64 0))⟩])
 (.cond (.t 10)
 (.seq
 (.rg [⟨some 4, none, .mv (.k (.int .i64 (-1)))⟩])
 .ret)
 .skip))
 (.seq
 (.rg [⟨some 11, none, .mv (.t 1)⟩,
   ⟨some 4, none, .mv (.t 11)⟩])
 .ret)))) }
theorem is_laws_heldNode : IsF Try.prog n_laws_heldNode c_laws_heldNode := ⟨Try.f47, _, Try.func47, rfl, by decide, rfl, by kernel_rfl, by kernel_rfl⟩
noncomputable def c_impl_Node_copied_o : FC := { n := 8, res := [⟨some (some 4), 2, [none, none, none, some 2]⟩], body :=
 (.seq
 (.rg [⟨some 1, none, .box (.t 0)⟩,
   ⟨some 2, none, .alloc [.int .i64 0, .int .i64 0, .int .i64 0, .slice none 0 0]⟩])
 (.seq
 (.rg [⟨some 3, none, .fld 3 (.t 1)⟩,
   ⟨some 4, none, .load none (.t 3)⟩,
   ⟨some 5, none, .callm n_impl_votes_copied_o S_impl_votes_copied_o [(.t 4, [some 2])]⟩,
   ⟨some 6, none, .fld 3 (.t 1)⟩,
   ⟨none, none, .store 1 (.t 6) (.t 5)⟩])
 (.seq
 (.rg [⟨some 7, none, .load (some 4) (.t 1)⟩,
   ⟨none, none, .store 4 (.t 2) (.t 7)⟩])
 .ret))) }
theorem is_impl_Node_copied_o : IsF Try.prog n_impl_Node_copied_o c_impl_Node_copied_o := ⟨Try.f59, _, Try.func59, rfl, by decide, rfl, by kernel_rfl, by kernel_rfl⟩
end Av
end Go.Proofs.Ytdboofnogabefaa
