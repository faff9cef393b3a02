/- The functions' code in the small language, and that it is theirs. -/
import Derived.Test.YtkpncekaehgbdaaKD
import Derived.Test.YtkpncekaehgbdaaD1
import Derived.Test.YtkpncekaehgbdaaProg
import Derived.KernelRfl
set_option linter.unusedVariables false
namespace Go.Proofs.Ytkpncekaehgbdaa
namespace Av
noncomputable def c_laws_szNode : FC := { n := 12, res := [⟨none, 4, []⟩], body :=
 (.seq
 (.rg [⟨some 2, none, .box (.t 0)⟩,
   ⟨some 4, none, .mv (.k (.int .i64 0))⟩])
 (.seq
 (.rg [⟨some 5, none, .fld 3 (.t 2)⟩,
   ⟨some 6, none, .load none (.t 5)⟩,
   ⟨some 7, none, .mv (.t 1)⟩,
   ⟨some 8, none, .call n_laws_szVoteS S_laws_szVoteS [(.t 6, [some 2]), (.t 7, [])]⟩,
   ⟨some 1, none, .mv (.t 8)⟩])
 (.seq
 (.seq
 (.rg [⟨some 9, none, .mv (.t 1)⟩,
   ⟨some 10, none, .bin 0 .lss (.t 9) (.k (.int .i64 0))⟩])
 (.cond (.t 10)
 (.seq
 (.rg [⟨some 4, none, .mv (.k (.int .i64 (-1)))⟩])
 .ret)
 .skip))
 (.seq
 (.rg [⟨some 11, none, .mv (.t 1)⟩,
   ⟨some 4, none, .mv (.t 11)⟩])
 .ret)))) }
theorem is_laws_szNode : IsF Try.prog n_laws_szNode c_laws_szNode := ⟨Try.f27, _, Try.func27, rfl, by decide, rfl, by kernel_rfl, by kernel_rfl⟩
noncomputable def c_laws_toNode : FC := { n := 18, res := [⟨some (some 4), 2, [none, none, none, some 2]⟩], body :=
 (.seq
 (.rg [⟨some 1, none, .box (.t 0)⟩,
   ⟨some 2, none, .alloc [.int .i64 0, .int .i64 0, .int .i64 0, .slice none 0 0]⟩])
 (.seq
 (.rg [⟨some 3, none, .alloc [.int .i64 0, .int .i64 0, .int .i64 0, .slice none 0 0]⟩])
 (.seq
 (.rg [⟨some 4, none, .fld 0 (.t 1)⟩,
   ⟨some 5, none, .load none (.t 4)⟩,
   ⟨some 6, none, .fld 0 (.t 3)⟩,
   ⟨none, none, .store 1 (.t 6) (.t 5)⟩])
 (.seq
 (.rg [⟨some 7, none, .fld 1 (.t 1)⟩,
   ⟨some 8, none, .load none (.t 7)⟩,
   ⟨some 9, none, .fld 1 (.t 3)⟩,
   ⟨none, none, .store 1 (.t 9) (.t 8)⟩])
 (.seq
 (.rg [⟨some 10, none, .fld 2 (.t 1)⟩,
   ⟨some 11, none, .load none (.t 10)⟩,
   ⟨some 12, none, .fld 2 (.t 3)⟩,
   ⟨none, none, .store 1 (.t 12) (.t 11)⟩])
 (.seq
 (.rg [⟨some 13, none, .fld 3 (.t 1)⟩,
   ⟨some 14, none, .load none (.t 13)⟩,
   ⟨some 15, none, .call n_laws_toVoteS S_laws_toVoteS [(.t 14, [some 2])]⟩,
   ⟨some 16, none, .fld 3 (.t 3)⟩,
   ⟨none, none, .store 1 (.t 16) (.t 15)⟩])
 (.seq
 (.rg [⟨some 17, none, .load (some 4) (.t 3)⟩,
   ⟨none, none, .store 4 (.t 2) (.t 17)⟩])
 .ret))))))) }
theorem is_laws_toNode : IsF Try.prog n_laws_toNode c_laws_toNode := ⟨Try.f29, _, Try.func29, rfl, by decide, rfl, by kernel_rfl, by kernel_rfl⟩
noncomputable def c_laws_eqNode : FC := { n := 26, res := [⟨none, 4, []⟩], body :=
 (.seq
 (.rg [⟨some 2, none, .box (.t 0)⟩,
   ⟨some 3, none, .box (.t 1)⟩,
   ⟨some 4, none, .mv (.k (.bool false))⟩])
 (.seq
 (.seq
 (.rg [⟨some 5, none, .fld 0 (.t 2)⟩,
   ⟨some 6, none, .load none (.t 5)⟩,
   ⟨some 7, none, .fld 0 (.t 3)⟩,
   ⟨some 8, none, .load none (.t 7)⟩,
   ⟨some 9, none, .bin 0 .neq (.t 6) (.t 8)⟩])
 (.cond (.t 9)
 (.seq
 (.rg [⟨some 4, none, .mv (.k (.bool false))⟩])
 .ret)
 .skip))
 (.seq
 (.seq
 (.rg [⟨some 10, none, .fld 1 (.t 2)⟩,
   ⟨some 11, none, .load none (.t 10)⟩,
   ⟨some 12, none, .fld 1 (.t 3)⟩,
   ⟨some 13, none, .load none (.t 12)⟩,
   ⟨some 14, none, .bin 0 .neq (.t 11) (.t 13)⟩])
 (.cond (.t 14)
 (.seq
 (.rg [⟨some 4, none, .mv (.k (.bool false))⟩])
 .ret)
 .skip))
 (.seq
 (.seq
 (.rg [⟨some 15, none, .fld 2 (.t 2)⟩,
   ⟨some 16, none, .load none (.t 15)⟩,
   ⟨some 17, none, .fld 2 (.t 3)⟩,
   ⟨some 18, none, .load none (.t 17)⟩,
   ⟨some 19, none, .bin 0 .neq (.t 16) (.t 18)⟩])
 (.cond (.t 19)
 (.seq
 (.rg [⟨some 4, none, .mv (.k (.bool false))⟩])
 .ret)
 .skip))
 (.seq
 (.seq
 (.rg [⟨some 20, none, .fld 3 (.t 2)⟩,
   ⟨some 21, none, .load none (.t 20)⟩,
   ⟨some 22, none, .fld 3 (.t 3)⟩,
   ⟨some 23, none, .load none (.t 22)⟩,
   ⟨some 24, none, .call n_laws_eqVoteS S_laws_eqVoteS [(.t 21, [some 2]), (.t 23, [some 2])]⟩,
   ⟨some 25, none, .un .not (.t 24)⟩])
 (.cond (.t 25)
 (.seq
 (.rg [⟨some 4, none, .mv (.k (.bool false))⟩])
 .ret)
 .skip))
 (.seq
 (.rg [⟨some 4, none, .mv (.k (.bool true))⟩])
 .ret)))))) }
theorem is_laws_eqNode : IsF Try.prog n_laws_eqNode c_laws_eqNode := ⟨Try.f31, _, Try.func31, rfl, by decide, rfl, by kernel_rfl, by kernel_rfl⟩
noncomputable def c_laws_toNode_o : FC := { n := 18, res := [⟨some (some 4), 2, [none, none, none, some 2]⟩], body :=
 (.seq
 (.rg [⟨some 1, none, .box (.t 0)⟩,
   ⟨some 2, none, .alloc [.int .i64 0, .int .i64 0, .int .i64 0, .slice none 0 0]⟩])
 (.seq
 (.rg [⟨some 3, none, .alloc [.int .i64 0, .int .i64 0, .int .i64 0, .slice none 0 0]⟩])
 (.seq
 (.rg [⟨some 4, none, .fld 0 (.t 1)⟩,
   ⟨some 5, none, .load none (.t 4)⟩,
   ⟨some 6, none, .fld 0 (.t 3)⟩,
   ⟨none, none, .store 1 (.t 6) (.t 5)⟩])
 (.seq
 (.rg [⟨some 7, none, .fld 1 (.t 1)⟩,
   ⟨some 8, none, .load none (.t 7)⟩,
   ⟨some 9, none, .fld 1 (.t 3)⟩,
   ⟨none, none, .store 1 (.t 9) (.t 8)⟩])
 (.seq
 (.rg [⟨some 10, none, .fld 2 (.t 1)⟩,
   ⟨some 11, none, .load none (.t 10)⟩,
   ⟨some 12, none, .fld 2 (.t 3)⟩,
   ⟨none, none, .store 1 (.t 12) (.t 11)⟩])
 (.seq
 (.rg [⟨some 13, none, .fld 3 (.t 1)⟩,
   ⟨some 14, none, .load none (.t 13)⟩,
   ⟨some 15, none, .callm n_laws_toVoteS_o S_laws_toVoteS_o [(.t 14, [some 2])]⟩,
   ⟨some 16, none, .fld 3 (.t 3)⟩,
   ⟨none, none, .store 1 (.t 16) (.t 15)⟩])
 (.seq
 (.rg [⟨some 17, none, .load (some 4) (.t 3)⟩,
   ⟨none, none, .store 4 (.t 2) (.t 17)⟩])
 .ret))))))) }
theorem is_laws_toNode_o : IsF Try.prog n_laws_toNode_o c_laws_toNode_o := ⟨Try.f29, _, Try.func29, rfl, by decide, rfl, by kernel_rfl, by kernel_rfl⟩
noncomputable def c_laws_markNode_o : FC := { n := 10, res := [⟨none, 4, []⟩], body :=
 (.seq
 (.rg [⟨some 2, none, .box (.t 0)⟩,
   ⟨some 4, none, .mv (.k (.int .i64 0))⟩])
 (.seq
 (.rg [⟨some 5, none, .fld 3 (.t 2)⟩,
   ⟨some 6, none, .load none (.t 5)⟩,
   ⟨some 7, none, .mv (.t 1)⟩,
   ⟨some 8, none, .callm n_laws_markVoteS_o S_laws_markVoteS_o [(.t 6, [some 2]), (.t 7, [])]⟩,
   ⟨some 1, none, .mv (.t 8)⟩])
 (.seq
 (.rg [⟨some 9, none, .mv (.t 1)⟩,
   ⟨some 4, none, .mv (.t 9)⟩])
 .ret))) }
theorem is_laws_markNode_o : IsF Try.prog n_laws_markNode_o c_laws_markNode_o := ⟨Try.f32, _, Try.func32, rfl, by decide, rfl, by kernel_rfl, by kernel_rfl⟩
noncomputable def c_laws_heldNode : FC := { n := 12, res := [⟨none, 4, []⟩], body :=
 (.seq
 (.rg [⟨some 2, none, .box (.t 0)⟩,
   ⟨some 4, none, .mv (.k (.int .i64 0))⟩])
 (.seq
 (.rg [⟨some 5, none, .fld 3 (.t 2)⟩,
   ⟨some 6, none, .load none (.t 5)⟩,
   ⟨some 7, none, .mv (.t 1)⟩,
   ⟨some 8, none, .call n_laws_heldVoteS S_laws_heldVoteS [(.t 6, [some 2]), (.t 7, [])]⟩,
   ⟨some 1, none, .mv (.t 8)⟩])
 (.seq
 (.seq
 (.rg [⟨some 9, none, .mv (.t 1)⟩,
   ⟨some 10, none, .bin 0 .lss (.t 9) (.k (.int .i64 0))⟩])
 (.cond (.t 10)
 (.seq
 (.rg [⟨some 4, none, .mv (.k (.int .i64 (-1)))⟩])
 .ret)
 .skip))
 (.seq
 (.rg [⟨some 11, none, .mv (.t 1)⟩,
   ⟨some 4, none, .mv (.t 11)⟩])
 .ret)))) }
theorem is_laws_heldNode : IsF Try.prog n_laws_heldNode c_laws_heldNode := ⟨Try.f33, _, Try.func33, rfl, by decide, rfl, by kernel_rfl, by kernel_rfl⟩
noncomputable def c_impl_Node_copied_o : FC := { n := 8, res := [⟨some (some 4), 2, [none, none, none, some 2]⟩], body :=
 (.seq
 (.rg [⟨some 1, none, .box (.t 0)⟩,
   ⟨some 2, none, .alloc [.int .i64 0, .int .i64 0, .int .i64 0, .slice none 0 0]⟩])
 (.seq
 (.rg [⟨some 3, none, .fld 3 (.t 1)⟩,
   ⟨some 4, none, .load none (.t 3)⟩,
   ⟨some 5, none, .callm n_impl_votes_copied_o S_impl_votes_copied_o [(.t 4, [some 2])]⟩,
   ⟨some 6, none, .fld 3 (.t 1)⟩,
   ⟨none, none, .store 1 (.t 6) (.t 5)⟩])
 (.seq
 (.rg [⟨some 7, none, .load (some 4) (.t 1)⟩,
   ⟨none, none, .store 4 (.t 2) (.t 7)⟩])
 .ret))) }
theorem is_impl_Node_copied_o : IsF Try.prog n_impl_Node_copied_o c_impl_Node_copied_o := ⟨Try.f62, _, Try.func62, rfl, by decide, rfl, by kernel_rfl, by kernel_rfl⟩
noncomputable def c_impl_Node_enter_o : FC := { n := 13, res := [⟨some (some 4), 4, [none, none, none, some 2]⟩], body :=
 (.seq
 (.rg [⟨some 2, none, .box (.t 0)⟩,
   ⟨some 4, none, .alloc [.int .i64 0, .int .i64 0, .int .i64 0, .slice none 0 0]⟩])
 (.seq
 (.seq
 (.rg [⟨some 5, none, .mv (.t 1)⟩,
   ⟨some 6, none, .fld 1 (.t 2)⟩,
   ⟨some 7, none, .load none (.t 6)⟩,
   ⟨some 8, none, .bin 0 .add (.t 7) (.k (.int .i64 1))⟩,
   ⟨some 9, none, .call n_impl_within S_impl_within [(.t 5, []), (.t 8, []), (.k (.int .i64 30), [])]⟩])
 (.cond (.t 9)
 (.rg [⟨some 10, none, .mv (.t 1)⟩,
   ⟨some 11, none, .fld 1 (.t 2)⟩,
   ⟨none, none, .store 1 (.t 11) (.t 10)⟩])
 .skip))
 (.seq
 (.rg [⟨some 12, none, .load (some 4) (.t 2)⟩,
   ⟨none, none, .store 4 (.t 4) (.t 12)⟩])
 .ret))) }
theorem is_impl_Node_enter_o : IsF Try.prog n_impl_Node_enter_o c_impl_Node_enter_o := ⟨Try.f78, _, Try.func78, rfl, by decide, rfl, by kernel_rfl, by kernel_rfl⟩
noncomputable def c_impl_NodeEnter_o : FC := { n := 13, res := [⟨some (some 4), 4, [none, none, none, some 2]⟩], body :=
 (.seq
 (.rg [⟨some 2, none, .box (.t 0)⟩,
   ⟨some 4, none, .alloc [.int .i64 0, .int .i64 0, .int .i64 0, .slice none 0 0]⟩])
 (.seq
 (.seq
 (.rg [⟨some 5, none, .load (some 4) (.t 2)⟩,
   ⟨some 6, none, .call n_impl_NodeOk S_impl_NodeOk [(.t 5, [none, none, none, some 2])]⟩,
   ⟨some 7, none, .un .not (.t 6)⟩])
 (.cond (.t 7)
 (.seq
 (.rg [⟨some 8, none, .build [.int .i64 0, .int .i64 0, .int .i64 0, .slice none 0 0] []⟩,
   ⟨none, none, .store 4 (.t 4) (.t 8)⟩])
 .ret)
 .skip))
 (.seq
 (.rg [⟨some 9, none, .load (some 4) (.t 2)⟩,
   ⟨some 10, none, .callm n_impl_Node_copied_o S_impl_Node_copied_o [(.t 9, [none, none, none, some 2])]⟩,
   ⟨some 11, none, .mv (.t 1)⟩,
   ⟨some 12, none, .callm n_impl_Node_enter_o S_impl_Node_enter_o [(.t 10, [none, none, none, some 2]), (.t 11, [])]⟩,
   ⟨none, none, .store 4 (.t 4) (.t 12)⟩])
 .ret))) }
theorem is_impl_NodeEnter_o : IsF Try.prog n_impl_NodeEnter_o c_impl_NodeEnter_o := ⟨Try.f30, _, Try.func30, rfl, by decide, rfl, by kernel_rfl, by kernel_rfl⟩
noncomputable def c_laws_FnExactNodeEnter : FC := { n := 74, res := [⟨none, 4, []⟩], body :=
 (.seq
 (.rg [⟨some 2, none, .box (.t 0)⟩,
   ⟨some 4, none, .mv (.k (.bool false))⟩])
 (.seq
 (.rg [⟨some 5, none, .mv (.k (.int .i64 1048576))⟩])
 (.seq
 (.rg [⟨some 13, none, .load (some 4) (.t 2)⟩,
   ⟨some 14, none, .mv (.t 5)⟩,
   ⟨some 15, none, .call n_laws_szNode S_laws_szNode [(.t 13, [none, none, none, some 2]), (.t 14, [])]⟩,
   ⟨some 5, none, .mv (.t 15)⟩])
 (.seq
 (.seq
 (.rg [⟨some 16, none, .mv (.t 5)⟩,
   ⟨some 17, none, .bin 0 .lss (.t 16) (.k (.int .i64 0))⟩])
 (.cond (.t 17)
 (.seq
 (.rg [⟨some 4, none, .mv (.k (.bool true))⟩])
 .ret)
 .skip))
 (.seq
 (.rg [⟨some 18, none, .load (some 4) (.t 2)⟩,
   ⟨some 19, none, .call n_laws_toNode S_laws_toNode [(.t 18, [none, none, none, some 2])]⟩,
   ⟨some 20, none, .mv (.t 1)⟩,
   ⟨some 21, none, .call n_spec_NodeEnter S_spec_NodeEnter [(.t 19, [none, none, none, some 2]), (.t 20, [])]⟩,
   ⟨some 6, none, .alloc [.int .i64 0, .int .i64 0, .int .i64 0, .slice none 0 0]⟩,
   ⟨none, none, .store 4 (.t 6) (.t 21)⟩])
 (.seq
 (.rg [⟨some 22, none, .load (some 4) (.t 2)⟩,
   ⟨some 23, none, .callm n_laws_toNode_o S_laws_toNode_o [(.t 22, [none, none, none, some 2])]⟩,
   ⟨some 7, none, .alloc [.int .i64 0, .int .i64 0, .int .i64 0, .slice none 0 0]⟩,
   ⟨none, none, .store 4 (.t 7) (.t 23)⟩])
 (.seq
 (.rg [⟨some 24, none, .load (some 4) (.t 7)⟩,
   ⟨some 25, none, .mv (.t 1)⟩,
   ⟨some 26, none, .callb n_impl_NodeEnter_o S_impl_NodeEnter_o [(.t 24, [none, none, none, some 2]), (.t 25, [])]⟩,
   ⟨some 8, none, .alloc [.int .i64 0, .int .i64 0, .int .i64 0, .slice none 0 0]⟩,
   ⟨none, none, .store 4 (.t 8) (.t 26)⟩])
 (.seq
 (.seq
 (.rg [⟨some 27, none, .load (some 4) (.t 8)⟩,
   ⟨some 28, none, .load (some 4) (.t 6)⟩,
   ⟨some 29, none, .call n_laws_eqNode S_laws_eqNode [(.t 27, [none, none, none, some 2]), (.t 28, [none, none, none, some 2])]⟩,
   ⟨some 30, none, .un .not (.t 29)⟩])
 (.cond (.t 30)
 (.seq
 (.rg [⟨some 4, none, .mv (.k (.bool false))⟩])
 .ret)
 .skip))
 (.seq
 (.seq
 (.rg [⟨some 31, none, .load (some 4) (.t 7)⟩,
   ⟨some 32, none, .load (some 4) (.t 2)⟩,
   ⟨some 33, none, .call n_laws_toNode S_laws_toNode [(.t 32, [none, none, none, some 2])]⟩,
   ⟨some 34, none, .call n_laws_eqNode S_laws_eqNode [(.t 31, [none, none, none, some 2]), (.t 33, [none, none, none, some 2])]⟩,
   ⟨some 35, none, .un .not (.t 34)⟩])
 (.cond (.t 35)
 (.seq
 (.rg [⟨some 4, none, .mv (.k (.bool false))⟩])
 .ret)
 .skip))
 (.seq
 (.rg [⟨some 9, none, .mv (.k (.int .i64 1))⟩])
 (.seq
 (.rg [⟨some 36, none, .load (some 4) (.t 7)⟩,
   ⟨some 37, none, .mv (.t 9)⟩,
   ⟨some 38, none, .callm n_laws_markNode_o S_laws_markNode_o [(.t 36, [none, none, none, some 2]), (.t 37, [])]⟩,
   ⟨some 9, none, .mv (.t 38)⟩])
 (.seq
 (.seq
 (.rg [⟨some 39, none, .mv (.t 9)⟩,
   ⟨some 40, none, .bin 0 .lss (.t 39) (.k (.int .i64 0))⟩,
   ⟨some 41, none, .mv (.t 40)⟩,
   ⟨some 42, some (41, false), .load (some 4) (.t 8)⟩,
   ⟨some 43, some (41, false), .load (some 4) (.t 6)⟩,
   ⟨some 44, some (41, false), .call n_laws_eqNode S_laws_eqNode [(.t 42, [none, none, none, some 2]), (.t 43, [none, none, none, some 2])]⟩,
   ⟨some 45, some (41, false), .un .not (.t 44)⟩,
   ⟨some 46, none, .pick (.t 41) (.k (.bool true)) (.t 45)⟩])
 (.cond (.t 46)
 (.seq
 (.rg [⟨some 4, none, .mv (.k (.bool false))⟩])
 .ret)
 .skip))
 (.seq
 (.rg [⟨some 10, none, .mv (.k (.int .i64 1))⟩])
 (.seq
 (.rg [⟨some 47, none, .load (some 4) (.t 8)⟩,
   ⟨some 48, none, .mv (.t 10)⟩,
   ⟨some 49, none, .callm n_laws_markNode_o S_laws_markNode_o [(.t 47, [none, none, none, some 2]), (.t 48, [])]⟩,
   ⟨some 10, none, .mv (.t 49)⟩])
 (.seq
 (.rg [⟨some 11, none, .mv (.k (.int .i64 1))⟩])
 (.seq
 (.rg [⟨some 50, none, .load (some 4) (.t 8)⟩,
   ⟨some 51, none, .mv (.t 11)⟩,
   ⟨some 52, none, .call n_laws_heldNode S_laws_heldNode [(.t 50, [none, none, none, some 2]), (.t 51, [])]⟩,
   ⟨some 11, none, .mv (.t 52)⟩])
 (.seq
 (.seq
 (.rg [⟨some 53, none, .mv (.t 11)⟩,
   ⟨some 54, none, .bin 0 .lss (.t 53) (.k (.int .i64 0))⟩])
 (.cond (.t 54)
 (.seq
 (.rg [⟨some 4, none, .mv (.k (.bool false))⟩])
 .ret)
 .skip))
 (.seq
 (.seq
 (.rg [⟨some 55, none, .mv (.t 11)⟩,
   ⟨some 56, none, .mv (.t 10)⟩,
   ⟨some 57, none, .bin 0 .neq (.t 55) (.t 56)⟩])
 (.cond (.t 57)
 (.seq
 (.rg [⟨some 4, none, .mv (.k (.bool false))⟩])
 .ret)
 .skip))
 (.seq
 (.rg [⟨some 58, none, .load (some 4) (.t 2)⟩,
   ⟨some 59, none, .callm n_laws_toNode_o S_laws_toNode_o [(.t 58, [none, none, none, some 2])]⟩,
   ⟨some 60, none, .mv (.t 1)⟩,
   ⟨some 61, none, .callb n_impl_NodeEnter_o S_impl_NodeEnter_o [(.t 59, [none, none, none, some 2]), (.t 60, [])]⟩,
   ⟨some 12, none, .alloc [.int .i64 0, .int .i64 0, .int .i64 0, .slice none 0 0]⟩,
   ⟨none, none, .store 4 (.t 12) (.t 61)⟩])
 (.seq
 (.seq
 (.rg [⟨some 62, none, .load (some 4) (.t 12)⟩,
   ⟨some 63, none, .load (some 4) (.t 6)⟩,
   ⟨some 64, none, .call n_laws_eqNode S_laws_eqNode [(.t 62, [none, none, none, some 2]), (.t 63, [none, none, none, some 2])]⟩,
   ⟨some 65, none, .un .not (.t 64)⟩])
 (.cond (.t 65)
 (.seq
 (.rg [⟨some 4, none, .mv (.k (.bool false))⟩])
 .ret)
 .skip))
 (.seq
 (.rg [⟨some 11, none, .mv (.k (.int .i64 1))⟩])
 (.seq
 (.rg [⟨some 66, none, .load (some 4) (.t 8)⟩,
   ⟨some 67, none, .mv (.t 11)⟩,
   ⟨some 68, none, .call n_laws_heldNode S_laws_heldNode [(.t 66, [none, none, none, some 2]), (.t 67, [])]⟩,
   ⟨some 11, none, .mv (.t 68)⟩])
 (.seq
 (.seq
 (.rg [⟨some 69, none, .mv (.t 11)⟩,
   ⟨some 70, none, .bin 0 .lss (.t 69) (.k (.int .i64 0))⟩])
 (.cond (.t 70)
 (.seq
 (.rg [⟨some 4, none, .mv (.k (.bool false))⟩])
 .ret)
 .skip))
 (.seq
 (.seq
 (.rg [⟨some 71, none, .mv (.t 11)⟩,
   ⟨some 72, none, .mv (.t 10)⟩,
   ⟨some 73, none, .bin 0 .neq (.t 71) (.t 72)⟩])
 (.cond (.t 73)
 (.seq
 (.rg [⟨some 4, none, .mv (.k (.bool false))⟩])
 .ret)
 .skip))
 (.seq
 (.rg [⟨some 4, none, .mv (.k (.bool true))⟩])
 .ret))))))))))))))))))))))))) }
theorem is_laws_FnExactNodeEnter : IsF Try.prog n_laws_FnExactNodeEnter c_laws_FnExactNodeEnter := ⟨Try.f5, _, Try.func5, rfl, by decide, rfl, by kernel_rfl, by kernel_rfl⟩
end Av
end Go.Proofs.Ytkpncekaehgbdaa
