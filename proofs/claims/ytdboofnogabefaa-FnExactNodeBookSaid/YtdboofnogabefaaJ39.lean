/- Texts of the layer, joined. -/
import Derived.Test.YtdboofnogabefaaJ38
import Derived.Test.YtdboofnogabefaaD1
import Derived.Test.YtdboofnogabefaaProg
import Derived.KernelRfl
import Derived.Test.YtdboofnogabefaaJ16
set_option linter.unusedVariables false
namespace Go.Proofs.Ytdboofnogabefaa
namespace Av
noncomputable def c_laws_FnExactNodeBook : FC := { n := 69, res := [⟨none, 2, []⟩], body :=
 (.seq
 (.rg [⟨some 1, none, .box (.t 0)⟩,
   ⟨some 2, none, .mv (.k (.bool false))⟩])
 (.seq
 (.rg [⟨some 3, none, .mv (.k (.int .i64 1048576))⟩])
 (.seq
 (.rg [⟨some 11, none, .load (some 4) (.t 1)⟩,
   ⟨some 12, none, .mv (.t 3)⟩,
   ⟨some 13, none, .call n_laws_szNode S_laws_szNode [(.t 11, [none, none, none, some 2]), (.t 12, [])]⟩,
   ⟨some 3, none, .mv (.t 13)⟩])
 (.seq
 (.seq
 (.rg [⟨some 14, none, .mv (.t 3)⟩,
   ⟨some 15, none, .bin 0 .lss (.t 14) (.k (.int .i64 0))⟩])
 (.cond (.t 15)
 (.seq
 (.rg [⟨some 2, none, .mv (.k (.bool true))⟩])
 .ret)
 .skip))
 (.seq
 (.rg [⟨some 16, none, .load (some 4) (.t 1)⟩,
   ⟨some 17, none, .call n_laws_toNode S_laws_toNode [(.t 16, [none, none, none, some 2])]⟩,
   ⟨some 18, none, .call n_spec_NodeBook S_spec_NodeBook [(.t 17, [none, none, none, some 2])]⟩,
   ⟨some 4, none, .mv (.t 18)⟩])
 (.seq
 (.rg [⟨some 19, none, .load (some 4) (.t 1)⟩,
   ⟨some 20, none, .callm n_laws_toNode_o S_laws_toNode_o [(.t 19, [none, none, none, some 2])]⟩,
   ⟨some 5, none, .alloc [.int .i64 0, .int .i64 0, .int .i64 0, .slice none 0 0]⟩,
   ⟨none, none, .store 4 (.t 5) (.t 20)⟩])
 (.seq
 (.rg [⟨some 21, none, .load (some 4) (.t 5)⟩,
   ⟨some 22, none, .callo n_impl_NodeBook SO_impl_NodeBook [(.t 21, [none, none, none, some 2])]⟩,
   ⟨some 6, none, .mv (.t 22)⟩])
 (.seq
 (.seq
 (.rg [⟨some 23, none, .mv (.t 6)⟩,
   ⟨some 24, none, .mv (.t 4)⟩,
   ⟨some 25, none, .call n_laws_eqIntS S_laws_eqIntS [(.t 23, [some 1]), (.t 24, [some 1])]⟩,
   ⟨some 26, none, .un .not (.t 25)⟩])
 (.cond (.t 26)
 (.seq
 (.rg [⟨some 2, none, .mv (.k (.bool false))⟩])
 .ret)
 .skip))
 (.seq
 (.seq
 (.rg [⟨some 27, none, .load (some 4) (.t 5)⟩,
   ⟨some 28, none, .load (some 4) (.t 1)⟩,
   ⟨some 29, none, .call n_laws_toNode S_laws_toNode [(.t 28, [none, none, none, some 2])]⟩,
   ⟨some 30, none, .call n_laws_eqNode S_laws_eqNode [(.t 27, [none, none, none, some 2]), (.t 29, [none, none, none, some 2])]⟩,
   ⟨some 31, none, .un .not (.t 30)⟩])
 (.cond (.t 31)
 (.seq
 (.rg [⟨some 2, none, .mv (.k (.bool false))⟩])
 .ret)
 .skip))
 (.seq
 (.rg [⟨some 7, none, .mv (.k (.int .i64 1))⟩])
 (.seq
 (.rg [⟨some 32, none, .load (some 4) (.t 5)⟩,
   ⟨some 33, none, .mv (.t 7)⟩,
   ⟨some 34, none, .callm n_laws_markNode_o S_laws_markNode_o [(.t 32, [none, none, none, some 2]), (.t 33, [])]⟩,
   ⟨some 7, none, .mv (.t 34)⟩])
 (.seq
 (.seq
 (.rg [⟨some 35, none, .mv (.t 7)⟩,
   ⟨some 36, none, .bin 0 .lss (.t 35) (.k (.int .i64 0))⟩,
   ⟨some 37, none, .mv (.t 36)⟩,
   ⟨some 38, some (37, false), .mv (.t 6)⟩,
   ⟨some 39, some (37, false), .mv (.t 4)⟩,
   ⟨some 40, some (37, false), .call n_laws_eqIntS S_laws_eqIntS [(.t 38, [some 1]), (.t 39, [some 1])]⟩,
   ⟨some 41, some (37, false), .un .not (.t 40)⟩,
   ⟨some 42, none, .pick (.t 37) (.k (.bool true)) (.t 41)⟩])
 (.cond (.t 42)
 (.seq
 (.rg [⟨some 2, none, .mv (.k (.bool false))⟩])
 .ret)
 .skip))
 (.seq
 (.rg [⟨some 8, none, .mv (.k (.int .i64 1))⟩])
 (.seq
 (.rg [⟨some 43, none, .mv (.t 6)⟩,
   ⟨some 44, none, .mv (.t 8)⟩,
   ⟨some 45, none, .callm n_laws_markIntS S_laws_markIntS [(.t 43, [some 1]), (.t 44, [])]⟩,
   ⟨some 8, none, .mv (.t 45)⟩])
 (.seq
 (.rg [⟨some 9, none, .mv (.k (.int .i64 1))⟩])
 (.seq
 (.rg [⟨some 46, none, .mv (.t 6)⟩,
   ⟨some 47, none, .mv (.t 9)⟩,
   ⟨some 48, none, .call n_laws_heldIntS S_laws_heldIntS [(.t 46, [some 1]), (.t 47, [])]⟩,
   ⟨some 9, none, .mv (.t 48)⟩])
 (.seq
 (.seq
 (.rg [⟨some 49, none, .mv (.t 9)⟩,
   ⟨some 50, none, .bin 0 .lss (.t 49) (.k (.int .i64 0))⟩])
 (.cond (.t 50)
 (.seq
 (.rg [⟨some 2, none, .mv (.k (.bool false))⟩])
 .ret)
 .skip))
 (.seq
 (.seq
 (.rg [⟨some 51, none, .mv (.t 9)⟩,
   ⟨some 52, none, .mv (.t 8)⟩,
   ⟨some 53, none, .bin 0 .neq (.t 51) (.t 52)⟩])
 (.cond (.t 53)
 (.seq
 (.rg [⟨some 2, none, .mv (.k (.bool false))⟩])
 .ret)
 .skip))
 (.seq
 (.rg [⟨some 54, none, .load (some 4) (.t 1)⟩,
   ⟨some 55, none, .callm n_laws_toNode_o S_laws_toNode_o [(.t 54, [none, none, none, some 2])]⟩,
   ⟨some 56, none, .callo n_impl_NodeBook SO_impl_NodeBook [(.t 55, [none, none, none, some 2])]⟩,
   ⟨some 10, none, .mv (.t 56)⟩])
 (.seq
 (.seq
 (.rg [⟨some 57, none, .mv (.t 10)⟩,
   ⟨some 58, none, .mv (.t 4)⟩,
   ⟨some 59, none, .call n_laws_eqIntS S_laws_eqIntS [(.t 57, [some 1]), (.t 58, [some 1])]⟩,
   ⟨some 60, none, .un .not (.t 59)⟩])
 (.cond (.t 60)
 (.seq
 (.rg [⟨some 2, none, .mv (.k (.bool false))⟩])
 .ret)
 .skip))
 (.seq
 (.rg [⟨some 9, none, .mv (.k (.int .i64 1))⟩])
 (.seq
 (.rg [⟨some 61, none, .mv (.t 6)⟩,
   ⟨some 62, none, .mv (.t 9)⟩,
   ⟨some 63, none, .call n_laws_heldIntS S_laws_heldIntS [(.t 61, [some 1]), (.t 62, [])]⟩,
   ⟨some 9, none, .mv (.t 63)⟩])
 (.seq
 (.seq
 (.rg [⟨some 64, none, .mv (.t 9)⟩,
   ⟨some 65, none, .bin 0 .lss (.t 64) (.k (.int .i64 0))⟩])
 (.cond (.t 65)
 (.seq
 (.rg [⟨some 2, none, .mv (.k (.bool false))⟩])
 .ret)
 .skip))
 (.seq
 (.seq
 (.rg [⟨some 66, none, .mv (.t 9)⟩,
   ⟨some 67, none, .mv (.t 8)⟩,
   ⟨some 68, none, .bin 0 .neq (.t 66) (.t 67)⟩])
 (.cond (.t 68)
 (.seq
 (.rg [⟨some 2, none, .mv (.k (.bool false))⟩])
 .ret)
 .skip))
 (.seq
 (.rg [⟨some 2, none, .mv (.k (.bool true))⟩])
 .ret))))))))))))))))))))))))) }
theorem is_laws_FnExactNodeBook : IsF Try.prog n_laws_FnExactNodeBook c_laws_FnExactNodeBook := ⟨Try.f5, _, Try.func5, rfl, by decide, rfl, by kernel_rfl, by kernel_rfl⟩
noncomputable def c_laws_heldIntS : FC := { n := 21, res := [⟨none, 4, []⟩], body :=
 (.seq
 (.rg [⟨some 4, none, .mv (.k (.int .i64 0))⟩])
 (.seq
 (.seq
 (.rg [⟨some 5, none, .mv (.k (.int .i64 0))⟩])
 (.block 0
 (.loop
 (.seq
 (.seq
 (.rg [⟨some 6, none, .mv (.t 5)⟩,
   ⟨some 7, none, .mv (.t 0)⟩,
   ⟨some 8, none, .len (.t 7)⟩,
   ⟨some 9, none, .bin 0 .lss (.t 6) (.t 8)⟩])
 (.cond (.t 9)
 .skip
 (.exit 0)))
 (.seq
 (.block 1
 (.seq
 (.seq
 (.rg [⟨some 12, none, .mv (.t 0)⟩,
   ⟨some 13, none, .mv (.t 5)⟩,
   ⟨some 14, none, .idx 1 (.t 12) (.t 13)⟩,
   ⟨some 15, none, .load none (.t 14)⟩,
   ⟨some 16, none, .mv (.t 1)⟩,
   ⟨some 17, none, .bin 0 .neq (.t 15) (.t 16)⟩])
 (.cond (.t 17)
 (.seq
 (.rg [⟨some 4, none, .mv (.k (.int .i64 (-1)))⟩])
 .ret)
 .skip))
 (.rg [⟨some 18, none, .mv (.t 1)⟩,
   ⟨some 19, none, .bin 0 .add (.t 18) (.k (.int .i64 1))⟩,
   ⟨some 1, none, .mv (.t 19)⟩])))
 (.rg [⟨some 10, none, .mv (.t 5)⟩,
   ⟨some 11, none, .bin 0 .add (.t 10) (.k (.int .i64 1))⟩,
   ⟨some 5, none, .mv (.t 11)⟩]))))))
 (.seq
 (.rg [⟨some 20, none, .mv (.t 1)⟩,
   ⟨some 4, none, .mv (.t 20)⟩])
 .ret))) }
theorem is_laws_heldIntS : IsF Try.prog n_laws_heldIntS c_laws_heldIntS := ⟨Try.f33, _, Try.func33, rfl, by decide, rfl, by kernel_rfl, by kernel_rfl⟩
end Av
end Go.Proofs.Ytdboofnogabefaa

namespace Go.Proofs.Ytdboofnogabefaa
namespace Av
noncomputable def c_impl_NodeBook : FC := { n := 10, res := [⟨none, 2, [some 1]⟩], body :=
 (.seq
 (.rg [⟨some 1, none, .box (.t 0)⟩,
   ⟨some 2, none, .mv (.k (.slice none 0 0))⟩])
 (.seq
 (.seq
 (.rg [⟨some 3, none, .load (some 4) (.t 1)⟩,
   ⟨some 4, none, .call n_impl_NodeOk S_impl_NodeOk [(.t 3, [none, none, none, some 2])]⟩,
   ⟨some 5, none, .un .not (.t 4)⟩])
 (.cond (.t 5)
 (.seq
 (.rg [⟨some 2, none, .mv (.k (.slice none 0 0))⟩])
 .ret)
 .skip))
 (.seq
 (.rg [⟨some 6, none, .fld 3 (.t 1)⟩,
   ⟨some 7, none, .load none (.t 6)⟩,
   ⟨some 8, none, .call n_impl_votes_final S_impl_votes_final [(.t 7, [some 2])]⟩,
   ⟨some 9, none, .callo n_impl_BookOf SO_impl_BookOf [(.t 8, [some 4])]⟩,
   ⟨some 2, none, .mv (.t 9)⟩])
 .ret))) }
theorem is_impl_NodeBook : IsF Try.prog n_impl_NodeBook c_impl_NodeBook := ⟨Try.f16, _, Try.func16, rfl, by decide, rfl, by kernel_rfl, by kernel_rfl⟩
noncomputable def c_spec_NodeBook : FC := { n := 11, res := [⟨none, 2, [some 1]⟩], body :=
 (.seq
 (.rg [⟨some 1, none, .box (.t 0)⟩,
   ⟨some 2, none, .mv (.k (.slice none 0 0))⟩])
 (.seq
 (.seq
 (.rg [⟨some 3, none, .load (some 4) (.t 1)⟩,
   ⟨some 4, none, .call n_spec_NodeOk S_spec_NodeOk [(.t 3, [none, none, none, some 2])]⟩,
   ⟨some 5, none, .un .not (.t 4)⟩])
 (.cond (.t 5)
 (.seq
 (.rg [⟨some 6, none, .bsl 3 1 []⟩,
   ⟨some 2, none, .mv (.t 6)⟩])
 .ret)
 .skip))
 (.seq
 (.rg [⟨some 7, none, .fld 3 (.t 1)⟩,
   ⟨some 8, none, .load none (.t 7)⟩,
   ⟨some 9, none, .call n_spec_l11Final S_spec_l11Final [(.t 8, [some 2])]⟩,
   ⟨some 10, none, .call n_spec_BookOf S_spec_BookOf [(.t 9, [some 4])]⟩,
   ⟨some 2, none, .mv (.t 10)⟩])
 .ret))) }
theorem is_spec_NodeBook : IsF Try.prog n_spec_NodeBook c_spec_NodeBook := ⟨Try.f27, _, Try.func27, rfl, by decide, rfl, by kernel_rfl, by kernel_rfl⟩
end Av
end Go.Proofs.Ytdboofnogabefaa

