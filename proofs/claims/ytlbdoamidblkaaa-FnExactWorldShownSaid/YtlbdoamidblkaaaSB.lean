/- The functions' code in the small language, and that it is theirs. -/
import Derived.Test.YtlbdoamidblkaaaSA
import Derived.Test.YtlbdoamidblkaaaD1
import Derived.Test.YtlbdoamidblkaaaProg
import Derived.KernelRfl
set_option linter.unusedVariables false
namespace Go.Proofs.Ytlbdoamidblkaaa
namespace Av
noncomputable def c_slices_ContainsFunc_VoteS_s : FC := { n := 9, res := [⟨none, 4, []⟩], body :=
 (.seq
 (.rg [⟨some 4, none, .mv (.k (.bool false))⟩])
 (.seq
 (.rg [⟨some 5, none, .mv (.t 0)⟩,
   ⟨some 6, none, .mv (.t 1)⟩,
   ⟨some 7, none, .call n_slices_IndexFunc_VoteS S_slices_IndexFunc_VoteS_s [(.t 5, [some 2]), (.t 6, [])]⟩,
   ⟨some 8, none, .bin 0 .geq (.t 7) (.k (.int .i64 0))⟩,
   ⟨some 4, none, .mv (.t 8)⟩])
 .ret)) }
theorem is_slices_ContainsFunc_VoteS_s : IsF Try.prog n_slices_ContainsFunc_VoteS_s c_slices_ContainsFunc_VoteS_s := ⟨Try.f42, _, Try.func42, rfl, by decide, rfl, by kernel_rfl, by kernel_rfl⟩
noncomputable def c_impl_WorldShown_1 : FC := { n := 7, res := [⟨none, 3, []⟩], body :=
 (.seq
 (.rg [⟨some 2, none, .box (.t 0)⟩,
   ⟨some 3, none, .mv (.k (.bool false))⟩])
 (.seq
 (.rg [⟨some 4, none, .load (some 2) (.t 2)⟩,
   ⟨some 5, none, .call n_impl_World_shown S_impl_World_shown [(.t 1, [none, some 4, some 2]), (.t 4, [none, some 4])]⟩,
   ⟨some 6, none, .un .not (.t 5)⟩,
   ⟨some 3, none, .mv (.t 6)⟩])
 .ret)) }
theorem is_impl_WorldShown_1 : IsF Try.prog n_impl_WorldShown_1 c_impl_WorldShown_1 := ⟨Try.f44, _, Try.func44, rfl, by decide, rfl, by kernel_rfl, by kernel_rfl⟩
noncomputable def c_impl_WorldShown : FC := { n := 18, res := [⟨none, 4, []⟩], body :=
 (.seq
 (.rg [⟨some 2, none, .box (.t 0)⟩,
   ⟨some 3, none, .box (.t 1)⟩,
   ⟨some 4, none, .mv (.k (.bool false))⟩])
 (.seq
 (.rg [⟨some 5, none, .load (some 4) (.t 2)⟩,
   ⟨some 6, none, .call n_impl_WorldOk S_impl_WorldOk [(.t 5, [none, some 4, some 2])]⟩,
   ⟨some 7, none, .mv (.t 6)⟩,
   ⟨some 8, some (7, true), .load (some 2) (.t 3)⟩,
   ⟨some 9, some (7, true), .call n_impl_CertOk S_impl_CertOk [(.t 8, [some 4, some 1])]⟩,
   ⟨some 10, none, .pick (.t 7) (.t 9) (.k (.bool false))⟩,
   ⟨some 11, none, .mv (.t 10)⟩,
   ⟨some 12, some (11, true), .load (some 2) (.t 3)⟩,
   ⟨some 13, some (11, true), .call n_impl_CertVotes S_impl_CertVotes [(.t 12, [some 4, some 1])]⟩,
   ⟨some 14, some (11, true), .mkfn (.func n_impl_WorldShown_1) [] [.t 2]⟩,
   ⟨some 15, some (11, true), .call n_slices_ContainsFunc_VoteS S_slices_ContainsFunc_VoteS_s [(.t 13, [some 2]), (.t 14, [])]⟩,
   ⟨some 16, some (11, true), .un .not (.t 15)⟩,
   ⟨some 17, none, .pick (.t 11) (.t 16) (.k (.bool false))⟩,
   ⟨some 4, none, .mv (.t 17)⟩])
 .ret)) }
theorem is_impl_WorldShown : IsF Try.prog n_impl_WorldShown c_impl_WorldShown := ⟨Try.f15, _, Try.func15, rfl, by decide, rfl, by kernel_rfl, by kernel_rfl⟩
noncomputable def c_spec_WorldShown : FC := { n := 17, res := [⟨none, 4, []⟩], body :=
 (.seq
 (.rg [⟨some 2, none, .box (.t 0)⟩,
   ⟨some 3, none, .box (.t 1)⟩,
   ⟨some 4, none, .mv (.k (.bool false))⟩])
 (.seq
 (.rg [⟨some 5, none, .load (some 4) (.t 2)⟩,
   ⟨some 6, none, .call n_spec_WorldOk S_spec_WorldOk [(.t 5, [none, some 4, some 2])]⟩,
   ⟨some 7, none, .mv (.t 6)⟩,
   ⟨some 8, some (7, true), .load (some 2) (.t 3)⟩,
   ⟨some 9, some (7, true), .call n_spec_CertOk S_spec_CertOk [(.t 8, [some 4, some 1])]⟩,
   ⟨some 10, none, .pick (.t 7) (.t 9) (.k (.bool false))⟩,
   ⟨some 11, none, .mv (.t 10)⟩,
   ⟨some 12, some (11, true), .load (some 4) (.t 2)⟩,
   ⟨some 13, some (11, true), .load (some 2) (.t 3)⟩,
   ⟨some 14, some (11, true), .call n_spec_CertVotes S_spec_CertVotes [(.t 13, [some 4, some 1])]⟩,
   ⟨some 15, some (11, true), .call n_spec_l21All S_spec_l21All [(.t 12, [none, some 4, some 2]), (.t 14, [some 2])]⟩,
   ⟨some 16, none, .pick (.t 11) (.t 15) (.k (.bool false))⟩,
   ⟨some 4, none, .mv (.t 16)⟩])
 .ret)) }
theorem is_spec_WorldShown : IsF Try.prog n_spec_WorldShown c_spec_WorldShown := ⟨Try.f12, _, Try.func12, rfl, by decide, rfl, by kernel_rfl, by kernel_rfl⟩
noncomputable def c_laws_FnExactWorldShown : FC := { n := 45, res := [⟨none, 4, []⟩], body :=
 (.seq
 (.rg [⟨some 2, none, .box (.t 0)⟩,
   ⟨some 3, none, .box (.t 1)⟩,
   ⟨some 4, none, .mv (.k (.bool false))⟩])
 (.seq
 (.rg [⟨some 5, none, .mv (.k (.int .i64 1048576))⟩])
 (.seq
 (.rg [⟨some 10, none, .load (some 4) (.t 2)⟩,
   ⟨some 11, none, .mv (.t 5)⟩,
   ⟨some 12, none, .call n_laws_szWorld S_laws_szWorld [(.t 10, [none, some 4, some 2]), (.t 11, [])]⟩,
   ⟨some 5, none, .mv (.t 12)⟩])
 (.seq
 (.seq
 (.rg [⟨some 13, none, .mv (.t 5)⟩,
   ⟨some 14, none, .bin 0 .lss (.t 13) (.k (.int .i64 0))⟩])
 (.cond (.t 14)
 (.seq
 (.rg [⟨some 4, none, .mv (.k (.bool true))⟩])
 .ret)
 .skip))
 (.seq
 (.rg [⟨some 15, none, .load (some 2) (.t 3)⟩,
   ⟨some 16, none, .mv (.t 5)⟩,
   ⟨some 17, none, .call n_laws_szCert S_laws_szCert [(.t 15, [some 4, some 1]), (.t 16, [])]⟩,
   ⟨some 5, none, .mv (.t 17)⟩])
 (.seq
 (.seq
 (.rg [⟨some 18, none, .mv (.t 5)⟩,
   ⟨some 19, none, .bin 0 .lss (.t 18) (.k (.int .i64 0))⟩])
 (.cond (.t 19)
 (.seq
 (.rg [⟨some 4, none, .mv (.k (.bool true))⟩])
 .ret)
 .skip))
 (.seq
 (.rg [⟨some 20, none, .load (some 4) (.t 2)⟩,
   ⟨some 21, none, .call n_laws_toWorld S_laws_toWorld [(.t 20, [none, some 4, some 2])]⟩,
   ⟨some 22, none, .load (some 2) (.t 3)⟩,
   ⟨some 23, none, .call n_laws_toCert S_laws_toCert [(.t 22, [some 4, some 1])]⟩,
   ⟨some 24, none, .call n_spec_WorldShown S_spec_WorldShown [(.t 21, [none, some 4, some 2]), (.t 23, [some 4, some 1])]⟩,
   ⟨some 6, none, .mv (.t 24)⟩])
 (.seq
 (.rg [⟨some 25, none, .load (some 4) (.t 2)⟩,
   ⟨some 26, none, .call n_laws_toWorld S_laws_toWorld [(.t 25, [none, some 4, some 2])]⟩,
   ⟨some 7, none, .alloc [.int .i64 0, .slice none 0 0, .slice none 0 0, .int .i64 0]⟩,
   ⟨none, none, .store 4 (.t 7) (.t 26)⟩])
 (.seq
 (.rg [⟨some 27, none, .load (some 2) (.t 3)⟩,
   ⟨some 28, none, .call n_laws_toCert S_laws_toCert [(.t 27, [some 4, some 1])]⟩,
   ⟨some 8, none, .alloc [.slice none 0 0, .slice none 0 0]⟩,
   ⟨none, none, .store 2 (.t 8) (.t 28)⟩])
 (.seq
 (.rg [⟨some 29, none, .load (some 4) (.t 7)⟩,
   ⟨some 30, none, .load (some 2) (.t 8)⟩,
   ⟨some 31, none, .call n_impl_WorldShown S_impl_WorldShown [(.t 29, [none, some 4, some 2]), (.t 30, [some 4, some 1])]⟩,
   ⟨some 9, none, .mv (.t 31)⟩])
 (.seq
 (.seq
 (.rg [⟨some 32, none, .mv (.t 9)⟩,
   ⟨some 33, none, .mv (.t 6)⟩,
   ⟨some 34, none, .bin 1 .neq (.t 32) (.t 33)⟩])
 (.cond (.t 34)
 (.seq
 (.rg [⟨some 4, none, .mv (.k (.bool false))⟩])
 .ret)
 .skip))
 (.seq
 (.seq
 (.rg [⟨some 35, none, .load (some 4) (.t 7)⟩,
   ⟨some 36, none, .load (some 4) (.t 2)⟩,
   ⟨some 37, none, .call n_laws_toWorld S_laws_toWorld [(.t 36, [none, some 4, some 2])]⟩,
   ⟨some 38, none, .call n_laws_eqWorld S_laws_eqWorld [(.t 35, [none, some 4, some 2]), (.t 37, [none, some 4, some 2])]⟩,
   ⟨some 39, none, .un .not (.t 38)⟩])
 (.cond (.t 39)
 (.seq
 (.rg [⟨some 4, none, .mv (.k (.bool false))⟩])
 .ret)
 .skip))
 (.seq
 (.seq
 (.rg [⟨some 40, none, .load (some 2) (.t 8)⟩,
   ⟨some 41, none, .load (some 2) (.t 3)⟩,
   ⟨some 42, none, .call n_laws_toCert S_laws_toCert [(.t 41, [some 4, some 1])]⟩,
   ⟨some 43, none, .call n_laws_eqCert S_laws_eqCert [(.t 40, [some 4, some 1]), (.t 42, [some 4, some 1])]⟩,
   ⟨some 44, none, .un .not (.t 43)⟩])
 (.cond (.t 44)
 (.seq
 (.rg [⟨some 4, none, .mv (.k (.bool false))⟩])
 .ret)
 .skip))
 (.seq
 (.rg [⟨some 4, none, .mv (.k (.bool true))⟩])
 .ret)))))))))))))) }
theorem is_laws_FnExactWorldShown : IsF Try.prog n_laws_FnExactWorldShown c_laws_FnExactWorldShown := ⟨Try.f4, _, Try.func4, rfl, by decide, rfl, by kernel_rfl, by kernel_rfl⟩
end Av
end Go.Proofs.Ytlbdoamidblkaaa
