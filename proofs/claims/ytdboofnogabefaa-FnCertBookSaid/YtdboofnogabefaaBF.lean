/- The functions' code in the small language, and that it is theirs. -/
import Derived.Test.YtdboofnogabefaaBE
import Derived.Test.YtdboofnogabefaaD1
import Derived.Test.YtdboofnogabefaaProg
import Derived.KernelRfl
set_option linter.unusedVariables false
namespace Go.Proofs.Ytdboofnogabefaa
namespace Av
noncomputable def c_laws_FnCertBook : FC := { n := 48, res := [⟨none, 2, []⟩], body :=
 (.seq
 (.rg [⟨some 2, none, .mv (.k (.bool false))⟩])
 (.seq
 (.seq
 (.rg [⟨some 6, none, .mv (.t 0)⟩,
   ⟨some 7, none, .len (.t 6)⟩,
   ⟨some 8, none, .bin 0 .gtr (.t 7) (.k (.int .i64 1048576))⟩])
 (.cond (.t 8)
 (.seq
 (.rg [⟨some 2, none, .mv (.k (.bool true))⟩])
 .ret)
 .skip))
 (.seq
 (.rg [⟨some 9, none, .mv (.t 0)⟩,
   ⟨some 10, none, .call n_spec_DrawCertFinal S_spec_DrawCertFinal [(.t 9, [some 1])]⟩,
   ⟨some 3, none, .alloc [.slice none 0 0, .slice none 0 0]⟩,
   ⟨none, none, .store 2 (.t 3) (.t 10)⟩])
 (.seq
 (.rg [⟨some 11, none, .load (some 2) (.t 3)⟩,
   ⟨some 12, none, .call n_impl_CertFinal S_impl_CertFinal [(.t 11, [some 4, some 1])]⟩,
   ⟨some 4, none, .mv (.t 12)⟩])
 (.seq
 (.seq
 (.rg [⟨some 13, none, .mv (.t 4)⟩,
   ⟨some 14, none, .load (some 2) (.t 3)⟩,
   ⟨some 15, none, .call n_spec_CertFinal S_spec_CertFinal [(.t 14, [some 4, some 1])]⟩,
   ⟨some 16, none, .call n_laws_lwSame S_laws_lwSame [(.t 13, [some 4]), (.t 15, [some 4])]⟩,
   ⟨some 17, none, .un .not (.t 16)⟩,
   ⟨some 18, none, .mv (.t 17)⟩,
   ⟨some 19, some (18, false), .load (some 2) (.t 3)⟩,
   ⟨some 20, some (18, false), .call n_spec_CertOk S_spec_CertOk [(.t 19, [some 4, some 1])]⟩,
   ⟨some 21, some (18, false), .un .not (.t 20)⟩,
   ⟨some 22, none, .pick (.t 18) (.k (.bool true)) (.t 21)⟩])
 (.cond (.t 22)
 (.seq
 (.rg [⟨some 23, none, .mv (.t 4)⟩,
   ⟨some 24, none, .load (some 2) (.t 3)⟩,
   ⟨some 25, none, .call n_spec_CertFinal S_spec_CertFinal [(.t 24, [some 4, some 1])]⟩,
   ⟨some 26, none, .call n_laws_lwSame S_laws_lwSame [(.t 23, [some 4]), (.t 25, [some 4])]⟩,
   ⟨some 2, none, .mv (.t 26)⟩])
 .ret)
 .skip))
 (.seq
 (.rg [⟨some 27, none, .mv (.t 4)⟩,
   ⟨some 28, none, .callo n_impl_BookOf SO_impl_BookOf [(.t 27, [some 4])]⟩,
   ⟨some 5, none, .mv (.t 28)⟩])
 (.seq
 (.rg [⟨some 29, none, .mv (.t 5)⟩,
   ⟨some 30, none, .call n_impl_BookOk S_impl_BookOk [(.t 29, [some 1])]⟩,
   ⟨some 31, none, .mv (.t 30)⟩,
   ⟨some 32, some (31, true), .mv (.t 5)⟩,
   ⟨some 33, some (31, true), .fld 0 (.t 3)⟩,
   ⟨some 34, some (31, true), .load none (.t 33)⟩,
   ⟨some 35, some (31, true), .fld 0 (.t 3)⟩,
   ⟨some 36, some (31, true), .load none (.t 35)⟩,
   ⟨some 37, some (31, true), .len (.t 36)⟩,
   ⟨some 38, some (31, true), .bin 0 .sub (.t 37) (.k (.int .i64 1))⟩,
   ⟨some 39, some (31, true), .idx 4 (.t 34) (.t 38)⟩,
   ⟨some 40, some (31, true), .fld 1 (.t 39)⟩,
   ⟨some 41, some (31, true), .load (some 3) (.t 40)⟩,
   ⟨some 42, some (31, true), .callo n_impl_BookPay SO_impl_BookPay [(.t 32, [some 1]), (.t 41, [])]⟩,
   ⟨some 43, some (31, true), .fld 0 (.t 3)⟩,
   ⟨some 44, some (31, true), .load none (.t 43)⟩,
   ⟨some 45, some (31, true), .callo n_impl_BookOf SO_impl_BookOf [(.t 44, [some 4])]⟩,
   ⟨some 46, some (31, true), .call n_laws_lwInts S_laws_lwInts [(.t 42, [some 1]), (.t 45, [some 1])]⟩,
   ⟨some 47, none, .pick (.t 31) (.t 46) (.k (.bool false))⟩,
   ⟨some 2, none, .mv (.t 47)⟩])
 .ret))))))) }
theorem is_laws_FnCertBook : IsF Try.prog n_laws_FnCertBook c_laws_FnCertBook := ⟨Try.f4, _, Try.func4, rfl, by decide, rfl, by kernel_rfl, by kernel_rfl⟩
end Av
end Go.Proofs.Ytdboofnogabefaa
