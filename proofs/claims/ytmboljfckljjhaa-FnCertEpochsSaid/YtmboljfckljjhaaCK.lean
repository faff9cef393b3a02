/- The functions' code in the small language, and that it is theirs. -/
import Derived.Test.YtmboljfckljjhaaCJ
import Derived.Test.YtmboljfckljjhaaD1
import Derived.Test.YtmboljfckljjhaaProg
import Derived.KernelRfl
set_option linter.unusedVariables false
namespace Go.Proofs.Ytmboljfckljjhaa
namespace Av
noncomputable def c_impl_CertFinal_o : FC := { n := 14, res := [⟨none, 2, [some 4]⟩], body :=
  (.seq
    (.rg [⟨some 1, none, .box (.t 0)⟩,
      ⟨some 2, none, .mv (.k (.slice none 0 0))⟩])
    (.seq
      (.seq
        (.rg [⟨some 3, none, .load (some 2) (.t 1)⟩,
          ⟨some 4, none, .call n_impl_CertOk S_impl_CertOk [(.t 3, [some 4, some 1])]⟩,
          ⟨some 5, none, .un .not (.t 4)⟩])
        (.cond (.t 5)
          (.seq
            (.rg [⟨some 2, none, .mv (.k (.slice none 0 0))⟩])
            .ret)
          .skip))
      (.seq
        (.rg [⟨some 6, none, .fld 0 (.t 1)⟩,
          ⟨some 7, none, .load none (.t 6)⟩,
          ⟨some 8, none, .fld 0 (.t 1)⟩,
          ⟨some 9, none, .load none (.t 8)⟩,
          ⟨some 10, none, .len (.t 9)⟩,
          ⟨some 11, none, .bin 0 .sub (.t 10) (.k (.int .i64 1))⟩,
          ⟨some 12, none, .slc 4 (.t 7) none (some (.t 11)) none⟩,
          ⟨some 13, none, .callo n_impl_copied SO_impl_copied [(.t 12, [some 4])]⟩,
          ⟨some 2, none, .mv (.t 13)⟩])
        .ret))) }
theorem is_impl_CertFinal_o : IsF Try.prog n_impl_CertFinal_o c_impl_CertFinal_o := ⟨Try.f27, _, Try.func27, rfl, by decide, rfl, by kernel_rfl, by kernel_rfl⟩
end Av
end Go.Proofs.Ytmboljfckljjhaa
