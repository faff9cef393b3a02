/- The functions' code in the small language, and that it is theirs. -/
import Derived.Test.YtmboljfckljjhaaCH
import Derived.Test.YtmboljfckljjhaaD1
import Derived.Test.YtmboljfckljjhaaProg
import Derived.KernelRfl
set_option linter.unusedVariables false
namespace Go.Proofs.Ytmboljfckljjhaa
namespace Av
noncomputable def c_laws_FnCertEpochs : FC := { n := 90, res := [⟨none, 2, []⟩], body :=
  (.seq
    (.rg [⟨some 2, none, .mv (.k (.bool false))⟩])
    (.seq
      (.seq
        (.rg [⟨some 8, none, .mv (.t 0)⟩,
          ⟨some 9, none, .len (.t 8)⟩,
          ⟨some 10, none, .bin 0 .gtr (.t 9) (.k (.int .i64 1048576))⟩])
        (.cond (.t 10)
          (.seq
            (.rg [⟨some 2, none, .mv (.k (.bool true))⟩])
            .ret)
          .skip))
      (.seq
        (.rg [⟨some 11, none, .mv (.t 0)⟩,
          ⟨some 12, none, .call n_spec_DrawCertOk S_spec_DrawCertOk [(.t 11, [some 1])]⟩,
          ⟨some 3, none, .alloc [.slice none 0 0, .slice none 0 0]⟩,
          ⟨none, none, .store 2 (.t 3) (.t 12)⟩])
        (.seq
          (.rg [⟨some 13, none, .load (some 2) (.t 3)⟩,
            ⟨some 14, none, .call n_impl_CertOk S_impl_CertOk [(.t 13, [some 4, some 1])]⟩,
            ⟨some 4, none, .mv (.t 14)⟩])
          (.seq
            (.seq
              (.rg [⟨some 15, none, .mv (.t 4)⟩,
                ⟨some 16, none, .load (some 2) (.t 3)⟩,
                ⟨some 17, none, .call n_spec_CertOk S_spec_CertOk [(.t 16, [some 4, some 1])]⟩,
                ⟨some 18, none, .bin 1 .neq (.t 15) (.t 17)⟩,
                ⟨some 19, none, .mv (.t 18)⟩,
                ⟨some 20, some (19, false), .mv (.t 4)⟩,
                ⟨some 21, some (19, false), .un .not (.t 20)⟩,
                ⟨some 22, none, .pick (.t 19) (.k (.bool true)) (.t 21)⟩])
              (.cond (.t 22)
                (.seq
                  (.rg [⟨some 23, none, .mv (.t 4)⟩,
                    ⟨some 24, none, .load (some 2) (.t 3)⟩,
                    ⟨some 25, none, .call n_spec_CertOk S_spec_CertOk [(.t 24, [some 4, some 1])]⟩,
                    ⟨some 26, none, .bin 1 .eql (.t 23) (.t 25)⟩,
                    ⟨some 2, none, .mv (.t 26)⟩])
                  .ret)
                .skip))
            (.seq
              (.rg [⟨some 27, none, .fld 0 (.t 3)⟩,
                ⟨some 28, none, .load none (.t 27)⟩,
                ⟨some 29, none, .len (.t 28)⟩,
                ⟨some 5, none, .mv (.t 29)⟩])
              (.seq
                (.rg [⟨some 30, none, .bsl 85 4 []⟩,
                  ⟨some 31, none, .fld 0 (.t 3)⟩,
                  ⟨some 32, none, .load none (.t 31)⟩,
                  ⟨some 33, none, .app 85 4 32 [.int .i64 0, .int .i64 0, .int .i64 0, .int .i64 0] (.t 30) (.t 32)⟩,
                  ⟨some 34, none, .fld 1 (.t 3)⟩,
                  ⟨some 35, none, .load none (.t 34)⟩,
                  ⟨some 36, none, .build [.slice none 0 0, .slice none 0 0] [(0, 1, .t 33), (1, 1, .t 35)]⟩,
                  ⟨some 6, none, .alloc [.slice none 0 0, .slice none 0 0]⟩,
                  ⟨none, none, .store 2 (.t 6) (.t 36)⟩])
                (.seq
                  (.rg [⟨some 37, none, .fld 0 (.t 6)⟩,
                    ⟨some 38, none, .load none (.t 37)⟩,
                    ⟨some 39, none, .mv (.t 5)⟩,
                    ⟨some 40, none, .bin 0 .sub (.t 39) (.k (.int .i64 1))⟩,
                    ⟨some 41, none, .fld 0 (.t 3)⟩,
                    ⟨some 42, none, .load none (.t 41)⟩,
                    ⟨some 43, none, .mv (.t 5)⟩,
                    ⟨some 44, none, .bin 0 .sub (.t 43) (.k (.int .i64 1))⟩,
                    ⟨some 45, none, .idx 4 (.t 42) (.t 44)⟩,
                    ⟨some 46, none, .fld 0 (.t 45)⟩,
                    ⟨some 47, none, .load none (.t 46)⟩,
                    ⟨some 48, none, .bin 0 .add (.t 47) (.k (.int .i64 1))⟩,
                    ⟨some 49, none, .idx 4 (.t 38) (.t 40)⟩,
                    ⟨some 50, none, .fld 0 (.t 49)⟩,
                    ⟨none, none, .store 1 (.t 50) (.t 48)⟩])
                  (.seq
                    (.rg [⟨some 51, none, .bsl 85 4 []⟩,
                      ⟨some 52, none, .fld 0 (.t 3)⟩,
                      ⟨some 53, none, .load none (.t 52)⟩,
                      ⟨some 54, none, .mv (.t 5)⟩,
                      ⟨some 55, none, .bin 0 .sub (.t 54) (.k (.int .i64 2))⟩,
                      ⟨some 56, none, .slc 4 (.t 53) none (some (.t 55)) none⟩,
                      ⟨some 57, none, .app 85 4 32 [.int .i64 0, .int .i64 0, .int .i64 0, .int .i64 0] (.t 51) (.t 56)⟩,
                      ⟨some 58, none, .fld 0 (.t 3)⟩,
                      ⟨some 59, none, .load none (.t 58)⟩,
                      ⟨some 60, none, .mv (.t 5)⟩,
                      ⟨some 61, none, .bin 0 .sub (.t 60) (.k (.int .i64 1))⟩,
                      ⟨some 62, none, .idx 4 (.t 59) (.t 61)⟩,
                      ⟨some 63, none, .load (some 4) (.t 62)⟩,
                      ⟨some 64, none, .bsl 85 4 [.t 63]⟩,
                      ⟨some 65, none, .app 85 4 32 [.int .i64 0, .int .i64 0, .int .i64 0, .int .i64 0] (.t 57) (.t 64)⟩,
                      ⟨some 66, none, .fld 1 (.t 3)⟩,
                      ⟨some 67, none, .load none (.t 66)⟩,
                      ⟨some 68, none, .build [.slice none 0 0, .slice none 0 0] [(0, 1, .t 65), (1, 1, .t 67)]⟩,
                      ⟨some 7, none, .alloc [.slice none 0 0, .slice none 0 0]⟩,
                      ⟨none, none, .store 2 (.t 7) (.t 68)⟩])
                    (.seq
                      (.rg [⟨some 69, none, .load (some 2) (.t 6)⟩,
                        ⟨some 70, none, .call n_impl_CertOk S_impl_CertOk [(.t 69, [some 4, some 1])]⟩,
                        ⟨some 71, none, .un .not (.t 70)⟩,
                        ⟨some 72, none, .mv (.t 71)⟩,
                        ⟨some 73, some (72, true), .load (some 2) (.t 7)⟩,
                        ⟨some 74, some (72, true), .call n_impl_CertOk S_impl_CertOk [(.t 73, [some 4, some 1])]⟩,
                        ⟨some 75, some (72, true), .un .not (.t 74)⟩,
                        ⟨some 76, none, .pick (.t 72) (.t 75) (.k (.bool false))⟩,
                        ⟨some 77, none, .mv (.t 76)⟩,
                        ⟨some 78, some (77, true), .fld 0 (.t 3)⟩,
                        ⟨some 79, some (77, true), .load none (.t 78)⟩,
                        ⟨some 80, some (77, true), .build [.slice none 0 0, .slice none 0 0] [(0, 1, .t 79)]⟩,
                        ⟨some 81, some (77, true), .call n_impl_CertOk S_impl_CertOk [(.t 80, [some 4, some 1])]⟩,
                        ⟨some 82, some (77, true), .un .not (.t 81)⟩,
                        ⟨some 83, none, .pick (.t 77) (.t 82) (.k (.bool false))⟩,
                        ⟨some 84, none, .mv (.t 83)⟩,
                        ⟨some 85, some (84, true), .load (some 2) (.t 6)⟩,
                        ⟨some 86, some (84, true), .callo n_impl_CertFinal SO_impl_CertFinal [(.t 85, [some 4, some 1])]⟩,
                        ⟨some 87, some (84, true), .len (.t 86)⟩,
                        ⟨some 88, some (84, true), .bin 0 .eql (.t 87) (.k (.int .i64 0))⟩,
                        ⟨some 89, none, .pick (.t 84) (.t 88) (.k (.bool false))⟩,
                        ⟨some 2, none, .mv (.t 89)⟩])
                      .ret)))))))))) }
theorem is_laws_FnCertEpochs : IsF Try.prog n_laws_FnCertEpochs c_laws_FnCertEpochs := ⟨Try.f9, _, Try.func9, rfl, by decide, rfl, by kernel_rfl, by kernel_rfl⟩
end Av
end Go.Proofs.Ytmboljfckljjhaa
