/- The functions' code in the small language, and that it is theirs. -/
import Derived.Test.YtocfcnkfjfpoaaaQ4
import Derived.Test.YtocfcnkfjfpoaaaD1
import Derived.Test.YtocfcnkfjfpoaaaProg
import Derived.KernelRfl
set_option linter.unusedVariables false
namespace Go.Proofs.Ytocfcnkfjfpoaaa
namespace Av
noncomputable def c_laws_FnCertOf : FC := { n := 85, res := [⟨none, 2, []⟩], body :=
  (.seq
    (.rg [⟨some 2, none, .mv (.k (.bool false))⟩])
    (.seq
      (.seq
        (.rg [⟨some 11, none, .mv (.t 0)⟩,
          ⟨some 12, none, .len (.t 11)⟩,
          ⟨some 13, none, .bin 0 .gtr (.t 12) (.k (.int .i64 1048576))⟩])
        (.cond (.t 13)
          (.seq
            (.rg [⟨some 2, none, .mv (.k (.bool true))⟩])
            .ret)
          .skip))
      (.seq
        (.rg [⟨some 14, none, .mv (.t 0)⟩,
          ⟨some 15, none, .call n_spec_DrawCertOf S_spec_DrawCertOf [(.t 14, [some 1])]⟩,
          ⟨some 3, none, .mv (.t 15)⟩])
        (.seq
          (.rg [⟨some 17, none, .mv (.t 3)⟩,
            ⟨some 18, none, .callm n_spec_CertOf S_spec_CertOf [(.t 17, [some 2])]⟩,
            ⟨some 16, none, .mv (.t 18)⟩,
            ⟨some 19, none, .ext (.t 16) 0⟩,
            ⟨some 20, none, .ext (.t 16) 1⟩,
            ⟨some 4, none, .alloc [.slice none 0 0, .slice none 0 0]⟩,
            ⟨none, none, .store 2 (.t 4) (.t 19)⟩,
            ⟨some 5, none, .mv (.t 20)⟩])
          (.seq
            (.rg [⟨some 22, none, .mv (.t 3)⟩,
              ⟨some 23, none, .call n_impl_CertOf S_impl_CertOf [(.t 22, [some 2])]⟩,
              ⟨some 21, none, .mv (.t 23)⟩,
              ⟨some 24, none, .ext (.t 21) 0⟩,
              ⟨some 25, none, .ext (.t 21) 1⟩,
              ⟨some 6, none, .alloc [.slice none 0 0, .slice none 0 0]⟩,
              ⟨none, none, .store 2 (.t 6) (.t 24)⟩,
              ⟨some 7, none, .mv (.t 25)⟩])
            (.seq
              (.seq
                (.rg [⟨some 26, none, .mv (.t 7)⟩,
                  ⟨some 27, none, .mv (.t 5)⟩,
                  ⟨some 28, none, .bin 1 .neq (.t 26) (.t 27)⟩,
                  ⟨some 29, none, .mv (.t 28)⟩,
                  ⟨some 30, some (29, false), .load (some 2) (.t 6)⟩,
                  ⟨some 31, some (29, false), .load (some 2) (.t 4)⟩,
                  ⟨some 32, some (29, false), .call n_laws_lwCert S_laws_lwCert [(.t 30, [some 4, some 1]), (.t 31, [some 4, some 1])]⟩,
                  ⟨some 33, some (29, false), .un .not (.t 32)⟩,
                  ⟨some 34, none, .pick (.t 29) (.k (.bool true)) (.t 33)⟩,
                  ⟨some 35, none, .mv (.t 34)⟩,
                  ⟨some 36, some (35, false), .mv (.t 3)⟩,
                  ⟨some 37, some (35, false), .call n_spec_VotesOk S_spec_VotesOk [(.t 36, [some 2])]⟩,
                  ⟨some 38, some (35, false), .un .not (.t 37)⟩,
                  ⟨some 39, none, .pick (.t 35) (.k (.bool true)) (.t 38)⟩])
                (.cond (.t 39)
                  (.seq
                    (.rg [⟨some 40, none, .mv (.t 7)⟩,
                      ⟨some 41, none, .mv (.t 5)⟩,
                      ⟨some 42, none, .bin 1 .eql (.t 40) (.t 41)⟩,
                      ⟨some 43, none, .mv (.t 42)⟩,
                      ⟨some 44, some (43, true), .load (some 2) (.t 6)⟩,
                      ⟨some 45, some (43, true), .load (some 2) (.t 4)⟩,
                      ⟨some 46, some (43, true), .call n_laws_lwCert S_laws_lwCert [(.t 44, [some 4, some 1]), (.t 45, [some 4, some 1])]⟩,
                      ⟨some 47, none, .pick (.t 43) (.t 46) (.k (.bool false))⟩,
                      ⟨some 2, none, .mv (.t 47)⟩])
                    .ret)
                  .skip))
              (.seq
                (.rg [⟨some 48, none, .mv (.t 3)⟩,
                  ⟨some 49, none, .call n_impl_TreeFinal S_impl_TreeFinal [(.t 48, [some 2])]⟩,
                  ⟨some 8, none, .mv (.t 49)⟩])
                (.seq
                  (.seq
                    (.rg [⟨some 50, none, .mv (.t 7)⟩,
                      ⟨some 51, none, .un .not (.t 50)⟩])
                    (.cond (.t 51)
                      (.seq
                        (.rg [⟨some 52, none, .mv (.t 8)⟩,
                          ⟨some 53, none, .len (.t 52)⟩,
                          ⟨some 54, none, .bin 0 .eql (.t 53) (.k (.int .i64 0))⟩,
                          ⟨some 2, none, .mv (.t 54)⟩])
                        .ret)
                      .skip))
                  (.seq
                    (.rg [⟨some 55, none, .load (some 2) (.t 6)⟩,
                      ⟨some 56, none, .call n_impl_CertVotes S_impl_CertVotes [(.t 55, [some 4, some 1])]⟩,
                      ⟨some 9, none, .mv (.t 56)⟩])
                    (.seq
                      (.seq
                        (.rg [⟨some 10, none, .mv (.k (.int .i64 0))⟩])
                        (.block 0
                          (.loop
                            (.seq
                              (.seq
                                (.rg [⟨some 57, none, .mv (.t 10)⟩,
                                  ⟨some 58, none, .mv (.t 9)⟩,
                                  ⟨some 59, none, .len (.t 58)⟩,
                                  ⟨some 60, none, .bin 0 .lss (.t 57) (.t 59)⟩])
                                (.cond (.t 60)
                                  .skip
                                  (.exit 0)))
                              (.seq
                                (.block 1
                                  (.seq
                                    (.rg [⟨some 63, none, .mv (.t 3)⟩,
                                      ⟨some 64, none, .mv (.t 9)⟩,
                                      ⟨some 65, none, .mv (.t 10)⟩,
                                      ⟨some 66, none, .idx 2 (.t 64) (.t 65)⟩,
                                      ⟨some 67, none, .load (some 2) (.t 66)⟩,
                                      ⟨some 68, none, .call n_laws_lwHas S_laws_lwHas [(.t 63, [some 2]), (.t 67, [none, some 4])]⟩,
                                      ⟨some 69, none, .un .not (.t 68)⟩])
                                    (.cond (.t 69)
                                      (.seq
                                        (.rg [⟨some 2, none, .mv (.k (.bool false))⟩])
                                        .ret)
                                      .skip)))
                                (.rg [⟨some 61, none, .mv (.t 10)⟩,
                                  ⟨some 62, none, .bin 0 .add (.t 61) (.k (.int .i64 1))⟩,
                                  ⟨some 10, none, .mv (.t 62)⟩]))))))
                      (.seq
                        (.rg [⟨some 70, none, .load (some 2) (.t 6)⟩,
                          ⟨some 71, none, .call n_impl_CertOk S_impl_CertOk [(.t 70, [some 4, some 1])]⟩,
                          ⟨some 72, none, .mv (.t 71)⟩,
                          ⟨some 73, some (72, true), .load (some 2) (.t 6)⟩,
                          ⟨some 74, some (72, true), .call n_impl_CertFinal S_impl_CertFinal [(.t 73, [some 4, some 1])]⟩,
                          ⟨some 75, some (72, true), .len (.t 74)⟩,
                          ⟨some 76, some (72, true), .mv (.t 8)⟩,
                          ⟨some 77, some (72, true), .len (.t 76)⟩,
                          ⟨some 78, some (72, true), .bin 0 .eql (.t 75) (.t 77)⟩,
                          ⟨some 79, none, .pick (.t 72) (.t 78) (.k (.bool false))⟩,
                          ⟨some 80, none, .mv (.t 79)⟩,
                          ⟨some 81, some (80, true), .mv (.t 8)⟩,
                          ⟨some 82, some (80, true), .len (.t 81)⟩,
                          ⟨some 83, some (80, true), .bin 0 .gtr (.t 82) (.k (.int .i64 0))⟩,
                          ⟨some 84, none, .pick (.t 80) (.t 83) (.k (.bool false))⟩,
                          ⟨some 2, none, .mv (.t 84)⟩])
                        .ret))))))))))) }
theorem is_laws_FnCertOf : IsF Try.prog n_laws_FnCertOf c_laws_FnCertOf := ⟨Try.f12, _, Try.func12, rfl, by decide, rfl, by kernel_rfl, by kernel_rfl⟩
noncomputable def c_laws_FnCertFinal : FC := { n := 47, res := [⟨none, 2, []⟩], body :=
  (.seq
    (.rg [⟨some 2, none, .mv (.k (.bool false))⟩])
    (.seq
      (.seq
        (.rg [⟨some 6, none, .mv (.t 0)⟩,
          ⟨some 7, none, .len (.t 6)⟩,
          ⟨some 8, none, .bin 0 .gtr (.t 7) (.k (.int .i64 1048576))⟩])
        (.cond (.t 8)
          (.seq
            (.rg [⟨some 2, none, .mv (.k (.bool true))⟩])
            .ret)
          .skip))
      (.seq
        (.rg [⟨some 9, none, .mv (.t 0)⟩,
          ⟨some 10, none, .call n_spec_DrawCertFinal S_spec_DrawCertFinal [(.t 9, [some 1])]⟩,
          ⟨some 3, none, .alloc [.slice none 0 0, .slice none 0 0]⟩,
          ⟨none, none, .store 2 (.t 3) (.t 10)⟩])
        (.seq
          (.rg [⟨some 11, none, .load (some 2) (.t 3)⟩,
            ⟨some 12, none, .call n_impl_CertFinal S_impl_CertFinal [(.t 11, [some 4, some 1])]⟩,
            ⟨some 4, none, .mv (.t 12)⟩])
          (.seq
            (.seq
              (.rg [⟨some 13, none, .mv (.t 4)⟩,
                ⟨some 14, none, .load (some 2) (.t 3)⟩,
                ⟨some 15, none, .call n_spec_CertFinal S_spec_CertFinal [(.t 14, [some 4, some 1])]⟩,
                ⟨some 16, none, .call n_laws_lwSame S_laws_lwSame [(.t 13, [some 4]), (.t 15, [some 4])]⟩,
                ⟨some 17, none, .un .not (.t 16)⟩,
                ⟨some 18, none, .mv (.t 17)⟩,
                ⟨some 19, some (18, false), .load (some 2) (.t 3)⟩,
                ⟨some 20, some (18, false), .call n_spec_CertOk S_spec_CertOk [(.t 19, [some 4, some 1])]⟩,
                ⟨some 21, some (18, false), .un .not (.t 20)⟩,
                ⟨some 22, none, .pick (.t 18) (.k (.bool true)) (.t 21)⟩])
              (.cond (.t 22)
                (.seq
                  (.rg [⟨some 23, none, .mv (.t 4)⟩,
                    ⟨some 24, none, .load (some 2) (.t 3)⟩,
                    ⟨some 25, none, .call n_spec_CertFinal S_spec_CertFinal [(.t 24, [some 4, some 1])]⟩,
                    ⟨some 26, none, .call n_laws_lwSame S_laws_lwSame [(.t 23, [some 4]), (.t 25, [some 4])]⟩,
                    ⟨some 2, none, .mv (.t 26)⟩])
                  .ret)
                .skip))
            (.seq
              (.rg [⟨some 27, none, .fld 0 (.t 3)⟩,
                ⟨some 28, none, .load none (.t 27)⟩,
                ⟨some 29, none, .len (.t 28)⟩,
                ⟨some 5, none, .mv (.t 29)⟩])
              (.seq
                (.rg [⟨some 30, none, .mv (.t 4)⟩,
                  ⟨some 31, none, .fld 0 (.t 3)⟩,
                  ⟨some 32, none, .load none (.t 31)⟩,
                  ⟨some 33, none, .mv (.t 5)⟩,
                  ⟨some 34, none, .bin 0 .sub (.t 33) (.k (.int .i64 1))⟩,
                  ⟨some 35, none, .slc 4 (.t 32) none (some (.t 34)) none⟩,
                  ⟨some 36, none, .call n_laws_lwSame S_laws_lwSame [(.t 30, [some 4]), (.t 35, [some 4])]⟩,
                  ⟨some 37, none, .mv (.t 36)⟩,
                  ⟨some 38, some (37, true), .mv (.t 4)⟩,
                  ⟨some 39, some (37, true), .fld 0 (.t 3)⟩,
                  ⟨some 40, some (37, true), .load none (.t 39)⟩,
                  ⟨some 41, some (37, true), .call n_impl_ChainIn S_impl_ChainIn [(.t 38, [some 4]), (.t 40, [some 4])]⟩,
                  ⟨some 42, none, .pick (.t 37) (.t 41) (.k (.bool false))⟩,
                  ⟨some 43, none, .mv (.t 42)⟩,
                  ⟨some 44, some (43, true), .mv (.t 5)⟩,
                  ⟨some 45, some (43, true), .bin 0 .geq (.t 44) (.k (.int .i64 3))⟩,
                  ⟨some 46, none, .pick (.t 43) (.t 45) (.k (.bool false))⟩,
                  ⟨some 2, none, .mv (.t 46)⟩])
                .ret))))))) }
theorem is_laws_FnCertFinal : IsF Try.prog n_laws_FnCertFinal c_laws_FnCertFinal := ⟨Try.f5, _, Try.func5, rfl, by decide, rfl, by kernel_rfl, by kernel_rfl⟩
noncomputable def c_laws_FnCertVotes : FC := { n := 75, res := [⟨none, 2, []⟩], body :=
  (.seq
    (.rg [⟨some 2, none, .mv (.k (.bool false))⟩])
    (.seq
      (.seq
        (.rg [⟨some 7, none, .mv (.t 0)⟩,
          ⟨some 8, none, .len (.t 7)⟩,
          ⟨some 9, none, .bin 0 .gtr (.t 8) (.k (.int .i64 1048576))⟩])
        (.cond (.t 9)
          (.seq
            (.rg [⟨some 2, none, .mv (.k (.bool true))⟩])
            .ret)
          .skip))
      (.seq
        (.rg [⟨some 10, none, .mv (.t 0)⟩,
          ⟨some 11, none, .call n_spec_DrawCertVotes S_spec_DrawCertVotes [(.t 10, [some 1])]⟩,
          ⟨some 3, none, .alloc [.slice none 0 0, .slice none 0 0]⟩,
          ⟨none, none, .store 2 (.t 3) (.t 11)⟩])
        (.seq
          (.rg [⟨some 12, none, .load (some 2) (.t 3)⟩,
            ⟨some 13, none, .call n_impl_CertVotes S_impl_CertVotes [(.t 12, [some 4, some 1])]⟩,
            ⟨some 4, none, .mv (.t 13)⟩])
          (.seq
            (.seq
              (.rg [⟨some 14, none, .mv (.t 4)⟩,
                ⟨some 15, none, .load (some 2) (.t 3)⟩,
                ⟨some 16, none, .call n_spec_CertVotes S_spec_CertVotes [(.t 15, [some 4, some 1])]⟩,
                ⟨some 17, none, .call n_laws_lwVotes S_laws_lwVotes [(.t 14, [some 2]), (.t 16, [some 2])]⟩,
                ⟨some 18, none, .un .not (.t 17)⟩,
                ⟨some 19, none, .mv (.t 18)⟩,
                ⟨some 20, some (19, false), .load (some 2) (.t 3)⟩,
                ⟨some 21, some (19, false), .call n_spec_CertOk S_spec_CertOk [(.t 20, [some 4, some 1])]⟩,
                ⟨some 22, some (19, false), .un .not (.t 21)⟩,
                ⟨some 23, none, .pick (.t 19) (.k (.bool true)) (.t 22)⟩])
              (.cond (.t 23)
                (.seq
                  (.rg [⟨some 24, none, .mv (.t 4)⟩,
                    ⟨some 25, none, .load (some 2) (.t 3)⟩,
                    ⟨some 26, none, .call n_spec_CertVotes S_spec_CertVotes [(.t 25, [some 4, some 1])]⟩,
                    ⟨some 27, none, .call n_laws_lwVotes S_laws_lwVotes [(.t 24, [some 2]), (.t 26, [some 2])]⟩,
                    ⟨some 2, none, .mv (.t 27)⟩])
                  .ret)
                .skip))
            (.seq
              (.rg [⟨some 28, none, .fld 0 (.t 3)⟩,
                ⟨some 29, none, .load none (.t 28)⟩,
                ⟨some 30, none, .len (.t 29)⟩,
                ⟨some 5, none, .mv (.t 30)⟩])
              (.seq
                (.seq
                  (.rg [⟨some 6, none, .mv (.k (.int .i64 0))⟩])
                  (.block 0
                    (.loop
                      (.seq
                        (.seq
                          (.rg [⟨some 31, none, .mv (.t 6)⟩,
                            ⟨some 32, none, .bin 0 .lss (.t 31) (.k (.int .i64 3))⟩])
                          (.cond (.t 32)
                            .skip
                            (.exit 0)))
                        (.seq
                          (.block 1
                            (.seq
                              (.rg [⟨some 35, none, .mv (.t 4)⟩,
                                ⟨some 36, none, .fld 0 (.t 3)⟩,
                                ⟨some 37, none, .load none (.t 36)⟩,
                                ⟨some 38, none, .mv (.t 5)⟩,
                                ⟨some 39, none, .bin 0 .sub (.t 38) (.k (.int .i64 2))⟩,
                                ⟨some 40, none, .mv (.t 6)⟩,
                                ⟨some 41, none, .bin 0 .add (.t 39) (.t 40)⟩,
                                ⟨some 42, none, .slc 4 (.t 37) none (some (.t 41)) none⟩,
                                ⟨some 43, none, .call n_impl_VotesFor S_impl_VotesFor [(.t 35, [some 2]), (.t 42, [some 4])]⟩,
                                ⟨some 44, none, .fld 1 (.t 3)⟩,
                                ⟨some 45, none, .load none (.t 44)⟩,
                                ⟨some 46, none, .mv (.t 6)⟩,
                                ⟨some 47, none, .idx 1 (.t 45) (.t 46)⟩,
                                ⟨some 48, none, .load none (.t 47)⟩,
                                ⟨some 49, none, .call n_laws_lwInts S_laws_lwInts [(.t 43, [some 1]), (.t 48, [some 1])]⟩,
                                ⟨some 50, none, .un .not (.t 49)⟩])
                              (.cond (.t 50)
                                (.seq
                                  (.rg [⟨some 2, none, .mv (.k (.bool false))⟩])
                                  .ret)
                                .skip)))
                          (.rg [⟨some 33, none, .mv (.t 6)⟩,
                            ⟨some 34, none, .bin 0 .add (.t 33) (.k (.int .i64 1))⟩,
                            ⟨some 6, none, .mv (.t 34)⟩]))))))
                (.seq
                  (.rg [⟨some 51, none, .mv (.t 4)⟩,
                    ⟨some 52, none, .call n_impl_VotesOk S_impl_VotesOk [(.t 51, [some 2])]⟩,
                    ⟨some 53, none, .mv (.t 52)⟩,
                    ⟨some 54, some (53, true), .mv (.t 4)⟩,
                    ⟨some 55, some (53, true), .len (.t 54)⟩,
                    ⟨some 56, some (53, true), .fld 1 (.t 3)⟩,
                    ⟨some 57, some (53, true), .load none (.t 56)⟩,
                    ⟨some 58, some (53, true), .idx 1 (.t 57) (.k (.int .i64 0))⟩,
                    ⟨some 59, some (53, true), .load none (.t 58)⟩,
                    ⟨some 60, some (53, true), .len (.t 59)⟩,
                    ⟨some 61, some (53, true), .fld 1 (.t 3)⟩,
                    ⟨some 62, some (53, true), .load none (.t 61)⟩,
                    ⟨some 63, some (53, true), .idx 1 (.t 62) (.k (.int .i64 1))⟩,
                    ⟨some 64, some (53, true), .load none (.t 63)⟩,
                    ⟨some 65, some (53, true), .len (.t 64)⟩,
                    ⟨some 66, some (53, true), .bin 0 .add (.t 60) (.t 65)⟩,
                    ⟨some 67, some (53, true), .fld 1 (.t 3)⟩,
                    ⟨some 68, some (53, true), .load none (.t 67)⟩,
                    ⟨some 69, some (53, true), .idx 1 (.t 68) (.k (.int .i64 2))⟩,
                    ⟨some 70, some (53, true), .load none (.t 69)⟩,
                    ⟨some 71, some (53, true), .len (.t 70)⟩,
                    ⟨some 72, some (53, true), .bin 0 .add (.t 66) (.t 71)⟩,
                    ⟨some 73, some (53, true), .bin 0 .eql (.t 55) (.t 72)⟩,
                    ⟨some 74, none, .pick (.t 53) (.t 73) (.k (.bool false))⟩,
                    ⟨some 2, none, .mv (.t 74)⟩])
                  .ret)))))))) }
theorem is_laws_FnCertVotes : IsF Try.prog n_laws_FnCertVotes c_laws_FnCertVotes := ⟨Try.f6, _, Try.func6, rfl, by decide, rfl, by kernel_rfl, by kernel_rfl⟩
noncomputable def c_laws_FnCertOrder : FC := { n := 65, res := [⟨none, 2, []⟩], body :=
  (.seq
    (.rg [⟨some 2, none, .mv (.k (.bool false))⟩])
    (.seq
      (.seq
        (.rg [⟨some 10, none, .mv (.t 0)⟩,
          ⟨some 11, none, .len (.t 10)⟩,
          ⟨some 12, none, .bin 0 .gtr (.t 11) (.k (.int .i64 1048576))⟩])
        (.cond (.t 12)
          (.seq
            (.rg [⟨some 2, none, .mv (.k (.bool true))⟩])
            .ret)
          .skip))
      (.seq
        (.rg [⟨some 13, none, .mv (.t 0)⟩,
          ⟨some 14, none, .call n_spec_DrawCertOf S_spec_DrawCertOf [(.t 13, [some 1])]⟩,
          ⟨some 3, none, .mv (.t 14)⟩])
        (.seq
          (.rg [⟨some 16, none, .mv (.t 3)⟩,
            ⟨some 17, none, .callm n_spec_CertOf S_spec_CertOf [(.t 16, [some 2])]⟩,
            ⟨some 15, none, .mv (.t 17)⟩,
            ⟨some 18, none, .ext (.t 15) 0⟩,
            ⟨some 19, none, .ext (.t 15) 1⟩,
            ⟨some 4, none, .alloc [.slice none 0 0, .slice none 0 0]⟩,
            ⟨none, none, .store 2 (.t 4) (.t 18)⟩,
            ⟨some 5, none, .mv (.t 19)⟩])
          (.seq
            (.rg [⟨some 21, none, .mv (.t 3)⟩,
              ⟨some 22, none, .call n_impl_CertOf S_impl_CertOf [(.t 21, [some 2])]⟩,
              ⟨some 20, none, .mv (.t 22)⟩,
              ⟨some 23, none, .ext (.t 20) 0⟩,
              ⟨some 24, none, .ext (.t 20) 1⟩,
              ⟨some 6, none, .alloc [.slice none 0 0, .slice none 0 0]⟩,
              ⟨none, none, .store 2 (.t 6) (.t 23)⟩,
              ⟨some 7, none, .mv (.t 24)⟩])
            (.seq
              (.seq
                (.rg [⟨some 25, none, .mv (.t 7)⟩,
                  ⟨some 26, none, .mv (.t 5)⟩,
                  ⟨some 27, none, .bin 1 .neq (.t 25) (.t 26)⟩,
                  ⟨some 28, none, .mv (.t 27)⟩,
                  ⟨some 29, some (28, false), .load (some 2) (.t 6)⟩,
                  ⟨some 30, some (28, false), .load (some 2) (.t 4)⟩,
                  ⟨some 31, some (28, false), .call n_laws_lwCert S_laws_lwCert [(.t 29, [some 4, some 1]), (.t 30, [some 4, some 1])]⟩,
                  ⟨some 32, some (28, false), .un .not (.t 31)⟩,
                  ⟨some 33, none, .pick (.t 28) (.k (.bool true)) (.t 32)⟩,
                  ⟨some 34, none, .mv (.t 33)⟩,
                  ⟨some 35, some (34, false), .mv (.t 3)⟩,
                  ⟨some 36, some (34, false), .call n_spec_VotesOk S_spec_VotesOk [(.t 35, [some 2])]⟩,
                  ⟨some 37, some (34, false), .un .not (.t 36)⟩,
                  ⟨some 38, none, .pick (.t 34) (.k (.bool true)) (.t 37)⟩])
                (.cond (.t 38)
                  (.seq
                    (.rg [⟨some 39, none, .mv (.t 7)⟩,
                      ⟨some 40, none, .mv (.t 5)⟩,
                      ⟨some 41, none, .bin 1 .eql (.t 39) (.t 40)⟩,
                      ⟨some 42, none, .mv (.t 41)⟩,
                      ⟨some 43, some (42, true), .load (some 2) (.t 6)⟩,
                      ⟨some 44, some (42, true), .load (some 2) (.t 4)⟩,
                      ⟨some 45, some (42, true), .call n_laws_lwCert S_laws_lwCert [(.t 43, [some 4, some 1]), (.t 44, [some 4, some 1])]⟩,
                      ⟨some 46, none, .pick (.t 42) (.t 45) (.k (.bool false))⟩,
                      ⟨some 2, none, .mv (.t 46)⟩])
                    .ret)
                  .skip))
              (.seq
                (.rg [⟨some 48, none, .mv (.t 3)⟩,
                  ⟨some 49, none, .call n_laws_lwBack S_laws_lwBack [(.t 48, [some 2])]⟩,
                  ⟨some 50, none, .call n_impl_CertOf S_impl_CertOf [(.t 49, [some 2])]⟩,
                  ⟨some 47, none, .mv (.t 50)⟩,
                  ⟨some 51, none, .ext (.t 47) 0⟩,
                  ⟨some 52, none, .ext (.t 47) 1⟩,
                  ⟨some 8, none, .alloc [.slice none 0 0, .slice none 0 0]⟩,
                  ⟨none, none, .store 2 (.t 8) (.t 51)⟩,
                  ⟨some 9, none, .mv (.t 52)⟩])
                (.seq
                  (.rg [⟨some 53, none, .mv (.t 9)⟩,
                    ⟨some 54, none, .mv (.t 7)⟩,
                    ⟨some 55, none, .bin 1 .eql (.t 53) (.t 54)⟩,
                    ⟨some 56, none, .mv (.t 55)⟩,
                    ⟨some 57, some (56, true), .load (some 2) (.t 8)⟩,
                    ⟨some 58, some (56, true), .call n_impl_CertFinal S_impl_CertFinal [(.t 57, [some 4, some 1])]⟩,
                    ⟨some 59, some (56, true), .len (.t 58)⟩,
                    ⟨some 60, some (56, true), .load (some 2) (.t 6)⟩,
                    ⟨some 61, some (56, true), .call n_impl_CertFinal S_impl_CertFinal [(.t 60, [some 4, some 1])]⟩,
                    ⟨some 62, some (56, true), .len (.t 61)⟩,
                    ⟨some 63, some (56, true), .bin 0 .eql (.t 59) (.t 62)⟩,
                    ⟨some 64, none, .pick (.t 56) (.t 63) (.k (.bool false))⟩,
                    ⟨some 2, none, .mv (.t 64)⟩])
                  .ret)))))))) }
theorem is_laws_FnCertOrder : IsF Try.prog n_laws_FnCertOrder c_laws_FnCertOrder := ⟨Try.f8, _, Try.func8, rfl, by decide, rfl, by kernel_rfl, by kernel_rfl⟩
noncomputable def c_laws_FnCertLonger : FC := { n := 80, res := [⟨none, 4, []⟩], body :=
  (.seq
    (.rg [⟨some 4, none, .mv (.k (.bool false))⟩])
    (.seq
      (.seq
        (.rg [⟨some 12, none, .mv (.t 0)⟩,
          ⟨some 13, none, .len (.t 12)⟩,
          ⟨some 14, none, .bin 0 .gtr (.t 13) (.k (.int .i64 1048576))⟩,
          ⟨some 15, none, .mv (.t 14)⟩,
          ⟨some 16, some (15, false), .mv (.t 1)⟩,
          ⟨some 17, some (15, false), .len (.t 16)⟩,
          ⟨some 18, some (15, false), .bin 0 .gtr (.t 17) (.k (.int .i64 1048576))⟩,
          ⟨some 19, none, .pick (.t 15) (.k (.bool true)) (.t 18)⟩])
        (.cond (.t 19)
          (.seq
            (.rg [⟨some 4, none, .mv (.k (.bool true))⟩])
            .ret)
          .skip))
      (.seq
        (.rg [⟨some 20, none, .mv (.t 0)⟩,
          ⟨some 21, none, .call n_spec_DrawCertOf S_spec_DrawCertOf [(.t 20, [some 1])]⟩,
          ⟨some 5, none, .mv (.t 21)⟩])
        (.seq
          (.rg [⟨some 23, none, .mv (.t 5)⟩,
            ⟨some 24, none, .callm n_spec_CertOf S_spec_CertOf [(.t 23, [some 2])]⟩,
            ⟨some 22, none, .mv (.t 24)⟩,
            ⟨some 25, none, .ext (.t 22) 0⟩,
            ⟨some 26, none, .ext (.t 22) 1⟩,
            ⟨some 6, none, .alloc [.slice none 0 0, .slice none 0 0]⟩,
            ⟨none, none, .store 2 (.t 6) (.t 25)⟩,
            ⟨some 7, none, .mv (.t 26)⟩])
          (.seq
            (.rg [⟨some 28, none, .mv (.t 5)⟩,
              ⟨some 29, none, .call n_impl_CertOf S_impl_CertOf [(.t 28, [some 2])]⟩,
              ⟨some 27, none, .mv (.t 29)⟩,
              ⟨some 30, none, .ext (.t 27) 0⟩,
              ⟨some 31, none, .ext (.t 27) 1⟩,
              ⟨some 8, none, .alloc [.slice none 0 0, .slice none 0 0]⟩,
              ⟨none, none, .store 2 (.t 8) (.t 30)⟩,
              ⟨some 9, none, .mv (.t 31)⟩])
            (.seq
              (.seq
                (.rg [⟨some 32, none, .mv (.t 9)⟩,
                  ⟨some 33, none, .mv (.t 7)⟩,
                  ⟨some 34, none, .bin 1 .neq (.t 32) (.t 33)⟩,
                  ⟨some 35, none, .mv (.t 34)⟩,
                  ⟨some 36, some (35, false), .load (some 2) (.t 8)⟩,
                  ⟨some 37, some (35, false), .load (some 2) (.t 6)⟩,
                  ⟨some 38, some (35, false), .call n_laws_lwCert S_laws_lwCert [(.t 36, [some 4, some 1]), (.t 37, [some 4, some 1])]⟩,
                  ⟨some 39, some (35, false), .un .not (.t 38)⟩,
                  ⟨some 40, none, .pick (.t 35) (.k (.bool true)) (.t 39)⟩,
                  ⟨some 41, none, .mv (.t 40)⟩,
                  ⟨some 42, some (41, false), .mv (.t 5)⟩,
                  ⟨some 43, some (41, false), .call n_spec_VotesOk S_spec_VotesOk [(.t 42, [some 2])]⟩,
                  ⟨some 44, some (41, false), .un .not (.t 43)⟩,
                  ⟨some 45, none, .pick (.t 41) (.k (.bool true)) (.t 44)⟩])
                (.cond (.t 45)
                  (.seq
                    (.rg [⟨some 46, none, .mv (.t 9)⟩,
                      ⟨some 47, none, .mv (.t 7)⟩,
                      ⟨some 48, none, .bin 1 .eql (.t 46) (.t 47)⟩,
                      ⟨some 49, none, .mv (.t 48)⟩,
                      ⟨some 50, some (49, true), .load (some 2) (.t 8)⟩,
                      ⟨some 51, some (49, true), .load (some 2) (.t 6)⟩,
                      ⟨some 52, some (49, true), .call n_laws_lwCert S_laws_lwCert [(.t 50, [some 4, some 1]), (.t 51, [some 4, some 1])]⟩,
                      ⟨some 53, none, .pick (.t 49) (.t 52) (.k (.bool false))⟩,
                      ⟨some 4, none, .mv (.t 53)⟩])
                    .ret)
                  .skip))
              (.seq
                (.rg [⟨some 55, none, .mv (.t 5)⟩,
                  ⟨some 56, none, .mv (.t 1)⟩,
                  ⟨some 57, none, .len (.t 56)⟩,
                  ⟨some 58, none, .mv (.t 5)⟩,
                  ⟨some 59, none, .len (.t 58)⟩,
                  ⟨some 60, none, .bin 0 .add (.t 59) (.k (.int .i64 1))⟩,
                  ⟨some 61, none, .bin 0 .rem (.t 57) (.t 60)⟩,
                  ⟨some 62, none, .slc 2 (.t 55) none (some (.t 61)) none⟩,
                  ⟨some 63, none, .call n_impl_CertOf S_impl_CertOf [(.t 62, [some 2])]⟩,
                  ⟨some 54, none, .mv (.t 63)⟩,
                  ⟨some 64, none, .ext (.t 54) 0⟩,
                  ⟨some 65, none, .ext (.t 54) 1⟩,
                  ⟨some 10, none, .alloc [.slice none 0 0, .slice none 0 0]⟩,
                  ⟨none, none, .store 2 (.t 10) (.t 64)⟩,
                  ⟨some 11, none, .mv (.t 65)⟩])
                (.seq
                  (.rg [⟨some 66, none, .mv (.t 11)⟩,
                    ⟨some 67, none, .un .not (.t 66)⟩,
                    ⟨some 68, none, .mv (.t 67)⟩,
                    ⟨some 69, some (68, false), .mv (.t 9)⟩,
                    ⟨some 70, some (68, false), .mv (.t 69)⟩,
                    ⟨some 71, some (70, true), .load (some 2) (.t 10)⟩,
                    ⟨some 72, some (70, true), .call n_impl_CertFinal S_impl_CertFinal [(.t 71, [some 4, some 1])]⟩,
                    ⟨some 73, some (70, true), .len (.t 72)⟩,
                    ⟨some 74, some (70, true), .load (some 2) (.t 8)⟩,
                    ⟨some 75, some (70, true), .call n_impl_CertFinal S_impl_CertFinal [(.t 74, [some 4, some 1])]⟩,
                    ⟨some 76, some (70, true), .len (.t 75)⟩,
                    ⟨some 77, some (70, true), .bin 0 .leq (.t 73) (.t 76)⟩,
                    ⟨some 78, some (68, false), .pick (.t 70) (.t 77) (.k (.bool false))⟩,
                    ⟨some 79, none, .pick (.t 68) (.k (.bool true)) (.t 78)⟩,
                    ⟨some 4, none, .mv (.t 79)⟩])
                  .ret)))))))) }
theorem is_laws_FnCertLonger : IsF Try.prog n_laws_FnCertLonger c_laws_FnCertLonger := ⟨Try.f7, _, Try.func7, rfl, by decide, rfl, by kernel_rfl, by kernel_rfl⟩
end Av
end Go.Proofs.Ytocfcnkfjfpoaaa
