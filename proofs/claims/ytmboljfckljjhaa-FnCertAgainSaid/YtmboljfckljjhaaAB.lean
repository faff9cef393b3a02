/- The functions' code in the small language, and that it is theirs. -/
import Derived.Test.YtmboljfckljjhaaAA
import Derived.Test.YtmboljfckljjhaaD1
import Derived.Test.YtmboljfckljjhaaProg
import Derived.KernelRfl
set_option linter.unusedVariables false
namespace Go.Proofs.Ytmboljfckljjhaa
namespace Av
noncomputable def c_slices_Clip_VoteS_f : FC := { n := 9, res := [⟨none, 2, [some 2]⟩], body :=
  (.seq
    (.rg [⟨some 2, none, .mv (.k (.slice none 0 0))⟩])
    (.seq
      (.rg [⟨some 3, none, .mv (.t 0)⟩,
        ⟨some 4, none, .mv (.t 0)⟩,
        ⟨some 5, none, .len (.t 4)⟩,
        ⟨some 6, none, .mv (.t 0)⟩,
        ⟨some 7, none, .len (.t 6)⟩,
        ⟨some 8, none, .clip 2 (.t 3) (.t 5) (.t 7)⟩,
        ⟨some 2, none, .mv (.t 8)⟩])
      .ret)) }
theorem is_slices_Clip_VoteS_f : IsF Try.prog n_slices_Clip_VoteS_f c_slices_Clip_VoteS_f := ⟨Try.f125, _, Try.func125, rfl, by decide, rfl, by kernel_rfl, by kernel_rfl⟩
noncomputable def c_impl_CertVotes_f : FC := { n := 39, res := [⟨none, 2, [some 2]⟩], body :=
  (.seq
    (.rg [⟨some 1, none, .box (.t 0)⟩,
      ⟨some 2, none, .mv (.k (.slice none 0 0))⟩])
    (.seq
      (.seq
        (.rg [⟨some 8, none, .load (some 2) (.t 1)⟩,
          ⟨some 9, none, .call n_impl_CertOk S_impl_CertOk [(.t 8, [some 4, some 1])]⟩,
          ⟨some 10, none, .un .not (.t 9)⟩])
        (.cond (.t 10)
          (.seq
            (.rg [⟨some 2, none, .mv (.k (.slice none 0 0))⟩])
            .ret)
          .skip))
      (.seq
        (.rg [⟨some 11, none, .bsl 56 2 []⟩,
          ⟨some 3, none, .mv (.t 11)⟩])
        (.seq
          (.seq
            (.rg [⟨some 12, none, .fld 1 (.t 1)⟩,
              ⟨some 13, none, .load none (.t 12)⟩,
              ⟨some 14, none, .len (.t 13)⟩,
              ⟨some 15, none, .mv (.k (.int .i64 0))⟩])
            (.block 0
              (.loop
                (.seq
                  (.rg [⟨some 16, none, .bin 0 .lss (.t 15) (.t 14)⟩])
                  (.seq
                    (.cond (.t 16)
                      .skip
                      (.exit 0))
                    (.seq
                      (.block 1
                        (.seq
                          (.rg [⟨some 17, none, .mv (.t 15)⟩,
                            ⟨some 18, none, .idx 1 (.t 13) (.t 15)⟩,
                            ⟨some 19, none, .load none (.t 18)⟩,
                            ⟨some 4, none, .mv (.t 17)⟩,
                            ⟨some 5, none, .mv (.t 19)⟩])
                          (.seq
                            (.rg [⟨some 20, none, .mv (.t 5)⟩,
                              ⟨some 21, none, .len (.t 20)⟩,
                              ⟨some 22, none, .mv (.k (.int .i64 0))⟩])
                            (.block 2
                              (.loop
                                (.seq
                                  (.rg [⟨some 23, none, .bin 0 .lss (.t 22) (.t 21)⟩])
                                  (.seq
                                    (.cond (.t 23)
                                      .skip
                                      (.exit 2))
                                    (.seq
                                      (.block 3
                                        (.seq
                                          (.rg [⟨some 24, none, .idx 1 (.t 20) (.t 22)⟩,
                                            ⟨some 25, none, .load none (.t 24)⟩,
                                            ⟨some 7, none, .mv (.t 25)⟩])
                                          (.rg [⟨some 26, none, .mv (.t 3)⟩,
                                            ⟨some 27, none, .mv (.t 7)⟩,
                                            ⟨some 28, none, .load (some 2) (.t 1)⟩,
                                            ⟨some 29, none, .mv (.t 4)⟩,
                                            ⟨some 30, none, .call n_impl_Cert_prefix S_impl_Cert_prefix [(.t 28, [some 4, some 1]), (.t 29, [])]⟩,
                                            ⟨some 31, none, .call n_impl_copied S_impl_copied [(.t 30, [some 4])]⟩,
                                            ⟨some 32, none, .build [.int .i64 0, .slice none 0 0] [(0, 1, .t 27), (1, 1, .t 31)]⟩,
                                            ⟨some 33, none, .bsl 56 2 [.t 32]⟩,
                                            ⟨some 34, none, .app 56 2 32 [.int .i64 0, .slice none 0 0] (.t 26) (.t 33)⟩,
                                            ⟨some 3, none, .mv (.t 34)⟩])))
                                      (.rg [⟨some 35, none, .bin 0 .add (.t 22) (.k (.int .i64 1))⟩,
                                        ⟨some 22, none, .mv (.t 35)⟩])))))))))
                      (.rg [⟨some 36, none, .bin 0 .add (.t 15) (.k (.int .i64 1))⟩,
                        ⟨some 15, none, .mv (.t 36)⟩])))))))
          (.seq
            (.rg [⟨some 37, none, .mv (.t 3)⟩,
              ⟨some 38, none, .callm n_slices_Clip_VoteS_f S_slices_Clip_VoteS_f [(.t 37, [some 2])]⟩,
              ⟨some 2, none, .mv (.t 38)⟩])
            .ret))))) }
theorem is_impl_CertVotes_f : IsF Try.prog n_impl_CertVotes_f c_impl_CertVotes_f := ⟨Try.f59, _, Try.func59, rfl, by decide, rfl, by kernel_rfl, by kernel_rfl⟩
noncomputable def c_laws_FnCertAgain : FC := { n := 71, res := [⟨none, 2, []⟩], body :=
  (.seq
    (.rg [⟨some 2, none, .mv (.k (.bool false))⟩])
    (.seq
      (.seq
        (.rg [⟨some 9, none, .mv (.t 0)⟩,
          ⟨some 10, none, .len (.t 9)⟩,
          ⟨some 11, none, .bin 0 .gtr (.t 10) (.k (.int .i64 1048576))⟩])
        (.cond (.t 11)
          (.seq
            (.rg [⟨some 2, none, .mv (.k (.bool true))⟩])
            .ret)
          .skip))
      (.seq
        (.rg [⟨some 12, none, .mv (.t 0)⟩,
          ⟨some 13, none, .call n_spec_DrawCertVotes S_spec_DrawCertVotes [(.t 12, [some 1])]⟩,
          ⟨some 3, none, .alloc [.slice none 0 0, .slice none 0 0]⟩,
          ⟨none, none, .store 2 (.t 3) (.t 13)⟩])
        (.seq
          (.rg [⟨some 14, none, .load (some 2) (.t 3)⟩,
            ⟨some 15, none, .callm n_impl_CertVotes_f S_impl_CertVotes_f [(.t 14, [some 4, some 1])]⟩,
            ⟨some 4, none, .mv (.t 15)⟩])
          (.seq
            (.seq
              (.frz 4 (.rg [⟨some 16, none, .mv (.t 4)⟩,
                ⟨some 17, none, .load (some 2) (.t 3)⟩,
                ⟨some 18, none, .call n_spec_CertVotes S_spec_CertVotes [(.t 17, [some 4, some 1])]⟩,
                ⟨some 19, none, .call n_laws_lwVotes S_laws_lwVotes [(.t 16, [some 2]), (.t 18, [some 2])]⟩,
                ⟨some 20, none, .un .not (.t 19)⟩,
                ⟨some 21, none, .mv (.t 20)⟩,
                ⟨some 22, some (21, false), .load (some 2) (.t 3)⟩,
                ⟨some 23, some (21, false), .call n_spec_CertOk S_spec_CertOk [(.t 22, [some 4, some 1])]⟩,
                ⟨some 24, some (21, false), .un .not (.t 23)⟩,
                ⟨some 25, none, .pick (.t 21) (.k (.bool true)) (.t 24)⟩]))
              (.cond (.t 25)
                (.seq
                  (.rg [⟨some 26, none, .mv (.t 4)⟩,
                    ⟨some 27, none, .load (some 2) (.t 3)⟩,
                    ⟨some 28, none, .call n_spec_CertVotes S_spec_CertVotes [(.t 27, [some 4, some 1])]⟩,
                    ⟨some 29, none, .call n_laws_lwVotes S_laws_lwVotes [(.t 26, [some 2]), (.t 28, [some 2])]⟩,
                    ⟨some 2, none, .mv (.t 29)⟩])
                  .ret)
                .skip))
            (.seq
              (.seq
                (.rg [⟨some 5, none, .mv (.k (.int .i64 1))⟩])
                (.block 0
                  (.loop
                    (.seq
                      (.seq
                        (.rg [⟨some 30, none, .mv (.t 5)⟩,
                          ⟨some 31, none, .bin 0 .add (.t 30) (.k (.int .i64 2))⟩,
                          ⟨some 32, none, .fld 0 (.t 3)⟩,
                          ⟨some 33, none, .load none (.t 32)⟩,
                          ⟨some 34, none, .len (.t 33)⟩,
                          ⟨some 35, none, .bin 0 .lss (.t 31) (.t 34)⟩])
                        (.cond (.t 35)
                          .skip
                          (.exit 0)))
                      (.seq
                        (.block 1
                          (.seq
                            (.rg [⟨some 6, none, .mv (.k (.int .i64 1))⟩])
                            (.block 2
                              (.loop
                                (.seq
                                  (.seq
                                    (.rg [⟨some 38, none, .mv (.t 6)⟩,
                                      ⟨some 39, none, .bin 0 .leq (.t 38) (.k (.int .i64 4))⟩])
                                    (.cond (.t 39)
                                      .skip
                                      (.exit 2)))
                                  (.seq
                                    (.block 3
                                      (.rg [⟨some 42, none, .mv (.t 4)⟩,
                                        ⟨some 43, none, .mv (.t 6)⟩,
                                        ⟨some 44, none, .fld 0 (.t 3)⟩,
                                        ⟨some 45, none, .load none (.t 44)⟩,
                                        ⟨some 46, none, .mv (.t 5)⟩,
                                        ⟨some 47, none, .slc 4 (.t 45) none (some (.t 46)) none⟩,
                                        ⟨some 48, none, .build [.int .i64 0, .slice none 0 0] [(0, 1, .t 43), (1, 1, .t 47)]⟩,
                                        ⟨some 49, none, .bsl 56 2 [.t 48]⟩,
                                        ⟨some 50, none, .app 56 2 32 [.int .i64 0, .slice none 0 0] (.t 42) (.t 49)⟩,
                                        ⟨some 4, none, .mv (.t 50)⟩]))
                                    (.rg [⟨some 40, none, .mv (.t 6)⟩,
                                      ⟨some 41, none, .bin 0 .add (.t 40) (.k (.int .i64 1))⟩,
                                      ⟨some 6, none, .mv (.t 41)⟩])))))))
                        (.rg [⟨some 36, none, .mv (.t 5)⟩,
                          ⟨some 37, none, .bin 0 .add (.t 36) (.k (.int .i64 1))⟩,
                          ⟨some 5, none, .mv (.t 37)⟩]))))))
              (.seq
                (.rg [⟨some 52, none, .mv (.t 4)⟩,
                  ⟨some 53, none, .call n_impl_CertOf S_impl_CertOf [(.t 52, [some 2])]⟩,
                  ⟨some 51, none, .mv (.t 53)⟩,
                  ⟨some 54, none, .ext (.t 51) 0⟩,
                  ⟨some 55, none, .ext (.t 51) 1⟩,
                  ⟨some 7, none, .alloc [.slice none 0 0, .slice none 0 0]⟩,
                  ⟨none, none, .store 2 (.t 7) (.t 54)⟩,
                  ⟨some 8, none, .mv (.t 55)⟩])
                (.seq
                  (.rg [⟨some 56, none, .mv (.t 8)⟩,
                    ⟨some 57, none, .mv (.t 56)⟩,
                    ⟨some 58, some (57, true), .fld 0 (.t 7)⟩,
                    ⟨some 59, some (57, true), .load none (.t 58)⟩,
                    ⟨some 60, some (57, true), .fld 0 (.t 3)⟩,
                    ⟨some 61, some (57, true), .load none (.t 60)⟩,
                    ⟨some 62, some (57, true), .call n_laws_lwSame S_laws_lwSame [(.t 59, [some 4]), (.t 61, [some 4])]⟩,
                    ⟨some 63, none, .pick (.t 57) (.t 62) (.k (.bool false))⟩,
                    ⟨some 64, none, .mv (.t 63)⟩,
                    ⟨some 65, some (64, true), .load (some 2) (.t 7)⟩,
                    ⟨some 66, some (64, true), .call n_impl_CertFinal S_impl_CertFinal [(.t 65, [some 4, some 1])]⟩,
                    ⟨some 67, some (64, true), .load (some 2) (.t 3)⟩,
                    ⟨some 68, some (64, true), .call n_impl_CertFinal S_impl_CertFinal [(.t 67, [some 4, some 1])]⟩,
                    ⟨some 69, some (64, true), .call n_laws_lwSame S_laws_lwSame [(.t 66, [some 4]), (.t 68, [some 4])]⟩,
                    ⟨some 70, none, .pick (.t 64) (.t 69) (.k (.bool false))⟩,
                    ⟨some 2, none, .mv (.t 70)⟩])
                  .ret)))))))) }
theorem is_laws_FnCertAgain : IsF Try.prog n_laws_FnCertAgain c_laws_FnCertAgain := ⟨Try.f13, _, Try.func13, rfl, by decide, rfl, by kernel_rfl, by kernel_rfl⟩
end Av
end Go.Proofs.Ytmboljfckljjhaa
