/- The functions' code in the small language, and that it is theirs. -/
import Derived.Test.YtmboljfckljjhaaCV
import Derived.Test.YtmboljfckljjhaaD1
import Derived.Test.YtmboljfckljjhaaProg
import Derived.KernelRfl
set_option linter.unusedVariables false
namespace Go.Proofs.Ytmboljfckljjhaa
namespace Av
noncomputable def c_slices_Clip_VoteS_o : FC := { n := 9, res := [⟨none, 2, [some 2]⟩], body :=
  (.seq
    (.rg [⟨some 2, none, .mv (.k (.slice none 0 0))⟩])
    (.seq
      (.rg [⟨some 3, none, .mv (.t 0)⟩,
        ⟨some 4, none, .mv (.t 0)⟩,
        ⟨some 5, none, .len (.t 4)⟩,
        ⟨some 6, none, .mv (.t 0)⟩,
        ⟨some 7, none, .len (.t 6)⟩,
        ⟨some 8, none, .clip 2 (.t 3) (.t 5) (.t 7)⟩,
        ⟨some 2, none, .mv (.t 8)⟩])
      .ret)) }
theorem is_slices_Clip_VoteS_o : IsF Try.prog n_slices_Clip_VoteS_o c_slices_Clip_VoteS_o := ⟨Try.f125, _, Try.func125, rfl, by decide, rfl, by kernel_rfl, by kernel_rfl⟩
noncomputable def c_impl_CertVotes_o : FC := { n := 39, res := [⟨none, 2, [some 2]⟩], body :=
  (.seq
    (.rg [⟨some 1, none, .box (.t 0)⟩,
      ⟨some 2, none, .mv (.k (.slice none 0 0))⟩])
    (.seq
      (.seq
        (.rg [⟨some 8, none, .load (some 2) (.t 1)⟩,
          ⟨some 9, none, .call n_impl_CertOk S_impl_CertOk [(.t 8, [some 4, some 1])]⟩,
          ⟨some 10, none, .un .not (.t 9)⟩])
        (.cond (.t 10)
          (.seq
            (.rg [⟨some 2, none, .mv (.k (.slice none 0 0))⟩])
            .ret)
          .skip))
      (.seq
        (.rg [⟨some 11, none, .bsl 56 2 []⟩,
          ⟨some 3, none, .mv (.t 11)⟩])
        (.seq
          (.seq
            (.rg [⟨some 12, none, .fld 1 (.t 1)⟩,
              ⟨some 13, none, .load none (.t 12)⟩,
              ⟨some 14, none, .len (.t 13)⟩,
              ⟨some 15, none, .mv (.k (.int .i64 0))⟩])
            (.block 0
              (.loop
                (.seq
                  (.rg [⟨some 16, none, .bin 0 .lss (.t 15) (.t 14)⟩])
                  (.seq
                    (.cond (.t 16)
                      .skip
                      (.exit 0))
                    (.seq
                      (.block 1
                        (.seq
                          (.rg [⟨some 17, none, .mv (.t 15)⟩,
                            ⟨some 18, none, .idx 1 (.t 13) (.t 15)⟩,
                            ⟨some 19, none, .load none (.t 18)⟩,
                            ⟨some 4, none, .mv (.t 17)⟩,
                            ⟨some 5, none, .mv (.t 19)⟩])
                          (.seq
                            (.rg [⟨some 20, none, .mv (.t 5)⟩,
                              ⟨some 21, none, .len (.t 20)⟩,
                              ⟨some 22, none, .mv (.k (.int .i64 0))⟩])
                            (.block 2
                              (.loop
                                (.seq
                                  (.rg [⟨some 23, none, .bin 0 .lss (.t 22) (.t 21)⟩])
                                  (.seq
                                    (.cond (.t 23)
                                      .skip
                                      (.exit 2))
                                    (.seq
                                      (.block 3
                                        (.seq
                                          (.rg [⟨some 24, none, .idx 1 (.t 20) (.t 22)⟩,
                                            ⟨some 25, none, .load none (.t 24)⟩,
                                            ⟨some 7, none, .mv (.t 25)⟩])
                                          (.rg [⟨some 26, none, .mv (.t 3)⟩,
                                            ⟨some 27, none, .mv (.t 7)⟩,
                                            ⟨some 28, none, .load (some 2) (.t 1)⟩,
                                            ⟨some 29, none, .mv (.t 4)⟩,
                                            ⟨some 30, none, .call n_impl_Cert_prefix S_impl_Cert_prefix [(.t 28, [some 4, some 1]), (.t 29, [])]⟩,
                                            ⟨some 31, none, .callo n_impl_copied SO_impl_copied [(.t 30, [some 4])]⟩,
                                            ⟨some 32, none, .build [.int .i64 0, .slice none 0 0] [(0, 1, .t 27), (1, 1, .t 31)]⟩,
                                            ⟨some 33, none, .bsl 56 2 [.t 32]⟩,
                                            ⟨some 34, none, .app 56 2 32 [.int .i64 0, .slice none 0 0] (.t 26) (.t 33)⟩,
                                            ⟨some 3, none, .mv (.t 34)⟩])))
                                      (.rg [⟨some 35, none, .bin 0 .add (.t 22) (.k (.int .i64 1))⟩,
                                        ⟨some 22, none, .mv (.t 35)⟩])))))))))
                      (.rg [⟨some 36, none, .bin 0 .add (.t 15) (.k (.int .i64 1))⟩,
                        ⟨some 15, none, .mv (.t 36)⟩])))))))
          (.seq
            (.rg [⟨some 37, none, .mv (.t 3)⟩,
              ⟨some 38, none, .callm n_slices_Clip_VoteS_o S_slices_Clip_VoteS_o [(.t 37, [some 2])]⟩,
              ⟨some 2, none, .mv (.t 38)⟩])
            .ret))))) }
theorem is_impl_CertVotes_o : IsF Try.prog n_impl_CertVotes_o c_impl_CertVotes_o := ⟨Try.f59, _, Try.func59, rfl, by decide, rfl, by kernel_rfl, by kernel_rfl⟩
noncomputable def c_laws_heldVoteS : FC := { n := 31, res := [⟨none, 4, []⟩], body :=
  (.seq
    (.rg [⟨some 4, none, .mv (.k (.int .i64 0))⟩])
    (.seq
      (.seq
        (.rg [⟨some 5, none, .mv (.k (.int .i64 0))⟩])
        (.block 0
          (.loop
            (.seq
              (.seq
                (.rg [⟨some 6, none, .mv (.t 5)⟩,
                  ⟨some 7, none, .mv (.t 0)⟩,
                  ⟨some 8, none, .len (.t 7)⟩,
                  ⟨some 9, none, .bin 0 .lss (.t 6) (.t 8)⟩])
                (.cond (.t 9)
                  .skip
                  (.exit 0)))
              (.seq
                (.block 1
                  (.seq
                    (.seq
                      (.rg [⟨some 12, none, .mv (.t 0)⟩,
                        ⟨some 13, none, .mv (.t 5)⟩,
                        ⟨some 14, none, .idx 2 (.t 12) (.t 13)⟩,
                        ⟨some 15, none, .fld 0 (.t 14)⟩,
                        ⟨some 16, none, .load none (.t 15)⟩,
                        ⟨some 17, none, .mv (.t 1)⟩,
                        ⟨some 18, none, .bin 0 .neq (.t 16) (.t 17)⟩])
                      (.cond (.t 18)
                        (.seq
                          (.rg [⟨some 4, none, .mv (.k (.int .i64 (-1)))⟩])
                          .ret)
                        .skip))
                    (.seq
                      (.rg [⟨some 19, none, .mv (.t 1)⟩,
                        ⟨some 20, none, .bin 0 .add (.t 19) (.k (.int .i64 1))⟩,
                        ⟨some 1, none, .mv (.t 20)⟩])
                      (.seq
                        (.rg [⟨some 21, none, .mv (.t 0)⟩,
                          ⟨some 22, none, .mv (.t 5)⟩,
                          ⟨some 23, none, .idx 2 (.t 21) (.t 22)⟩,
                          ⟨some 24, none, .fld 1 (.t 23)⟩,
                          ⟨some 25, none, .load none (.t 24)⟩,
                          ⟨some 26, none, .mv (.t 1)⟩,
                          ⟨some 27, none, .call n_laws_heldItemS S_laws_heldItemS [(.t 25, [some 4]), (.t 26, [])]⟩,
                          ⟨some 1, none, .mv (.t 27)⟩])
                        (.seq
                          (.rg [⟨some 28, none, .mv (.t 1)⟩,
                            ⟨some 29, none, .bin 0 .lss (.t 28) (.k (.int .i64 0))⟩])
                          (.cond (.t 29)
                            (.seq
                              (.rg [⟨some 4, none, .mv (.k (.int .i64 (-1)))⟩])
                              .ret)
                            .skip))))))
                (.rg [⟨some 10, none, .mv (.t 5)⟩,
                  ⟨some 11, none, .bin 0 .add (.t 10) (.k (.int .i64 1))⟩,
                  ⟨some 5, none, .mv (.t 11)⟩]))))))
      (.seq
        (.rg [⟨some 30, none, .mv (.t 1)⟩,
          ⟨some 4, none, .mv (.t 30)⟩])
        .ret))) }
theorem is_laws_heldVoteS : IsF Try.prog n_laws_heldVoteS c_laws_heldVoteS := ⟨Try.f52, _, Try.func52, rfl, by decide, rfl, by kernel_rfl, by kernel_rfl⟩
noncomputable def c_laws_FnExactCertVotes : FC := { n := 69, res := [⟨none, 2, []⟩], body :=
  (.seq
    (.rg [⟨some 1, none, .box (.t 0)⟩,
      ⟨some 2, none, .mv (.k (.bool false))⟩])
    (.seq
      (.rg [⟨some 3, none, .mv (.k (.int .i64 1048576))⟩])
      (.seq
        (.rg [⟨some 11, none, .load (some 2) (.t 1)⟩,
          ⟨some 12, none, .mv (.t 3)⟩,
          ⟨some 13, none, .call n_laws_szCert S_laws_szCert [(.t 11, [some 4, some 1]), (.t 12, [])]⟩,
          ⟨some 3, none, .mv (.t 13)⟩])
        (.seq
          (.seq
            (.rg [⟨some 14, none, .mv (.t 3)⟩,
              ⟨some 15, none, .bin 0 .lss (.t 14) (.k (.int .i64 0))⟩])
            (.cond (.t 15)
              (.seq
                (.rg [⟨some 2, none, .mv (.k (.bool true))⟩])
                .ret)
              .skip))
          (.seq
            (.rg [⟨some 16, none, .load (some 2) (.t 1)⟩,
              ⟨some 17, none, .call n_laws_toCert S_laws_toCert [(.t 16, [some 4, some 1])]⟩,
              ⟨some 18, none, .call n_spec_CertVotes S_spec_CertVotes [(.t 17, [some 4, some 1])]⟩,
              ⟨some 4, none, .mv (.t 18)⟩])
            (.seq
              (.rg [⟨some 19, none, .load (some 2) (.t 1)⟩,
                ⟨some 20, none, .callm n_laws_toCert_o S_laws_toCert_o [(.t 19, [some 4, some 1])]⟩,
                ⟨some 5, none, .alloc [.slice none 0 0, .slice none 0 0]⟩,
                ⟨none, none, .store 2 (.t 5) (.t 20)⟩])
              (.seq
                (.rg [⟨some 21, none, .load (some 2) (.t 5)⟩,
                  ⟨some 22, none, .callb n_impl_CertVotes_o S_impl_CertVotes_o [(.t 21, [some 4, some 1])]⟩,
                  ⟨some 6, none, .mv (.t 22)⟩])
                (.seq
                  (.seq
                    (.rg [⟨some 23, none, .mv (.t 6)⟩,
                      ⟨some 24, none, .mv (.t 4)⟩,
                      ⟨some 25, none, .call n_laws_eqVoteS S_laws_eqVoteS [(.t 23, [some 2]), (.t 24, [some 2])]⟩,
                      ⟨some 26, none, .un .not (.t 25)⟩])
                    (.cond (.t 26)
                      (.seq
                        (.rg [⟨some 2, none, .mv (.k (.bool false))⟩])
                        .ret)
                      .skip))
                  (.seq
                    (.seq
                      (.rg [⟨some 27, none, .load (some 2) (.t 5)⟩,
                        ⟨some 28, none, .load (some 2) (.t 1)⟩,
                        ⟨some 29, none, .call n_laws_toCert S_laws_toCert [(.t 28, [some 4, some 1])]⟩,
                        ⟨some 30, none, .call n_laws_eqCert S_laws_eqCert [(.t 27, [some 4, some 1]), (.t 29, [some 4, some 1])]⟩,
                        ⟨some 31, none, .un .not (.t 30)⟩])
                      (.cond (.t 31)
                        (.seq
                          (.rg [⟨some 2, none, .mv (.k (.bool false))⟩])
                          .ret)
                        .skip))
                    (.seq
                      (.rg [⟨some 7, none, .mv (.k (.int .i64 1))⟩])
                      (.seq
                        (.rg [⟨some 32, none, .load (some 2) (.t 5)⟩,
                          ⟨some 33, none, .mv (.t 7)⟩,
                          ⟨some 34, none, .callm n_laws_markCert_o S_laws_markCert_o [(.t 32, [some 4, some 1]), (.t 33, [])]⟩,
                          ⟨some 7, none, .mv (.t 34)⟩])
                        (.seq
                          (.seq
                            (.rg [⟨some 35, none, .mv (.t 7)⟩,
                              ⟨some 36, none, .bin 0 .lss (.t 35) (.k (.int .i64 0))⟩,
                              ⟨some 37, none, .mv (.t 36)⟩,
                              ⟨some 38, some (37, false), .mv (.t 6)⟩,
                              ⟨some 39, some (37, false), .mv (.t 4)⟩,
                              ⟨some 40, some (37, false), .call n_laws_eqVoteS S_laws_eqVoteS [(.t 38, [some 2]), (.t 39, [some 2])]⟩,
                              ⟨some 41, some (37, false), .un .not (.t 40)⟩,
                              ⟨some 42, none, .pick (.t 37) (.k (.bool true)) (.t 41)⟩])
                            (.cond (.t 42)
                              (.seq
                                (.rg [⟨some 2, none, .mv (.k (.bool false))⟩])
                                .ret)
                              .skip))
                          (.seq
                            (.rg [⟨some 8, none, .mv (.k (.int .i64 1))⟩])
                            (.seq
                              (.rg [⟨some 43, none, .mv (.t 6)⟩,
                                ⟨some 44, none, .mv (.t 8)⟩,
                                ⟨some 45, none, .callm n_laws_markVoteS_o S_laws_markVoteS_o [(.t 43, [some 2]), (.t 44, [])]⟩,
                                ⟨some 8, none, .mv (.t 45)⟩])
                              (.seq
                                (.rg [⟨some 9, none, .mv (.k (.int .i64 1))⟩])
                                (.seq
                                  (.rg [⟨some 46, none, .mv (.t 6)⟩,
                                    ⟨some 47, none, .mv (.t 9)⟩,
                                    ⟨some 48, none, .call n_laws_heldVoteS S_laws_heldVoteS [(.t 46, [some 2]), (.t 47, [])]⟩,
                                    ⟨some 9, none, .mv (.t 48)⟩])
                                  (.seq
                                    (.seq
                                      (.rg [⟨some 49, none, .mv (.t 9)⟩,
                                        ⟨some 50, none, .bin 0 .lss (.t 49) (.k (.int .i64 0))⟩])
                                      (.cond (.t 50)
                                        (.seq
                                          (.rg [⟨some 2, none, .mv (.k (.bool false))⟩])
                                          .ret)
                                        .skip))
                                    (.seq
                                      (.seq
                                        (.rg [⟨some 51, none, .mv (.t 9)⟩,
                                          ⟨some 52, none, .mv (.t 8)⟩,
                                          ⟨some 53, none, .bin 0 .neq (.t 51) (.t 52)⟩])
                                        (.cond (.t 53)
                                          (.seq
                                            (.rg [⟨some 2, none, .mv (.k (.bool false))⟩])
                                            .ret)
                                          .skip))
                                      (.seq
                                        (.rg [⟨some 54, none, .load (some 2) (.t 1)⟩,
                                          ⟨some 55, none, .callm n_laws_toCert_o S_laws_toCert_o [(.t 54, [some 4, some 1])]⟩,
                                          ⟨some 56, none, .callb n_impl_CertVotes_o S_impl_CertVotes_o [(.t 55, [some 4, some 1])]⟩,
                                          ⟨some 10, none, .mv (.t 56)⟩])
                                        (.seq
                                          (.seq
                                            (.rg [⟨some 57, none, .mv (.t 10)⟩,
                                              ⟨some 58, none, .mv (.t 4)⟩,
                                              ⟨some 59, none, .call n_laws_eqVoteS S_laws_eqVoteS [(.t 57, [some 2]), (.t 58, [some 2])]⟩,
                                              ⟨some 60, none, .un .not (.t 59)⟩])
                                            (.cond (.t 60)
                                              (.seq
                                                (.rg [⟨some 2, none, .mv (.k (.bool false))⟩])
                                                .ret)
                                              .skip))
                                          (.seq
                                            (.rg [⟨some 9, none, .mv (.k (.int .i64 1))⟩])
                                            (.seq
                                              (.rg [⟨some 61, none, .mv (.t 6)⟩,
                                                ⟨some 62, none, .mv (.t 9)⟩,
                                                ⟨some 63, none, .call n_laws_heldVoteS S_laws_heldVoteS [(.t 61, [some 2]), (.t 62, [])]⟩,
                                                ⟨some 9, none, .mv (.t 63)⟩])
                                              (.seq
                                                (.seq
                                                  (.rg [⟨some 64, none, .mv (.t 9)⟩,
                                                    ⟨some 65, none, .bin 0 .lss (.t 64) (.k (.int .i64 0))⟩])
                                                  (.cond (.t 65)
                                                    (.seq
                                                      (.rg [⟨some 2, none, .mv (.k (.bool false))⟩])
                                                      .ret)
                                                    .skip))
                                                (.seq
                                                  (.seq
                                                    (.rg [⟨some 66, none, .mv (.t 9)⟩,
                                                      ⟨some 67, none, .mv (.t 8)⟩,
                                                      ⟨some 68, none, .bin 0 .neq (.t 66) (.t 67)⟩])
                                                    (.cond (.t 68)
                                                      (.seq
                                                        (.rg [⟨some 2, none, .mv (.k (.bool false))⟩])
                                                        .ret)
                                                      .skip))
                                                  (.seq
                                                    (.rg [⟨some 2, none, .mv (.k (.bool true))⟩])
                                                    .ret))))))))))))))))))))))))) }
theorem is_laws_FnExactCertVotes : IsF Try.prog n_laws_FnExactCertVotes c_laws_FnExactCertVotes := ⟨Try.f10, _, Try.func10, rfl, by decide, rfl, by kernel_rfl, by kernel_rfl⟩
end Av
end Go.Proofs.Ytmboljfckljjhaa
