/- The functions' code in the small language, and that it is theirs. -/
import Derived.Test.YtmboljfckljjhaaCD
import Derived.Test.YtmboljfckljjhaaD1
import Derived.Test.YtmboljfckljjhaaProg
import Derived.KernelRfl
set_option linter.unusedVariables false
namespace Go.Proofs.Ytmboljfckljjhaa
namespace Av
noncomputable def c_laws_FnExactCertFinal : FC := { n := 69, res := [⟨none, 2, []⟩], body :=
  (.seq
    (.rg [⟨some 1, none, .box (.t 0)⟩,
      ⟨some 2, none, .mv (.k (.bool false))⟩])
    (.seq
      (.rg [⟨some 3, none, .mv (.k (.int .i64 1048576))⟩])
      (.seq
        (.rg [⟨some 11, none, .load (some 2) (.t 1)⟩,
          ⟨some 12, none, .mv (.t 3)⟩,
          ⟨some 13, none, .call n_laws_szCert S_laws_szCert [(.t 11, [some 4, some 1]), (.t 12, [])]⟩,
          ⟨some 3, none, .mv (.t 13)⟩])
        (.seq
          (.seq
            (.rg [⟨some 14, none, .mv (.t 3)⟩,
              ⟨some 15, none, .bin 0 .lss (.t 14) (.k (.int .i64 0))⟩])
            (.cond (.t 15)
              (.seq
                (.rg [⟨some 2, none, .mv (.k (.bool true))⟩])
                .ret)
              .skip))
          (.seq
            (.rg [⟨some 16, none, .load (some 2) (.t 1)⟩,
              ⟨some 17, none, .call n_laws_toCert S_laws_toCert [(.t 16, [some 4, some 1])]⟩,
              ⟨some 18, none, .call n_spec_CertFinal S_spec_CertFinal [(.t 17, [some 4, some 1])]⟩,
              ⟨some 4, none, .mv (.t 18)⟩])
            (.seq
              (.rg [⟨some 19, none, .load (some 2) (.t 1)⟩,
                ⟨some 20, none, .callm n_laws_toCert_o S_laws_toCert_o [(.t 19, [some 4, some 1])]⟩,
                ⟨some 5, none, .alloc [.slice none 0 0, .slice none 0 0]⟩,
                ⟨none, none, .store 2 (.t 5) (.t 20)⟩])
              (.seq
                (.rg [⟨some 21, none, .load (some 2) (.t 5)⟩,
                  ⟨some 22, none, .callo n_impl_CertFinal SO_impl_CertFinal [(.t 21, [some 4, some 1])]⟩,
                  ⟨some 6, none, .mv (.t 22)⟩])
                (.seq
                  (.seq
                    (.rg [⟨some 23, none, .mv (.t 6)⟩,
                      ⟨some 24, none, .mv (.t 4)⟩,
                      ⟨some 25, none, .call n_laws_eqItemS S_laws_eqItemS [(.t 23, [some 4]), (.t 24, [some 4])]⟩,
                      ⟨some 26, none, .un .not (.t 25)⟩])
                    (.cond (.t 26)
                      (.seq
                        (.rg [⟨some 2, none, .mv (.k (.bool false))⟩])
                        .ret)
                      .skip))
                  (.seq
                    (.seq
                      (.rg [⟨some 27, none, .load (some 2) (.t 5)⟩,
                        ⟨some 28, none, .load (some 2) (.t 1)⟩,
                        ⟨some 29, none, .call n_laws_toCert S_laws_toCert [(.t 28, [some 4, some 1])]⟩,
                        ⟨some 30, none, .call n_laws_eqCert S_laws_eqCert [(.t 27, [some 4, some 1]), (.t 29, [some 4, some 1])]⟩,
                        ⟨some 31, none, .un .not (.t 30)⟩])
                      (.cond (.t 31)
                        (.seq
                          (.rg [⟨some 2, none, .mv (.k (.bool false))⟩])
                          .ret)
                        .skip))
                    (.seq
                      (.rg [⟨some 7, none, .mv (.k (.int .i64 1))⟩])
                      (.seq
                        (.rg [⟨some 32, none, .load (some 2) (.t 5)⟩,
                          ⟨some 33, none, .mv (.t 7)⟩,
                          ⟨some 34, none, .callm n_laws_markCert_o S_laws_markCert_o [(.t 32, [some 4, some 1]), (.t 33, [])]⟩,
                          ⟨some 7, none, .mv (.t 34)⟩])
                        (.seq
                          (.seq
                            (.rg [⟨some 35, none, .mv (.t 7)⟩,
                              ⟨some 36, none, .bin 0 .lss (.t 35) (.k (.int .i64 0))⟩,
                              ⟨some 37, none, .mv (.t 36)⟩,
                              ⟨some 38, some (37, false), .mv (.t 6)⟩,
                              ⟨some 39, some (37, false), .mv (.t 4)⟩,
                              ⟨some 40, some (37, false), .call n_laws_eqItemS S_laws_eqItemS [(.t 38, [some 4]), (.t 39, [some 4])]⟩,
                              ⟨some 41, some (37, false), .un .not (.t 40)⟩,
                              ⟨some 42, none, .pick (.t 37) (.k (.bool true)) (.t 41)⟩])
                            (.cond (.t 42)
                              (.seq
                                (.rg [⟨some 2, none, .mv (.k (.bool false))⟩])
                                .ret)
                              .skip))
                          (.seq
                            (.rg [⟨some 8, none, .mv (.k (.int .i64 1))⟩])
                            (.seq
                              (.rg [⟨some 43, none, .mv (.t 6)⟩,
                                ⟨some 44, none, .mv (.t 8)⟩,
                                ⟨some 45, none, .callm n_laws_markItemS_o S_laws_markItemS_o [(.t 43, [some 4]), (.t 44, [])]⟩,
                                ⟨some 8, none, .mv (.t 45)⟩])
                              (.seq
                                (.rg [⟨some 9, none, .mv (.k (.int .i64 1))⟩])
                                (.seq
                                  (.rg [⟨some 46, none, .mv (.t 6)⟩,
                                    ⟨some 47, none, .mv (.t 9)⟩,
                                    ⟨some 48, none, .call n_laws_heldItemS S_laws_heldItemS [(.t 46, [some 4]), (.t 47, [])]⟩,
                                    ⟨some 9, none, .mv (.t 48)⟩])
                                  (.seq
                                    (.seq
                                      (.rg [⟨some 49, none, .mv (.t 9)⟩,
                                        ⟨some 50, none, .bin 0 .lss (.t 49) (.k (.int .i64 0))⟩])
                                      (.cond (.t 50)
                                        (.seq
                                          (.rg [⟨some 2, none, .mv (.k (.bool false))⟩])
                                          .ret)
                                        .skip))
                                    (.seq
                                      (.seq
                                        (.rg [⟨some 51, none, .mv (.t 9)⟩,
                                          ⟨some 52, none, .mv (.t 8)⟩,
                                          ⟨some 53, none, .bin 0 .neq (.t 51) (.t 52)⟩])
                                        (.cond (.t 53)
                                          (.seq
                                            (.rg [⟨some 2, none, .mv (.k (.bool false))⟩])
                                            .ret)
                                          .skip))
                                      (.seq
                                        (.rg [⟨some 54, none, .load (some 2) (.t 1)⟩,
                                          ⟨some 55, none, .callm n_laws_toCert_o S_laws_toCert_o [(.t 54, [some 4, some 1])]⟩,
                                          ⟨some 56, none, .callo n_impl_CertFinal SO_impl_CertFinal [(.t 55, [some 4, some 1])]⟩,
                                          ⟨some 10, none, .mv (.t 56)⟩])
                                        (.seq
                                          (.seq
                                            (.rg [⟨some 57, none, .mv (.t 10)⟩,
                                              ⟨some 58, none, .mv (.t 4)⟩,
                                              ⟨some 59, none, .call n_laws_eqItemS S_laws_eqItemS [(.t 57, [some 4]), (.t 58, [some 4])]⟩,
                                              ⟨some 60, none, .un .not (.t 59)⟩])
                                            (.cond (.t 60)
                                              (.seq
                                                (.rg [⟨some 2, none, .mv (.k (.bool false))⟩])
                                                .ret)
                                              .skip))
                                          (.seq
                                            (.rg [⟨some 9, none, .mv (.k (.int .i64 1))⟩])
                                            (.seq
                                              (.rg [⟨some 61, none, .mv (.t 6)⟩,
                                                ⟨some 62, none, .mv (.t 9)⟩,
                                                ⟨some 63, none, .call n_laws_heldItemS S_laws_heldItemS [(.t 61, [some 4]), (.t 62, [])]⟩,
                                                ⟨some 9, none, .mv (.t 63)⟩])
                                              (.seq
                                                (.seq
                                                  (.rg [⟨some 64, none, .mv (.t 9)⟩,
                                                    ⟨some 65, none, .bin 0 .lss (.t 64) (.k (.int .i64 0))⟩])
                                                  (.cond (.t 65)
                                                    (.seq
                                                      (.rg [⟨some 2, none, .mv (.k (.bool false))⟩])
                                                      .ret)
                                                    .skip))
                                                (.seq
                                                  (.seq
                                                    (.rg [⟨some 66, none, .mv (.t 9)⟩,
                                                      ⟨some 67, none, .mv (.t 8)⟩,
                                                      ⟨some 68, none, .bin 0 .neq (.t 66) (.t 67)⟩])
                                                    (.cond (.t 68)
                                                      (.seq
                                                        (.rg [⟨some 2, none, .mv (.k (.bool false))⟩])
                                                        .ret)
                                                      .skip))
                                                  (.seq
                                                    (.rg [⟨some 2, none, .mv (.k (.bool true))⟩])
                                                    .ret))))))))))))))))))))))))) }
theorem is_laws_FnExactCertFinal : IsF Try.prog n_laws_FnExactCertFinal c_laws_FnExactCertFinal := ⟨Try.f5, _, Try.func5, rfl, by decide, rfl, by kernel_rfl, by kernel_rfl⟩
end Av
end Go.Proofs.Ytmboljfckljjhaa
