/- The functions' code in the small language, and that it is theirs. -/
import Derived.Test.YtmboljfckljjhaaVE
import Derived.Test.YtmboljfckljjhaaD1
import Derived.Test.YtmboljfckljjhaaProg
import Derived.KernelRfl
set_option linter.unusedVariables false
namespace Go.Proofs.Ytmboljfckljjhaa
namespace Av
noncomputable def c_laws_FnExactVotesAdd : FC := { n := 119, res := [⟨none, 4, []⟩], body :=
  (.seq
    (.rg [⟨some 3, none, .box (.t 1)⟩,
      ⟨some 4, none, .mv (.k (.bool false))⟩])
    (.seq
      (.rg [⟨some 5, none, .mv (.k (.int .i64 1048576))⟩])
      (.seq
        (.rg [⟨some 17, none, .mv (.t 0)⟩,
          ⟨some 18, none, .mv (.t 5)⟩,
          ⟨some 19, none, .call n_laws_szVoteS S_laws_szVoteS [(.t 17, [some 2]), (.t 18, [])]⟩,
          ⟨some 5, none, .mv (.t 19)⟩])
        (.seq
          (.seq
            (.rg [⟨some 20, none, .mv (.t 5)⟩,
              ⟨some 21, none, .bin 0 .lss (.t 20) (.k (.int .i64 0))⟩])
            (.cond (.t 21)
              (.seq
                (.rg [⟨some 4, none, .mv (.k (.bool true))⟩])
                .ret)
              .skip))
          (.seq
            (.rg [⟨some 22, none, .load (some 2) (.t 3)⟩,
              ⟨some 23, none, .mv (.t 5)⟩,
              ⟨some 24, none, .call n_laws_szVote S_laws_szVote [(.t 22, [none, some 4]), (.t 23, [])]⟩,
              ⟨some 5, none, .mv (.t 24)⟩])
            (.seq
              (.seq
                (.rg [⟨some 25, none, .mv (.t 5)⟩,
                  ⟨some 26, none, .bin 0 .lss (.t 25) (.k (.int .i64 0))⟩])
                (.cond (.t 26)
                  (.seq
                    (.rg [⟨some 4, none, .mv (.k (.bool true))⟩])
                    .ret)
                  .skip))
              (.seq
                (.rg [⟨some 28, none, .mv (.t 0)⟩,
                  ⟨some 29, none, .call n_laws_toVoteS S_laws_toVoteS [(.t 28, [some 2])]⟩,
                  ⟨some 30, none, .load (some 2) (.t 3)⟩,
                  ⟨some 31, none, .call n_laws_toVote S_laws_toVote [(.t 30, [none, some 4])]⟩,
                  ⟨some 32, none, .call n_spec_VotesAdd S_spec_VotesAdd [(.t 29, [some 2]), (.t 31, [none, some 4])]⟩,
                  ⟨some 27, none, .mv (.t 32)⟩,
                  ⟨some 33, none, .ext (.t 27) 0⟩,
                  ⟨some 34, none, .ext (.t 27) 1⟩,
                  ⟨some 6, none, .mv (.t 33)⟩,
                  ⟨some 7, none, .mv (.t 34)⟩])
                (.seq
                  (.rg [⟨some 35, none, .mv (.t 0)⟩,
                    ⟨some 36, none, .callm n_laws_toVoteS_o S_laws_toVoteS_o [(.t 35, [some 2])]⟩,
                    ⟨some 8, none, .mv (.t 36)⟩])
                  (.seq
                    (.rg [⟨some 37, none, .load (some 2) (.t 3)⟩,
                      ⟨some 38, none, .callm n_laws_toVote_o S_laws_toVote_o [(.t 37, [none, some 4])]⟩,
                      ⟨some 9, none, .alloc [.int .i64 0, .slice none 0 0]⟩,
                      ⟨none, none, .store 2 (.t 9) (.t 38)⟩])
                    (.seq
                      (.rg [⟨some 40, none, .mv (.t 8)⟩,
                        ⟨some 41, none, .load (some 2) (.t 9)⟩,
                        ⟨some 42, none, .callb n_impl_VotesAdd_o S_impl_VotesAdd_o [(.t 40, [some 2]), (.t 41, [none, some 4])]⟩,
                        ⟨some 39, none, .mv (.t 42)⟩,
                        ⟨some 43, none, .ext (.t 39) 0⟩,
                        ⟨some 44, none, .ext (.t 39) 1⟩,
                        ⟨some 10, none, .mv (.t 43)⟩,
                        ⟨some 11, none, .mv (.t 44)⟩])
                      (.seq
                        (.seq
                          (.rg [⟨some 45, none, .mv (.t 10)⟩,
                            ⟨some 46, none, .mv (.t 6)⟩,
                            ⟨some 47, none, .call n_laws_eqVoteS S_laws_eqVoteS [(.t 45, [some 2]), (.t 46, [some 2])]⟩,
                            ⟨some 48, none, .un .not (.t 47)⟩,
                            ⟨some 49, none, .mv (.t 48)⟩,
                            ⟨some 50, some (49, false), .mv (.t 11)⟩,
                            ⟨some 51, some (49, false), .mv (.t 7)⟩,
                            ⟨some 52, some (49, false), .bin 1 .neq (.t 50) (.t 51)⟩,
                            ⟨some 53, none, .pick (.t 49) (.k (.bool true)) (.t 52)⟩])
                          (.cond (.t 53)
                            (.seq
                              (.rg [⟨some 4, none, .mv (.k (.bool false))⟩])
                              .ret)
                            .skip))
                        (.seq
                          (.seq
                            (.rg [⟨some 54, none, .mv (.t 8)⟩,
                              ⟨some 55, none, .mv (.t 0)⟩,
                              ⟨some 56, none, .call n_laws_toVoteS S_laws_toVoteS [(.t 55, [some 2])]⟩,
                              ⟨some 57, none, .call n_laws_eqVoteS S_laws_eqVoteS [(.t 54, [some 2]), (.t 56, [some 2])]⟩,
                              ⟨some 58, none, .un .not (.t 57)⟩])
                            (.cond (.t 58)
                              (.seq
                                (.rg [⟨some 4, none, .mv (.k (.bool false))⟩])
                                .ret)
                              .skip))
                          (.seq
                            (.seq
                              (.rg [⟨some 59, none, .load (some 2) (.t 9)⟩,
                                ⟨some 60, none, .load (some 2) (.t 3)⟩,
                                ⟨some 61, none, .call n_laws_toVote S_laws_toVote [(.t 60, [none, some 4])]⟩,
                                ⟨some 62, none, .call n_laws_eqVote S_laws_eqVote [(.t 59, [none, some 4]), (.t 61, [none, some 4])]⟩,
                                ⟨some 63, none, .un .not (.t 62)⟩])
                              (.cond (.t 63)
                                (.seq
                                  (.rg [⟨some 4, none, .mv (.k (.bool false))⟩])
                                  .ret)
                                .skip))
                            (.seq
                              (.rg [⟨some 12, none, .mv (.k (.int .i64 1))⟩])
                              (.seq
                                (.rg [⟨some 64, none, .mv (.t 8)⟩,
                                  ⟨some 65, none, .mv (.t 12)⟩,
                                  ⟨some 66, none, .callm n_laws_markVoteS_o S_laws_markVoteS_o [(.t 64, [some 2]), (.t 65, [])]⟩,
                                  ⟨some 12, none, .mv (.t 66)⟩])
                                (.seq
                                  (.rg [⟨some 67, none, .load (some 2) (.t 9)⟩,
                                    ⟨some 68, none, .mv (.t 12)⟩,
                                    ⟨some 69, none, .callm n_laws_markVote_o S_laws_markVote_o [(.t 67, [none, some 4]), (.t 68, [])]⟩,
                                    ⟨some 12, none, .mv (.t 69)⟩])
                                  (.seq
                                    (.seq
                                      (.rg [⟨some 70, none, .mv (.t 12)⟩,
                                        ⟨some 71, none, .bin 0 .lss (.t 70) (.k (.int .i64 0))⟩,
                                        ⟨some 72, none, .mv (.t 71)⟩,
                                        ⟨some 73, some (72, false), .mv (.t 10)⟩,
                                        ⟨some 74, some (72, false), .mv (.t 6)⟩,
                                        ⟨some 75, some (72, false), .call n_laws_eqVoteS S_laws_eqVoteS [(.t 73, [some 2]), (.t 74, [some 2])]⟩,
                                        ⟨some 76, some (72, false), .un .not (.t 75)⟩,
                                        ⟨some 77, none, .pick (.t 72) (.k (.bool true)) (.t 76)⟩,
                                        ⟨some 78, none, .mv (.t 77)⟩,
                                        ⟨some 79, some (78, false), .mv (.t 11)⟩,
                                        ⟨some 80, some (78, false), .mv (.t 7)⟩,
                                        ⟨some 81, some (78, false), .bin 1 .neq (.t 79) (.t 80)⟩,
                                        ⟨some 82, none, .pick (.t 78) (.k (.bool true)) (.t 81)⟩])
                                      (.cond (.t 82)
                                        (.seq
                                          (.rg [⟨some 4, none, .mv (.k (.bool false))⟩])
                                          .ret)
                                        .skip))
                                    (.seq
                                      (.rg [⟨some 13, none, .mv (.k (.int .i64 1))⟩])
                                      (.seq
                                        (.rg [⟨some 83, none, .mv (.t 10)⟩,
                                          ⟨some 84, none, .mv (.t 13)⟩,
                                          ⟨some 85, none, .callm n_laws_markVoteS_o S_laws_markVoteS_o [(.t 83, [some 2]), (.t 84, [])]⟩,
                                          ⟨some 13, none, .mv (.t 85)⟩])
                                        (.seq
                                          (.rg [⟨some 14, none, .mv (.k (.int .i64 1))⟩])
                                          (.seq
                                            (.rg [⟨some 86, none, .mv (.t 10)⟩,
                                              ⟨some 87, none, .mv (.t 14)⟩,
                                              ⟨some 88, none, .call n_laws_heldVoteS S_laws_heldVoteS [(.t 86, [some 2]), (.t 87, [])]⟩,
                                              ⟨some 14, none, .mv (.t 88)⟩])
                                            (.seq
                                              (.seq
                                                (.rg [⟨some 89, none, .mv (.t 14)⟩,
                                                  ⟨some 90, none, .bin 0 .lss (.t 89) (.k (.int .i64 0))⟩])
                                                (.cond (.t 90)
                                                  (.seq
                                                    (.rg [⟨some 4, none, .mv (.k (.bool false))⟩])
                                                    .ret)
                                                  .skip))
                                              (.seq
                                                (.seq
                                                  (.rg [⟨some 91, none, .mv (.t 14)⟩,
                                                    ⟨some 92, none, .mv (.t 13)⟩,
                                                    ⟨some 93, none, .bin 0 .neq (.t 91) (.t 92)⟩])
                                                  (.cond (.t 93)
                                                    (.seq
                                                      (.rg [⟨some 4, none, .mv (.k (.bool false))⟩])
                                                      .ret)
                                                    .skip))
                                                (.seq
                                                  (.rg [⟨some 95, none, .mv (.t 0)⟩,
                                                    ⟨some 96, none, .callm n_laws_toVoteS_o S_laws_toVoteS_o [(.t 95, [some 2])]⟩,
                                                    ⟨some 97, none, .load (some 2) (.t 3)⟩,
                                                    ⟨some 98, none, .callm n_laws_toVote_o S_laws_toVote_o [(.t 97, [none, some 4])]⟩,
                                                    ⟨some 99, none, .callb n_impl_VotesAdd_o S_impl_VotesAdd_o [(.t 96, [some 2]), (.t 98, [none, some 4])]⟩,
                                                    ⟨some 94, none, .mv (.t 99)⟩,
                                                    ⟨some 100, none, .ext (.t 94) 0⟩,
                                                    ⟨some 101, none, .ext (.t 94) 1⟩,
                                                    ⟨some 15, none, .mv (.t 100)⟩,
                                                    ⟨some 16, none, .mv (.t 101)⟩])
                                                  (.seq
                                                    (.seq
                                                      (.rg [⟨some 102, none, .mv (.t 15)⟩,
                                                        ⟨some 103, none, .mv (.t 6)⟩,
                                                        ⟨some 104, none, .call n_laws_eqVoteS S_laws_eqVoteS [(.t 102, [some 2]), (.t 103, [some 2])]⟩,
                                                        ⟨some 105, none, .un .not (.t 104)⟩,
                                                        ⟨some 106, none, .mv (.t 105)⟩,
                                                        ⟨some 107, some (106, false), .mv (.t 16)⟩,
                                                        ⟨some 108, some (106, false), .mv (.t 7)⟩,
                                                        ⟨some 109, some (106, false), .bin 1 .neq (.t 107) (.t 108)⟩,
                                                        ⟨some 110, none, .pick (.t 106) (.k (.bool true)) (.t 109)⟩])
                                                      (.cond (.t 110)
                                                        (.seq
                                                          (.rg [⟨some 4, none, .mv (.k (.bool false))⟩])
                                                          .ret)
                                                        .skip))
                                                    (.seq
                                                      (.rg [⟨some 14, none, .mv (.k (.int .i64 1))⟩])
                                                      (.seq
                                                        (.rg [⟨some 111, none, .mv (.t 10)⟩,
                                                          ⟨some 112, none, .mv (.t 14)⟩,
                                                          ⟨some 113, none, .call n_laws_heldVoteS S_laws_heldVoteS [(.t 111, [some 2]), (.t 112, [])]⟩,
                                                          ⟨some 14, none, .mv (.t 113)⟩])
                                                        (.seq
                                                          (.seq
                                                            (.rg [⟨some 114, none, .mv (.t 14)⟩,
                                                              ⟨some 115, none, .bin 0 .lss (.t 114) (.k (.int .i64 0))⟩])
                                                            (.cond (.t 115)
                                                              (.seq
                                                                (.rg [⟨some 4, none, .mv (.k (.bool false))⟩])
                                                                .ret)
                                                              .skip))
                                                          (.seq
                                                            (.seq
                                                              (.rg [⟨some 116, none, .mv (.t 14)⟩,
                                                                ⟨some 117, none, .mv (.t 13)⟩,
                                                                ⟨some 118, none, .bin 0 .neq (.t 116) (.t 117)⟩])
                                                              (.cond (.t 118)
                                                                (.seq
                                                                  (.rg [⟨some 4, none, .mv (.k (.bool false))⟩])
                                                                  .ret)
                                                                .skip))
                                                            (.seq
                                                              (.rg [⟨some 4, none, .mv (.k (.bool true))⟩])
                                                              .ret)))))))))))))))))))))))))))))) }
theorem is_laws_FnExactVotesAdd : IsF Try.prog n_laws_FnExactVotesAdd c_laws_FnExactVotesAdd := ⟨Try.f7, _, Try.func7, rfl, by decide, rfl, by kernel_rfl, by kernel_rfl⟩
end Av
end Go.Proofs.Ytmboljfckljjhaa
