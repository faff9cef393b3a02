/- The functions' code in the small language, and that it is theirs. -/
import Derived.Test.YtfkaomigeaileaaQ0
import Derived.Test.YtfkaomigeaileaaD1
import Derived.Test.YtfkaomigeaileaaProg
import Derived.KernelRfl
set_option linter.unusedVariables false
namespace Go.Proofs.Ytfkaomigeaileaa
namespace Av
noncomputable def c_laws_FnSureMore : FC := { n := 95, res := [⟨none, 4, []⟩], body :=
  (.seq
    (.rg [⟨some 4, none, .mv (.k (.bool false))⟩])
    (.seq
      (.seq
        (.rg [⟨some 13, none, .mv (.t 0)⟩,
          ⟨some 14, none, .len (.t 13)⟩,
          ⟨some 15, none, .bin 0 .gtr (.t 14) (.k (.int .i64 1048576))⟩,
          ⟨some 16, none, .mv (.t 15)⟩,
          ⟨some 17, some (16, false), .mv (.t 1)⟩,
          ⟨some 18, some (16, false), .len (.t 17)⟩,
          ⟨some 19, some (16, false), .bin 0 .gtr (.t 18) (.k (.int .i64 1048576))⟩,
          ⟨some 20, none, .pick (.t 16) (.k (.bool true)) (.t 19)⟩])
        (.cond (.t 20)
          (.seq
            (.rg [⟨some 4, none, .mv (.k (.bool true))⟩])
            .ret)
          .skip))
      (.seq
        (.rg [⟨some 22, none, .mv (.t 0)⟩,
          ⟨some 23, none, .call n_spec_DrawTreeSure S_spec_DrawTreeSure [(.t 22, [some 1])]⟩,
          ⟨some 21, none, .mv (.t 23)⟩,
          ⟨some 24, none, .ext (.t 21) 0⟩,
          ⟨some 25, none, .ext (.t 21) 1⟩,
          ⟨some 5, none, .mv (.t 24)⟩,
          ⟨some 6, none, .mv (.t 25)⟩])
        (.seq
          (.rg [⟨some 26, none, .mv (.t 1)⟩,
            ⟨some 27, none, .call n_spec_DrawVoteOk S_spec_DrawVoteOk [(.t 26, [some 1])]⟩,
            ⟨some 7, none, .alloc [.int .i64 0, .slice none 0 0]⟩,
            ⟨none, none, .store 2 (.t 7) (.t 27)⟩])
          (.seq
            (.rg [⟨some 28, none, .mv (.t 5)⟩,
              ⟨some 29, none, .mv (.t 6)⟩,
              ⟨some 30, none, .call n_impl_TreeSure S_impl_TreeSure [(.t 28, [some 2]), (.t 29, [some 4])]⟩,
              ⟨some 8, none, .mv (.t 30)⟩])
            (.seq
              (.seq
                (.rg [⟨some 31, none, .mv (.t 8)⟩,
                  ⟨some 32, none, .mv (.t 5)⟩,
                  ⟨some 33, none, .mv (.t 6)⟩,
                  ⟨some 34, none, .call n_spec_TreeSure S_spec_TreeSure [(.t 32, [some 2]), (.t 33, [some 4])]⟩,
                  ⟨some 35, none, .bin 1 .neq (.t 31) (.t 34)⟩,
                  ⟨some 36, none, .mv (.t 35)⟩,
                  ⟨some 37, some (36, false), .mv (.t 8)⟩,
                  ⟨some 38, some (36, false), .un .not (.t 37)⟩,
                  ⟨some 39, none, .pick (.t 36) (.k (.bool true)) (.t 38)⟩])
                (.cond (.t 39)
                  (.seq
                    (.rg [⟨some 40, none, .mv (.t 8)⟩,
                      ⟨some 41, none, .mv (.t 5)⟩,
                      ⟨some 42, none, .mv (.t 6)⟩,
                      ⟨some 43, none, .call n_spec_TreeSure S_spec_TreeSure [(.t 41, [some 2]), (.t 42, [some 4])]⟩,
                      ⟨some 44, none, .bin 1 .eql (.t 40) (.t 43)⟩,
                      ⟨some 4, none, .mv (.t 44)⟩])
                    .ret)
                  .skip))
              (.seq
                (.rg [⟨some 46, none, .mv (.t 5)⟩,
                  ⟨some 47, none, .load (some 2) (.t 7)⟩,
                  ⟨some 48, none, .call n_impl_VotesAdd S_impl_VotesAdd [(.t 46, [some 2]), (.t 47, [none, some 4])]⟩,
                  ⟨some 45, none, .mv (.t 48)⟩,
                  ⟨some 49, none, .ext (.t 45) 0⟩,
                  ⟨some 50, none, .ext (.t 45) 1⟩,
                  ⟨some 9, none, .mv (.t 49)⟩,
                  ⟨some 10, none, .mv (.t 50)⟩])
                (.seq
                  (.rg [⟨some 51, none, .bsl 62 2 []⟩,
                    ⟨some 11, none, .mv (.t 51)⟩])
                  (.seq
                    (.seq
                      (.rg [⟨some 12, none, .mv (.k (.int .i64 0))⟩])
                      (.block 0
                        (.loop
                          (.seq
                            (.seq
                              (.rg [⟨some 52, none, .mv (.t 12)⟩,
                                ⟨some 53, none, .mv (.t 5)⟩,
                                ⟨some 54, none, .len (.t 53)⟩,
                                ⟨some 55, none, .bin 0 .lss (.t 52) (.t 54)⟩])
                              (.cond (.t 55)
                                .skip
                                (.exit 0)))
                            (.seq
                              (.block 1
                                (.seq
                                  (.rg [⟨some 58, none, .mv (.t 5)⟩,
                                    ⟨some 59, none, .mv (.t 12)⟩,
                                    ⟨some 60, none, .idx 2 (.t 58) (.t 59)⟩,
                                    ⟨some 61, none, .fld 1 (.t 60)⟩,
                                    ⟨some 62, none, .load none (.t 61)⟩,
                                    ⟨some 63, none, .mv (.t 6)⟩,
                                    ⟨some 64, none, .call n_laws_lwSame S_laws_lwSame [(.t 62, [some 4]), (.t 63, [some 4])]⟩,
                                    ⟨some 65, none, .un .not (.t 64)⟩])
                                  (.cond (.t 65)
                                    (.rg [⟨some 66, none, .mv (.t 11)⟩,
                                      ⟨some 67, none, .mv (.t 5)⟩,
                                      ⟨some 68, none, .mv (.t 12)⟩,
                                      ⟨some 69, none, .idx 2 (.t 67) (.t 68)⟩,
                                      ⟨some 70, none, .load (some 2) (.t 69)⟩,
                                      ⟨some 71, none, .bsl 62 2 [.t 70]⟩,
                                      ⟨some 72, none, .app 62 2 32 [.int .i64 0, .slice none 0 0] (.t 66) (.t 71)⟩,
                                      ⟨some 11, none, .mv (.t 72)⟩])
                                    .skip)))
                              (.rg [⟨some 56, none, .mv (.t 12)⟩,
                                ⟨some 57, none, .bin 0 .add (.t 56) (.k (.int .i64 1))⟩,
                                ⟨some 12, none, .mv (.t 57)⟩]))))))
                    (.seq
                      (.frz 11 (.rg [⟨some 73, none, .mv (.t 10)⟩,
                        ⟨some 74, none, .un .not (.t 73)⟩,
                        ⟨some 75, none, .mv (.t 74)⟩,
                        ⟨some 76, some (75, false), .mv (.t 9)⟩,
                        ⟨some 77, some (75, false), .mv (.t 6)⟩,
                        ⟨some 78, some (75, false), .call n_impl_TreeSure S_impl_TreeSure [(.t 76, [some 2]), (.t 77, [some 4])]⟩,
                        ⟨some 79, none, .pick (.t 75) (.k (.bool true)) (.t 78)⟩,
                        ⟨some 80, none, .mv (.t 79)⟩,
                        ⟨some 81, some (80, true), .mv (.t 5)⟩,
                        ⟨some 82, some (80, true), .call n_laws_lwBack S_laws_lwBack [(.t 81, [some 2])]⟩,
                        ⟨some 83, some (80, true), .mv (.t 6)⟩,
                        ⟨some 84, some (80, true), .call n_impl_TreeSure S_impl_TreeSure [(.t 82, [some 2]), (.t 83, [some 4])]⟩,
                        ⟨some 85, none, .pick (.t 80) (.t 84) (.k (.bool false))⟩,
                        ⟨some 86, none, .mv (.t 85)⟩,
                        ⟨some 87, some (86, true), .mv (.t 11)⟩,
                        ⟨some 88, some (86, true), .mv (.t 6)⟩,
                        ⟨some 89, some (86, true), .call n_impl_TreeSure S_impl_TreeSure [(.t 87, [some 2]), (.t 88, [some 4])]⟩,
                        ⟨some 90, some (86, true), .mv (.t 6)⟩,
                        ⟨some 91, some (86, true), .len (.t 90)⟩,
                        ⟨some 92, some (86, true), .bin 0 .eql (.t 91) (.k (.int .i64 0))⟩,
                        ⟨some 93, some (86, true), .bin 1 .eql (.t 89) (.t 92)⟩,
                        ⟨some 94, none, .pick (.t 86) (.t 93) (.k (.bool false))⟩,
                        ⟨some 4, none, .mv (.t 94)⟩]))
                      .ret)))))))))) }
theorem is_laws_FnSureMore : IsF Try.prog n_laws_FnSureMore c_laws_FnSureMore := ⟨Try.f11, _, Try.func11, rfl, by decide, rfl, by kernel_rfl, by kernel_rfl⟩
noncomputable def c_laws_FnAllSure : FC := { n := 86, res := [⟨none, 2, []⟩], body :=
  (.seq
    (.rg [⟨some 2, none, .mv (.k (.bool false))⟩])
    (.seq
      (.seq
        (.rg [⟨some 8, none, .mv (.t 0)⟩,
          ⟨some 9, none, .len (.t 8)⟩,
          ⟨some 10, none, .bin 0 .gtr (.t 9) (.k (.int .i64 1048576))⟩])
        (.cond (.t 10)
          (.seq
            (.rg [⟨some 2, none, .mv (.k (.bool true))⟩])
            .ret)
          .skip))
      (.seq
        (.rg [⟨some 11, none, .mv (.t 0)⟩,
          ⟨some 12, none, .call n_spec_DrawTreeAll S_spec_DrawTreeAll [(.t 11, [some 1])]⟩,
          ⟨some 3, none, .mv (.t 12)⟩])
        (.seq
          (.rg [⟨some 13, none, .mv (.t 3)⟩,
            ⟨some 14, none, .call n_impl_TreeAll S_impl_TreeAll [(.t 13, [some 2])]⟩,
            ⟨some 4, none, .mv (.t 14)⟩])
          (.seq
            (.rg [⟨some 15, none, .mv (.t 3)⟩,
              ⟨some 16, none, .call n_spec_TreeAll S_spec_TreeAll [(.t 15, [some 2])]⟩,
              ⟨some 5, none, .mv (.t 16)⟩])
            (.seq
              (.seq
                (.rg [⟨some 17, none, .mv (.t 4)⟩,
                  ⟨some 18, none, .len (.t 17)⟩,
                  ⟨some 19, none, .mv (.t 5)⟩,
                  ⟨some 20, none, .len (.t 19)⟩,
                  ⟨some 21, none, .bin 0 .neq (.t 18) (.t 20)⟩,
                  ⟨some 22, none, .mv (.t 21)⟩,
                  ⟨some 23, some (22, false), .mv (.t 3)⟩,
                  ⟨some 24, some (22, false), .call n_spec_VotesOk S_spec_VotesOk [(.t 23, [some 2])]⟩,
                  ⟨some 25, some (22, false), .un .not (.t 24)⟩,
                  ⟨some 26, none, .pick (.t 22) (.k (.bool true)) (.t 25)⟩])
                (.cond (.t 26)
                  (.seq
                    (.rg [⟨some 27, none, .mv (.t 4)⟩,
                      ⟨some 28, none, .len (.t 27)⟩,
                      ⟨some 29, none, .mv (.t 5)⟩,
                      ⟨some 30, none, .len (.t 29)⟩,
                      ⟨some 31, none, .bin 0 .eql (.t 28) (.t 30)⟩,
                      ⟨some 2, none, .mv (.t 31)⟩])
                    .ret)
                  .skip))
              (.seq
                (.seq
                  (.rg [⟨some 6, none, .mv (.k (.int .i64 0))⟩])
                  (.block 0
                    (.loop
                      (.seq
                        (.seq
                          (.rg [⟨some 32, none, .mv (.t 6)⟩,
                            ⟨some 33, none, .mv (.t 4)⟩,
                            ⟨some 34, none, .len (.t 33)⟩,
                            ⟨some 35, none, .bin 0 .lss (.t 32) (.t 34)⟩])
                          (.cond (.t 35)
                            .skip
                            (.exit 0)))
                        (.seq
                          (.block 1
                            (.seq
                              (.rg [⟨some 38, none, .mv (.t 3)⟩,
                                ⟨some 39, none, .mv (.t 4)⟩,
                                ⟨some 40, none, .mv (.t 6)⟩,
                                ⟨some 41, none, .idx 1 (.t 39) (.t 40)⟩,
                                ⟨some 42, none, .load none (.t 41)⟩,
                                ⟨some 43, none, .call n_impl_TreeSure S_impl_TreeSure [(.t 38, [some 2]), (.t 42, [some 4])]⟩,
                                ⟨some 44, none, .un .not (.t 43)⟩,
                                ⟨some 45, none, .mv (.t 44)⟩,
                                ⟨some 46, some (45, false), .mv (.t 4)⟩,
                                ⟨some 47, some (45, false), .mv (.t 6)⟩,
                                ⟨some 48, some (45, false), .slc 1 (.t 46) none (some (.t 47)) none⟩,
                                ⟨some 49, some (45, false), .mv (.t 4)⟩,
                                ⟨some 50, some (45, false), .mv (.t 6)⟩,
                                ⟨some 51, some (45, false), .idx 1 (.t 49) (.t 50)⟩,
                                ⟨some 52, some (45, false), .load none (.t 51)⟩,
                                ⟨some 53, some (45, false), .call n_laws_lwAmong S_laws_lwAmong [(.t 48, [some 1]), (.t 52, [some 4])]⟩,
                                ⟨some 54, none, .pick (.t 45) (.k (.bool true)) (.t 53)⟩])
                              (.cond (.t 54)
                                (.seq
                                  (.rg [⟨some 2, none, .mv (.k (.bool false))⟩])
                                  .ret)
                                .skip)))
                          (.rg [⟨some 36, none, .mv (.t 6)⟩,
                            ⟨some 37, none, .bin 0 .add (.t 36) (.k (.int .i64 1))⟩,
                            ⟨some 6, none, .mv (.t 37)⟩]))))))
                (.seq
                  (.seq
                    (.rg [⟨some 7, none, .mv (.k (.int .i64 0))⟩])
                    (.block 2
                      (.loop
                        (.seq
                          (.seq
                            (.rg [⟨some 55, none, .mv (.t 7)⟩,
                              ⟨some 56, none, .mv (.t 3)⟩,
                              ⟨some 57, none, .len (.t 56)⟩,
                              ⟨some 58, none, .bin 0 .lss (.t 55) (.t 57)⟩])
                            (.cond (.t 58)
                              .skip
                              (.exit 2)))
                          (.seq
                            (.block 3
                              (.seq
                                (.rg [⟨some 61, none, .mv (.t 4)⟩,
                                  ⟨some 62, none, .mv (.t 3)⟩,
                                  ⟨some 63, none, .mv (.t 7)⟩,
                                  ⟨some 64, none, .idx 2 (.t 62) (.t 63)⟩,
                                  ⟨some 65, none, .fld 1 (.t 64)⟩,
                                  ⟨some 66, none, .load none (.t 65)⟩,
                                  ⟨some 67, none, .call n_laws_lwAmong S_laws_lwAmong [(.t 61, [some 1]), (.t 66, [some 4])]⟩,
                                  ⟨some 68, none, .mv (.t 3)⟩,
                                  ⟨some 69, none, .mv (.t 3)⟩,
                                  ⟨some 70, none, .mv (.t 7)⟩,
                                  ⟨some 71, none, .idx 2 (.t 69) (.t 70)⟩,
                                  ⟨some 72, none, .fld 1 (.t 71)⟩,
                                  ⟨some 73, none, .load none (.t 72)⟩,
                                  ⟨some 74, none, .call n_impl_TreeSure S_impl_TreeSure [(.t 68, [some 2]), (.t 73, [some 4])]⟩,
                                  ⟨some 75, none, .bin 1 .neq (.t 67) (.t 74)⟩])
                                (.cond (.t 75)
                                  (.seq
                                    (.rg [⟨some 2, none, .mv (.k (.bool false))⟩])
                                    .ret)
                                  .skip)))
                            (.rg [⟨some 59, none, .mv (.t 7)⟩,
                              ⟨some 60, none, .bin 0 .add (.t 59) (.k (.int .i64 1))⟩,
                              ⟨some 7, none, .mv (.t 60)⟩]))))))
                  (.seq
                    (.rg [⟨some 76, none, .mv (.t 4)⟩,
                      ⟨some 77, none, .len (.t 76)⟩,
                      ⟨some 78, none, .bin 0 .gtr (.t 77) (.k (.int .i64 0))⟩,
                      ⟨some 79, none, .mv (.t 78)⟩,
                      ⟨some 80, some (79, true), .mv (.t 4)⟩,
                      ⟨some 81, some (79, true), .idx 1 (.t 80) (.k (.int .i64 0))⟩,
                      ⟨some 82, some (79, true), .load none (.t 81)⟩,
                      ⟨some 83, some (79, true), .len (.t 82)⟩,
                      ⟨some 84, some (79, true), .bin 0 .eql (.t 83) (.k (.int .i64 0))⟩,
                      ⟨some 85, none, .pick (.t 79) (.t 84) (.k (.bool false))⟩,
                      ⟨some 2, none, .mv (.t 85)⟩])
                    .ret))))))))) }
theorem is_laws_FnAllSure : IsF Try.prog n_laws_FnAllSure c_laws_FnAllSure := ⟨Try.f12, _, Try.func12, rfl, by decide, rfl, by kernel_rfl, by kernel_rfl⟩
noncomputable def c_laws_FnVotesAdd : FC := { n := 111, res := [⟨none, 2, []⟩], body :=
  (.seq
    (.rg [⟨some 2, none, .mv (.k (.bool false))⟩])
    (.seq
      (.seq
        (.rg [⟨some 12, none, .mv (.t 0)⟩,
          ⟨some 13, none, .len (.t 12)⟩,
          ⟨some 14, none, .bin 0 .gtr (.t 13) (.k (.int .i64 1048576))⟩])
        (.cond (.t 14)
          (.seq
            (.rg [⟨some 2, none, .mv (.k (.bool true))⟩])
            .ret)
          .skip))
      (.seq
        (.rg [⟨some 16, none, .mv (.t 0)⟩,
          ⟨some 17, none, .call n_spec_DrawVotesAdd S_spec_DrawVotesAdd [(.t 16, [some 1])]⟩,
          ⟨some 15, none, .mv (.t 17)⟩,
          ⟨some 18, none, .ext (.t 15) 0⟩,
          ⟨some 19, none, .ext (.t 15) 1⟩,
          ⟨some 4, none, .alloc [.int .i64 0, .slice none 0 0]⟩,
          ⟨some 3, none, .mv (.t 18)⟩,
          ⟨none, none, .store 2 (.t 4) (.t 19)⟩])
        (.seq
          (.rg [⟨some 21, none, .mv (.t 3)⟩,
            ⟨some 22, none, .load (some 2) (.t 4)⟩,
            ⟨some 23, none, .call n_spec_VotesAdd S_spec_VotesAdd [(.t 21, [some 2]), (.t 22, [none, some 4])]⟩,
            ⟨some 20, none, .mv (.t 23)⟩,
            ⟨some 24, none, .ext (.t 20) 0⟩,
            ⟨some 25, none, .ext (.t 20) 1⟩,
            ⟨some 5, none, .mv (.t 24)⟩,
            ⟨some 6, none, .mv (.t 25)⟩])
          (.seq
            (.rg [⟨some 27, none, .mv (.t 3)⟩,
              ⟨some 28, none, .load (some 2) (.t 4)⟩,
              ⟨some 29, none, .call n_impl_VotesAdd S_impl_VotesAdd [(.t 27, [some 2]), (.t 28, [none, some 4])]⟩,
              ⟨some 26, none, .mv (.t 29)⟩,
              ⟨some 30, none, .ext (.t 26) 0⟩,
              ⟨some 31, none, .ext (.t 26) 1⟩,
              ⟨some 7, none, .mv (.t 30)⟩,
              ⟨some 8, none, .mv (.t 31)⟩])
            (.seq
              (.seq
                (.rg [⟨some 32, none, .mv (.t 8)⟩,
                  ⟨some 33, none, .mv (.t 6)⟩,
                  ⟨some 34, none, .bin 1 .neq (.t 32) (.t 33)⟩,
                  ⟨some 35, none, .mv (.t 34)⟩,
                  ⟨some 36, some (35, false), .mv (.t 7)⟩,
                  ⟨some 37, some (35, false), .mv (.t 5)⟩,
                  ⟨some 38, some (35, false), .call n_laws_lwVotes S_laws_lwVotes [(.t 36, [some 2]), (.t 37, [some 2])]⟩,
                  ⟨some 39, some (35, false), .un .not (.t 38)⟩,
                  ⟨some 40, none, .pick (.t 35) (.k (.bool true)) (.t 39)⟩,
                  ⟨some 41, none, .mv (.t 40)⟩,
                  ⟨some 42, some (41, false), .mv (.t 3)⟩,
                  ⟨some 43, some (41, false), .call n_spec_VotesOk S_spec_VotesOk [(.t 42, [some 2])]⟩,
                  ⟨some 44, some (41, false), .un .not (.t 43)⟩,
                  ⟨some 45, none, .pick (.t 41) (.k (.bool true)) (.t 44)⟩,
                  ⟨some 46, none, .mv (.t 45)⟩,
                  ⟨some 47, some (46, false), .load (some 2) (.t 4)⟩,
                  ⟨some 48, some (46, false), .call n_spec_VoteOk S_spec_VoteOk [(.t 47, [none, some 4])]⟩,
                  ⟨some 49, some (46, false), .un .not (.t 48)⟩,
                  ⟨some 50, none, .pick (.t 46) (.k (.bool true)) (.t 49)⟩])
                (.cond (.t 50)
                  (.seq
                    (.rg [⟨some 51, none, .mv (.t 8)⟩,
                      ⟨some 52, none, .mv (.t 6)⟩,
                      ⟨some 53, none, .bin 1 .eql (.t 51) (.t 52)⟩,
                      ⟨some 54, none, .mv (.t 53)⟩,
                      ⟨some 55, some (54, true), .mv (.t 7)⟩,
                      ⟨some 56, some (54, true), .mv (.t 5)⟩,
                      ⟨some 57, some (54, true), .call n_laws_lwVotes S_laws_lwVotes [(.t 55, [some 2]), (.t 56, [some 2])]⟩,
                      ⟨some 58, none, .pick (.t 54) (.t 57) (.k (.bool false))⟩,
                      ⟨some 2, none, .mv (.t 58)⟩])
                    .ret)
                  .skip))
              (.seq
                (.seq
                  (.rg [⟨some 59, none, .mv (.t 8)⟩,
                    ⟨some 60, none, .un .not (.t 59)⟩])
                  (.cond (.t 60)
                    (.seq
                      (.rg [⟨some 61, none, .mv (.t 3)⟩,
                        ⟨some 62, none, .load (some 2) (.t 4)⟩,
                        ⟨some 63, none, .call n_laws_lwHas S_laws_lwHas [(.t 61, [some 2]), (.t 62, [none, some 4])]⟩,
                        ⟨some 64, none, .mv (.t 63)⟩,
                        ⟨some 65, some (64, true), .mv (.t 7)⟩,
                        ⟨some 66, some (64, true), .mv (.t 3)⟩,
                        ⟨some 67, some (64, true), .call n_laws_lwVotes S_laws_lwVotes [(.t 65, [some 2]), (.t 66, [some 2])]⟩,
                        ⟨some 68, none, .pick (.t 64) (.t 67) (.k (.bool false))⟩,
                        ⟨some 2, none, .mv (.t 68)⟩])
                      .ret)
                    .skip))
                (.seq
                  (.rg [⟨some 69, none, .mv (.t 3)⟩,
                    ⟨some 70, none, .len (.t 69)⟩,
                    ⟨some 9, none, .mv (.t 70)⟩])
                  (.seq
                    (.rg [⟨some 72, none, .mv (.t 7)⟩,
                      ⟨some 73, none, .load (some 2) (.t 4)⟩,
                      ⟨some 74, none, .call n_impl_VotesAdd S_impl_VotesAdd [(.t 72, [some 2]), (.t 73, [none, some 4])]⟩,
                      ⟨some 71, none, .mv (.t 74)⟩,
                      ⟨some 75, none, .ext (.t 71) 0⟩,
                      ⟨some 76, none, .ext (.t 71) 1⟩,
                      ⟨some 10, none, .mv (.t 75)⟩,
                      ⟨some 11, none, .mv (.t 76)⟩])
                    (.seq
                      (.rg [⟨some 77, none, .mv (.t 7)⟩,
                        ⟨some 78, none, .len (.t 77)⟩,
                        ⟨some 79, none, .mv (.t 9)⟩,
                        ⟨some 80, none, .bin 0 .add (.t 79) (.k (.int .i64 1))⟩,
                        ⟨some 81, none, .bin 0 .eql (.t 78) (.t 80)⟩,
                        ⟨some 82, none, .mv (.t 81)⟩,
                        ⟨some 83, some (82, true), .mv (.t 7)⟩,
                        ⟨some 84, some (82, true), .mv (.t 9)⟩,
                        ⟨some 85, some (82, true), .slc 2 (.t 83) none (some (.t 84)) none⟩,
                        ⟨some 86, some (82, true), .mv (.t 3)⟩,
                        ⟨some 87, some (82, true), .call n_laws_lwVotes S_laws_lwVotes [(.t 85, [some 2]), (.t 86, [some 2])]⟩,
                        ⟨some 88, none, .pick (.t 82) (.t 87) (.k (.bool false))⟩,
                        ⟨some 89, none, .mv (.t 88)⟩,
                        ⟨some 90, some (89, true), .mv (.t 7)⟩,
                        ⟨some 91, some (89, true), .mv (.t 9)⟩,
                        ⟨some 92, some (89, true), .idx 2 (.t 90) (.t 91)⟩,
                        ⟨some 93, some (89, true), .load (some 2) (.t 92)⟩,
                        ⟨some 94, some (89, true), .load (some 2) (.t 4)⟩,
                        ⟨some 95, some (89, true), .call n_laws_lwVote S_laws_lwVote [(.t 93, [none, some 4]), (.t 94, [none, some 4])]⟩,
                        ⟨some 96, none, .pick (.t 89) (.t 95) (.k (.bool false))⟩,
                        ⟨some 97, none, .mv (.t 96)⟩,
                        ⟨some 98, some (97, true), .mv (.t 7)⟩,
                        ⟨some 99, some (97, true), .call n_impl_VotesOk S_impl_VotesOk [(.t 98, [some 2])]⟩,
                        ⟨some 100, none, .pick (.t 97) (.t 99) (.k (.bool false))⟩,
                        ⟨some 101, none, .mv (.t 100)⟩,
                        ⟨some 102, some (101, true), .mv (.t 11)⟩,
                        ⟨some 103, some (101, true), .un .not (.t 102)⟩,
                        ⟨some 104, none, .pick (.t 101) (.t 103) (.k (.bool false))⟩,
                        ⟨some 105, none, .mv (.t 104)⟩,
                        ⟨some 106, some (105, true), .mv (.t 3)⟩,
                        ⟨some 107, some (105, true), .load (some 2) (.t 4)⟩,
                        ⟨some 108, some (105, true), .call n_laws_lwHas S_laws_lwHas [(.t 106, [some 2]), (.t 107, [none, some 4])]⟩,
                        ⟨some 109, some (105, true), .un .not (.t 108)⟩,
                        ⟨some 110, none, .pick (.t 105) (.t 109) (.k (.bool false))⟩,
                        ⟨some 2, none, .mv (.t 110)⟩])
                      .ret)))))))))) }
theorem is_laws_FnVotesAdd : IsF Try.prog n_laws_FnVotesAdd c_laws_FnVotesAdd := ⟨Try.f9, _, Try.func9, rfl, by decide, rfl, by kernel_rfl, by kernel_rfl⟩
noncomputable def c_laws_FnForAdd : FC := { n := 115, res := [⟨none, 4, []⟩], body :=
  (.seq
    (.rg [⟨some 4, none, .mv (.k (.bool false))⟩])
    (.seq
      (.seq
        (.rg [⟨some 16, none, .mv (.t 0)⟩,
          ⟨some 17, none, .len (.t 16)⟩,
          ⟨some 18, none, .bin 0 .gtr (.t 17) (.k (.int .i64 1048576))⟩,
          ⟨some 19, none, .mv (.t 18)⟩,
          ⟨some 20, some (19, false), .mv (.t 1)⟩,
          ⟨some 21, some (19, false), .len (.t 20)⟩,
          ⟨some 22, some (19, false), .bin 0 .gtr (.t 21) (.k (.int .i64 1048576))⟩,
          ⟨some 23, none, .pick (.t 19) (.k (.bool true)) (.t 22)⟩])
        (.cond (.t 23)
          (.seq
            (.rg [⟨some 4, none, .mv (.k (.bool true))⟩])
            .ret)
          .skip))
      (.seq
        (.rg [⟨some 25, none, .mv (.t 0)⟩,
          ⟨some 26, none, .call n_spec_DrawVotesAdd S_spec_DrawVotesAdd [(.t 25, [some 1])]⟩,
          ⟨some 24, none, .mv (.t 26)⟩,
          ⟨some 27, none, .ext (.t 24) 0⟩,
          ⟨some 28, none, .ext (.t 24) 1⟩,
          ⟨some 6, none, .alloc [.int .i64 0, .slice none 0 0]⟩,
          ⟨some 5, none, .mv (.t 27)⟩,
          ⟨none, none, .store 2 (.t 6) (.t 28)⟩])
        (.seq
          (.rg [⟨some 29, none, .mv (.t 1)⟩,
            ⟨some 30, none, .call n_spec_DrawVoteOk S_spec_DrawVoteOk [(.t 29, [some 1])]⟩,
            ⟨some 7, none, .alloc [.int .i64 0, .slice none 0 0]⟩,
            ⟨none, none, .store 2 (.t 7) (.t 30)⟩])
          (.seq
            (.rg [⟨some 32, none, .mv (.t 5)⟩,
              ⟨some 33, none, .load (some 2) (.t 6)⟩,
              ⟨some 34, none, .call n_spec_VotesAdd S_spec_VotesAdd [(.t 32, [some 2]), (.t 33, [none, some 4])]⟩,
              ⟨some 31, none, .mv (.t 34)⟩,
              ⟨some 35, none, .ext (.t 31) 0⟩,
              ⟨some 36, none, .ext (.t 31) 1⟩,
              ⟨some 8, none, .mv (.t 35)⟩,
              ⟨some 9, none, .mv (.t 36)⟩])
            (.seq
              (.rg [⟨some 38, none, .mv (.t 5)⟩,
                ⟨some 39, none, .load (some 2) (.t 6)⟩,
                ⟨some 40, none, .call n_impl_VotesAdd S_impl_VotesAdd [(.t 38, [some 2]), (.t 39, [none, some 4])]⟩,
                ⟨some 37, none, .mv (.t 40)⟩,
                ⟨some 41, none, .ext (.t 37) 0⟩,
                ⟨some 42, none, .ext (.t 37) 1⟩,
                ⟨some 10, none, .mv (.t 41)⟩,
                ⟨some 11, none, .mv (.t 42)⟩])
              (.seq
                (.seq
                  (.rg [⟨some 43, none, .mv (.t 11)⟩,
                    ⟨some 44, none, .mv (.t 9)⟩,
                    ⟨some 45, none, .bin 1 .neq (.t 43) (.t 44)⟩,
                    ⟨some 46, none, .mv (.t 45)⟩,
                    ⟨some 47, some (46, false), .mv (.t 10)⟩,
                    ⟨some 48, some (46, false), .mv (.t 8)⟩,
                    ⟨some 49, some (46, false), .call n_laws_lwVotes S_laws_lwVotes [(.t 47, [some 2]), (.t 48, [some 2])]⟩,
                    ⟨some 50, some (46, false), .un .not (.t 49)⟩,
                    ⟨some 51, none, .pick (.t 46) (.k (.bool true)) (.t 50)⟩,
                    ⟨some 52, none, .mv (.t 51)⟩,
                    ⟨some 53, some (52, false), .mv (.t 11)⟩,
                    ⟨some 54, some (52, false), .un .not (.t 53)⟩,
                    ⟨some 55, none, .pick (.t 52) (.k (.bool true)) (.t 54)⟩])
                  (.cond (.t 55)
                    (.seq
                      (.rg [⟨some 56, none, .mv (.t 11)⟩,
                        ⟨some 57, none, .mv (.t 9)⟩,
                        ⟨some 58, none, .bin 1 .eql (.t 56) (.t 57)⟩,
                        ⟨some 59, none, .mv (.t 58)⟩,
                        ⟨some 60, some (59, true), .mv (.t 10)⟩,
                        ⟨some 61, some (59, true), .mv (.t 8)⟩,
                        ⟨some 62, some (59, true), .call n_laws_lwVotes S_laws_lwVotes [(.t 60, [some 2]), (.t 61, [some 2])]⟩,
                        ⟨some 63, none, .pick (.t 59) (.t 62) (.k (.bool false))⟩,
                        ⟨some 4, none, .mv (.t 63)⟩])
                      .ret)
                    .skip))
                (.seq
                  (.rg [⟨some 64, none, .mv (.t 5)⟩,
                    ⟨some 65, none, .fld 1 (.t 6)⟩,
                    ⟨some 66, none, .load none (.t 65)⟩,
                    ⟨some 67, none, .call n_impl_VotesFor S_impl_VotesFor [(.t 64, [some 2]), (.t 66, [some 4])]⟩,
                    ⟨some 12, none, .mv (.t 67)⟩])
                  (.seq
                    (.rg [⟨some 68, none, .mv (.t 10)⟩,
                      ⟨some 69, none, .fld 1 (.t 6)⟩,
                      ⟨some 70, none, .load none (.t 69)⟩,
                      ⟨some 71, none, .call n_impl_VotesFor S_impl_VotesFor [(.t 68, [some 2]), (.t 70, [some 4])]⟩,
                      ⟨some 13, none, .mv (.t 71)⟩])
                    (.seq
                      (.rg [⟨some 14, none, .mv (.k (.bool false))⟩])
                      (.seq
                        (.seq
                          (.rg [⟨some 15, none, .mv (.k (.int .i64 0))⟩])
                          (.block 0
                            (.loop
                              (.seq
                                (.seq
                                  (.rg [⟨some 72, none, .mv (.t 15)⟩,
                                    ⟨some 73, none, .mv (.t 13)⟩,
                                    ⟨some 74, none, .len (.t 73)⟩,
                                    ⟨some 75, none, .bin 0 .lss (.t 72) (.t 74)⟩])
                                  (.cond (.t 75)
                                    .skip
                                    (.exit 0)))
                                (.seq
                                  (.block 1
                                    (.rg [⟨some 78, none, .mv (.t 14)⟩,
                                      ⟨some 79, none, .mv (.t 78)⟩,
                                      ⟨some 80, some (79, false), .mv (.t 13)⟩,
                                      ⟨some 81, some (79, false), .mv (.t 15)⟩,
                                      ⟨some 82, some (79, false), .idx 1 (.t 80) (.t 81)⟩,
                                      ⟨some 83, some (79, false), .load none (.t 82)⟩,
                                      ⟨some 84, some (79, false), .fld 0 (.t 6)⟩,
                                      ⟨some 85, some (79, false), .load none (.t 84)⟩,
                                      ⟨some 86, some (79, false), .bin 0 .eql (.t 83) (.t 85)⟩,
                                      ⟨some 87, none, .pick (.t 79) (.k (.bool true)) (.t 86)⟩,
                                      ⟨some 14, none, .mv (.t 87)⟩]))
                                  (.rg [⟨some 76, none, .mv (.t 15)⟩,
                                    ⟨some 77, none, .bin 0 .add (.t 76) (.k (.int .i64 1))⟩,
                                    ⟨some 15, none, .mv (.t 77)⟩]))))))
                        (.seq
                          (.rg [⟨some 88, none, .mv (.t 13)⟩,
                            ⟨some 89, none, .len (.t 88)⟩,
                            ⟨some 90, none, .mv (.t 12)⟩,
                            ⟨some 91, none, .len (.t 90)⟩,
                            ⟨some 92, none, .bin 0 .add (.t 91) (.k (.int .i64 1))⟩,
                            ⟨some 93, none, .bin 0 .eql (.t 89) (.t 92)⟩,
                            ⟨some 94, none, .mv (.t 93)⟩,
                            ⟨some 95, some (94, true), .mv (.t 14)⟩,
                            ⟨some 96, none, .pick (.t 94) (.t 95) (.k (.bool false))⟩,
                            ⟨some 97, none, .mv (.t 96)⟩,
                            ⟨some 98, some (97, true), .fld 1 (.t 7)⟩,
                            ⟨some 99, some (97, true), .load none (.t 98)⟩,
                            ⟨some 100, some (97, true), .fld 1 (.t 6)⟩,
                            ⟨some 101, some (97, true), .load none (.t 100)⟩,
                            ⟨some 102, some (97, true), .call n_laws_lwSame S_laws_lwSame [(.t 99, [some 4]), (.t 101, [some 4])]⟩,
                            ⟨some 103, some (97, true), .mv (.t 102)⟩,
                            ⟨some 104, some (103, false), .mv (.t 10)⟩,
                            ⟨some 105, some (103, false), .fld 1 (.t 7)⟩,
                            ⟨some 106, some (103, false), .load none (.t 105)⟩,
                            ⟨some 107, some (103, false), .call n_impl_VotesFor S_impl_VotesFor [(.t 104, [some 2]), (.t 106, [some 4])]⟩,
                            ⟨some 108, some (103, false), .mv (.t 5)⟩,
                            ⟨some 109, some (103, false), .fld 1 (.t 7)⟩,
                            ⟨some 110, some (103, false), .load none (.t 109)⟩,
                            ⟨some 111, some (103, false), .call n_impl_VotesFor S_impl_VotesFor [(.t 108, [some 2]), (.t 110, [some 4])]⟩,
                            ⟨some 112, some (103, false), .call n_laws_lwInts S_laws_lwInts [(.t 107, [some 1]), (.t 111, [some 1])]⟩,
                            ⟨some 113, some (97, true), .pick (.t 103) (.k (.bool true)) (.t 112)⟩,
                            ⟨some 114, none, .pick (.t 97) (.t 113) (.k (.bool false))⟩,
                            ⟨some 4, none, .mv (.t 114)⟩])
                          .ret)))))))))))) }
theorem is_laws_FnForAdd : IsF Try.prog n_laws_FnForAdd c_laws_FnForAdd := ⟨Try.f13, _, Try.func13, rfl, by decide, rfl, by kernel_rfl, by kernel_rfl⟩
noncomputable def c_laws_FnVotesOrder : FC := { n := 113, res := [⟨none, 4, []⟩], body :=
  (.seq
    (.rg [⟨some 4, none, .mv (.k (.bool false))⟩])
    (.seq
      (.seq
        (.rg [⟨some 18, none, .mv (.t 0)⟩,
          ⟨some 19, none, .len (.t 18)⟩,
          ⟨some 20, none, .bin 0 .gtr (.t 19) (.k (.int .i64 1048576))⟩,
          ⟨some 21, none, .mv (.t 20)⟩,
          ⟨some 22, some (21, false), .mv (.t 1)⟩,
          ⟨some 23, some (21, false), .len (.t 22)⟩,
          ⟨some 24, some (21, false), .bin 0 .gtr (.t 23) (.k (.int .i64 1048576))⟩,
          ⟨some 25, none, .pick (.t 21) (.k (.bool true)) (.t 24)⟩])
        (.cond (.t 25)
          (.seq
            (.rg [⟨some 4, none, .mv (.k (.bool true))⟩])
            .ret)
          .skip))
      (.seq
        (.rg [⟨some 27, none, .mv (.t 0)⟩,
          ⟨some 28, none, .call n_spec_DrawVotesAdd S_spec_DrawVotesAdd [(.t 27, [some 1])]⟩,
          ⟨some 26, none, .mv (.t 28)⟩,
          ⟨some 29, none, .ext (.t 26) 0⟩,
          ⟨some 30, none, .ext (.t 26) 1⟩,
          ⟨some 6, none, .alloc [.int .i64 0, .slice none 0 0]⟩,
          ⟨some 5, none, .mv (.t 29)⟩,
          ⟨none, none, .store 2 (.t 6) (.t 30)⟩])
        (.seq
          (.rg [⟨some 31, none, .mv (.t 1)⟩,
            ⟨some 32, none, .call n_spec_DrawVoteOk S_spec_DrawVoteOk [(.t 31, [some 1])]⟩,
            ⟨some 7, none, .alloc [.int .i64 0, .slice none 0 0]⟩,
            ⟨none, none, .store 2 (.t 7) (.t 32)⟩])
          (.seq
            (.rg [⟨some 34, none, .mv (.t 5)⟩,
              ⟨some 35, none, .load (some 2) (.t 6)⟩,
              ⟨some 36, none, .call n_spec_VotesAdd S_spec_VotesAdd [(.t 34, [some 2]), (.t 35, [none, some 4])]⟩,
              ⟨some 33, none, .mv (.t 36)⟩,
              ⟨some 37, none, .ext (.t 33) 0⟩,
              ⟨some 38, none, .ext (.t 33) 1⟩,
              ⟨some 8, none, .mv (.t 37)⟩,
              ⟨some 9, none, .mv (.t 38)⟩])
            (.seq
              (.rg [⟨some 40, none, .mv (.t 5)⟩,
                ⟨some 41, none, .load (some 2) (.t 6)⟩,
                ⟨some 42, none, .call n_impl_VotesAdd S_impl_VotesAdd [(.t 40, [some 2]), (.t 41, [none, some 4])]⟩,
                ⟨some 39, none, .mv (.t 42)⟩,
                ⟨some 43, none, .ext (.t 39) 0⟩,
                ⟨some 44, none, .ext (.t 39) 1⟩,
                ⟨some 10, none, .mv (.t 43)⟩,
                ⟨some 11, none, .mv (.t 44)⟩])
              (.seq
                (.seq
                  (.rg [⟨some 45, none, .mv (.t 11)⟩,
                    ⟨some 46, none, .mv (.t 9)⟩,
                    ⟨some 47, none, .bin 1 .neq (.t 45) (.t 46)⟩,
                    ⟨some 48, none, .mv (.t 47)⟩,
                    ⟨some 49, some (48, false), .mv (.t 10)⟩,
                    ⟨some 50, some (48, false), .mv (.t 8)⟩,
                    ⟨some 51, some (48, false), .call n_laws_lwVotes S_laws_lwVotes [(.t 49, [some 2]), (.t 50, [some 2])]⟩,
                    ⟨some 52, some (48, false), .un .not (.t 51)⟩,
                    ⟨some 53, none, .pick (.t 48) (.k (.bool true)) (.t 52)⟩,
                    ⟨some 54, none, .mv (.t 53)⟩,
                    ⟨some 55, some (54, false), .mv (.t 11)⟩,
                    ⟨some 56, some (54, false), .un .not (.t 55)⟩,
                    ⟨some 57, none, .pick (.t 54) (.k (.bool true)) (.t 56)⟩])
                  (.cond (.t 57)
                    (.seq
                      (.rg [⟨some 58, none, .mv (.t 11)⟩,
                        ⟨some 59, none, .mv (.t 9)⟩,
                        ⟨some 60, none, .bin 1 .eql (.t 58) (.t 59)⟩,
                        ⟨some 61, none, .mv (.t 60)⟩,
                        ⟨some 62, some (61, true), .mv (.t 10)⟩,
                        ⟨some 63, some (61, true), .mv (.t 8)⟩,
                        ⟨some 64, some (61, true), .call n_laws_lwVotes S_laws_lwVotes [(.t 62, [some 2]), (.t 63, [some 2])]⟩,
                        ⟨some 65, none, .pick (.t 61) (.t 64) (.k (.bool false))⟩,
                        ⟨some 4, none, .mv (.t 65)⟩])
                      .ret)
                    .skip))
                (.seq
                  (.rg [⟨some 67, none, .mv (.t 5)⟩,
                    ⟨some 68, none, .load (some 2) (.t 7)⟩,
                    ⟨some 69, none, .call n_impl_VotesAdd S_impl_VotesAdd [(.t 67, [some 2]), (.t 68, [none, some 4])]⟩,
                    ⟨some 66, none, .mv (.t 69)⟩,
                    ⟨some 70, none, .ext (.t 66) 0⟩,
                    ⟨some 71, none, .ext (.t 66) 1⟩,
                    ⟨some 12, none, .mv (.t 70)⟩,
                    ⟨some 13, none, .mv (.t 71)⟩])
                  (.seq
                    (.rg [⟨some 73, none, .mv (.t 10)⟩,
                      ⟨some 74, none, .load (some 2) (.t 7)⟩,
                      ⟨some 75, none, .call n_impl_VotesAdd S_impl_VotesAdd [(.t 73, [some 2]), (.t 74, [none, some 4])]⟩,
                      ⟨some 72, none, .mv (.t 75)⟩,
                      ⟨some 76, none, .ext (.t 72) 0⟩,
                      ⟨some 77, none, .ext (.t 72) 1⟩,
                      ⟨some 14, none, .mv (.t 76)⟩,
                      ⟨some 15, none, .mv (.t 77)⟩])
                    (.seq
                      (.seq
                        (.rg [⟨some 78, none, .mv (.t 13)⟩,
                          ⟨some 79, none, .un .not (.t 78)⟩,
                          ⟨some 80, none, .mv (.t 79)⟩,
                          ⟨some 81, some (80, false), .mv (.t 15)⟩,
                          ⟨some 82, some (80, false), .un .not (.t 81)⟩,
                          ⟨some 83, none, .pick (.t 80) (.k (.bool true)) (.t 82)⟩])
                        (.cond (.t 83)
                          (.seq
                            (.rg [⟨some 4, none, .mv (.k (.bool true))⟩])
                            .ret)
                          .skip))
                      (.seq
                        (.rg [⟨some 85, none, .mv (.t 12)⟩,
                          ⟨some 86, none, .load (some 2) (.t 6)⟩,
                          ⟨some 87, none, .call n_impl_VotesAdd S_impl_VotesAdd [(.t 85, [some 2]), (.t 86, [none, some 4])]⟩,
                          ⟨some 84, none, .mv (.t 87)⟩,
                          ⟨some 88, none, .ext (.t 84) 0⟩,
                          ⟨some 89, none, .ext (.t 84) 1⟩,
                          ⟨some 16, none, .mv (.t 88)⟩,
                          ⟨some 17, none, .mv (.t 89)⟩])
                        (.seq
                          (.rg [⟨some 90, none, .mv (.t 17)⟩,
                            ⟨some 91, none, .mv (.t 90)⟩,
                            ⟨some 92, some (91, true), .mv (.t 14)⟩,
                            ⟨some 93, some (91, true), .fld 1 (.t 6)⟩,
                            ⟨some 94, some (91, true), .load none (.t 93)⟩,
                            ⟨some 95, some (91, true), .call n_impl_VotesFor S_impl_VotesFor [(.t 92, [some 2]), (.t 94, [some 4])]⟩,
                            ⟨some 96, some (91, true), .mv (.t 16)⟩,
                            ⟨some 97, some (91, true), .fld 1 (.t 6)⟩,
                            ⟨some 98, some (91, true), .load none (.t 97)⟩,
                            ⟨some 99, some (91, true), .call n_impl_VotesFor S_impl_VotesFor [(.t 96, [some 2]), (.t 98, [some 4])]⟩,
                            ⟨some 100, some (91, true), .call n_laws_lwInts S_laws_lwInts [(.t 95, [some 1]), (.t 99, [some 1])]⟩,
                            ⟨some 101, none, .pick (.t 91) (.t 100) (.k (.bool false))⟩,
                            ⟨some 102, none, .mv (.t 101)⟩,
                            ⟨some 103, some (102, true), .mv (.t 14)⟩,
                            ⟨some 104, some (102, true), .fld 1 (.t 7)⟩,
                            ⟨some 105, some (102, true), .load none (.t 104)⟩,
                            ⟨some 106, some (102, true), .call n_impl_VotesFor S_impl_VotesFor [(.t 103, [some 2]), (.t 105, [some 4])]⟩,
                            ⟨some 107, some (102, true), .mv (.t 16)⟩,
                            ⟨some 108, some (102, true), .fld 1 (.t 7)⟩,
                            ⟨some 109, some (102, true), .load none (.t 108)⟩,
                            ⟨some 110, some (102, true), .call n_impl_VotesFor S_impl_VotesFor [(.t 107, [some 2]), (.t 109, [some 4])]⟩,
                            ⟨some 111, some (102, true), .call n_laws_lwInts S_laws_lwInts [(.t 106, [some 1]), (.t 110, [some 1])]⟩,
                            ⟨some 112, none, .pick (.t 102) (.t 111) (.k (.bool false))⟩,
                            ⟨some 4, none, .mv (.t 112)⟩])
                          .ret)))))))))))) }
theorem is_laws_FnVotesOrder : IsF Try.prog n_laws_FnVotesOrder c_laws_FnVotesOrder := ⟨Try.f14, _, Try.func14, rfl, by decide, rfl, by kernel_rfl, by kernel_rfl⟩
end Av
end Go.Proofs.Ytfkaomigeaileaa
