/- The functions' code in the small language, and that it is theirs. -/
import Derived.Test.YtdklbphecnennaaQ2
import Derived.Test.YtdklbphecnennaaD1
import Derived.Test.YtdklbphecnennaaProg
import Derived.KernelRfl
set_option linter.unusedVariables false
namespace Go.Proofs.Ytdklbphecnennaa
namespace Av
noncomputable def c_laws_FnAllBack : FC := { n := 55, res := [⟨none, 2, []⟩], body :=
  (.seq
    (.rg [⟨some 2, none, .mv (.k (.bool false))⟩])
    (.seq
      (.seq
        (.rg [⟨some 8, none, .mv (.t 0)⟩,
          ⟨some 9, none, .len (.t 8)⟩,
          ⟨some 10, none, .bin 0 .gtr (.t 9) (.k (.int .i64 1048576))⟩])
        (.cond (.t 10)
          (.seq
            (.rg [⟨some 2, none, .mv (.k (.bool true))⟩])
            .ret)
          .skip))
      (.seq
        (.rg [⟨some 11, none, .mv (.t 0)⟩,
          ⟨some 12, none, .call n_spec_DrawTreeAll S_spec_DrawTreeAll [(.t 11, [some 1])]⟩,
          ⟨some 3, none, .mv (.t 12)⟩])
        (.seq
          (.rg [⟨some 13, none, .mv (.t 3)⟩,
            ⟨some 14, none, .call n_impl_TreeAll S_impl_TreeAll [(.t 13, [some 2])]⟩,
            ⟨some 4, none, .mv (.t 14)⟩])
          (.seq
            (.rg [⟨some 15, none, .mv (.t 3)⟩,
              ⟨some 16, none, .call n_spec_TreeAll S_spec_TreeAll [(.t 15, [some 2])]⟩,
              ⟨some 5, none, .mv (.t 16)⟩])
            (.seq
              (.seq
                (.rg [⟨some 17, none, .mv (.t 4)⟩,
                  ⟨some 18, none, .len (.t 17)⟩,
                  ⟨some 19, none, .mv (.t 5)⟩,
                  ⟨some 20, none, .len (.t 19)⟩,
                  ⟨some 21, none, .bin 0 .neq (.t 18) (.t 20)⟩])
                (.cond (.t 21)
                  (.seq
                    (.rg [⟨some 2, none, .mv (.k (.bool false))⟩])
                    .ret)
                  .skip))
              (.seq
                (.rg [⟨some 22, none, .mv (.t 3)⟩,
                  ⟨some 23, none, .call n_laws_lwBack S_laws_lwBack [(.t 22, [some 2])]⟩,
                  ⟨some 24, none, .call n_impl_TreeAll S_impl_TreeAll [(.t 23, [some 2])]⟩,
                  ⟨some 6, none, .mv (.t 24)⟩])
                (.seq
                  (.seq
                    (.rg [⟨some 7, none, .mv (.k (.int .i64 0))⟩])
                    (.block 0
                      (.loop
                        (.seq
                          (.seq
                            (.rg [⟨some 25, none, .mv (.t 7)⟩,
                              ⟨some 26, none, .mv (.t 4)⟩,
                              ⟨some 27, none, .len (.t 26)⟩,
                              ⟨some 28, none, .bin 0 .lss (.t 25) (.t 27)⟩])
                            (.cond (.t 28)
                              .skip
                              (.exit 0)))
                          (.seq
                            (.block 1
                              (.seq
                                (.rg [⟨some 31, none, .mv (.t 6)⟩,
                                  ⟨some 32, none, .mv (.t 4)⟩,
                                  ⟨some 33, none, .mv (.t 7)⟩,
                                  ⟨some 34, none, .idx 1 (.t 32) (.t 33)⟩,
                                  ⟨some 35, none, .load none (.t 34)⟩,
                                  ⟨some 36, none, .call n_laws_lwAmong S_laws_lwAmong [(.t 31, [some 1]), (.t 35, [some 4])]⟩,
                                  ⟨some 37, none, .un .not (.t 36)⟩,
                                  ⟨some 38, none, .mv (.t 37)⟩,
                                  ⟨some 39, some (38, false), .mv (.t 4)⟩,
                                  ⟨some 40, some (38, false), .mv (.t 7)⟩,
                                  ⟨some 41, some (38, false), .idx 1 (.t 39) (.t 40)⟩,
                                  ⟨some 42, some (38, false), .load none (.t 41)⟩,
                                  ⟨some 43, some (38, false), .mv (.t 5)⟩,
                                  ⟨some 44, some (38, false), .mv (.t 7)⟩,
                                  ⟨some 45, some (38, false), .idx 1 (.t 43) (.t 44)⟩,
                                  ⟨some 46, some (38, false), .load none (.t 45)⟩,
                                  ⟨some 47, some (38, false), .call n_laws_lwSame S_laws_lwSame [(.t 42, [some 4]), (.t 46, [some 4])]⟩,
                                  ⟨some 48, some (38, false), .un .not (.t 47)⟩,
                                  ⟨some 49, none, .pick (.t 38) (.k (.bool true)) (.t 48)⟩])
                                (.cond (.t 49)
                                  (.seq
                                    (.rg [⟨some 2, none, .mv (.k (.bool false))⟩])
                                    .ret)
                                  .skip)))
                            (.rg [⟨some 29, none, .mv (.t 7)⟩,
                              ⟨some 30, none, .bin 0 .add (.t 29) (.k (.int .i64 1))⟩,
                              ⟨some 7, none, .mv (.t 30)⟩]))))))
                  (.seq
                    (.rg [⟨some 50, none, .mv (.t 6)⟩,
                      ⟨some 51, none, .len (.t 50)⟩,
                      ⟨some 52, none, .mv (.t 4)⟩,
                      ⟨some 53, none, .len (.t 52)⟩,
                      ⟨some 54, none, .bin 0 .eql (.t 51) (.t 53)⟩,
                      ⟨some 2, none, .mv (.t 54)⟩])
                    .ret))))))))) }
theorem is_laws_FnAllBack : IsF Try.prog n_laws_FnAllBack c_laws_FnAllBack := ⟨Try.f3, _, Try.func3, rfl, by decide, rfl, by kernel_rfl, by kernel_rfl⟩
noncomputable def c_laws_FnLongMore : FC := { n := 56, res := [⟨none, 4, []⟩], body :=
  (.seq
    (.rg [⟨some 4, none, .mv (.k (.bool false))⟩])
    (.seq
      (.seq
        (.rg [⟨some 8, none, .mv (.t 0)⟩,
          ⟨some 9, none, .len (.t 8)⟩,
          ⟨some 10, none, .bin 0 .gtr (.t 9) (.k (.int .i64 1048576))⟩,
          ⟨some 11, none, .mv (.t 10)⟩,
          ⟨some 12, some (11, false), .mv (.t 1)⟩,
          ⟨some 13, some (11, false), .len (.t 12)⟩,
          ⟨some 14, some (11, false), .bin 0 .gtr (.t 13) (.k (.int .i64 1048576))⟩,
          ⟨some 15, none, .pick (.t 11) (.k (.bool true)) (.t 14)⟩])
        (.cond (.t 15)
          (.seq
            (.rg [⟨some 4, none, .mv (.k (.bool true))⟩])
            .ret)
          .skip))
      (.seq
        (.rg [⟨some 16, none, .mv (.t 0)⟩,
          ⟨some 17, none, .call n_spec_DrawTreeLong S_spec_DrawTreeLong [(.t 16, [some 1])]⟩,
          ⟨some 5, none, .mv (.t 17)⟩])
        (.seq
          (.rg [⟨some 18, none, .mv (.t 5)⟩,
            ⟨some 19, none, .call n_impl_TreeLong S_impl_TreeLong [(.t 18, [some 2])]⟩,
            ⟨some 6, none, .mv (.t 19)⟩])
          (.seq
            (.seq
              (.rg [⟨some 20, none, .mv (.t 6)⟩,
                ⟨some 21, none, .mv (.t 5)⟩,
                ⟨some 22, none, .call n_spec_TreeLong S_spec_TreeLong [(.t 21, [some 2])]⟩,
                ⟨some 23, none, .bin 0 .neq (.t 20) (.t 22)⟩,
                ⟨some 24, none, .mv (.t 23)⟩,
                ⟨some 25, some (24, false), .mv (.t 5)⟩,
                ⟨some 26, some (24, false), .call n_spec_VotesOk S_spec_VotesOk [(.t 25, [some 2])]⟩,
                ⟨some 27, some (24, false), .un .not (.t 26)⟩,
                ⟨some 28, none, .pick (.t 24) (.k (.bool true)) (.t 27)⟩])
              (.cond (.t 28)
                (.seq
                  (.rg [⟨some 29, none, .mv (.t 6)⟩,
                    ⟨some 30, none, .mv (.t 5)⟩,
                    ⟨some 31, none, .call n_spec_TreeLong S_spec_TreeLong [(.t 30, [some 2])]⟩,
                    ⟨some 32, none, .bin 0 .eql (.t 29) (.t 31)⟩,
                    ⟨some 4, none, .mv (.t 32)⟩])
                  .ret)
                .skip))
            (.seq
              (.rg [⟨some 33, none, .mv (.t 5)⟩,
                ⟨some 34, none, .mv (.t 1)⟩,
                ⟨some 35, none, .len (.t 34)⟩,
                ⟨some 36, none, .mv (.t 5)⟩,
                ⟨some 37, none, .len (.t 36)⟩,
                ⟨some 38, none, .bin 0 .add (.t 37) (.k (.int .i64 1))⟩,
                ⟨some 39, none, .bin 0 .rem (.t 35) (.t 38)⟩,
                ⟨some 40, none, .slc 2 (.t 33) none (some (.t 39)) none⟩,
                ⟨some 7, none, .mv (.t 40)⟩])
              (.seq
                (.rg [⟨some 41, none, .mv (.t 7)⟩,
                  ⟨some 42, none, .call n_impl_TreeLong S_impl_TreeLong [(.t 41, [some 2])]⟩,
                  ⟨some 43, none, .mv (.t 6)⟩,
                  ⟨some 44, none, .bin 0 .leq (.t 42) (.t 43)⟩,
                  ⟨some 45, none, .mv (.t 44)⟩,
                  ⟨some 46, some (45, true), .mv (.t 5)⟩,
                  ⟨some 47, some (45, true), .call n_laws_lwBack S_laws_lwBack [(.t 46, [some 2])]⟩,
                  ⟨some 48, some (45, true), .call n_impl_TreeLong S_impl_TreeLong [(.t 47, [some 2])]⟩,
                  ⟨some 49, some (45, true), .mv (.t 6)⟩,
                  ⟨some 50, some (45, true), .bin 0 .eql (.t 48) (.t 49)⟩,
                  ⟨some 51, none, .pick (.t 45) (.t 50) (.k (.bool false))⟩,
                  ⟨some 52, none, .mv (.t 51)⟩,
                  ⟨some 53, some (52, true), .mv (.t 6)⟩,
                  ⟨some 54, some (52, true), .bin 0 .geq (.t 53) (.k (.int .i64 0))⟩,
                  ⟨some 55, none, .pick (.t 52) (.t 54) (.k (.bool false))⟩,
                  ⟨some 4, none, .mv (.t 55)⟩])
                .ret))))))) }
theorem is_laws_FnLongMore : IsF Try.prog n_laws_FnLongMore c_laws_FnLongMore := ⟨Try.f4, _, Try.func4, rfl, by decide, rfl, by kernel_rfl, by kernel_rfl⟩
noncomputable def c_laws_FnSureBoth : FC := { n := 70, res := [⟨none, 4, []⟩], body :=
  (.seq
    (.rg [⟨some 4, none, .mv (.k (.bool false))⟩])
    (.seq
      (.seq
        (.rg [⟨some 10, none, .mv (.t 0)⟩,
          ⟨some 11, none, .len (.t 10)⟩,
          ⟨some 12, none, .bin 0 .gtr (.t 11) (.k (.int .i64 1048576))⟩,
          ⟨some 13, none, .mv (.t 12)⟩,
          ⟨some 14, some (13, false), .mv (.t 1)⟩,
          ⟨some 15, some (13, false), .len (.t 14)⟩,
          ⟨some 16, some (13, false), .bin 0 .gtr (.t 15) (.k (.int .i64 1048576))⟩,
          ⟨some 17, none, .pick (.t 13) (.k (.bool true)) (.t 16)⟩])
        (.cond (.t 17)
          (.seq
            (.rg [⟨some 4, none, .mv (.k (.bool true))⟩])
            .ret)
          .skip))
      (.seq
        (.rg [⟨some 18, none, .mv (.t 0)⟩,
          ⟨some 19, none, .call n_spec_DrawTreeAll S_spec_DrawTreeAll [(.t 18, [some 1])]⟩,
          ⟨some 5, none, .mv (.t 19)⟩])
        (.seq
          (.rg [⟨some 20, none, .mv (.t 5)⟩,
            ⟨some 21, none, .call n_impl_TreeAll S_impl_TreeAll [(.t 20, [some 2])]⟩,
            ⟨some 6, none, .mv (.t 21)⟩])
          (.seq
            (.rg [⟨some 22, none, .mv (.t 5)⟩,
              ⟨some 23, none, .call n_spec_TreeAll S_spec_TreeAll [(.t 22, [some 2])]⟩,
              ⟨some 7, none, .mv (.t 23)⟩])
            (.seq
              (.seq
                (.rg [⟨some 24, none, .mv (.t 6)⟩,
                  ⟨some 25, none, .len (.t 24)⟩,
                  ⟨some 26, none, .mv (.t 7)⟩,
                  ⟨some 27, none, .len (.t 26)⟩,
                  ⟨some 28, none, .bin 0 .neq (.t 25) (.t 27)⟩,
                  ⟨some 29, none, .mv (.t 28)⟩,
                  ⟨some 30, some (29, false), .mv (.t 6)⟩,
                  ⟨some 31, some (29, false), .len (.t 30)⟩,
                  ⟨some 32, some (29, false), .bin 0 .eql (.t 31) (.k (.int .i64 0))⟩,
                  ⟨some 33, none, .pick (.t 29) (.k (.bool true)) (.t 32)⟩])
                (.cond (.t 33)
                  (.seq
                    (.rg [⟨some 34, none, .mv (.t 6)⟩,
                      ⟨some 35, none, .len (.t 34)⟩,
                      ⟨some 36, none, .mv (.t 7)⟩,
                      ⟨some 37, none, .len (.t 36)⟩,
                      ⟨some 38, none, .bin 0 .eql (.t 35) (.t 37)⟩,
                      ⟨some 4, none, .mv (.t 38)⟩])
                    .ret)
                  .skip))
              (.seq
                (.rg [⟨some 39, none, .mv (.t 6)⟩,
                  ⟨some 40, none, .mv (.t 1)⟩,
                  ⟨some 41, none, .len (.t 40)⟩,
                  ⟨some 42, none, .mv (.t 6)⟩,
                  ⟨some 43, none, .len (.t 42)⟩,
                  ⟨some 44, none, .bin 0 .rem (.t 41) (.t 43)⟩,
                  ⟨some 45, none, .idx 1 (.t 39) (.t 44)⟩,
                  ⟨some 46, none, .load none (.t 45)⟩,
                  ⟨some 8, none, .mv (.t 46)⟩])
                (.seq
                  (.rg [⟨some 47, none, .mv (.t 6)⟩,
                    ⟨some 48, none, .mv (.t 1)⟩,
                    ⟨some 49, none, .len (.t 48)⟩,
                    ⟨some 50, none, .bin 0 .quo (.t 49) (.k (.int .i64 3))⟩,
                    ⟨some 51, none, .mv (.t 6)⟩,
                    ⟨some 52, none, .len (.t 51)⟩,
                    ⟨some 53, none, .bin 0 .rem (.t 50) (.t 52)⟩,
                    ⟨some 54, none, .idx 1 (.t 47) (.t 53)⟩,
                    ⟨some 55, none, .load none (.t 54)⟩,
                    ⟨some 9, none, .mv (.t 55)⟩])
                  (.seq
                    (.rg [⟨some 56, none, .mv (.t 6)⟩,
                      ⟨some 57, none, .mv (.t 8)⟩,
                      ⟨some 58, none, .mv (.t 9)⟩,
                      ⟨some 59, none, .call n_impl_ChainBoth S_impl_ChainBoth [(.t 57, [some 4]), (.t 58, [some 4])]⟩,
                      ⟨some 60, none, .call n_laws_lwAmong S_laws_lwAmong [(.t 56, [some 1]), (.t 59, [some 4])]⟩,
                      ⟨some 61, none, .mv (.t 60)⟩,
                      ⟨some 62, some (61, true), .mv (.t 6)⟩,
                      ⟨some 63, some (61, true), .mv (.t 8)⟩,
                      ⟨some 64, some (61, true), .mv (.t 8)⟩,
                      ⟨some 65, some (61, true), .len (.t 64)⟩,
                      ⟨some 66, some (61, true), .bin 0 .quo (.t 65) (.k (.int .i64 2))⟩,
                      ⟨some 67, some (61, true), .slc 4 (.t 63) none (some (.t 66)) none⟩,
                      ⟨some 68, some (61, true), .call n_laws_lwAmong S_laws_lwAmong [(.t 62, [some 1]), (.t 67, [some 4])]⟩,
                      ⟨some 69, none, .pick (.t 61) (.t 68) (.k (.bool false))⟩,
                      ⟨some 4, none, .mv (.t 69)⟩])
                    .ret))))))))) }
theorem is_laws_FnSureBoth : IsF Try.prog n_laws_FnSureBoth c_laws_FnSureBoth := ⟨Try.f5, _, Try.func5, rfl, by decide, rfl, by kernel_rfl, by kernel_rfl⟩
noncomputable def c_laws_FnTreeNone : FC := { n := 95, res := [⟨none, 4, []⟩], body :=
  (.seq
    (.rg [⟨some 4, none, .mv (.k (.bool false))⟩])
    (.seq
      (.seq
        (.rg [⟨some 12, none, .mv (.t 0)⟩,
          ⟨some 13, none, .len (.t 12)⟩,
          ⟨some 14, none, .bin 0 .gtr (.t 13) (.k (.int .i64 1048576))⟩,
          ⟨some 15, none, .mv (.t 14)⟩,
          ⟨some 16, some (15, false), .mv (.t 1)⟩,
          ⟨some 17, some (15, false), .len (.t 16)⟩,
          ⟨some 18, some (15, false), .bin 0 .gtr (.t 17) (.k (.int .i64 1048576))⟩,
          ⟨some 19, none, .pick (.t 15) (.k (.bool true)) (.t 18)⟩])
        (.cond (.t 19)
          (.seq
            (.rg [⟨some 4, none, .mv (.k (.bool true))⟩])
            .ret)
          .skip))
      (.seq
        (.rg [⟨some 20, none, .mv (.t 0)⟩,
          ⟨some 21, none, .call n_spec_DrawTreeAll S_spec_DrawTreeAll [(.t 20, [some 1])]⟩,
          ⟨some 5, none, .mv (.t 21)⟩])
        (.seq
          (.rg [⟨some 22, none, .mv (.t 5)⟩,
            ⟨some 23, none, .call n_impl_TreeAll S_impl_TreeAll [(.t 22, [some 2])]⟩,
            ⟨some 6, none, .mv (.t 23)⟩])
          (.seq
            (.rg [⟨some 24, none, .mv (.t 5)⟩,
              ⟨some 25, none, .call n_spec_TreeAll S_spec_TreeAll [(.t 24, [some 2])]⟩,
              ⟨some 7, none, .mv (.t 25)⟩])
            (.seq
              (.seq
                (.rg [⟨some 26, none, .mv (.t 6)⟩,
                  ⟨some 27, none, .len (.t 26)⟩,
                  ⟨some 28, none, .mv (.t 7)⟩,
                  ⟨some 29, none, .len (.t 28)⟩,
                  ⟨some 30, none, .bin 0 .neq (.t 27) (.t 29)⟩,
                  ⟨some 31, none, .mv (.t 30)⟩,
                  ⟨some 32, some (31, false), .mv (.t 5)⟩,
                  ⟨some 33, some (31, false), .call n_spec_VotesOk S_spec_VotesOk [(.t 32, [some 2])]⟩,
                  ⟨some 34, some (31, false), .un .not (.t 33)⟩,
                  ⟨some 35, none, .pick (.t 31) (.k (.bool true)) (.t 34)⟩])
                (.cond (.t 35)
                  (.seq
                    (.rg [⟨some 36, none, .mv (.t 6)⟩,
                      ⟨some 37, none, .len (.t 36)⟩,
                      ⟨some 38, none, .mv (.t 7)⟩,
                      ⟨some 39, none, .len (.t 38)⟩,
                      ⟨some 40, none, .bin 0 .eql (.t 37) (.t 39)⟩,
                      ⟨some 4, none, .mv (.t 40)⟩])
                    .ret)
                  .skip))
              (.seq
                (.rg [⟨some 41, none, .mv (.t 1)⟩,
                  ⟨some 42, none, .len (.t 41)⟩,
                  ⟨some 43, none, .bin 0 .rem (.t 42) (.k (.int .i64 4))⟩,
                  ⟨some 44, none, .bin 0 .add (.k (.int .i64 1)) (.t 43)⟩,
                  ⟨some 8, none, .mv (.t 44)⟩])
                (.seq
                  (.rg [⟨some 45, none, .mv (.t 1)⟩,
                    ⟨some 46, none, .len (.t 45)⟩,
                    ⟨some 47, none, .bin 0 .quo (.t 46) (.k (.int .i64 2))⟩,
                    ⟨some 48, none, .bin 0 .rem (.t 47) (.k (.int .i64 4))⟩,
                    ⟨some 49, none, .bin 0 .add (.k (.int .i64 1)) (.t 48)⟩,
                    ⟨some 9, none, .mv (.t 49)⟩])
                  (.seq
                    (.rg [⟨some 50, none, .bsl 37 2 []⟩,
                      ⟨some 10, none, .mv (.t 50)⟩])
                    (.seq
                      (.seq
                        (.rg [⟨some 11, none, .mv (.k (.int .i64 0))⟩])
                        (.block 0
                          (.loop
                            (.seq
                              (.seq
                                (.rg [⟨some 51, none, .mv (.t 11)⟩,
                                  ⟨some 52, none, .mv (.t 5)⟩,
                                  ⟨some 53, none, .len (.t 52)⟩,
                                  ⟨some 54, none, .bin 0 .lss (.t 51) (.t 53)⟩])
                                (.cond (.t 54)
                                  .skip
                                  (.exit 0)))
                              (.seq
                                (.block 1
                                  (.seq
                                    (.rg [⟨some 57, none, .mv (.t 5)⟩,
                                      ⟨some 58, none, .mv (.t 11)⟩,
                                      ⟨some 59, none, .idx 2 (.t 57) (.t 58)⟩,
                                      ⟨some 60, none, .fld 0 (.t 59)⟩,
                                      ⟨some 61, none, .load none (.t 60)⟩,
                                      ⟨some 62, none, .mv (.t 8)⟩,
                                      ⟨some 63, none, .bin 0 .eql (.t 61) (.t 62)⟩,
                                      ⟨some 64, none, .mv (.t 63)⟩,
                                      ⟨some 65, some (64, false), .mv (.t 5)⟩,
                                      ⟨some 66, some (64, false), .mv (.t 11)⟩,
                                      ⟨some 67, some (64, false), .idx 2 (.t 65) (.t 66)⟩,
                                      ⟨some 68, some (64, false), .fld 0 (.t 67)⟩,
                                      ⟨some 69, some (64, false), .load none (.t 68)⟩,
                                      ⟨some 70, some (64, false), .mv (.t 9)⟩,
                                      ⟨some 71, some (64, false), .bin 0 .eql (.t 69) (.t 70)⟩,
                                      ⟨some 72, none, .pick (.t 64) (.k (.bool true)) (.t 71)⟩])
                                    (.cond (.t 72)
                                      (.rg [⟨some 73, none, .mv (.t 10)⟩,
                                        ⟨some 74, none, .mv (.t 5)⟩,
                                        ⟨some 75, none, .mv (.t 11)⟩,
                                        ⟨some 76, none, .idx 2 (.t 74) (.t 75)⟩,
                                        ⟨some 77, none, .load (some 2) (.t 76)⟩,
                                        ⟨some 78, none, .bsl 37 2 [.t 77]⟩,
                                        ⟨some 79, none, .app 37 2 32 [.int .i64 0, .slice none 0 0] (.t 73) (.t 78)⟩,
                                        ⟨some 10, none, .mv (.t 79)⟩])
                                      .skip)))
                                (.rg [⟨some 55, none, .mv (.t 11)⟩,
                                  ⟨some 56, none, .bin 0 .add (.t 55) (.k (.int .i64 1))⟩,
                                  ⟨some 11, none, .mv (.t 56)⟩]))))))
                      (.seq
                        (.frz 10 (.rg [⟨some 80, none, .mv (.t 10)⟩,
                          ⟨some 81, none, .call n_impl_TreeAll S_impl_TreeAll [(.t 80, [some 2])]⟩,
                          ⟨some 82, none, .len (.t 81)⟩,
                          ⟨some 83, none, .bin 0 .eql (.t 82) (.k (.int .i64 1))⟩,
                          ⟨some 84, none, .mv (.t 83)⟩,
                          ⟨some 85, some (84, true), .mv (.t 10)⟩,
                          ⟨some 86, some (84, true), .call n_impl_TreeFinal S_impl_TreeFinal [(.t 85, [some 2])]⟩,
                          ⟨some 87, some (84, true), .len (.t 86)⟩,
                          ⟨some 88, some (84, true), .bin 0 .eql (.t 87) (.k (.int .i64 0))⟩,
                          ⟨some 89, none, .pick (.t 84) (.t 88) (.k (.bool false))⟩,
                          ⟨some 90, none, .mv (.t 89)⟩,
                          ⟨some 91, some (90, true), .mv (.t 10)⟩,
                          ⟨some 92, some (90, true), .call n_impl_TreeLong S_impl_TreeLong [(.t 91, [some 2])]⟩,
                          ⟨some 93, some (90, true), .bin 0 .eql (.t 92) (.k (.int .i64 0))⟩,
                          ⟨some 94, none, .pick (.t 90) (.t 93) (.k (.bool false))⟩,
                          ⟨some 4, none, .mv (.t 94)⟩]))
                        .ret))))))))))) }
theorem is_laws_FnTreeNone : IsF Try.prog n_laws_FnTreeNone c_laws_FnTreeNone := ⟨Try.f6, _, Try.func6, rfl, by decide, rfl, by kernel_rfl, by kernel_rfl⟩
noncomputable def c_laws_FnTipLongest : FC := { n := 90, res := [⟨none, 2, []⟩], body :=
  (.seq
    (.rg [⟨some 2, none, .mv (.k (.bool false))⟩])
    (.seq
      (.seq
        (.rg [⟨some 8, none, .mv (.t 0)⟩,
          ⟨some 9, none, .len (.t 8)⟩,
          ⟨some 10, none, .bin 0 .gtr (.t 9) (.k (.int .i64 1048576))⟩])
        (.cond (.t 10)
          (.seq
            (.rg [⟨some 2, none, .mv (.k (.bool true))⟩])
            .ret)
          .skip))
      (.seq
        (.rg [⟨some 11, none, .mv (.t 0)⟩,
          ⟨some 12, none, .call n_spec_DrawTreeTip S_spec_DrawTreeTip [(.t 11, [some 1])]⟩,
          ⟨some 3, none, .mv (.t 12)⟩])
        (.seq
          (.rg [⟨some 13, none, .mv (.t 3)⟩,
            ⟨some 14, none, .call n_impl_TreeTip S_impl_TreeTip [(.t 13, [some 2])]⟩,
            ⟨some 4, none, .mv (.t 14)⟩])
          (.seq
            (.seq
              (.rg [⟨some 15, none, .mv (.t 4)⟩,
                ⟨some 16, none, .mv (.t 3)⟩,
                ⟨some 17, none, .call n_spec_TreeTip S_spec_TreeTip [(.t 16, [some 2])]⟩,
                ⟨some 18, none, .call n_laws_lwSame S_laws_lwSame [(.t 15, [some 4]), (.t 17, [some 4])]⟩,
                ⟨some 19, none, .un .not (.t 18)⟩,
                ⟨some 20, none, .mv (.t 19)⟩,
                ⟨some 21, some (20, false), .mv (.t 3)⟩,
                ⟨some 22, some (20, false), .call n_spec_VotesOk S_spec_VotesOk [(.t 21, [some 2])]⟩,
                ⟨some 23, some (20, false), .un .not (.t 22)⟩,
                ⟨some 24, none, .pick (.t 20) (.k (.bool true)) (.t 23)⟩])
              (.cond (.t 24)
                (.seq
                  (.rg [⟨some 25, none, .mv (.t 4)⟩,
                    ⟨some 26, none, .mv (.t 3)⟩,
                    ⟨some 27, none, .call n_spec_TreeTip S_spec_TreeTip [(.t 26, [some 2])]⟩,
                    ⟨some 28, none, .call n_laws_lwSame S_laws_lwSame [(.t 25, [some 4]), (.t 27, [some 4])]⟩,
                    ⟨some 2, none, .mv (.t 28)⟩])
                  .ret)
                .skip))
            (.seq
              (.rg [⟨some 29, none, .mv (.t 3)⟩,
                ⟨some 30, none, .call n_impl_TreeAll S_impl_TreeAll [(.t 29, [some 2])]⟩,
                ⟨some 5, none, .mv (.t 30)⟩])
              (.seq
                (.rg [⟨some 6, none, .mv (.k (.bool false))⟩])
                (.seq
                  (.seq
                    (.rg [⟨some 7, none, .mv (.k (.int .i64 0))⟩])
                    (.block 0
                      (.loop
                        (.seq
                          (.seq
                            (.rg [⟨some 31, none, .mv (.t 7)⟩,
                              ⟨some 32, none, .mv (.t 5)⟩,
                              ⟨some 33, none, .len (.t 32)⟩,
                              ⟨some 34, none, .bin 0 .lss (.t 31) (.t 33)⟩])
                            (.cond (.t 34)
                              .skip
                              (.exit 0)))
                          (.seq
                            (.block 1
                              (.seq
                                (.seq
                                  (.rg [⟨some 37, none, .mv (.t 5)⟩,
                                    ⟨some 38, none, .mv (.t 7)⟩,
                                    ⟨some 39, none, .idx 1 (.t 37) (.t 38)⟩,
                                    ⟨some 40, none, .load none (.t 39)⟩,
                                    ⟨some 41, none, .len (.t 40)⟩,
                                    ⟨some 42, none, .mv (.t 4)⟩,
                                    ⟨some 43, none, .len (.t 42)⟩,
                                    ⟨some 44, none, .bin 0 .gtr (.t 41) (.t 43)⟩,
                                    ⟨some 45, none, .mv (.t 44)⟩,
                                    ⟨some 46, some (45, false), .mv (.t 6)⟩,
                                    ⟨some 47, some (45, false), .un .not (.t 46)⟩,
                                    ⟨some 48, some (45, false), .mv (.t 47)⟩,
                                    ⟨some 49, some (48, true), .mv (.t 5)⟩,
                                    ⟨some 50, some (48, true), .mv (.t 7)⟩,
                                    ⟨some 51, some (48, true), .idx 1 (.t 49) (.t 50)⟩,
                                    ⟨some 52, some (48, true), .load none (.t 51)⟩,
                                    ⟨some 53, some (48, true), .len (.t 52)⟩,
                                    ⟨some 54, some (48, true), .mv (.t 4)⟩,
                                    ⟨some 55, some (48, true), .len (.t 54)⟩,
                                    ⟨some 56, some (48, true), .bin 0 .eql (.t 53) (.t 55)⟩,
                                    ⟨some 57, some (45, false), .pick (.t 48) (.t 56) (.k (.bool false))⟩,
                                    ⟨some 58, some (45, false), .mv (.t 57)⟩,
                                    ⟨some 59, some (58, true), .mv (.t 5)⟩,
                                    ⟨some 60, some (58, true), .mv (.t 7)⟩,
                                    ⟨some 61, some (58, true), .idx 1 (.t 59) (.t 60)⟩,
                                    ⟨some 62, some (58, true), .load none (.t 61)⟩,
                                    ⟨some 63, some (58, true), .mv (.t 4)⟩,
                                    ⟨some 64, some (58, true), .call n_laws_lwSame S_laws_lwSame [(.t 62, [some 4]), (.t 63, [some 4])]⟩,
                                    ⟨some 65, some (58, true), .un .not (.t 64)⟩,
                                    ⟨some 66, some (45, false), .pick (.t 58) (.t 65) (.k (.bool false))⟩,
                                    ⟨some 67, none, .pick (.t 45) (.k (.bool true)) (.t 66)⟩])
                                  (.cond (.t 67)
                                    (.seq
                                      (.rg [⟨some 2, none, .mv (.k (.bool false))⟩])
                                      .ret)
                                    .skip))
                                (.rg [⟨some 68, none, .mv (.t 6)⟩,
                                  ⟨some 69, none, .mv (.t 68)⟩,
                                  ⟨some 70, some (69, false), .mv (.t 5)⟩,
                                  ⟨some 71, some (69, false), .mv (.t 7)⟩,
                                  ⟨some 72, some (69, false), .idx 1 (.t 70) (.t 71)⟩,
                                  ⟨some 73, some (69, false), .load none (.t 72)⟩,
                                  ⟨some 74, some (69, false), .mv (.t 4)⟩,
                                  ⟨some 75, some (69, false), .call n_laws_lwSame S_laws_lwSame [(.t 73, [some 4]), (.t 74, [some 4])]⟩,
                                  ⟨some 76, none, .pick (.t 69) (.k (.bool true)) (.t 75)⟩,
                                  ⟨some 6, none, .mv (.t 76)⟩])))
                            (.rg [⟨some 35, none, .mv (.t 7)⟩,
                              ⟨some 36, none, .bin 0 .add (.t 35) (.k (.int .i64 1))⟩,
                              ⟨some 7, none, .mv (.t 36)⟩]))))))
                  (.seq
                    (.rg [⟨some 77, none, .mv (.t 6)⟩,
                      ⟨some 78, none, .mv (.t 77)⟩,
                      ⟨some 79, some (78, true), .mv (.t 3)⟩,
                      ⟨some 80, some (78, true), .mv (.t 4)⟩,
                      ⟨some 81, some (78, true), .call n_impl_TreeSure S_impl_TreeSure [(.t 79, [some 2]), (.t 80, [some 4])]⟩,
                      ⟨some 82, none, .pick (.t 78) (.t 81) (.k (.bool false))⟩,
                      ⟨some 83, none, .mv (.t 82)⟩,
                      ⟨some 84, some (83, true), .mv (.t 3)⟩,
                      ⟨some 85, some (83, true), .call n_impl_TreeLong S_impl_TreeLong [(.t 84, [some 2])]⟩,
                      ⟨some 86, some (83, true), .mv (.t 4)⟩,
                      ⟨some 87, some (83, true), .len (.t 86)⟩,
                      ⟨some 88, some (83, true), .bin 0 .eql (.t 85) (.t 87)⟩,
                      ⟨some 89, none, .pick (.t 83) (.t 88) (.k (.bool false))⟩,
                      ⟨some 2, none, .mv (.t 89)⟩])
                    .ret))))))))) }
theorem is_laws_FnTipLongest : IsF Try.prog n_laws_FnTipLongest c_laws_FnTipLongest := ⟨Try.f7, _, Try.func7, rfl, by decide, rfl, by kernel_rfl, by kernel_rfl⟩
noncomputable def c_laws_FnFinalThree : FC := { n := 112, res := [⟨none, 4, []⟩], body :=
  (.seq
    (.rg [⟨some 4, none, .mv (.k (.bool false))⟩])
    (.seq
      (.seq
        (.rg [⟨some 15, none, .mv (.t 0)⟩,
          ⟨some 16, none, .len (.t 15)⟩,
          ⟨some 17, none, .bin 0 .gtr (.t 16) (.k (.int .i64 1048576))⟩,
          ⟨some 18, none, .mv (.t 17)⟩,
          ⟨some 19, some (18, false), .mv (.t 1)⟩,
          ⟨some 20, some (18, false), .len (.t 19)⟩,
          ⟨some 21, some (18, false), .bin 0 .gtr (.t 20) (.k (.int .i64 1048576))⟩,
          ⟨some 22, none, .pick (.t 18) (.k (.bool true)) (.t 21)⟩])
        (.cond (.t 22)
          (.seq
            (.rg [⟨some 4, none, .mv (.k (.bool true))⟩])
            .ret)
          .skip))
      (.seq
        (.rg [⟨some 23, none, .mv (.t 0)⟩,
          ⟨some 24, none, .call n_spec_DrawTreeFinal S_spec_DrawTreeFinal [(.t 23, [some 1])]⟩,
          ⟨some 5, none, .mv (.t 24)⟩])
        (.seq
          (.rg [⟨some 25, none, .mv (.t 5)⟩,
            ⟨some 26, none, .call n_impl_TreeFinal S_impl_TreeFinal [(.t 25, [some 2])]⟩,
            ⟨some 6, none, .mv (.t 26)⟩])
          (.seq
            (.seq
              (.rg [⟨some 27, none, .mv (.t 6)⟩,
                ⟨some 28, none, .mv (.t 5)⟩,
                ⟨some 29, none, .call n_spec_TreeFinal S_spec_TreeFinal [(.t 28, [some 2])]⟩,
                ⟨some 30, none, .call n_laws_lwSame S_laws_lwSame [(.t 27, [some 4]), (.t 29, [some 4])]⟩,
                ⟨some 31, none, .un .not (.t 30)⟩])
              (.cond (.t 31)
                (.seq
                  (.rg [⟨some 4, none, .mv (.k (.bool false))⟩])
                  .ret)
                .skip))
            (.seq
              (.rg [⟨some 32, none, .mv (.t 1)⟩,
                ⟨some 33, none, .len (.t 32)⟩,
                ⟨some 34, none, .bin 0 .rem (.t 33) (.k (.int .i64 20))⟩,
                ⟨some 35, none, .bin 0 .add (.k (.int .i64 1)) (.t 34)⟩,
                ⟨some 7, none, .mv (.t 35)⟩])
              (.seq
                (.rg [⟨some 36, none, .build [.int .i64 0, .int .i64 0, .int .i64 0] [(0, 1, .k (.int .i64 1)), (1, 1, .k (.int .i64 3)), (2, 1, .k (.int .i64 1))]⟩,
                  ⟨some 8, none, .alloc [.int .i64 0, .int .i64 0, .int .i64 0]⟩,
                  ⟨none, none, .store 3 (.t 8) (.t 36)⟩])
                (.seq
                  (.rg [⟨some 37, none, .mv (.t 7)⟩,
                    ⟨some 38, none, .load (some 3) (.t 8)⟩,
                    ⟨some 39, none, .build [.int .i64 0, .int .i64 0, .int .i64 0, .int .i64 0] [(0, 1, .t 37), (1, 3, .t 38)]⟩,
                    ⟨some 40, none, .mv (.t 7)⟩,
                    ⟨some 41, none, .bin 0 .add (.t 40) (.k (.int .i64 1))⟩,
                    ⟨some 42, none, .load (some 3) (.t 8)⟩,
                    ⟨some 43, none, .build [.int .i64 0, .int .i64 0, .int .i64 0, .int .i64 0] [(0, 1, .t 41), (1, 3, .t 42)]⟩,
                    ⟨some 44, none, .mv (.t 7)⟩,
                    ⟨some 45, none, .bin 0 .add (.t 44) (.k (.int .i64 2))⟩,
                    ⟨some 46, none, .load (some 3) (.t 8)⟩,
                    ⟨some 47, none, .build [.int .i64 0, .int .i64 0, .int .i64 0, .int .i64 0] [(0, 1, .t 45), (1, 3, .t 46)]⟩,
                    ⟨some 48, none, .bsl 43 4 [.t 39, .t 43, .t 47]⟩,
                    ⟨some 9, none, .mv (.t 48)⟩])
                  (.seq
                    (.rg [⟨some 49, none, .mv (.t 7)⟩,
                      ⟨some 50, none, .load (some 3) (.t 8)⟩,
                      ⟨some 51, none, .build [.int .i64 0, .int .i64 0, .int .i64 0, .int .i64 0] [(0, 1, .t 49), (1, 3, .t 50)]⟩,
                      ⟨some 52, none, .mv (.t 7)⟩,
                      ⟨some 53, none, .bin 0 .add (.t 52) (.k (.int .i64 1))⟩,
                      ⟨some 54, none, .load (some 3) (.t 8)⟩,
                      ⟨some 55, none, .build [.int .i64 0, .int .i64 0, .int .i64 0, .int .i64 0] [(0, 1, .t 53), (1, 3, .t 54)]⟩,
                      ⟨some 56, none, .mv (.t 7)⟩,
                      ⟨some 57, none, .bin 0 .add (.t 56) (.k (.int .i64 3))⟩,
                      ⟨some 58, none, .load (some 3) (.t 8)⟩,
                      ⟨some 59, none, .build [.int .i64 0, .int .i64 0, .int .i64 0, .int .i64 0] [(0, 1, .t 57), (1, 3, .t 58)]⟩,
                      ⟨some 60, none, .bsl 43 4 [.t 51, .t 55, .t 59]⟩,
                      ⟨some 10, none, .mv (.t 60)⟩])
                    (.seq
                      (.frz 9 (.frz 10 (.rg [⟨some 61, none, .bsl 37 2 []⟩,
                        ⟨some 11, none, .mv (.t 61)⟩])))
                      (.seq
                        (.rg [⟨some 62, none, .bsl 37 2 []⟩,
                          ⟨some 12, none, .mv (.t 62)⟩])
                        (.seq
                          (.seq
                            (.rg [⟨some 13, none, .mv (.k (.int .i64 1))⟩])
                            (.block 0
                              (.loop
                                (.seq
                                  (.seq
                                    (.rg [⟨some 63, none, .mv (.t 13)⟩,
                                      ⟨some 64, none, .bin 0 .leq (.t 63) (.k (.int .i64 3))⟩])
                                    (.cond (.t 64)
                                      .skip
                                      (.exit 0)))
                                  (.seq
                                    (.block 1
                                      (.seq
                                        (.rg [⟨some 14, none, .mv (.k (.int .i64 2))⟩])
                                        (.block 2
                                          (.loop
                                            (.seq
                                              (.seq
                                                (.rg [⟨some 67, none, .mv (.t 14)⟩,
                                                  ⟨some 68, none, .bin 0 .leq (.t 67) (.k (.int .i64 4))⟩])
                                                (.cond (.t 68)
                                                  .skip
                                                  (.exit 2)))
                                              (.seq
                                                (.block 3
                                                  (.seq
                                                    (.rg [⟨some 71, none, .mv (.t 11)⟩,
                                                      ⟨some 72, none, .mv (.t 14)⟩,
                                                      ⟨some 73, none, .mv (.t 9)⟩,
                                                      ⟨some 74, none, .mv (.t 13)⟩,
                                                      ⟨some 75, none, .slc 4 (.t 73) none (some (.t 74)) none⟩,
                                                      ⟨some 76, none, .build [.int .i64 0, .slice none 0 0] [(0, 1, .t 72), (1, 1, .t 75)]⟩,
                                                      ⟨some 77, none, .bsl 37 2 [.t 76]⟩,
                                                      ⟨some 78, none, .app 37 2 32 [.int .i64 0, .slice none 0 0] (.t 71) (.t 77)⟩,
                                                      ⟨some 11, none, .mv (.t 78)⟩])
                                                    (.rg [⟨some 79, none, .mv (.t 12)⟩,
                                                      ⟨some 80, none, .mv (.t 14)⟩,
                                                      ⟨some 81, none, .mv (.t 10)⟩,
                                                      ⟨some 82, none, .mv (.t 13)⟩,
                                                      ⟨some 83, none, .slc 4 (.t 81) none (some (.t 82)) none⟩,
                                                      ⟨some 84, none, .build [.int .i64 0, .slice none 0 0] [(0, 1, .t 80), (1, 1, .t 83)]⟩,
                                                      ⟨some 85, none, .bsl 37 2 [.t 84]⟩,
                                                      ⟨some 86, none, .app 37 2 32 [.int .i64 0, .slice none 0 0] (.t 79) (.t 85)⟩,
                                                      ⟨some 12, none, .mv (.t 86)⟩])))
                                                (.rg [⟨some 69, none, .mv (.t 14)⟩,
                                                  ⟨some 70, none, .bin 0 .add (.t 69) (.k (.int .i64 1))⟩,
                                                  ⟨some 14, none, .mv (.t 70)⟩])))))))
                                    (.rg [⟨some 65, none, .mv (.t 13)⟩,
                                      ⟨some 66, none, .bin 0 .add (.t 65) (.k (.int .i64 1))⟩,
                                      ⟨some 13, none, .mv (.t 66)⟩]))))))
                          (.seq
                            (.frz 11 (.frz 12 (.rg [⟨some 87, none, .mv (.t 11)⟩,
                              ⟨some 88, none, .call n_impl_TreeFinal S_impl_TreeFinal [(.t 87, [some 2])]⟩,
                              ⟨some 89, none, .mv (.t 9)⟩,
                              ⟨some 90, none, .slc 4 (.t 89) none (some (.k (.int .i64 2))) none⟩,
                              ⟨some 91, none, .call n_laws_lwSame S_laws_lwSame [(.t 88, [some 4]), (.t 90, [some 4])]⟩,
                              ⟨some 92, none, .mv (.t 91)⟩,
                              ⟨some 93, some (92, true), .mv (.t 12)⟩,
                              ⟨some 94, some (92, true), .call n_impl_TreeFinal S_impl_TreeFinal [(.t 93, [some 2])]⟩,
                              ⟨some 95, some (92, true), .len (.t 94)⟩,
                              ⟨some 96, some (92, true), .bin 0 .eql (.t 95) (.k (.int .i64 0))⟩,
                              ⟨some 97, none, .pick (.t 92) (.t 96) (.k (.bool false))⟩,
                              ⟨some 98, none, .mv (.t 97)⟩,
                              ⟨some 99, some (98, true), .mv (.t 11)⟩,
                              ⟨some 100, some (98, true), .slc 2 (.t 99) (some (.k (.int .i64 1))) none none⟩,
                              ⟨some 101, some (98, true), .call n_impl_TreeFinal S_impl_TreeFinal [(.t 100, [some 2])]⟩,
                              ⟨some 102, some (98, true), .len (.t 101)⟩,
                              ⟨some 103, some (98, true), .bin 0 .eql (.t 102) (.k (.int .i64 0))⟩,
                              ⟨some 104, none, .pick (.t 98) (.t 103) (.k (.bool false))⟩,
                              ⟨some 105, none, .mv (.t 104)⟩,
                              ⟨some 106, some (105, true), .mv (.t 11)⟩,
                              ⟨some 107, some (105, true), .slc 2 (.t 106) none (some (.k (.int .i64 8))) none⟩,
                              ⟨some 108, some (105, true), .call n_impl_TreeFinal S_impl_TreeFinal [(.t 107, [some 2])]⟩,
                              ⟨some 109, some (105, true), .len (.t 108)⟩,
                              ⟨some 110, some (105, true), .bin 0 .eql (.t 109) (.k (.int .i64 0))⟩,
                              ⟨some 111, none, .pick (.t 105) (.t 110) (.k (.bool false))⟩,
                              ⟨some 4, none, .mv (.t 111)⟩])))
                            .ret))))))))))))) }
theorem is_laws_FnFinalThree : IsF Try.prog n_laws_FnFinalThree c_laws_FnFinalThree := ⟨Try.f8, _, Try.func8, rfl, by decide, rfl, by kernel_rfl, by kernel_rfl⟩
noncomputable def c_laws_FnFinalMost : FC := { n := 83, res := [⟨none, 2, []⟩], body :=
  (.seq
    (.rg [⟨some 2, none, .mv (.k (.bool false))⟩])
    (.seq
      (.seq
        (.rg [⟨some 9, none, .mv (.t 0)⟩,
          ⟨some 10, none, .len (.t 9)⟩,
          ⟨some 11, none, .bin 0 .gtr (.t 10) (.k (.int .i64 1048576))⟩])
        (.cond (.t 11)
          (.seq
            (.rg [⟨some 2, none, .mv (.k (.bool true))⟩])
            .ret)
          .skip))
      (.seq
        (.rg [⟨some 12, none, .mv (.t 0)⟩,
          ⟨some 13, none, .call n_spec_DrawTreeFinal S_spec_DrawTreeFinal [(.t 12, [some 1])]⟩,
          ⟨some 3, none, .mv (.t 13)⟩])
        (.seq
          (.rg [⟨some 14, none, .mv (.t 3)⟩,
            ⟨some 15, none, .call n_impl_TreeFinal S_impl_TreeFinal [(.t 14, [some 2])]⟩,
            ⟨some 4, none, .mv (.t 15)⟩])
          (.seq
            (.seq
              (.rg [⟨some 16, none, .mv (.t 4)⟩,
                ⟨some 17, none, .mv (.t 3)⟩,
                ⟨some 18, none, .call n_spec_TreeFinal S_spec_TreeFinal [(.t 17, [some 2])]⟩,
                ⟨some 19, none, .call n_laws_lwSame S_laws_lwSame [(.t 16, [some 4]), (.t 18, [some 4])]⟩,
                ⟨some 20, none, .un .not (.t 19)⟩,
                ⟨some 21, none, .mv (.t 20)⟩,
                ⟨some 22, some (21, false), .mv (.t 3)⟩,
                ⟨some 23, some (21, false), .call n_spec_VotesOk S_spec_VotesOk [(.t 22, [some 2])]⟩,
                ⟨some 24, some (21, false), .un .not (.t 23)⟩,
                ⟨some 25, none, .pick (.t 21) (.k (.bool true)) (.t 24)⟩])
              (.cond (.t 25)
                (.seq
                  (.rg [⟨some 26, none, .mv (.t 4)⟩,
                    ⟨some 27, none, .mv (.t 3)⟩,
                    ⟨some 28, none, .call n_spec_TreeFinal S_spec_TreeFinal [(.t 27, [some 2])]⟩,
                    ⟨some 29, none, .call n_laws_lwSame S_laws_lwSame [(.t 26, [some 4]), (.t 28, [some 4])]⟩,
                    ⟨some 2, none, .mv (.t 29)⟩])
                  .ret)
                .skip))
            (.seq
              (.rg [⟨some 30, none, .mv (.t 3)⟩,
                ⟨some 31, none, .call n_impl_TreeAll S_impl_TreeAll [(.t 30, [some 2])]⟩,
                ⟨some 5, none, .mv (.t 31)⟩])
              (.seq
                (.seq
                  (.rg [⟨some 6, none, .mv (.k (.int .i64 0))⟩])
                  (.block 0
                    (.loop
                      (.seq
                        (.seq
                          (.rg [⟨some 32, none, .mv (.t 6)⟩,
                            ⟨some 33, none, .mv (.t 5)⟩,
                            ⟨some 34, none, .len (.t 33)⟩,
                            ⟨some 35, none, .bin 0 .lss (.t 32) (.t 34)⟩])
                          (.cond (.t 35)
                            .skip
                            (.exit 0)))
                        (.seq
                          (.block 1
                            (.seq
                              (.rg [⟨some 38, none, .mv (.t 5)⟩,
                                ⟨some 39, none, .mv (.t 6)⟩,
                                ⟨some 40, none, .idx 1 (.t 38) (.t 39)⟩,
                                ⟨some 41, none, .load none (.t 40)⟩,
                                ⟨some 7, none, .mv (.t 41)⟩])
                              (.seq
                                (.rg [⟨some 8, none, .mv (.k (.int .i64 2))⟩])
                                (.block 2
                                  (.loop
                                    (.seq
                                      (.seq
                                        (.rg [⟨some 42, none, .mv (.t 8)⟩,
                                          ⟨some 43, none, .mv (.t 7)⟩,
                                          ⟨some 44, none, .len (.t 43)⟩,
                                          ⟨some 45, none, .bin 0 .lss (.t 42) (.t 44)⟩])
                                        (.cond (.t 45)
                                          .skip
                                          (.exit 2)))
                                      (.seq
                                        (.block 3
                                          (.seq
                                            (.rg [⟨some 48, none, .mv (.t 7)⟩,
                                              ⟨some 49, none, .mv (.t 8)⟩,
                                              ⟨some 50, none, .bin 0 .sub (.t 49) (.k (.int .i64 2))⟩,
                                              ⟨some 51, none, .idx 4 (.t 48) (.t 50)⟩,
                                              ⟨some 52, none, .fld 0 (.t 51)⟩,
                                              ⟨some 53, none, .load none (.t 52)⟩,
                                              ⟨some 54, none, .bin 0 .add (.t 53) (.k (.int .i64 1))⟩,
                                              ⟨some 55, none, .mv (.t 7)⟩,
                                              ⟨some 56, none, .mv (.t 8)⟩,
                                              ⟨some 57, none, .bin 0 .sub (.t 56) (.k (.int .i64 1))⟩,
                                              ⟨some 58, none, .idx 4 (.t 55) (.t 57)⟩,
                                              ⟨some 59, none, .fld 0 (.t 58)⟩,
                                              ⟨some 60, none, .load none (.t 59)⟩,
                                              ⟨some 61, none, .bin 0 .eql (.t 54) (.t 60)⟩,
                                              ⟨some 62, none, .mv (.t 61)⟩,
                                              ⟨some 63, some (62, true), .mv (.t 7)⟩,
                                              ⟨some 64, some (62, true), .mv (.t 8)⟩,
                                              ⟨some 65, some (62, true), .bin 0 .sub (.t 64) (.k (.int .i64 1))⟩,
                                              ⟨some 66, some (62, true), .idx 4 (.t 63) (.t 65)⟩,
                                              ⟨some 67, some (62, true), .fld 0 (.t 66)⟩,
                                              ⟨some 68, some (62, true), .load none (.t 67)⟩,
                                              ⟨some 69, some (62, true), .bin 0 .add (.t 68) (.k (.int .i64 1))⟩,
                                              ⟨some 70, some (62, true), .mv (.t 7)⟩,
                                              ⟨some 71, some (62, true), .mv (.t 8)⟩,
                                              ⟨some 72, some (62, true), .idx 4 (.t 70) (.t 71)⟩,
                                              ⟨some 73, some (62, true), .fld 0 (.t 72)⟩,
                                              ⟨some 74, some (62, true), .load none (.t 73)⟩,
                                              ⟨some 75, some (62, true), .bin 0 .eql (.t 69) (.t 74)⟩,
                                              ⟨some 76, none, .pick (.t 62) (.t 75) (.k (.bool false))⟩,
                                              ⟨some 77, none, .mv (.t 76)⟩,
                                              ⟨some 78, some (77, true), .mv (.t 8)⟩,
                                              ⟨some 79, some (77, true), .mv (.t 4)⟩,
                                              ⟨some 80, some (77, true), .len (.t 79)⟩,
                                              ⟨some 81, some (77, true), .bin 0 .gtr (.t 78) (.t 80)⟩,
                                              ⟨some 82, none, .pick (.t 77) (.t 81) (.k (.bool false))⟩])
                                            (.cond (.t 82)
                                              (.seq
                                                (.rg [⟨some 2, none, .mv (.k (.bool false))⟩])
                                                .ret)
                                              .skip)))
                                        (.rg [⟨some 46, none, .mv (.t 8)⟩,
                                          ⟨some 47, none, .bin 0 .add (.t 46) (.k (.int .i64 1))⟩,
                                          ⟨some 8, none, .mv (.t 47)⟩]))))))))
                          (.rg [⟨some 36, none, .mv (.t 6)⟩,
                            ⟨some 37, none, .bin 0 .add (.t 36) (.k (.int .i64 1))⟩,
                            ⟨some 6, none, .mv (.t 37)⟩]))))))
                (.seq
                  (.rg [⟨some 2, none, .mv (.k (.bool true))⟩])
                  .ret)))))))) }
theorem is_laws_FnFinalMost : IsF Try.prog n_laws_FnFinalMost c_laws_FnFinalMost := ⟨Try.f9, _, Try.func9, rfl, by decide, rfl, by kernel_rfl, by kernel_rfl⟩
noncomputable def c_laws_FnTipNew : FC := { n := 94, res := [⟨none, 4, []⟩], body :=
  (.seq
    (.rg [⟨some 4, none, .mv (.k (.bool false))⟩])
    (.seq
      (.seq
        (.rg [⟨some 10, none, .mv (.t 0)⟩,
          ⟨some 11, none, .len (.t 10)⟩,
          ⟨some 12, none, .bin 0 .gtr (.t 11) (.k (.int .i64 1048576))⟩,
          ⟨some 13, none, .mv (.t 12)⟩,
          ⟨some 14, some (13, false), .mv (.t 1)⟩,
          ⟨some 15, some (13, false), .len (.t 14)⟩,
          ⟨some 16, some (13, false), .bin 0 .gtr (.t 15) (.k (.int .i64 1048576))⟩,
          ⟨some 17, none, .pick (.t 13) (.k (.bool true)) (.t 16)⟩])
        (.cond (.t 17)
          (.seq
            (.rg [⟨some 4, none, .mv (.k (.bool true))⟩])
            .ret)
          .skip))
      (.seq
        (.rg [⟨some 18, none, .mv (.t 0)⟩,
          ⟨some 19, none, .call n_spec_DrawTreeTip S_spec_DrawTreeTip [(.t 18, [some 1])]⟩,
          ⟨some 5, none, .mv (.t 19)⟩])
        (.seq
          (.rg [⟨some 20, none, .mv (.t 5)⟩,
            ⟨some 21, none, .call n_impl_TreeTip S_impl_TreeTip [(.t 20, [some 2])]⟩,
            ⟨some 6, none, .mv (.t 21)⟩])
          (.seq
            (.seq
              (.rg [⟨some 22, none, .mv (.t 6)⟩,
                ⟨some 23, none, .mv (.t 5)⟩,
                ⟨some 24, none, .call n_spec_TreeTip S_spec_TreeTip [(.t 23, [some 2])]⟩,
                ⟨some 25, none, .call n_laws_lwSame S_laws_lwSame [(.t 22, [some 4]), (.t 24, [some 4])]⟩,
                ⟨some 26, none, .un .not (.t 25)⟩,
                ⟨some 27, none, .mv (.t 26)⟩,
                ⟨some 28, some (27, false), .mv (.t 5)⟩,
                ⟨some 29, some (27, false), .call n_spec_VotesOk S_spec_VotesOk [(.t 28, [some 2])]⟩,
                ⟨some 30, some (27, false), .un .not (.t 29)⟩,
                ⟨some 31, none, .pick (.t 27) (.k (.bool true)) (.t 30)⟩,
                ⟨some 32, none, .mv (.t 31)⟩,
                ⟨some 33, some (32, false), .mv (.t 6)⟩,
                ⟨some 34, some (32, false), .len (.t 33)⟩,
                ⟨some 35, some (32, false), .bin 0 .geq (.t 34) (.k (.int .i64 16))⟩,
                ⟨some 36, none, .pick (.t 32) (.k (.bool true)) (.t 35)⟩])
              (.cond (.t 36)
                (.seq
                  (.rg [⟨some 37, none, .mv (.t 6)⟩,
                    ⟨some 38, none, .mv (.t 5)⟩,
                    ⟨some 39, none, .call n_spec_TreeTip S_spec_TreeTip [(.t 38, [some 2])]⟩,
                    ⟨some 40, none, .call n_laws_lwSame S_laws_lwSame [(.t 37, [some 4]), (.t 39, [some 4])]⟩,
                    ⟨some 4, none, .mv (.t 40)⟩])
                  .ret)
                .skip))
            (.seq
              (.rg [⟨some 41, none, .mv (.t 5)⟩,
                ⟨some 7, none, .mv (.t 41)⟩])
              (.seq
                (.rg [⟨some 42, none, .bsl 43 4 []⟩,
                  ⟨some 43, none, .mv (.t 6)⟩,
                  ⟨some 44, none, .app 43 4 32 [.int .i64 0, .int .i64 0, .int .i64 0, .int .i64 0] (.t 42) (.t 43)⟩,
                  ⟨some 45, none, .mv (.t 1)⟩,
                  ⟨some 46, none, .len (.t 45)⟩,
                  ⟨some 47, none, .bin 0 .rem (.t 46) (.k (.int .i64 9))⟩,
                  ⟨some 48, none, .bin 0 .add (.k (.int .i64 1)) (.t 47)⟩,
                  ⟨some 49, none, .build [.int .i64 0, .int .i64 0, .int .i64 0] [(0, 1, .k (.int .i64 3)), (1, 1, .k (.int .i64 2)), (2, 1, .t 48)]⟩,
                  ⟨some 50, none, .build [.int .i64 0, .int .i64 0, .int .i64 0, .int .i64 0] [(0, 1, .k (.int .i64 30)), (1, 3, .t 49)]⟩,
                  ⟨some 51, none, .bsl 43 4 [.t 50]⟩,
                  ⟨some 52, none, .app 43 4 32 [.int .i64 0, .int .i64 0, .int .i64 0, .int .i64 0] (.t 44) (.t 51)⟩,
                  ⟨some 8, none, .mv (.t 52)⟩])
                (.seq
                  (.seq
                    (.frz 8 (.rg [⟨some 53, none, .mv (.t 8)⟩,
                      ⟨some 54, none, .call n_impl_ChainOk S_impl_ChainOk [(.t 53, [some 4])]⟩,
                      ⟨some 55, none, .un .not (.t 54)⟩,
                      ⟨some 56, none, .mv (.t 55)⟩,
                      ⟨some 57, some (56, false), .mv (.t 5)⟩,
                      ⟨some 58, some (56, false), .mv (.t 8)⟩,
                      ⟨some 59, some (56, false), .call n_impl_VotesFor S_impl_VotesFor [(.t 57, [some 2]), (.t 58, [some 4])]⟩,
                      ⟨some 60, some (56, false), .len (.t 59)⟩,
                      ⟨some 61, some (56, false), .bin 0 .gtr (.t 60) (.k (.int .i64 0))⟩,
                      ⟨some 62, none, .pick (.t 56) (.k (.bool true)) (.t 61)⟩]))
                    (.cond (.t 62)
                      (.seq
                        (.rg [⟨some 4, none, .mv (.k (.bool true))⟩])
                        .ret)
                      .skip))
                  (.seq
                    (.seq
                      (.rg [⟨some 9, none, .mv (.k (.int .i64 1))⟩])
                      (.block 0
                        (.loop
                          (.seq
                            (.seq
                              (.rg [⟨some 63, none, .mv (.t 9)⟩,
                                ⟨some 64, none, .bin 0 .leq (.t 63) (.k (.int .i64 3))⟩])
                              (.cond (.t 64)
                                .skip
                                (.exit 0)))
                            (.seq
                              (.block 1
                                (.seq
                                  (.seq
                                    (.rg [⟨some 67, none, .mv (.t 9)⟩,
                                      ⟨some 68, none, .bin 0 .lss (.t 67) (.k (.int .i64 3))⟩,
                                      ⟨some 69, none, .mv (.t 68)⟩,
                                      ⟨some 70, some (69, true), .mv (.t 7)⟩,
                                      ⟨some 71, some (69, true), .mv (.t 8)⟩,
                                      ⟨some 72, some (69, true), .call n_impl_TreeSure S_impl_TreeSure [(.t 70, [some 2]), (.t 71, [some 4])]⟩,
                                      ⟨some 73, none, .pick (.t 69) (.t 72) (.k (.bool false))⟩])
                                    (.cond (.t 73)
                                      (.seq
                                        (.rg [⟨some 4, none, .mv (.k (.bool false))⟩])
                                        .ret)
                                      .skip))
                                  (.rg [⟨some 75, none, .mv (.t 7)⟩,
                                    ⟨some 76, none, .mv (.t 9)⟩,
                                    ⟨some 77, none, .mv (.t 8)⟩,
                                    ⟨some 78, none, .build [.int .i64 0, .slice none 0 0] [(0, 1, .t 76), (1, 1, .t 77)]⟩,
                                    ⟨some 79, none, .call n_impl_VotesAdd S_impl_VotesAdd [(.t 75, [some 2]), (.t 78, [none, some 4])]⟩,
                                    ⟨some 74, none, .mv (.t 79)⟩,
                                    ⟨some 80, none, .ext (.t 74) 0⟩,
                                    ⟨some 81, none, .ext (.t 74) 1⟩,
                                    ⟨some 7, none, .mv (.t 80)⟩])))
                              (.rg [⟨some 65, none, .mv (.t 9)⟩,
                                ⟨some 66, none, .bin 0 .add (.t 65) (.k (.int .i64 1))⟩,
                                ⟨some 9, none, .mv (.t 66)⟩]))))))
                    (.seq
                      (.rg [⟨some 82, none, .mv (.t 7)⟩,
                        ⟨some 83, none, .call n_impl_TreeTip S_impl_TreeTip [(.t 82, [some 2])]⟩,
                        ⟨some 84, none, .mv (.t 8)⟩,
                        ⟨some 85, none, .call n_laws_lwSame S_laws_lwSame [(.t 83, [some 4]), (.t 84, [some 4])]⟩,
                        ⟨some 86, none, .mv (.t 85)⟩,
                        ⟨some 87, some (86, true), .mv (.t 7)⟩,
                        ⟨some 88, some (86, true), .call n_impl_TreeLong S_impl_TreeLong [(.t 87, [some 2])]⟩,
                        ⟨some 89, some (86, true), .mv (.t 6)⟩,
                        ⟨some 90, some (86, true), .len (.t 89)⟩,
                        ⟨some 91, some (86, true), .bin 0 .add (.t 90) (.k (.int .i64 1))⟩,
                        ⟨some 92, some (86, true), .bin 0 .eql (.t 88) (.t 91)⟩,
                        ⟨some 93, none, .pick (.t 86) (.t 92) (.k (.bool false))⟩,
                        ⟨some 4, none, .mv (.t 93)⟩])
                      .ret)))))))))) }
theorem is_laws_FnTipNew : IsF Try.prog n_laws_FnTipNew c_laws_FnTipNew := ⟨Try.f10, _, Try.func10, rfl, by decide, rfl, by kernel_rfl, by kernel_rfl⟩
noncomputable def c_laws_FnFinalMore : FC := { n := 62, res := [⟨none, 4, []⟩], body :=
  (.seq
    (.rg [⟨some 4, none, .mv (.k (.bool false))⟩])
    (.seq
      (.seq
        (.rg [⟨some 8, none, .mv (.t 0)⟩,
          ⟨some 9, none, .len (.t 8)⟩,
          ⟨some 10, none, .bin 0 .gtr (.t 9) (.k (.int .i64 1048576))⟩,
          ⟨some 11, none, .mv (.t 10)⟩,
          ⟨some 12, some (11, false), .mv (.t 1)⟩,
          ⟨some 13, some (11, false), .len (.t 12)⟩,
          ⟨some 14, some (11, false), .bin 0 .gtr (.t 13) (.k (.int .i64 1048576))⟩,
          ⟨some 15, none, .pick (.t 11) (.k (.bool true)) (.t 14)⟩])
        (.cond (.t 15)
          (.seq
            (.rg [⟨some 4, none, .mv (.k (.bool true))⟩])
            .ret)
          .skip))
      (.seq
        (.rg [⟨some 16, none, .mv (.t 0)⟩,
          ⟨some 17, none, .call n_spec_DrawTreeFinal S_spec_DrawTreeFinal [(.t 16, [some 1])]⟩,
          ⟨some 5, none, .mv (.t 17)⟩])
        (.seq
          (.rg [⟨some 18, none, .mv (.t 5)⟩,
            ⟨some 19, none, .call n_impl_TreeFinal S_impl_TreeFinal [(.t 18, [some 2])]⟩,
            ⟨some 6, none, .mv (.t 19)⟩])
          (.seq
            (.seq
              (.rg [⟨some 20, none, .mv (.t 6)⟩,
                ⟨some 21, none, .mv (.t 5)⟩,
                ⟨some 22, none, .call n_spec_TreeFinal S_spec_TreeFinal [(.t 21, [some 2])]⟩,
                ⟨some 23, none, .call n_laws_lwSame S_laws_lwSame [(.t 20, [some 4]), (.t 22, [some 4])]⟩,
                ⟨some 24, none, .un .not (.t 23)⟩,
                ⟨some 25, none, .mv (.t 24)⟩,
                ⟨some 26, some (25, false), .mv (.t 5)⟩,
                ⟨some 27, some (25, false), .call n_spec_VotesOk S_spec_VotesOk [(.t 26, [some 2])]⟩,
                ⟨some 28, some (25, false), .un .not (.t 27)⟩,
                ⟨some 29, none, .pick (.t 25) (.k (.bool true)) (.t 28)⟩])
              (.cond (.t 29)
                (.seq
                  (.rg [⟨some 30, none, .mv (.t 6)⟩,
                    ⟨some 31, none, .mv (.t 5)⟩,
                    ⟨some 32, none, .call n_spec_TreeFinal S_spec_TreeFinal [(.t 31, [some 2])]⟩,
                    ⟨some 33, none, .call n_laws_lwSame S_laws_lwSame [(.t 30, [some 4]), (.t 32, [some 4])]⟩,
                    ⟨some 4, none, .mv (.t 33)⟩])
                  .ret)
                .skip))
            (.seq
              (.rg [⟨some 34, none, .mv (.t 5)⟩,
                ⟨some 35, none, .mv (.t 1)⟩,
                ⟨some 36, none, .len (.t 35)⟩,
                ⟨some 37, none, .mv (.t 5)⟩,
                ⟨some 38, none, .len (.t 37)⟩,
                ⟨some 39, none, .bin 0 .add (.t 38) (.k (.int .i64 1))⟩,
                ⟨some 40, none, .bin 0 .rem (.t 36) (.t 39)⟩,
                ⟨some 41, none, .slc 2 (.t 34) none (some (.t 40)) none⟩,
                ⟨some 42, none, .call n_impl_TreeFinal S_impl_TreeFinal [(.t 41, [some 2])]⟩,
                ⟨some 7, none, .mv (.t 42)⟩])
              (.seq
                (.rg [⟨some 43, none, .mv (.t 7)⟩,
                  ⟨some 44, none, .len (.t 43)⟩,
                  ⟨some 45, none, .mv (.t 6)⟩,
                  ⟨some 46, none, .len (.t 45)⟩,
                  ⟨some 47, none, .bin 0 .leq (.t 44) (.t 46)⟩,
                  ⟨some 48, none, .mv (.t 47)⟩,
                  ⟨some 49, some (48, true), .call n_impl_TreeFinal S_impl_TreeFinal [(.k (.slice none 0 0), [some 2])]⟩,
                  ⟨some 50, some (48, true), .len (.t 49)⟩,
                  ⟨some 51, some (48, true), .bin 0 .eql (.t 50) (.k (.int .i64 0))⟩,
                  ⟨some 52, none, .pick (.t 48) (.t 51) (.k (.bool false))⟩,
                  ⟨some 53, none, .mv (.t 52)⟩,
                  ⟨some 54, some (53, true), .mv (.t 5)⟩,
                  ⟨some 55, some (53, true), .call n_laws_lwBack S_laws_lwBack [(.t 54, [some 2])]⟩,
                  ⟨some 56, some (53, true), .call n_impl_TreeFinal S_impl_TreeFinal [(.t 55, [some 2])]⟩,
                  ⟨some 57, some (53, true), .len (.t 56)⟩,
                  ⟨some 58, some (53, true), .mv (.t 6)⟩,
                  ⟨some 59, some (53, true), .len (.t 58)⟩,
                  ⟨some 60, some (53, true), .bin 0 .eql (.t 57) (.t 59)⟩,
                  ⟨some 61, none, .pick (.t 53) (.t 60) (.k (.bool false))⟩,
                  ⟨some 4, none, .mv (.t 61)⟩])
                .ret))))))) }
theorem is_laws_FnFinalMore : IsF Try.prog n_laws_FnFinalMore c_laws_FnFinalMore := ⟨Try.f11, _, Try.func11, rfl, by decide, rfl, by kernel_rfl, by kernel_rfl⟩
noncomputable def c_laws_FnFinalSure : FC := { n := 98, res := [⟨none, 2, []⟩], body :=
  (.seq
    (.rg [⟨some 2, none, .mv (.k (.bool false))⟩])
    (.seq
      (.seq
        (.rg [⟨some 9, none, .mv (.t 0)⟩,
          ⟨some 10, none, .len (.t 9)⟩,
          ⟨some 11, none, .bin 0 .gtr (.t 10) (.k (.int .i64 1048576))⟩])
        (.cond (.t 11)
          (.seq
            (.rg [⟨some 2, none, .mv (.k (.bool true))⟩])
            .ret)
          .skip))
      (.seq
        (.rg [⟨some 12, none, .mv (.t 0)⟩,
          ⟨some 13, none, .call n_spec_DrawTreeFinal S_spec_DrawTreeFinal [(.t 12, [some 1])]⟩,
          ⟨some 3, none, .mv (.t 13)⟩])
        (.seq
          (.rg [⟨some 14, none, .mv (.t 3)⟩,
            ⟨some 15, none, .call n_impl_TreeFinal S_impl_TreeFinal [(.t 14, [some 2])]⟩,
            ⟨some 4, none, .mv (.t 15)⟩])
          (.seq
            (.seq
              (.rg [⟨some 16, none, .mv (.t 4)⟩,
                ⟨some 17, none, .mv (.t 3)⟩,
                ⟨some 18, none, .call n_spec_TreeFinal S_spec_TreeFinal [(.t 17, [some 2])]⟩,
                ⟨some 19, none, .call n_laws_lwSame S_laws_lwSame [(.t 16, [some 4]), (.t 18, [some 4])]⟩,
                ⟨some 20, none, .un .not (.t 19)⟩,
                ⟨some 21, none, .mv (.t 20)⟩,
                ⟨some 22, some (21, false), .mv (.t 4)⟩,
                ⟨some 23, some (21, false), .len (.t 22)⟩,
                ⟨some 24, some (21, false), .bin 0 .eql (.t 23) (.k (.int .i64 0))⟩,
                ⟨some 25, none, .pick (.t 21) (.k (.bool true)) (.t 24)⟩])
              (.cond (.t 25)
                (.seq
                  (.rg [⟨some 26, none, .mv (.t 4)⟩,
                    ⟨some 27, none, .mv (.t 3)⟩,
                    ⟨some 28, none, .call n_spec_TreeFinal S_spec_TreeFinal [(.t 27, [some 2])]⟩,
                    ⟨some 29, none, .call n_laws_lwSame S_laws_lwSame [(.t 26, [some 4]), (.t 28, [some 4])]⟩,
                    ⟨some 2, none, .mv (.t 29)⟩])
                  .ret)
                .skip))
            (.seq
              (.rg [⟨some 30, none, .mv (.t 4)⟩,
                ⟨some 31, none, .len (.t 30)⟩,
                ⟨some 5, none, .mv (.t 31)⟩])
              (.seq
                (.rg [⟨some 32, none, .mv (.t 3)⟩,
                  ⟨some 33, none, .call n_impl_TreeAll S_impl_TreeAll [(.t 32, [some 2])]⟩,
                  ⟨some 6, none, .mv (.t 33)⟩])
                (.seq
                  (.seq
                    (.rg [⟨some 7, none, .mv (.k (.int .i64 0))⟩])
                    (.block 0
                      (.loop
                        (.seq
                          (.seq
                            (.rg [⟨some 34, none, .mv (.t 7)⟩,
                              ⟨some 35, none, .mv (.t 6)⟩,
                              ⟨some 36, none, .len (.t 35)⟩,
                              ⟨some 37, none, .bin 0 .lss (.t 34) (.t 36)⟩])
                            (.cond (.t 37)
                              .skip
                              (.exit 0)))
                          (.seq
                            (.block 1
                              (.seq
                                (.rg [⟨some 40, none, .mv (.t 6)⟩,
                                  ⟨some 41, none, .mv (.t 7)⟩,
                                  ⟨some 42, none, .idx 1 (.t 40) (.t 41)⟩,
                                  ⟨some 43, none, .load none (.t 42)⟩,
                                  ⟨some 8, none, .mv (.t 43)⟩])
                                (.seq
                                  (.rg [⟨some 44, none, .mv (.t 8)⟩,
                                    ⟨some 45, none, .len (.t 44)⟩,
                                    ⟨some 46, none, .mv (.t 5)⟩,
                                    ⟨some 47, none, .bin 0 .gtr (.t 45) (.t 46)⟩,
                                    ⟨some 48, none, .mv (.t 47)⟩,
                                    ⟨some 49, some (48, true), .mv (.t 5)⟩,
                                    ⟨some 50, some (48, true), .bin 0 .geq (.t 49) (.k (.int .i64 2))⟩,
                                    ⟨some 51, none, .pick (.t 48) (.t 50) (.k (.bool false))⟩,
                                    ⟨some 52, none, .mv (.t 51)⟩,
                                    ⟨some 53, some (52, true), .mv (.t 4)⟩,
                                    ⟨some 54, some (52, true), .mv (.t 8)⟩,
                                    ⟨some 55, some (52, true), .call n_impl_ChainIn S_impl_ChainIn [(.t 53, [some 4]), (.t 54, [some 4])]⟩,
                                    ⟨some 56, none, .pick (.t 52) (.t 55) (.k (.bool false))⟩,
                                    ⟨some 57, none, .mv (.t 56)⟩,
                                    ⟨some 58, some (57, true), .mv (.t 8)⟩,
                                    ⟨some 59, some (57, true), .mv (.t 5)⟩,
                                    ⟨some 60, some (57, true), .bin 0 .sub (.t 59) (.k (.int .i64 2))⟩,
                                    ⟨some 61, some (57, true), .idx 4 (.t 58) (.t 60)⟩,
                                    ⟨some 62, some (57, true), .fld 0 (.t 61)⟩,
                                    ⟨some 63, some (57, true), .load none (.t 62)⟩,
                                    ⟨some 64, some (57, true), .bin 0 .add (.t 63) (.k (.int .i64 1))⟩,
                                    ⟨some 65, some (57, true), .mv (.t 8)⟩,
                                    ⟨some 66, some (57, true), .mv (.t 5)⟩,
                                    ⟨some 67, some (57, true), .bin 0 .sub (.t 66) (.k (.int .i64 1))⟩,
                                    ⟨some 68, some (57, true), .idx 4 (.t 65) (.t 67)⟩,
                                    ⟨some 69, some (57, true), .fld 0 (.t 68)⟩,
                                    ⟨some 70, some (57, true), .load none (.t 69)⟩,
                                    ⟨some 71, some (57, true), .bin 0 .eql (.t 64) (.t 70)⟩,
                                    ⟨some 72, none, .pick (.t 57) (.t 71) (.k (.bool false))⟩,
                                    ⟨some 73, none, .mv (.t 72)⟩,
                                    ⟨some 74, some (73, true), .mv (.t 8)⟩,
                                    ⟨some 75, some (73, true), .mv (.t 5)⟩,
                                    ⟨some 76, some (73, true), .bin 0 .sub (.t 75) (.k (.int .i64 1))⟩,
                                    ⟨some 77, some (73, true), .idx 4 (.t 74) (.t 76)⟩,
                                    ⟨some 78, some (73, true), .fld 0 (.t 77)⟩,
                                    ⟨some 79, some (73, true), .load none (.t 78)⟩,
                                    ⟨some 80, some (73, true), .bin 0 .add (.t 79) (.k (.int .i64 1))⟩,
                                    ⟨some 81, some (73, true), .mv (.t 8)⟩,
                                    ⟨some 82, some (73, true), .mv (.t 5)⟩,
                                    ⟨some 83, some (73, true), .idx 4 (.t 81) (.t 82)⟩,
                                    ⟨some 84, some (73, true), .fld 0 (.t 83)⟩,
                                    ⟨some 85, some (73, true), .load none (.t 84)⟩,
                                    ⟨some 86, some (73, true), .bin 0 .eql (.t 80) (.t 85)⟩,
                                    ⟨some 87, none, .pick (.t 73) (.t 86) (.k (.bool false))⟩])
                                  (.cond (.t 87)
                                    (.seq
                                      (.rg [⟨some 88, none, .mv (.t 3)⟩,
                                        ⟨some 89, none, .mv (.t 4)⟩,
                                        ⟨some 90, none, .call n_impl_TreeSure S_impl_TreeSure [(.t 88, [some 2]), (.t 89, [some 4])]⟩,
                                        ⟨some 91, none, .mv (.t 90)⟩,
                                        ⟨some 92, some (91, true), .mv (.t 4)⟩,
                                        ⟨some 93, some (91, true), .len (.t 92)⟩,
                                        ⟨some 94, some (91, true), .mv (.t 3)⟩,
                                        ⟨some 95, some (91, true), .call n_impl_TreeLong S_impl_TreeLong [(.t 94, [some 2])]⟩,
                                        ⟨some 96, some (91, true), .bin 0 .lss (.t 93) (.t 95)⟩,
                                        ⟨some 97, none, .pick (.t 91) (.t 96) (.k (.bool false))⟩,
                                        ⟨some 2, none, .mv (.t 97)⟩])
                                      .ret)
                                    .skip))))
                            (.rg [⟨some 38, none, .mv (.t 7)⟩,
                              ⟨some 39, none, .bin 0 .add (.t 38) (.k (.int .i64 1))⟩,
                              ⟨some 7, none, .mv (.t 39)⟩]))))))
                  (.seq
                    (.rg [⟨some 2, none, .mv (.k (.bool false))⟩])
                    .ret))))))))) }
theorem is_laws_FnFinalSure : IsF Try.prog n_laws_FnFinalSure c_laws_FnFinalSure := ⟨Try.f12, _, Try.func12, rfl, by decide, rfl, by kernel_rfl, by kernel_rfl⟩
end Av
end Go.Proofs.Ytdklbphecnennaa
