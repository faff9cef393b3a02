/- The functions' code in the small language, and that it is theirs. -/
import Derived.Test.YtmboljfckljjhaaNF
import Derived.Test.YtmboljfckljjhaaD1
import Derived.Test.YtmboljfckljjhaaProg
import Derived.KernelRfl
set_option linter.unusedVariables false
namespace Go.Proofs.Ytmboljfckljjhaa
namespace Av
noncomputable def c_slices_Clip_ISS_o : FC := { n := 9, res := [⟨none, 2, [some 1]⟩], body :=
  (.seq
    (.rg [⟨some 2, none, .mv (.k (.slice none 0 0))⟩])
    (.seq
      (.rg [⟨some 3, none, .mv (.t 0)⟩,
        ⟨some 4, none, .mv (.t 0)⟩,
        ⟨some 5, none, .len (.t 4)⟩,
        ⟨some 6, none, .mv (.t 0)⟩,
        ⟨some 7, none, .len (.t 6)⟩,
        ⟨some 8, none, .clip 1 (.t 3) (.t 5) (.t 7)⟩,
        ⟨some 2, none, .mv (.t 8)⟩])
      .ret)) }
theorem is_slices_Clip_ISS_o : IsF Try.prog n_slices_Clip_ISS_o c_slices_Clip_ISS_o := ⟨Try.f170, _, Try.func170, rfl, by decide, rfl, by kernel_rfl, by kernel_rfl⟩
noncomputable def c_impl_votes_all_o : FC := { n := 35, res := [⟨none, 2, [some 1]⟩], body :=
  (.seq
    (.rg [⟨some 2, none, .mv (.k (.slice none 0 0))⟩])
    (.seq
      (.rg [⟨some 7, none, .bsl 85 4 []⟩,
        ⟨some 8, none, .bsl 40 1 [.t 7]⟩,
        ⟨some 3, none, .mv (.t 8)⟩])
      (.seq
        (.seq
          (.rg [⟨some 9, none, .mv (.t 0)⟩,
            ⟨some 10, none, .len (.t 9)⟩,
            ⟨some 11, none, .mv (.k (.int .i64 0))⟩])
          (.block 0
            (.loop
              (.seq
                (.rg [⟨some 12, none, .bin 0 .lss (.t 11) (.t 10)⟩])
                (.seq
                  (.cond (.t 12)
                    .skip
                    (.exit 0))
                  (.seq
                    (.block 1
                      (.seq
                        (.rg [⟨some 13, none, .idx 2 (.t 9) (.t 11)⟩,
                          ⟨some 14, none, .load (some 2) (.t 13)⟩,
                          ⟨some 5, none, .alloc [.int .i64 0, .slice none 0 0]⟩,
                          ⟨none, none, .store 2 (.t 5) (.t 14)⟩])
                        (.seq
                          (.rg [⟨some 15, none, .mv (.t 3)⟩,
                            ⟨some 16, none, .mkfn (.func n_impl_votes_all_1) [] [.t 5]⟩,
                            ⟨some 17, none, .call n_slices_ContainsFunc_ISS S_slices_ContainsFunc_ISS [(.t 15, [some 1]), (.t 16, [])]⟩,
                            ⟨some 6, none, .mv (.t 17)⟩])
                          (.seq
                            (.rg [⟨some 18, none, .mv (.t 6)⟩,
                              ⟨some 19, none, .un .not (.t 18)⟩,
                              ⟨some 20, none, .mv (.t 19)⟩,
                              ⟨some 21, some (20, true), .mv (.t 0)⟩,
                              ⟨some 22, some (20, true), .fld 1 (.t 5)⟩,
                              ⟨some 23, some (20, true), .load none (.t 22)⟩,
                              ⟨some 24, some (20, true), .call n_impl_votes_sure S_impl_votes_sure [(.t 21, [some 2]), (.t 23, [some 4])]⟩,
                              ⟨some 25, none, .pick (.t 20) (.t 24) (.k (.bool false))⟩])
                            (.cond (.t 25)
                              (.rg [⟨some 26, none, .mv (.t 3)⟩,
                                ⟨some 27, none, .fld 1 (.t 5)⟩,
                                ⟨some 28, none, .load none (.t 27)⟩,
                                ⟨some 29, none, .callo n_impl_copied SO_impl_copied [(.t 28, [some 4])]⟩,
                                ⟨some 30, none, .bsl 40 1 [.t 29]⟩,
                                ⟨some 31, none, .app 40 1 24 [.slice none 0 0] (.t 26) (.t 30)⟩,
                                ⟨some 3, none, .mv (.t 31)⟩])
                              .skip)))))
                    (.rg [⟨some 32, none, .bin 0 .add (.t 11) (.k (.int .i64 1))⟩,
                      ⟨some 11, none, .mv (.t 32)⟩])))))))
        (.seq
          (.rg [⟨some 33, none, .mv (.t 3)⟩,
            ⟨some 34, none, .callm n_slices_Clip_ISS_o S_slices_Clip_ISS_o [(.t 33, [some 1])]⟩,
            ⟨some 2, none, .mv (.t 34)⟩])
          .ret)))) }
theorem is_impl_votes_all_o : IsF Try.prog n_impl_votes_all_o c_impl_votes_all_o := ⟨Try.f127, _, Try.func127, rfl, by decide, rfl, by kernel_rfl, by kernel_rfl⟩
noncomputable def c_impl_votes_tip_o : FC := { n := 22, res := [⟨none, 2, [some 4]⟩], body :=
  (.seq
    (.rg [⟨some 2, none, .mv (.k (.slice none 0 0))⟩])
    (.seq
      (.rg [⟨some 6, none, .bsl 85 4 []⟩,
        ⟨some 3, none, .mv (.t 6)⟩])
      (.seq
        (.seq
          (.rg [⟨some 7, none, .mv (.t 0)⟩,
            ⟨some 8, none, .callm n_impl_votes_all_o S_impl_votes_all_o [(.t 7, [some 2])]⟩,
            ⟨some 9, none, .len (.t 8)⟩,
            ⟨some 10, none, .mv (.k (.int .i64 0))⟩])
          (.block 0
            (.loop
              (.seq
                (.rg [⟨some 11, none, .bin 0 .lss (.t 10) (.t 9)⟩])
                (.seq
                  (.cond (.t 11)
                    .skip
                    (.exit 0))
                  (.seq
                    (.block 1
                      (.seq
                        (.rg [⟨some 12, none, .idx 1 (.t 8) (.t 10)⟩,
                          ⟨some 13, none, .load none (.t 12)⟩,
                          ⟨some 5, none, .mv (.t 13)⟩])
                        (.seq
                          (.rg [⟨some 14, none, .mv (.t 5)⟩,
                            ⟨some 15, none, .len (.t 14)⟩,
                            ⟨some 16, none, .mv (.t 3)⟩,
                            ⟨some 17, none, .len (.t 16)⟩,
                            ⟨some 18, none, .bin 0 .gtr (.t 15) (.t 17)⟩])
                          (.cond (.t 18)
                            (.rg [⟨some 19, none, .mv (.t 5)⟩,
                              ⟨some 3, none, .mv (.t 19)⟩])
                            .skip))))
                    (.rg [⟨some 20, none, .bin 0 .add (.t 10) (.k (.int .i64 1))⟩,
                      ⟨some 10, none, .mv (.t 20)⟩])))))))
        (.seq
          (.rg [⟨some 21, none, .mv (.t 3)⟩,
            ⟨some 2, none, .mv (.t 21)⟩])
          .ret)))) }
theorem is_impl_votes_tip_o : IsF Try.prog n_impl_votes_tip_o c_impl_votes_tip_o := ⟨Try.f115, _, Try.func115, rfl, by decide, rfl, by kernel_rfl, by kernel_rfl⟩
noncomputable def c_impl_TreeTip_o : FC := { n := 8, res := [⟨none, 2, [some 4]⟩], body :=
  (.seq
    (.rg [⟨some 2, none, .mv (.k (.slice none 0 0))⟩])
    (.seq
      (.seq
        (.rg [⟨some 3, none, .mv (.t 0)⟩,
          ⟨some 4, none, .call n_impl_VotesOk S_impl_VotesOk [(.t 3, [some 2])]⟩,
          ⟨some 5, none, .un .not (.t 4)⟩])
        (.cond (.t 5)
          (.seq
            (.rg [⟨some 2, none, .mv (.k (.slice none 0 0))⟩])
            .ret)
          .skip))
      (.seq
        (.rg [⟨some 6, none, .mv (.t 0)⟩,
          ⟨some 7, none, .callo n_impl_votes_tip SO_impl_votes_tip [(.t 6, [some 2])]⟩,
          ⟨some 2, none, .mv (.t 7)⟩])
        .ret))) }
theorem is_impl_TreeTip_o : IsF Try.prog n_impl_TreeTip_o c_impl_TreeTip_o := ⟨Try.f54, _, Try.func54, rfl, by decide, rfl, by kernel_rfl, by kernel_rfl⟩
noncomputable def c_impl_TreeAll_o : FC := { n := 8, res := [⟨none, 2, [some 1]⟩], body :=
  (.seq
    (.rg [⟨some 2, none, .mv (.k (.slice none 0 0))⟩])
    (.seq
      (.seq
        (.rg [⟨some 3, none, .mv (.t 0)⟩,
          ⟨some 4, none, .call n_impl_VotesOk S_impl_VotesOk [(.t 3, [some 2])]⟩,
          ⟨some 5, none, .un .not (.t 4)⟩])
        (.cond (.t 5)
          (.seq
            (.rg [⟨some 2, none, .mv (.k (.slice none 0 0))⟩])
            .ret)
          .skip))
      (.seq
        (.rg [⟨some 6, none, .mv (.t 0)⟩,
          ⟨some 7, none, .callm n_impl_votes_all_o S_impl_votes_all_o [(.t 6, [some 2])]⟩,
          ⟨some 2, none, .mv (.t 7)⟩])
        .ret))) }
theorem is_impl_TreeAll_o : IsF Try.prog n_impl_TreeAll_o c_impl_TreeAll_o := ⟨Try.f61, _, Try.func61, rfl, by decide, rfl, by kernel_rfl, by kernel_rfl⟩
noncomputable def c_laws_markItemSS_o : FC := { n := 19, res := [⟨none, 4, []⟩], body :=
  (.seq
    (.rg [⟨some 4, none, .mv (.k (.int .i64 0))⟩])
    (.seq
      (.seq
        (.rg [⟨some 5, none, .mv (.k (.int .i64 0))⟩])
        (.block 0
          (.loop
            (.seq
              (.seq
                (.rg [⟨some 6, none, .mv (.t 5)⟩,
                  ⟨some 7, none, .mv (.t 0)⟩,
                  ⟨some 8, none, .len (.t 7)⟩,
                  ⟨some 9, none, .bin 0 .lss (.t 6) (.t 8)⟩])
                (.cond (.t 9)
                  .skip
                  (.exit 0)))
              (.seq
                (.block 1
                  (.rg [⟨some 12, none, .mv (.t 0)⟩,
                    ⟨some 13, none, .mv (.t 5)⟩,
                    ⟨some 14, none, .idx 1 (.t 12) (.t 13)⟩,
                    ⟨some 15, none, .load none (.t 14)⟩,
                    ⟨some 16, none, .mv (.t 1)⟩,
                    ⟨some 17, none, .callm n_laws_markItemS_o S_laws_markItemS_o [(.t 15, [some 4]), (.t 16, [])]⟩,
                    ⟨some 1, none, .mv (.t 17)⟩]))
                (.rg [⟨some 10, none, .mv (.t 5)⟩,
                  ⟨some 11, none, .bin 0 .add (.t 10) (.k (.int .i64 1))⟩,
                  ⟨some 5, none, .mv (.t 11)⟩]))))))
      (.seq
        (.rg [⟨some 18, none, .mv (.t 1)⟩,
          ⟨some 4, none, .mv (.t 18)⟩])
        .ret))) }
theorem is_laws_markItemSS_o : IsF Try.prog n_laws_markItemSS_o c_laws_markItemSS_o := ⟨Try.f63, _, Try.func63, rfl, by decide, rfl, by kernel_rfl, by kernel_rfl⟩
noncomputable def c_laws_heldItemSS : FC := { n := 21, res := [⟨none, 4, []⟩], body :=
  (.seq
    (.rg [⟨some 4, none, .mv (.k (.int .i64 0))⟩])
    (.seq
      (.seq
        (.rg [⟨some 5, none, .mv (.k (.int .i64 0))⟩])
        (.block 0
          (.loop
            (.seq
              (.seq
                (.rg [⟨some 6, none, .mv (.t 5)⟩,
                  ⟨some 7, none, .mv (.t 0)⟩,
                  ⟨some 8, none, .len (.t 7)⟩,
                  ⟨some 9, none, .bin 0 .lss (.t 6) (.t 8)⟩])
                (.cond (.t 9)
                  .skip
                  (.exit 0)))
              (.seq
                (.block 1
                  (.seq
                    (.rg [⟨some 12, none, .mv (.t 0)⟩,
                      ⟨some 13, none, .mv (.t 5)⟩,
                      ⟨some 14, none, .idx 1 (.t 12) (.t 13)⟩,
                      ⟨some 15, none, .load none (.t 14)⟩,
                      ⟨some 16, none, .mv (.t 1)⟩,
                      ⟨some 17, none, .call n_laws_heldItemS S_laws_heldItemS [(.t 15, [some 4]), (.t 16, [])]⟩,
                      ⟨some 1, none, .mv (.t 17)⟩])
                    (.seq
                      (.rg [⟨some 18, none, .mv (.t 1)⟩,
                        ⟨some 19, none, .bin 0 .lss (.t 18) (.k (.int .i64 0))⟩])
                      (.cond (.t 19)
                        (.seq
                          (.rg [⟨some 4, none, .mv (.k (.int .i64 (-1)))⟩])
                          .ret)
                        .skip))))
                (.rg [⟨some 10, none, .mv (.t 5)⟩,
                  ⟨some 11, none, .bin 0 .add (.t 10) (.k (.int .i64 1))⟩,
                  ⟨some 5, none, .mv (.t 11)⟩]))))))
      (.seq
        (.rg [⟨some 20, none, .mv (.t 1)⟩,
          ⟨some 4, none, .mv (.t 20)⟩])
        .ret))) }
theorem is_laws_heldItemSS : IsF Try.prog n_laws_heldItemSS c_laws_heldItemSS := ⟨Try.f64, _, Try.func64, rfl, by decide, rfl, by kernel_rfl, by kernel_rfl⟩
noncomputable def c_laws_eqItemSS : FC := { n := 27, res := [⟨none, 4, []⟩], body :=
  (.seq
    (.rg [⟨some 4, none, .mv (.k (.bool false))⟩])
    (.seq
      (.seq
        (.rg [⟨some 6, none, .mv (.t 0)⟩,
          ⟨some 7, none, .len (.t 6)⟩,
          ⟨some 8, none, .mv (.t 1)⟩,
          ⟨some 9, none, .len (.t 8)⟩,
          ⟨some 10, none, .bin 0 .neq (.t 7) (.t 9)⟩])
        (.cond (.t 10)
          (.seq
            (.rg [⟨some 4, none, .mv (.k (.bool false))⟩])
            .ret)
          .skip))
      (.seq
        (.seq
          (.rg [⟨some 5, none, .mv (.k (.int .i64 0))⟩])
          (.block 0
            (.loop
              (.seq
                (.seq
                  (.rg [⟨some 11, none, .mv (.t 5)⟩,
                    ⟨some 12, none, .mv (.t 0)⟩,
                    ⟨some 13, none, .len (.t 12)⟩,
                    ⟨some 14, none, .bin 0 .lss (.t 11) (.t 13)⟩])
                  (.cond (.t 14)
                    .skip
                    (.exit 0)))
                (.seq
                  (.block 1
                    (.seq
                      (.rg [⟨some 17, none, .mv (.t 0)⟩,
                        ⟨some 18, none, .mv (.t 5)⟩,
                        ⟨some 19, none, .idx 1 (.t 17) (.t 18)⟩,
                        ⟨some 20, none, .load none (.t 19)⟩,
                        ⟨some 21, none, .mv (.t 1)⟩,
                        ⟨some 22, none, .mv (.t 5)⟩,
                        ⟨some 23, none, .idx 1 (.t 21) (.t 22)⟩,
                        ⟨some 24, none, .load none (.t 23)⟩,
                        ⟨some 25, none, .call n_laws_eqItemS S_laws_eqItemS [(.t 20, [some 4]), (.t 24, [some 4])]⟩,
                        ⟨some 26, none, .un .not (.t 25)⟩])
                      (.cond (.t 26)
                        (.seq
                          (.rg [⟨some 4, none, .mv (.k (.bool false))⟩])
                          .ret)
                        .skip)))
                  (.rg [⟨some 15, none, .mv (.t 5)⟩,
                    ⟨some 16, none, .bin 0 .add (.t 15) (.k (.int .i64 1))⟩,
                    ⟨some 5, none, .mv (.t 16)⟩]))))))
        (.seq
          (.rg [⟨some 4, none, .mv (.k (.bool true))⟩])
          .ret)))) }
theorem is_laws_eqItemSS : IsF Try.prog n_laws_eqItemSS c_laws_eqItemSS := ⟨Try.f62, _, Try.func62, rfl, by decide, rfl, by kernel_rfl, by kernel_rfl⟩
end Av
end Go.Proofs.Ytmboljfckljjhaa
