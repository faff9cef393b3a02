/- The functions' code in the small language, and that it is theirs. -/
import Derived.Test.YtdklbphecnennaaE8
import Derived.Test.YtdklbphecnennaaD1
import Derived.Test.YtdklbphecnennaaProg
import Derived.KernelRfl
set_option linter.unusedVariables false
namespace Go.Proofs.Ytdklbphecnennaa
namespace Av
noncomputable def c_laws_lwSame : FC := { n := 26, res := [⟨none, 4, []⟩], body :=
  (.seq
    (.rg [⟨some 4, none, .mv (.k (.bool false))⟩])
    (.seq
      (.seq
        (.rg [⟨some 6, none, .mv (.t 0)⟩,
          ⟨some 7, none, .len (.t 6)⟩,
          ⟨some 8, none, .mv (.t 1)⟩,
          ⟨some 9, none, .len (.t 8)⟩,
          ⟨some 10, none, .bin 0 .neq (.t 7) (.t 9)⟩])
        (.cond (.t 10)
          (.seq
            (.rg [⟨some 4, none, .mv (.k (.bool false))⟩])
            .ret)
          .skip))
      (.seq
        (.seq
          (.rg [⟨some 5, none, .mv (.k (.int .i64 0))⟩])
          (.block 0
            (.loop
              (.seq
                (.seq
                  (.rg [⟨some 11, none, .mv (.t 5)⟩,
                    ⟨some 12, none, .mv (.t 0)⟩,
                    ⟨some 13, none, .len (.t 12)⟩,
                    ⟨some 14, none, .bin 0 .lss (.t 11) (.t 13)⟩])
                  (.cond (.t 14)
                    .skip
                    (.exit 0)))
                (.seq
                  (.block 1
                    (.seq
                      (.rg [⟨some 17, none, .mv (.t 0)⟩,
                        ⟨some 18, none, .mv (.t 5)⟩,
                        ⟨some 19, none, .idx 4 (.t 17) (.t 18)⟩,
                        ⟨some 20, none, .load (some 4) (.t 19)⟩,
                        ⟨some 21, none, .mv (.t 1)⟩,
                        ⟨some 22, none, .mv (.t 5)⟩,
                        ⟨some 23, none, .idx 4 (.t 21) (.t 22)⟩,
                        ⟨some 24, none, .load (some 4) (.t 23)⟩,
                        ⟨some 25, none, .eqs true 43 4 (.t 20) (.t 24)⟩])
                      (.cond (.t 25)
                        (.seq
                          (.rg [⟨some 4, none, .mv (.k (.bool false))⟩])
                          .ret)
                        .skip)))
                  (.rg [⟨some 15, none, .mv (.t 5)⟩,
                    ⟨some 16, none, .bin 0 .add (.t 15) (.k (.int .i64 1))⟩,
                    ⟨some 5, none, .mv (.t 16)⟩]))))))
        (.seq
          (.rg [⟨some 4, none, .mv (.k (.bool true))⟩])
          .ret)))) }
theorem is_laws_lwSame : IsF Try.prog n_laws_lwSame c_laws_lwSame := ⟨Try.f20, _, Try.func20, rfl, by decide, rfl, by kernel_rfl, by kernel_rfl⟩
noncomputable def c_laws_lwAmong : FC := { n := 18, res := [⟨none, 4, []⟩], body :=
  (.seq
    (.rg [⟨some 4, none, .mv (.k (.bool false))⟩])
    (.seq
      (.seq
        (.rg [⟨some 5, none, .mv (.k (.int .i64 0))⟩])
        (.block 0
          (.loop
            (.seq
              (.seq
                (.rg [⟨some 6, none, .mv (.t 5)⟩,
                  ⟨some 7, none, .mv (.t 0)⟩,
                  ⟨some 8, none, .len (.t 7)⟩,
                  ⟨some 9, none, .bin 0 .lss (.t 6) (.t 8)⟩])
                (.cond (.t 9)
                  .skip
                  (.exit 0)))
              (.seq
                (.block 1
                  (.seq
                    (.rg [⟨some 12, none, .mv (.t 0)⟩,
                      ⟨some 13, none, .mv (.t 5)⟩,
                      ⟨some 14, none, .idx 1 (.t 12) (.t 13)⟩,
                      ⟨some 15, none, .load none (.t 14)⟩,
                      ⟨some 16, none, .mv (.t 1)⟩,
                      ⟨some 17, none, .call n_laws_lwSame S_laws_lwSame [(.t 15, [some 4]), (.t 16, [some 4])]⟩])
                    (.cond (.t 17)
                      (.seq
                        (.rg [⟨some 4, none, .mv (.k (.bool true))⟩])
                        .ret)
                      .skip)))
                (.rg [⟨some 10, none, .mv (.t 5)⟩,
                  ⟨some 11, none, .bin 0 .add (.t 10) (.k (.int .i64 1))⟩,
                  ⟨some 5, none, .mv (.t 11)⟩]))))))
      (.seq
        (.rg [⟨some 4, none, .mv (.k (.bool false))⟩])
        .ret))) }
theorem is_laws_lwAmong : IsF Try.prog n_laws_lwAmong c_laws_lwAmong := ⟨Try.f19, _, Try.func19, rfl, by decide, rfl, by kernel_rfl, by kernel_rfl⟩
noncomputable def c_laws_lwBack : FC := { n := 21, res := [⟨none, 2, [some 2]⟩], body :=
  (.seq
    (.rg [⟨some 2, none, .mv (.k (.slice none 0 0))⟩])
    (.seq
      (.rg [⟨some 5, none, .bsl 37 2 []⟩,
        ⟨some 3, none, .mv (.t 5)⟩])
      (.seq
        (.seq
          (.rg [⟨some 6, none, .mv (.t 0)⟩,
            ⟨some 7, none, .len (.t 6)⟩,
            ⟨some 8, none, .bin 0 .sub (.t 7) (.k (.int .i64 1))⟩,
            ⟨some 4, none, .mv (.t 8)⟩])
          (.block 0
            (.loop
              (.seq
                (.seq
                  (.rg [⟨some 9, none, .mv (.t 4)⟩,
                    ⟨some 10, none, .bin 0 .geq (.t 9) (.k (.int .i64 0))⟩])
                  (.cond (.t 10)
                    .skip
                    (.exit 0)))
                (.seq
                  (.block 1
                    (.rg [⟨some 13, none, .mv (.t 3)⟩,
                      ⟨some 14, none, .mv (.t 0)⟩,
                      ⟨some 15, none, .mv (.t 4)⟩,
                      ⟨some 16, none, .idx 2 (.t 14) (.t 15)⟩,
                      ⟨some 17, none, .load (some 2) (.t 16)⟩,
                      ⟨some 18, none, .bsl 37 2 [.t 17]⟩,
                      ⟨some 19, none, .app 37 2 32 [.int .i64 0, .slice none 0 0] (.t 13) (.t 18)⟩,
                      ⟨some 3, none, .mv (.t 19)⟩]))
                  (.rg [⟨some 11, none, .mv (.t 4)⟩,
                    ⟨some 12, none, .bin 0 .sub (.t 11) (.k (.int .i64 1))⟩,
                    ⟨some 4, none, .mv (.t 12)⟩]))))))
        (.seq
          (.rg [⟨some 20, none, .mv (.t 3)⟩,
            ⟨some 2, none, .mv (.t 20)⟩])
          .ret)))) }
theorem is_laws_lwBack : IsF Try.prog n_laws_lwBack c_laws_lwBack := ⟨Try.f18, _, Try.func18, rfl, by decide, rfl, by kernel_rfl, by kernel_rfl⟩
noncomputable def c_impl_TreeSure : FC := { n := 16, res := [⟨none, 4, []⟩], body :=
  (.seq
    (.rg [⟨some 4, none, .mv (.k (.bool false))⟩])
    (.seq
      (.rg [⟨some 5, none, .mv (.t 0)⟩,
        ⟨some 6, none, .call n_impl_VotesOk S_impl_VotesOk [(.t 5, [some 2])]⟩,
        ⟨some 7, none, .mv (.t 6)⟩,
        ⟨some 8, some (7, true), .mv (.t 1)⟩,
        ⟨some 9, some (7, true), .call n_impl_ChainOk S_impl_ChainOk [(.t 8, [some 4])]⟩,
        ⟨some 10, none, .pick (.t 7) (.t 9) (.k (.bool false))⟩,
        ⟨some 11, none, .mv (.t 10)⟩,
        ⟨some 12, some (11, true), .mv (.t 0)⟩,
        ⟨some 13, some (11, true), .mv (.t 1)⟩,
        ⟨some 14, some (11, true), .call n_impl_votes_sure S_impl_votes_sure [(.t 12, [some 2]), (.t 13, [some 4])]⟩,
        ⟨some 15, none, .pick (.t 11) (.t 14) (.k (.bool false))⟩,
        ⟨some 4, none, .mv (.t 15)⟩])
      .ret)) }
theorem is_impl_TreeSure : IsF Try.prog n_impl_TreeSure c_impl_TreeSure := ⟨Try.f30, _, Try.func30, rfl, by decide, rfl, by kernel_rfl, by kernel_rfl⟩
noncomputable def c_impl_TreeAll : FC := { n := 8, res := [⟨none, 2, [some 1]⟩], body :=
  (.seq
    (.rg [⟨some 2, none, .mv (.k (.slice none 0 0))⟩])
    (.seq
      (.seq
        (.rg [⟨some 3, none, .mv (.t 0)⟩,
          ⟨some 4, none, .call n_impl_VotesOk S_impl_VotesOk [(.t 3, [some 2])]⟩,
          ⟨some 5, none, .un .not (.t 4)⟩])
        (.cond (.t 5)
          (.seq
            (.rg [⟨some 2, none, .mv (.k (.slice none 0 0))⟩])
            .ret)
          .skip))
      (.seq
        (.rg [⟨some 6, none, .mv (.t 0)⟩,
          ⟨some 7, none, .call n_impl_votes_all S_impl_votes_all [(.t 6, [some 2])]⟩,
          ⟨some 2, none, .mv (.t 7)⟩])
        .ret))) }
theorem is_impl_TreeAll : IsF Try.prog n_impl_TreeAll c_impl_TreeAll := ⟨Try.f16, _, Try.func16, rfl, by decide, rfl, by kernel_rfl, by kernel_rfl⟩
noncomputable def c_spec_TreeAll : FC := { n := 9, res := [⟨none, 2, [some 1]⟩], body :=
  (.seq
    (.rg [⟨some 2, none, .mv (.k (.slice none 0 0))⟩])
    (.seq
      (.seq
        (.rg [⟨some 3, none, .mv (.t 0)⟩,
          ⟨some 4, none, .call n_spec_VotesOk S_spec_VotesOk [(.t 3, [some 2])]⟩,
          ⟨some 5, none, .un .not (.t 4)⟩])
        (.cond (.t 5)
          (.seq
            (.rg [⟨some 6, none, .bsl 29 1 []⟩,
              ⟨some 2, none, .mv (.t 6)⟩])
            .ret)
          .skip))
      (.seq
        (.rg [⟨some 7, none, .mv (.t 0)⟩,
          ⟨some 8, none, .call n_spec_l11All S_spec_l11All [(.t 7, [some 2])]⟩,
          ⟨some 2, none, .mv (.t 8)⟩])
        .ret))) }
theorem is_spec_TreeAll : IsF Try.prog n_spec_TreeAll c_spec_TreeAll := ⟨Try.f17, _, Try.func17, rfl, by decide, rfl, by kernel_rfl, by kernel_rfl⟩
noncomputable def c_impl_VotesFor : FC := { n := 11, res := [⟨none, 4, [some 1]⟩], body :=
  (.seq
    (.rg [⟨some 4, none, .mv (.k (.slice none 0 0))⟩])
    (.seq
      (.seq
        (.rg [⟨some 5, none, .mv (.t 0)⟩,
          ⟨some 6, none, .call n_impl_VotesOk S_impl_VotesOk [(.t 5, [some 2])]⟩,
          ⟨some 7, none, .un .not (.t 6)⟩])
        (.cond (.t 7)
          (.seq
            (.rg [⟨some 4, none, .mv (.k (.slice none 0 0))⟩])
            .ret)
          .skip))
      (.seq
        (.rg [⟨some 8, none, .mv (.t 0)⟩,
          ⟨some 9, none, .mv (.t 1)⟩,
          ⟨some 10, none, .call n_impl_votes_voters S_impl_votes_voters [(.t 8, [some 2]), (.t 9, [some 4])]⟩,
          ⟨some 4, none, .mv (.t 10)⟩])
        .ret))) }
theorem is_impl_VotesFor : IsF Try.prog n_impl_VotesFor c_impl_VotesFor := ⟨Try.f34, _, Try.func34, rfl, by decide, rfl, by kernel_rfl, by kernel_rfl⟩
noncomputable def c_impl_Vote_copied : FC := { n := 9, res := [⟨some (some 2), 2, [none, some 4]⟩], body :=
  (.seq
    (.rg [⟨some 1, none, .box (.t 0)⟩,
      ⟨some 2, none, .alloc [.int .i64 0, .slice none 0 0]⟩])
    (.seq
      (.rg [⟨some 3, none, .fld 0 (.t 1)⟩,
        ⟨some 4, none, .load none (.t 3)⟩,
        ⟨some 5, none, .fld 1 (.t 1)⟩,
        ⟨some 6, none, .load none (.t 5)⟩,
        ⟨some 7, none, .call n_impl_copied S_impl_copied [(.t 6, [some 4])]⟩,
        ⟨some 8, none, .build [.int .i64 0, .slice none 0 0] [(0, 1, .t 4), (1, 1, .t 7)]⟩,
        ⟨none, none, .store 2 (.t 2) (.t 8)⟩])
      .ret)) }
theorem is_impl_Vote_copied : IsF Try.prog n_impl_Vote_copied c_impl_Vote_copied := ⟨Try.f91, _, Try.func91, rfl, by decide, rfl, by kernel_rfl, by kernel_rfl⟩
noncomputable def c_impl_votes_copied : FC := { n := 22, res := [⟨none, 2, [some 2]⟩], body :=
  (.seq
    (.rg [⟨some 2, none, .mv (.k (.slice none 0 0))⟩])
    (.seq
      (.rg [⟨some 6, none, .mv (.t 0)⟩,
        ⟨some 7, none, .len (.t 6)⟩,
        ⟨some 8, none, .mksl 37 2 32 [.int .i64 0, .slice none 0 0] (.k (.int .i64 0)) (.t 7)⟩,
        ⟨some 3, none, .mv (.t 8)⟩])
      (.seq
        (.seq
          (.rg [⟨some 9, none, .mv (.t 0)⟩,
            ⟨some 10, none, .len (.t 9)⟩,
            ⟨some 11, none, .mv (.k (.int .i64 0))⟩])
          (.block 0
            (.loop
              (.seq
                (.rg [⟨some 12, none, .bin 0 .lss (.t 11) (.t 10)⟩])
                (.seq
                  (.cond (.t 12)
                    .skip
                    (.exit 0))
                  (.seq
                    (.block 1
                      (.seq
                        (.rg [⟨some 13, none, .idx 2 (.t 9) (.t 11)⟩,
                          ⟨some 14, none, .load (some 2) (.t 13)⟩,
                          ⟨some 5, none, .alloc [.int .i64 0, .slice none 0 0]⟩,
                          ⟨none, none, .store 2 (.t 5) (.t 14)⟩])
                        (.rg [⟨some 15, none, .mv (.t 3)⟩,
                          ⟨some 16, none, .load (some 2) (.t 5)⟩,
                          ⟨some 17, none, .call n_impl_Vote_copied S_impl_Vote_copied [(.t 16, [none, some 4])]⟩,
                          ⟨some 18, none, .bsl 37 2 [.t 17]⟩,
                          ⟨some 19, none, .app 37 2 32 [.int .i64 0, .slice none 0 0] (.t 15) (.t 18)⟩,
                          ⟨some 3, none, .mv (.t 19)⟩])))
                    (.rg [⟨some 20, none, .bin 0 .add (.t 11) (.k (.int .i64 1))⟩,
                      ⟨some 11, none, .mv (.t 20)⟩])))))))
        (.seq
          (.rg [⟨some 21, none, .mv (.t 3)⟩,
            ⟨some 2, none, .mv (.t 21)⟩])
          .ret)))) }
theorem is_impl_votes_copied : IsF Try.prog n_impl_votes_copied c_impl_votes_copied := ⟨Try.f65, _, Try.func65, rfl, by decide, rfl, by kernel_rfl, by kernel_rfl⟩
noncomputable def c_slices_Clip_VoteS : FC := { n := 9, res := [⟨none, 2, [some 2]⟩], body :=
  (.seq
    (.rg [⟨some 2, none, .mv (.k (.slice none 0 0))⟩])
    (.seq
      (.frz 0 (.rg [⟨some 3, none, .mv (.t 0)⟩,
        ⟨some 4, none, .mv (.t 0)⟩,
        ⟨some 5, none, .len (.t 4)⟩,
        ⟨some 6, none, .mv (.t 0)⟩,
        ⟨some 7, none, .len (.t 6)⟩,
        ⟨some 8, none, .slc 2 (.t 3) none (some (.t 5)) (some (.t 7))⟩,
        ⟨some 2, none, .mv (.t 8)⟩]))
      .ret)) }
theorem is_slices_Clip_VoteS : IsF Try.prog n_slices_Clip_VoteS c_slices_Clip_VoteS := ⟨Try.f94, _, Try.func94, rfl, by decide, rfl, by kernel_rfl, by kernel_rfl⟩
noncomputable def c_slices_Clone_VoteS : FC := { n := 8, res := [⟨none, 2, [some 2]⟩], body :=
  (.seq
    (.rg [⟨some 2, none, .mv (.k (.slice none 0 0))⟩])
    (.seq
      (.seq
        (.rg [⟨some 3, none, .mv (.t 0)⟩,
          ⟨some 4, none, .bin 3 .eql (.t 3) (.k (.slice none 0 0))⟩])
        (.cond (.t 4)
          (.seq
            (.rg [⟨some 2, none, .mv (.k (.slice none 0 0))⟩])
            .ret)
          .skip))
      (.seq
        (.rg [⟨some 5, none, .bsl 37 2 []⟩,
          ⟨some 6, none, .mv (.t 0)⟩,
          ⟨some 7, none, .app 37 2 32 [.int .i64 0, .slice none 0 0] (.t 5) (.t 6)⟩,
          ⟨some 2, none, .mv (.t 7)⟩])
        .ret))) }
theorem is_slices_Clone_VoteS : IsF Try.prog n_slices_Clone_VoteS c_slices_Clone_VoteS := ⟨Try.f95, _, Try.func95, rfl, by decide, rfl, by kernel_rfl, by kernel_rfl⟩
noncomputable def c_impl_votes_with : FC := { n := 12, res := [⟨none, 4, [some 2]⟩], body :=
  (.seq
    (.rg [⟨some 3, none, .box (.t 1)⟩,
      ⟨some 4, none, .mv (.k (.slice none 0 0))⟩])
    (.seq
      (.rg [⟨some 5, none, .mv (.t 0)⟩,
        ⟨some 6, none, .callm n_slices_Clone_VoteS S_slices_Clone_VoteS [(.t 5, [some 2])]⟩,
        ⟨some 7, none, .load (some 2) (.t 3)⟩,
        ⟨some 8, none, .call n_impl_Vote_copied S_impl_Vote_copied [(.t 7, [none, some 4])]⟩,
        ⟨some 9, none, .bsl 37 2 [.t 8]⟩,
        ⟨some 10, none, .app 37 2 32 [.int .i64 0, .slice none 0 0] (.t 6) (.t 9)⟩,
        ⟨some 11, none, .callm n_slices_Clip_VoteS S_slices_Clip_VoteS [(.t 10, [some 2])]⟩,
        ⟨some 4, none, .mv (.t 11)⟩])
      .ret)) }
theorem is_impl_votes_with : IsF Try.prog n_impl_votes_with c_impl_votes_with := ⟨Try.f67, _, Try.func67, rfl, by decide, rfl, by kernel_rfl, by kernel_rfl⟩
noncomputable def c_impl_VotesAdd : FC := { n := 24, res := [⟨none, 4, [some 2]⟩, ⟨none, 5, []⟩], body :=
  (.seq
    (.rg [⟨some 3, none, .box (.t 1)⟩,
      ⟨some 4, none, .mv (.k (.slice none 0 0))⟩,
      ⟨some 5, none, .mv (.k (.bool false))⟩])
    (.seq
      (.seq
        (.rg [⟨some 7, none, .mv (.t 0)⟩,
          ⟨some 8, none, .call n_impl_VotesOk S_impl_VotesOk [(.t 7, [some 2])]⟩,
          ⟨some 9, none, .un .not (.t 8)⟩,
          ⟨some 10, none, .mv (.t 9)⟩,
          ⟨some 11, some (10, false), .load (some 2) (.t 3)⟩,
          ⟨some 12, some (10, false), .call n_impl_VoteOk S_impl_VoteOk [(.t 11, [none, some 4])]⟩,
          ⟨some 13, some (10, false), .un .not (.t 12)⟩,
          ⟨some 14, none, .pick (.t 10) (.k (.bool true)) (.t 13)⟩])
        (.cond (.t 14)
          (.seq
            (.rg [⟨some 4, none, .mv (.k (.slice none 0 0))⟩,
              ⟨some 5, none, .mv (.k (.bool false))⟩])
            .ret)
          .skip))
      (.seq
        (.rg [⟨some 15, none, .mv (.t 0)⟩,
          ⟨some 16, none, .call n_impl_votes_copied S_impl_votes_copied [(.t 15, [some 2])]⟩,
          ⟨some 6, none, .mv (.t 16)⟩])
        (.seq
          (.seq
            (.rg [⟨some 17, none, .mv (.t 0)⟩,
              ⟨some 18, none, .load (some 2) (.t 3)⟩,
              ⟨some 19, none, .call n_impl_votes_has S_impl_votes_has [(.t 17, [some 2]), (.t 18, [none, some 4])]⟩])
            (.cond (.t 19)
              (.seq
                (.rg [⟨some 20, none, .mv (.t 6)⟩,
                  ⟨some 4, none, .mv (.t 20)⟩,
                  ⟨some 5, none, .mv (.k (.bool false))⟩])
                .ret)
              .skip))
          (.seq
            (.rg [⟨some 21, none, .mv (.t 6)⟩,
              ⟨some 22, none, .load (some 2) (.t 3)⟩,
              ⟨some 23, none, .call n_impl_votes_with S_impl_votes_with [(.t 21, [some 2]), (.t 22, [none, some 4])]⟩,
              ⟨some 4, none, .mv (.t 23)⟩,
              ⟨some 5, none, .mv (.k (.bool true))⟩])
            .ret))))) }
theorem is_impl_VotesAdd : IsF Try.prog n_impl_VotesAdd c_impl_VotesAdd := ⟨Try.f35, _, Try.func35, rfl, by decide, rfl, by kernel_rfl, by kernel_rfl⟩
end Av
end Go.Proofs.Ytdklbphecnennaa
