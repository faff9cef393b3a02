/- The functions' code in the small language, and that it is theirs. -/
import Derived.Test.YtdboofnogabefaaGA
import Derived.Test.YtdboofnogabefaaD1
import Derived.Test.YtdboofnogabefaaProg
import Derived.KernelRfl
set_option linter.unusedVariables false
namespace Go.Proofs.Ytdboofnogabefaa
namespace Av
noncomputable def c_impl_votes_voters_o : FC := { n := 27, res := [⟨none, 4, [some 1]⟩], body :=
 (.seq
 (.rg [⟨some 4, none, .mv (.k (.slice none 0 0))⟩])
 (.seq
 (.rg [⟨some 7, none, .mksl 3 1 8 [.int .i64 0] (.k (.int .i64 0)) (.k (.int .i64 4))⟩,
   ⟨some 5, none, .mv (.t 7)⟩])
 (.seq
 (.seq
 (.rg [⟨some 6, none, .mv (.k (.int .i64 1))⟩])
 (.block 0
 (.loop
 (.seq
 (.seq
 (.rg [⟨some 8, none, .mv (.t 6)⟩,
   ⟨some 9, none, .bin 0 .leq (.t 8) (.k (.int .i64 4))⟩])
 (.cond (.t 9)
 .skip
 (.exit 0)))
 (.seq
 (.block 1
 (.seq
 (.rg [⟨some 12, none, .mv (.t 0)⟩,
   ⟨some 13, none, .mv (.t 6)⟩,
   ⟨some 14, none, .mv (.t 1)⟩,
   ⟨some 15, none, .build [.int .i64 0, .slice none 0 0] [(0, 1, .t 13), (1, 1, .t 14)]⟩,
   ⟨some 16, none, .call n_impl_votes_has S_impl_votes_has [(.t 12, [some 2]), (.t 15, [none, some 4])]⟩])
 (.cond (.t 16)
 (.rg [⟨some 17, none, .mv (.t 5)⟩,
   ⟨some 18, none, .mv (.t 6)⟩,
   ⟨some 19, none, .bsl 3 1 [.t 18]⟩,
   ⟨some 20, none, .app 3 1 8 [.int .i64 0] (.t 17) (.t 19)⟩,
   ⟨some 5, none, .mv (.t 20)⟩])
 .skip)))
 (.rg [⟨some 10, none, .mv (.t 6)⟩,
   ⟨some 11, none, .bin 0 .add (.t 10) (.k (.int .i64 1))⟩,
   ⟨some 6, none, .mv (.t 11)⟩]))))))
 (.seq
 (.rg [⟨some 21, none, .mv (.t 5)⟩,
   ⟨some 22, none, .mv (.t 5)⟩,
   ⟨some 23, none, .len (.t 22)⟩,
   ⟨some 24, none, .mv (.t 5)⟩,
   ⟨some 25, none, .len (.t 24)⟩,
   ⟨some 26, none, .clip 1 (.t 21) (.t 23) (.t 25)⟩,
   ⟨some 4, none, .mv (.t 26)⟩])
 .ret)))) }
theorem is_impl_votes_voters_o : IsF Try.prog n_impl_votes_voters_o c_impl_votes_voters_o := ⟨Try.f87, _, Try.func87, rfl, by decide, rfl, by kernel_rfl, by kernel_rfl⟩
noncomputable def c_slices_Clip_nSS_o : FC := { n := 9, res := [⟨none, 2, [some 1]⟩], body :=
 (.seq
 (.rg [⟨some 2, none, .mv (.k (.slice none 0 0))⟩])
 (.seq
 (.rg [⟨some 3, none, .mv (.t 0)⟩,
   ⟨some 4, none, .mv (.t 0)⟩,
   ⟨some 5, none, .len (.t 4)⟩,
   ⟨some 6, none, .mv (.t 0)⟩,
   ⟨some 7, none, .len (.t 6)⟩,
   ⟨some 8, none, .clip 1 (.t 3) (.t 5) (.t 7)⟩,
   ⟨some 2, none, .mv (.t 8)⟩])
 .ret)) }
theorem is_slices_Clip_nSS_o : IsF Try.prog n_slices_Clip_nSS_o c_slices_Clip_nSS_o := ⟨Try.f89, _, Try.func89, rfl, by decide, rfl, by kernel_rfl, by kernel_rfl⟩
noncomputable def c_impl_Cert_prefix_o : FC := { n := 15, res := [⟨none, 4, [some 4]⟩], body :=
 (.seq
 (.rg [⟨some 2, none, .box (.t 0)⟩,
   ⟨some 4, none, .mv (.k (.slice none 0 0))⟩])
 (.seq
 (.rg [⟨some 5, none, .fld 0 (.t 2)⟩,
   ⟨some 6, none, .load none (.t 5)⟩,
   ⟨some 7, none, .fld 0 (.t 2)⟩,
   ⟨some 8, none, .load none (.t 7)⟩,
   ⟨some 9, none, .len (.t 8)⟩,
   ⟨some 10, none, .bin 0 .sub (.t 9) (.k (.int .i64 3))⟩,
   ⟨some 11, none, .bin 0 .add (.t 10) (.k (.int .i64 1))⟩,
   ⟨some 12, none, .mv (.t 1)⟩,
   ⟨some 13, none, .bin 0 .add (.t 11) (.t 12)⟩,
   ⟨some 14, none, .slv 4 (.t 6) (.t 13)⟩,
   ⟨some 4, none, .mv (.t 14)⟩])
 .ret)) }
theorem is_impl_Cert_prefix_o : IsF Try.prog n_impl_Cert_prefix_o c_impl_Cert_prefix_o := ⟨Try.f88, _, Try.func88, rfl, by decide, rfl, by kernel_rfl, by kernel_rfl⟩
noncomputable def c_impl_CertOf_o : FC := { n := 44, res := [⟨some (some 2), 2, [some 4, some 1]⟩, ⟨none, 3, []⟩], body :=
 (.seq
 (.rg [⟨some 2, none, .alloc [.slice none 0 0, .slice none 0 0]⟩,
   ⟨some 3, none, .mv (.k (.bool false))⟩])
 (.seq
 (.seq
 (.rg [⟨some 8, none, .mv (.t 0)⟩,
   ⟨some 9, none, .call n_impl_VotesOk S_impl_VotesOk [(.t 8, [some 2])]⟩,
   ⟨some 10, none, .un .not (.t 9)⟩])
 (.cond (.t 10)
 (.seq
 (.rg [⟨some 11, none, .build [.slice none 0 0, .slice none 0 0] []⟩,
   ⟨none, none, .store 2 (.t 2) (.t 11)⟩,
   ⟨some 3, none, .mv (.k (.bool false))⟩])
 .ret)
 .skip))
 (.seq
 (.rg [⟨some 12, none, .mv (.t 0)⟩,
   ⟨some 13, none, .call n_impl_votes_shown S_impl_votes_shown [(.t 12, [some 2])]⟩,
   ⟨some 4, none, .mv (.t 13)⟩])
 (.seq
 (.rg [⟨some 14, none, .mv (.t 4)⟩,
   ⟨some 15, none, .call n_impl_final S_impl_final [(.t 14, [some 4])]⟩,
   ⟨some 5, none, .mv (.t 15)⟩])
 (.seq
 (.seq
 (.rg [⟨some 16, none, .mv (.t 5)⟩,
   ⟨some 17, none, .bin 0 .eql (.t 16) (.k (.int .i64 0))⟩])
 (.cond (.t 17)
 (.seq
 (.rg [⟨some 18, none, .build [.slice none 0 0, .slice none 0 0] []⟩,
   ⟨none, none, .store 2 (.t 2) (.t 18)⟩,
   ⟨some 3, none, .mv (.k (.bool false))⟩])
 .ret)
 .skip))
 (.seq
 (.rg [⟨some 19, none, .mv (.t 4)⟩,
   ⟨some 20, none, .mv (.t 5)⟩,
   ⟨some 21, none, .bin 0 .add (.t 20) (.k (.int .i64 1))⟩,
   ⟨some 22, none, .slc 4 (.t 19) none (some (.t 21)) none⟩,
   ⟨some 23, none, .callm n_impl_copied_o S_impl_copied_o [(.t 22, [some 4])]⟩,
   ⟨some 24, none, .build [.slice none 0 0, .slice none 0 0] [(0, 1, .t 23)]⟩,
   ⟨some 6, none, .alloc [.slice none 0 0, .slice none 0 0]⟩,
   ⟨none, none, .store 2 (.t 6) (.t 24)⟩])
 (.seq
 (.seq
 (.rg [⟨some 25, none, .mv (.k (.int .i64 0))⟩])
 (.block 0
 (.loop
 (.seq
 (.rg [⟨some 26, none, .bin 0 .lss (.t 25) (.k (.int .i64 3))⟩])
 (.seq
 (.cond (.t 26)
 .skip
 (.exit 0))
 (.seq
 (.block 1
 (.seq
 (.rg [⟨some 27, none, .mv (.t 25)⟩,
   ⟨some 7, none, .mv (.t 27)⟩])
 (.rg [⟨some 28, none, .fld 1 (.t 6)⟩,
   ⟨some 29, none, .load none (.t 28)⟩,
   ⟨some 30, none, .mv (.t 0)⟩,
   ⟨some 31, none, .load (some 2) (.t 6)⟩,
   ⟨some 32, none, .mv (.t 7)⟩,
   ⟨some 33, none, .callm n_impl_Cert_prefix_o S_impl_Cert_prefix_o [(.t 31, [some 4, some 1]), (.t 32, [])]⟩,
   ⟨some 34, none, .callo n_impl_votes_voters SO_impl_votes_voters_L [(.t 30, [some 2]), (.t 33, [some 4])]⟩,
   ⟨some 35, none, .bsl 39 1 [.t 34]⟩,
   ⟨some 36, none, .app 39 1 24 [.slice none 0 0] (.t 29) (.t 35)⟩,
   ⟨some 37, none, .fld 1 (.t 6)⟩,
   ⟨none, none, .store 1 (.t 37) (.t 36)⟩])))
 (.rg [⟨some 38, none, .bin 0 .add (.t 25) (.k (.int .i64 1))⟩,
   ⟨some 25, none, .mv (.t 38)⟩])))))))
 (.seq
 (.rg [⟨some 39, none, .fld 1 (.t 6)⟩,
   ⟨some 40, none, .load none (.t 39)⟩,
   ⟨some 41, none, .callm n_slices_Clip_nSS_o S_slices_Clip_nSS_o [(.t 40, [some 1])]⟩,
   ⟨some 42, none, .fld 1 (.t 6)⟩,
   ⟨none, none, .store 1 (.t 42) (.t 41)⟩])
 (.seq
 (.rg [⟨some 43, none, .load (some 2) (.t 6)⟩,
   ⟨none, none, .store 2 (.t 2) (.t 43)⟩,
   ⟨some 3, none, .mv (.k (.bool true))⟩])
 .ret))))))))) }
theorem is_impl_CertOf_o : IsF Try.prog n_impl_CertOf_o c_impl_CertOf_o := ⟨Try.f37, _, Try.func37, rfl, by decide, rfl, by kernel_rfl, by kernel_rfl⟩
noncomputable def c_laws_heldIntSS : FC := { n := 21, res := [⟨none, 4, []⟩], body :=
 (.seq
 (.rg [⟨some 4, none, .mv (.k (.int .i64 0))⟩])
 (.seq
 (.seq
 (.rg [⟨some 5, none, .mv (.k (.int .i64 0))⟩])
 (.block 0
 (.loop
 (.seq
 (.seq
 (.rg [⟨some 6, none, .mv (.t 5)⟩,
   ⟨some 7, none, .mv (.t 0)⟩,
   ⟨some 8, none, .len (.t 7)⟩,
   ⟨some 9, none, .bin 0 .lss (.t 6) (.t 8)⟩])
 (.cond (.t 9)
 .skip
 (.exit 0)))
 (.seq
 (.block 1
 (.seq
 (.rg [⟨some 12, none, .mv (.t 0)⟩,
   ⟨some 13, none, .mv (.t 5)⟩,
   ⟨some 14, none, .idx 1 (.t 12) (.t 13)⟩,
   ⟨some 15, none, .load none (.t 14)⟩,
   ⟨some 16, none, .mv (.t 1)⟩,
   ⟨some 17, none, .call n_laws_heldIntS S_laws_heldIntS [(.t 15, [some 1]), (.t 16, [])]⟩,
   ⟨some 1, none, .mv (.t 17)⟩])
 (.seq
 (.rg [⟨some 18, none, .mv (.t 1)⟩,
   ⟨some 19, none, .bin 0 .lss (.t 18) (.k (.int .i64 0))⟩])
 (.cond (.t 19)
 (.seq
 (.rg [⟨some 4, none, .mv (.k (.int .i64 (-1)))⟩])
 .ret)
 .skip))))
 (.rg [⟨some 10, none, .mv (.t 5)⟩,
   ⟨some 11, none, .bin 0 .add (.t 10) (.k (.int .i64 1))⟩,
   ⟨some 5, none, .mv (.t 11)⟩]))))))
 (.seq
 (.rg [⟨some 20, none, .mv (.t 1)⟩,
   ⟨some 4, none, .mv (.t 20)⟩])
 .ret))) }
theorem is_laws_heldIntSS : IsF Try.prog n_laws_heldIntSS c_laws_heldIntSS := ⟨Try.f95, _, Try.func95, rfl, by decide, rfl, by kernel_rfl, by kernel_rfl⟩
noncomputable def c_laws_heldCert : FC := { n := 18, res := [⟨none, 4, []⟩], body :=
 (.seq
 (.rg [⟨some 2, none, .box (.t 0)⟩,
   ⟨some 4, none, .mv (.k (.int .i64 0))⟩])
 (.seq
 (.rg [⟨some 5, none, .fld 0 (.t 2)⟩,
   ⟨some 6, none, .load none (.t 5)⟩,
   ⟨some 7, none, .mv (.t 1)⟩,
   ⟨some 8, none, .call n_laws_heldItemS S_laws_heldItemS [(.t 6, [some 4]), (.t 7, [])]⟩,
   ⟨some 1, none, .mv (.t 8)⟩])
 (.seq
 (.seq
 (.rg [⟨some 9, none, .mv (.t 1)⟩,
   ⟨some 10, none, .bin 0 .lss (.t 9) (.k (.int .i64 0))⟩])
 (.cond (.t 10)
 (.seq
 (.rg [⟨some 4, none, .mv (.k (.int .i64 (-1)))⟩])
 .ret)
 .skip))
 (.seq
 (.rg [⟨some 11, none, .fld 1 (.t 2)⟩,
   ⟨some 12, none, .load none (.t 11)⟩,
   ⟨some 13, none, .mv (.t 1)⟩,
   ⟨some 14, none, .call n_laws_heldIntSS S_laws_heldIntSS [(.t 12, [some 1]), (.t 13, [])]⟩,
   ⟨some 1, none, .mv (.t 14)⟩])
 (.seq
 (.seq
 (.rg [⟨some 15, none, .mv (.t 1)⟩,
   ⟨some 16, none, .bin 0 .lss (.t 15) (.k (.int .i64 0))⟩])
 (.cond (.t 16)
 (.seq
 (.rg [⟨some 4, none, .mv (.k (.int .i64 (-1)))⟩])
 .ret)
 .skip))
 (.seq
 (.rg [⟨some 17, none, .mv (.t 1)⟩,
   ⟨some 4, none, .mv (.t 17)⟩])
 .ret)))))) }
theorem is_laws_heldCert : IsF Try.prog n_laws_heldCert c_laws_heldCert := ⟨Try.f42, _, Try.func42, rfl, by decide, rfl, by kernel_rfl, by kernel_rfl⟩
noncomputable def c_laws_FnExactCertOf : FC := { n := 96, res := [⟨none, 2, []⟩], body :=
 (.seq
 (.rg [⟨some 2, none, .mv (.k (.bool false))⟩])
 (.seq
 (.rg [⟨some 3, none, .mv (.k (.int .i64 1048576))⟩])
 (.seq
 (.rg [⟨some 14, none, .mv (.t 0)⟩,
   ⟨some 15, none, .mv (.t 3)⟩,
   ⟨some 16, none, .call n_laws_szVoteS S_laws_szVoteS [(.t 14, [some 2]), (.t 15, [])]⟩,
   ⟨some 3, none, .mv (.t 16)⟩])
 (.seq
 (.seq
 (.rg [⟨some 17, none, .mv (.t 3)⟩,
   ⟨some 18, none, .bin 0 .lss (.t 17) (.k (.int .i64 0))⟩])
 (.cond (.t 18)
 (.seq
 (.rg [⟨some 2, none, .mv (.k (.bool true))⟩])
 .ret)
 .skip))
 (.seq
 (.rg [⟨some 20, none, .mv (.t 0)⟩,
   ⟨some 21, none, .call n_laws_toVoteS S_laws_toVoteS [(.t 20, [some 2])]⟩,
   ⟨some 22, none, .callm n_spec_CertOf S_spec_CertOf [(.t 21, [some 2])]⟩,
   ⟨some 19, none, .mv (.t 22)⟩,
   ⟨some 23, none, .ext (.t 19) 0⟩,
   ⟨some 24, none, .ext (.t 19) 1⟩,
   ⟨some 4, none, .alloc [.slice none 0 0, .slice none 0 0]⟩,
   ⟨none, none, .store 2 (.t 4) (.t 23)⟩,
   ⟨some 5, none, .mv (.t 24)⟩])
 (.seq
 (.rg [⟨some 25, none, .mv (.t 0)⟩,
   ⟨some 26, none, .callm n_laws_toVoteS_o S_laws_toVoteS_o [(.t 25, [some 2])]⟩,
   ⟨some 6, none, .mv (.t 26)⟩])
 (.seq
 (.rg [⟨some 28, none, .mv (.t 6)⟩,
   ⟨some 29, none, .callb n_impl_CertOf_o S_impl_CertOf_o [(.t 28, [some 2])]⟩,
   ⟨some 27, none, .mv (.t 29)⟩,
   ⟨some 30, none, .ext (.t 27) 0⟩,
   ⟨some 31, none, .ext (.t 27) 1⟩,
   ⟨some 7, none, .alloc [.slice none 0 0, .slice none 0 0]⟩,
   ⟨none, none, .store 2 (.t 7) (.t 30)⟩,
   ⟨some 8, none, .mv (.t 31)⟩])
 (.seq
 (.seq
 (.rg [⟨some 32, none, .load (some 2) (.t 7)⟩,
   ⟨some 33, none, .load (some 2) (.t 4)⟩,
   ⟨some 34, none, .call n_laws_eqCert S_laws_eqCert [(.t 32, [some 4, some 1]), (.t 33, [some 4, some 1])]⟩,
   ⟨some 35, none, .un .not (.t 34)⟩,
   ⟨some 36, none, .mv (.t 35)⟩,
   ⟨some 37, some (36, false), .mv (.t 8)⟩,
   ⟨some 38, some (36, false), .mv (.t 5)⟩,
   ⟨some 39, some (36, false), .bin 1 .neq (.t 37) (.t 38)⟩,
   ⟨some 40, none, .pick (.t 36) (.k (.bool true)) (.t 39)⟩])
 (.cond (.t 40)
 (.seq
 (.rg [⟨some 2, none, .mv (.k (.bool false))⟩])
 .ret)
 .skip))
 (.seq
 (.seq
 (.rg [⟨some 41, none, .mv (.t 6)⟩,
   ⟨some 42, none, .mv (.t 0)⟩,
   ⟨some 43, none, .call n_laws_toVoteS S_laws_toVoteS [(.t 42, [some 2])]⟩,
   ⟨some 44, none, .call n_laws_eqVoteS S_laws_eqVoteS [(.t 41, [some 2]), (.t 43, [some 2])]⟩,
   ⟨some 45, none, .un .not (.t 44)⟩])
 (.cond (.t 45)
 (.seq
 (.rg [⟨some 2, none, .mv (.k (.bool false))⟩])
 .ret)
 .skip))
 (.seq
 (.rg [⟨some 9, none, .mv (.k (.int .i64 1))⟩])
 (.seq
 (.rg [⟨some 46, none, .mv (.t 6)⟩,
   ⟨some 47, none, .mv (.t 9)⟩,
   ⟨some 48, none, .callm n_laws_markVoteS_o S_laws_markVoteS_o [(.t 46, [some 2]), (.t 47, [])]⟩,
   ⟨some 9, none, .mv (.t 48)⟩])
 (.seq
 (.seq
 (.rg [⟨some 49, none, .mv (.t 9)⟩,
   ⟨some 50, none, .bin 0 .lss (.t 49) (.k (.int .i64 0))⟩,
   ⟨some 51, none, .mv (.t 50)⟩,
   ⟨some 52, some (51, false), .load (some 2) (.t 7)⟩,
   ⟨some 53, some (51, false), .load (some 2) (.t 4)⟩,
   ⟨some 54, some (51, false), .call n_laws_eqCert S_laws_eqCert [(.t 52, [some 4, some 1]), (.t 53, [some 4, some 1])]⟩,
   ⟨some 55, some (51, false), .un .not (.t 54)⟩,
   ⟨some 56, none, .pick (.t 51) (.k (.bool true)) (.t 55)⟩,
   ⟨some 57, none, .mv (.t 56)⟩,
   ⟨some 58, some (57, false), .mv (.t 8)⟩,
   ⟨some 59, some (57, false), .mv (.t 5)⟩,
   ⟨some 60, some (57, false), .bin 1 .neq (.t 58) (.t 59)⟩,
   ⟨some 61, none, .pick (.t 57) (.k (.bool true)) (.t 60)⟩])
 (.cond (.t 61)
 (.seq
 (.rg [⟨some 2, none, .mv (.k (.bool false))⟩])
 .ret)
 .skip))
 (.seq
 (.rg [⟨some 10, none, .mv (.k (.int .i64 1))⟩])
 (.seq
 (.rg [⟨some 62, none, .load (some 2) (.t 7)⟩,
   ⟨some 63, none, .mv (.t 10)⟩,
   ⟨some 64, none, .callm n_laws_markCert_o S_laws_markCert_o [(.t 62, [some 4, some 1]), (.t 63, [])]⟩,
   ⟨some 10, none, .mv (.t 64)⟩])
 (.seq
 (.rg [⟨some 11, none, .mv (.k (.int .i64 1))⟩])
 (.seq
 (.rg [⟨some 65, none, .load (some 2) (.t 7)⟩,
   ⟨some 66, none, .mv (.t 11)⟩,
   ⟨some 67, none, .call n_laws_heldCert S_laws_heldCert [(.t 65, [some 4, some 1]), (.t 66, [])]⟩,
   ⟨some 11, none, .mv (.t 67)⟩])
 (.seq
 (.seq
 (.rg [⟨some 68, none, .mv (.t 11)⟩,
   ⟨some 69, none, .bin 0 .lss (.t 68) (.k (.int .i64 0))⟩])
 (.cond (.t 69)
 (.seq
 (.rg [⟨some 2, none, .mv (.k (.bool false))⟩])
 .ret)
 .skip))
 (.seq
 (.seq
 (.rg [⟨some 70, none, .mv (.t 11)⟩,
   ⟨some 71, none, .mv (.t 10)⟩,
   ⟨some 72, none, .bin 0 .neq (.t 70) (.t 71)⟩])
 (.cond (.t 72)
 (.seq
 (.rg [⟨some 2, none, .mv (.k (.bool false))⟩])
 .ret)
 .skip))
 (.seq
 (.rg [⟨some 74, none, .mv (.t 0)⟩,
   ⟨some 75, none, .callm n_laws_toVoteS_o S_laws_toVoteS_o [(.t 74, [some 2])]⟩,
   ⟨some 76, none, .callb n_impl_CertOf_o S_impl_CertOf_o [(.t 75, [some 2])]⟩,
   ⟨some 73, none, .mv (.t 76)⟩,
   ⟨some 77, none, .ext (.t 73) 0⟩,
   ⟨some 78, none, .ext (.t 73) 1⟩,
   ⟨some 12, none, .alloc [.slice none 0 0, .slice none 0 0]⟩,
   ⟨none, none, .store 2 (.t 12) (.t 77)⟩,
   ⟨some 13, none, .mv (.t 78)⟩])
 (.seq
 (.seq
 (.rg [⟨some 79, none, .load (some 2) (.t 12)⟩,
   ⟨some 80, none, .load (some 2) (.t 4)⟩,
   ⟨some 81, none, .call n_laws_eqCert S_laws_eqCert [(.t 79, [some 4, some 1]), (.t 80, [some 4, some 1])]⟩,
   ⟨some 82, none, .un .not (.t 81)⟩,
   ⟨some 83, none, .mv (.t 82)⟩,
   ⟨some 84, some (83, false), .mv (.t 13)⟩,
   ⟨some 85, some (83, false), .mv (.t 5)⟩,
   ⟨some 86, some (83, false), .bin 1 .neq (.t 84) (.t 85)⟩,
   ⟨some 87, none, .pick (.t 83) (.k (.bool true)) (.t 86)⟩])
 (.cond (.t 87)
 (.seq
 (.rg [⟨some 2, none, .mv (.k (.bool false))⟩])
 .ret)
 .skip))
 (.seq
 (.rg [⟨some 11, none, .mv (.k (.int .i64 1))⟩])
 (.seq
 (.rg [⟨some 88, none, .load (some 2) (.t 7)⟩,
   ⟨some 89, none, .mv (.t 11)⟩,
   ⟨some 90, none, .call n_laws_heldCert S_laws_heldCert [(.t 88, [some 4, some 1]), (.t 89, [])]⟩,
   ⟨some 11, none, .mv (.t 90)⟩])
 (.seq
 (.seq
 (.rg [⟨some 91, none, .mv (.t 11)⟩,
   ⟨some 92, none, .bin 0 .lss (.t 91) (.k (.int .i64 0))⟩])
 (.cond (.t 92)
 (.seq
 (.rg [⟨some 2, none, .mv (.k (.bool false))⟩])
 .ret)
 .skip))
 (.seq
 (.seq
 (.rg [⟨some 93, none, .mv (.t 11)⟩,
   ⟨some 94, none, .mv (.t 10)⟩,
   ⟨some 95, none, .bin 0 .neq (.t 93) (.t 94)⟩])
 (.cond (.t 95)
 (.seq
 (.rg [⟨some 2, none, .mv (.k (.bool false))⟩])
 .ret)
 .skip))
 (.seq
 (.rg [⟨some 2, none, .mv (.k (.bool true))⟩])
 .ret))))))))))))))))))))))))) }
theorem is_laws_FnExactCertOf : IsF Try.prog n_laws_FnExactCertOf c_laws_FnExactCertOf := ⟨Try.f6, _, Try.func6, rfl, by decide, rfl, by kernel_rfl, by kernel_rfl⟩
end Av
end Go.Proofs.Ytdboofnogabefaa
