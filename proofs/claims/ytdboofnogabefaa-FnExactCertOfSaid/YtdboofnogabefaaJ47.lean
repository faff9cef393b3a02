/- Texts of the layer, joined. -/
import Derived.Test.YtdboofnogabefaaJ35
import Derived.Test.YtdboofnogabefaaD1
import Derived.Test.YtdboofnogabefaaProg
import Derived.KernelRfl
import Derived.Test.YtdboofnogabefaaT2
import Derived.Test.YtdboofnogabefaaJ42
import Derived.Test.YtdboofnogabefaaJ45
set_option linter.unusedVariables false
set_option linter.unusedSimpArgs false
namespace Go.Proofs.Ytdboofnogabefaa
namespace Av
noncomputable def c_spec_l13Of : FC := { n := 39, res := [⟨some (some 2), 4, [some 4, some 1]⟩, ⟨none, 5, []⟩], body :=
 (.seq
 (.rg [⟨some 4, none, .alloc [.slice none 0 0, .slice none 0 0]⟩,
   ⟨some 5, none, .mv (.k (.bool false))⟩])
 (.seq
 (.rg [⟨some 9, none, .mv (.t 1)⟩,
   ⟨some 10, none, .call n_spec_l11FinalIn S_spec_l11FinalIn [(.t 9, [some 4])]⟩,
   ⟨some 6, none, .mv (.t 10)⟩])
 (.seq
 (.seq
 (.rg [⟨some 11, none, .mv (.t 6)⟩,
   ⟨some 12, none, .bin 0 .eql (.t 11) (.k (.int .i64 0))⟩])
 (.cond (.t 12)
 (.seq
 (.rg [⟨some 13, none, .build [.slice none 0 0, .slice none 0 0] []⟩,
   ⟨none, none, .store 2 (.t 4) (.t 13)⟩,
   ⟨some 5, none, .mv (.k (.bool false))⟩])
 .ret)
 .skip))
 (.seq
 (.rg [⟨some 14, none, .mv (.t 1)⟩,
   ⟨some 15, none, .mv (.t 6)⟩,
   ⟨some 16, none, .bin 0 .add (.t 15) (.k (.int .i64 1))⟩,
   ⟨some 17, none, .slc 4 (.t 14) none (some (.t 16)) none⟩,
   ⟨some 18, none, .call n_spec_l1Copy S_spec_l1Copy [(.t 17, [some 4])]⟩,
   ⟨some 19, none, .build [.slice none 0 0, .slice none 0 0] [(0, 1, .t 18)]⟩,
   ⟨some 7, none, .alloc [.slice none 0 0, .slice none 0 0]⟩,
   ⟨none, none, .store 2 (.t 7) (.t 19)⟩])
 (.seq
 (.seq
 (.rg [⟨some 20, none, .mv (.t 6)⟩,
   ⟨some 21, none, .bin 0 .sub (.t 20) (.k (.int .i64 1))⟩,
   ⟨some 8, none, .mv (.t 21)⟩])
 (.block 0
 (.loop
 (.seq
 (.seq
 (.rg [⟨some 22, none, .mv (.t 8)⟩,
   ⟨some 23, none, .mv (.t 6)⟩,
   ⟨some 24, none, .bin 0 .add (.t 23) (.k (.int .i64 1))⟩,
   ⟨some 25, none, .bin 0 .leq (.t 22) (.t 24)⟩])
 (.cond (.t 25)
 .skip
 (.exit 0)))
 (.seq
 (.block 1
 (.rg [⟨some 28, none, .fld 1 (.t 7)⟩,
   ⟨some 29, none, .load none (.t 28)⟩,
   ⟨some 30, none, .mv (.t 0)⟩,
   ⟨some 31, none, .mv (.t 1)⟩,
   ⟨some 32, none, .mv (.t 8)⟩,
   ⟨some 33, none, .slc 4 (.t 31) none (some (.t 32)) none⟩,
   ⟨some 34, none, .call n_spec_VotesFor S_spec_VotesFor [(.t 30, [some 2]), (.t 33, [some 4])]⟩,
   ⟨some 35, none, .bsl 39 1 [.t 34]⟩,
   ⟨some 36, none, .app 39 1 24 [.slice none 0 0] (.t 29) (.t 35)⟩,
   ⟨some 37, none, .fld 1 (.t 7)⟩,
   ⟨none, none, .store 1 (.t 37) (.t 36)⟩]))
 (.rg [⟨some 26, none, .mv (.t 8)⟩,
   ⟨some 27, none, .bin 0 .add (.t 26) (.k (.int .i64 1))⟩,
   ⟨some 8, none, .mv (.t 27)⟩]))))))
 (.seq
 (.rg [⟨some 38, none, .load (some 2) (.t 7)⟩,
   ⟨none, none, .store 2 (.t 4) (.t 38)⟩,
   ⟨some 5, none, .mv (.k (.bool true))⟩])
 .ret)))))) }
theorem is_spec_l13Of : IsF Try.prog n_spec_l13Of c_spec_l13Of := ⟨Try.f84, _, Try.func84, rfl, by decide, rfl, by kernel_rfl, by kernel_rfl⟩
noncomputable def c_spec_CertOf : FC := { n := 42, res := [⟨some (some 2), 2, [some 4, some 1]⟩, ⟨none, 3, []⟩], body :=
 (.seq
 (.rg [⟨some 2, none, .alloc [.slice none 0 0, .slice none 0 0]⟩,
   ⟨some 3, none, .mv (.k (.bool false))⟩])
 (.seq
 (.seq
 (.rg [⟨some 7, none, .mv (.t 0)⟩,
   ⟨some 8, none, .call n_spec_VotesOk S_spec_VotesOk [(.t 7, [some 2])]⟩,
   ⟨some 9, none, .un .not (.t 8)⟩])
 (.cond (.t 9)
 (.seq
 (.rg [⟨some 10, none, .build [.slice none 0 0, .slice none 0 0] []⟩,
   ⟨none, none, .store 2 (.t 2) (.t 10)⟩,
   ⟨some 3, none, .mv (.k (.bool false))⟩])
 .ret)
 .skip))
 (.seq
 (.rg [⟨some 11, none, .mv (.t 0)⟩,
   ⟨some 12, none, .call n_spec_l11All S_spec_l11All [(.t 11, [some 2])]⟩,
   ⟨some 4, none, .mv (.t 12)⟩])
 (.seq
 (.rg [⟨some 13, none, .mv (.t 0)⟩,
   ⟨some 14, none, .call n_spec_l11Final S_spec_l11Final [(.t 13, [some 2])]⟩,
   ⟨some 15, none, .len (.t 14)⟩,
   ⟨some 5, none, .mv (.t 15)⟩])
 (.seq
 (.seq
 (.rg [⟨some 6, none, .mv (.k (.int .i64 0))⟩])
 (.block 0
 (.loop
 (.seq
 (.seq
 (.rg [⟨some 16, none, .mv (.t 6)⟩,
   ⟨some 17, none, .mv (.t 4)⟩,
   ⟨some 18, none, .len (.t 17)⟩,
   ⟨some 19, none, .bin 0 .lss (.t 16) (.t 18)⟩])
 (.cond (.t 19)
 .skip
 (.exit 0)))
 (.seq
 (.block 1
 (.seq
 (.rg [⟨some 22, none, .mv (.t 4)⟩,
   ⟨some 23, none, .mv (.t 6)⟩,
   ⟨some 24, none, .idx 1 (.t 22) (.t 23)⟩,
   ⟨some 25, none, .load none (.t 24)⟩,
   ⟨some 26, none, .call n_spec_l11FinalIn S_spec_l11FinalIn [(.t 25, [some 4])]⟩,
   ⟨some 27, none, .mv (.t 5)⟩,
   ⟨some 28, none, .bin 0 .eql (.t 26) (.t 27)⟩,
   ⟨some 29, none, .mv (.t 28)⟩,
   ⟨some 30, some (29, true), .mv (.t 5)⟩,
   ⟨some 31, some (29, true), .bin 0 .gtr (.t 30) (.k (.int .i64 0))⟩,
   ⟨some 32, none, .pick (.t 29) (.t 31) (.k (.bool false))⟩])
 (.cond (.t 32)
 (.seq
 (.rg [⟨some 33, none, .mv (.t 0)⟩,
   ⟨some 34, none, .mv (.t 4)⟩,
   ⟨some 35, none, .mv (.t 6)⟩,
   ⟨some 36, none, .idx 1 (.t 34) (.t 35)⟩,
   ⟨some 37, none, .load none (.t 36)⟩,
   ⟨some 38, none, .callm n_spec_l13Of S_spec_l13Of [(.t 33, [some 2]), (.t 37, [some 4])]⟩,
   ⟨some 39, none, .ext (.t 38) 0⟩,
   ⟨some 40, none, .ext (.t 38) 1⟩,
   ⟨none, none, .store 2 (.t 2) (.t 39)⟩,
   ⟨some 3, none, .mv (.t 40)⟩])
 .ret)
 .skip)))
 (.rg [⟨some 20, none, .mv (.t 6)⟩,
   ⟨some 21, none, .bin 0 .add (.t 20) (.k (.int .i64 1))⟩,
   ⟨some 6, none, .mv (.t 21)⟩]))))))
 (.seq
 (.rg [⟨some 41, none, .build [.slice none 0 0, .slice none 0 0] []⟩,
   ⟨none, none, .store 2 (.t 2) (.t 41)⟩,
   ⟨some 3, none, .mv (.k (.bool false))⟩])
 .ret)))))) }
theorem is_spec_CertOf : IsF Try.prog n_spec_CertOf c_spec_CertOf := ⟨Try.f35, _, Try.func35, rfl, by decide, rfl, by kernel_rfl, by kernel_rfl⟩
noncomputable def c_spec_VotesFor : FC := { n := 26, res := [⟨none, 4, [some 1]⟩], body :=
 (.seq
 (.rg [⟨some 4, none, .mv (.k (.slice none 0 0))⟩])
 (.seq
 (.rg [⟨some 7, none, .bsl 3 1 []⟩,
   ⟨some 5, none, .mv (.t 7)⟩])
 (.seq
 (.seq
 (.rg [⟨some 8, none, .mv (.t 0)⟩,
   ⟨some 9, none, .call n_spec_VotesOk S_spec_VotesOk [(.t 8, [some 2])]⟩,
   ⟨some 10, none, .un .not (.t 9)⟩])
 (.cond (.t 10)
 (.seq
 (.rg [⟨some 11, none, .mv (.t 5)⟩,
   ⟨some 4, none, .mv (.t 11)⟩])
 .ret)
 .skip))
 (.seq
 (.seq
 (.rg [⟨some 6, none, .mv (.k (.int .i64 1))⟩])
 (.block 0
 (.loop
 (.seq
 (.seq
 (.rg [⟨some 12, none, .mv (.t 6)⟩,
   ⟨some 13, none, .bin 0 .leq (.t 12) (.k (.int .i64 4))⟩])
 (.cond (.t 13)
 .skip
 (.exit 0)))
 (.seq
 (.block 1
 (.seq
 (.rg [⟨some 16, none, .mv (.t 0)⟩,
   ⟨some 17, none, .mv (.t 6)⟩,
   ⟨some 18, none, .mv (.t 1)⟩,
   ⟨some 19, none, .build [.int .i64 0, .slice none 0 0] [(0, 1, .t 17), (1, 1, .t 18)]⟩,
   ⟨some 20, none, .call n_spec_l3Has S_spec_l3Has [(.t 16, [some 2]), (.t 19, [none, some 4])]⟩])
 (.cond (.t 20)
 (.rg [⟨some 21, none, .mv (.t 5)⟩,
   ⟨some 22, none, .mv (.t 6)⟩,
   ⟨some 23, none, .bsl 3 1 [.t 22]⟩,
   ⟨some 24, none, .app 3 1 8 [.int .i64 0] (.t 21) (.t 23)⟩,
   ⟨some 5, none, .mv (.t 24)⟩])
 .skip)))
 (.rg [⟨some 14, none, .mv (.t 6)⟩,
   ⟨some 15, none, .bin 0 .add (.t 14) (.k (.int .i64 1))⟩,
   ⟨some 6, none, .mv (.t 15)⟩]))))))
 (.seq
 (.rg [⟨some 25, none, .mv (.t 5)⟩,
   ⟨some 4, none, .mv (.t 25)⟩])
 .ret))))) }
theorem is_spec_VotesFor : IsF Try.prog n_spec_VotesFor c_spec_VotesFor := ⟨Try.f127, _, Try.func127, rfl, by decide, rfl, by kernel_rfl, by kernel_rfl⟩
end Av
end Go.Proofs.Ytdboofnogabefaa

namespace Go.Proofs.Ytdboofnogabefaa
namespace Av
open Go.RowKit
end Av
end Go.Proofs.Ytdboofnogabefaa

namespace Go.Proofs.Ytdboofnogabefaa
namespace Av
open Go.RowKit
end Av
end Go.Proofs.Ytdboofnogabefaa

