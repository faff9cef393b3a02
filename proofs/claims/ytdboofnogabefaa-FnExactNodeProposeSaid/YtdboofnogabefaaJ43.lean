/- Texts of the layer, joined. -/
import Derived.Test.YtdboofnogabefaaZE
import Derived.Test.YtdboofnogabefaaD1
import Derived.Test.YtdboofnogabefaaProg
import Derived.KernelRfl
import Derived.Test.YtdboofnogabefaaZC
set_option linter.unusedVariables false
set_option linter.unusedSimpArgs false
namespace Go.Proofs.Ytdboofnogabefaa
namespace Av
noncomputable def c_spec_l3Copy_o : FC := { n := 21, res := [⟨none, 2, [some 2]⟩], body :=
 (.seq
 (.rg [⟨some 2, none, .mv (.k (.slice none 0 0))⟩])
 (.seq
 (.rg [⟨some 5, none, .bslf true 32 2 []⟩,
   ⟨some 3, none, .mv (.t 5)⟩])
 (.seq
 (.seq
 (.rg [⟨some 4, none, .mv (.k (.int .i64 0))⟩])
 (.block 0
 (.loop
 (.seq
 (.seq
 (.rg [⟨some 6, none, .mv (.t 4)⟩,
   ⟨some 7, none, .mv (.t 0)⟩,
   ⟨some 8, none, .len (.t 7)⟩,
   ⟨some 9, none, .bin 0 .lss (.t 6) (.t 8)⟩])
 (.cond (.t 9)
 .skip
 (.exit 0)))
 (.seq
 (.block 1
 (.rg [⟨some 12, none, .mv (.t 3)⟩,
   ⟨some 13, none, .mv (.t 0)⟩,
   ⟨some 14, none, .mv (.t 4)⟩,
   ⟨some 15, none, .idx 2 (.t 13) (.t 14)⟩,
   ⟨some 16, none, .load (some 2) (.t 15)⟩,
   ⟨some 17, none, .call n_spec_l3VoteCopy S_spec_l3VoteCopy [(.t 16, [none, some 4])]⟩,
   ⟨some 18, none, .bsl 32 2 [.t 17]⟩,
   ⟨some 19, none, .app 32 2 32 [.int .i64 0, .slice none 0 0] (.t 12) (.t 18)⟩,
   ⟨some 3, none, .mv (.t 19)⟩]))
 (.rg [⟨some 10, none, .mv (.t 4)⟩,
   ⟨some 11, none, .bin 0 .add (.t 10) (.k (.int .i64 1))⟩,
   ⟨some 4, none, .mv (.t 11)⟩]))))))
 (.seq
 (.rg [⟨some 20, none, .mv (.t 3)⟩,
   ⟨some 2, none, .mv (.t 20)⟩])
 .ret)))) }
theorem is_spec_l3Copy_o : IsF Try.prog n_spec_l3Copy_o c_spec_l3Copy_o := ⟨Try.f133, _, Try.func133, rfl, by decide, rfl, by kernel_rfl, by kernel_rfl⟩
noncomputable def c_spec_l12Copy : FC := { n := 8, res := [⟨some (some 4), 2, [none, none, none, some 2]⟩], body :=
 (.seq
 (.rg [⟨some 1, none, .box (.t 0)⟩,
   ⟨some 2, none, .alloc [.int .i64 0, .int .i64 0, .int .i64 0, .slice none 0 0]⟩])
 (.seq
 (.rg [⟨some 3, none, .fld 3 (.t 1)⟩,
   ⟨some 4, none, .load none (.t 3)⟩,
   ⟨some 5, none, .callm n_spec_l3Copy SM_spec_l3Copy [(.t 4, [some 2])]⟩,
   ⟨some 6, none, .fld 3 (.t 1)⟩,
   ⟨none, none, .store 1 (.t 6) (.t 5)⟩])
 (.seq
 (.rg [⟨some 7, none, .load (some 4) (.t 1)⟩,
   ⟨none, none, .store 4 (.t 2) (.t 7)⟩])
 .ret))) }
theorem is_spec_l12Copy : IsF Try.prog n_spec_l12Copy c_spec_l12Copy := ⟨Try.f98, _, Try.func98, rfl, by decide, rfl, by kernel_rfl, by kernel_rfl⟩
noncomputable def c_spec_l12Vote : FC := { n := 31, res := [⟨some (some 4), 4, [none, none, none, some 2]⟩, ⟨some (some 2), 5, [none, some 4]⟩, ⟨none, 6, []⟩], body :=
 (.seq
 (.rg [⟨some 2, none, .box (.t 0)⟩,
   ⟨some 4, none, .alloc [.int .i64 0, .int .i64 0, .int .i64 0, .slice none 0 0]⟩,
   ⟨some 5, none, .alloc [.int .i64 0, .slice none 0 0]⟩,
   ⟨some 6, none, .mv (.k (.bool false))⟩])
 (.seq
 (.rg [⟨some 8, none, .fld 0 (.t 2)⟩,
   ⟨some 9, none, .load none (.t 8)⟩,
   ⟨some 10, none, .mv (.t 1)⟩,
   ⟨some 11, none, .call n_spec_l1Copy S_spec_l1Copy [(.t 10, [some 4])]⟩,
   ⟨some 12, none, .build [.int .i64 0, .slice none 0 0] [(0, 1, .t 9), (1, 1, .t 11)]⟩,
   ⟨some 7, none, .alloc [.int .i64 0, .slice none 0 0]⟩,
   ⟨none, none, .store 2 (.t 7) (.t 12)⟩])
 (.seq
 (.seq
 (.rg [⟨some 13, none, .fld 3 (.t 2)⟩,
   ⟨some 14, none, .load none (.t 13)⟩,
   ⟨some 15, none, .len (.t 14)⟩,
   ⟨some 16, none, .bin 0 .geq (.t 15) (.k (.int .i64 80))⟩])
 (.cond (.t 16)
 (.seq
 (.rg [⟨some 17, none, .load (some 4) (.t 2)⟩,
   ⟨some 18, none, .build [.int .i64 0, .slice none 0 0] []⟩,
   ⟨none, none, .store 4 (.t 4) (.t 17)⟩,
   ⟨none, none, .store 2 (.t 5) (.t 18)⟩,
   ⟨some 6, none, .mv (.k (.bool false))⟩])
 .ret)
 .skip))
 (.seq
 (.rg [⟨some 19, none, .fld 1 (.t 2)⟩,
   ⟨some 20, none, .load none (.t 19)⟩,
   ⟨some 21, none, .fld 2 (.t 2)⟩,
   ⟨none, none, .store 1 (.t 21) (.t 20)⟩])
 (.seq
 (.rg [⟨some 22, none, .fld 3 (.t 2)⟩,
   ⟨some 23, none, .load none (.t 22)⟩,
   ⟨some 24, none, .load (some 2) (.t 7)⟩,
   ⟨some 25, none, .call n_spec_l3VoteCopy S_spec_l3VoteCopy [(.t 24, [none, some 4])]⟩,
   ⟨some 26, none, .bsl 32 2 [.t 25]⟩,
   ⟨some 27, none, .app 32 2 32 [.int .i64 0, .slice none 0 0] (.t 23) (.t 26)⟩,
   ⟨some 28, none, .fld 3 (.t 2)⟩,
   ⟨none, none, .store 1 (.t 28) (.t 27)⟩])
 (.seq
 (.rgp [(7, 4)] [⟨some 29, none, .load (some 4) (.t 2)⟩,
   ⟨some 30, none, .load (some 2) (.t 7)⟩,
   ⟨none, none, .store 4 (.t 4) (.t 29)⟩,
   ⟨none, none, .store 2 (.t 5) (.t 30)⟩,
   ⟨some 6, none, .mv (.k (.bool true))⟩])
 .ret)))))) }
theorem is_spec_l12Vote : IsF Try.prog n_spec_l12Vote c_spec_l12Vote := ⟨Try.f132, _, Try.func132, rfl, by decide, rfl, by kernel_rfl, by kernel_rfl⟩
noncomputable def c_spec_l12Propose : FC := { n := 49, res := [⟨some (some 4), 4, [none, none, none, some 2]⟩, ⟨some (some 2), 5, [none, some 4]⟩, ⟨none, 6, []⟩], body :=
 (.seq
 (.rg [⟨some 2, none, .box (.t 0)⟩,
   ⟨some 3, none, .box (.t 1)⟩,
   ⟨some 4, none, .alloc [.int .i64 0, .int .i64 0, .int .i64 0, .slice none 0 0]⟩,
   ⟨some 5, none, .alloc [.int .i64 0, .slice none 0 0]⟩,
   ⟨some 6, none, .mv (.k (.bool false))⟩])
 (.seq
 (.seq
 (.rg [⟨some 8, none, .fld 1 (.t 2)⟩,
   ⟨some 9, none, .load none (.t 8)⟩,
   ⟨some 10, none, .bin 0 .eql (.t 9) (.k (.int .i64 0))⟩,
   ⟨some 11, none, .mv (.t 10)⟩,
   ⟨some 12, some (11, false), .fld 2 (.t 2)⟩,
   ⟨some 13, some (11, false), .load none (.t 12)⟩,
   ⟨some 14, some (11, false), .fld 1 (.t 2)⟩,
   ⟨some 15, some (11, false), .load none (.t 14)⟩,
   ⟨some 16, some (11, false), .bin 0 .eql (.t 13) (.t 15)⟩,
   ⟨some 17, none, .pick (.t 11) (.k (.bool true)) (.t 16)⟩,
   ⟨some 18, none, .mv (.t 17)⟩,
   ⟨some 19, some (18, false), .fld 1 (.t 2)⟩,
   ⟨some 20, some (18, false), .load none (.t 19)⟩,
   ⟨some 21, some (18, false), .call n_spec_l3Leader S_spec_l3Leader [(.t 20, [])]⟩,
   ⟨some 22, some (18, false), .fld 0 (.t 2)⟩,
   ⟨some 23, some (18, false), .load none (.t 22)⟩,
   ⟨some 24, some (18, false), .bin 0 .neq (.t 21) (.t 23)⟩,
   ⟨some 25, none, .pick (.t 18) (.k (.bool true)) (.t 24)⟩])
 (.cond (.t 25)
 (.seq
 (.rg [⟨some 26, none, .load (some 4) (.t 2)⟩,
   ⟨some 27, none, .build [.int .i64 0, .slice none 0 0] []⟩,
   ⟨none, none, .store 4 (.t 4) (.t 26)⟩,
   ⟨none, none, .store 2 (.t 5) (.t 27)⟩,
   ⟨some 6, none, .mv (.k (.bool false))⟩])
 .ret)
 .skip))
 (.seq
 (.rg [⟨some 28, none, .fld 3 (.t 2)⟩,
   ⟨some 29, none, .load none (.t 28)⟩,
   ⟨some 30, none, .call n_spec_l11Tip S_spec_l11Tip [(.t 29, [some 2])]⟩,
   ⟨some 31, none, .callo n_spec_l1Copy SO_spec_l1Copy [(.t 30, [some 4])]⟩,
   ⟨some 32, none, .fld 1 (.t 2)⟩,
   ⟨some 33, none, .load none (.t 32)⟩,
   ⟨some 34, none, .load (some 3) (.t 3)⟩,
   ⟨some 35, none, .build [.int .i64 0, .int .i64 0, .int .i64 0, .int .i64 0] [(0, 1, .t 33), (1, 3, .t 34)]⟩,
   ⟨some 36, none, .bsl 54 4 [.t 35]⟩,
   ⟨some 37, none, .app 54 4 32 [.int .i64 0, .int .i64 0, .int .i64 0, .int .i64 0] (.t 31) (.t 36)⟩,
   ⟨some 7, none, .mv (.t 37)⟩])
 (.seq
 (.seq
 (.frz 7 (.rg [⟨some 38, none, .mv (.t 7)⟩,
   ⟨some 39, none, .call n_spec_ChainOk S_spec_ChainOk [(.t 38, [some 4])]⟩,
   ⟨some 40, none, .un .not (.t 39)⟩]))
 (.cond (.t 40)
 (.seq
 (.rg [⟨some 41, none, .load (some 4) (.t 2)⟩,
   ⟨some 42, none, .build [.int .i64 0, .slice none 0 0] []⟩,
   ⟨none, none, .store 4 (.t 4) (.t 41)⟩,
   ⟨none, none, .store 2 (.t 5) (.t 42)⟩,
   ⟨some 6, none, .mv (.k (.bool false))⟩])
 .ret)
 .skip))
 (.seq
 (.rg [⟨some 43, none, .load (some 4) (.t 2)⟩,
   ⟨some 44, none, .mv (.t 7)⟩,
   ⟨some 45, none, .callm n_spec_l12Vote S_spec_l12Vote [(.t 43, [none, none, none, some 2]), (.t 44, [some 4])]⟩,
   ⟨some 46, none, .ext (.t 45) 0⟩,
   ⟨some 47, none, .ext (.t 45) 1⟩,
   ⟨some 48, none, .ext (.t 45) 2⟩,
   ⟨none, none, .store 4 (.t 4) (.t 46)⟩,
   ⟨none, none, .store 2 (.t 5) (.t 47)⟩,
   ⟨some 6, none, .mv (.t 48)⟩])
 .ret))))) }
theorem is_spec_l12Propose : IsF Try.prog n_spec_l12Propose c_spec_l12Propose := ⟨Try.f97, _, Try.func97, rfl, by decide, rfl, by kernel_rfl, by kernel_rfl⟩
noncomputable def c_spec_NodePropose : FC := { n := 24, res := [⟨some (some 4), 4, [none, none, none, some 2]⟩, ⟨some (some 2), 5, [none, some 4]⟩, ⟨none, 6, []⟩], body :=
 (.seq
 (.rg [⟨some 2, none, .box (.t 0)⟩,
   ⟨some 3, none, .box (.t 1)⟩,
   ⟨some 4, none, .alloc [.int .i64 0, .int .i64 0, .int .i64 0, .slice none 0 0]⟩,
   ⟨some 5, none, .alloc [.int .i64 0, .slice none 0 0]⟩,
   ⟨some 6, none, .mv (.k (.bool false))⟩])
 (.seq
 (.seq
 (.rg [⟨some 7, none, .load (some 4) (.t 2)⟩,
   ⟨some 8, none, .call n_spec_NodeOk S_spec_NodeOk [(.t 7, [none, none, none, some 2])]⟩,
   ⟨some 9, none, .un .not (.t 8)⟩,
   ⟨some 10, none, .mv (.t 9)⟩,
   ⟨some 11, some (10, false), .load (some 3) (.t 3)⟩,
   ⟨some 12, some (10, false), .call n_spec_PayOk S_spec_PayOk [(.t 11, [])]⟩,
   ⟨some 13, some (10, false), .un .not (.t 12)⟩,
   ⟨some 14, none, .pick (.t 10) (.k (.bool true)) (.t 13)⟩])
 (.cond (.t 14)
 (.seq
 (.rg [⟨some 15, none, .build [.int .i64 0, .int .i64 0, .int .i64 0, .slice none 0 0] []⟩,
   ⟨some 16, none, .build [.int .i64 0, .slice none 0 0] []⟩,
   ⟨none, none, .store 4 (.t 4) (.t 15)⟩,
   ⟨none, none, .store 2 (.t 5) (.t 16)⟩,
   ⟨some 6, none, .mv (.k (.bool false))⟩])
 .ret)
 .skip))
 (.seq
 (.rg [⟨some 17, none, .load (some 4) (.t 2)⟩,
   ⟨some 18, none, .callm n_spec_l12Copy S_spec_l12Copy [(.t 17, [none, none, none, some 2])]⟩,
   ⟨some 19, none, .load (some 3) (.t 3)⟩,
   ⟨some 20, none, .callm n_spec_l12Propose S_spec_l12Propose [(.t 18, [none, none, none, some 2]), (.t 19, [])]⟩,
   ⟨some 21, none, .ext (.t 20) 0⟩,
   ⟨some 22, none, .ext (.t 20) 1⟩,
   ⟨some 23, none, .ext (.t 20) 2⟩,
   ⟨none, none, .store 4 (.t 4) (.t 21)⟩,
   ⟨none, none, .store 2 (.t 5) (.t 22)⟩,
   ⟨some 6, none, .mv (.t 23)⟩])
 .ret))) }
theorem is_spec_NodePropose : IsF Try.prog n_spec_NodePropose c_spec_NodePropose := ⟨Try.f43, _, Try.func43, rfl, by decide, rfl, by kernel_rfl, by kernel_rfl⟩
end Av
end Go.Proofs.Ytdboofnogabefaa

namespace Go.Proofs.Ytdboofnogabefaa
namespace Av
open Go.RowKit
theorem propN_tf {n : Nd} {p : Pa} (h : VotesOk n.seen) : propN true n p = propN false n p := by
  unfold propN; rw [show tipX true n.seen = tipX false n.seen from tipM_eq h]
/-! ### bounds -/
def NdV (n : Nd) (o : Tri) : Prop := o.1.id = n.id ∧ o.1.ep = n.ep ∧ SeenB o.1.seen ∧ (o.2.2 = true → VoteOk o.2.1) ∧ o.2.1.c.length ≤ 16
theorem NdV.ndb {n : Nd} {o : Tri} (h : NdV n o) (hn : NdB n) : NdB o.1 := ⟨by rw [h.1]; exact hn.1, by rw [h.2.1]; exact hn.2.1, h.2.2.1⟩
end Av
end Go.Proofs.Ytdboofnogabefaa

