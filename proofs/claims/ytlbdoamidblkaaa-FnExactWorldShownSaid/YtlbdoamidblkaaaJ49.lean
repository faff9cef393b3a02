/- Texts of the layer, joined. -/
import Derived.Test.YtlbdoamidblkaaaU0
import Derived.Test.YtlbdoamidblkaaaD1
import Derived.Test.YtlbdoamidblkaaaProg
import Derived.KernelRfl
import Derived.Test.YtlbdoamidblkaaaJ9
import Derived.Test.YtlbdoamidblkaaaW0
import Derived.Test.YtlbdoamidblkaaaJ24
set_option linter.unusedVariables false
set_option linter.unusedSimpArgs false
namespace Go.Proofs.Ytlbdoamidblkaaa
namespace Av
noncomputable def c_impl_CertVotes : FC := { n := 39, res := [⟨none, 2, [some 2]⟩], body :=
 (.seq
 (.rg [⟨some 1, none, .box (.t 0)⟩,
   ⟨some 2, none, .mv (.k (.slice none 0 0))⟩])
 (.seq
 (.seq
 (.rg [⟨some 8, none, .load (some 2) (.t 1)⟩,
   ⟨some 9, none, .call n_impl_CertOk S_impl_CertOk [(.t 8, [some 4, some 1])]⟩,
   ⟨some 10, none, .un .not (.t 9)⟩])
 (.cond (.t 10)
 (.seq
 (.rg [⟨some 2, none, .mv (.k (.slice none 0 0))⟩])
 .ret)
 .skip))
 (.seq
 (.rg [⟨some 11, none, .bsl 35 2 []⟩,
   ⟨some 3, none, .mv (.t 11)⟩])
 (.seq
 (.seq
 (.rg [⟨some 12, none, .fld 1 (.t 1)⟩,
   ⟨some 13, none, .load none (.t 12)⟩,
   ⟨some 14, none, .len (.t 13)⟩,
   ⟨some 15, none, .mv (.k (.int .i64 0))⟩])
 (.block 0
 (.loop
 (.seq
 (.rg [⟨some 16, none, .bin 0 .lss (.t 15) (.t 14)⟩])
 (.seq
 (.cond (.t 16)
 .skip
 (.exit 0))
 (.seq
 (.block 1
 (.seq
 (.rg [⟨some 17, none, .mv (.t 15)⟩,
   ⟨some 18, none, .idx 1 (.t 13) (.t 15)⟩,
   ⟨some 19, none, .load none (.t 18)⟩,
   ⟨some 4, none, .mv (.t 17)⟩,
   ⟨some 5, none, .mv (.t 19)⟩])
 (.seq
 (.rg [⟨some 20, none, .mv (.t 5)⟩,
   ⟨some 21, none, .len (.t 20)⟩,
   ⟨some 22, none, .mv (.k (.int .i64 0))⟩])
 (.block 2
 (.loop
 (.seq
 (.rg [⟨some 23, none, .bin 0 .lss (.t 22) (.t 21)⟩])
 (.seq
 (.cond (.t 23)
 .skip
 (.exit 2))
 (.seq
 (.block 3
 (.seq
 (.rg [⟨some 24, none, .idx 1 (.t 20) (.t 22)⟩,
   ⟨some 25, none, .load none (.t 24)⟩,
   ⟨some 7, none, .mv (.t 25)⟩])
 (.rg [⟨some 26, none, .mv (.t 3)⟩,
   ⟨some 27, none, .mv (.t 7)⟩,
   ⟨some 28, none, .load (some 2) (.t 1)⟩,
   ⟨some 29, none, .mv (.t 4)⟩,
   ⟨some 30, none, .call n_impl_Cert_prefix S_impl_Cert_prefix [(.t 28, [some 4, some 1]), (.t 29, [])]⟩,
   ⟨some 31, none, .call n_impl_copied S_impl_copied [(.t 30, [some 4])]⟩,
   ⟨some 32, none, .build [.int .i64 0, .slice none 0 0] [(0, 1, .t 27), (1, 1, .t 31)]⟩,
   ⟨some 33, none, .bsl 35 2 [.t 32]⟩,
   ⟨some 34, none, .app 35 2 32 [.int .i64 0, .slice none 0 0] (.t 26) (.t 33)⟩,
   ⟨some 3, none, .mv (.t 34)⟩])))
 (.rg [⟨some 35, none, .bin 0 .add (.t 22) (.k (.int .i64 1))⟩,
   ⟨some 22, none, .mv (.t 35)⟩])))))))))
 (.rg [⟨some 36, none, .bin 0 .add (.t 15) (.k (.int .i64 1))⟩,
   ⟨some 15, none, .mv (.t 36)⟩])))))))
 (.seq
 (.rg [⟨some 37, none, .mv (.t 3)⟩,
   ⟨some 38, none, .callm n_slices_Clip_VoteS S_slices_Clip_VoteS [(.t 37, [some 2])]⟩,
   ⟨some 2, none, .mv (.t 38)⟩])
 .ret))))) }
theorem is_impl_CertVotes : IsF Try.prog n_impl_CertVotes c_impl_CertVotes := ⟨Try.f43, _, Try.func43, rfl, by decide, rfl, by kernel_rfl, by kernel_rfl⟩
end Av
end Go.Proofs.Ytlbdoamidblkaaa

namespace Go.Proofs.Ytlbdoamidblkaaa
namespace Av
end Av
end Go.Proofs.Ytlbdoamidblkaaa

namespace Go.Proofs.Ytlbdoamidblkaaa
namespace Av
open Go.RowKit
end Av
end Go.Proofs.Ytlbdoamidblkaaa
/- The walks: drawn payments and chains. -/
namespace Go.Proofs.Ytlbdoamidblkaaa
namespace Av
open Go.RowKit
attribute [local irreducible] Valid ValidM
end Av
end Go.Proofs.Ytlbdoamidblkaaa
/- The walks: two drawn chains, a drawn vote, votes anew and one more. -/
namespace Go.Proofs.Ytlbdoamidblkaaa
namespace Av
open Go.RowKit
end Av
end Go.Proofs.Ytlbdoamidblkaaa
/- The walks: drawn votes. -/
namespace Go.Proofs.Ytlbdoamidblkaaa
namespace Av
open Go.RowKit
end Av
end Go.Proofs.Ytlbdoamidblkaaa
/- The walks: votes drawn, some spoilt; the drawing functions of the laws. -/
namespace Go.Proofs.Ytlbdoamidblkaaa
namespace Av
open Go.RowKit
theorem fit16 {c : List It} (h : c.length ≤ 16) : c.length ≤ LIM := Nat.le_trans h (by decide)
end Av
end Go.Proofs.Ytlbdoamidblkaaa

