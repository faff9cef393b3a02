/- Texts of the layer, joined. -/
import Derived.Test.YtdboofnogabefaaVA
import Derived.Test.YtdboofnogabefaaD1
import Derived.Test.YtdboofnogabefaaProg
import Derived.KernelRfl
import Derived.Test.YtdboofnogabefaaJ8
import Derived.Test.YtdboofnogabefaaJ19
import Derived.Test.YtdboofnogabefaaG2
import Derived.Test.YtdboofnogabefaaJ22
set_option linter.unusedVariables false
set_option linter.unusedSimpArgs false
namespace Go.Proofs.Ytdboofnogabefaa
namespace Av
noncomputable def c_slices_Clip_VoteS_o : FC := { n := 9, res := [⟨none, 2, [some 2]⟩], body :=
 (.seq
 (.rg [⟨some 2, none, .mv (.k (.slice none 0 0))⟩])
 (.seq
 (.rg [⟨some 3, none, .mv (.t 0)⟩,
   ⟨some 4, none, .mv (.t 0)⟩,
   ⟨some 5, none, .len (.t 4)⟩,
   ⟨some 6, none, .mv (.t 0)⟩,
   ⟨some 7, none, .len (.t 6)⟩,
   ⟨some 8, none, .clip 2 (.t 3) (.t 5) (.t 7)⟩,
   ⟨some 2, none, .mv (.t 8)⟩])
 .ret)) }
theorem is_slices_Clip_VoteS_o : IsF Try.prog n_slices_Clip_VoteS_o c_slices_Clip_VoteS_o := ⟨Try.f156, _, Try.func156, rfl, by decide, rfl, by kernel_rfl, by kernel_rfl⟩
noncomputable def c_laws_heldVoteS : FC := { n := 31, res := [⟨none, 4, []⟩], body :=
 (.seq
 (.rg [⟨some 4, none, .mv (.k (.int .i64 0))⟩])
 (.seq
 (.seq
 (.rg [⟨some 5, none, .mv (.k (.int .i64 0))⟩])
 (.block 0
 (.loop
 (.seq
 (.seq
 (.rg [⟨some 6, none, .mv (.t 5)⟩,
   ⟨some 7, none, .mv (.t 0)⟩,
   ⟨some 8, none, .len (.t 7)⟩,
   ⟨some 9, none, .bin 0 .lss (.t 6) (.t 8)⟩])
 (.cond (.t 9)
 .skip
 (.exit 0)))
 (.seq
 (.block 1
 (.seq
 (.seq
 (.rg [⟨some 12, none, .mv (.t 0)⟩,
   ⟨some 13, none, .mv (.t 5)⟩,
   ⟨some 14, none, .idx 2 (.t 12) (.t 13)⟩,
   ⟨some 15, none, .fld 0 (.t 14)⟩,
   ⟨some 16, none, .load none (.t 15)⟩,
   ⟨some 17, none, .mv (.t 1)⟩,
   ⟨some 18, none, .bin 0 .neq (.t 16) (.t 17)⟩])
 (.cond (.t 18)
 (.seq
 (.rg [⟨some 4, none, .mv (.k (.int .i64 (-1)))⟩])
 .ret)
 .skip))
 (.seq
 (.rg [⟨some 19, none, .mv (.t 1)⟩,
   ⟨some 20, none, .bin 0 .add (.t 19) (.k (.int .i64 1))⟩,
   ⟨some 1, none, .mv (.t 20)⟩])
 (.seq
 (.rg [⟨some 21, none, .mv (.t 0)⟩,
   ⟨some 22, none, .mv (.t 5)⟩,
   ⟨some 23, none, .idx 2 (.t 21) (.t 22)⟩,
   ⟨some 24, none, .fld 1 (.t 23)⟩,
   ⟨some 25, none, .load none (.t 24)⟩,
   ⟨some 26, none, .mv (.t 1)⟩,
   ⟨some 27, none, .call n_laws_heldItemS S_laws_heldItemS [(.t 25, [some 4]), (.t 26, [])]⟩,
   ⟨some 1, none, .mv (.t 27)⟩])
 (.seq
 (.rg [⟨some 28, none, .mv (.t 1)⟩,
   ⟨some 29, none, .bin 0 .lss (.t 28) (.k (.int .i64 0))⟩])
 (.cond (.t 29)
 (.seq
 (.rg [⟨some 4, none, .mv (.k (.int .i64 (-1)))⟩])
 .ret)
 .skip))))))
 (.rg [⟨some 10, none, .mv (.t 5)⟩,
   ⟨some 11, none, .bin 0 .add (.t 10) (.k (.int .i64 1))⟩,
   ⟨some 5, none, .mv (.t 11)⟩]))))))
 (.seq
 (.rg [⟨some 30, none, .mv (.t 1)⟩,
   ⟨some 4, none, .mv (.t 30)⟩])
 .ret))) }
theorem is_laws_heldVoteS : IsF Try.prog n_laws_heldVoteS c_laws_heldVoteS := ⟨Try.f99, _, Try.func99, rfl, by decide, rfl, by kernel_rfl, by kernel_rfl⟩
noncomputable def c_impl_Vote_copied_o : FC := { n := 9, res := [⟨some (some 2), 2, [none, some 4]⟩], body :=
 (.seq
 (.rg [⟨some 1, none, .box (.t 0)⟩,
   ⟨some 2, none, .alloc [.int .i64 0, .slice none 0 0]⟩])
 (.seq
 (.rg [⟨some 3, none, .fld 0 (.t 1)⟩,
   ⟨some 4, none, .load none (.t 3)⟩,
   ⟨some 5, none, .fld 1 (.t 1)⟩,
   ⟨some 6, none, .load none (.t 5)⟩,
   ⟨some 7, none, .callo n_impl_copied SO_impl_copied [(.t 6, [some 4])]⟩,
   ⟨some 8, none, .build [.int .i64 0, .slice none 0 0] [(0, 1, .t 4), (1, 1, .t 7)]⟩,
   ⟨none, none, .store 2 (.t 2) (.t 8)⟩])
 .ret)) }
theorem is_impl_Vote_copied_o : IsF Try.prog n_impl_Vote_copied_o c_impl_Vote_copied_o := ⟨Try.f139, _, Try.func139, rfl, by decide, rfl, by kernel_rfl, by kernel_rfl⟩
noncomputable def c_impl_votes_copied_o : FC := { n := 22, res := [⟨none, 2, [some 2]⟩], body :=
 (.seq
 (.rg [⟨some 2, none, .mv (.k (.slice none 0 0))⟩])
 (.seq
 (.rg [⟨some 6, none, .mv (.t 0)⟩,
   ⟨some 7, none, .len (.t 6)⟩,
   ⟨some 8, none, .mksl 32 2 32 [.int .i64 0, .slice none 0 0] (.k (.int .i64 0)) (.t 7)⟩,
   ⟨some 3, none, .mv (.t 8)⟩])
 (.seq
 (.seq
 (.rg [⟨some 9, none, .mv (.t 0)⟩,
   ⟨some 10, none, .len (.t 9)⟩,
   ⟨some 11, none, .mv (.k (.int .i64 0))⟩])
 (.block 0
 (.loop
 (.seq
 (.rg [⟨some 12, none, .bin 0 .lss (.t 11) (.t 10)⟩])
 (.seq
 (.cond (.t 12)
 .skip
 (.exit 0))
 (.seq
 (.block 1
 (.seq
 (.rg [⟨some 13, none, .idx 2 (.t 9) (.t 11)⟩,
   ⟨some 14, none, .load (some 2) (.t 13)⟩,
   ⟨some 5, none, .alloc [.int .i64 0, .slice none 0 0]⟩,
   ⟨none, none, .store 2 (.t 5) (.t 14)⟩])
 (.rg [⟨some 15, none, .mv (.t 3)⟩,
   ⟨some 16, none, .load (some 2) (.t 5)⟩,
   ⟨some 17, none, .callm n_impl_Vote_copied_o S_impl_Vote_copied_o [(.t 16, [none, some 4])]⟩,
   ⟨some 18, none, .bsl 32 2 [.t 17]⟩,
   ⟨some 19, none, .app 32 2 32 [.int .i64 0, .slice none 0 0] (.t 15) (.t 18)⟩,
   ⟨some 3, none, .mv (.t 19)⟩])))
 (.rg [⟨some 20, none, .bin 0 .add (.t 11) (.k (.int .i64 1))⟩,
   ⟨some 11, none, .mv (.t 20)⟩])))))))
 (.seq
 (.rg [⟨some 21, none, .mv (.t 3)⟩,
   ⟨some 2, none, .mv (.t 21)⟩])
 .ret)))) }
theorem is_impl_votes_copied_o : IsF Try.prog n_impl_votes_copied_o c_impl_votes_copied_o := ⟨Try.f105, _, Try.func105, rfl, by decide, rfl, by kernel_rfl, by kernel_rfl⟩
noncomputable def c_slices_Clone_VoteS_o : FC := { n := 8, res := [⟨none, 2, [some 2]⟩], body :=
 (.seq
 (.rg [⟨some 2, none, .mv (.k (.slice none 0 0))⟩])
 (.seq
 (.seq
 (.rg [⟨some 3, none, .mv (.t 0)⟩,
   ⟨some 4, none, .bin 3 .eql (.t 3) (.k (.slice none 0 0))⟩])
 (.cond (.t 4)
 (.seq
 (.rg [⟨some 2, none, .mv (.k (.slice none 0 0))⟩])
 .ret)
 .skip))
 (.seq
 (.rg [⟨some 5, none, .bsl 32 2 []⟩,
   ⟨some 6, none, .mv (.t 0)⟩,
   ⟨some 7, none, .app 32 2 32 [.int .i64 0, .slice none 0 0] (.t 5) (.t 6)⟩,
   ⟨some 2, none, .mv (.t 7)⟩])
 .ret))) }
theorem is_slices_Clone_VoteS_o : IsF Try.prog n_slices_Clone_VoteS_o c_slices_Clone_VoteS_o := ⟨Try.f157, _, Try.func157, rfl, by decide, rfl, by kernel_rfl, by kernel_rfl⟩
noncomputable def c_impl_votes_with_o : FC := { n := 12, res := [⟨none, 4, [some 2]⟩], body :=
 (.seq
 (.rg [⟨some 3, none, .box (.t 1)⟩,
   ⟨some 4, none, .mv (.k (.slice none 0 0))⟩])
 (.seq
 (.rgp [(3, 3)] [⟨some 5, none, .mv (.t 0)⟩,
   ⟨some 6, none, .callm n_slices_Clone_VoteS_o S_slices_Clone_VoteS_o [(.t 5, [some 2])]⟩,
   ⟨some 7, none, .load (some 2) (.t 3)⟩,
   ⟨some 8, none, .callb n_impl_Vote_copied_o S_impl_Vote_copied_o [(.t 7, [none, some 4])]⟩,
   ⟨some 9, none, .bsl 32 2 [.t 8]⟩,
   ⟨some 10, none, .app 32 2 32 [.int .i64 0, .slice none 0 0] (.t 6) (.t 9)⟩,
   ⟨some 11, none, .callm n_slices_Clip_VoteS_o S_slices_Clip_VoteS_o [(.t 10, [some 2])]⟩,
   ⟨some 4, none, .mv (.t 11)⟩])
 .ret)) }
theorem is_impl_votes_with_o : IsF Try.prog n_impl_votes_with_o c_impl_votes_with_o := ⟨Try.f137, _, Try.func137, rfl, by decide, rfl, by kernel_rfl, by kernel_rfl⟩
noncomputable def c_laws_markVote_o : FC := { n := 10, res := [⟨none, 4, []⟩], body :=
 (.seq
 (.rg [⟨some 2, none, .box (.t 0)⟩,
   ⟨some 4, none, .mv (.k (.int .i64 0))⟩])
 (.seq
 (.rg [⟨some 5, none, .fld 1 (.t 2)⟩,
   ⟨some 6, none, .load none (.t 5)⟩,
   ⟨some 7, none, .mv (.t 1)⟩,
   ⟨some 8, none, .callm n_laws_markItemS_o S_laws_markItemS_o [(.t 6, [some 4]), (.t 7, [])]⟩,
   ⟨some 1, none, .mv (.t 8)⟩])
 (.seq
 (.rg [⟨some 9, none, .mv (.t 1)⟩,
   ⟨some 4, none, .mv (.t 9)⟩])
 .ret))) }
theorem is_laws_markVote_o : IsF Try.prog n_laws_markVote_o c_laws_markVote_o := ⟨Try.f46, _, Try.func46, rfl, by decide, rfl, by kernel_rfl, by kernel_rfl⟩
end Av
end Go.Proofs.Ytdboofnogabefaa

namespace Go.Proofs.Ytdboofnogabefaa
namespace Av
noncomputable def c_spec_l3VoteCopy : FC := { n := 8, res := [⟨some (some 2), 2, [none, some 4]⟩], body :=
 (.seq
 (.rg [⟨some 1, none, .box (.t 0)⟩,
   ⟨some 2, none, .alloc [.int .i64 0, .slice none 0 0]⟩])
 (.seq
 (.rg [⟨some 3, none, .fld 1 (.t 1)⟩,
   ⟨some 4, none, .load none (.t 3)⟩,
   ⟨some 5, none, .call n_spec_l1Copy S_spec_l1Copy [(.t 4, [some 4])]⟩,
   ⟨some 6, none, .fld 1 (.t 1)⟩,
   ⟨none, none, .store 1 (.t 6) (.t 5)⟩])
 (.seq
 (.rg [⟨some 7, none, .load (some 2) (.t 1)⟩,
   ⟨none, none, .store 2 (.t 2) (.t 7)⟩])
 .ret))) }
theorem is_spec_l3VoteCopy : IsF Try.prog n_spec_l3VoteCopy c_spec_l3VoteCopy := ⟨Try.f154, _, Try.func154, rfl, by decide, rfl, by kernel_rfl, by kernel_rfl⟩
noncomputable def c_spec_l3Add : FC := { n := 15, res := [⟨none, 4, [some 2]⟩, ⟨none, 5, []⟩], body :=
 (.seq
 (.rg [⟨some 3, none, .box (.t 1)⟩,
   ⟨some 4, none, .mv (.k (.slice none 0 0))⟩,
   ⟨some 5, none, .mv (.k (.bool false))⟩])
 (.seq
 (.seq
 (.rg [⟨some 6, none, .mv (.t 0)⟩,
   ⟨some 7, none, .load (some 2) (.t 3)⟩,
   ⟨some 8, none, .call n_spec_l3Has S_spec_l3Has [(.t 6, [some 2]), (.t 7, [none, some 4])]⟩])
 (.cond (.t 8)
 (.seq
 (.rg [⟨some 9, none, .mv (.t 0)⟩,
   ⟨some 4, none, .mv (.t 9)⟩,
   ⟨some 5, none, .mv (.k (.bool false))⟩])
 .ret)
 .skip))
 (.seq
 (.rg [⟨some 10, none, .mv (.t 0)⟩,
   ⟨some 11, none, .load (some 2) (.t 3)⟩,
   ⟨some 12, none, .call n_spec_l3VoteCopy S_spec_l3VoteCopy [(.t 11, [none, some 4])]⟩,
   ⟨some 13, none, .bsl 32 2 [.t 12]⟩,
   ⟨some 14, none, .app 32 2 32 [.int .i64 0, .slice none 0 0] (.t 10) (.t 13)⟩,
   ⟨some 4, none, .mv (.t 14)⟩,
   ⟨some 5, none, .mv (.k (.bool true))⟩])
 .ret))) }
theorem is_spec_l3Add : IsF Try.prog n_spec_l3Add c_spec_l3Add := ⟨Try.f134, _, Try.func134, rfl, by decide, rfl, by kernel_rfl, by kernel_rfl⟩
end Av
end Go.Proofs.Ytdboofnogabefaa

namespace Go.Proofs.Ytdboofnogabefaa
namespace Av
open Go.RowKit
end Av
end Go.Proofs.Ytdboofnogabefaa
/- The walks: drawn payments and chains. -/
namespace Go.Proofs.Ytdboofnogabefaa
namespace Av
open Go.RowKit
attribute [local irreducible] Valid ValidM
end Av
end Go.Proofs.Ytdboofnogabefaa
/- The walks: two drawn chains, a drawn vote, votes anew and one more. -/
namespace Go.Proofs.Ytdboofnogabefaa
namespace Av
open Go.RowKit
set_option maxHeartbeats 4000000 in
set_option maxRecDepth 100000 in
theorem v_spec_l3VoteCopy : Valid Try.prog n_spec_l3VoteCopy S_spec_l3VoteCopy := by
  refine valid_of_swp mixed is_spec_l3VoteCopy (by rintro _ ⟨a, rfl, _⟩; exact Nat.le_of_ble_eq_true rfl) ?_
  rintro _ rm ⟨v, rfl, hpre⟩ hl
  try dsimp only at hpre
  have hpre0 := hpre
  have hp1 := hpre
  repeat' ((conv => whnf); first
    | refine ⟨_, rfl, ?_⟩
    | refine ⟨rfl, ?_⟩
    | refine ⟨_, ldc_cells hupd_at (Nat.le_of_ble_eq_true rfl), ?_⟩
    | refine ⟨_, ldc_cells (by first | assumption | exact zk ‹_› (by omega) | exact zk (zk ‹_› (by omega)) (by omega)) (Nat.le_of_ble_eq_true rfl), ?_⟩
    | refine ⟨_, _, hupd_at, rfl, rfl, Nat.le_of_ble_eq_true rfl, ?_⟩
    | refine ⟨_, _, rfl, rfl, rfl, Nat.le_of_ble_eq_true rfl, ?_⟩
    | (refine ⟨fun hc => ?_, fun hc => ?_⟩ <;> (try simp (disch := omega) only [List.length_map, wrap64] at hc))
    | (refine calle (b := [one (chF _)]) v_spec_l1Copy rfl ⟨_, rfl, (by exact pr_)⟩ (.inl rfl) (by first | assumption | omega) (fun r hr => K_spec_l1Copy (a := _) hr) ?_)
    | exact ⟨⟨_, rfl, rfl, v, rfl, rfl⟩, (by first | exact Nat.le_refl _ | omega), (by exact h0_)⟩
    | exact ⟨⟨_, rfl, rfl, v, rfl, (by refine congrArg agg (?_ : (_ : List FV) = _); (try dsimp only); first | done | exact absurd True.intro hj | (first | assumption | grind))⟩, (by first | exact Nat.le_refl _ | omega), (by exact h0_)⟩
    | fail)
end Av
end Go.Proofs.Ytdboofnogabefaa
/- The walks: drawn votes. -/
namespace Go.Proofs.Ytdboofnogabefaa
namespace Av
open Go.RowKit
end Av
end Go.Proofs.Ytdboofnogabefaa
/- The walks: votes drawn, some spoilt; the drawing functions of the laws. -/
namespace Go.Proofs.Ytdboofnogabefaa
namespace Av
open Go.RowKit
theorem fit16 {c : List It} (h : c.length ≤ 16) : c.length ≤ LIM := Nat.le_trans h (by decide)
end Av
end Go.Proofs.Ytdboofnogabefaa

namespace Go.Proofs.Ytdboofnogabefaa
namespace Av
open Go.RowKit
attribute [local irreducible] Valid ValidM
end Av
end Go.Proofs.Ytdboofnogabefaa

