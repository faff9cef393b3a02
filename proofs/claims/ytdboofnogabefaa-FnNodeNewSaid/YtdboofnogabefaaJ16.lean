/- Texts of the layer, joined. -/
import Derived.Test.YtdboofnogabefaaBB
import Derived.Test.YtdboofnogabefaaD1
import Derived.Test.YtdboofnogabefaaProg
import Derived.KernelRfl
import Derived.Test.YtdboofnogabefaaRows
import Derived.WalkKit
import Derived.Laws.CopyOwn
import Derived.Lib.Walk
import Derived.Lib.SliceRun
import Derived.Lib.Builder
set_option linter.unusedVariables false
set_option linter.unusedSimpArgs false
namespace Go.Proofs.Ytdboofnogabefaa
namespace Av
noncomputable def c_slices_Clip_nS_o : FC := { n := 9, res := [⟨none, 2, [some 1]⟩], body :=
 (.seq
 (.rg [⟨some 2, none, .mv (.k (.slice none 0 0))⟩])
 (.seq
 (.rg [⟨some 3, none, .mv (.t 0)⟩,
   ⟨some 4, none, .mv (.t 0)⟩,
   ⟨some 5, none, .len (.t 4)⟩,
   ⟨some 6, none, .mv (.t 0)⟩,
   ⟨some 7, none, .len (.t 6)⟩,
   ⟨some 8, none, .clip 1 (.t 3) (.t 5) (.t 7)⟩,
   ⟨some 2, none, .mv (.t 8)⟩])
 .ret)) }
theorem is_slices_Clip_nS_o : IsF Try.prog n_slices_Clip_nS_o c_slices_Clip_nS_o := ⟨Try.f67, _, Try.func67, rfl, by decide, rfl, by kernel_rfl, by kernel_rfl⟩
noncomputable def c_slices_Clone_nS : FC := { n := 8, res := [⟨none, 2, [some 1]⟩], body :=
 (.seq
 (.rg [⟨some 2, none, .mv (.k (.slice none 0 0))⟩])
 (.seq
 (.seq
 (.rg [⟨some 3, none, .mv (.t 0)⟩,
   ⟨some 4, none, .bin 3 .eql (.t 3) (.k (.slice none 0 0))⟩])
 (.cond (.t 4)
 (.seq
 (.rg [⟨some 2, none, .mv (.k (.slice none 0 0))⟩])
 .ret)
 .skip))
 (.seq
 (.rg [⟨some 5, none, .bsl 3 1 []⟩,
   ⟨some 6, none, .mv (.t 0)⟩,
   ⟨some 7, none, .app 3 1 8 [.int .i64 0] (.t 5) (.t 6)⟩,
   ⟨some 2, none, .mv (.t 7)⟩])
 .ret))) }
theorem is_slices_Clone_nS : IsF Try.prog n_slices_Clone_nS c_slices_Clone_nS := ⟨Try.f77, _, Try.func77, rfl, by decide, rfl, by kernel_rfl, by kernel_rfl⟩
noncomputable def c_impl_BookNew : FC := { n := 4, res := [⟨none, 0, [some 1]⟩], body :=
 (.seq
 (.rg [⟨some 0, none, .mv (.k (.slice none 0 0))⟩])
 (.seq
 (.rg [⟨some 1, none, .bsl 3 1 [.k (.int .i64 9)]⟩,
   ⟨some 2, none, .callo n_slices_Repeat_nS SO_slices_Repeat_nS [(.t 1, [some 1]), (.k (.int .i64 3), [])]⟩,
   ⟨some 3, none, .callm n_slices_Clip_nS_o S_slices_Clip_nS_o [(.t 2, [some 1])]⟩,
   ⟨some 0, none, .mv (.t 3)⟩])
 .ret)) }
theorem is_impl_BookNew : IsF Try.prog n_impl_BookNew c_impl_BookNew := ⟨Try.f17, _, Try.func17, rfl, by decide, rfl, by kernel_rfl, by kernel_rfl⟩
noncomputable def c_impl_pay : FC := { n := 33, res := [], body :=
 (.seq
 (.rg [⟨some 3, none, .box (.t 1)⟩])
 (.seq
 (.rg [⟨some 4, none, .mv (.t 0)⟩,
   ⟨some 5, none, .fld 0 (.t 3)⟩,
   ⟨some 6, none, .load none (.t 5)⟩,
   ⟨some 7, none, .bin 0 .sub (.t 6) (.k (.int .i64 1))⟩,
   ⟨some 8, none, .idx 1 (.t 4) (.t 7)⟩,
   ⟨some 9, none, .load none (.t 8)⟩,
   ⟨some 10, none, .fld 2 (.t 3)⟩,
   ⟨some 11, none, .load none (.t 10)⟩,
   ⟨some 12, none, .bin 0 .geq (.t 9) (.t 11)⟩])
 (.cond (.t 12)
 (.seq
 (.rg [⟨some 13, none, .mv (.t 0)⟩,
   ⟨some 14, none, .fld 0 (.t 3)⟩,
   ⟨some 15, none, .load none (.t 14)⟩,
   ⟨some 16, none, .bin 0 .sub (.t 15) (.k (.int .i64 1))⟩,
   ⟨some 17, none, .idx 1 (.t 13) (.t 16)⟩,
   ⟨some 18, none, .load none (.t 17)⟩,
   ⟨some 19, none, .fld 2 (.t 3)⟩,
   ⟨some 20, none, .load none (.t 19)⟩,
   ⟨some 21, none, .bin 0 .sub (.t 18) (.t 20)⟩,
   ⟨some 22, none, .idx 1 (.t 13) (.t 16)⟩,
   ⟨none, none, .store 1 (.t 22) (.t 21)⟩])
 (.rg [⟨some 23, none, .mv (.t 0)⟩,
   ⟨some 24, none, .fld 1 (.t 3)⟩,
   ⟨some 25, none, .load none (.t 24)⟩,
   ⟨some 26, none, .bin 0 .sub (.t 25) (.k (.int .i64 1))⟩,
   ⟨some 27, none, .idx 1 (.t 23) (.t 26)⟩,
   ⟨some 28, none, .load none (.t 27)⟩,
   ⟨some 29, none, .fld 2 (.t 3)⟩,
   ⟨some 30, none, .load none (.t 29)⟩,
   ⟨some 31, none, .bin 0 .add (.t 28) (.t 30)⟩,
   ⟨some 32, none, .idx 1 (.t 23) (.t 26)⟩,
   ⟨none, none, .store 1 (.t 32) (.t 31)⟩]))
 .skip))) }
theorem is_impl_pay : IsF Try.prog n_impl_pay c_impl_pay := ⟨Try.f76, _, Try.func76, rfl, by decide, rfl, by kernel_rfl, by kernel_rfl⟩
noncomputable def c_impl_BookOf : FC := { n := 22, res := [⟨none, 2, [some 1]⟩], body :=
 (.seq
 (.rg [⟨some 2, none, .mv (.k (.slice none 0 0))⟩])
 (.seq
 (.seq
 (.rg [⟨some 6, none, .mv (.t 0)⟩,
   ⟨some 7, none, .call n_impl_ChainOk S_impl_ChainOk [(.t 6, [some 4])]⟩,
   ⟨some 8, none, .un .not (.t 7)⟩])
 (.cond (.t 8)
 (.seq
 (.rg [⟨some 2, none, .mv (.k (.slice none 0 0))⟩])
 .ret)
 .skip))
 (.seq
 (.rg [⟨some 9, none, .callo n_impl_BookNew SO_impl_BookNew []⟩,
   ⟨some 3, none, .mv (.t 9)⟩])
 (.seq
 (.seq
 (.rg [⟨some 10, none, .mv (.t 0)⟩,
   ⟨some 11, none, .len (.t 10)⟩,
   ⟨some 12, none, .mv (.k (.int .i64 0))⟩])
 (.block 0
 (.loop
 (.seq
 (.rg [⟨some 13, none, .bin 0 .lss (.t 12) (.t 11)⟩])
 (.seq
 (.cond (.t 13)
 .skip
 (.exit 0))
 (.seq
 (.block 1
 (.seq
 (.rg [⟨some 14, none, .idx 4 (.t 10) (.t 12)⟩,
   ⟨some 15, none, .load (some 4) (.t 14)⟩,
   ⟨some 5, none, .alloc [.int .i64 0, .int .i64 0, .int .i64 0, .int .i64 0]⟩,
   ⟨none, none, .store 4 (.t 5) (.t 15)⟩])
 (.rg [⟨some 16, none, .mv (.t 3)⟩,
   ⟨some 17, none, .fld 1 (.t 5)⟩,
   ⟨some 18, none, .load (some 3) (.t 17)⟩,
   ⟨some 19, none, .callm n_impl_pay S_impl_pay [(.t 16, [some 1]), (.t 18, [])]⟩])))
 (.rg [⟨some 20, none, .bin 0 .add (.t 12) (.k (.int .i64 1))⟩,
   ⟨some 12, none, .mv (.t 20)⟩])))))))
 (.seq
 (.rg [⟨some 21, none, .mv (.t 3)⟩,
   ⟨some 2, none, .mv (.t 21)⟩])
 .ret))))) }
theorem is_impl_BookOf : IsF Try.prog n_impl_BookOf c_impl_BookOf := ⟨Try.f23, _, Try.func23, rfl, by decide, rfl, by kernel_rfl, by kernel_rfl⟩
noncomputable def c_impl_BookOk : FC := { n := 26, res := [⟨none, 2, []⟩], body :=
 (.seq
 (.rg [⟨some 2, none, .mv (.k (.bool false))⟩])
 (.seq
 (.rg [⟨some 3, none, .mv (.k (.int .i64 0))⟩])
 (.seq
 (.seq
 (.rg [⟨some 6, none, .mv (.t 0)⟩,
   ⟨some 7, none, .len (.t 6)⟩,
   ⟨some 8, none, .mv (.k (.int .i64 0))⟩])
 (.block 0
 (.loop
 (.seq
 (.rg [⟨some 9, none, .bin 0 .lss (.t 8) (.t 7)⟩])
 (.seq
 (.cond (.t 9)
 .skip
 (.exit 0))
 (.seq
 (.block 1
 (.seq
 (.rg [⟨some 10, none, .idx 1 (.t 6) (.t 8)⟩,
   ⟨some 11, none, .load none (.t 10)⟩,
   ⟨some 5, none, .mv (.t 11)⟩])
 (.seq
 (.seq
 (.rg [⟨some 12, none, .mv (.t 5)⟩,
   ⟨some 13, none, .call n_impl_within S_impl_within [(.t 12, []), (.k (.int .i64 0), []), (.k (.int .i64 27), [])]⟩,
   ⟨some 14, none, .un .not (.t 13)⟩])
 (.cond (.t 14)
 (.seq
 (.rg [⟨some 2, none, .mv (.k (.bool false))⟩])
 .ret)
 .skip))
 (.rg [⟨some 15, none, .mv (.t 3)⟩,
   ⟨some 16, none, .mv (.t 5)⟩,
   ⟨some 17, none, .bin 0 .add (.t 15) (.t 16)⟩,
   ⟨some 3, none, .mv (.t 17)⟩]))))
 (.rg [⟨some 18, none, .bin 0 .add (.t 8) (.k (.int .i64 1))⟩,
   ⟨some 8, none, .mv (.t 18)⟩])))))))
 (.seq
 (.rg [⟨some 19, none, .mv (.t 0)⟩,
   ⟨some 20, none, .len (.t 19)⟩,
   ⟨some 21, none, .bin 0 .eql (.t 20) (.k (.int .i64 3))⟩,
   ⟨some 22, none, .mv (.t 21)⟩,
   ⟨some 23, some (22, true), .mv (.t 3)⟩,
   ⟨some 24, some (22, true), .bin 0 .eql (.t 23) (.k (.int .i64 27))⟩,
   ⟨some 25, none, .pick (.t 22) (.t 24) (.k (.bool false))⟩,
   ⟨some 2, none, .mv (.t 25)⟩])
 .ret)))) }
theorem is_impl_BookOk : IsF Try.prog n_impl_BookOk c_impl_BookOk := ⟨Try.f24, _, Try.func24, rfl, by decide, rfl, by kernel_rfl, by kernel_rfl⟩
noncomputable def c_impl_BookPay : FC := { n := 21, res := [⟨none, 4, [some 1]⟩], body :=
 (.seq
 (.rg [⟨some 3, none, .box (.t 1)⟩,
   ⟨some 4, none, .mv (.k (.slice none 0 0))⟩])
 (.seq
 (.seq
 (.rg [⟨some 6, none, .mv (.t 0)⟩,
   ⟨some 7, none, .call n_impl_BookOk S_impl_BookOk [(.t 6, [some 1])]⟩,
   ⟨some 8, none, .un .not (.t 7)⟩,
   ⟨some 9, none, .mv (.t 8)⟩,
   ⟨some 10, some (9, false), .load (some 3) (.t 3)⟩,
   ⟨some 11, some (9, false), .call n_impl_PayOk S_impl_PayOk [(.t 10, [])]⟩,
   ⟨some 12, some (9, false), .un .not (.t 11)⟩,
   ⟨some 13, none, .pick (.t 9) (.k (.bool true)) (.t 12)⟩])
 (.cond (.t 13)
 (.seq
 (.rg [⟨some 4, none, .mv (.k (.slice none 0 0))⟩])
 .ret)
 .skip))
 (.seq
 (.rg [⟨some 14, none, .mv (.t 0)⟩,
   ⟨some 15, none, .callo n_slices_Clone_nS SO_slices_Clone_nS [(.t 14, [some 1])]⟩,
   ⟨some 16, none, .callm n_slices_Clip_nS_o S_slices_Clip_nS_o [(.t 15, [some 1])]⟩,
   ⟨some 5, none, .mv (.t 16)⟩])
 (.seq
 (.rg [⟨some 17, none, .mv (.t 5)⟩,
   ⟨some 18, none, .load (some 3) (.t 3)⟩,
   ⟨some 19, none, .callm n_impl_pay S_impl_pay [(.t 17, [some 1]), (.t 18, [])]⟩])
 (.seq
 (.rg [⟨some 20, none, .mv (.t 5)⟩,
   ⟨some 4, none, .mv (.t 20)⟩])
 .ret))))) }
theorem is_impl_BookPay : IsF Try.prog n_impl_BookPay c_impl_BookPay := ⟨Try.f25, _, Try.func25, rfl, by decide, rfl, by kernel_rfl, by kernel_rfl⟩
end Av
end Go.Proofs.Ytdboofnogabefaa

namespace Go.Proofs.Ytdboofnogabefaa
namespace Av
open Go.RowKit Go.Lib
set_option maxHeartbeats 2000000 in
set_option maxRecDepth 100000 in
theorem calls_Repeat (b off c : Nat) (w : World) (hx : w.cell? ⟨b, off, none⟩ = some (.int .i64 9)) :
    Calls Try.prog 68 #[.slice (some ⟨b, off, none⟩) 1 c, .int .i64 3] w fun e w' => ∃ v', e = .returned v' ∧ v' = .slice (some ⟨w.heap.size, 0, none⟩) 3 3 ∧ w'.heap[w.heap.size]? = some (.cells #[.int .i64 9, .int .i64 9, .int .i64 9] 3 (0, 0)) ∧ Below w.heap.size w w' := by
  have hmk : ∀ w : World, (Instr.makeSlice 39 (.int .i64 3) (.int .i64 3)).run Try.prog w = .ok (.slice (some ⟨w.heap.size, 0, none⟩) 3 3) (w.alloc (.cells #[.int .i64 0, .int .i64 0, .int .i64 0] 3 (0, 0))) := fun _ => by kernel_rfl
  have hu49 : Try.prog.underlying 39 = some (.slice 3) := by kernel_rfl
  have hs3 : (Try.prog.info? 3).map (·.size) = some 1 := by kernel_rfl
  have hB : w.heap.size ≠ b := fun e => by rw [← e] at hx; simp [World.cell?] at hx
  have hc1 : ∀ ty, (Builtin.copy_ #[39, 39] ty #[.slice (some ⟨w.heap.size, 0, none⟩) 3 3, .slice (some ⟨b, off, none⟩) 1 c]).run Try.prog (w.alloc (.cells #[.int .i64 0, .int .i64 0, .int .i64 0] 3 (0, 0))) = .ok (goInt 1) ((w.alloc (.cells #[.int .i64 0, .int .i64 0, .int .i64 0] 3 (0, 0))).setRow w.heap.size #[.int .i64 9, .int .i64 0, .int .i64 0]) := fun ty =>
    run_copy_row (P := Try.prog) (w.alloc (.cells #[.int .i64 0, .int .i64 0, .int .i64 0] 3 (0, 0))) _ _ ty 3 w.heap.size 0 3 3 ⟨b, off, none⟩ 1 c #[.int .i64 0, .int .i64 0, .int .i64 0] 3 [.int .i64 9] hu49 hs3 (heap_alloc_new _ _) rfl (fun j v hj => by
      match j, hj with
      | 0, hj => cases hj; exact Lib.cell?_alloc_some _ hx
      | j + 1, hj => simp at hj) (by decide) (by intro v hv; rw [List.mem_singleton.1 hv]; rfl)
  go_enter Try.func68, Try.ntmps68
  go_wp2
  go_loopw [8] (fun n wr => ∃ k : Nat, n = .int .i64 k ∧ 1 ≤ k ∧ k ≤ 3 ∧ wr.heap[w.heap.size]? = some (.cells ((List.replicate k (Value.int .i64 9) ++ List.replicate (3 - k) (Value.int .i64 0)).toArray) 3 (0, 0)) ∧ Below w.heap.size w wr) (fun n _ => 3 - (Lib.intOf n).toNat)
  case atStart => exact ⟨1, rfl, by decide, by decide, setRow_heap _ _ _ _ _ _ (heap_alloc_new _ _), below_setRow ((Below.refl _ _).alloc (Nat.le_refl _) _) (Nat.le_refl _) _⟩
  case round =>
    obtain ⟨k, rfl, hk1, hk3, hg, hb⟩ := hrel
    have h : k = 1 ∨ k = 2 ∨ k = 3 := by omega
    rcases h with rfl | rfl | rfl
    · have hc2 : ∀ ty, (Builtin.copy_ #[39, 39] ty #[.slice (some ⟨w.heap.size, 1, none⟩) 2 2, .slice (some ⟨w.heap.size, 0, none⟩) 1 3]).run Try.prog wr.drew = .ok (goInt 1) (wr.drew.setRow w.heap.size #[.int .i64 9, .int .i64 9, .int .i64 0]) := fun ty =>
        run_copy_row (P := Try.prog) wr.drew _ _ ty 3 w.heap.size 1 2 2 ⟨w.heap.size, 0, none⟩ 1 3 #[.int .i64 9, .int .i64 0, .int .i64 0] 3 [.int .i64 9] hu49 hs3 hg rfl (fun j v hj => by
          match j, hj with
          | 0, hj => cases hj; exact (Lib.cell_of_heap (w := wr.drew) hg 0).trans rfl
          | j + 1, hj => simp at hj) (by decide) (by intro v hv; rw [List.mem_singleton.1 hv]; rfl)
      go_wp2
      go_region
      all_goals (try go_wp2)
      all_goals exact ⟨⟨2, rfl, by decide, by decide, setRow_heap wr.drew _ _ _ _ _ hg, below_setRow hb.drew (Nat.le_refl _) _⟩, by decide⟩
    · have hc2 : ∀ ty, (Builtin.copy_ #[39, 39] ty #[.slice (some ⟨w.heap.size, 2, none⟩) 1 1, .slice (some ⟨w.heap.size, 0, none⟩) 2 3]).run Try.prog wr.drew = .ok (goInt 1) (wr.drew.setRow w.heap.size #[.int .i64 9, .int .i64 9, .int .i64 9]) := fun ty =>
        run_copy_row (P := Try.prog) wr.drew _ _ ty 3 w.heap.size 2 1 1 ⟨w.heap.size, 0, none⟩ 2 3 #[.int .i64 9, .int .i64 9, .int .i64 0] 3 [.int .i64 9] hu49 hs3 hg rfl (fun j v hj => by
          match j, hj with
          | 0, hj => cases hj; exact (Lib.cell_of_heap (w := wr.drew) hg 0).trans rfl
          | j + 1, hj => simp at hj) (by decide) (by intro v hv; rw [List.mem_singleton.1 hv]; rfl)
      go_wp2
      go_region
      all_goals (try go_wp2)
      all_goals exact ⟨⟨3, rfl, by decide, by decide, setRow_heap wr.drew _ _ _ _ _ hg, below_setRow hb.drew (Nat.le_refl _) _⟩, by decide⟩
    · go_wp2
      go_ret
      exact ⟨_, rfl, rfl, hg, hb⟩
end Av
end Go.Proofs.Ytdboofnogabefaa

