/- slices.Repeat at one number and three: walked beside the layer, with the kit's own walk. -/
import Derived.Test.YtdboofnogabefaaRows
import Derived.WalkKit
import Derived.Laws.CopyOwn
import Derived.Lib.Walk
import Derived.Lib.SliceRun
import Derived.Lib.Builder
set_option linter.unusedVariables false
set_option linter.unusedSimpArgs false
namespace Go.Proofs.Ytdboofnogabefaa
namespace Av
open Go.RowKit Go.Lib
set_option maxHeartbeats 2000000 in
set_option maxRecDepth 100000 in
theorem calls_Repeat (b off c : Nat) (w : World) (hx : w.cell? ⟨b, off, none⟩ = some (.int .i64 9)) :
    Calls Try.prog 68 #[.slice (some ⟨b, off, none⟩) 1 c, .int .i64 3] w fun e w' => ∃ v', e = .returned v' ∧ v' = .slice (some ⟨w.heap.size, 0, none⟩) 3 3 ∧ w'.heap[w.heap.size]? = some (.cells #[.int .i64 9, .int .i64 9, .int .i64 9] 3 (0, 0)) ∧ Below w.heap.size w w' := by
  have hmk : ∀ w : World, (Instr.makeSlice 39 (.int .i64 3) (.int .i64 3)).run Try.prog w = .ok (.slice (some ⟨w.heap.size, 0, none⟩) 3 3) (w.alloc (.cells #[.int .i64 0, .int .i64 0, .int .i64 0] 3 (0, 0))) := fun _ => by kernel_rfl
  have hu49 : Try.prog.underlying 39 = some (.slice 3) := by kernel_rfl
  have hs3 : (Try.prog.info? 3).map (·.size) = some 1 := by kernel_rfl
  have hB : w.heap.size ≠ b := fun e => by rw [← e] at hx; simp [World.cell?] at hx
  have hc1 : ∀ ty, (Builtin.copy_ #[39, 39] ty #[.slice (some ⟨w.heap.size, 0, none⟩) 3 3, .slice (some ⟨b, off, none⟩) 1 c]).run Try.prog (w.alloc (.cells #[.int .i64 0, .int .i64 0, .int .i64 0] 3 (0, 0))) = .ok (goInt 1) ((w.alloc (.cells #[.int .i64 0, .int .i64 0, .int .i64 0] 3 (0, 0))).setRow w.heap.size #[.int .i64 9, .int .i64 0, .int .i64 0]) := fun ty =>
    run_copy_row (P := Try.prog) (w.alloc (.cells #[.int .i64 0, .int .i64 0, .int .i64 0] 3 (0, 0))) _ _ ty 3 w.heap.size 0 3 3 ⟨b, off, none⟩ 1 c #[.int .i64 0, .int .i64 0, .int .i64 0] 3 [.int .i64 9] hu49 hs3 (heap_alloc_new _ _) rfl (fun j v hj => by
      match j, hj with
      | 0, hj => cases hj; exact Lib.cell?_alloc_some _ hx
      | j + 1, hj => simp at hj) (by decide) (by intro v hv; rw [List.mem_singleton.1 hv]; rfl)
  go_enter Try.func68, Try.ntmps68
  go_wp2
  go_loopw [8] (fun n wr => ∃ k : Nat, n = .int .i64 k ∧ 1 ≤ k ∧ k ≤ 3 ∧ wr.heap[w.heap.size]? = some (.cells ((List.replicate k (Value.int .i64 9) ++ List.replicate (3 - k) (Value.int .i64 0)).toArray) 3 (0, 0)) ∧ Below w.heap.size w wr) (fun n _ => 3 - (Lib.intOf n).toNat)
  case atStart => exact ⟨1, rfl, by decide, by decide, setRow_heap _ _ _ _ _ _ (heap_alloc_new _ _), below_setRow ((Below.refl _ _).alloc (Nat.le_refl _) _) (Nat.le_refl _) _⟩
  case round =>
    obtain ⟨k, rfl, hk1, hk3, hg, hb⟩ := hrel
    have h : k = 1 ∨ k = 2 ∨ k = 3 := by omega
    rcases h with rfl | rfl | rfl
    · have hc2 : ∀ ty, (Builtin.copy_ #[39, 39] ty #[.slice (some ⟨w.heap.size, 1, none⟩) 2 2, .slice (some ⟨w.heap.size, 0, none⟩) 1 3]).run Try.prog wr.drew = .ok (goInt 1) (wr.drew.setRow w.heap.size #[.int .i64 9, .int .i64 9, .int .i64 0]) := fun ty =>
        run_copy_row (P := Try.prog) wr.drew _ _ ty 3 w.heap.size 1 2 2 ⟨w.heap.size, 0, none⟩ 1 3 #[.int .i64 9, .int .i64 0, .int .i64 0] 3 [.int .i64 9] hu49 hs3 hg rfl (fun j v hj => by
          match j, hj with
          | 0, hj => cases hj; exact (Lib.cell_of_heap (w := wr.drew) hg 0).trans rfl
          | j + 1, hj => simp at hj) (by decide) (by intro v hv; rw [List.mem_singleton.1 hv]; rfl)
      go_wp2
      go_region
      all_goals (try go_wp2)
      all_goals exact ⟨⟨2, rfl, by decide, by decide, setRow_heap wr.drew _ _ _ _ _ hg, below_setRow hb.drew (Nat.le_refl _) _⟩, by decide⟩
    · have hc2 : ∀ ty, (Builtin.copy_ #[39, 39] ty #[.slice (some ⟨w.heap.size, 2, none⟩) 1 1, .slice (some ⟨w.heap.size, 0, none⟩) 2 3]).run Try.prog wr.drew = .ok (goInt 1) (wr.drew.setRow w.heap.size #[.int .i64 9, .int .i64 9, .int .i64 9]) := fun ty =>
        run_copy_row (P := Try.prog) wr.drew _ _ ty 3 w.heap.size 2 1 1 ⟨w.heap.size, 0, none⟩ 2 3 #[.int .i64 9, .int .i64 9, .int .i64 0] 3 [.int .i64 9] hu49 hs3 hg rfl (fun j v hj => by
          match j, hj with
          | 0, hj => cases hj; exact (Lib.cell_of_heap (w := wr.drew) hg 0).trans rfl
          | j + 1, hj => simp at hj) (by decide) (by intro v hv; rw [List.mem_singleton.1 hv]; rfl)
      go_wp2
      go_region
      all_goals (try go_wp2)
      all_goals exact ⟨⟨3, rfl, by decide, by decide, setRow_heap wr.drew _ _ _ _ _ hg, below_setRow hb.drew (Nat.le_refl _) _⟩, by decide⟩
    · go_wp2
      go_ret
      exact ⟨_, rfl, rfl, hg, hb⟩
end Av
end Go.Proofs.Ytdboofnogabefaa
