/- Texts of the layer, joined. -/
import Derived.Test.YtdboofnogabefaaIE
import Derived.Test.YtdboofnogabefaaIM
import Derived.Test.YtdboofnogabefaaJ32
import Derived.Test.YtdboofnogabefaaD1
import Derived.Test.YtdboofnogabefaaProg
import Derived.KernelRfl
set_option linter.unusedVariables false
set_option linter.unusedSimpArgs false
namespace Go.Proofs.Ytdboofnogabefaa
namespace Av
open Go.RowKit
theorem triO_no : TriO false false 0 NB (zNd, zVo, false) (triV (zNd, zVo, false) .e0 .e0) [] :=
  ⟨Nat.zero_le _, Nat.zero_le _, fun j ob h => by simp at h, .e0, .e0, id, rfl, .inl ⟨rfl, rfl, rfl⟩, .inl ⟨rfl, rfl, rfl⟩⟩
theorem TriO.weak {b2 : Bool} {n0 n1 : Nat} {o : Tri} {r : AV} {obs' : List (Option Ob)} (h : TriO true b2 n0 n1 o r obs') : TriO false b2 n0 n1 o r obs' := by
  obtain ⟨h1, h2, h3, sk, cv, f, rfl, hS, hV⟩ := h
  refine ⟨h1, h2, h3, sk, cv, f, rfl, ?_, hV⟩
  rcases hS with ⟨h, _⟩ | h
  · cases h
  · exact .inr h
attribute [local irreducible] voteN
end Av
end Go.Proofs.Ytdboofnogabefaa

namespace Go.Proofs.Ytdboofnogabefaa
namespace Av
open Go.RowKit
attribute [local irreducible] voteN tryN hearN hearT
set_option maxHeartbeats 4000000 in
set_option maxRecDepth 100000 in
theorem v_impl_NodeHear_e : ValidM Try.prog n_impl_NodeHear_o S_impl_NodeHear_e := by
  refine validM_of_swp mixed is_impl_NodeHear_o (by rintro _ _ ⟨a, rfl, _⟩; exact Nat.le_of_ble_eq_true rfl) ?_
  rintro _ _ rm ⟨⟨n, v⟩, rfl, rfl, ⟨hfit, hfv⟩, hsm⟩ hl
  dsimp only at hfit hfv hsm
  change swp _ _ _ _ _ 0 _
  dsimp only
  have hst : S_impl_Node_copied_o.st = 4194304 := NB_eq
  have c1 : S_impl_Node_copied_o.cost = 0 := rfl
  have c2 : S_impl_Node_hear_o.cost = 0 := rfl
  have c3 : S_impl_NodeHear_e.cost = 0 := rfl
  have hsm' : n.seen.length ≤ 1048576 := hsm
  have cc_impl_NodeOk : S_impl_NodeOk.cost = 0 := rfl
  by_cases hn : NodeOk n
  · have e2 : hearT n v = hearN false n v := by unfold hearT; rw [tb_pos hn]; rfl
    repeat' ((conv => whnf); first
      | refine ⟨_, rfl, ?_⟩
      | (refine callt (b := [agg (ndF ⟨_, _, _, _⟩)]) v_impl_NodeOk rfl ⟨⟨_, _, _, _⟩, rfl, (by exact pr_)⟩ (.inl rfl) (by first | assumption | omega) (fun r hr => K_impl_NodeOk (a := ⟨_, _, _, _⟩) hr) (fun hj => ?_) (fun hj => ?_) <;> (try simp only [etaPa, etaIt, etaVo] at hj) <;> (try simp only [etaNd, etaWo] at hj) <;> (try contradiction))
      | fail)
    refine mq_nestF (N := nV) (F := ndOF n) ndOF_ren (l := n.seen) (ar := [agg (ndF n)]) v_impl_Node_copied_o (by first | assumption | omega) (by rfl) rfl ⟨n, rfl, rfl, hfit, hsm⟩ (by rw [hst]; omega) (fun r obs' h => K_impl_Node_copied_o h) fun n1 H1 e1 h1A h1o => ?_
    have hb1 : H1 16 = some (.cells ((voF v).map AC.c)) := (h1o 16 (by omega)).trans hk_
    have hb2 : H1 32 = some (.cells [cI 0, cI 0, cI 0, .e0]) := (h1o 32 (by omega)).trans hk_
    have hb3 : H1 48 = some (.cells [cI 0, .e0]) := (h1o 48 (by omega)).trans hk_
    repeat' ((conv => whnf); first
      | refine ⟨_, ldc_cells hk_ (Nat.le_of_ble_eq_true rfl), ?_⟩
      | fail)
    refine mq_tri0 (n1 := n.seen.length + 17) (Nat.le_refl _) (l := n.seen) (k := n1) (f := fun j => n1 + 1 + j) (b := n1 + 1 + n.seen.length) (args := [ndOF n 0, agg (voF v)]) (o := hearN false n v) v_impl_Node_hear_o rfl rfl (by omega) h1A (by rw [hst]; omega) (fun ρ q0 _ => (by show [(ndOF n 0).ren ρ, agg (voF v)] = _; rw [ndOF_ren, q0]; rfl)) ⟨(n, v), rfl, rfl, hn, hfv⟩ (fun r obs' h => K_impl_Node_hear_o h) fun H' ks k' f' cv hT hks hkm hl1 hl2 ho => ?_
    have hc2 : H' 32 = some (.cells [cI 0, cI 0, cI 0, .e0]) := (ho 32 (by rw [hst]; omega) ⟨by omega, fun j hj => (by show n1 + 1 + j ≠ _; omega)⟩).trans hb2
    have hc3 : H' 48 = some (.cells [cI 0, .e0]) := (ho 48 (by rw [hst]; omega) ⟨by omega, fun j hj => (by show n1 + 1 + j ≠ _; omega)⟩).trans hb3
    generalize hvo : hearN false n v = vo at *
    repeat' ((conv => whnf); first
      | (refine ⟨?_, _, (?_ : (_ : Option Ob) = _), rfl, rfl, ?_, ?_⟩; rotate_left; (exact hk_); exact Nat.le_of_ble_eq_true rfl)
      | fail)
    refine finM_triO (M := 0) (o := vo) (n0 := 0) (n1 := NB) (hT.same (Nat.le_refl _) fun x hx => ?_) (by omega) (fun i hi => absurd hi (Nat.not_lt_zero i)) ?_ (Nat.zero_le _) (by rw [NB_eq]; omega) fun r obs' h => ⟨(n, v), rfl, rfl, by show TriO _ _ _ _ (hearT n v) _ _; rw [e2]; exact h.weak⟩
    · have : n1 ≤ x := by
        rcases hkm x hx with h | h
        · rcases List.mem_cons.1 h with h | h
          · omega
          · obtain ⟨j, _, h⟩ := List.mem_map.1 h
            have : n1 + 1 + j = x := h
            omega
        · omega
      (repeat (refine (hupd_ne (by omega)).trans ?_)); rfl
    · exact ⟨⟨_, raw_cells rfl hk_ rfl, .inl rfl⟩, ⟨_, raw_cells rfl hk_ rfl, .inl rfl⟩, ⟨_, rfl, .inl rfl⟩, trivial⟩
  · have e2 : hearT n v = (zNd, zVo, false) := by unfold hearT; rw [tb_neg hn]; rfl
    repeat' ((conv => whnf); first
      | refine ⟨_, rfl, ?_⟩
      | refine ⟨_, _, rfl, rfl, rfl, Nat.le_of_ble_eq_true rfl, ?_⟩
      | (refine callt (b := [agg (ndF ⟨_, _, _, _⟩)]) v_impl_NodeOk rfl ⟨⟨_, _, _, _⟩, rfl, (by exact pr_)⟩ (.inl rfl) (by first | assumption | omega) (fun r hr => K_impl_NodeOk (a := ⟨_, _, _, _⟩) hr) (fun hj => ?_) (fun hj => ?_) <;> (try simp only [etaPa, etaIt, etaVo] at hj) <;> (try simp only [etaNd, etaWo] at hj) <;> (try contradiction))
      | fail)
    all_goals first
      | exact absurd (by assumption) hn
      | exact ⟨by omega, [], [.g [cI 0, cI 0, cI 0, .e0], .g [cI 0, .e0], .o (cB false)], triV (zNd, zVo, false) .e0 .e0, [], ⟨⟨_, rfl, .inl rfl⟩, ⟨_, rfl, .inl rfl⟩, ⟨_, rfl, .inl rfl⟩, trivial⟩, rfl, ⟨(n, v), rfl, rfl, by show TriO _ _ _ _ (hearT n v) _ _; rw [e2]; exact triO_no⟩, List.nodup_nil, fun i hi => absurd hi (Nat.not_lt_zero i), rfl, fun i k h => by simp at h⟩
theorem v_impl_NodeHear_o : ValidM Try.prog n_impl_NodeHear_o S_impl_NodeHear_o := valid_triN v_impl_NodeHear_e
end Av
end Go.Proofs.Ytdboofnogabefaa

namespace Go.Proofs.Ytdboofnogabefaa
namespace Av
noncomputable def c_laws_heldVote : FC := { n := 12, res := [⟨none, 4, []⟩], body :=
 (.seq
 (.rg [⟨some 2, none, .box (.t 0)⟩,
   ⟨some 4, none, .mv (.k (.int .i64 0))⟩])
 (.seq
 (.rg [⟨some 5, none, .fld 1 (.t 2)⟩,
   ⟨some 6, none, .load none (.t 5)⟩,
   ⟨some 7, none, .mv (.t 1)⟩,
   ⟨some 8, none, .call n_laws_heldItemS S_laws_heldItemS [(.t 6, [some 4]), (.t 7, [])]⟩,
   ⟨some 1, none, .mv (.t 8)⟩])
 (.seq
 (.seq
 (.rg [⟨some 9, none, .mv (.t 1)⟩,
   ⟨some 10, none, .bin 0 .lss (.t 9) (.k (.int .i64 0))⟩])
 (.cond (.t 10)
 (.seq
 (.rg [⟨some 4, none, .mv (.k (.int .i64 (-1)))⟩])
 .ret)
 .skip))
 (.seq
 (.rg [⟨some 11, none, .mv (.t 1)⟩,
   ⟨some 4, none, .mv (.t 11)⟩])
 .ret)))) }
theorem is_laws_heldVote : IsF Try.prog n_laws_heldVote c_laws_heldVote := ⟨Try.f48, _, Try.func48, rfl, by decide, rfl, by kernel_rfl, by kernel_rfl⟩
end Av
end Go.Proofs.Ytdboofnogabefaa

