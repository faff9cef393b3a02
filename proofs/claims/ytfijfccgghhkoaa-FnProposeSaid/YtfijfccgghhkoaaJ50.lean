/- Texts of the layer, joined. -/
import Derived.Test.YtfijfccgghhkoaaJ49
import Derived.Test.YtfijfccgghhkoaaJ8
import Derived.Test.YtfijfccgghhkoaaZK
import Derived.Test.YtfijfccgghhkoaaJ42
import Derived.Test.YtfijfccgghhkoaaD1
import Derived.Test.YtfijfccgghhkoaaProg
import Derived.KernelRfl
set_option linter.unusedVariables false
set_option linter.unusedSimpArgs false
namespace Go.Proofs.Ytfijfccgghhkoaa
namespace Av
open Go.RowKit
theorem lastE_snoc {i : Int} {l : List It} {x : It} : lastE ⟨i, l ++ [x]⟩ = x.e := by
  refine lastE_at (v := ⟨i, l ++ [x]⟩) ?_
  show (l ++ [x])[(l ++ [x]).length - 1]? = some x
  rw [List.length_append, List.length_singleton, Nat.add_sub_cancel, List.getElem?_append_right (Nat.le_refl _), Nat.sub_self]; rfl
noncomputable abbrev newC (n : Nd) (p : Pa) : List It := tip n.seen ++ [⟨n.ep, p⟩]
noncomputable abbrev newN (n : Nd) (p : Pa) : Nd := ⟨n.id, n.ep, n.ep, n.seen ++ [⟨n.id, newC n p⟩]⟩
theorem prop_cases (n : Nd) (p : Pa) : propN false n p = (n, zVo, false) ∨ (mayN n ∧ lead n.ep = n.id ∧ ChainOk (newC n p) ∧ propN false n p = (newN n p, ⟨n.id, newC n p⟩, true)) := by
  by_cases h : mayN n ∧ lead n.ep = n.id ∧ ChainOk (newC n p)
  · have e : propN false n p = voteN n (newC n p) := by unfold propN; rw [tb_pos (show mayN n ∧ lead n.ep = n.id ∧ ChainOk (tipX false n.seen ++ [⟨n.ep, p⟩]) from h)]; rfl
    rcases voteN_cases n (newC n p) with ⟨_, e'⟩ | ⟨_, e'⟩
    · exact .inl (e.trans e')
    · exact .inr ⟨h.1, h.2.1, h.2.2, e.trans e'⟩
  · left
    unfold propN
    rw [tb_neg (show ¬ (mayN n ∧ lead n.ep = n.id ∧ ChainOk (tipX false n.seen ++ [⟨n.ep, p⟩])) from h)]; rfl
theorem propT_ok {n : Nd} {p : Pa} (h : NodeOk n) (hp : PayOk p) : propT n p = propN false n p := by unfold propT; rw [tb_pos ⟨h, hp⟩]; rfl
theorem propT_no {n : Nd} {p : Pa} (h : ¬ (NodeOk n ∧ PayOk p)) : propT n p = (zNd, zVo, false) := by unfold propT; rw [tb_neg h]; rfl
theorem newN_ok {n : Nd} {p : Pa} (h : NodeOk n) (hm : mayN n) (hc : ChainOk (newC n p)) (h8 : n.seen.length < 80) : NodeOk (newN n p) := by
  have := voteN_ok h hm ⟨by simp, hc⟩ (show lastE ⟨n.id, newC n p⟩ = n.ep from lastE_snoc)
  rw [show voteN n (newC n p) = (newN n p, ⟨n.id, newC n p⟩, true) from if_neg (by omega)] at this
  exact this
theorem prop_again {n : Nd} {p q : Pa} : propN false (newN n p) q = (newN n p, zVo, false) := by
  rcases prop_cases (newN n p) q with e | ⟨h, _⟩
  · exact e
  · exact absurd rfl h.2
theorem newN_no {n : Nd} {p : Pa} (h : propN false n p = (newN n p, ⟨n.id, newC n p⟩, true)) : n.seen.length < 80 := by
  rcases Nat.lt_or_ge n.seen.length 80 with g | g
  · exact g
  · exfalso
    unfold propN at h
    split at h
    · rw [show voteN n _ = (n, zVo, false) from if_pos g] at h
      exact Bool.noConfusion (congrArg (fun x : Tri => x.2.2) h)
    · exact Bool.noConfusion (congrArg (fun x : Tri => x.2.2) h)
end Av
end Go.Proofs.Ytfijfccgghhkoaa

namespace Go.Proofs.Ytfijfccgghhkoaa
namespace Av
open Go.RowKit
def R_laws_FnPropose (a : (List Int)) (r : AV) : Prop := r = B true
def R_laws_FnProposeNot (a : (List Int)) (r : AV) : Prop := r = B true
theorem inh_laws_FnPropose : ∀ a : List Int, LawB a → ∃ r, R_laws_FnPropose a r ∧ okV noN r := inh_yes (R := R_laws_FnPropose) fun _ => rfl
theorem inh_laws_FnProposeNot : ∀ a : List Int, LawB a → ∃ r, R_laws_FnProposeNot a r ∧ okV noN r := inh_yes (R := R_laws_FnProposeNot) fun _ => rfl
noncomputable def S_laws_FnPropose : FSpec := mkR (α := (List Int)) (fun a => [one (byF a)]) (fun a => LawB a) R_laws_FnPropose 200000 false (fun h => by cases h) inh_laws_FnPropose (fun _ => rfl)
noncomputable def S_laws_FnProposeNot : FSpec := mkR (α := (List Int)) (fun a => [one (byF a)]) (fun a => LawB a) R_laws_FnProposeNot 200000 false (fun h => by cases h) inh_laws_FnProposeNot (fun _ => rfl)
theorem K_laws_FnPropose {a : (List Int)} {r : AV} (h : S_laws_FnPropose.post ([one (byF a)]) r) : R_laws_FnPropose a r :=
  mkR_post (a := a) (by intro a b h; simpa only [List.cons.injEq, and_true, true_and, one_inj, agg_inj, paF_inj, itF_inj, chF_inj, voF_inj, vsF_inj, csF_inj, nsF_inj, nssF_inj, ndF_inj, ceF_inj, woF_inj, evF_inj, byF_inj, ndsF_inj, evsF_inj, pasF_inj, aI_inj, aB_inj, aRp_inj, fI_inj, fBo_inj] using h) h
theorem K_laws_FnProposeNot {a : (List Int)} {r : AV} (h : S_laws_FnProposeNot.post ([one (byF a)]) r) : R_laws_FnProposeNot a r :=
  mkR_post (a := a) (by intro a b h; simpa only [List.cons.injEq, and_true, true_and, one_inj, agg_inj, paF_inj, itF_inj, chF_inj, voF_inj, vsF_inj, csF_inj, nsF_inj, nssF_inj, ndF_inj, ceF_inj, woF_inj, evF_inj, byF_inj, ndsF_inj, evsF_inj, pasF_inj, aI_inj, aB_inj, aRp_inj, fI_inj, fBo_inj] using h) h
end Av
end Go.Proofs.Ytfijfccgghhkoaa

namespace Go.Proofs.Ytfijfccgghhkoaa
namespace Av
noncomputable def c_laws_FnProposeNot : FC := { n := 92, res := [⟨none, 2, []⟩], body :=
 (.seq
 (.rg [⟨some 2, none, .mv (.k (.bool false))⟩])
 (.seq
 (.seq
 (.rg [⟨some 11, none, .mv (.t 0)⟩,
   ⟨some 12, none, .len (.t 11)⟩,
   ⟨some 13, none, .bin 0 .gtr (.t 12) (.k (.int .i64 1048576))⟩])
 (.cond (.t 13)
 (.seq
 (.rg [⟨some 2, none, .mv (.k (.bool true))⟩])
 .ret)
 .skip))
 (.seq
 (.rg [⟨some 15, none, .mv (.t 0)⟩,
   ⟨some 16, none, .call n_spec_DrawNodePropose S_spec_DrawNodePropose [(.t 15, [some 1])]⟩,
   ⟨some 14, none, .mv (.t 16)⟩,
   ⟨some 17, none, .ext (.t 14) 0⟩,
   ⟨some 18, none, .ext (.t 14) 1⟩,
   ⟨some 3, none, .alloc [.int .i64 0, .int .i64 0, .int .i64 0, .slice none 0 0]⟩,
   ⟨some 4, none, .alloc [.int .i64 0, .int .i64 0, .int .i64 0]⟩,
   ⟨none, none, .store 4 (.t 3) (.t 17)⟩,
   ⟨none, none, .store 3 (.t 4) (.t 18)⟩])
 (.seq
 (.rg [⟨some 20, none, .load (some 4) (.t 3)⟩,
   ⟨some 21, none, .load (some 3) (.t 4)⟩,
   ⟨some 22, none, .call n_spec_NodePropose S_spec_NodePropose [(.t 20, [none, none, none, some 2]), (.t 21, [])]⟩,
   ⟨some 19, none, .mv (.t 22)⟩,
   ⟨some 23, none, .ext (.t 19) 0⟩,
   ⟨some 24, none, .ext (.t 19) 1⟩,
   ⟨some 25, none, .ext (.t 19) 2⟩,
   ⟨some 5, none, .alloc [.int .i64 0, .int .i64 0, .int .i64 0, .slice none 0 0]⟩,
   ⟨some 6, none, .alloc [.int .i64 0, .slice none 0 0]⟩,
   ⟨none, none, .store 4 (.t 5) (.t 23)⟩,
   ⟨none, none, .store 2 (.t 6) (.t 24)⟩,
   ⟨some 7, none, .mv (.t 25)⟩])
 (.seq
 (.rg [⟨some 27, none, .load (some 4) (.t 3)⟩,
   ⟨some 28, none, .load (some 3) (.t 4)⟩,
   ⟨some 29, none, .call n_impl_NodePropose S_impl_NodePropose [(.t 27, [none, none, none, some 2]), (.t 28, [])]⟩,
   ⟨some 26, none, .mv (.t 29)⟩,
   ⟨some 30, none, .ext (.t 26) 0⟩,
   ⟨some 31, none, .ext (.t 26) 1⟩,
   ⟨some 32, none, .ext (.t 26) 2⟩,
   ⟨some 8, none, .alloc [.int .i64 0, .int .i64 0, .int .i64 0, .slice none 0 0]⟩,
   ⟨some 9, none, .alloc [.int .i64 0, .slice none 0 0]⟩,
   ⟨none, none, .store 4 (.t 8) (.t 30)⟩,
   ⟨none, none, .store 2 (.t 9) (.t 31)⟩,
   ⟨some 10, none, .mv (.t 32)⟩])
 (.seq
 (.seq
 (.rg [⟨some 33, none, .mv (.t 10)⟩,
   ⟨some 34, none, .mv (.t 7)⟩,
   ⟨some 35, none, .bin 1 .neq (.t 33) (.t 34)⟩,
   ⟨some 36, none, .mv (.t 35)⟩,
   ⟨some 37, some (36, false), .load (some 4) (.t 8)⟩,
   ⟨some 38, some (36, false), .load (some 4) (.t 5)⟩,
   ⟨some 39, some (36, false), .call n_laws_lwNode S_laws_lwNode [(.t 37, [none, none, none, some 2]), (.t 38, [none, none, none, some 2])]⟩,
   ⟨some 40, some (36, false), .un .not (.t 39)⟩,
   ⟨some 41, none, .pick (.t 36) (.k (.bool true)) (.t 40)⟩,
   ⟨some 42, none, .mv (.t 41)⟩,
   ⟨some 43, some (42, false), .load (some 2) (.t 9)⟩,
   ⟨some 44, some (42, false), .load (some 2) (.t 6)⟩,
   ⟨some 45, some (42, false), .call n_laws_lwVote S_laws_lwVote [(.t 43, [none, some 4]), (.t 44, [none, some 4])]⟩,
   ⟨some 46, some (42, false), .un .not (.t 45)⟩,
   ⟨some 47, none, .pick (.t 42) (.k (.bool true)) (.t 46)⟩,
   ⟨some 48, none, .mv (.t 47)⟩,
   ⟨some 49, some (48, false), .load (some 4) (.t 3)⟩,
   ⟨some 50, some (48, false), .call n_spec_NodeOk S_spec_NodeOk [(.t 49, [none, none, none, some 2])]⟩,
   ⟨some 51, some (48, false), .un .not (.t 50)⟩,
   ⟨some 52, none, .pick (.t 48) (.k (.bool true)) (.t 51)⟩,
   ⟨some 53, none, .mv (.t 52)⟩,
   ⟨some 54, some (53, false), .load (some 3) (.t 4)⟩,
   ⟨some 55, some (53, false), .call n_spec_PayOk S_spec_PayOk [(.t 54, [])]⟩,
   ⟨some 56, some (53, false), .un .not (.t 55)⟩,
   ⟨some 57, none, .pick (.t 53) (.k (.bool true)) (.t 56)⟩])
 (.cond (.t 57)
 (.seq
 (.rg [⟨some 58, none, .mv (.t 10)⟩,
   ⟨some 59, none, .mv (.t 7)⟩,
   ⟨some 60, none, .bin 1 .eql (.t 58) (.t 59)⟩,
   ⟨some 61, none, .mv (.t 60)⟩,
   ⟨some 62, some (61, true), .load (some 4) (.t 8)⟩,
   ⟨some 63, some (61, true), .load (some 4) (.t 5)⟩,
   ⟨some 64, some (61, true), .call n_laws_lwNode S_laws_lwNode [(.t 62, [none, none, none, some 2]), (.t 63, [none, none, none, some 2])]⟩,
   ⟨some 65, none, .pick (.t 61) (.t 64) (.k (.bool false))⟩,
   ⟨some 66, none, .mv (.t 65)⟩,
   ⟨some 67, some (66, true), .load (some 2) (.t 9)⟩,
   ⟨some 68, some (66, true), .load (some 2) (.t 6)⟩,
   ⟨some 69, some (66, true), .call n_laws_lwVote S_laws_lwVote [(.t 67, [none, some 4]), (.t 68, [none, some 4])]⟩,
   ⟨some 70, none, .pick (.t 66) (.t 69) (.k (.bool false))⟩,
   ⟨some 2, none, .mv (.t 70)⟩])
 .ret)
 .skip))
 (.seq
 (.seq
 (.rg [⟨some 71, none, .mv (.t 10)⟩,
   ⟨some 72, none, .un .not (.t 71)⟩])
 (.cond (.t 72)
 (.seq
 (.rg [⟨some 73, none, .load (some 4) (.t 8)⟩,
   ⟨some 74, none, .load (some 4) (.t 3)⟩,
   ⟨some 75, none, .call n_laws_lwNode S_laws_lwNode [(.t 73, [none, none, none, some 2]), (.t 74, [none, none, none, some 2])]⟩,
   ⟨some 76, none, .mv (.t 75)⟩,
   ⟨some 77, some (76, true), .fld 0 (.t 9)⟩,
   ⟨some 78, some (76, true), .load none (.t 77)⟩,
   ⟨some 79, some (76, true), .bin 0 .eql (.t 78) (.k (.int .i64 0))⟩,
   ⟨some 80, none, .pick (.t 76) (.t 79) (.k (.bool false))⟩,
   ⟨some 2, none, .mv (.t 80)⟩])
 .ret)
 .skip))
 (.seq
 (.rg [⟨some 81, none, .fld 1 (.t 3)⟩,
   ⟨some 82, none, .load none (.t 81)⟩,
   ⟨some 83, none, .call n_impl_VoteLeader S_impl_VoteLeader [(.t 82, [])]⟩,
   ⟨some 84, none, .fld 0 (.t 3)⟩,
   ⟨some 85, none, .load none (.t 84)⟩,
   ⟨some 86, none, .bin 0 .eql (.t 83) (.t 85)⟩,
   ⟨some 87, none, .mv (.t 86)⟩,
   ⟨some 88, some (87, true), .fld 1 (.t 3)⟩,
   ⟨some 89, some (87, true), .load none (.t 88)⟩,
   ⟨some 90, some (87, true), .bin 0 .gtr (.t 89) (.k (.int .i64 0))⟩,
   ⟨some 91, none, .pick (.t 87) (.t 90) (.k (.bool false))⟩,
   ⟨some 2, none, .mv (.t 91)⟩])
 .ret)))))))) }
theorem is_laws_FnProposeNot : IsF Try.prog n_laws_FnProposeNot c_laws_FnProposeNot := ⟨Try.f3, _, Try.func3, rfl, by decide, rfl, by kernel_rfl, by kernel_rfl⟩
end Av
end Go.Proofs.Ytfijfccgghhkoaa

