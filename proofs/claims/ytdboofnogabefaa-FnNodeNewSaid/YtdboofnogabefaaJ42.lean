/- Texts of the layer, joined. -/
import Derived.Test.YtdboofnogabefaaBB
import Derived.Test.YtdboofnogabefaaZA
import Derived.Test.YtdboofnogabefaaE6
import Derived.Test.YtdboofnogabefaaD1
import Derived.Test.YtdboofnogabefaaProg
import Derived.KernelRfl
set_option linter.unusedVariables false
set_option linter.unusedSimpArgs false
namespace Go.Proofs.Ytdboofnogabefaa
namespace Av
open Go.RowKit
noncomputable def bookN (n : Nd) : List Int := if tb (NodeOk n) = true then bookOf (fin n.seen) else []
noncomputable def S_impl_NodeBook : MSpec := S_ownN (fun n : Nd => [agg (ndF n)]) (fun n => FitVs n.seen) bookN
noncomputable def SO_impl_NodeBook : OSpec := mkOF (α := Nd) ty_int 1 inF inF_v (fun n => [agg (ndF n)]) (fun n => FitVs n.seen) bookN fun _ => rfl
theorem encN_inj (a b : Nd) (h : [agg (ndF a)] = [agg (ndF b)]) : a = b := by simpa only [List.cons.injEq, and_true, agg_inj, ndF_inj] using h
theorem so_impl_NodeBook (n : Nd) : SO_impl_NodeBook.ob [agg (ndF n)] = isO (bookN n) := mkOF_ob (enc := fun n => [agg (ndF n)]) (g := bookN) (hcl := fun _ => rfl) encN_inj n
noncomputable def newNd (i : Int) : Nd := if tb (In i 1 4) = true then ⟨i, 0, 0, []⟩ else zNd
noncomputable def newR (i : Int) : AV := .tup [.g ((ndF (newNd i)).map AC.c), .o (cB (tb (In i 1 4)))]
theorem newR_ok (i : Int) : okV noN (newR i) := by
  intro c hc
  simp only [List.mem_cons, List.not_mem_nil, or_false] at hc
  rcases hc with rfl | rfl
  · intro x hx
    obtain ⟨f, _, rfl⟩ := List.mem_map.1 hx
    trivial
  · trivial
theorem newR_yes {i : Int} (h : In i 1 4) : newR i = .tup [.g ((ndF ⟨i, 0, 0, []⟩).map AC.c), .o (cB true)] := by unfold newR newNd; rw [tb_pos h]; rfl
theorem newR_no {i : Int} (h : ¬ In i 1 4) : newR i = .tup [.g ((ndF zNd).map AC.c), .o (cB false)] := by unfold newR newNd; rw [tb_neg h]; rfl
def R_impl_NodeNew (a : (Int)) (r : AV) : Prop := r = newR a
def R_spec_NodeNew_s (a : (Int)) (r : AV) : Prop := r = newR a
def R_spec_DrawNodeNew (a : (List Int)) (r : AV) : Prop := ∃ k : Int, r = I k ∧ In k 0 5
theorem inh_impl_NodeNew : ∀ a : Int, True → ∃ r, R_impl_NodeNew a r ∧ okV noN r := fun a _ => ⟨_, rfl, newR_ok a⟩
theorem inh_spec_NodeNew_s : ∀ a : Int, True → ∃ r, R_spec_NodeNew_s a r ∧ okV noN r := fun a _ => ⟨_, rfl, newR_ok a⟩
theorem inh_spec_DrawNodeNew : ∀ a : List Int, CodeOk a → ∃ r, R_spec_DrawNodeNew a r ∧ okV noN r := fun a _ => ⟨_, ⟨0, rfl, by decide, by decide⟩, trivial⟩
noncomputable def S_impl_NodeNew : FSpec := mkR (α := (Int)) (fun a => [I a]) (fun a => True) R_impl_NodeNew 0 false (fun h => by cases h) inh_impl_NodeNew (fun _ => rfl)
noncomputable def S_spec_NodeNew_s : FSpec := mkR (α := (Int)) (fun a => [I a]) (fun a => True) R_spec_NodeNew_s 0 false (fun h => by cases h) inh_spec_NodeNew_s (fun _ => rfl)
noncomputable def S_spec_DrawNodeNew : FSpec := mkR (α := (List Int)) (fun a => [one (byF a)]) (fun a => CodeOk a) R_spec_DrawNodeNew 1 false (fun h => by cases h) inh_spec_DrawNodeNew (fun _ => rfl)
theorem K_impl_NodeNew {a : (Int)} {r : AV} (h : S_impl_NodeNew.post ([I a]) r) : R_impl_NodeNew a r :=
  mkR_post (a := a) (by intro a b h; simpa only [List.cons.injEq, and_true, true_and, one_inj, agg_inj, paF_inj, itF_inj, chF_inj, voF_inj, vsF_inj, csF_inj, nsF_inj, nssF_inj, ndF_inj, ceF_inj, woF_inj, evF_inj, byF_inj, ndsF_inj, evsF_inj, pasF_inj, aI_inj, aB_inj, aRp_inj, fI_inj, fBo_inj] using h) h
theorem K_spec_NodeNew_s {a : (Int)} {r : AV} (h : S_spec_NodeNew_s.post ([I a]) r) : R_spec_NodeNew_s a r :=
  mkR_post (a := a) (by intro a b h; simpa only [List.cons.injEq, and_true, true_and, one_inj, agg_inj, paF_inj, itF_inj, chF_inj, voF_inj, vsF_inj, csF_inj, nsF_inj, nssF_inj, ndF_inj, ceF_inj, woF_inj, evF_inj, byF_inj, ndsF_inj, evsF_inj, pasF_inj, aI_inj, aB_inj, aRp_inj, fI_inj, fBo_inj] using h) h
theorem K_spec_DrawNodeNew {a : (List Int)} {r : AV} (h : S_spec_DrawNodeNew.post ([one (byF a)]) r) : R_spec_DrawNodeNew a r :=
  mkR_post (a := a) (by intro a b h; simpa only [List.cons.injEq, and_true, true_and, one_inj, agg_inj, paF_inj, itF_inj, chF_inj, voF_inj, vsF_inj, csF_inj, nsF_inj, nssF_inj, ndF_inj, ceF_inj, woF_inj, evF_inj, byF_inj, ndsF_inj, evsF_inj, pasF_inj, aI_inj, aB_inj, aRp_inj, fI_inj, fBo_inj] using h) h
end Av
end Go.Proofs.Ytdboofnogabefaa

namespace Go.Proofs.Ytdboofnogabefaa
namespace Av
noncomputable def c_impl_NodeBook : FC := { n := 10, res := [⟨none, 2, [some 1]⟩], body :=
 (.seq
 (.rg [⟨some 1, none, .box (.t 0)⟩,
   ⟨some 2, none, .mv (.k (.slice none 0 0))⟩])
 (.seq
 (.seq
 (.rg [⟨some 3, none, .load (some 4) (.t 1)⟩,
   ⟨some 4, none, .call n_impl_NodeOk S_impl_NodeOk [(.t 3, [none, none, none, some 2])]⟩,
   ⟨some 5, none, .un .not (.t 4)⟩])
 (.cond (.t 5)
 (.seq
 (.rg [⟨some 2, none, .mv (.k (.slice none 0 0))⟩])
 .ret)
 .skip))
 (.seq
 (.rg [⟨some 6, none, .fld 3 (.t 1)⟩,
   ⟨some 7, none, .load none (.t 6)⟩,
   ⟨some 8, none, .call n_impl_votes_final S_impl_votes_final [(.t 7, [some 2])]⟩,
   ⟨some 9, none, .callo n_impl_BookOf SO_impl_BookOf [(.t 8, [some 4])]⟩,
   ⟨some 2, none, .mv (.t 9)⟩])
 .ret))) }
theorem is_impl_NodeBook : IsF Try.prog n_impl_NodeBook c_impl_NodeBook := ⟨Try.f16, _, Try.func16, rfl, by decide, rfl, by kernel_rfl, by kernel_rfl⟩
noncomputable def c_impl_NodeNew : FC := { n := 10, res := [⟨some (some 4), 2, [none, none, none, some 2]⟩, ⟨none, 3, []⟩], body :=
 (.seq
 (.rg [⟨some 2, none, .alloc [.int .i64 0, .int .i64 0, .int .i64 0, .slice none 0 0]⟩,
   ⟨some 3, none, .mv (.k (.bool false))⟩])
 (.seq
 (.seq
 (.rg [⟨some 4, none, .mv (.t 0)⟩,
   ⟨some 5, none, .call n_impl_nodeOk S_impl_nodeOk [(.t 4, [])]⟩,
   ⟨some 6, none, .un .not (.t 5)⟩])
 (.cond (.t 6)
 (.seq
 (.rg [⟨some 7, none, .build [.int .i64 0, .int .i64 0, .int .i64 0, .slice none 0 0] []⟩,
   ⟨none, none, .store 4 (.t 2) (.t 7)⟩,
   ⟨some 3, none, .mv (.k (.bool false))⟩])
 .ret)
 .skip))
 (.seq
 (.rg [⟨some 8, none, .mv (.t 0)⟩,
   ⟨some 9, none, .build [.int .i64 0, .int .i64 0, .int .i64 0, .slice none 0 0] [(0, 1, .t 8)]⟩,
   ⟨none, none, .store 4 (.t 2) (.t 9)⟩,
   ⟨some 3, none, .mv (.k (.bool true))⟩])
 .ret))) }
theorem is_impl_NodeNew : IsF Try.prog n_impl_NodeNew c_impl_NodeNew := ⟨Try.f11, _, Try.func11, rfl, by decide, rfl, by kernel_rfl, by kernel_rfl⟩
noncomputable def c_spec_NodeNew : FC := { n := 11, res := [⟨some (some 4), 2, [none, none, none, some 2]⟩, ⟨none, 3, []⟩], body :=
 (.seq
 (.rg [⟨some 2, none, .alloc [.int .i64 0, .int .i64 0, .int .i64 0, .slice none 0 0]⟩,
   ⟨some 3, none, .mv (.k (.bool false))⟩])
 (.seq
 (.seq
 (.rg [⟨some 4, none, .mv (.t 0)⟩,
   ⟨some 5, none, .call n_spec_l6In S_spec_l6In [(.t 4, []), (.k (.int .i64 1), []), (.k (.int .i64 4), [])]⟩,
   ⟨some 6, none, .un .not (.t 5)⟩])
 (.cond (.t 6)
 (.seq
 (.rg [⟨some 7, none, .build [.int .i64 0, .int .i64 0, .int .i64 0, .slice none 0 0] []⟩,
   ⟨none, none, .store 4 (.t 2) (.t 7)⟩,
   ⟨some 3, none, .mv (.k (.bool false))⟩])
 .ret)
 .skip))
 (.seq
 (.rg [⟨some 8, none, .mv (.t 0)⟩,
   ⟨some 9, none, .bslf true 32 2 []⟩,
   ⟨some 10, none, .build [.int .i64 0, .int .i64 0, .int .i64 0, .slice none 0 0] [(0, 1, .t 8), (3, 1, .t 9)]⟩,
   ⟨none, none, .store 4 (.t 2) (.t 10)⟩,
   ⟨some 3, none, .mv (.k (.bool true))⟩])
 .ret))) }
theorem is_spec_NodeNew : IsF Try.prog n_spec_NodeNew c_spec_NodeNew := ⟨Try.f10, _, Try.func10, rfl, by decide, rfl, by kernel_rfl, by kernel_rfl⟩
noncomputable def c_spec_DrawNodeNew : FC := { n := 6, res := [⟨none, 2, []⟩], body :=
 (.seq
 (.rg [⟨some 2, none, .mv (.k (.int .i64 0))⟩])
 (.seq
 (.rg [⟨some 3, none, .mv (.t 0)⟩,
   ⟨some 4, none, .callm n_spec_l6Open S_spec_l6Open [(.t 3, [some 1])]⟩,
   ⟨some 5, none, .call n_spec_l6Rd_pick S_spec_l6Rd_pick [(.t 4, []), (.k (.int .i64 6), [])]⟩,
   ⟨some 2, none, .mv (.t 5)⟩])
 .ret)) }
theorem is_spec_DrawNodeNew : IsF Try.prog n_spec_DrawNodeNew c_spec_DrawNodeNew := ⟨Try.f9, _, Try.func9, rfl, by decide, rfl, by kernel_rfl, by kernel_rfl⟩
end Av
end Go.Proofs.Ytdboofnogabefaa

