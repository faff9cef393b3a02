/- Texts of the layer, joined. -/
import Derived.Test.YtdboofnogabefaaJ46
import Derived.Test.YtdboofnogabefaaD1
import Derived.Test.YtdboofnogabefaaProg
import Derived.KernelRfl
import Derived.Test.YtdboofnogabefaaFA
set_option linter.unusedVariables false
set_option linter.unusedSimpArgs false
namespace Go.Proofs.Ytdboofnogabefaa
namespace Av
noncomputable def c_laws_FnNodeNew : FC := { n := 83, res := [⟨none, 2, []⟩], body :=
 (.seq
 (.rg [⟨some 2, none, .mv (.k (.bool false))⟩])
 (.seq
 (.seq
 (.rg [⟨some 11, none, .mv (.t 0)⟩,
   ⟨some 12, none, .len (.t 11)⟩,
   ⟨some 13, none, .bin 0 .gtr (.t 12) (.k (.int .i64 1048576))⟩])
 (.cond (.t 13)
 (.seq
 (.rg [⟨some 2, none, .mv (.k (.bool true))⟩])
 .ret)
 .skip))
 (.seq
 (.rg [⟨some 14, none, .mv (.t 0)⟩,
   ⟨some 15, none, .call n_spec_DrawNodeNew S_spec_DrawNodeNew [(.t 14, [some 1])]⟩,
   ⟨some 3, none, .mv (.t 15)⟩])
 (.seq
 (.rg [⟨some 17, none, .mv (.t 3)⟩,
   ⟨some 18, none, .call n_spec_NodeNew S_spec_NodeNew_s [(.t 17, [])]⟩,
   ⟨some 16, none, .mv (.t 18)⟩,
   ⟨some 19, none, .ext (.t 16) 0⟩,
   ⟨some 20, none, .ext (.t 16) 1⟩,
   ⟨some 4, none, .alloc [.int .i64 0, .int .i64 0, .int .i64 0, .slice none 0 0]⟩,
   ⟨none, none, .store 4 (.t 4) (.t 19)⟩,
   ⟨some 5, none, .mv (.t 20)⟩])
 (.seq
 (.rg [⟨some 22, none, .mv (.t 3)⟩,
   ⟨some 23, none, .call n_impl_NodeNew S_impl_NodeNew [(.t 22, [])]⟩,
   ⟨some 21, none, .mv (.t 23)⟩,
   ⟨some 24, none, .ext (.t 21) 0⟩,
   ⟨some 25, none, .ext (.t 21) 1⟩,
   ⟨some 6, none, .alloc [.int .i64 0, .int .i64 0, .int .i64 0, .slice none 0 0]⟩,
   ⟨none, none, .store 4 (.t 6) (.t 24)⟩,
   ⟨some 7, none, .mv (.t 25)⟩])
 (.seq
 (.seq
 (.rg [⟨some 26, none, .mv (.t 7)⟩,
   ⟨some 27, none, .mv (.t 5)⟩,
   ⟨some 28, none, .bin 1 .neq (.t 26) (.t 27)⟩,
   ⟨some 29, none, .mv (.t 28)⟩,
   ⟨some 30, some (29, false), .load (some 4) (.t 6)⟩,
   ⟨some 31, some (29, false), .load (some 4) (.t 4)⟩,
   ⟨some 32, some (29, false), .call n_laws_lwNode S_laws_lwNode [(.t 30, [none, none, none, some 2]), (.t 31, [none, none, none, some 2])]⟩,
   ⟨some 33, some (29, false), .un .not (.t 32)⟩,
   ⟨some 34, none, .pick (.t 29) (.k (.bool true)) (.t 33)⟩,
   ⟨some 35, none, .mv (.t 34)⟩,
   ⟨some 36, some (35, false), .mv (.t 7)⟩,
   ⟨some 37, some (35, false), .un .not (.t 36)⟩,
   ⟨some 38, none, .pick (.t 35) (.k (.bool true)) (.t 37)⟩])
 (.cond (.t 38)
 (.seq
 (.rg [⟨some 39, none, .mv (.t 7)⟩,
   ⟨some 40, none, .mv (.t 5)⟩,
   ⟨some 41, none, .bin 1 .eql (.t 39) (.t 40)⟩,
   ⟨some 42, none, .mv (.t 41)⟩,
   ⟨some 43, some (42, true), .load (some 4) (.t 6)⟩,
   ⟨some 44, some (42, true), .load (some 4) (.t 4)⟩,
   ⟨some 45, some (42, true), .call n_laws_lwNode S_laws_lwNode [(.t 43, [none, none, none, some 2]), (.t 44, [none, none, none, some 2])]⟩,
   ⟨some 46, none, .pick (.t 42) (.t 45) (.k (.bool false))⟩,
   ⟨some 2, none, .mv (.t 46)⟩])
 .ret)
 .skip))
 (.seq
 (.rg [⟨some 48, none, .load (some 4) (.t 6)⟩,
   ⟨some 49, none, .build [.int .i64 0, .int .i64 0, .int .i64 0] [(0, 1, .k (.int .i64 1)), (1, 1, .k (.int .i64 2)), (2, 1, .k (.int .i64 1))]⟩,
   ⟨some 50, none, .call n_impl_NodePropose S_impl_NodePropose [(.t 48, [none, none, none, some 2]), (.t 49, [])]⟩,
   ⟨some 47, none, .mv (.t 50)⟩,
   ⟨some 51, none, .ext (.t 47) 0⟩,
   ⟨some 52, none, .ext (.t 47) 1⟩,
   ⟨some 53, none, .ext (.t 47) 2⟩,
   ⟨some 8, none, .alloc [.int .i64 0, .int .i64 0, .int .i64 0, .slice none 0 0]⟩,
   ⟨some 9, none, .alloc [.int .i64 0, .slice none 0 0]⟩,
   ⟨none, none, .store 4 (.t 8) (.t 51)⟩,
   ⟨none, none, .store 2 (.t 9) (.t 52)⟩,
   ⟨some 10, none, .mv (.t 53)⟩])
 (.seq
 (.rg [⟨some 54, none, .load (some 4) (.t 6)⟩,
   ⟨some 55, none, .call n_impl_NodeOk S_impl_NodeOk [(.t 54, [none, none, none, some 2])]⟩,
   ⟨some 56, none, .mv (.t 55)⟩,
   ⟨some 57, some (56, true), .fld 0 (.t 6)⟩,
   ⟨some 58, some (56, true), .load none (.t 57)⟩,
   ⟨some 59, some (56, true), .mv (.t 3)⟩,
   ⟨some 60, some (56, true), .bin 0 .eql (.t 58) (.t 59)⟩,
   ⟨some 61, none, .pick (.t 56) (.t 60) (.k (.bool false))⟩,
   ⟨some 62, none, .mv (.t 61)⟩,
   ⟨some 63, some (62, true), .fld 1 (.t 6)⟩,
   ⟨some 64, some (62, true), .load none (.t 63)⟩,
   ⟨some 65, some (62, true), .bin 0 .eql (.t 64) (.k (.int .i64 0))⟩,
   ⟨some 66, none, .pick (.t 62) (.t 65) (.k (.bool false))⟩,
   ⟨some 67, none, .mv (.t 66)⟩,
   ⟨some 68, some (67, true), .fld 3 (.t 6)⟩,
   ⟨some 69, some (67, true), .load none (.t 68)⟩,
   ⟨some 70, some (67, true), .len (.t 69)⟩,
   ⟨some 71, some (67, true), .bin 0 .eql (.t 70) (.k (.int .i64 0))⟩,
   ⟨some 72, none, .pick (.t 67) (.t 71) (.k (.bool false))⟩,
   ⟨some 73, none, .mv (.t 72)⟩,
   ⟨some 74, some (73, true), .mv (.t 10)⟩,
   ⟨some 75, some (73, true), .un .not (.t 74)⟩,
   ⟨some 76, none, .pick (.t 73) (.t 75) (.k (.bool false))⟩,
   ⟨some 77, none, .mv (.t 76)⟩,
   ⟨some 78, some (77, true), .load (some 4) (.t 6)⟩,
   ⟨some 79, some (77, true), .callo n_impl_NodeBook SO_impl_NodeBook [(.t 78, [none, none, none, some 2])]⟩,
   ⟨some 80, some (77, true), .callo n_impl_BookNew SO_impl_BookNew []⟩,
   ⟨some 81, some (77, true), .call n_laws_lwInts S_laws_lwInts [(.t 79, [some 1]), (.t 80, [some 1])]⟩,
   ⟨some 82, none, .pick (.t 77) (.t 81) (.k (.bool false))⟩,
   ⟨some 2, none, .mv (.t 82)⟩])
 .ret)))))))) }
theorem is_laws_FnNodeNew : IsF Try.prog n_laws_FnNodeNew c_laws_FnNodeNew := ⟨Try.f3, _, Try.func3, rfl, by decide, rfl, by kernel_rfl, by kernel_rfl⟩
end Av
end Go.Proofs.Ytdboofnogabefaa

namespace Go.Proofs.Ytdboofnogabefaa
namespace Av
open Go.RowKit
/-- How many names a copy may take. -/
@[irreducible] def NB : Nat := 4194304
theorem NB_eq : NB = 4194304 := by unfold NB; rfl
/-- Data in; more objects out than sixteen. -/
def mkNS {α : Type} (st : Nat) (enc : α → List AV) (p : α → Prop) (R : α → AV → List (Option Ob) → Prop) (cost : Nat)
    (hinh : ∀ a, p a → ∃ r obs', R a r obs' ∧ okV (· < obs'.length) r ∧ ∀ (j : Nat) o, obs'[j]? = some (some o) → okOb (· < obs'.length) o) (hlen : ∀ a r obs', R a r obs' → obs'.length ≤ 16 + st) : MSpec where
  pre args obs := ∃ a, args = enc a ∧ obs = [] ∧ p a
  post args obs r obs' := ∃ a, args = enc a ∧ obs = [] ∧ R a r obs'
  inh := fun args obs ⟨a, h, _, hp⟩ => by
    obtain ⟨r, obs', h3, h4, h5⟩ := hinh a hp
    exact ⟨r, obs', ⟨a, h, by assumption, h3⟩, h4, h5⟩
  cost := cost
  st := st
  hlen := fun args obs r obs' ⟨a, h1, h2, h3⟩ => by rw [h2]; exact ⟨Nat.zero_le _, by have := hlen a r obs' h3; simpa using this⟩
  nk := true
  hnk := fun _ args obs ⟨a, _, h, _⟩ => h
theorem mkNS_post {α : Type} {st : Nat} {enc : α → List AV} {p : α → Prop} {R : α → AV → List (Option Ob) → Prop} {cost : Nat} {hinh hlen} (hinj : ∀ a b, enc a = enc b → a = b) {a : α} {r : AV} {obs' : List (Option Ob)}
    (h : (mkNS st enc p R cost hinh hlen).post (enc a) [] r obs') : R a r obs' := by
  obtain ⟨b, h1, _, h3⟩ := h
  rw [hinj _ _ h1]; exact h3
section
variable {fr : Env} {H : Hp} {nx rm' lim : Nat} {res : List Rs} {post : AV → List (Option Ob) → Prop}
end
end Av
end Go.Proofs.Ytdboofnogabefaa
/- Contracts of the marks on chains. -/
namespace Go.Proofs.Ytdboofnogabefaa
namespace Av
open Go.RowKit
section
variable {fr : Env} {H : Hp} {nx rm' lim : Nat} {res : List Rs} {post : AV → List (Option Ob) → Prop}
end
end Av
end Go.Proofs.Ytdboofnogabefaa
/- The contract of 'the marks stand' on chains. -/
namespace Go.Proofs.Ytdboofnogabefaa
namespace Av
open Go.RowKit
end Av
end Go.Proofs.Ytdboofnogabefaa
/- Contracts of the marks on votes. -/
namespace Go.Proofs.Ytdboofnogabefaa
namespace Av
open Go.RowKit
section
variable {P : Program} {g : Nat} {S : MSpec} {fr : Env} {H : Hp} {nm rm : Nat} {K : KV} {xs : List (X × List (Option Nat))}
end
end Av
end Go.Proofs.Ytdboofnogabefaa
/- The contract of the marks on votes. -/
namespace Go.Proofs.Ytdboofnogabefaa
namespace Av
open Go.RowKit
end Av
end Go.Proofs.Ytdboofnogabefaa

namespace Go.Proofs.Ytdboofnogabefaa
namespace Av
end Av
end Go.Proofs.Ytdboofnogabefaa

namespace Go.Proofs.Ytdboofnogabefaa
namespace Av
noncomputable def c_slices_Clone_ItemS_o : FC := { n := 8, res := [⟨none, 2, [some 4]⟩], body :=
 (.seq
 (.rg [⟨some 2, none, .mv (.k (.slice none 0 0))⟩])
 (.seq
 (.seq
 (.rg [⟨some 3, none, .mv (.t 0)⟩,
   ⟨some 4, none, .bin 3 .eql (.t 3) (.k (.slice none 0 0))⟩])
 (.cond (.t 4)
 (.seq
 (.rg [⟨some 2, none, .mv (.k (.slice none 0 0))⟩])
 .ret)
 .skip))
 (.seq
 (.rg [⟨some 5, none, .bsl 54 4 []⟩,
   ⟨some 6, none, .mv (.t 0)⟩,
   ⟨some 7, none, .app 54 4 32 [.int .i64 0, .int .i64 0, .int .i64 0, .int .i64 0] (.t 5) (.t 6)⟩,
   ⟨some 2, none, .mv (.t 7)⟩])
 .ret))) }
theorem is_slices_Clone_ItemS_o : IsF Try.prog n_slices_Clone_ItemS_o c_slices_Clone_ItemS_o := ⟨Try.f119, _, Try.func119, rfl, by decide, rfl, by kernel_rfl, by kernel_rfl⟩
noncomputable def c_slices_Clip_ItemS_o : FC := { n := 9, res := [⟨none, 2, [some 4]⟩], body :=
 (.seq
 (.rg [⟨some 2, none, .mv (.k (.slice none 0 0))⟩])
 (.seq
 (.rg [⟨some 3, none, .mv (.t 0)⟩,
   ⟨some 4, none, .mv (.t 0)⟩,
   ⟨some 5, none, .len (.t 4)⟩,
   ⟨some 6, none, .mv (.t 0)⟩,
   ⟨some 7, none, .len (.t 6)⟩,
   ⟨some 8, none, .clip 4 (.t 3) (.t 5) (.t 7)⟩,
   ⟨some 2, none, .mv (.t 8)⟩])
 .ret)) }
theorem is_slices_Clip_ItemS_o : IsF Try.prog n_slices_Clip_ItemS_o c_slices_Clip_ItemS_o := ⟨Try.f118, _, Try.func118, rfl, by decide, rfl, by kernel_rfl, by kernel_rfl⟩
noncomputable def c_impl_copied_o : FC := { n := 6, res := [⟨none, 2, [some 4]⟩], body :=
 (.seq
 (.rg [⟨some 2, none, .mv (.k (.slice none 0 0))⟩])
 (.seq
 (.rg [⟨some 3, none, .mv (.t 0)⟩,
   ⟨some 4, none, .callm n_slices_Clone_ItemS_o S_slices_Clone_ItemS_o [(.t 3, [some 4])]⟩,
   ⟨some 5, none, .callm n_slices_Clip_ItemS_o S_slices_Clip_ItemS_o [(.t 4, [some 4])]⟩,
   ⟨some 2, none, .mv (.t 5)⟩])
 .ret)) }
theorem is_impl_copied_o : IsF Try.prog n_impl_copied_o c_impl_copied_o := ⟨Try.f71, _, Try.func71, rfl, by decide, rfl, by kernel_rfl, by kernel_rfl⟩
end Av
end Go.Proofs.Ytdboofnogabefaa

