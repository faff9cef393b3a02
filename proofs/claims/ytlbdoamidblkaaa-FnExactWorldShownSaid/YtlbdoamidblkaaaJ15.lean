/- Texts of the layer, joined. -/
import Derived.Test.YtlbdoamidblkaaaJ9
import Derived.Test.YtlbdoamidblkaaaJ14
set_option linter.unusedVariables false
set_option linter.unusedSimpArgs false
namespace Go.Proofs.Ytlbdoamidblkaaa
namespace Av
open Go.RowKit
/-- One number behind the other, azz the machine adds. -/
def Nxt (a b : Int) : Prop := IntKind.i64.wrap (a + 1) = b
/-- Three epochs, one behind the other, the last one at place i + 2. -/
def Con3 (c : List It) (i : Nat) : Prop := ∃ x y z : It, c[i]? = some x ∧ c[i + 1]? = some y ∧ c[i + 2]? = some z ∧ Nxt x.e y.e ∧ Nxt y.e z.e
/-- How much is final, of the first m + 2 items. -/
noncomputable def finAt (c : List It) : Nat → Nat
  | 0 => 0
  | m + 1 => if tb (Con3 c m) = true then m + 2 else finAt c m
noncomputable def finIn (c : List It) : Nat := finAt c (c.length - 2)
noncomputable def shwn (o c : List It) : List It := if finIn o < finIn c then c else o
noncomputable def shown (l : List Vo) : List It := (allS l).foldl shwn []
noncomputable def fin (l : List Vo) : List It := (shown l).take (finIn (shown l))
theorem con3_lt {c : List It} {i : Nat} (h : Con3 c i) : i + 2 < c.length := by
  obtain ⟨x, y, z, _, _, h3, _⟩ := h
  exact (List.getElem?_eq_some_iff.1 h3).1
theorem finAt_lt {c : List It} : ∀ {m : Nat}, finAt c m ≠ 0 → finAt c m < c.length
  | 0, h => absurd rfl h
  | m + 1, h => by
    unfold finAt at h ⊢
    split
    · rename_i ht
      have := con3_lt (tb_iff.1 ht)
      omega
    · rename_i ht
      rw [if_neg ht] at h
      exact finAt_lt h
theorem finAt_yes {c : List It} {m : Nat} (h : Con3 c m) : finAt c (m + 1) = m + 2 := by unfold finAt; rw [tb_pos h]; rfl
theorem finAt_no {c : List It} {m : Nat} (h : ¬ Con3 c m) : finAt c (m + 1) = finAt c m := by
  conv => lhs; unfold finAt
  rw [tb_neg h]; rfl
noncomputable def S_impl_final : FSpec := iF (α := (List It)) (fun a => [one (chF a)]) (fun a => a.length ≤ LIM) (fun a => (finIn a : Int)) (fun _ => rfl)
theorem K_impl_final {a : (List It)} {r : AV} (h : S_impl_final.post ([one (chF a)]) r) : r = I ((finIn a : Int)) :=
  iF_post (hcl := fun _ => rfl) (a := a) (by intro a b h; simpa only [List.cons.injEq, and_true, true_and, one_inj, agg_inj, paF_inj, itF_inj, chF_inj, voF_inj, vsF_inj, csF_inj, nsF_inj, nssF_inj, ndF_inj, ceF_inj, woF_inj, evF_inj, byF_inj, ndsF_inj, evsF_inj, pasF_inj, aI_inj, aB_inj, aRp_inj, fI_inj, fBo_inj] using h) h
end Av
end Go.Proofs.Ytlbdoamidblkaaa

namespace Go.Proofs.Ytlbdoamidblkaaa
namespace Av
open Go.RowKit
section
variable {P : Program} {f : Nat} {S : MSpec} {fr : Env} {H : Hp} {nm nx rm rm' lim : Nat} {K : KV} {xs : List (X × List (Option Nat))} {res : List Rs} {post : AV → List (Option Ob) → Prop}
end
end Av
end Go.Proofs.Ytlbdoamidblkaaa

namespace Go.Proofs.Ytlbdoamidblkaaa
namespace Av
open Go.RowKit
/-- How many names a copy may take. -/
@[irreducible] def NB : Nat := 4194304
section
variable {fr : Env} {H : Hp} {nx rm' lim : Nat} {res : List Rs} {post : AV → List (Option Ob) → Prop}
end
end Av
end Go.Proofs.Ytlbdoamidblkaaa
/- Contracts of the marks on chains. -/
namespace Go.Proofs.Ytlbdoamidblkaaa
namespace Av
open Go.RowKit
section
variable {fr : Env} {H : Hp} {nx rm' lim : Nat} {res : List Rs} {post : AV → List (Option Ob) → Prop}
end
end Av
end Go.Proofs.Ytlbdoamidblkaaa
/- The contract of 'the marks stand' on chains. -/
namespace Go.Proofs.Ytlbdoamidblkaaa
namespace Av
open Go.RowKit
end Av
end Go.Proofs.Ytlbdoamidblkaaa
/- Contracts of the marks on votes. -/
namespace Go.Proofs.Ytlbdoamidblkaaa
namespace Av
open Go.RowKit
section
variable {P : Program} {g : Nat} {S : MSpec} {fr : Env} {H : Hp} {nm rm : Nat} {K : KV} {xs : List (X × List (Option Nat))}
end
end Av
end Go.Proofs.Ytlbdoamidblkaaa
/- The contract of the marks on votes. -/
namespace Go.Proofs.Ytlbdoamidblkaaa
namespace Av
open Go.RowKit
end Av
end Go.Proofs.Ytlbdoamidblkaaa

