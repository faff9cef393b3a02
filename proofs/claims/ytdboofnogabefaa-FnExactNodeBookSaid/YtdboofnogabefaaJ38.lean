/- Texts of the layer, joined. -/
import Derived.Test.YtdboofnogabefaaNE
import Derived.Test.YtdboofnogabefaaJ37
import Derived.Test.YtdboofnogabefaaJ11
import Derived.Test.YtdboofnogabefaaJ16
set_option linter.unusedVariables false
set_option linter.unusedSimpArgs false
namespace Go.Proofs.Ytdboofnogabefaa
namespace Av
open Go.RowKit
def SmBs (b : List (List Int)) : Prop := b.length ≤ SM ∧ ∀ x, x ∈ b → x.length ≤ SM
def SmCe (c : Ce) : Prop := c.c.length ≤ SM ∧ SmBs c.b
theorem SmBs.fit {b : List (List Int)} (h : SmBs b) : FitBs b := ⟨Nat.le_trans h.1 (by decide), fun x hx => Nat.le_trans (h.2 x hx) (by decide)⟩
theorem SmCe.fit {c : Ce} (h : SmCe c) : FitCe c := ⟨Nat.le_trans h.1 (by decide), h.2.fit⟩
noncomputable def S_laws_eqIntS : FSpec := tF (α := (List Int) × (List Int)) (fun a => [one (nsF a.1), one (nsF a.2)]) (fun a => a.1.length ≤ LIM ∧ a.2.length ≤ LIM) (fun a => a.1 = a.2) (fun _ => rfl)
theorem K_laws_eqIntS {a : (List Int) × (List Int)} {r : AV} (h : S_laws_eqIntS.post ([one (nsF a.1), one (nsF a.2)]) r) : (a.1 = a.2 ∧ r = B true) ∨ (¬ (a.1 = a.2) ∧ r = B false) :=
  tF_post (hcl := fun _ => rfl) (a := a) (by rintro ⟨x0, x1⟩ ⟨y0, y1⟩ h; simp only [List.cons.injEq, and_true, true_and, one_inj, agg_inj, paF_inj, itF_inj, chF_inj, voF_inj, vsF_inj, csF_inj, nsF_inj, nssF_inj, ndF_inj, ceF_inj, woF_inj, evF_inj, byF_inj, ndsF_inj, evsF_inj, pasF_inj, aI_inj, aB_inj, aRp_inj, fI_inj, fBo_inj] at h; obtain ⟨rfl, rfl⟩ := h; rfl) h
/-! ### marks -/
def mkI : Nat → Int → List Int
  | 0, _ => []
  | n + 1, k => k :: mkI n (k + 1)
theorem mkI_len : ∀ (n : Nat) (k : Int), (mkI n k).length = n
  | 0, _ => rfl
  | n + 1, k => by simp [mkI, mkI_len n]
theorem mkI_snoc : ∀ (n : Nat) (k : Int), mkI (n + 1) k = mkI n k ++ [k + n]
  | 0, k => by simp [mkI]
  | n + 1, k => by
    rw [mkI, mkI_snoc n (k + 1), mkI]
    simp only [List.cons_append, List.cons.injEq, true_and, List.append_cancel_left_eq, and_true]
    omega
noncomputable def S_laws_markIntS : MSpec := mkM (α := List Int × Int) (fun a => [ow0, I a.2]) (fun a => [isO a.1]) (fun a => a.1.length ≤ SM ∧ 0 ≤ a.2 ∧ a.2 ≤ MK) (fun a r obs' => r = I (a.2 + a.1.length) ∧ obs' = [some (isO (mkI a.1.length a.2))]) 0
  (fun a _ => ⟨_, _, ⟨rfl, rfl⟩, trivial, ok_sg (arA_ok _)⟩)
  (fun a r obs' h => by obtain ⟨_, rfl⟩ := h; simp)
theorem K_laws_markIntS {l : List Int} {k : Int} {r : AV} {obs' : List (Option Ob)} (h : S_laws_markIntS.post [ow0, I k] [isO l] r obs') : r = I (k + l.length) ∧ obs' = [some (isO (mkI l.length k))] :=
  mkM_post (enc := fun a : List Int × Int => [ow0, I a.2]) (ob := fun a => [isO a.1]) (a := (l, k)) (fun a b h h' => by
    obtain ⟨x, y⟩ := a; obtain ⟨z, w⟩ := b
    have e1 := isO_inj h'
    have e2 := aI_inj.1 (List.cons.inj (List.cons.inj h).2).1
    dsimp only at e1 e2
    rw [e1, e2]) h
end Av
end Go.Proofs.Ytdboofnogabefaa

namespace Go.Proofs.Ytdboofnogabefaa
namespace Av
open Go.RowKit
theorem mkI_at : ∀ (n : Nat) (k : Int) (i : Nat), i < n → (mkI n k)[i]? = some (k + i)
  | n + 1, k, 0, _ => by simp [mkI]
  | n + 1, k, i + 1, h => by
    rw [mkI, List.getElem?_cons_succ, mkI_at n (k + 1) i (by omega)]
    simp only [Option.some.injEq]; omega
  | 0, _, _, h => absurd h (Nat.not_lt_zero _)
noncomputable def S_laws_heldIntS : FSpec := iF (α := Nat × Int) (fun a => [one (nsF (mkI a.1 a.2)), I a.2]) (fun a => a.1 ≤ SM ∧ 0 ≤ a.2 ∧ a.2 ≤ MK) (fun a => a.2 + a.1) (fun _ => rfl)
theorem encHeldI_inj (a b : Nat × Int) (h : [one (nsF (mkI a.1 a.2)), I a.2] = [one (nsF (mkI b.1 b.2)), I b.2]) : a = b := by
  obtain ⟨n, k⟩ := a; obtain ⟨m, j⟩ := b
  have h1 := nsF_inj.1 (one_inj.1 (List.cons.inj h).1)
  have h2 := aI_inj.1 (List.cons.inj (List.cons.inj h).2).1
  have h3 := congrArg List.length h1
  rw [mkI_len, mkI_len] at h3
  dsimp only at h2 h3
  rw [h2, h3]
theorem K_laws_heldIntS {n : Nat} {k : Int} {r : AV} (h : S_laws_heldIntS.post [one (nsF (mkI n k)), I k] r) : r = I (k + n) :=
  iF_post (hcl := fun _ => rfl) (a := (n, k)) encHeldI_inj h
theorem bookN_len (n : Nd) : (bookN n).length ≤ 3 := by
  unfold bookN
  split
  · unfold bookOf
    split
    · rename_i h
      have h2 := bookOf_ok (c := fin n.seen) (Classical.byContradiction fun h' => by rw [tb_neg h'] at h; cases h)
      unfold bookOf at h2
      rw [h] at h2
      exact Nat.le_of_eq h2.2.1
    · exact Nat.zero_le _
  · exact Nat.zero_le _
noncomputable def S_laws_FnExactNodeBook : FSpec := tF (α := (Nd)) (fun a => [agg (ndF a)]) (fun a => BigVs a.seen) (fun a => True) (fun _ => rfl)
theorem K_laws_FnExactNodeBook {a : (Nd)} {r : AV} (h : S_laws_FnExactNodeBook.post ([agg (ndF a)]) r) : (True ∧ r = B true) ∨ (¬ (True) ∧ r = B false) :=
  tF_post (hcl := fun _ => rfl) (a := a) (by intro a b h; simpa only [List.cons.injEq, and_true, true_and, one_inj, agg_inj, paF_inj, itF_inj, chF_inj, voF_inj, vsF_inj, csF_inj, nsF_inj, nssF_inj, ndF_inj, ceF_inj, woF_inj, evF_inj, byF_inj, ndsF_inj, evsF_inj, pasF_inj, aI_inj, aB_inj, aRp_inj, fI_inj, fBo_inj] using h) h
end Av
end Go.Proofs.Ytdboofnogabefaa

