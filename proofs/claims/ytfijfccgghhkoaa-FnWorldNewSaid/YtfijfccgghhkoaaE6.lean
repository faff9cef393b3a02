/- The contracts of the drawing functions: what they hand back is some data of bounded size. -/
import Derived.Test.YtfijfccgghhkoaaE4
import Derived.Test.YtfijfccgghhkoaaW1
set_option linter.unusedVariables false
set_option linter.unusedSimpArgs false
namespace Go.Proofs.Ytfijfccgghhkoaa
namespace Av
open Go.RowKit
def Bytes (b : List Int) : Prop := ∀ x, x ∈ b → 0 ≤ x ∧ x ≤ 255
def RdOk (b : List Int) : Prop := b.length ≤ 2000 ∧ Bytes b
def CodeOk (b : List Int) : Prop := b.length ≤ LIM ∧ Bytes b
def DrV (l : List Vo) : Prop := l.length ≤ 400 ∧ ∀ v, v ∈ l → v.c.length ≤ 16
theorem DrV.fit {l : List Vo} (h : DrV l) : FitVs l := ⟨Nat.le_trans h.1 (by decide), fun v hv => Nat.le_trans (h.2 v hv) (by decide)⟩
theorem DrV.lt {l : List Vo} (h : DrV l) : l.length < LIM := Nat.lt_of_le_of_lt h.1 (by decide)
theorem DrV.get {l : List Vo} {i : Nat} {v : Vo} (h : DrV l) (hv : l[i]? = some v) : v.c.length ≤ 16 := h.2 v (List.mem_of_getElem? hv)
abbrev pt0 : AV := .w (.o (.ptr 0 0))
abbrev rdO (b : List Int) : Ob := .rd (byF b)
theorem okp {n k : Nat} (h : k < n) : okV (· < n) (.w (.o (.ptr k 0))) := h
theorem ok_sg {D : Nat → Prop} {o1 : Ob} (h1 : okOb D o1) : ∀ (j : Nat) o, [some o1][j]? = some (some o) → okOb D o
  | 0, o, h => by cases h; exact h1
  | j + 1, o, h => by simp at h
/-- Bytes in, a reader out. -/
def S_spec_l6Open : MSpec := mkM (α := List Int) (fun b => [one (byF b)]) (fun _ => []) CodeOk (fun _ r obs' => ∃ b, r = pt0 ∧ obs' = [some (rdO b)] ∧ RdOk b) 0
  (fun b _ => ⟨pt0, _, ⟨[], rfl, rfl, Nat.zero_le _, fun x h => by cases h⟩, okp Nat.one_pos, ok_sg trivial⟩) (fun b r obs' ⟨c, _, h, _⟩ => by rw [h]; exact ⟨by simp, by simp⟩)
theorem K_spec_l6Open {b : List Int} {r : AV} {obs' : List (Option Ob)} (h : S_spec_l6Open.post [one (byF b)] [] r obs') : ∃ b, r = pt0 ∧ obs' = [some (rdO b)] ∧ RdOk b :=
  mkM_post (enc := fun b => [one (byF b)]) (ob := fun _ => []) (a := b) (fun _ _ h _ => by simpa only [List.cons.injEq, and_true, one_inj, byF_inj] using h) h
def R_spec_l6Rd_pick (a : (List Int) × (Int)) (r : AV) : Prop := ∃ k : Int, r = I k ∧ 0 ≤ k ∧ (k < a.2 ∨ (a.2 < 1 ∧ k = 0))
def noV : Vo := ⟨0, []⟩
theorem inh_spec_l6Rd_pick : ∀ a : List Int × Int, RdOk a.1 → ∃ r, R_spec_l6Rd_pick a r ∧ okV noN r := fun a _ => ⟨I 0, ⟨0, rfl, Int.le_refl _, by omega⟩, trivial⟩
noncomputable def S_spec_l6Rd_pick : FSpec := mkR (α := (List Int) × (Int)) (fun a => [.w (.o (.rp (byF a.1))), I a.2]) (fun a => RdOk a.1) R_spec_l6Rd_pick 1 false (fun h => by cases h) inh_spec_l6Rd_pick (fun _ => rfl)
theorem K_spec_l6Rd_pick {a : (List Int) × (Int)} {r : AV} (h : S_spec_l6Rd_pick.post ([.w (.o (.rp (byF a.1))), I a.2]) r) : R_spec_l6Rd_pick a r :=
  mkR_post (a := a) (by rintro ⟨x0, x1⟩ ⟨y0, y1⟩ h; simp only [List.cons.injEq, and_true, true_and, one_inj, agg_inj, paF_inj, itF_inj, chF_inj, voF_inj, vsF_inj, csF_inj, nsF_inj, nssF_inj, ndF_inj, ceF_inj, woF_inj, evF_inj, byF_inj, ndsF_inj, evsF_inj, pasF_inj, aI_inj, aB_inj, aRp_inj, fI_inj, fBo_inj] at h; obtain ⟨rfl, rfl⟩ := h; rfl) h
end Av
end Go.Proofs.Ytfijfccgghhkoaa
