/- Texts of the layer, joined. -/
import Derived.Test.YtlbdoamidblkaaaJ5
import Derived.Test.YtlbdoamidblkaaaW1
set_option linter.unusedVariables false
set_option linter.unusedSimpArgs false
namespace Go.Proofs.Ytlbdoamidblkaaa
namespace Av
open Go.RowKit
def Bytes (b : List Int) : Prop := ∀ x, x ∈ b → 0 ≤ x ∧ x ≤ 255
def RdOk (b : List Int) : Prop := b.length ≤ 2000 ∧ Bytes b
def CodeOk (b : List Int) : Prop := b.length ≤ LIM ∧ Bytes b
def DrV (l : List Vo) : Prop := l.length ≤ 400 ∧ ∀ v, v ∈ l → v.c.length ≤ 16
theorem DrV.fit {l : List Vo} (h : DrV l) : FitVs l := ⟨Nat.le_trans h.1 (by decide), fun v hv => Nat.le_trans (h.2 v hv) (by decide)⟩
theorem DrV.lt {l : List Vo} (h : DrV l) : l.length < LIM := Nat.lt_of_le_of_lt h.1 (by decide)
theorem DrV.get {l : List Vo} {i : Nat} {v : Vo} (h : DrV l) (hv : l[i]? = some v) : v.c.length ≤ 16 := h.2 v (List.mem_of_getElem? hv)
abbrev pt0 : AV := .w (.o (.ptr 0 0))
abbrev ow0 : AV := .w (.o (.ow 0))
abbrev ow1 : AV := .w (.o (.ow 1))
abbrev rdO (b : List Int) : Ob := .rd (byF b)
abbrev itO (c : List It) : Ob := .arr ty_impl_Item 4 (arA itF c)
abbrev voO (l : List Vo) : Ob := .arr ty_impl_Vote 2 (arA voF l)
theorem rdO_inj {a b : List Int} (h : [rdO a] = [rdO b]) : a = b := by
  have := (List.cons.inj h).1
  exact byF_inj.1 (Ob.rd.inj this)
theorem voO_inj {a b : List Vo} (h : [voO a] = [voO b]) : a = b := by
  have := (List.cons.inj h).1
  exact arA_inj (fun _ _ => voF_inj.1) (Ob.arr.inj this).2.2
theorem okw {n k : Nat} (h : k < n) : okV (· < n) (.w (.o (.ow k))) := h
theorem okp {n k : Nat} (h : k < n) : okV (· < n) (.w (.o (.ptr k 0))) := h
theorem ok_two {D : Nat → Prop} {o1 o2 : Ob} (h1 : okOb D o1) (h2 : okOb D o2) : ∀ (j : Nat) o, [some o1, some o2][j]? = some (some o) → okOb D o
  | 0, o, h => by cases h; exact h1
  | 1, o, h => by cases h; exact h2
  | j + 2, o, h => by simp at h
theorem ok_sg {D : Nat → Prop} {o1 : Ob} (h1 : okOb D o1) : ∀ (j : Nat) o, [some o1][j]? = some (some o) → okOb D o
  | 0, o, h => by cases h; exact h1
  | j + 1, o, h => by simp at h
/-- A reader in, a chain out. -/
def rdItM (n cost : Nat) : MSpec := mkM (α := List Int) (fun _ => [pt0]) (fun b => [rdO b]) RdOk (fun b r obs' => ∃ c : List It, r = ow1 ∧ obs' = [some (rdO b), some (itO c)] ∧ c.length ≤ n) cost
  (fun b _ => ⟨ow1, _, ⟨[], rfl, rfl, Nat.zero_le _⟩, okw (Nat.lt_of_lt_of_le Nat.one_lt_two (Nat.le_refl _)), ok_two trivial (arA_ok _)⟩) (fun b r obs' ⟨c, _, h, _⟩ => by rw [h]; exact ⟨by simp, by simp⟩)
def S_spec_l71Chain : MSpec := rdItM 6 100
theorem rdItM_post {n cost : Nat} {b : List Int} {r : AV} {obs' : List (Option Ob)} (h : (rdItM n cost).post [pt0] [rdO b] r obs') : ∃ c : List It, r = ow1 ∧ obs' = [some (rdO b), some (itO c)] ∧ c.length ≤ n :=
  mkM_post (enc := fun _ => [pt0]) (ob := fun b => [rdO b]) (fun _ _ _ h => rdO_inj h) h
/-- Bytes in, a reader out. -/
def S_spec_l6Open : MSpec := mkM (α := List Int) (fun b => [one (byF b)]) (fun _ => []) CodeOk (fun _ r obs' => ∃ b, r = pt0 ∧ obs' = [some (rdO b)] ∧ RdOk b) 0
  (fun b _ => ⟨pt0, _, ⟨[], rfl, rfl, Nat.zero_le _, fun x h => by cases h⟩, okp Nat.one_pos, ok_sg trivial⟩) (fun b r obs' ⟨c, _, h, _⟩ => by rw [h]; exact ⟨by simp, by simp⟩)
theorem K_spec_l6Open {b : List Int} {r : AV} {obs' : List (Option Ob)} (h : S_spec_l6Open.post [one (byF b)] [] r obs') : ∃ b, r = pt0 ∧ obs' = [some (rdO b)] ∧ RdOk b :=
  mkM_post (enc := fun b => [one (byF b)]) (ob := fun _ => []) (a := b) (fun _ _ h _ => by simpa only [List.cons.injEq, and_true, one_inj, byF_inj] using h) h
/-- A chain anew, to be written on. -/
def SO_spec_l1Copy : OSpec where
  pre args := ∃ c : List It, args = [one (chF c)] ∧ c.length ≤ LIM
  ob args := match args with
    | [.w (.o (.c (.sl 4 xs)))] => .arr ty_impl_Item 4 (xs.map fun x => x.map AC.c)
    | _ => .tok 0 0 0
  hok args := by
    split
    · rename_i xs
      intro x hx c hc
      obtain ⟨y, _, rfl⟩ := List.mem_map.1 hx
      obtain ⟨z, _, rfl⟩ := List.mem_map.1 hc
      exact trivial
    · exact trivial
  hcl := fun args ⟨c, h, _⟩ => by rw [h]; rfl
  fl := false
  hfl := by intro h; cases h
theorem so_spec_l1Copy (c : List It) : SO_spec_l1Copy.ob [one (chF c)] = itO c := by
  show Ob.arr ty_impl_Item 4 ((c.map itF).map fun x => x.map AC.c) = _
  rw [List.map_map]; rfl
noncomputable def S_slices_Clone_VoteS : MSpec := mkN (α := List Vo) (fun l => [one (vsF l)]) FitVs (fun l r obs' => (r = .w (.o .e0) ∧ obs' = [] ∧ l = []) ∨ (r = ow0 ∧ obs' = [some (voO l)])) 0
  (fun l _ => ⟨ow0, _, .inr ⟨rfl, rfl⟩, okw Nat.one_pos, ok_sg (arA_ok _)⟩) (fun b r obs' h => by rcases h with ⟨_, h, _⟩ | ⟨_, h⟩ <;> rw [h] <;> simp)
theorem K_slices_Clone_VoteS {l : List Vo} {r : AV} {obs' : List (Option Ob)} (h : S_slices_Clone_VoteS.post [one (vsF l)] [] r obs') : (r = .w (.o .e0) ∧ obs' = [] ∧ l = []) ∨ (r = ow0 ∧ obs' = [some (voO l)]) :=
  mkN_post (enc := fun b => [one (vsF b)]) (a := l) (fun _ _ h => by simpa only [List.cons.injEq, and_true, one_inj, vsF_inj] using h) h
def R_spec_l6Rd_pick (a : (List Int) × (Int)) (r : AV) : Prop := ∃ k : Int, r = I k ∧ 0 ≤ k ∧ (k < a.2 ∨ (a.2 < 1 ∧ k = 0))
def R_spec_l71Pay (a : (List Int)) (r : AV) : Prop := ∃ p : Pa, r = agg (paF p)
def noV : Vo := ⟨0, []⟩
def noP : Pa := ⟨0, 0, 0⟩
theorem inh_spec_l6Rd_pick : ∀ a : List Int × Int, RdOk a.1 → ∃ r, R_spec_l6Rd_pick a r ∧ okV noN r := fun a _ => ⟨I 0, ⟨0, rfl, Int.le_refl _, by omega⟩, trivial⟩
theorem inh_spec_l71Pay : ∀ a : List Int, RdOk a → ∃ r, R_spec_l71Pay a r ∧ okV noN r := fun a _ => ⟨_, ⟨noP, rfl⟩, ok_agg _ _⟩
noncomputable def S_spec_l6Rd_pick : FSpec := mkR (α := (List Int) × (Int)) (fun a => [.w (.o (.rp (byF a.1))), I a.2]) (fun a => RdOk a.1) R_spec_l6Rd_pick 1 false (fun h => by cases h) inh_spec_l6Rd_pick (fun _ => rfl)
noncomputable def S_spec_l71Pay : FSpec := mkR (α := (List Int)) (fun a => [.w (.o (.rp (byF a)))]) (fun a => RdOk a) R_spec_l71Pay 10 false (fun h => by cases h) inh_spec_l71Pay (fun _ => rfl)
noncomputable def S_spec_l3VoteCopy : FSpec := gF (α := (Vo)) (fun a => [agg (voF a)]) (fun a => FitV a) (fun a => voF a) (fun _ => rfl)
theorem K_spec_l6Rd_pick {a : (List Int) × (Int)} {r : AV} (h : S_spec_l6Rd_pick.post ([.w (.o (.rp (byF a.1))), I a.2]) r) : R_spec_l6Rd_pick a r :=
  mkR_post (a := a) (by rintro ⟨x0, x1⟩ ⟨y0, y1⟩ h; simp only [List.cons.injEq, and_true, true_and, one_inj, agg_inj, paF_inj, itF_inj, chF_inj, voF_inj, vsF_inj, csF_inj, nsF_inj, nssF_inj, ndF_inj, ceF_inj, woF_inj, evF_inj, byF_inj, ndsF_inj, evsF_inj, pasF_inj, aI_inj, aB_inj, aRp_inj, fI_inj, fBo_inj] at h; obtain ⟨rfl, rfl⟩ := h; rfl) h
theorem K_spec_l71Pay {a : (List Int)} {r : AV} (h : S_spec_l71Pay.post ([.w (.o (.rp (byF a)))]) r) : R_spec_l71Pay a r :=
  mkR_post (a := a) (by intro a b h; simpa only [List.cons.injEq, and_true, true_and, one_inj, agg_inj, paF_inj, itF_inj, chF_inj, voF_inj, vsF_inj, csF_inj, nsF_inj, nssF_inj, ndF_inj, ceF_inj, woF_inj, evF_inj, byF_inj, ndsF_inj, evsF_inj, pasF_inj, aI_inj, aB_inj, aRp_inj, fI_inj, fBo_inj] using h) h
theorem K_spec_l3VoteCopy {a : (Vo)} {r : AV} (h : S_spec_l3VoteCopy.post ([agg (voF a)]) r) : r = agg (voF a) :=
  gF_post (hcl := fun _ => rfl) (a := a) (by intro a b h; simpa only [List.cons.injEq, and_true, true_and, one_inj, agg_inj, paF_inj, itF_inj, chF_inj, voF_inj, vsF_inj, csF_inj, nsF_inj, nssF_inj, ndF_inj, ceF_inj, woF_inj, evF_inj, byF_inj, ndsF_inj, evsF_inj, pasF_inj, aI_inj, aB_inj, aRp_inj, fI_inj, fBo_inj] using h) h
end Av
end Go.Proofs.Ytlbdoamidblkaaa

namespace Go.Proofs.Ytlbdoamidblkaaa
namespace Av
open Go.RowKit
theorem FitCs.get {l : List (List It)} {i : Nat} {c : List It} (h : FitCs l) (hc : l[i]? = some c) : c.length ≤ LIM := h.2 c (List.mem_of_getElem? hc)
/-- An array in; its votes out, for good. -/
noncomputable def S_slices_Clip_VoteS : MSpec := mkM (α := List Vo) (fun _ => [ow0]) (fun l => [voO l]) (fun l => l.length ≤ LIM) (fun l r obs' => r = one (vsF l) ∧ obs' = [some (.tok ty_impl_Vote 2 l.length)]) 0
  (fun l _ => ⟨_, _, ⟨rfl, rfl⟩, trivial, ok_sg trivial⟩) (fun b r obs' ⟨_, h⟩ => by rw [h]; exact ⟨by simp, by simp⟩)
theorem K_slices_Clip_VoteS {l : List Vo} {r : AV} {obs' : List (Option Ob)} (h : S_slices_Clip_VoteS.post [ow0] [voO l] r obs') : r = one (vsF l) ∧ obs' = [some (.tok ty_impl_Vote 2 l.length)] :=
  mkM_post (enc := fun _ => [ow0]) (ob := fun l => [voO l]) (a := l) (fun _ _ _ h => voO_inj h) h
noncomputable def S_laws_lwSame : FSpec := tF (α := (List It) × (List It)) (fun a => [one (chF a.1), one (chF a.2)]) (fun a => a.1.length ≤ LIM ∧ a.2.length ≤ LIM) (fun a => a.1 = a.2) (fun _ => rfl)
noncomputable def S_laws_lwVote : FSpec := tF (α := (Vo) × (Vo)) (fun a => [agg (voF a.1), agg (voF a.2)]) (fun a => FitV a.1 ∧ FitV a.2) (fun a => a.1 = a.2) (fun _ => rfl)
noncomputable def S_laws_lwVotes : FSpec := tF (α := (List Vo) × (List Vo)) (fun a => [one (vsF a.1), one (vsF a.2)]) (fun a => FitVs a.1 ∧ FitVs a.2) (fun a => a.1 = a.2) (fun _ => rfl)
noncomputable def S_impl_Vote_copied : FSpec := gF (α := (Vo)) (fun a => [agg (voF a)]) (fun a => FitV a) (fun a => voF a) (fun _ => rfl)
noncomputable def S_impl_votes_copied : FSpec := oF (α := (List Vo)) (fun a => [one (vsF a)]) (fun a => FitVs a) (fun a => vsF a) (fun _ => rfl)
noncomputable def S_impl_votes_with : FSpec := oF (α := (List Vo) × (Vo)) (fun a => [one (vsF a.1), agg (voF a.2)]) (fun a => FitVs a.1 ∧ FitV a.2 ∧ a.1.length < LIM) (fun a => vsF (a.1 ++ [a.2])) (fun _ => rfl)
theorem K_impl_epochOk {a : (Int)} {r : AV} (h : S_impl_epochOk.post ([I a]) r) : (EpochOk a ∧ r = B true) ∨ (¬ (EpochOk a) ∧ r = B false) :=
  tF_post (hcl := fun _ => rfl) (a := a) (by intro a b h; simpa only [List.cons.injEq, and_true, true_and, one_inj, agg_inj, paF_inj, itF_inj, chF_inj, voF_inj, vsF_inj, csF_inj, nsF_inj, nssF_inj, ndF_inj, ceF_inj, woF_inj, evF_inj, byF_inj, ndsF_inj, evsF_inj, pasF_inj, aI_inj, aB_inj, aRp_inj, fI_inj, fBo_inj] using h) h
theorem K_impl_nodeOk {a : (Int)} {r : AV} (h : S_impl_nodeOk.post ([I a]) r) : (In a 1 4 ∧ r = B true) ∨ (¬ (In a 1 4) ∧ r = B false) :=
  tF_post (hcl := fun _ => rfl) (a := a) (by intro a b h; simpa only [List.cons.injEq, and_true, true_and, one_inj, agg_inj, paF_inj, itF_inj, chF_inj, voF_inj, vsF_inj, csF_inj, nsF_inj, nssF_inj, ndF_inj, ceF_inj, woF_inj, evF_inj, byF_inj, ndsF_inj, evsF_inj, pasF_inj, aI_inj, aB_inj, aRp_inj, fI_inj, fBo_inj] using h) h
theorem K_impl_PayOk {a : (Pa)} {r : AV} (h : S_impl_PayOk.post ([agg (paF a)]) r) : (PayOk a ∧ r = B true) ∨ (¬ (PayOk a) ∧ r = B false) :=
  tF_post (hcl := fun _ => rfl) (a := a) (by intro a b h; simpa only [List.cons.injEq, and_true, true_and, one_inj, agg_inj, paF_inj, itF_inj, chF_inj, voF_inj, vsF_inj, csF_inj, nsF_inj, nssF_inj, ndF_inj, ceF_inj, woF_inj, evF_inj, byF_inj, ndsF_inj, evsF_inj, pasF_inj, aI_inj, aB_inj, aRp_inj, fI_inj, fBo_inj] using h) h
theorem K_impl_ChainOk {a : (List It)} {r : AV} (h : S_impl_ChainOk.post ([one (chF a)]) r) : (ChainOk a ∧ r = B true) ∨ (¬ (ChainOk a) ∧ r = B false) :=
  tF_post (hcl := fun _ => rfl) (a := a) (by intro a b h; simpa only [List.cons.injEq, and_true, true_and, one_inj, agg_inj, paF_inj, itF_inj, chF_inj, voF_inj, vsF_inj, csF_inj, nsF_inj, nssF_inj, ndF_inj, ceF_inj, woF_inj, evF_inj, byF_inj, ndsF_inj, evsF_inj, pasF_inj, aI_inj, aB_inj, aRp_inj, fI_inj, fBo_inj] using h) h
theorem K_impl_votes_has {a : (List Vo) × (Vo)} {r : AV} (h : S_impl_votes_has.post ([one (vsF a.1), agg (voF a.2)]) r) : (a.2 ∈ a.1 ∧ r = B true) ∨ (¬ (a.2 ∈ a.1) ∧ r = B false) :=
  tF_post (hcl := fun _ => rfl) (a := a) (by rintro ⟨x0, x1⟩ ⟨y0, y1⟩ h; simp only [List.cons.injEq, and_true, true_and, one_inj, agg_inj, paF_inj, itF_inj, chF_inj, voF_inj, vsF_inj, csF_inj, nsF_inj, nssF_inj, ndF_inj, ceF_inj, woF_inj, evF_inj, byF_inj, ndsF_inj, evsF_inj, pasF_inj, aI_inj, aB_inj, aRp_inj, fI_inj, fBo_inj] at h; obtain ⟨rfl, rfl⟩ := h; rfl) h
theorem K_impl_VoteOk {a : (Vo)} {r : AV} (h : S_impl_VoteOk.post ([agg (voF a)]) r) : (VoteOk a ∧ r = B true) ∨ (¬ (VoteOk a) ∧ r = B false) :=
  tF_post (hcl := fun _ => rfl) (a := a) (by intro a b h; simpa only [List.cons.injEq, and_true, true_and, one_inj, agg_inj, paF_inj, itF_inj, chF_inj, voF_inj, vsF_inj, csF_inj, nsF_inj, nssF_inj, ndF_inj, ceF_inj, woF_inj, evF_inj, byF_inj, ndsF_inj, evsF_inj, pasF_inj, aI_inj, aB_inj, aRp_inj, fI_inj, fBo_inj] using h) h
theorem K_impl_votes_sure {a : (List Vo) × (List It)} {r : AV} (h : S_impl_votes_sure.post ([one (vsF a.1), one (chF a.2)]) r) : (Sure a.1 a.2 ∧ r = B true) ∨ (¬ (Sure a.1 a.2) ∧ r = B false) :=
  tF_post (hcl := fun _ => rfl) (a := a) (by rintro ⟨x0, x1⟩ ⟨y0, y1⟩ h; simp only [List.cons.injEq, and_true, true_and, one_inj, agg_inj, paF_inj, itF_inj, chF_inj, voF_inj, vsF_inj, csF_inj, nsF_inj, nssF_inj, ndF_inj, ceF_inj, woF_inj, evF_inj, byF_inj, ndsF_inj, evsF_inj, pasF_inj, aI_inj, aB_inj, aRp_inj, fI_inj, fBo_inj] at h; obtain ⟨rfl, rfl⟩ := h; rfl) h
theorem K_impl_copied {a : (List It)} {r : AV} (h : S_impl_copied.post ([one (chF a)]) r) : r = one (chF a) :=
  oF_post (hcl := fun _ => rfl) (a := a) (by intro a b h; simpa only [List.cons.injEq, and_true, true_and, one_inj, agg_inj, paF_inj, itF_inj, chF_inj, voF_inj, vsF_inj, csF_inj, nsF_inj, nssF_inj, ndF_inj, ceF_inj, woF_inj, evF_inj, byF_inj, ndsF_inj, evsF_inj, pasF_inj, aI_inj, aB_inj, aRp_inj, fI_inj, fBo_inj] using h) h
theorem K_impl_votes_tip {a : (List Vo)} {r : AV} (h : S_impl_votes_tip.post ([one (vsF a)]) r) : r = one (chF (tip a)) :=
  oF_post (hcl := fun _ => rfl) (a := a) (by intro a b h; simpa only [List.cons.injEq, and_true, true_and, one_inj, agg_inj, paF_inj, itF_inj, chF_inj, voF_inj, vsF_inj, csF_inj, nsF_inj, nssF_inj, ndF_inj, ceF_inj, woF_inj, evF_inj, byF_inj, ndsF_inj, evsF_inj, pasF_inj, aI_inj, aB_inj, aRp_inj, fI_inj, fBo_inj] using h) h
theorem K_laws_lwSame {a : (List It) × (List It)} {r : AV} (h : S_laws_lwSame.post ([one (chF a.1), one (chF a.2)]) r) : (a.1 = a.2 ∧ r = B true) ∨ (¬ (a.1 = a.2) ∧ r = B false) :=
  tF_post (hcl := fun _ => rfl) (a := a) (by rintro ⟨x0, x1⟩ ⟨y0, y1⟩ h; simp only [List.cons.injEq, and_true, true_and, one_inj, agg_inj, paF_inj, itF_inj, chF_inj, voF_inj, vsF_inj, csF_inj, nsF_inj, nssF_inj, ndF_inj, ceF_inj, woF_inj, evF_inj, byF_inj, ndsF_inj, evsF_inj, pasF_inj, aI_inj, aB_inj, aRp_inj, fI_inj, fBo_inj] at h; obtain ⟨rfl, rfl⟩ := h; rfl) h
theorem K_laws_lwVote {a : (Vo) × (Vo)} {r : AV} (h : S_laws_lwVote.post ([agg (voF a.1), agg (voF a.2)]) r) : (a.1 = a.2 ∧ r = B true) ∨ (¬ (a.1 = a.2) ∧ r = B false) :=
  tF_post (hcl := fun _ => rfl) (a := a) (by rintro ⟨x0, x1⟩ ⟨y0, y1⟩ h; simp only [List.cons.injEq, and_true, true_and, one_inj, agg_inj, paF_inj, itF_inj, chF_inj, voF_inj, vsF_inj, csF_inj, nsF_inj, nssF_inj, ndF_inj, ceF_inj, woF_inj, evF_inj, byF_inj, ndsF_inj, evsF_inj, pasF_inj, aI_inj, aB_inj, aRp_inj, fI_inj, fBo_inj] at h; obtain ⟨rfl, rfl⟩ := h; rfl) h
theorem K_laws_lwVotes {a : (List Vo) × (List Vo)} {r : AV} (h : S_laws_lwVotes.post ([one (vsF a.1), one (vsF a.2)]) r) : (a.1 = a.2 ∧ r = B true) ∨ (¬ (a.1 = a.2) ∧ r = B false) :=
  tF_post (hcl := fun _ => rfl) (a := a) (by rintro ⟨x0, x1⟩ ⟨y0, y1⟩ h; simp only [List.cons.injEq, and_true, true_and, one_inj, agg_inj, paF_inj, itF_inj, chF_inj, voF_inj, vsF_inj, csF_inj, nsF_inj, nssF_inj, ndF_inj, ceF_inj, woF_inj, evF_inj, byF_inj, ndsF_inj, evsF_inj, pasF_inj, aI_inj, aB_inj, aRp_inj, fI_inj, fBo_inj] at h; obtain ⟨rfl, rfl⟩ := h; rfl) h
theorem K_impl_Vote_copied {a : (Vo)} {r : AV} (h : S_impl_Vote_copied.post ([agg (voF a)]) r) : r = agg (voF a) :=
  gF_post (hcl := fun _ => rfl) (a := a) (by intro a b h; simpa only [List.cons.injEq, and_true, true_and, one_inj, agg_inj, paF_inj, itF_inj, chF_inj, voF_inj, vsF_inj, csF_inj, nsF_inj, nssF_inj, ndF_inj, ceF_inj, woF_inj, evF_inj, byF_inj, ndsF_inj, evsF_inj, pasF_inj, aI_inj, aB_inj, aRp_inj, fI_inj, fBo_inj] using h) h
theorem K_impl_votes_copied {a : (List Vo)} {r : AV} (h : S_impl_votes_copied.post ([one (vsF a)]) r) : r = one (vsF a) :=
  oF_post (hcl := fun _ => rfl) (a := a) (by intro a b h; simpa only [List.cons.injEq, and_true, true_and, one_inj, agg_inj, paF_inj, itF_inj, chF_inj, voF_inj, vsF_inj, csF_inj, nsF_inj, nssF_inj, ndF_inj, ceF_inj, woF_inj, evF_inj, byF_inj, ndsF_inj, evsF_inj, pasF_inj, aI_inj, aB_inj, aRp_inj, fI_inj, fBo_inj] using h) h
theorem K_impl_votes_with {a : (List Vo) × (Vo)} {r : AV} (h : S_impl_votes_with.post ([one (vsF a.1), agg (voF a.2)]) r) : r = one (vsF (a.1 ++ [a.2])) :=
  oF_post (hcl := fun _ => rfl) (a := a) (by rintro ⟨x0, x1⟩ ⟨y0, y1⟩ h; simp only [List.cons.injEq, and_true, true_and, one_inj, agg_inj, paF_inj, itF_inj, chF_inj, voF_inj, vsF_inj, csF_inj, nsF_inj, nssF_inj, ndF_inj, ceF_inj, woF_inj, evF_inj, byF_inj, ndsF_inj, evsF_inj, pasF_inj, aI_inj, aB_inj, aRp_inj, fI_inj, fBo_inj] at h; obtain ⟨rfl, rfl⟩ := h; rfl) h
end Av
end Go.Proofs.Ytlbdoamidblkaaa

namespace Go.Proofs.Ytlbdoamidblkaaa
namespace Av
open Go.RowKit
def LawB (b : List Int) : Prop := b.length ≤ BIG ∧ Bytes b
theorem LawB.code {b : List Int} (h : LawB b) (h' : (b.length : Int) ≤ 1048576) : CodeOk b := ⟨by simp only [LIM]; omega, h.2⟩
theorem inh_yes {α : Sort _} {p : α → Prop} {R : α → AV → Prop} (h : ∀ a, R a (B true)) : ∀ a, p a → ∃ r, R a r ∧ okV noN r := fun a _ => ⟨B true, h a, trivial⟩
end Av
end Go.Proofs.Ytlbdoamidblkaaa

