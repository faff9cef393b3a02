/- The contracts of the reference's functions on worlds, as they are drawn. -/
import Derived.Test.YtfijfccgghhkoaaZJ
set_option linter.unusedVariables false
set_option linter.unusedSimpArgs false
namespace Go.Proofs.Ytfijfccgghhkoaa
namespace Av
open Go.RowKit
theorem allO_of {α β : Type} {g : α → Option β} : ∀ {l : List α} {m : List β}, l.length = m.length → (∀ (i : Nat) x y, l[i]? = some x → m[i]? = some y → g x = some y) → allO g l = some m
  | [], [], _, _ => rfl
  | x :: l, y :: m, h, h' => by
    have h1 := h' 0 x y rfl rfl
    have h2 := allO_of (l := l) (m := m) (by simpa using h) (fun i x y a b => h' (i + 1) x y (by simpa using a) (by simpa using b))
    simp only [allO, h1, h2]; rfl
  | [], _ :: _, h, _ => by simp at h
  | _ :: _, [], h, _ => by simp at h
/-- A world, as one sees it who only reads. -/
theorem bor_W {H : Hp} {w : Wo} {kN : Nat} {f : Nat → Nat} (h : H kN = some (arrK f w.nodes)) (hl : w.nodes.length = 4) : borV H [none, some 4, some 2] (wv w kN f) = agg (woF w) := by
  have hb : bor H (some 4) (.ow kN) = .c (.sl 4 (w.nodes.map ndF)) := by
    have hd : allO (allO (deep H 3 4)) (ndsK f w.nodes) = some (w.nodes.map ndF) := by
      refine allO_of (by simp [ndsK_len]) fun i x y h1 h2 => ?_
      rw [ndsK_get] at h1
      rw [List.getElem?_map] at h2
      cases hn : w.nodes[i]? with
      | none => rw [hn] at h1; cases h1
      | some n =>
        rw [hn] at h1 h2
        cases h1; cases h2
        rfl
    have hf : fcellss (ndsK f w.nodes) = none := by
      cases hn : w.nodes with
      | nil => rw [hn] at hl; cases hl
      | cons n r => simp only [ndsK, List.mapIdx_cons]; rfl
    simp only [bor, h, arrK, hf, hd]
  show AV.w (.g [cI w.ep, bor H (some 4) (.ow kN), .c (vsF w.log), cI w.bad]) = _
  rw [hb]; rfl
def newW (bad : Int) : Wo := ⟨0, [⟨1, 0, 0, []⟩, ⟨2, 0, 0, []⟩, ⟨3, 0, 0, []⟩, ⟨4, 0, 0, []⟩], [], bad⟩
/-- Nodes as they are drawn, some spoilt. -/
def DrN (n : Nd) : Prop := n.seen.length ≤ 81 ∧ (∀ v, v ∈ n.seen → v.c.length ≤ 16) ∧ In n.ep 0 30
theorem DrN.fit {n : Nd} (h : DrN n) : FitVs n.seen := ⟨Nat.le_trans h.1 (by decide), fun v hv => Nat.le_trans (h.2.1 v hv) (by decide)⟩
theorem DrN.lt {n : Nd} (h : DrN n) : n.seen.length < LIM := Nat.lt_of_le_of_lt h.1 (by decide)
/-! ### worlds that are written -/
def S_spec_NodeNew : MSpec := mkN (α := Int) (fun i => [I i]) (fun i => In i 1 4) (fun i r obs' => r = .tup [.g (ndK ⟨i, 0, 0, []⟩ 0), .o (cB true)] ∧ obs' = [some (tokO [])]) 0
  (fun i _ => ⟨_, _, ⟨rfl, rfl⟩, fun c hc => by
    simp only [List.mem_cons, List.not_mem_nil, or_false] at hc
    rcases hc with rfl | rfl
    · exact okNd Nat.one_pos
    · trivial, ok_sg trivial⟩) (fun b r obs' ⟨_, h⟩ => by rw [h]; simp)
theorem K_spec_NodeNew {i : Int} {r : AV} {obs' : List (Option Ob)} (h : S_spec_NodeNew.post [I i] [] r obs') : r = .tup [.g (ndK ⟨i, 0, 0, []⟩ 0), .o (cB true)] ∧ obs' = [some (tokO [])] :=
  mkN_post (enc := fun i => [I i]) (a := i) (R := fun i r obs' => r = .tup [.g (ndK ⟨i, 0, 0, []⟩ 0), .o (cB true)] ∧ obs' = [some (tokO [])]) (fun _ _ h => by simpa only [List.cons.injEq, and_true, aI_inj] using h) h
theorem okArr {D : Nat → Prop} {f : Nat → Nat} {ns : List Nd} (hl : ns.length = 4) (h : ∀ i, i < 4 → D (f (i + 1))) : okOb D (arrK f ns) := by
  intro x hx c hc
  obtain ⟨i, hi⟩ := List.mem_iff_getElem?.1 hx
  rw [ndsK_get] at hi
  cases hn : ns[i]? with
  | none => rw [hn] at hi; cases hi
  | some n =>
    rw [hn] at hi
    cases hi
    have hlt := (List.getElem?_eq_some_iff.1 hn).1
    exact okNd (n := n) (k := f (i + 1)) (h i (by omega)) c hc
def RNew (bad : Int) (r : AV) (obs' : List (Option Ob)) : Prop := r = .tup [.g (wvC (newW bad) 0 stdF), .o (cB true)] ∧ obs' = (obsW (newW bad)).map some
def S_spec_WorldNew : MSpec := mkN (α := Int) (fun i => [I i]) (fun i => In i 0 4) RNew 0 (fun i _ => ⟨_, _, ⟨rfl, rfl⟩, fun c hc => by
    simp only [List.mem_cons, List.not_mem_nil, or_false] at hc
    rcases hc with rfl | rfl
    · intro c hc
      simp only [wvC, List.mem_cons, List.not_mem_nil, or_false] at hc
      rcases hc with rfl | rfl | rfl | rfl
      · trivial
      · show 0 < 6; decide
      · show 1 < 6; decide
      · trivial
    · trivial, fun j ob h => by
    match j, h with
    | 0, h => cases h; exact okArr rfl fun k hk => (by show k + 1 + 1 < 6; omega)
    | 1, h => cases h; trivial
    | 2, h => cases h; trivial
    | 3, h => cases h; trivial
    | 4, h => cases h; trivial
    | 5, h => cases h; trivial
    | j + 6, h => simp [obsW] at h⟩) (fun b r obs' ⟨_, h⟩ => by rw [h]; simp [obsW])
theorem K_spec_WorldNew {i : Int} {r : AV} {obs' : List (Option Ob)} (h : S_spec_WorldNew.post [I i] [] r obs') : RNew i r obs' :=
  mkN_post (enc := fun i => [I i]) (a := i) (R := RNew) (fun _ _ h => by simpa only [List.cons.injEq, and_true, aI_inj] using h) h
end Av
end Go.Proofs.Ytfijfccgghhkoaa
