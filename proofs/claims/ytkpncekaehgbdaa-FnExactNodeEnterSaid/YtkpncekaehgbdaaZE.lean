/- The contracts of the reference's functions on nodes: a node's votes are frozen, with the right to append. -/
import Derived.Test.YtkpncekaehgbdaaZA
set_option linter.unusedVariables false
set_option linter.unusedSimpArgs false
namespace Go.Proofs.Ytkpncekaehgbdaa
namespace Av
open Go.RowKit
/-- Votes that may be appended to. -/
abbrev tkC (k : Nat) (l : List Vo) : AC := .tk k 2 (l.map voF)
def tokO (l : List Vo) : Ob := .tok ty_impl_Vote 2 (l.map voF).length
def ndK (n : Nd) (k : Nat) : List AC := [cI n.id, cI n.ep, cI n.vt, tkC k n.seen]
theorem tkC_inj {k j : Nat} {l m : List Vo} (h : tkC k l = tkC j m) : k = j ∧ l = m := by
  obtain ⟨h1, _, h2⟩ := AC.tk.inj h
  exact ⟨h1, map_inj' (fun _ _ => voF_inj.1) h2⟩
theorem ndK_inj {n m : Nd} {k j : Nat} (h : ndK n k = ndK m j) : n = m ∧ k = j := by
  obtain ⟨a, b, c, d⟩ := n; obtain ⟨a', b', c', d'⟩ := m
  simp only [ndK, List.cons.injEq, and_true, AC.c.injEq, FV.v.injEq, Value.int.injEq, true_and] at h
  obtain ⟨rfl, rfl, rfl, h⟩ := h
  obtain ⟨rfl, rfl⟩ := tkC_inj h
  exact ⟨rfl, rfl⟩
theorem okNd {n : Nd} {k : Nat} {D : Nat → Prop} (h : D k) : ∀ c, c ∈ ndK n k → okC D c := by
  intro c hc
  simp only [ndK, List.mem_cons, List.not_mem_nil, or_false] at hc
  rcases hc with rfl | rfl | rfl | rfl
  · trivial
  · trivial
  · trivial
  · exact h
def SeenB (l : List Vo) : Prop := l.length ≤ 80 ∧ ∀ v, v ∈ l → VoteOk v
theorem SeenB.fit {l : List Vo} (h : SeenB l) : FitVs l := ⟨Nat.le_trans h.1 (by decide), fun v hv => Nat.le_trans (h.2 v hv).2.2.2 (by decide)⟩
theorem SeenB.lt {l : List Vo} (h : SeenB l) : l.length < LIM := Nat.lt_of_le_of_lt h.1 (by decide)
def SM_spec_l3Copy : MSpec := mkN (α := List Vo) (fun l => [one (vsF l)]) FitVs (fun l r obs' => r = .w (.o (tkC 0 l)) ∧ obs' = [some (tokO l)]) 0
  (fun l _ => ⟨_, _, ⟨rfl, rfl⟩, Nat.one_pos, ok_sg trivial⟩) (fun b r obs' ⟨_, h⟩ => by rw [h]; simp)
theorem KM_spec_l3Copy {l : List Vo} {r : AV} {obs' : List (Option Ob)} (h : SM_spec_l3Copy.post [one (vsF l)] [] r obs') : r = .w (.o (tkC 0 l)) ∧ obs' = [some (tokO l)] :=
  mkN_post (enc := fun b => [one (vsF b)]) (a := l) (R := fun l r obs' => r = .w (.o (tkC 0 l)) ∧ obs' = [some (tokO l)]) (fun _ _ h => by simpa only [List.cons.injEq, and_true, one_inj, vsF_inj] using h) h
def S_spec_l12Copy : MSpec := mkN (α := Nd) (fun n => [agg (ndF n)]) (fun n => FitVs n.seen) (fun n r obs' => r = .w (.g (ndK n 0)) ∧ obs' = [some (tokO n.seen)]) 0
  (fun l _ => ⟨_, _, ⟨rfl, rfl⟩, okNd Nat.one_pos, ok_sg trivial⟩) (fun b r obs' ⟨_, h⟩ => by rw [h]; simp)
theorem K_spec_l12Copy {n : Nd} {r : AV} {obs' : List (Option Ob)} (h : S_spec_l12Copy.post [agg (ndF n)] [] r obs') : r = .w (.g (ndK n 0)) ∧ obs' = [some (tokO n.seen)] :=
  mkN_post (enc := fun b => [agg (ndF b)]) (a := n) (R := fun n r obs' => r = .w (.g (ndK n 0)) ∧ obs' = [some (tokO n.seen)]) (fun _ _ h => by simpa only [List.cons.injEq, and_true, agg_inj, ndF_inj] using h) h
/-- A node in, the same with another epoch out. -/
def S_spec_l12Enter0 : MSpec := mkM (α := Nd × Int) (fun a => [.w (.g (ndK a.1 0)), I a.2]) (fun a => [tokO a.1.seen]) (fun a => In a.1.ep (-100) 100) (fun a r obs' => r = .w (.g (ndK (entN a.1 a.2) 0)) ∧ obs' = [some (tokO a.1.seen)]) 0
  (fun l _ => ⟨_, _, ⟨rfl, rfl⟩, okNd Nat.one_pos, ok_sg trivial⟩) (fun b r obs' ⟨_, h⟩ => by rw [h]; exact ⟨by simp, by simp⟩)
theorem l12Enter_tok {args : List AV} {obs : List Ob} {r : AV} {obs' : List (Option Ob)} (h : S_spec_l12Enter0.post args obs r obs') : ∃ l : List Vo, obs' = [some (tokO l)] := by
  obtain ⟨a, _, _, _, h⟩ := h; exact ⟨_, h⟩
def S_spec_l12Enter : MSpec := { S_spec_l12Enter0 with
  ar := true
  har := fun _ args obs r obs' h j cs e => by
    obtain ⟨l, rfl⟩ := l12Enter_tok h
    cases j with
    | zero => cases e
    | succ j => simp at e
  ta := true
  hta := fun _ => ⟨fun args obs ⟨a, _, h, _⟩ j ob e => by
    rw [h] at e
    cases j with
    | zero => cases e; exact ⟨_, _, _, rfl⟩
    | succ j => simp at e, fun args obs r obs' h j ob e => by
    obtain ⟨l, rfl⟩ := l12Enter_tok h
    cases j with
    | zero => cases e; exact ⟨_, _, _, rfl⟩
    | succ j => simp at e⟩ }
theorem K_spec_l12Enter {n : Nd} {e : Int} {r : AV} {obs' : List (Option Ob)} (h : S_spec_l12Enter.post [.w (.g (ndK n 0)), I e] [tokO n.seen] r obs') : r = .w (.g (ndK (entN n e) 0)) ∧ obs' = [some (tokO n.seen)] :=
  mkM_post (enc := fun a : Nd × Int => [.w (.g (ndK a.1 0)), I a.2]) (ob := fun a => [tokO a.1.seen]) (a := (n, e)) (R := fun (a : Nd × Int) r obs' => r = .w (.g (ndK (entN a.1 a.2) 0)) ∧ obs' = [some (tokO a.1.seen)]) (fun a b h _ => by
    obtain ⟨x, y⟩ := a; obtain ⟨z, w⟩ := b
    obtain ⟨h1, h2⟩ := List.cons.inj h
    have e1 := (ndK_inj (AW.g.inj (AV.w.inj h1))).1
    have e2 := aI_inj.1 (List.cons.inj h2).1
    dsimp only at e1 e2
    rw [e1, e2]) (show S_spec_l12Enter0.post [.w (.g (ndK n 0)), I e] [tokO n.seen] r obs' from h)
end Av
end Go.Proofs.Ytkpncekaehgbdaa
