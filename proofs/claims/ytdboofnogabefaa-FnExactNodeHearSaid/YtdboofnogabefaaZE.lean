/- The contracts of the reference's functions on nodes: a node's votes are frozen, with the right to append. -/
import Derived.Test.YtdboofnogabefaaZA
set_option linter.unusedVariables false
set_option linter.unusedSimpArgs false
namespace Go.Proofs.Ytdboofnogabefaa
namespace Av
open Go.RowKit
/-- Votes that may be appended to. -/
abbrev tkC (k : Nat) (l : List Vo) : AC := .tk k 2 (l.map voF)
def tokO (l : List Vo) : Ob := .tok ty_impl_Vote 2 (l.map voF).length
def ndK (n : Nd) (k : Nat) : List AC := [cI n.id, cI n.ep, cI n.vt, tkC k n.seen]
theorem tkC_inj {k j : Nat} {l m : List Vo} (h : tkC k l = tkC j m) : k = j ∧ l = m := by
  obtain ⟨h1, _, h2⟩ := AC.tk.inj h
  exact ⟨h1, map_inj' (fun _ _ => voF_inj.1) h2⟩
theorem ndK_inj {n m : Nd} {k j : Nat} (h : ndK n k = ndK m j) : n = m ∧ k = j := by
  obtain ⟨a, b, c, d⟩ := n; obtain ⟨a', b', c', d'⟩ := m
  simp only [ndK, List.cons.injEq, and_true, AC.c.injEq, FV.v.injEq, Value.int.injEq, true_and] at h
  obtain ⟨rfl, rfl, rfl, h⟩ := h
  obtain ⟨rfl, rfl⟩ := tkC_inj h
  exact ⟨rfl, rfl⟩
def tripK (o : Tri) (k : Nat) : AV := .tup [.g (ndK o.1 k), .g ((voF o.2.1).map AC.c), .o (cB o.2.2)]
theorem tripK_ren (o : Tri) (k : Nat) (ρ : Nat → Nat) : (tripK o k).ren ρ = tripK o (ρ k) := rfl
/-- A node in, a node (and a vote, and whether) out. -/
def RT (n : Nd) (o : Tri) (r : AV) (obs' : List (Option Ob)) : Prop :=
  (o.1.seen = n.seen ∧ r = tripK o 0 ∧ obs' = [some (tokO n.seen)]) ∨ (r = tripK o 1 ∧ obs' = [none, some (tokO o.1.seen)])
theorem okNd {n : Nd} {k : Nat} {D : Nat → Prop} (h : D k) : ∀ c, c ∈ ndK n k → okC D c := by
  intro c hc
  simp only [ndK, List.mem_cons, List.not_mem_nil, or_false] at hc
  rcases hc with rfl | rfl | rfl | rfl
  · trivial
  · trivial
  · trivial
  · exact h
theorem okTr {o : Tri} {k : Nat} {D : Nat → Prop} (h : D k) : okV D (tripK o k) := by
  intro c hc
  simp only [List.mem_cons, List.not_mem_nil, or_false] at hc
  rcases hc with rfl | rfl | rfl
  · exact okNd h
  · intro c hc
    obtain ⟨y, _, rfl⟩ := List.mem_map.1 hc; trivial
  · trivial
theorem ok_n1 {D : Nat → Prop} {o : Ob} (h1 : okOb D o) : ∀ (j : Nat) ob, [none, some o][j]? = some (some ob) → okOb D ob
  | 0, ob, h => by cases h
  | 1, ob, h => by cases h; exact h1
  | j + 2, ob, h => by simp at h
def mkT {α : Type} (nd : α → Nd) (enc : α → List AV) (p : α → Prop) (out : α → Tri) : MSpec := mkM (fun a => .w (.g (ndK (nd a) 0)) :: enc a) (fun a => [tokO (nd a).seen]) p (fun a r obs' => RT (nd a) (out a) r obs') 0
  (fun a _ => ⟨_, _, .inr ⟨rfl, rfl⟩, okTr (show 1 < 2 by decide), ok_n1 trivial⟩)
  (fun a r obs' h => by rcases h with ⟨_, _, rfl⟩ | ⟨_, rfl⟩ <;> exact ⟨by simp, by simp⟩)
theorem mkT_post {α : Type} {nd : α → Nd} {enc : α → List AV} {p : α → Prop} {out : α → Tri} (hinj : ∀ a b, nd a = nd b → enc a = enc b → a = b) {a : α} {r : AV} {obs' : List (Option Ob)}
    (h : (mkT nd enc p out).post (.w (.g (ndK (nd a) 0)) :: enc a) [tokO (nd a).seen] r obs') : RT (nd a) (out a) r obs' :=
  mkM_post (enc := fun a => .w (.g (ndK (nd a) 0)) :: enc a) (ob := fun a => [tokO (nd a).seen]) (R := fun a r obs' => RT (nd a) (out a) r obs') (fun a b h _ => by
    obtain ⟨h1, h2⟩ := List.cons.inj h
    exact hinj a b (ndK_inj (AW.g.inj (AV.w.inj h1))).1 h2) h
def SeenB (l : List Vo) : Prop := l.length ≤ 80 ∧ ∀ v, v ∈ l → VoteOk v
theorem SeenB.fit {l : List Vo} (h : SeenB l) : FitVs l := ⟨Nat.le_trans h.1 (by decide), fun v hv => Nat.le_trans (h.2 v hv).2.2.2 (by decide)⟩
theorem SeenB.lt {l : List Vo} (h : SeenB l) : l.length < LIM := Nat.lt_of_le_of_lt h.1 (by decide)
/-- Nodes as they are drawn, or are ok. -/
def NdB (n : Nd) : Prop := In n.id 1 4 ∧ In n.ep 0 30 ∧ SeenB n.seen
theorem NodeOk.ndb {n : Nd} (h : NodeOk n) : NdB n := ⟨h.1, h.2.1, h.2.2.2.1, fun v hv => h.2.2.2.2.1.ok' hv⟩
/-- Such votes, and one more. -/
def SM_spec_l3Add : MSpec := mkM (α := List Vo × Vo) (fun a => [.w (.o (tkC 0 a.1)), agg (voF a.2)]) (fun a => [tokO a.1]) (fun a => FitVs a.1 ∧ FitV a.2 ∧ a.1.length < LIM)
  (fun a r obs' => (a.2 ∈ a.1 ∧ r = .tup [.o (tkC 0 a.1), .o (cB false)] ∧ obs' = [some (tokO a.1)]) ∨ (a.2 ∉ a.1 ∧ r = .tup [.o (tkC 1 (a.1 ++ [a.2])), .o (cB true)] ∧ obs' = [none, some (tokO (a.1 ++ [a.2]))])) 0
  (fun a _ => by
    by_cases h : a.2 ∈ a.1
    · refine ⟨_, _, .inl ⟨h, rfl, rfl⟩, fun c hc => ?_, ok_sg trivial⟩
      simp only [List.mem_cons, List.not_mem_nil, or_false] at hc
      rcases hc with rfl | rfl
      · exact Nat.one_pos
      · trivial
    · refine ⟨_, _, .inr ⟨h, rfl, rfl⟩, fun c hc => ?_, ok_n1 trivial⟩
      simp only [List.mem_cons, List.not_mem_nil, or_false] at hc
      rcases hc with rfl | rfl
      · exact (show 1 < 2 by decide)
      · trivial)
  (fun a r obs' h => by rcases h with ⟨_, _, rfl⟩ | ⟨_, _, rfl⟩ <;> exact ⟨by simp, by simp⟩)
theorem KM_spec_l3Add {l : List Vo} {v : Vo} {r : AV} {obs' : List (Option Ob)} (h : SM_spec_l3Add.post [.w (.o (tkC 0 l)), agg (voF v)] [tokO l] r obs') :
    (v ∈ l ∧ r = .tup [.o (tkC 0 l), .o (cB false)] ∧ obs' = [some (tokO l)]) ∨ (v ∉ l ∧ r = .tup [.o (tkC 1 (l ++ [v])), .o (cB true)] ∧ obs' = [none, some (tokO (l ++ [v]))]) :=
  mkM_post (enc := fun a : List Vo × Vo => [.w (.o (tkC 0 a.1)), agg (voF a.2)]) (ob := fun a => [tokO a.1]) (a := (l, v))
    (R := fun (a : List Vo × Vo) r obs' => (a.2 ∈ a.1 ∧ r = .tup [.o (tkC 0 a.1), .o (cB false)] ∧ obs' = [some (tokO a.1)]) ∨ (a.2 ∉ a.1 ∧ r = .tup [.o (tkC 1 (a.1 ++ [a.2])), .o (cB true)] ∧ obs' = [none, some (tokO (a.1 ++ [a.2]))]))
    (fun a b h _ => by
      obtain ⟨x, y⟩ := a; obtain ⟨z, w⟩ := b
      obtain ⟨h1, h2⟩ := List.cons.inj h
      have e1 := (tkC_inj (AW.o.inj (AV.w.inj h1))).2
      have e2 := voF_inj.1 (agg_inj.1 (List.cons.inj h2).1)
      dsimp only at e1 e2
      rw [e1, e2]) h
def SM_spec_l3Copy : MSpec := mkN (α := List Vo) (fun l => [one (vsF l)]) FitVs (fun l r obs' => r = .w (.o (tkC 0 l)) ∧ obs' = [some (tokO l)]) 0
  (fun l _ => ⟨_, _, ⟨rfl, rfl⟩, Nat.one_pos, ok_sg trivial⟩) (fun b r obs' ⟨_, h⟩ => by rw [h]; simp)
theorem KM_spec_l3Copy {l : List Vo} {r : AV} {obs' : List (Option Ob)} (h : SM_spec_l3Copy.post [one (vsF l)] [] r obs') : r = .w (.o (tkC 0 l)) ∧ obs' = [some (tokO l)] :=
  mkN_post (enc := fun b => [one (vsF b)]) (a := l) (R := fun l r obs' => r = .w (.o (tkC 0 l)) ∧ obs' = [some (tokO l)]) (fun _ _ h => by simpa only [List.cons.injEq, and_true, one_inj, vsF_inj] using h) h
def S_spec_l12Copy : MSpec := mkN (α := Nd) (fun n => [agg (ndF n)]) (fun n => FitVs n.seen) (fun n r obs' => r = .w (.g (ndK n 0)) ∧ obs' = [some (tokO n.seen)]) 0
  (fun l _ => ⟨_, _, ⟨rfl, rfl⟩, okNd Nat.one_pos, ok_sg trivial⟩) (fun b r obs' ⟨_, h⟩ => by rw [h]; simp)
theorem K_spec_l12Copy {n : Nd} {r : AV} {obs' : List (Option Ob)} (h : S_spec_l12Copy.post [agg (ndF n)] [] r obs') : r = .w (.g (ndK n 0)) ∧ obs' = [some (tokO n.seen)] :=
  mkN_post (enc := fun b => [agg (ndF b)]) (a := n) (R := fun n r obs' => r = .w (.g (ndK n 0)) ∧ obs' = [some (tokO n.seen)]) (fun _ _ h => by simpa only [List.cons.injEq, and_true, agg_inj, ndF_inj] using h) h
def S_spec_l12Vote : MSpec := mkT (α := Nd × List It) (fun a => a.1) (fun a => [one (chF a.2)]) (fun a => FitVs a.1.seen ∧ a.2.length ≤ LIM) (fun a => voteN a.1 a.2)
theorem K_spec_l12Vote {n : Nd} {c : List It} {r : AV} {obs' : List (Option Ob)} (h : S_spec_l12Vote.post [.w (.g (ndK n 0)), one (chF c)] [tokO n.seen] r obs') : RT n (voteN n c) r obs' :=
  mkT_post (nd := fun a : Nd × List It => a.1) (enc := fun a => [one (chF a.2)]) (out := fun a => voteN a.1 a.2) (a := (n, c)) (by rintro ⟨a, b⟩ ⟨a', b'⟩ rfl h; simp only [List.cons.injEq, and_true, one_inj, chF_inj] at h; rw [h]) h
noncomputable def S_spec_l12Try : MSpec := mkT (α := Nd) (fun a => a) (fun a => []) (fun a => NdB a) (fun a => tryN true a)
theorem K_spec_l12Try {n : Nd} {r : AV} {obs' : List (Option Ob)} (h : S_spec_l12Try.post [.w (.g (ndK n 0))] [tokO n.seen] r obs') : RT n (tryN true n) r obs' :=
  mkT_post (nd := fun a : Nd => a) (enc := fun a => []) (out := fun a => tryN true a) (a := n) (by rintro a b rfl _; rfl) h
noncomputable def S_spec_l12Hear : MSpec := mkT (α := Nd × Vo) (fun a => a.1) (fun a => [agg (voF a.2)]) (fun a => NdB a.1 ∧ FitV a.2) (fun a => hearN true a.1 a.2)
theorem K_spec_l12Hear {n : Nd} {c : Vo} {r : AV} {obs' : List (Option Ob)} (h : S_spec_l12Hear.post [.w (.g (ndK n 0)), agg (voF c)] [tokO n.seen] r obs') : RT n (hearN true n c) r obs' :=
  mkT_post (nd := fun a : Nd × Vo => a.1) (enc := fun a => [agg (voF a.2)]) (out := fun a => hearN true a.1 a.2) (a := (n, c)) (by rintro ⟨a, b⟩ ⟨a', b'⟩ rfl h; simp only [List.cons.injEq, and_true, agg_inj, voF_inj] at h; rw [h]) h
def FitsM (n : Nd) (v : Vo) (k : Int) : Prop := v.n = lead n.ep ∧ lastE v = n.ep ∧ ((v.c.length - 1 : Nat) : Int) = k ∧ SureM n.seen (v.c.take (v.c.length - 1))
noncomputable def S_spec_l12Fits : FSpec := tF (α := (Nd) × (Vo) × (Int)) (fun a => [agg (ndF a.1), agg (voF a.2.1), I a.2.2]) (fun a => FitVs a.1.seen ∧ FitV a.2.1 ∧ 0 < a.2.1.c.length ∧ In a.1.ep 0 100) (fun a => FitsM a.1 a.2.1 a.2.2) (fun _ => rfl)
theorem K_spec_l12Fits {a : (Nd) × (Vo) × (Int)} {r : AV} (h : S_spec_l12Fits.post ([agg (ndF a.1), agg (voF a.2.1), I a.2.2]) r) : (FitsM a.1 a.2.1 a.2.2 ∧ r = B true) ∨ (¬ (FitsM a.1 a.2.1 a.2.2) ∧ r = B false) :=
  tF_post (hcl := fun _ => rfl) (a := a) (by rintro ⟨x0, x1, x2⟩ ⟨y0, y1, y2⟩ h; simp only [List.cons.injEq, and_true, true_and, one_inj, agg_inj, paF_inj, itF_inj, chF_inj, voF_inj, vsF_inj, csF_inj, nsF_inj, nssF_inj, ndF_inj, ceF_inj, woF_inj, evF_inj, byF_inj, ndsF_inj, evsF_inj, pasF_inj, aI_inj, aB_inj, aRp_inj, fI_inj, fBo_inj] at h; obtain ⟨rfl, rfl, rfl⟩ := h; rfl) h
end Av
end Go.Proofs.Ytdboofnogabefaa
