/- Texts of the layer, joined. -/
import Derived.Test.YtlbdoamidblkaaaZA
import Derived.Test.YtlbdoamidblkaaaJ3
import Derived.Laws.StructEq
set_option linter.unusedVariables false
set_option linter.unusedSimpArgs false
namespace Go.Proofs.Ytlbdoamidblkaaa
namespace Av
open Go.RowKit
/-- Votes that may be appended to. -/
abbrev tkC (k : Nat) (l : List Vo) : AC := .tk k 2 (l.map voF)
def tokO (l : List Vo) : Ob := .tok ty_impl_Vote 2 (l.map voF).length
def ndK (n : Nd) (k : Nat) : List AC := [cI n.id, cI n.ep, cI n.vt, tkC k n.seen]
theorem tkC_inj {k j : Nat} {l m : List Vo} (h : tkC k l = tkC j m) : k = j ∧ l = m := by
  obtain ⟨h1, _, h2⟩ := AC.tk.inj h
  exact ⟨h1, map_inj' (fun _ _ => voF_inj.1) h2⟩
theorem ndK_inj {n m : Nd} {k j : Nat} (h : ndK n k = ndK m j) : n = m ∧ k = j := by
  obtain ⟨a, b, c, d⟩ := n; obtain ⟨a', b', c', d'⟩ := m
  simp only [ndK, List.cons.injEq, and_true, AC.c.injEq, FV.v.injEq, Value.int.injEq, true_and] at h
  obtain ⟨rfl, rfl, rfl, h⟩ := h
  obtain ⟨rfl, rfl⟩ := tkC_inj h
  exact ⟨rfl, rfl⟩
def tripK (o : Tri) (k : Nat) : AV := .tup [.g (ndK o.1 k), .g ((voF o.2.1).map AC.c), .o (cB o.2.2)]
theorem tripK_ren (o : Tri) (k : Nat) (ρ : Nat → Nat) : (tripK o k).ren ρ = tripK o (ρ k) := rfl
/-- A node in, a node (and a vote, and whether) out. -/
def RT (n : Nd) (o : Tri) (r : AV) (obs' : List (Option Ob)) : Prop :=
  (o.1.seen = n.seen ∧ r = tripK o 0 ∧ obs' = [some (tokO n.seen)]) ∨ (r = tripK o 1 ∧ obs' = [none, some (tokO o.1.seen)])
theorem okNd {n : Nd} {k : Nat} {D : Nat → Prop} (h : D k) : ∀ c, c ∈ ndK n k → okC D c := by
  intro c hc
  simp only [ndK, List.mem_cons, List.not_mem_nil, or_false] at hc
  rcases hc with rfl | rfl | rfl | rfl
  · trivial
  · trivial
  · trivial
  · exact h
theorem okTr {o : Tri} {k : Nat} {D : Nat → Prop} (h : D k) : okV D (tripK o k) := by
  intro c hc
  simp only [List.mem_cons, List.not_mem_nil, or_false] at hc
  rcases hc with rfl | rfl | rfl
  · exact okNd h
  · intro c hc
    obtain ⟨y, _, rfl⟩ := List.mem_map.1 hc; trivial
  · trivial
theorem ok_n1 {D : Nat → Prop} {o : Ob} (h1 : okOb D o) : ∀ (j : Nat) ob, [none, some o][j]? = some (some ob) → okOb D ob
  | 0, ob, h => by cases h
  | 1, ob, h => by cases h; exact h1
  | j + 2, ob, h => by simp at h
def mkT {α : Type} (nd : α → Nd) (enc : α → List AV) (p : α → Prop) (out : α → Tri) : MSpec := mkM (fun a => .w (.g (ndK (nd a) 0)) :: enc a) (fun a => [tokO (nd a).seen]) p (fun a r obs' => RT (nd a) (out a) r obs') 0
  (fun a _ => ⟨_, _, .inr ⟨rfl, rfl⟩, okTr (show 1 < 2 by decide), ok_n1 trivial⟩)
  (fun a r obs' h => by rcases h with ⟨_, _, rfl⟩ | ⟨_, rfl⟩ <;> exact ⟨by simp, by simp⟩)
theorem mkT_post {α : Type} {nd : α → Nd} {enc : α → List AV} {p : α → Prop} {out : α → Tri} (hinj : ∀ a b, nd a = nd b → enc a = enc b → a = b) {a : α} {r : AV} {obs' : List (Option Ob)}
    (h : (mkT nd enc p out).post (.w (.g (ndK (nd a) 0)) :: enc a) [tokO (nd a).seen] r obs') : RT (nd a) (out a) r obs' :=
  mkM_post (enc := fun a => .w (.g (ndK (nd a) 0)) :: enc a) (ob := fun a => [tokO (nd a).seen]) (R := fun a r obs' => RT (nd a) (out a) r obs') (fun a b h _ => by
    obtain ⟨h1, h2⟩ := List.cons.inj h
    exact hinj a b (ndK_inj (AW.g.inj (AV.w.inj h1))).1 h2) h
def SeenB (l : List Vo) : Prop := l.length ≤ 80 ∧ ∀ v, v ∈ l → VoteOk v
theorem SeenB.fit {l : List Vo} (h : SeenB l) : FitVs l := ⟨Nat.le_trans h.1 (by decide), fun v hv => Nat.le_trans (h.2 v hv).2.2.2 (by decide)⟩
theorem SeenB.lt {l : List Vo} (h : SeenB l) : l.length < LIM := Nat.lt_of_le_of_lt h.1 (by decide)
/-- Nodes azz they are drawn, or are ok. -/
def NdB (n : Nd) : Prop := In n.id 1 4 ∧ In n.ep 0 30 ∧ SeenB n.seen
theorem NodeOk.ndb {n : Nd} (h : NodeOk n) : NdB n := ⟨h.1, h.2.1, h.2.2.2.1, fun v hv => h.2.2.2.2.1.ok' hv⟩
/-- Such votes, and one more. -/
def SM_spec_l3Add : MSpec := mkM (α := List Vo × Vo) (fun a => [.w (.o (tkC 0 a.1)), agg (voF a.2)]) (fun a => [tokO a.1]) (fun a => FitVs a.1 ∧ FitV a.2 ∧ a.1.length < LIM)
  (fun a r obs' => (a.2 ∈ a.1 ∧ r = .tup [.o (tkC 0 a.1), .o (cB false)] ∧ obs' = [some (tokO a.1)]) ∨ (a.2 ∉ a.1 ∧ r = .tup [.o (tkC 1 (a.1 ++ [a.2])), .o (cB true)] ∧ obs' = [none, some (tokO (a.1 ++ [a.2]))])) 0
  (fun a _ => by
    by_cases h : a.2 ∈ a.1
    · refine ⟨_, _, .inl ⟨h, rfl, rfl⟩, fun c hc => ?_, ok_sg trivial⟩
      simp only [List.mem_cons, List.not_mem_nil, or_false] at hc
      rcases hc with rfl | rfl
      · exact Nat.one_pos
      · trivial
    · refine ⟨_, _, .inr ⟨h, rfl, rfl⟩, fun c hc => ?_, ok_n1 trivial⟩
      simp only [List.mem_cons, List.not_mem_nil, or_false] at hc
      rcases hc with rfl | rfl
      · exact (show 1 < 2 by decide)
      · trivial)
  (fun a r obs' h => by rcases h with ⟨_, _, rfl⟩ | ⟨_, _, rfl⟩ <;> exact ⟨by simp, by simp⟩)
theorem KM_spec_l3Add {l : List Vo} {v : Vo} {r : AV} {obs' : List (Option Ob)} (h : SM_spec_l3Add.post [.w (.o (tkC 0 l)), agg (voF v)] [tokO l] r obs') :
    (v ∈ l ∧ r = .tup [.o (tkC 0 l), .o (cB false)] ∧ obs' = [some (tokO l)]) ∨ (v ∉ l ∧ r = .tup [.o (tkC 1 (l ++ [v])), .o (cB true)] ∧ obs' = [none, some (tokO (l ++ [v]))]) :=
  mkM_post (enc := fun a : List Vo × Vo => [.w (.o (tkC 0 a.1)), agg (voF a.2)]) (ob := fun a => [tokO a.1]) (a := (l, v))
    (R := fun (a : List Vo × Vo) r obs' => (a.2 ∈ a.1 ∧ r = .tup [.o (tkC 0 a.1), .o (cB false)] ∧ obs' = [some (tokO a.1)]) ∨ (a.2 ∉ a.1 ∧ r = .tup [.o (tkC 1 (a.1 ++ [a.2])), .o (cB true)] ∧ obs' = [none, some (tokO (a.1 ++ [a.2]))]))
    (fun a b h _ => by
      obtain ⟨x, y⟩ := a; obtain ⟨z, w⟩ := b
      obtain ⟨h1, h2⟩ := List.cons.inj h
      have e1 := (tkC_inj (AW.o.inj (AV.w.inj h1))).2
      have e2 := voF_inj.1 (agg_inj.1 (List.cons.inj h2).1)
      dsimp only at e1 e2
      rw [e1, e2]) h
/-- A node in, the same with another epoch out. -/
def S_spec_l12Enter0 : MSpec := mkM (α := Nd × Int) (fun a => [.w (.g (ndK a.1 0)), I a.2]) (fun a => [tokO a.1.seen]) (fun a => In a.1.ep (-100) 100) (fun a r obs' => r = .w (.g (ndK (entN a.1 a.2) 0)) ∧ obs' = [some (tokO a.1.seen)]) 0
  (fun l _ => ⟨_, _, ⟨rfl, rfl⟩, okNd Nat.one_pos, ok_sg trivial⟩) (fun b r obs' ⟨_, h⟩ => by rw [h]; exact ⟨by simp, by simp⟩)
theorem l12Enter_tok {args : List AV} {obs : List Ob} {r : AV} {obs' : List (Option Ob)} (h : S_spec_l12Enter0.post args obs r obs') : ∃ l : List Vo, obs' = [some (tokO l)] := by
  obtain ⟨a, _, _, _, h⟩ := h; exact ⟨_, h⟩
def S_spec_l12Enter : MSpec := { S_spec_l12Enter0 with
  ar := true
  har := fun _ args obs r obs' h j cs e => by
    obtain ⟨l, rfl⟩ := l12Enter_tok h
    cases j with
    | zero => cases e
    | succ j => simp at e
  ta := true
  hta := fun _ => ⟨fun args obs ⟨a, _, h, _⟩ j ob e => by
    rw [h] at e
    cases j with
    | zero => cases e; exact ⟨_, _, _, rfl⟩
    | succ j => simp at e, fun args obs r obs' h j ob e => by
    obtain ⟨l, rfl⟩ := l12Enter_tok h
    cases j with
    | zero => cases e; exact ⟨_, _, _, rfl⟩
    | succ j => simp at e⟩ }
theorem K_spec_l12Enter {n : Nd} {e : Int} {r : AV} {obs' : List (Option Ob)} (h : S_spec_l12Enter.post [.w (.g (ndK n 0)), I e] [tokO n.seen] r obs') : r = .w (.g (ndK (entN n e) 0)) ∧ obs' = [some (tokO n.seen)] :=
  mkM_post (enc := fun a : Nd × Int => [.w (.g (ndK a.1 0)), I a.2]) (ob := fun a => [tokO a.1.seen]) (a := (n, e)) (R := fun (a : Nd × Int) r obs' => r = .w (.g (ndK (entN a.1 a.2) 0)) ∧ obs' = [some (tokO a.1.seen)]) (fun a b h _ => by
    obtain ⟨x, y⟩ := a; obtain ⟨z, w⟩ := b
    obtain ⟨h1, h2⟩ := List.cons.inj h
    have e1 := (ndK_inj (AW.g.inj (AV.w.inj h1))).1
    have e2 := aI_inj.1 (List.cons.inj h2).1
    dsimp only at e1 e2
    rw [e1, e2]) (show S_spec_l12Enter0.post [.w (.g (ndK n 0)), I e] [tokO n.seen] r obs' from h)
theorem entN_seen (n : Nd) (e : Int) : (entN n e).seen = n.seen := by unfold entN; split <;> rfl
def S_spec_l12Vote : MSpec := mkT (α := Nd × List It) (fun a => a.1) (fun a => [one (chF a.2)]) (fun a => FitVs a.1.seen ∧ a.2.length ≤ LIM) (fun a => voteN a.1 a.2)
theorem K_spec_l12Vote {n : Nd} {c : List It} {r : AV} {obs' : List (Option Ob)} (h : S_spec_l12Vote.post [.w (.g (ndK n 0)), one (chF c)] [tokO n.seen] r obs') : RT n (voteN n c) r obs' :=
  mkT_post (nd := fun a : Nd × List It => a.1) (enc := fun a => [one (chF a.2)]) (out := fun a => voteN a.1 a.2) (a := (n, c)) (by rintro ⟨a, b⟩ ⟨a', b'⟩ rfl h; simp only [List.cons.injEq, and_true, one_inj, chF_inj] at h; rw [h]) h
noncomputable def S_spec_l12Propose : MSpec := mkT (α := Nd × Pa) (fun a => a.1) (fun a => [agg (paF a.2)]) (fun a => NdB a.1) (fun a => propN true a.1 a.2)
theorem K_spec_l12Propose {n : Nd} {c : Pa} {r : AV} {obs' : List (Option Ob)} (h : S_spec_l12Propose.post [.w (.g (ndK n 0)), agg (paF c)] [tokO n.seen] r obs') : RT n (propN true n c) r obs' :=
  mkT_post (nd := fun a : Nd × Pa => a.1) (enc := fun a => [agg (paF a.2)]) (out := fun a => propN true a.1 a.2) (a := (n, c)) (by rintro ⟨a, b⟩ ⟨a', b'⟩ rfl h; simp only [List.cons.injEq, and_true, agg_inj, paF_inj] at h; rw [h]) h
noncomputable def S_spec_l12Try : MSpec := mkT (α := Nd) (fun a => a) (fun a => []) (fun a => NdB a) (fun a => tryN true a)
theorem K_spec_l12Try {n : Nd} {r : AV} {obs' : List (Option Ob)} (h : S_spec_l12Try.post [.w (.g (ndK n 0))] [tokO n.seen] r obs') : RT n (tryN true n) r obs' :=
  mkT_post (nd := fun a : Nd => a) (enc := fun a => []) (out := fun a => tryN true a) (a := n) (by rintro a b rfl _; rfl) h
noncomputable def S_spec_l12Hear : MSpec := mkT (α := Nd × Vo) (fun a => a.1) (fun a => [agg (voF a.2)]) (fun a => NdB a.1 ∧ FitV a.2) (fun a => hearN true a.1 a.2)
theorem K_spec_l12Hear {n : Nd} {c : Vo} {r : AV} {obs' : List (Option Ob)} (h : S_spec_l12Hear.post [.w (.g (ndK n 0)), agg (voF c)] [tokO n.seen] r obs') : RT n (hearN true n c) r obs' :=
  mkT_post (nd := fun a : Nd × Vo => a.1) (enc := fun a => [agg (voF a.2)]) (out := fun a => hearN true a.1 a.2) (a := (n, c)) (by rintro ⟨a, b⟩ ⟨a', b'⟩ rfl h; simp only [List.cons.injEq, and_true, agg_inj, voF_inj] at h; rw [h]) h
def FitsM (n : Nd) (v : Vo) (k : Int) : Prop := v.n = lead n.ep ∧ lastE v = n.ep ∧ ((v.c.length - 1 : Nat) : Int) = k ∧ SureM n.seen (v.c.take (v.c.length - 1))
noncomputable def S_spec_l12Fits : FSpec := tF (α := (Nd) × (Vo) × (Int)) (fun a => [agg (ndF a.1), agg (voF a.2.1), I a.2.2]) (fun a => FitVs a.1.seen ∧ FitV a.2.1 ∧ 0 < a.2.1.c.length ∧ In a.1.ep 0 100) (fun a => FitsM a.1 a.2.1 a.2.2) (fun _ => rfl)
theorem K_spec_l12Fits {a : (Nd) × (Vo) × (Int)} {r : AV} (h : S_spec_l12Fits.post ([agg (ndF a.1), agg (voF a.2.1), I a.2.2]) r) : (FitsM a.1 a.2.1 a.2.2 ∧ r = B true) ∨ (¬ (FitsM a.1 a.2.1 a.2.2) ∧ r = B false) :=
  tF_post (hcl := fun _ => rfl) (a := a) (by rintro ⟨x0, x1, x2⟩ ⟨y0, y1, y2⟩ h; simp only [List.cons.injEq, and_true, true_and, one_inj, agg_inj, paF_inj, itF_inj, chF_inj, voF_inj, vsF_inj, csF_inj, nsF_inj, nssF_inj, ndF_inj, ceF_inj, woF_inj, evF_inj, byF_inj, ndsF_inj, evsF_inj, pasF_inj, aI_inj, aB_inj, aRp_inj, fI_inj, fBo_inj] at h; obtain ⟨rfl, rfl, rfl⟩ := h; rfl) h
end Av
end Go.Proofs.Ytlbdoamidblkaaa

namespace Go.Proofs.Ytlbdoamidblkaaa
namespace Av
open Go.RowKit
def intB (P : Program) (t : TypeId) : Bool := (match P.underlying t with | some (.int _) => true | _ => false) && tagg P t == some false
def fldB (P : Program) (f : Field) (o : Nat) : Bool := f.name != "_" && f.offset == o
def payB (P : Program) (t : TypeId) : Bool :=
  !P.stoodInHeld t && tagg P t == some true && tsize P t == some 3 && (match P.underlying t with
    | some (.struct gs) => (match gs.toList with
      | [g0, g1, g2] => fldB P g0 0 && fldB P g1 1 && fldB P g2 2 && intB P g0.type && intB P g1.type && intB P g2.type
      | _ => false)
    | _ => false)
def itemB (P : Program) (t : TypeId) : Bool :=
  !P.stoodInHeld t && !P.eqGuardType P.depth t && (match P.underlying t with
    | some (.struct gs) => (match gs.toList with
      | [g0, g1] => fldB P g0 0 && fldB P g1 1 && intB P g0.type && payB P g1.type
      | _ => false)
    | _ => false)
section
variable {P : Program} {w : World}
theorem eqf_one {d : Nat} {xs ys : Array Value} {f : Field} {fs : List Field} {a b : Value} {r s : Bool} (hn : f.name ≠ "_") (ha : (part f.type xs f.offset).run P w = .ok a w) (hb : (part f.type ys f.offset).run P w = .ok b w)
    (he : (Op.equalIn d f.type a b).run P w = .ok r w) (hr : (Op.eqFields d xs ys fs).run P w = .ok s w) : (Op.eqFields d xs ys (f :: fs)).run P w = .ok (r && s) w := by
  rw [Op.eqFields]
  simp only [if_pos hn, Sem.run_bind, ha, hb, he, Result.andThen_ok]
  cases r
  · simp
  · simpa using hr
theorem eqf_none {d : Nat} {xs ys : Array Value} : (Op.eqFields d xs ys []).run P w = .ok true w := by simp [Op.eqFields]
theorem part_int {t : TypeId} {xs : Array Value} {o : Nat} {v : Value} (h : tagg P t = some false) (hv : xs[o]? = some v) : (part t xs o).run P w = .ok v w := by
  simp only [part, Sem.run_bind, run_tagg h, Result.andThen_ok, Bool.false_eq_true, if_false, hv, Sem.run_pure]
theorem part_agg {t : TypeId} {xs : Array Value} {o k : Nat} (h : tagg P t = some true) (hs : tsize P t = some k) : (part t xs o).run P w = .ok (.agg (xs.extract o (o + k))) w := by
  simp only [part, Sem.run_bind, run_tagg h, Result.andThen_ok, if_true, run_tsize hs, Sem.run_pure]
theorem eq_int {t : TypeId} (h : intB P t = true) (d : Nat) (a b : Int) : (Op.equalIn (d + 1) t (.int .i64 a) (.int .i64 b)).run P w = .ok (a == b) w := by
  simp only [intB, Bool.and_eq_true] at h
  obtain ⟨h1, _⟩ := h
  split at h1
  · rename_i k hk; exact run_equalIn_int w d t .i64 k a b hk
  · cases h1
theorem intB_agg {t : TypeId} (h : intB P t = true) : tagg P t = some false := by
  simp only [intB, Bool.and_eq_true, beq_iff_eq] at h; exact h.2
theorem fldB_ok {f : Field} {o : Nat} (h : fldB P f o = true) : f.name ≠ "_" ∧ f.offset = o := by
  simpa [fldB] using h
theorem eq_pay {t : TypeId} (h : payB P t = true) (d : Nat) (a b c a' b' c' : Int) :
    (Op.equalIn (d + 2) t (.agg #[.int .i64 a, .int .i64 b, .int .i64 c]) (.agg #[.int .i64 a', .int .i64 b', .int .i64 c'])).run P w = .ok ((a == a') && ((b == b') && (c == c'))) w := by
  simp only [payB, Bool.and_eq_true, Bool.not_eq_true'] at h
  obtain ⟨⟨⟨h1, _⟩, _⟩, h2⟩ := h
  split at h2
  · rename_i gs hu
    split at h2
    · rename_i g0 g1 g2 hg
      simp only [Bool.and_eq_true] at h2
      obtain ⟨⟨⟨⟨⟨f0, f1⟩, f2⟩, i0⟩, i1⟩, i2⟩ := h2
      have hf : P.fieldsOf t = gs := by simp [Program.fieldsOf, hu]
      rw [run_equalIn_struct w (d + 1) t _ _ (by rw [hf]; exact hu) h1, hf, hg]
      have := eqf_one (P := P) (w := w) (d := d + 1) (xs := #[.int .i64 a, .int .i64 b, .int .i64 c]) (ys := #[.int .i64 a', .int .i64 b', .int .i64 c']) (fldB_ok f0).1 (part_int (intB_agg i0) (by rw [(fldB_ok f0).2]; rfl)) (part_int (intB_agg i0) (by rw [(fldB_ok f0).2]; rfl)) (eq_int i0 d a a')
        (eqf_one (fldB_ok f1).1 (part_int (intB_agg i1) (by rw [(fldB_ok f1).2]; rfl)) (part_int (intB_agg i1) (by rw [(fldB_ok f1).2]; rfl)) (eq_int i1 d b b')
          (eqf_one (fldB_ok f2).1 (part_int (intB_agg i2) (by rw [(fldB_ok f2).2]; rfl)) (part_int (intB_agg i2) (by rw [(fldB_ok f2).2]; rfl)) (eq_int i2 d c c') eqf_none))
      simpa using this
    · cases h2
  · cases h2
theorem eqInts_item {t : TypeId} (h : itemB P t = true) : EqInts P t 4 := by
  simp only [itemB, Bool.and_eq_true, Bool.not_eq_true'] at h
  obtain ⟨⟨h1, hgd⟩, h2⟩ := h
  refine ⟨hgd, fun azz bs la lb w => ?_⟩
  match azz, bs, la, lb with
  | [a, b, c, d], [a', b', c', d'], _, _ =>
    split at h2
    · rename_i gs hu
      split at h2
      · rename_i g0 g1 hg
        simp only [Bool.and_eq_true] at h2
        obtain ⟨⟨⟨f0, f1⟩, i0⟩, i1⟩ := h2
        have hf : P.fieldsOf t = gs := by simp [Program.fieldsOf, hu]
        have hp := i1
        simp only [payB, Bool.and_eq_true, beq_iff_eq] at hp
        rw [show (10000 : Nat) = 9999 + 1 from rfl, run_equalIn_struct w 9999 t _ _ (by rw [hf]; exact hu) h1, hf, hg]
        have e2 := fun (x y z u : Int) => part_agg (P := P) (w := w) (xs := #[Value.int .i64 x, .int .i64 y, .int .i64 z, .int .i64 u]) (o := 1) hp.1.1.2 hp.1.2
        have := eqf_one (P := P) (w := w) (d := 9999) (xs := #[.int .i64 a, .int .i64 b, .int .i64 c, .int .i64 d]) (ys := #[.int .i64 a', .int .i64 b', .int .i64 c', .int .i64 d']) (fldB_ok f0).1 (part_int (intB_agg i0) (by rw [(fldB_ok f0).2]; rfl)) (part_int (intB_agg i0) (by rw [(fldB_ok f0).2]; rfl)) (eq_int i0 9998 a a')
          (eqf_one (fldB_ok f1).1 (by rw [(fldB_ok f1).2]; exact e2 a b c d) (by rw [(fldB_ok f1).2]; exact e2 a' b' c' d') (eq_pay i1 9997 b c d b' c' d') eqf_none)
        simpa [Bool.and_assoc] using this
      · cases h2
    · cases h2
end
end Av
end Go.Proofs.Ytlbdoamidblkaaa

