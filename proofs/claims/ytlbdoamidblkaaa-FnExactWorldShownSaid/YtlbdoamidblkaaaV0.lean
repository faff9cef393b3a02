/- The contracts of 'is ok' on nodes and worlds, and of the laws' own functions on them. -/
import Derived.Test.YtlbdoamidblkaaaE4
set_option linter.unusedVariables false
set_option linter.unusedSimpArgs false
namespace Go.Proofs.Ytlbdoamidblkaaa
namespace Av
open Go.RowKit
theorem aEp_inj {a b : List FV} : AV.w (.o (.ep a)) = AV.w (.o (.ep b)) ↔ a = b := by simp
theorem etaNd (n : Nd) : (⟨n.id, n.ep, n.vt, n.seen⟩ : Nd) = n := rfl
theorem etaWo (w : Wo) : (⟨w.ep, w.nodes, w.log, w.bad⟩ : Wo) = w := rfl
def lastE (v : Vo) : Int := ((v.c[v.c.length - 1]?).map It.e).getD 0
theorem lastE_at {v : Vo} {x : It} (h : v.c[v.c.length - 1]? = some x) : lastE v = x.e := by unfold lastE; rw [h]; rfl
def NodeOk (n : Nd) : Prop := In n.id 1 4 ∧ In n.ep 0 30 ∧ In n.vt 0 n.ep ∧ n.seen.length ≤ 80 ∧ VotesOk n.seen ∧ ∀ v, v ∈ n.seen → ¬ (v.n = n.id ∧ n.vt < lastE v)
def ShownW (w : Wo) (v : Vo) : Prop := v.n = w.bad ∨ v ∈ w.log
def NodeAt (w : Wo) (i : Nat) (n : Nd) : Prop := NodeOk n ∧ n.id = (i : Int) + 1 ∧ n.ep = w.ep ∧ ∀ v, v ∈ n.seen → ShownW w v
def WorldOk (w : Wo) : Prop := In w.ep 0 30 ∧ In w.bad 0 4 ∧ w.nodes.length = 4 ∧ w.log.length ≤ 80 ∧ VotesOk w.log ∧ ∀ i n, w.nodes[i]? = some n → NodeAt w i n
def FitNs (l : List Nd) : Prop := l.length ≤ LIM ∧ ∀ n, n ∈ l → FitVs n.seen
def BigNs (l : List Nd) : Prop := l.length ≤ BIG ∧ ∀ n, n ∈ l → BigVs n.seen
def SmNs (l : List Nd) : Prop := l.length ≤ SM ∧ ∀ n, n ∈ l → SmVs n.seen
def SmW (w : Wo) : Prop := SmNs w.nodes ∧ SmVs w.log
theorem SmNs.fit {l : List Nd} (h : SmNs l) : FitNs l := ⟨Nat.le_trans h.1 (by decide), fun n hn => (h.2 n hn).fit⟩
theorem FitNs.at {l : List Nd} (h : FitNs l) {i : Nat} {n : Nd} (hn : l[i]? = some n) : FitVs n.seen := h.2 n (List.mem_of_getElem? hn)
theorem BigNs.at {l : List Nd} (h : BigNs l) {i : Nat} {n : Nd} (hn : l[i]? = some n) : BigVs n.seen := h.2 n (List.mem_of_getElem? hn)
theorem votesOk_ne {l : List Vo} (h : VotesOk l) {v : Vo} (hv : v ∈ l) : 0 < v.c.length := by
  obtain ⟨i, hi⟩ := List.mem_iff_getElem?.1 hv
  exact List.length_pos_iff.2 (h i v hi).1.2.1
def HitN (n : Nd) (v : Vo) : Prop := v.n = n.id ∧ n.vt < lastE v
def ShownAll (w : Wo) (l : List Vo) : Prop := ∀ v, v ∈ l → ShownW w v
/-- The two questions that a list of votes is asked. -/
def fnQ : Nd ⊕ Wo → AV
  | .inl n => .fn (.func n_impl_NodeOk_1) [] [.o (.ep (ndF n))]
  | .inr w => .fn (.func n_impl_WorldOk_1) [] [.o (.ep (woF w))]
def preQ : Nd ⊕ Wo → List Vo → Prop
  | .inl _, l => ∀ v, v ∈ l → 0 < v.c.length
  | .inr w, _ => FitVs w.log
def hitQ : Nd ⊕ Wo → Vo → Prop
  | .inl n, v => HitN n v
  | .inr w, v => ¬ ShownW w v
theorem fnQ_inj : ∀ {a b : Nd ⊕ Wo}, fnQ a = fnQ b → a = b
  | .inl n, .inl m, h => by rw [ndF_inj.1 (AC.ep.inj (AW.o.inj (List.cons.inj (AV.fn.inj h).2.2).1))]
  | .inr n, .inr m, h => by rw [woF_inj.1 (AC.ep.inj (AW.o.inj (List.cons.inj (AV.fn.inj h).2.2).1))]
  | .inl n, .inr m, h => by
    have h4 := congrArg List.length (AC.ep.inj (AW.o.inj (List.cons.inj (AV.fn.inj h).2.2).1))
    exact absurd (Fn.func.inj (AV.fn.inj h).1) (by decide)
  | .inr n, .inl m, h => absurd (Fn.func.inj (AV.fn.inj h).1) (by decide)
theorem clQ (a : List Vo × (Nd ⊕ Wo)) : clArgs [one (vsF a.1), fnQ a.2] = true := by
  obtain ⟨l, n | w⟩ := a <;> rfl
theorem encQ_inj (a b : List Vo × (Nd ⊕ Wo)) (h : [one (vsF a.1), fnQ a.2] = [one (vsF b.1), fnQ b.2]) : a = b := by
  obtain ⟨l, q⟩ := a; obtain ⟨m, p⟩ := b
  have h1 := vsF_inj.1 (one_inj.1 (List.cons.inj h).1)
  have h2 := fnQ_inj (List.cons.inj (List.cons.inj h).2).1
  dsimp only at h1 h2
  rw [h1, h2]
def R_idx (a : List Vo × (Nd ⊕ Wo)) (r : AV) : Prop := ∃ k : Int, r = I k ∧ (0 ≤ k ↔ ∃ v, v ∈ a.1 ∧ hitQ a.2 v)
theorem sc_idx : true = true → ∀ a r, R_idx a r → scal r := fun _ a r ⟨k, h, _⟩ => by rw [h]; trivial
theorem inh_idx (Q : Nd ⊕ Wo → Prop) : ∀ a : List Vo × (Nd ⊕ Wo), FitVs a.1 ∧ preQ a.2 a.1 ∧ Q a.2 → ∃ r, R_idx a r ∧ okV noN r := fun a _ => by
  by_cases h : ∃ v, v ∈ a.1 ∧ hitQ a.2 v
  · exact ⟨I 0, ⟨0, rfl, iff_of_true (by decide) h⟩, trivial⟩
  · exact ⟨I (-1), ⟨-1, rfl, iff_of_false (by decide) h⟩, trivial⟩
noncomputable def S_idx (Q : Nd ⊕ Wo → Prop) : FSpec := mkR (α := List Vo × (Nd ⊕ Wo)) (fun a => [one (vsF a.1), fnQ a.2]) (fun a => FitVs a.1 ∧ preQ a.2 a.1 ∧ Q a.2) R_idx 0 true sc_idx (inh_idx Q) clQ
noncomputable def S_slices_IndexFunc_VoteS : FSpec := S_idx fun _ => True
theorem K_slices_IndexFunc_VoteS {a : List Vo × (Nd ⊕ Wo)} {r : AV} (h : S_slices_IndexFunc_VoteS.post [one (vsF a.1), fnQ a.2] r) : R_idx a r :=
  mkR_post (hsc := sc_idx) (hinh := inh_idx fun _ => True) (hcl := clQ) (a := a) encQ_inj h
noncomputable def S_slices_ContainsFunc_VoteS : FSpec := tF (α := List Vo × (Nd ⊕ Wo)) (fun a => [one (vsF a.1), fnQ a.2]) (fun a => FitVs a.1 ∧ preQ a.2 a.1) (fun a => ∃ v, v ∈ a.1 ∧ hitQ a.2 v) clQ
theorem K_slices_ContainsFunc_VoteS {a : List Vo × (Nd ⊕ Wo)} {r : AV} (h : S_slices_ContainsFunc_VoteS.post [one (vsF a.1), fnQ a.2] r) : ((∃ v, v ∈ a.1 ∧ hitQ a.2 v) ∧ r = B true) ∨ (¬ (∃ v, v ∈ a.1 ∧ hitQ a.2 v) ∧ r = B false) :=
  tF_post (hcl := clQ) (a := a) encQ_inj h
theorem FnR.mono {P : Program} {f : Nat} {args : List AV} {c rm : Nat} {p q : AV → Prop} (h : FnR P f args c rm p) (hpq : ∀ r, p r → q r) : FnR P f args c rm q := by
  intro V O own w vals h1 h2 h3 h4 h5 h6 h7 h8
  refine (h V O own w vals h1 h2 h3 h4 h5 h6 h7 h8).mono fun e w' hw => ?_
  obtain ⟨v, r, V', g1, g2, g3⟩ := hw
  exact ⟨v, r, V', g1, hpq r g2, g3⟩
theorem valid_split {P : Program} {f : Nat} {S S1 S2 : FSpec} (h1 : Valid P f S1) (h2 : Valid P f S2) (k1 : S1.cost = S.cost) (k2 : S2.cost = S.cost)
    (h : ∀ args, S.pre args → (S1.pre args ∧ ∀ r, S1.post args r → S.post args r) ∨ (S2.pre args ∧ ∀ r, S2.post args r → S.post args r)) : Valid P f S :=
  ⟨h1.1, fun args rm hp hl => by
    rcases h args hp with ⟨a, b⟩ | ⟨a, b⟩
    · have g := h1.2 args rm a (by rw [k1]; exact hl)
      rw [k1] at g; exact FnR.mono g b
    · have g := h2.2 args rm a (by rw [k2]; exact hl)
      rw [k2] at g; exact FnR.mono g b⟩
def R_laws_szNode (a : (Nd) × (Int)) (r : AV) : Prop := ∃ k : Int, r = I k ∧ k ≤ a.2 ∧ (0 ≤ k → SmVs a.1.seen)
def R_laws_szNodeS (a : (List Nd) × (Int)) (r : AV) : Prop := ∃ k : Int, r = I k ∧ k ≤ a.2 ∧ (0 ≤ k → SmNs a.1)
def R_laws_szWorld (a : (Wo) × (Int)) (r : AV) : Prop := ∃ k : Int, r = I k ∧ k ≤ a.2 ∧ (0 ≤ k → SmW a.1)
theorem sc_laws_szNode : true = true → ∀ a r, R_laws_szNode a r → scal r := fun _ a r ⟨k, h, _⟩ => by rw [h]; trivial
theorem sc_laws_szNodeS : true = true → ∀ a r, R_laws_szNodeS a r → scal r := fun _ a r ⟨k, h, _⟩ => by rw [h]; trivial
theorem sc_laws_szWorld : true = true → ∀ a r, R_laws_szWorld a r → scal r := fun _ a r ⟨k, h, _⟩ => by rw [h]; trivial
theorem inh_laws_szNode : ∀ a : Nd × Int, BigVs a.1.seen ∧ 0 ≤ a.2 ∧ a.2 ≤ 1048576 → ∃ r, R_laws_szNode a r ∧ okV noN r := fun a h => ⟨I (-1), ⟨-1, rfl, by omega, fun h => by omega⟩, trivial⟩
theorem inh_laws_szNodeS : ∀ a : List Nd × Int, BigNs a.1 ∧ 0 ≤ a.2 ∧ a.2 ≤ 1048576 → ∃ r, R_laws_szNodeS a r ∧ okV noN r := fun a h => ⟨I (-1), ⟨-1, rfl, by omega, fun h => by omega⟩, trivial⟩
theorem inh_laws_szWorld : ∀ a : Wo × Int, BigNs a.1.nodes ∧ BigVs a.1.log ∧ 0 ≤ a.2 ∧ a.2 ≤ 1048576 → ∃ r, R_laws_szWorld a r ∧ okV noN r := fun a h => ⟨I (-1), ⟨-1, rfl, by omega, fun h => by omega⟩, trivial⟩
noncomputable def S_impl_Vote_last : FSpec := iF (α := (Vo)) (fun a => [agg (voF a)]) (fun a => FitV a ∧ 0 < a.c.length) (fun a => lastE a) (fun _ => rfl)
noncomputable def S_impl_NodeOk_1 : FSpec := tF (α := (Vo) × (Nd)) (fun a => [agg (voF a.1), .w (.o (.ep (ndF a.2)))]) (fun a => FitV a.1 ∧ 0 < a.1.c.length) (fun a => HitN a.2 a.1) (fun _ => rfl)
noncomputable def S_impl_NodeOk : FSpec := tF (α := (Nd)) (fun a => [agg (ndF a)]) (fun a => FitVs a.seen) (fun a => NodeOk a) (fun _ => rfl)
noncomputable def S_spec_NodeOk : FSpec := tF (α := (Nd)) (fun a => [agg (ndF a)]) (fun a => FitVs a.seen) (fun a => NodeOk a) (fun _ => rfl)
noncomputable def S_impl_World_shown : FSpec := tF (α := (Wo) × (Vo)) (fun a => [.w (.o (.ep (woF a.1))), agg (voF a.2)]) (fun a => FitVs a.1.log ∧ FitV a.2) (fun a => ShownW a.1 a.2) (fun _ => rfl)
noncomputable def S_impl_WorldOk_1 : FSpec := tF (α := (Vo) × (Wo)) (fun a => [agg (voF a.1), .w (.o (.ep (woF a.2)))]) (fun a => FitV a.1 ∧ FitVs a.2.log) (fun a => ¬ ShownW a.2 a.1) (fun _ => rfl)
noncomputable def S_impl_WorldOk : FSpec := tF (α := (Wo)) (fun a => [agg (woF a)]) (fun a => FitNs a.nodes ∧ FitVs a.log) (fun a => WorldOk a) (fun _ => rfl)
noncomputable def S_spec_l21All : FSpec := tF (α := (Wo) × (List Vo)) (fun a => [agg (woF a.1), one (vsF a.2)]) (fun a => FitVs a.1.log ∧ FitVs a.2) (fun a => ShownAll a.1 a.2) (fun _ => rfl)
noncomputable def S_spec_WorldOk : FSpec := tF (α := (Wo)) (fun a => [agg (woF a)]) (fun a => FitNs a.nodes ∧ FitVs a.log) (fun a => WorldOk a) (fun _ => rfl)
noncomputable def S_laws_szNode : FSpec := mkR (α := (Nd) × (Int)) (fun a => [agg (ndF a.1), I a.2]) (fun a => BigVs a.1.seen ∧ 0 ≤ a.2 ∧ a.2 ≤ 1048576) R_laws_szNode 0 true sc_laws_szNode inh_laws_szNode (fun _ => rfl)
noncomputable def S_laws_szNodeS : FSpec := mkR (α := (List Nd) × (Int)) (fun a => [one (ndsF a.1), I a.2]) (fun a => BigNs a.1 ∧ 0 ≤ a.2 ∧ a.2 ≤ 1048576) R_laws_szNodeS 0 true sc_laws_szNodeS inh_laws_szNodeS (fun _ => rfl)
noncomputable def S_laws_szWorld : FSpec := mkR (α := (Wo) × (Int)) (fun a => [agg (woF a.1), I a.2]) (fun a => BigNs a.1.nodes ∧ BigVs a.1.log ∧ 0 ≤ a.2 ∧ a.2 ≤ 1048576) R_laws_szWorld 0 true sc_laws_szWorld inh_laws_szWorld (fun _ => rfl)
noncomputable def S_laws_toNode : FSpec := gF (α := (Nd)) (fun a => [agg (ndF a)]) (fun a => FitVs a.seen) (fun a => ndF a) (fun _ => rfl)
noncomputable def S_laws_toNodeS : FSpec := oF (α := (List Nd)) (fun a => [one (ndsF a)]) (fun a => FitNs a) (fun a => ndsF a) (fun _ => rfl)
noncomputable def S_laws_toWorld : FSpec := gF (α := (Wo)) (fun a => [agg (woF a)]) (fun a => FitNs a.nodes ∧ FitVs a.log) (fun a => woF a) (fun _ => rfl)
noncomputable def S_laws_eqNode : FSpec := tF (α := (Nd) × (Nd)) (fun a => [agg (ndF a.1), agg (ndF a.2)]) (fun a => FitVs a.1.seen ∧ FitVs a.2.seen) (fun a => a.1 = a.2) (fun _ => rfl)
noncomputable def S_laws_eqNodeS : FSpec := tF (α := (List Nd) × (List Nd)) (fun a => [one (ndsF a.1), one (ndsF a.2)]) (fun a => FitNs a.1 ∧ FitNs a.2) (fun a => a.1 = a.2) (fun _ => rfl)
noncomputable def S_laws_eqWorld : FSpec := tF (α := (Wo) × (Wo)) (fun a => [agg (woF a.1), agg (woF a.2)]) (fun a => FitNs a.1.nodes ∧ FitVs a.1.log ∧ FitNs a.2.nodes ∧ FitVs a.2.log) (fun a => a.1 = a.2) (fun _ => rfl)
theorem K_impl_Vote_last {a : (Vo)} {r : AV} (h : S_impl_Vote_last.post ([agg (voF a)]) r) : r = I (lastE a) :=
  iF_post (hcl := fun _ => rfl) (a := a) (by intro a b h; simpa only [List.cons.injEq, and_true, true_and, one_inj, agg_inj, paF_inj, itF_inj, chF_inj, voF_inj, vsF_inj, csF_inj, nsF_inj, nssF_inj, ndF_inj, ceF_inj, woF_inj, evF_inj, byF_inj, ndsF_inj, evsF_inj, pasF_inj, aI_inj, aB_inj, aRp_inj, fI_inj, fBo_inj] using h) h
theorem K_impl_NodeOk_1 {a : (Vo) × (Nd)} {r : AV} (h : S_impl_NodeOk_1.post ([agg (voF a.1), .w (.o (.ep (ndF a.2)))]) r) : (HitN a.2 a.1 ∧ r = B true) ∨ (¬ (HitN a.2 a.1) ∧ r = B false) :=
  tF_post (hcl := fun _ => rfl) (a := a) (by rintro ⟨x0, x1⟩ ⟨y0, y1⟩ h; simp only [aEp_inj, List.cons.injEq, and_true, true_and, one_inj, agg_inj, paF_inj, itF_inj, chF_inj, voF_inj, vsF_inj, csF_inj, nsF_inj, nssF_inj, ndF_inj, ceF_inj, woF_inj, evF_inj, byF_inj, ndsF_inj, evsF_inj, pasF_inj, aI_inj, aB_inj, aRp_inj, fI_inj, fBo_inj] at h; obtain ⟨rfl, rfl⟩ := h; rfl) h
theorem K_impl_NodeOk {a : (Nd)} {r : AV} (h : S_impl_NodeOk.post ([agg (ndF a)]) r) : (NodeOk a ∧ r = B true) ∨ (¬ (NodeOk a) ∧ r = B false) :=
  tF_post (hcl := fun _ => rfl) (a := a) (by intro a b h; simpa only [List.cons.injEq, and_true, true_and, one_inj, agg_inj, paF_inj, itF_inj, chF_inj, voF_inj, vsF_inj, csF_inj, nsF_inj, nssF_inj, ndF_inj, ceF_inj, woF_inj, evF_inj, byF_inj, ndsF_inj, evsF_inj, pasF_inj, aI_inj, aB_inj, aRp_inj, fI_inj, fBo_inj] using h) h
theorem K_spec_NodeOk {a : (Nd)} {r : AV} (h : S_spec_NodeOk.post ([agg (ndF a)]) r) : (NodeOk a ∧ r = B true) ∨ (¬ (NodeOk a) ∧ r = B false) :=
  tF_post (hcl := fun _ => rfl) (a := a) (by intro a b h; simpa only [List.cons.injEq, and_true, true_and, one_inj, agg_inj, paF_inj, itF_inj, chF_inj, voF_inj, vsF_inj, csF_inj, nsF_inj, nssF_inj, ndF_inj, ceF_inj, woF_inj, evF_inj, byF_inj, ndsF_inj, evsF_inj, pasF_inj, aI_inj, aB_inj, aRp_inj, fI_inj, fBo_inj] using h) h
theorem K_impl_World_shown {a : (Wo) × (Vo)} {r : AV} (h : S_impl_World_shown.post ([.w (.o (.ep (woF a.1))), agg (voF a.2)]) r) : (ShownW a.1 a.2 ∧ r = B true) ∨ (¬ (ShownW a.1 a.2) ∧ r = B false) :=
  tF_post (hcl := fun _ => rfl) (a := a) (by rintro ⟨x0, x1⟩ ⟨y0, y1⟩ h; simp only [aEp_inj, List.cons.injEq, and_true, true_and, one_inj, agg_inj, paF_inj, itF_inj, chF_inj, voF_inj, vsF_inj, csF_inj, nsF_inj, nssF_inj, ndF_inj, ceF_inj, woF_inj, evF_inj, byF_inj, ndsF_inj, evsF_inj, pasF_inj, aI_inj, aB_inj, aRp_inj, fI_inj, fBo_inj] at h; obtain ⟨rfl, rfl⟩ := h; rfl) h
theorem K_impl_WorldOk_1 {a : (Vo) × (Wo)} {r : AV} (h : S_impl_WorldOk_1.post ([agg (voF a.1), .w (.o (.ep (woF a.2)))]) r) : (¬ ShownW a.2 a.1 ∧ r = B true) ∨ (¬ (¬ ShownW a.2 a.1) ∧ r = B false) :=
  tF_post (hcl := fun _ => rfl) (a := a) (by rintro ⟨x0, x1⟩ ⟨y0, y1⟩ h; simp only [aEp_inj, List.cons.injEq, and_true, true_and, one_inj, agg_inj, paF_inj, itF_inj, chF_inj, voF_inj, vsF_inj, csF_inj, nsF_inj, nssF_inj, ndF_inj, ceF_inj, woF_inj, evF_inj, byF_inj, ndsF_inj, evsF_inj, pasF_inj, aI_inj, aB_inj, aRp_inj, fI_inj, fBo_inj] at h; obtain ⟨rfl, rfl⟩ := h; rfl) h
theorem K_impl_WorldOk {a : (Wo)} {r : AV} (h : S_impl_WorldOk.post ([agg (woF a)]) r) : (WorldOk a ∧ r = B true) ∨ (¬ (WorldOk a) ∧ r = B false) :=
  tF_post (hcl := fun _ => rfl) (a := a) (by intro a b h; simpa only [List.cons.injEq, and_true, true_and, one_inj, agg_inj, paF_inj, itF_inj, chF_inj, voF_inj, vsF_inj, csF_inj, nsF_inj, nssF_inj, ndF_inj, ceF_inj, woF_inj, evF_inj, byF_inj, ndsF_inj, evsF_inj, pasF_inj, aI_inj, aB_inj, aRp_inj, fI_inj, fBo_inj] using h) h
theorem K_spec_l21All {a : (Wo) × (List Vo)} {r : AV} (h : S_spec_l21All.post ([agg (woF a.1), one (vsF a.2)]) r) : (ShownAll a.1 a.2 ∧ r = B true) ∨ (¬ (ShownAll a.1 a.2) ∧ r = B false) :=
  tF_post (hcl := fun _ => rfl) (a := a) (by rintro ⟨x0, x1⟩ ⟨y0, y1⟩ h; simp only [List.cons.injEq, and_true, true_and, one_inj, agg_inj, paF_inj, itF_inj, chF_inj, voF_inj, vsF_inj, csF_inj, nsF_inj, nssF_inj, ndF_inj, ceF_inj, woF_inj, evF_inj, byF_inj, ndsF_inj, evsF_inj, pasF_inj, aI_inj, aB_inj, aRp_inj, fI_inj, fBo_inj] at h; obtain ⟨rfl, rfl⟩ := h; rfl) h
theorem K_spec_WorldOk {a : (Wo)} {r : AV} (h : S_spec_WorldOk.post ([agg (woF a)]) r) : (WorldOk a ∧ r = B true) ∨ (¬ (WorldOk a) ∧ r = B false) :=
  tF_post (hcl := fun _ => rfl) (a := a) (by intro a b h; simpa only [List.cons.injEq, and_true, true_and, one_inj, agg_inj, paF_inj, itF_inj, chF_inj, voF_inj, vsF_inj, csF_inj, nsF_inj, nssF_inj, ndF_inj, ceF_inj, woF_inj, evF_inj, byF_inj, ndsF_inj, evsF_inj, pasF_inj, aI_inj, aB_inj, aRp_inj, fI_inj, fBo_inj] using h) h
theorem K_laws_szNode {a : (Nd) × (Int)} {r : AV} (h : S_laws_szNode.post ([agg (ndF a.1), I a.2]) r) : R_laws_szNode a r :=
  mkR_post (a := a) (by rintro ⟨x0, x1⟩ ⟨y0, y1⟩ h; simp only [List.cons.injEq, and_true, true_and, one_inj, agg_inj, paF_inj, itF_inj, chF_inj, voF_inj, vsF_inj, csF_inj, nsF_inj, nssF_inj, ndF_inj, ceF_inj, woF_inj, evF_inj, byF_inj, ndsF_inj, evsF_inj, pasF_inj, aI_inj, aB_inj, aRp_inj, fI_inj, fBo_inj] at h; obtain ⟨rfl, rfl⟩ := h; rfl) h
theorem K_laws_szNodeS {a : (List Nd) × (Int)} {r : AV} (h : S_laws_szNodeS.post ([one (ndsF a.1), I a.2]) r) : R_laws_szNodeS a r :=
  mkR_post (a := a) (by rintro ⟨x0, x1⟩ ⟨y0, y1⟩ h; simp only [List.cons.injEq, and_true, true_and, one_inj, agg_inj, paF_inj, itF_inj, chF_inj, voF_inj, vsF_inj, csF_inj, nsF_inj, nssF_inj, ndF_inj, ceF_inj, woF_inj, evF_inj, byF_inj, ndsF_inj, evsF_inj, pasF_inj, aI_inj, aB_inj, aRp_inj, fI_inj, fBo_inj] at h; obtain ⟨rfl, rfl⟩ := h; rfl) h
theorem K_laws_szWorld {a : (Wo) × (Int)} {r : AV} (h : S_laws_szWorld.post ([agg (woF a.1), I a.2]) r) : R_laws_szWorld a r :=
  mkR_post (a := a) (by rintro ⟨x0, x1⟩ ⟨y0, y1⟩ h; simp only [List.cons.injEq, and_true, true_and, one_inj, agg_inj, paF_inj, itF_inj, chF_inj, voF_inj, vsF_inj, csF_inj, nsF_inj, nssF_inj, ndF_inj, ceF_inj, woF_inj, evF_inj, byF_inj, ndsF_inj, evsF_inj, pasF_inj, aI_inj, aB_inj, aRp_inj, fI_inj, fBo_inj] at h; obtain ⟨rfl, rfl⟩ := h; rfl) h
theorem K_laws_toNode {a : (Nd)} {r : AV} (h : S_laws_toNode.post ([agg (ndF a)]) r) : r = agg (ndF a) :=
  gF_post (hcl := fun _ => rfl) (a := a) (by intro a b h; simpa only [List.cons.injEq, and_true, true_and, one_inj, agg_inj, paF_inj, itF_inj, chF_inj, voF_inj, vsF_inj, csF_inj, nsF_inj, nssF_inj, ndF_inj, ceF_inj, woF_inj, evF_inj, byF_inj, ndsF_inj, evsF_inj, pasF_inj, aI_inj, aB_inj, aRp_inj, fI_inj, fBo_inj] using h) h
theorem K_laws_toNodeS {a : (List Nd)} {r : AV} (h : S_laws_toNodeS.post ([one (ndsF a)]) r) : r = one (ndsF a) :=
  oF_post (hcl := fun _ => rfl) (a := a) (by intro a b h; simpa only [List.cons.injEq, and_true, true_and, one_inj, agg_inj, paF_inj, itF_inj, chF_inj, voF_inj, vsF_inj, csF_inj, nsF_inj, nssF_inj, ndF_inj, ceF_inj, woF_inj, evF_inj, byF_inj, ndsF_inj, evsF_inj, pasF_inj, aI_inj, aB_inj, aRp_inj, fI_inj, fBo_inj] using h) h
theorem K_laws_toWorld {a : (Wo)} {r : AV} (h : S_laws_toWorld.post ([agg (woF a)]) r) : r = agg (woF a) :=
  gF_post (hcl := fun _ => rfl) (a := a) (by intro a b h; simpa only [List.cons.injEq, and_true, true_and, one_inj, agg_inj, paF_inj, itF_inj, chF_inj, voF_inj, vsF_inj, csF_inj, nsF_inj, nssF_inj, ndF_inj, ceF_inj, woF_inj, evF_inj, byF_inj, ndsF_inj, evsF_inj, pasF_inj, aI_inj, aB_inj, aRp_inj, fI_inj, fBo_inj] using h) h
theorem K_laws_eqNode {a : (Nd) × (Nd)} {r : AV} (h : S_laws_eqNode.post ([agg (ndF a.1), agg (ndF a.2)]) r) : (a.1 = a.2 ∧ r = B true) ∨ (¬ (a.1 = a.2) ∧ r = B false) :=
  tF_post (hcl := fun _ => rfl) (a := a) (by rintro ⟨x0, x1⟩ ⟨y0, y1⟩ h; simp only [List.cons.injEq, and_true, true_and, one_inj, agg_inj, paF_inj, itF_inj, chF_inj, voF_inj, vsF_inj, csF_inj, nsF_inj, nssF_inj, ndF_inj, ceF_inj, woF_inj, evF_inj, byF_inj, ndsF_inj, evsF_inj, pasF_inj, aI_inj, aB_inj, aRp_inj, fI_inj, fBo_inj] at h; obtain ⟨rfl, rfl⟩ := h; rfl) h
theorem K_laws_eqNodeS {a : (List Nd) × (List Nd)} {r : AV} (h : S_laws_eqNodeS.post ([one (ndsF a.1), one (ndsF a.2)]) r) : (a.1 = a.2 ∧ r = B true) ∨ (¬ (a.1 = a.2) ∧ r = B false) :=
  tF_post (hcl := fun _ => rfl) (a := a) (by rintro ⟨x0, x1⟩ ⟨y0, y1⟩ h; simp only [List.cons.injEq, and_true, true_and, one_inj, agg_inj, paF_inj, itF_inj, chF_inj, voF_inj, vsF_inj, csF_inj, nsF_inj, nssF_inj, ndF_inj, ceF_inj, woF_inj, evF_inj, byF_inj, ndsF_inj, evsF_inj, pasF_inj, aI_inj, aB_inj, aRp_inj, fI_inj, fBo_inj] at h; obtain ⟨rfl, rfl⟩ := h; rfl) h
theorem K_laws_eqWorld {a : (Wo) × (Wo)} {r : AV} (h : S_laws_eqWorld.post ([agg (woF a.1), agg (woF a.2)]) r) : (a.1 = a.2 ∧ r = B true) ∨ (¬ (a.1 = a.2) ∧ r = B false) :=
  tF_post (hcl := fun _ => rfl) (a := a) (by rintro ⟨x0, x1⟩ ⟨y0, y1⟩ h; simp only [List.cons.injEq, and_true, true_and, one_inj, agg_inj, paF_inj, itF_inj, chF_inj, voF_inj, vsF_inj, csF_inj, nsF_inj, nssF_inj, ndF_inj, ceF_inj, woF_inj, evF_inj, byF_inj, ndsF_inj, evsF_inj, pasF_inj, aI_inj, aB_inj, aRp_inj, fI_inj, fBo_inj] at h; obtain ⟨rfl, rfl⟩ := h; rfl) h
end Av
end Go.Proofs.Ytlbdoamidblkaaa
