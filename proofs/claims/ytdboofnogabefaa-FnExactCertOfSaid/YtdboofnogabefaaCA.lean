/- Contracts: sizes, copies, equality and marks of certs. -/
import Derived.Test.YtdboofnogabefaaNE
import Derived.Test.YtdboofnogabefaaJ35
import Derived.Test.YtdboofnogabefaaCZ
set_option linter.unusedVariables false
set_option linter.unusedSimpArgs false
namespace Go.Proofs.Ytdboofnogabefaa
namespace Av
open Go.RowKit
def SmBs (b : List (List Int)) : Prop := b.length ≤ SM ∧ ∀ x, x ∈ b → x.length ≤ SM
def SmCe (c : Ce) : Prop := c.c.length ≤ SM ∧ SmBs c.b
theorem SmBs.fit {b : List (List Int)} (h : SmBs b) : FitBs b := ⟨Nat.le_trans h.1 (by decide), fun x hx => Nat.le_trans (h.2 x hx) (by decide)⟩
theorem SmCe.fit {c : Ce} (h : SmCe c) : FitCe c := ⟨Nat.le_trans h.1 (by decide), h.2.fit⟩
noncomputable def S_laws_eqIntS : FSpec := tF (α := (List Int) × (List Int)) (fun a => [one (nsF a.1), one (nsF a.2)]) (fun a => a.1.length ≤ LIM ∧ a.2.length ≤ LIM) (fun a => a.1 = a.2) (fun _ => rfl)
noncomputable def S_laws_eqIntSS : FSpec := tF (α := (List (List Int)) × (List (List Int))) (fun a => [one (nssF a.1), one (nssF a.2)]) (fun a => FitBs a.1 ∧ FitBs a.2) (fun a => a.1 = a.2) (fun _ => rfl)
noncomputable def S_laws_eqCert : FSpec := tF (α := (Ce) × (Ce)) (fun a => [agg (ceF a.1), agg (ceF a.2)]) (fun a => FitCe a.1 ∧ FitCe a.2) (fun a => a.1 = a.2) (fun _ => rfl)
theorem K_laws_eqIntS {a : (List Int) × (List Int)} {r : AV} (h : S_laws_eqIntS.post ([one (nsF a.1), one (nsF a.2)]) r) : (a.1 = a.2 ∧ r = B true) ∨ (¬ (a.1 = a.2) ∧ r = B false) :=
  tF_post (hcl := fun _ => rfl) (a := a) (by rintro ⟨x0, x1⟩ ⟨y0, y1⟩ h; simp only [List.cons.injEq, and_true, true_and, one_inj, agg_inj, paF_inj, itF_inj, chF_inj, voF_inj, vsF_inj, csF_inj, nsF_inj, nssF_inj, ndF_inj, ceF_inj, woF_inj, evF_inj, byF_inj, ndsF_inj, evsF_inj, pasF_inj, aI_inj, aB_inj, aRp_inj, fI_inj, fBo_inj] at h; obtain ⟨rfl, rfl⟩ := h; rfl) h
theorem K_laws_eqIntSS {a : (List (List Int)) × (List (List Int))} {r : AV} (h : S_laws_eqIntSS.post ([one (nssF a.1), one (nssF a.2)]) r) : (a.1 = a.2 ∧ r = B true) ∨ (¬ (a.1 = a.2) ∧ r = B false) :=
  tF_post (hcl := fun _ => rfl) (a := a) (by rintro ⟨x0, x1⟩ ⟨y0, y1⟩ h; simp only [List.cons.injEq, and_true, true_and, one_inj, agg_inj, paF_inj, itF_inj, chF_inj, voF_inj, vsF_inj, csF_inj, nsF_inj, nssF_inj, ndF_inj, ceF_inj, woF_inj, evF_inj, byF_inj, ndsF_inj, evsF_inj, pasF_inj, aI_inj, aB_inj, aRp_inj, fI_inj, fBo_inj] at h; obtain ⟨rfl, rfl⟩ := h; rfl) h
theorem K_laws_eqCert {a : (Ce) × (Ce)} {r : AV} (h : S_laws_eqCert.post ([agg (ceF a.1), agg (ceF a.2)]) r) : (a.1 = a.2 ∧ r = B true) ∨ (¬ (a.1 = a.2) ∧ r = B false) :=
  tF_post (hcl := fun _ => rfl) (a := a) (by rintro ⟨x0, x1⟩ ⟨y0, y1⟩ h; simp only [List.cons.injEq, and_true, true_and, one_inj, agg_inj, paF_inj, itF_inj, chF_inj, voF_inj, vsF_inj, csF_inj, nsF_inj, nssF_inj, ndF_inj, ceF_inj, woF_inj, evF_inj, byF_inj, ndsF_inj, evsF_inj, pasF_inj, aI_inj, aB_inj, aRp_inj, fI_inj, fBo_inj] at h; obtain ⟨rfl, rfl⟩ := h; rfl) h
def nS : Nest (List Int) where
  β := Int
  T := ty_Sint
  sz := 1
  pp _ := []
  inn c := c
  T1 := ty_int
  s1 := 1
  F1 := inF
  ext _ _ _ h := arA_inj inF_inj h
/-- A cert whose parts lie at 0, 1, 2 .. -/
def ceIn (c : Ce) : List Ob := itO c.c :: nS.ob (· + 2) c.b :: c.b.map nS.ob1
def ceObs (c : Ce) : List (Option Ob) := (ceIn c).map some
abbrev ceW (a b : Nat) : AV := .w (.g [.ow a, .ow b])
theorem ceIn_len {c : Ce} : (ceIn c).length = c.b.length + 2 := by simp [ceIn]
theorem ceObs_len {c : Ce} : (ceObs c).length = c.b.length + 2 := by simp [ceObs, ceIn]
theorem ceIn_at {c : Ce} {j : Nat} {v : List Int} (h : c.b[j]? = some v) : (ceIn c)[j + 2]? = some (nS.ob1 v) := by simp [ceIn, h]
theorem ceObs_at {c : Ce} {j : Nat} {v : List Int} (h : c.b[j]? = some v) : (ceObs c)[j + 2]? = some (some (nS.ob1 v)) := by simp [ceObs, ceIn, h]
theorem ceObs_ok {c : Ce} : ∀ (j : Nat) o, (ceObs c)[j]? = some (some o) → okOb (· < (ceObs c).length) o := by
  intro j o h
  rw [ceObs_len]
  match j, h with
  | 0, h => cases h; exact arA_ok _
  | 1, h =>
    cases h
    intro x hx y hy
    obtain ⟨i, hi⟩ := List.mem_iff_getElem?.1 hx
    simp only [Nest.K, List.getElem?_mapIdx, Option.map_eq_some_iff] at hi
    obtain ⟨v, hv, rfl⟩ := hi
    have hlt := (List.getElem?_eq_some_iff.1 hv).1
    simp only [Nest.cell, nS, List.map_nil, List.nil_append, List.mem_cons, List.not_mem_nil, or_false] at hy
    subst hy
    show i + 2 < c.b.length + 2; omega
  | j + 2, h =>
    have hj := (List.getElem?_eq_some_iff.1 h).1
    rw [ceObs_len] at hj
    rw [ceObs_at (List.getElem?_eq_getElem (show j < c.b.length by omega))] at h
    cases h
    exact arA_ok _
/-! ### marks -/
def mkI : Nat → Int → List Int
  | 0, _ => []
  | n + 1, k => k :: mkI n (k + 1)
theorem mkI_len : ∀ (n : Nat) (k : Int), (mkI n k).length = n
  | 0, _ => rfl
  | n + 1, k => by simp [mkI, mkI_len n]
theorem mkI_snoc : ∀ (n : Nat) (k : Int), mkI (n + 1) k = mkI n k ++ [k + n]
  | 0, k => by simp [mkI]
  | n + 1, k => by
    rw [mkI, mkI_snoc n (k + 1), mkI]
    simp only [List.cons_append, List.cons.injEq, true_and, List.append_cancel_left_eq, and_true]
    omega
def endIs : List (List Int) → Int → Int
  | [], k => k
  | c :: r, k => endIs r (k + c.length)
def mkIs : List (List Int) → Int → List (List Int)
  | [], _ => []
  | c :: r, k => mkI c.length k :: mkIs r (k + c.length)
theorem mkIs_len : ∀ (l : List (List Int)) (k : Int), (mkIs l k).length = l.length
  | [], _ => rfl
  | v :: r, k => by simp [mkIs, mkIs_len r]
theorem endIs_app : ∀ (a b : List (List Int)) (k : Int), endIs (a ++ b) k = endIs b (endIs a k)
  | [], b, k => rfl
  | v :: r, b, k => by simp only [List.cons_append, endIs, endIs_app r b]
theorem mkIs_app : ∀ (a b : List (List Int)) (k : Int), mkIs (a ++ b) k = mkIs a k ++ mkIs b (endIs a k)
  | [], b, k => rfl
  | v :: r, b, k => by simp only [List.cons_append, mkIs, endIs, mkIs_app r b]
theorem endIs_bounds : ∀ (l : List (List Int)) (k : Int), (∀ v, v ∈ l → v.length ≤ SM) → k ≤ endIs l k ∧ endIs l k ≤ k + l.length * 1048576
  | [], k, _ => by simp [endIs]
  | v :: r, k, h => by
    have h1 := endIs_bounds r (k + v.length) fun u hu => h u (List.mem_cons_of_mem _ hu)
    have h2 := h v (List.mem_cons_self ..)
    simp only [SM] at h2
    simp only [endIs, List.length_cons]
    omega
theorem endIs_take {l : List (List Int)} {i : Nat} {x : List Int} (hx : l[i]? = some x) (k : Int) : endIs (l.take (i + 1)) k = endIs (l.take i) k + x.length := by
  rw [List.take_add_one, hx, endIs_app]; rfl
theorem mkIs_take {l : List (List Int)} {i : Nat} {x : List Int} (hx : l[i]? = some x) (k : Int) : mkIs (l.take (i + 1)) k = mkIs (l.take i) k ++ [mkI x.length (endIs (l.take i) k)] := by
  rw [List.take_add_one, hx, mkIs_app]; rfl
def partIs (l : List (List Int)) (k : Int) (i : Nat) : List (List Int) := mkIs (l.take i) k ++ l.drop i
theorem partIs_len {l : List (List Int)} {k : Int} {i : Nat} (h : i ≤ l.length) : (partIs l k i).length = l.length := by
  unfold partIs; rw [List.length_append, mkIs_len, List.length_take, List.length_drop]; omega
theorem partIs_at {l : List (List Int)} {k : Int} {i : Nat} {x : List Int} (hx : l[i]? = some x) : (partIs l k i)[i]? = some x := by
  have hi := (List.getElem?_eq_some_iff.1 hx).1
  unfold partIs
  rw [List.getElem?_append_right (by rw [mkIs_len, List.length_take]; omega), mkIs_len, List.length_take, Nat.min_eq_left (Nat.le_of_lt hi), Nat.sub_self, List.getElem?_drop, Nat.add_zero]
  exact hx
theorem partIs_step {l : List (List Int)} {k : Int} {i : Nat} {x : List Int} (hx : l[i]? = some x) : (partIs l k i).set i (mkI x.length (endIs (l.take i) k)) = partIs l k (i + 1) := by
  have hi := (List.getElem?_eq_some_iff.1 hx).1
  have hl : (mkIs (l.take i) k).length = i := by rw [mkIs_len, List.length_take]; omega
  unfold partIs
  rw [mkIs_take hx, List.append_assoc, List.set_append_right _ _ (by omega), hl, Nat.sub_self]
  congr 1
  rw [List.drop_eq_getElem_cons hi]; rfl
theorem partIs_zero (l : List (List Int)) (k : Int) : partIs l k 0 = l := by simp [partIs, mkIs]
theorem partIs_end (l : List (List Int)) (k : Int) : partIs l k l.length = mkIs l k := by simp [partIs]
noncomputable def S_laws_markIntS : MSpec := mkM (α := List Int × Int) (fun a => [ow0, I a.2]) (fun a => [isO a.1]) (fun a => a.1.length ≤ SM ∧ 0 ≤ a.2 ∧ a.2 ≤ MK) (fun a r obs' => r = I (a.2 + a.1.length) ∧ obs' = [some (isO (mkI a.1.length a.2))]) 0
  (fun a _ => ⟨_, _, ⟨rfl, rfl⟩, trivial, ok_sg (arA_ok _)⟩)
  (fun a r obs' h => by obtain ⟨_, rfl⟩ := h; simp)
theorem K_laws_markIntS {l : List Int} {k : Int} {r : AV} {obs' : List (Option Ob)} (h : S_laws_markIntS.post [ow0, I k] [isO l] r obs') : r = I (k + l.length) ∧ obs' = [some (isO (mkI l.length k))] :=
  mkM_post (enc := fun a : List Int × Int => [ow0, I a.2]) (ob := fun a => [isO a.1]) (a := (l, k)) (fun a b h h' => by
    obtain ⟨x, y⟩ := a; obtain ⟨z, w⟩ := b
    have e1 := isO_inj h'
    have e2 := aI_inj.1 (List.cons.inj (List.cons.inj h).2).1
    dsimp only at e1 e2
    rw [e1, e2]) h
noncomputable def S_laws_markIntSS_o : MSpec := mkM (α := List (List Int) × Int) (fun a => [ow0, I a.2]) (fun a => nS.In a.1) (fun a => SmBs a.1 ∧ 0 ≤ a.2 ∧ a.2 ≤ 1099511627776) (fun a r obs' => r = I (endIs a.1 a.2) ∧ obs' = nS.obs (mkIs a.1 a.2)) 0
  (fun a _ => ⟨_, _, ⟨rfl, rfl⟩, trivial, Nest.obs_ok⟩)
  (fun a r obs' h => by obtain ⟨_, rfl⟩ := h; rw [Nest.obs_len, mkIs_len, Nest.In_len]; simp)
theorem K_laws_markIntSS_o {l : List (List Int)} {k : Int} {r : AV} {obs' : List (Option Ob)} (h : S_laws_markIntSS_o.post [ow0, I k] (nS.In l) r obs') : r = I (endIs l k) ∧ obs' = nS.obs (mkIs l k) :=
  mkM_post (enc := fun a : List (List Int) × Int => [ow0, I a.2]) (ob := fun a => nS.In a.1) (a := (l, k)) (fun a b h h' => by
    obtain ⟨x, y⟩ := a; obtain ⟨z, w⟩ := b
    have e1 := Nest.In_inj h'
    have e2 := aI_inj.1 (List.cons.inj (List.cons.inj h).2).1
    dsimp only at e1 e2
    rw [e1, e2]) h
def mkCe (c : Ce) (k : Int) : Ce := ⟨mkC c.c.length k, mkIs c.b (k + 4 * c.c.length)⟩
def endCe (c : Ce) (k : Int) : Int := endIs c.b (k + 4 * c.c.length)
theorem ceIn_inj {a b : Ce} (h : ceIn a = ceIn b) : a = b := by
  have h1 := (List.cons.inj h).1
  have h2 := (List.cons.inj h).2
  have e1 : a.c = b.c := itO_inj (congrArg (fun z => [z]) h1)
  have e2 : a.b = b.b := by
    have e3 := (List.cons.inj h2).2
    exact map_inj' (fun x y hxy => arA_inj inF_inj (Ob.arr.inj hxy).2.2) e3
  obtain ⟨x, y⟩ := a; obtain ⟨z, w⟩ := b
  dsimp only at e1 e2
  rw [e1, e2]
noncomputable def S_laws_markCert_o : MSpec := mkM (α := Ce × Int) (fun a => [ceW 0 1, I a.2]) (fun a => ceIn a.1) (fun a => SmCe a.1 ∧ 0 ≤ a.2 ∧ a.2 ≤ 1099500000000) (fun a r obs' => r = I (endCe a.1 a.2) ∧ obs' = ceObs (mkCe a.1 a.2)) 0
  (fun a _ => ⟨_, _, ⟨rfl, rfl⟩, trivial, ceObs_ok⟩)
  (fun a r obs' h => by obtain ⟨_, rfl⟩ := h; rw [ceObs_len, ceIn_len]; simp [mkCe, mkIs_len])
theorem K_laws_markCert_o {c : Ce} {k : Int} {r : AV} {obs' : List (Option Ob)} (h : S_laws_markCert_o.post [ceW 0 1, I k] (ceIn c) r obs') : r = I (endCe c k) ∧ obs' = ceObs (mkCe c k) :=
  mkM_post (enc := fun a : Ce × Int => [ceW 0 1, I a.2]) (ob := fun a => ceIn a.1) (a := (c, k)) (fun a b h h' => by
    obtain ⟨x, y⟩ := a; obtain ⟨z, w⟩ := b
    have e1 := ceIn_inj h'
    have e2 := aI_inj.1 (List.cons.inj (List.cons.inj h).2).1
    dsimp only at e1 e2
    rw [e1, e2]) h
end Av
end Go.Proofs.Ytdboofnogabefaa
