/- The contracts of the law FnExactWorldNew: a world that begins, marked. -/
import Derived.Test.YtfijfccgghhkoaaWQ
import Derived.Test.YtfijfccgghhkoaaO0
set_option linter.unusedVariables false
set_option linter.unusedSimpArgs false
namespace Go.Proofs.Ytfijfccgghhkoaa
namespace Av
open Go.RowKit
def FitNs (l : List Nd) : Prop := l.length ≤ LIM ∧ ∀ n, n ∈ l → FitVs n.seen
theorem FitNs.at {l : List Nd} (h : FitNs l) {i : Nat} {n : Nd} (hn : l[i]? = some n) : FitVs n.seen := h.2 n (List.mem_of_getElem? hn)
def nd0 (i : Nat) : Nd := ⟨((i + 1 : Nat) : Int), 0, 0, []⟩
def ndM (i : Nat) : Nd := ⟨((3 * i + 1 : Nat) : Int), ((3 * i + 2 : Nat) : Int), ((3 * i + 3 : Nat) : Int), []⟩
def MkNs (ns : List Nd) : Prop := ns.length ≤ 4 ∧ ∀ i n, ns[i]? = some n → n = ndM i
/-- The nodes of a world that began, some of them marked. -/
def mp (i : Nat) : List Nd := (List.range 4).map fun t => if t < i then ndM t else nd0 t
theorem mp_len {i : Nat} : (mp i).length = 4 := by simp [mp]
theorem mp_at {i : Nat} (h : i < 4) : (mp i)[i]? = some (nd0 i) := by
  match i, h with
  | 0, _ => rfl
  | 1, _ => rfl
  | 2, _ => rfl
  | 3, _ => rfl
theorem mp_mk : MkNs (mp 4) := ⟨by rw [mp_len]; exact Nat.le_refl 4, fun i n h => by
  match i, h with
  | 0, h => cases h; rfl
  | 1, h => cases h; rfl
  | 2, h => cases h; rfl
  | 3, h => cases h; rfl
  | i + 4, h => simp [mp] at h⟩
def mArr (i : Nat) : Ob := .arr ty_impl_Node 4 (arA ndF (mp i))
theorem mArr_ren {i : Nat} (ρ : Nat → Nat) : (mArr i).ren ρ = mArr i := arr_ren ..
def mkdW (bad : Int) : Wo := ⟨0, mp 4, [], bad⟩
def mnEnc : Bool → List AV
  | true => [ow0, I 1]
  | false => [one (ndsF []), I 1]
def mnOb : Bool → List Ob
  | true => [mArr 0]
  | false => []
def mnR : Bool → AV → List (Option Ob) → Prop
  | true, r, o => r = I 13 ∧ o = [some (mArr 4)]
  | false, r, o => r = I 1 ∧ o = []
def S_laws_markNodeS : MSpec := mkM (α := Bool) mnEnc mnOb (fun _ => True) mnR 0 (fun b _ => by
    cases b
    · exact ⟨_, _, ⟨rfl, rfl⟩, trivial, fun j o h => by simp at h⟩
    · exact ⟨_, _, ⟨rfl, rfl⟩, trivial, ok_sg (arA_ok _)⟩) (fun b r obs' h => by cases b <;> (obtain ⟨_, rfl⟩ := h; simp [mnOb]))
theorem K_laws_markNodeS {b : Bool} {r : AV} {obs' : List (Option Ob)} (h : S_laws_markNodeS.post (mnEnc b) (mnOb b) r obs') : mnR b r obs' :=
  mkM_post (enc := mnEnc) (ob := mnOb) (R := mnR) (a := b) (fun a b h1 h2 => by cases a <;> cases b <;> first | rfl | (exact absurd (congrArg List.length h2) (by decide))) h
def mwEnc : Option Int → List AV
  | some bad => [.w (.g (wiC (newW bad) 0)), I 1]
  | none => [agg (woF zWo), I 1]
def mwOb : Option Int → List Ob
  | some _ => [mArr 0]
  | none => []
def mwR : Option Int → AV → List (Option Ob) → Prop
  | some _, r, o => r = I 13 ∧ o = [some (mArr 4)]
  | none, r, o => r = I 1 ∧ o = []
def S_laws_markWorld : MSpec := mkM (α := Option Int) mwEnc mwOb (fun _ => True) mwR 0 (fun b _ => by
    cases b
    · exact ⟨_, _, ⟨rfl, rfl⟩, trivial, fun j o h => by simp at h⟩
    · exact ⟨_, _, ⟨rfl, rfl⟩, trivial, ok_sg (arA_ok _)⟩) (fun b r obs' h => by cases b <;> (obtain ⟨_, rfl⟩ := h; simp [mwOb]))
theorem K_laws_markWorld {b : Option Int} {r : AV} {obs' : List (Option Ob)} (h : S_laws_markWorld.post (mwEnc b) (mwOb b) r obs') : mwR b r obs' :=
  mkM_post (enc := mwEnc) (ob := mwOb) (R := mwR) (a := b) (fun a b h1 h2 => by
    match a, b with
    | none, none => rfl
    | some _, none => exact absurd (congrArg List.length h2) (by simp [mwOb])
    | none, some _ => exact absurd (congrArg List.length h2) (by simp [mwOb])
    | some a, some b =>
      have h3 := AW.g.inj (AV.w.inj (List.cons.inj h1).1)
      simp only [wiC, newW, List.cons.injEq, and_true, true_and, AC.c.injEq, FV.v.injEq, Value.int.injEq] at h3
      rw [h3]) h
section
variable {P : Program} {g : Nat} {S : MSpec} {fr : Env} {H : Hp} {nm nx rm rm' lim : Nat} {K : KV} {xs : List (X × List (Option Nat))} {res : List Rs} {post : AV → List (Option Ob) → Prop}
theorem mq_1 {o o' : Ob} {r0 : AV} {k : Nat} {A : Nat → List AV} (hv : ValidM P g S) (hc : S.cost = 0) (hl : rm ≤ LIM) (hA : ∀ ρ : Nat → Nat, (A 0).map (AV.ren ρ) = A (ρ 0)) (ho : ∀ ρ, o.ren ρ = o) (ho' : ∀ ρ, o'.ren ρ = o') (hr : ∀ ρ, r0.ren ρ = r0)
    (hk : H k = some o) (ha : nrmArgs fr xs = A k) (hpre : S.pre (A 0) [o]) (hpost : ∀ r obs', S.post (A 0) [o] r obs' → r = r0 ∧ obs' = [some o']) (hK : K r0 (hupd k (some o') H) rm) : MQ P nm fr H rm K g S xs := by
  have e0 : nmapS S.st [k] nm 0 = k := nmap_lt (s := S.st) rfl
  refine ⟨⟨hv, by rw [hc]; exact hl, [k], A 0, [o], by simp, rfl, fun i k' h => ?_, ?_, hpre, fun r obs' hp _ _ => ?_⟩⟩
  · match i, h with
    | 0, h => cases h; exact ⟨_, rfl, by rw [ho]; exact hk⟩
    | i + 1, h => simp at h
  · rw [ha, hA, e0]
  · obtain ⟨rfl, rfl⟩ := hpost r obs' hp
    rw [hc]
    show K (r.ren _) (hupd (nmapS S.st [k] nm 0) (some (o'.ren _)) H) _
    rw [hr, ho', e0]
    exact hK
theorem mq_0 {r0 : AV} {b : List AV} (hv : ValidM P g S) (hc : S.cost = 0) (hl : rm ≤ LIM) (hb : ∀ ρ, b.map (AV.ren ρ) = b) (hr : ∀ ρ, r0.ren ρ = r0)
    (ha : nrmArgs fr xs = b) (hpre : S.pre b []) (hpost : ∀ r obs', S.post b [] r obs' → r = r0 ∧ obs' = []) (hK : K r0 H rm) : MQ P nm fr H rm K g S xs := by
  refine ⟨⟨hv, by rw [hc]; exact hl, [], b, [], by simp, rfl, fun i k' h => by simp at h, by rw [ha]; exact hb _, hpre, fun r obs' hp _ _ => ?_⟩⟩
  obtain ⟨rfl, rfl⟩ := hpost r obs' hp
  rw [hc]
  show K (r.ren _) H _
  rw [hr]
  exact hK
theorem finM_1 {o' : Ob} {r0 : AV} {az : List AW} (hrm : rm' ≤ lim) (h0 : H 0 = some o') (ho : ∀ ρ, o'.ren ρ = o') (hres : resM [0] fr H res az) (hr : resV az = r0.ren (nmap [0] nx)) (hpost : post r0 [some o']) :
    rm' ≤ lim ∧ ∃ (ks : List Nat) (az : List AW) (r : AV) (obs' : List (Option Ob)), resM ks fr H res az ∧ resV az = r.ren (nmap ks nx) ∧ post r obs' ∧
      ks.Nodup ∧ (∀ i, i < 1 → ks[i]? = some i) ∧ obs'.length = ks.length ∧
      ∀ (i k : Nat), ks[i]? = some k → (∃ ob : Ob, obs'[i]? = some (some ob) ∧ H k = some (ob.ren (nmap ks nx))) ∨ (obs'[i]? = some none ∧ H k = none) := by
  refine ⟨hrm, [0], az, r0, _, hres, hr, hpost, by decide, fun i hi => ?_, rfl, fun i k h => .inl ?_⟩
  · match i, hi with
    | 0, _ => rfl
  · match i, h with
    | 0, h => cases h; exact ⟨_, rfl, by rw [ho]; exact h0⟩
    | i + 1, h => simp at h
theorem finM_0 {r0 : AV} {az : List AW} (hrm : rm' ≤ lim) (hres : resM [] fr H res az) (hr : resV az = r0.ren (nmap [] nx)) (hpost : post r0 []) :
    rm' ≤ lim ∧ ∃ (ks : List Nat) (az : List AW) (r : AV) (obs' : List (Option Ob)), resM ks fr H res az ∧ resV az = r.ren (nmap ks nx) ∧ post r obs' ∧
      ks.Nodup ∧ (∀ i, i < 0 → ks[i]? = some i) ∧ obs'.length = ks.length ∧
      ∀ (i k : Nat), ks[i]? = some k → (∃ ob : Ob, obs'[i]? = some (some ob) ∧ H k = some (ob.ren (nmap ks nx))) ∨ (obs'[i]? = some none ∧ H k = none) :=
  ⟨hrm, [], az, r0, [], hres, hr, hpost, List.nodup_nil, fun i hi => absurd hi (Nat.not_lt_zero i), rfl, fun i k h => by simp at h⟩
end
noncomputable def S_laws_eqNode : FSpec := tF (α := (Nd) × (Nd)) (fun a => [agg (ndF a.1), agg (ndF a.2)]) (fun a => FitVs a.1.seen ∧ FitVs a.2.seen) (fun a => a.1 = a.2) (fun _ => rfl)
noncomputable def S_laws_eqNodeS : FSpec := tF (α := (List Nd) × (List Nd)) (fun a => [one (ndsF a.1), one (ndsF a.2)]) (fun a => FitNs a.1 ∧ FitNs a.2) (fun a => a.1 = a.2) (fun _ => rfl)
noncomputable def S_laws_eqWorld : FSpec := tF (α := (Wo) × (Wo)) (fun a => [agg (woF a.1), agg (woF a.2)]) (fun a => FitNs a.1.nodes ∧ FitVs a.1.log ∧ FitNs a.2.nodes ∧ FitVs a.2.log) (fun a => a.1 = a.2) (fun _ => rfl)
noncomputable def S_laws_markItemS : FSpec := iF (α := (List It) × (Int)) (fun a => [one (chF a.1), I a.2]) (fun a => a.1 = []) (fun a => a.2) (fun _ => rfl)
noncomputable def S_laws_markVoteS : FSpec := iF (α := (List Vo) × (Int)) (fun a => [one (vsF a.1), I a.2]) (fun a => a.1 = []) (fun a => a.2) (fun _ => rfl)
noncomputable def S_laws_heldVoteS : FSpec := iF (α := (List Vo) × (Int)) (fun a => [one (vsF a.1), I a.2]) (fun a => a.1 = []) (fun a => a.2) (fun _ => rfl)
noncomputable def S_laws_heldNodeS : FSpec := iF (α := (List Nd) × (Int)) (fun a => [one (ndsF a.1), I a.2]) (fun a => a.2 = 1 ∧ MkNs a.1) (fun a => 1 + 3 * (a.1.length : Int)) (fun _ => rfl)
noncomputable def S_laws_heldWorld : FSpec := iF (α := (Wo) × (Int)) (fun a => [agg (woF a.1), I a.2]) (fun a => a.2 = 1 ∧ MkNs a.1.nodes ∧ a.1.log = []) (fun a => 1 + 3 * (a.1.nodes.length : Int)) (fun _ => rfl)
noncomputable def S_laws_FnExactWorldNew : FSpec := tF (α := (Int)) (fun a => [I a]) (fun a => True) (fun a => True) (fun _ => rfl)
theorem K_laws_eqNode {a : (Nd) × (Nd)} {r : AV} (h : S_laws_eqNode.post ([agg (ndF a.1), agg (ndF a.2)]) r) : (a.1 = a.2 ∧ r = B true) ∨ (¬ (a.1 = a.2) ∧ r = B false) :=
  tF_post (hcl := fun _ => rfl) (a := a) (by rintro ⟨x0, x1⟩ ⟨y0, y1⟩ h; simp only [List.cons.injEq, and_true, true_and, one_inj, agg_inj, paF_inj, itF_inj, chF_inj, voF_inj, vsF_inj, csF_inj, nsF_inj, nssF_inj, ndF_inj, ceF_inj, woF_inj, evF_inj, byF_inj, ndsF_inj, evsF_inj, pasF_inj, aI_inj, aB_inj, aRp_inj, fI_inj, fBo_inj] at h; obtain ⟨rfl, rfl⟩ := h; rfl) h
theorem K_laws_eqNodeS {a : (List Nd) × (List Nd)} {r : AV} (h : S_laws_eqNodeS.post ([one (ndsF a.1), one (ndsF a.2)]) r) : (a.1 = a.2 ∧ r = B true) ∨ (¬ (a.1 = a.2) ∧ r = B false) :=
  tF_post (hcl := fun _ => rfl) (a := a) (by rintro ⟨x0, x1⟩ ⟨y0, y1⟩ h; simp only [List.cons.injEq, and_true, true_and, one_inj, agg_inj, paF_inj, itF_inj, chF_inj, voF_inj, vsF_inj, csF_inj, nsF_inj, nssF_inj, ndF_inj, ceF_inj, woF_inj, evF_inj, byF_inj, ndsF_inj, evsF_inj, pasF_inj, aI_inj, aB_inj, aRp_inj, fI_inj, fBo_inj] at h; obtain ⟨rfl, rfl⟩ := h; rfl) h
theorem K_laws_eqWorld {a : (Wo) × (Wo)} {r : AV} (h : S_laws_eqWorld.post ([agg (woF a.1), agg (woF a.2)]) r) : (a.1 = a.2 ∧ r = B true) ∨ (¬ (a.1 = a.2) ∧ r = B false) :=
  tF_post (hcl := fun _ => rfl) (a := a) (by rintro ⟨x0, x1⟩ ⟨y0, y1⟩ h; simp only [List.cons.injEq, and_true, true_and, one_inj, agg_inj, paF_inj, itF_inj, chF_inj, voF_inj, vsF_inj, csF_inj, nsF_inj, nssF_inj, ndF_inj, ceF_inj, woF_inj, evF_inj, byF_inj, ndsF_inj, evsF_inj, pasF_inj, aI_inj, aB_inj, aRp_inj, fI_inj, fBo_inj] at h; obtain ⟨rfl, rfl⟩ := h; rfl) h
theorem K_laws_markVoteS {a : (List Vo) × (Int)} {r : AV} (h : S_laws_markVoteS.post ([one (vsF a.1), I a.2]) r) : r = I (a.2) :=
  iF_post (hcl := fun _ => rfl) (a := a) (by rintro ⟨x0, x1⟩ ⟨y0, y1⟩ h; simp only [List.cons.injEq, and_true, true_and, one_inj, agg_inj, paF_inj, itF_inj, chF_inj, voF_inj, vsF_inj, csF_inj, nsF_inj, nssF_inj, ndF_inj, ceF_inj, woF_inj, evF_inj, byF_inj, ndsF_inj, evsF_inj, pasF_inj, aI_inj, aB_inj, aRp_inj, fI_inj, fBo_inj] at h; obtain ⟨rfl, rfl⟩ := h; rfl) h
theorem K_laws_heldVoteS {a : (List Vo) × (Int)} {r : AV} (h : S_laws_heldVoteS.post ([one (vsF a.1), I a.2]) r) : r = I (a.2) :=
  iF_post (hcl := fun _ => rfl) (a := a) (by rintro ⟨x0, x1⟩ ⟨y0, y1⟩ h; simp only [List.cons.injEq, and_true, true_and, one_inj, agg_inj, paF_inj, itF_inj, chF_inj, voF_inj, vsF_inj, csF_inj, nsF_inj, nssF_inj, ndF_inj, ceF_inj, woF_inj, evF_inj, byF_inj, ndsF_inj, evsF_inj, pasF_inj, aI_inj, aB_inj, aRp_inj, fI_inj, fBo_inj] at h; obtain ⟨rfl, rfl⟩ := h; rfl) h
theorem K_laws_heldNodeS {a : (List Nd) × (Int)} {r : AV} (h : S_laws_heldNodeS.post ([one (ndsF a.1), I a.2]) r) : r = I (1 + 3 * (a.1.length : Int)) :=
  iF_post (hcl := fun _ => rfl) (a := a) (by rintro ⟨x0, x1⟩ ⟨y0, y1⟩ h; simp only [List.cons.injEq, and_true, true_and, one_inj, agg_inj, paF_inj, itF_inj, chF_inj, voF_inj, vsF_inj, csF_inj, nsF_inj, nssF_inj, ndF_inj, ceF_inj, woF_inj, evF_inj, byF_inj, ndsF_inj, evsF_inj, pasF_inj, aI_inj, aB_inj, aRp_inj, fI_inj, fBo_inj] at h; obtain ⟨rfl, rfl⟩ := h; rfl) h
theorem K_laws_heldWorld {a : (Wo) × (Int)} {r : AV} (h : S_laws_heldWorld.post ([agg (woF a.1), I a.2]) r) : r = I (1 + 3 * (a.1.nodes.length : Int)) :=
  iF_post (hcl := fun _ => rfl) (a := a) (by rintro ⟨x0, x1⟩ ⟨y0, y1⟩ h; simp only [List.cons.injEq, and_true, true_and, one_inj, agg_inj, paF_inj, itF_inj, chF_inj, voF_inj, vsF_inj, csF_inj, nsF_inj, nssF_inj, ndF_inj, ceF_inj, woF_inj, evF_inj, byF_inj, ndsF_inj, evsF_inj, pasF_inj, aI_inj, aB_inj, aRp_inj, fI_inj, fBo_inj] at h; obtain ⟨rfl, rfl⟩ := h; rfl) h
theorem K_laws_FnExactWorldNew {a : (Int)} {r : AV} (h : S_laws_FnExactWorldNew.post ([I a]) r) : (True ∧ r = B true) ∨ (¬ (True) ∧ r = B false) :=
  tF_post (hcl := fun _ => rfl) (a := a) (by intro a b h; simpa only [List.cons.injEq, and_true, true_and, one_inj, agg_inj, paF_inj, itF_inj, chF_inj, voF_inj, vsF_inj, csF_inj, nsF_inj, nssF_inj, ndF_inj, ceF_inj, woF_inj, evF_inj, byF_inj, ndsF_inj, evsF_inj, pasF_inj, aI_inj, aB_inj, aRp_inj, fI_inj, fBo_inj] using h) h
end Av
end Go.Proofs.Ytfijfccgghhkoaa
