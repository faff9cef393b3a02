/- The contracts of the reference's functions on worlds, as they are drawn. -/
import Derived.Test.YtlbdoamidblkaaaZJ
set_option linter.unusedVariables false
set_option linter.unusedSimpArgs false
namespace Go.Proofs.Ytlbdoamidblkaaa
namespace Av
open Go.RowKit
theorem allO_of {α β : Type} {g : α → Option β} : ∀ {l : List α} {m : List β}, l.length = m.length → (∀ (i : Nat) x y, l[i]? = some x → m[i]? = some y → g x = some y) → allO g l = some m
  | [], [], _, _ => rfl
  | x :: l, y :: m, h, h' => by
    have h1 := h' 0 x y rfl rfl
    have h2 := allO_of (l := l) (m := m) (by simpa using h) (fun i x y a b => h' (i + 1) x y (by simpa using a) (by simpa using b))
    simp only [allO, h1, h2]; rfl
  | [], _ :: _, h, _ => by simp at h
  | _ :: _, [], h, _ => by simp at h
/-- A world, as one sees it who only reads. -/
theorem bor_W {H : Hp} {w : Wo} {kN : Nat} {f : Nat → Nat} (h : H kN = some (arrK f w.nodes)) (hl : w.nodes.length = 4) : borV H [none, some 4, some 2] (wv w kN f) = agg (woF w) := by
  have hb : bor H (some 4) (.ow kN) = .c (.sl 4 (w.nodes.map ndF)) := by
    have hd : allO (allO (deep H 3 4)) (ndsK f w.nodes) = some (w.nodes.map ndF) := by
      refine allO_of (by simp [ndsK_len]) fun i x y h1 h2 => ?_
      rw [ndsK_get] at h1
      rw [List.getElem?_map] at h2
      cases hn : w.nodes[i]? with
      | none => rw [hn] at h1; cases h1
      | some n =>
        rw [hn] at h1 h2
        cases h1; cases h2
        rfl
    have hf : fcellss (ndsK f w.nodes) = none := by
      cases hn : w.nodes with
      | nil => rw [hn] at hl; cases hl
      | cons n r => simp only [ndsK, List.mapIdx_cons]; rfl
    simp only [bor, h, arrK, hf, hd]
  show AV.w (.g [cI w.ep, bor H (some 4) (.ow kN), .c (vsF w.log), cI w.bad]) = _
  rw [hb]; rfl
def newW (bad : Int) : Wo := ⟨0, [⟨1, 0, 0, []⟩, ⟨2, 0, 0, []⟩, ⟨3, 0, 0, []⟩, ⟨4, 0, 0, []⟩], [], bad⟩
theorem newW_inv {bad : Int} (h : In bad 0 4) : WInv (newW bad) := by
  have hs : SeenB [] := ⟨Nat.zero_le _, fun v hv => by cases hv⟩
  refine ⟨⟨Int.le_refl 0, (by decide : (0 : Int) ≤ 30)⟩, h, rfl, hs, fun n hn => ?_⟩
  simp only [newW, List.mem_cons, List.not_mem_nil, or_false] at hn
  rcases hn with rfl | rfl | rfl | rfl <;> exact ⟨⟨by decide, by decide⟩, ⟨by decide, by decide⟩, hs⟩
/-- Nodes as they are drawn, some spoilt. -/
def DrN (n : Nd) : Prop := n.seen.length ≤ 81 ∧ (∀ v, v ∈ n.seen → v.c.length ≤ 16) ∧ In n.ep 0 30
theorem DrN.fit {n : Nd} (h : DrN n) : FitVs n.seen := ⟨Nat.le_trans h.1 (by decide), fun v hv => Nat.le_trans (h.2.1 v hv) (by decide)⟩
theorem DrN.lt {n : Nd} (h : DrN n) : n.seen.length < LIM := Nat.lt_of_le_of_lt h.1 (by decide)
theorem ok2 {D : Nat → Prop} {a b : List FV} {c : AC} (hc : okC D c) : okV D (.tup [.g (a.map AC.c), .o c]) := by
  intro d hd
  simp only [List.mem_cons, List.not_mem_nil, or_false] at hd
  rcases hd with rfl | rfl
  · exact ok_agg _ _
  · exact hc
noncomputable def S_spec_l21Room : FSpec := tF (α := (Wo)) (fun a => [agg (woF a)]) (fun a => FitVs a.log ∧ a.nodes.length = 4) (fun a => a.log.length < 80) (fun _ => rfl)
theorem K_spec_l21Room {a : (Wo)} {r : AV} (h : S_spec_l21Room.post ([agg (woF a)]) r) : (a.log.length < 80 ∧ r = B true) ∨ (¬ (a.log.length < 80) ∧ r = B false) :=
  tF_post (hcl := fun _ => rfl) (a := a) (by intro a b h; simpa only [List.cons.injEq, and_true, true_and, one_inj, agg_inj, paF_inj, itF_inj, chF_inj, voF_inj, vsF_inj, csF_inj, nsF_inj, nssF_inj, ndF_inj, ceF_inj, woF_inj, evF_inj, byF_inj, ndsF_inj, evsF_inj, pasF_inj, aI_inj, aB_inj, aRp_inj, fI_inj, fBo_inj] using h) h
/-! ### worlds that are written -/
def S_spec_NodeNew : MSpec := mkN (α := Int) (fun i => [I i]) (fun i => In i 1 4) (fun i r obs' => r = .tup [.g (ndK ⟨i, 0, 0, []⟩ 0), .o (cB true)] ∧ obs' = [some (tokO [])]) 0
  (fun i _ => ⟨_, _, ⟨rfl, rfl⟩, fun c hc => by
    simp only [List.mem_cons, List.not_mem_nil, or_false] at hc
    rcases hc with rfl | rfl
    · exact okNd Nat.one_pos
    · trivial, ok_sg trivial⟩) (fun b r obs' ⟨_, h⟩ => by rw [h]; simp)
theorem K_spec_NodeNew {i : Int} {r : AV} {obs' : List (Option Ob)} (h : S_spec_NodeNew.post [I i] [] r obs') : r = .tup [.g (ndK ⟨i, 0, 0, []⟩ 0), .o (cB true)] ∧ obs' = [some (tokO [])] :=
  mkN_post (enc := fun i => [I i]) (a := i) (R := fun i r obs' => r = .tup [.g (ndK ⟨i, 0, 0, []⟩ 0), .o (cB true)] ∧ obs' = [some (tokO [])]) (fun _ _ h => by simpa only [List.cons.injEq, and_true, aI_inj] using h) h
theorem okArr {D : Nat → Prop} {f : Nat → Nat} {ns : List Nd} (hl : ns.length = 4) (h : ∀ i, i < 4 → D (f (i + 1))) : okOb D (arrK f ns) := by
  intro x hx c hc
  obtain ⟨i, hi⟩ := List.mem_iff_getElem?.1 hx
  rw [ndsK_get] at hi
  cases hn : ns[i]? with
  | none => rw [hn] at hi; cases hi
  | some n =>
    rw [hn] at hi
    cases hi
    have hlt := (List.getElem?_eq_some_iff.1 hn).1
    exact okNd (n := n) (k := f (i + 1)) (h i (by omega)) c hc
def RNew (bad : Int) (r : AV) (obs' : List (Option Ob)) : Prop := r = .tup [.g (wvC (newW bad) 0 stdF), .o (cB true)] ∧ obs' = (obsW (newW bad)).map some
def S_spec_WorldNew : MSpec := mkN (α := Int) (fun i => [I i]) (fun i => In i 0 4) RNew 0 (fun i _ => ⟨_, _, ⟨rfl, rfl⟩, fun c hc => by
    simp only [List.mem_cons, List.not_mem_nil, or_false] at hc
    rcases hc with rfl | rfl
    · intro c hc
      simp only [wvC, List.mem_cons, List.not_mem_nil, or_false] at hc
      rcases hc with rfl | rfl | rfl | rfl
      · trivial
      · show 0 < 6; decide
      · show 1 < 6; decide
      · trivial
    · trivial, fun j ob h => by
    match j, h with
    | 0, h => cases h; exact okArr rfl fun k hk => (by show k + 1 + 1 < 6; omega)
    | 1, h => cases h; trivial
    | 2, h => cases h; trivial
    | 3, h => cases h; trivial
    | 4, h => cases h; trivial
    | 5, h => cases h; trivial
    | j + 6, h => simp [obsW] at h⟩) (fun b r obs' ⟨_, h⟩ => by rw [h]; simp [obsW])
theorem K_spec_WorldNew {i : Int} {r : AV} {obs' : List (Option Ob)} (h : S_spec_WorldNew.post [I i] [] r obs') : RNew i r obs' :=
  mkN_post (enc := fun i => [I i]) (a := i) (R := RNew) (fun _ _ h => by simpa only [List.cons.injEq, and_true, aI_inj] using h) h
theorem mkW_post {α : Type} {wo : α → Wo} {enc : α → List AV} {p : α → Prop} {out : α → Wo} {hout} (hinj : ∀ a b, wo a = wo b → enc a = enc b → a = b) {a : α} {r : AV} {obs' : List (Option Ob)}
    (h : (mkW wo enc p out hout).post (wv (wo a) 0 stdF :: enc a) (obsW (wo a)) r obs') : RW' (out a) r obs' :=
  mkM_post (enc := fun a => wv (wo a) 0 stdF :: enc a) (ob := fun a => obsW (wo a)) (R := fun a r obs' => RW' (out a) r obs') (fun a b h1 h2 => by
    obtain ⟨h3, h4⟩ := List.cons.inj h1
    exact hinj a b (wv_inj h3 h2) h4) h
def S_spec_l21Tick : MSpec := mkW (α := Wo) (fun w => w) (fun _ => []) WInv tickW (fun w h => (tickW_inv h).2.2.1)
theorem K_spec_l21Tick {w : Wo} {r : AV} {obs' : List (Option Ob)} (h : S_spec_l21Tick.post [wv w 0 stdF] (obsW w) r obs') : RW' (tickW w) r obs' :=
  mkW_post (wo := fun w => w) (enc := fun _ => []) (out := tickW) (a := w) (fun _ _ h _ => h) h
theorem sendW_nodes (w : Wo) (v : Vo) (ok : Bool) : (sendW w v ok).nodes = w.nodes := by unfold sendW; split <;> rfl
noncomputable def S_spec_l21Send : MSpec := mkW (α := Wo × Vo × Bool) (fun a => a.1) (fun a => [agg (voF a.2.1), B a.2.2]) (fun a => WInv a.1 ∧ FitV a.2.1) (fun a => sendW a.1 a.2.1 a.2.2) (fun a h => by rw [sendW_nodes]; exact h.1.2.2.1)
theorem K_spec_l21Send {w : Wo} {v : Vo} {ok : Bool} {r : AV} {obs' : List (Option Ob)} (h : S_spec_l21Send.post [wv w 0 stdF, agg (voF v), B ok] (obsW w) r obs') : RW' (sendW w v ok) r obs' :=
  mkW_post (wo := fun a : Wo × Vo × Bool => a.1) (enc := fun a => [agg (voF a.2.1), B a.2.2]) (out := fun a => sendW a.1 a.2.1 a.2.2) (a := (w, v, ok)) (by
    rintro ⟨a, b, c⟩ ⟨a', b', c'⟩ rfl h
    simp only [List.cons.injEq, and_true, agg_inj, voF_inj, aB_inj] at h
    obtain ⟨rfl, rfl⟩ := h; rfl) h
noncomputable def S_spec_l21Propose : MSpec := mkW (α := Wo × Int × Pa) (fun a => a.1) (fun a => [I a.2.1, agg (paF a.2.2)]) (fun a => WInv a.1) (fun a => propW a.1 a.2.1 a.2.2) (fun a h => (propW_inv h).2.2.1)
theorem K_spec_l21Propose {w : Wo} {k : Int} {p : Pa} {r : AV} {obs' : List (Option Ob)} (h : S_spec_l21Propose.post [wv w 0 stdF, I k, agg (paF p)] (obsW w) r obs') : RW' (propW w k p) r obs' :=
  mkW_post (wo := fun a : Wo × Int × Pa => a.1) (enc := fun a => [I a.2.1, agg (paF a.2.2)]) (out := fun a => propW a.1 a.2.1 a.2.2) (a := (w, k, p)) (by
    rintro ⟨a, b, c⟩ ⟨a', b', c'⟩ rfl h
    simp only [List.cons.injEq, and_true, agg_inj, paF_inj, aI_inj] at h
    obtain ⟨rfl, rfl⟩ := h; rfl) h
noncomputable def S_spec_l21Bring : MSpec := mkW (α := Wo × Int × Int) (fun a => a.1) (fun a => [I a.2.1, I a.2.2]) (fun a => WInv a.1) (fun a => bringW a.1 a.2.1 a.2.2) (fun a h => (bringW_inv h).2.2.1)
theorem K_spec_l21Bring {w : Wo} {j k : Int} {r : AV} {obs' : List (Option Ob)} (h : S_spec_l21Bring.post [wv w 0 stdF, I j, I k] (obsW w) r obs') : RW' (bringW w j k) r obs' :=
  mkW_post (wo := fun a : Wo × Int × Int => a.1) (enc := fun a => [I a.2.1, I a.2.2]) (out := fun a => bringW a.1 a.2.1 a.2.2) (a := (w, j, k)) (by
    rintro ⟨a, b, c⟩ ⟨a', b', c'⟩ rfl h
    simp only [List.cons.injEq, and_true, aI_inj] at h
    obtain ⟨rfl, rfl⟩ := h; rfl) h
noncomputable def S_spec_l21Do : MSpec := mkW (α := Wo × Ev) (fun a => a.1) (fun a => [agg (evF a.2)]) (fun a => WInv a.1 ∧ FitV a.2.v) (fun a => doW a.1 a.2) (fun a h => (doW_inv h.1).2.2.1)
theorem K_spec_l21Do {w : Wo} {e : Ev} {r : AV} {obs' : List (Option Ob)} (h : S_spec_l21Do.post [wv w 0 stdF, agg (evF e)] (obsW w) r obs') : RW' (doW w e) r obs' :=
  mkW_post (wo := fun a : Wo × Ev => a.1) (enc := fun a => [agg (evF a.2)]) (out := fun a => doW a.1 a.2) (a := (w, e)) (by
    rintro ⟨a, b⟩ ⟨a', b'⟩ rfl h
    simp only [List.cons.injEq, and_true, agg_inj, evF_inj] at h
    subst h; rfl) h
/-! ### what is drawn in a world -/
def argR (w : Wo) : List AV := [.w (.o (.ptr 6 0)), wv w 0 stdF]
def obsR (w : Wo) (b : List Int) : List Ob := obsW w ++ [rdO b]
theorem okObsR {w : Wo} {b : List Int} (hl : w.nodes.length = 4) : ∀ (j : Nat) ob, ((obsR w b).map some)[j]? = some (some ob) → okOb (· < ((obsR w b).map some).length) ob := by
  intro j ob h
  match j, h with
  | 0, h =>
    cases h
    intro x hx c hc
    obtain ⟨i, hi⟩ := List.mem_iff_getElem?.1 hx
    rw [ndsK_get] at hi
    cases hn : w.nodes[i]? with
    | none => rw [hn] at hi; cases hi
    | some n =>
      rw [hn] at hi
      cases hi
      have hlt := (List.getElem?_eq_some_iff.1 hn).1
      exact okNd (n := n) (k := stdF (i + 1)) (D := (· < ((obsR w b).map some).length)) (by show i + 1 + 1 < _; simp [obsR, obsW]; omega) c hc
  | 1, h => cases h; trivial
  | 2, h => cases h; trivial
  | 3, h => cases h; trivial
  | 4, h => cases h; trivial
  | 5, h => cases h; trivial
  | 6, h => cases h; trivial
  | j + 7, h => simp [obsR, obsW] at h
def mkR2 (cost : Nat) (Q : AV → Prop) (r0 : AV) (h0 : Q r0) (h1 : okV noN r0) : MSpec := mkM (α := Wo × List Int) (fun a => argR a.1) (fun a => obsR a.1 a.2) (fun a => WInv a.1 ∧ RdOk a.2) (fun a r obs' => Q r ∧ obs' = (obsR a.1 a.2).map some) cost
  (fun a h => ⟨r0, _, ⟨h0, rfl⟩, okV_mono (fun _ h => h.elim) h1, okObsR h.1.2.2.1⟩) (fun a r obs' ⟨_, h⟩ => by rw [h]; simp)
theorem mkR2_post {cost : Nat} {Q : AV → Prop} {r0 h0 h1} {args : List AV} {obs : List Ob} {r : AV} {obs' : List (Option Ob)} (h : (mkR2 cost Q r0 h0 h1).post args obs r obs') : Q r ∧ obs' = obs.map some := by
  obtain ⟨a, rfl, rfl, hq, rfl⟩ := h
  exact ⟨hq, rfl⟩
def QForge (r : AV) : Prop := ∃ v : Vo, r = agg (voF v) ∧ v.c.length ≤ 17
def QEvent (r : AV) : Prop := ∃ e : Ev, r = agg (evF e) ∧ e.v.c.length ≤ 17
def S_spec_l72Forge : MSpec := mkR2 200 QForge (agg (voF zVo)) ⟨zVo, rfl, Nat.zero_le _⟩ (ok_agg _ _)
def S_spec_l72Event : MSpec := mkR2 300 QEvent (agg (evF ⟨0, 0, 0, ⟨0, 0, 0⟩, zVo⟩)) ⟨_, rfl, Nat.zero_le _⟩ (ok_agg _ _)
/-- An event's cells. -/
def EvC (x : List AC) (e : Ev) : Prop := x = (evF e).map AC.c ∨ (e.v.c = [] ∧ x = [cI e.k, cI e.a, cI e.b, cI e.p.f, cI e.p.t, cI e.p.s, cI e.v.n, .e0])
def EvL (evs : List (List AC)) : Prop := ∀ x, x ∈ evs → ∃ e : Ev, EvC x e ∧ e.v.c.length ≤ 17
theorem evC_cl {x : List AC} (h : ∃ e : Ev, EvC x e ∧ e.v.c.length ≤ 17) : x.all clC = true := by
  obtain ⟨e, rfl | ⟨_, rfl⟩, _⟩ := h
  · rw [List.all_eq_true]
    intro c hc
    obtain ⟨y, _, rfl⟩ := List.mem_map.1 hc; rfl
  · rfl
def obsP (w : Wo) (b : List Int) (evs : List (List AC)) : List (Option Ob) := [some (rdO b), some (.arr ty_impl_Event 8 evs), some (arrK (· + 3) w.nodes), some (tokO (lst w 0)), some (tokO (lst w 1)), some (tokO (lst w 2)), some (tokO (lst w 3)), some (tokO (lst w 4))]
def RPlay (b : List Int) (r : AV) (obs' : List (Option Ob)) : Prop := ∃ (bad : Int) (w : Wo) (evs : List (List AC)), r = .tup [.o (cI bad), .o (.ow 1), .g (wvC w 2 (· + 3))] ∧ WInv w ∧ In bad 0 4 ∧ (EvL evs ∧ evs.length ≤ 69) ∧ obs' = obsP w b evs
theorem inhPlay (b : List Int) : ∃ r obs', RPlay b r obs' ∧ okV (· < obs'.length) r ∧ ∀ (j : Nat) ob, obs'[j]? = some (some ob) → okOb (· < obs'.length) ob := by
  refine ⟨_, _, ⟨0, newW 0, [], rfl, newW_inv ⟨by decide, by decide⟩, ⟨by decide, by decide⟩, ⟨(fun x hx => by cases hx), Nat.zero_le _⟩, rfl⟩, ?_, ?_⟩
  · intro c hc
    simp only [List.mem_cons, List.not_mem_nil, or_false] at hc
    rcases hc with rfl | rfl | rfl
    · trivial
    · show 1 < 8; decide
    · intro c hc
      simp only [wvC, List.mem_cons, List.not_mem_nil, or_false] at hc
      rcases hc with rfl | rfl | rfl | rfl
      · trivial
      · show 2 < 8; decide
      · show 3 < 8; decide
      · trivial
  · intro j ob h
    match j, h with
    | 0, h => cases h; trivial
    | 1, h => cases h; intro x hx; cases hx
    | 2, h =>
      cases h
      intro x hx c hc
      obtain ⟨i, hi⟩ := List.mem_iff_getElem?.1 hx
      rw [ndsK_get] at hi
      cases hn : (newW 0).nodes[i]? with
      | none => rw [hn] at hi; cases hi
      | some n =>
        rw [hn] at hi
        cases hi
        have hlt : i < 4 := (List.getElem?_eq_some_iff.1 hn).1
        exact okNd (n := n) (k := i + 1 + 3) (D := (· < 8)) (by show i + 1 + 3 < 8; omega) c hc
    | 3, h => cases h; trivial
    | 4, h => cases h; trivial
    | 5, h => cases h; trivial
    | 6, h => cases h; trivial
    | 7, h => cases h; trivial
    | j + 8, h => simp [obsP] at h
def S_spec_l72Play : MSpec := mkM (α := List Int) (fun _ => [pt0]) (fun b => [rdO b]) RdOk RPlay 30000 (fun b _ => inhPlay b) (fun b r obs' ⟨_, _, _, _, _, _, _, h⟩ => by rw [h]; simp [obsP])
theorem K_spec_l72Play {b : List Int} {r : AV} {obs' : List (Option Ob)} (h : S_spec_l72Play.post [pt0] [rdO b] r obs') : RPlay b r obs' := by
  obtain ⟨a, _, h2, h3⟩ := h
  have : byF b = byF a := Ob.rd.inj (List.cons.inj h2).1
  rw [byF_inj.1 this]; exact h3
end Av
end Go.Proofs.Ytlbdoamidblkaaa
