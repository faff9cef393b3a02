/- The program's worlds in memory: contracts of what writes them. -/
import Derived.Test.YtlbdoamidblkaaaWL
import Derived.Test.YtlbdoamidblkaaaWK
set_option linter.unusedVariables false
set_option linter.unusedSimpArgs false
namespace Go.Proofs.Ytlbdoamidblkaaa
namespace Av
open Go.RowKit
/-- A world in a variable; its nodes' array is k. -/
def wiC (w : Wo) (k : Nat) : List AC := [cI w.ep, .ow k, .c (vsF w.log), cI w.bad]
def nsO (w : Wo) : Ob := .arr ty_impl_Node 4 (arA ndF w.nodes)
def obsI (w : Wo) : List Ob := [.cells (wiC w 1), nsO w]
theorem obsI_inj {a b : Wo} (h : obsI a = obsI b) : a = b := by
  have h1 := Ob.cells.inj (List.cons.inj h).1
  have h2 := (Ob.arr.inj (List.cons.inj (List.cons.inj h).2).1).2.2
  have hn := arA_inj (fun _ _ h => ndF_inj.1 h) h2
  simp only [wiC, List.cons.injEq, and_true, true_and, AC.c.injEq, FV.v.injEq, Value.int.injEq, vsF_inj] at h1
  obtain ⟨e1, e2, e3⟩ := h1
  cases a; cases b
  simp only at hn e1 e2 e3
  subst hn e1 e2 e3; rfl
theorem obsI_ok (w : Wo) : ∀ (j : Nat) o, ((obsI w).map some)[j]? = some (some o) → okOb (· < 2) o := ok_two (fun c hc => by
  simp only [wiC, List.mem_cons, List.not_mem_nil, or_false] at hc
  rcases hc with rfl | rfl | rfl | rfl
  · trivial
  · show 1 < 2; decide
  · trivial
  · trivial) (arA_ok _)
theorem wiC_ren {w : Wo} {k : Nat} {ρ : Nat → Nat} : (wiC w k).map (AC.ren ρ) = wiC w (ρ k) := rfl
theorem nsO_ren {w : Wo} {ρ : Nat → Nat} : (nsO w).ren ρ = nsO w := arr_ren ..
def mkI {α : Type} (wo : α → Wo) (enc : α → List AV) (p : α → Prop) (out : α → Wo) : MSpec :=
  mkM (α := α) (fun a => pt0 :: enc a) (fun a => obsI (wo a)) p (fun a r obs' => r = .tup [] ∧ obs' = (obsI (out a)).map some) 0
    (fun a _ => ⟨_, _, ⟨rfl, rfl⟩, (fun c hc => by cases hc), obsI_ok _⟩) (fun a r obs' ⟨_, h⟩ => by rw [h]; simp [obsI])
theorem mkI_post {α : Type} {wo : α → Wo} {enc : α → List AV} {p : α → Prop} {out : α → Wo} (hinj : ∀ a b, wo a = wo b → enc a = enc b → a = b) {a : α} {r : AV} {obs' : List (Option Ob)}
    (h : (mkI wo enc p out).post (pt0 :: enc a) (obsI (wo a)) r obs') : r = .tup [] ∧ obs' = (obsI (out a)).map some :=
  mkM_post (enc := fun a => pt0 :: enc a) (ob := fun a => obsI (wo a)) (R := fun a r obs' => r = .tup [] ∧ obs' = (obsI (out a)).map some) (fun a b h1 h2 => hinj a b (obsI_inj h2) (List.cons.inj h1).2) h
section
variable {P : Program} {g : Nat} {S : MSpec} {fr : Env} {H : Hp} {nm nx rm rm' lim : Nat} {K : KV} {xs : List (X × List (Option Nat))} {res : List Rs} {post : AV → List (Option Ob) → Prop}
theorem mq_I {w w' : Wo} {r0 : AV} {kB kN : Nat} {ar : List AV} (hv : ValidM P g S) (hc : S.cost = 0) (hl : rm ≤ LIM) (hB : H kB = some (.cells (wiC w kN))) (hN : H kN = some (nsO w)) (ha : nrmArgs fr xs = .w (.o (.ptr kB 0)) :: ar) (har : ∀ ρ, ar.map (AV.ren ρ) = ar)
    (hpre : S.pre (pt0 :: ar) (obsI w)) (hpost : ∀ r obs', S.post (pt0 :: ar) (obsI w) r obs' → r = r0 ∧ obs' = (obsI w').map some)
    (hK : ∀ ρ : Nat → Nat, ρ 1 = kN → K (r0.ren ρ) (hupd kN (some (nsO w')) (hupd kB (some (.cells (wiC w' kN))) H)) rm) : MQ P nm fr H rm K g S xs := by
  have hne : kB ≠ kN := fun e => by rw [e, hN] at hB; cases hB
  have e0 : nmapS S.st [kB, kN] nm 0 = kB := nmap_lt (s := S.st) rfl
  have e1 : nmapS S.st [kB, kN] nm 1 = kN := nmap_lt (s := S.st) rfl
  refine ⟨⟨hv, by rw [hc]; exact hl, [kB, kN], pt0 :: ar, obsI w, by simp [hne], rfl, fun i k' h => ?_, ?_, hpre, fun r obs' hp _ _ => ?_⟩⟩
  · match i, h with
    | 0, h => cases h; exact ⟨_, rfl, by show _ = some (Ob.cells ((wiC w 1).map _)); rw [wiC_ren, e1]; exact hB⟩
    | 1, h => cases h; exact ⟨_, rfl, by rw [nsO_ren]; exact hN⟩
    | i + 2, h => simp at h
  · rw [ha]
    show AV.w (.o (.ptr (nmapS S.st [kB, kN] nm 0) 0)) :: ar.map (AV.ren _) = _
    rw [e0, har]
  · obtain ⟨rfl, rfl⟩ := hpost r obs' hp
    rw [hc]
    show K _ (hupd (nmapS S.st [kB, kN] nm 1) (some ((nsO w').ren _)) (hupd (nmapS S.st [kB, kN] nm 0) (some (Ob.cells ((wiC w' 1).map _))) H)) _
    rw [nsO_ren, wiC_ren, e0, e1]
    exact hK _ e1
/-- The world goes out as it came in, written. -/
theorem finM_I {w' : Wo} {r0 : AV} {az : List AW} (hrm : rm' ≤ lim) (h0 : H 0 = some (.cells (wiC w' 1))) (h1 : H 1 = some (nsO w')) (hres : resM [0, 1] fr H res az) (hr : resV az = r0.ren (nmap [0, 1] nx)) (hpost : post r0 ((obsI w').map some)) :
    rm' ≤ lim ∧ ∃ (ks : List Nat) (az : List AW) (r : AV) (obs' : List (Option Ob)), resM ks fr H res az ∧ resV az = r.ren (nmap ks nx) ∧ post r obs' ∧
      ks.Nodup ∧ (∀ i, i < 2 → ks[i]? = some i) ∧ obs'.length = ks.length ∧
      ∀ (i k : Nat), ks[i]? = some k → (∃ ob : Ob, obs'[i]? = some (some ob) ∧ H k = some (ob.ren (nmap ks nx))) ∨ (obs'[i]? = some none ∧ H k = none) := by
  have e1 : nmap [0, 1] nx 1 = 1 := nmap_lt (s := 0) rfl
  refine ⟨hrm, [0, 1], az, r0, _, hres, hr, hpost, by decide, fun i hi => ?_, rfl, fun i k h => .inl ?_⟩
  · match i, hi with
    | 0, _ => rfl
    | 1, _ => rfl
  · match i, h with
    | 0, h => cases h; exact ⟨_, rfl, by show _ = some (Ob.cells ((wiC w' 1).map _)); rw [wiC_ren, e1]; exact h0⟩
    | 1, h => cases h; exact ⟨_, rfl, by rw [nsO_ren]; exact h1⟩
    | i + 2, h => simp at h
end
theorem pair_inj {α β : Type} {w w' : α} {x x' : β} (h1 : w = w') (h2 : x = x') : (w, x) = (w', x') := by rw [h1, h2]
def S_impl_World_tick : MSpec := mkI (α := Wo) (fun w => w) (fun _ => []) WJ tickW
theorem K_impl_World_tick {w : Wo} {r : AV} {obs' : List (Option Ob)} (h : S_impl_World_tick.post [pt0] (obsI w) r obs') : r = .tup [] ∧ obs' = (obsI (tickW w)).map some :=
  mkI_post (wo := fun w => w) (enc := fun _ => []) (out := tickW) (a := w) (fun _ _ h _ => h) h
noncomputable def S_impl_World_send : MSpec := mkI (α := Wo × Vo) (fun a => a.1) (fun a => [agg (voF a.2)]) (fun a => SeenB a.1.log ∧ FitV a.2) (fun a => sendW a.1 a.2 true)
theorem K_impl_World_send {w : Wo} {v : Vo} {r : AV} {obs' : List (Option Ob)} (h : S_impl_World_send.post [pt0, agg (voF v)] (obsI w) r obs') : r = .tup [] ∧ obs' = (obsI (sendW w v true)).map some :=
  mkI_post (wo := fun a : Wo × Vo => a.1) (enc := fun a => [agg (voF a.2)]) (out := fun a => sendW a.1 a.2 true) (a := (w, v)) (by
    rintro ⟨a, b⟩ ⟨a', b'⟩ h1 h2
    simp only [List.cons.injEq, and_true, agg_inj, voF_inj] at h2
    exact pair_inj h1 h2) h
noncomputable def S_impl_World_propose : MSpec := mkI (α := Wo × Int × Pa) (fun a => a.1) (fun a => [I a.2.1, agg (paF a.2.2)]) (fun a => WJ a.1) (fun a => propW a.1 a.2.1 a.2.2)
theorem K_impl_World_propose {w : Wo} {k : Int} {p : Pa} {r : AV} {obs' : List (Option Ob)} (h : S_impl_World_propose.post [pt0, I k, agg (paF p)] (obsI w) r obs') : r = .tup [] ∧ obs' = (obsI (propW w k p)).map some :=
  mkI_post (wo := fun a : Wo × Int × Pa => a.1) (enc := fun a => [I a.2.1, agg (paF a.2.2)]) (out := fun a => propW a.1 a.2.1 a.2.2) (a := (w, k, p)) (by
    rintro ⟨a, b, c⟩ ⟨a', b', c'⟩ h1 h2
    simp only [List.cons.injEq, and_true, agg_inj, paF_inj, aI_inj] at h2
    exact pair_inj h1 (pair_inj h2.1 h2.2)) h
noncomputable def S_impl_World_bring : MSpec := mkI (α := Wo × Int × Int) (fun a => a.1) (fun a => [I a.2.1, I a.2.2]) (fun a => WJ a.1) (fun a => bringW a.1 a.2.1 a.2.2)
theorem K_impl_World_bring {w : Wo} {j k : Int} {r : AV} {obs' : List (Option Ob)} (h : S_impl_World_bring.post [pt0, I j, I k] (obsI w) r obs') : r = .tup [] ∧ obs' = (obsI (bringW w j k)).map some :=
  mkI_post (wo := fun a : Wo × Int × Int => a.1) (enc := fun a => [I a.2.1, I a.2.2]) (out := fun a => bringW a.1 a.2.1 a.2.2) (a := (w, j, k)) (by
    rintro ⟨a, b, c⟩ ⟨a', b', c'⟩ h1 h2
    simp only [List.cons.injEq, and_true, aI_inj] at h2
    exact pair_inj h1 (pair_inj h2.1 h2.2)) h
noncomputable def S_impl_World_do : MSpec := mkI (α := Wo × Ev) (fun a => a.1) (fun a => [agg (evF a.2)]) (fun a => WJ a.1 ∧ FitV a.2.v) (fun a => doW a.1 a.2)
theorem K_impl_World_do {w : Wo} {e : Ev} {r : AV} {obs' : List (Option Ob)} (h : S_impl_World_do.post [pt0, agg (evF e)] (obsI w) r obs') : r = .tup [] ∧ obs' = (obsI (doW w e)).map some :=
  mkI_post (wo := fun a : Wo × Ev => a.1) (enc := fun a => [agg (evF a.2)]) (out := fun a => doW a.1 a.2) (a := (w, e)) (by
    rintro ⟨a, b⟩ ⟨a', b'⟩ h1 h2
    simp only [List.cons.injEq, and_true, agg_inj, evF_inj] at h2
    exact pair_inj h1 h2) h
def HonW (w : Wo) (k : Int) : Prop := In k 1 4 ∧ k ≠ w.bad ∧ w.log.length < 80
noncomputable def honR (w : Wo) (k : Int) : AV := if tb (HonW w k) = true then .w (.o (.pa 1 4 (k - 1).toNat 0)) else .w (.o (.c (.v (.pointer none))))
noncomputable def S_impl_World_honest : MSpec := mkM (α := Wo × Int) (fun a => [pt0, I a.2]) (fun a => obsI a.1) (fun a => a.1.nodes.length = 4 ∧ SeenB a.1.log) (fun a r obs' => r = honR a.1 a.2 ∧ obs' = (obsI a.1).map some) 0
  (fun a _ => ⟨_, _, ⟨rfl, rfl⟩, (by unfold honR; split; exact (show 1 < 2 by decide); trivial), obsI_ok _⟩) (fun a r obs' ⟨_, h⟩ => by rw [h]; simp [obsI])
theorem K_impl_World_honest {w : Wo} {k : Int} {r : AV} {obs' : List (Option Ob)} (h : S_impl_World_honest.post [pt0, I k] (obsI w) r obs') : r = honR w k ∧ obs' = (obsI w).map some :=
  mkM_post (enc := fun a : Wo × Int => [pt0, I a.2]) (ob := fun a => obsI a.1) (R := fun a r obs' => r = honR a.1 a.2 ∧ obs' = (obsI a.1).map some) (a := (w, k)) (by
    rintro ⟨a, b⟩ ⟨a', b'⟩ h1 h2
    simp only [List.cons.injEq, and_true, true_and, aI_inj] at h1
    exact pair_inj (obsI_inj h2) h1) h
/-- A world begins: the program's, with empty slices as such, and as they show. -/
def RNew0 (bad : Int) (r : AV) (obs' : List (Option Ob)) : Prop :=
  (In bad 0 4 ∧ r = .tup [.g [cI 0, .ow 0, .e0, cI bad], .o (cB true)] ∧ obs' = [some (.arr ty_impl_Node 4 [[cI 1, cI 0, cI 0, .e0], [cI 2, cI 0, cI 0, .e0], [cI 3, cI 0, cI 0, .e0], [cI 4, cI 0, cI 0, .e0]])]) ∨
  (¬ In bad 0 4 ∧ r = .tup [.g [cI 0, .e0, .e0, cI 0], .o (cB false)] ∧ obs' = [])
def RNewI (bad : Int) (r : AV) (obs' : List (Option Ob)) : Prop :=
  (In bad 0 4 ∧ r = .tup [.g (wiC (newW bad) 0), .o (cB true)] ∧ obs' = [some (nsO (newW bad))]) ∨
  (¬ In bad 0 4 ∧ r = .tup [.g [cI 0, .c (.sl 4 []), .c (vsF []), cI 0], .o (cB false)] ∧ obs' = [])
theorem ok_4 {D : Nat → Prop} {a b c d : AC} {e : AC} (h1 : okC D a) (h2 : okC D b) (h3 : okC D c) (h4 : okC D d) (h5 : okC D e) : okV D (.tup [.g [a, b, c, d], .o e]) := by
  intro x hx
  simp only [List.mem_cons, List.not_mem_nil, or_false] at hx
  rcases hx with rfl | rfl
  · intro y hy
    simp only [List.mem_cons, List.not_mem_nil, or_false] at hy
    rcases hy with rfl | rfl | rfl | rfl <;> assumption
  · exact h5
def S_impl_WorldNew : MSpec := mkN (α := Int) (fun i => [I i]) (fun _ => True) RNew0 0 (fun i _ => by
    by_cases h : In i 0 4
    · refine ⟨_, _, .inl ⟨h, rfl, rfl⟩, ok_4 trivial (show 0 < 1 by decide) trivial trivial trivial, ok_sg fun x hx c hc => ?_⟩
      simp only [List.mem_cons, List.not_mem_nil, or_false] at hx
      rcases hx with rfl | rfl | rfl | rfl <;> (simp only [List.mem_cons, List.not_mem_nil, or_false] at hc; rcases hc with rfl | rfl | rfl | rfl <;> trivial)
    · exact ⟨_, _, .inr ⟨h, rfl, rfl⟩, ok_4 trivial trivial trivial trivial trivial, fun j o h => by simp at h⟩) (fun i r obs' h => by rcases h with ⟨_, _, rfl⟩ | ⟨_, _, rfl⟩ <;> simp)
theorem K_impl_WorldNew {i : Int} {r : AV} {obs' : List (Option Ob)} (h : S_impl_WorldNew.post [I i] [] r obs') : RNew0 i r obs' :=
  mkN_post (enc := fun i => [I i]) (a := i) (R := RNew0) (fun _ _ h => by simpa only [List.cons.injEq, and_true, aI_inj] using h) h
def S_impl_WorldNew_s : MSpec := mkN (α := Int) (fun i => [I i]) (fun _ => True) RNewI 0 (fun i _ => by
    by_cases h : In i 0 4
    · exact ⟨_, _, .inl ⟨h, rfl, rfl⟩, ok_4 trivial (show 0 < 1 by decide) trivial trivial trivial, ok_sg (arA_ok _)⟩
    · exact ⟨_, _, .inr ⟨h, rfl, rfl⟩, ok_4 trivial trivial trivial trivial trivial, fun j o h => by simp at h⟩) (fun i r obs' h => by rcases h with ⟨_, _, rfl⟩ | ⟨_, _, rfl⟩ <;> simp)
theorem K_impl_WorldNew_s {i : Int} {r : AV} {obs' : List (Option Ob)} (h : S_impl_WorldNew_s.post [I i] [] r obs') : RNewI i r obs' :=
  mkN_post (enc := fun i => [I i]) (a := i) (R := RNewI) (fun _ _ h => by simpa only [List.cons.injEq, and_true, aI_inj] using h) h
theorem newI_of_0 {P : Program} {f : Nat} (hv : ValidM P f S_impl_WorldNew) : ValidM P f S_impl_WorldNew_s := by
  refine valid_wk hv rfl (fun args obs ⟨a, h1, h2, h3⟩ => ⟨a, h1, h2, h3⟩) fun args obs r obs' ⟨a, h1, h2, h3⟩ h => ?_
  subst h1 h2
  have w0 : wkC .e0 (.c (vsF [])) := .inr ⟨rfl, 2, rfl⟩
  rcases K_impl_WorldNew h with ⟨q1, rfl, rfl⟩ | ⟨q1, rfl, rfl⟩
  · refine ⟨_, _, ⟨a, rfl, rfl, .inl ⟨q1, rfl, rfl⟩⟩, ⟨⟨.inl rfl, .inl rfl, w0, .inl rfl, trivial⟩, .inl rfl, trivial⟩, ⟨?_, trivial⟩⟩
    exact ⟨_, rfl, ⟨.inl rfl, .inl rfl, .inl rfl, w0, trivial⟩, ⟨.inl rfl, .inl rfl, .inl rfl, w0, trivial⟩, ⟨.inl rfl, .inl rfl, .inl rfl, w0, trivial⟩, ⟨.inl rfl, .inl rfl, .inl rfl, w0, trivial⟩, trivial⟩
  · exact ⟨_, _, ⟨a, rfl, rfl, .inr ⟨q1, rfl, rfl⟩⟩, ⟨⟨.inl rfl, .inr ⟨rfl, 4, rfl⟩, w0, .inl rfl, trivial⟩, .inl rfl, trivial⟩, trivial⟩
end Av
end Go.Proofs.Ytlbdoamidblkaaa
