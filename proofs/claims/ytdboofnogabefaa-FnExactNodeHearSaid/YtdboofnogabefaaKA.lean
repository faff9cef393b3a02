/- Nests that are part of what is handed over, or back. -/
import Derived.Test.YtdboofnogabefaaVA
set_option linter.unusedVariables false
set_option linter.unusedSimpArgs false
namespace Go.Proofs.Ytdboofnogabefaa
namespace Av
open Go.RowKit
section
variable {α : Type} {N : Nest α} {H H' : Hp} {b b' k : Nat} {f : Nat → Nat} {l m : List α}
variable {P : Program} {g : Nat} {S : MSpec} {fr : Env} {nm nx rm rm' lim : Nat} {K : KV} {xs : List (X × List (Option Nat))} {res : List Rs} {post : AV → List (Option Ob) → Prop}
/-- A call that hands back a nest. -/
theorem mq_nestF {F : Nat → AV} (hF : ∀ ρ : Nat → Nat, (F 0).ren ρ = F (ρ 0)) {ar : List AV} (hv : ValidM P g S) (hl : rm + S.cost ≤ LIM) (ha : nrmArgs fr xs = ar) (hr : ar.map (AV.ren (nmapS S.st [] nm)) = ar) (hpre : S.pre ar []) (hst : l.length ≤ 15 + S.st)
    (hpost : ∀ r obs', S.post ar [] r obs' → r = F 0 ∧ obs' = N.obs l)
    (hK : ∀ (n : Nat) (H' : Hp), nm = n → N.At H' (n + 1 + l.length) n (fun j => n + 1 + j) l → (∀ k, k < n → H' k = H k) → K (F n) H' (rm + S.cost)) : MQ P nm fr H rm K g S xs := by
  refine ⟨⟨hv, hl, [], ar, [], by simp, rfl, fun i k' h => by simp at h, by rw [ha, hr], hpre, fun r obs' hp _ _ => ?_⟩⟩
  obtain ⟨rfl, rfl⟩ := hpost r obs' hp
  have hρ : ∀ i, i ≤ l.length → nmapS S.st [] nm i = nm + i := by
    intro i hi
    simp only [nmapS, List.length_nil, Nat.not_lt_zero, dite_false, Nat.sub_zero]
    omega
  have hget := hput_at (nmapS S.st [] nm) (N.obs l) 0 H (fun j j' _ h1 _ h2 e => by
    rw [Nest.obs_len] at h1 h2
    rw [hρ j (by omega), hρ j' (by omega)] at e
    omega)
  have e0 : F nm = (F 0).ren (nmapS S.st [] nm) := by rw [hF, hρ 0 (Nat.zero_le _), Nat.add_zero]
  rw [← e0]
  refine hK nm _ rfl ⟨?_, fun j v hj => ?_, fun j hj => by omega, fun j j' _ _ e => by omega, by omega, fun j hj => by omega⟩ fun k hk => ?_
  · have := hget.1 0 _ Nest.obs_at0
    rw [Nat.zero_add, hρ 0 (Nat.zero_le _)] at this
    refine this.trans ?_
    show some ((N.ob (· + 1) l).ren _) = _
    rw [Nest.ob_ren (f := fun j => nm + 1 + j) (fun j hj => by rw [hρ (j + 1) (by omega)]; omega)]
  · have hlt := (List.getElem?_eq_some_iff.1 hj).1
    have := hget.1 (j + 1) _ (Nest.obs_at hj)
    rw [Nat.zero_add, hρ (j + 1) (by omega)] at this
    rw [show nm + 1 + j = nm + (j + 1) by omega, this]
    show some ((N.ob1 v).ren _) = _
    rw [Nest.ob1_ren]
  · exact hget.2 k fun j _ hj e => by
      rw [Nest.obs_len] at hj
      rw [hρ j (by omega)] at e; omega
/-- A nest in, and another of the same length out in its place. -/
theorem mq_ninF {l' : List α} {r0 : AV} {F : Nat → AV} (hF : ∀ ρ : Nat → Nat, (F 0).ren ρ = F (ρ 0)) {ar : List AV} (har : ∀ ρ, ar.map (AV.ren ρ) = ar) (hv : ValidM P g S) (hl : rm + S.cost ≤ LIM) (h : N.At H b k f l)
    (ha : nrmArgs fr xs = F k :: ar) (hpre : S.pre (F 0 :: ar) (N.In l)) (hll : l'.length = l.length)
    (hpost : ∀ r obs', S.post (F 0 :: ar) (N.In l) r obs' → r = r0 ∧ obs' = N.obs l')
    (hK : ∀ (H' : Hp) (ρ : Nat → Nat), ρ 0 = k → N.At H' b k f l' → (∀ i, N.Off k f l i → H' i = H i) → K (r0.ren ρ) H' (rm + S.cost)) : MQ P nm fr H rm K g S xs := by
  have hρ0 : nmapS S.st (nks k f l.length) nm 0 = k := nmap_lt (s := S.st) rfl
  have hρ : ∀ j, j < l.length → nmapS S.st (nks k f l.length) nm (j + 1) = f j := fun j hj => nmap_lt (nks_at hj)
  refine ⟨⟨hv, hl, nks k f l.length, (F 0 :: ar), N.In l, h.nodup, by rw [Nest.In_len, nks_len], fun i k' hi => ?_, ?_, hpre, fun r obs' hp _ _ => ?_⟩⟩
  · cases i with
    | zero => cases hi; exact ⟨_, rfl, by rw [Nest.ob_ren (f := f) hρ]; exact h.out⟩
    | succ j =>
      have hj : j < l.length := by
        have := (List.getElem?_eq_some_iff.1 hi).1
        rw [nks_len] at this; omega
      rw [nks_at hj] at hi
      cases hi
      have hx := List.getElem?_eq_getElem hj
      exact ⟨_, Nest.In_at hx, by rw [Nest.ob1_ren]; exact h.inn j _ hx⟩
  · rw [ha]
    show (F 0).ren _ :: ar.map (AV.ren _) = _
    rw [hF, hρ0, har]
  · obtain ⟨rfl, rfl⟩ := hpost r obs' hp
    have hcase : ∀ j, j < l.length + 1 → (j = 0 ∧ nmapS S.st (nks k f l.length) nm j = k) ∨ ∃ i, i < l.length ∧ j = i + 1 ∧ nmapS S.st (nks k f l.length) nm j = f i := by
      intro j hj
      cases j with
      | zero => exact .inl ⟨rfl, hρ0⟩
      | succ i => exact .inr ⟨i, by omega, rfl, hρ i (by omega)⟩
    have hget := hput_at (nmapS S.st (nks k f l.length) nm) (N.obs l') 0 H (fun j j' _ h1 _ h2 e => by
      rw [Nest.obs_len, hll] at h1 h2
      rcases hcase j (by omega) with ⟨rfl, e1⟩ | ⟨i, hi, rfl, e1⟩ <;> rcases hcase j' (by omega) with ⟨rfl, e2⟩ | ⟨i', hi', rfl, e2⟩
      · rfl
      · rw [e1, e2] at e; exact absurd e.symm (h.ne i' hi')
      · rw [e1, e2] at e; exact absurd e (h.ne i hi)
      · rw [e1, e2] at e; rw [h.inj i i' hi hi' e])
    refine hK _ _ hρ0 ⟨?_, fun j v hj => ?_, fun j hj => h.ne j (by omega), fun j j' hj hj' => h.inj j j' (by omega) (by omega), h.lt, fun j hj => h.lts j (by omega)⟩ fun i hi => ?_
    · have := hget.1 0 _ Nest.obs_at0
      rw [Nat.zero_add, hρ0] at this
      refine this.trans ?_
      show some ((N.ob (· + 1) l').ren _) = _
      rw [Nest.ob_ren (f := f) (fun j hj => hρ j (by omega))]
    · have hlt := (List.getElem?_eq_some_iff.1 hj).1
      have := hget.1 (j + 1) _ (Nest.obs_at hj)
      rw [Nat.zero_add, hρ j (by omega)] at this
      rw [this]
      show some ((N.ob1 v).ren _) = _
      rw [Nest.ob1_ren]
    · refine hget.2 i fun j _ hj e => ?_
      rw [Nest.obs_len, hll] at hj
      rcases hcase j (by omega) with ⟨rfl, e1⟩ | ⟨q, hq, rfl, e1⟩
      · exact hi.1 (e.symm.trans e1)
      · exact hi.2 q hq (e1.symm.trans e)
/-- A nest of one's own, handed back. -/
theorem finM_nestF {F : Nat → AV} (hF : ∀ ρ : Nat → Nat, (F 0).ren ρ = F (ρ 0)) {aw : List AW} (haw : resV aw = F k) (hrm : rm' ≤ lim) (h : N.At H b k f l) (hres : resM (nks k f l.length) fr H res aw) (hpost : post (F 0) (N.obs l)) :
    rm' ≤ lim ∧ ∃ (ks : List Nat) (az : List AW) (r : AV) (obs' : List (Option Ob)), resM ks fr H res az ∧ resV az = r.ren (nmap ks nx) ∧ post r obs' ∧
      ks.Nodup ∧ (∀ i, i < 0 → ks[i]? = some i) ∧ obs'.length = ks.length ∧
      ∀ (i k : Nat), ks[i]? = some k → (∃ ob : Ob, obs'[i]? = some (some ob) ∧ H k = some (ob.ren (nmap ks nx))) ∨ (obs'[i]? = some none ∧ H k = none) := by
  refine ⟨hrm, nks k f l.length, aw, F 0, _, hres, ?_, hpost, h.nodup, fun i hi => by omega, by rw [Nest.obs_len, nks_len], fun i k' hi => ?_⟩
  · rw [haw, hF, show nmap (nks k f l.length) nx 0 = k from nmap_lt (s := 0) rfl]
  · left
    cases i with
    | zero =>
      cases hi
      exact ⟨_, rfl, by rw [Nest.ob_ren (f := f) (fun j hj => nmap_lt (nks_at hj))]; exact h.out⟩
    | succ j =>
      have hj : j < l.length := by
        have := (List.getElem?_eq_some_iff.1 hi).1
        rw [nks_len] at this; omega
      rw [nks_at hj] at hi
      cases hi
      have hx := List.getElem?_eq_getElem hj
      exact ⟨_, Nest.obs_at hx, by rw [Nest.ob1_ren]; exact h.inn j _ hx⟩
/-- What a function that marks a nest ends with. -/
theorem finM_ninF {r0 : AV} {aw : List AW} {M : Nat} (haw : resV aw = r0.ren (nmap (List.range (l.length + 1)) nx)) (hrm : rm' ≤ lim) (hM : M = l.length + 1) (hk : H 0 = some (N.ob (· + 1) l)) (hf : ∀ j v, l[j]? = some v → H (j + 1) = some (N.ob1 v)) (hres : resM (List.range (l.length + 1)) fr H res aw) (hpost : post r0 (N.obs l)) :
    rm' ≤ lim ∧ ∃ (ks : List Nat) (az : List AW) (r : AV) (obs' : List (Option Ob)), resM ks fr H res az ∧ resV az = r.ren (nmap ks nx) ∧ post r obs' ∧
      ks.Nodup ∧ (∀ i, i < M → ks[i]? = some i) ∧ obs'.length = ks.length ∧
      ∀ (i k : Nat), ks[i]? = some k → (∃ ob : Ob, obs'[i]? = some (some ob) ∧ H k = some (ob.ren (nmap ks nx))) ∨ (obs'[i]? = some none ∧ H k = none) := by
  have hat : ∀ j, j < l.length + 1 → (List.range (l.length + 1))[j]? = some j := fun j hj => List.getElem?_range hj
  refine ⟨hrm, List.range (l.length + 1), aw, r0, _, hres, haw, hpost, List.nodup_range, fun i hi => hat i (by omega), by rw [Nest.obs_len]; simp, fun i k' h => ?_⟩
  left
  have hi : i < l.length + 1 := by
    have := (List.getElem?_eq_some_iff.1 h).1
    simpa using this
  rw [hat i hi] at h
  cases h
  cases i with
  | zero =>
    refine ⟨_, Nest.obs_at0, ?_⟩
    rw [Nest.ob_ren (f := (· + 1)) (fun j hj => nmap_lt (hat (j + 1) (by omega)))]; exact hk
  | succ j =>
    have hx := List.getElem?_eq_getElem (show j < l.length by omega)
    refine ⟨_, Nest.obs_at hx, ?_⟩
    rw [Nest.ob1_ren]; exact hf j _ hx
theorem Nest.At.low {n : Nat} (h : N.At H b k f l) (h1 : n ≤ k) (h2 : ∀ j, n ≤ f j) (hs : ∀ i, n ≤ i → H' i = H i) : N.At H' b k f l :=
  h.same (Nat.le_refl _) fun i hi => hs i (by
    by_cases e : i = k
    · omega
    · refine Classical.byContradiction fun g => hi ⟨e, fun j _ ej => ?_⟩
      have := h2 j
      omega)
end
theorem Nest.At.mid {α : Type} {N : Nest α} {H H' : Hp} {b k n : Nat} {f : Nat → Nat} {l : List α} (h : N.At H b k f l) (h1 : n ≤ k) (h2 : ∀ j, n ≤ f j) (hs : ∀ i, n ≤ i → i < b → H' i = H i) : N.At H' b k f l :=
  ⟨(hs k h1 h.lt).trans h.out, fun j v hj => (hs _ (h2 j) (h.lts j (List.getElem?_eq_some_iff.1 hj).1)).trans (h.inn j v hj), h.ne, h.inj, h.lt, h.lts⟩
end Av
end Go.Proofs.Ytdboofnogabefaa
