/- Chains of one's own: contracts; an operation that hands back one new array. -/
import Derived.Test.YtdboofnogabefaaT0
set_option linter.unusedVariables false
set_option linter.unusedSimpArgs false
namespace Go.Proofs.Ytdboofnogabefaa
namespace Av
open Go.RowKit
theorem itO_inj {a b : List It} (h : [itO a] = [itO b]) : a = b := arA_inj (fun _ _ h => itF_inj.1 h) (Ob.arr.inj (List.cons.inj h).1).2.2
/-- A chain of one's own. -/
def ownC (c : List It) (r : AV) (obs' : List (Option Ob)) : Prop := (r = .w (.o .e0) ∧ obs' = [] ∧ c = []) ∨ (r = ow0 ∧ obs' = [some (itO c)])
theorem ownC_inh (c : List It) : ∃ r obs', ownC c r obs' ∧ okV (· < obs'.length) r ∧ ∀ (j : Nat) o, obs'[j]? = some (some o) → okOb (· < obs'.length) o :=
  ⟨ow0, _, .inr ⟨rfl, rfl⟩, okw Nat.one_pos, ok_sg (arA_ok _)⟩
theorem ownC_len {c : List It} {r : AV} {obs' : List (Option Ob)} (h : ownC c r obs') : obs'.length ≤ 16 := by rcases h with ⟨_, h, _⟩ | ⟨_, h⟩ <;> rw [h] <;> simp
noncomputable def S_ownC (p : List It → Prop) : MSpec := mkN (α := List It) (fun c => [one (chF c)]) p ownC 0 (fun c _ => ownC_inh c) (fun _ _ _ h => ownC_len h)
theorem K_ownC {p : List It → Prop} {c : List It} {r : AV} {obs' : List (Option Ob)} (h : (S_ownC p).post [one (chF c)] [] r obs') : ownC c r obs' :=
  mkN_post (enc := fun b => [one (chF b)]) (a := c) (fun _ _ h => by simpa only [List.cons.injEq, and_true, one_inj, chF_inj] using h) h
noncomputable abbrev S_slices_Clone_ItemS_o : MSpec := S_ownC fun c => c.length ≤ LIM
noncomputable abbrev S_impl_copied_o : MSpec := S_ownC fun c => c.length ≤ LIM
def clipEnc : Option (List It) → List AV
  | none => [one (chF [])]
  | some _ => [ow0]
def clipOb : Option (List It) → List Ob
  | none => []
  | some c => [itO c]
def clipR : Option (List It) → AV → List (Option Ob) → Prop
  | none, r, obs' => r = .w (.o .e0) ∧ obs' = []
  | some c, r, obs' => r = .w (.o (.ow 1)) ∧ obs' = [none, some (itO c)]
noncomputable def S_slices_Clip_ItemS_o : MSpec := mkM (α := Option (List It)) clipEnc clipOb (fun _ => True) clipR 0
  (fun a _ => by
    cases a with
    | none => exact ⟨_, _, ⟨rfl, rfl⟩, trivial, fun j o h => by simp at h⟩
    | some c => exact ⟨_, _, ⟨rfl, rfl⟩, okw (by simp), fun j o h => by
        match j, h with
        | 0, h => simp at h
        | 1, h => simp at h; subst h; exact arA_ok _
        | j + 2, h => simp at h⟩)
  (fun a r obs' h => by cases a <;> obtain ⟨_, rfl⟩ := h <;> simp [clipOb])
theorem K_clip_o {c : List It} {r : AV} {obs' : List (Option Ob)} (h : S_slices_Clip_ItemS_o.post [ow0] [itO c] r obs') : r = .w (.o (.ow 1)) ∧ obs' = [none, some (itO c)] := by
  obtain ⟨a, h1, h2, h3⟩ := h
  cases a with
  | none => simp [clipOb] at h2
  | some d => have := itO_inj h2; subst this; exact h3
theorem K_clip_e {r : AV} {obs' : List (Option Ob)} (h : S_slices_Clip_ItemS_o.post [one (chF [])] [] r obs') : r = .w (.o .e0) ∧ obs' = [] := by
  obtain ⟨a, h1, h2, h3⟩ := h
  cases a with
  | none => exact h3
  | some d => simp [clipOb] at h2
section
variable {P : Program} {f : Nat} {S : MSpec} {fr : Env} {H : Hp} {nm nx rm rm' lim : Nat} {K : KV} {xs : List (X × List (Option Nat))} {res : List Rs} {post : AV → List (Option Ob) → Prop}
/-- An array in; the same array out, under another name. -/
theorem mq_mv {α : Type} {F : α → List FV} {k T sz : Nat} {l : List α} (hv : ValidM P f S) (hl : rm + S.cost ≤ LIM) (hk : H k = some (.arr T sz (arA F l))) (ha : nrmArgs fr xs = [.w (.o (.ow k))]) (hpre : S.pre [.w (.o (.ow 0))] [.arr T sz (arA F l)])
    (hpost : ∀ r obs', S.post [.w (.o (.ow 0))] [.arr T sz (arA F l)] r obs' → r = .w (.o (.ow 1)) ∧ obs' = [none, some (.arr T sz (arA F l))])
    (hK : K (.w (.o (.ow nm))) (hupd nm (some (.arr T sz (arA F l))) (hupd k none H)) (rm + S.cost)) : MQ P nm fr H rm K f S xs := by
  refine ⟨⟨hv, hl, [k], _, [.arr T sz (arA F l)], by simp, rfl, fun i k' h => ?_, ?_, hpre, fun r obs' hp _ _ => ?_⟩⟩
  · cases i with
    | zero => simp at h; subst h; exact ⟨_, rfl, by rw [arr_ren]; exact hk⟩
    | succ i => simp at h
  · rw [ha]
    show [AV.w (.o (.ow (nmapS S.st [k] nm 0)))] = _
    rw [nmap_lt (ks := [k]) rfl]
  · obtain ⟨rfl, rfl⟩ := hpost r obs' hp
    show K (.w (.o (.ow (nmapS S.st [k] nm 1)))) (hupd (nmapS S.st [k] nm 1) (some ((Ob.arr T sz (arA F l)).ren _)) (hupd (nmapS S.st [k] nm 0) none H)) _
    rw [arr_ren, nmap_lt (ks := [k]) (i := 0) rfl, show nmapS S.st [k] nm 1 = nm from nmap_next (ks := [k])]
    exact hK
/-- Data in; nothing of note out. -/
theorem mq_non {ar : List AV} {r0 : AV} (hr0 : ∀ ρ, r0.ren ρ = r0) (hv : ValidM P f S) (hl : rm + S.cost ≤ LIM) (ha : nrmArgs fr xs = ar) (hr : ar.map (AV.ren (nmapS S.st [] nm)) = ar) (hpre : S.pre ar [])
    (hpost : ∀ r obs', S.post ar [] r obs' → r = r0 ∧ obs' = []) (hK : K r0 H (rm + S.cost)) : MQ P nm fr H rm K f S xs := by
  refine ⟨⟨hv, hl, [], ar, [], by simp, rfl, fun i k' h => by simp at h, by rw [ha, hr], hpre, fun r obs' hp _ _ => ?_⟩⟩
  obtain ⟨rfl, rfl⟩ := hpost r obs' hp
  rw [hr0]; exact hK
/-- An array came in; it goes out under another name. -/
theorem finM_mv {α : Type} {F : α → List FV} {l : List α} {T sz k : Nat} (hrm : rm' ≤ lim) (h0 : H 0 = none) (hk : H k = some (.arr T sz (arA F l))) (hk0 : 1 ≤ k) (hres : resM [0, k] fr H res [.o (.ow k)])
    (hpost : post (.w (.o (.ow 1))) [none, some (.arr T sz (arA F l))]) : rm' ≤ lim ∧ ∃ (ks : List Nat) (az : List AW) (r : AV) (obs' : List (Option Ob)), resM ks fr H res az ∧ resV az = r.ren (nmap ks nx) ∧ post r obs' ∧
      ks.Nodup ∧ (∀ i, i < 1 → ks[i]? = some i) ∧ obs'.length = ks.length ∧
      ∀ (i k : Nat), ks[i]? = some k → (∃ ob : Ob, obs'[i]? = some (some ob) ∧ H k = some (ob.ren (nmap ks nx))) ∨ (obs'[i]? = some none ∧ H k = none) := by
  refine ⟨hrm, [0, k], _, _, _, hres, rfl, hpost, by simp; omega, fun i hi => ?_, rfl, fun i k' h => ?_⟩
  · have : i = 0 := by omega
    subst this; rfl
  · match i, h with
    | 0, h => cases h; exact .inr ⟨rfl, h0⟩
    | 1, h => cases h; exact .inl ⟨_, rfl, by rw [arr_ren]; exact hk⟩
    | i + 2, h => simp at h
end
theorem itO_flat (c : List It) : flatO (itO c) := by
  intro x hx y hy
  obtain ⟨z, _, rfl⟩ := List.mem_map.1 hx
  obtain ⟨w, hw, rfl⟩ := List.mem_map.1 hy
  simp only [itF, paF, fI, List.mem_cons, List.not_mem_nil, or_false, List.mem_append] at hw
  rcases hw with rfl | rfl | rfl | rfl <;> exact ⟨_, rfl⟩
end Av
end Go.Proofs.Ytdboofnogabefaa
