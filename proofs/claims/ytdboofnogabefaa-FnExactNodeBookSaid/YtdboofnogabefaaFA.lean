/- Chains of one's own: contracts; an operation that hands back one new array. -/
import Derived.Test.YtdboofnogabefaaT0
set_option linter.unusedVariables false
set_option linter.unusedSimpArgs false
namespace Go.Proofs.Ytdboofnogabefaa
namespace Av
open Go.RowKit
theorem itO_inj {a b : List It} (h : [itO a] = [itO b]) : a = b := arA_inj (fun _ _ h => itF_inj.1 h) (Ob.arr.inj (List.cons.inj h).1).2.2
section
variable {P : Program} {f : Nat} {S : MSpec} {fr : Env} {H : Hp} {nm nx rm rm' lim : Nat} {K : KV} {xs : List (X × List (Option Nat))} {res : List Rs} {post : AV → List (Option Ob) → Prop}
/-- An array in; the same array out, under another name. -/
theorem mq_mv {α : Type} {F : α → List FV} {k T sz : Nat} {l : List α} (hv : ValidM P f S) (hl : rm + S.cost ≤ LIM) (hk : H k = some (.arr T sz (arA F l))) (ha : nrmArgs fr xs = [.w (.o (.ow k))]) (hpre : S.pre [.w (.o (.ow 0))] [.arr T sz (arA F l)])
    (hpost : ∀ r obs', S.post [.w (.o (.ow 0))] [.arr T sz (arA F l)] r obs' → r = .w (.o (.ow 1)) ∧ obs' = [none, some (.arr T sz (arA F l))])
    (hK : K (.w (.o (.ow nm))) (hupd nm (some (.arr T sz (arA F l))) (hupd k none H)) (rm + S.cost)) : MQ P nm fr H rm K f S xs := by
  refine ⟨⟨hv, hl, [k], _, [.arr T sz (arA F l)], by simp, rfl, fun i k' h => ?_, ?_, hpre, fun r obs' hp _ _ => ?_⟩⟩
  · cases i with
    | zero => simp at h; subst h; exact ⟨_, rfl, by rw [arr_ren]; exact hk⟩
    | succ i => simp at h
  · rw [ha]
    show [AV.w (.o (.ow (nmapS S.st [k] nm 0)))] = _
    rw [nmap_lt (ks := [k]) rfl]
  · obtain ⟨rfl, rfl⟩ := hpost r obs' hp
    show K (.w (.o (.ow (nmapS S.st [k] nm 1)))) (hupd (nmapS S.st [k] nm 1) (some ((Ob.arr T sz (arA F l)).ren _)) (hupd (nmapS S.st [k] nm 0) none H)) _
    rw [arr_ren, nmap_lt (ks := [k]) (i := 0) rfl, show nmapS S.st [k] nm 1 = nm from nmap_next (ks := [k])]
    exact hK
/-- An array came in; it goes out under another name. -/
theorem finM_mv {α : Type} {F : α → List FV} {l : List α} {T sz k : Nat} (hrm : rm' ≤ lim) (h0 : H 0 = none) (hk : H k = some (.arr T sz (arA F l))) (hk0 : 1 ≤ k) (hres : resM [0, k] fr H res [.o (.ow k)])
    (hpost : post (.w (.o (.ow 1))) [none, some (.arr T sz (arA F l))]) : rm' ≤ lim ∧ ∃ (ks : List Nat) (az : List AW) (r : AV) (obs' : List (Option Ob)), resM ks fr H res az ∧ resV az = r.ren (nmap ks nx) ∧ post r obs' ∧
      ks.Nodup ∧ (∀ i, i < 1 → ks[i]? = some i) ∧ obs'.length = ks.length ∧
      ∀ (i k : Nat), ks[i]? = some k → (∃ ob : Ob, obs'[i]? = some (some ob) ∧ H k = some (ob.ren (nmap ks nx))) ∨ (obs'[i]? = some none ∧ H k = none) := by
  refine ⟨hrm, [0, k], _, _, _, hres, rfl, hpost, by simp; omega, fun i hi => ?_, rfl, fun i k' h => ?_⟩
  · have : i = 0 := by omega
    subst this; rfl
  · match i, h with
    | 0, h => cases h; exact .inr ⟨rfl, h0⟩
    | 1, h => cases h; exact .inl ⟨_, rfl, by rw [arr_ren]; exact hk⟩
    | i + 2, h => simp at h
end
theorem valid_O {P : Program} {f : Nat} {SO : OSpec} {S : MSpec} (hv : ValidM P f S) (hc : S.cost = 0) (hpre : ∀ args, SO.pre args → S.pre args [])
    (hpost : ∀ args r obs', SO.pre args → S.post args [] r obs' → (r = .w (.o .e0) ∧ obs' = [] ∧ ∃ T sz, SO.ob args = .arr T sz []) ∨ (r = ow0 ∧ obs' = [some (SO.ob args)])) : ValidM P f SO.toM := by
  refine ⟨hv.1, fun args obs rm ⟨h0, hp⟩ hlim => ?_⟩
  subst h0
  intro V O own w vals hsub hO hown huniq hvo hobs hargs
  refine (hv.2 args [] rm (hpre _ hp) (by rw [hc]; exact hlim) V O own w vals hsub hO hown huniq hvo hobs hargs).mono ?_
  rintro e w' ⟨v, r, obs', V', O', own', he, q1, q2, q3, q4, q5, q6, q7, q8, q9, q10, q11, q12⟩
  rcases hpost _ _ _ hp q1 with ⟨rfl, rfl, T, sz, hob⟩ | ⟨rfl, rfl⟩
  · have hown' : ∀ b, own' b = none := by
      intro b
      cases hh : own' b with
      | none => rfl
      | some k => have := (q9 b k hh).1; simp at this
    obtain ⟨⟨A, hA⟩, h1⟩ := q2
    refine ⟨v, ow0, [some (SO.ob args)], V', fun k => if k = 0 then some v else none, own', he, ⟨rfl, rfl, rfl⟩, ⟨⟨rfl, h1 (by simp)⟩, fun _ => h1 (by simp)⟩, q3, q4, fun k u e => ?_, fun k u e => ?_, fun k ob e => ?_, fun b o u e => .inl (hown' b), (fun b k e => by rw [hown' b] at e; cases e), (fun b b' k e => by rw [hown' b] at e; cases e), q11, q12⟩
    · have := hO k u e; simp at this
    · simp only at e
      split at e
      · rename_i hk; subst hk; simp
      · cases e
    · cases k with
      | zero =>
        simp only [List.getElem?_cons_zero, Option.some.injEq] at e
        rw [hob] at e; subst e
        refine ⟨fun j x hx => by simp at hx, .inl ⟨rfl, A, ?_⟩⟩
        show (if 0 = 0 then some v else none) = _
        rw [if_pos rfl, hA]
      | succ k => simp at e
  · exact ⟨v, _, _, V', O', own', he, ⟨rfl, rfl, rfl⟩, q2, q3, q4, q5, q6, fun k ob e => by have := q7 k ob e; rw [hc] at this; exact this, q8, q9, q10, q11, q12⟩
end Av
end Go.Proofs.Ytdboofnogabefaa
