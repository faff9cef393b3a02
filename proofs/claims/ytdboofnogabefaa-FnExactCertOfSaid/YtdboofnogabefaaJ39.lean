/- Texts of the layer, joined. -/
import Derived.Test.YtdboofnogabefaaJ38
import Derived.Test.YtdboofnogabefaaCZ
import Derived.Test.YtdboofnogabefaaFA
import Derived.Test.YtdboofnogabefaaJ9
import Derived.Test.YtdboofnogabefaaCA
set_option linter.unusedVariables false
set_option linter.unusedSimpArgs false
namespace Go.Proofs.Ytdboofnogabefaa
namespace Av
open Go.RowKit
/-- A vote's chain, beside a nest; b: surely an array. -/
def VcAt (H : Hp) (B : Nat) (b : Bool) (sk : AC) (f : Nat → Nat) (n : Nat) (c : List It) (cv : AC) : Prop :=
  (b = false ∧ cv = .e0 ∧ c = []) ∨ ∃ kv, cv = .ow kv ∧ kv < B ∧ H kv = some (itO c) ∧ sk ≠ .ow kv ∧ ∀ j, j < n → f j ≠ kv
/-! ### names -/
section
variable {ρ σ : Nat → Nat} {D : Nat → Prop}
end
section
variable {fr : Env} {H : Hp} {nx rm' lim : Nat} {res : List Rs} {post : AV → List (Option Ob) → Prop}
end
section
variable {H : Hp} {b k : Nat} {f : Nat → Nat} {l : List Vo} {ks : List Nat} {σ : Nat → Nat}
end
section
variable {P : Program} {g : Nat} {S : MSpec} {fr : Env} {H : Hp} {b k nm rm : Nat} {f : Nat → Nat} {l : List Vo} {K : KV} {xs : List (X × List (Option Nat))}
/-- A node and a vote, in memory that none but the names of a list show. -/
structure TriAt (H : Hp) (B : Nat) (ks : List Nat) (b2 : Bool) (o : Tri) (k : Nat) (f : Nat → Nat) (cv : AC) : Prop where
  nd : ks.Nodup
  ob : ∀ x ob, x ∈ ks → H x = some ob → okOb (· ∈ ks) ob ∧ plainO ob
  at' : nV.At H B k f o.1.seen
  k' : k ∈ ks
  f' : ∀ j, j < o.1.seen.length → f j ∈ ks
  vc : VcAt H B b2 (.ow k) f o.1.seen.length o.2.1.c cv
  kv : ∀ x, cv = .ow x → x ∈ ks
theorem TriAt.same {H H' : Hp} {B B' : Nat} {ks : List Nat} {b2 : Bool} {o : Tri} {k : Nat} {f : Nat → Nat} {cv : AC} (h : TriAt H B ks b2 o k f cv) (hB : B ≤ B') (hs : ∀ x, x ∈ ks → H' x = H x) : TriAt H' B' ks b2 o k f cv :=
  ⟨h.nd, fun x ob hx e => h.ob x ob hx (by rw [← hs x hx]; exact e), ⟨(hs _ h.k').trans h.at'.out, fun j v hj => (hs _ (h.f' j (List.getElem?_eq_some_iff.1 hj).1)).trans (h.at'.inn j v hj), h.at'.ne, h.at'.inj, Nat.lt_of_lt_of_le h.at'.lt hB, fun j hj => Nat.lt_of_lt_of_le (h.at'.lts j hj) hB⟩, h.k', h.f',
    by
      rcases h.vc with h1 | ⟨kv, rfl, h1, h2, h3⟩
      · exact .inl h1
      · exact .inr ⟨kv, rfl, Nat.lt_of_lt_of_le h1 hB, (hs _ (h.kv _ rfl)).trans h2, h3⟩, h.kv⟩
theorem itO_plain (c : List It) : plainO (itO c) := fun x hx y hy => by
  obtain ⟨v, rfl⟩ := itO_flat c x hx y hy
  trivial
end
/-! ### an empty slice azz such, and azz an empty array -/
theorem valid_e0tt {P : Program} {f : Nat} {S S' : MSpec} (hv : ValidM P f S) (hc : S.cost = S'.cost) (hpre : ∀ args obs, S'.pre args obs → S.pre args obs)
    (hpost : ∀ args obs r obs', S'.pre args obs → S.post args obs r obs' → (∃ xs p cs q, r = .tup xs ∧ xs[p]? = some (.g cs) ∧ cs[q]? = some .e0 ∧ ∃ T sz, S'.post args obs (.tup (xs.set p (.g (cs.set q (.ow obs'.length))))) (obs' ++ [some (.arr T sz [])])) ∨ S'.post args obs r obs') : ValidM P f S' := by
  refine ⟨hv.1, fun args obs rm hp hlim => ?_⟩
  intro V O own w vals hsub hO hown huniq hvo hobs hargs
  refine (hv.2 args obs rm (hpre _ _ hp) (by rw [hc]; exact hlim) V O own w vals hsub hO hown huniq hvo hobs hargs).mono ?_
  rintro e w' ⟨v, r, obs', V', O', own', he, q1, q2, q3, q4, q5, q6, q7, q8, q9, q10, q11, q12⟩
  rcases hpost _ _ _ _ hp q1 with ⟨xs, p, cs, q, rfl, hxp, hcq, T, sz, hob⟩ | hq
  · obtain ⟨l, hl1, hl2, hl3⟩ := q2
    have hpl : p < l.length := by rw [hl2]; exact (List.getElem?_eq_some_iff.1 hxp).1
    obtain ⟨y, hy⟩ : ∃ y, l[p]? = some y := ⟨_, List.getElem?_eq_getElem hpl⟩
    obtain ⟨m, rfl, hm2, hm3⟩ := hl3 p y _ hy hxp
    have hqm : q < m.length := by rw [hm2]; exact (List.getElem?_eq_some_iff.1 hcq).1
    obtain ⟨x, hx⟩ : ∃ x, m[q]? = some x := ⟨_, List.getElem?_eq_getElem hqm⟩
    obtain ⟨⟨A, hA⟩, h1⟩ := hm3 q x _ hx hcq
    have hle : ∀ k u, O' k = some u → (if k = obs'.length then some x else O' k) = some u := fun k u e => by
      have := q6 k u e
      rw [if_neg (by omega)]; exact e
    refine ⟨v, _, _, V', fun k => if k = obs'.length then some x else O' k, own', he, hob, ⟨l, hl1, by rw [hl2, List.length_set], fun i y c hy' hci => ?_⟩, q3, q4, fun k u e => hle k u (q5 k u e), fun k u e => ?_, fun k ob e => ?_, fun b o u e => ?_, fun b k e => ?_, q10, q11, q12⟩
    · rw [List.getElem?_set] at hci
      split at hci
      · rename_i hpi
        subst hpi
        rw [if_pos (by rw [← hl2]; exact hpl)] at hci
        cases hci
        rw [hy] at hy'; cases hy'
        refine ⟨m, rfl, by rw [hm2, List.length_set], fun i z c hz hci => ?_⟩
        rw [List.getElem?_set] at hci
        split at hci
        · rename_i hqi
          subst hqi
          rw [if_pos (by rw [← hm2]; exact hqm)] at hci
          cases hci
          rw [hx] at hz; cases hz
          exact ⟨⟨by show (if _ = _ then _ else _) = _; rw [if_pos rfl], h1⟩, h1⟩
        · obtain ⟨h2, h3⟩ := hm3 i z c hz hci
          exact ⟨h2.mono (Vw.le_refl _) hle, h3⟩
      · exact (hl3 i y c hy' hci).mono (Vw.le_refl _) hle
    · rw [List.length_append]
      simp only at e
      split at e
      · rename_i hk; simp; omega
      · have := q6 k u e; omega
    · rcases Nat.lt_or_ge k obs'.length with hk | hk
      · rw [List.getElem?_append_left hk] at e
        have := q7 k ob e
        rw [hc] at this
        exact this.mono (Vw.le_refl _) hle (fun b hb => ⟨hb, rfl⟩) (Nat.le_refl _)
      · rw [List.getElem?_append_right hk] at e
        have hk0 : k - obs'.length = 0 := by
          have := (List.getElem?_eq_some_iff.1 e).1
          simp at this; omega
        rw [hk0] at e
        simp only [List.getElem?_cons_zero, Option.some.injEq] at e
        subst e
        refine ⟨fun j x hx => by simp at hx, .inl ⟨rfl, A, ?_⟩⟩
        show (if k = obs'.length then some x else O' k) = _
        rw [if_pos (by omega), hA]
    · rcases q8 b o u e with h | ⟨k, T, sz, n, h2, h3, h4⟩
      · exact .inl h
      · refine .inr ⟨k, T, sz, n, h2, ?_, h4⟩
        rw [List.getElem?_append_left (List.getElem?_eq_some_iff.1 h3).1]; exact h3
    · obtain ⟨h2, h3, h4⟩ := q9 b k e
      exact ⟨by rw [List.length_append]; omega, h3, h4⟩
  · exact ⟨v, r, obs', V', O', own', he, hq, q2, q3, q4, q5, q6, fun k ob e => by have := q7 k ob e; rw [hc] at this; exact this, q8, q9, q10, q11, q12⟩
end Av
end Go.Proofs.Ytdboofnogabefaa

namespace Go.Proofs.Ytdboofnogabefaa
namespace Av
open Go.RowKit
end Av
end Go.Proofs.Ytdboofnogabefaa

namespace Go.Proofs.Ytdboofnogabefaa
namespace Av
open Go.RowKit
end Av
end Go.Proofs.Ytdboofnogabefaa

namespace Go.Proofs.Ytdboofnogabefaa
namespace Av
open Go.RowKit
theorem mkI_at : ∀ (n : Nat) (k : Int) (i : Nat), i < n → (mkI n k)[i]? = some (k + i)
  | n + 1, k, 0, _ => by simp [mkI]
  | n + 1, k, i + 1, h => by
    rw [mkI, List.getElem?_cons_succ, mkI_at n (k + 1) i (by omega)]
    simp only [Option.some.injEq]; omega
  | 0, _, _, h => absurd h (Nat.not_lt_zero _)
noncomputable def S_laws_heldIntS : FSpec := iF (α := Nat × Int) (fun a => [one (nsF (mkI a.1 a.2)), I a.2]) (fun a => a.1 ≤ SM ∧ 0 ≤ a.2 ∧ a.2 ≤ MK) (fun a => a.2 + a.1) (fun _ => rfl)
theorem encHeldI_inj (a b : Nat × Int) (h : [one (nsF (mkI a.1 a.2)), I a.2] = [one (nsF (mkI b.1 b.2)), I b.2]) : a = b := by
  obtain ⟨n, k⟩ := a; obtain ⟨m, j⟩ := b
  have h1 := nsF_inj.1 (one_inj.1 (List.cons.inj h).1)
  have h2 := aI_inj.1 (List.cons.inj (List.cons.inj h).2).1
  have h3 := congrArg List.length h1
  rw [mkI_len, mkI_len] at h3
  dsimp only at h2 h3
  rw [h2, h3]
theorem K_laws_heldIntS {n : Nat} {k : Int} {r : AV} (h : S_laws_heldIntS.post [one (nsF (mkI n k)), I k] r) : r = I (k + n) :=
  iF_post (hcl := fun _ => rfl) (a := (n, k)) encHeldI_inj h
end Av
end Go.Proofs.Ytdboofnogabefaa

