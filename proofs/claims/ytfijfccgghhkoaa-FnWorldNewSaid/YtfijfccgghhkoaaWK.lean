/- What a callee hands back, seen as less: an empty slice as one that shows nothing. -/
import Derived.Test.YtfijfccgghhkoaaD0
set_option linter.unusedVariables false
set_option linter.unusedSimpArgs false
namespace Go.Proofs.Ytfijfccgghhkoaa
namespace Av
open Go.RowKit
def wkC (a b : AC) : Prop := a = b ∨ (a = .e0 ∧ ∃ sz, b = .c (.sl sz []))
def wkL : List AC → List AC → Prop
  | [], [] => True
  | a :: as, b :: bs => wkC a b ∧ wkL as bs
  | _, _ => False
def wkLL : List (List AC) → List (List AC) → Prop
  | [], [] => True
  | a :: as, b :: bs => wkL a b ∧ wkLL as bs
  | _, _ => False
def wkO : Ob → Ob → Prop
  | .cells a, b => ∃ c, b = .cells c ∧ wkL a c
  | .arr T s xs, b => ∃ ys, b = .arr T s ys ∧ wkLL xs ys
  | a, b => a = b
def wkOs : List (Option Ob) → List (Option Ob) → Prop
  | [], [] => True
  | none :: as, none :: bs => wkOs as bs
  | some a :: as, some b :: bs => wkO a b ∧ wkOs as bs
  | _, _ => False
def wkW : AW → AW → Prop
  | .o a, .o b => wkC a b
  | .g a, .g b => wkL a b
  | _, _ => False
def wkWs : List AW → List AW → Prop
  | [], [] => True
  | a :: as, b :: bs => wkW a b ∧ wkWs as bs
  | _, _ => False
def wkV : AV → AV → Prop
  | .w a, .w b => wkW a b
  | .tup a, .tup b => wkWs a b
  | _, _ => False
section
variable {V : Vw} {O : Nat → Option Value}
theorem RC.wk {x : Value} {a b : AC} (h : RC V O x a) (hk : wkC a b) : RC V O x b := by
  rcases hk with rfl | ⟨rfl, sz, rfl⟩
  · exact h
  · obtain ⟨A, rfl⟩ := h
    exact RF.sl (b := 0) (off := 0) (fun _ _ => undef) rfl (Nat.le_refl _) (by omega) (fun h => absurd h (by omega)) (fun j y hy => by simp at hy) (fun j y i f hy => by simp at hy) (fun j y i f hy => by simp at hy)
theorem wkL_len : ∀ {as bs : List AC}, wkL as bs → as.length = bs.length
  | [], [], _ => rfl
  | _ :: as, _ :: bs, h => by simp [wkL_len h.2]
  | [], _ :: _, h => h.elim
  | _ :: _, [], h => h.elim
theorem wkL_at : ∀ {as bs : List AC}, wkL as bs → ∀ {i : Nat} {b : AC}, bs[i]? = some b → ∃ a, as[i]? = some a ∧ wkC a b
  | [], [], _, i, b, h => by simp at h
  | a :: as, c :: bs, h, 0, b, e => by cases e; exact ⟨a, rfl, h.1⟩
  | a :: as, c :: bs, h, i + 1, b, e => wkL_at (as := as) (bs := bs) h.2 e
  | [], _ :: _, h, _, _, _ => h.elim
  | _ :: _, [], h, _, _, _ => h.elim
theorem RCs.wk {xs : List Value} {as bs : List AC} (h : RCs V O xs as) (hk : wkL as bs) : RCs V O xs bs := by
  refine ⟨h.1.trans (wkL_len hk), fun i x b h1 h2 => ?_⟩
  obtain ⟨a, h3, h4⟩ := wkL_at hk h2
  obtain ⟨h5, h6⟩ := h.2 i x a h1 h3
  exact ⟨h5.wk h4, h6⟩
theorem wkL_app : ∀ {a b c d : List AC}, wkL a b → wkL c d → wkL (a ++ c) (b ++ d)
  | [], [], _, _, _, h => h
  | _ :: a, _ :: b, _, _, h, h' => ⟨h.1, wkL_app h.2 h'⟩
  | [], _ :: _, _, _, h, _ => h.elim
  | _ :: _, [], _, _, h, _ => h.elim
theorem wkLL_flat : ∀ {a b : List (List AC)}, wkLL a b → wkL a.flatten b.flatten
  | [], [], _ => trivial
  | _ :: a, _ :: b, h => wkL_app h.1 (wkLL_flat h.2)
  | [], _ :: _, h => h.elim
  | _ :: _, [], h => h.elim
theorem wkLL_len : ∀ {as bs : List (List AC)}, wkLL as bs → as.length = bs.length
  | [], [], _ => rfl
  | _ :: as, _ :: bs, h => by simp [wkLL_len h.2]
  | [], _ :: _, h => h.elim
  | _ :: _, [], h => h.elim
theorem wkLL_at : ∀ {as bs : List (List AC)}, wkLL as bs → ∀ {i : Nat} {b : List AC}, bs[i]? = some b → ∃ a, as[i]? = some a ∧ wkL a b
  | [], [], _, i, b, h => by simp at h
  | a :: as, c :: bs, h, 0, b, e => by cases e; exact ⟨a, rfl, h.1⟩
  | a :: as, c :: bs, h, i + 1, b, e => wkLL_at (as := as) (bs := bs) h.2 e
  | [], _ :: _, h, _, _, _ => h.elim
  | _ :: _, [], h, _, _, _ => h.elim
theorem OR.wk {own : Nat → Option Nat} {w : World} {rm k : Nat} {a b : Ob} (h : OR V O own w rm k a) (hk : wkO a b) : OR V O own w rm k b := by
  cases a with
  | cells cs =>
    obtain ⟨c, rfl, hc⟩ := hk
    obtain ⟨b, T, l, h1, h2, h3, h4⟩ := h
    exact ⟨b, T, l, h1, h2, h3, h4.wk hc⟩
  | arr T sz xs =>
    obtain ⟨ys, rfl, hc⟩ := hk
    have hl := wkLL_len hc
    obtain ⟨h0, h⟩ := h
    refine ⟨fun j x hx => ?_, ?_⟩
    · obtain ⟨a, h1, h2⟩ := wkLL_at hc hx
      rw [← wkL_len h2]; exact h0 j a h1
    · rcases h with ⟨rfl, h⟩ | ⟨b, cap, l, m, h1, h2, h3, h4, h5, h6, h7⟩
      · exact .inl ⟨List.eq_nil_of_length_eq_zero hl.symm, h⟩
      · exact .inr ⟨b, cap, l, m, by rw [← hl]; exact h1, h2, h3, by rw [← hl]; exact h4, h5, h6, h7.wk (wkLL_flat hc)⟩
  | tok T sz n => cases hk; exact h
  | rd f => cases hk; exact h
theorem RW.wk {x : Value} {a b : AW} (h : RW V O x a) (hk : wkW a b) : RW V O x b := by
  match a, b, hk with
  | .o a, .o b, hk =>
    refine ⟨h.1.wk hk, fun _ => ?_⟩
    rcases hk with rfl | ⟨rfl, _⟩
    · exact h.2 (by assumption)
    · exact h.2 (by intro e; cases e)
  | .g a, .g b, hk => obtain ⟨l, h1, h2⟩ := h; exact ⟨l, h1, h2.wk hk⟩
theorem wkWs_len : ∀ {as bs : List AW}, wkWs as bs → as.length = bs.length
  | [], [], _ => rfl
  | _ :: as, _ :: bs, h => by simp [wkWs_len h.2]
  | [], _ :: _, h => h.elim
  | _ :: _, [], h => h.elim
theorem wkWs_at : ∀ {as bs : List AW}, wkWs as bs → ∀ {i : Nat} {b : AW}, bs[i]? = some b → ∃ a, as[i]? = some a ∧ wkW a b
  | [], [], _, i, b, h => by simp at h
  | a :: as, c :: bs, h, 0, b, e => by cases e; exact ⟨a, rfl, h.1⟩
  | a :: as, c :: bs, h, i + 1, b, e => wkWs_at (as := as) (bs := bs) h.2 e
  | [], _ :: _, h, _, _, _ => h.elim
  | _ :: _, [], h, _, _, _ => h.elim
theorem RV.wk {x : Value} {a b : AV} (h : RV V O x a) (hk : wkV a b) : RV V O x b := by
  match a, b, hk with
  | .w a, .w b, hk => exact RW.wk h hk
  | .tup a, .tup b, hk =>
    obtain ⟨l, h1, h2⟩ := h
    refine ⟨l, h1, h2.1.trans (wkWs_len hk), fun i x b h3 h4 => ?_⟩
    obtain ⟨a, h5, h6⟩ := wkWs_at hk h4
    exact (h2.2 i x a h3 h5).wk h6
end
theorem wkOs_len : ∀ {as bs : List (Option Ob)}, wkOs as bs → as.length = bs.length
  | [], [], _ => rfl
  | none :: as, none :: bs, h => by simp [wkOs_len (as := as) (bs := bs) h]
  | some _ :: as, some _ :: bs, h => by simp [wkOs_len h.2]
  | [], _ :: _, h => by cases ‹Option Ob› <;> exact h.elim
  | none :: _, [], h => h.elim
  | some _ :: _, [], h => h.elim
  | none :: _, some _ :: _, h => h.elim
  | some _ :: _, none :: _, h => h.elim
theorem wkOs_at : ∀ {as bs : List (Option Ob)}, wkOs as bs → ∀ {i : Nat} {b : Ob}, bs[i]? = some (some b) → ∃ a, as[i]? = some (some a) ∧ wkO a b
  | [], [], _, i, b, h => by simp at h
  | none :: as, none :: bs, h, 0, b, e => by cases e
  | none :: as, none :: bs, h, i + 1, b, e => wkOs_at (as := as) (bs := bs) h e
  | some a :: as, some c :: bs, h, 0, b, e => by cases e; exact ⟨a, rfl, h.1⟩
  | some a :: as, some c :: bs, h, i + 1, b, e => wkOs_at (as := as) (bs := bs) h.2 e
  | [], _ :: _, h, _, _, _ => by cases ‹Option Ob› <;> exact h.elim
  | none :: _, [], h, _, _, _ => h.elim
  | some _ :: _, [], h, _, _, _ => h.elim
  | none :: _, some _ :: _, h, _, _, _ => h.elim
  | some _ :: _, none :: _, h, _, _, _ => h.elim
theorem wkOs_tok : ∀ {as bs : List (Option Ob)}, wkOs as bs → ∀ {i T s n : Nat}, as[i]? = some (some (.tok T s n)) → bs[i]? = some (some (.tok T s n))
  | [], [], _, i, _, _, _, h => by simp at h
  | none :: as, none :: bs, h, 0, _, _, _, e => by cases e
  | none :: as, none :: bs, h, i + 1, _, _, _, e => wkOs_tok (as := as) (bs := bs) h e
  | some a :: as, some c :: bs, h, 0, _, _, _, e => by
    cases e
    have : Ob.tok _ _ _ = c := h.1
    rw [← this]; rfl
  | some a :: as, some c :: bs, h, i + 1, _, _, _, e => wkOs_tok (as := as) (bs := bs) h.2 e
  | [], _ :: _, h, _, _, _, _, _ => by cases ‹Option Ob› <;> exact h.elim
  | none :: _, [], h, _, _, _, _, _ => h.elim
  | some _ :: _, [], h, _, _, _, _, _ => h.elim
  | none :: _, some _ :: _, h, _, _, _, _, _ => h.elim
  | some _ :: _, none :: _, h, _, _, _, _, _ => h.elim
theorem valid_wk {P : Program} {f : Nat} {S S' : MSpec} (hv : ValidM P f S) (hc : S.cost = S'.cost) (hpre : ∀ args obs, S'.pre args obs → S.pre args obs)
    (hpost : ∀ args obs r obs', S'.pre args obs → S.post args obs r obs' → ∃ r2 obs2, S'.post args obs r2 obs2 ∧ wkV r r2 ∧ wkOs obs' obs2) : ValidM P f S' := by
  refine ⟨hv.1, fun args obs rm hp hlim => ?_⟩
  intro V O own w vals hsub hO hown huniq hvo hobs hargs
  rw [← hc] at hlim ⊢
  refine (hv.2 args obs rm (hpre _ _ hp) hlim V O own w vals hsub hO hown huniq hvo hobs hargs).mono ?_
  rintro e w' ⟨v, r, obs', V', O', own', he, q1, q2, q3, q4, q5, q6, q7, q8, q9, q10, q11, q12⟩
  obtain ⟨r2, obs2, p1, p2, p3⟩ := hpost _ _ _ _ hp q1
  have hl := wkOs_len p3
  refine ⟨v, r2, obs2, V', O', own', he, p1, q2.wk p2, q3, q4, q5, fun k u e => by rw [← hl]; exact q6 k u e, fun k ob e => ?_, fun b o u e => ?_, fun b k e => by rw [← hl]; exact q9 b k e, q10, q11, q12⟩
  · obtain ⟨a, h1, h2⟩ := wkOs_at p3 e
    exact (q7 k a h1).wk h2
  · rcases q8 b o u e with g | ⟨k, T, sz, n, g1, g2, g3⟩
    · exact .inl g
    · exact .inr ⟨k, T, sz, n, g1, wkOs_tok p3 g2, g3⟩
end Av
end Go.Proofs.Ytfijfccgghhkoaa
