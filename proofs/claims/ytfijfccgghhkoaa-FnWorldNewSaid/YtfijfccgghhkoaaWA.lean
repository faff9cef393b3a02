/- The program's worlds in memory: contracts of what writes them. -/
import Derived.Test.YtfijfccgghhkoaaWL
import Derived.Test.YtfijfccgghhkoaaWK
set_option linter.unusedVariables false
set_option linter.unusedSimpArgs false
namespace Go.Proofs.Ytfijfccgghhkoaa
namespace Av
open Go.RowKit
/-- A world in a variable; its nodes' array is k. -/
def wiC (w : Wo) (k : Nat) : List AC := [cI w.ep, .ow k, .c (vsF w.log), cI w.bad]
def nsO (w : Wo) : Ob := .arr ty_impl_Node 4 (arA ndF w.nodes)
theorem wiC_ren {w : Wo} {k : Nat} {ρ : Nat → Nat} : (wiC w k).map (AC.ren ρ) = wiC w (ρ k) := rfl
theorem nsO_ren {w : Wo} {ρ : Nat → Nat} : (nsO w).ren ρ = nsO w := arr_ren ..
section
variable {P : Program} {g : Nat} {S : MSpec} {fr : Env} {H : Hp} {nm nx rm rm' lim : Nat} {K : KV} {xs : List (X × List (Option Nat))} {res : List Rs} {post : AV → List (Option Ob) → Prop}
end
/-- A world begins: the program's, with empty slices as such, and as they show. -/
def RNew0 (bad : Int) (r : AV) (obs' : List (Option Ob)) : Prop :=
  (In bad 0 4 ∧ r = .tup [.g [cI 0, .ow 0, .e0, cI bad], .o (cB true)] ∧ obs' = [some (.arr ty_impl_Node 4 [[cI 1, cI 0, cI 0, .e0], [cI 2, cI 0, cI 0, .e0], [cI 3, cI 0, cI 0, .e0], [cI 4, cI 0, cI 0, .e0]])]) ∨
  (¬ In bad 0 4 ∧ r = .tup [.g [cI 0, .e0, .e0, cI 0], .o (cB false)] ∧ obs' = [])
def RNewI (bad : Int) (r : AV) (obs' : List (Option Ob)) : Prop :=
  (In bad 0 4 ∧ r = .tup [.g (wiC (newW bad) 0), .o (cB true)] ∧ obs' = [some (nsO (newW bad))]) ∨
  (¬ In bad 0 4 ∧ r = .tup [.g [cI 0, .c (.sl 4 []), .c (vsF []), cI 0], .o (cB false)] ∧ obs' = [])
theorem ok_4 {D : Nat → Prop} {a b c d : AC} {e : AC} (h1 : okC D a) (h2 : okC D b) (h3 : okC D c) (h4 : okC D d) (h5 : okC D e) : okV D (.tup [.g [a, b, c, d], .o e]) := by
  intro x hx
  simp only [List.mem_cons, List.not_mem_nil, or_false] at hx
  rcases hx with rfl | rfl
  · intro y hy
    simp only [List.mem_cons, List.not_mem_nil, or_false] at hy
    rcases hy with rfl | rfl | rfl | rfl <;> assumption
  · exact h5
def S_impl_WorldNew : MSpec := mkN (α := Int) (fun i => [I i]) (fun _ => True) RNew0 0 (fun i _ => by
    by_cases h : In i 0 4
    · refine ⟨_, _, .inl ⟨h, rfl, rfl⟩, ok_4 trivial (show 0 < 1 by decide) trivial trivial trivial, ok_sg fun x hx c hc => ?_⟩
      simp only [List.mem_cons, List.not_mem_nil, or_false] at hx
      rcases hx with rfl | rfl | rfl | rfl <;> (simp only [List.mem_cons, List.not_mem_nil, or_false] at hc; rcases hc with rfl | rfl | rfl | rfl <;> trivial)
    · exact ⟨_, _, .inr ⟨h, rfl, rfl⟩, ok_4 trivial trivial trivial trivial trivial, fun j o h => by simp at h⟩) (fun i r obs' h => by rcases h with ⟨_, _, rfl⟩ | ⟨_, _, rfl⟩ <;> simp)
theorem K_impl_WorldNew {i : Int} {r : AV} {obs' : List (Option Ob)} (h : S_impl_WorldNew.post [I i] [] r obs') : RNew0 i r obs' :=
  mkN_post (enc := fun i => [I i]) (a := i) (R := RNew0) (fun _ _ h => by simpa only [List.cons.injEq, and_true, aI_inj] using h) h
def S_impl_WorldNew_s : MSpec := mkN (α := Int) (fun i => [I i]) (fun _ => True) RNewI 0 (fun i _ => by
    by_cases h : In i 0 4
    · exact ⟨_, _, .inl ⟨h, rfl, rfl⟩, ok_4 trivial (show 0 < 1 by decide) trivial trivial trivial, ok_sg (arA_ok _)⟩
    · exact ⟨_, _, .inr ⟨h, rfl, rfl⟩, ok_4 trivial trivial trivial trivial trivial, fun j o h => by simp at h⟩) (fun i r obs' h => by rcases h with ⟨_, _, rfl⟩ | ⟨_, _, rfl⟩ <;> simp)
theorem K_impl_WorldNew_s {i : Int} {r : AV} {obs' : List (Option Ob)} (h : S_impl_WorldNew_s.post [I i] [] r obs') : RNewI i r obs' :=
  mkN_post (enc := fun i => [I i]) (a := i) (R := RNewI) (fun _ _ h => by simpa only [List.cons.injEq, and_true, aI_inj] using h) h
theorem newI_of_0 {P : Program} {f : Nat} (hv : ValidM P f S_impl_WorldNew) : ValidM P f S_impl_WorldNew_s := by
  refine valid_wk hv rfl (fun args obs ⟨a, h1, h2, h3⟩ => ⟨a, h1, h2, h3⟩) fun args obs r obs' ⟨a, h1, h2, h3⟩ h => ?_
  subst h1 h2
  have w0 : wkC .e0 (.c (vsF [])) := .inr ⟨rfl, 2, rfl⟩
  rcases K_impl_WorldNew h with ⟨q1, rfl, rfl⟩ | ⟨q1, rfl, rfl⟩
  · refine ⟨_, _, ⟨a, rfl, rfl, .inl ⟨q1, rfl, rfl⟩⟩, ⟨⟨.inl rfl, .inl rfl, w0, .inl rfl, trivial⟩, .inl rfl, trivial⟩, ⟨?_, trivial⟩⟩
    exact ⟨_, rfl, ⟨.inl rfl, .inl rfl, .inl rfl, w0, trivial⟩, ⟨.inl rfl, .inl rfl, .inl rfl, w0, trivial⟩, ⟨.inl rfl, .inl rfl, .inl rfl, w0, trivial⟩, ⟨.inl rfl, .inl rfl, .inl rfl, w0, trivial⟩, trivial⟩
  · exact ⟨_, _, ⟨a, rfl, rfl, .inr ⟨q1, rfl, rfl⟩⟩, ⟨⟨.inl rfl, .inr ⟨rfl, 4, rfl⟩, w0, .inl rfl, trivial⟩, .inl rfl, trivial⟩, trivial⟩
end Av
end Go.Proofs.Ytfijfccgghhkoaa
