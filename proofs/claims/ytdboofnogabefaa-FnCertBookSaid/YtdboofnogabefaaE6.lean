/- The contracts of the drawing functions: what they hand back is some data of bounded size. -/
import Derived.Test.YtdboofnogabefaaE4
import Derived.Test.YtdboofnogabefaaW1
set_option linter.unusedVariables false
set_option linter.unusedSimpArgs false
namespace Go.Proofs.Ytdboofnogabefaa
namespace Av
open Go.RowKit
def Bytes (b : List Int) : Prop := ∀ x, x ∈ b → 0 ≤ x ∧ x ≤ 255
def RdOk (b : List Int) : Prop := b.length ≤ 2000 ∧ Bytes b
def CodeOk (b : List Int) : Prop := b.length ≤ LIM ∧ Bytes b
def DrV (l : List Vo) : Prop := l.length ≤ 400 ∧ ∀ v, v ∈ l → v.c.length ≤ 16
theorem DrV.fit {l : List Vo} (h : DrV l) : FitVs l := ⟨Nat.le_trans h.1 (by decide), fun v hv => Nat.le_trans (h.2 v hv) (by decide)⟩
theorem DrV.lt {l : List Vo} (h : DrV l) : l.length < LIM := Nat.lt_of_le_of_lt h.1 (by decide)
theorem DrV.get {l : List Vo} {i : Nat} {v : Vo} (h : DrV l) (hv : l[i]? = some v) : v.c.length ≤ 16 := h.2 v (List.mem_of_getElem? hv)
abbrev pt0 : AV := .w (.o (.ptr 0 0))
abbrev ow0 : AV := .w (.o (.ow 0))
abbrev ow1 : AV := .w (.o (.ow 1))
abbrev rdO (b : List Int) : Ob := .rd (byF b)
abbrev itO (c : List It) : Ob := .arr ty_impl_Item 4 (arA itF c)
abbrev voO (l : List Vo) : Ob := .arr ty_impl_Vote 2 (arA voF l)
theorem rdO_inj {a b : List Int} (h : [rdO a] = [rdO b]) : a = b := by
  have := (List.cons.inj h).1
  exact byF_inj.1 (Ob.rd.inj this)
theorem voO_inj {a b : List Vo} (h : [voO a] = [voO b]) : a = b := by
  have := (List.cons.inj h).1
  exact arA_inj (fun _ _ => voF_inj.1) (Ob.arr.inj this).2.2
theorem okw {n k : Nat} (h : k < n) : okV (· < n) (.w (.o (.ow k))) := h
theorem okp {n k : Nat} (h : k < n) : okV (· < n) (.w (.o (.ptr k 0))) := h
theorem ok_two {D : Nat → Prop} {o1 o2 : Ob} (h1 : okOb D o1) (h2 : okOb D o2) : ∀ (j : Nat) o, [some o1, some o2][j]? = some (some o) → okOb D o
  | 0, o, h => by cases h; exact h1
  | 1, o, h => by cases h; exact h2
  | j + 2, o, h => by simp at h
theorem ok_nw {D : Nat → Prop} {o2 : Ob} (h2 : okOb D o2) : ∀ (j : Nat) o, [none, some o2][j]? = some (some o) → okOb D o
  | 0, o, h => by cases h
  | 1, o, h => by cases h; exact h2
  | j + 2, o, h => by simp at h
theorem ok_sg {D : Nat → Prop} {o1 : Ob} (h1 : okOb D o1) : ∀ (j : Nat) o, [some o1][j]? = some (some o) → okOb D o
  | 0, o, h => by cases h; exact h1
  | j + 1, o, h => by simp at h
/-- A reader in, a chain out. -/
def rdItM (n cost : Nat) : MSpec := mkM (α := List Int) (fun _ => [pt0]) (fun b => [rdO b]) RdOk (fun b r obs' => ∃ c : List It, r = ow1 ∧ obs' = [some (rdO b), some (itO c)] ∧ c.length ≤ n) cost
  (fun b _ => ⟨ow1, _, ⟨[], rfl, rfl, Nat.zero_le _⟩, okw (Nat.lt_of_lt_of_le Nat.one_lt_two (Nat.le_refl _)), ok_two trivial (arA_ok _)⟩) (fun b r obs' ⟨c, _, h, _⟩ => by rw [h]; exact ⟨by simp, by simp⟩)
def S_spec_l71Chain : MSpec := rdItM 6 100
def S_spec_l71Off : MSpec := rdItM 7 200
theorem rdItM_post {n cost : Nat} {b : List Int} {r : AV} {obs' : List (Option Ob)} (h : (rdItM n cost).post [pt0] [rdO b] r obs') : ∃ c : List It, r = ow1 ∧ obs' = [some (rdO b), some (itO c)] ∧ c.length ≤ n :=
  mkM_post (enc := fun _ => [pt0]) (ob := fun b => [rdO b]) (fun _ _ _ h => rdO_inj h) h
def S_spec_l71Votes : MSpec := mkM (α := List Int) (fun _ => [pt0]) (fun b => [rdO b]) RdOk (fun b r obs' => ∃ l : List Vo, r = ow1 ∧ obs' = [some (rdO b), some (voO l)] ∧ l.length ≤ 200 ∧ ∀ v, v ∈ l → v.c.length ≤ 16) 5000
  (fun b _ => ⟨ow1, _, ⟨[], rfl, rfl, Nat.zero_le _, fun v h => by cases h⟩, okw (Nat.lt_of_lt_of_le Nat.one_lt_two (Nat.le_refl _)), ok_two trivial (arA_ok _)⟩) (fun b r obs' ⟨c, _, h, _⟩ => by rw [h]; exact ⟨by simp, by simp⟩)
theorem K_spec_l71Votes {b : List Int} {r : AV} {obs' : List (Option Ob)} (h : S_spec_l71Votes.post [pt0] [rdO b] r obs') : ∃ l : List Vo, r = ow1 ∧ obs' = [some (rdO b), some (voO l)] ∧ l.length ≤ 200 ∧ ∀ v, v ∈ l → v.c.length ≤ 16 :=
  mkM_post (enc := fun _ => [pt0]) (ob := fun b => [rdO b]) (fun _ _ _ h => rdO_inj h) h
/-- Bytes in, a reader out. -/
def S_spec_l6Open : MSpec := mkM (α := List Int) (fun b => [one (byF b)]) (fun _ => []) CodeOk (fun _ r obs' => ∃ b, r = pt0 ∧ obs' = [some (rdO b)] ∧ RdOk b) 0
  (fun b _ => ⟨pt0, _, ⟨[], rfl, rfl, Nat.zero_le _, fun x h => by cases h⟩, okp Nat.one_pos, ok_sg trivial⟩) (fun b r obs' ⟨c, _, h, _⟩ => by rw [h]; exact ⟨by simp, by simp⟩)
theorem K_spec_l6Open {b : List Int} {r : AV} {obs' : List (Option Ob)} (h : S_spec_l6Open.post [one (byF b)] [] r obs') : ∃ b, r = pt0 ∧ obs' = [some (rdO b)] ∧ RdOk b :=
  mkM_post (enc := fun b => [one (byF b)]) (ob := fun _ => []) (a := b) (fun _ _ h _ => by simpa only [List.cons.injEq, and_true, one_inj, byF_inj] using h) h
/-- A chain anew, to be written on. -/
def SO_spec_l1Copy : OSpec where
  pre args := ∃ c : List It, args = [one (chF c)] ∧ c.length ≤ LIM
  ob args := match args with
    | [.w (.o (.c (.sl 4 xs)))] => .arr ty_impl_Item 4 (xs.map fun x => x.map AC.c)
    | _ => .tok 0 0 0
  hok args := by
    split
    · rename_i xs
      intro x hx c hc
      obtain ⟨y, _, rfl⟩ := List.mem_map.1 hx
      obtain ⟨z, _, rfl⟩ := List.mem_map.1 hc
      exact trivial
    · exact trivial
  hcl := fun args ⟨c, h, _⟩ => by rw [h]; rfl
  fl := false
  hfl := by intro h; cases h
theorem so_spec_l1Copy (c : List It) : SO_spec_l1Copy.ob [one (chF c)] = itO c := by
  show Ob.arr ty_impl_Item 4 ((c.map itF).map fun x => x.map AC.c) = _
  rw [List.map_map]; rfl
noncomputable def S_spec_l3Add : MSpec := mkM (α := List Vo × Vo) (fun a => [ow0, agg (voF a.2)]) (fun a => [voO a.1]) (fun a => FitVs a.1 ∧ FitV a.2 ∧ a.1.length < LIM)
  (fun a r obs' => (a.2 ∈ a.1 ∧ r = .tup [.o (.ow 0), .o (cB false)] ∧ obs' = [some (voO a.1)]) ∨ (a.2 ∉ a.1 ∧ r = .tup [.o (.ow 1), .o (cB true)] ∧ obs' = [none, some (voO (a.1 ++ [a.2]))])) 0
  (fun a _ => by
    by_cases h : a.2 ∈ a.1
    · exact ⟨_, _, .inl ⟨h, rfl, rfl⟩, by simp [okV, okW, okC], ok_sg (arA_ok _)⟩
    · exact ⟨_, _, .inr ⟨h, rfl, rfl⟩, by simp [okV, okW, okC], ok_nw (arA_ok _)⟩)
  (fun b r obs' h => by rcases h with ⟨_, _, h⟩ | ⟨_, _, h⟩ <;> rw [h] <;> exact ⟨by simp, by simp⟩)
theorem K_spec_l3Add {l : List Vo} {v : Vo} {r : AV} {obs' : List (Option Ob)} (h : S_spec_l3Add.post [ow0, agg (voF v)] [voO l] r obs') :
    (v ∈ l ∧ r = .tup [.o (.ow 0), .o (cB false)] ∧ obs' = [some (voO l)]) ∨ (v ∉ l ∧ r = .tup [.o (.ow 1), .o (cB true)] ∧ obs' = [none, some (voO (l ++ [v]))]) :=
  mkM_post (enc := fun a : List Vo × Vo => [ow0, agg (voF a.2)]) (ob := fun a => [voO a.1]) (a := (l, v)) (by
    rintro ⟨l, v⟩ ⟨l', v'⟩ h h'
    have h1 := voO_inj h'
    simp only [List.cons.injEq, and_true, true_and, agg_inj, voF_inj] at h
    dsimp only at h1
    rw [h1, h]) h
def R_spec_l6Rd_pick (a : (List Int) × (Int)) (r : AV) : Prop := ∃ k : Int, r = I k ∧ 0 ≤ k ∧ (k < a.2 ∨ (a.2 < 1 ∧ k = 0))
def R_spec_l71Pay (a : (List Int)) (r : AV) : Prop := ∃ p : Pa, r = agg (paF p)
def R_spec_l71AnyPay (a : (List Int)) (r : AV) : Prop := ∃ p : Pa, r = agg (paF p)
def R_spec_l71Two (a : (List Int)) (r : AV) : Prop := ∃ c d : List It, r = .tup [.o (.c (chF c)), .o (.c (chF d))] ∧ c.length ≤ 16 ∧ d.length ≤ 16
def noV : Vo := ⟨0, []⟩
def noP : Pa := ⟨0, 0, 0⟩
theorem inh_spec_l6Rd_pick : ∀ a : List Int × Int, RdOk a.1 → ∃ r, R_spec_l6Rd_pick a r ∧ okV noN r := fun a _ => ⟨I 0, ⟨0, rfl, Int.le_refl _, by omega⟩, trivial⟩
theorem inh_spec_l71Pay : ∀ a : List Int, RdOk a → ∃ r, R_spec_l71Pay a r ∧ okV noN r := fun a _ => ⟨_, ⟨noP, rfl⟩, ok_agg _ _⟩
theorem inh_spec_l71AnyPay : ∀ a : List Int, RdOk a → ∃ r, R_spec_l71AnyPay a r ∧ okV noN r := fun a _ => ⟨_, ⟨noP, rfl⟩, ok_agg _ _⟩
theorem ok_tup2 {D : Nat → Prop} {f g : FV} : okV D (.tup [.o (.c f), .o (.c g)]) := by simp [okV, okW, okC]
theorem inh_spec_l71Two : ∀ a : List Int, RdOk a → ∃ r, R_spec_l71Two a r ∧ okV noN r := fun a _ => ⟨_, ⟨[], [], rfl, Nat.zero_le _, Nat.zero_le _⟩, ok_tup2⟩
noncomputable def S_spec_l6Rd_pick : FSpec := mkR (α := (List Int) × (Int)) (fun a => [.w (.o (.rp (byF a.1))), I a.2]) (fun a => RdOk a.1) R_spec_l6Rd_pick 1 false (fun h => by cases h) inh_spec_l6Rd_pick (fun _ => rfl)
noncomputable def S_spec_l71Pay : FSpec := mkR (α := (List Int)) (fun a => [.w (.o (.rp (byF a)))]) (fun a => RdOk a) R_spec_l71Pay 10 false (fun h => by cases h) inh_spec_l71Pay (fun _ => rfl)
noncomputable def S_spec_l71AnyPay : FSpec := mkR (α := (List Int)) (fun a => [.w (.o (.rp (byF a)))]) (fun a => RdOk a) R_spec_l71AnyPay 20 false (fun h => by cases h) inh_spec_l71AnyPay (fun _ => rfl)
noncomputable def S_spec_l71Two : FSpec := mkR (α := (List Int)) (fun a => [.w (.o (.rp (byF a)))]) (fun a => RdOk a) R_spec_l71Two 600 false (fun h => by cases h) inh_spec_l71Two (fun _ => rfl)
noncomputable def S_spec_l3VoteCopy : FSpec := gF (α := (Vo)) (fun a => [agg (voF a)]) (fun a => FitV a) (fun a => voF a) (fun _ => rfl)
theorem K_spec_l6Rd_pick {a : (List Int) × (Int)} {r : AV} (h : S_spec_l6Rd_pick.post ([.w (.o (.rp (byF a.1))), I a.2]) r) : R_spec_l6Rd_pick a r :=
  mkR_post (a := a) (by rintro ⟨x0, x1⟩ ⟨y0, y1⟩ h; simp only [List.cons.injEq, and_true, true_and, one_inj, agg_inj, paF_inj, itF_inj, chF_inj, voF_inj, vsF_inj, csF_inj, nsF_inj, nssF_inj, ndF_inj, ceF_inj, woF_inj, evF_inj, byF_inj, ndsF_inj, evsF_inj, pasF_inj, aI_inj, aB_inj, aRp_inj, fI_inj, fBo_inj] at h; obtain ⟨rfl, rfl⟩ := h; rfl) h
theorem K_spec_l71Pay {a : (List Int)} {r : AV} (h : S_spec_l71Pay.post ([.w (.o (.rp (byF a)))]) r) : R_spec_l71Pay a r :=
  mkR_post (a := a) (by intro a b h; simpa only [List.cons.injEq, and_true, true_and, one_inj, agg_inj, paF_inj, itF_inj, chF_inj, voF_inj, vsF_inj, csF_inj, nsF_inj, nssF_inj, ndF_inj, ceF_inj, woF_inj, evF_inj, byF_inj, ndsF_inj, evsF_inj, pasF_inj, aI_inj, aB_inj, aRp_inj, fI_inj, fBo_inj] using h) h
theorem K_spec_l71AnyPay {a : (List Int)} {r : AV} (h : S_spec_l71AnyPay.post ([.w (.o (.rp (byF a)))]) r) : R_spec_l71AnyPay a r :=
  mkR_post (a := a) (by intro a b h; simpa only [List.cons.injEq, and_true, true_and, one_inj, agg_inj, paF_inj, itF_inj, chF_inj, voF_inj, vsF_inj, csF_inj, nsF_inj, nssF_inj, ndF_inj, ceF_inj, woF_inj, evF_inj, byF_inj, ndsF_inj, evsF_inj, pasF_inj, aI_inj, aB_inj, aRp_inj, fI_inj, fBo_inj] using h) h
theorem K_spec_l71Two {a : (List Int)} {r : AV} (h : S_spec_l71Two.post ([.w (.o (.rp (byF a)))]) r) : R_spec_l71Two a r :=
  mkR_post (a := a) (by intro a b h; simpa only [List.cons.injEq, and_true, true_and, one_inj, agg_inj, paF_inj, itF_inj, chF_inj, voF_inj, vsF_inj, csF_inj, nsF_inj, nssF_inj, ndF_inj, ceF_inj, woF_inj, evF_inj, byF_inj, ndsF_inj, evsF_inj, pasF_inj, aI_inj, aB_inj, aRp_inj, fI_inj, fBo_inj] using h) h
theorem K_spec_l3VoteCopy {a : (Vo)} {r : AV} (h : S_spec_l3VoteCopy.post ([agg (voF a)]) r) : r = agg (voF a) :=
  gF_post (hcl := fun _ => rfl) (a := a) (by intro a b h; simpa only [List.cons.injEq, and_true, true_and, one_inj, agg_inj, paF_inj, itF_inj, chF_inj, voF_inj, vsF_inj, csF_inj, nsF_inj, nssF_inj, ndF_inj, ceF_inj, woF_inj, evF_inj, byF_inj, ndsF_inj, evsF_inj, pasF_inj, aI_inj, aB_inj, aRp_inj, fI_inj, fBo_inj] using h) h
end Av
end Go.Proofs.Ytdboofnogabefaa
