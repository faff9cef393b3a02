/- The book: what all have; contracts. -/
import Derived.Test.YtdboofnogabefaaJ11
import Derived.Test.YtdboofnogabefaaFA
set_option linter.unusedVariables false
set_option linter.unusedSimpArgs false
namespace Go.Proofs.Ytdboofnogabefaa
namespace Av
open Go.RowKit
def at0 (b : List Int) (i : Int) : Int := b.getD (i - 1).toNat 0
def lessB (b : List Int) (p : Pa) : List Int := b.set (p.f - 1).toNat (at0 b p.f - p.s)
/-- What all have behind a payment. -/
def payL (b : List Int) (p : Pa) : List Int := if p.s ≤ at0 b p.f then (lessB b p).set (p.t - 1).toNat (at0 (lessB b p) p.t + p.s) else b
def BookOk (b : List Int) : Prop := (∀ x, x ∈ b → In x 0 27) ∧ b.length = 3 ∧ b.sum = 27
def newB : List Int := [9, 9, 9]
def paysL (b : List Int) (c : List It) : List Int := c.foldl (fun b x => payL b x.p) b
noncomputable def bookOf (c : List It) : List Int := if tb (ChainOk c) = true then paysL newB c else []
theorem bookOk_new : BookOk newB := by
  refine ⟨fun x hx => ?_, rfl, rfl⟩
  simp only [newB, List.mem_cons, List.not_mem_nil, or_false] at hx
  rcases hx with rfl | rfl | rfl <;> exact ⟨by decide, by decide⟩
theorem in3 {i : Int} (h : In i 1 3) : i = 1 ∨ i = 2 ∨ i = 3 := by obtain ⟨h1, h2⟩ := h; omega
theorem list3 {b : List Int} (h : b.length = 3) : ∃ x y z, b = [x, y, z] := by
  match b, h with
  | [x, y, z], _ => exact ⟨x, y, z, rfl⟩
theorem in_mem {b : List Int} (h : ∀ x, x ∈ b → In x 0 27) {i : Nat} {x : Int} (hx : b[i]? = some x) : In x 0 27 := h x (List.mem_of_getElem? hx)
theorem bookOk3 {x y z : Int} : BookOk [x, y, z] ↔ In x 0 27 ∧ In y 0 27 ∧ In z 0 27 ∧ x + y + z = 27 := by
  have e : [x, y, z].sum = x + y + z := by simp only [List.sum_cons, List.sum_nil]; omega
  unfold BookOk
  rw [e]
  simp [and_assoc]
theorem bookOk_pay {b : List Int} {p : Pa} (hb : BookOk b) (hp : PayOk p) : BookOk (payL b p) := by
  obtain ⟨x, y, z, rfl⟩ := list3 hb.2.1
  rw [bookOk3] at hb
  obtain ⟨⟨x1, x2⟩, ⟨y1, y2⟩, ⟨z1, z2⟩, hs⟩ := hb
  obtain ⟨hf, ht, hne, s1, s2⟩ := hp
  obtain ⟨f, t, s⟩ := p
  dsimp only at hf ht hne s1 s2
  unfold payL
  dsimp only
  rcases in3 hf with rfl | rfl | rfl <;> rcases in3 ht with rfl | rfl | rfl <;> first
    | exact absurd rfl hne
    | (split <;> (try simp only [lessB, at0] at *) <;> (try simp at *) <;> (rw [bookOk3]; refine ⟨⟨?_, ?_⟩, ⟨?_, ?_⟩, ⟨?_, ?_⟩, ?_⟩ <;> omega))
theorem bookOk_pays : ∀ {c : List It} {b : List Int}, BookOk b → (∀ x, x ∈ c → PayOk x.p) → BookOk (paysL b c)
  | [], _, hb, _ => hb
  | x :: c, _, hb, h => bookOk_pays (c := c) (bookOk_pay hb (h x (List.mem_cons_self ..))) fun y hy => h y (List.mem_cons_of_mem _ hy)
theorem chainOk_pay {c : List It} (h : ChainOk c) : ∀ x, x ∈ c → PayOk x.p := fun x hx => by
  obtain ⟨i, hi⟩ := List.mem_iff_getElem?.1 hx
  exact (h.1 i x hi).2.1
theorem bookOf_ok {c : List It} (h : ChainOk c) : BookOk (bookOf c) := by
  unfold bookOf; rw [tb_pos h]; exact bookOk_pays bookOk_new (chainOk_pay h)
theorem paysL_take {c : List It} {i : Nat} {x : It} (b : List Int) (hx : c[i]? = some x) : paysL b (c.take (i + 1)) = payL (paysL b (c.take i)) x.p := by
  unfold paysL
  rw [List.take_add_one, hx, List.foldl_append]; rfl
theorem bookOk_take {c : List It} (h : ChainOk c) (i : Nat) : BookOk (paysL newB (c.take i)) := bookOk_pays bookOk_new fun x hx => chainOk_pay h x (List.mem_of_mem_take hx)
/-! ### contracts -/
noncomputable def SO_slices_Repeat_nS : OSpec := mkOF (α := Unit) ty_int 1 inF inF_v (fun _ => [one (nsF [9]), I 3]) (fun _ => True) (fun _ => newB) fun _ => rfl
theorem so_slices_Repeat_nS : SO_slices_Repeat_nS.ob [one (nsF [9]), I 3] = isO newB := mkOF_ob (enc := fun _ : Unit => [one (nsF [9]), I 3]) (g := fun _ => newB) (hcl := fun _ => rfl) (fun _ _ _ => rfl) ()
noncomputable def S_slices_Clip_nS_o : MSpec := mkM (α := List Int) (fun _ => [ow0]) (fun b => [isO b]) (fun _ => True) (fun b r obs' => r = .w (.o (.ow 1)) ∧ obs' = [none, some (isO b)]) 0
  (fun b _ => ⟨_, _, ⟨rfl, rfl⟩, okw (by simp), fun j o h => by
    match j, h with
    | 0, h => simp at h
    | 1, h => simp at h; subst h; exact arA_ok _
    | j + 2, h => simp at h⟩)
  (fun b r obs' h => by obtain ⟨_, rfl⟩ := h; simp)
theorem K_slices_Clip_nS_o {b : List Int} {r : AV} {obs' : List (Option Ob)} (h : S_slices_Clip_nS_o.post [ow0] [isO b] r obs') : r = .w (.o (.ow 1)) ∧ obs' = [none, some (isO b)] :=
  mkM_post (enc := fun _ : List Int => [ow0]) (ob := fun b => [isO b]) (a := b) (fun a b _ h' => isO_inj h') h
noncomputable def SO_impl_BookNew : OSpec := mkOF (α := Unit) ty_int 1 inF inF_v (fun _ => []) (fun _ => True) (fun _ => newB) fun _ => rfl
theorem so_impl_BookNew : SO_impl_BookNew.ob [] = isO newB := mkOF_ob (enc := fun _ : Unit => []) (g := fun _ => newB) (hcl := fun _ => rfl) (fun _ _ _ => rfl) ()
noncomputable def S_impl_pay : MSpec := mkM (α := List Int × Pa) (fun a => [ow0, agg (paF a.2)]) (fun a => [isO a.1]) (fun a => BookOk a.1 ∧ PayOk a.2) (fun a r obs' => r = .tup [] ∧ obs' = [some (isO (payL a.1 a.2))]) 0
  (fun a _ => ⟨_, _, ⟨rfl, rfl⟩, (fun c hc => by cases hc), ok_sg (arA_ok _)⟩)
  (fun a r obs' h => by obtain ⟨_, rfl⟩ := h; simp)
theorem K_impl_pay {b : List Int} {p : Pa} {r : AV} {obs' : List (Option Ob)} (h : S_impl_pay.post [ow0, agg (paF p)] [isO b] r obs') : r = .tup [] ∧ obs' = [some (isO (payL b p))] :=
  mkM_post (enc := fun a : List Int × Pa => [ow0, agg (paF a.2)]) (ob := fun a => [isO a.1]) (a := (b, p)) (fun a b h h' => by
    obtain ⟨x, y⟩ := a; obtain ⟨z, w⟩ := b
    have e1 := isO_inj h'
    have e2 := paF_inj.1 (agg_inj.1 (List.cons.inj (List.cons.inj h).2).1)
    dsimp only at e1 e2
    rw [e1, e2]) h
/-- Numbers of one's own. -/
def ownN (c : List Int) (r : AV) (obs' : List (Option Ob)) : Prop := (r = .w (.o .e0) ∧ obs' = [] ∧ c = []) ∨ (r = ow0 ∧ obs' = [some (isO c)])
theorem ownN_inh (c : List Int) : ∃ r obs', ownN c r obs' ∧ okV (· < obs'.length) r ∧ ∀ (j : Nat) o, obs'[j]? = some (some o) → okOb (· < obs'.length) o :=
  ⟨ow0, _, .inr ⟨rfl, rfl⟩, okw Nat.one_pos, ok_sg (arA_ok _)⟩
theorem ownN_len {c : List Int} {r : AV} {obs' : List (Option Ob)} (h : ownN c r obs') : obs'.length ≤ 16 := by rcases h with ⟨_, h, _⟩ | ⟨_, h⟩ <;> rw [h] <;> simp
noncomputable def S_ownN {α : Type} (enc : α → List AV) (p : α → Prop) (g : α → List Int) : MSpec := mkN enc p (fun a => ownN (g a)) 0 (fun a _ => ownN_inh (g a)) (fun _ _ _ h => ownN_len h)
/-- From a function that may hand back an empty slice as such. -/
theorem valid_ON {P : Program} {f : Nat} {α : Type} {enc : α → List AV} {p : α → Prop} {g : α → List Int} {hcl : ∀ a, (enc a).all clV = true} (hinj : ∀ a b, enc a = enc b → a = b) (hv : ValidM P f (S_ownN enc p g)) : ValidM P f (mkOF ty_int 1 inF inF_v enc p g hcl).toM := by
  refine valid_O hv rfl (fun args ⟨l, h, hp⟩ => ⟨l, h, rfl, hp⟩) fun args r obs' ⟨l, h, hp⟩ hq => ?_
  subst h
  rw [mkOF_ob hinj]
  rcases mkN_post hinj hq with ⟨h1, h2, h3⟩ | ⟨h1, h2⟩
  · exact .inl ⟨h1, h2, ty_int, 1, by rw [h3]; rfl⟩
  · exact .inr ⟨h1, h2⟩
theorem encC_inj (a b : List It) (h : [one (chF a)] = [one (chF b)]) : a = b := by simpa only [List.cons.injEq, and_true, one_inj, chF_inj] using h
noncomputable def S_impl_BookOf : MSpec := S_ownN (fun c : List It => [one (chF c)]) (fun c => c.length ≤ LIM) bookOf
noncomputable def SO_impl_BookOf : OSpec := mkOF (α := List It) ty_int 1 inF inF_v (fun c => [one (chF c)]) (fun c => c.length ≤ LIM) bookOf fun _ => rfl
theorem so_impl_BookOf (c : List It) : SO_impl_BookOf.ob [one (chF c)] = isO (bookOf c) := mkOF_ob (enc := fun c => [one (chF c)]) (g := bookOf) (hcl := fun _ => rfl) encC_inj c
noncomputable def S_spec_BookNew : FSpec := oF (α := Unit) (fun a => []) (fun a => True) (fun a => nsF newB) (fun _ => rfl)
noncomputable def S_spec_l2Pay : FSpec := oF (α := (List Int) × (Pa)) (fun a => [one (nsF a.1), agg (paF a.2)]) (fun a => BookOk a.1 ∧ PayOk a.2) (fun a => nsF (payL a.1 a.2)) (fun _ => rfl)
noncomputable def S_spec_BookOf : FSpec := oF (α := (List It)) (fun a => [one (chF a)]) (fun a => a.length ≤ LIM) (fun a => nsF (bookOf a)) (fun _ => rfl)
theorem K_spec_BookNew {a : Unit} {r : AV} (h : S_spec_BookNew.post ([]) r) : r = one (nsF newB) :=
  oF_post (hcl := fun _ => rfl) (a := a) (fun _ _ _ => rfl) h
theorem K_spec_l2Pay {a : (List Int) × (Pa)} {r : AV} (h : S_spec_l2Pay.post ([one (nsF a.1), agg (paF a.2)]) r) : r = one (nsF (payL a.1 a.2)) :=
  oF_post (hcl := fun _ => rfl) (a := a) (by rintro ⟨x0, x1⟩ ⟨y0, y1⟩ h; simp only [List.cons.injEq, and_true, true_and, one_inj, agg_inj, paF_inj, itF_inj, chF_inj, voF_inj, vsF_inj, csF_inj, nsF_inj, nssF_inj, ndF_inj, ceF_inj, woF_inj, evF_inj, byF_inj, ndsF_inj, evsF_inj, pasF_inj, aI_inj, aB_inj, aRp_inj, fI_inj, fBo_inj] at h; obtain ⟨rfl, rfl⟩ := h; rfl) h
theorem K_spec_BookOf {a : (List It)} {r : AV} (h : S_spec_BookOf.post ([one (chF a)]) r) : r = one (nsF (bookOf a)) :=
  oF_post (hcl := fun _ => rfl) (a := a) (by intro a b h; simpa only [List.cons.injEq, and_true, true_and, one_inj, agg_inj, paF_inj, itF_inj, chF_inj, voF_inj, vsF_inj, csF_inj, nsF_inj, nssF_inj, ndF_inj, ceF_inj, woF_inj, evF_inj, byF_inj, ndsF_inj, evsF_inj, pasF_inj, aI_inj, aB_inj, aRp_inj, fI_inj, fBo_inj] using h) h
end Av
end Go.Proofs.Ytdboofnogabefaa
