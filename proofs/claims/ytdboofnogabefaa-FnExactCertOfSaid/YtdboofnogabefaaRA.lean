/- From contracts to rows: what the reading of the arguments gives the walks; what a yes gives the row. No program is named here. -/
import Derived.Test.YtdboofnogabefaaD0
import Derived.SizedLaws
import Derived.Carry
import Derived.OpenShut
import Derived.Test.YtdboofnogabefaaRows
import Derived.Test.YtdboofnogabefaaJ9
import Derived.KernelRfl
set_option linter.unusedVariables false
set_option linter.unusedSimpArgs false
namespace Go.Proofs.Ytdboofnogabefaa
namespace Av
open Go.RowKit Go.ChangeShapes Go.WideShapes Go.ChangeAt
theorem RFs.nil {V : Vw} : RFs V [] [] := ⟨rfl, fun i u y h => by simp at h⟩
theorem RFs.cons {V : Vw} {u : Value} {y : FV} {cs : List Value} {fs : List FV} (h : RF V u y) (h' : RFs V cs fs) : RFs V (u :: cs) (y :: fs) :=
  ⟨by simp [h'.1], fun i x z e1 e2 => by
    cases i with
    | zero => simp at e1 e2; subst e1; subst e2; exact h
    | succ i => exact h'.2 i x z (by simpa using e1) (by simpa using e2)⟩
theorem addr_at (b o i : Nat) : (⟨b, o, none⟩ : Addr).add i = ⟨b, o + i, none⟩ := by
  unfold Addr.add
  by_cases h : i = 0
  · subst h; rfl
  · simp [h]
section
variable {H : Type} {enc : TypeId × Value → H} {P : Program} {w : World} {base : Nat} {sp : Nat → Bool} {held : Bool}
/-- What cells of this type hold is data, put so. -/
def RdT {α : Type} (enc : TypeId × Value → H) (P : Program) (w : World) (base : Nat) (sp : Nat → Bool) (held : Bool) (t : TypeId) (F : α → List FV) (Q : α → Prop) : Prop :=
  ∀ fuel cs x, DataW.trod enc P w base sp held fuel t cs = some x → ∃ a, RFs (full w) cs (F a) ∧ Q a
def I64 (n : Int) : Prop := -9223372036854775808 ≤ n ∧ n ≤ 9223372036854775807
theorem rd_int {t : TypeId} (hu : P.underlying t = some (.int .i64)) : RdT enc P w base sp held t (fun n : Int => [fI n]) I64 := by
  intro fuel cs x h
  obtain ⟨n, rfl, _, hw⟩ := DataW.trod_int hu h
  exact ⟨n, .cons (.v rfl) .nil, by simpa [I64, Lit.wf, IntKind.min, IntKind.max, IntKind.signed, IntKind.bits] using hw⟩
theorem list_of2 {α : Type} : ∀ {l : List α}, l.length = 2 → ∃ a b, l = [a, b]
  | [a, b], _ => ⟨a, b, rfl⟩
theorem list_of4 {α : Type} : ∀ {l : List α}, l.length = 4 → ∃ a b c d, l = [a, b, c, d]
  | [a, b, c, d], _ => ⟨a, b, c, d, rfl⟩
theorem trod_st2 {t : TypeId} {f0 f1 : Field} {fuel : Nat} {cs : List Value} {x : DataW H × List MemPlace} (ht : P.underlying t = some (.struct #[f0, f1])) (h : DataW.trod enc P w base sp held fuel t cs = some x) :
    ∃ (y0 y1 : DataW H × List MemPlace) (n : Nat), cs.length = P.cellsOf t ∧ DataW.trod enc P w base sp held n f0.type ((cs.drop f0.offset).take (P.cellsOf f0.type)) = some y0 ∧ DataW.trod enc P w base sp held n f1.type ((cs.drop f1.offset).take (P.cellsOf f1.type)) = some y1 := by
  obtain ⟨xs, n, _, rfl, hl, hlen, hf⟩ := DataW.trod_struct ht h
  match xs, hlen with
  | [y0, y1], _ => exact ⟨y0, y1, n, hl, by simpa using hf 0 f0 rfl, by simpa using hf 1 f1 rfl⟩
theorem trod_st3 {t : TypeId} {f0 f1 f2 : Field} {fuel : Nat} {cs : List Value} {x : DataW H × List MemPlace} (ht : P.underlying t = some (.struct #[f0, f1, f2])) (h : DataW.trod enc P w base sp held fuel t cs = some x) :
    ∃ (y0 y1 y2 : DataW H × List MemPlace) (n : Nat), cs.length = P.cellsOf t ∧ DataW.trod enc P w base sp held n f0.type ((cs.drop f0.offset).take (P.cellsOf f0.type)) = some y0 ∧ DataW.trod enc P w base sp held n f1.type ((cs.drop f1.offset).take (P.cellsOf f1.type)) = some y1 ∧ DataW.trod enc P w base sp held n f2.type ((cs.drop f2.offset).take (P.cellsOf f2.type)) = some y2 := by
  obtain ⟨xs, n, _, rfl, hl, hlen, hf⟩ := DataW.trod_struct ht h
  match xs, hlen with
  | [y0, y1, y2], _ => exact ⟨y0, y1, y2, n, hl, by simpa using hf 0 f0 rfl, by simpa using hf 1 f1 rfl, by simpa using hf 2 f2 rfl⟩
theorem pick_list {α β : Type} {R : β → α → Prop} : ∀ {l : List β}, (∀ b, b ∈ l → ∃ a, R b a) → ∃ m : List α, m.length = l.length ∧ ∀ (i : Nat) b a, l[i]? = some b → m[i]? = some a → R b a
  | [], _ => ⟨[], rfl, fun i b a h => by simp at h⟩
  | b :: l, h => by
    obtain ⟨a, ha⟩ := h b (.head _)
    obtain ⟨m, h1, h2⟩ := pick_list fun b hb => h b (.tail _ hb)
    refine ⟨a :: m, by simp [h1], fun i x y e1 e2 => ?_⟩
    cases i with
    | zero => simp at e1 e2; subst e1; subst e2; exact ha
    | succ i => exact h2 i x y (by simpa using e1) (by simpa using e2)
theorem pick_fun {n : Nat} {α : Type} {R : Nat → α → Prop} (h : ∀ i, i < n → ∃ a, R i a) : ∃ m : List α, m.length = n ∧ ∀ (i : Nat) a, m[i]? = some a → R i a := by
  obtain ⟨m, h1, h2⟩ := pick_list (l := List.range n) (R := R) fun i hi => h i (List.mem_range.1 hi)
  refine ⟨m, by simpa using h1, fun i a e => h2 i i a ?_ e⟩
  have := (List.getElem?_eq_some_iff.1 e).1
  rw [h1] at this
  simp at this
  simp [this]
/-- A slice's reading. -/
theorem rd_slice {α : Type} {F : α → List FV} {Q : α → Prop} {t e : TypeId} {sz : Nat} (hu : P.underlying t = some (.slice e)) (hz : P.cellsOf e = sz) (h0 : 0 < sz) (hF : ∀ a, (F a).length = sz) (he : RdT enc P w base sp held e F Q) {fuel : Nat} {cs : List Value} {x : DataW H × List MemPlace}
    (h : DataW.trod enc P w base sp held fuel t cs = some x) : ∃ (v : Value) (l : List α), cs = [v] ∧ RF (full w) v (.sl sz (l.map F)) ∧ l.length ≤ 9223372036854775807 ∧ ∀ a, a ∈ l → Q a := by
  rcases DataW.trod_slice hu h with ⟨rfl, rfl⟩ | ⟨a, len, cap, elems, rest, n, rfl, rfl, rfl, hb, hlc, hcm, hel, hat, _, _⟩
  · exact ⟨_, [], rfl, .sl (b := 0) (off := 0) (fun _ _ => undef) rfl (Nat.le_refl _) (by decide) (fun h => absurd h (Nat.lt_irrefl _)) (fun j x h => by simp at h) (fun j x i y h => by simp at h) (fun j x i y h => by simp at h), Nat.zero_le _, fun a h => by cases h⟩
  · have key : ∀ i, i < len → ∃ a' : α, ∃ ds : List Value, w.cells? base (a.add (i * P.cellsOf e)) (P.cellsOf e) = some ds ∧ RFs (full w) ds (F a') ∧ Q a' := by
      intro i hi
      have h1 := hat i hi
      have h2 : i < elems.length := by omega
      rw [List.getElem?_eq_getElem h2] at h1
      obtain ⟨ds, h3, h4⟩ := Option.bind_eq_some_iff.1 h1
      obtain ⟨a', h5, h6⟩ := he _ _ _ h4
      exact ⟨a', ds, h3, h5, h6⟩
    obtain ⟨l, hl, hR⟩ := pick_fun key
    have hspot : 0 < len → a.spot = none := by
      intro hp
      obtain ⟨_, ds, h3, h5, _⟩ := key 0 hp
      have h6 := (World.cells?_some h3).2.2 0 (by omega)
      have h7 : 0 < ds.length := by rw [(World.cells?_some h3).2.1]; omega
      rw [List.getElem?_eq_getElem h7] at h6
      unfold World.cell? at h6
      split at h6
      · split at h6
        · cases h6
        · rename_i hs
          cases hq : a.spot with
          | none => rfl
          | some q => exact absurd (by unfold Addr.add; split <;> simp_all) hs
      · cases h6
    refine ⟨_, l, rfl, .sl (b := a.block) (off := a.off) (fun j i => (w.cell? ⟨a.block, a.off + j * sz + i, none⟩).getD undef) (by simpa using hl) hlc (by have : cap ≤ maxLen := hcm; unfold maxLen at this; omega) ?_ ?_ ?_ ?_, by have : cap ≤ maxLen := hcm; unfold maxLen at this; omega, fun a' ha => by obtain ⟨j, hj⟩ := List.mem_iff_getElem?.1 ha; exact (hR j a' hj).choose_spec.2.2⟩
    · intro hp
      have := hspot hp
      obtain ⟨b, o, s⟩ := a
      simp only at this; subst this; rfl
    · intro j x hx
      obtain ⟨a', _, rfl⟩ := by simpa using hx
      exact hF a'
    · intro j x i y hx hy
      rw [List.getElem?_map] at hx
      obtain ⟨a', ha', rfl⟩ := Option.map_eq_some_iff.1 hx
      obtain ⟨ds, h3, h5, _⟩ := hR j a' ha'
      have hi : i < (F a').length := (List.getElem?_eq_some_iff.1 hy).1
      rw [hF a'] at hi
      have h6 := (World.cells?_some h3).2.2 i (by omega)
      have h7 : i < ds.length := by rw [(World.cells?_some h3).2.1]; omega
      rw [List.getElem?_eq_getElem h7] at h6
      have hj : j < l.length := (List.getElem?_eq_some_iff.1 ha').1
      have hs := hspot (by omega)
      have e : (a.add (j * P.cellsOf e)).add i = ⟨a.block, a.off + j * sz + i, none⟩ := by
        obtain ⟨b, o, s⟩ := a
        simp only at hs; subst hs
        rw [addr_at, addr_at, hz]
      rw [e] at h6
      show w.cell? _ = _
      rw [h6]; rfl
    · intro j x i y hx hy
      rw [List.getElem?_map] at hx
      obtain ⟨a', ha', rfl⟩ := Option.map_eq_some_iff.1 hx
      obtain ⟨ds, h3, h5, _⟩ := hR j a' ha'
      have hi : i < (F a').length := (List.getElem?_eq_some_iff.1 hy).1
      rw [hF a'] at hi
      have h6 := (World.cells?_some h3).2.2 i (by omega)
      have h7 : i < ds.length := by rw [(World.cells?_some h3).2.1]; omega
      have h8 := List.getElem?_eq_getElem h7
      rw [h8] at h6
      have hj : j < l.length := (List.getElem?_eq_some_iff.1 ha').1
      have hs := hspot (by omega)
      have e : (a.add (j * P.cellsOf e)).add i = ⟨a.block, a.off + j * sz + i, none⟩ := by
        obtain ⟨b, o, s⟩ := a
        simp only at hs; subst hs
        rw [addr_at, addr_at, hz]
      rw [e] at h6
      rw [h6]
      exact h5.2 i _ y h8 hy
theorem rd_slice' {α : Type} {F : α → List FV} {Q : α → Prop} {t e : TypeId} {sz : Nat} (hu : P.underlying t = some (.slice e)) (hz : P.cellsOf e = sz) (h0 : 0 < sz) (hF : ∀ a, (F a).length = sz) (he : RdT enc P w base sp held e F Q) :
    RdT enc P w base sp held t (fun l : List α => [.sl sz (l.map F)]) (fun l => l.length ≤ 9223372036854775807 ∧ ∀ a, a ∈ l → Q a) := by
  intro fuel cs x h
  obtain ⟨v, l, rfl, h1, h2⟩ := rd_slice hu hz h0 hF he h
  exact ⟨l, .cons h1 .nil, h2⟩
theorem arg_slice {α : Type} {F : α → FV} {Q : α → Prop} {t e b0 : TypeId} {v : Value} {d : DataW H} {p : List MemPlace} (hu : P.underlying t = some (.slice e)) (hr : RdT enc P w base sp held t (fun a : α => [F a]) Q)
    (hok : Value.okWide P w .any b0 t v) (h : DataW.Trod enc P w base sp held t v d p) : ∃ a, RV (full w) O0 v (one (F a)) ∧ Q a := by
  obtain ⟨a0, len, cap, rfl⟩ := okWide_slice hu hok
  obtain ⟨fuel, hf⟩ := h
  obtain ⟨a, h1, h2⟩ := hr _ _ _ hf
  exact ⟨a, ⟨h1.2 0 _ _ rfl rfl, fun _ => rfl⟩, h2⟩
theorem RVs.nil' {V : Vw} {O : Nat → Option Value} : RVs V O [] [] := ⟨rfl, fun i x a h => by simp at h⟩
theorem RVs.cons' {V : Vw} {O : Nat → Option Value} {x : Value} {a : AV} {xs : List Value} {az : List AV} (h : RV V O x a) (h' : RVs V O xs az) : RVs V O (x :: xs) (a :: az) :=
  ⟨by simp [h'.1], fun i y b e1 e2 => by
    cases i with
    | zero => simp at e1 e2; subst e1; subst e2; exact h
    | succ i => exact h'.2 i y b (by simpa using e1) (by simpa using e2)⟩
/-- The arguments read behind the call as before. -/
theorem trodAll_stays (hl : laidOutB P = true) {W W' : World} {sp' : Nat → Bool} : ∀ {ts : List TypeId} {vs : List Value} {ds : List (DataW H)} {ps : List MemPlace}, (∀ t, t ∈ ts → P.readableRec t = true ∧ t < P.types.size) →
    DataW.TrodAll enc P W 0 (fun _ => true) true ts vs ds ps → (∀ p ∈ ps, W.sameAt W' p) → (∀ p ∈ ps, sp' p.block = true) → DataW.TrodAll enc P W' 0 sp' true ts vs ds ps
  | [], vs, ds, ps, _, h, _, _ => by
    obtain ⟨rfl, rfl, rfl⟩ := trodAll_nil h
    exact rfl
  | t :: ts, vs, ds, ps, ht, h, hs, hp => by
    obtain ⟨v, vs1, d, ds1, a, b, rfl, rfl, rfl, h1, h2⟩ := trodAll_cons h
    exact ⟨a, b, WideElems.Trod_stays hl (ht t (.head _)).1 (ht t (.head _)).2 h1 (fun p hp => hs p (List.mem_append_left _ hp)) (fun q hq => hp q (List.mem_append_left _ hq)),
      trodAll_stays hl (fun t h => ht t (.tail _ h)) h2 (fun p hp => hs p (List.mem_append_right _ hp)) (fun q hq => hp q (List.mem_append_right _ hq)), rfl⟩
/-- A call by the contract, out of the world as it lies. -/
theorem calls_of_valid {f : Nat} {S : FSpec} (hv : Valid P f S) {args : List AV} {vals : List Value} (hpre : S.pre args) (hc : S.cost ≤ LIM) (hrd : rdOf args = none) (ha : RVs (full w) O0 vals args) :
    Calls P f vals.toArray w fun e w' => ∃ v r V', e = .returned v ∧ S.post args r ∧ RV V' O0 v r ∧ Below w.heap.size w w' := by
  refine (hv.2 args 0 hpre (by omega) (full w) O0 (fun _ => none) w vals (full_sub w) (fun k v h => by cases h) (fun b k h => by cases h) (fun b b' k h => by cases h) (fun b k o h => by cases h) ha (fun f h => by rw [hrd] at h; cases h) (fun _ _ => rfl)).mono ?_
  rintro e w' ⟨v, r, V', he, hp, hr, _, _, _, hk, _⟩
  exact ⟨v, r, V', he, hp, hr, ⟨hk.os, hk.tape, hk.output, hk.size, fun b hb => hk.block b hb rfl⟩⟩
theorem RV_B {V : Vw} {O : Nat → Option Value} {v : Value} {b : Bool} (h : RV V O v (B b)) : v = .bool b := by
  obtain ⟨h, _⟩ := h
  cases h; rfl
/-- The row's conclusion where nothing that was there has turned. -/
theorem post_of_below {f : Func} {s : ChangeSpec} {apart fresh handsOn again : Bool} {W W' : World} {args : Array Value} {v : Value} {ds gs : List (DataW H)} {before pa pv : List MemPlace}
    (hW : DataW.Whole enc P f.params.toList s.vars apart W args.toList ds gs before)
    (hres : ∀ (b : Nat) (sp : Nat → Bool) (hd : Bool), DataW.TrodAll enc P W' b sp hd f.resultTypes.toList (v.resultList f.resultTypes.size) (s.fn H (ds ++ gs)).results [])
    (hargs : ∀ sp : Nat → Bool, (∀ p ∈ before, sp p.block = true) → DataW.TrodAll enc P W' 0 sp true f.params.toList args.toList (s.fn H (ds ++ gs)).args pa)
    (hvars : ∀ sp : Nat → Bool, (∀ p ∈ before, sp p.block = true) → DataW.TrodVars enc P W' sp s.vars (s.fn H (ds ++ gs)).vars pv)
    (hps : before = pa ++ pv) (hb : Below W.heap.size W W')
    (hok : ∀ (j : Nat) (t : TypeId) (r : Value), f.resultTypes[j]? = some t → (v.resultList f.resultTypes.size)[j]? = some r → Value.okWide P W' .any 0 t r) :
    s.post enc P f apart fresh handsOn again W args v W' := by
  have hlt : ∀ p ∈ before, p.block < W.heap.size := fun p hp => by simpa using hW.lt p hp
  have hold : ∀ p ∈ before, (fun b => decide (b < W.heap.size)) p.block = true := fun p hp => by simpa using hW.lt p hp
  refine ⟨ds, gs, before, [], pa, pv, hW, hres _ _ _, hargs _ hold, hvars _ hold, World.keptBut_mono (fun p hp => ⟨hp, ?_⟩) (hb.frame (· ∈ before)), fun _ => ?_⟩
  · rw [hps, List.mem_append] at hp
    exact Or.inr hp
  · obtain ⟨_, _, _, _, _, hz, hn⟩ := hW
    refine ⟨hok, _, _, ([] ++ pa) ++ pv, ⟨[] ++ pa, pv, trodAll_append (hargs _ (fun _ _ => rfl)) (hres _ _ _), hvars _ (fun _ _ => rfl), rfl, ?_, ?_⟩, ?_⟩
    · intro b off hp
      have hp' : MemPlace.cell b off ∈ before := by rw [hps]; simpa using hp
      rw [hb.frozen (p := ⟨b, off, none⟩) (hlt _ hp')]
      exact hz b off hp'
    · intro ha
      have := hn ha
      rw [hps] at this
      simpa using this
    · intro p hp _
      rw [hps]
      simpa using hp
/-- The row: the law says yes, and nothing that was there has turned. -/
theorem row_yes (hl : laidOutB P = true) {fn : Func} {s : ChangeSpec} {W : World} {args : Array Value} {ds gs : List (DataW H)} {before : List MemPlace} {tb : TypeId} {apart fresh handsOn again : Bool}
    (hW : DataW.Whole enc P fn.params.toList s.vars apart W args.toList ds gs before) (hvars : s.vars = []) (hfn : s.fn H (ds ++ gs) = { results := [.lit (.bool true)], args := ds, vars := [] })
    (hpar : ∀ t, t ∈ fn.params.toList → P.readableRec t = true ∧ t < P.types.size) (hres : fn.resultTypes = #[tb]) (htb : P.underlying tb = some .bool)
    {S : FSpec} {g : Nat} (hv : Valid P g S) {xs : List AV} (hpre : S.pre xs) (hc : S.cost ≤ LIM) (hrd : rdOf xs = none) (ha : RVs (full W) O0 args.toList xs) (hpost : ∀ r, S.post xs r → r = B true) :
    Calls P g args W fun e W' => ∃ v, e = .returned v ∧ s.post enc P fn apart fresh handsOn again W args v W' := by
  have hcall := calls_of_valid hv hpre hc hrd ha
  have he : args.toList.toArray = args := by simp
  rw [he] at hcall
  refine hcall.mono ?_
  rintro e W' ⟨v, r, V', rfl, hp, hr, hb⟩
  have hr' := hpost r hp
  subst hr'
  have hv' := RV_B hr
  subst hv'
  have hW' := hW
  obtain ⟨p, q, hA, hV, rfl, hfz, hnd⟩ := hW
  rw [hvars] at hV
  have hV' : gs = [] ∧ q = [] := by
    cases gs with
    | nil => exact ⟨rfl, hV⟩
    | cons g gs => exact hV.elim
  obtain ⟨rfl, rfl⟩ := hV'
  have hlt : ∀ x ∈ p ++ [], x.block < W.heap.size := fun x hx => by simpa using hW'.lt x hx
  refine ⟨_, rfl, post_of_below (pa := p) (pv := []) hW' (fun b sp' hd => ?_) (fun sp' hs => ?_) (fun sp' _ => ?_) (by simp) hb (ok_one hres rfl (okWide_bool_mk htb _))⟩
  · rw [hfn, hres]
    exact trodAll_cons_mk (shut_bool htb _) trodAll_mk0
  · rw [hfn]
    exact trodAll_stays hl hpar hA (fun x hx => hb.same (hlt x (by simpa using hx))) (fun x hx => hs x (by simpa using hx))
  · rw [hfn, hvars]; rfl
end
end Av
end Go.Proofs.Ytdboofnogabefaa
/- How the rows' arguments read: bytes. -/
namespace Go.Proofs.Ytdboofnogabefaa
namespace Av
open Go.RowKit Go.ChangeShapes Go.WideShapes Go.ChangeAt
theorem own1 : ownKnob Try.prog.godebug = none := by kernel_rfl
section
variable {H : Type} {enc : TypeId × Value → H} {w : World} {base : Nat} {sp : Nat → Bool} {held : Bool}
end
end Av
end Go.Proofs.Ytdboofnogabefaa
