/- From contracts to rows: what the reading of the arguments gives the walks; what a yes gives the row. No program is named here. -/
import Derived.Test.YtfijfccgghhkoaaD0
import Derived.SizedLaws
import Derived.Carry
import Derived.OpenShut
import Derived.Test.YtfijfccgghhkoaaRows
import Derived.Test.YtfijfccgghhkoaaQ0
import Derived.KernelRfl
set_option linter.unusedVariables false
set_option linter.unusedSimpArgs false
namespace Go.Proofs.Ytfijfccgghhkoaa
namespace Av
open Go.RowKit Go.ChangeShapes Go.WideShapes Go.ChangeAt
theorem RFs.nil {V : Vw} : RFs V [] [] := ⟨rfl, fun i u y h => by simp at h⟩
theorem RFs.cons {V : Vw} {u : Value} {y : FV} {cs : List Value} {fs : List FV} (h : RF V u y) (h' : RFs V cs fs) : RFs V (u :: cs) (y :: fs) :=
  ⟨by simp [h'.1], fun i x z e1 e2 => by
    cases i with
    | zero => simp at e1 e2; subst e1; subst e2; exact h
    | succ i => exact h'.2 i x z (by simpa using e1) (by simpa using e2)⟩
section
variable {H : Type} {enc : TypeId × Value → H} {P : Program} {w : World} {base : Nat} {sp : Nat → Bool} {held : Bool}
def I64 (n : Int) : Prop := -9223372036854775808 ≤ n ∧ n ≤ 9223372036854775807
theorem arg_int {t b0 : TypeId} {v : Value} {d : DataW H} {p : List MemPlace} (hu : P.underlying t = some (.int .i64))
    (hok : Value.okWide P w .any b0 t v) (h : DataW.Trod enc P w base sp held t v d p) : ∃ n, RV (full w) O0 v (I n) ∧ I64 n := by
  obtain ⟨n, rfl, _, _, hw⟩ := open_int hu hok h
  exact ⟨n, ⟨.v rfl, fun _ => rfl⟩, by simpa [I64, Lit.wf, IntKind.min, IntKind.max, IntKind.signed, IntKind.bits] using hw⟩
theorem RVs.nil' {V : Vw} {O : Nat → Option Value} : RVs V O [] [] := ⟨rfl, fun i x a h => by simp at h⟩
theorem RVs.cons' {V : Vw} {O : Nat → Option Value} {x : Value} {a : AV} {xs : List Value} {az : List AV} (h : RV V O x a) (h' : RVs V O xs az) : RVs V O (x :: xs) (a :: az) :=
  ⟨by simp [h'.1], fun i y b e1 e2 => by
    cases i with
    | zero => simp at e1 e2; subst e1; subst e2; exact h
    | succ i => exact h'.2 i y b (by simpa using e1) (by simpa using e2)⟩
/-- The arguments read behind the call as before. -/
theorem trodAll_stays (hl : laidOutB P = true) {W W' : World} {sp' : Nat → Bool} : ∀ {ts : List TypeId} {vs : List Value} {ds : List (DataW H)} {ps : List MemPlace}, (∀ t, t ∈ ts → P.readableRec t = true ∧ t < P.types.size) →
    DataW.TrodAll enc P W 0 (fun _ => true) true ts vs ds ps → (∀ p ∈ ps, W.sameAt W' p) → (∀ p ∈ ps, sp' p.block = true) → DataW.TrodAll enc P W' 0 sp' true ts vs ds ps
  | [], vs, ds, ps, _, h, _, _ => by
    obtain ⟨rfl, rfl, rfl⟩ := trodAll_nil h
    exact rfl
  | t :: ts, vs, ds, ps, ht, h, hs, hp => by
    obtain ⟨v, vs1, d, ds1, a, b, rfl, rfl, rfl, h1, h2⟩ := trodAll_cons h
    exact ⟨a, b, WideElems.Trod_stays hl (ht t (.head _)).1 (ht t (.head _)).2 h1 (fun p hp => hs p (List.mem_append_left _ hp)) (fun q hq => hp q (List.mem_append_left _ hq)),
      trodAll_stays hl (fun t h => ht t (.tail _ h)) h2 (fun p hp => hs p (List.mem_append_right _ hp)) (fun q hq => hp q (List.mem_append_right _ hq)), rfl⟩
/-- A call by the contract, out of the world as it lies. -/
theorem calls_of_valid {f : Nat} {S : FSpec} (hv : Valid P f S) {args : List AV} {vals : List Value} (hpre : S.pre args) (hc : S.cost ≤ LIM) (hrd : rdOf args = none) (ha : RVs (full w) O0 vals args) :
    Calls P f vals.toArray w fun e w' => ∃ v r V', e = .returned v ∧ S.post args r ∧ RV V' O0 v r ∧ Below w.heap.size w w' := by
  refine (hv.2 args 0 hpre (by omega) (full w) O0 (fun _ => none) w vals (full_sub w) (fun k v h => by cases h) (fun b k h => by cases h) (fun b b' k h => by cases h) (fun b k o h => by cases h) ha (fun f h => by rw [hrd] at h; cases h) (fun _ _ => rfl)).mono ?_
  rintro e w' ⟨v, r, V', he, hp, hr, _, _, _, hk, _⟩
  exact ⟨v, r, V', he, hp, hr, ⟨hk.os, hk.tape, hk.output, hk.size, fun b hb => hk.block b hb rfl⟩⟩
theorem RV_B {V : Vw} {O : Nat → Option Value} {v : Value} {b : Bool} (h : RV V O v (B b)) : v = .bool b := by
  obtain ⟨h, _⟩ := h
  cases h; rfl
/-- The row's conclusion where nothing that was there has turned. -/
theorem post_of_below {f : Func} {s : ChangeSpec} {apart fresh handsOn again : Bool} {W W' : World} {args : Array Value} {v : Value} {ds gs : List (DataW H)} {before pa pv : List MemPlace}
    (hW : DataW.Whole enc P f.params.toList s.vars apart W args.toList ds gs before)
    (hres : ∀ (b : Nat) (sp : Nat → Bool) (hd : Bool), DataW.TrodAll enc P W' b sp hd f.resultTypes.toList (v.resultList f.resultTypes.size) (s.fn H (ds ++ gs)).results [])
    (hargs : ∀ sp : Nat → Bool, (∀ p ∈ before, sp p.block = true) → DataW.TrodAll enc P W' 0 sp true f.params.toList args.toList (s.fn H (ds ++ gs)).args pa)
    (hvars : ∀ sp : Nat → Bool, (∀ p ∈ before, sp p.block = true) → DataW.TrodVars enc P W' sp s.vars (s.fn H (ds ++ gs)).vars pv)
    (hps : before = pa ++ pv) (hb : Below W.heap.size W W')
    (hok : ∀ (j : Nat) (t : TypeId) (r : Value), f.resultTypes[j]? = some t → (v.resultList f.resultTypes.size)[j]? = some r → Value.okWide P W' .any 0 t r) :
    s.post enc P f apart fresh handsOn again W args v W' := by
  have hlt : ∀ p ∈ before, p.block < W.heap.size := fun p hp => by simpa using hW.lt p hp
  have hold : ∀ p ∈ before, (fun b => decide (b < W.heap.size)) p.block = true := fun p hp => by simpa using hW.lt p hp
  refine ⟨ds, gs, before, [], pa, pv, hW, hres _ _ _, hargs _ hold, hvars _ hold, World.keptBut_mono (fun p hp => ⟨hp, ?_⟩) (hb.frame (· ∈ before)), fun _ => ?_⟩
  · rw [hps, List.mem_append] at hp
    exact Or.inr hp
  · obtain ⟨_, _, _, _, _, hz, hn⟩ := hW
    refine ⟨hok, _, _, ([] ++ pa) ++ pv, ⟨[] ++ pa, pv, trodAll_append (hargs _ (fun _ _ => rfl)) (hres _ _ _), hvars _ (fun _ _ => rfl), rfl, ?_, ?_⟩, ?_⟩
    · intro b off hp
      have hp' : MemPlace.cell b off ∈ before := by rw [hps]; simpa using hp
      rw [hb.frozen (p := ⟨b, off, none⟩) (hlt _ hp')]
      exact hz b off hp'
    · intro ha
      have := hn ha
      rw [hps] at this
      simpa using this
    · intro p hp _
      rw [hps]
      simpa using hp
/-- The row: the law says yes, and nothing that was there has turned. -/
theorem row_yes (hl : laidOutB P = true) {fn : Func} {s : ChangeSpec} {W : World} {args : Array Value} {ds gs : List (DataW H)} {before : List MemPlace} {tb : TypeId} {apart fresh handsOn again : Bool}
    (hW : DataW.Whole enc P fn.params.toList s.vars apart W args.toList ds gs before) (hvars : s.vars = []) (hfn : s.fn H (ds ++ gs) = { results := [.lit (.bool true)], args := ds, vars := [] })
    (hpar : ∀ t, t ∈ fn.params.toList → P.readableRec t = true ∧ t < P.types.size) (hres : fn.resultTypes = #[tb]) (htb : P.underlying tb = some .bool)
    {S : FSpec} {g : Nat} (hv : Valid P g S) {xs : List AV} (hpre : S.pre xs) (hc : S.cost ≤ LIM) (hrd : rdOf xs = none) (ha : RVs (full W) O0 args.toList xs) (hpost : ∀ r, S.post xs r → r = B true) :
    Calls P g args W fun e W' => ∃ v, e = .returned v ∧ s.post enc P fn apart fresh handsOn again W args v W' := by
  have hcall := calls_of_valid hv hpre hc hrd ha
  have he : args.toList.toArray = args := by simp
  rw [he] at hcall
  refine hcall.mono ?_
  rintro e W' ⟨v, r, V', rfl, hp, hr, hb⟩
  have hr' := hpost r hp
  subst hr'
  have hv' := RV_B hr
  subst hv'
  have hW' := hW
  obtain ⟨p, q, hA, hV, rfl, hfz, hnd⟩ := hW
  rw [hvars] at hV
  have hV' : gs = [] ∧ q = [] := by
    cases gs with
    | nil => exact ⟨rfl, hV⟩
    | cons g gs => exact hV.elim
  obtain ⟨rfl, rfl⟩ := hV'
  have hlt : ∀ x ∈ p ++ [], x.block < W.heap.size := fun x hx => by simpa using hW'.lt x hx
  refine ⟨_, rfl, post_of_below (pa := p) (pv := []) hW' (fun b sp' hd => ?_) (fun sp' hs => ?_) (fun sp' _ => ?_) (by simp) hb (ok_one hres rfl (okWide_bool_mk htb _))⟩
  · rw [hfn, hres]
    exact trodAll_cons_mk (shut_bool htb _) trodAll_mk0
  · rw [hfn]
    exact trodAll_stays hl hpar hA (fun x hx => hb.same (hlt x (by simpa using hx))) (fun x hx => hs x (by simpa using hx))
  · rw [hfn, hvars]; rfl
end
end Av
end Go.Proofs.Ytfijfccgghhkoaa
/- How the rows' arguments read: bytes. -/
namespace Go.Proofs.Ytfijfccgghhkoaa
namespace Av
open Go.RowKit Go.ChangeShapes Go.WideShapes Go.ChangeAt
theorem own1 : ownKnob Try.prog.godebug = none := by kernel_rfl
theorem laid1 : laidOutB Try.prog = true := by kernel_rfl
section
variable {H : Type} {enc : TypeId × Value → H} {w : World} {base : Nat} {sp : Nat → Bool} {held : Bool}
end
end Av
end Go.Proofs.Ytfijfccgghhkoaa
