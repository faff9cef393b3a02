/- '==' on items. No program is named here. -/
import Derived.Test.YtdboofnogabefaaD0
import Derived.Laws.StructEq
set_option linter.unusedVariables false
set_option linter.unusedSimpArgs false
namespace Go.Proofs.Ytdboofnogabefaa
namespace Av
open Go.RowKit
def intB (P : Program) (t : TypeId) : Bool := (match P.underlying t with | some (.int _) => true | _ => false) && tagg P t == some false
def fldB (P : Program) (f : Field) (o : Nat) : Bool := f.name != "_" && f.offset == o
def payB (P : Program) (t : TypeId) : Bool :=
  !P.stoodInHeld t && tagg P t == some true && tsize P t == some 3 && (match P.underlying t with
    | some (.struct gs) => (match gs.toList with
      | [g0, g1, g2] => fldB P g0 0 && fldB P g1 1 && fldB P g2 2 && intB P g0.type && intB P g1.type && intB P g2.type
      | _ => false)
    | _ => false)
def itemB (P : Program) (t : TypeId) : Bool :=
  !P.stoodInHeld t && !P.eqGuardType P.depth t && (match P.underlying t with
    | some (.struct gs) => (match gs.toList with
      | [g0, g1] => fldB P g0 0 && fldB P g1 1 && intB P g0.type && payB P g1.type
      | _ => false)
    | _ => false)
section
variable {P : Program} {w : World}
theorem eqf_one {d : Nat} {xs ys : Array Value} {f : Field} {fs : List Field} {a b : Value} {r s : Bool} (hn : f.name ≠ "_") (ha : (part f.type xs f.offset).run P w = .ok a w) (hb : (part f.type ys f.offset).run P w = .ok b w)
    (he : (Op.equalIn d f.type a b).run P w = .ok r w) (hr : (Op.eqFields d xs ys fs).run P w = .ok s w) : (Op.eqFields d xs ys (f :: fs)).run P w = .ok (r && s) w := by
  rw [Op.eqFields]
  simp only [if_pos hn, Sem.run_bind, ha, hb, he, Result.andThen_ok]
  cases r
  · simp
  · simpa using hr
theorem eqf_none {d : Nat} {xs ys : Array Value} : (Op.eqFields d xs ys []).run P w = .ok true w := by simp [Op.eqFields]
theorem part_int {t : TypeId} {xs : Array Value} {o : Nat} {v : Value} (h : tagg P t = some false) (hv : xs[o]? = some v) : (part t xs o).run P w = .ok v w := by
  simp only [part, Sem.run_bind, run_tagg h, Result.andThen_ok, Bool.false_eq_true, if_false, hv, Sem.run_pure]
theorem part_agg {t : TypeId} {xs : Array Value} {o k : Nat} (h : tagg P t = some true) (hs : tsize P t = some k) : (part t xs o).run P w = .ok (.agg (xs.extract o (o + k))) w := by
  simp only [part, Sem.run_bind, run_tagg h, Result.andThen_ok, if_true, run_tsize hs, Sem.run_pure]
theorem eq_int {t : TypeId} (h : intB P t = true) (d : Nat) (a b : Int) : (Op.equalIn (d + 1) t (.int .i64 a) (.int .i64 b)).run P w = .ok (a == b) w := by
  simp only [intB, Bool.and_eq_true] at h
  obtain ⟨h1, _⟩ := h
  split at h1
  · rename_i k hk; exact run_equalIn_int w d t .i64 k a b hk
  · cases h1
theorem intB_agg {t : TypeId} (h : intB P t = true) : tagg P t = some false := by
  simp only [intB, Bool.and_eq_true, beq_iff_eq] at h; exact h.2
theorem fldB_ok {f : Field} {o : Nat} (h : fldB P f o = true) : f.name ≠ "_" ∧ f.offset = o := by
  simpa [fldB] using h
theorem eq_pay {t : TypeId} (h : payB P t = true) (d : Nat) (a b c a' b' c' : Int) :
    (Op.equalIn (d + 2) t (.agg #[.int .i64 a, .int .i64 b, .int .i64 c]) (.agg #[.int .i64 a', .int .i64 b', .int .i64 c'])).run P w = .ok ((a == a') && ((b == b') && (c == c'))) w := by
  simp only [payB, Bool.and_eq_true, Bool.not_eq_true'] at h
  obtain ⟨⟨⟨h1, _⟩, _⟩, h2⟩ := h
  split at h2
  · rename_i gs hu
    split at h2
    · rename_i g0 g1 g2 hg
      simp only [Bool.and_eq_true] at h2
      obtain ⟨⟨⟨⟨⟨f0, f1⟩, f2⟩, i0⟩, i1⟩, i2⟩ := h2
      have hf : P.fieldsOf t = gs := by simp [Program.fieldsOf, hu]
      rw [run_equalIn_struct w (d + 1) t _ _ (by rw [hf]; exact hu) h1, hf, hg]
      have := eqf_one (P := P) (w := w) (d := d + 1) (xs := #[.int .i64 a, .int .i64 b, .int .i64 c]) (ys := #[.int .i64 a', .int .i64 b', .int .i64 c']) (fldB_ok f0).1 (part_int (intB_agg i0) (by rw [(fldB_ok f0).2]; rfl)) (part_int (intB_agg i0) (by rw [(fldB_ok f0).2]; rfl)) (eq_int i0 d a a')
        (eqf_one (fldB_ok f1).1 (part_int (intB_agg i1) (by rw [(fldB_ok f1).2]; rfl)) (part_int (intB_agg i1) (by rw [(fldB_ok f1).2]; rfl)) (eq_int i1 d b b')
          (eqf_one (fldB_ok f2).1 (part_int (intB_agg i2) (by rw [(fldB_ok f2).2]; rfl)) (part_int (intB_agg i2) (by rw [(fldB_ok f2).2]; rfl)) (eq_int i2 d c c') eqf_none))
      simpa using this
    · cases h2
  · cases h2
theorem eqInts_item {t : TypeId} (h : itemB P t = true) : EqInts P t 4 := by
  simp only [itemB, Bool.and_eq_true, Bool.not_eq_true'] at h
  obtain ⟨⟨h1, hgd⟩, h2⟩ := h
  refine ⟨hgd, fun as bs la lb w => ?_⟩
  match as, bs, la, lb with
  | [a, b, c, d], [a', b', c', d'], _, _ =>
    split at h2
    · rename_i gs hu
      split at h2
      · rename_i g0 g1 hg
        simp only [Bool.and_eq_true] at h2
        obtain ⟨⟨⟨f0, f1⟩, i0⟩, i1⟩ := h2
        have hf : P.fieldsOf t = gs := by simp [Program.fieldsOf, hu]
        have hp := i1
        simp only [payB, Bool.and_eq_true, beq_iff_eq] at hp
        rw [show (10000 : Nat) = 9999 + 1 from rfl, run_equalIn_struct w 9999 t _ _ (by rw [hf]; exact hu) h1, hf, hg]
        have e2 := fun (x y z u : Int) => part_agg (P := P) (w := w) (xs := #[Value.int .i64 x, .int .i64 y, .int .i64 z, .int .i64 u]) (o := 1) hp.1.1.2 hp.1.2
        have := eqf_one (P := P) (w := w) (d := 9999) (xs := #[.int .i64 a, .int .i64 b, .int .i64 c, .int .i64 d]) (ys := #[.int .i64 a', .int .i64 b', .int .i64 c', .int .i64 d']) (fldB_ok f0).1 (part_int (intB_agg i0) (by rw [(fldB_ok f0).2]; rfl)) (part_int (intB_agg i0) (by rw [(fldB_ok f0).2]; rfl)) (eq_int i0 9998 a a')
          (eqf_one (fldB_ok f1).1 (by rw [(fldB_ok f1).2]; exact e2 a b c d) (by rw [(fldB_ok f1).2]; exact e2 a' b' c' d') (eq_pay i1 9997 b c d b' c' d') eqf_none)
        simpa [Bool.and_assoc] using this
      · cases h2
    · cases h2
end
end Av
end Go.Proofs.Ytdboofnogabefaa
