/- Layer Av, part 10: a store. -/
import Derived.Test.YtdboofnogabefaaMA
set_option linter.unusedVariables false
set_option linter.unusedSimpArgs false
set_option linter.unusedSectionVars false
namespace Go.Proofs.Ytdboofnogabefaa
namespace Av
open Go.RowKit
section
variable {P : Program} {bs : Base} {V : Vw} {O : Nat → Option Value} {own : Nat → Option Nat} {dom : Nat → Prop} {w : World} {H : Hp} {rm n nm : Nat} {a : Act} {fr : Env} {o : Oper}
def notTok : Ob → Prop
  | .tok _ _ _ => False
  | _ => True
theorem WR.noV (hw : WR bs V O own dom w H rm) {k b : Nat} {ob : Ob} (hk : H k = some ob) (ht : notTok ob) (hb : own b = some k) : ∀ o u, V b o = some u → False := by
  intro o u e
  rcases hw.vo b o u e with h | ⟨k', T, sz, m, h1, h2, h3⟩
  · rw [hb] at h; cases h
  · rw [hb] at h1; simp only [Option.some.injEq] at h1; subst h1
    rw [hk] at h2; simp only [Option.some.injEq] at h2; subst h2
    exact ht
theorem WR.write (hw : WR bs V O own dom w H rm) {k b : Nat} {ob ob' : Ob} (hk : H k = some ob) (ht : notTok ob) (hb : own b = some k) {cur arr : Array Value} {T : Nat} (hblk : w.heap[b]? = some (.cells cur T (0, 0)))
    (hor : OR V O own (w.setRow b arr) rm k ob') : WR bs V O own dom (w.setRow b arr) (hupd k (some ob') H) rm := by
  have hnv := hw.noV hk ht hb
  refine ⟨fun b' o u e => ?_, fun b' o u e => ?_, fun k' ob2 e => ?_, hw.domO, fun k' ob2 e => ?_, fun b' k' e => ?_, hw.uniq, hw.vb, hw.v0, hw.os, hw.tape, hw.output, by rw [setRow_size]; exact hw.size, fun b' hb' hn => ?_, hw.o0⟩
  · have hne : b' ≠ b := fun eb => hnv o u (eb ▸ e)
    rw [cell_setRow_other w b arr ⟨b', o, none⟩ hne]; exact hw.sub _ _ _ e
  · rcases hw.vo b' o u e with h | ⟨k', T', sz, m, h1, h2, h3⟩
    · exact .inl h
    · refine .inr ⟨k', T', sz, m, h1, ?_, h3⟩
      have : k' ≠ k := fun ek => by subst ek; rw [hk] at h2; simp only [Option.some.injEq] at h2; subst h2; exact ht
      unfold hupd; rw [if_neg this]; exact h2
  · unfold hupd at e
    split at e
    · rename_i ek; subst ek; simp only [Option.some.injEq] at e; subst e; exact hor
    · rename_i ek
      refine (hw.obs k' ob2 e).mono (Vw.le_refl _) (fun _ _ h => h) (fun b2 hb2 => ⟨hb2, ?_⟩) (Nat.le_refl _)
      refine setRow_other w b b2 arr (fun eb => ?_)
      subst eb; rw [hb] at hb2; simp only [Option.some.injEq] at hb2; exact ek hb2.symm
  · unfold hupd at e
    split at e
    · rename_i ek; subst ek; exact hw.domH _ _ hk
    · exact hw.domH _ _ e
  · obtain ⟨h1, h2, h3⟩ := hw.ownb b' k' e
    exact ⟨by rw [setRow_size]; exact h1, h2, h3⟩
  · rw [setRow_other w b b' arr (fun eb => ?_)]
    · exact hw.block b' hb' hn
    · subst eb
      rcases (hw.ownb b' k hb).2.1 with h | h
      · exact h hn
      · omega
theorem RCs.all_one {l : List Value} {cs : List AC} (h : RCs V O l cs) : ∀ v, v ∈ l → v.oneCell' = true := by
  intro v hv
  obtain ⟨i, hi, rfl⟩ := List.mem_iff_getElem.1 hv
  have h1 : l[i]? = some l[i] := List.getElem?_eq_getElem hi
  have h2 : cs[i]? = some (cs[i]'(by rw [← h.1]; exact hi)) := List.getElem?_eq_getElem _
  exact (h.2 i _ _ h1 h2).2
theorem RCs.put {l vs : List Value} {cs ds : List AC} (h : RCs V O l cs) (k : RCs V O vs ds) (off : Nat) : RCs V O (l.take off ++ vs ++ l.drop (off + vs.length)) (put cs off ds) := by
  unfold Av.put
  rw [k.1]
  exact ((h.take off).append k).append (h.drop _)
theorem run_storeAt {t sz b off T : Nat} (hz : tsize P t = some sz) {v : Value} (hv : v.cells.size = sz) {cur : Array Value} (hblk : w.heap[b]? = some (.cells cur T (0, 0))) (hfit : off + sz ≤ cur.size) (h1 : ∀ u, u ∈ v.cells.toList → u.oneCell' = true) :
    (Instr.storeAt t (.pointer (some ⟨b, off, none⟩)) v).run P w = .ok () (w.setRow b (cur.toList.take off ++ v.cells.toList ++ cur.toList.drop (off + sz)).toArray) := by
  have hr := run_storeCells_at P b off T v.cells.toList 0 cur w hblk (by simp [hv]; exact hfit) h1
  simp only [Nat.add_zero, Array.length_toList, hv] at hr
  simp only [Instr.storeAt, Instr.sureAddr, Sem.run_bind, Sem.run_pure, Result.andThen_ok, storeVar, run_tsize hz, hv, ne_eq, not_true_eq_false, if_false, hr]
theorem flatten_set {α : Type} (sz : Nat) : ∀ {xs : List (List α)}, (∀ (j : Nat) x, xs[j]? = some x → x.length = sz) → ∀ (i : Nat) e', i < xs.length → (xs.set i e').flatten = xs.flatten.take (i * sz) ++ e' ++ xs.flatten.drop (i * sz + sz)
  | [], _, i, e', hi => by simp at hi
  | y :: r, h, 0, e', hi => by
    have h0 := h 0 y rfl
    simp [← h0]
  | y :: r, h, i + 1, e', hi => by
    have h0 := h 0 y rfl
    have ih := flatten_set sz (xs := r) (fun j z hz => h (j + 1) z (by simpa using hz)) i e' (by simpa using hi)
    simp only [List.set_cons_succ, List.flatten_cons, ih]
    have e1 : (i + 1) * sz = y.length + i * sz := by rw [h0, Nat.add_mul]; omega
    rw [e1, Nat.add_assoc, List.take_length_add_append, List.drop_length_add_append]
    simp [List.append_assoc]
theorem put_flat {α : Type} {l e ds : List α} {p off sz : Nat} (he : (l.drop p).take sz = e) (hlen : e.length = sz) (hfit : off + ds.length ≤ sz) (hp : p + sz ≤ l.length) :
    l.take p ++ (e.take off ++ ds ++ e.drop (off + ds.length)) ++ l.drop (p + sz) = l.take (p + off) ++ ds ++ l.drop (p + off + ds.length) := by
  have h1 : l.take (p + off) = l.take p ++ e.take off := by
    rw [← he, List.take_take, show min off sz = off by omega, List.take_add]
  have h2 : e.drop (off + ds.length) ++ l.drop (p + sz) = l.drop (p + off + ds.length) := by
    rw [← he, List.drop_take, List.drop_drop, ← Nat.add_assoc]
    have h3 : l.drop (p + sz) = (l.drop (p + off + ds.length)).drop (sz - (off + ds.length)) := by
      rw [List.drop_drop]; congr 1; omega
    rw [h3, List.take_append_drop]
  rw [h1, ← h2]
  simp [List.append_assoc]
theorem s_store_ptr (hw : WR bs V O own dom w H rm) (hf : FRn n V O a fr) {sz : Nat} {p x : X} (hc : chk P o (.store sz p x) = true) {k off : Nat} (hp : ev fr p = .w (.o (.ptr k off))) {ds : List AC} (hx : cellsOf (ev fr x) = some ds)
    {cs : List AC} (hk : H k = some (.cells cs)) (hds : ds.length = sz) (hfit : off + sz ≤ cs.length) : Makes P bs o a w V O dom nm rm J (hupd k (some (.cells (put cs off ds))) H) := by
  simp only [chk] at hc
  split at hc
  · rename_i t y z hop
    simp only [Bool.and_eq_true, beq_iff_eq] at hc
    obtain ⟨⟨h1, h2⟩, h3⟩ := hc
    have ep := xeq_eval hf h1
    have ex := xeq_eval hf h2
    rw [hp] at ep
    have hcs := cellsOf_sound ex hx
    obtain ⟨b', hO', hv⟩ := ep.1
    obtain ⟨b, T, l, q1, q2, q3, q4⟩ := hw.obs _ _ hk
    rw [hO'] at q1
    simp only [Option.some.injEq, Value.pointer.injEq, Addr.mk.injEq, and_true] at q1
    subst q1
    have hcl : (a.eval z).cells.size = sz := by
      have := hcs.1; rw [Array.length_toList] at this; omega
    have hrun := run_storeAt (P := P) (w := w) (off := off) h3 hcl q3 (by have := q4.1; simp; omega) hcs.all_one
    have hcur : l.toArray.toList = l := rfl
    rw [hcur] at hrun
    have hput := q4.put hcs off
    rw [Array.length_toList, hcl] at hput
    have hor : OR V O own (w.setRow b' (l.take off ++ (a.eval z).cells.toList ++ l.drop (off + sz)).toArray) rm k (.cells (put cs off ds)) := ⟨b', T, _, hO', q2, setRow_heap w b' _ _ T _ q3, hput⟩
    refine ⟨.skip, _, V, O, own, .inl rfl, fun _ => rfl, ?_, Vw.le_refl _, fun _ _ h => h, (hw.write hk trivial q2 q3 hor).dommono (fun _ h => .inl h)⟩
    simp only [execOp, hop, hv, Sem.run_bind, hrun]; rfl
  · cases hc
theorem s_store_pa (hw : WR bs V O own dom w H rm) (hf : FRn n V O a fr) {sz' : Nat} {p x : X} (hc : chk P o (.store sz' p x) = true) {k sz i off : Nat} (hp : ev fr p = .w (.o (.pa k sz i off))) {ds : List AC} (hx : cellsOf (ev fr x) = some ds)
    {T : Nat} {xs : List (List AC)} (hk : H k = some (.arr T sz xs)) {e : List AC} (he : xs[i]? = some e) (hds : ds.length = sz') (hfit : off + sz' ≤ sz) : Makes P bs o a w V O dom nm rm J (hupd k (some (.arr T sz (xs.set i (put e off ds)))) H) := by
  simp only [chk] at hc
  split at hc
  · rename_i t y z hop
    simp only [Bool.and_eq_true, beq_iff_eq] at hc
    obtain ⟨⟨h1, h2⟩, h3⟩ := hc
    have ep := xeq_eval hf h1
    have ex := xeq_eval hf h2
    rw [hp] at ep
    have hcs := cellsOf_sound ex hx
    obtain ⟨b', n', c', hO', hv⟩ := ep.1
    obtain ⟨hs, hob⟩ := hw.obs _ _ hk
    have hi : i < xs.length := (List.getElem?_eq_some_iff.1 he).1
    rcases hob with ⟨rfl, _⟩ | ⟨b, cap, l, m, q1, q2, q3, q4, q5, q6, q7⟩
    · simp at hi
    · rw [hO'] at q1
      simp only [Option.some.injEq, Value.slice.injEq, Addr.mk.injEq, and_true] at q1
      obtain ⟨rfl, rfl, rfl⟩ := q1
      have hcl : (a.eval z).cells.size = sz' := by
        have := hcs.1; rw [Array.length_toList] at this; omega
      have hel := hs i e he
      have hlen : l.length = xs.length * sz := by rw [q7.1, flatten_sized sz hs]
      have hmul : i * sz + sz ≤ xs.length * sz := by
        have : (i + 1) * sz ≤ xs.length * sz := Nat.mul_le_mul_right _ hi
        rwa [Nat.add_mul, Nat.one_mul] at this
      have hrun := run_storeAt (P := P) (w := w) (off := i * sz + off) h3 hcl q3 (by simp; omega) hcs.all_one
      have hcur : (l ++ m).toArray.toList = l ++ m := rfl
      rw [hcur] at hrun
      have hdl : (a.eval z).cells.toList.length = sz' := by rw [Array.length_toList]; exact hcl
      have hnew : (l ++ m).take (i * sz + off) ++ (a.eval z).cells.toList ++ (l ++ m).drop (i * sz + off + sz') = (l.take (i * sz + off) ++ (a.eval z).cells.toList ++ l.drop (i * sz + off + sz')) ++ m := by
        rw [List.take_append_of_le_length (by omega), List.drop_append_of_le_length (by omega)]
        simp [List.append_assoc]
      rw [hnew] at hrun
      have hflat : (xs.set i (put e off ds)).flatten = put xs.flatten (i * sz + off) ds := by
        rw [flatten_set sz hs i _ hi]
        unfold put
        exact put_flat (flatten_at sz hs i e he) hel (by rw [hds]; exact hfit) (by rw [flatten_sized sz hs]; exact hmul)
      have hput := q7.put hcs (i * sz + off)
      rw [hdl, ← hflat] at hput
      have hor : OR V O own (w.setRow b' (l.take (i * sz + off) ++ (a.eval z).cells.toList ++ l.drop (i * sz + off + sz') ++ m).toArray) rm k (.arr T sz (xs.set i (put e off ds))) := by
        refine ⟨fun j y hy => ?_, .inr ⟨b', c', _, m, ?_, q2, setRow_heap w b' _ _ T _ q3, by simpa using q4, q5, ?_, hput⟩⟩
        all_goals try (rw [List.length_set]; exact hO')
        all_goals try (simp [hdl, hlen]; omega)
        by_cases hj : j = i
        · subst hj
          rw [List.getElem?_set_self hi] at hy
          simp only [Option.some.injEq] at hy; subst hy
          unfold put; simp [hel, hds]; omega
        · rw [List.getElem?_set_ne (Ne.symm hj)] at hy
          exact hs j y hy
      refine ⟨.skip, _, V, O, own, .inl rfl, fun _ => rfl, ?_, Vw.le_refl _, fun _ _ h => h, (hw.write hk trivial q2 q3 hor).dommono (fun _ h => .inl h)⟩
      simp only [execOp, hop, hv, Sem.run_bind, hrun]; rfl
  · cases hc
end
end Av
end Go.Proofs.Ytdboofnogabefaa
/- Layer Av, part 11: an append. -/
namespace Go.Proofs.Ytdboofnogabefaa
namespace Av
open Go.RowKit
section
variable {P : Program} {bs : Base} {V : Vw} {O : Nat → Option Value} {own : Nat → Option Nat} {dom : Nat → Prop} {w : World} {H : Hp} {rm n nm : Nat} {a : Act} {fr : Env} {o : Oper}
/-- Frozen cells one by one. -/
def RFs (V : Vw) (l : List Value) (fs : List FV) : Prop := l.length = fs.length ∧ ∀ (i : Nat) x f, l[i]? = some x → fs[i]? = some f → RF V x f
theorem RFs.toRCs {l : List Value} {fs : List FV} (h : RFs V l fs) : RCs V O l (fs.map AC.c) :=
  ⟨by simp [h.1], fun i x c h1 h2 => by
    rw [List.getElem?_map] at h2
    obtain ⟨f, h3, rfl⟩ := Option.map_eq_some_iff.1 h2
    have := h.2 i x f h1 h3
    exact ⟨this, this.oneCell⟩⟩
theorem flat_map_map (xs : List (List FV)) : (xs.map fun x => x.map AC.c).flatten = xs.flatten.map AC.c := by
  rw [List.map_flatten]
/-- A frozen slice's cells, as a list. -/
theorem RF_cells {x : Value} {sz : Nat} {xs : List (List FV)} (h : RF V x (.sl sz xs)) :
    (∀ (j : Nat) y, xs[j]? = some y → y.length = sz) ∧ ∃ (A : Option Addr) (c : Nat) (b off : Nat) (l : List Value), x = .slice A xs.length c ∧ xs.length ≤ c ∧ c ≤ 9223372036854775807 ∧ (0 < xs.length → A = some ⟨b, off, none⟩) ∧
      RFs V l xs.flatten ∧ ∀ (i : Nat) u, l[i]? = some u → V b (off + i) = some u := by
  cases h with
  | sl u hl hc hm hA hs hV hr =>
    rename_i A len cap b off
    refine ⟨hs, A, cap, b, off, (List.range xs.flatten.length).map fun i => u (i / sz) (i % sz), by rw [hl], by omega, hm, fun h0 => hA (by omega), ?_⟩
    have hfl := flatten_sized sz hs
    have key : ∀ i, i < xs.flatten.length → ∃ y f, xs[i / sz]? = some y ∧ y[i % sz]? = some f ∧ xs.flatten[i]? = some f ∧ i / sz * sz + i % sz = i := by
      intro i hi
      rw [hfl] at hi
      have hsz : 0 < sz := Nat.pos_of_ne_zero (fun e => by subst e; simp at hi)
      have hq : i / sz < xs.length := Nat.div_lt_of_lt_mul (by rw [Nat.mul_comm]; exact hi)
      have hr' : i % sz < sz := Nat.mod_lt _ hsz
      have hd : i / sz * sz + i % sz = i := by rw [Nat.mul_comm]; exact Nat.div_add_mod i sz
      have hy : xs[i / sz]? = some xs[i / sz] := List.getElem?_eq_getElem hq
      have hylen := hs _ _ hy
      have hf : xs[i / sz][i % sz]? = some (xs[i / sz][i % sz]'(by omega)) := List.getElem?_eq_getElem _
      refine ⟨_, _, hy, hf, ?_, hd⟩
      have hat := congrArg (fun l => l[i % sz]?) (flatten_at sz hs (i / sz) _ hy)
      simp only [List.getElem?_take, if_pos hr', List.getElem?_drop, hd] at hat
      rw [hat, hf]
    refine ⟨⟨by simp, fun i x f h1 h2 => ?_⟩, fun i x h1 => ?_⟩
    · have hi : i < xs.flatten.length := (List.getElem?_eq_some_iff.1 h2).1
      obtain ⟨y, f', k1, k2, k3, _⟩ := key i hi
      rw [k3] at h2; simp only [Option.some.injEq] at h2; subst h2
      simp only [List.getElem?_map, List.getElem?_range hi, Option.map_some, Option.some.injEq] at h1
      subst h1
      exact hr _ _ _ _ k1 k2
    · have hi : i < xs.flatten.length := by have := (List.getElem?_eq_some_iff.1 h1).1; simpa using this
      obtain ⟨y, f', k1, k2, k3, k4⟩ := key i hi
      simp only [List.getElem?_map, List.getElem?_range hi, Option.map_some, Option.some.injEq] at h1
      subst h1
      rw [← hV _ _ _ _ k1 k2, Nat.add_assoc, k4]
/-- A frozen slice out of a block's cells. -/
theorem RF_of_cells {sz : Nat} {xs : List (List FV)} (hs : ∀ (j : Nat) y, xs[j]? = some y → y.length = sz) {b off cap : Nat} {l : List Value} (hl : RFs V l xs.flatten) (hV : ∀ (i : Nat) u, l[i]? = some u → V b (off + i) = some u)
    (hc : xs.length ≤ cap) (hm : cap ≤ 9223372036854775807) : RF V (.slice (some ⟨b, off, none⟩) xs.length cap) (.sl sz xs) := by
  have hfl := flatten_sized sz hs
  have key : ∀ (j : Nat) y (i : Nat) f, xs[j]? = some y → y[i]? = some f → ∃ u, l[j * sz + i]? = some u ∧ RF V u f := by
    intro j y i f hy hf
    have hi : i < sz := by have := (List.getElem?_eq_some_iff.1 hf).1; have := hs j y hy; omega
    have hat := congrArg (fun l => l[i]?) (flatten_at sz hs j y hy)
    simp only [List.getElem?_take, if_pos hi, List.getElem?_drop] at hat
    have hlt : j * sz + i < xs.flatten.length := by
      have : xs.flatten[j * sz + i]? = some f := by rw [hat]; exact hf
      exact (List.getElem?_eq_some_iff.1 this).1
    have hu : l[j * sz + i]? = some (l[j * sz + i]'(by rw [hl.1]; exact hlt)) := List.getElem?_eq_getElem _
    exact ⟨_, hu, hl.2 _ _ _ hu (by rw [hat]; exact hf)⟩
  refine RF.sl (b := b) (off := off) (fun j i => (l[j * sz + i]?).getD undef) rfl hc hm (fun _ => rfl) hs (fun j y i f hy hf => ?_) (fun j y i f hy hf => ?_)
  · obtain ⟨u, h1, h2⟩ := key j y i f hy hf
    rw [h1, Nat.add_assoc]; exact hV _ _ h1
  · obtain ⟨u, h1, h2⟩ := key j y i f hy hf
    rw [h1]; exact h2
/-- What an append's second argument brings, in memory. -/
theorem news_sound (hw : WR bs V O own dom w H rm) {x : Value} {v : AV} (hx : RV V O x v) {sz : Nat} {ys : List (List AC)} (h : news H v = some ys) (hz : newsz H sz v) (hnil : v = .w (.o .e0) → True) :
    (∀ (j : Nat) y, ys[j]? = some y → y.length = sz) ∧ ∃ (A : Option Addr) (c : Nat) (l : List Value), x = .slice A ys.length c ∧ RCs V O l ys.flatten ∧
      ∀ w2 : World, w2.heap = w.heap → (Builtin.firstCells sz ys.length x).run P w2 = .ok l.toArray w2 := by
  have first : ∀ (b off : Nat) (l : List Value) (A : Option Addr) (k c : Nat), l.length = k * sz → (0 < k → A = some ⟨b, off, none⟩) → (∀ (i : Nat) u, l[i]? = some u → w.cell? ⟨b, off + i, none⟩ = some u) →
      ∀ w2 : World, w2.heap = w.heap → (Builtin.firstCells sz k (.slice A k c)).run P w2 = .ok l.toArray w2 := by
    intro b off l A k c hl hA hc w2 hh
    by_cases h0 : k = 0
    · subst h0
      have : l = [] := List.eq_nil_of_length_eq_zero (by simpa using hl)
      subst this
      cases A with
      | none => exact run_firstCells_none w2 sz 0 0 c
      | some A => exact run_firstCells_some w2 sz 0 A 0 c [] (by simp) (fun j v hv => by simp at hv)
    · rw [hA (by omega)]
      refine run_firstCells_some w2 sz k _ k c l hl (fun j v hv => ?_)
      rw [add_lit, World.cell?_of_block (w := w) (by rw [hh])]
      exact hc j v hv
  unfold news at h
  split at h
  · rename_i k
    split at h
    · rename_i T s xs hH
      simp only [Option.some.injEq] at h; subst h
      have hs0 : s = sz := by simpa [newsz, hH] using hz
      subst hs0
      obtain ⟨hs, hob⟩ := hw.obs _ _ hH
      have hv := hx.1.1
      rcases hob with ⟨rfl, A, h1⟩ | ⟨b, cap, l, m, h1, h2, h3, h4, h5, h6, h7⟩
      · rw [h1] at hv; simp only [Option.some.injEq] at hv; subst hv
        exact ⟨hs, A, 0, [], rfl, RCs.nil, first 0 0 [] A 0 0 (by simp) (fun h => absurd h (by omega)) (fun i u hu => by simp at hu)⟩
      · rw [h1] at hv; simp only [Option.some.injEq] at hv; subst hv
        refine ⟨hs, _, cap, l, rfl, h7, first b 0 l _ _ cap (by rw [h7.1, flatten_sized s hs]) (fun _ => rfl) (fun i u hu => ?_)⟩
        rw [cell_of_row w b _ _ _ _ h3, Nat.zero_add]
        have hi : i < l.length := (List.getElem?_eq_some_iff.1 hu).1
        simp only [List.getElem?_toArray]
        rw [List.getElem?_append_left hi, hu]
    · cases h
  · rename_i v' hne
    obtain ⟨xs, hfr, rfl⟩ := Option.map_eq_some_iff.1 h
    have frozen : ∀ s, RF V x (.sl s xs) → s = sz → (∀ (j : Nat) y, (xs.map fun x => x.map AC.c)[j]? = some y → y.length = sz) ∧ ∃ (A : Option Addr) (c : Nat) (l : List Value), x = .slice A (xs.map fun x => x.map AC.c).length c ∧ RCs V O l (xs.map fun x => x.map AC.c).flatten ∧
        ∀ w2 : World, w2.heap = w.heap → (Builtin.firstCells sz (xs.map fun x => x.map AC.c).length x).run P w2 = .ok l.toArray w2 := by
      intro s hr hs0
      subst hs0
      obtain ⟨hs, A, c, b, off, l, rfl, hc, hm, hA, hl, hV⟩ := RF_cells hr
      refine ⟨fun j y hy => ?_, A, c, l, by simp, by rw [flat_map_map]; exact hl.toRCs, ?_⟩
      · rw [List.getElem?_map] at hy
        obtain ⟨z, hz1, rfl⟩ := Option.map_eq_some_iff.1 hy
        simpa using hs j z hz1
      · rw [List.length_map]
        exact first b off l A _ c (by rw [hl.1, flatten_sized s hs]) hA (fun i u hu => hw.sub _ _ _ (hV i u hu))
    unfold frz at hfr
    split at hfr
    · simp only [Option.some.injEq] at hfr; subst hfr
      exact frozen _ hx.1 hz
    · simp only [Option.some.injEq] at hfr; subst hfr
      exact frozen _ hx.1.2 hz
    · simp only [Option.some.injEq] at hfr; subst hfr
      obtain ⟨A, rfl⟩ := e0_form hx
      exact ⟨fun j y hy => by simp at hy, A, 0, [], rfl, RCs.nil, first 0 0 [] A 0 0 (by simp) (fun h => absurd h (by omega)) (fun i u hu => by simp at hu)⟩
    · cases hfr
/-! ### the machine's append -/
section
variable {t T sz : Nat} (he : telem P t = some T) {i : TypeInfo} (hi : P.info? T = some i) (hsz : i.size = sz)
include he hi hsz
theorem app_room {A : Option Addr} {len cap : Nat} {x : Value} {xa : Option Addr} {m c ty : Nat} (hx : x = .slice xa m c) {nl : List Value} (hf : (Builtin.firstCells sz m x).run P w = .ok nl.toArray w) (hroom : len + m ≤ cap)
    (hA : A = none → nl = []) {b : Nat} {cur : Array Value} (hb : ∀ ad, A = some ad → nl = [] ∨ (ad = ⟨b, 0, none⟩ ∧ w.heap[b]? = some (.cells cur T (0, 0)) ∧ len * sz + nl.length ≤ cur.size)) (h1 : ∀ v, v ∈ nl → v.oneCell' = true) :
    (Builtin.append_ #[t, t] ty #[.slice A len cap, x]).run P w = .ok (.slice A (len + m) cap) (if nl = [] then w else w.setRow b (cur.toList.take (len * sz) ++ nl ++ cur.toList.drop (len * sz + nl.length)).toArray) := by
  subst hx
  have hu := telem_eq he
  subst hsz
  cases A with
  | none =>
    have hn := hA rfl
    subst hn
    simp [Builtin.append_, run_underlying hu, sizeOf, typeInfo, hi, Builtin.lenOf, hroom, hf]
  | some ad =>
    rcases hb ad rfl with rfl | ⟨rfl, hblk, hfit⟩
    · simp [Builtin.append_, run_underlying hu, sizeOf, typeInfo, hi, Builtin.lenOf, hroom, hf, storeCells]
    · by_cases hn : nl = []
      · subst hn
        simp [Builtin.append_, run_underlying hu, sizeOf, typeInfo, hi, Builtin.lenOf, hroom, hf, storeCells]
      · have hst := run_storeCells_at P b (len * i.size) T nl 0 cur w hblk (by simpa using hfit) h1
        simp only [Nat.add_zero] at hst
        simp [Builtin.append_, run_underlying hu, sizeOf, typeInfo, hi, Builtin.lenOf, hroom, hf, add_lit, hst, hn]
theorem app_grow {z : Value} (hz : i.zero = some z) {A : Option Addr} {len cap : Nat} {x : Value} {xa : Option Addr} {m c ty : Nat} (hx : x = .slice xa m c) {ol nl : List Value} (hfo : (Builtin.firstCells sz len (.slice A len cap)).run P w.drew = .ok ol.toArray w.drew)
    (hf : (Builtin.firstCells sz m x).run P w.drew = .ok nl.toArray w.drew) (hg : cap < len + m) (h63 : len + m ≤ 9223372036854775807) (hfit : Builtin.nextslicecap (len + m) cap * i.bytes ≤ 281474976710656) :
    (Builtin.append_ #[t, t] ty #[.slice A len cap, x]).run P w = .ok (.slice (some ⟨w.heap.size, 0, none⟩) (len + m) (grownCap w (len + m) cap T))
      (w.drew.alloc (.cells (ol ++ (nl ++ (Builtin.zeroCells z.cells (grownCap w (len + m) cap T - (len + m))).toList)).toArray T)) := by
  subst hx
  have hu := telem_eq he
  subst hsz
  have hn : ¬ (len + m ≤ cap) := by omega
  have h63' : ¬ (9223372036854775807 < ((len : Int) + (m : Int))) := by omega
  have h48' : ¬ (281474976710656 < Builtin.nextslicecap (len + m) cap * i.bytes) := by omega
  simp [Builtin.append_, run_underlying hu, sizeOf, typeInfo, zeroValue, hi, hz, Builtin.lenOf, hn, h63', h48', Question.forced, hf, hfo, newRow, grownCap]
  congr 2
  apply Array.ext'
  simp [List.append_assoc]
end
end
end Av
end Go.Proofs.Ytdboofnogabefaa
/- Layer Av, part 12: an append, and what it does to what is known of the world. -/
namespace Go.Proofs.Ytdboofnogabefaa
namespace Av
open Go.RowKit
section
variable {P : Program} {bs : Base} {V : Vw} {O : Nat → Option Value} {own : Nat → Option Nat} {dom : Nat → Prop} {w : World} {H : Hp} {rm n nm : Nat} {a : Act} {fr : Env} {o : Oper}
def dis (k : Nat) (own : Nat → Option Nat) : Nat → Option Nat := fun b => if own b = some k then none else own b
theorem dis_some {k b j : Nat} (h : dis k own b = some j) : own b = some j ∧ j ≠ k := by
  unfold dis at h
  split at h
  · cases h
  · rename_i hne; exact ⟨h, fun e => hne (by rw [h, e])⟩
theorem dis_other {k b j : Nat} (h : own b = some j) (hne : j ≠ k) : dis k own b = some j := by
  unfold dis; rw [if_neg (by rw [h]; simpa using hne)]; exact h
/-- An object is given up. -/
theorem WR.kill (hw : WR bs V O own dom w H rm) (k : Nat) : WR bs V O (dis k own) dom w (hupd k none H) rm := by
  refine ⟨hw.sub, fun b o u e => ?_, fun k' ob e => ?_, hw.domO, fun k' ob e => ?_, fun b k' e => ?_, fun b b' k' e e' => ?_, hw.vb, hw.v0, hw.os, hw.tape, hw.output, hw.size, hw.block, hw.o0⟩
  · rcases hw.vo b o u e with h | ⟨k', T, sz, m, h1, h2, h3⟩
    · exact .inl (by unfold dis; rw [h]; simp)
    · by_cases hk : k' = k
      · exact .inl (by unfold dis; rw [h1, hk]; simp)
      · exact .inr ⟨k', T, sz, m, dis_other h1 hk, by unfold hupd; rw [if_neg hk]; exact h2, h3⟩
  · unfold hupd at e
    split at e
    · cases e
    · rename_i hk
      exact (hw.obs k' ob e).mono (Vw.le_refl _) (fun _ _ h => h) (fun b hb => ⟨dis_other hb hk, rfl⟩) (Nat.le_refl _)
  · unfold hupd at e
    split at e
    · cases e
    · exact hw.domH _ _ e
  · exact hw.ownb b k' (dis_some e).1
  · exact hw.uniq _ _ _ (dis_some e).1 (dis_some e').1
/-- An object without a block. -/
theorem WR.noblk (hw : WR bs V O own dom w H rm) (hd : ¬ dom nm) {v : Value} {ob : Ob} (hor : OR V (updO nm v O) own w rm nm ob) : WR bs V (updO nm v O) own (fun k => dom k ∨ k = nm) w (hupd nm (some ob) H) rm := by
  have hO : ∀ u, O nm = some u → False := fun u e => hd (hw.domO _ _ e)
  refine ⟨hw.sub, fun b o u e => ?_, fun k' ob' e => ?_, fun k u e => ?_, fun k' ob' e => ?_, fun b k' e => ⟨(hw.ownb b k' e).1, (hw.ownb b k' e).2.1, .inl (hw.ownb b k' e).2.2⟩, hw.uniq, hw.vb, hw.v0, hw.os, hw.tape, hw.output, hw.size, hw.block, fun k u e => updO_le hO k u (hw.o0 k u e)⟩
  · rcases hw.vo b o u e with h | ⟨k', T, sz, m, h1, h2, h3⟩
    · exact .inl h
    · have : k' ≠ nm := fun e => hd (e ▸ hw.domH _ _ h2)
      exact .inr ⟨k', T, sz, m, h1, by unfold hupd; rw [if_neg this]; exact h2, h3⟩
  · unfold hupd at e
    split at e
    · rename_i ek; subst ek; simp only [Option.some.injEq] at e; subst e; exact hor
    · exact (hw.obs k' ob' e).mono (Vw.le_refl _) (updO_le hO) (fun b hb => ⟨hb, rfl⟩) (Nat.le_refl _)
  · unfold updO at e
    split at e
    · exact .inr (by assumption)
    · exact .inl (hw.domO _ _ e)
  · unfold hupd at e
    split at e
    · exact .inr (by assumption)
    · exact .inl (hw.domH _ _ e)
/-- An object's block is another object's from now on, and may have been written beyond what is known of it. -/
theorem WR.swap (hw : WR bs V O own dom w H rm) {k b : Nat} (hb : own b = some k) (hk : dom k) (hd : ¬ dom nm) {V' : Vw} (hV : V.le V') {w' : World} (hh : ∀ b', b' ≠ b → w'.heap[b']? = w.heap[b']?) (hsz : w'.heap.size = w.heap.size)
    (hos : w'.os = w.os) (htp : w'.tape = w.tape) (hout : w'.output = w.output) (hsub : V'.sub w') (hnew : ∀ b' o u, V' b' o = some u → V b' o = some u ∨ b' = b) {v : Value} {ob' : Ob}
    (hob : ∀ o u, V' b o = some u → ∃ T sz m, ob' = .tok T sz m ∧ o < m * sz) (hor : OR V' (updO nm v O) (updN b nm own) w' rm nm ob') :
    WR bs V' (updO nm v O) (updN b nm own) (fun k => dom k ∨ k = nm) w' (hupd nm (some ob') (hupd k none H)) rm := by
  have hO : ∀ u, O nm = some u → False := fun u e => hd (hw.domO _ _ e)
  have hkn : k ≠ nm := fun e => hd (e ▸ hk)
  refine ⟨hsub, fun b' o u e => ?_, fun k' ob2 e => ?_, fun k' u e => ?_, fun k' ob2 e => ?_, fun b' k' e => ?_, fun b1 b2 k' e e' => ?_, fun b' o u e => ?_, Vw.le_trans hw.v0 hV, hos.trans hw.os, htp.trans hw.tape, hout.trans hw.output, by rw [hsz]; exact hw.size, fun b' hb' hn => ?_, fun k u e => updO_le hO k u (hw.o0 k u e)⟩
  · by_cases hbb : b' = b
    · subst hbb
      obtain ⟨T, sz, m, h1, h2⟩ := hob o u e
      exact .inr ⟨nm, T, sz, m, updN_self _ _ _, by unfold hupd; rw [if_pos rfl, h1], h2⟩
    · rcases hnew b' o u e with e' | e'
      · rcases hw.vo b' o u e' with h | ⟨k', T, sz, m, h1, h2, h3⟩
        · exact .inl (by unfold updN; rw [if_neg hbb]; exact h)
        · have h4 : k' ≠ nm := fun e => hd (e ▸ hw.domH _ _ h2)
          have h5 : k' ≠ k := fun e => hbb (hw.uniq _ _ _ (e ▸ h1) hb)
          exact .inr ⟨k', T, sz, m, by unfold updN; rw [if_neg hbb]; exact h1, by unfold hupd; rw [if_neg h4, if_neg h5]; exact h2, h3⟩
      · exact absurd e' hbb
  · unfold hupd at e
    split at e
    · rename_i ek; subst ek; simp only [Option.some.injEq] at e; subst e; exact hor
    · split at e
      · cases e
      · rename_i h1 h2
        refine (hw.obs k' ob2 e).mono hV (updO_le hO) (fun b2 hb2 => ?_) (Nat.le_refl _)
        have : b2 ≠ b := fun eb => h2 (by subst eb; rw [hb] at hb2; exact (Option.some.inj hb2).symm)
        exact ⟨by unfold updN; rw [if_neg this]; exact hb2, hh b2 this⟩
  · unfold updO at e
    split at e
    · exact .inr (by assumption)
    · exact .inl (hw.domO _ _ e)
  · unfold hupd at e
    split at e
    · exact .inr (by assumption)
    · split at e
      · cases e
      · exact .inl (hw.domH _ _ e)
  · unfold updN at e
    split at e
    · rename_i eb; subst eb; simp only [Option.some.injEq] at e; subst e
      obtain ⟨h1, h2, h3⟩ := hw.ownb _ _ hb
      exact ⟨by rw [hsz]; exact h1, h2, .inr rfl⟩
    · obtain ⟨h1, h2, h3⟩ := hw.ownb _ _ e
      exact ⟨by rw [hsz]; exact h1, h2, .inl h3⟩
  · unfold updN at e e'
    split at e
    · simp only [Option.some.injEq] at e; subst e
      split at e'
      · rename_i h1 h2; rw [h1, h2]
      · exact absurd (hw.ownb _ _ e').2.2 hd
    · split at e'
      · simp only [Option.some.injEq] at e'; subst e'
        exact absurd (hw.ownb _ _ e).2.2 hd
      · exact hw.uniq _ _ _ e e'
  · rcases hnew b' o u e with e' | e'
    · exact hw.vb _ _ _ e'
    · subst e'
      rcases (hw.ownb _ _ hb).2.1 with h | h
      · exact .inr (.inr h)
      · exact .inr (.inl h)
  · rw [hh b' (fun eb => ?_)]
    · exact hw.block b' hb' hn
    · subst eb
      rcases (hw.ownb _ _ hb).2.1 with h | h
      · exact h hn
      · omega
theorem zeroCells_size {z : Value} {sz k : Nat} (h : z.cells.size = sz) : (Builtin.zeroCells z.cells k).size = k * sz := by rw [size_zeroCells, h]
/-- The checked facts of an append. -/
theorem app_facts {T sz bytes : Nat} {zs : List Value} {s x : X} (hc : chk P o (.app T sz bytes zs s x) = true) : ∃ c t i z p q, o.op = .call c ∧ c.callee = .builtin .append ∧ c.args = #[p, q] ∧ c.argTypes = #[t, t] ∧ xeq p s = true ∧ xeq q x = true ∧
    telem P t = some T ∧ P.info? T = some i ∧ i.zero = some z ∧ i.size = sz ∧ i.bytes = bytes ∧ z.cells.size = sz ∧ 0 < sz ∧ 0 < bytes := by
  simp only [chk] at hc
  split at hc
  · rename_i c hop
    simp only [Bool.and_eq_true, beq_iff_eq, decide_eq_true_eq] at hc
    obtain ⟨⟨⟨⟨⟨⟨⟨⟨hb, hx⟩, ht⟩, hsz⟩, hby⟩, hz⟩, hl⟩, h0⟩, h1⟩ := hc
    obtain ⟨p, q, hpq, e1, e2⟩ := xeqs2 hx
    have hcal : c.callee = .builtin .append := by
      revert hb; cases c.callee <;> simp
      rename_i b; cases b <;> simp
    split at ht
    · rename_i t u htl
      simp only [Bool.and_eq_true, beq_iff_eq] at ht
      obtain ⟨rfl, he⟩ := ht
      obtain ⟨i, z, hi, hzz, e, ho⟩ := zeroB_ok hz
      have hisz : i.size = sz := by unfold tsize at hsz; rw [hi] at hsz; simpa using hsz
      have hiby : i.bytes = bytes := by rw [hi] at hby; simpa using hby
      exact ⟨c, t, i, z, p, q, hop, hcal, by rw [← Array.toList_inj]; exact hpq, by rw [← Array.toList_inj]; exact htl, e1, e2, he, hi, hzz, hisz, hiby, by rw [← Array.length_toList, e]; exact hl, h0, h1⟩
    · cases ht
  · cases hc
theorem app_exec {c : Call} {p q : Operand} {t : Nat} (hop : o.op = .call c) (h1 : c.callee = .builtin .append) (h2 : c.args = #[p, q]) (h3 : c.argTypes = #[t, t]) {v : Value} {w' : World}
    (hr : (Builtin.append_ #[t, t] o.type #[a.eval p, a.eval q]).run P w = .ok v w') : (execOp a.eval o).run P w = .ok (.value v) w' := by
  simp only [execOp, hop, resolve, h1, h2, h3, Sem.run_bind, Sem.run_pure, Result.andThen_ok, invoke, builtin]
  simp [hr]
theorem first_list {sz k : Nat} {b : Nat} {l : List Value} {cap : Nat} (hl : l.length = k * sz) (hc : ∀ (i : Nat) u, l[i]? = some u → w.cell? ⟨b, i, none⟩ = some u) : (Builtin.firstCells sz k (.slice (some ⟨b, 0, none⟩) k cap)).run P w = .ok l.toArray w :=
  run_firstCells_some w sz k _ k cap l hl (fun j v hv => by rw [add_lit, Nat.zero_add]; exact hc j v hv)
theorem take_l {l m : List Value} {k : Nat} (h : l.length = k) (nl : List Value) : (l ++ m).take k ++ nl ++ (l ++ m).drop (k + nl.length) = (l ++ nl) ++ m.drop nl.length := by
  subst h
  rw [List.take_left, List.drop_append]
  simp
theorem app_core (hw : WR bs V O own dom w H rm) (hf : FRn n V O a fr) (hd : ¬ dom nm) {T sz bytes : Nat} {zs : List Value} {s x : X} (hc : chk P o (.app T sz bytes zs s x) = true) {ys : List (List AC)} (hy : news H (ev fr x) = some ys) (hyz : newsz H sz (ev fr x))
    {k : Nat} {p0 : Operand} (hs : ∃ q0 t0 c0, o.op = .call c0 ∧ c0.args = #[p0, q0] ∧ c0.argTypes = #[t0, t0] ∧ O k = some (a.eval p0)) {xs : List (List AC)} (hk : H k = some (.arr T sz xs)) (hbd : (xs.length + ys.length) * bytes ≤ 140737488355328) :
    Makes P bs o a w V O dom nm rm (.w (.o (.ow nm))) (hupd nm (some (.arr T sz (xs ++ ys))) (hupd k none H)) := by
  obtain ⟨c, t, i, z, p, q, hop, hcal, hargs, hat, e1, e2, he, hi, hzz, hisz, hiby, hzs, h0, hb0⟩ := app_facts hc
  have ex := xeq_eval hf e2
  obtain ⟨hys, A, cx, nl, hxv, hnl, hfirst⟩ := news_sound hw ex hy hyz (fun _ => trivial)
  obtain ⟨hxs, hob⟩ := hw.obs _ _ hk
  have hsv : O k = some (a.eval p) := by
    obtain ⟨q0, t0, c0, g1, g2, g3, g4⟩ := hs
    rw [hop] at g1; cases g1
    rw [hargs] at g2
    have : p = p0 := by simpa using congrArg (fun l => l.toList.head?) g2
    rw [this]; exact g4
  have hO : ∀ u, O nm = some u → False := fun u e => hd (hw.domO _ _ e)
  have hnlen : nl.length = ys.length * sz := by rw [hnl.1, flatten_sized sz hys]
  have hsized : ∀ (j : Nat) y, (xs ++ ys)[j]? = some y → y.length = sz := by
    intro j y hj
    by_cases hjl : j < xs.length
    · rw [List.getElem?_append_left hjl] at hj; exact hxs j y hj
    · rw [List.getElem?_append_right (by omega)] at hj; exact hys _ y hj
  have hn63 : xs.length + ys.length ≤ 140737488355328 := Nat.le_trans (Nat.le_mul_of_pos_right _ hb0) hbd
  have hdk : dom k := hw.domH _ _ hk
  -- a new block
  have grow : ∀ (ol : List Value) (B : Option Addr) (cap : Nat), O k = some (.slice B xs.length cap) → RCs V O ol xs.flatten → (Builtin.firstCells sz xs.length (.slice B xs.length cap)).run P w.drew = .ok ol.toArray w.drew → cap < xs.length + ys.length →
      Makes P bs o a w V O dom nm rm (.w (.o (.ow nm))) (hupd nm (some (.arr T sz (xs ++ ys))) (hupd k none H)) := by
    intro ol B cap hOk hol hfo hg
    rw [hOk] at hsv; simp only [Option.some.injEq] at hsv
    have hr := app_grow (P := P) (w := w) (ty := o.type) he hi hisz hzz (A := B) (len := xs.length) (cap := cap) hxv hfo (hfirst w.drew rfl) hg (by omega) (growslice_fits hg (by rw [hiby]; exact hbd))
    rw [hsv] at hr
    have hge := grownCap_ge w (xs.length + ys.length) cap T
    have hcm := grownCap_le_maxLen w (xs.length + ys.length) cap T (by simp only [maxLen]; omega)
    have hzc : (Builtin.zeroCells z.cells (grownCap w (xs.length + ys.length) cap T - (xs.length + ys.length))).toList.length = (grownCap w (xs.length + ys.length) cap T - (xs.length + ys.length)) * sz := by
      rw [Array.length_toList, zeroCells_size hzs]
    generalize (Builtin.zeroCells z.cells (grownCap w (xs.length + ys.length) cap T - (xs.length + ys.length))).toList = zc at hr hzc
    generalize grownCap w (xs.length + ys.length) cap T = gc at hr hge hcm hzc
    have hblk : (w.drew.alloc (.cells (ol ++ (nl ++ zc)).toArray T)).heap[w.heap.size]? = some (.cells (ol ++ nl ++ zc).toArray T (0, 0)) := by
      rw [List.append_assoc]; exact heap_push_new w.drew _
    have hnew := (hw.kill k).drew.new (nm := nm) hd (v := .slice (some ⟨w.heap.size, 0, none⟩) (xs.length + ys.length) gc) (ob := .cells (ol ++ (nl ++ zc)).toArray T) (oo := .arr T sz (xs ++ ys)) (w.drew.alloc (.cells (ol ++ (nl ++ zc)).toArray T)) rfl rfl rfl rfl
      ⟨hsized, .inr ⟨w.heap.size, gc, ol ++ nl, zc, by rw [updO_self]; simp, updN_self _ _ _, hblk, by simpa using hge, by simp only [maxLen] at hcm; omega, by
        rw [hzc, List.length_append, hol.1, flatten_sized sz hxs, hnlen, ← Nat.add_mul, ← Nat.add_mul]; exact Nat.mul_le_mul_right _ (by omega), by
        rw [List.flatten_append]; exact (hol.append hnl).mono (Vw.le_refl _) (updO_le hO)⟩⟩
    exact ⟨_, _, V, _, _, .inr ⟨_, rfl, ⟨updO_self _ _ _, rfl⟩, fun _ => rfl⟩, by simp, app_exec hop hcal hargs hat hr, Vw.le_refl _, updO_le hO, hnew.dommono dom_nm⟩
  rcases hob with ⟨rfl, A0, h1⟩ | ⟨b, cap, l, m, h1, h2, h3, h4, h5, h6, h7⟩
  · by_cases hroom : ys.length = 0
    · have hys0 : ys = [] := List.eq_nil_of_length_eq_zero hroom
      subst hys0
      have hn0 : nl = [] := List.eq_nil_of_length_eq_zero (by rw [hnlen]; simp)
      subst hn0
      rw [h1] at hsv; simp only [Option.some.injEq] at hsv
      have hr := app_room (P := P) (w := w) (ty := o.type) he hi hisz (A := A0) (len := 0) (cap := 0) (b := 0) (cur := #[]) hxv (hfirst w rfl) (by simp) (fun _ => rfl) (fun _ _ => .inl rfl) (by simp)
      rw [if_pos rfl, hsv] at hr
      refine ⟨_, w, V, _, _, .inr ⟨_, rfl, ⟨updO_self nm (.slice A0 0 0) O, rfl⟩, fun _ => rfl⟩, by simp, app_exec hop hcal hargs hat hr, Vw.le_refl _, updO_le hO, ((hw.kill k).noblk hd (ob := .arr T sz ([] ++ [])) ⟨by simp, .inl ⟨rfl, A0, updO_self _ _ _⟩⟩).dommono dom_nm⟩
    · exact grow [] A0 0 h1 RCs.nil (by cases A0 with
        | none => exact run_firstCells_none w.drew sz 0 0 0
        | some A0 => exact run_firstCells_some w.drew sz 0 A0 0 0 [] (by simp) (fun j v hv => by simp at hv)) (by simp; omega)
  · have hll : l.length = xs.length * sz := by rw [h7.1, flatten_sized sz hxs]
    by_cases hroom : xs.length + ys.length ≤ cap
    · rw [h1] at hsv; simp only [Option.some.injEq] at hsv
      have hmul : (xs.length + ys.length) * sz ≤ cap * sz := Nat.mul_le_mul_right _ hroom
      rw [Nat.add_mul] at hmul
      have hr := app_room (P := P) (w := w) (ty := o.type) he hi hisz (A := some ⟨b, 0, none⟩) (len := xs.length) (cap := cap) (b := b) (cur := (l ++ m).toArray) hxv (hfirst w rfl) hroom (by simp)
        (fun ad had => .inr ⟨(Option.some.inj had).symm, h3, by simp; omega⟩) hnl.all_one
      rw [hsv] at hr
      have hcur : (l ++ m).toArray.toList = l ++ m := rfl
      rw [hcur, take_l hll] at hr
      have hnv := hw.noV hk trivial h2
      have hwd : (if nl = [] then w else w.setRow b (l ++ nl ++ m.drop nl.length).toArray).heap[b]? = some (.cells (l ++ nl ++ m.drop nl.length).toArray T (0, 0)) := by
        split
        · rename_i hn; subst hn; simpa using h3
        · exact setRow_heap w b _ _ T _ h3
      have hoth : ∀ b', b' ≠ b → (if nl = [] then w else w.setRow b (l ++ nl ++ m.drop nl.length).toArray).heap[b']? = w.heap[b']? := by
        intro b' hne
        split
        · rfl
        · exact setRow_other w b b' _ hne
      have hsw := hw.swap (nm := nm) h2 hdk hd (Vw.le_refl V) hoth (by split <;> simp) (by split <;> rfl) (by split <;> rfl) (by split <;> rfl)
        (fun b' o u e => by
          have hne : b' ≠ b := fun eb => hnv o u (eb ▸ e)
          rw [World.cell?_of_block (w := w) (hoth b' hne)]; exact hw.sub _ _ _ e) (fun b' o u e => .inl e) (v := .slice (some ⟨b, 0, none⟩) (xs.length + ys.length) cap) (ob' := .arr T sz (xs ++ ys)) (fun o u e => (hnv o u e).elim)
        ⟨hsized, .inr ⟨b, cap, l ++ nl, m.drop nl.length, by rw [updO_self]; simp, updN_self _ _ _, hwd, by simpa using hroom, h5, by simp; omega, by rw [List.flatten_append]; exact (h7.append hnl).mono (Vw.le_refl _) (updO_le hO)⟩⟩
      exact ⟨_, _, V, _, _, .inr ⟨_, rfl, ⟨updO_self _ _ _, rfl⟩, fun _ => rfl⟩, by simp, app_exec hop hcal hargs hat hr, Vw.le_refl _, updO_le hO, hsw.dommono dom_nm⟩
    · exact grow l (some ⟨b, 0, none⟩) cap h1 h7 (first_list hll (fun i u hu => by
        rw [show w.drew.cell? ⟨b, i, none⟩ = w.cell? ⟨b, i, none⟩ from rfl, cell_of_row w b _ _ _ _ h3]
        have hi : i < l.length := (List.getElem?_eq_some_iff.1 hu).1
        simp only [List.getElem?_toArray]
        rw [List.getElem?_append_left hi, hu])) (by omega)
theorem s_clip_ow (hw : WR bs V O own dom w H rm) (hf : FRn n V O a fr) (hd : ¬ dom nm) {sz : Nat} {x hi mx : X} (hc : chk P o (.clip sz x hi mx) = true) {k T : Nat} {xs : List (List AC)}
    (hx : ev fr x = .w (.o (.ow k))) (hk : H k = some (.arr T sz xs)) (h1 : bnd fr 0 (some hi) = some xs.length) (h2 : bnd fr 0 (some mx) = some xs.length) :
    Makes P bs o a w V O dom nm rm (.w (.o (.ow nm))) (hupd nm (some (.arr T sz xs)) (hupd k none H)) := by
  simp only [chk] at hc
  split at hc
  · rename_i t y hh mm hop
    simp only [Bool.and_eq_true] at hc
    obtain ⟨⟨⟨c1, c2⟩, c3⟩, c4⟩ := hc
    split at c4
    · rename_i e he
      have hsz : tsize P e = some sz := by simpa using c4
      have ex := xeq_eval hf c1
      rw [hx] at ex
      have hOv : O k = some (a.eval y) := ex.1.1
      have b1 : ∀ d, bval ((some hh).map a.eval) d xs.length := fun d => by
        rcases bnd_sound hf (p := some hh) (x := some hi) c2 h1 with ⟨h0, _⟩ | h0
        · cases h0
        · exact .inr h0
      have b2 : ∀ d, bval ((some mm).map a.eval) d xs.length := fun d => by
        rcases bnd_sound hf (p := some mm) (x := some mx) c3 h2 with ⟨h0, _⟩ | h0
        · cases h0
        · exact .inr h0
      have hO : ∀ u, O nm = some u → False := fun u e => hd (hw.domO _ _ e)
      have hdk : dom k := hw.domH _ _ hk
      obtain ⟨hs, hob⟩ := hw.obs _ _ hk
      have hrun : ∀ {A len cap}, a.eval y = .slice A len cap → xs.length ≤ cap → (execOp a.eval o).run P w = .ok (.value (sliced A 0 xs.length xs.length sz)) w := by
        intro A len cap h3 h4
        have := run_slcAt (P := P) (w := w) he hsz (A := A) (len := len) (cap := cap) (lo := none) (.inl ⟨rfl, rfl⟩) (b1 len) (b2 cap) (Nat.zero_le _) (Nat.le_refl _) h4 (fun _ => rfl)
        simp only [Option.map_some] at this
        simp [execOp, hop, h3, this]
      rcases hob with ⟨rfl, A, h3⟩ | ⟨b, cap, l, m, g1, g2, g3, g4, g5, g6, g7⟩
      · rw [h3] at hOv
        have hv := (Option.some.inj hOv).symm
        have hr := hrun hv (Nat.le_refl _)
        have e0 : sliced A 0 ([] : List (List AC)).length ([] : List (List AC)).length sz = .slice A 0 0 := by simp [sliced]
        rw [e0] at hr
        exact ⟨_, w, V, _, _, .inr ⟨_, rfl, ⟨updO_self nm (.slice A 0 0) O, rfl⟩, fun _ => rfl⟩, by simp, hr, Vw.le_refl _, updO_le hO, ((hw.kill k).noblk hd (ob := .arr T sz []) ⟨by simp, .inl ⟨rfl, A, updO_self _ _ _⟩⟩).dommono dom_nm⟩
      · rw [g1] at hOv
        have hv := (Option.some.inj hOv).symm
        have hr := hrun hv g4
        have e0 : sliced (some ⟨b, 0, none⟩) 0 xs.length xs.length sz = .slice (some ⟨b, 0, none⟩) xs.length xs.length := by
          simp [sliced, add_lit]
        rw [e0] at hr
        have hnv := hw.noV hk trivial g2
        have hsw := hw.swap (nm := nm) g2 hdk hd (Vw.le_refl V) (w' := w) (fun _ _ => rfl) rfl rfl rfl rfl hw.sub (fun b' o u e => .inl e) (v := .slice (some ⟨b, 0, none⟩) xs.length xs.length) (ob' := .arr T sz xs) (fun o u e => (hnv o u e).elim)
          ⟨hs, .inr ⟨b, xs.length, l, m, updO_self _ _ _, updN_self _ _ _, g3, Nat.le_refl _, by omega, Nat.le_trans (Nat.mul_le_mul_right _ g4) g6, g7.mono (Vw.le_refl _) (updO_le hO)⟩⟩
        exact ⟨_, _, V, _, _, .inr ⟨_, rfl, ⟨updO_self _ _ _, rfl⟩, fun _ => rfl⟩, by simp, hr, Vw.le_refl _, updO_le hO, hsw.dommono dom_nm⟩
    · cases c4
  · cases hc
theorem s_clip_e0 (hf : FRn n V O a fr) {sz : Nat} {x hi mx : X} (hc : chk P o (.clip sz x hi mx) = true) (hx : ev fr x = .w (.o .e0) ∨ ∃ s, ev fr x = .w (.o (.c (.sl s [])))) (h1 : bnd fr 0 (some hi) = some 0) (h2 : bnd fr 0 (some mx) = some 0) : Gives P o a w V O (.w (.o .e0)) := by
  simp only [chk] at hc
  split at hc
  · rename_i t y hh mm hop
    simp only [Bool.and_eq_true] at hc
    obtain ⟨⟨⟨c1, c2⟩, c3⟩, c4⟩ := hc
    split at c4
    · rename_i e he
      have hsz : tsize P e = some sz := by simpa using c4
      have ex := xeq_eval hf c1
      obtain ⟨A, cap, hv⟩ : ∃ A cap, a.eval y = .slice A 0 cap := by
        rcases hx with hx | ⟨s, hx⟩
        · rw [hx] at ex
          obtain ⟨A, hv⟩ := e0_form ex
          exact ⟨A, 0, hv⟩
        · rw [hx] at ex
          obtain ⟨A, len, cap, hv, hlen, -⟩ := RC_slice_form (V := V) ex.1
          exact ⟨A, cap, by rw [hv, ← hlen]; rfl⟩
      have b1 : ∀ d, bval ((some hh).map a.eval) d 0 := fun d => by
        rcases bnd_sound hf (p := some hh) (x := some hi) c2 h1 with ⟨h0, _⟩ | h0
        · cases h0
        · exact .inr h0
      have b2 : ∀ d, bval ((some mm).map a.eval) d 0 := fun d => by
        rcases bnd_sound hf (p := some mm) (x := some mx) c3 h2 with ⟨h0, _⟩ | h0
        · cases h0
        · exact .inr h0
      have hr := run_slcAt (P := P) (w := w) he hsz (A := A) (len := 0) (cap := cap) (lo := none) (.inl ⟨rfl, rfl⟩) (b1 0) (b2 cap) (Nat.zero_le _) (Nat.le_refl _) (Nat.zero_le _) (fun _ => rfl)
      simp only [Option.map_some] at hr
      refine ⟨_, by simp [execOp, hop, hv, hr]; rfl, ⟨A, ?_⟩, fun _ => ?_⟩
      · simp [sliced]
      · simp [sliced, Value.oneCell']
    · cases c4
  · cases hc
theorem s_app_ow (hw : WR bs V O own dom w H rm) (hf : FRn n V O a fr) (hd : ¬ dom nm) {T sz bytes : Nat} {zs : List Value} {s x : X} (hc : chk P o (.app T sz bytes zs s x) = true) {ys : List (List AC)} (hy : news H (ev fr x) = some ys) (hyz : newsz H sz (ev fr x))
    {k : Nat} (hs : ev fr s = .w (.o (.ow k))) {xs : List (List AC)} (hk : H k = some (.arr T sz xs)) (hbd : (xs.length + ys.length) * bytes ≤ 140737488355328) :
    Makes P bs o a w V O dom nm rm (.w (.o (.ow nm))) (hupd nm (some (.arr T sz (xs ++ ys))) (hupd k none H)) := by
  obtain ⟨c, t, i, z, p, q, hop, hcal, hargs, hat, e1, e2, -⟩ := app_facts hc
  have es := xeq_eval hf e1
  rw [hs] at es
  exact app_core hw hf hd hc hy hyz ⟨q, t, c, hop, hargs, hat, es.1.1⟩ hk hbd
theorem s_app_e0 (hw : WR bs V O own dom w H rm) (hf : FRn n V O a fr) (hd : ∀ k, nm ≤ k → k < nm + 16 → ¬ dom k) {T sz bytes : Nat} {zs : List Value} {s x : X} (hc : chk P o (.app T sz bytes zs s x) = true) {ys : List (List AC)} (hy : news H (ev fr x) = some ys) (hyz : newsz H sz (ev fr x))
    (hs : ev fr s = .w (.o .e0)) (hbd : ys.length * bytes ≤ 140737488355328) : Makes P bs o a w V O dom nm rm (.w (.o (.ow nm))) (hupd nm (some (.arr T sz ys)) H) := by
  obtain ⟨c, t, i, z, p, q, hop, hcal, hargs, hat, e1, e2, -⟩ := app_facts hc
  have es := xeq_eval hf e1
  rw [hs] at es
  obtain ⟨A, hv⟩ := e0_form es
  have hd1 := hd (nm + 1) (by omega) (by omega)
  have hO1 : ∀ u, O (nm + 1) = some u → False := fun u e => hd1 (hw.domO _ _ e)
  have hw1 := hw.noblk hd1 (v := .slice A 0 0) (ob := .arr T sz []) ⟨by simp, .inl ⟨rfl, A, updO_self _ _ _⟩⟩
  have hx' : ∀ v, v = ev fr x → news (hupd (nm + 1) (some (.arr T sz [])) H) v = news H v ∧ (newsz (hupd (nm + 1) (some (.arr T sz [])) H) sz v = newsz H sz v) := by
    intro v hv
    subst hv
    unfold news newsz
    split
    · rename_i k hk
      have hne : k ≠ nm + 1 := by
        intro e
        have := xeq_eval hf e2
        rw [hk, e] at this
        exact hO1 _ this.1.1
      simp [hupd, hne, hk]
    · rename_i v' hne
      refine ⟨rfl, ?_⟩
      split
      · rename_i k hk; exact absurd hk (hne k)
      · rfl
      · rfl
      · rfl
  obtain ⟨n1, n2⟩ := hx' _ rfl
  obtain ⟨nx, w', V', O', own', r1, r2, r3, r4, r5, r6⟩ := app_core (nm := nm) hw1 (hf.mono (Vw.le_refl _) (updO_le hO1)) (fun h => by rcases h with h | h; exact hd nm (by omega) (by omega) h; omega) hc (n1.trans hy) (by rw [n2]; exact hyz)
    (k := nm + 1) ⟨q, t, c, hop, hargs, hat, by rw [updO_self, hv]⟩ (xs := []) (by simp [hupd]) (by simpa using hbd)
  refine ⟨nx, w', V', O', own', r1, r2, r3, r4, fun k v h => r5 k v (updO_le hO1 k v h), ?_⟩
  have hH : hupd nm (some (.arr T sz ([] ++ ys))) (hupd (nm + 1) none (hupd (nm + 1) (some (.arr T sz [])) H)) = hupd nm (some (.arr T sz ys)) H := by
    funext j
    unfold hupd
    by_cases h1 : j = nm
    · simp [h1]
    · by_cases h2 : j = nm + 1
      · subst h2
        have : H (nm + 1) = none := by
          cases hh : H (nm + 1) with
          | none => rfl
          | some ob => exact absurd (hw.domH _ _ hh) hd1
        simp [this]
      · simp [h1, h2]
  rw [hH] at r6
  exact r6.dommono (fun k h => by rcases h with (h | h) | h; exact .inl h; exact .inr (by omega); exact .inr h)
end
end Av
end Go.Proofs.Ytdboofnogabefaa
/- Layer Av, part 13: freezing an array; an append by a right to append. -/
namespace Go.Proofs.Ytdboofnogabefaa
namespace Av
open Go.RowKit
theorem fcells_eq : ∀ {cs : List AC} {fs : List FV}, fcells cs = some fs → cs = fs.map AC.c
  | [], fs, h => by simp [fcells] at h; subst h; rfl
  | c :: cs, fs, h => by
    unfold fcells at h
    split at h
    · rename_i hh; cases hh
    · rename_i f r hh
      simp only [List.cons.injEq] at hh
      obtain ⟨rfl, rfl⟩ := hh
      obtain ⟨gs, hg, rfl⟩ := Option.map_eq_some_iff.1 h
      rw [fcells_eq hg]; rfl
    · cases h
theorem fcellss_eq : ∀ {xs : List (List AC)} {zs : List (List FV)}, fcellss xs = some zs → xs = zs.map fun z => z.map AC.c
  | [], zs, h => by simp [fcellss] at h; subst h; rfl
  | x :: xs, zs, h => by
    unfold fcellss at h
    obtain ⟨y, hy, h1⟩ := Option.bind_eq_some_iff.1 h
    obtain ⟨gs, hg, rfl⟩ := Option.map_eq_some_iff.1 h1
    rw [fcells_eq hy, fcellss_eq hg]; rfl
section
variable {P : Program} {bs : Base} {V : Vw} {O : Nat → Option Value} {own : Nat → Option Nat} {dom : Nat → Prop} {w : World} {H : Hp} {rm n nm : Nat} {a : Act} {fr : Env} {o : Oper}
theorem RCs.toRFs {l : List Value} {fs : List FV} (h : RCs V O l (fs.map AC.c)) : RFs V l fs :=
  ⟨by simpa using h.1, fun i x f h1 h2 => (h.2 i x (.c f) h1 (by rw [List.getElem?_map, h2]; rfl)).1⟩
theorem RFs.mono {V' : Vw} (hV : V.le V') {l : List Value} {fs : List FV} (h : RFs V l fs) : RFs V' l fs := ⟨h.1, fun i x f h1 h2 => (h.2 i x f h1 h2).mono hV⟩
theorem RFs.append {l m : List Value} {fs gs : List FV} (h : RFs V l fs) (k : RFs V m gs) : RFs V (l ++ m) (fs ++ gs) :=
  ⟨by simp [h.1, k.1], fun i x f h1 h2 => by
    by_cases hi : i < l.length
    · rw [List.getElem?_append_left hi] at h1
      rw [List.getElem?_append_left (by rw [← h.1]; exact hi)] at h2
      exact h.2 i x f h1 h2
    · rw [List.getElem?_append_right (by omega)] at h1
      rw [List.getElem?_append_right (by rw [← h.1]; omega), ← h.1] at h2
      exact k.2 _ x f h1 h2⟩
theorem WR.freeze (hw : WR bs V O own dom w H rm) {k T sz : Nat} {xs : List (List AC)} {zs : List (List FV)} (hk : H k = some (.arr T sz xs)) (hz : fcellss xs = some zs) :
    ∃ V' : Vw, V.le V' ∧ WR bs V' O own dom w (hupd k (some (.tok T sz xs.length)) H) rm ∧ ∀ v, O k = some v → RF V' v (.sl sz zs) := by
  have hxz := fcellss_eq hz
  obtain ⟨hs, hob⟩ := hw.obs _ _ hk
  have hzs : ∀ (j : Nat) y, zs[j]? = some y → y.length = sz := by
    intro j y hy
    have := hs j (y.map AC.c) (by rw [hxz, List.getElem?_map, hy]; rfl)
    simpa using this
  have hlen : zs.length = xs.length := by rw [hxz]; simp
  have hobs : ∀ (V' : Vw), V.le V' → OR V' O own w rm k (.tok T sz xs.length) → ∀ k' ob, hupd k (some (.tok T sz xs.length)) H k' = some ob → OR V' O own w rm k' ob := by
    intro V' hV hor k' ob e
    unfold hupd at e
    split at e
    · rename_i ek; subst ek; simp only [Option.some.injEq] at e; subst e; exact hor
    · exact (hw.obs k' ob e).mono hV (fun _ _ h => h) (fun b hb => ⟨hb, rfl⟩) (Nat.le_refl _)
  have hdomH : ∀ k' ob, hupd k (some (.tok T sz xs.length)) H k' = some ob → dom k' := by
    intro k' ob e
    unfold hupd at e
    split at e
    · rename_i ek; subst ek; exact hw.domH _ _ hk
    · exact hw.domH _ _ e
  have hvo : ∀ b o u, V b o = some u → own b = none ∨ ∃ k' T' sz' m, own b = some k' ∧ hupd k (some (.tok T sz xs.length)) H k' = some (.tok T' sz' m) ∧ o < m * sz' := by
    intro b o u e
    rcases hw.vo b o u e with h | ⟨k', T', sz', m, h1, h2, h3⟩
    · exact .inl h
    · have : k' ≠ k := fun e => by rw [e, hk] at h2; cases h2
      exact .inr ⟨k', T', sz', m, h1, by unfold hupd; rw [if_neg this]; exact h2, h3⟩
  rcases hob with ⟨rfl, A, h1⟩ | ⟨b, cap, l, m, h1, h2, h3, h4, h5, h6, h7⟩
  · have hz0 : zs = [] := List.eq_nil_of_length_eq_zero (by simpa using hlen)
    subst hz0
    refine ⟨V, Vw.le_refl _, ⟨hw.sub, hvo, hobs V (Vw.le_refl _) (.inl ⟨rfl, A, h1⟩), hw.domO, hdomH, hw.ownb, hw.uniq, hw.vb, hw.v0, hw.os, hw.tape, hw.output, hw.size, hw.block, hw.o0⟩, fun v hv => ?_⟩
    rw [h1] at hv; simp only [Option.some.injEq] at hv; subst hv
    exact RF.sl (b := 0) (off := 0) (fun _ _ => undef) rfl (Nat.le_refl _) (by omega) (fun h => absurd h (by omega)) hzs (fun j y i f hy => by simp at hy) (fun j y i f hy => by simp at hy)
  · have hnv := hw.noV hk trivial h2
    let V' : Vw := fun b' o => if b' = b ∧ o < l.length then l[o]? else V b' o
    have hV : V.le V' := by
      intro b' o u e
      show (if b' = b ∧ o < l.length then l[o]? else V b' o) = some u
      have hne : ¬ (b' = b ∧ o < l.length) := fun h => hnv o u (h.1 ▸ e)
      rw [if_neg hne]; exact e
    have hVb : ∀ (i : Nat) u, l[i]? = some u → V' b i = some u := by
      intro i u hu
      show (if b = b ∧ i < l.length then l[i]? else V b i) = some u
      rw [if_pos ⟨rfl, (List.getElem?_eq_some_iff.1 hu).1⟩]; exact hu
    have hll : l.length = xs.length * sz := by rw [h7.1, flatten_sized sz hs]
    have hinv : ∀ b' o u, V' b' o = some u → V b' o = some u ∨ (b' = b ∧ o < l.length ∧ l[o]? = some u) := by
      intro b' o u e
      replace e : (if b' = b ∧ o < l.length then l[o]? else V b' o) = some u := e
      split at e
      · rename_i h; exact .inr ⟨h.1, h.2, e⟩
      · exact .inl e
    have hr : RFs V l zs.flatten := by
      have h8 : RCs V O l (zs.flatten.map AC.c) := by rw [← flat_map_map, ← hxz]; exact h7
      exact h8.toRFs
    refine ⟨V', hV, ⟨fun b' o u e => ?_, fun b' o u e => ?_, hobs V' hV (.inr ⟨b, cap, l, m, h1, h2, h3, h4, h5, h6, hll, hVb⟩), hw.domO, hdomH, hw.ownb, hw.uniq, fun b' o u e => ?_, Vw.le_trans hw.v0 hV, hw.os, hw.tape, hw.output, hw.size, hw.block, hw.o0⟩, fun v hv => ?_⟩
    · rcases hinv b' o u e with e' | ⟨rfl, hlt, e'⟩
      · exact hw.sub _ _ _ e'
      · rw [cell_of_row w b' _ _ _ _ h3]
        simp only [List.getElem?_toArray]
        rw [List.getElem?_append_left hlt]; exact e'
    · rcases hinv b' o u e with e' | ⟨rfl, hlt, e'⟩
      · exact hvo _ _ _ e'
      · exact .inr ⟨k, T, sz, xs.length, h2, by simp [hupd], by omega⟩
    · rcases hinv b' o u e with e' | ⟨rfl, hlt, e'⟩
      · exact hw.vb _ _ _ e'
      · rcases (hw.ownb _ _ h2).2.1 with h | h
        · exact .inr (.inr h)
        · exact .inr (.inl h)
    · rw [h1] at hv; simp only [Option.some.injEq] at hv; subst hv
      rw [← hlen]
      exact RF_of_cells hzs (hr.mono hV) (fun i u hu => by rw [Nat.zero_add]; exact hVb i u hu) (by omega) h5
/-- What an append that makes a new array comes to, frozen. -/
theorem Makes.frozen {k0 T sz : Nat} {xs : List (List AC)} {zs : List (List FV)} {H' : Hp} (h : Makes P bs o a w V O dom nm rm (.w (.o (.ow nm))) H') (hk : H' nm = some (.arr T sz xs)) (hz : fcellss xs = some zs) :
    Makes P bs o a w V O dom nm rm (.w (.o (.tk nm sz zs))) (hupd nm (some (.tok T sz xs.length)) H') := by
  obtain ⟨nx, w', V', O', own', r1, r2, r3, r4, r5, r6⟩ := h
  obtain ⟨V2, f1, f2, f3⟩ := r6.freeze hk hz
  refine ⟨nx, w', V2, O', own', ?_, fun e => ?_, r3, Vw.le_trans r4 f1, r5, f2⟩
  · rcases r1 with e | ⟨v, e, hv⟩
    · exact .inl e
    · exact .inr ⟨v, e, ⟨hv.1.1, f3 v hv.1.1⟩, fun _ => hv.1.2⟩
  · have := r2 e; cases this
theorem hupd_hupd (k : Nat) (a b : Option Ob) (H : Hp) : hupd k a (hupd k b H) = hupd k a H := by
  funext j; unfold hupd; split <;> rfl
theorem hupd_self (k : Nat) (a : Option Ob) (H : Hp) : hupd k a H k = a := by simp [hupd]
theorem s_bslf {tk : Bool} (hw : WR bs V O own dom w H rm) (hf : FRn n V O a fr) (hd : ¬ dom nm) {T sz : Nat} {xs : List X} (hc : chk P o (.bslf tk T sz xs) = true) {css : List (List AC)} (h : cellssOf fr sz xs = some css) {ys : List (List FV)} (hy : fcellss css = some ys) :
    Makes P bs o a w V O dom nm rm (bslV tk nm sz ys) (hupd nm (some (.tok T sz css.length)) H) := by
  have h1 := (s_bsl hw hf hd (T := T) (sz := sz) (xs := xs) hc h).frozen (k0 := 0) (hupd_self _ _ _) hy
  rw [hupd_hupd] at h1
  cases tk with
  | true => exact h1
  | false =>
    obtain ⟨nx, w', V', O', own', r1, r2, r3, r4, r5, r6⟩ := h1
    refine ⟨nx, w', V', O', own', ?_, fun e => absurd (r2 e) (by simp), r3, r4, r5, r6⟩
    rcases r1 with e | ⟨v, e, hv⟩
    · exact absurd (r2 e) (by simp)
    · exact .inr ⟨v, e, hv.1.2, fun _ => hv.1.2.oneCell⟩
theorem s_app_tk (hw : WR bs V O own dom w H rm) (hf : FRn n V O a fr) (hd : ∀ k, nm ≤ k → k < nm + 16 → ¬ dom k) {T sz bytes : Nat} {zs : List Value} {s x : X} (hc : chk P o (.app T sz bytes zs s x) = true) {ys : List (List AC)} (hy : news H (ev fr x) = some ys) (hyz : newsz H sz (ev fr x))
    {k : Nat} {xs : List (List FV)} (hs : ev fr s = .w (.o (.tk k sz xs))) (hk : H k = some (.tok T sz xs.length)) {gs : List (List FV)} (hg : fcellss ys = some gs) (hbd : (xs.length + gs.length) * bytes ≤ 140737488355328) :
    Makes P bs o a w V O dom nm rm (.w (.o (.tk nm sz (xs ++ gs)))) (hupd nm (some (.tok T sz (xs.length + gs.length))) (hupd k none H)) := by
  obtain ⟨c, t, i, z, p, q, hop, hcal, hargs, hat, e1, e2, he, hi, hzz, hisz, hiby, hzs, h0, hb0⟩ := app_facts hc
  have es := xeq_eval hf e1
  have ex := xeq_eval hf e2
  rw [hs] at es
  have hygs := fcellss_eq hg
  have hglen : ys.length = gs.length := by rw [hygs]; simp
  obtain ⟨hys, A, cx, nl, hxv, hnl, hfirst⟩ := news_sound hw ex hy hyz (fun _ => trivial)
  have hsv : O k = some (a.eval p) := es.1.1
  have hsr : RF V (a.eval p) (.sl sz xs) := es.1.2
  have hdn := hd nm (by omega) (by omega)
  have hO : ∀ u, O nm = some u → False := fun u e => hdn (hw.domO _ _ e)
  have hnlen : nl.length = ys.length * sz := by rw [hnl.1, flatten_sized sz hys]
  have hn63 : xs.length + gs.length ≤ 140737488355328 := Nat.le_trans (Nat.le_mul_of_pos_right _ hb0) hbd
  have hdk : dom k := hw.domH _ _ hk
  have hkn : k ≠ nm := fun e => hdn (e ▸ hdk)
  obtain ⟨hxs, A0, c0, b0, off0, l0, hv0, -, -, hA0, hl0, hV0⟩ := RF_cells hsr
  have hgs : ∀ (j : Nat) y, gs[j]? = some y → y.length = sz := by
    intro j y hj
    have := hys j (y.map AC.c) (by rw [hygs, List.getElem?_map, hj]; rfl)
    simpa using this
  have hsized : ∀ (j : Nat) y, (xs ++ gs)[j]? = some y → y.length = sz := by
    intro j y hj
    by_cases hjl : j < xs.length
    · rw [List.getElem?_append_left hjl] at hj; exact hxs j y hj
    · rw [List.getElem?_append_right (by omega)] at hj; exact hgs _ y hj
  have hnr : RFs V nl gs.flatten := by
    have h8 : RCs V O nl (gs.flatten.map AC.c) := by rw [← flat_map_map, ← hygs]; exact hnl
    exact h8.toRFs
  have hl0len : l0.length = xs.length * sz := by rw [hl0.1, flatten_sized sz hxs]
  -- a new block
  have grow : ∀ (B : Option Addr) (cap : Nat), O k = some (.slice B xs.length cap) → (Builtin.firstCells sz xs.length (.slice B xs.length cap)).run P w.drew = .ok l0.toArray w.drew → cap < xs.length + ys.length →
      Makes P bs o a w V O dom nm rm (.w (.o (.tk nm sz (xs ++ gs)))) (hupd nm (some (.tok T sz (xs.length + gs.length))) (hupd k none H)) := by
    intro B cap hOk hfo hgr
    have hsv2 := hsv
    rw [hOk] at hsv2; simp only [Option.some.injEq] at hsv2
    have hr := app_grow (P := P) (w := w) (ty := o.type) he hi hisz hzz (A := B) (len := xs.length) (cap := cap) hxv hfo (hfirst w.drew rfl) hgr (by omega) (growslice_fits hgr (by rw [hiby, hglen]; exact hbd))
    rw [hsv2] at hr
    have hge := grownCap_ge w (xs.length + ys.length) cap T
    have hcm := grownCap_le_maxLen w (xs.length + ys.length) cap T (by simp only [maxLen]; omega)
    have hzc : (Builtin.zeroCells z.cells (grownCap w (xs.length + ys.length) cap T - (xs.length + ys.length))).toList.length = (grownCap w (xs.length + ys.length) cap T - (xs.length + ys.length)) * sz := by
      rw [Array.length_toList, zeroCells_size hzs]
    generalize (Builtin.zeroCells z.cells (grownCap w (xs.length + ys.length) cap T - (xs.length + ys.length))).toList = zc at hr hzc
    generalize grownCap w (xs.length + ys.length) cap T = gc at hr hge hcm hzc
    have hblk : (w.drew.alloc (.cells (l0 ++ (nl ++ zc)).toArray T)).heap[w.heap.size]? = some (.cells (l0 ++ nl ++ zc).toArray T (0, 0)) := by
      rw [List.append_assoc]; exact heap_push_new w.drew _
    have hnew := (hw.kill k).drew.new (nm := nm) hdn (v := .slice (some ⟨w.heap.size, 0, none⟩) (xs.length + ys.length) gc) (ob := .cells (l0 ++ (nl ++ zc)).toArray T) (oo := .arr T sz ((xs ++ gs).map fun z => z.map AC.c)) (w.drew.alloc (.cells (l0 ++ (nl ++ zc)).toArray T)) rfl rfl rfl rfl
      ⟨fun j y hj => by
          rw [List.getElem?_map] at hj
          obtain ⟨y', h1, rfl⟩ := Option.map_eq_some_iff.1 hj
          simpa using hsized j y' h1, .inr ⟨w.heap.size, gc, l0 ++ nl, zc, by rw [updO_self]; simp [hglen], updN_self _ _ _, hblk, by simp; omega, by simp only [maxLen] at hcm; omega, by
        rw [hzc, List.length_append, hl0len, hnlen, ← Nat.add_mul, ← Nat.add_mul]; exact Nat.mul_le_mul_right _ (by omega), by
        rw [flat_map_map, List.flatten_append]; exact ((hl0.append hnr).toRCs (O := O)).mono (Vw.le_refl _) (updO_le hO)⟩⟩
    have hmk : Makes P bs o a w V O dom nm rm (.w (.o (.ow nm))) (hupd nm (some (.arr T sz ((xs ++ gs).map fun z => z.map AC.c))) (hupd k none H)) :=
      ⟨_, _, V, _, _, .inr ⟨_, rfl, ⟨updO_self _ _ _, rfl⟩, fun _ => rfl⟩, by simp, app_exec hop hcal hargs hat hr, Vw.le_refl _, updO_le hO, hnew.dommono dom_nm⟩
    have hfz : ∀ l : List (List FV), fcellss (l.map fun z => z.map AC.c) = some l := by
      have h1 : ∀ l : List FV, fcells (l.map AC.c) = some l := by
        intro l; induction l with
        | nil => rfl
        | cons f l ih => simp [fcells, ih]
      intro l; induction l with
      | nil => rfl
      | cons f l ih => simp [fcellss, h1, ih]
    have := hmk.frozen (k0 := 0) (hupd_self _ _ _) (hfz (xs ++ gs))
    rw [hupd_hupd] at this
    simpa using this
  rcases hw.obs _ _ hk with ⟨hx0, A1, h1⟩ | ⟨b, cap, l, m, h1, h2, h3, h4, h5, h6, h7, h8⟩
  · have hx00 : xs = [] := List.eq_nil_of_length_eq_zero hx0
    subst hx00
    have hl00 : l0 = [] := List.eq_nil_of_length_eq_zero (by rw [hl0len]; simp)
    subst hl00
    by_cases hroom : ys.length = 0
    · have hg0 : gs = [] := List.eq_nil_of_length_eq_zero (by omega)
      subst hg0
      have hn0 : nl = [] := List.eq_nil_of_length_eq_zero (by rw [hnlen, hroom]; simp)
      subst hn0
      have hsv2 := hsv
      rw [h1] at hsv2; simp only [Option.some.injEq] at hsv2
      have hr := app_room (P := P) (w := w) (ty := o.type) he hi hisz (A := A1) (len := 0) (cap := 0) (b := 0) (cur := #[]) hxv (hfirst w rfl) (by omega) (fun _ => rfl) (fun _ _ => .inl rfl) (by simp)
      rw [if_pos rfl, hsv2, hroom] at hr
      refine ⟨_, w, V, _, _, .inr ⟨_, rfl, ⟨updO_self nm (.slice A1 0 0) O, ?_⟩, fun _ => rfl⟩, by simp, app_exec hop hcal hargs hat hr, Vw.le_refl _, updO_le hO, ((hw.kill k).noblk hdn (ob := .tok T sz (([] : List (List FV)).length + ([] : List (List FV)).length)) (.inl ⟨rfl, A1, updO_self _ _ _⟩)).dommono dom_nm⟩
      rw [← hsv2] at hsr; exact hsr
    · exact grow A1 0 h1 (by cases A1 with
        | none => exact run_firstCells_none w.drew sz 0 0 0
        | some A1 => exact run_firstCells_some w.drew sz 0 A1 0 0 [] (by simp) (fun j v hv => by simp at hv)) (by simp; omega)
  · have hll := h7
    have hsv2 := hsv
    rw [h1] at hsv2; simp only [Option.some.injEq] at hsv2
    have hll0 : l0 = l := by
      apply List.ext_getElem?
      intro j
      by_cases hj : j < l0.length
      · have hu : l0[j]? = some l0[j] := List.getElem?_eq_getElem hj
        have hxpos : 0 < xs.length := by
          rcases Nat.eq_zero_or_pos xs.length with e | e
          · rw [hl0len, e] at hj; simp at hj
          · exact e
        have hA := hA0 hxpos
        rw [hv0, hA] at hsv2
        simp only [Value.slice.injEq, Option.some.injEq, Addr.mk.injEq, and_true, true_and] at hsv2
        obtain ⟨⟨rfl, rfl⟩, _⟩ := hsv2
        have hVj := hV0 j _ hu
        rw [Nat.zero_add] at hVj
        have hu2 : l[j]? = some (l[j]'(by omega)) := List.getElem?_eq_getElem _
        have := h8 j _ hu2
        rw [hVj] at this
        rw [hu, hu2]; exact this
      · rw [List.getElem?_eq_none (by omega), List.getElem?_eq_none (by omega)]
    subst hll0
    by_cases hroom : xs.length + ys.length ≤ cap
    · have hmul : (xs.length + ys.length) * sz ≤ cap * sz := Nat.mul_le_mul_right _ hroom
      rw [Nat.add_mul] at hmul
      have hr := app_room (P := P) (w := w) (ty := o.type) he hi hisz (A := some ⟨b, 0, none⟩) (len := xs.length) (cap := cap) (b := b) (cur := (l0 ++ m).toArray) hxv (hfirst w rfl) hroom (by simp)
        (fun ad had => .inr ⟨(Option.some.inj had).symm, h3, by simp; omega⟩) hnl.all_one
      rw [hsv2] at hr
      have hcur : (l0 ++ m).toArray.toList = l0 ++ m := rfl
      rw [hcur, take_l hll] at hr
      have hwd : (if nl = [] then w else w.setRow b (l0 ++ nl ++ m.drop nl.length).toArray).heap[b]? = some (.cells (l0 ++ nl ++ m.drop nl.length).toArray T (0, 0)) := by
        split
        · rename_i hn; subst hn; simpa using h3
        · exact setRow_heap w b _ _ T _ h3
      have hoth : ∀ b', b' ≠ b → (if nl = [] then w else w.setRow b (l0 ++ nl ++ m.drop nl.length).toArray).heap[b']? = w.heap[b']? := by
        intro b' hne
        split
        · rfl
        · exact setRow_other w b b' _ hne
      let V' : Vw := fun b' o => if b' = b ∧ o < (l0 ++ nl).length then (l0 ++ nl)[o]? else V b' o
      have hVold : ∀ o u, V b o = some u → o < l0.length ∧ l0[o]? = some u := by
        intro o u e
        rcases hw.vo b o u e with h | ⟨k', T', sz', m', g1, g2, g3⟩
        · rw [h2] at h; cases h
        · rw [h2] at g1; simp only [Option.some.injEq] at g1; subst g1
          rw [hk] at g2; simp only [Option.some.injEq, Ob.tok.injEq] at g2
          obtain ⟨rfl, rfl, rfl⟩ := g2
          have hlt : o < l0.length := by omega
          have hu2 : l0[o]? = some l0[o] := List.getElem?_eq_getElem hlt
          refine ⟨hlt, ?_⟩
          rw [hu2, ← e]; exact (h8 o _ hu2).symm
      have hV : V.le V' := by
        intro b' o u e
        show (if b' = b ∧ o < (l0 ++ nl).length then (l0 ++ nl)[o]? else V b' o) = some u
        by_cases hbb : b' = b ∧ o < (l0 ++ nl).length
        · rw [if_pos hbb]
          obtain ⟨g1, g2⟩ := hVold o u (hbb.1 ▸ e)
          rw [List.getElem?_append_left g1]; exact g2
        · rw [if_neg hbb]; exact e
      have hVb : ∀ (i : Nat) u, (l0 ++ nl)[i]? = some u → V' b i = some u := by
        intro i u hu
        show (if b = b ∧ i < (l0 ++ nl).length then (l0 ++ nl)[i]? else V b i) = some u
        rw [if_pos ⟨rfl, (List.getElem?_eq_some_iff.1 hu).1⟩]; exact hu
      have hinv : ∀ b' o u, V' b' o = some u → (b' ≠ b ∧ V b' o = some u) ∨ (b' = b ∧ o < (l0 ++ nl).length ∧ (l0 ++ nl)[o]? = some u) := by
        intro b' o u e
        replace e : (if b' = b ∧ o < (l0 ++ nl).length then (l0 ++ nl)[o]? else V b' o) = some u := e
        split at e
        · rename_i h; exact .inr ⟨h.1, h.2, e⟩
        · rename_i h
          by_cases hbb : b' = b
          · obtain ⟨g1, g2⟩ := hVold o u (hbb ▸ e)
            exact absurd ⟨hbb, by rw [List.length_append]; omega⟩ h
          · exact .inl ⟨hbb, e⟩
      have hlen2 : (l0 ++ nl).length = (xs.length + gs.length) * sz := by rw [List.length_append, hll, hnlen, hglen, Nat.add_mul]
      have hres : RF V' (.slice (some ⟨b, 0, none⟩) (xs.length + ys.length) cap) (.sl sz (xs ++ gs)) := by
        have := RF_of_cells (V := V') (cap := cap) (b := b) (off := 0) hsized (by rw [List.flatten_append]; exact (hl0.append hnr).mono hV) (fun i u hu => by rw [Nat.zero_add]; exact hVb i u hu) (by rw [List.length_append]; omega) h5
        rwa [List.length_append, ← hglen] at this
      have hsw := hw.swap (nm := nm) h2 hdk hdn hV hoth (by split <;> simp) (by split <;> rfl) (by split <;> rfl) (by split <;> rfl)
        (fun b' o u e => by
          rcases hinv b' o u e with ⟨hne, e'⟩ | ⟨rfl, hlt, e'⟩
          · rw [World.cell?_of_block (w := w) (hoth b' hne)]; exact hw.sub _ _ _ e'
          · rw [cell_of_row _ b' _ _ _ _ hwd]
            simp only [List.getElem?_toArray]
            rw [List.getElem?_append_left hlt]; exact e')
        (fun b' o u e => by rcases hinv b' o u e with ⟨hne, e'⟩ | ⟨h, _⟩; exact .inl e'; exact .inr h) (v := .slice (some ⟨b, 0, none⟩) (xs.length + ys.length) cap) (ob' := .tok T sz (xs.length + gs.length))
        (fun o u e => by
          rcases hinv b o u e with ⟨hne, _⟩ | ⟨_, hlt, _⟩
          · exact absurd rfl hne
          · exact ⟨T, sz, _, rfl, by rw [← hlen2]; exact hlt⟩)
        (.inr ⟨b, cap, l0 ++ nl, m.drop nl.length, by rw [updO_self, hglen], updN_self _ _ _, hwd, by omega, h5, by simp; omega, hlen2, hVb⟩)
      exact ⟨_, _, V', _, _, .inr ⟨_, rfl, ⟨updO_self _ _ _, hres⟩, fun _ => rfl⟩, by simp, app_exec hop hcal hargs hat hr, hV, updO_le hO, hsw.dommono dom_nm⟩
    · exact grow (some ⟨b, 0, none⟩) cap h1 (first_list hll (fun i u hu => by
        rw [show w.drew.cell? ⟨b, i, none⟩ = w.cell? ⟨b, i, none⟩ from rfl, cell_of_row w b _ _ _ _ h3]
        have hi : i < l0.length := (List.getElem?_eq_some_iff.1 hu).1
        simp only [List.getElem?_toArray]
        rw [List.getElem?_append_left hi, hu])) (by omega)
end
end Av
end Go.Proofs.Ytdboofnogabefaa
/- Layer Av, part 14: calls of functions that write nothing that was there. -/
namespace Go.Proofs.Ytdboofnogabefaa
namespace Av
open Go.RowKit
section
variable {P : Program} {bs : Base} {V : Vw} {O : Nat → Option Value} {own : Nat → Option Nat} {dom : Nat → Prop} {w : World} {H : Hp} {rm n nm : Nat} {a : Act} {fr : Env} {o : Oper}
theorem RF_e0 (V : Vw) (A : Option Addr) (sz : Nat) : RF V (.slice A 0 0) (.sl sz []) :=
  RF.sl (b := 0) (off := 0) (fun _ _ => undef) rfl (Nat.le_refl _) (by omega) (fun h => absurd h (by omega)) (fun j y hy => by simp at hy) (fun j y i f hy => by simp at hy) (fun j y i f hy => by simp at hy)
theorem RC_ok {x : Value} {c : AC} {D : Nat → Prop} (hD : ∀ k v, O k = some v → D k) (h : RC V O x c) : okC D c := by
  cases c with
  | ptr k off => obtain ⟨b, h1, _⟩ := h; exact hD _ _ h1
  | pa k sz i off => obtain ⟨b, n, c, h1, _⟩ := h; exact hD _ _ h1
  | ow k => exact hD _ _ h.1
  | vw k hi => obtain ⟨b, n, c, h1, _⟩ := h; exact hD _ _ h1
  | tk k sz xs => exact hD _ _ h.1
  | _ => exact trivial
theorem RCs_ok {l : List Value} {cs : List AC} {D : Nat → Prop} (hD : ∀ k v, O k = some v → D k) (h : RCs V O l cs) : ∀ c, c ∈ cs → okC D c := by
  intro c hc
  obtain ⟨i, hi, rfl⟩ := List.getElem_of_mem hc
  have hl : i < l.length := by rw [h.1]; exact hi
  exact RC_ok hD (h.2 i _ _ (List.getElem?_eq_getElem hl) (List.getElem?_eq_getElem hi)).1
theorem RW_ok {x : Value} {c : AW} {D : Nat → Prop} (hD : ∀ k v, O k = some v → D k) (h : RW V O x c) : okW D c := by
  cases c with
  | o c => exact RC_ok hD h.1
  | g cs => obtain ⟨l, h1, h2⟩ := h; exact RCs_ok hD h2
theorem RWs_ok {l : List Value} {cs : List AW} {D : Nat → Prop} (hD : ∀ k v, O k = some v → D k) (h : RWs V O l cs) : ∀ c, c ∈ cs → okW D c := by
  intro c hc
  obtain ⟨i, hi, rfl⟩ := List.getElem_of_mem hc
  have hl : i < l.length := by rw [h.1]; exact hi
  exact RW_ok hD (h.2 i _ _ (List.getElem?_eq_getElem hl) (List.getElem?_eq_getElem hi))
theorem RV_ok {x : Value} {c : AV} {D : Nat → Prop} (hD : ∀ k v, O k = some v → D k) (h : RV V O x c) : okV D c := by
  cases c with
  | w c => exact RW_ok hD h
  | fn f first cap => obtain ⟨l, m, h1, h2, h3⟩ := h; exact ⟨RWs_ok hD h2, RWs_ok hD h3⟩
  | tup xs => obtain ⟨l, h1, h2⟩ := h; exact RWs_ok hD h2
theorem OR_ok {k : Nat} {ob : Ob} {D : Nat → Prop} (hD : ∀ k v, O k = some v → D k) (h : OR V O own w rm k ob) : okOb D ob := by
  cases ob with
  | cells cs => obtain ⟨b, T, l, h1, h2, h3, h4⟩ := h; exact RCs_ok hD h4
  | arr T sz xs =>
    rcases h with ⟨_, ⟨rfl, A, h1⟩ | ⟨b, cap, l, m, h1, h2, h3, h4, h5, h6, h7⟩⟩
    · intro x hx; cases hx
    · intro x hx c hc
      exact RCs_ok hD h7 c (List.mem_flatten.2 ⟨x, hx, hc⟩)
  | _ => exact trivial
abbrev O0 : Nat → Option Value := fun _ => none
theorem bor_keep {x : Value} {c : AC} (h : RC V O x c) (hk : keeps H c = true) {sh : Option Nat} (hcl : clC (bor H sh c) = true) : RC V O0 x (bor H sh c) := by
  cases c with
  | c f => exact h
  | tk k sz xs => exact h.2
  | ep cs => exact h
  | e0 =>
    obtain ⟨A, rfl⟩ := h
    cases sh with
    | none => exact ⟨A, rfl⟩
    | some sz => exact RF_e0 V A sz
  | ptr k off =>
    unfold keeps at hk
    simp only [] at hk
    split at hk
    · rename_i f hH
      simp only [bor, hH] at hcl
      split at hcl <;> simp [clC] at hcl
    · cases hk
  | _ => simp [keeps] at hk
theorem full_le (hw : WR bs V O own dom w H rm) : V.le (full w) := fun b o u e => hw.sub _ _ _ e
theorem fcells_map {cs : List AC} {fs : List FV} (h : fcells cs = some fs) : cs = fs.map AC.c := fcells_eq h
theorem allO_cons {α β : Type} {g : α → Option β} {x : α} {r : List α} {ys : List β} (h : allO g (x :: r) = some ys) : ∃ y zs, g x = some y ∧ allO g r = some zs ∧ ys = y :: zs := by
  simp only [allO, Option.bind_eq_some_iff, Option.map_eq_some_iff] at h
  obtain ⟨y, h1, zs, h2, h3⟩ := h
  exact ⟨y, zs, h1, h2, h3.symm⟩
theorem allO_len {α β : Type} {g : α → Option β} : ∀ {l : List α} {ys : List β}, allO g l = some ys → ys.length = l.length
  | [], ys, h => by cases h; rfl
  | x :: r, ys, h => by
    obtain ⟨y, zs, _, h2, rfl⟩ := allO_cons h
    simp [allO_len h2]
theorem allO_at {α β : Type} {g : α → Option β} : ∀ {l : List α} {ys : List β}, allO g l = some ys → ∀ (i : Nat) x y, l[i]? = some x → ys[i]? = some y → g x = some y
  | [], ys, h, i, x, y, h1, _ => by simp at h1
  | a :: r, ys, h, i, x, y, h1, h2 => by
    obtain ⟨b, zs, h3, h4, rfl⟩ := allO_cons h
    cases i with
    | zero => simp at h1 h2; rw [← h1, ← h2]; exact h3
    | succ i => exact allO_at h4 i x y (by simpa using h1) (by simpa using h2)
theorem allO_app {α β : Type} {g : α → Option β} : ∀ {l m : List α} {ys zs : List β}, allO g l = some ys → allO g m = some zs → allO g (l ++ m) = some (ys ++ zs)
  | [], m, ys, zs, h, h' => by cases h; exact h'
  | a :: r, m, ys, zs, h, h' => by
    obtain ⟨b, us, h3, h4, rfl⟩ := allO_cons h
    simp only [List.cons_append, allO, h3, allO_app h4 h', Option.bind_some, Option.map_some]
theorem allO_flat {α β : Type} {g : α → Option β} : ∀ {l : List (List α)} {ys : List (List β)}, allO (allO g) l = some ys → allO g l.flatten = some ys.flatten
  | [], ys, h => by cases h; rfl
  | a :: r, ys, h => by
    obtain ⟨b, us, h3, h4, rfl⟩ := allO_cons h
    exact allO_app h3 (allO_flat h4)
theorem allO_congr {α β : Type} {g g' : α → Option β} : ∀ {l : List α}, (∀ x, x ∈ l → g x = g' x) → allO g l = allO g' l
  | [], _ => rfl
  | a :: r, h => by simp only [allO, h a (by simp), allO_congr fun x hx => h x (List.mem_cons_of_mem _ hx)]
theorem ow_rf (hw : WR bs V O own dom w H rm) {V1 : Vw} (hle : V.le V1) (hV1 : ∀ b k, own b = some k → (∀ f, H k ≠ some (.rd f)) → ∀ o, V1 b o = w.cell? ⟨b, o, none⟩) {x : Value} {k T sz : Nat} {xs : List (List AC)} {zs : List (List FV)} {g : AC → Option FV}
    (hg : ∀ x c f, RC V O x c → g c = some f → RF V1 x f) (hH : H k = some (.arr T sz xs)) (hz : allO (allO g) xs = some zs) (h : RC V O x (.ow k)) : RF V1 x (.sl sz zs) := by
  obtain ⟨hs, hob⟩ := hw.obs _ _ hH
  have hlen : zs.length = xs.length := allO_len hz
  have hzs : ∀ (j : Nat) y, zs[j]? = some y → y.length = sz := by
    intro j y hy
    have hj : j < xs.length := by rw [← hlen]; exact (List.getElem?_eq_some_iff.1 hy).1
    have := allO_at hz j _ y (List.getElem?_eq_getElem hj) hy
    rw [allO_len this]
    exact hs j _ (List.getElem?_eq_getElem hj)
  rcases hob with ⟨rfl, A, h1⟩ | ⟨b, cap, l, m, h1, h2, h3, h4, h5, h6, h7⟩
  · have hz0 : zs = [] := List.eq_nil_of_length_eq_zero (by simpa using hlen)
    subst hz0
    have h0 : O k = some x := h.1
    rw [h1] at h0
    have := Option.some.inj h0
    subst this
    exact RF_e0 _ A sz
  · have h0 : O k = some x := h.1
    rw [h1] at h0
    have := Option.some.inj h0
    subst this
    have hfl := allO_flat hz
    have h8 : RFs V1 l zs.flatten := by
      refine ⟨by rw [allO_len hfl]; exact h7.1, fun i u y hu hy => ?_⟩
      have hi : i < xs.flatten.length := by rw [← h7.1]; exact (List.getElem?_eq_some_iff.1 hu).1
      exact hg _ _ _ (h7.2 i u _ hu (List.getElem?_eq_getElem hi)).1 (allO_at hfl i _ y (List.getElem?_eq_getElem hi) hy)
    show RF V1 (.slice (some ⟨b, 0, none⟩) xs.length cap) (.sl sz zs)
    rw [← hlen]
    refine RF_of_cells hzs h8 (fun i u hu => ?_) (by omega) h5
    rw [hV1 b k h2 (fun f e => by rw [hH] at e; cases e), cell_of_row w b _ _ _ _ h3, Nat.zero_add]
    have hi : i < l.length := (List.getElem?_eq_some_iff.1 hu).1
    simp only [List.getElem?_toArray]
    rw [List.getElem?_append_left hi]; exact hu
theorem deep_rf (hw : WR bs V O own dom w H rm) {V1 : Vw} (hle : V.le V1) (hV1 : ∀ b k, own b = some k → (∀ f, H k ≠ some (.rd f)) → ∀ o, V1 b o = w.cell? ⟨b, o, none⟩) : ∀ (d sz : Nat) (x : Value) (c : AC) (f : FV), RC V O x c → deep H d sz c = some f → RF V1 x f
  | 0, sz, x, c, f, h, hd => by cases hd
  | d + 1, sz, x, c, f, h, hd => by
    cases c with
    | c g => cases hd; exact RF.mono hle h
    | tk k s xs => cases hd; exact RF.mono hle h.2
    | e0 =>
      cases hd
      obtain ⟨A, rfl⟩ := h
      exact RF_e0 _ A _
    | ow k =>
      simp only [deep] at hd
      split at hd
      · rename_i T s xs hH
        simp only [Option.map_eq_some_iff] at hd
        obtain ⟨ys, h1, rfl⟩ := hd
        exact ow_rf hw hle hV1 (fun x c f => deep_rf hw hle hV1 d s x c f) hH h1 h
      · cases hd
    | _ => cases hd
theorem bor_gen (hw : WR bs V O own dom w H rm) {V1 : Vw} (hle : V.le V1) (hV1 : ∀ b k, own b = some k → (∀ f, H k ≠ some (.rd f)) → ∀ o, V1 b o = w.cell? ⟨b, o, none⟩) {x : Value} {c : AC} (h : RC V O x c) {sh : Option Nat} (hcl : clC (bor H sh c) = true) : RC V1 O0 x (bor H sh c) := by
  cases c with
  | c f => exact RF.mono hle h
  | tk k sz xs => exact RF.mono hle h.2
  | ep cs =>
    obtain ⟨b, off, h1, h2⟩ := h
    exact ⟨b, off, h1, fun i y hy => by obtain ⟨u, h3, h4⟩ := h2 i y hy; exact ⟨u, hle _ _ _ h3, h4.mono hle⟩⟩
  | e0 =>
    obtain ⟨A, rfl⟩ := h
    cases sh with
    | none => exact ⟨A, rfl⟩
    | some sz => exact RF_e0 _ A sz
  | junk => exact trivial
  | rp f => simp [bor, clC] at hcl
  | pa k sz i off => simp [bor, clC] at hcl
  | vw k hi =>
    simp only [bor] at hcl
    split at hcl
    · rename_i T sz xs hH
      split at hcl
      · rename_i zs hz
        rw [show bor H sh (.vw k hi) = .c (.sl sz (zs.take hi)) by simp [bor, hH, hz]]
        obtain ⟨b0, n0, c0, e1, rfl, e3⟩ := h
        obtain ⟨hs, hob⟩ := hw.obs _ _ hH
        have hxz := fcellss_eq hz
        have hzs : ∀ (j : Nat) y, zs[j]? = some y → y.length = sz := by
          intro j y hy
          have := hs j (y.map AC.c) (by rw [hxz, List.getElem?_map, hy]; rfl)
          simpa using this
        have hlen : zs.length = xs.length := by rw [hxz]; simp
        rcases hob with ⟨rfl, A, h1⟩ | ⟨b, cap, l, m, h1, h2, h3, h4, h5, h6, h7⟩
        · rw [h1] at e1
          simp only [Option.some.injEq, Value.slice.injEq] at e1
          obtain ⟨rfl, rfl, rfl⟩ := e1
          have hz0 : zs = [] := List.eq_nil_of_length_eq_zero (by simpa using hlen)
          subst hz0
          obtain rfl : hi = 0 := by omega
          exact RF_e0 _ _ sz
        · rw [h1] at e1
          simp only [Option.some.injEq, Value.slice.injEq, Addr.mk.injEq, and_true] at e1
          obtain ⟨rfl, rfl, rfl⟩ := e1
          have h8 : RCs V O l (zs.flatten.map AC.c) := by rw [← flat_map_map, ← hxz]; exact h7
          have h9 : RF V1 (.slice (some ⟨b, 0, none⟩) zs.length cap) (.sl sz zs) := by
            refine RF_of_cells hzs (h8.toRFs.mono hle) (fun i u hu => ?_) (by omega) h5
            rw [hV1 b k h2 (fun f e => by rw [hH] at e; cases e), cell_of_row w b _ _ _ _ h3, Nat.zero_add]
            have hi : i < l.length := (List.getElem?_eq_some_iff.1 hu).1
            simp only [List.getElem?_toArray]
            rw [List.getElem?_append_left hi]; exact hu
          by_cases hc0 : cap = 0
          · obtain rfl : hi = 0 := by omega
            have hz0 : zs = [] := List.eq_nil_of_length_eq_zero (by omega)
            subst hz0
            subst hc0
            exact RF_e0 _ _ sz
          · have h10 := RF_cut h9 (l := 0) (hh := hi) (m := cap) (Nat.zero_le _) (by omega) (Nat.le_refl _) (by omega)
            unfold sliced at h10
            rw [if_neg (by omega)] at h10
            simp [add_lit] at h10
            exact h10
      · simp [clC] at hcl
    · simp [clC] at hcl
  | ow k =>
    simp only [bor] at hcl
    split at hcl
    · rename_i T sz xs hH
      split at hcl
      · rename_i zs hz
        rw [show bor H sh (.ow k) = .c (.sl sz zs) by simp [bor, hH, hz]]
        obtain ⟨hs, hob⟩ := hw.obs _ _ hH
        have hxz := fcellss_eq hz
        have hzs : ∀ (j : Nat) y, zs[j]? = some y → y.length = sz := by
          intro j y hy
          have := hs j (y.map AC.c) (by rw [hxz, List.getElem?_map, hy]; rfl)
          simpa using this
        have hlen : zs.length = xs.length := by rw [hxz]; simp
        rcases hob with ⟨rfl, A, h1⟩ | ⟨b, cap, l, m, h1, h2, h3, h4, h5, h6, h7⟩
        · have hz0 : zs = [] := List.eq_nil_of_length_eq_zero (by simpa using hlen)
          subst hz0
          have h0 : O k = some x := h.1
          rw [h1] at h0
          have := Option.some.inj h0
          subst this
          exact RF_e0 _ A sz
        · have h0 : O k = some x := h.1
          rw [h1] at h0
          have := Option.some.inj h0
          subst this
          have h8 : RCs V O l (zs.flatten.map AC.c) := by rw [← flat_map_map, ← hxz]; exact h7
          show RF V1 (.slice (some ⟨b, 0, none⟩) xs.length cap) (.sl sz zs)
          rw [← hlen]
          refine RF_of_cells hzs (h8.toRFs.mono hle) (fun i u hu => ?_) (by omega) h5
          rw [hV1 b k h2 (fun f e => by rw [hH] at e; cases e), cell_of_row w b _ _ _ _ h3, Nat.zero_add]
          have hi : i < l.length := (List.getElem?_eq_some_iff.1 hu).1
          simp only [List.getElem?_toArray]
          rw [List.getElem?_append_left hi]; exact hu
      · rename_i hz0
        split at hcl
        · rename_i zs hz
          rw [show bor H sh (.ow k) = .c (.sl sz zs) by simp [bor, hH, hz0, hz]]
          exact ow_rf hw hle hV1 (fun x c f => deep_rf hw hle hV1 3 sz x c f) hH hz h
        · simp [clC] at hcl
    · simp [clC] at hcl
  | ptr k off =>
    simp only [bor] at hcl
    split at hcl
    · rename_i cs hH
      split at hcl
      · rename_i fs hfs
        rw [show bor H sh (.ptr k off) = .ep (fs.drop off) by simp [bor, hH, hfs]]
        obtain ⟨b', hO', rfl⟩ := h
        obtain ⟨b, T, l, h1, h2, h3, h4⟩ := hw.obs _ _ hH
        rw [hO'] at h1
        simp only [Option.some.injEq, Value.pointer.injEq, Addr.mk.injEq, and_true] at h1
        subst h1
        rw [fcells_map hfs] at h4
        have h5 := h4.toRFs
        refine ⟨b', off, rfl, fun i y hy => ?_⟩
        rw [List.getElem?_drop] at hy
        have hi : off + i < fs.length := (List.getElem?_eq_some_iff.1 hy).1
        have hu : l[off + i]? = some (l[off + i]'(by rw [h5.1]; exact hi)) := List.getElem?_eq_getElem _
        refine ⟨_, ?_, (h5.2 _ _ _ hu hy).mono hle⟩
        rw [hV1 b' k h2 (fun f e => by rw [hH] at e; cases e), cell_of_row w b' _ _ _ _ h3]
        simp only [List.getElem?_toArray]; exact hu
      · simp [clC] at hcl
    · split at hcl <;> simp [clC] at hcl
    · simp [clC] at hcl
theorem bor_full (hw : WR bs V O own dom w H rm) {x : Value} {c : AC} (h : RC V O x c) {sh : Option Nat} (hcl : clC (bor H sh c) = true) : RC (full w) O0 x (bor H sh c) :=
  bor_gen hw (full_le hw) (fun _ _ _ _ _ => rfl) h hcl
/-- A whole argument, seen by a callee: 'g': a law on cells. -/
theorem bor_liftp {p : Prop} {V1 : Vw} {O1 : Nat → Option Value} (g : ∀ (x : Value) (c : AC) (sh : Option Nat), RC V O x c → clC (bor H sh c) = true → (keeps H c = true ∨ p) → RC V1 O1 x (bor H sh c)) {x : Value} {v : AV} {sh : List (Option Nat)}
    (h : RV V O x v) (hk : keepsV H v = true ∨ p) (hcl : clV (borV H sh v) = true) : RV V1 O1 x (borV H sh v) := by
  have hone : ∀ (c : AC) (s : Option Nat), c ≠ .junk → bor H s c ≠ .junk := by
    intro c s hc
    cases c <;> simp only [bor] <;> (try (split <;> (try split) <;> (try split) <;> simp)) <;> simp_all
  have hjunk : ∀ s, bor H s .junk = .junk := fun s => rfl
  have hC : ∀ (l : List Value) (cs : List AC) (sh : List (Option Nat)), RCs V O l cs → (cs.all (keeps H) = true ∨ p) → (borC H sh cs).all clC = true → RCs V1 O1 l (borC H sh cs) := by
    intro l
    induction l with
    | nil =>
      intro cs sh hr _ _
      have : cs = [] := List.eq_nil_of_length_eq_zero (by rw [← hr.1]; rfl)
      subst this
      cases sh <;> exact ⟨rfl, fun i x c h1 => by simp at h1⟩
    | cons x l ih =>
      intro cs sh hr hkk hcl
      cases cs with
      | nil => exact absurd hr.1 (by simp)
      | cons c cs =>
        have h0 := hr.2 0 x c rfl rfl
        have ht : RCs V O l cs := ⟨by have := hr.1; simpa using this, fun i y d h1 h2 => hr.2 (i + 1) y d (by simpa using h1) (by simpa using h2)⟩
        have hk0 : keeps H c = true ∨ p := hkk.imp (fun e => by simp at e; exact e.1) id
        have hk1 : cs.all (keeps H) = true ∨ p := hkk.imp (fun e => by simp at e; simpa using e.2) id
        have main : ∀ (s : Option Nat) (ss : List (Option Nat)), (bor H s c :: borC H ss cs).all clC = true → RCs V1 O1 (x :: l) (bor H s c :: borC H ss cs) := by
          intro s ss hcl
          simp only [List.all_cons, Bool.and_eq_true] at hcl
          have i1 := ih cs ss ht hk1 hcl.2
          refine ⟨by simp [i1.1], fun i y d h1 h2 => ?_⟩
          cases i with
          | zero => simp at h1 h2; subst h1; subst h2; exact ⟨g _ _ _ h0.1 hcl.1 hk0, h0.2⟩
          | succ i => exact i1.2 i y d (by simpa using h1) (by simpa using h2)
        cases sh with
        | nil => exact main none [] hcl
        | cons s ss => exact main s ss hcl
  have hW : ∀ (x : Value) (c : AW) (sh : List (Option Nat)), RW V O x c → (keepsW H c = true ∨ p) → clW (borW H sh c) = true → RW V1 O1 x (borW H sh c) := by
    intro x c sh hr hkk hcl
    cases c with
    | o c =>
      refine ⟨g _ _ _ hr.1 hcl hkk, fun hj => hr.2 (fun e => hj (by rw [e]; rfl))⟩
    | g cs =>
      obtain ⟨l, rfl, h2⟩ := hr
      exact ⟨l, rfl, hC l cs sh h2 hkk hcl⟩
  have hWs : ∀ (l : List Value) (cs : List AW), RWs V O l cs → (cs.all (keepsW H) = true ∨ p) → (cs.map (borW H [])).all clW = true → RWs V1 O1 l (cs.map (borW H [])) := by
    intro l cs hr hkk hcl
    refine ⟨by simp [hr.1], fun i x c h1 h2 => ?_⟩
    rw [List.getElem?_map] at h2
    obtain ⟨d, h3, rfl⟩ := Option.map_eq_some_iff.1 h2
    have hm := List.mem_of_getElem? h3
    refine hW x d [] (hr.2 i x d h1 h3) (hkk.imp (fun e => List.all_eq_true.1 e d hm) id) ?_
    exact List.all_eq_true.1 hcl _ (List.mem_map_of_mem hm)
  cases v with
  | w c => exact hW x c sh h hk hcl
  | fn f first cap =>
    obtain ⟨l, m, h1, h2, h3⟩ := h
    simp only [borV, clV, Bool.and_eq_true] at hcl
    refine ⟨l, m, h1, hWs l first h2 (hk.imp (fun e => by simp only [keepsV, Bool.and_eq_true] at e; exact e.1) id) hcl.1, hWs m cap h3 (hk.imp (fun e => by simp only [keepsV, Bool.and_eq_true] at e; exact e.2) id) hcl.2⟩
  | tup xs => simp [borV, clV] at hcl
theorem bor_lift {V1 : Vw} {O1 : Nat → Option Value} (g : ∀ (x : Value) (c : AC) (sh : Option Nat), RC V O x c → clC (bor H sh c) = true → (keeps H c = true ∨ V1 = full w) → RC V1 O1 x (bor H sh c)) {x : Value} {v : AV} {sh : List (Option Nat)}
    (h : RV V O x v) (hk : keepsV H v = true ∨ V1 = full w) (hcl : clV (borV H sh v) = true) : RV V1 O1 x (borV H sh v) := bor_liftp g h hk hcl
theorem call_exec {c : Call} {f : Nat} (hop : o.op = .call c) (hc : c.callee = .value (.func f)) (hcl : callable P f) : (execOp a.eval o).run P w = .ok (.enter f (c.args.map a.eval)) w := by
  obtain ⟨fn, h1, h2, h3⟩ := hcl
  have hb : fn.body ≠ none := by cases hh : fn.body <;> simp_all
  simp [execOp, hop, resolve, hc, Act.eval, Deferred.ofValue, invoke, callFunc, h1, hb, h3]
theorem callv_exec {c : Call} {t f : Nat} {l m : List Value} (hop : o.op = .call c) (hc : c.callee = .value (.tmp t)) (hv : a.eval (.tmp t) = .func (.func f) l.toArray m.toArray) (hcl : callable P f) :
    (execOp a.eval o).run P w = .ok (.enter f (l ++ c.args.toList.map a.eval ++ m).toArray) w := by
  obtain ⟨fn, h1, h2, h3⟩ := hcl
  have hb : fn.body ≠ none := by cases hh : fn.body <;> simp_all
  simp [execOp, hop, resolve, hc, hv, Deferred.ofValue, invoke, callFunc, h1, hb, h3, Array.append_assoc]
theorem scal_any {x : Value} {r : AV} (h : RV V O x r) (hs : scal r) (V2 : Vw) (O2 : Nat → Option Value) : RV V2 O2 x r := by
  unfold scal at hs
  split at hs
  · have := v_scal h
    subst this
    exact RV_v (h.2 (by simp))
  · rename_i cs
    obtain ⟨l, rfl, h2⟩ := h
    refine ⟨l, rfl, h2.1, fun i u c h3 h4 => ?_⟩
    obtain ⟨y, rfl⟩ := hs c (List.mem_of_getElem? h4)
    have h5 := h2.2 i u _ h3 h4
    refine ⟨?_, h5.2⟩
    have : u = y := v_scal (V := V) (O := O) ⟨h5.1, fun _ => h5.2⟩
    subst this
    exact RF.v h5.2
  · cases hs
/-- What a call of a function that writes nothing comes to. -/
def Calls' (P : Program) (bs : Base) (o : Oper) (a : Act) (w : World) (V : Vw) (O : Nat → Option Value) (own : Nat → Option Nat) (dom : Nat → Prop) (H : Hp) (rm : Nat) (R : AV → Prop) : Prop :=
  Does P o a w fun v w' => ∃ r V', R r ∧ RV V' O v r ∧ V.le V' ∧ WR bs V' O own dom w' H rm
theorem xeqs_borArgs (hf : FRn n V O a fr) {V1 : Vw} {O1 : Nat → Option Value} (g : ∀ (x : Value) (c : AC) (sh : Option Nat), RC V O x c → clC (bor H sh c) = true → (keeps H c = true ∨ V1 = full w) → RC V1 O1 x (bor H sh c)) :
    ∀ {l : List Operand} {xs : List (X × List (Option Nat))}, xeqs l (xs.map (·.1)) = true → ((xs.all fun p => keepsV H (ev fr p.1)) = true ∨ V1 = full w) → (borArgs fr H xs).all clV = true → RVs V1 O1 (l.map a.eval) (borArgs fr H xs)
  | [], [], _, _, _ => ⟨rfl, fun i x c h1 => by simp at h1⟩
  | p :: l, x :: xs, h, hk, hcl => by
    simp only [List.map_cons, xeqs, Bool.and_eq_true] at h
    simp only [borArgs, List.map_cons, List.all_cons, Bool.and_eq_true] at hcl
    have ih := xeqs_borArgs hf g h.2 (hk.imp (fun e => by simp only [List.all_cons, Bool.and_eq_true] at e; exact e.2) id) (by simpa only [borArgs] using hcl.2)
    have e0 := bor_lift (w := w) g (xeq_eval hf h.1) (hk.imp (fun e => by simp only [List.all_cons, Bool.and_eq_true] at e; exact e.1) id) hcl.1
    refine ⟨by have := ih.1; simp [borArgs] at this ⊢; exact this, fun i u c h3 h4 => ?_⟩
    cases i with
    | zero => simp [borArgs] at h3 h4; subst h3; subst h4; exact e0
    | succ i => exact ih.2 i u c (by simpa using h3) (by simpa [borArgs] using h4)
  | [], _ :: _, h, _, _ => by simp [xeqs] at h
  | _ :: _, [], h, _, _ => by simp [xeqs] at h
/-- What is known behind a call. -/
theorem WR.after (hw : WR bs V O own dom w H rm) {w' : World} {V' : Vw} {ownc : Nat → Option Nat} {k0 : Option Nat} {rm' : Nat} (hk : ∀ b, ownc b ≠ none → ∃ k, k0 = some k ∧ own b = some k) (hV : V.le V') (hsub : V'.sub w') (hnew : ∀ b o u, V' b o = some u → V b o = some u ∨ w.heap.size ≤ b)
    (hkept : Kept w w' ownc) (hr : rm ≤ rm') (hob : ∀ k ob, k0 = some k → H k = some ob → OR V' O own w' rm' k ob) : WR bs V' O own dom w' H rm' := by
  have hlt : ∀ b k, own b = some k → b < w.heap.size := fun b k h => (hw.ownb b k h).1
  refine ⟨hsub, fun b o u e => ?_, fun k ob e => ?_, hw.domO, hw.domH, fun b k e => ?_, hw.uniq, fun b o u e => ?_, Vw.le_trans hw.v0 hV, hkept.os.trans hw.os, hkept.tape.trans hw.tape, hkept.output.trans hw.output, Nat.le_trans hw.size hkept.size, fun b hb hn => ?_, hw.o0⟩
  · rcases hnew b o u e with h | h
    · exact hw.vo b o u h
    · left
      cases hh : own b with
      | none => rfl
      | some k => have := hlt b k hh; omega
  · by_cases hkk : k0 = some k
    · exact hob k ob hkk e
    · refine (hw.obs k ob e).mono hV (fun _ _ h => h) (fun b hb => ⟨hb, ?_⟩) hr
      refine hkept.block b (hlt b k hb) ?_
      cases hh : ownc b with
      | none => rfl
      | some j =>
        obtain ⟨k', h1, h2⟩ := hk b (by rw [hh]; simp)
        rw [hb] at h2; exact absurd (by rw [h1, h2]) hkk
  · obtain ⟨h1, h2, h3⟩ := hw.ownb b k e
    exact ⟨Nat.lt_of_lt_of_le h1 hkept.size, h2, h3⟩
  · rcases hnew b o u e with h | h
    · exact hw.vb b o u h
    · exact .inr (.inl (Nat.le_trans hw.size h))
  · rw [hkept.block b (Nat.lt_of_lt_of_le hb hw.size)]
    · exact hw.block b hb hn
    · cases hh : ownc b with
      | none => rfl
      | some j =>
        obtain ⟨k', h1, h2⟩ := hk b (by rw [hh]; simp)
        rcases (hw.ownb _ _ h2).2.1 with h | h
        · exact absurd hn h
        · omega
theorem s_call (hw : WR bs V O own dom w H rm) (hf : FRn n V O a fr) {f : Nat} {S : FSpec} {xs : List (X × List (Option Nat))} (hc : chk P o (.call f S xs) = true) (hpre : S.pre (borArgs fr H xs)) (hv : Valid P f S)
    (hk : (xs.all fun p => keepsV H (ev fr p.1)) = true ∨ (S.sc = true ∧ rdOf (borArgs fr H xs) = none)) (hlim : rm + S.cost ≤ LIM) : Calls' P bs o a w V O own dom H (rm + S.cost) (fun r => S.post (borArgs fr H xs) r ∧ okV noN r) := by
  simp only [chk] at hc
  split at hc
  · rename_i c hop
    simp only [Bool.and_eq_true] at hc
    obtain ⟨h1, h2⟩ := hc
    have hcal : c.callee = .value (.func f) := by
      split at h1
      · rename_i g hg; rw [hg]; simp only [beq_iff_eq] at h1; rw [h1]
      · cases h1
    have hexec := call_exec (P := P) (w := w) (a := a) hop hcal hv.1
    have hargs : (c.args.map a.eval) = (c.args.toList.map a.eval).toArray := by apply Array.ext'; simp
    rw [hargs] at hexec
    have hcl := S.hcl _ hpre
    -- without a reader
    have plain : rdOf (borArgs fr H xs) = none → (borArgs fr H xs).all clV = true → Calls' P bs o a w V O own dom H (rm + S.cost) (fun r => S.post (borArgs fr H xs) r ∧ okV noN r) := by
      intro hrd hall
      rcases hk with hkeep | ⟨hsc, _⟩
      · have hR := xeqs_borArgs (w := w) (V1 := V) (O1 := O0) hf (fun x c sh h hcl' hk' => by
          rcases hk' with hk' | hk'
          · exact bor_keep h hk' hcl'
          · rw [hk']; exact bor_full hw h hcl') h2 (.inl hkeep) hall
        refine does_call hexec ((hv.2 _ rm hpre hlim V O0 (fun _ => none) w _ hw.sub (fun k v h => by cases h) (fun b k h => by cases h) (fun b b' k h => by cases h) (fun b k o h => by cases h) hR (fun f' h => by rw [hrd] at h; cases h) (fun _ b => rfl)).mono ?_)
        rintro e w' ⟨v, r, V', rfl, h3, h4, h5, h6, h7, h8, -⟩
        exact ⟨v, rfl, r, V', ⟨h3, RV_ok (fun k v h => by cases h) h4⟩, h4.mono (Vw.le_refl _) (fun k v h => by cases h), h5, hw.after (k0 := none) (fun b h => absurd rfl h) h5 h6 h7 h8 (Nat.le_add_right _ _) (fun k ob h => by cases h)⟩
      · have hR := xeqs_borArgs (w := w) (V1 := full w) (O1 := O0) hf (fun x c sh h hcl' _ => bor_full hw h hcl') h2 (.inr rfl) hall
        refine does_call hexec ((hv.2 _ rm hpre hlim (full w) O0 (fun _ => none) w _ (full_sub w) (fun k v h => by cases h) (fun b k h => by cases h) (fun b b' k h => by cases h) (fun b k o h => by cases h) hR (fun f' h => by rw [hrd] at h; cases h) (fun _ b => rfl)).mono ?_)
        rintro e w' ⟨v, r, V', rfl, h3, h4, h5, h6, h7, h8, -⟩
        refine ⟨v, rfl, r, V, ⟨h3, RV_ok (fun k v h => by cases h) h4⟩, scal_any h4 (S.hsc hsc _ _ h3) _ _, Vw.le_refl _, hw.after (k0 := none) (fun b h => absurd rfl h) (Vw.le_refl _) (fun b o u e => h6 _ _ _ (h5 _ _ _ (full_le hw _ _ _ e))) (fun b o u e => .inl e) h8 (Nat.le_add_right _ _) (fun k ob h => by cases h)⟩
    cases xs with
    | nil => exact plain rfl rfl
    | cons x xs =>
      by_cases hrp : ∃ f', borV H x.2 (ev fr x.1) = .w (.o (.rp f'))
      · obtain ⟨f', hf'⟩ := hrp
        have hrd : rdOf (borArgs fr H (x :: xs)) = some f' := by simp [borArgs, hf', rdOf]
        have hkeep : ((x :: xs).all fun p => keepsV H (ev fr p.1)) = true := by
          rcases hk with h | ⟨_, h⟩
          · exact h
          · rw [hrd] at h; cases h
        have hall : (borArgs fr H xs).all clV = true := by
          simp only [borArgs, List.map_cons, hf', clArgs] at hcl; simpa only [borArgs] using hcl
        simp only [List.all_cons, Bool.and_eq_true] at hkeep
        -- the reader's object
        obtain ⟨k, hek, hHk⟩ : ∃ k, ev fr x.1 = .w (.o (.ptr k 0)) ∧ H k = some (.rd f') := by
          have hkp := hkeep.1
          revert hf' hkp
          generalize ev fr x.1 = v
          intro hf' hkp
          cases v with
          | tup _ => simp [borV] at hf'
          | fn _ _ _ => simp [borV] at hf'
          | w c =>
            cases c with
            | g cs => simp [borV, borW] at hf'
            | o c =>
              simp only [borV, borW, AV.w.injEq, AW.o.injEq] at hf'
              cases c <;> simp only [bor] at hf' <;> try (cases hf'; done)
              case ptr k off =>
                split at hf'
                · split at hf' <;> cases hf'
                · rename_i f2 hH
                  split at hf'
                  · rename_i h0; subst h0; cases hf'; exact ⟨k, rfl, hH⟩
                  · cases hf'
                · cases hf'
              case rp f2 => simp [keepsV, keepsW, keeps] at hkp
              case ow k => split at hf' <;> (try split at hf') <;> (try split at hf') <;> cases hf'
              case vw k hi => split at hf' <;> (try split at hf') <;> cases hf'
              case e0 => split at hf' <;> cases hf'
        cases hl : c.args.toList with
        | nil => rw [hl] at h2; simp [xeqs] at h2
        | cons p l =>
          rw [hl] at h2 hexec
          simp only [List.map_cons, xeqs, Bool.and_eq_true] at h2
          have ep := xeq_eval hf h2.1
          rw [hek] at ep
          obtain ⟨b, hOb, hpv⟩ := ep.1
          let O1 : Nat → Option Value := fun j => if j = 0 then O k else none
          let own1 : Nat → Option Nat := fun b => if own b = some k then some 0 else none
          have hown1 : ∀ b j, own1 b = some j → own b = some k ∧ j = 0 := by
            intro b j h
            replace h : (if own b = some k then some 0 else none) = some j := h
            split at h
            · rename_i hh; exact ⟨hh, by cases h; rfl⟩
            · cases h
          have htail := xeqs_borArgs (w := w) (V1 := V) (O1 := O1) hf (fun x c sh h hcl' hk' => by
            rcases hk' with hk' | hk'
            · exact (bor_keep h hk' hcl').mono (Vw.le_refl _) (fun k v h => by cases h)
            · rw [hk']; exact (bor_full hw h hcl').mono (Vw.le_refl _) (fun k v h => by cases h)) h2.2 (.inl hkeep.2) hall
          have hR : RVs V O1 ((p :: l).map a.eval) (borArgs fr H (x :: xs)) := by
            refine ⟨by have := htail.1; simp [borArgs] at this ⊢; exact this, fun i u d h3 h4 => ?_⟩
            cases i with
            | zero =>
              simp only [List.map_cons, List.getElem?_cons_zero, Option.some.injEq] at h3
              simp only [borArgs, List.map_cons, List.getElem?_cons_zero, Option.some.injEq] at h4
              subst h3; rw [hf'] at h4; subst h4
              exact ⟨⟨b, hpv⟩, fun _ => by rw [hpv]; rfl⟩
            | succ i => exact htail.2 i u d (by simpa using h3) (by simpa [borArgs] using h4)
          have hconv : ∀ (w2 : World) (V2 : Vw) (m : Nat), OR V2 O own w2 m k (.rd f') ↔ OR V2 O1 own1 w2 m 0 (.rd f') := by
            intro w2 V2 m
            constructor
            · rintro ⟨b, T, x, q, g1, g2, g3⟩
              exact ⟨b, T, x, q, by show (if (0 : Nat) = 0 then O k else none) = _; rw [if_pos rfl]; exact g1, by show (if own b = some k then some 0 else none) = _; rw [if_pos g2], g3⟩
            · rintro ⟨b, T, x, q, g1, g2, g3⟩
              refine ⟨b, T, x, q, ?_, (hown1 b 0 g2).1, g3⟩
              replace g1 : (if (0 : Nat) = 0 then O k else none) = _ := g1
              rwa [if_pos rfl] at g1
          refine does_call hexec ((hv.2 _ rm hpre hlim V O1 own1 w _ hw.sub (fun j v h => by
              replace h : (if j = 0 then O k else none) = some v := h
              split at h
              · assumption
              · cases h) (fun b j h => ⟨(hown1 b j h).2, (hw.ownb _ _ (hown1 b j h).1).1⟩) (fun b b' j h h' => hw.uniq _ _ _ (hown1 b j h).1 (hown1 b' j h').1) (fun b j o h => ?_) hR (fun f2 h => ?_) (fun h => by rw [hrd] at h; cases h)).mono ?_)
          · cases hVb : V b o with
            | none => rfl
            | some u => exact (hw.noV hHk trivial (hown1 b j h).1 o u hVb).elim
          · rw [hrd] at h; cases h
            refine ⟨?_, (hconv w V rm).1 (hw.obs _ _ hHk)⟩
            show some (a.eval p) = (if (0 : Nat) = 0 then O k else none)
            rw [if_pos rfl, hOb, hpv]
          · rintro e w' ⟨v, r, V', rfl, h3, h4, h5, h6, h7, h8, h9⟩
            refine ⟨v, rfl, r, V', ⟨h3, RV_ok (fun k v h => by cases h) h4⟩, h4.mono (Vw.le_refl _) (fun k v h => by cases h), h5, hw.after (k0 := some k) (fun b h => ?_) h5 h6 h7 h8 (Nat.le_add_right _ _) (fun j ob h hj => ?_)⟩
            · cases hh : own1 b with
              | none => exact absurd hh h
              | some j => exact ⟨k, rfl, (hown1 b j hh).1⟩
            · cases h
              rw [hHk] at hj; cases hj
              exact (hconv w' V' _).2 (h9 f' hrd)
      · have hrd : rdOf (borArgs fr H (x :: xs)) = none := by
          simp only [borArgs, List.map_cons]
          unfold rdOf
          split
          · rename_i f' r hh; simp only [List.cons.injEq] at hh; exact absurd ⟨f', hh.1⟩ hrp
          · rfl
        refine plain hrd ?_
        unfold clArgs at hcl
        split at hcl
        · rename_i f' r hh; simp only [borArgs, List.map_cons, List.cons.injEq] at hh; exact absurd ⟨f', hh.1⟩ hrp
        · exact hcl
  · cases hc
end
end Av
end Go.Proofs.Ytdboofnogabefaa
/- Layer Av, part 15: calls through a function value; calls that are handed objects. -/
namespace Go.Proofs.Ytdboofnogabefaa
namespace Av
open Go.RowKit
section
variable {P : Program} {bs : Base} {V : Vw} {O : Nat → Option Value} {own : Nat → Option Nat} {dom : Nat → Prop} {w : World} {H : Hp} {rm n nm : Nat} {a : Act} {fr : Env} {o : Oper}
theorem clArgs_all {l : List AV} (h : clArgs l = true) (hr : rdOf l = none) : l.all clV = true := by
  unfold clArgs at h
  split at h
  · simp [rdOf] at hr
  · exact h
theorem s_callv (hw : WR bs V O own dom w H rm) (hf : FRn n V O a fr) {x : X} {S : FSpec} {xs : List (X × List (Option Nat))} (hc : chk P o (.callv x S xs) = true) {f : Nat} {first cap : List AW} (hx : ev fr x = .fn (.func f) first cap) {args : List AV}
    (hargs : args = (first.map fun a => AV.w (borW H [] a)) ++ borArgs fr H xs ++ (cap.map fun a => AV.w (borW H [] a))) (hpre : S.pre args) (hsc : S.sc = true) (hrd : rdOf args = none) (hv : Valid P f S) (hlim : rm + S.cost ≤ LIM) :
    Calls' P bs o a w V O own dom H (rm + S.cost) (fun r => S.post args r ∧ okV noN r) := by
  simp only [chk] at hc
  split at hc
  · rename_i c hop
    simp only [Bool.and_eq_true] at hc
    obtain ⟨h1, h2⟩ := hc
    split at h1
    · rename_i t hcal
      have ex := xeq_eval hf h1
      rw [hx] at ex
      obtain ⟨l, m, hval, hl, hm⟩ := ex
      have hexec := callv_exec (P := P) (w := w) (a := a) hop hcal hval hv.1
      have hall := clArgs_all (S.hcl _ hpre) hrd
      have g : ∀ (x : Value) (c : AC) (sh : Option Nat), RC V O x c → clC (bor H sh c) = true → (keeps H c = true ∨ full w = full w) → RC (full w) O0 x (bor H sh c) := fun x c sh h hcl _ => bor_full hw h hcl
      rw [hargs] at hall
      simp only [List.all_append, Bool.and_eq_true] at hall
      have hmid := xeqs_borArgs (w := w) (V1 := full w) (O1 := O0) hf g h2 (.inr rfl) hall.1.2
      have hside : ∀ (l : List Value) (cs : List AW), RWs V O l cs → (cs.map fun a => AV.w (borW H [] a)).all clV = true → RVs (full w) O0 l (cs.map fun a => AV.w (borW H [] a)) := by
        intro l cs hr hcl
        refine ⟨by simp [hr.1], fun i u d h3 h4 => ?_⟩
        rw [List.getElem?_map] at h4
        obtain ⟨e, h5, rfl⟩ := Option.map_eq_some_iff.1 h4
        exact bor_lift (w := w) (V := V) (O := O) (v := .w e) (sh := []) g (hr.2 i u e h3 h5) (.inr rfl) (List.all_eq_true.1 hcl _ (List.mem_map_of_mem (List.mem_of_getElem? h5)))
      have happ : ∀ {l m : List Value} {as bs : List AV}, RVs (full w) O0 l as → RVs (full w) O0 m bs → RVs (full w) O0 (l ++ m) (as ++ bs) := by
        intro l m as bs h k
        refine ⟨by simp [h.1, k.1], fun i x c h1 h2 => ?_⟩
        by_cases hi : i < l.length
        · rw [List.getElem?_append_left hi] at h1
          rw [List.getElem?_append_left (by rw [← h.1]; exact hi)] at h2
          exact h.2 i x c h1 h2
        · rw [List.getElem?_append_right (by omega)] at h1
          rw [List.getElem?_append_right (by rw [← h.1]; omega), ← h.1] at h2
          exact k.2 _ x c h1 h2
      have hR : RVs (full w) O0 (l ++ c.args.toList.map a.eval ++ m) args := by
        rw [hargs]; exact happ (happ (hside l first hl hall.1.1) hmid) (hside m cap hm hall.2)
      refine does_call hexec ((hv.2 _ rm hpre hlim (full w) O0 (fun _ => none) w _ (full_sub w) (fun k v h => by cases h) (fun b k h => by cases h) (fun b b' k h => by cases h) (fun b k o h => by cases h) hR (fun f' h => by rw [hrd] at h; cases h) (fun _ b => rfl)).mono ?_)
      rintro e w' ⟨v, r, V', rfl, h3, h4, h5, h6, h7, h8, -⟩
      exact ⟨v, rfl, r, V, ⟨h3, RV_ok (fun k v h => by cases h) h4⟩, scal_any h4 (S.hsc hsc _ _ h3) _ _, Vw.le_refl _, hw.after (k0 := none) (fun b h => absurd rfl h) (Vw.le_refl _) (fun b o u e => h6 _ _ _ (h5 _ _ _ (full_le hw _ _ _ e))) (fun b o u e => .inl e) h8 (Nat.le_add_right _ _) (fun k ob h => by cases h)⟩
    · cases h1
  · cases hc
/-! ### other names -/
theorem RC.ren {O2 : Nat → Option Value} {ρ : Nat → Nat} (hρ : ∀ j v, O j = some v → O2 (ρ j) = some v) {x : Value} {c : AC} (h : RC V O x c) : RC V O2 x (c.ren ρ) := by
  cases c with
  | ptr k off => obtain ⟨b, h1, h2⟩ := h; exact ⟨b, hρ _ _ h1, h2⟩
  | pa k sz i off => obtain ⟨b, n, c, h1, h2⟩ := h; exact ⟨b, n, c, hρ _ _ h1, h2⟩
  | ow k => exact ⟨hρ _ _ h.1, h.2⟩
  | vw k hi => obtain ⟨b, n, c, h1, h2⟩ := h; exact ⟨b, n, c, hρ _ _ h1, h2⟩
  | tk k sz xs => exact ⟨hρ _ _ h.1, h.2⟩
  | _ => exact h
theorem RC.unren {O2 : Nat → Option Value} {ρ : Nat → Nat} (hρ : ∀ j v, O (ρ j) = some v → O2 j = some v) {x : Value} {c : AC} (h : RC V O x (c.ren ρ)) : RC V O2 x c := by
  cases c with
  | ptr k off => obtain ⟨b, h1, h2⟩ := h; exact ⟨b, hρ _ _ h1, h2⟩
  | pa k sz i off => obtain ⟨b, n, c, h1, h2⟩ := h; exact ⟨b, n, c, hρ _ _ h1, h2⟩
  | ow k => exact ⟨hρ _ _ h.1, h.2⟩
  | vw k hi => obtain ⟨b, n, c, h1, h2⟩ := h; exact ⟨b, n, c, hρ _ _ h1, h2⟩
  | tk k sz xs => exact ⟨hρ _ _ h.1, h.2⟩
  | _ => exact h
theorem ren_junk {ρ : Nat → Nat} {c : AC} : c.ren ρ = .junk ↔ c = .junk := by cases c <;> simp [AC.ren]
theorem RCs.ren {O2 : Nat → Option Value} {ρ : Nat → Nat} (hρ : ∀ j v, O j = some v → O2 (ρ j) = some v) {l : List Value} {cs : List AC} (h : RCs V O l cs) : RCs V O2 l (cs.map (AC.ren ρ)) :=
  ⟨by simp [h.1], fun i x c h1 h2 => by
    rw [List.getElem?_map] at h2
    obtain ⟨d, h3, rfl⟩ := Option.map_eq_some_iff.1 h2
    exact ⟨(h.2 i x d h1 h3).1.ren hρ, (h.2 i x d h1 h3).2⟩⟩
theorem RCs.unren {O2 : Nat → Option Value} {ρ : Nat → Nat} (hρ : ∀ j v, O (ρ j) = some v → O2 j = some v) {l : List Value} {cs : List AC} (h : RCs V O l (cs.map (AC.ren ρ))) : RCs V O2 l cs :=
  ⟨by simpa using h.1, fun i x c h1 h2 => by
    have := h.2 i x (c.ren ρ) h1 (by rw [List.getElem?_map, h2]; rfl)
    exact ⟨this.1.unren hρ, this.2⟩⟩
theorem RW.ren {O2 : Nat → Option Value} {ρ : Nat → Nat} (hρ : ∀ j v, O j = some v → O2 (ρ j) = some v) {x : Value} {c : AW} (h : RW V O x c) : RW V O2 x (c.ren ρ) := by
  cases c with
  | o c => exact ⟨h.1.ren hρ, fun hj => h.2 (fun e => hj (ren_junk.2 e))⟩
  | g cs => obtain ⟨l, h1, h2⟩ := h; exact ⟨l, h1, h2.ren hρ⟩
theorem RW.unren {O2 : Nat → Option Value} {ρ : Nat → Nat} (hρ : ∀ j v, O (ρ j) = some v → O2 j = some v) {x : Value} {c : AW} (h : RW V O x (c.ren ρ)) : RW V O2 x c := by
  cases c with
  | o c => exact ⟨h.1.unren hρ, fun hj => h.2 (fun e => hj (ren_junk.1 e))⟩
  | g cs => obtain ⟨l, h1, h2⟩ := h; exact ⟨l, h1, h2.unren hρ⟩
theorem RWs.ren {O2 : Nat → Option Value} {ρ : Nat → Nat} (hρ : ∀ j v, O j = some v → O2 (ρ j) = some v) {l : List Value} {cs : List AW} (h : RWs V O l cs) : RWs V O2 l (cs.map (AW.ren ρ)) :=
  ⟨by simp [h.1], fun i x c h1 h2 => by
    rw [List.getElem?_map] at h2
    obtain ⟨d, h3, rfl⟩ := Option.map_eq_some_iff.1 h2
    exact (h.2 i x d h1 h3).ren hρ⟩
theorem RWs.unren {O2 : Nat → Option Value} {ρ : Nat → Nat} (hρ : ∀ j v, O (ρ j) = some v → O2 j = some v) {l : List Value} {cs : List AW} (h : RWs V O l (cs.map (AW.ren ρ))) : RWs V O2 l cs :=
  ⟨by simpa using h.1, fun i x c h1 h2 => (h.2 i x (c.ren ρ) h1 (by rw [List.getElem?_map, h2]; rfl)).unren hρ⟩
theorem RV.ren {O2 : Nat → Option Value} {ρ : Nat → Nat} (hρ : ∀ j v, O j = some v → O2 (ρ j) = some v) {x : Value} {c : AV} (h : RV V O x c) : RV V O2 x (c.ren ρ) := by
  cases c with
  | w c => exact RW.ren hρ h
  | fn f first cap => obtain ⟨l, m, h1, h2, h3⟩ := h; exact ⟨l, m, h1, h2.ren hρ, h3.ren hρ⟩
  | tup xs => obtain ⟨l, h1, h2⟩ := h; exact ⟨l, h1, h2.ren hρ⟩
theorem RV.unren {O2 : Nat → Option Value} {ρ : Nat → Nat} (hρ : ∀ j v, O (ρ j) = some v → O2 j = some v) {x : Value} {c : AV} (h : RV V O x (c.ren ρ)) : RV V O2 x c := by
  cases c with
  | w c => exact RW.unren hρ h
  | fn f first cap => obtain ⟨l, m, h1, h2, h3⟩ := h; exact ⟨l, m, h1, h2.unren hρ, h3.unren hρ⟩
  | tup xs => obtain ⟨l, h1, h2⟩ := h; exact ⟨l, h1, h2.unren hρ⟩
theorem flat_ren (ρ : Nat → Nat) (xs : List (List AC)) : (xs.map fun x => x.map (AC.ren ρ)).flatten = xs.flatten.map (AC.ren ρ) := by rw [List.map_flatten]
theorem OR.ren {O2 : Nat → Option Value} {own2 : Nat → Option Nat} {ρ : Nat → Nat} (hρ : ∀ j v, O j = some v → O2 (ρ j) = some v) {k : Nat} (hown : ∀ b, own b = some k → own2 b = some (ρ k)) {ob : Ob} (h : OR V O own w rm k ob) : OR V O2 own2 w rm (ρ k) (ob.ren ρ) := by
  cases ob with
  | cells cs => obtain ⟨b, T, l, h1, h2, h3, h4⟩ := h; exact ⟨b, T, l, hρ _ _ h1, hown _ h2, h3, h4.ren hρ⟩
  | arr T sz xs =>
    obtain ⟨hs, h⟩ := h
    refine ⟨fun j x hx => ?_, ?_⟩
    · rw [List.getElem?_map] at hx
      obtain ⟨y, h1, rfl⟩ := Option.map_eq_some_iff.1 hx
      simpa using hs j y h1
    · rcases h with ⟨rfl, A, h1⟩ | ⟨b, cap, l, m, h1, h2, h3, h4, h5, h6, h7⟩
      · exact .inl ⟨rfl, A, hρ _ _ h1⟩
      · exact .inr ⟨b, cap, l, m, by rw [List.length_map]; exact hρ _ _ h1, hown _ h2, h3, by simpa using h4, h5, h6, by rw [flat_ren]; exact h7.ren hρ⟩
  | tok T sz n =>
    rcases h with ⟨h0, A, h1⟩ | ⟨b, cap, l, m, h1, h2, h3⟩
    · exact .inl ⟨h0, A, hρ _ _ h1⟩
    · exact .inr ⟨b, cap, l, m, hρ _ _ h1, hown _ h2, h3⟩
  | rd f => obtain ⟨b, T, x, p, h1, h2, h3⟩ := h; exact ⟨b, T, x, p, hρ _ _ h1, hown _ h2, h3⟩
theorem OR.unren {O2 : Nat → Option Value} {own2 : Nat → Option Nat} {ρ : Nat → Nat} (hρ : ∀ j v, O (ρ j) = some v → O2 j = some v) {k : Nat} (hown : ∀ b, own b = some (ρ k) → own2 b = some k) {ob : Ob} (h : OR V O own w rm (ρ k) (ob.ren ρ)) : OR V O2 own2 w rm k ob := by
  cases ob with
  | cells cs => obtain ⟨b, T, l, h1, h2, h3, h4⟩ := h; exact ⟨b, T, l, hρ _ _ h1, hown _ h2, h3, h4.unren hρ⟩
  | arr T sz xs =>
    obtain ⟨hs, h⟩ := h
    refine ⟨fun j x hx => ?_, ?_⟩
    · have := hs j (x.map (AC.ren ρ)) (by rw [List.getElem?_map, hx]; rfl)
      simpa using this
    · rcases h with ⟨h0, A, h1⟩ | ⟨b, cap, l, m, h1, h2, h3, h4, h5, h6, h7⟩
      · exact .inl ⟨by simpa using h0, A, hρ _ _ h1⟩
      · exact .inr ⟨b, cap, l, m, by rw [List.length_map] at h1; exact hρ _ _ h1, hown _ h2, h3, by simpa using h4, h5, h6, by rw [flat_ren] at h7; exact h7.unren hρ⟩
  | tok T sz n =>
    rcases h with ⟨h0, A, h1⟩ | ⟨b, cap, l, m, h1, h2, h3⟩
    · exact .inl ⟨h0, A, hρ _ _ h1⟩
    · exact .inr ⟨b, cap, l, m, hρ _ _ h1, hown _ h2, h3⟩
  | rd f => obtain ⟨b, T, x, p, h1, h2, h3⟩ := h; exact ⟨b, T, x, p, hρ _ _ h1, hown _ h2, h3⟩
theorem nrm_RC {x : Value} {c : AC} {sh : Option Nat} (h : RC V O x c) : RC V O x (nrm sh c) := by
  cases c with
  | e0 =>
    obtain ⟨A, rfl⟩ := h
    cases sh with
    | none => exact ⟨A, rfl⟩
    | some sz => exact RF_e0 V A sz
  | _ => exact h
theorem nrm_junk {c : AC} {sh : Option Nat} : nrm sh c = .junk ↔ c = .junk := by cases c <;> cases sh <;> simp [nrm]
theorem nrm_RCs : ∀ {l : List Value} {cs : List AC} {sh : List (Option Nat)}, RCs V O l cs → RCs V O l (nrmC sh cs)
  | [], [], sh, h => by cases sh <;> exact h
  | x :: l, c :: cs, sh, h => by
    have h0 := h.2 0 x c rfl rfl
    have ht : RCs V O l cs := ⟨by have := h.1; simpa using this, fun i y d h1 h2 => h.2 (i + 1) y d (by simpa using h1) (by simpa using h2)⟩
    have main : ∀ (s : Option Nat) (ss : List (Option Nat)), RCs V O (x :: l) (nrm s c :: nrmC ss cs) := by
      intro s ss
      have i1 := nrm_RCs (sh := ss) ht
      refine ⟨by simp [i1.1], fun i y d h1 h2 => ?_⟩
      cases i with
      | zero => simp at h1 h2; subst h1; subst h2; exact ⟨nrm_RC h0.1, h0.2⟩
      | succ i => exact i1.2 i y d (by simpa using h1) (by simpa using h2)
    cases sh with
    | nil => exact main none []
    | cons s ss => exact main s ss
  | [], _ :: _, _, h => absurd h.1 (by simp)
  | _ :: _, [], _, h => absurd h.1 (by simp)
theorem nrm_RV {x : Value} {v : AV} {sh : List (Option Nat)} (h : RV V O x v) : RV V O x (nrmV sh v) := by
  cases v with
  | w c =>
    cases c with
    | o c => exact ⟨nrm_RC h.1, fun hj => h.2 (fun e => hj (nrm_junk.2 e))⟩
    | g cs => obtain ⟨l, h1, h2⟩ := h; exact ⟨l, h1, nrm_RCs h2⟩
  | _ => exact h
theorem xeqs_nrm (hf : FRn n V O a fr) : ∀ {l : List Operand} {xs : List (X × List (Option Nat))}, xeqs l (xs.map (·.1)) = true → RVs V O (l.map a.eval) (nrmArgs fr xs)
  | [], [], _ => ⟨rfl, fun i x c h1 => by simp at h1⟩
  | p :: l, x :: xs, h => by
    simp only [List.map_cons, xeqs, Bool.and_eq_true] at h
    have ih := xeqs_nrm hf h.2
    have e0 : RV V O (a.eval p) (nrmV x.2 (ev fr x.1)) := nrm_RV (xeq_eval hf h.1)
    refine ⟨by have := ih.1; simp [nrmArgs] at this ⊢; exact this, fun i u c h3 h4 => ?_⟩
    cases i with
    | zero => simp [nrmArgs] at h3 h4; subst h3; subst h4; exact e0
    | succ i => exact ih.2 i u c (by simpa using h3) (by simpa [nrmArgs] using h4)
  | [], _ :: _, h => by simp [xeqs] at h
  | _ :: _, [], h => by simp [xeqs] at h
theorem hput_at (ρ : Nat → Nat) : ∀ (l : List (Option Ob)) (i : Nat) (H : Hp), (∀ j j', i ≤ j → j < i + l.length → i ≤ j' → j' < i + l.length → ρ j = ρ j' → j = j') →
    (∀ (j : Nat) ob, l[j]? = some ob → hput ρ i l H (ρ (i + j)) = ob.map (Ob.ren ρ)) ∧ ∀ k, (∀ j, i ≤ j → j < i + l.length → ρ j ≠ k) → hput ρ i l H k = H k
  | [], i, H, _ => ⟨fun j ob h => by simp at h, fun k _ => rfl⟩
  | ob :: r, i, H, hinj => by
    obtain ⟨i1, i2⟩ := hput_at ρ r (i + 1) (hupd (ρ i) (ob.map (Ob.ren ρ)) H) (fun j j' h1 h2 h3 h4 h5 => hinj j j' (by omega) (by simp; omega) (by omega) (by simp; omega) h5)
    refine ⟨fun j ob' h => ?_, fun k hk => ?_⟩
    · cases j with
      | zero =>
        simp only [List.getElem?_cons_zero, Option.some.injEq] at h; subst h
        show hput ρ (i + 1) r (hupd (ρ i) (ob.map (Ob.ren ρ)) H) (ρ i) = _
        rw [i2 (ρ i) (fun j h1 h2 e => by have := hinj j i (by omega) (by simp; omega) (by omega) (by simp) e; omega)]
        simp [hupd]
      | succ j =>
        have := i1 j ob' (by simpa using h)
        show hput ρ (i + 1) r (hupd (ρ i) (ob.map (Ob.ren ρ)) H) (ρ (i + (j + 1))) = _
        rw [show i + (j + 1) = i + 1 + j by omega]; exact this
    · show hput ρ (i + 1) r (hupd (ρ i) (ob.map (Ob.ren ρ)) H) k = _
      rw [i2 k (fun j h1 h2 => hk j (by omega) (by simp; omega))]
      have := hk i (Nat.le_refl _) (by simp)
      simp [hupd, Ne.symm this]
end
end Av
end Go.Proofs.Ytdboofnogabefaa
/- Layer Av, part 16: calls of functions that are handed objects. -/
namespace Go.Proofs.Ytdboofnogabefaa
namespace Av
open Go.RowKit
section
variable {P : Program} {bs : Base} {V : Vw} {O : Nat → Option Value} {own : Nat → Option Nat} {dom : Nat → Prop} {w : World} {H : Hp} {rm n nm : Nat} {a : Act} {fr : Env} {o : Oper}
/-- What an operation comes to, in the abstract. -/
def StpS (s : Nat) (P : Program) (bs : Base) (o : Oper) (a : Act) (w : World) (V : Vw) (O : Nat → Option Value) (dom : Nat → Prop) (nm : Nat) (K : AV → Hp → Nat → Prop) : Prop :=
  Does P o a w fun v w' => ∃ r H' rm' V' O' own', K r H' rm' ∧ RV V' O' v r ∧ V.le V' ∧ (∀ k v, O k = some v → O' k = some v) ∧ WR bs V' O' own' (fun k => dom k ∨ (nm ≤ k ∧ k < nm + s)) w' H' rm'
abbrev Stp := StpS 16
theorem OR.some {k : Nat} {ob : Ob} (h : OR V O own w rm k ob) : ∃ v, O k = some v := by
  cases ob with
  | cells cs => obtain ⟨b, T, l, h1, _⟩ := h; exact ⟨_, h1⟩
  | arr T sz xs => rcases h with ⟨_, ⟨_, A, h1⟩ | ⟨b, cap, l, m, h1, _⟩⟩ <;> exact ⟨_, h1⟩
  | tok T sz n => rcases h with ⟨_, A, h1⟩ | ⟨b, cap, l, m, h1, _⟩ <;> exact ⟨_, h1⟩
  | rd f => obtain ⟨b, T, x, p, h1, _⟩ := h; exact ⟨_, h1⟩
theorem nodup_inj {l : List Nat} (h : l.Nodup) {i j : Nat} {hi : i < l.length} {hj : j < l.length} (e : l[i] = l[j]) : i = j := by
  rw [List.Nodup, List.pairwise_iff_getElem] at h
  rcases Nat.lt_trichotomy i j with h1 | h1 | h1
  · exact absurd e (h i j hi hj h1)
  · exact h1
  · exact absurd e.symm (h j i hj hi h1)
theorem ren_tok {ob : Ob} {ρ : Nat → Nat} {T sz n : Nat} (h : ob.ren ρ = .tok T sz n) : ob = .tok T sz n := by
  cases ob <;> simp [Ob.ren] at h ⊢; exact h
theorem s_callm1 {rm1 : Nat} (hw : WR bs V O own dom w H rm) (hf : FRn n V O a fr) {f : Nat} {S : MSpec} (hd : ∀ k, nm ≤ k → k < nm + (16 + S.st) → ¬ dom k) {xs : List (X × List (Option Nat))} (hc : chk P o (.callm f S xs) = true) (hv : ValidM P f S) (hle : rm1 ≤ rm) (hlim : rm1 + S.cost ≤ LIM)
    {ks : List Nat} {args : List AV} {obs : List Ob} (hnd : ks.Nodup) (hlen : obs.length = ks.length) (hobs : ∀ (i k : Nat), ks[i]? = some k → ∃ ob : Ob, obs[i]? = some ob ∧ H k = some (ob.ren (nmapS S.st ks nm)))
    (hargs : args.map (AV.ren (nmapS S.st ks nm)) = nrmArgs fr xs) (hr1 : rm1 = rm ∨ obs = []) (hpre : S.pre args obs) {K : AV → Hp → Nat → Prop}
    (hK : ∀ r obs', S.post args obs r obs' → okV (· < obs'.length) r → (∀ (j : Nat) ob, obs'[j]? = some (some ob) → okOb (· < obs'.length) ob) → K (r.ren (nmapS S.st ks nm)) (hput (nmapS S.st ks nm) 0 obs' H) (rm + S.cost)) : StpS (16 + S.st) P bs o a w V O dom nm K := by
  simp only [chk] at hc
  split at hc
  · rename_i c hop
    simp only [Bool.and_eq_true] at hc
    obtain ⟨h1, h2⟩ := hc
    have hcal : c.callee = .value (.func f) := by
      split at h1
      · rename_i g hg; rw [hg]; simp only [beq_iff_eq] at h1; rw [h1]
      · cases h1
    have hexec := call_exec (P := P) (w := w) (a := a) hop hcal hv.1
    have hargs' : (c.args.map a.eval) = (c.args.toList.map a.eval).toArray := by apply Array.ext'; simp
    rw [hargs'] at hexec
    -- names
    generalize hρ : nmapS S.st ks nm = ρ at *
    have ρlo : ∀ i k : Nat, ks[i]? = some k → ρ i = k := by
      intro i k h
      obtain ⟨hi, rfl⟩ := List.getElem?_eq_some_iff.1 h
      rw [← hρ]; simp [nmapS, hi]
    have ρhi : ∀ i, ks.length ≤ i → nm ≤ ρ i ∧ ρ i < nm + (16 + S.st) := by
      intro i h
      rw [← hρ]
      have : ¬ i < ks.length := by omega
      simp only [nmapS, this, dite_false]
      omega
    have ρhi' : ∀ i, ks.length ≤ i → i < ks.length + (16 + S.st) → ρ i = nm + (i - ks.length) := by
      intro i h h'
      rw [← hρ]
      have : ¬ i < ks.length := by omega
      simp only [nmapS, this, dite_false]
      omega
    have kdom : ∀ i k : Nat, ks[i]? = some k → dom k := by
      intro i k h
      obtain ⟨ob, _, h2⟩ := hobs i k h
      exact hw.domH _ _ h2
    have ρinj : ∀ i j, i < ks.length + (16 + S.st) → j < ks.length + (16 + S.st) → ρ i = ρ j → i = j := by
      intro i j hi hj e
      by_cases h1 : i < ks.length
      · have e1 := ρlo i _ (List.getElem?_eq_getElem h1)
        by_cases h2 : j < ks.length
        · have e2 := ρlo j _ (List.getElem?_eq_getElem h2)
          rw [e1, e2] at e
          exact nodup_inj hnd e
        · have := ρhi j (by omega)
          rw [← e, e1] at this
          exact absurd (kdom i _ (List.getElem?_eq_getElem h1)) (hd _ this.1 this.2)
      · by_cases h2 : j < ks.length
        · have e2 := ρlo j _ (List.getElem?_eq_getElem h2)
          have := ρhi i (by omega)
          rw [e, e2] at this
          exact absurd (kdom j _ (List.getElem?_eq_getElem h2)) (hd _ this.1 this.2)
        · rw [ρhi' i (by omega) hi, ρhi' j (by omega) hj] at e; omega
    -- the callee's view
    let O1 : Nat → Option Value := fun i => O (ρ i)
    let own1 : Nat → Option Nat := fun b => match own b with | some k => ks.idxOf? k | none => none
    have own1_iff : ∀ b i, own1 b = some i ↔ ∃ k, own b = some k ∧ ks[i]? = some k := by
      intro b i
      show (match own b with | some k => ks.idxOf? k | none => none) = some i ↔ _
      cases own b with
      | none => simp
      | some k =>
        simp only [Option.some.injEq, exists_eq_left', List.idxOf?, List.findIdx?_eq_some_iff_getElem]
        constructor
        · rintro ⟨hi, h1, _⟩
          simp only [beq_iff_eq] at h1
          rw [List.getElem?_eq_getElem hi, h1]
        · intro h
          obtain ⟨hi, h1⟩ := List.getElem?_eq_some_iff.1 h
          refine ⟨hi, by simp [h1], fun j hj e => ?_⟩
          simp only [beq_iff_eq] at e
          have := nodup_inj hnd (e.trans h1.symm)
          omega
    have hO1 : ∀ j v, O (ρ j) = some v → O1 j = some v := fun j v h => h
    have hOhi : ∀ i, ks.length ≤ i → O (ρ i) = none := by
      intro i h
      cases hh : O (ρ i) with
      | none => rfl
      | some v => exact absurd (hw.domO _ _ hh) (hd _ (ρhi i h).1 (ρhi i h).2)
    have hO1lt : ∀ k v, O1 k = some v → k < obs.length := by
      intro k v h
      rw [hlen]
      rcases Nat.lt_or_ge k ks.length with h' | h'
      · exact h'
      · replace h : O (ρ k) = some v := h
        rw [hOhi k h'] at h; cases h
    have hobs1 : ∀ (k : Nat) ob, obs[k]? = some ob → ∃ k', ks[k]? = some k' ∧ ρ k = k' ∧ H k' = some (ob.ren ρ) := by
      intro k ob h
      have hk : k < ks.length := by rw [← hlen]; exact (List.getElem?_eq_some_iff.1 h).1
      obtain ⟨ob', h3, h4⟩ := hobs k _ (List.getElem?_eq_getElem hk)
      rw [h] at h3; cases h3
      exact ⟨_, List.getElem?_eq_getElem hk, ρlo k _ (List.getElem?_eq_getElem hk), h4⟩
    have hOR : ∀ (k : Nat) ob, obs[k]? = some ob → OR V O1 own1 w rm1 k ob := by
      intro k ob h
      rcases hr1 with hr1 | hr1
      case inr => rw [hr1] at h; simp at h
      rw [hr1]
      obtain ⟨k', h3, h4, h5⟩ := hobs1 k ob h
      have := hw.obs _ _ h5
      rw [← h4] at this
      refine this.unren hO1 fun b hb => (own1_iff b k).2 ⟨k', by rw [hb, h4], h3⟩
    have hRV : RVs V O1 (c.args.toList.map a.eval) args := by
      have := xeqs_nrm hf h2
      rw [← hargs] at this
      refine ⟨by simpa using this.1, fun i x c h3 h4 => ?_⟩
      exact (this.2 i x (c.ren ρ) h3 (by rw [List.getElem?_map, h4]; rfl)).unren hO1
    refine does_call hexec ((hv.2 args obs rm1 hpre hlim V O1 own1 w _ hw.sub hO1lt (fun b k h => ?_) (fun b b' k h h' => ?_) (fun b o' u h => ?_) hOR hRV).mono ?_)
    · obtain ⟨k', h3, h4⟩ := (own1_iff b k).1 h
      exact ⟨by rw [hlen]; exact (List.getElem?_eq_some_iff.1 h4).1, (hw.ownb _ _ h3).1⟩
    · obtain ⟨k1, h3, h4⟩ := (own1_iff b k).1 h
      obtain ⟨k2, h5, h6⟩ := (own1_iff b' k).1 h'
      rw [h4] at h6; cases h6
      exact hw.uniq _ _ _ h3 h5
    · cases ho1 : own1 b with
      | none => exact .inl rfl
      | some k =>
        obtain ⟨k', h3, h4⟩ := (own1_iff b k).1 ho1
        rcases hw.vo b o' u h with h5 | ⟨k2, T, sz, m, h5, h6, h7⟩
        · rw [h3] at h5; cases h5
        · rw [h3] at h5; cases h5
          obtain ⟨ob, h8, h9⟩ := hobs k k' h4
          rw [h6] at h9
          have := ren_tok (Option.some.inj h9).symm
          subst this
          exact .inr ⟨k, T, sz, m, rfl, h8, h7⟩
    · rintro e w' ⟨v, r, obs', V', O', own', rfl, q1, q2, q3, q4, q5, q6, q7, q8, q9, q10, q11, q12⟩
      obtain ⟨hl1, hl2⟩ := S.hlen _ _ _ _ q1
      rw [hlen] at hl1 hl2
      let O2 : Nat → Option Value := fun k => if nm ≤ k ∧ k < nm + (16 + S.st) then O' (ks.length + (k - nm)) else O k
      let own2 : Nat → Option Nat := fun b => match own' b with | some j => some (ρ j) | none => if own1 b ≠ none then none else own b
      have own2_iff : ∀ b k, own2 b = some k ↔ (∃ j, own' b = some j ∧ ρ j = k) ∨ (own' b = none ∧ own1 b = none ∧ own b = some k) := by
        intro b k
        show (match own' b with | some j => some (ρ j) | none => if own1 b ≠ none then none else own b) = some k ↔ _
        cases own' b with
        | some j => simp
        | none =>
          by_cases h : own1 b = none
          · simp [h]
          · simp [h]
      have hO2 : ∀ k v, O k = some v → O2 k = some v := by
        intro k v h
        show (if nm ≤ k ∧ k < nm + (16 + S.st) then O' (ks.length + (k - nm)) else O k) = some v
        rw [if_neg (fun hh => hd k hh.1 hh.2 (hw.domO _ _ h))]; exact h
      have hO2' : ∀ j v, O' j = some v → O2 (ρ j) = some v := by
        intro j v h
        have hj := q6 j v h
        rcases Nat.lt_or_ge j ks.length with h' | h'
        · have hk := List.getElem?_eq_getElem h'
          obtain ⟨ob, h8, h9⟩ := hobs j _ hk
          obtain ⟨u, hu⟩ := (hOR j ob h8).some
          have := q5 j u hu
          rw [h] at this; cases this
          exact hO2 _ _ hu
        · have := ρhi' j h' (by omega)
          show (if nm ≤ ρ j ∧ ρ j < nm + (16 + S.st) then O' (ks.length + (ρ j - nm)) else O (ρ j)) = some v
          rw [this, if_pos (by omega)]
          rw [show ks.length + (nm + (j - ks.length) - nm) = j by omega]; exact h
      have hget := hput_at ρ obs' 0 H (fun j j' _ h1 _ h2 e => ρinj j j' (by omega) (by omega) e)
      have hget1 : ∀ (j : Nat) ob, obs'[j]? = some ob → hput ρ 0 obs' H (ρ j) = ob.map (Ob.ren ρ) := fun j ob h => by have := hget.1 j ob h; rwa [Nat.zero_add] at this
      have hcase : ∀ k, (∃ j, j < obs'.length ∧ ρ j = k) ∨ ((∀ j, j < obs'.length → ρ j ≠ k) ∧ hput ρ 0 obs' H k = H k) := by
        intro k
        by_cases h : ∃ j, j < obs'.length ∧ ρ j = k
        · exact .inl h
        · refine .inr ⟨fun j hj e => h ⟨j, hj, e⟩, hget.2 k fun j _ hj e => h ⟨j, by omega, e⟩⟩
      have okD : ∀ k v, O' k = some v → k < obs'.length := q6
      refine ⟨v, rfl, r.ren ρ, hput ρ 0 obs' H, rm + S.cost, V', O2, own2, hK r obs' q1 (RV_ok okD q2) (fun j ob h => OR_ok okD (q7 j ob h)), q2.ren hO2', q3, hO2, ?_⟩
      have hdom : ∀ j, j < obs'.length → dom (ρ j) ∨ (nm ≤ ρ j ∧ ρ j < nm + (16 + S.st)) := by
        intro j hj
        rcases Nat.lt_or_ge j ks.length with h' | h'
        · rw [ρlo j _ (List.getElem?_eq_getElem h')]; exact .inl (kdom j _ (List.getElem?_eq_getElem h'))
        · exact .inr (ρhi j h')
      have hown1k : ∀ b k, own b = some k → own1 b = none → ∀ j, j < obs'.length → ρ j ≠ k := by
        intro b k h h' j hj e
        rcases Nat.lt_or_ge j ks.length with hj' | hj'
        · have e1 := ρlo j _ (List.getElem?_eq_getElem hj')
          have := (own1_iff b j).2 ⟨k, h, by rw [List.getElem?_eq_getElem hj', ← e1, e]⟩
          rw [h'] at this; cases this
        · have h3 := ρhi j hj'
          rw [e] at h3
          exact hd k h3.1 h3.2 (hw.ownb _ _ h).2.2
      have hown' : ∀ b k, own b = some k → own1 b = none → own' b = none := by
        intro b k h h'
        cases hh : own' b with
        | none => rfl
        | some j =>
          rcases (q9 b j hh).2.2 with h3 | h3
          · exact absurd h' h3
          · have := (hw.ownb _ _ h).1; omega
      refine ⟨q4, fun b o' u e => ?_, fun k ob e => ?_, fun k u e => ?_, fun k ob e => ?_, fun b k e => ?_, fun b b' k e e' => ?_, fun b o' u e => ?_, Vw.le_trans hw.v0 q3, q12.os.trans hw.os, q12.tape.trans hw.tape, q12.output.trans hw.output, Nat.le_trans hw.size q12.size, fun b hb hn => ?_, fun k u e => hO2 k u (hw.o0 k u e)⟩
      · -- vo
        rcases q8 b o' u e with h | ⟨k, T, sz, m, h3, h4, h5⟩
        · cases ho2 : own2 b with
          | none => exact .inl rfl
          | some k =>
            right
            rcases (own2_iff b k).1 ho2 with ⟨j, h6, _⟩ | ⟨_, h6, h7⟩
            · rw [h] at h6; cases h6
            · have hVb : V b o' = some u := by
                rcases q11 b o' u e with h8 | h8 | h8
                · exact h8
                · have := (hw.ownb _ _ h7).1; omega
                · exact absurd h6 h8
              rcases hw.vo b o' u hVb with h8 | ⟨k2, T, sz, m, h8, h9, h10⟩
              · rw [h7] at h8; cases h8
              · rw [h7] at h8; cases h8
                refine ⟨k, T, sz, m, rfl, ?_, h10⟩
                rcases hcase k with ⟨j, hj, e1⟩ | ⟨_, e1⟩
                · exact absurd e1 (hown1k b k h7 h6 j hj)
                · rw [e1]; exact h9
        · right
          exact ⟨ρ k, T, sz, m, (own2_iff b _).2 (.inl ⟨k, h3, rfl⟩), by rw [hget1 k _ h4]; rfl, h5⟩
      · -- obs
        rcases hcase k with ⟨j, hj, rfl⟩ | ⟨hne, e1⟩
        · obtain ⟨oo, hoo⟩ : ∃ oo, obs'[j]? = some oo := ⟨_, List.getElem?_eq_getElem hj⟩
          rw [hget1 j _ hoo] at e
          obtain ⟨ob', rfl, rfl⟩ := Option.map_eq_some_iff.1 e
          exact ((q7 j ob' hoo).mono (Vw.le_refl _) (fun _ _ h => h) (fun b hb => ⟨hb, rfl⟩) (Nat.add_le_add_right hle _)).ren hO2' fun b hb => (own2_iff b _).2 (.inl ⟨j, hb, rfl⟩)
        · rw [e1] at e
          refine (hw.obs k ob e).mono q3 hO2 (fun b hb => ?_) (Nat.le_add_right _ _)
          have ho1 : own1 b = none := by
            cases hh : own1 b with
            | none => rfl
            | some j =>
              obtain ⟨k', h3, h4⟩ := (own1_iff b j).1 hh
              rw [hb] at h3; cases h3
              have hj : j < ks.length := (List.getElem?_eq_some_iff.1 h4).1
              exact absurd (ρlo j k h4) (hne j (by omega))
          exact ⟨(own2_iff b k).2 (.inr ⟨hown' b k hb ho1, ho1, hb⟩), q12.block b (hw.ownb _ _ hb).1 ho1⟩
      · replace e : (if nm ≤ k ∧ k < nm + (16 + S.st) then O' (ks.length + (k - nm)) else O k) = some u := e
        split at e
        · rename_i hh; exact .inr hh
        · exact .inl (hw.domO _ _ e)
      · rcases hcase k with ⟨j, hj, rfl⟩ | ⟨_, e1⟩
        · exact hdom j hj
        · rw [e1] at e; exact .inl (hw.domH _ _ e)
      · rcases (own2_iff b k).1 e with ⟨j, h6, rfl⟩ | ⟨_, h6, h7⟩
        · obtain ⟨h3, h4, h5⟩ := q9 b j h6
          refine ⟨h4, ?_, hdom j h3⟩
          rcases h5 with h5 | h5
          · cases hh : own1 b with
            | none => exact absurd hh h5
            | some i =>
              obtain ⟨k', h8, _⟩ := (own1_iff b i).1 hh
              exact (hw.ownb _ _ h8).2.1
          · exact .inr (Nat.le_trans hw.size h5)
        · obtain ⟨h3, h4, h5⟩ := hw.ownb _ _ h7
          exact ⟨Nat.lt_of_lt_of_le h3 q12.size, h4, .inl h5⟩
      · rcases (own2_iff b k).1 e with ⟨j, h6, rfl⟩ | ⟨_, h6, h7⟩
        · rcases (own2_iff b' _).1 e' with ⟨j', h6', e1⟩ | ⟨_, h6', h7'⟩
          · have h3 := (q9 b j h6).1
            have h4 := (q9 b' j' h6').1
            have := ρinj j' j (by omega) (by omega) e1
            subst this
            exact q10 _ _ _ h6 h6'
          · exact absurd rfl (hown1k b' _ h7' h6' j (q9 b j h6).1)
        · rcases (own2_iff b' _).1 e' with ⟨j', h6', e1⟩ | ⟨_, h6', h7'⟩
          · exact absurd e1 (hown1k b _ h7 h6 j' (q9 b' j' h6').1)
          · exact hw.uniq _ _ _ h7 h7'
      · rcases q11 b o' u e with h | h | h
        · exact hw.vb b o' u h
        · exact .inr (.inl (Nat.le_trans hw.size h))
        · cases hh : own1 b with
          | none => exact absurd hh h
          | some i =>
            obtain ⟨k', h8, _⟩ := (own1_iff b i).1 hh
            rcases (hw.ownb _ _ h8).2.1 with h9 | h9
            · exact .inr (.inr h9)
            · exact .inr (.inl h9)
      · rw [q12.block b (Nat.lt_of_lt_of_le hb hw.size)]
        · exact hw.block b hb hn
        · cases hh : own1 b with
          | none => rfl
          | some i =>
            obtain ⟨k', h8, _⟩ := (own1_iff b i).1 hh
            rcases (hw.ownb _ _ h8).2.1 with h9 | h9
            · exact absurd hn h9
            · omega
  · cases hc
theorem s_callm (hw : WR bs V O own dom w H rm) (hf : FRn n V O a fr) {f : Nat} {S : MSpec} (hd : ∀ k, nm ≤ k → k < nm + (16 + S.st) → ¬ dom k) {xs : List (X × List (Option Nat))} (hc : chk P o (.callm f S xs) = true) (hv : ValidM P f S) (hlim : rm + S.cost ≤ LIM)
    {ks : List Nat} {args : List AV} {obs : List Ob} (hnd : ks.Nodup) (hlen : obs.length = ks.length) (hobs : ∀ (i k : Nat), ks[i]? = some k → ∃ ob : Ob, obs[i]? = some ob ∧ H k = some (ob.ren (nmapS S.st ks nm)))
    (hargs : args.map (AV.ren (nmapS S.st ks nm)) = nrmArgs fr xs) (hpre : S.pre args obs) {K : AV → Hp → Nat → Prop}
    (hK : ∀ r obs', S.post args obs r obs' → okV (· < obs'.length) r → (∀ (j : Nat) ob, obs'[j]? = some (some ob) → okOb (· < obs'.length) ob) → K (r.ren (nmapS S.st ks nm)) (hput (nmapS S.st ks nm) 0 obs' H) (rm + S.cost)) : StpS (16 + S.st) P bs o a w V O dom nm K :=
  s_callm1 hw hf hd hc hv (Nat.le_refl _) hlim hnd hlen hobs hargs (.inl rfl) hpre hK
theorem ren_clC {c : AC} {ρ : Nat → Nat} (h : clC c = true) : c.ren ρ = c := by cases c <;> first | rfl | simp [clC] at h
theorem ren_clW {c : AW} {ρ : Nat → Nat} (h : clW c = true) : c.ren ρ = c := by
  cases c with
  | o c => exact congrArg AW.o (ren_clC h)
  | g cs => exact congrArg AW.g ((List.map_congr_left fun c hc => ren_clC (List.all_eq_true.1 h c hc)).trans (List.map_id _))
theorem ren_clV {v : AV} {ρ : Nat → Nat} (h : clV v = true) : v.ren ρ = v := by
  cases v with
  | w c => exact congrArg AV.w (ren_clW h)
  | fn f a b =>
    simp only [clV, Bool.and_eq_true] at h
    show AV.fn f _ _ = _
    rw [(List.map_congr_left fun c hc => ren_clW (List.all_eq_true.1 h.1 c hc)).trans (List.map_id a), (List.map_congr_left fun c hc => ren_clW (List.all_eq_true.1 h.2 c hc)).trans (List.map_id b)]
  | tup xs => simp [clV] at h
theorem ren_noO {ob : Ob} {ρ : Nat → Nat} (h : okOb noN ob) : ob.ren ρ = ob := by
  have key : ∀ {c : AC}, okC noN c → c.ren ρ = c := fun {c} h => by cases c <;> first | rfl | exact h.elim
  cases ob with
  | cells cs => exact congrArg Ob.cells ((List.map_congr_left fun c hc => key (h c hc)).trans (List.map_id _))
  | arr T sz xs => exact congrArg (Ob.arr T sz) ((List.map_congr_left fun x hx => (List.map_congr_left fun c hc => key (h x hx c hc)).trans (List.map_id _)).trans (List.map_id _))
  | _ => rfl
theorem s_callo (hw : WR bs V O own dom w H rm) (hf : FRn n V O a fr) (hd : ∀ k, nm ≤ k → k < nm + 16 → ¬ dom k) {f : Nat} {S : OSpec} {xs : List (X × List (Option Nat))} (hc : chk P o (.callo f S xs) = true) (hv : ValidM P f S.toM)
    (hpre : S.pre (nrmArgs fr xs)) {K : AV → Hp → Nat → Prop} (hK : K (.w (.o (.ow nm))) (hupd nm (some (S.ob (nrmArgs fr xs))) H) rm) : Stp P bs o a w V O dom nm K := by
  refine s_callm1 (S := S.toM) (rm1 := 0) (ks := []) (obs := []) (args := nrmArgs fr xs) hw hf hd hc hv (Nat.zero_le _) (Nat.zero_le _) (by simp) rfl (fun i k h => by simp at h) ?_ (.inr rfl) ⟨rfl, hpre⟩ ?_
  · exact (List.map_congr_left fun v hv => ren_clV (List.all_eq_true.1 (S.hcl _ hpre) v hv)).trans (List.map_id _)
  · rintro r obs' ⟨_, rfl, rfl⟩ _ _
    show K (.w (.o (.ow (nmap [] nm 0)))) (hupd (nmap [] nm 0) (some ((S.ob (nrmArgs fr xs)).ren _)) H) rm
    rw [ren_noO (S.hok _), show nmap [] nm 0 = nm from by simp [nmapS]]
    exact hK
theorem plain_RC {c : AC} (hp : plainC c) {x : Value} (h : RC V O x c) (h1 : x.oneCell' = true) (V2 : Vw) : RC V2 O x c := by
  unfold plainC at hp
  split at hp
  · have : x = _ := v_scal (V := V) (O := O) ⟨h, fun _ => h1⟩
    subst this
    exact RF.v h1
  · exact h
  · exact h
  · cases hp
theorem plain_RCs {l : List Value} {cs : List AC} (hp : ∀ c, c ∈ cs → plainC c) (h : RCs V O l cs) (V2 : Vw) : RCs V2 O l cs :=
  ⟨h.1, fun i x c h1 h2 => ⟨plain_RC (hp c (List.mem_of_getElem? h2)) (h.2 i x c h1 h2).1 (h.2 i x c h1 h2).2 V2, (h.2 i x c h1 h2).2⟩⟩
theorem plain_RW {c : AW} (hp : plainW c) {x : Value} (h : RW V O x c) (V2 : Vw) : RW V2 O x c := by
  cases c with
  | o c =>
    refine ⟨plain_RC hp h.1 (h.2 ?_) V2, h.2⟩
    intro e; rw [e] at hp; exact hp
  | g cs => obtain ⟨l, h1, h2⟩ := h; exact ⟨l, h1, plain_RCs hp h2 V2⟩
theorem plain_RV {c : AV} (hp : plainV c) {x : Value} (h : RV V O x c) (V2 : Vw) : RV V2 O x c := by
  cases c with
  | w c => exact plain_RW hp h V2
  | tup xs =>
    obtain ⟨l, h1, h2⟩ := h
    exact ⟨l, h1, h2.1, fun i y d e1 e2 => plain_RW (hp d (List.mem_of_getElem? e2)) (h2.2 i y d e1 e2) V2⟩
  | fn f a b => exact hp.elim
theorem plain_OR {ob : Ob} (hp : plainO ob) {k : Nat} (h : OR V O own w rm k ob) (V2 : Vw) (rm2 : Nat) : OR V2 O own w rm2 k ob := by
  cases ob with
  | arr T sz xs =>
    obtain ⟨hs, h⟩ := h
    refine ⟨hs, h.imp id ?_⟩
    rintro ⟨b, cap, l, m, g1, g2, g3, g4, g5, g6, g7⟩
    refine ⟨b, cap, l, m, g1, g2, g3, g4, g5, g6, plain_RCs (fun c hc => ?_) g7 V2⟩
    obtain ⟨x, hx1, hx2⟩ := List.mem_flatten.1 hc
    exact hp x hx1 c hx2
  | cells cs => exact hp.elim
  | tok T sz n => exact hp.elim
  | rd f => exact hp.elim
theorem s_callb (hw : WR bs V O own dom w H rm) (hf : FRn n V O a fr) {f : Nat} {S : MSpec} (hd : ∀ k, nm ≤ k → k < nm + (16 + S.st) → ¬ dom k) {xs : List (X × List (Option Nat))} (hc : chk P o (.callb f S xs) = true) (hv : ValidM P f S) (hcost : S.cost = 0)
    (hpre : S.pre (borArgs fr H xs) []) (hcl : (borArgs fr H xs).all clV = true) (hpl : ∀ r obs', S.post (borArgs fr H xs) [] r obs' → plainV r ∧ ∀ (j : Nat) ob, obs'[j]? = some (some ob) → plainO ob) {K : AV → Hp → Nat → Prop}
    (hK : ∀ r obs', S.post (borArgs fr H xs) [] r obs' → okV (· < obs'.length) r → (∀ (j : Nat) ob, obs'[j]? = some (some ob) → okOb (· < obs'.length) ob) → K (r.ren (nmapS S.st [] nm)) (hput (nmapS S.st [] nm) 0 obs' H) rm) : StpS (16 + S.st) P bs o a w V O dom nm K := by
  simp only [chk] at hc
  split at hc
  · rename_i c hop
    simp only [Bool.and_eq_true] at hc
    obtain ⟨h1, h2⟩ := hc
    have hcal : c.callee = .value (.func f) := by
      split at h1
      · rename_i g hg; rw [hg]; simp only [beq_iff_eq] at h1; rw [h1]
      · cases h1
    have hexec := call_exec (P := P) (w := w) (a := a) hop hcal hv.1
    have hargs : (c.args.map a.eval) = (c.args.toList.map a.eval).toArray := by apply Array.ext'; simp
    rw [hargs] at hexec
    have hR := xeqs_borArgs (w := w) (V1 := full w) (O1 := O0) hf (fun x c sh h hcl' _ => bor_full hw h hcl') h2 (.inr rfl) hcl
    refine does_call hexec ((hv.2 (borArgs fr H xs) [] 0 hpre (by rw [hcost]; exact Nat.zero_le _) (full w) O0 (fun _ => none) w _ (full_sub w) (fun k v h => by cases h) (fun b k h => by cases h) (fun b b' k h => by cases h) (fun b o' u h => .inl rfl) (fun k ob h => by simp at h) hR).mono ?_)
    rintro e w' ⟨v, r, obs', V', O', own', rfl, q1, q2, q3, q4, q5, q6, q7, q8, q9, q10, q11, q12⟩
    obtain ⟨p1, p2⟩ := hpl r obs' q1
    have hl2 := (S.hlen _ _ _ _ q1).2
    simp only [List.length_nil, Nat.zero_add] at hl2
    generalize hρ : nmapS S.st [] nm = ρ at *
    have hρi : ∀ i, i < 16 + S.st → ρ i = nm + i := by
      intro i h
      rw [← hρ]
      simp only [nmapS, List.length_nil, Nat.not_lt_zero, dite_false, Nat.sub_zero]
      omega
    have hρr : ∀ i, nm ≤ ρ i ∧ ρ i < nm + (16 + S.st) := by
      intro i
      rw [← hρ]
      simp only [nmapS, List.length_nil, Nat.not_lt_zero, dite_false, Nat.sub_zero]
      omega
    have ρinj : ∀ i j, i < 16 + S.st → j < 16 + S.st → ρ i = ρ j → i = j := by
      intro i j hi hj e
      rw [hρi i hi, hρi j hj] at e; omega
    let O2 : Nat → Option Value := fun k => if nm ≤ k ∧ k < nm + (16 + S.st) then O' (k - nm) else O k
    let own2 : Nat → Option Nat := fun b => match own' b with | some j => some (ρ j) | none => own b
    have hlt : ∀ b k, own b = some k → b < w.heap.size := fun b k h => (hw.ownb b k h).1
    have hnew : ∀ b j, own' b = some j → j < obs'.length ∧ b < w'.heap.size ∧ w.heap.size ≤ b := fun b j h => ⟨(q9 b j h).1, (q9 b j h).2.1, (q9 b j h).2.2.resolve_left fun h => h rfl⟩
    have own'n : ∀ b k, own b = some k → own' b = none := by
      intro b k h
      cases hh : own' b with
      | none => rfl
      | some j => have := (hnew b j hh).2.2; have := hlt b k h; omega
    have oold : ∀ b k, own b = some k → own2 b = some k := by
      intro b k h
      show (match own' b with | some j => some (ρ j) | none => own b) = some k
      rw [own'n b k h]; exact h
    have ocase : ∀ b k, own2 b = some k → (∃ j, own' b = some j ∧ ρ j = k) ∨ (own' b = none ∧ own b = some k) := by
      intro b k h
      replace h : (match own' b with | some j => some (ρ j) | none => own b) = some k := h
      cases hh : own' b with
      | none => rw [hh] at h; exact .inr ⟨rfl, h⟩
      | some j => rw [hh] at h; cases h; exact .inl ⟨j, rfl, rfl⟩
    have hO2 : ∀ k v, O k = some v → O2 k = some v := by
      intro k v h
      show (if nm ≤ k ∧ k < nm + (16 + S.st) then O' (k - nm) else O k) = some v
      rw [if_neg (fun hh => hd k hh.1 hh.2 (hw.domO _ _ h))]; exact h
    have hO2' : ∀ j v, O' j = some v → O2 (ρ j) = some v := by
      intro j v h
      have hj := q6 j v h
      have e := hρi j (by omega)
      show (if nm ≤ ρ j ∧ ρ j < nm + (16 + S.st) then O' (ρ j - nm) else O (ρ j)) = some v
      rw [e, if_pos (by omega), show nm + j - nm = j by omega]; exact h
    have hget := hput_at ρ obs' 0 H (fun j j' _ h1 _ h2 e => ρinj j j' (by omega) (by omega) e)
    have hget1 : ∀ (j : Nat) ob, obs'[j]? = some ob → hput ρ 0 obs' H (ρ j) = ob.map (Ob.ren ρ) := fun j ob h => by have := hget.1 j ob h; rwa [Nat.zero_add] at this
    have hcase : ∀ k, (∃ j, j < obs'.length ∧ ρ j = k) ∨ ((∀ j, j < obs'.length → ρ j ≠ k) ∧ hput ρ 0 obs' H k = H k) := by
      intro k
      by_cases h : ∃ j, j < obs'.length ∧ ρ j = k
      · exact .inl h
      · refine .inr ⟨fun j hj e => h ⟨j, hj, e⟩, hget.2 k fun j _ hj e => h ⟨j, by omega, e⟩⟩
    have hsub : V.sub w' := fun b o u e => q4 _ _ _ (q3 _ _ _ (full_le hw _ _ _ e))
    have hno : ∀ k, dom k → ∀ j, ρ j ≠ k := fun k hk j e => hd k (by rw [← e]; exact (hρr j).1) (by rw [← e]; exact (hρr j).2) hk
    refine ⟨v, rfl, r.ren ρ, hput ρ 0 obs' H, rm, V, O2, own2, hK r obs' q1 (RV_ok q6 q2) (fun j ob h => OR_ok q6 (q7 j ob h)), (plain_RV p1 q2 V).ren hO2', Vw.le_refl _, hO2, ?_⟩
    refine ⟨hsub, fun b o' u e => ?_, fun k ob e => ?_, fun k u e => ?_, fun k ob e => ?_, fun b k e => ?_, fun b b' k e e' => ?_, fun b o' u e => hw.vb b o' u e, hw.v0, q12.os.trans hw.os, q12.tape.trans hw.tape, q12.output.trans hw.output, Nat.le_trans hw.size q12.size, fun b hb hn => ?_, fun k u e => hO2 k u (hw.o0 k u e)⟩
    · have hb := Vw.sub_lt hw.sub e
      have h0 : own' b = none := by
        cases hh : own' b with
        | none => rfl
        | some j => have := (hnew b j hh).2.2; omega
      rcases hw.vo b o' u e with h | ⟨k, T, sz, m, h3, h4, h5⟩
      · left
        show (match own' b with | some j => some (ρ j) | none => own b) = none
        rw [h0]; exact h
      · right
        refine ⟨k, T, sz, m, oold b k h3, ?_, h5⟩
        rcases hcase k with ⟨j, hj, e1⟩ | ⟨_, e1⟩
        · exact absurd e1 (hno k (hw.domH _ _ h4) j)
        · rw [e1]; exact h4
    · rcases hcase k with ⟨j, hj, rfl⟩ | ⟨hne, e1⟩
      · obtain ⟨oo, hoo⟩ : ∃ oo, obs'[j]? = some oo := ⟨_, List.getElem?_eq_getElem hj⟩
        rw [hget1 j _ hoo] at e
        obtain ⟨ob', rfl, rfl⟩ := Option.map_eq_some_iff.1 e
        exact (plain_OR (p2 j ob' hoo) (q7 j ob' hoo) V rm).ren hO2' fun b hb => by
          show (match own' b with | some j => some (ρ j) | none => own b) = some (ρ j)
          rw [hb]
      · rw [e1] at e
        exact (hw.obs k ob e).mono (Vw.le_refl _) hO2 (fun b hb => ⟨oold b k hb, q12.block b (hlt b k hb) rfl⟩) (Nat.le_refl _)
    · replace e : (if nm ≤ k ∧ k < nm + (16 + S.st) then O' (k - nm) else O k) = some u := e
      split at e
      · rename_i hh; exact .inr hh
      · exact .inl (hw.domO _ _ e)
    · rcases hcase k with ⟨j, hj, rfl⟩ | ⟨_, e1⟩
      · exact .inr (hρr j)
      · rw [e1] at e; exact .inl (hw.domH _ _ e)
    · rcases ocase b k e with ⟨j, h6, rfl⟩ | ⟨_, h7⟩
      · obtain ⟨h3, h4, h5⟩ := hnew b j h6
        exact ⟨h4, .inr (Nat.le_trans hw.size h5), .inr (hρr j)⟩
      · obtain ⟨h3, h4, h5⟩ := hw.ownb _ _ h7
        exact ⟨Nat.lt_of_lt_of_le h3 q12.size, h4, .inl h5⟩
    · rcases ocase b k e with ⟨j, h6, rfl⟩ | ⟨_, h7⟩
      · rcases ocase b' _ e' with ⟨j', h6', e1⟩ | ⟨_, h7'⟩
        · have h3 := (hnew b j h6).1
          have h4 := (hnew b' j' h6').1
          have := ρinj j' j (by omega) (by omega) e1
          subst this
          exact q10 _ _ _ h6 h6'
        · exact absurd rfl (hno _ (hw.ownb _ _ h7').2.2 j)
      · rcases ocase b' _ e' with ⟨j', h6', e1⟩ | ⟨_, h7'⟩
        · exact absurd e1 (hno _ (hw.ownb _ _ h7).2.2 j')
        · exact hw.uniq _ _ _ h7 h7'
    · rw [q12.block b (Nat.lt_of_lt_of_le hb hw.size) rfl]
      exact hw.block b hb hn
  · cases hc
theorem flat_RCs {l : List Value} {xs : List (List AC)} (hx : ∀ x, x ∈ xs → ∀ c, c ∈ x → ∃ v, c = .c (.v v)) (h : RCs V O l xs.flatten) (V2 : Vw) (O2 : Nat → Option Value) : RCs V2 O2 l xs.flatten := by
  refine ⟨h.1, fun i u c h3 h4 => ?_⟩
  obtain ⟨x, hx1, hx2⟩ := List.mem_flatten.1 (List.mem_of_getElem? h4)
  obtain ⟨y, rfl⟩ := hx x hx1 c hx2
  have h5 := h.2 i u _ h3 h4
  refine ⟨?_, h5.2⟩
  have : u = y := v_scal (V := V) (O := O) ⟨h5.1, fun _ => h5.2⟩
  subst this
  exact RF.v h5.2
/-- A new array in a block that a callee has made. -/
theorem WR.gift (hw : WR bs V O own dom w H rm) (hd : ¬ dom nm) {v : Value} {oo : Ob} {w' : World} {own1 : Nat → Option Nat} (ht : notTok oo) (hb : ∀ b k, own1 b = some k → k = nm ∧ b < w'.heap.size ∧ w.heap.size ≤ b) (hu : ∀ b b' k, own1 b = some k → own1 b' = some k → b = b')
    (hk : Kept w w' (fun _ => none)) (hsub : V.sub w') (hor : OR V (updO nm v O) (fun b => match own1 b with | some k => some k | none => own b) w' rm nm oo) :
    WR bs V (updO nm v O) (fun b => match own1 b with | some k => some k | none => own b) (fun k => dom k ∨ k = nm) w' (hupd nm (some oo) H) rm := by
  have hlt : ∀ b k, own b = some k → b < w.heap.size := fun b k h => (hw.ownb b k h).1
  have o1n : ∀ b k, own b = some k → own1 b = none := by
    intro b k h
    cases hh : own1 b with
    | none => rfl
    | some j => have := (hb b j hh).2.2; have := hlt b k h; omega
  have ocase : ∀ b k, (match own1 b with | some k => some k | none => own b) = some k → (own1 b = some k ∧ k = nm) ∨ (own1 b = none ∧ own b = some k) := by
    intro b k h
    cases hh : own1 b with
    | none => rw [hh] at h; exact .inr ⟨rfl, h⟩
    | some j => rw [hh] at h; cases h; exact .inl ⟨rfl, (hb b _ hh).1⟩
  have oold : ∀ b k, own b = some k → (match own1 b with | some k => some k | none => own b) = some k := by
    intro b k h; rw [o1n b k h]; exact h
  have nnm : ∀ k v, O k = some v → k ≠ nm := fun k v h e => hd (e ▸ hw.domO _ _ h)
  have hO : ∀ k u, O k = some u → updO nm v O k = some u := updO_le (fun u e => hd (hw.domO _ _ e))
  have vlt : ∀ b o u, V b o = some u → b < w.heap.size := fun b o u e => Vw.sub_lt hw.sub e
  refine ⟨hsub, fun b o u e => ?_, fun k ob e => ?_, fun k u e => ?_, fun k ob e => ?_, fun b k e => ?_, fun b b' k e e' => ?_, fun b o u e => hw.vb b o u e, hw.v0, hk.os.trans hw.os, hk.tape.trans hw.tape, hk.output.trans hw.output, Nat.le_trans hw.size hk.size, fun b hb' hn => ?_, fun k u e => hO k u (hw.o0 k u e)⟩
  · have h1 : own1 b = none := by
      cases hh : own1 b with
      | none => rfl
      | some j => have := (hb b j hh).2.2; have := vlt b o u e; omega
    rcases hw.vo b o u e with h | ⟨k, T, sz, m, h2, h3, h4⟩
    · left; simp only [h1]; exact h
    · right
      refine ⟨k, T, sz, m, oold b k h2, ?_, h4⟩
      have : k ≠ nm := fun e => hd (e ▸ hw.domH _ _ h3)
      unfold hupd; rw [if_neg this]; exact h3
  · unfold hupd at e
    split at e
    · rename_i ek; subst ek; cases e; exact hor
    · exact (hw.obs k ob e).mono (Vw.le_refl _) hO (fun b hb' => ⟨oold b k hb', hk.block b (hlt b k hb') rfl⟩) (Nat.le_refl _)
  · unfold updO at e
    split at e
    · rename_i ek; exact .inr ek
    · exact .inl (hw.domO _ _ e)
  · unfold hupd at e
    split at e
    · rename_i ek; exact .inr ek
    · exact .inl (hw.domH _ _ e)
  · rcases ocase b k e with ⟨h, h'⟩ | ⟨_, h⟩
    · obtain ⟨_, h2, h3⟩ := hb b k h
      exact ⟨h2, .inr (Nat.le_trans hw.size h3), .inr h'⟩
    · obtain ⟨h1, h2, h3⟩ := hw.ownb b k h
      exact ⟨Nat.lt_of_lt_of_le h1 hk.size, h2, .inl h3⟩
  · rcases ocase b k e with ⟨h, h0⟩ | ⟨_, h⟩
    · rcases ocase b' k e' with ⟨h', _⟩ | ⟨_, h'⟩
      · exact hu _ _ _ h h'
      · exact absurd (h0 ▸ (hw.ownb _ _ h').2.2) hd
    · rcases ocase b' k e' with ⟨h', h0⟩ | ⟨_, h'⟩
      · exact absurd (h0 ▸ (hw.ownb _ _ h).2.2) hd
      · exact hw.uniq _ _ _ h h'
  · rw [hk.block b (Nat.lt_of_lt_of_le hb' hw.size) rfl]; exact hw.block b hb' hn
theorem s_callof (hw : WR bs V O own dom w H rm) (hf : FRn n V O a fr) (hd : ∀ k, nm ≤ k → k < nm + 16 → ¬ dom k) {f : Nat} {S : OSpec} {xs : List (X × List (Option Nat))} (hc : chk P o (.callo f S xs) = true) (hv : ValidM P f S.toM) (hfl : S.fl = true)
    (hpre : S.pre (borArgs fr H xs)) {K : AV → Hp → Nat → Prop} (hK : K (.w (.o (.ow nm))) (hupd nm (some (S.ob (borArgs fr H xs))) H) rm) : Stp P bs o a w V O dom nm K := by
  simp only [chk] at hc
  split at hc
  · rename_i c hop
    simp only [Bool.and_eq_true] at hc
    obtain ⟨h1, h2⟩ := hc
    have hcal : c.callee = .value (.func f) := by
      split at h1
      · rename_i g hg; rw [hg]; simp only [beq_iff_eq] at h1; rw [h1]
      · cases h1
    have hexec := call_exec (P := P) (w := w) (a := a) hop hcal hv.1
    have hargs : (c.args.map a.eval) = (c.args.toList.map a.eval).toArray := by apply Array.ext'; simp
    rw [hargs] at hexec
    have hR := xeqs_borArgs (w := w) (V1 := full w) (O1 := O0) hf (fun x c sh h hcl' _ => bor_full hw h hcl') h2 (.inr rfl) (S.hcl _ hpre)
    refine does_call hexec ((hv.2 (borArgs fr H xs) [] 0 ⟨rfl, hpre⟩ (Nat.zero_le _) (full w) O0 (fun _ => none) w _ (full_sub w) (fun k v h => by cases h) (fun b k h => by cases h) (fun b b' k h => by cases h) (fun b o' u h => .inl rfl) (fun k ob h => by simp at h) hR).mono ?_)
    rintro e w' ⟨v, r, obs', V', O', own', rfl, ⟨_, rfl, rfl⟩, q2, q3, q4, q5, q6, q7, q8, q9, q10, q11, q12⟩
    have hd0 : ¬ dom nm := hd nm (Nat.le_refl _) (by omega)
    have hsub : V.sub w' := fun b o u e => q4 _ _ _ (q3 _ _ _ (full_le hw _ _ _ e))
    have hO0 : O' 0 = some v := q2.1.1
    have hone : v.oneCell' = true := q2.1.2
    have hq7 := q7 0 _ rfl
    have hflat := S.hfl hfl (borArgs fr H xs)
    generalize hob : S.ob (borArgs fr H xs) = ob at *
    cases ob with
    | arr T sz ys =>
      have hx : ∀ x, x ∈ ys → ∀ c, c ∈ x → ∃ v, c = .c (.v v) := hflat
      let own1 : Nat → Option Nat := fun b => match own' b with | some _ => some nm | none => none
      have o1 : ∀ b k, own1 b = some k → k = nm ∧ own' b = some 0 := by
        intro b k h
        show k = nm ∧ own' b = some 0
        replace h : (match own' b with | some _ => some nm | none => none) = some k := h
        cases hh : own' b with
        | none => rw [hh] at h; cases h
        | some j =>
          rw [hh] at h
          have := (q9 b j hh).1
          simp at this
          subst this
          cases h; exact ⟨rfl, rfl⟩
      refine ⟨v, rfl, .w (.o (.ow nm)), hupd nm (some (.arr T sz ys)) H, rm, V, updO nm v O, _, hK, ⟨⟨updO_self _ _ _, hone⟩, fun _ => hone⟩, Vw.le_refl _, updO_le (fun u e => hd0 (hw.domO _ _ e)),
        (hw.gift hd0 (own1 := own1) (w' := w') (v := v) (oo := .arr T sz ys) trivial (fun b k h => ?_) (fun b b' k h h' => ?_) q12 hsub ?_).dommono dom_nm⟩
      · obtain ⟨rfl, h3⟩ := o1 b k h
        obtain ⟨_, h4, h5⟩ := q9 b 0 h3
        exact ⟨rfl, h4, h5.resolve_left fun h => h rfl⟩
      · exact q10 _ _ _ (o1 b k h).2 (o1 b' k h').2
      · obtain ⟨hs, hob'⟩ := hq7
        refine ⟨hs, ?_⟩
        rcases hob' with ⟨h3, A, h4⟩ | ⟨b, cap, l, m, g1, g2, g3, g4, g5, g6, g7⟩
        · rw [hO0] at h4
          exact .inl ⟨h3, A, by rw [updO_self]; exact h4⟩
        · rw [hO0] at g1
          refine .inr ⟨b, cap, l, m, by rw [updO_self]; exact g1, ?_, g3, g4, g5, g6, flat_RCs hx g7 _ _⟩
          show (match own1 b with | some k => some k | none => own b) = some nm
          have : own1 b = some nm := by show (match own' b with | some _ => some nm | none => none) = some nm; rw [g2]
          rw [this]
    | cells cs => exact hflat.elim
    | tok T sz n => exact hflat.elim
    | rd f => exact hflat.elim
  · cases hc
theorem s_callob (hw : WR bs V O own dom w H rm) (hf : FRn n V O a fr) (hd : ∀ k, nm ≤ k → k < nm + 16 → ¬ dom k) {f : Nat} {S : OSpec} {xs : List (X × List (Option Nat))} (hc : chk P o (.callo f S xs) = true) (hv : ValidM P f S.toM)
    (hpre : S.pre (oArgs S.fl fr H xs)) {K : AV → Hp → Nat → Prop} (hK : K (.w (.o (.ow nm))) (hupd nm (some (S.ob (oArgs S.fl fr H xs))) H) rm) : Stp P bs o a w V O dom nm K := by
  cases h : S.fl with
  | true => rw [h] at hpre hK; exact s_callof hw hf hd hc hv h hpre hK
  | false => rw [h] at hpre hK; exact s_callo hw hf hd hc hv hpre hK
end
end Av
end Go.Proofs.Ytdboofnogabefaa
/- Layer Av, part 17: what an operation asks for (opw) suffices. -/
namespace Go.Proofs.Ytdboofnogabefaa
namespace Av
open Go.RowKit
section
variable {P : Program} {bs : Base} {V : Vw} {O : Nat → Option Value} {own : Nat → Option Nat} {dom : Nat → Prop} {w : World} {H : Hp} {rm n nm : Nat} {a : Act} {fr : Env} {o : Oper} {K : AV → Hp → Nat → Prop}
theorem Gives.stp (hw : WR bs V O own dom w H rm) {r : AV} (h : Gives P o a w V O r) (hK : K r H rm) : Stp P bs o a w V O dom nm K := by
  obtain ⟨v, h1, h2⟩ := h
  exact does_val h1 ⟨r, H, rm, V, O, own, hK, h2, Vw.le_refl _, fun _ _ h => h, hw.dommono fun k h => .inl h⟩
theorem Makes.stp {r : AV} {H' : Hp} (h : Makes P bs o a w V O dom nm rm r H') (hK : K r H' rm) : Stp P bs o a w V O dom nm K := by
  obtain ⟨nx, w', V', O', own', h1, h2, h3, h4, h5, h6⟩ := h
  rcases h1 with rfl | ⟨v, rfl, h7⟩
  · exact does_skip h3 ⟨r, H', rm, V', O', own', hK, by rw [h2 rfl]; exact RV_junk _ _ _, h4, h5, h6⟩
  · exact does_val h3 ⟨r, H', rm, V', O', own', hK, h7, h4, h5, h6⟩
theorem Calls'.stp {rm' : Nat} {R : AV → Prop} (h : Calls' P bs o a w V O own dom H rm' R) (hK : ∀ r, R r → K r H rm') : Stp P bs o a w V O dom nm K :=
  Does.mono h fun v w' ⟨r, V', h1, h2, h3, h4⟩ => ⟨r, H, rm', V', O, own, hK r h1, h2, h3, fun _ _ h => h, h4.dommono fun k h => .inl h⟩
theorem Gives'.stp (hw : WR bs V O own dom w H rm) {out : Out} (h : Gives' P o a w V O H out)
    (hK : match out with | .one r H' => K r H' rm | .any pre c R => pre ∧ rm + c ≤ LIM ∧ ∀ r, R r → K r H (rm + c)) (h0 : ∀ pre c R, out = .any pre c R → c = 0) : Stp P bs o a w V O dom nm K := by
  cases out with
  | one r H' => obtain ⟨rfl, h2⟩ := h; exact h2.stp hw hK
  | any pre c R =>
    obtain ⟨h1, h2, h3⟩ := hK
    obtain ⟨r, h4, h5⟩ := h h1
    have := h0 pre c R rfl
    subst this
    exact h5.stp hw (h3 r h4)
theorem binA_zero {kd : Nat} {op : BinOp} {x y : AV} {z : X} {pre : Prop} {c : Nat} {R : AV → Prop} (h : binA kd op x y z H = some (.any pre c R)) : c = 0 := by
  unfold binA at h
  split at h
  · split at h
    · obtain ⟨r, _, h2⟩ := Option.map_eq_some_iff.1 h; cases h2
    · cases h
  · split at h <;> cases h
  · split at h
    · split at h <;> cases h
    · split at h
      · split at h <;> cases h
      · cases h
  · split at h <;> cases h <;> rfl
  · split at h <;> cases h <;> rfl
  · split at h
    · split at h <;> cases h <;> rfl
    · cases h
  · cases h
theorem slcA_zero {sz : Nat} {x : AV} {lo hi mx : Option X} {pre : Prop} {c : Nat} {R : AV → Prop} (h : slcA fr sz x lo hi mx H = some (.any pre c R)) : c = 0 := by
  unfold slcA at h
  repeat' split at h
  all_goals cases h
theorem fldA_zero {off : Nat} {p : AV} {pre : Prop} {c : Nat} {R : AV → Prop} (h : fldA off p H = some (.any pre c R)) : c = 0 := by
  unfold fldA at h
  repeat' split at h
  all_goals cases h
theorem idxA_zero {sz : Nat} {x i : AV} {pre : Prop} {c : Nat} {R : AV → Prop} (h : idxA sz x i H = some (.any pre c R)) : c = 0 := by
  unfold idxA at h
  repeat' split at h
  all_goals (try cases h)
  all_goals (obtain ⟨r, _, h2⟩ := Option.map_eq_some_iff.1 h; cases h2)
theorem stp_pos (o : AO) : 16 ≤ stp o := by
  cases o <;> first | exact Nat.le_refl _ | exact Nat.le_add_right _ _
theorem opw_sound (hw : WR bs V O own dom w H rm) (hf : FRn n V O a fr) {ao : AO} (hd : ∀ k, nm ≤ k → k < nm + stp ao → ¬ dom k) (hc : chk P o ao = true) (h : opw P nm fr H rm K ao) : StpS (stp ao) P bs o a w V O dom nm K := by
  have hd0 : ¬ dom nm := hd nm (Nat.le_refl _) (by have := stp_pos ao; omega)
  cases ao with
  | mv x => simp only [opw, sem] at h; exact (s_mv hf hc).stp hw h
  | pick c x y =>
    simp only [opw, sem] at h
    split at h
    · exact h.elim
    · rename_i r H' hs
      split at hs
      · rename_i t ht
        cases hs
        exact (s_pick hf hc ht).stp hw h
      · cases hs
    · rename_i hs
      split at hs <;> cases hs
  | alloc zs => simp only [opw, sem] at h; exact (s_alloc hw hd0 hc).stp h
  | box x =>
    simp only [opw, sem] at h
    split at h
    · exact h.elim
    · rename_i hs
      split at hs
      · rename_i cs hcs; cases hs; exact (s_box hw hf hd0 hc hcs).stp h
      · cases hs
    · rename_i hs; split at hs <;> cases hs
  | build zs ps =>
    simp only [opw, sem] at h
    split at h
    · exact h.elim
    · rename_i hs
      split at hs
      · rename_i cs hcs; cases hs; exact (s_build hf hc hcs).stp hw h
      · cases hs
    · rename_i hs; split at hs <;> cases hs
  | bsl T sz xs =>
    simp only [opw, sem] at h
    split at h
    · exact h.elim
    · rename_i hs
      split at hs
      · rename_i cs hcs; cases hs; exact (s_bsl hw hf hd0 hc hcs).stp h
      · cases hs
    · rename_i hs; split at hs <;> cases hs
  | bsl0 T sz => simp only [opw, sem] at h; exact (s_bsl0 hw hf hd0 hc).stp h
  | bslf tk T sz xs =>
    cases hcs : cellssOf fr sz xs with
    | none => simp only [opw, sem, hcs] at h
    | some css =>
      cases hys : fcellss css with
      | none => simp only [opw, sem, hcs, hys] at h
      | some ys => simp only [opw, sem, hcs, hys] at h; exact (s_bslf hw hf hd0 hc hcs hys).stp h
  | load m p =>
    simp only [opw, sem] at h
    split at h
    · exact h.elim
    · rename_i hs
      split at hs
      · rename_i cs hcs; cases hs; exact (s_load hw hf hc hcs).stp hw h
      · cases hs
    · rename_i hs; split at hs <;> cases hs
  | store m p x =>
    simp only [opw] at h
    split at h
    · rename_i k off ds hp hx
      split at h
      · rename_i cs hk
        obtain ⟨h1, h2, h3⟩ := h
        exact (s_store_ptr hw hf hc hp hx hk h1 h2).stp h3
      · exact h.elim
    · rename_i k sz i off ds hp hx
      split at h
      · rename_i T s xs hk
        split at h
        · rename_i e he
          obtain ⟨rfl, h1, h2, h3⟩ := h
          exact (s_store_pa hw hf hc hp hx hk he h1 h2).stp h3
        · exact h.elim
      · exact h.elim
    · exact h.elim
  | nilc x =>
    simp only [opw, sem] at h
    split at h
    · exact h.elim
    · rename_i hs
      split at hs
      · rename_i c hx
        split at hs
        · rename_i hp; cases hs; exact (s_nilc hf hc hx hp).stp hw h
        · cases hs
      · cases hs
    · rename_i hs
      split at hs
      · split at hs <;> cases hs
      · cases hs
  | bin kd op x y =>
    simp only [opw, sem] at h
    split at h
    · exact h.elim
    · rename_i hs; exact (s_bin hw hf hc hs).stp hw h (fun _ _ _ e => by cases e)
    · rename_i hs; exact (s_bin hw hf hc hs).stp hw h (fun _ _ _ e => by cases e; exact binA_zero hs)
  | eqs neg T m x y =>
    simp only [opw, sem] at h
    split at h
    · exact h.elim
    · rename_i hs
      split at hs
      · split at hs
        · split at hs <;> cases hs
        · cases hs
      · cases hs
    · rename_i hs
      split at hs
      · rename_i cs ds hx hy
        split at hs
        · rename_i as bs' h1 h2
          split at hs
          · rename_i hl
            cases hs
            exact (s_eqs hf hc hx hy h1 h2 hl.1 hl.2 h.1).stp hw (h.2.2 _ rfl)
          · cases hs
        · cases hs
      · cases hs
  | un op x =>
    simp only [opw, sem] at h
    split at h
    · exact h.elim
    · rename_i hs
      split at hs
      · rename_i t hx; cases hs; exact ((s_un hf hc).1 _ rfl hx).stp hw h
      · rename_i k m hx; cases hs; exact ((s_un hf hc).2 _ _ rfl hx).stp hw h
      · cases hs
    · rename_i hs; split at hs <;> cases hs
  | conv k x =>
    simp only [opw, sem] at h
    split at h
    · exact h.elim
    · rename_i hs
      split at hs
      · rename_i k' m hx; cases hs; exact (s_conv hf hc hx).stp hw h
      · cases hs
    · rename_i hs; split at hs <;> cases hs
  | mkfn f first cap =>
    simp only [opw, sem] at h
    split at h
    · exact h.elim
    · rename_i hs
      split at hs
      · rename_i as bs' h1 h2; cases hs; exact (s_mkfn hf hc h1 h2).stp hw h
      · cases hs
    · rename_i hs; split at hs <;> cases hs
  | mksl T sz bytes zs l c =>
    simp only [opw, sem] at h
    split at h
    · exact h.elim
    · rename_i hs
      split at hs
      · rename_i m k h1 h2
        split at hs
        · rename_i hh; cases hs; exact (s_mksl hw hf hd0 hc h1 h2 hh.1 hh.2.1 hh.2.2.1 hh.2.2.2).stp h
        · cases hs
      · cases hs
    · rename_i hs
      split at hs
      · split at hs <;> cases hs
      · cases hs
  | slc sz x lo hi mx =>
    simp only [opw, sem] at h
    split at h
    · exact h.elim
    · rename_i hs; exact (s_slc hf hc hs).stp hw h (fun _ _ _ e => by cases e)
    · rename_i hs; exact (s_slc hf hc hs).stp hw h (fun _ _ _ e => by cases e; exact slcA_zero hs)
  | fld off p =>
    simp only [opw, sem] at h
    split at h
    · exact h.elim
    · rename_i hs; exact (s_fld hw hf hc hs).stp hw h (fun _ _ _ e => by cases e)
    · rename_i hs; exact (s_fld hw hf hc hs).stp hw h (fun _ _ _ e => by cases e; exact fldA_zero hs)
  | idx sz x i =>
    simp only [opw, sem] at h
    split at h
    · exact h.elim
    · rename_i hs; exact (s_idx hw hf hc hs).stp hw h (fun _ _ _ e => by cases e)
    · rename_i hs; exact (s_idx hw hf hc hs).stp hw h (fun _ _ _ e => by cases e; exact idxA_zero hs)
  | slv sz x hi =>
    simp only [opw, sem] at h
    split at h
    · exact h.elim
    · rename_i hs; exact (s_slv hw hf hc hs).stp hw h (fun _ _ _ e => by cases e)
    · rename_i hs
      unfold slvA at hs
      repeat' split at hs
      all_goals cases hs
  | ext x i =>
    simp only [opw, sem] at h
    split at h
    · exact h.elim
    · rename_i hs
      split at hs
      · rename_i xs hx
        obtain ⟨c, h1, h2⟩ := Option.map_eq_some_iff.1 hs
        cases h2; exact (s_ext hf hc hx h1).stp hw h
      · cases hs
    · rename_i hs
      split at hs
      · obtain ⟨c, h1, h2⟩ := Option.map_eq_some_iff.1 hs; cases h2
      · cases hs
  | len x =>
    simp only [opw, sem] at h
    split at h
    · exact h.elim
    · rename_i hs
      obtain ⟨c, h1, h2⟩ := Option.map_eq_some_iff.1 hs
      cases h2; exact (s_len hw hf hc h1).stp hw h
    · rename_i hs
      obtain ⟨c, h1, h2⟩ := Option.map_eq_some_iff.1 hs; cases h2
  | mnmx mn x y =>
    simp only [opw, sem] at h
    split at h
    · exact h.elim
    · rename_i hs
      split at hs
      · rename_i p q hx hy; cases hs; exact (s_mnmx hf hc hx hy).stp hw h
      · cases hs
    · rename_i hs; split at hs <;> cases hs
  | clip sz x hi mx =>
    simp only [opw] at h
    rcases h with ⟨k, T, xs, g1, g2, g3, g4, g5⟩ | ⟨g1, g2, g3, g4⟩
    · exact (s_clip_ow hw hf hd0 hc g1 g2 g3 g4).stp g5
    · exact (s_clip_e0 hf hc g1 g2 g3).stp hw g4
  | app T sz bytes zs s x =>
    simp only [opw] at h
    split at h
    · exact h.elim
    · rename_i ys hy
      obtain ⟨hyz, h⟩ := h
      split at h
      · rename_i k hs
        split at h
        · rename_i T' s' xs hk
          obtain ⟨rfl, rfl, h1, h2⟩ := h
          exact (s_app_ow hw hf hd0 hc hy hyz hs hk h1).stp h2
        · exact h.elim
      · rename_i k s' xs hs
        split at h
        · rename_i T' s'' m gs hk hg
          obtain ⟨rfl, rfl, rfl, rfl, h1, h2⟩ := h
          exact (s_app_tk hw hf hd hc hy hyz hs hk hg h1).stp h2
        · exact h.elim
      · rename_i hs
        exact (s_app_e0 hw hf hd hc hy hyz hs h.1).stp h.2
      · exact h.elim
  | call f S xs =>
    simp only [opw, sem] at h
    obtain ⟨⟨h1, h2, h3⟩, h4, h5⟩ := h
    exact (s_call hw hf hc h1 h2 h3 h4).stp h5
  | callv x S xs =>
    simp only [opw, sem] at h
    split at h
    · exact h.elim
    · rename_i hs; split at hs <;> cases hs
    · rename_i hs
      split at hs
      · rename_i f first cap hx
        cases hs
        obtain ⟨⟨h1, h2, h3, h4⟩, h5, h6⟩ := h
        exact (s_callv hw hf hc hx rfl h1 h2 h3 h4 h5).stp h6
      · cases hs
  | callm f S xs =>
    simp only [opw] at h
    obtain ⟨h1, h2, ks, args, obs, h3, h4, h5, h6, h7, h8⟩ := h
    exact s_callm hw hf hd hc h1 h2 h3 h4 h5 h6 h7 h8
  | callb f S xs =>
    simp only [opw] at h
    obtain ⟨h1, h2, h3, h4, h5, h6⟩ := h
    exact s_callb hw hf hd hc h1 h2 h3 h4 h5 h6
  | callo f S xs =>
    simp only [opw, sem] at h
    by_cases hp : S.pre (oArgs S.fl fr H xs) ∧ ValidM P f S.toM
    · simp only [if_pos hp] at h
      exact s_callob hw hf hd hc hp.2 hp.1 h
    · simp only [if_neg hp] at h
end
end Av
end Go.Proofs.Ytdboofnogabefaa
/- Layer Av, part 18: what an operation looks at, and what it leaves alone. -/
namespace Go.Proofs.Ytdboofnogabefaa
namespace Av
open Go.RowKit
def opsX : AO → List X
  | .mv x | .box x | .nilc x | .un _ x | .conv _ x | .fld _ x | .ext x _ | .len x | .load _ x => [x]
  | .pick c a b => [c, a, b]
  | .alloc _ | .bsl0 _ _ => []
  | .build _ ps => ps.map (·.2.2)
  | .bsl _ _ xs | .bslf _ _ _ xs => xs
  | .store _ p x => [p, x]
  | .bin _ _ x y | .eqs _ _ _ x y | .mksl _ _ _ _ x y | .idx _ x y | .slv _ x y | .mnmx _ x y | .app _ _ _ _ x y => [x, y]
  | .mkfn _ first cap => first ++ cap
  | .slc _ x lo hi mx => x :: (lo.toList ++ hi.toList ++ mx.toList)
  | .clip _ x hi mx => [x, hi, mx]
  | .call _ _ xs | .callm _ _ xs | .callb _ _ xs | .callo _ _ xs => xs.map (·.1)
  | .callv x _ xs => x :: xs.map (·.1)
/-- 0: by itself; 1: looks at objects; 2: makes one; 3: writes some. -/
def cls : AO → Nat
  | .mv _ | .pick .. | .build .. | .nilc _ | .un .. | .conv .. | .mkfn .. | .slc .. | .fld .. | .ext .. | .mnmx .. => 0
  | .bin kd _ _ _ => if kd < 3 then 0 else 1
  | .eqs .. | .load .. | .len _ | .idx .. | .slv .. | .call .. | .callv .. => 1
  | .alloc _ | .box _ | .bsl .. | .bsl0 .. | .bslf .. | .mksl .. => 2
  | .callo _ S _ => match S.fl with | true => 3 | false => 2
  | .store .. | .app .. | .callm .. | .callb .. | .clip .. => 3
section
variable {P : Program} {H : Hp} {rm n nm : Nat} {fr fr' : Env} {K K' : AV → Hp → Nat → Prop}
theorem fillA_fr : ∀ {ps : List (Nat × Nat × X)} {cs : List AC}, (∀ x ∈ ps.map (·.2.2), ev fr x = ev fr' x) → fillA fr cs ps = fillA fr' cs ps
  | [], _, _ => rfl
  | (off, k, x) :: ps, cs, h => by
    have h1 : ev fr x = ev fr' x := h x (by simp)
    have h2 : ∀ y ∈ ps.map (·.2.2), ev fr y = ev fr' y := fun y hy => h y (by simp only [List.map_cons]; exact List.mem_cons_of_mem _ hy)
    simp only [fillA, h1]
    split
    · split
      · exact fillA_fr h2
      · rfl
    · rfl
theorem cellssOf_fr {sz : Nat} : ∀ {xs : List X}, (∀ x ∈ xs, ev fr x = ev fr' x) → cellssOf fr sz xs = cellssOf fr' sz xs
  | [], _ => rfl
  | x :: xs, h => by
    have h1 : ev fr x = ev fr' x := h x (by simp)
    have h2 := cellssOf_fr (sz := sz) (xs := xs) fun y hy => h y (by simp [hy])
    simp only [cellssOf, h1, h2]
theorem awsOf_fr : ∀ {xs : List X}, (∀ x ∈ xs, ev fr x = ev fr' x) → awsOf fr xs = awsOf fr' xs
  | [], _ => rfl
  | x :: xs, h => by
    have h1 : ev fr x = ev fr' x := h x (by simp)
    have h2 := awsOf_fr (xs := xs) fun y hy => h y (by simp [hy])
    simp only [awsOf, h1, h2]
theorem borArgs_fr {xs : List (X × List (Option Nat))} (h : ∀ x ∈ xs.map (·.1), ev fr x = ev fr' x) : borArgs fr H xs = borArgs fr' H xs := by
  refine List.map_congr_left fun p hp => ?_
  rw [h p.1 (List.mem_map_of_mem hp)]
theorem nrmArgs_fr {xs : List (X × List (Option Nat))} (h : ∀ x ∈ xs.map (·.1), ev fr x = ev fr' x) : nrmArgs fr xs = nrmArgs fr' xs := by
  refine List.map_congr_left fun p hp => ?_
  rw [h p.1 (List.mem_map_of_mem hp)]
theorem keeps_fr {xs : List (X × List (Option Nat))} (h : ∀ x ∈ xs.map (·.1), ev fr x = ev fr' x) : (xs.all fun p => keepsV H (ev fr p.1)) = (xs.all fun p => keepsV H (ev fr' p.1)) := by
  induction xs with
  | nil => rfl
  | cons p xs ih =>
    simp only [List.map_cons, List.mem_cons, forall_eq_or_imp] at h
    simp only [List.all_cons, h.1, ih h.2]
theorem bnd_fr {d : Nat} {x : Option X} (h : ∀ y ∈ x.toList, ev fr y = ev fr' y) : bnd fr d x = bnd fr' d x := by
  cases x with
  | none => rfl
  | some y => simp only [bnd, h y (by simp)]
theorem slcA_fr {sz : Nat} {a : AV} {lo hi mx : Option X} (h : ∀ y ∈ lo.toList ++ hi.toList ++ mx.toList, ev fr y = ev fr' y) : slcA fr sz a lo hi mx H = slcA fr' sz a lo hi mx H := by
  have h1 : ∀ d, bnd fr d lo = bnd fr' d lo := fun d => bnd_fr fun y hy => h y (by simp [hy])
  have h2 : ∀ d, bnd fr d hi = bnd fr' d hi := fun d => bnd_fr fun y hy => h y (by simp [hy])
  have h3 : ∀ d, bnd fr d mx = bnd fr' d mx := fun d => bnd_fr fun y hy => h y (by simp [hy])
  unfold slcA
  cases mx with
  | none => simp only [h1, h2]; rfl
  | some m => simp only [h1, h2, h3]
theorem sem_fr {o : AO} (h : ∀ x ∈ opsX o, ev fr x = ev fr' x) : sem P nm fr H o = sem P nm fr' H o := by
  cases o with
  | build zs ps => simp only [sem, fillA_fr h]
  | bsl T sz xs =>
    have h2 : cellssOf fr sz xs = cellssOf fr' sz xs := cellssOf_fr h
    simp only [sem, h2]
  | bslf tk T sz xs =>
    have h2 : cellssOf fr sz xs = cellssOf fr' sz xs := cellssOf_fr h
    simp only [sem, h2]
  | mkfn f first cap =>
    simp only [opsX, List.mem_append] at h
    simp only [sem, awsOf_fr fun x hx => h x (.inl hx), awsOf_fr fun x hx => h x (.inr hx)]
  | slc sz x lo hi mx =>
    simp only [opsX, List.mem_cons, forall_eq_or_imp] at h
    simp only [sem, h.1, slcA_fr h.2]
  | slv sz x hi =>
    simp only [opsX, List.mem_cons, List.not_mem_nil, or_false, forall_eq_or_imp, forall_eq] at h
    have e : bnd fr 0 (some hi) = bnd fr' 0 (some hi) := by simp only [bnd, h.2]
    simp only [sem, h.1, slvA, e]
  | call f S xs => simp only [sem, borArgs_fr h, keeps_fr h]
  | callo f S xs =>
    have e : oArgs S.fl fr H xs = oArgs S.fl fr' H xs := by
      cases S.fl
      · exact nrmArgs_fr h
      · exact borArgs_fr h
    simp only [sem]
    rw [e]
  | callv x S xs =>
    simp only [opsX, List.mem_cons, forall_eq_or_imp] at h
    simp only [sem, h.1, borArgs_fr h.2]
  | _ => simp only [opsX, List.mem_cons, List.not_mem_nil, or_false, forall_eq_or_imp, forall_eq] at h <;> simp only [sem, h]
theorem opw_sem {o : AO} (h : cls o < 3) : opw P nm fr H rm K o = (match sem P nm fr H o with
    | none => False
    | some (.one r H') => K r H' rm
    | some (.any pre c R) => pre ∧ rm + c ≤ LIM ∧ ∀ r, R r → K r H (rm + c)) := by
  cases o <;> first | rfl | (simp [cls] at h)
theorem opw_callo {f : Nat} {S : OSpec} {xs : List (X × List (Option Nat))} : opw P nm fr H rm K (.callo f S xs) ↔ (S.pre (oArgs S.fl fr H xs) ∧ ValidM P f S.toM) ∧ K (.w (.o (.ow nm))) (hupd nm (some (S.ob (oArgs S.fl fr H xs))) H) rm := by
  by_cases hp : S.pre (oArgs S.fl fr H xs) ∧ ValidM P f S.toM
  · simp only [opw, sem, if_pos hp]; exact ⟨fun h => ⟨hp, h⟩, fun h => h.2⟩
  · simp only [opw, sem, if_neg hp]; exact ⟨fun h => h.elim, fun h => hp h.1⟩
theorem cls_callo {f : Nat} {S : OSpec} {xs : List (X × List (Option Nat))} (h : cls (.callo f S xs) < 3) : S.fl = false := by
  simp only [cls] at h
  cases hh : S.fl with
  | true => rw [hh] at h; exact absurd h (by decide)
  | false => rfl
theorem oArgs_fr {fl : Bool} {xs : List (X × List (Option Nat))} (h : ∀ x ∈ xs.map (·.1), ev fr x = ev fr' x) : oArgs fl fr H xs = oArgs fl fr' H xs := by
  cases fl
  · exact nrmArgs_fr h
  · exact borArgs_fr h
theorem opw_fr {o : AO} (h : ∀ x ∈ opsX o, ev fr x = ev fr' x) : opw P nm fr H rm K o ↔ opw P nm fr' H rm K o := by
  by_cases hc : cls o < 3
  · rw [opw_sem hc, opw_sem hc, sem_fr h]
  · cases o with
    | store n p x => simp only [opsX, List.mem_cons, List.not_mem_nil, or_false, forall_eq_or_imp, forall_eq] at h; simp only [opw, h]
    | app T sz bytes zs s x => simp only [opsX, List.mem_cons, List.not_mem_nil, or_false, forall_eq_or_imp, forall_eq] at h; simp only [opw, h]
    | clip sz x hi mx => simp only [opsX, List.mem_cons, List.not_mem_nil, or_false, forall_eq_or_imp, forall_eq] at h; simp only [opw, bnd, h]
    | callm f S xs => simp only [opw, nrmArgs_fr h]
    | callb f S xs => simp only [opw, borArgs_fr (fr := fr) (fr' := fr') h]
    | callo f S xs => rw [opw_callo, opw_callo, oArgs_fr (fr := fr) (fr' := fr') h]
    | bin kd op x y => simp only [cls] at hc; split at hc <;> omega
    | _ => exact absurd (by simp [cls]) hc
theorem opw_mono {o : AO} (hK : ∀ r H' rm', K r H' rm' → K' r H' rm') (h : opw P nm fr H rm K o) : opw P nm fr H rm K' o := by
  by_cases hc : cls o < 3
  · rw [opw_sem hc] at h ⊢
    revert h
    cases sem P nm fr H o with
    | none => exact id
    | some out =>
      cases out with
      | one r H' => exact hK _ _ _
      | any pre c R => exact fun ⟨h1, h2, h3⟩ => ⟨h1, h2, fun r hr => hK _ _ _ (h3 r hr)⟩
  · cases o with
    | store n p x =>
      simp only [opw] at h ⊢
      split at h
      · split at h
        · exact ⟨h.1, h.2.1, hK _ _ _ h.2.2⟩
        · exact h.elim
      · split at h
        · split at h
          · exact ⟨h.1, h.2.1, h.2.2.1, hK _ _ _ h.2.2.2⟩
          · exact h.elim
        · exact h.elim
      · exact h.elim
    | clip sz x hi mx =>
      simp only [opw] at h ⊢
      rcases h with ⟨k, T, xs, g1, g2, g3, g4, g5⟩ | ⟨g1, g2, g3, g4⟩
      · exact .inl ⟨k, T, xs, g1, g2, g3, g4, hK _ _ _ g5⟩
      · exact .inr ⟨g1, g2, g3, hK _ _ _ g4⟩
    | app T sz bytes zs s x =>
      simp only [opw] at h ⊢
      split at h
      · exact h.elim
      · refine ⟨h.1, ?_⟩
        replace h := h.2
        split at h
        · split at h
          · exact ⟨h.1, h.2.1, h.2.2.1, hK _ _ _ h.2.2.2⟩
          · exact h.elim
        · split at h
          · exact ⟨h.1, h.2.1, h.2.2.1, h.2.2.2.1, h.2.2.2.2.1, hK _ _ _ h.2.2.2.2.2⟩
          · exact h.elim
        · exact ⟨h.1, hK _ _ _ h.2⟩
        · exact h.elim
    | callm f S xs =>
      simp only [opw] at h ⊢
      obtain ⟨h1, h2, ks, args, obs, h3, h4, h5, h6, h7, h8⟩ := h
      exact ⟨h1, h2, ks, args, obs, h3, h4, h5, h6, h7, fun r obs' q1 q2 q3 => hK _ _ _ (h8 r obs' q1 q2 q3)⟩
    | callb f S xs =>
      simp only [opw] at h ⊢
      exact ⟨h.1, h.2.1, h.2.2.1, h.2.2.2.1, h.2.2.2.2.1, fun r obs' q1 q2 q3 => hK _ _ _ (h.2.2.2.2.2 r obs' q1 q2 q3)⟩
    | callo f S xs =>
      rw [opw_callo] at h ⊢
      exact ⟨h.1, hK _ _ _ h.2⟩
    | bin kd op x y => simp only [cls] at hc; split at hc <;> omega
    | _ => exact absurd (by simp [cls]) hc
theorem sem_inh {o : AO} {pre : Prop} {c : Nat} {R : AV → Prop} (h : sem P nm fr H o = some (.any pre c R)) (hp : pre) : ∃ r, R r := by
  cases o with
  | eqs neg T n x y =>
    simp only [sem] at h
    split at h
    · split at h
      · split at h
        · cases h; exact ⟨_, rfl⟩
        · cases h
      · cases h
    · cases h
  | bin kd op x y =>
    simp only [sem] at h
    unfold binA at h
    split at h
    · split at h
      · obtain ⟨r, _, h2⟩ := Option.map_eq_some_iff.1 h; cases h2
      · cases h
    · split at h <;> cases h
    · split at h
      · split at h <;> cases h
      · split at h
        · split at h <;> cases h
        · cases h
    · split at h <;> cases h
      · exact ⟨B false, false, rfl, by simp⟩
      · exact ⟨B true, true, rfl, by simp⟩
    · split at h <;> cases h <;> exact ⟨B true, true, rfl⟩
    · split at h
      · split at h <;> cases h
        · exact ⟨B false, false, rfl, by simp⟩
        · exact ⟨B true, true, rfl, by simp⟩
      · cases h
    · cases h
  | call f S xs => simp only [sem] at h; cases h; exact S.inh _ hp.1
  | callv x S xs =>
    simp only [sem] at h
    split at h
    · cases h; exact S.inh _ hp.1
    · cases h
  | slc sz x lo hi mx =>
    simp only [sem, slcA] at h
    repeat' split at h
    all_goals cases h
  | fld off p =>
    simp only [sem, fldA] at h
    repeat' split at h
    all_goals cases h
  | slv sz x hi =>
    simp only [sem, slvA] at h
    repeat' split at h
    all_goals cases h
  | idx sz x i =>
    simp only [sem, idxA] at h
    repeat' split at h
    all_goals (try cases h)
    all_goals (obtain ⟨r, _, h2⟩ := Option.map_eq_some_iff.1 h; cases h2)
  | ext x i =>
    simp only [sem] at h
    split at h
    · obtain ⟨r, _, h2⟩ := Option.map_eq_some_iff.1 h; cases h2
    · cases h
  | len x =>
    simp only [sem] at h
    obtain ⟨r, _, h2⟩ := Option.map_eq_some_iff.1 h; cases h2
  | _ => simp only [sem] at h <;> (repeat' split at h) <;> cases h
theorem opw_inh {o : AO} (h : opw P nm fr H rm K o) : ∃ r H' rm', K r H' rm' := by
  by_cases hc : cls o < 3
  · rw [opw_sem hc] at h
    split at h
    · exact h.elim
    · exact ⟨_, _, _, h⟩
    · rename_i hs
      obtain ⟨r, hr⟩ := sem_inh hs h.1
      exact ⟨_, _, _, h.2.2 r hr⟩
  · cases o with
    | store n p x =>
      simp only [opw] at h
      split at h
      · split at h
        · exact ⟨_, _, _, h.2.2⟩
        · exact h.elim
      · split at h
        · split at h
          · exact ⟨_, _, _, h.2.2.2⟩
          · exact h.elim
        · exact h.elim
      · exact h.elim
    | clip sz x hi mx =>
      simp only [opw] at h
      rcases h with ⟨k, T, xs, g1, g2, g3, g4, g5⟩ | ⟨g1, g2, g3, g4⟩
      · exact ⟨_, _, _, g5⟩
      · exact ⟨_, _, _, g4⟩
    | app T sz bytes zs s x =>
      simp only [opw] at h
      split at h
      · exact h.elim
      · replace h := h.2
        split at h
        · split at h
          · exact ⟨_, _, _, h.2.2.2⟩
          · exact h.elim
        · split at h
          · exact ⟨_, _, _, h.2.2.2.2.2⟩
          · exact h.elim
        · exact ⟨_, _, _, h.2⟩
        · exact h.elim
    | callm f S xs =>
      simp only [opw] at h
      obtain ⟨h1, h2, ks, args, obs, h3, h4, h5, h6, h7, h8⟩ := h
      obtain ⟨r, obs', q1, q2, q3⟩ := S.inh _ _ h7
      exact ⟨_, _, _, h8 r obs' q1 q2 q3⟩
    | callo f S xs => exact ⟨_, _, _, (opw_callo.1 h).2⟩
    | callb f S xs =>
      simp only [opw] at h
      obtain ⟨h1, h2, h3, h4, h5, h6⟩ := h
      obtain ⟨r, obs', q1, q2, q3⟩ := S.inh _ _ h3
      exact ⟨_, _, _, h6 r obs' q1 q2 q3⟩
    | bin kd op x y => simp only [cls] at hc; split at hc <;> omega
    | _ => exact absurd (by simp [cls]) hc
/-- An operation by itself. -/
theorem opw_cls0 {o : AO} (h : cls o = 0) : ∃ x : Option AV, ∀ (nm : Nat) (H : Hp) (rm : Nat) (K : AV → Hp → Nat → Prop), opw P nm fr H rm K o ↔ match x with | none => False | some r => K r H rm := by
  have key : ∀ x : Option AV, (∀ nm H, sem P nm fr H o = x.map fun r => .one r H) → ∃ x : Option AV, ∀ (nm : Nat) (H : Hp) (rm : Nat) (K : AV → Hp → Nat → Prop), opw P nm fr H rm K o ↔ match x with | none => False | some r => K r H rm := by
    intro x hx
    refine ⟨x, fun nm H rm K => ?_⟩
    rw [opw_sem (by omega), hx]
    cases x <;> exact Iff.rfl
  have of : (∀ nm H, (sem P nm fr H o).isSome = (sem P 0 fr (fun _ => none) o).isSome ∧ ∀ out, sem P nm fr H o = some out → ∃ r, out = .one r H ∧ sem P 0 fr (fun _ => none) o = some (.one r fun _ => none)) →
      ∃ x : Option AV, ∀ (nm : Nat) (H : Hp) (rm : Nat) (K : AV → Hp → Nat → Prop), opw P nm fr H rm K o ↔ match x with | none => False | some r => K r H rm := by
    intro hh
    cases hs : sem P 0 fr (fun _ => none) o with
    | none =>
      refine key none fun nm H => ?_
      have := (hh nm H).1
      rw [hs] at this
      cases h2 : sem P nm fr H o with
      | none => rfl
      | some _ => rw [h2] at this; cases this
    | some out =>
      obtain ⟨r, h1, h2⟩ := (hh 0 fun _ => none).2 out hs
      subst h1
      refine key (some r) fun nm H => ?_
      have h3 := (hh nm H).1
      rw [hs] at h3
      cases h4 : sem P nm fr H o with
      | none => rw [h4] at h3; cases h3
      | some out =>
        obtain ⟨r', h5, h6⟩ := (hh nm H).2 out h4
        rw [hs] at h6
        cases h6
        rw [h5]; rfl
  cases o with
  | mv x => exact key (some (ev fr x)) fun _ _ => rfl
  | bin kd op x y =>
    refine of fun nm H => ?_
    have hk : kd < 3 := by simp only [cls] at h; split at h <;> omega
    simp only [sem]
    unfold binA
    split
    · split
      · rename_i k m k' n' _ _ _
        cases intOp op k m n' <;> simp
      · simp
    · cases op <;> simp
    · split
      · cases op <;> simp
      · split
        · cases op <;> simp
        · simp
    · omega
    · omega
    · omega
    · simp
  | slc sz x lo hi mx =>
    refine of fun nm H => ?_
    simp only [sem]
    unfold slcA
    repeat' split
    all_goals simp
  | ext x i =>
    refine of fun nm H => ?_
    simp only [sem]
    split
    · rename_i xs _
      cases xs[i]? <;> simp
    · simp
  | un op x =>
    refine of fun nm H => ?_
    simp only [sem]
    repeat' split
    all_goals simp_all
  | fld off p =>
    refine of fun nm H => ?_
    simp only [sem, fldA]
    repeat' split
    all_goals simp_all
  | nilc x =>
    refine of fun nm H => ?_
    simp only [sem]
    repeat' split
    all_goals simp_all
  | pick c x y =>
    refine of fun nm H => ?_
    simp only [sem]
    repeat' split
    all_goals simp_all
  | build zs ps =>
    refine of fun nm H => ?_
    simp only [sem]
    repeat' split
    all_goals simp_all
  | conv k x =>
    refine of fun nm H => ?_
    simp only [sem]
    repeat' split
    all_goals simp_all
  | mkfn f first cap =>
    refine of fun nm H => ?_
    simp only [sem]
    repeat' split
    all_goals simp_all
  | mnmx mn x y =>
    refine of fun nm H => ?_
    simp only [sem]
    repeat' split
    all_goals simp_all
  | callo f S xs => simp only [cls] at h; split at h <;> cases h
  | _ => simp [cls] at h
/-- An operation that makes an object. -/
theorem opw_cls2 {o : AO} (h : cls o = 2) : ∃ x : Option (AV × Ob), ∀ (H : Hp) (rm : Nat) (K : AV → Hp → Nat → Prop), opw P nm fr H rm K o ↔ match x with | none => False | some (r, ob) => K r (hupd nm (some ob) H) rm := by
  cases o with
  | alloc zs => exact ⟨some (.w (.o (.ptr nm 0)), .cells (zs.map ofV)), fun _ _ _ => Iff.rfl⟩
  | box x =>
    cases hx : cellsOf (ev fr x) with
    | none => exact ⟨none, fun _ _ _ => by simp only [opw, sem, hx]⟩
    | some cs => exact ⟨some (.w (.o (.ptr nm 0)), .cells cs), fun _ _ _ => by simp only [opw, sem, hx]⟩
  | bsl T sz xs =>
    cases hx : cellssOf fr sz xs with
    | none => exact ⟨none, fun _ _ _ => by simp only [opw, sem, hx]⟩
    | some css => exact ⟨some (.w (.o (.ow nm)), .arr T sz css), fun _ _ _ => by simp only [opw, sem, hx]⟩
  | bsl0 T sz => exact ⟨some (S sz [], .arr T sz []), fun _ _ _ => Iff.rfl⟩
  | bslf tk T sz xs =>
    cases hx : cellssOf fr sz xs with
    | none => exact ⟨none, fun _ _ _ => by simp only [opw, sem, hx]⟩
    | some css =>
      cases hy : fcellss css with
      | none => exact ⟨none, fun _ _ _ => by simp only [opw, sem, hx, hy]⟩
      | some ys => exact ⟨some (bslV tk nm sz ys, .tok T sz css.length), fun _ _ _ => by simp only [opw, sem, hx, hy]⟩
  | callo f S xs =>
    have hfl : S.fl = false := cls_callo (by rw [h]; decide)
    have e : ∀ H, oArgs S.fl fr H xs = nrmArgs fr xs := fun H => by rw [hfl]; rfl
    by_cases hp : S.pre (nrmArgs fr xs) ∧ ValidM P f S.toM
    · exact ⟨some (.w (.o (.ow nm)), S.ob (nrmArgs fr xs)), fun H _ _ => by rw [opw_callo, e]; exact ⟨fun h => h.2, fun h => ⟨hp, h⟩⟩⟩
    · exact ⟨none, fun H _ _ => by rw [opw_callo, e]; exact ⟨fun h => hp h.1, fun h => h.elim⟩⟩
  | mksl T sz bytes zs l c =>
    by_cases hh : ∃ m k, ev fr l = I m ∧ ev fr c = I k ∧ (0 ≤ m ∧ m ≤ k ∧ k * bytes ≤ 140737488355328 ∧ k ≤ 4611686018427387904)
    · obtain ⟨m, k, h1, h2, h3⟩ := hh
      exact ⟨some (.w (.o (.ow nm)), .arr T sz (List.replicate m.toNat (zs.map ofV))), fun _ _ _ => by simp only [opw, sem, h1, h2, if_pos h3]⟩
    · refine ⟨none, fun H rm K => ?_⟩
      simp only [opw, sem, iff_false]
      intro hc
      split at hc
      · exact hc
      · rename_i hs
        split at hs
        · rename_i m k h1 h2
          split at hs
          · rename_i h3; exact hh ⟨m, k, h1, h2, h3⟩
          · cases hs
        · cases hs
      · rename_i hs
        split at hs
        · split at hs <;> cases hs
        · cases hs
  | bin kd op x y => simp only [cls] at h; split at h <;> omega
  | _ => simp [cls] at h
/-- An operation that looks at objects. -/
theorem opw_cls1 {o : AO} (h : cls o = 1) : ∃ (pre : Prop) (b : Bool) (c : Nat) (R : AV → Prop), (pre → ∃ r, R r) ∧ (b = false → c = 0) ∧ ∀ (rm : Nat) (K : AV → Hp → Nat → Prop), opw P nm fr H rm K o ↔ pre ∧ (b = true → rm + c ≤ LIM) ∧ ∀ r, R r → K r H (rm + c) := by
  cases hs : sem P nm fr H o with
  | none => exact ⟨False, false, 0, fun _ => False, False.elim, fun _ => rfl, fun rm K => by rw [opw_sem (by omega), hs]; simp⟩
  | some out =>
    cases out with
    | any pre c R => exact ⟨pre, true, c, R, sem_inh hs, (fun e => by cases e), fun rm K => by rw [opw_sem (by omega), hs]; simp⟩
    | one r H' =>
      have hH : H' = H := by
        cases o with
        | bin kd op x y =>
          simp only [sem] at hs
          unfold binA at hs
          repeat' split at hs
          all_goals (try cases hs)
          all_goals (first | rfl | (obtain ⟨r, _, h2⟩ := Option.map_eq_some_iff.1 hs; cases h2; rfl))
        | eqs neg T n x y => simp only [sem] at hs; (repeat' split at hs) <;> cases hs
        | load n p => simp only [sem] at hs; (repeat' split at hs) <;> cases hs; rfl
        | len x =>
          simp only [sem] at hs
          obtain ⟨r, _, h2⟩ := Option.map_eq_some_iff.1 hs; cases h2; rfl
        | slv sz x hi => simp only [sem, slvA] at hs; (repeat' split at hs) <;> cases hs; rfl
        | idx sz x i =>
          simp only [sem, idxA] at hs
          repeat' split at hs
          all_goals (try cases hs)
          all_goals (obtain ⟨r, _, h2⟩ := Option.map_eq_some_iff.1 hs; cases h2; rfl)
        | call f S xs => simp only [sem] at hs; cases hs
        | callv x S xs => simp only [sem] at hs; split at hs <;> cases hs
        | callo f S xs => simp only [cls] at h; split at h <;> cases h
        | _ => simp [cls] at h
      subst hH
      exact ⟨True, false, 0, fun r' => r' = r, fun _ => ⟨r, rfl⟩, fun _ => rfl, fun rm K => by rw [opw_sem (by omega), hs]; simp⟩
end
end Av
end Go.Proofs.Ytdboofnogabefaa
/- Layer Av, part 19: names: an operation does not see an object whose name it does not hold. -/
namespace Go.Proofs.Ytdboofnogabefaa
namespace Av
open Go.RowKit
structure Good (D : Nat → Prop) (fr : Env) (H : Hp) : Prop where
  fr : ∀ t, okV D (fr t)
  ob : ∀ k x, H k = some x → D k ∧ okOb D x
section
variable {P : Program} {H : Hp} {rm n nm : Nat} {fr fr' : Env} {K K' : AV → Hp → Nat → Prop} {D D' : Nat → Prop}
theorem okC_mono (h : ∀ k, D k → D' k) {c : AC} (hc : okC D c) : okC D' c := by cases c <;> first | exact h _ hc | exact trivial
theorem okW_mono (h : ∀ k, D k → D' k) {c : AW} (hc : okW D c) : okW D' c := by cases c with
  | o c => exact okC_mono h hc
  | g cs => exact fun c hm => okC_mono h (hc c hm)
theorem okV_mono (h : ∀ k, D k → D' k) {c : AV} (hc : okV D c) : okV D' c := by cases c with
  | w c => exact okW_mono h hc
  | fn f a b => exact ⟨fun c hm => okW_mono h (hc.1 c hm), fun c hm => okW_mono h (hc.2 c hm)⟩
  | tup xs => exact fun c hm => okW_mono h (hc c hm)
theorem okOb_mono (h : ∀ k, D k → D' k) {c : Ob} (hc : okOb D c) : okOb D' c := by cases c with
  | cells cs => exact fun c hm => okC_mono h (hc c hm)
  | arr T sz xs => exact fun x hx c hm => okC_mono h (hc x hx c hm)
  | _ => exact trivial
theorem okC_ofV (v : Value) : okC D (ofV v) := by unfold ofV; split <;> exact trivial
theorem okW_ofW (v : Value) : okW D (ofW v) := by
  unfold ofW
  split
  · intro c hc
    obtain ⟨x, _, rfl⟩ := List.mem_map.1 hc
    exact okC_ofV x
  · exact okC_ofV _
theorem okV_ev (h : Good D fr H) (x : X) : okV D (ev fr x) := by
  cases x with
  | t n => exact h.fr n
  | k v => exact okW_ofW v
  | fn f => exact ⟨fun c hc => by (cases hc), fun c hc => by (cases hc)⟩
theorem hupd_ne {m k : Nat} {x : Option Ob} (h : k ≠ m) : hupd m x H k = H k := by simp [hupd, h]
theorem hupd_comm {m k : Nat} {x y : Option Ob} (h : k ≠ m) : hupd k x (hupd m y H) = hupd m y (hupd k x H) := by
  funext j
  simp only [hupd]
  by_cases h1 : j = k
  · subst h1; simp [h]
  · simp [h1]
def Out.hup (m : Nat) (x : Option Ob) : Out → Out
  | .one r H => .one r (hupd m x H)
  | .any p c R => .any p c R
section
variable {m : Nat} {x : Option Ob} (hm : ¬ D m)
include hm
theorem at_hupd {k : Nat} (h : D k) : hupd m x H k = H k := hupd_ne fun e => hm (e ▸ h)
theorem deep_hupd (hcl : ∀ k, D k → ∀ ob, H k = some ob → okOb D ob) : ∀ (d sz : Nat) (c : AC), okC D c → deep (hupd m x H) d sz c = deep H d sz c
  | 0, _, _, _ => rfl
  | d + 1, sz, c, h => by
    cases c <;> simp only [deep]
    rename_i k
    rw [at_hupd hm (show D k from h)]
    split
    · rename_i T s xs hH
      have hok := hcl k h _ hH
      rw [allO_congr fun y hy => allO_congr fun c hc => deep_hupd hcl d s c (hok y hy c hc)]
    · rfl
theorem bor_hupd (hcl : ∀ k, D k → ∀ ob, H k = some ob → okOb D ob) {c : AC} (h : okC D c) (sh : Option Nat) : bor (hupd m x H) sh c = bor H sh c := by
  cases c <;> simp only [bor] <;> rw [at_hupd hm h]
  rename_i k
  split
  · rename_i T s xs hH
    have hok := hcl k h _ hH
    rw [allO_congr fun y hy => allO_congr fun c hc => deep_hupd hm hcl 3 s c (hok y hy c hc)]
  · rfl
theorem borC_hupd (hcl : ∀ k, D k → ∀ ob, H k = some ob → okOb D ob) : ∀ {cs : List AC} (h : ∀ c, c ∈ cs → okC D c) (sh : List (Option Nat)), borC (hupd m x H) sh cs = borC H sh cs
  | [], _, sh => by cases sh <;> rfl
  | c :: cs, h, sh => by
    have h1 := fun s => bor_hupd (x := x) (H := H) hm hcl (h c (by simp)) s
    have h2 := fun s => borC_hupd hcl (fun d hd => h d (List.mem_cons_of_mem _ hd)) s
    cases sh <;> simp only [borC, h1, h2]
theorem borW_hupd (hcl : ∀ k, D k → ∀ ob, H k = some ob → okOb D ob) {c : AW} (h : okW D c) (sh : List (Option Nat)) : borW (hupd m x H) sh c = borW H sh c := by
  cases c with
  | o c => simp only [borW, bor_hupd hm hcl h]
  | g cs => simp only [borW, borC_hupd hm hcl h]
theorem borV_hupd (hcl : ∀ k, D k → ∀ ob, H k = some ob → okOb D ob) {c : AV} (h : okV D c) (sh : List (Option Nat)) : borV (hupd m x H) sh c = borV H sh c := by
  cases c with
  | w c => simp only [borV, borW_hupd hm hcl h]
  | fn f a b =>
    have h1 : a.map (borW (hupd m x H) []) = a.map (borW H []) := List.map_congr_left fun c hc => borW_hupd hm hcl (h.1 c hc) _
    have h2 : b.map (borW (hupd m x H) []) = b.map (borW H []) := List.map_congr_left fun c hc => borW_hupd hm hcl (h.2 c hc) _
    simp only [borV, h1, h2]
  | tup xs => rfl
theorem keeps_hupd {c : AC} (h : okC D c) : keeps (hupd m x H) c = keeps H c := by
  cases c <;> simp only [keeps]
  rw [at_hupd hm h]
theorem all_congr' {α : Type} {l : List α} {p q : α → Bool} (h : ∀ y, y ∈ l → p y = q y) : l.all p = l.all q := by
  induction l with
  | nil => rfl
  | cons y l ih => simp only [List.all_cons, h y (by simp), ih fun z hz => h z (List.mem_cons_of_mem _ hz)]
theorem keepsW_hupd {c : AW} (h : okW D c) : keepsW (hupd m x H) c = keepsW H c := by
  cases c with
  | o c => exact keeps_hupd hm h
  | g cs => exact all_congr' hm fun c hc => keeps_hupd hm (h c hc)
theorem keepsV_hupd {c : AV} (h : okV D c) : keepsV (hupd m x H) c = keepsV H c := by
  cases c with
  | w c => exact keepsW_hupd hm h
  | fn f a b => simp only [keepsV, all_congr' hm fun c hc => keepsW_hupd hm (h.1 c hc), all_congr' hm fun c hc => keepsW_hupd hm (h.2 c hc)]
  | tup xs => rfl
theorem lenA_hupd {c : AV} (h : okV D c) : lenA (hupd m x H) c = lenA H c := by
  unfold lenA
  split <;> try rfl
  · rename_i k
    rw [at_hupd hm (show D k from h)]
  · rename_i k hi
    rw [at_hupd hm (show D k from h)]
theorem ldc_hupd {c : AV} (h : okV D c) (j : Nat) : ldc (hupd m x H) c j = ldc H c j := by
  unfold ldc
  split <;> try rfl
  · rename_i k off; rw [at_hupd hm (show D k from h)]
  · rename_i k sz i off; rw [at_hupd hm (show D k from h)]
theorem Good.closed {H0 : Hp} (hG : Good D fr H0) (hag : ∀ k, D k → H k = H0 k) : ∀ k, D k → ∀ ob, H k = some ob → okOb D ob :=
  fun k hk ob e => (hG.ob k ob (by rw [← hag k hk]; exact e)).2
theorem borArgs_hupd {H0 : Hp} (hG : Good D fr H0) (hag : ∀ k, D k → H k = H0 k) (xs : List (X × List (Option Nat))) : borArgs fr (hupd m x H) xs = borArgs fr H xs :=
  List.map_congr_left fun p _ => borV_hupd hm (Good.closed hm hG hag) (okV_ev hG p.1) _
theorem oArgs_hupd {H0 : Hp} (hG : Good D fr H0) (hag : ∀ k, D k → H k = H0 k) (fl : Bool) (xs : List (X × List (Option Nat))) : oArgs fl fr (hupd m x H) xs = oArgs fl fr H xs := by
  cases fl
  · rfl
  · exact borArgs_hupd hm hG hag xs
theorem keepsX_hupd {H0 : Hp} (hG : Good D fr H0) (xs : List (X × List (Option Nat))) : (xs.all fun p => keepsV (hupd m x H) (ev fr p.1)) = (xs.all fun p => keepsV H (ev fr p.1)) :=
  all_congr' hm fun p _ => keepsV_hupd hm (okV_ev hG p.1)
theorem news_hupd {c : AV} (h : okV D c) : news (hupd m x H) c = news H c := by
  unfold news
  split <;> try rfl
  rename_i k; rw [at_hupd hm (show D k from h)]
theorem newsz_hupd {c : AV} (h : okV D c) (sz : Nat) : newsz (hupd m x H) sz c = newsz H sz c := by
  unfold newsz
  split <;> try rfl
  rename_i k; rw [at_hupd hm (show D k from h)]
theorem binA_hupd {kd : Nat} {op : BinOp} {a b : AV} {y : X} (h : okV D a) : binA kd op a b y (hupd m x H) = (binA kd op a b y H).map (Out.hup m x) := by
  unfold binA
  split
  · split
    · rw [Option.map_map]; rfl
    · rfl
  · cases op <;> rfl
  · split
    · cases op <;> rfl
    · split
      · cases op <;> rfl
      · rfl
  · split <;> rfl
  · split <;> rfl
  · have hD : D _ := h
    rw [at_hupd hm hD]
    split
    · split <;> rfl
    · rfl
  · rfl
theorem slcA_hupd {sz : Nat} {a : AV} {lo hi mx : Option X} : slcA fr sz a lo hi mx (hupd m x H) = (slcA fr sz a lo hi mx H).map (Out.hup m x) := by
  unfold slcA
  repeat' split
  all_goals rfl
theorem fldA_hupd {off : Nat} {a : AV} : fldA off a (hupd m x H) = (fldA off a H).map (Out.hup m x) := by
  unfold fldA
  repeat' split
  all_goals rfl
theorem slvA_hupd {sz : Nat} {a : AV} {hi : X} (h : okV D a) : slvA fr sz a hi (hupd m x H) = (slvA fr sz a hi H).map (Out.hup m x) := by
  unfold slvA
  split
  · rename_i k
    rw [at_hupd hm (show D k from h)]
    split
    · split
      · split <;> rfl
      · rfl
    · rfl
  · rfl
theorem idxA_hupd {sz : Nat} {a i : AV} (h : okV D a) : idxA sz a i (hupd m x H) = (idxA sz a i H).map (Out.hup m x) := by
  unfold idxA
  split
  · split
    · rw [Option.map_map]; rfl
    · rfl
  · split
    · rw [Option.map_map]; rfl
    · rfl
  · rename_i k _ q
    rw [at_hupd hm (show D k from h)]
    split
    · split
      · rw [Option.map_map]; rfl
      · rfl
    · rfl
  · rfl
theorem sem_hupd {H0 : Hp} (hG : Good D fr H0) (hag : ∀ k, D k → H k = H0 k) (hne : nm ≠ m) {o : AO} (hc : cls o < 3) : sem P nm fr (hupd m x H) o = (sem P nm fr H o).map (Out.hup m x) := by
  cases o with
  | bin kd op y z => exact binA_hupd hm (okV_ev hG _)
  | slc sz y lo hi mx => exact slcA_hupd hm
  | fld off p => exact fldA_hupd hm
  | slv sz y hi => exact slvA_hupd hm (okV_ev hG _)
  | idx sz y i => exact idxA_hupd hm (okV_ev hG _)
  | ext y i =>
    simp only [sem]
    split
    · rw [Option.map_map]; rfl
    · rfl
  | len y =>
    simp only [sem, lenA_hupd hm (okV_ev hG y)]
    cases lenA H (ev fr y) <;> rfl
  | load k p =>
    simp only [sem, ldc_hupd hm (okV_ev hG p)]
    cases ldc H (ev fr p) (k.getD 1) <;> rfl
  | call f S xs => simp only [sem, borArgs_hupd hm hG hag, keepsX_hupd hm hG]; rfl
  | callv y S xs =>
    simp only [sem, borArgs_hupd hm hG hag]
    split
    · rename_i f first cap hx
      have hok := okV_ev hG y
      rw [hx] at hok
      have h1 : (first.map fun a => AV.w (borW (hupd m x H) [] a)) = first.map fun a => AV.w (borW H [] a) := List.map_congr_left fun c hc => by rw [borW_hupd hm (Good.closed hm hG hag) (hok.1 c hc)]
      have h2 : (cap.map fun a => AV.w (borW (hupd m x H) [] a)) = cap.map fun a => AV.w (borW H [] a) := List.map_congr_left fun c hc => by rw [borW_hupd hm (Good.closed hm hG hag) (hok.2 c hc)]
      rw [h1, h2]; rfl
    · rfl
  | alloc zs => simp only [sem, hupd_comm hne]; rfl
  | bsl0 T sz => simp only [sem, hupd_comm hne]; rfl
  | bslf tk T sz xs =>
    simp only [sem, hupd_comm hne]
    split
    · split <;> rfl
    · rfl
  | box y =>
    simp only [sem, hupd_comm hne]
    split <;> rfl
  | bsl T sz xs =>
    simp only [sem, hupd_comm hne]
    split <;> rfl
  | callo f S xs =>
    have e := oArgs_hupd (x := x) hm hG hag S.fl xs
    simp only [sem]
    rw [e]
    by_cases hp : S.pre (oArgs S.fl fr H xs) ∧ ValidM P f S.toM
    · simp only [hupd_comm hne, if_pos hp]; rfl
    · simp only [hupd_comm hne, if_neg hp]; rfl
  | mksl T sz bytes zs l c =>
    simp only [sem, hupd_comm hne]
    split
    · split <;> rfl
    · rfl
  | mv y => rfl
  | store _ _ _ => simp [cls] at hc
  | app _ _ _ _ _ _ => simp [cls] at hc
  | clip _ _ _ _ => simp [cls] at hc
  | callm _ _ _ => simp [cls] at hc
  | callb _ _ _ => simp [cls] at hc
  | _ =>
    simp only [sem]
    repeat' split
    all_goals rfl
theorem hput_hupd (ρ : Nat → Nat) : ∀ (l : List (Option Ob)) (i : Nat) (H : Hp), (∀ j, i ≤ j → j < i + l.length → ρ j ≠ m) → hput ρ i l (hupd m x H) = hupd m x (hput ρ i l H)
  | [], _, _, _ => rfl
  | ob :: l, i, H, h => by
    simp only [hput]
    rw [hupd_comm (h i (Nat.le_refl _) (by simp))]
    exact hput_hupd ρ l (i + 1) _ fun j h1 h2 => h j (by omega) (by simp only [List.length_cons]; omega)
theorem opw_to_hupd (hG : Good D fr H) {o : AO} (hne : m < nm ∨ nm + stp o ≤ m) (h : opw P nm fr H rm (fun r H' rm' => K r (hupd m x H') rm') o) : opw P nm fr (hupd m x H) rm K o := by
  have hne0 : nm ≠ m := by have := stp_pos o; omega
  by_cases hc : cls o < 3
  · rw [opw_sem hc] at h ⊢
    rw [sem_hupd hm hG (fun _ _ => rfl) hne0 hc]
    revert h
    cases sem P nm fr H o with
    | none => exact id
    | some out => cases out <;> exact id
  · cases o with
    | store k p y =>
      have hp := okV_ev hG p
      simp only [opw] at h ⊢
      split
      · rename_i j off ds h1 h2
        rw [h1] at hp
        have hj : D j := hp
        rw [at_hupd hm hj]
        simp only [h1, h2] at h
        split
        · rename_i cs hk
          simp only [hk] at h
          refine ⟨h.1, h.2.1, ?_⟩
          rw [hupd_comm (fun (e : j = m) => hm (e ▸ hj))]; exact h.2.2
        · rename_i hk
          revert h
          split
          · rename_i cs hk'; exact absurd hk' (hk cs)
          · exact id
      · rename_i j sz i off ds h1 h2
        rw [h1] at hp
        have hj : D j := hp
        rw [at_hupd hm hj]
        simp only [h1, h2] at h
        split
        · rename_i T s xs hk
          simp only [hk] at h
          split
          · rename_i e he
            simp only [he] at h
            refine ⟨h.1, h.2.1, h.2.2.1, ?_⟩
            rw [hupd_comm (fun (e : j = m) => hm (e ▸ hj))]; exact h.2.2.2
          · rename_i he; simp only [he] at h
        · rename_i hk
          revert h
          split
          · rename_i T s xs hk'; exact absurd hk' (hk T s xs)
          · exact id
      · rename_i h1 h2
        revert h
        split
        · rename_i q1 q2; exact (h1 _ _ _ q1 q2).elim
        · rename_i q1 q2; exact (h2 _ _ _ _ _ q1 q2).elim
        · exact id
    | clip sz y hi mx =>
      have hy := okV_ev hG y
      simp only [opw] at h ⊢
      rcases h with ⟨k, T, xs, g1, g2, g3, g4, g5⟩ | ⟨g1, g2, g3, g4⟩
      · have hkm : k ≠ m := fun e => hm (e ▸ (hG.ob _ _ g2).1)
        refine .inl ⟨k, T, xs, g1, by rw [hupd_ne hkm]; exact g2, g3, g4, ?_⟩
        rw [hupd_comm hkm, hupd_comm hne0]; exact g5
      · exact .inr ⟨g1, g2, g3, g4⟩
    | app T sz bytes zs s y =>
      have hs := okV_ev hG s
      simp only [opw, news_hupd hm (okV_ev hG y), newsz_hupd hm (okV_ev hG y)] at h ⊢
      split
      · rename_i h1; simp only [h1] at h
      · rename_i ys h1
        simp only [h1] at h
        refine ⟨h.1, ?_⟩
        replace h := h.2
        split
        · rename_i j h2
          rw [h2] at hs
          have hj : D j := hs
          have hjm : j ≠ m := fun e => hm (e ▸ hj)
          rw [at_hupd hm hj]
          simp only [h2] at h
          split
          · rename_i hk
            simp only [hk] at h
            refine ⟨h.1, h.2.1, h.2.2.1, ?_⟩
            rw [hupd_comm hjm, hupd_comm hne0]; exact h.2.2.2
          · rename_i hk
            revert h
            split
            · rename_i hk'; exact absurd hk' (hk _ _ _)
            · exact id
        · rename_i j s' xs h2
          rw [h2] at hs
          have hj : D j := hs
          have hjm : j ≠ m := fun e => hm (e ▸ hj)
          rw [at_hupd hm hj]
          simp only [h2] at h
          split
          · rename_i hk h3
            simp only [hk, h3] at h
            refine ⟨h.1, h.2.1, h.2.2.1, h.2.2.2.1, h.2.2.2.2.1, ?_⟩
            rw [hupd_comm hjm, hupd_comm hne0]; exact h.2.2.2.2.2
          · rename_i hk
            revert h
            split
            · rename_i hk' h3; exact (hk _ _ _ _ hk' h3).elim
            · exact id
        · rename_i h2
          simp only [h2] at h
          refine ⟨h.1, ?_⟩
          rw [hupd_comm hne0]; exact h.2
        · rename_i h2 h3 h4
          revert h
          split
          · rename_i q; exact (h2 _ q).elim
          · rename_i q; exact (h3 _ _ _ q).elim
          · rename_i q; exact (h4 q).elim
          · exact id
    | callm f S xs =>
      simp only [opw] at h ⊢
      obtain ⟨h1, h2, ks, args, obs, h3, h4, h5, h6, h7, h8⟩ := h
      have hks : ∀ k, k ∈ ks → k ≠ m := by
        intro k hk e
        obtain ⟨i, hi⟩ := List.mem_iff_getElem?.1 hk
        obtain ⟨ob, _, q⟩ := h5 i k hi
        exact hm (e ▸ (hG.ob _ _ q).1)
      refine ⟨h1, h2, ks, args, obs, h3, h4, fun i k hk => ?_, h6, h7, fun r obs' q1 q2 q3 => ?_⟩
      · obtain ⟨ob, q, q'⟩ := h5 i k hk
        exact ⟨ob, q, by rw [hupd_ne (hks k (List.mem_of_getElem? hk))]; exact q'⟩
      · rw [hput_hupd hm]
        · exact h8 r obs' q1 q2 q3
        · intro j _ hj2
          unfold nmapS
          split
          · rename_i hj; exact hks _ (List.getElem_mem hj)
          · simp only [stp] at hne
            omega
    | callb f S xs =>
      simp only [opw] at h ⊢
      rw [borArgs_hupd hm hG (fun _ _ => rfl)]
      refine ⟨h.1, h.2.1, h.2.2.1, h.2.2.2.1, h.2.2.2.2.1, fun r obs' q1 q2 q3 => ?_⟩
      rw [hput_hupd hm]
      · exact h.2.2.2.2.2 r obs' q1 q2 q3
      · intro j _ hj2
        simp only [nmapS, List.length_nil, Nat.not_lt_zero, dite_false, Nat.sub_zero]
        simp only [stp] at hne
        omega
    | callo f S xs =>
      rw [opw_callo] at h ⊢
      rw [oArgs_hupd hm hG (fun _ _ => rfl), hupd_comm hne0]
      exact h
    | bin kd op x y => simp only [cls] at hc; split at hc <;> omega
    | _ => exact absurd (by simp [cls]) hc
end
theorem opw_of_hupd {m : Nat} {x : Option Ob} (hm : ¬ D m) (hG : Good D fr H) {o : AO} (hne : m < nm ∨ nm + stp o ≤ m) (hno : ∀ f S xs, o ≠ .callm f S xs) (h : opw P nm fr (hupd m x H) rm K o) : opw P nm fr H rm (fun r H' rm' => K r (hupd m x H') rm') o := by
  have hne0 : nm ≠ m := by have := stp_pos o; omega
  by_cases hc : cls o < 3
  · rw [opw_sem hc] at h ⊢
    rw [sem_hupd hm hG (fun _ _ => rfl) hne0 hc] at h
    revert h
    cases sem P nm fr H o with
    | none => exact id
    | some out => cases out <;> exact id
  · cases o with
    | store k p y =>
      have hp := okV_ev hG p
      simp only [opw] at h ⊢
      split at h
      · rename_i j off ds h1 h2
        rw [h1] at hp
        have hj : D j := hp
        rw [at_hupd hm hj] at h
        split at h
        · rename_i cs hk
          rw [hupd_comm (fun (e : j = m) => hm (e ▸ hj))] at h
          exact h
        · exact h.elim
      · rename_i j sz i off ds h1 h2
        rw [h1] at hp
        have hj : D j := hp
        rw [at_hupd hm hj] at h
        split at h
        · rename_i T s xs hk
          split at h
          · rename_i e he
            rw [hupd_comm (fun (e : j = m) => hm (e ▸ hj))] at h
            exact h
          · exact h.elim
        · exact h.elim
      · exact h.elim
    | clip sz y hi mx =>
      have hy := okV_ev hG y
      simp only [opw] at h ⊢
      rcases h with ⟨k, T, xs, g1, g2, g3, g4, g5⟩ | ⟨g1, g2, g3, g4⟩
      · have hkm : k ≠ m := by
          rw [g1] at hy
          exact fun e => hm (e ▸ (show D k from hy))
        rw [hupd_ne hkm] at g2
        refine .inl ⟨k, T, xs, g1, g2, g3, g4, ?_⟩
        rw [hupd_comm hkm, hupd_comm hne0] at g5; exact g5
      · exact .inr ⟨g1, g2, g3, g4⟩
    | app T sz bytes zs s y =>
      have hs := okV_ev hG s
      simp only [opw, news_hupd hm (okV_ev hG y), newsz_hupd hm (okV_ev hG y)] at h ⊢
      split at h
      · exact h.elim
      · refine ⟨h.1, ?_⟩
        replace h := h.2
        split at h
        · rename_i j h2
          rw [h2] at hs
          have hj : D j := hs
          have hjm : j ≠ m := fun e => hm (e ▸ hj)
          rw [at_hupd hm hj] at h
          split at h
          · refine ⟨h.1, h.2.1, h.2.2.1, ?_⟩
            rw [hupd_comm hjm, hupd_comm hne0] at h; exact h.2.2.2
          · exact h.elim
        · rename_i j s' xs h2
          rw [h2] at hs
          have hj : D j := hs
          have hjm : j ≠ m := fun e => hm (e ▸ hj)
          rw [at_hupd hm hj] at h
          split at h
          · refine ⟨h.1, h.2.1, h.2.2.1, h.2.2.2.1, h.2.2.2.2.1, ?_⟩
            rw [hupd_comm hjm, hupd_comm hne0] at h; exact h.2.2.2.2.2
          · exact h.elim
        · refine ⟨h.1, ?_⟩
          rw [hupd_comm hne0] at h; exact h.2
        · exact h.elim
    | callm f S xs => exact (hno f S xs rfl).elim
    | callb f S xs =>
      simp only [opw] at h ⊢
      rw [borArgs_hupd hm hG (fun _ _ => rfl)] at h
      refine ⟨h.1, h.2.1, h.2.2.1, h.2.2.2.1, h.2.2.2.2.1, fun r obs' q1 q2 q3 => ?_⟩
      have h6 := h.2.2.2.2.2 r obs' q1 q2 q3
      rw [hput_hupd hm] at h6
      · exact h6
      · intro j _ hj2
        simp only [nmapS, List.length_nil, Nat.not_lt_zero, dite_false, Nat.sub_zero]
        simp only [stp] at hne
        omega
    | callo f S xs =>
      rw [opw_callo] at h ⊢
      rw [oArgs_hupd hm hG (fun _ _ => rfl), hupd_comm hne0] at h
      exact h
    | bin kd op x y => simp only [cls] at hc; split at hc <;> omega
    | _ => exact absurd (by simp [cls]) hc
end
end Av
end Go.Proofs.Ytdboofnogabefaa
