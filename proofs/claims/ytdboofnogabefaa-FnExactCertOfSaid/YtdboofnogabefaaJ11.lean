/- Texts of the layer, joined. -/
import Derived.Test.YtdboofnogabefaaRows
import Derived.Test.YtdboofnogabefaaRA
import Derived.Test.YtdboofnogabefaaE4
import Derived.KernelRfl
set_option linter.unusedVariables false
set_option linter.unusedSimpArgs false
namespace Go.Proofs.Ytdboofnogabefaa
namespace Av
open Go.RowKit Go.ChangeShapes Go.WideShapes Go.ChangeAt
theorem own0 : ownKnob Try.prog.godebug = none := by kernel_rfl
theorem laid0 : laidOutB Try.prog = true := by kernel_rfl
section
variable {H : Type} {enc : TypeId × Value → H} {w : World} {base : Nat} {sp : Nat → Bool} {held : Bool}
def BigIt (x : It) : Prop := I64 x.e ∧ I64 x.p.f ∧ I64 x.p.t ∧ I64 x.p.s
def BigC (c : List It) : Prop := c.length ≤ BIG ∧ ∀ x, x ∈ c → BigIt x
def BigVo (v : Vo) : Prop := I64 v.n ∧ BigC v.c
def BigVs' (l : List Vo) : Prop := l.length ≤ BIG ∧ ∀ v, v ∈ l → BigVo v
theorem cells_int : Try.prog.cellsOf 3 = 1 := by kernel_rfl
theorem cells_Pay : Try.prog.cellsOf 72 = 3 := by kernel_rfl
theorem cells_It : Try.prog.cellsOf 141 = 4 := by kernel_rfl
theorem cells_C : Try.prog.cellsOf 77 = 1 := by kernel_rfl
theorem cells_Vo : Try.prog.cellsOf 79 = 2 := by kernel_rfl
theorem rd_It : RdT enc Try.prog w base sp held 141 itF BigIt := by
  intro fuel cs x h
  obtain ⟨y0, y1, n, hl, h0, h1⟩ := trod_st2 Try.underlying141 h
  obtain ⟨z0, z1, z2, m, hl2, g0, g1, g2⟩ := trod_st3 Try.underlying72 h1
  simp only [cells_int, cells_Pay, cells_It] at hl hl2 h0 g0 g1 g2
  obtain ⟨a, b, c, d, rfl⟩ := list_of4 hl
  obtain ⟨e, r0, q0⟩ := rd_int Try.underlying3 _ _ _ h0
  obtain ⟨f, r1, q1⟩ := rd_int Try.underlying3 _ _ _ g0
  obtain ⟨t, r2, q2⟩ := rd_int Try.underlying3 _ _ _ g1
  obtain ⟨s, r3, q3⟩ := rd_int Try.underlying3 _ _ _ g2
  refine ⟨⟨e, ⟨f, t, s⟩⟩, ?_, q0, q1, q2, q3⟩
  exact .cons (r0.2 0 _ _ rfl rfl) (.cons (r1.2 0 _ _ rfl rfl) (.cons (r2.2 0 _ _ rfl rfl) (.cons (r3.2 0 _ _ rfl rfl) .nil)))
theorem rd_C : RdT enc Try.prog w base sp held 77 (fun c => [chF c]) BigC := rd_slice' Try.underlying77 cells_It (by decide) (fun _ => rfl) rd_It
theorem rd_Vo : RdT enc Try.prog w base sp held 79 voF BigVo := by
  intro fuel cs x h
  obtain ⟨y0, y1, n, hl, h0, h1⟩ := trod_st2 Try.underlying79 h
  simp only [cells_int, cells_C, cells_Vo] at hl h0 h1
  obtain ⟨a, b, rfl⟩ := list_of2 hl
  obtain ⟨e, r0, q0⟩ := rd_int Try.underlying3 _ _ _ h0
  obtain ⟨c, r1, q1⟩ := rd_C _ _ _ h1
  exact ⟨⟨e, c⟩, .cons (r0.2 0 _ _ rfl rfl) (.cons (r1.2 0 _ _ rfl rfl) .nil), q0, q1⟩
theorem rd_Vs : RdT enc Try.prog w base sp held 55 (fun l => [vsF l]) BigVs' := rd_slice' Try.underlying55 cells_Vo (by decide) (fun _ => rfl) rd_Vo
theorem BigVs'.big {l : List Vo} (h : BigVs' l) : BigVs l := ⟨h.1, fun v hv => (h.2 v hv).2.1⟩
end
end Av
end Go.Proofs.Ytdboofnogabefaa

namespace Go.Proofs.Ytdboofnogabefaa
namespace Av
open Go.RowKit
theorem VotesOk.nodup {l : List Vo} (h : VotesOk l) : l.Nodup := by
  rw [List.nodup_iff_pairwise_ne, List.pairwise_iff_getElem]
  intro i j hi hj hij e
  have h1 := (h j l[j] (List.getElem?_eq_getElem hj)).2
  apply h1
  rw [List.mem_take_iff_getElem]
  exact ⟨i, by omega, e⟩
theorem VotesOk.ok {l : List Vo} (h : VotesOk l) {v : Vo} (hv : v ∈ l) : VoteOk v := by
  obtain ⟨i, hi⟩ := List.mem_iff_getElem?.1 hv
  exact (h i v hi).1
theorem many_voters {l : List Vo} (h : VotesOk l) (d : List It) : many l d = (voters l d).length := by
  unfold many
  rw [List.countP_eq_length_filter, ← List.length_map (f := fun v : Vo => v.n)]
  apply List.Perm.length_eq
  have n1 : ((l.filter fun v => decide (v.c = d)).map fun v => v.n).Nodup := by
    rw [List.nodup_iff_pairwise_ne, List.pairwise_map]
    have : (l.filter fun v => decide (v.c = d)).Nodup := List.Nodup.sublist List.filter_sublist h.nodup
    rw [List.nodup_iff_pairwise_ne] at this
    refine this.imp_of_mem fun {a b} ha hb hne e => hne ?_
    have ha := (List.mem_filter.1 ha).2
    have hb := (List.mem_filter.1 hb).2
    simp only [decide_eq_true_eq] at ha hb
    cases a; cases b; simp_all
  have n2 : (voters l d).Nodup := List.Nodup.sublist List.filter_sublist (by decide)
  rw [List.perm_ext_iff_of_nodup n1 n2]
  intro n
  unfold voters
  simp only [List.mem_map, List.mem_filter, decide_eq_true_eq, tb_iff]
  constructor
  · rintro ⟨v, ⟨hv, rfl⟩, rfl⟩
    refine ⟨?_, hv⟩
    have := (h.ok hv).1
    have h1 : v.n = 1 ∨ v.n = 2 ∨ v.n = 3 ∨ v.n = 4 := by obtain ⟨h1, h2⟩ := this; omega
    simpa using h1
  · rintro ⟨_, hv⟩
    exact ⟨⟨n, d⟩, ⟨hv, rfl⟩, rfl⟩
theorem sureM_iff {l : List Vo} (h : VotesOk l) (c : List It) : SureM l c ↔ Sure l c := by
  unfold SureM Sure SureAt
  simp only [many_voters h]
theorem allFromM_eq {l : List Vo} (h : VotesOk l) : ∀ (r : List Vo) (out : List (List It)), allFromM l r out = allFrom l r out
  | [], _ => rfl
  | v :: r, out => by
    simp only [allFromM, allFrom]
    rw [show tb (v.c ∉ out ∧ SureM l v.c) = tb (v.c ∉ out ∧ Sure l v.c) from by rw [sureM_iff h]]
    exact allFromM_eq h r _
theorem allM_eq {l : List Vo} (h : VotesOk l) : allM l = allS l := allFromM_eq h l _
end Av
end Go.Proofs.Ytdboofnogabefaa

