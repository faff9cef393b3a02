/- The walks: the reader: opening, picking a number. -/
import Derived.Test.YtfijfccgghhkoaaE7
import Derived.Test.YtfijfccgghhkoaaW0
import Derived.Test.YtfijfccgghhkoaaJ21
set_option linter.unusedVariables false
set_option linter.unusedSimpArgs false
namespace Go.Proofs.Ytfijfccgghhkoaa
namespace Av
open Go.RowKit
/-- The same of the reader's two cells. -/
def S_pickM : MSpec := mkM (α := List Int × Int × Int) (fun a => [pt0, I a.2.1]) (fun a => [.cells [.c (byF a.1), cI a.2.2]]) (fun a => RdOk a.1 ∧ 0 ≤ a.2.2 ∧ a.2.2 < LIM)
  (fun a r obs' => (∃ k : Int, r = I k ∧ 0 ≤ k ∧ (1 ≤ a.2.1 → k < a.2.1) ∧ (a.2.1 < 1 → k = 0)) ∧ obs' = [some (.cells [.c (byF a.1), cI (a.2.2 + 1)])]) 1
  (fun a _ => ⟨I 0, _, ⟨⟨0, rfl, Int.le_refl _, fun h => by omega, fun _ => rfl⟩, rfl⟩, trivial, ok_sg (by
    intro c hc
    simp only [List.mem_cons, List.not_mem_nil, or_false] at hc
    rcases hc with rfl | rfl <;> exact trivial)⟩) (fun b r obs' ⟨_, h⟩ => by rw [h]; exact ⟨by simp, by simp⟩)
theorem mix_ok {x y q L : Int} (hx : 0 ≤ x ∧ x ≤ 255) (hy : 0 ≤ y ∧ y ≤ 255) (hq : 0 ≤ q) (hq' : q < 1099511627776) (hL : 0 < L) :
    0 ≤ IntKind.i64.wrap (IntKind.i64.wrap (IntKind.i64.wrap (IntKind.i64.wrap (IntKind.i64.wrap x * 131) + IntKind.i64.wrap (IntKind.i64.wrap y * 1117)) + IntKind.i64.wrap (q * 29)) + IntKind.i64.wrap (IntKind.i64.wrap (q.tdiv L) * 53)) ∧
    IntKind.i64.wrap (IntKind.i64.wrap (IntKind.i64.wrap (IntKind.i64.wrap (IntKind.i64.wrap x * 131) + IntKind.i64.wrap (IntKind.i64.wrap y * 1117)) + IntKind.i64.wrap (q * 29)) + IntKind.i64.wrap (IntKind.i64.wrap (q.tdiv L) * 53)) < 4611686018427387904 := by
  have d0 : 0 ≤ q.tdiv L := Int.tdiv_nonneg hq (by omega)
  have d1 : q.tdiv L ≤ q := by
    rw [Int.tdiv_eq_ediv_of_nonneg hq]
    exact Int.ediv_le_self _ hq
  generalize q.tdiv L = d at *
  rw [wrap64 (n := x) (by omega) (by omega), wrap64 (n := y) (by omega) (by omega), wrap64 (n := x * 131) (by omega) (by omega), wrap64 (n := y * 1117) (by omega) (by omega), wrap64 (n := x * 131 + y * 1117) (by omega) (by omega),
    wrap64 (n := q * 29) (by omega) (by omega), wrap64 (n := x * 131 + y * 1117 + q * 29) (by omega) (by omega), wrap64 (n := d) (by omega) (by omega), wrap64 (n := d * 53) (by omega) (by omega), wrap64 (n := x * 131 + y * 1117 + q * 29 + d * 53) (by omega) (by omega)]
  omega
theorem xor_ok {X : Int} (h : 0 ≤ X) (h' : X < 4611686018427387904) : 0 ≤ IntKind.i64.wrap (((BitVec.ofInt IntKind.i64.bits X ^^^ BitVec.ofInt IntKind.i64.bits (IntKind.i64.wrap (X.tdiv 64))).toNat : Nat) : Int) := by
  have d0 : 0 ≤ X.tdiv 64 := Int.tdiv_nonneg h (by omega)
  have d1 : X.tdiv 64 ≤ X := by
    rw [Int.tdiv_eq_ediv_of_nonneg h]
    exact Int.ediv_le_self _ h
  rw [wrap64 (n := X.tdiv 64) (by omega) (by omega)]
  generalize X.tdiv 64 = d at *
  have hb : IntKind.i64.bits = 64 := rfl
  rw [hb, BitVec.toNat_xor]
  have e1 : (BitVec.ofInt 64 X).toNat < 2 ^ 62 := by
    rw [BitVec.toNat_ofInt]
    have : X % ((2 ^ 64 : Nat) : Int) = X := Int.emod_eq_of_lt h (by omega)
    rw [this]; omega
  have e2 : (BitVec.ofInt 64 d).toNat < 2 ^ 62 := by
    rw [BitVec.toNat_ofInt]
    have : d % ((2 ^ 64 : Nat) : Int) = d := Int.emod_eq_of_lt d0 (by omega)
    rw [this]; omega
  have e3 := Nat.xor_lt_two_pow e1 e2
  rw [wrap64] <;> omega
theorem vM_pick : ValidM Try.prog n_spec_l6Rd_pick S_pickM := by
  refine validM_of_swp mixed is_spec_l6Rd_pick (by rintro _ _ ⟨a, rfl, _⟩; exact Nat.le_of_ble_eq_true rfl) ?_
  rintro _ _ rm ⟨⟨b, n, p⟩, rfl, rfl, hrd, hp0, hp1⟩ hl
  dsimp only at hrd hp0 hp1
  obtain ⟨q, rfl⟩ := Int.eq_ofNat_of_zero_le hp0
  have hw1 : IntKind.i64.wrap ((q : Int) + 1) = (q : Int) + 1 := by simp only [LIM] at hp1; rw [wrap64] <;> omega
  have hw2 : IntKind.i64.wrap ((q : Int) + 1 - 1) = (q : Int) := by simp only [LIM] at hp1; rw [wrap64] <;> omega
  have fin : ∀ k : Int, 0 ≤ k → (1 ≤ n → k < n) → (n < 1 → k = 0) → S_pickM.post [pt0, I n] [.cells [.c (byF b), cI (q : Int)]] (I k) [some (.cells ([byF b, fI ((q : Int) + 1)].map AC.c))] := fun k h1 h2 h3 => ⟨(b, n, (q : Int)), rfl, rfl, ⟨k, rfl, h1, h2, h3⟩, rfl⟩
  have hcell : ∀ {x : Option Ob} {H : Hp}, x = some (.cells [.c (byF b), cI (IntKind.i64.wrap ((q : Int) + 1))]) → hupd 0 x H 0 = some (.cells ([byF b, fI ((q : Int) + 1)].map AC.c)) := fun h => by rw [hupd_at, h, hw1]; rfl
  repeat' ((conv => whnf); first
    | refine ⟨_, rfl, ?_⟩
    | refine ⟨rfl, ?_⟩
    | refine ⟨_, _, rfl, rfl, rfl, Nat.le_of_ble_eq_true rfl, ?_⟩
    | fail)
  conv => whnf
  refine ⟨fun hc => ?_, fun hc => ?_⟩
  · have hc : n < 1 := hc
    skip
    conv => whnf
    exact finM_cells (by omega) (hcell rfl) ⟨⟨_, rfl, .inl rfl⟩, trivial⟩ (fin 0 (Int.le_refl _) (fun h => by omega) fun _ => rfl)
  · have hc : 1 ≤ n := hc
    repeat' ((conv => whnf); first
      | refine ⟨_, rfl, ?_⟩
      | refine ⟨rfl, ?_⟩
      | fail)
    conv => whnf
    refine ⟨fun hz => ?_, fun hz => ?_⟩
    · have hz : ((b.map fun n => [FV.v (.int .u8 n)]).length : Int) = 0 := hz
      skip
      conv => whnf
      exact finM_cells (by omega) (hcell rfl) ⟨⟨_, rfl, .inl rfl⟩, trivial⟩ (fin 0 (Int.le_refl _) (fun h => by omega) fun _ => rfl)
    · have hz : ¬ ((b.map fun n => [FV.v (.int .u8 n)]).length : Int) = 0 := hz
      rw [List.length_map] at hz
      have hb : ∀ (i : Nat) (x : Int), b[i]? = some x → 0 ≤ x ∧ x ≤ 255 := fun i x h => hrd.2 x (List.mem_of_getElem? h)
      have hcv : ∀ x : Int, 0 ≤ x ∧ x ≤ 255 → IntKind.i64.wrap x = x := fun x h => by rw [wrap64] <;> omega
      repeat' ((conv => whnf); first
        | refine ⟨_, rfl, ?_⟩
        | refine ⟨rfl, ?_⟩
        | fail)
      conv => whnf
      refine ⟨fun hk => ?_, fun hk => ?_⟩
      · have hk : IntKind.i64.wrap (IntKind.i64.wrap ((q : Int) + 1) - 1) < ((b.map fun n => [FV.v (.int .u8 n)]).length : Int) := hk
        rw [hw1, hw2, List.length_map] at hk
        repeat' ((conv => whnf); first
          | refine ⟨_, rfl, ?_⟩
          | refine ⟨rfl, ?_⟩
          | fail)
        conv => whnf
        refine idx_mapE (i := q) (by rw [hw1, hw2]) (by show q < b.length; omega) (fun x hx => ?_)
        repeat' ((conv => whnf); first
          | refine ⟨_, rfl, ?_⟩
          | refine ⟨rfl, ?_⟩
          | fail)
        conv => whnf
        refine ⟨by omega, ?_⟩
        skip
        conv => whnf
        refine finM_cells (by omega) (hcell rfl) ⟨⟨_, rfl, .inl rfl⟩, trivial⟩ (fin _ ?_ ?_ ?_)
        · rw [hcv x (hb q x hx)]
          exact Int.tmod_nonneg _ (hb q x hx).1
        · intro _
          rw [hcv x (hb q x hx)]
          exact Int.tmod_lt_of_pos _ (by omega)
        · intro h; omega
      · have hL : ((b.map fun n => [FV.v (.int .u8 n)]).length : Int) ≠ 0 := by rw [List.length_map]; exact hz
        have hL' : ((b.map fun n => [FV.v (.int .u8 n)]).length : Int) = b.length := by rw [List.length_map]
        have hpos : (0 : Int) < b.length := by omega
        have hlen : (b.length : Int) ≤ 2000 := by have := hrd.1; omega
        have i1 : (((q : Int).tmod b.length).toNat : Int) = (q : Int).tmod b.length := by have := Int.tmod_nonneg (a := (q : Int)) b.length (by omega); omega
        have i2 : (q : Int).tmod b.length < b.length := Int.tmod_lt_of_pos _ hpos
        have hm : IntKind.i64.wrap (IntKind.i64.wrap ((q : Int) * 7) + 3) = (q : Int) * 7 + 3 := by
          simp only [LIM] at hp1
          rw [wrap64 (n := (q : Int) * 7), wrap64] <;> omega
        have j1 : ((((q : Int) * 7 + 3).tmod b.length).toNat : Int) = ((q : Int) * 7 + 3).tmod b.length := by have := Int.tmod_nonneg (a := (q : Int) * 7 + 3) b.length (by omega); omega
        have j2 : ((q : Int) * 7 + 3).tmod b.length < b.length := Int.tmod_lt_of_pos _ hpos
        repeat' ((conv => whnf); first
          | refine ⟨_, rfl, ?_⟩
          | refine ⟨rfl, ?_⟩
          | fail)
        conv => whnf
        refine ⟨hL, ?_⟩
        repeat' ((conv => whnf); first
          | refine ⟨rfl, ?_⟩
          | fail)
        conv => whnf
        refine idx_mapE (i := ((q : Int).tmod b.length).toNat) (by rw [hw1, hw2, hL', i1]) (by show _ < b.length; omega) (fun x hx => ?_)
        repeat' ((conv => whnf); first
          | refine ⟨_, rfl, ?_⟩
          | refine ⟨rfl, ?_⟩
          | fail)
        conv => whnf
        refine ⟨hL, ?_⟩
        repeat' ((conv => whnf); first
          | refine ⟨rfl, ?_⟩
          | fail)
        conv => whnf
        refine idx_mapE (i := (((q : Int) * 7 + 3).tmod b.length).toNat) (by rw [hw1, hw2, hL', hm, j1]) (by show _ < b.length; omega) (fun y hy => ?_)
        repeat' ((conv => whnf); first
          | refine ⟨_, rfl, ?_⟩
          | refine ⟨rfl, ?_⟩
          | fail)
        conv => whnf
        refine ⟨hL, ?_⟩
        repeat' ((conv => whnf); first
          | refine ⟨rfl, ?_⟩
          | fail)
        conv => whnf
        refine ⟨by decide, ?_⟩
        repeat' ((conv => whnf); first
          | refine ⟨rfl, ?_⟩
          | fail)
        conv => whnf
        refine ⟨by omega, ?_⟩
        skip
        conv => whnf
        refine finM_cells (by omega) (hcell rfl) ⟨⟨_, rfl, .inl rfl⟩, trivial⟩ (fin _ ?_ ?_ ?_)
        · show 0 ≤ Int.tmod _ n
          refine Int.tmod_nonneg _ ?_
          dsimp only
          rw [hw1, hw2, hL']
          have := mix_ok (hb _ x hx) (hb _ y hy) hp0 hp1 hpos
          exact xor_ok this.1 this.2
        · intro _
          exact Int.tmod_lt_of_pos _ (by omega)
        · intro h; omega
theorem v_spec_l6Rd_pick : Valid Try.prog n_spec_l6Rd_pick S_spec_l6Rd_pick := by
  refine valid_of_rdM vM_pick rfl ?_
  rintro _ ⟨⟨b, n⟩, rfl, hb⟩
  refine ⟨byF b, [I n], rfl, fun rm p h1 h2 h3 => ⟨(b, n, p), rfl, rfl, hb, h2, by have e : S_spec_l6Rd_pick.cost = 1 := rfl; rw [e] at h1; simp only [LIM] at *; omega⟩, ?_⟩
  rintro p r obs' ⟨⟨b', n', p'⟩, h1, h2, ⟨k, rfl, h3, h4, h5⟩, h6⟩
  simp only [List.cons.injEq, and_true, true_and, Ob.cells.injEq, AC.c.injEq, byF_inj, aI_inj, fI_inj] at h1 h2
  obtain ⟨rfl, rfl⟩ := h2
  subst h1
  exact ⟨⟨(b, n), rfl, k, rfl, h3, (by dsimp only at h4 h5 ⊢; by_cases h : 1 ≤ n; exact .inl (h4 h); exact .inr ⟨by omega, h5 (by omega)⟩)⟩, rfl, h6⟩
/-- The same with the cells told. -/
def S_openM : MSpec := mkM (α := List Int) (fun b => [one (byF b)]) (fun _ => []) CodeOk (fun _ r obs' => ∃ b, r = pt0 ∧ obs' = [some (.cells [.c (byF b), cI 0])] ∧ RdOk b) 0
  (fun b _ => ⟨pt0, _, ⟨[], rfl, rfl, Nat.zero_le _, fun x h => by cases h⟩, okp Nat.one_pos, ok_sg (by
    intro c hc
    simp only [List.mem_cons, List.not_mem_nil, or_false] at hc
    rcases hc with rfl | rfl <;> exact trivial)⟩) (fun b r obs' ⟨c, _, h, _⟩ => by rw [h]; exact ⟨by simp, by simp⟩)
theorem vM_open : ValidM Try.prog n_spec_l6Open S_openM := by
  refine validM_of_swp mixed is_spec_l6Open (by rintro _ _ ⟨a, rfl, _⟩; exact Nat.le_of_ble_eq_true rfl) ?_
  rintro _ _ rm ⟨b, rfl, rfl, hb⟩ hl
  have h20 : ∀ l : List Int, Bytes l → Bytes (l.take 2000) := fun l h x hx => h x (List.mem_of_mem_take hx)
  repeat' ((conv => whnf); first
    | refine ⟨rfl, ?_⟩
    | fail)
  conv => whnf
  refine ⟨fun hc => ?_, fun hc => ?_⟩
  · have hc : (2000 : Int) < ((b.map fun n => [FV.v (.int .u8 n)]).length : Int) := hc
    conv => whnf
    refine ⟨_, slc_to (sz := 1) (xs := b.map fun n => [FV.v (.int .u8 n)]) (i := 2000) rfl (by omega), ?_⟩
    rw [show (b.map fun n => [FV.v (.int .u8 n)]).take 2000 = (b.take 2000).map fun n => [FV.v (.int .u8 n)] from by rw [List.map_take]]
    skip
    conv => whnf
    exact finM_ptr (cs := [byF (b.take 2000), fI 0]) (by omega) hupd_at ⟨⟨_, rfl, .inl rfl⟩, trivial⟩ ⟨b, rfl, rfl, b.take 2000, rfl, rfl, by simp; omega, h20 b hb.2⟩
  · have hc : ((b.map fun n => [FV.v (.int .u8 n)]).length : Int) ≤ 2000 := hc
    rw [List.length_map] at hc
    skip
    conv => whnf
    exact finM_ptr (cs := [byF b, fI 0]) (by omega) hupd_at ⟨⟨_, rfl, .inl rfl⟩, trivial⟩ ⟨b, rfl, rfl, b, rfl, rfl, by omega, hb.2⟩
theorem v_spec_l6Open : ValidM Try.prog n_spec_l6Open S_spec_l6Open := by
  refine validM_rd vM_open rfl (fun args obs h => h) fun args obs r obs' h h' => ?_
  obtain ⟨a, h1, h2, b, rfl, rfl, hb⟩ := h'
  exact ⟨byF b, [], rfl, fun _ _ _ => .inr trivial, a, h1, h2, b, rfl, rfl, hb⟩
end Av
end Go.Proofs.Ytfijfccgghhkoaa
/- The walks: drawn payments and chains. -/
namespace Go.Proofs.Ytfijfccgghhkoaa
namespace Av
open Go.RowKit
attribute [local irreducible] Valid ValidM
end Av
end Go.Proofs.Ytfijfccgghhkoaa
/- The walks: two drawn chains, a drawn vote, votes anew and one more. -/
namespace Go.Proofs.Ytfijfccgghhkoaa
namespace Av
open Go.RowKit
end Av
end Go.Proofs.Ytfijfccgghhkoaa
/- The walks: drawn votes. -/
namespace Go.Proofs.Ytfijfccgghhkoaa
namespace Av
open Go.RowKit
end Av
end Go.Proofs.Ytfijfccgghhkoaa
/- The walks: votes drawn, some spoilt; the drawing functions of the laws. -/
namespace Go.Proofs.Ytfijfccgghhkoaa
namespace Av
open Go.RowKit
theorem fit16 {c : List It} (h : c.length ≤ 16) : c.length ≤ LIM := Nat.le_trans h (by decide)
end Av
end Go.Proofs.Ytfijfccgghhkoaa
