/- The walks: the reader: opening, picking a number. -/
import Derived.Test.YtdboofnogabefaaE7
import Derived.Test.YtdboofnogabefaaW0
import Derived.Test.YtdboofnogabefaaG2
set_option linter.unusedVariables false
set_option linter.unusedSimpArgs false
namespace Go.Proofs.Ytdboofnogabefaa
namespace Av
open Go.RowKit
/-- The same of the reader's two cells. -/
def S_pickM : MSpec := mkM (α := List Int × Int × Int) (fun a => [pt0, I a.2.1]) (fun a => [.cells [.c (byF a.1), cI a.2.2]]) (fun a => RdOk a.1 ∧ 0 ≤ a.2.2 ∧ a.2.2 < LIM)
  (fun a r obs' => (∃ k : Int, r = I k ∧ 0 ≤ k ∧ (1 ≤ a.2.1 → k < a.2.1) ∧ (a.2.1 < 1 → k = 0)) ∧ obs' = [some (.cells [.c (byF a.1), cI (a.2.2 + 1)])]) 1
  (fun a _ => ⟨I 0, _, ⟨⟨0, rfl, Int.le_refl _, fun h => by omega, fun _ => rfl⟩, rfl⟩, trivial, ok_sg (by
    intro c hc
    simp only [List.mem_cons, List.not_mem_nil, or_false] at hc
    rcases hc with rfl | rfl <;> exact trivial)⟩) (fun b r obs' ⟨_, h⟩ => by rw [h]; exact ⟨by simp, by simp⟩)
theorem mix_ok {x y q L : Int} (hx : 0 ≤ x ∧ x ≤ 255) (hy : 0 ≤ y ∧ y ≤ 255) (hq : 0 ≤ q) (hq' : q < 1099511627776) (hL : 0 < L) :
    0 ≤ IntKind.i64.wrap (IntKind.i64.wrap (IntKind.i64.wrap (IntKind.i64.wrap (IntKind.i64.wrap x * 131) + IntKind.i64.wrap (IntKind.i64.wrap y * 1117)) + IntKind.i64.wrap (q * 29)) + IntKind.i64.wrap (IntKind.i64.wrap (q.tdiv L) * 53)) ∧
    IntKind.i64.wrap (IntKind.i64.wrap (IntKind.i64.wrap (IntKind.i64.wrap (IntKind.i64.wrap x * 131) + IntKind.i64.wrap (IntKind.i64.wrap y * 1117)) + IntKind.i64.wrap (q * 29)) + IntKind.i64.wrap (IntKind.i64.wrap (q.tdiv L) * 53)) < 4611686018427387904 := by
  have d0 : 0 ≤ q.tdiv L := Int.tdiv_nonneg hq (by omega)
  have d1 : q.tdiv L ≤ q := by
    rw [Int.tdiv_eq_ediv_of_nonneg hq]
    exact Int.ediv_le_self _ hq
  generalize q.tdiv L = d at *
  rw [wrap64 (n := x) (by omega) (by omega), wrap64 (n := y) (by omega) (by omega), wrap64 (n := x * 131) (by omega) (by omega), wrap64 (n := y * 1117) (by omega) (by omega), wrap64 (n := x * 131 + y * 1117) (by omega) (by omega),
    wrap64 (n := q * 29) (by omega) (by omega), wrap64 (n := x * 131 + y * 1117 + q * 29) (by omega) (by omega), wrap64 (n := d) (by omega) (by omega), wrap64 (n := d * 53) (by omega) (by omega), wrap64 (n := x * 131 + y * 1117 + q * 29 + d * 53) (by omega) (by omega)]
  omega
theorem xor_ok {X : Int} (h : 0 ≤ X) (h' : X < 4611686018427387904) : 0 ≤ IntKind.i64.wrap (((BitVec.ofInt IntKind.i64.bits X ^^^ BitVec.ofInt IntKind.i64.bits (IntKind.i64.wrap (X.tdiv 64))).toNat : Nat) : Int) := by
  have d0 : 0 ≤ X.tdiv 64 := Int.tdiv_nonneg h (by omega)
  have d1 : X.tdiv 64 ≤ X := by
    rw [Int.tdiv_eq_ediv_of_nonneg h]
    exact Int.ediv_le_self _ h
  rw [wrap64 (n := X.tdiv 64) (by omega) (by omega)]
  generalize X.tdiv 64 = d at *
  have hb : IntKind.i64.bits = 64 := rfl
  rw [hb, BitVec.toNat_xor]
  have e1 : (BitVec.ofInt 64 X).toNat < 2 ^ 62 := by
    rw [BitVec.toNat_ofInt]
    have : X % ((2 ^ 64 : Nat) : Int) = X := Int.emod_eq_of_lt h (by omega)
    rw [this]; omega
  have e2 : (BitVec.ofInt 64 d).toNat < 2 ^ 62 := by
    rw [BitVec.toNat_ofInt]
    have : d % ((2 ^ 64 : Nat) : Int) = d := Int.emod_eq_of_lt d0 (by omega)
    rw [this]; omega
  have e3 := Nat.xor_lt_two_pow e1 e2
  rw [wrap64] <;> omega
theorem vM_pick : ValidM Try.prog n_spec_l6Rd_pick S_pickM := by
  refine validM_of_swp mixed is_spec_l6Rd_pick (by rintro _ _ ⟨a, rfl, _⟩; exact Nat.le_of_ble_eq_true rfl) ?_
  rintro _ _ rm ⟨⟨b, n, p⟩, rfl, rfl, hrd, hp0, hp1⟩ hl
  dsimp only at hrd hp0 hp1
  obtain ⟨q, rfl⟩ := Int.eq_ofNat_of_zero_le hp0
  have hw1 : IntKind.i64.wrap ((q : Int) + 1) = (q : Int) + 1 := by simp only [LIM] at hp1; rw [wrap64] <;> omega
  have hw2 : IntKind.i64.wrap ((q : Int) + 1 - 1) = (q : Int) := by simp only [LIM] at hp1; rw [wrap64] <;> omega
  have fin : ∀ k : Int, 0 ≤ k → (1 ≤ n → k < n) → (n < 1 → k = 0) → S_pickM.post [pt0, I n] [.cells [.c (byF b), cI (q : Int)]] (I k) [some (.cells ([byF b, fI ((q : Int) + 1)].map AC.c))] := fun k h1 h2 h3 => ⟨(b, n, (q : Int)), rfl, rfl, ⟨k, rfl, h1, h2, h3⟩, rfl⟩
  have hcell : ∀ {x : Option Ob} {H : Hp}, x = some (.cells [.c (byF b), cI (IntKind.i64.wrap ((q : Int) + 1))]) → hupd 0 x H 0 = some (.cells ([byF b, fI ((q : Int) + 1)].map AC.c)) := fun h => by rw [hupd_at, h, hw1]; rfl
  repeat' ((conv => whnf); first
    | refine ⟨_, rfl, ?_⟩
    | refine ⟨rfl, ?_⟩
    | refine ⟨_, _, hupd_at, rfl, rfl, Nat.le_of_ble_eq_true rfl, ?_⟩
    | refine ⟨_, _, rfl, rfl, rfl, Nat.le_of_ble_eq_true rfl, ?_⟩
    | fail)
  conv => whnf
  refine ⟨fun hc => ?_, fun hc => ?_⟩
  · have hc : n < 1 := hc
    repeat' ((conv => whnf); first
      | refine ⟨_, rfl, ?_⟩
      | refine ⟨rfl, ?_⟩
      | refine ⟨_, _, hupd_at, rfl, rfl, Nat.le_of_ble_eq_true rfl, ?_⟩
      | refine ⟨_, _, rfl, rfl, rfl, Nat.le_of_ble_eq_true rfl, ?_⟩
      | fail)
    conv => whnf
    exact finM_cells (by omega) (hcell rfl) ⟨⟨_, rfl, .inl rfl⟩, trivial⟩ (fin 0 (Int.le_refl _) (fun h => by omega) fun _ => rfl)
  · have hc : 1 ≤ n := hc
    repeat' ((conv => whnf); first
      | refine ⟨_, rfl, ?_⟩
      | refine ⟨rfl, ?_⟩
      | refine ⟨_, _, hupd_at, rfl, rfl, Nat.le_of_ble_eq_true rfl, ?_⟩
      | refine ⟨_, _, rfl, rfl, rfl, Nat.le_of_ble_eq_true rfl, ?_⟩
      | fail)
    conv => whnf
    refine ⟨fun hz => ?_, fun hz => ?_⟩
    · have hz : ((b.map fun n => [FV.v (.int .u8 n)]).length : Int) = 0 := hz
      repeat' ((conv => whnf); first
        | refine ⟨_, rfl, ?_⟩
        | refine ⟨rfl, ?_⟩
        | refine ⟨_, _, hupd_at, rfl, rfl, Nat.le_of_ble_eq_true rfl, ?_⟩
        | refine ⟨_, _, rfl, rfl, rfl, Nat.le_of_ble_eq_true rfl, ?_⟩
        | fail)
      conv => whnf
      exact finM_cells (by omega) (hcell rfl) ⟨⟨_, rfl, .inl rfl⟩, trivial⟩ (fin 0 (Int.le_refl _) (fun h => by omega) fun _ => rfl)
    · have hz : ¬ ((b.map fun n => [FV.v (.int .u8 n)]).length : Int) = 0 := hz
      rw [List.length_map] at hz
      have hb : ∀ (i : Nat) (x : Int), b[i]? = some x → 0 ≤ x ∧ x ≤ 255 := fun i x h => hrd.2 x (List.mem_of_getElem? h)
      have hcv : ∀ x : Int, 0 ≤ x ∧ x ≤ 255 → IntKind.i64.wrap x = x := fun x h => by rw [wrap64] <;> omega
      repeat' ((conv => whnf); first
        | refine ⟨_, rfl, ?_⟩
        | refine ⟨rfl, ?_⟩
        | refine ⟨_, _, hupd_at, rfl, rfl, Nat.le_of_ble_eq_true rfl, ?_⟩
        | refine ⟨_, _, rfl, rfl, rfl, Nat.le_of_ble_eq_true rfl, ?_⟩
        | fail)
      conv => whnf
      refine ⟨fun hk => ?_, fun hk => ?_⟩
      · have hk : IntKind.i64.wrap (IntKind.i64.wrap ((q : Int) + 1) - 1) < ((b.map fun n => [FV.v (.int .u8 n)]).length : Int) := hk
        rw [hw1, hw2, List.length_map] at hk
        repeat' ((conv => whnf); first
          | refine ⟨_, rfl, ?_⟩
          | refine ⟨rfl, ?_⟩
          | refine ⟨_, _, hupd_at, rfl, rfl, Nat.le_of_ble_eq_true rfl, ?_⟩
          | refine ⟨_, _, rfl, rfl, rfl, Nat.le_of_ble_eq_true rfl, ?_⟩
          | fail)
        conv => whnf
        refine idx_mapE (i := q) (by rw [hw1, hw2]) (by show q < b.length; omega) (fun x hx => ?_)
        repeat' ((conv => whnf); first
          | refine ⟨_, rfl, ?_⟩
          | refine ⟨rfl, ?_⟩
          | refine ⟨_, _, hupd_at, rfl, rfl, Nat.le_of_ble_eq_true rfl, ?_⟩
          | refine ⟨_, _, rfl, rfl, rfl, Nat.le_of_ble_eq_true rfl, ?_⟩
          | fail)
        conv => whnf
        refine ⟨by omega, ?_⟩
        repeat' ((conv => whnf); first
          | refine ⟨_, rfl, ?_⟩
          | refine ⟨rfl, ?_⟩
          | refine ⟨_, _, hupd_at, rfl, rfl, Nat.le_of_ble_eq_true rfl, ?_⟩
          | refine ⟨_, _, rfl, rfl, rfl, Nat.le_of_ble_eq_true rfl, ?_⟩
          | fail)
        conv => whnf
        refine finM_cells (by omega) (hcell rfl) ⟨⟨_, rfl, .inl rfl⟩, trivial⟩ (fin _ ?_ ?_ ?_)
        · rw [hcv x (hb q x hx)]
          exact Int.tmod_nonneg _ (hb q x hx).1
        · intro _
          rw [hcv x (hb q x hx)]
          exact Int.tmod_lt_of_pos _ (by omega)
        · intro h; omega
      · have hL : ((b.map fun n => [FV.v (.int .u8 n)]).length : Int) ≠ 0 := by rw [List.length_map]; exact hz
        have hL' : ((b.map fun n => [FV.v (.int .u8 n)]).length : Int) = b.length := by rw [List.length_map]
        have hpos : (0 : Int) < b.length := by omega
        have hlen : (b.length : Int) ≤ 2000 := by have := hrd.1; omega
        have i1 : (((q : Int).tmod b.length).toNat : Int) = (q : Int).tmod b.length := by have := Int.tmod_nonneg (a := (q : Int)) b.length (by omega); omega
        have i2 : (q : Int).tmod b.length < b.length := Int.tmod_lt_of_pos _ hpos
        have hm : IntKind.i64.wrap (IntKind.i64.wrap ((q : Int) * 7) + 3) = (q : Int) * 7 + 3 := by
          simp only [LIM] at hp1
          rw [wrap64 (n := (q : Int) * 7), wrap64] <;> omega
        have j1 : ((((q : Int) * 7 + 3).tmod b.length).toNat : Int) = ((q : Int) * 7 + 3).tmod b.length := by have := Int.tmod_nonneg (a := (q : Int) * 7 + 3) b.length (by omega); omega
        have j2 : ((q : Int) * 7 + 3).tmod b.length < b.length := Int.tmod_lt_of_pos _ hpos
        repeat' ((conv => whnf); first
          | refine ⟨_, rfl, ?_⟩
          | refine ⟨rfl, ?_⟩
          | refine ⟨_, _, hupd_at, rfl, rfl, Nat.le_of_ble_eq_true rfl, ?_⟩
          | refine ⟨_, _, rfl, rfl, rfl, Nat.le_of_ble_eq_true rfl, ?_⟩
          | fail)
        conv => whnf
        refine ⟨hL, ?_⟩
        repeat' ((conv => whnf); first
          | refine ⟨_, rfl, ?_⟩
          | refine ⟨rfl, ?_⟩
          | refine ⟨_, _, hupd_at, rfl, rfl, Nat.le_of_ble_eq_true rfl, ?_⟩
          | refine ⟨_, _, rfl, rfl, rfl, Nat.le_of_ble_eq_true rfl, ?_⟩
          | fail)
        conv => whnf
        refine idx_mapE (i := ((q : Int).tmod b.length).toNat) (by rw [hw1, hw2, hL', i1]) (by show _ < b.length; omega) (fun x hx => ?_)
        repeat' ((conv => whnf); first
          | refine ⟨_, rfl, ?_⟩
          | refine ⟨rfl, ?_⟩
          | refine ⟨_, _, hupd_at, rfl, rfl, Nat.le_of_ble_eq_true rfl, ?_⟩
          | refine ⟨_, _, rfl, rfl, rfl, Nat.le_of_ble_eq_true rfl, ?_⟩
          | fail)
        conv => whnf
        refine ⟨hL, ?_⟩
        repeat' ((conv => whnf); first
          | refine ⟨_, rfl, ?_⟩
          | refine ⟨rfl, ?_⟩
          | refine ⟨_, _, hupd_at, rfl, rfl, Nat.le_of_ble_eq_true rfl, ?_⟩
          | refine ⟨_, _, rfl, rfl, rfl, Nat.le_of_ble_eq_true rfl, ?_⟩
          | fail)
        conv => whnf
        refine idx_mapE (i := (((q : Int) * 7 + 3).tmod b.length).toNat) (by rw [hw1, hw2, hL', hm, j1]) (by show _ < b.length; omega) (fun y hy => ?_)
        repeat' ((conv => whnf); first
          | refine ⟨_, rfl, ?_⟩
          | refine ⟨rfl, ?_⟩
          | refine ⟨_, _, hupd_at, rfl, rfl, Nat.le_of_ble_eq_true rfl, ?_⟩
          | refine ⟨_, _, rfl, rfl, rfl, Nat.le_of_ble_eq_true rfl, ?_⟩
          | fail)
        conv => whnf
        refine ⟨hL, ?_⟩
        repeat' ((conv => whnf); first
          | refine ⟨_, rfl, ?_⟩
          | refine ⟨rfl, ?_⟩
          | refine ⟨_, _, hupd_at, rfl, rfl, Nat.le_of_ble_eq_true rfl, ?_⟩
          | refine ⟨_, _, rfl, rfl, rfl, Nat.le_of_ble_eq_true rfl, ?_⟩
          | fail)
        conv => whnf
        refine ⟨by decide, ?_⟩
        repeat' ((conv => whnf); first
          | refine ⟨_, rfl, ?_⟩
          | refine ⟨rfl, ?_⟩
          | refine ⟨_, _, hupd_at, rfl, rfl, Nat.le_of_ble_eq_true rfl, ?_⟩
          | refine ⟨_, _, rfl, rfl, rfl, Nat.le_of_ble_eq_true rfl, ?_⟩
          | fail)
        conv => whnf
        refine ⟨by omega, ?_⟩
        repeat' ((conv => whnf); first
          | refine ⟨_, rfl, ?_⟩
          | refine ⟨rfl, ?_⟩
          | refine ⟨_, _, hupd_at, rfl, rfl, Nat.le_of_ble_eq_true rfl, ?_⟩
          | refine ⟨_, _, rfl, rfl, rfl, Nat.le_of_ble_eq_true rfl, ?_⟩
          | fail)
        conv => whnf
        refine finM_cells (by omega) (hcell rfl) ⟨⟨_, rfl, .inl rfl⟩, trivial⟩ (fin _ ?_ ?_ ?_)
        · show 0 ≤ Int.tmod _ n
          refine Int.tmod_nonneg _ ?_
          dsimp only
          rw [hw1, hw2, hL']
          have := mix_ok (hb _ x hx) (hb _ y hy) hp0 hp1 hpos
          exact xor_ok this.1 this.2
        · intro _
          exact Int.tmod_lt_of_pos _ (by omega)
        · intro h; omega
theorem v_spec_l6Rd_pick : Valid Try.prog n_spec_l6Rd_pick S_spec_l6Rd_pick := by
  refine valid_of_rdM vM_pick rfl ?_
  rintro _ ⟨⟨b, n⟩, rfl, hb⟩
  refine ⟨byF b, [I n], rfl, fun rm p h1 h2 h3 => ⟨(b, n, p), rfl, rfl, hb, h2, by have e : S_spec_l6Rd_pick.cost = 1 := rfl; rw [e] at h1; simp only [LIM] at *; omega⟩, ?_⟩
  rintro p r obs' ⟨⟨b', n', p'⟩, h1, h2, ⟨k, rfl, h3, h4, h5⟩, h6⟩
  simp only [List.cons.injEq, and_true, true_and, Ob.cells.injEq, AC.c.injEq, byF_inj, aI_inj, fI_inj] at h1 h2
  obtain ⟨rfl, rfl⟩ := h2
  subst h1
  exact ⟨⟨(b, n), rfl, k, rfl, h3, (by dsimp only at h4 h5 ⊢; by_cases h : 1 ≤ n; exact .inl (h4 h); exact .inr ⟨by omega, h5 (by omega)⟩)⟩, rfl, h6⟩
/-- The same with the cells told. -/
def S_openM : MSpec := mkM (α := List Int) (fun b => [one (byF b)]) (fun _ => []) CodeOk (fun _ r obs' => ∃ b, r = pt0 ∧ obs' = [some (.cells [.c (byF b), cI 0])] ∧ RdOk b) 0
  (fun b _ => ⟨pt0, _, ⟨[], rfl, rfl, Nat.zero_le _, fun x h => by cases h⟩, okp Nat.one_pos, ok_sg (by
    intro c hc
    simp only [List.mem_cons, List.not_mem_nil, or_false] at hc
    rcases hc with rfl | rfl <;> exact trivial)⟩) (fun b r obs' ⟨c, _, h, _⟩ => by rw [h]; exact ⟨by simp, by simp⟩)
theorem vM_open : ValidM Try.prog n_spec_l6Open S_openM := by
  refine validM_of_swp mixed is_spec_l6Open (by rintro _ _ ⟨a, rfl, _⟩; exact Nat.le_of_ble_eq_true rfl) ?_
  rintro _ _ rm ⟨b, rfl, rfl, hb⟩ hl
  have h20 : ∀ l : List Int, Bytes l → Bytes (l.take 2000) := fun l h x hx => h x (List.mem_of_mem_take hx)
  repeat' ((conv => whnf); first
    | refine ⟨_, rfl, ?_⟩
    | refine ⟨rfl, ?_⟩
    | refine ⟨_, _, hupd_at, rfl, rfl, Nat.le_of_ble_eq_true rfl, ?_⟩
    | refine ⟨_, _, rfl, rfl, rfl, Nat.le_of_ble_eq_true rfl, ?_⟩
    | fail)
  conv => whnf
  refine ⟨fun hc => ?_, fun hc => ?_⟩
  · have hc : (2000 : Int) < ((b.map fun n => [FV.v (.int .u8 n)]).length : Int) := hc
    conv => whnf
    refine ⟨_, slc_to (sz := 1) (xs := b.map fun n => [FV.v (.int .u8 n)]) (i := 2000) rfl (by omega), ?_⟩
    rw [show (b.map fun n => [FV.v (.int .u8 n)]).take 2000 = (b.take 2000).map fun n => [FV.v (.int .u8 n)] from by rw [List.map_take]]
    repeat' ((conv => whnf); first
      | refine ⟨_, rfl, ?_⟩
      | refine ⟨rfl, ?_⟩
      | refine ⟨_, _, hupd_at, rfl, rfl, Nat.le_of_ble_eq_true rfl, ?_⟩
      | refine ⟨_, _, rfl, rfl, rfl, Nat.le_of_ble_eq_true rfl, ?_⟩
      | fail)
    conv => whnf
    exact finM_ptr (cs := [byF (b.take 2000), fI 0]) (by omega) hupd_at ⟨⟨_, rfl, .inl rfl⟩, trivial⟩ ⟨b, rfl, rfl, b.take 2000, rfl, rfl, by simp; omega, h20 b hb.2⟩
  · have hc : ((b.map fun n => [FV.v (.int .u8 n)]).length : Int) ≤ 2000 := hc
    rw [List.length_map] at hc
    repeat' ((conv => whnf); first
      | refine ⟨_, rfl, ?_⟩
      | refine ⟨rfl, ?_⟩
      | refine ⟨_, _, hupd_at, rfl, rfl, Nat.le_of_ble_eq_true rfl, ?_⟩
      | refine ⟨_, _, rfl, rfl, rfl, Nat.le_of_ble_eq_true rfl, ?_⟩
      | fail)
    conv => whnf
    exact finM_ptr (cs := [byF b, fI 0]) (by omega) hupd_at ⟨⟨_, rfl, .inl rfl⟩, trivial⟩ ⟨b, rfl, rfl, b, rfl, rfl, by omega, hb.2⟩
theorem v_spec_l6Open : ValidM Try.prog n_spec_l6Open S_spec_l6Open := by
  refine validM_rd vM_open rfl (fun args obs h => h) fun args obs r obs' h h' => ?_
  obtain ⟨a, h1, h2, b, rfl, rfl, hb⟩ := h'
  exact ⟨byF b, [], rfl, fun _ _ _ => .inr trivial, a, h1, h2, b, rfl, rfl, hb⟩
end Av
end Go.Proofs.Ytdboofnogabefaa
/- The walks: drawn payments and chains. -/
namespace Go.Proofs.Ytdboofnogabefaa
namespace Av
open Go.RowKit
theorem cost_pick : S_spec_l6Rd_pick.cost = 1 := rfl
theorem cost_Pay : S_spec_l71Pay.cost = 10 := rfl
theorem cost_AnyPay : S_spec_l71AnyPay.cost = 20 := rfl
theorem cost_Chain : S_spec_l71Chain.cost = 100 := rfl
theorem cost_Off : S_spec_l71Off.cost = 200 := rfl
attribute [local irreducible] Valid ValidM
set_option maxHeartbeats 4000000 in
set_option maxRecDepth 100000 in
theorem v_spec_l71Pay : Valid Try.prog n_spec_l71Pay S_spec_l71Pay := by
  refine valid_of_swp mixed is_spec_l71Pay (by rintro _ ⟨a, rfl, _⟩; exact Nat.le_of_ble_eq_true rfl) ?_
  rintro _ rm ⟨b, rfl, hpre⟩ hl
  try dsimp only at hpre
  generalize hE : entH _ = H0
  have hH : H0 0 = some (.rd (byF b)) := by rw [← hE]; rfl
  have hpre0 := hpre
  have hp1 := hpre
  have h1 := cost_pick
  have h2 := cost_Pay
  repeat' ((conv => whnf); first
    | refine ⟨_, rfl, ?_⟩
    | refine ⟨rfl, ?_⟩
    | refine ⟨_, _, hupd_at, rfl, rfl, Nat.le_of_ble_eq_true rfl, ?_⟩
    | refine ⟨_, _, rfl, rfl, rfl, Nat.le_of_ble_eq_true rfl, ?_⟩
    | refine ⟨(show _ ≠ _ from (by first | decide | omega)), ?_⟩
    | (refine ⟨fun hc => ?_, fun hc => ?_⟩ <;> (try simp (disch := omega) only [List.length_map, wrap64] at hc))
    | (refine callrd (by exact hk_) rfl rfl ⟨(_, _), rfl, (by exact pr_)⟩ v_spec_l6Rd_pick (by omega) (fun r hr => ?_); have hj := K_spec_l6Rd_pick (a := (_, _)) hr; clear hr; obtain ⟨k, rfl, hk0, hk1⟩ := hj; dsimp only at hk1; (try simp (disch := omega) only [List.length_map, ncast, wrap64] at hk1))
    | exact ⟨⟨_, rfl, rfl, b, rfl, (by unfold R_spec_l71Pay; dsimp only; first | done | exact absurd True.intro hj | (exact ⟨⟨_, _, _⟩, rfl⟩))⟩, (by first | exact Nat.le_refl _ | omega), (by exact h0_)⟩
    | fail)
set_option maxHeartbeats 4000000 in
set_option maxRecDepth 100000 in
theorem v_spec_l71AnyPay : Valid Try.prog n_spec_l71AnyPay S_spec_l71AnyPay := by
  refine valid_of_swp mixed is_spec_l71AnyPay (by rintro _ ⟨a, rfl, _⟩; exact Nat.le_of_ble_eq_true rfl) ?_
  rintro _ rm ⟨b, rfl, hpre⟩ hl
  try dsimp only at hpre
  generalize hE : entH _ = H0
  have hH : H0 0 = some (.rd (byF b)) := by rw [← hE]; rfl
  have hpre0 := hpre
  have hp1 := hpre
  have h1 := cost_pick
  have h2 := cost_Pay
  have h3 := cost_AnyPay
  repeat' ((conv => whnf); first
    | refine ⟨_, rfl, ?_⟩
    | refine ⟨rfl, ?_⟩
    | refine ⟨_, _, rfl, at_map (by assumption), ?_⟩
    | refine idx_mapX (i := 0) rfl (by assumption) ?_
    | refine idx_map (by omega) (fun x hx => ?_)
    | refine idx_mapX (wrap_dn (by omega) (by omega)) (by assumption) ?_
    | refine idx_mapE (wrap_dn (by omega) (by omega)) (by omega) (fun x hx => ?_)
    | refine idx_mapL (by omega) (by first | assumption | (simp only [LIM]; omega)) (fun x hx => ?_)
    | refine idx_mapI (by omega) (by first | omega | (simp only [List.length_map] at *; omega)) (fun x hx => ?_)
    | refine ⟨_, ldc_cells hupd_at (Nat.le_of_ble_eq_true rfl), ?_⟩
    | refine ⟨_, ldc_cells (by first | assumption | exact zk ‹_› (by omega) | exact zk (zk ‹_› (by omega)) (by omega)) (Nat.le_of_ble_eq_true rfl), ?_⟩
    | refine ⟨_, _, hupd_at, rfl, rfl, Nat.le_of_ble_eq_true rfl, ?_⟩
    | refine ⟨_, _, rfl, rfl, rfl, Nat.le_of_ble_eq_true rfl, ?_⟩
    | (refine ⟨?_, _, (?_ : (_ : Option Ob) = _), rfl, rfl, ?_, ?_⟩; rotate_left; (exact hk_); exact Nat.le_of_ble_eq_true rfl)
    | refine ⟨_, _, _, _, ((by exact hk_) : (_ : Option Ob) = _), rfl, at_mapA (by assumption), ?_⟩
    | refine idx_ow (by exact hk_) (by omega) (fun x hx => ?_)
    | refine ⟨_, _, _, _, ((by exact hk_) : (_ : Option Ob) = _), rfl, fill_at (by omega), ?_⟩
    | refine ⟨_, _, _, _, ((by exact hk_) : (_ : Option Ob) = _), fill_at (by omega), rfl, rfl, Nat.le_of_ble_eq_true rfl, ?_⟩
    | refine idx_owL (by exact hk_) (by omega) (by simp only [LIM]; omega) (fun x hx => ?_)
    | refine idx_owI (by exact hk_) (by omega) (by first | omega | (simp only [List.length_map] at *; omega)) (fun x hx => ?_)
    | refine ⟨_, _, _, _, ((by exact hk_) : (_ : Option Ob) = _), at_mapA (by assumption), rfl, rfl, Nat.le_of_ble_eq_true rfl, ?_⟩
    | refine ⟨_, ldc_pa (by exact hk_) (at_mapA (by assumption)) (Nat.le_of_ble_eq_true rfl), ?_⟩
    | refine ⟨_, ((by exact hk_) : (_ : Option Ob) = _), ?_⟩
    | (refine ⟨fun hc => ?_, fun hc => ?_⟩ <;> (try simp (disch := omega) only [List.length_map, wrap64] at hc))
    | refine idx_ints (l := [0, 10]) hupd_at (by omega) (by simp only [List.length_cons, List.length_nil]; omega) (fun j y hjy hy => ?_)
    | refine idx_ints (l := [0, 4]) hupd_at (by omega) (by simp only [List.length_cons, List.length_nil]; omega) (fun j y hjy hy => ?_)
    | refine idx_ints (l := [0, 30, 31]) hupd_at (by omega) (by simp only [List.length_cons, List.length_nil]; omega) (fun j y hjy hy => ?_)
    | refine idx_ints (l := [0, 5]) hupd_at (by omega) (by simp only [List.length_cons, List.length_nil]; omega) (fun j y hjy hy => ?_)
    | refine ⟨_, ldc_pa (xs := ([0, 10] : List Int).map fun n => [cI n]) hupd_at (at_mapA (by assumption)) (Nat.le_of_ble_eq_true rfl), ?_⟩
    | refine ⟨_, ldc_pa (xs := ([0, 4] : List Int).map fun n => [cI n]) hupd_at (at_mapA (by assumption)) (Nat.le_of_ble_eq_true rfl), ?_⟩
    | refine ⟨_, ldc_pa (xs := ([0, 30, 31] : List Int).map fun n => [cI n]) hupd_at (at_mapA (by assumption)) (Nat.le_of_ble_eq_true rfl), ?_⟩
    | refine ⟨_, ldc_pa (xs := ([0, 5] : List Int).map fun n => [cI n]) hupd_at (at_mapA (by assumption)) (Nat.le_of_ble_eq_true rfl), ?_⟩
    | (refine callrd (by exact hk_) rfl rfl ⟨(_, _), rfl, (by exact pr_)⟩ v_spec_l6Rd_pick (by omega) (fun r hr => ?_); have hj := K_spec_l6Rd_pick (a := (_, _)) hr; clear hr; obtain ⟨k, rfl, hk0, hk1⟩ := hj; dsimp only at hk1; (try simp (disch := omega) only [List.length_map, ncast, wrap64] at hk1))
    | (refine callrd (by exact hk_) rfl rfl ⟨_, rfl, (by exact pr_)⟩ v_spec_l71Pay (by omega) (fun r hr => ?_); have hj := K_spec_l71Pay (a := _) hr; clear hr; obtain ⟨p, rfl⟩ := hj)
    | exact ⟨⟨_, rfl, rfl, b, rfl, (by unfold R_spec_l71AnyPay; dsimp only; first | done | exact absurd True.intro hj | (first | exact ⟨⟨_, _, _⟩, rfl⟩ | exact ⟨⟨p.f, p.f, p.s⟩, rfl⟩ | exact ⟨⟨p.f, p.t, y⟩, rfl⟩ | exact ⟨⟨y, p.t, p.s⟩, rfl⟩))⟩, (by first | exact Nat.le_refl _ | omega), (by exact h0_)⟩
    | fail)
theorem v_spec_l71Chain : ValidM Try.prog n_spec_l71Chain S_spec_l71Chain := by
  refine validM_of_swp mixed is_spec_l71Chain (by rintro _ _ ⟨a, rfl, _⟩; exact Nat.le_of_ble_eq_true rfl) ?_
  rintro _ _ rm ⟨b, rfl, rfl, hb⟩ hl
  change swp _ _ _ _ _ 1 _
  have h1 := cost_pick
  have h2 := cost_Pay
  have h3 := cost_Chain
  repeat' ((conv => whnf); first
    | refine ⟨_, rfl, ?_⟩
    | refine ⟨rfl, ?_⟩
    | refine ⟨_, rfl, rfl, _, ((by exact hk_) : (_ : Option Ob) = _), (by exact ap_), ?_⟩
    | refine ⟨_, news_ow hupd_at, newsz_ow hupd_at, _, ((by exact hk_) : (_ : Option Ob) = _), (by exact ap_), ?_⟩
    | refine ⟨_, ((by exact hk_) : (_ : Option Ob) = _), ?_⟩
    | refine ⟨(show _ ≠ _ from (by first | decide | omega)), ?_⟩
    | refine ⟨(show _ ≤ _ from (by exact ap_)), ?_⟩
    | (refine ⟨fun hc => ?_, fun hc => ?_⟩ <;> (try simp (disch := omega) only [List.length_map, wrap64] at hc))
    | (refine callrd (by exact hk_) rfl rfl ⟨(_, _), rfl, (by exact pr_)⟩ v_spec_l6Rd_pick (by omega) (fun r hr => ?_); have hj := K_spec_l6Rd_pick (a := (_, _)) hr; clear hr; obtain ⟨k, rfl, hk0, hk1⟩ := hj; dsimp only at hk1; (try simp (disch := omega) only [List.length_map, ncast, wrap64] at hk1))
    | fail)
  conv => whnf
  refine ⟨fun fr H nx rm' => ∃ (n a : Int) (k : Nat) (c : List It), Has fr [(0, pt0), (3, .w (.o (.ow k))), (4, I a), (5, I n)] ∧ 0 ≤ n ∧ (c.length : Int) + n ≤ 6 ∧ H k = some (itO c) ∧ 1 ≤ k ∧ k < nx ∧ H 0 = some (rdO b) ∧ (rm' : Int) + 15 * n ≤ rm + 91,
    fun fr _ _ _ => ix (fr 5), ⟨k, 0, _, [], ⟨rfl, rfl, rfl, rfl, trivial⟩, hk0, by simp; omega, hupd_at, by decide, by decide, rfl, by omega⟩, ?_⟩
  rintro fr H nx rm' ⟨n, a, k, c, hfr, hn, hc6, hk, hk1', hkn, hH, hrm⟩
  rw [hfr.eq]
  have hwn : 0 < n → IntKind.i64.wrap (n - 1) = n - 1 := fun h => by rw [wrap64] <;> omega
  repeat' ((conv => whnf); first
    | refine ⟨_, rfl, ?_⟩
    | refine ⟨rfl, ?_⟩
    | refine ⟨_, rfl, rfl, _, ((by exact hk_) : (_ : Option Ob) = _), (by exact ap_), ?_⟩
    | refine ⟨_, news_ow hupd_at, newsz_ow hupd_at, _, ((by exact hk_) : (_ : Option Ob) = _), (by exact ap_), ?_⟩
    | refine ⟨_, ((by exact hk_) : (_ : Option Ob) = _), ?_⟩
    | refine ⟨(show _ ≠ _ from (by first | decide | omega)), ?_⟩
    | refine ⟨(show _ ≤ _ from (by exact ap_)), ?_⟩
    | (refine ⟨fun hc => ?_, fun hc => ?_⟩ <;> (try simp (disch := omega) only [List.length_map, wrap64] at hc))
    | (refine callrd (by exact hk_) rfl rfl ⟨(_, _), rfl, (by exact pr_)⟩ v_spec_l6Rd_pick (by omega) (fun r hr => ?_); have hj := K_spec_l6Rd_pick (a := (_, _)) hr; clear hr; obtain ⟨k, rfl, hk0, hk1⟩ := hj; dsimp only at hk1; (try simp (disch := omega) only [List.length_map, ncast, wrap64] at hk1))
    | (refine callrd (by exact hk_) rfl rfl ⟨_, rfl, (by exact pr_)⟩ v_spec_l71Pay (by omega) (fun r hr => ?_); have hj := K_spec_l71Pay (a := _) hr; clear hr; obtain ⟨p, rfl⟩ := hj)
    | (refine ⟨⟨n - 1, _, _, c ++ [⟨_, p⟩], ⟨rfl, rfl, rfl, congrArg I (hwn (by omega)), trivial⟩, (by omega), (by simp only [List.length_append, List.length_cons, List.length_nil]; omega), hupd_at.trans (arr_snoc rfl), (by omega), (by (try simp only [List.length_cons, List.length_nil]); omega), (by (repeat (refine zk ?_ (by first | omega | decide | (simp only [List.length_cons, List.length_nil]; omega)))); assumption), (by omega)⟩, (by show ix (I _) < ix (I _); rw [hwn (by omega)]; simp only [ix]; omega)⟩)
    | (exact finM_rd (by omega) hH hk hk1' ⟨⟨_, rfl, .inl rfl⟩, trivial⟩ ⟨b, rfl, rfl, c, rfl, rfl, (by omega)⟩)
    | fail)
set_option maxHeartbeats 4000000 in
set_option maxRecDepth 100000 in
theorem v_spec_l71Off : ValidM Try.prog n_spec_l71Off S_spec_l71Off := by
  refine validM_of_swp mixed is_spec_l71Off (by rintro _ _ ⟨a, rfl, _⟩; exact Nat.le_of_ble_eq_true rfl) ?_
  rintro _ _ rm ⟨b, rfl, rfl, hpre⟩ hl
  try dsimp only at hpre
  change swp _ _ _ _ _ 1 _
  have h1 := cost_pick
  have h2 := cost_AnyPay
  have h3 := cost_Chain
  have h4 := cost_Off
  repeat' ((conv => whnf); first
    | refine ⟨_, rfl, ?_⟩
    | refine ⟨rfl, ?_⟩
    | refine ⟨_, _, rfl, at_map (by assumption), ?_⟩
    | refine idx_mapX (i := 0) rfl (by assumption) ?_
    | refine idx_map (by omega) (fun x hx => ?_)
    | refine idx_mapX (wrap_dn (by omega) (by omega)) (by assumption) ?_
    | refine idx_mapE (wrap_dn (by omega) (by omega)) (by omega) (fun x hx => ?_)
    | refine idx_mapL (by omega) (by first | assumption | (simp only [LIM]; omega)) (fun x hx => ?_)
    | refine idx_mapI (by omega) (by first | omega | (simp only [List.length_map] at *; omega)) (fun x hx => ?_)
    | refine ⟨_, ldc_cells hupd_at (Nat.le_of_ble_eq_true rfl), ?_⟩
    | refine ⟨_, ldc_cells (by first | assumption | exact zk ‹_› (by omega) | exact zk (zk ‹_› (by omega)) (by omega)) (Nat.le_of_ble_eq_true rfl), ?_⟩
    | refine ⟨_, _, hupd_at, rfl, rfl, Nat.le_of_ble_eq_true rfl, ?_⟩
    | refine ⟨_, _, rfl, rfl, rfl, Nat.le_of_ble_eq_true rfl, ?_⟩
    | (refine ⟨?_, _, (?_ : (_ : Option Ob) = _), rfl, rfl, ?_, ?_⟩; rotate_left; (exact hk_); exact Nat.le_of_ble_eq_true rfl)
    | refine ⟨_, _, _, _, ((by exact hk_) : (_ : Option Ob) = _), rfl, at_mapA (by assumption), ?_⟩
    | refine idx_ow (by exact hk_) (by omega) (fun x hx => ?_)
    | refine ⟨_, _, _, _, ((by exact hk_) : (_ : Option Ob) = _), rfl, fill_at (by omega), ?_⟩
    | refine ⟨_, _, _, _, ((by exact hk_) : (_ : Option Ob) = _), fill_at (by omega), rfl, rfl, Nat.le_of_ble_eq_true rfl, ?_⟩
    | refine idx_owL (by exact hk_) (by omega) (by simp only [LIM]; omega) (fun x hx => ?_)
    | refine idx_owI (by exact hk_) (by omega) (by first | omega | (simp only [List.length_map] at *; omega)) (fun x hx => ?_)
    | refine ⟨_, _, _, _, ((by exact hk_) : (_ : Option Ob) = _), at_mapA (by assumption), rfl, rfl, Nat.le_of_ble_eq_true rfl, ?_⟩
    | refine ⟨_, ldc_pa (by exact hk_) (at_mapA (by assumption)) (Nat.le_of_ble_eq_true rfl), ?_⟩
    | refine ⟨_, rfl, rfl, _, ((by exact hk_) : (_ : Option Ob) = _), (by exact ap_), ?_⟩
    | refine ⟨_, news_ow hupd_at, newsz_ow hupd_at, _, ((by exact hk_) : (_ : Option Ob) = _), (by exact ap_), ?_⟩
    | refine ⟨_, _, _, ((by exact hk_) : (_ : Option Ob) = _), ?_⟩
    | refine ⟨_, ((by exact hk_) : (_ : Option Ob) = _), ?_⟩
    | refine ⟨(show _ ≤ _ from (by exact ap_)), ?_⟩
    | (refine ⟨fun hc => ?_, fun hc => ?_⟩ <;> (try simp (disch := omega) only [List.length_map, wrap64] at hc))
    | refine idx_ints (l := [0, 10]) hupd_at (by omega) (by simp only [List.length_cons, List.length_nil]; omega) (fun j y hjy hy => ?_)
    | refine idx_ints (l := [0, 4]) hupd_at (by omega) (by simp only [List.length_cons, List.length_nil]; omega) (fun j y hjy hy => ?_)
    | refine idx_ints (l := [0, 30, 31]) hupd_at (by omega) (by simp only [List.length_cons, List.length_nil]; omega) (fun j y hjy hy => ?_)
    | refine idx_ints (l := [0, 5]) hupd_at (by omega) (by simp only [List.length_cons, List.length_nil]; omega) (fun j y hjy hy => ?_)
    | refine ⟨_, ldc_pa (xs := ([0, 10] : List Int).map fun n => [cI n]) hupd_at (at_mapA (by assumption)) (Nat.le_of_ble_eq_true rfl), ?_⟩
    | refine ⟨_, ldc_pa (xs := ([0, 4] : List Int).map fun n => [cI n]) hupd_at (at_mapA (by assumption)) (Nat.le_of_ble_eq_true rfl), ?_⟩
    | refine ⟨_, ldc_pa (xs := ([0, 30, 31] : List Int).map fun n => [cI n]) hupd_at (at_mapA (by assumption)) (Nat.le_of_ble_eq_true rfl), ?_⟩
    | refine ⟨_, ldc_pa (xs := ([0, 5] : List Int).map fun n => [cI n]) hupd_at (at_mapA (by assumption)) (Nat.le_of_ble_eq_true rfl), ?_⟩
    | (refine mq_rd (F := itF) (Q := fun c => c.length ≤ 6) v_spec_l71Chain (by omega) (by exact hk_) rfl ⟨_, rfl, rfl, (by assumption)⟩ (fun r obs' h => rdItM_post h) (fun c hc => ?_))
    | (refine callrd (by exact hk_) rfl rfl ⟨(_, _), rfl, (by exact pr_)⟩ v_spec_l6Rd_pick (by omega) (fun r hr => ?_); have hj := K_spec_l6Rd_pick (a := (_, _)) hr; clear hr; obtain ⟨k, rfl, hk0, hk1⟩ := hj; dsimp only at hk1; (try simp (disch := omega) only [List.length_map, ncast, wrap64] at hk1))
    | (refine callrd (by exact hk_) rfl rfl ⟨_, rfl, (by exact pr_)⟩ v_spec_l71AnyPay (by omega) (fun r hr => ?_); have hj := K_spec_l71AnyPay (a := _) hr; clear hr; obtain ⟨p, rfl⟩ := hj)
    | (exact finM_rd (by omega) ne_ (ne_) ln_ ⟨⟨_, rfl, .inl rfl⟩, trivial⟩ ⟨b, rfl, rfl, c, rfl, rfl, (by first | omega | (simp only [List.length_append, List.length_set, List.length_cons, List.length_nil]; omega))⟩)
    | (exact finM_rd (by omega) ne_ (hupd_at.trans (arr_snoc (l := c) (x := ⟨_, p⟩) rfl)) ln_ ⟨⟨_, rfl, .inl rfl⟩, trivial⟩ ⟨b, rfl, rfl, c ++ [⟨_, p⟩], rfl, rfl, (by first | omega | (simp only [List.length_append, List.length_set, List.length_cons, List.length_nil]; omega))⟩)
    | (exact finM_rd (by omega) ne_ (hupd_at.trans (arr_set (l := c) (x := ⟨y, x.p⟩) rfl)) ln_ ⟨⟨_, rfl, .inl rfl⟩, trivial⟩ ⟨b, rfl, rfl, c.set _ ⟨y, x.p⟩, rfl, rfl, (by first | omega | (simp only [List.length_append, List.length_set, List.length_cons, List.length_nil]; omega))⟩)
    | (exact finM_rd (by omega) ne_ (hupd_at.trans (arr_set (l := c) (x := ⟨x.e, p⟩) rfl)) ln_ ⟨⟨_, rfl, .inl rfl⟩, trivial⟩ ⟨b, rfl, rfl, c.set _ ⟨x.e, p⟩, rfl, rfl, (by first | omega | (simp only [List.length_append, List.length_set, List.length_cons, List.length_nil]; omega))⟩)
    | fail)
end Av
end Go.Proofs.Ytdboofnogabefaa
/- The walks: two drawn chains, a drawn vote, votes anew and one more. -/
namespace Go.Proofs.Ytdboofnogabefaa
namespace Av
open Go.RowKit
theorem cost_Two : S_spec_l71Two.cost = 600 := rfl
set_option maxHeartbeats 4000000 in
set_option maxRecDepth 100000 in
theorem v_spec_l71Two : Valid Try.prog n_spec_l71Two S_spec_l71Two := by
  refine valid_of_swp mixed is_spec_l71Two (by rintro _ ⟨a, rfl, _⟩; exact Nat.le_of_ble_eq_true rfl) ?_
  rintro _ rm ⟨b, rfl, hpre⟩ hl
  try dsimp only at hpre
  generalize hE : entH _ = H0
  have hH : H0 0 = some (.rd (byF b)) := by rw [← hE]; rfl
  have hpre0 := hpre
  have hp1 := hpre
  have h1 := cost_pick
  have h2 := cost_Pay
  have h3 := cost_Off
  have h4 := cost_Two
  repeat' ((conv => whnf); first
    | refine ⟨_, rfl, ?_⟩
    | refine ⟨rfl, ?_⟩
    | refine ⟨_, _, rfl, at_map (by assumption), ?_⟩
    | refine idx_mapX (i := 0) rfl (by assumption) ?_
    | refine idx_map (by omega) (fun x hx => ?_)
    | refine idx_mapX (wrap_dn (by omega) (by omega)) (by assumption) ?_
    | refine idx_mapE (wrap_dn (by omega) (by omega)) (by omega) (fun x hx => ?_)
    | refine idx_mapL (by omega) (by first | assumption | (simp only [LIM]; omega)) (fun x hx => ?_)
    | refine idx_mapI (by omega) (by first | omega | (simp only [List.length_map] at *; omega)) (fun x hx => ?_)
    | refine ⟨_, ldc_cells hupd_at (Nat.le_of_ble_eq_true rfl), ?_⟩
    | refine ⟨_, ldc_cells (by first | assumption | exact zk ‹_› (by omega) | exact zk (zk ‹_› (by omega)) (by omega)) (Nat.le_of_ble_eq_true rfl), ?_⟩
    | refine ⟨_, _, _, _, ((by exact hk_) : (_ : Option Ob) = _), rfl, at_mapA (by assumption), ?_⟩
    | refine idx_ow (by exact hk_) (by omega) (fun x hx => ?_)
    | refine ⟨_, _, _, _, ((by exact hk_) : (_ : Option Ob) = _), rfl, fill_at (by omega), ?_⟩
    | refine idx_owL (by exact hk_) (by omega) (by simp only [LIM]; omega) (fun x hx => ?_)
    | refine idx_owI (by exact hk_) (by omega) (by first | omega | (simp only [List.length_map] at *; omega)) (fun x hx => ?_)
    | refine ⟨_, ldc_pa (by exact hk_) (at_mapA (by assumption)) (Nat.le_of_ble_eq_true rfl), ?_⟩
    | refine ⟨_, rfl, rfl, _, ((by exact hk_) : (_ : Option Ob) = _), (by exact ap_), ?_⟩
    | refine ⟨_, news_ow hupd_at, newsz_ow hupd_at, _, ((by exact hk_) : (_ : Option Ob) = _), (by exact ap_), ?_⟩
    | refine ⟨_, _, _, ((by exact hk_) : (_ : Option Ob) = _), ?_⟩
    | refine ⟨_, ((by exact hk_) : (_ : Option Ob) = _), ?_⟩
    | refine ⟨(show _ ≤ _ from (by exact ap_)), ?_⟩
    | (refine ⟨fun hc => ?_, fun hc => ?_⟩ <;> (try simp (disch := omega) only [List.length_map, wrap64] at hc))
    | (refine ⟨_, slc_to rfl (by first | omega | (simp only [List.length_map] at *; omega)), ?_⟩; rw [map_take'])
    | (refine ⟨_, slc_toI rfl (by omega) (by first | omega | (simp only [List.length_map] at *; omega)), ?_⟩; rw [map_take'])
    | (refine mq_rd (F := itF) (Q := fun c => c.length ≤ 7) v_spec_l71Off (by omega) (by exact hk_) rfl ⟨_, rfl, rfl, (by assumption)⟩ (fun r obs' h => rdItM_post h) (fun c hc => ?_))
    | (refine .inl ⟨_, _, _, _, _, rfl, (by exact hk_), fcellss_f itF _, .inr ?_⟩)
    | fail)
  rename_i a ha
  have haw : IntKind.i64.wrap (((a.map itF).length : Int) + 1) = a.length + 1 := by rw [List.length_map, wrap64] <;> omega
  repeat' ((conv => whnf); first
    | refine ⟨_, rfl, ?_⟩
    | refine ⟨rfl, ?_⟩
    | refine ⟨_, _, rfl, at_map (by assumption), ?_⟩
    | refine idx_mapX (i := 0) rfl (by assumption) ?_
    | refine idx_map (by omega) (fun x hx => ?_)
    | refine idx_mapX (wrap_dn (by omega) (by omega)) (by assumption) ?_
    | refine idx_mapE (wrap_dn (by omega) (by omega)) (by omega) (fun x hx => ?_)
    | refine idx_mapL (by omega) (by first | assumption | (simp only [LIM]; omega)) (fun x hx => ?_)
    | refine idx_mapI (by omega) (by first | omega | (simp only [List.length_map] at *; omega)) (fun x hx => ?_)
    | refine ⟨_, ldc_cells hupd_at (Nat.le_of_ble_eq_true rfl), ?_⟩
    | refine ⟨_, ldc_cells (by first | assumption | exact zk ‹_› (by omega) | exact zk (zk ‹_› (by omega)) (by omega)) (Nat.le_of_ble_eq_true rfl), ?_⟩
    | refine ⟨_, _, _, _, ((by exact hk_) : (_ : Option Ob) = _), rfl, at_mapA (by assumption), ?_⟩
    | refine idx_ow (by exact hk_) (by omega) (fun x hx => ?_)
    | refine ⟨_, _, _, _, ((by exact hk_) : (_ : Option Ob) = _), rfl, fill_at (by omega), ?_⟩
    | refine idx_owL (by exact hk_) (by omega) (by simp only [LIM]; omega) (fun x hx => ?_)
    | refine idx_owI (by exact hk_) (by omega) (by first | omega | (simp only [List.length_map] at *; omega)) (fun x hx => ?_)
    | refine ⟨_, ldc_pa (by exact hk_) (at_mapA (by assumption)) (Nat.le_of_ble_eq_true rfl), ?_⟩
    | refine ⟨_, rfl, rfl, _, ((by exact hk_) : (_ : Option Ob) = _), (by exact ap_), ?_⟩
    | refine ⟨_, news_ow hupd_at, newsz_ow hupd_at, _, ((by exact hk_) : (_ : Option Ob) = _), (by exact ap_), ?_⟩
    | refine ⟨_, _, _, ((by exact hk_) : (_ : Option Ob) = _), ?_⟩
    | refine ⟨_, ((by exact hk_) : (_ : Option Ob) = _), ?_⟩
    | refine ⟨(show _ ≤ _ from (by exact ap_)), ?_⟩
    | (refine ⟨fun hc => ?_, fun hc => ?_⟩ <;> (try simp (disch := omega) only [List.length_map, wrap64] at hc))
    | (refine ⟨_, slc_to rfl (by first | omega | (simp only [List.length_map] at *; omega)), ?_⟩; rw [map_take'])
    | (refine ⟨_, slc_toI rfl (by omega) (by first | omega | (simp only [List.length_map] at *; omega)), ?_⟩; rw [map_take'])
    | (refine callrd (by exact hk_) rfl rfl ⟨(_, IntKind.i64.wrap (((a.map itF).length : Int) + 1)), rfl, (by exact pr_)⟩ v_spec_l6Rd_pick (by omega) (fun r hr => ?_); have hj := K_spec_l6Rd_pick (a := (_, IntKind.i64.wrap (((a.map itF).length : Int) + 1))) hr; clear hr; obtain ⟨k, rfl, hk0, hk1⟩ := hj; dsimp only at hk1; (try simp (disch := omega) only [List.length_map, ncast, wrap64] at hk1))
    | (refine callrd (by exact hk_) rfl rfl ⟨(_, _), rfl, (by exact pr_)⟩ v_spec_l6Rd_pick (by omega) (fun r hr => ?_); have hj := K_spec_l6Rd_pick (a := (_, _)) hr; clear hr; obtain ⟨k, rfl, hk0, hk1⟩ := hj; dsimp only at hk1; (try simp (disch := omega) only [List.length_map, ncast, wrap64] at hk1))
    | (exact ⟨⟨[.o (.c (chF _)), .o (.c (chF a))], congrArg (fun x => some [AW.o x, AW.o (.c (chF a))]) (bor_ow ne_ (fcellss_f itF _)), rfl, b, rfl, (by unfold R_spec_l71Two; exact ⟨_, _, rfl, (by first | assumption | omega), (by first | assumption | omega)⟩)⟩, (by omega), ne_⟩)
    | (exact ⟨⟨[.o (.c (chF a)), .o (.c (chF _))], congrArg (fun x => some [AW.o (.c (chF a)), AW.o x]) (bor_ow ne_ (fcellss_f itF _)), rfl, b, rfl, (by unfold R_spec_l71Two; exact ⟨_, _, rfl, (by first | assumption | omega), (by first | assumption | omega)⟩)⟩, (by omega), ne_⟩)
    | fail)
  rename_i k1 hk01 hk11
  conv => whnf
  refine ⟨fun fr H nx r2 => ∃ (n : Int) (kk : Nat) (d : List It), Has fr [(0, pt0), (4, one (chF a)), (5, .w (.o (.ow kk))), (6, I n)] ∧ 0 ≤ n ∧ (d.length : Int) + n ≤ 9 ∧ H kk = some (itO d) ∧ 1 ≤ kk ∧ kk < nx ∧ H 0 = some (rdO b) ∧ (r2 : Int) + 11 * n ≤ rm + 425,
    fun fr _ _ _ => ix (fr 6), ⟨k, _, a.take k1.toNat, ⟨rfl, rfl, rfl, rfl, trivial⟩, hk0, by simp only [List.length_take]; omega, hupd_at.trans (by simp [arA]; rfl), ln_, ln_, ne_, by omega⟩, ?_⟩
  rintro fr H nx r2 ⟨n, kk, d, hfr, hn, hd9, hkk, hkk1, hkkn, hH', hrm⟩
  rw [hfr.eq]
  have hwn : 0 < n → IntKind.i64.wrap (n - 1) = n - 1 := fun h => by rw [wrap64] <;> omega
  repeat' ((conv => whnf); first
    | refine ⟨_, rfl, ?_⟩
    | refine ⟨rfl, ?_⟩
    | refine ⟨_, _, rfl, at_map (by assumption), ?_⟩
    | refine idx_mapX (i := 0) rfl (by assumption) ?_
    | refine idx_map (by omega) (fun x hx => ?_)
    | refine idx_mapX (wrap_dn (by omega) (by omega)) (by assumption) ?_
    | refine idx_mapE (wrap_dn (by omega) (by omega)) (by omega) (fun x hx => ?_)
    | refine idx_mapL (by omega) (by first | assumption | (simp only [LIM]; omega)) (fun x hx => ?_)
    | refine idx_mapI (by omega) (by first | omega | (simp only [List.length_map] at *; omega)) (fun x hx => ?_)
    | refine ⟨_, ldc_cells hupd_at (Nat.le_of_ble_eq_true rfl), ?_⟩
    | refine ⟨_, ldc_cells (by first | assumption | exact zk ‹_› (by omega) | exact zk (zk ‹_› (by omega)) (by omega)) (Nat.le_of_ble_eq_true rfl), ?_⟩
    | refine ⟨_, _, _, _, ((by exact hk_) : (_ : Option Ob) = _), rfl, at_mapA (by assumption), ?_⟩
    | refine idx_ow (by exact hk_) (by omega) (fun x hx => ?_)
    | refine ⟨_, _, _, _, ((by exact hk_) : (_ : Option Ob) = _), rfl, fill_at (by omega), ?_⟩
    | refine idx_owL (by exact hk_) (by omega) (by simp only [LIM]; omega) (fun x hx => ?_)
    | refine idx_owI (by exact hk_) (by omega) (by first | omega | (simp only [List.length_map] at *; omega)) (fun x hx => ?_)
    | refine ⟨_, ldc_pa (by exact hk_) (at_mapA (by assumption)) (Nat.le_of_ble_eq_true rfl), ?_⟩
    | refine ⟨_, rfl, rfl, _, ((by exact hk_) : (_ : Option Ob) = _), (by exact ap_), ?_⟩
    | refine ⟨_, news_ow hupd_at, newsz_ow hupd_at, _, ((by exact hk_) : (_ : Option Ob) = _), (by exact ap_), ?_⟩
    | refine ⟨_, _, _, ((by exact hk_) : (_ : Option Ob) = _), ?_⟩
    | refine ⟨_, ((by exact hk_) : (_ : Option Ob) = _), ?_⟩
    | refine ⟨(show _ ≤ _ from (by exact ap_)), ?_⟩
    | (refine ⟨fun hc => ?_, fun hc => ?_⟩ <;> (try simp (disch := omega) only [List.length_map, wrap64] at hc))
    | (refine ⟨_, slc_to rfl (by first | omega | (simp only [List.length_map] at *; omega)), ?_⟩; rw [map_take'])
    | (refine ⟨_, slc_toI rfl (by omega) (by first | omega | (simp only [List.length_map] at *; omega)), ?_⟩; rw [map_take'])
    | (refine callrd (by exact hk_) rfl rfl ⟨(_, _), rfl, (by exact pr_)⟩ v_spec_l6Rd_pick (by omega) (fun r hr => ?_); have hj := K_spec_l6Rd_pick (a := (_, _)) hr; clear hr; obtain ⟨k, rfl, hk0, hk1⟩ := hj; dsimp only at hk1; (try simp (disch := omega) only [List.length_map, ncast, wrap64] at hk1))
    | (refine callrd (by exact hk_) rfl rfl ⟨_, rfl, (by exact pr_)⟩ v_spec_l71Pay (by omega) (fun r hr => ?_); have hj := K_spec_l71Pay (a := _) hr; clear hr; obtain ⟨p, rfl⟩ := hj)
    | (refine ⟨⟨n - 1, _, d ++ [⟨_, p⟩], ⟨rfl, rfl, rfl, congrArg I (hwn (by omega)), trivial⟩, (by omega), (by simp only [List.length_append, List.length_cons, List.length_nil]; omega), hupd_at.trans (arr_snoc rfl), (by omega), ln_, ne_, (by omega)⟩, (by show ix (I _) < ix (I _); rw [hwn (by omega)]; simp only [ix]; omega)⟩)
    | (exact ⟨⟨[.o (.c (chF _)), .o (.c (chF a))], congrArg (fun x => some [AW.o x, AW.o (.c (chF a))]) (bor_ow ne_ (fcellss_f itF _)), rfl, b, rfl, (by unfold R_spec_l71Two; exact ⟨_, _, rfl, (by first | assumption | omega), (by first | assumption | omega)⟩)⟩, (by omega), ne_⟩)
    | (exact ⟨⟨[.o (.c (chF a)), .o (.c (chF _))], congrArg (fun x => some [AW.o (.c (chF a)), AW.o x]) (bor_ow ne_ (fcellss_f itF _)), rfl, b, rfl, (by unfold R_spec_l71Two; exact ⟨_, _, rfl, (by first | assumption | omega), (by first | assumption | omega)⟩)⟩, (by omega), ne_⟩)
    | fail)
set_option maxHeartbeats 4000000 in
set_option maxRecDepth 100000 in
theorem v_spec_l3VoteCopy : Valid Try.prog n_spec_l3VoteCopy S_spec_l3VoteCopy := by
  refine valid_of_swp mixed is_spec_l3VoteCopy (by rintro _ ⟨a, rfl, _⟩; exact Nat.le_of_ble_eq_true rfl) ?_
  rintro _ rm ⟨v, rfl, hpre⟩ hl
  try dsimp only at hpre
  have hpre0 := hpre
  have hp1 := hpre
  repeat' ((conv => whnf); first
    | refine ⟨_, rfl, ?_⟩
    | refine ⟨rfl, ?_⟩
    | refine ⟨_, ldc_cells hupd_at (Nat.le_of_ble_eq_true rfl), ?_⟩
    | refine ⟨_, ldc_cells (by first | assumption | exact zk ‹_› (by omega) | exact zk (zk ‹_› (by omega)) (by omega)) (Nat.le_of_ble_eq_true rfl), ?_⟩
    | refine ⟨_, _, hupd_at, rfl, rfl, Nat.le_of_ble_eq_true rfl, ?_⟩
    | refine ⟨_, _, rfl, rfl, rfl, Nat.le_of_ble_eq_true rfl, ?_⟩
    | (refine ⟨fun hc => ?_, fun hc => ?_⟩ <;> (try simp (disch := omega) only [List.length_map, wrap64] at hc))
    | (refine calle (b := [one (chF _)]) v_spec_l1Copy rfl ⟨_, rfl, (by exact pr_)⟩ (.inl rfl) (by first | assumption | omega) (fun r hr => K_spec_l1Copy (a := _) hr) ?_)
    | exact ⟨⟨_, rfl, rfl, v, rfl, rfl⟩, (by first | exact Nat.le_refl _ | omega), (by exact h0_)⟩
    | exact ⟨⟨_, rfl, rfl, v, rfl, (by refine congrArg agg (?_ : (_ : List FV) = _); (try dsimp only); first | done | exact absurd True.intro hj | (first | assumption | grind))⟩, (by first | exact Nat.le_refl _ | omega), (by exact h0_)⟩
    | fail)
set_option maxHeartbeats 4000000 in
set_option maxRecDepth 100000 in
theorem v_spec_l3Add : ValidM Try.prog n_spec_l3Add S_spec_l3Add := by
  refine validM_of_swp mixed is_spec_l3Add (by rintro _ _ ⟨a, rfl, _⟩; exact Nat.le_of_ble_eq_true rfl) ?_
  rintro _ _ rm ⟨⟨l, v⟩, rfl, rfl, hpre⟩ hl
  try dsimp only at hpre
  change swp _ _ _ _ _ 1 _
  obtain ⟨hp1, hp2, hp3⟩ := hpre
  repeat' ((conv => whnf); first
    | refine ⟨_, rfl, ?_⟩
    | refine ⟨rfl, ?_⟩
    | refine ⟨_, ldc_cells hupd_at (Nat.le_of_ble_eq_true rfl), ?_⟩
    | refine ⟨_, ldc_cells (by first | assumption | exact zk ‹_› (by omega) | exact zk (zk ‹_› (by omega)) (by omega)) (Nat.le_of_ble_eq_true rfl), ?_⟩
    | refine ⟨_, ldc_pa (by exact hk_) (at_mapA (by assumption)) (Nat.le_of_ble_eq_true rfl), ?_⟩
    | refine ⟨_, rfl, rfl, _, ((by exact hk_) : (_ : Option Ob) = _), (by exact ap_), ?_⟩
    | refine ⟨_, news_ow hupd_at, newsz_ow hupd_at, _, ((by exact hk_) : (_ : Option Ob) = _), (by exact ap_), ?_⟩
    | refine ⟨_, ((by exact hk_) : (_ : Option Ob) = _), ?_⟩
    | refine ⟨(show _ ≤ _ from (by exact ap_)), ?_⟩
    | (refine ⟨fun hc => ?_, fun hc => ?_⟩ <;> (try simp (disch := omega) only [List.length_map, wrap64] at hc))
    | (refine calle (b := [agg (voF ⟨_, _⟩)]) v_spec_l3VoteCopy rfl ⟨⟨_, _⟩, rfl, (by exact pr_)⟩ (.inl rfl) (by first | assumption | omega) (fun r hr => K_spec_l3VoteCopy (a := ⟨_, _⟩) hr) ?_)
    | (refine callq (b := [one (vsF l), agg (voF v)]) (l2 (congrArg (fun x => AV.w (.o x)) (bor_ow hk_ (fcellss_f voF l))) rfl) ⟨(l, v), rfl, hp1, hp2⟩ v_spec_l3Has (.inr ⟨rfl, rfl⟩) (by first | assumption | omega) (fun r hr => ?_); rcases K_spec_l3Has (a := (l, v)) hr with ⟨hj, rfl⟩ | ⟨hj, rfl⟩ <;> clear hr)
    | (exact finM_same (by first | exact Nat.le_refl _ | omega) ne_ ⟨⟨_, rfl, .inl rfl⟩, ⟨_, rfl, .inl rfl⟩, trivial⟩ ⟨(l, v), rfl, rfl, .inl ⟨hj, rfl, rfl⟩⟩)
    | (exact finM_more (by first | exact Nat.le_refl _ | omega) ne_ (hupd_at.trans (arr_snoc (l := l) (x := v) rfl)) ln_ ⟨⟨_, rfl, .inl rfl⟩, ⟨_, rfl, .inl rfl⟩, trivial⟩ ⟨(l, v), rfl, rfl, .inr ⟨hj, rfl, rfl⟩⟩)
    | fail)
end Av
end Go.Proofs.Ytdboofnogabefaa
/- The walks: drawn votes. -/
namespace Go.Proofs.Ytdboofnogabefaa
namespace Av
open Go.RowKit
theorem cost_Votes : S_spec_l71Votes.cost = 5000 := rfl
theorem cost_Add : S_spec_l3Add.cost = 0 := rfl
theorem cost_ChainOk : S_spec_ChainOk.cost = 0 := rfl
set_option maxRecDepth 100000 in
theorem vO_spec_l1Copy : ValidM Try.prog n_spec_l1Copy SO_spec_l1Copy.toM := by
  refine validM_of_swp mixed is_spec_l1Copy (by rintro _ _ ⟨_, a, rfl, _⟩; exact Nat.le_of_ble_eq_true rfl) ?_
  rintro _ _ rm ⟨rfl, c, rfl, hpre⟩ hl
  change swp _ _ _ _ _ 0 _
  repeat' ((conv => whnf); first
    | refine ⟨_, rfl, ?_⟩
    | refine ⟨rfl, ?_⟩
    | refine ⟨_, _, rfl, at_map (by assumption), ?_⟩
    | refine idx_mapX (i := 0) rfl (by assumption) ?_
    | refine idx_map (by omega) (fun x hx => ?_)
    | refine idx_mapX (wrap_dn (by omega) (by omega)) (by assumption) ?_
    | refine idx_mapE (wrap_dn (by omega) (by omega)) (by omega) (fun x hx => ?_)
    | refine idx_mapL (by omega) (by first | assumption | (simp only [LIM]; omega)) (fun x hx => ?_)
    | refine idx_mapI (by omega) (by first | omega | (simp only [List.length_map] at *; omega)) (fun x hx => ?_)
    | refine ⟨_, ldc_cells hupd_at (Nat.le_of_ble_eq_true rfl), ?_⟩
    | refine ⟨_, ldc_cells (by first | assumption | exact zk ‹_› (by omega) | exact zk (zk ‹_› (by omega)) (by omega)) (Nat.le_of_ble_eq_true rfl), ?_⟩
    | refine ⟨_, _, hupd_at, rfl, rfl, Nat.le_of_ble_eq_true rfl, ?_⟩
    | refine ⟨_, _, rfl, rfl, rfl, Nat.le_of_ble_eq_true rfl, ?_⟩
    | (refine ⟨?_, _, (?_ : (_ : Option Ob) = _), rfl, rfl, ?_, ?_⟩; rotate_left; (exact hk_); exact Nat.le_of_ble_eq_true rfl)
    | refine ⟨_, _, _, _, ((by exact hk_) : (_ : Option Ob) = _), rfl, at_mapA (by assumption), ?_⟩
    | refine idx_ow (by exact hk_) (by omega) (fun x hx => ?_)
    | refine ⟨_, _, _, _, ((by exact hk_) : (_ : Option Ob) = _), rfl, fill_at (by omega), ?_⟩
    | refine ⟨_, _, _, _, ((by exact hk_) : (_ : Option Ob) = _), fill_at (by omega), rfl, rfl, Nat.le_of_ble_eq_true rfl, ?_⟩
    | refine idx_owL (by exact hk_) (by omega) (by simp only [LIM]; omega) (fun x hx => ?_)
    | refine idx_owI (by exact hk_) (by omega) (by first | omega | (simp only [List.length_map] at *; omega)) (fun x hx => ?_)
    | refine ⟨_, _, _, _, ((by exact hk_) : (_ : Option Ob) = _), at_mapA (by assumption), rfl, rfl, Nat.le_of_ble_eq_true rfl, ?_⟩
    | refine ⟨_, ldc_pa (by exact hk_) (at_mapA (by assumption)) (Nat.le_of_ble_eq_true rfl), ?_⟩
    | refine ⟨_, rfl, rfl, _, ((by exact hk_) : (_ : Option Ob) = _), (by exact ap_), ?_⟩
    | refine ⟨_, news_ow hupd_at, newsz_ow hupd_at, _, ((by exact hk_) : (_ : Option Ob) = _), (by exact ap_), ?_⟩
    | refine ⟨_, _, _, ((by exact hk_) : (_ : Option Ob) = _), ?_⟩
    | refine ⟨_, ((by exact hk_) : (_ : Option Ob) = _), ?_⟩
    | refine ⟨(show _ ≠ _ from (by first | decide | omega)), ?_⟩
    | refine ⟨(show _ ≤ _ from (by exact ap_)), ?_⟩
    | (refine ⟨fun hc => ?_, fun hc => ?_⟩ <;> (try simp (disch := omega) only [List.length_map, wrap64] at hc))
    | (refine ⟨⟨(by omega), (by omega), (by simp only [List.length_map] at *; simp only [LIM] at *; omega), (by simp only [List.length_map] at *; simp only [LIM] at *; omega)⟩, ?_⟩; (try simp only [List.length_map, Int.toNat_natCast]))
    | (refine ⟨_, slc_to rfl (by first | omega | (simp only [List.length_map] at *; omega)), ?_⟩; rw [map_take'])
    | (refine ⟨_, slc_toI rfl (by omega) (by first | omega | (simp only [List.length_map] at *; omega)), ?_⟩; rw [map_take'])
    | fail)
  conv => whnf
  exact finM_new (F := itF) (T := ty_impl_Item) (sz := 4) (l := c) (by first | exact Nat.le_refl _ | omega) (hupd_at.trans (by simp [arA])) ⟨⟨_, rfl, .inl rfl⟩, trivial⟩ ⟨rfl, rfl, by rw [so_spec_l1Copy]⟩
set_option maxHeartbeats 4000000 in
set_option maxRecDepth 100000 in
theorem v_spec_l71Votes : ValidM Try.prog n_spec_l71Votes S_spec_l71Votes := by
  refine validM_of_swp mixed is_spec_l71Votes (by rintro _ _ ⟨a, rfl, _⟩; exact Nat.le_of_ble_eq_true rfl) ?_
  rintro _ _ rm ⟨b, rfl, rfl, hpre⟩ hl
  try dsimp only at hpre
  change swp _ _ _ _ _ 1 _
  have h1 := cost_pick
  have h2 := cost_Pay
  have h3 := cost_Chain
  have h4 := cost_Two
  have h5 := cost_Votes
  have h6 := cost_Add
  have h8 := cost_ChainOk
  repeat' ((conv => whnf); first
    | refine ⟨_, rfl, ?_⟩
    | refine ⟨rfl, ?_⟩
    | refine ⟨_, _, rfl, at_map (by assumption), ?_⟩
    | refine idx_mapX (i := 0) rfl (by assumption) ?_
    | refine idx_map (by omega) (fun x hx => ?_)
    | refine idx_mapX (wrap_dn (by omega) (by omega)) (by assumption) ?_
    | refine idx_mapE (wrap_dn (by omega) (by omega)) (by omega) (fun x hx => ?_)
    | refine idx_mapL (by omega) (by first | assumption | (simp only [LIM]; omega)) (fun x hx => ?_)
    | refine idx_mapI (by omega) (by first | omega | (simp only [List.length_map] at *; omega)) (fun x hx => ?_)
    | refine ⟨_, ldc_cells hupd_at (Nat.le_of_ble_eq_true rfl), ?_⟩
    | refine ⟨_, ldc_cells (by first | assumption | exact zk ‹_› (by omega) | exact zk (zk ‹_› (by omega)) (by omega)) (Nat.le_of_ble_eq_true rfl), ?_⟩
    | refine ⟨_, _, _, _, ((by exact hk_) : (_ : Option Ob) = _), rfl, at_mapA (by assumption), ?_⟩
    | refine idx_ow (by exact hk_) (by omega) (fun x hx => ?_)
    | refine ⟨_, _, _, _, ((by exact hk_) : (_ : Option Ob) = _), rfl, fill_at (by omega), ?_⟩
    | refine idx_owL (by exact hk_) (by omega) (by simp only [LIM]; omega) (fun x hx => ?_)
    | refine idx_owI (by exact hk_) (by omega) (by first | omega | (simp only [List.length_map] at *; omega)) (fun x hx => ?_)
    | refine ⟨_, ldc_pa (by exact hk_) (at_mapA (by assumption)) (Nat.le_of_ble_eq_true rfl), ?_⟩
    | refine ⟨_, rfl, rfl, _, ((by exact hk_) : (_ : Option Ob) = _), (by exact ap_), ?_⟩
    | refine ⟨_, news_ow hupd_at, newsz_ow hupd_at, _, ((by exact hk_) : (_ : Option Ob) = _), (by exact ap_), ?_⟩
    | refine ⟨_, _, _, ((by exact hk_) : (_ : Option Ob) = _), ?_⟩
    | refine ⟨_, ((by exact hk_) : (_ : Option Ob) = _), ?_⟩
    | refine ⟨(show _ ≤ _ from (by exact ap_)), ?_⟩
    | (refine ⟨fun hc => ?_, fun hc => ?_⟩ <;> (try simp (disch := omega) only [List.length_map, wrap64] at hc))
    | (refine ⟨_, slc_to rfl (by first | omega | (simp only [List.length_map] at *; omega)), ?_⟩; rw [map_take'])
    | (refine ⟨_, slc_toI rfl (by omega) (by first | omega | (simp only [List.length_map] at *; omega)), ?_⟩; rw [map_take'])
    | (refine mq_rd (F := itF) (Q := fun c => c.length ≤ 6) v_spec_l71Chain (by omega) (by exact hk_) rfl ⟨_, rfl, rfl, (by assumption)⟩ (fun r obs' h => rdItM_post h) (fun c hc => ?_))
    | (refine .inl ⟨_, _, _, _, _, rfl, (by exact hk_), fcellss_f itF _, .inr ?_⟩)
    | (refine callrd (by exact hk_) rfl rfl ⟨(_, _), rfl, (by exact pr_)⟩ v_spec_l6Rd_pick (by omega) (fun r hr => ?_); have hj := K_spec_l6Rd_pick (a := (_, _)) hr; clear hr; obtain ⟨k, rfl, hk0, hk1⟩ := hj; dsimp only at hk1; (try simp (disch := omega) only [List.length_map, ncast, wrap64] at hk1))
    | fail)
  have hw1 : IntKind.i64.wrap (1 + k) = 1 + k := by rw [wrap64] <;> omega
  conv => whnf
  refine ⟨fun fr H nx r2 => ∃ (n : Int) (ko : Nat) (l : List Vo) (c : List It), Has fr [(0, pt0), (3, .w (.o (.ow ko))), (4, one (chF c)), (5, I n)] ∧ 0 ≤ n ∧ c.length ≤ 16 ∧ (l.length : Int) + 64 * n ≤ 192 ∧ (∀ v, v ∈ l → v.c.length ≤ 16) ∧
      H ko = some (voO l) ∧ 1 ≤ ko ∧ ko < nx ∧ H 0 = some (rdO b) ∧ (r2 : Int) + 1000 * n ≤ rm + 3200,
    fun fr _ _ _ => ix (fr 5), ⟨1 + k, _, [], c, ⟨rfl, rfl, rfl, congrArg I hw1, trivial⟩, by omega, by omega, (by show (0 : Int) + 64 * (1 + k) ≤ 192; omega), (fun v h => by cases h), ne_, ln_, ln_, ne_, by omega⟩, ?_⟩
  rintro fr H nx r2 ⟨n, ko, l, c, hfr, hn, hc16, hl192, hlv, hko, hko1, hkon, hH, hrm⟩
  rw [hfr.eq]
  have hwn : 0 < n → IntKind.i64.wrap (n - 1) = n - 1 := fun h => by rw [wrap64] <;> omega
  have hcL : c.length ≤ LIM := by simp only [LIM]; omega
  repeat' ((conv => whnf); first
    | refine ⟨_, rfl, ?_⟩
    | refine ⟨rfl, ?_⟩
    | refine ⟨_, _, rfl, at_map (by assumption), ?_⟩
    | refine idx_mapX (i := 0) rfl (by assumption) ?_
    | refine idx_map (by omega) (fun x hx => ?_)
    | refine idx_mapX (wrap_dn (by omega) (by omega)) (by assumption) ?_
    | refine idx_mapE (wrap_dn (by omega) (by omega)) (by omega) (fun x hx => ?_)
    | refine idx_mapL (by omega) (by first | assumption | (simp only [LIM]; omega)) (fun x hx => ?_)
    | refine idx_mapI (by omega) (by first | omega | (simp only [List.length_map] at *; omega)) (fun x hx => ?_)
    | refine ⟨_, ldc_cells hupd_at (Nat.le_of_ble_eq_true rfl), ?_⟩
    | refine ⟨_, ldc_cells (by first | assumption | exact zk ‹_› (by omega) | exact zk (zk ‹_› (by omega)) (by omega)) (Nat.le_of_ble_eq_true rfl), ?_⟩
    | refine ⟨_, _, _, _, ((by exact hk_) : (_ : Option Ob) = _), rfl, at_mapA (by assumption), ?_⟩
    | refine idx_ow (by exact hk_) (by omega) (fun x hx => ?_)
    | refine ⟨_, _, _, _, ((by exact hk_) : (_ : Option Ob) = _), rfl, fill_at (by omega), ?_⟩
    | refine idx_owL (by exact hk_) (by omega) (by simp only [LIM]; omega) (fun x hx => ?_)
    | refine idx_owI (by exact hk_) (by omega) (by first | omega | (simp only [List.length_map] at *; omega)) (fun x hx => ?_)
    | refine ⟨_, ldc_pa (by exact hk_) (at_mapA (by assumption)) (Nat.le_of_ble_eq_true rfl), ?_⟩
    | refine ⟨_, rfl, rfl, _, ((by exact hk_) : (_ : Option Ob) = _), (by exact ap_), ?_⟩
    | refine ⟨_, news_ow hupd_at, newsz_ow hupd_at, _, ((by exact hk_) : (_ : Option Ob) = _), (by exact ap_), ?_⟩
    | refine ⟨_, _, _, ((by exact hk_) : (_ : Option Ob) = _), ?_⟩
    | refine ⟨_, ((by exact hk_) : (_ : Option Ob) = _), ?_⟩
    | refine ⟨(show _ ≤ _ from (by exact ap_)), ?_⟩
    | (refine ⟨fun hc => ?_, fun hc => ?_⟩ <;> (try simp (disch := omega) only [List.length_map, wrap64] at hc))
    | (refine ⟨_, slc_to rfl (by first | omega | (simp only [List.length_map] at *; omega)), ?_⟩; rw [map_take'])
    | (refine ⟨_, slc_toI rfl (by omega) (by first | omega | (simp only [List.length_map] at *; omega)), ?_⟩; rw [map_take'])
    | (exact finM_rd (by omega) hH hko hko1 ⟨⟨_, rfl, .inl rfl⟩, trivial⟩ ⟨b, rfl, rfl, l, rfl, rfl, (by omega), hlv⟩)
    | fail)
  conv => whnf
  refine ⟨fun fr H nx r3 => ∃ (i k1 : Nat) (l1 : List Vo), Has fr [(0, pt0), (3, .w (.o (.ow k1))), (4, one (chF c)), (5, I n), (6, I ((i + 1 : Nat) : Int))] ∧ i ≤ c.length ∧ (l1.length : Int) + 64 * n ≤ 192 + 4 * i ∧ (∀ v, v ∈ l1 → v.c.length ≤ 16) ∧
      H k1 = some (voO l1) ∧ 1 ≤ k1 ∧ k1 < nx ∧ H 0 = some (rdO b) ∧ (r3 : Int) ≤ r2 + 4 * i,
    fun fr _ _ _ => c.length + 1 - ix (fr 6), ⟨0, ko, l, ⟨rfl, rfl, rfl, rfl, rfl, trivial⟩, Nat.zero_le _, by omega, hlv, hko, hko1, by omega, hH, by omega⟩, ?_⟩
  rintro fr H nx r3 ⟨i, k1, l1, hfr, hi, hl1, hlv1, hk1', hk11, hk1n, hH, hr3⟩
  rw [hfr.eq]
  repeat' ((conv => whnf); first
    | refine ⟨_, rfl, ?_⟩
    | refine ⟨rfl, ?_⟩
    | refine ⟨_, _, rfl, at_map (by assumption), ?_⟩
    | refine idx_mapX (i := 0) rfl (by assumption) ?_
    | refine idx_map (by omega) (fun x hx => ?_)
    | refine idx_mapX (wrap_dn (by omega) (by omega)) (by assumption) ?_
    | refine idx_mapE (wrap_dn (by omega) (by omega)) (by omega) (fun x hx => ?_)
    | refine idx_mapL (by omega) (by first | assumption | (simp only [LIM]; omega)) (fun x hx => ?_)
    | refine idx_mapI (by omega) (by first | omega | (simp only [List.length_map] at *; omega)) (fun x hx => ?_)
    | refine ⟨_, ldc_cells hupd_at (Nat.le_of_ble_eq_true rfl), ?_⟩
    | refine ⟨_, ldc_cells (by first | assumption | exact zk ‹_› (by omega) | exact zk (zk ‹_› (by omega)) (by omega)) (Nat.le_of_ble_eq_true rfl), ?_⟩
    | refine ⟨_, _, _, _, ((by exact hk_) : (_ : Option Ob) = _), rfl, at_mapA (by assumption), ?_⟩
    | refine idx_ow (by exact hk_) (by omega) (fun x hx => ?_)
    | refine ⟨_, _, _, _, ((by exact hk_) : (_ : Option Ob) = _), rfl, fill_at (by omega), ?_⟩
    | refine idx_owL (by exact hk_) (by omega) (by simp only [LIM]; omega) (fun x hx => ?_)
    | refine idx_owI (by exact hk_) (by omega) (by first | omega | (simp only [List.length_map] at *; omega)) (fun x hx => ?_)
    | refine ⟨_, ldc_pa (by exact hk_) (at_mapA (by assumption)) (Nat.le_of_ble_eq_true rfl), ?_⟩
    | refine ⟨_, rfl, rfl, _, ((by exact hk_) : (_ : Option Ob) = _), (by exact ap_), ?_⟩
    | refine ⟨_, news_ow hupd_at, newsz_ow hupd_at, _, ((by exact hk_) : (_ : Option Ob) = _), (by exact ap_), ?_⟩
    | refine ⟨_, _, _, ((by exact hk_) : (_ : Option Ob) = _), ?_⟩
    | refine ⟨_, ((by exact hk_) : (_ : Option Ob) = _), ?_⟩
    | refine ⟨(show _ ≤ _ from (by exact ap_)), ?_⟩
    | (refine ⟨fun hc => ?_, fun hc => ?_⟩ <;> (try simp (disch := omega) only [List.length_map, wrap64] at hc))
    | (refine ⟨_, slc_to rfl (by first | omega | (simp only [List.length_map] at *; omega)), ?_⟩; rw [map_take'])
    | (refine ⟨_, slc_toI rfl (by omega) (by first | omega | (simp only [List.length_map] at *; omega)), ?_⟩; rw [map_take'])
    | (refine callrd (by exact hk_) rfl rfl ⟨_, rfl, (by exact pr_)⟩ v_spec_l71Two (by omega) (fun r hr => ?_); have hj := K_spec_l71Two (a := _) hr; clear hr; obtain ⟨c2, d2, rfl, hc2, hd2⟩ := hj)
    | (refine callrd (by exact hk_) rfl rfl ⟨(_, _), rfl, (by exact pr_)⟩ v_spec_l6Rd_pick (by omega) (fun r hr => ?_); have hj := K_spec_l6Rd_pick (a := (_, _)) hr; clear hr; obtain ⟨k, rfl, hk0, hk1⟩ := hj; dsimp only at hk1; (try simp (disch := omega) only [List.length_map, ncast, wrap64] at hk1))
    | (refine callrd (by exact hk_) rfl rfl ⟨_, rfl, (by exact pr_)⟩ v_spec_l71Pay (by omega) (fun r hr => ?_); have hj := K_spec_l71Pay (a := _) hr; clear hr; obtain ⟨p, rfl⟩ := hj)
    | (refine OQ.mk1 (ar := [one (chF _)]) rfl ⟨_, rfl, (by first | assumption | (simp only [LIM, List.length_take] at *; omega))⟩ vO_spec_l1Copy (so_spec_l1Copy _) ?_)
    | (refine .inl ⟨_, _, _, _, _, rfl, (by exact hk_), fcellss_f itF _, .inr ?_⟩)
    | (refine callt (b := [one (chF _)]) v_spec_ChainOk rfl ⟨_, rfl, (by exact pr_)⟩ (.inl rfl) (by first | assumption | omega) (fun r hr => K_spec_ChainOk (a := _) hr) (fun hj => ?_) (fun hj => ?_) <;> (try simp only [etaPa, etaIt, etaVo] at hj))
    | (refine .inl ⟨_, ty_impl_Item, 4, arA itF (c.take _ ++ [⟨_, p⟩]), _, rfl, hupd_at.trans (arr_snoc rfl), fcellss_f itF _, .inr ?_⟩)
    | refine .inr ?_
    | (refine ⟨⟨n - 1, _, l1, c, ⟨rfl, rfl, rfl, congrArg I (hwn (by omega)), trivial⟩, (by omega), (by omega), (by omega), hlv1, hk_, (by omega), ln_, ne_, (by omega)⟩, (by show ix (I _) < ix (I _); rw [hwn (by omega)]; simp only [ix]; omega)⟩)
    | (refine ⟨⟨n - 1, _, l1, _, ⟨rfl, rfl, rfl, congrArg I (hwn (by omega)), trivial⟩, (by omega), hj.2, (by omega), hlv1, hk_, (by omega), ln_, ne_, (by omega)⟩, (by show ix (I _) < ix (I _); rw [hwn (by omega)]; simp only [ix]; omega)⟩)
    | fail)
  conv => whnf
  refine ⟨fun fr H nx r4 => ∃ (q k2 : Nat) (l2 : List Vo), Has fr [(0, pt0), (3, .w (.o (.ow k2))), (4, one (chF c)), (5, I n), (6, I ((i + 1 : Nat) : Int)), (7, I ((q + 1 : Nat) : Int))] ∧ q ≤ 4 ∧ (l2.length : Int) + 64 * n ≤ 192 + 4 * i + q ∧ (∀ v, v ∈ l2 → v.c.length ≤ 16) ∧
      H k2 = some (voO l2) ∧ 1 ≤ k2 ∧ k2 < nx ∧ H 0 = some (rdO b) ∧ (r4 : Int) ≤ r2 + 4 * i + q,
    fun fr _ _ _ => 5 - ix (fr 7), ⟨0, k1, l1, ⟨rfl, rfl, rfl, rfl, rfl, rfl, trivial⟩, Nat.zero_le _, by omega, hlv1, hk1', hk11, by omega, hH, by omega⟩, ?_⟩
  rintro fr H nx r4 ⟨q, k2, l2, hfr, hq4, hl2, hlv2, hk2, hk21, hk2n, hH, hr4⟩
  rw [hfr.eq]
  have hfit : FitVs l2 := ⟨by simp only [LIM]; omega, fun v hv => Nat.le_trans (hlv2 v hv) (by decide)⟩
  have hfv : ∀ z : Int, FitV ⟨z, c.take (i + 1)⟩ := fun z => by show (c.take (i + 1)).length ≤ LIM; simp only [List.length_take, LIM]; omega
  have hflt : l2.length < LIM := by simp only [LIM]; omega
  have hlv3 : ∀ v, v ∈ l2 ++ [(⟨((q + 1 : Nat) : Int), c.take (i + 1)⟩ : Vo)] → v.c.length ≤ 16 := by
    intro v hv
    rcases List.mem_append.1 hv with hv | hv
    · exact hlv2 v hv
    · rw [List.mem_singleton.1 hv]; simp only [List.length_take]; omega
  repeat' ((conv => whnf); first
    | refine ⟨_, rfl, ?_⟩
    | refine ⟨rfl, ?_⟩
    | refine ⟨_, _, rfl, at_map (by assumption), ?_⟩
    | refine idx_mapX (i := 0) rfl (by assumption) ?_
    | refine idx_map (by omega) (fun x hx => ?_)
    | refine idx_mapX (wrap_dn (by omega) (by omega)) (by assumption) ?_
    | refine idx_mapE (wrap_dn (by omega) (by omega)) (by omega) (fun x hx => ?_)
    | refine idx_mapL (by omega) (by first | assumption | (simp only [LIM]; omega)) (fun x hx => ?_)
    | refine idx_mapI (by omega) (by first | omega | (simp only [List.length_map] at *; omega)) (fun x hx => ?_)
    | refine ⟨_, ldc_cells hupd_at (Nat.le_of_ble_eq_true rfl), ?_⟩
    | refine ⟨_, ldc_cells (by first | assumption | exact zk ‹_› (by omega) | exact zk (zk ‹_› (by omega)) (by omega)) (Nat.le_of_ble_eq_true rfl), ?_⟩
    | refine ⟨_, _, _, _, ((by exact hk_) : (_ : Option Ob) = _), rfl, at_mapA (by assumption), ?_⟩
    | refine idx_ow (by exact hk_) (by omega) (fun x hx => ?_)
    | refine ⟨_, _, _, _, ((by exact hk_) : (_ : Option Ob) = _), rfl, fill_at (by omega), ?_⟩
    | refine idx_owL (by exact hk_) (by omega) (by simp only [LIM]; omega) (fun x hx => ?_)
    | refine idx_owI (by exact hk_) (by omega) (by first | omega | (simp only [List.length_map] at *; omega)) (fun x hx => ?_)
    | refine ⟨_, ldc_pa (by exact hk_) (at_mapA (by assumption)) (Nat.le_of_ble_eq_true rfl), ?_⟩
    | refine ⟨_, rfl, rfl, _, ((by exact hk_) : (_ : Option Ob) = _), (by exact ap_), ?_⟩
    | refine ⟨_, news_ow hupd_at, newsz_ow hupd_at, _, ((by exact hk_) : (_ : Option Ob) = _), (by exact ap_), ?_⟩
    | refine ⟨_, _, _, ((by exact hk_) : (_ : Option Ob) = _), ?_⟩
    | refine ⟨_, ((by exact hk_) : (_ : Option Ob) = _), ?_⟩
    | refine ⟨(show _ ≤ _ from (by exact ap_)), ?_⟩
    | (refine ⟨fun hc => ?_, fun hc => ?_⟩ <;> (try simp (disch := omega) only [List.length_map, wrap64] at hc))
    | (refine ⟨_, slc_to rfl (by first | omega | (simp only [List.length_map] at *; omega)), ?_⟩; rw [map_take'])
    | (refine ⟨_, slc_toI rfl (by omega) (by first | omega | (simp only [List.length_map] at *; omega)), ?_⟩; rw [map_take'])
    | (refine callrd (by exact hk_) rfl rfl ⟨(_, _), rfl, (by exact pr_)⟩ v_spec_l6Rd_pick (by omega) (fun r hr => ?_); have hj := K_spec_l6Rd_pick (a := (_, _)) hr; clear hr; obtain ⟨k, rfl, hk0, hk1⟩ := hj; dsimp only at hk1; (try simp (disch := omega) only [List.length_map, ncast, wrap64] at hk1))
    | (refine mq_add (F := voF) (Q0 := True) (Q1 := True) (l := l2) (l' := l2 ++ [⟨((q + 1 : Nat) : Int), c.take (i + 1)⟩]) (fs := voF ⟨((q + 1 : Nat) : Int), c.take (i + 1)⟩) v_spec_l3Add (by omega) hk_ rfl ⟨(l2, ⟨((q + 1 : Nat) : Int), c.take (i + 1)⟩), rfl, rfl, hfit, hfv _, hflt⟩ (fun r obs' h => by rcases K_spec_l3Add h with ⟨_, h1, h2⟩ | ⟨_, h1, h2⟩; exact .inl ⟨h1, h2, True.intro⟩; exact .inr ⟨h1, h2, True.intro⟩) (fun _ => ?_) (fun _ => ?_))
    | (refine ⟨⟨q + 1, _, l2, ⟨rfl, rfl, rfl, rfl, rfl, congrArg I (wrap_up1 (n := 4) (by omega) (by decide)), trivial⟩, (by omega), (by omega), hlv2, hk_, (by omega), ln_, ne_, (by omega)⟩, (by show 5 - ix (I _) < 5 - ix (I _); simp only [wrap_up1 (n := 4) (i := q) (by omega) (by decide), ix, Int.toNat_natCast]; omega)⟩)
    | (refine ⟨⟨q + 1, _, l2 ++ [⟨((q + 1 : Nat) : Int), c.take (i + 1)⟩], ⟨rfl, rfl, rfl, rfl, rfl, congrArg I (wrap_up1 (n := 4) (by omega) (by decide)), trivial⟩, (by omega), (by simp only [List.length_append, List.length_cons, List.length_nil]; omega), hlv3, hupd_at, (by omega), ln_, ne_, (by omega)⟩, (by show 5 - ix (I _) < 5 - ix (I _); simp only [wrap_up1 (n := 4) (i := q) (by omega) (by decide), ix, Int.toNat_natCast]; omega)⟩)
    | (refine ⟨⟨i + 1, _, l2, ⟨rfl, rfl, rfl, rfl, congrArg I (wrap_up1 (n := c.length) (by omega) hcL), trivial⟩, (by omega), (by omega), hlv2, hk_, (by omega), ln_, ne_, (by omega)⟩, (by show c.length + 1 - ix (I _) < c.length + 1 - ix (I _); simp only [wrap_up1 (n := c.length) (i := i) (by omega) hcL, ix, Int.toNat_natCast]; omega)⟩)
    | fail)
end Av
end Go.Proofs.Ytdboofnogabefaa
/- The walks: votes drawn, some spoilt; the drawing functions of the laws. -/
namespace Go.Proofs.Ytdboofnogabefaa
namespace Av
open Go.RowKit
theorem cost_Open : S_spec_l6Open.cost = 0 := rfl
theorem fit16 {c : List It} (h : c.length ≤ 16) : c.length ≤ LIM := Nat.le_trans h (by decide)
end Av
end Go.Proofs.Ytdboofnogabefaa
