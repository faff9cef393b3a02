/- The walks: a cert's votes, as the specification has them. -/
import Derived.Test.YtlbdoamidblkaaaU2
import Derived.Test.YtlbdoamidblkaaaP4
set_option linter.unusedVariables false
set_option linter.unusedSimpArgs false
namespace Go.Proofs.Ytlbdoamidblkaaa
namespace Av
open Go.RowKit
theorem rows_snoc {c : List It} {x : List Int} : ∀ {b : List (List Int)} {k : Nat}, certRows c k (b ++ [x]) = certRows c k b ++ certRow c (k + b.length) x
  | [], k => by simp [certRows]
  | a :: b, k => by
    simp only [List.cons_append, certRows, rows_snoc (b := b) (k := k + 1), List.append_assoc, List.length_cons]
    rw [show k + 1 + b.length = k + (b.length + 1) from by omega]
theorem rows_at {c : Ce} {i : Nat} {x : List Int} (hx : c.b[i]? = some x) : certRows c.c 0 (c.b.take i) ++ (certRow c.c i x).take x.length = certRows c.c 0 (c.b.take (i + 1)) := by
  have hi := (List.getElem?_eq_some_iff.1 hx).1
  rw [List.take_add_one, hx]
  simp only [Option.toList]
  rw [rows_snoc, List.length_take, Nat.min_eq_left (by omega), Nat.zero_add]
  congr 1
  exact List.take_of_length_le (by simp [certRow])
theorem row_snoc {c : List It} {i j : Nat} {x : List Int} {n : Int} {L : List Vo} (hn : x[j]? = some n) : L ++ (certRow c i x).take j ++ [⟨n, c.take (c.length - 2 + i)⟩] = L ++ (certRow c i x).take (j + 1) := by
  rw [List.append_assoc, List.take_add_one]
  congr 2
  simp [certRow, hn]
theorem rows_bound {c : Ce} (h : CertOk c) (i : Nat) : (certRows c.c 0 (c.b.take i)).length ≤ 12 := by
  rw [rows_len]
  have h4 : ∀ b, b ∈ c.b → b.length ≤ 4 := by
    intro b hb
    have hv := h.2.2.2.2 b hb
    show _ ≤ ([1, 2, 3, 4] : List Int).length
    refine List.Nodup.length_le_of_subset (asc_nodup (asc_vt hv)) fun n hn => ?_
    have := vt_in hv hn
    obtain ⟨q1, q2⟩ := this
    have : n = 1 ∨ n = 2 ∨ n = 3 ∨ n = 4 := by omega
    simpa using this
  have key : ∀ L : List (List Int), (∀ b, b ∈ L → b.length ≤ 4) → (L.map List.length).sum ≤ 4 * L.length := by
    intro L
    induction L with
    | nil => intro _; simp
    | cons a L ih =>
      intro hL
      have := hL a (by simp)
      have := ih fun b hb => hL b (.tail _ hb)
      simp only [List.map_cons, List.sum_cons, List.length_cons]; omega
  have := key (c.b.take i) fun b hb => h4 b (List.mem_of_mem_take hb)
  have h3 := h.2.2.2.1
  simp only [List.length_take] at this
  omega
theorem rows_fit {c : Ce} (h : CertOk c) (hf : FitCe c) : FitVs (certVotes c) ∧ (certVotes c).length ≤ 12 := by
  have hb := rows_bound h c.b.length
  rw [List.take_length] at hb
  rw [certVotes_ok h]
  refine ⟨⟨Nat.le_trans hb (by decide), fun v hv => ?_⟩, hb⟩
  obtain ⟨j, r, _, _, e⟩ := mem_rows.1 hv
  have := hf.1
  show v.c.length ≤ LIM
  rw [e, List.length_take]; omega
attribute [local irreducible] Valid ValidM
set_option maxHeartbeats 4000000 in
set_option maxRecDepth 100000 in
theorem v_spec_CertVotes : Valid Try.prog n_spec_CertVotes S_spec_CertVotes := by
  refine valid_of_swp mixed is_spec_CertVotes (by rintro _ ⟨a, rfl, _⟩; exact Nat.le_of_ble_eq_true rfl) ?_
  rintro _ rm ⟨c, rfl, hpre⟩ hl
  try dsimp only at hpre
  have hpre0 := hpre
  have hp1 := hpre
  have hfc := hp1.1
  have hL := hfc
  simp only [LIM] at hL
  by_cases hok : CertOk c
  · have hb3 := hok.2.2.2.1
    have h3 := hok.2.1
    have hrb := fun i => rows_bound hok i
    have eV := certVotes_ok hok
    repeat' ((conv => whnf); first
      | refine ⟨_, rfl, ?_⟩
      | refine ⟨rfl, ?_⟩
      | refine ⟨_, _, rfl, at_map (by assumption), ?_⟩
      | refine idx_mapX (i := 0) rfl (by assumption) ?_
      | refine idx_map (by omega) (fun x hx => ?_)
      | refine idx_mapX (wrap_dn (by omega) (by omega)) (by assumption) ?_
      | refine idx_mapE (wrap_dn (by omega) (by omega)) (by omega) (fun x hx => ?_)
      | refine idx_mapL (by omega) (by first | assumption | (simp only [LIM]; omega)) (fun x hx => ?_)
      | refine idx_mapI (by omega) (by first | omega | (simp only [List.length_map] at *; omega)) (fun x hx => ?_)
      | refine ⟨_, ldc_cells hupd_at (Nat.le_of_ble_eq_true rfl), ?_⟩
      | refine ⟨_, ldc_cells (by first | assumption | exact zk ‹_› (by omega) | exact zk (zk ‹_› (by omega)) (by omega)) (Nat.le_of_ble_eq_true rfl), ?_⟩
      | refine ⟨_, _, _, _, ((by exact hk_) : (_ : Option Ob) = _), rfl, at_mapA (by assumption), ?_⟩
      | refine idx_ow (by exact hk_) (by omega) (fun x hx => ?_)
      | refine ⟨_, _, _, _, ((by exact hk_) : (_ : Option Ob) = _), rfl, fill_at (by omega), ?_⟩
      | refine idx_owL (by exact hk_) (by omega) (by simp only [LIM]; omega) (fun x hx => ?_)
      | refine idx_owI (by exact hk_) (by omega) (by first | omega | (simp only [List.length_map] at *; omega)) (fun x hx => ?_)
      | refine ⟨_, ldc_pa (by exact hk_) (at_mapA (by assumption)) (Nat.le_of_ble_eq_true rfl), ?_⟩
      | refine ⟨_, rfl, rfl, _, ((by exact hk_) : (_ : Option Ob) = _), (by exact ap_), ?_⟩
      | refine ⟨_, news_ow hupd_at, newsz_ow hupd_at, _, ((by exact hk_) : (_ : Option Ob) = _), (by exact ap_), ?_⟩
      | refine ⟨_, _, _, ((by exact hk_) : (_ : Option Ob) = _), ?_⟩
      | refine ⟨_, ((by exact hk_) : (_ : Option Ob) = _), ?_⟩
      | refine ⟨(show _ ≤ _ from (by exact ap_)), ?_⟩
      | (refine ⟨fun hc => ?_, fun hc => ?_⟩ <;> (try simp (disch := omega) only [List.length_map, wrap64] at hc) <;> (try (exfalso; first | contradiction | omega)))
      | (refine ⟨_, slc_to rfl (by first | omega | (simp only [List.length_map] at *; omega)), ?_⟩; rw [map_take'])
      | (refine ⟨_, slc_toI rfl (by omega) (by first | omega | (simp only [List.length_map] at *; omega)), ?_⟩; rw [map_take'])
      | (refine callt (b := [agg (ceF ⟨_, _⟩)]) v_spec_CertOk rfl ⟨⟨_, _⟩, rfl, (by exact pr_)⟩ (.inl rfl) (by first | assumption | omega) (fun r hr => K_spec_CertOk (a := ⟨_, _⟩) hr) (fun hj => ?_) (fun hj => ?_) <;> (try simp only [etaPa, etaIt, etaVo] at hj) <;> (try contradiction))
      | fail)
    conv => whnf
    refine ⟨fun fr H nx r2 => ∃ (i ko : Nat), Has fr [(1, .w (.o (.ptr 1 0))), (3, .w (.o (.ow ko))), (4, I (c.c.map itF).length), (5, I i)] ∧ i ≤ 3 ∧ H 1 = some (.cells ((ceF c).map AC.c)) ∧ H ko = some (voO (certRows c.c 0 (c.b.take i))) ∧ 2 ≤ ko ∧ ko < nx ∧ H 0 = none ∧ r2 = rm,
      fun fr _ _ _ => 3 - ix (fr 5), ⟨0, _, ⟨rfl, rfl, rfl, rfl, trivial⟩, by omega, hk_, hk_, ln_, ln_, ne_, rfl⟩, ?_⟩
    rintro fr H nx r2 ⟨i, ko, hfr, hi, hH1, hko, hko1, hkon, hH, rfl⟩
    rw [hfr.eq]
    rcases Nat.lt_or_ge i 3 with hi' | hi'
    · obtain ⟨x, hx⟩ : ∃ x, c.b[i]? = some x := ⟨_, List.getElem?_eq_getElem (by omega)⟩
      have hxl := hp1.b hx
      repeat' ((conv => whnf); first
        | refine ⟨_, rfl, ?_⟩
        | refine ⟨rfl, ?_⟩
        | refine ⟨_, _, rfl, at_map (by assumption), ?_⟩
        | refine idx_mapX (i := 0) rfl (by assumption) ?_
        | refine idx_map (by omega) (fun x hx => ?_)
        | refine idx_mapX (wrap_dn (by omega) (by omega)) (by assumption) ?_
        | refine idx_mapE (wrap_dn (by omega) (by omega)) (by omega) (fun x hx => ?_)
        | refine idx_mapL (by omega) (by first | assumption | (simp only [LIM]; omega)) (fun x hx => ?_)
        | refine idx_mapI (by omega) (by first | omega | (simp only [List.length_map] at *; omega)) (fun x hx => ?_)
        | refine ⟨_, ldc_cells hupd_at (Nat.le_of_ble_eq_true rfl), ?_⟩
        | refine ⟨_, ldc_cells (by first | assumption | exact zk ‹_› (by omega) | exact zk (zk ‹_› (by omega)) (by omega)) (Nat.le_of_ble_eq_true rfl), ?_⟩
        | refine ⟨_, _, _, _, ((by exact hk_) : (_ : Option Ob) = _), rfl, at_mapA (by assumption), ?_⟩
        | refine idx_ow (by exact hk_) (by omega) (fun x hx => ?_)
        | refine ⟨_, _, _, _, ((by exact hk_) : (_ : Option Ob) = _), rfl, fill_at (by omega), ?_⟩
        | refine idx_owL (by exact hk_) (by omega) (by simp only [LIM]; omega) (fun x hx => ?_)
        | refine idx_owI (by exact hk_) (by omega) (by first | omega | (simp only [List.length_map] at *; omega)) (fun x hx => ?_)
        | refine ⟨_, ldc_pa (by exact hk_) (at_mapA (by assumption)) (Nat.le_of_ble_eq_true rfl), ?_⟩
        | refine ⟨_, rfl, rfl, _, ((by exact hk_) : (_ : Option Ob) = _), (by exact ap_), ?_⟩
        | refine ⟨_, news_ow hupd_at, newsz_ow hupd_at, _, ((by exact hk_) : (_ : Option Ob) = _), (by exact ap_), ?_⟩
        | refine ⟨_, _, _, ((by exact hk_) : (_ : Option Ob) = _), ?_⟩
        | refine ⟨_, ((by exact hk_) : (_ : Option Ob) = _), ?_⟩
        | refine ⟨(show _ ≤ _ from (by exact ap_)), ?_⟩
        | (refine ⟨fun hc => ?_, fun hc => ?_⟩ <;> (try simp (disch := omega) only [List.length_map, wrap64] at hc) <;> (try (exfalso; first | contradiction | omega)))
        | (refine ⟨_, slc_to rfl (by first | omega | (simp only [List.length_map] at *; omega)), ?_⟩; rw [map_take'])
        | (refine ⟨_, slc_toI rfl (by omega) (by first | omega | (simp only [List.length_map] at *; omega)), ?_⟩; rw [map_take'])
        | fail)
      conv => whnf
      refine ⟨fun fr H nx r3 => ∃ (j ko : Nat), Has fr [(1, .w (.o (.ptr 1 0))), (3, .w (.o (.ow ko))), (4, I (c.c.map itF).length), (5, I i), (6, I j)] ∧ j ≤ x.length ∧ H 1 = some (.cells ((ceF c).map AC.c)) ∧ H ko = some (voO (certRows c.c 0 (c.b.take i) ++ (certRow c.c i x).take j)) ∧ 2 ≤ ko ∧ ko < nx ∧ H 0 = none ∧ r3 = r2,
        fun fr _ _ _ => x.length - ix (fr 6), ⟨0, ko, ⟨rfl, rfl, rfl, rfl, rfl, trivial⟩, by omega, hk_, (by rw [List.take_zero, List.append_nil]; exact hko), hko1, ln_, ne_, rfl⟩, ?_⟩
      rintro fr H nx r3 ⟨j, ko, hfr, hj, hH1, hko, hko1, hkon, hH, rfl⟩
      rw [hfr.eq]
      have hxv := hok.2.2.2.2 x (List.mem_of_getElem? hx)
      have w1 : IntKind.i64.wrap (IntKind.i64.wrap (((c.c.map itF).length : Int) - 2) + (i : Int)) = ((c.c.length - 2 + i : Nat) : Int) := by
        rw [List.length_map, wrap64 (n := (c.c.length : Int) - 2) (by omega) (by omega), wrap64] <;> omega
      have hrl := hrb i
      have hrl2 : ((certRow c.c i x).take j).length ≤ 4 := by
        have h5 := hrb (i + 1)
        rw [← rows_at hx] at h5
        have h6 : x.length ≤ 4 := by
          show _ ≤ ([1, 2, 3, 4] : List Int).length
          refine List.Nodup.length_le_of_subset (asc_nodup (asc_vt hxv)) fun n hn => ?_
          have := vt_in hxv hn
          obtain ⟨q1, q2⟩ := this
          have : n = 1 ∨ n = 2 ∨ n = 3 ∨ n = 4 := by omega
          simpa using this
        simp only [List.length_take, certRow, List.length_map]; omega
      have hct : (c.c.take (c.c.length - 2 + i)).length ≤ LIM := by simp only [List.length_take]; omega
      rcases Nat.lt_or_ge j x.length with hj' | hj'
      · obtain ⟨n, hn⟩ : ∃ n, x[j]? = some n := ⟨_, List.getElem?_eq_getElem hj'⟩
        repeat' ((conv => whnf); first
          | refine ⟨_, _, rfl, at_map hx, ?_⟩
          | refine ⟨_, _, rfl, at_map hn, ?_⟩
          | (refine ⟨_, slc_to (congrArg I w1) (by simp only [List.length_map]; omega), ?_⟩; rw [map_take'])
          | refine ⟨_, rfl, ?_⟩
          | refine ⟨rfl, ?_⟩
          | refine ⟨_, _, rfl, at_map (by assumption), ?_⟩
          | refine idx_mapX (i := 0) rfl (by assumption) ?_
          | refine idx_map (by omega) (fun x hx => ?_)
          | refine idx_mapX (wrap_dn (by omega) (by omega)) (by assumption) ?_
          | refine idx_mapE (wrap_dn (by omega) (by omega)) (by omega) (fun x hx => ?_)
          | refine idx_mapL (by omega) (by first | assumption | (simp only [LIM]; omega)) (fun x hx => ?_)
          | refine idx_mapI (by omega) (by first | omega | (simp only [List.length_map] at *; omega)) (fun x hx => ?_)
          | refine ⟨_, ldc_cells hupd_at (Nat.le_of_ble_eq_true rfl), ?_⟩
          | refine ⟨_, ldc_cells (by first | assumption | exact zk ‹_› (by omega) | exact zk (zk ‹_› (by omega)) (by omega)) (Nat.le_of_ble_eq_true rfl), ?_⟩
          | refine ⟨_, _, _, _, ((by exact hk_) : (_ : Option Ob) = _), rfl, at_mapA (by assumption), ?_⟩
          | refine idx_ow (by exact hk_) (by omega) (fun x hx => ?_)
          | refine ⟨_, _, _, _, ((by exact hk_) : (_ : Option Ob) = _), rfl, fill_at (by omega), ?_⟩
          | refine idx_owL (by exact hk_) (by omega) (by simp only [LIM]; omega) (fun x hx => ?_)
          | refine idx_owI (by exact hk_) (by omega) (by first | omega | (simp only [List.length_map] at *; omega)) (fun x hx => ?_)
          | refine ⟨_, ldc_pa (by exact hk_) (at_mapA (by assumption)) (Nat.le_of_ble_eq_true rfl), ?_⟩
          | refine ⟨_, rfl, rfl, _, ((by exact hk_) : (_ : Option Ob) = _), (by exact ap_), ?_⟩
          | refine ⟨_, news_ow hupd_at, newsz_ow hupd_at, _, ((by exact hk_) : (_ : Option Ob) = _), (by exact ap_), ?_⟩
          | refine ⟨_, _, _, ((by exact hk_) : (_ : Option Ob) = _), ?_⟩
          | refine ⟨_, ((by exact hk_) : (_ : Option Ob) = _), ?_⟩
          | refine ⟨(show _ ≤ _ from (by exact ap_)), ?_⟩
          | (refine ⟨fun hc => ?_, fun hc => ?_⟩ <;> (try simp (disch := omega) only [List.length_map, wrap64] at hc) <;> (try (exfalso; first | contradiction | omega)))
          | (refine ⟨_, slc_to rfl (by first | omega | (simp only [List.length_map] at *; omega)), ?_⟩; rw [map_take'])
          | (refine ⟨_, slc_toI rfl (by omega) (by first | omega | (simp only [List.length_map] at *; omega)), ?_⟩; rw [map_take'])
          | (refine calle (b := [one (chF _)]) v_spec_l1Copy rfl ⟨_, rfl, (by exact pr_)⟩ (.inl rfl) (by first | assumption | omega) (fun r hr => K_spec_l1Copy (a := _) hr) ?_)
          | (refine ⟨⟨j + 1, _, ⟨rfl, rfl, rfl, rfl, congrArg I (wrap_up (n := x.length) (by omega) hxl), trivial⟩, by omega, hk_, Eq.trans (b := some (Ob.arr _ _ (arA voF (certRows c.c 0 (c.b.take i) ++ (certRow c.c i x).take j) ++ _))) hk_ ((arr_snoc (x := ⟨n, c.c.take (c.c.length - 2 + i)⟩) rfl).trans (by rw [row_snoc hn])), ln_, ln_, ne_, rfl⟩, (by show x.length - ix (I _) < x.length - ix (I _); simp only [wrap_up (n := x.length) (i := j) (by omega) hxl, ix, Int.toNat_natCast]; omega)⟩)
          | fail)
      · have hje : j = x.length := by omega
        subst hje
        rw [rows_at hx] at hko
        repeat' ((conv => whnf); first
          | refine ⟨_, _, rfl, at_map hx, ?_⟩
          | refine ⟨_, rfl, ?_⟩
          | refine ⟨rfl, ?_⟩
          | refine ⟨_, _, rfl, at_map (by assumption), ?_⟩
          | refine idx_mapX (i := 0) rfl (by assumption) ?_
          | refine idx_map (by omega) (fun x hx => ?_)
          | refine idx_mapX (wrap_dn (by omega) (by omega)) (by assumption) ?_
          | refine idx_mapE (wrap_dn (by omega) (by omega)) (by omega) (fun x hx => ?_)
          | refine idx_mapL (by omega) (by first | assumption | (simp only [LIM]; omega)) (fun x hx => ?_)
          | refine idx_mapI (by omega) (by first | omega | (simp only [List.length_map] at *; omega)) (fun x hx => ?_)
          | refine ⟨_, ldc_cells hupd_at (Nat.le_of_ble_eq_true rfl), ?_⟩
          | refine ⟨_, ldc_cells (by first | assumption | exact zk ‹_› (by omega) | exact zk (zk ‹_› (by omega)) (by omega)) (Nat.le_of_ble_eq_true rfl), ?_⟩
          | refine ⟨_, _, _, _, ((by exact hk_) : (_ : Option Ob) = _), rfl, at_mapA (by assumption), ?_⟩
          | refine idx_ow (by exact hk_) (by omega) (fun x hx => ?_)
          | refine ⟨_, _, _, _, ((by exact hk_) : (_ : Option Ob) = _), rfl, fill_at (by omega), ?_⟩
          | refine idx_owL (by exact hk_) (by omega) (by simp only [LIM]; omega) (fun x hx => ?_)
          | refine idx_owI (by exact hk_) (by omega) (by first | omega | (simp only [List.length_map] at *; omega)) (fun x hx => ?_)
          | refine ⟨_, ldc_pa (by exact hk_) (at_mapA (by assumption)) (Nat.le_of_ble_eq_true rfl), ?_⟩
          | refine ⟨_, rfl, rfl, _, ((by exact hk_) : (_ : Option Ob) = _), (by exact ap_), ?_⟩
          | refine ⟨_, news_ow hupd_at, newsz_ow hupd_at, _, ((by exact hk_) : (_ : Option Ob) = _), (by exact ap_), ?_⟩
          | refine ⟨_, _, _, ((by exact hk_) : (_ : Option Ob) = _), ?_⟩
          | refine ⟨_, ((by exact hk_) : (_ : Option Ob) = _), ?_⟩
          | refine ⟨(show _ ≤ _ from (by exact ap_)), ?_⟩
          | (refine ⟨fun hc => ?_, fun hc => ?_⟩ <;> (try simp (disch := omega) only [List.length_map, wrap64] at hc) <;> (try (exfalso; first | contradiction | omega)))
          | (refine ⟨_, slc_to rfl (by first | omega | (simp only [List.length_map] at *; omega)), ?_⟩; rw [map_take'])
          | (refine ⟨_, slc_toI rfl (by omega) (by first | omega | (simp only [List.length_map] at *; omega)), ?_⟩; rw [map_take'])
          | (refine ⟨⟨i + 1, ko, ⟨rfl, rfl, rfl, congrArg I (wrap_up (n := 3) (by omega) (by decide)), trivial⟩, by omega, hk_, hk_, hko1, ln_, ne_, rfl⟩, (by show 3 - ix (I _) < 3 - ix (I _); simp only [wrap_up (n := 3) (i := i) (by omega) (by decide), ix, Int.toNat_natCast]; omega)⟩)
          | fail)
    · have hi3 : i = 3 := by omega
      subst hi3
      have e4 : c.b.take 3 = c.b := List.take_of_length_le (by omega)
      rw [e4] at hko
      repeat' ((conv => whnf); first
        | refine ⟨_, rfl, ?_⟩
        | refine ⟨rfl, ?_⟩
        | refine ⟨_, _, rfl, at_map (by assumption), ?_⟩
        | refine idx_mapX (i := 0) rfl (by assumption) ?_
        | refine idx_map (by omega) (fun x hx => ?_)
        | refine idx_mapX (wrap_dn (by omega) (by omega)) (by assumption) ?_
        | refine idx_mapE (wrap_dn (by omega) (by omega)) (by omega) (fun x hx => ?_)
        | refine idx_mapL (by omega) (by first | assumption | (simp only [LIM]; omega)) (fun x hx => ?_)
        | refine idx_mapI (by omega) (by first | omega | (simp only [List.length_map] at *; omega)) (fun x hx => ?_)
        | refine ⟨_, ldc_cells hupd_at (Nat.le_of_ble_eq_true rfl), ?_⟩
        | refine ⟨_, ldc_cells (by first | assumption | exact zk ‹_› (by omega) | exact zk (zk ‹_› (by omega)) (by omega)) (Nat.le_of_ble_eq_true rfl), ?_⟩
        | refine ⟨_, _, _, _, ((by exact hk_) : (_ : Option Ob) = _), rfl, at_mapA (by assumption), ?_⟩
        | refine idx_ow (by exact hk_) (by omega) (fun x hx => ?_)
        | refine ⟨_, _, _, _, ((by exact hk_) : (_ : Option Ob) = _), rfl, fill_at (by omega), ?_⟩
        | refine idx_owL (by exact hk_) (by omega) (by simp only [LIM]; omega) (fun x hx => ?_)
        | refine idx_owI (by exact hk_) (by omega) (by first | omega | (simp only [List.length_map] at *; omega)) (fun x hx => ?_)
        | refine ⟨_, ldc_pa (by exact hk_) (at_mapA (by assumption)) (Nat.le_of_ble_eq_true rfl), ?_⟩
        | refine ⟨_, rfl, rfl, _, ((by exact hk_) : (_ : Option Ob) = _), (by exact ap_), ?_⟩
        | refine ⟨_, news_ow hupd_at, newsz_ow hupd_at, _, ((by exact hk_) : (_ : Option Ob) = _), (by exact ap_), ?_⟩
        | refine ⟨_, _, _, ((by exact hk_) : (_ : Option Ob) = _), ?_⟩
        | refine ⟨_, ((by exact hk_) : (_ : Option Ob) = _), ?_⟩
        | refine ⟨(show _ ≤ _ from (by exact ap_)), ?_⟩
        | (refine ⟨fun hc => ?_, fun hc => ?_⟩ <;> (try simp (disch := omega) only [List.length_map, wrap64] at hc) <;> (try (exfalso; first | contradiction | omega)))
        | (refine ⟨_, slc_to rfl (by first | omega | (simp only [List.length_map] at *; omega)), ?_⟩; rw [map_take'])
        | (refine ⟨_, slc_toI rfl (by omega) (by first | omega | (simp only [List.length_map] at *; omega)), ?_⟩; rw [map_take'])
        | exact ⟨⟨_, rfl, rfl, c, rfl, rfl⟩, (by first | exact Nat.le_refl _ | omega), (by exact h0_)⟩
        | exact ⟨⟨_, rfl, rfl, c, rfl, (by refine congrArg one (?_ : (_ : FV) = _); (try dsimp only); first | done | exact absurd True.intro hj | ((rw [eV]; first | done | rfl)))⟩, (by first | exact Nat.le_refl _ | omega), (by exact h0_)⟩
        | exact ⟨⟨[.o (.c _)], congrArg (fun x => some [AW.o x]) (bor_ow (by exact hk_) (by first | rfl | (exact fcellss_f _ _))), rfl, c, rfl, (by first | rfl | (refine congrArg one (?_ : (_ : FV) = _); (try dsimp only); first | done | exact absurd True.intro hj | ((rw [eV]; first | done | rfl))))⟩, (by first | exact Nat.le_refl _ | omega), (by exact h0_)⟩
        | fail)
  · have eV := certVotes_no hok
    repeat' ((conv => whnf); first
      | refine ⟨_, rfl, ?_⟩
      | refine ⟨rfl, ?_⟩
      | refine ⟨_, _, rfl, at_map (by assumption), ?_⟩
      | refine idx_mapX (i := 0) rfl (by assumption) ?_
      | refine idx_map (by omega) (fun x hx => ?_)
      | refine idx_mapX (wrap_dn (by omega) (by omega)) (by assumption) ?_
      | refine idx_mapE (wrap_dn (by omega) (by omega)) (by omega) (fun x hx => ?_)
      | refine idx_mapL (by omega) (by first | assumption | (simp only [LIM]; omega)) (fun x hx => ?_)
      | refine idx_mapI (by omega) (by first | omega | (simp only [List.length_map] at *; omega)) (fun x hx => ?_)
      | refine ⟨_, ldc_cells hupd_at (Nat.le_of_ble_eq_true rfl), ?_⟩
      | refine ⟨_, ldc_cells (by first | assumption | exact zk ‹_› (by omega) | exact zk (zk ‹_› (by omega)) (by omega)) (Nat.le_of_ble_eq_true rfl), ?_⟩
      | refine ⟨_, _, _, _, ((by exact hk_) : (_ : Option Ob) = _), rfl, at_mapA (by assumption), ?_⟩
      | refine idx_ow (by exact hk_) (by omega) (fun x hx => ?_)
      | refine ⟨_, _, _, _, ((by exact hk_) : (_ : Option Ob) = _), rfl, fill_at (by omega), ?_⟩
      | refine idx_owL (by exact hk_) (by omega) (by simp only [LIM]; omega) (fun x hx => ?_)
      | refine idx_owI (by exact hk_) (by omega) (by first | omega | (simp only [List.length_map] at *; omega)) (fun x hx => ?_)
      | refine ⟨_, ldc_pa (by exact hk_) (at_mapA (by assumption)) (Nat.le_of_ble_eq_true rfl), ?_⟩
      | refine ⟨_, rfl, rfl, _, ((by exact hk_) : (_ : Option Ob) = _), (by exact ap_), ?_⟩
      | refine ⟨_, news_ow hupd_at, newsz_ow hupd_at, _, ((by exact hk_) : (_ : Option Ob) = _), (by exact ap_), ?_⟩
      | refine ⟨_, _, _, ((by exact hk_) : (_ : Option Ob) = _), ?_⟩
      | refine ⟨_, ((by exact hk_) : (_ : Option Ob) = _), ?_⟩
      | refine ⟨(show _ ≤ _ from (by exact ap_)), ?_⟩
      | (refine ⟨fun hc => ?_, fun hc => ?_⟩ <;> (try simp (disch := omega) only [List.length_map, wrap64] at hc) <;> (try (exfalso; first | contradiction | omega)))
      | (refine ⟨_, slc_to rfl (by first | omega | (simp only [List.length_map] at *; omega)), ?_⟩; rw [map_take'])
      | (refine ⟨_, slc_toI rfl (by omega) (by first | omega | (simp only [List.length_map] at *; omega)), ?_⟩; rw [map_take'])
      | (refine callt (b := [agg (ceF ⟨_, _⟩)]) v_spec_CertOk rfl ⟨⟨_, _⟩, rfl, (by exact pr_)⟩ (.inl rfl) (by first | assumption | omega) (fun r hr => K_spec_CertOk (a := ⟨_, _⟩) hr) (fun hj => ?_) (fun hj => ?_) <;> (try simp only [etaPa, etaIt, etaVo] at hj) <;> (try contradiction))
      | exact ⟨⟨_, rfl, rfl, c, rfl, rfl⟩, (by first | exact Nat.le_refl _ | omega), (by exact h0_)⟩
      | exact ⟨⟨_, rfl, rfl, c, rfl, (by refine congrArg one (?_ : (_ : FV) = _); (try dsimp only); first | done | exact absurd True.intro hj | ((rw [eV]; first | done | rfl)))⟩, (by first | exact Nat.le_refl _ | omega), (by exact h0_)⟩
      | exact ⟨⟨[.o (.c _)], congrArg (fun x => some [AW.o x]) (bor_ow (by exact hk_) (by first | rfl | (exact fcellss_f _ _))), rfl, c, rfl, (by first | rfl | (refine congrArg one (?_ : (_ : FV) = _); (try dsimp only); first | done | exact absurd True.intro hj | ((rw [eV]; first | done | rfl))))⟩, (by first | exact Nat.le_refl _ | omega), (by exact h0_)⟩
      | fail)
end Av
end Go.Proofs.Ytlbdoamidblkaaa
