/- The walks: drawn certs. -/
import Derived.Test.YtocfcnkfjfpoaaaU4
set_option linter.unusedVariables false
set_option linter.unusedSimpArgs false
namespace Go.Proofs.Ytocfcnkfjfpoaaa
namespace Av
open Go.RowKit

theorem certOf_small {l : List Vo} (h : certB l = true) : (certOf l).c.length ≤ 16 ∧ (certOf l).b.length = 3 ∧ ∀ x, x ∈ (certOf l).b → x.length ≤ 4 := by
  have hok := certOf_ok h
  refine ⟨hok.1.2, hok.2.2.2.1, fun b hb => ?_⟩
  have hv := hok.2.2.2.2 b hb
  show _ ≤ ([1, 2, 3, 4] : List Int).length
  refine List.Nodup.length_le_of_subset (asc_nodup (asc_vt hv)) fun n hn => ?_
  have := vt_in hv hn
  obtain ⟨q1, q2⟩ := this
  have : n = 1 ∨ n = 2 ∨ n = 3 ∨ n = 4 := by omega
  simpa using this
theorem res_ce {H : Hp} {x y : AC} {fx fy : FV} (hx : bor H (some 4) x = .c fx) (hy : bor H (some 1) y = .c fy) : borW H [some 4, some 1] (.g [x, y]) = .g [.c fx, .c fy] := by simp [borW, borC, hx, hy]
/-- The drawn cert so far. -/
def ceX (H : Hp) (nm : Nat) (ok : Bool) (x y : AC) : Prop := (ok = false ∧ x = .e0 ∧ y = .e0) ∨
  (∃ (c : List It) (bs : List (List Int)), ok = true ∧ x = .c (chF c) ∧ y = .ow nm ∧ H nm = some (bsO bs) ∧ c.length ≤ 16 ∧ bs.length = 3 ∧ ∀ x, x ∈ bs → x.length ≤ 4)
theorem cost_Votes' : S_spec_l71Votes.cost = 5000 := rfl
theorem mq_ce {P : Program} {f : Nat} {S : MSpec} {fr : Env} {H : Hp} {nm rm : Nat} {K : KV} {xs : List (X × List (Option Nat))} {l : List Vo} (hv : ValidM P f S) (hl : rm + S.cost ≤ LIM) (ha : nrmArgs fr xs = [one (vsF l)]) (hpre : S.pre [one (vsF l)] []) (hpost : ∀ r obs', S.post [one (vsF l)] [] r obs' → ofL l r obs') 
    (hK : ∀ x y ok H', ceX H' nm ok x y → (∀ j, j ≠ nm → H' j = H j) → K (.tup [.g [x, y], .o (cB ok)]) H' (rm + S.cost)) : MQ P nm fr H rm K f S xs := by
  refine mq_of (Q0 := certB l = false) (Q1 := certB l = true) (c := (certOf l).c) (bs := (certOf l).b) hv hl ha rfl hpre (fun r obs' h => hpost r obs' h) (fun h => ?_) (fun h => ?_)
  · exact hK .e0 .e0 false H (.inl ⟨rfl, rfl, rfl⟩) (fun _ _ => rfl)
  · obtain ⟨q1, q2, q3⟩ := certOf_small h
    exact hK _ _ true _ (.inr ⟨_, _, rfl, rfl, rfl, hupd_at, q1, q2, q3⟩) (fun j hj => hupd_ne hj)
theorem dr_ok {c : List It} {bs : List (List Int)} (hc : c.length ≤ 17) (hb : bs.length ≤ 4) (hx : ∀ x, x ∈ bs → x.length ≤ 4) : DrCe ⟨c, bs⟩ := ⟨hc, hb, hx⟩
theorem dr_set {c : List It} {bs : List (List Int)} {i : Nat} {x : List Int} (hc : c.length ≤ 16) (hb : bs.length = 3) (hx : ∀ x, x ∈ bs → x.length ≤ 4) (h : x.length ≤ 4) : DrCe ⟨c, bs.set i x⟩ := by
  refine ⟨by show c.length ≤ 17; omega, by show (bs.set i x).length ≤ 4; rw [List.length_set]; omega, fun y hy => ?_⟩
  rcases List.mem_or_eq_of_mem_set hy with hy | rfl
  · exact hx y hy
  · exact h
theorem dr_app {c : List It} {bs : List (List Int)} {x : List Int} (hc : c.length ≤ 16) (hb : bs.length = 3) (hx : ∀ x, x ∈ bs → x.length ≤ 4) (h : x.length ≤ 4) : DrCe ⟨c, bs ++ [x]⟩ := by
  refine ⟨by show c.length ≤ 17; omega, by show (bs ++ [x]).length ≤ 4; rw [List.length_append, hb]; exact Nat.le_of_ble_eq_true rfl, fun y hy => ?_⟩
  rcases List.mem_append.1 hy with hy | hy
  · exact hx y hy
  · rw [List.mem_singleton.1 hy]; exact h
def ceY (H : Hp) (nx k5 : Nat) (ok : Bool) (x y : AC) : Prop := (ok = false ∧ x = .e0 ∧ y = .e0) ∨
  (∃ (c : List It) (bs : List (List Int)) (kb : Nat), ok = true ∧ x = .c (chF c) ∧ y = .ow kb ∧ H kb = some (bsO bs) ∧ 2 ≤ kb ∧ kb < nx ∧ kb ≠ k5 ∧ c.length ≤ 16 ∧ bs.length = 3 ∧ ∀ x, x ∈ bs → x.length ≤ 4)
attribute [local irreducible] Valid ValidM
set_option maxHeartbeats 4000000 in
set_option maxRecDepth 100000 in
theorem v_spec_l72Cert : Valid Try.prog n_spec_l72Cert S_spec_l72Cert := by
  refine valid_of_swp mixed is_spec_l72Cert (by rintro _ ⟨a, rfl, _⟩; exact Nat.le_of_ble_eq_true rfl) ?_
  rintro _ rm ⟨b, rfl, hpre⟩ hl
  try dsimp only at hpre
  generalize hE : entH _ = H0
  have hH : H0 0 = some (.rd (byF b)) := by rw [← hE]; rfl
  have hpre0 := hpre
  have hp1 := hpre
  have cc_spec_l72Cert : S_spec_l72Cert.cost = 50000 := rfl
  have cc_spec_l6Rd_pick : S_spec_l6Rd_pick.cost = 1 := rfl
  have cc1 : S_spec_CertOf.cost = 0 := rfl
  have cc2 := cost_Votes'
  have cc3 := cost_Off
  have fitl : ∀ l : List Vo, (l.length ≤ 200 ∧ ∀ v, v ∈ l → v.c.length ≤ 16) → FitVs l ∧ l.length < LIM := fun l h => ⟨⟨by simp only [LIM]; omega, fun v hv => Nat.le_trans (h.2 v hv) (by decide)⟩, by simp only [LIM]; omega⟩
  repeat' ((conv => whnf); first
    | refine ⟨_, rfl, ?_⟩
    | refine ⟨rfl, ?_⟩
    | refine ⟨_, _, rfl, at_map (by assumption), ?_⟩
    | refine idx_mapX (i := 0) rfl (by assumption) ?_
    | refine idx_map (by omega) (fun x hx => ?_)
    | refine idx_mapX (wrap_dn (by omega) (by omega)) (by assumption) ?_
    | refine idx_mapE (wrap_dn (by omega) (by omega)) (by omega) (fun x hx => ?_)
    | refine idx_mapL (by omega) (by first | assumption | (simp only [LIM]; omega)) (fun x hx => ?_)
    | refine idx_mapI (by omega) (by first | omega | (simp only [List.length_map] at *; omega)) (fun x hx => ?_)
    | refine ⟨_, ldc_cells hupd_at (Nat.le_of_ble_eq_true rfl), ?_⟩
    | refine ⟨_, ldc_cells (by first | assumption | exact zk ‹_› (by omega) | exact zk (zk ‹_› (by omega)) (by omega)) (Nat.le_of_ble_eq_true rfl), ?_⟩
    | refine ⟨_, _, hupd_at, rfl, rfl, Nat.le_of_ble_eq_true rfl, ?_⟩
    | refine ⟨_, _, rfl, rfl, rfl, Nat.le_of_ble_eq_true rfl, ?_⟩
    | (refine ⟨?_, _, (?_ : (_ : Option Ob) = _), rfl, rfl, ?_, ?_⟩; rotate_left; (exact hk_); exact Nat.le_of_ble_eq_true rfl)
    | refine ⟨_, _, _, _, ((by exact hk_) : (_ : Option Ob) = _), rfl, at_mapA (by assumption), ?_⟩
    | refine idx_ow (by exact hk_) (by omega) (fun x hx => ?_)
    | refine ⟨_, _, _, _, ((by exact hk_) : (_ : Option Ob) = _), rfl, fill_at (by omega), ?_⟩
    | refine ⟨_, _, _, _, ((by exact hk_) : (_ : Option Ob) = _), fill_at (by omega), rfl, rfl, Nat.le_of_ble_eq_true rfl, ?_⟩
    | refine idx_owL (by exact hk_) (by omega) (by simp only [LIM]; omega) (fun x hx => ?_)
    | refine idx_owI (by exact hk_) (by omega) (by first | omega | (simp only [List.length_map] at *; omega)) (fun x hx => ?_)
    | refine ⟨_, _, _, _, ((by exact hk_) : (_ : Option Ob) = _), at_mapA (by assumption), rfl, rfl, Nat.le_of_ble_eq_true rfl, ?_⟩
    | refine ⟨_, ldc_pa (by exact hk_) (at_mapA (by assumption)) (Nat.le_of_ble_eq_true rfl), ?_⟩
    | refine ⟨_, rfl, rfl, _, ((by exact hk_) : (_ : Option Ob) = _), (by exact ap_), ?_⟩
    | refine ⟨_, news_ow hupd_at, newsz_ow hupd_at, _, ((by exact hk_) : (_ : Option Ob) = _), (by exact ap_), ?_⟩
    | refine ⟨_, _, _, ((by exact hk_) : (_ : Option Ob) = _), ?_⟩
    | refine ⟨_, ((by exact hk_) : (_ : Option Ob) = _), ?_⟩
    | refine ⟨(show _ ≤ _ from (by exact ap_)), ?_⟩
    | (refine ⟨fun hc => ?_, fun hc => ?_⟩ <;> (try simp (disch := omega) only [List.length_map, wrap64] at hc))
    | (refine mq_rd (F := voF) (Q := fun l => l.length ≤ 200 ∧ ∀ v, v ∈ l → v.c.length ≤ 16) v_spec_l71Votes (by omega) (by exact hk_) rfl ⟨_, rfl, rfl, (by assumption)⟩ (fun r obs' h => K_spec_l71Votes h) (fun l hl0 => ?_))
    | (refine .inl ⟨_, _, _, _, _, rfl, (by exact hk_), fcellss_f voF _, .inr ?_⟩)
    | fail)
  refine mq_ce v_spec_CertOf (by omega) rfl ⟨l, rfl, rfl, fitl l hl0⟩ (fun r obs' h => K_spec_CertOf h) (fun x y ok H' hX hO => ?_)
  have h0' : H' 0 = some (.rd (byF b)) := (hO 0 (by simp only [List.length_cons, List.length_nil]; omega)).trans hk_
  have h1' : H' 1 = some (.cells [.e0, .e0]) := (hO 1 (by simp only [List.length_cons, List.length_nil]; omega)).trans hk_
  clear hO
  repeat' ((conv => whnf); first
    | refine ⟨_, rfl, ?_⟩
    | refine ⟨rfl, ?_⟩
    | refine ⟨_, _, rfl, at_map (by assumption), ?_⟩
    | refine idx_mapX (i := 0) rfl (by assumption) ?_
    | refine idx_map (by omega) (fun x hx => ?_)
    | refine idx_mapX (wrap_dn (by omega) (by omega)) (by assumption) ?_
    | refine idx_mapE (wrap_dn (by omega) (by omega)) (by omega) (fun x hx => ?_)
    | refine idx_mapL (by omega) (by first | assumption | (simp only [LIM]; omega)) (fun x hx => ?_)
    | refine idx_mapI (by omega) (by first | omega | (simp only [List.length_map] at *; omega)) (fun x hx => ?_)
    | refine ⟨_, ldc_cells hupd_at (Nat.le_of_ble_eq_true rfl), ?_⟩
    | refine ⟨_, ldc_cells (by first | assumption | exact zk ‹_› (by omega) | exact zk (zk ‹_› (by omega)) (by omega)) (Nat.le_of_ble_eq_true rfl), ?_⟩
    | refine ⟨_, _, hupd_at, rfl, rfl, Nat.le_of_ble_eq_true rfl, ?_⟩
    | refine ⟨_, _, rfl, rfl, rfl, Nat.le_of_ble_eq_true rfl, ?_⟩
    | (refine ⟨?_, _, (?_ : (_ : Option Ob) = _), rfl, rfl, ?_, ?_⟩; rotate_left; (exact hk_); exact Nat.le_of_ble_eq_true rfl)
    | refine ⟨_, _, _, _, ((by exact hk_) : (_ : Option Ob) = _), rfl, at_mapA (by assumption), ?_⟩
    | refine idx_ow (by exact hk_) (by omega) (fun x hx => ?_)
    | refine ⟨_, _, _, _, ((by exact hk_) : (_ : Option Ob) = _), rfl, fill_at (by omega), ?_⟩
    | refine ⟨_, _, _, _, ((by exact hk_) : (_ : Option Ob) = _), fill_at (by omega), rfl, rfl, Nat.le_of_ble_eq_true rfl, ?_⟩
    | refine idx_owL (by exact hk_) (by omega) (by simp only [LIM]; omega) (fun x hx => ?_)
    | refine idx_owI (by exact hk_) (by omega) (by first | omega | (simp only [List.length_map] at *; omega)) (fun x hx => ?_)
    | refine ⟨_, _, _, _, ((by exact hk_) : (_ : Option Ob) = _), at_mapA (by assumption), rfl, rfl, Nat.le_of_ble_eq_true rfl, ?_⟩
    | refine ⟨_, ldc_pa (by exact hk_) (at_mapA (by assumption)) (Nat.le_of_ble_eq_true rfl), ?_⟩
    | refine ⟨_, rfl, rfl, _, ((by exact hk_) : (_ : Option Ob) = _), (by exact ap_), ?_⟩
    | refine ⟨_, news_ow hupd_at, newsz_ow hupd_at, _, ((by exact hk_) : (_ : Option Ob) = _), (by exact ap_), ?_⟩
    | refine ⟨_, _, _, ((by exact hk_) : (_ : Option Ob) = _), ?_⟩
    | refine ⟨_, ((by exact hk_) : (_ : Option Ob) = _), ?_⟩
    | refine ⟨(show _ ≤ _ from (by exact ap_)), ?_⟩
    | (refine ⟨fun hc => ?_, fun hc => ?_⟩ <;> (try simp (disch := omega) only [List.length_map, wrap64] at hc))
    | fail)
  conv => whnf
  refine ⟨fun fr H nx r2 => ∃ (i : Nat) (l : List Vo) (k5 : Nat) (ok : Bool) (x y : AC), Has fr [(0, pt0), (2, .w (.o (.ptr 1 0))), (4, one (vsF l)), (5, .w (.o (.ptr k5 0))), (6, B ok), (7, I i)] ∧ i ≤ 6 ∧ H 0 = some (rdO b) ∧ H 1 = some (.cells [.e0, .e0]) ∧ H k5 = some (.cells [x, y]) ∧ ceY H nx k5 ok x y ∧ 2 ≤ k5 ∧ k5 < nx ∧ r2 ≤ rm + 5000 + 5001 * i,
    fun fr _ _ _ => 6 - ix (fr 7), ⟨0, l, _, ok, x, y, ⟨rfl, rfl, rfl, rfl, rfl, rfl, trivial⟩, by omega, hk_, hk_, hk_, ?_, ln_, ln_, by omega⟩, ?_⟩
  · rcases hX with ⟨h1, h3, h4⟩ | ⟨c, bs, q1, q2, q3, q4, q6, q7⟩
    · exact .inl ⟨h1, h3, h4⟩
    · exact .inr ⟨c, bs, _, q1, q2, q3, hk_, ln_, ln_, (by simp only [List.length_cons, List.length_nil]; omega), q6, q7⟩
  rintro fr H nx r2 ⟨i, l, k5, ok, x, y, hfr, hi, hH0, hH1, hk5, hcx, h52, h5n, hr2⟩
  rw [hfr.eq]
  clear hX
  rcases Nat.lt_or_ge i 6 with hi' | hi'
  · rcases hcx with ⟨rfl, rfl, rfl⟩ | ⟨c, bs, kb, rfl, rfl, rfl, hkb, hb2, hbn, hbk, hc16, hb3, hb4⟩
    · skip
      repeat' ((conv => whnf); first
        | refine ⟨_, rfl, ?_⟩
        | refine ⟨rfl, ?_⟩
        | refine ⟨_, _, rfl, at_map (by assumption), ?_⟩
        | refine idx_mapX (i := 0) rfl (by assumption) ?_
        | refine idx_map (by omega) (fun x hx => ?_)
        | refine idx_mapX (wrap_dn (by omega) (by omega)) (by assumption) ?_
        | refine idx_mapE (wrap_dn (by omega) (by omega)) (by omega) (fun x hx => ?_)
        | refine idx_mapL (by omega) (by first | assumption | (simp only [LIM]; omega)) (fun x hx => ?_)
        | refine idx_mapI (by omega) (by first | omega | (simp only [List.length_map] at *; omega)) (fun x hx => ?_)
        | refine ⟨_, ldc_cells hupd_at (Nat.le_of_ble_eq_true rfl), ?_⟩
        | refine ⟨_, ldc_cells (by first | assumption | exact zk ‹_› (by omega) | exact zk (zk ‹_› (by omega)) (by omega)) (Nat.le_of_ble_eq_true rfl), ?_⟩
        | refine ⟨_, _, hupd_at, rfl, rfl, Nat.le_of_ble_eq_true rfl, ?_⟩
        | refine ⟨_, _, rfl, rfl, rfl, Nat.le_of_ble_eq_true rfl, ?_⟩
        | (refine ⟨?_, _, (?_ : (_ : Option Ob) = _), rfl, rfl, ?_, ?_⟩; rotate_left; (exact hk_); exact Nat.le_of_ble_eq_true rfl)
        | refine ⟨_, _, _, _, ((by exact hk_) : (_ : Option Ob) = _), rfl, at_mapA (by assumption), ?_⟩
        | refine idx_ow (by exact hk_) (by omega) (fun x hx => ?_)
        | refine ⟨_, _, _, _, ((by exact hk_) : (_ : Option Ob) = _), rfl, fill_at (by omega), ?_⟩
        | refine ⟨_, _, _, _, ((by exact hk_) : (_ : Option Ob) = _), fill_at (by omega), rfl, rfl, Nat.le_of_ble_eq_true rfl, ?_⟩
        | refine idx_owL (by exact hk_) (by omega) (by simp only [LIM]; omega) (fun x hx => ?_)
        | refine idx_owI (by exact hk_) (by omega) (by first | omega | (simp only [List.length_map] at *; omega)) (fun x hx => ?_)
        | refine ⟨_, _, _, _, ((by exact hk_) : (_ : Option Ob) = _), at_mapA (by assumption), rfl, rfl, Nat.le_of_ble_eq_true rfl, ?_⟩
        | refine ⟨_, ldc_pa (by exact hk_) (at_mapA (by assumption)) (Nat.le_of_ble_eq_true rfl), ?_⟩
        | refine ⟨_, rfl, rfl, _, ((by exact hk_) : (_ : Option Ob) = _), (by exact ap_), ?_⟩
        | refine ⟨_, news_ow hupd_at, newsz_ow hupd_at, _, ((by exact hk_) : (_ : Option Ob) = _), (by exact ap_), ?_⟩
        | refine ⟨_, _, _, ((by exact hk_) : (_ : Option Ob) = _), ?_⟩
        | refine ⟨_, ((by exact hk_) : (_ : Option Ob) = _), ?_⟩
        | refine ⟨(show _ ≤ _ from (by exact ap_)), ?_⟩
        | (refine ⟨fun hc => ?_, fun hc => ?_⟩ <;> (try simp (disch := omega) only [List.length_map, wrap64] at hc) <;> (try (exfalso; first | contradiction | omega)))
        | (refine mq_rd (F := voF) (Q := fun l => l.length ≤ 200 ∧ ∀ v, v ∈ l → v.c.length ≤ 16) v_spec_l71Votes (by omega) (by exact hk_) rfl ⟨_, rfl, rfl, (by assumption)⟩ (fun r obs' h => K_spec_l71Votes h) (fun l hl0 => ?_))
        | (refine .inl ⟨_, _, _, _, _, rfl, (by exact hk_), fcellss_f voF _, .inr ?_⟩)
        | (refine mq_ce v_spec_CertOf (by omega) rfl ⟨l, rfl, rfl, fitl l hl0⟩ (fun r obs' h => K_spec_CertOf h) (fun x y ok H' hX hO => ?_))
        | fail)
      have h0' : H' 0 = some (.rd (byF b)) := (hO 0 (by simp only [List.length_cons, List.length_nil]; omega)).trans hk_
      have h1' : H' 1 = some (.cells [.e0, .e0]) := (hO 1 (by simp only [List.length_cons, List.length_nil]; omega)).trans hk_
      have h5' : H' k5 = some (.cells [.e0, .e0]) := (hO k5 (by simp only [List.length_cons, List.length_nil]; omega)).trans hk_
      clear hO
      repeat' ((conv => whnf); first
        | refine ⟨_, rfl, ?_⟩
        | refine ⟨rfl, ?_⟩
        | refine ⟨_, _, rfl, at_map (by assumption), ?_⟩
        | refine idx_mapX (i := 0) rfl (by assumption) ?_
        | refine idx_map (by omega) (fun x hx => ?_)
        | refine idx_mapX (wrap_dn (by omega) (by omega)) (by assumption) ?_
        | refine idx_mapE (wrap_dn (by omega) (by omega)) (by omega) (fun x hx => ?_)
        | refine idx_mapL (by omega) (by first | assumption | (simp only [LIM]; omega)) (fun x hx => ?_)
        | refine idx_mapI (by omega) (by first | omega | (simp only [List.length_map] at *; omega)) (fun x hx => ?_)
        | refine ⟨_, ldc_cells hupd_at (Nat.le_of_ble_eq_true rfl), ?_⟩
        | refine ⟨_, ldc_cells (by first | assumption | exact zk ‹_› (by omega) | exact zk (zk ‹_› (by omega)) (by omega)) (Nat.le_of_ble_eq_true rfl), ?_⟩
        | refine ⟨_, _, hupd_at, rfl, rfl, Nat.le_of_ble_eq_true rfl, ?_⟩
        | refine ⟨_, _, rfl, rfl, rfl, Nat.le_of_ble_eq_true rfl, ?_⟩
        | (refine ⟨?_, _, (?_ : (_ : Option Ob) = _), rfl, rfl, ?_, ?_⟩; rotate_left; (exact hk_); exact Nat.le_of_ble_eq_true rfl)
        | refine ⟨_, _, _, _, ((by exact hk_) : (_ : Option Ob) = _), rfl, at_mapA (by assumption), ?_⟩
        | refine idx_ow (by exact hk_) (by omega) (fun x hx => ?_)
        | refine ⟨_, _, _, _, ((by exact hk_) : (_ : Option Ob) = _), rfl, fill_at (by omega), ?_⟩
        | refine ⟨_, _, _, _, ((by exact hk_) : (_ : Option Ob) = _), fill_at (by omega), rfl, rfl, Nat.le_of_ble_eq_true rfl, ?_⟩
        | refine idx_owL (by exact hk_) (by omega) (by simp only [LIM]; omega) (fun x hx => ?_)
        | refine idx_owI (by exact hk_) (by omega) (by first | omega | (simp only [List.length_map] at *; omega)) (fun x hx => ?_)
        | refine ⟨_, _, _, _, ((by exact hk_) : (_ : Option Ob) = _), at_mapA (by assumption), rfl, rfl, Nat.le_of_ble_eq_true rfl, ?_⟩
        | refine ⟨_, ldc_pa (by exact hk_) (at_mapA (by assumption)) (Nat.le_of_ble_eq_true rfl), ?_⟩
        | refine ⟨_, rfl, rfl, _, ((by exact hk_) : (_ : Option Ob) = _), (by exact ap_), ?_⟩
        | refine ⟨_, news_ow hupd_at, newsz_ow hupd_at, _, ((by exact hk_) : (_ : Option Ob) = _), (by exact ap_), ?_⟩
        | refine ⟨_, _, _, ((by exact hk_) : (_ : Option Ob) = _), ?_⟩
        | refine ⟨_, ((by exact hk_) : (_ : Option Ob) = _), ?_⟩
        | refine ⟨(show _ ≤ _ from (by exact ap_)), ?_⟩
        | (refine ⟨fun hc => ?_, fun hc => ?_⟩ <;> (try simp (disch := omega) only [List.length_map, wrap64] at hc))
        | fail)
      refine ⟨⟨i + 1, l, k5, ok, x, y, ⟨rfl, rfl, rfl, rfl, rfl, congrArg I (wrap_up (n := 6) (by omega) (by decide)), trivial⟩, by omega, hk_, hk_, hk_, ?_, h52, ln_, by omega⟩, (by show 6 - ix (I _) < 6 - ix (I _); simp only [wrap_up (n := 6) (i := i) (by omega) (by decide), ix, Int.toNat_natCast]; omega)⟩
      rcases hX with ⟨h1, h3, h4⟩ | ⟨c, bs, q1, q2, q3, q4, q6, q7⟩
      · exact .inl ⟨h1, h3, h4⟩
      · exact .inr ⟨c, bs, _, q1, q2, q3, hk_, ln_, ln_, (by simp only [List.length_cons, List.length_nil]; omega), q6, q7⟩
    · skip
      repeat' ((conv => whnf); first
        | refine ⟨_, rfl, ?_⟩
        | refine ⟨rfl, ?_⟩
        | refine ⟨_, _, rfl, at_map (by assumption), ?_⟩
        | refine idx_mapX (i := 0) rfl (by assumption) ?_
        | refine idx_map (by omega) (fun x hx => ?_)
        | refine idx_mapX (wrap_dn (by omega) (by omega)) (by assumption) ?_
        | refine idx_mapE (wrap_dn (by omega) (by omega)) (by omega) (fun x hx => ?_)
        | refine idx_mapL (by omega) (by first | assumption | (simp only [LIM]; omega)) (fun x hx => ?_)
        | refine idx_mapI (by omega) (by first | omega | (simp only [List.length_map] at *; omega)) (fun x hx => ?_)
        | refine ⟨_, ldc_cells hupd_at (Nat.le_of_ble_eq_true rfl), ?_⟩
        | refine ⟨_, ldc_cells (by first | assumption | exact zk ‹_› (by omega) | exact zk (zk ‹_› (by omega)) (by omega)) (Nat.le_of_ble_eq_true rfl), ?_⟩
        | refine ⟨_, _, hupd_at, rfl, rfl, Nat.le_of_ble_eq_true rfl, ?_⟩
        | refine ⟨_, _, rfl, rfl, rfl, Nat.le_of_ble_eq_true rfl, ?_⟩
        | (refine ⟨?_, _, (?_ : (_ : Option Ob) = _), rfl, rfl, ?_, ?_⟩; rotate_left; (exact hk_); exact Nat.le_of_ble_eq_true rfl)
        | refine ⟨_, _, _, _, ((by exact hk_) : (_ : Option Ob) = _), rfl, at_mapA (by assumption), ?_⟩
        | refine idx_ow (by exact hk_) (by omega) (fun x hx => ?_)
        | refine ⟨_, _, _, _, ((by exact hk_) : (_ : Option Ob) = _), rfl, fill_at (by omega), ?_⟩
        | refine ⟨_, _, _, _, ((by exact hk_) : (_ : Option Ob) = _), fill_at (by omega), rfl, rfl, Nat.le_of_ble_eq_true rfl, ?_⟩
        | refine idx_owL (by exact hk_) (by omega) (by simp only [LIM]; omega) (fun x hx => ?_)
        | refine idx_owI (by exact hk_) (by omega) (by first | omega | (simp only [List.length_map] at *; omega)) (fun x hx => ?_)
        | refine ⟨_, _, _, _, ((by exact hk_) : (_ : Option Ob) = _), at_mapA (by assumption), rfl, rfl, Nat.le_of_ble_eq_true rfl, ?_⟩
        | refine ⟨_, ldc_pa (by exact hk_) (at_mapA (by assumption)) (Nat.le_of_ble_eq_true rfl), ?_⟩
        | refine ⟨_, rfl, rfl, _, ((by exact hk_) : (_ : Option Ob) = _), (by exact ap_), ?_⟩
        | refine ⟨_, news_ow hupd_at, newsz_ow hupd_at, _, ((by exact hk_) : (_ : Option Ob) = _), (by exact ap_), ?_⟩
        | refine ⟨_, _, _, ((by exact hk_) : (_ : Option Ob) = _), ?_⟩
        | refine ⟨_, ((by exact hk_) : (_ : Option Ob) = _), ?_⟩
        | refine ⟨(show _ ≤ _ from (by exact ap_)), ?_⟩
        | (refine ⟨fun hc => ?_, fun hc => ?_⟩ <;> (try simp (disch := omega) only [List.length_map, wrap64] at hc) <;> (try (exfalso; first | contradiction | omega)))
        | (refine callrd (by exact hk_) rfl rfl ⟨(_, _), rfl, (by exact pr_)⟩ v_spec_l6Rd_pick (by omega) (fun r hr => ?_); have hj := K_spec_l6Rd_pick (a := (_, _)) hr; clear hr; obtain ⟨k, rfl, hk0, hk1⟩ := hj; dsimp only at hk1; (try simp (disch := omega) only [List.length_map, ncast, wrap64] at hk1))
        | (refine mq_rd (F := itF) (Q := fun c => c.length ≤ 7) v_spec_l71Off (by omega) (by exact hk_) rfl ⟨_, rfl, rfl, (by assumption)⟩ (fun r obs' h => rdItM_post h) (fun c hc => ?_))
        | (exact ⟨⟨[.g [.c (chF c), .c (nssF bs)], .o (.c (vsF l))], congrArg (fun z => some [z, AW.o (.c (vsF l))]) (res_ce (rfl) (bor_ow hk_ (fcellss_f (fun n => [nsF n]) bs))), rfl, b, rfl, (by unfold R_spec_l72Cert; exact ⟨⟨c, bs⟩, l, rfl, dr_ok (by omega) (by omega) hb4⟩)⟩, (by omega), h0_⟩)
        | (exact ⟨⟨[.g [.c (chF c), .c (nssF (bs.set 0 [1, 2]))], .o (.c (vsF l))], congrArg (fun z => some [z, AW.o (.c (vsF l))]) (res_ce (rfl) (bor_ow (Eq.trans (b := some (Ob.arr _ 1 ((arA (fun n => [nsF n]) bs).set _ _))) hk_ (arr_set (x := [1, 2]) rfl)) (fcellss_f (fun n => [nsF n]) _))), rfl, b, rfl, (by unfold R_spec_l72Cert; exact ⟨⟨c, (bs.set 0 [1, 2])⟩, l, rfl, dr_set hc16 hb3 hb4 (by decide)⟩)⟩, (by omega), h0_⟩)
        | (exact ⟨⟨[.g [.c (chF c), .c (nssF (bs.set 1 [1, 3, 3, 4]))], .o (.c (vsF l))], congrArg (fun z => some [z, AW.o (.c (vsF l))]) (res_ce (rfl) (bor_ow (Eq.trans (b := some (Ob.arr _ 1 ((arA (fun n => [nsF n]) bs).set _ _))) hk_ (arr_set (x := [1, 3, 3, 4]) rfl)) (fcellss_f (fun n => [nsF n]) _))), rfl, b, rfl, (by unfold R_spec_l72Cert; exact ⟨⟨c, (bs.set 1 [1, 3, 3, 4])⟩, l, rfl, dr_set hc16 hb3 hb4 (by decide)⟩)⟩, (by omega), h0_⟩)
        | (exact ⟨⟨[.g [.c (chF c), .c (nssF (bs ++ [[1, 2, 3]]))], .o (.c (vsF l))], congrArg (fun z => some [z, AW.o (.c (vsF l))]) (res_ce (rfl) (bor_ow (Eq.trans (b := some (Ob.arr _ 1 (arA (fun n => [nsF n]) bs ++ _))) hk_ (arr_snoc (x := [1, 2, 3]) rfl)) (fcellss_f (fun n => [nsF n]) _))), rfl, b, rfl, (by unfold R_spec_l72Cert; exact ⟨⟨c, (bs ++ [[1, 2, 3]])⟩, l, rfl, dr_app hc16 hb3 hb4 (by decide)⟩)⟩, (by omega), h0_⟩)
        | (exact ⟨⟨[.g [.c (chF c), .c (nssF bs)], .o (.c (vsF l))], congrArg (fun z => some [z, AW.o (.c (vsF l))]) (res_ce (bor_ow hk_ (fcellss_f itF c)) (bor_ow hk_ (fcellss_f (fun n => [nsF n]) bs))), rfl, b, rfl, (by unfold R_spec_l72Cert; exact ⟨⟨c, bs⟩, l, rfl, dr_ok (by omega) (by omega) hb4⟩)⟩, (by omega), h0_⟩)
        | fail)
  · rcases hcx with ⟨rfl, rfl, rfl⟩ | ⟨c, bs, kb, rfl, rfl, rfl, hkb, hb2, hbn, hbk, hc16, hb3, hb4⟩
    · skip
      repeat' ((conv => whnf); first
        | refine ⟨_, rfl, ?_⟩
        | refine ⟨rfl, ?_⟩
        | refine ⟨_, _, rfl, at_map (by assumption), ?_⟩
        | refine idx_mapX (i := 0) rfl (by assumption) ?_
        | refine idx_map (by omega) (fun x hx => ?_)
        | refine idx_mapX (wrap_dn (by omega) (by omega)) (by assumption) ?_
        | refine idx_mapE (wrap_dn (by omega) (by omega)) (by omega) (fun x hx => ?_)
        | refine idx_mapL (by omega) (by first | assumption | (simp only [LIM]; omega)) (fun x hx => ?_)
        | refine idx_mapI (by omega) (by first | omega | (simp only [List.length_map] at *; omega)) (fun x hx => ?_)
        | refine ⟨_, ldc_cells hupd_at (Nat.le_of_ble_eq_true rfl), ?_⟩
        | refine ⟨_, ldc_cells (by first | assumption | exact zk ‹_› (by omega) | exact zk (zk ‹_› (by omega)) (by omega)) (Nat.le_of_ble_eq_true rfl), ?_⟩
        | refine ⟨_, _, hupd_at, rfl, rfl, Nat.le_of_ble_eq_true rfl, ?_⟩
        | refine ⟨_, _, rfl, rfl, rfl, Nat.le_of_ble_eq_true rfl, ?_⟩
        | (refine ⟨?_, _, (?_ : (_ : Option Ob) = _), rfl, rfl, ?_, ?_⟩; rotate_left; (exact hk_); exact Nat.le_of_ble_eq_true rfl)
        | refine ⟨_, _, _, _, ((by exact hk_) : (_ : Option Ob) = _), rfl, at_mapA (by assumption), ?_⟩
        | refine idx_ow (by exact hk_) (by omega) (fun x hx => ?_)
        | refine ⟨_, _, _, _, ((by exact hk_) : (_ : Option Ob) = _), rfl, fill_at (by omega), ?_⟩
        | refine ⟨_, _, _, _, ((by exact hk_) : (_ : Option Ob) = _), fill_at (by omega), rfl, rfl, Nat.le_of_ble_eq_true rfl, ?_⟩
        | refine idx_owL (by exact hk_) (by omega) (by simp only [LIM]; omega) (fun x hx => ?_)
        | refine idx_owI (by exact hk_) (by omega) (by first | omega | (simp only [List.length_map] at *; omega)) (fun x hx => ?_)
        | refine ⟨_, _, _, _, ((by exact hk_) : (_ : Option Ob) = _), at_mapA (by assumption), rfl, rfl, Nat.le_of_ble_eq_true rfl, ?_⟩
        | refine ⟨_, ldc_pa (by exact hk_) (at_mapA (by assumption)) (Nat.le_of_ble_eq_true rfl), ?_⟩
        | refine ⟨_, rfl, rfl, _, ((by exact hk_) : (_ : Option Ob) = _), (by exact ap_), ?_⟩
        | refine ⟨_, news_ow hupd_at, newsz_ow hupd_at, _, ((by exact hk_) : (_ : Option Ob) = _), (by exact ap_), ?_⟩
        | refine ⟨_, _, _, ((by exact hk_) : (_ : Option Ob) = _), ?_⟩
        | refine ⟨_, ((by exact hk_) : (_ : Option Ob) = _), ?_⟩
        | refine ⟨(show _ ≤ _ from (by exact ap_)), ?_⟩
        | (refine ⟨fun hc => ?_, fun hc => ?_⟩ <;> (try simp (disch := omega) only [List.length_map, wrap64] at hc) <;> (try (exfalso; first | contradiction | omega)))
        | (refine callrd (by exact hk_) rfl rfl ⟨(_, _), rfl, (by exact pr_)⟩ v_spec_l6Rd_pick (by omega) (fun r hr => ?_); have hj := K_spec_l6Rd_pick (a := (_, _)) hr; clear hr; obtain ⟨k, rfl, hk0, hk1⟩ := hj; dsimp only at hk1; (try simp (disch := omega) only [List.length_map, ncast, wrap64] at hk1))
        | (refine mq_rd (F := itF) (Q := fun c => c.length ≤ 7) v_spec_l71Off (by omega) (by exact hk_) rfl ⟨_, rfl, rfl, (by assumption)⟩ (fun r obs' h => rdItM_post h) (fun c hc => ?_))
        | (exact ⟨⟨[.g [.c (chF []), .c (nssF [])], .o (.c (vsF l))], congrArg (fun z => some [z, AW.o (.c (vsF l))]) (res_ce (rfl) (rfl)), rfl, b, rfl, (by unfold R_spec_l72Cert; exact ⟨⟨[], []⟩, l, rfl, drce0⟩)⟩, (by omega), h0_⟩)
        | (exact ⟨⟨[.g [.c (chF c), .c (nssF [])], .o (.c (vsF l))], congrArg (fun z => some [z, AW.o (.c (vsF l))]) (res_ce (bor_ow hk_ (fcellss_f itF c)) (rfl)), rfl, b, rfl, (by unfold R_spec_l72Cert; exact ⟨⟨c, []⟩, l, rfl, dr_ok (by omega) (Nat.zero_le _) (fun x h => by cases h)⟩)⟩, (by omega), h0_⟩)
        | (exact ⟨⟨[.g [.c (chF []), .c (nssF [[1, 2, 3]])], .o (.c (vsF l))], congrArg (fun z => some [z, AW.o (.c (vsF l))]) (res_ce (rfl) (bor_ow (xs := arA (fun n => [nsF n]) [[1, 2, 3]]) hk_ (fcellss_f (fun n => [nsF n]) [[1, 2, 3]]))), rfl, b, rfl, (by unfold R_spec_l72Cert; exact ⟨⟨[], [[1, 2, 3]]⟩, l, rfl, ⟨Nat.zero_le _, by decide, fun x h => by rw [List.mem_singleton.1 h]; decide⟩⟩)⟩, (by omega), h0_⟩)
        | (refine ⟨_, news_ow hupd_at, newsz_ow hupd_at, Nat.le_of_ble_eq_true rfl, ?_⟩)
        | fail)
    · skip
      repeat' ((conv => whnf); first
        | refine ⟨_, rfl, ?_⟩
        | refine ⟨rfl, ?_⟩
        | refine ⟨_, _, rfl, at_map (by assumption), ?_⟩
        | refine idx_mapX (i := 0) rfl (by assumption) ?_
        | refine idx_map (by omega) (fun x hx => ?_)
        | refine idx_mapX (wrap_dn (by omega) (by omega)) (by assumption) ?_
        | refine idx_mapE (wrap_dn (by omega) (by omega)) (by omega) (fun x hx => ?_)
        | refine idx_mapL (by omega) (by first | assumption | (simp only [LIM]; omega)) (fun x hx => ?_)
        | refine idx_mapI (by omega) (by first | omega | (simp only [List.length_map] at *; omega)) (fun x hx => ?_)
        | refine ⟨_, ldc_cells hupd_at (Nat.le_of_ble_eq_true rfl), ?_⟩
        | refine ⟨_, ldc_cells (by first | assumption | exact zk ‹_› (by omega) | exact zk (zk ‹_› (by omega)) (by omega)) (Nat.le_of_ble_eq_true rfl), ?_⟩
        | refine ⟨_, _, hupd_at, rfl, rfl, Nat.le_of_ble_eq_true rfl, ?_⟩
        | refine ⟨_, _, rfl, rfl, rfl, Nat.le_of_ble_eq_true rfl, ?_⟩
        | (refine ⟨?_, _, (?_ : (_ : Option Ob) = _), rfl, rfl, ?_, ?_⟩; rotate_left; (exact hk_); exact Nat.le_of_ble_eq_true rfl)
        | refine ⟨_, _, _, _, ((by exact hk_) : (_ : Option Ob) = _), rfl, at_mapA (by assumption), ?_⟩
        | refine idx_ow (by exact hk_) (by omega) (fun x hx => ?_)
        | refine ⟨_, _, _, _, ((by exact hk_) : (_ : Option Ob) = _), rfl, fill_at (by omega), ?_⟩
        | refine ⟨_, _, _, _, ((by exact hk_) : (_ : Option Ob) = _), fill_at (by omega), rfl, rfl, Nat.le_of_ble_eq_true rfl, ?_⟩
        | refine idx_owL (by exact hk_) (by omega) (by simp only [LIM]; omega) (fun x hx => ?_)
        | refine idx_owI (by exact hk_) (by omega) (by first | omega | (simp only [List.length_map] at *; omega)) (fun x hx => ?_)
        | refine ⟨_, _, _, _, ((by exact hk_) : (_ : Option Ob) = _), at_mapA (by assumption), rfl, rfl, Nat.le_of_ble_eq_true rfl, ?_⟩
        | refine ⟨_, ldc_pa (by exact hk_) (at_mapA (by assumption)) (Nat.le_of_ble_eq_true rfl), ?_⟩
        | refine ⟨_, rfl, rfl, _, ((by exact hk_) : (_ : Option Ob) = _), (by exact ap_), ?_⟩
        | refine ⟨_, news_ow hupd_at, newsz_ow hupd_at, _, ((by exact hk_) : (_ : Option Ob) = _), (by exact ap_), ?_⟩
        | refine ⟨_, _, _, ((by exact hk_) : (_ : Option Ob) = _), ?_⟩
        | refine ⟨_, ((by exact hk_) : (_ : Option Ob) = _), ?_⟩
        | refine ⟨(show _ ≤ _ from (by exact ap_)), ?_⟩
        | (refine ⟨fun hc => ?_, fun hc => ?_⟩ <;> (try simp (disch := omega) only [List.length_map, wrap64] at hc) <;> (try (exfalso; first | contradiction | omega)))
        | (refine callrd (by exact hk_) rfl rfl ⟨(_, _), rfl, (by exact pr_)⟩ v_spec_l6Rd_pick (by omega) (fun r hr => ?_); have hj := K_spec_l6Rd_pick (a := (_, _)) hr; clear hr; obtain ⟨k, rfl, hk0, hk1⟩ := hj; dsimp only at hk1; (try simp (disch := omega) only [List.length_map, ncast, wrap64] at hk1))
        | (refine mq_rd (F := itF) (Q := fun c => c.length ≤ 7) v_spec_l71Off (by omega) (by exact hk_) rfl ⟨_, rfl, rfl, (by assumption)⟩ (fun r obs' h => rdItM_post h) (fun c hc => ?_))
        | (exact ⟨⟨[.g [.c (chF c), .c (nssF bs)], .o (.c (vsF l))], congrArg (fun z => some [z, AW.o (.c (vsF l))]) (res_ce (rfl) (bor_ow hk_ (fcellss_f (fun n => [nsF n]) bs))), rfl, b, rfl, (by unfold R_spec_l72Cert; exact ⟨⟨c, bs⟩, l, rfl, dr_ok (by omega) (by omega) hb4⟩)⟩, (by omega), h0_⟩)
        | (exact ⟨⟨[.g [.c (chF c), .c (nssF (bs.set 0 [1, 2]))], .o (.c (vsF l))], congrArg (fun z => some [z, AW.o (.c (vsF l))]) (res_ce (rfl) (bor_ow (Eq.trans (b := some (Ob.arr _ 1 ((arA (fun n => [nsF n]) bs).set _ _))) hk_ (arr_set (x := [1, 2]) rfl)) (fcellss_f (fun n => [nsF n]) _))), rfl, b, rfl, (by unfold R_spec_l72Cert; exact ⟨⟨c, (bs.set 0 [1, 2])⟩, l, rfl, dr_set hc16 hb3 hb4 (by decide)⟩)⟩, (by omega), h0_⟩)
        | (exact ⟨⟨[.g [.c (chF c), .c (nssF (bs.set 1 [1, 3, 3, 4]))], .o (.c (vsF l))], congrArg (fun z => some [z, AW.o (.c (vsF l))]) (res_ce (rfl) (bor_ow (Eq.trans (b := some (Ob.arr _ 1 ((arA (fun n => [nsF n]) bs).set _ _))) hk_ (arr_set (x := [1, 3, 3, 4]) rfl)) (fcellss_f (fun n => [nsF n]) _))), rfl, b, rfl, (by unfold R_spec_l72Cert; exact ⟨⟨c, (bs.set 1 [1, 3, 3, 4])⟩, l, rfl, dr_set hc16 hb3 hb4 (by decide)⟩)⟩, (by omega), h0_⟩)
        | (exact ⟨⟨[.g [.c (chF c), .c (nssF (bs ++ [[1, 2, 3]]))], .o (.c (vsF l))], congrArg (fun z => some [z, AW.o (.c (vsF l))]) (res_ce (rfl) (bor_ow (Eq.trans (b := some (Ob.arr _ 1 (arA (fun n => [nsF n]) bs ++ _))) hk_ (arr_snoc (x := [1, 2, 3]) rfl)) (fcellss_f (fun n => [nsF n]) _))), rfl, b, rfl, (by unfold R_spec_l72Cert; exact ⟨⟨c, (bs ++ [[1, 2, 3]])⟩, l, rfl, dr_app hc16 hb3 hb4 (by decide)⟩)⟩, (by omega), h0_⟩)
        | (exact ⟨⟨[.g [.c (chF c), .c (nssF bs)], .o (.c (vsF l))], congrArg (fun z => some [z, AW.o (.c (vsF l))]) (res_ce (bor_ow hk_ (fcellss_f itF c)) (bor_ow hk_ (fcellss_f (fun n => [nsF n]) bs))), rfl, b, rfl, (by unfold R_spec_l72Cert; exact ⟨⟨c, bs⟩, l, rfl, dr_ok (by omega) (by omega) hb4⟩)⟩, (by omega), h0_⟩)
        | fail)
set_option maxHeartbeats 4000000 in
set_option maxRecDepth 100000 in
theorem v_spec_DrawCertOk : Valid Try.prog n_spec_DrawCertOk S_spec_DrawCertOk := by
  refine valid_of_swp mixed is_spec_DrawCertOk (by rintro _ ⟨a, rfl, _⟩; exact Nat.le_of_ble_eq_true rfl) ?_
  rintro _ rm ⟨code, rfl, hpre⟩ hl
  try dsimp only at hpre
  have hpre0 := hpre
  have hp1 := hpre
  have h1 := cost_Open
  have h2 : S_spec_l72Cert.cost = 50000 := rfl
  have h3 : S_spec_DrawCertOk.cost = 60000 := rfl
  repeat' ((conv => whnf); first
    | refine ⟨_, rfl, ?_⟩
    | refine ⟨rfl, ?_⟩
    | refine ⟨_, ldc_cells hupd_at (Nat.le_of_ble_eq_true rfl), ?_⟩
    | refine ⟨_, ldc_cells (by first | assumption | exact zk ‹_› (by omega) | exact zk (zk ‹_› (by omega)) (by omega)) (Nat.le_of_ble_eq_true rfl), ?_⟩
    | refine ⟨_, _, hupd_at, rfl, rfl, Nat.le_of_ble_eq_true rfl, ?_⟩
    | refine ⟨_, _, rfl, rfl, rfl, Nat.le_of_ble_eq_true rfl, ?_⟩
    | (refine ⟨?_, _, (?_ : (_ : Option Ob) = _), rfl, rfl, ?_, ?_⟩; rotate_left; (exact hk_); exact Nat.le_of_ble_eq_true rfl)
    | refine ⟨_, _, _, _, ((by exact hk_) : (_ : Option Ob) = _), fill_at (by omega), rfl, rfl, Nat.le_of_ble_eq_true rfl, ?_⟩
    | refine ⟨_, _, _, _, ((by exact hk_) : (_ : Option Ob) = _), at_mapA (by assumption), rfl, rfl, Nat.le_of_ble_eq_true rfl, ?_⟩
    | refine ⟨_, ldc_pa (by exact hk_) (at_mapA (by assumption)) (Nat.le_of_ble_eq_true rfl), ?_⟩
    | refine ⟨_, ((by exact hk_) : (_ : Option Ob) = _), ?_⟩
    | (refine ⟨fun hc => ?_, fun hc => ?_⟩ <;> (try simp (disch := omega) only [List.length_map, wrap64] at hc))
    | (refine mq_open (Q := fun g => ∃ b, g = byF b ∧ RdOk b) (ar := [one (byF _)]) v_spec_l6Open (by first | assumption | omega) rfl rfl ⟨_, rfl, rfl, (by assumption)⟩ (fun r obs' h => by obtain ⟨b, h1, h2, h3⟩ := K_spec_l6Open h; exact ⟨byF b, h1, h2, b, rfl, h3⟩) (fun g hg => ?_); obtain ⟨b, rfl, hrd⟩ := hg)
    | (refine callrd (by exact hk_) rfl rfl ⟨_, rfl, (by exact pr_)⟩ v_spec_l72Cert (by omega) (fun r hr => ?_); have hj := K_spec_l72Cert (a := _) hr; clear hr; obtain ⟨c, l, rfl, hdc⟩ := hj)
    | exact ⟨⟨_, rfl, rfl, code, rfl, (by unfold R_spec_DrawCertOk; dsimp only; first | done | exact absurd True.intro hj | (exact ⟨_, rfl, hdc⟩))⟩, (by first | exact Nat.le_refl _ | omega), (by exact h0_)⟩
    | fail)
set_option maxHeartbeats 4000000 in
set_option maxRecDepth 100000 in
theorem v_spec_DrawCertFinal : Valid Try.prog n_spec_DrawCertFinal S_spec_DrawCertFinal := by
  refine valid_of_swp mixed is_spec_DrawCertFinal (by rintro _ ⟨a, rfl, _⟩; exact Nat.le_of_ble_eq_true rfl) ?_
  rintro _ rm ⟨code, rfl, hpre⟩ hl
  try dsimp only at hpre
  have hpre0 := hpre
  have hp1 := hpre
  have h2 : S_spec_DrawCertOk.cost = 60000 := rfl
  have h3 : S_spec_DrawCertFinal.cost = 60000 := rfl
  repeat' ((conv => whnf); first
    | refine ⟨_, rfl, ?_⟩
    | refine ⟨rfl, ?_⟩
    | refine ⟨_, _, hupd_at, rfl, rfl, Nat.le_of_ble_eq_true rfl, ?_⟩
    | refine ⟨_, _, rfl, rfl, rfl, Nat.le_of_ble_eq_true rfl, ?_⟩
    | (refine ⟨fun hc => ?_, fun hc => ?_⟩ <;> (try simp (disch := omega) only [List.length_map, wrap64] at hc))
    | (refine callk (b := [one (byF _)]) v_spec_DrawCertOk rfl ⟨_, rfl, (by exact pr_)⟩ (.inl rfl) (by omega) (fun r hr => ?_); have hj := K_spec_DrawCertOk (a := _) hr; clear hr; obtain ⟨c, rfl, hdc⟩ := hj)
    | exact ⟨⟨_, rfl, rfl, code, rfl, (by unfold R_spec_DrawCertFinal; dsimp only; first | done | exact absurd True.intro hj | (exact ⟨_, rfl, hdc⟩))⟩, (by first | exact Nat.le_refl _ | omega), (by exact h0_)⟩
    | fail)
set_option maxHeartbeats 4000000 in
set_option maxRecDepth 100000 in
theorem v_spec_DrawCertVotes : Valid Try.prog n_spec_DrawCertVotes S_spec_DrawCertVotes := by
  refine valid_of_swp mixed is_spec_DrawCertVotes (by rintro _ ⟨a, rfl, _⟩; exact Nat.le_of_ble_eq_true rfl) ?_
  rintro _ rm ⟨code, rfl, hpre⟩ hl
  try dsimp only at hpre
  have hpre0 := hpre
  have hp1 := hpre
  have h2 : S_spec_DrawCertOk.cost = 60000 := rfl
  have h3 : S_spec_DrawCertVotes.cost = 60000 := rfl
  repeat' ((conv => whnf); first
    | refine ⟨_, rfl, ?_⟩
    | refine ⟨rfl, ?_⟩
    | refine ⟨_, _, hupd_at, rfl, rfl, Nat.le_of_ble_eq_true rfl, ?_⟩
    | refine ⟨_, _, rfl, rfl, rfl, Nat.le_of_ble_eq_true rfl, ?_⟩
    | (refine ⟨fun hc => ?_, fun hc => ?_⟩ <;> (try simp (disch := omega) only [List.length_map, wrap64] at hc))
    | (refine callk (b := [one (byF _)]) v_spec_DrawCertOk rfl ⟨_, rfl, (by exact pr_)⟩ (.inl rfl) (by omega) (fun r hr => ?_); have hj := K_spec_DrawCertOk (a := _) hr; clear hr; obtain ⟨c, rfl, hdc⟩ := hj)
    | exact ⟨⟨_, rfl, rfl, code, rfl, (by unfold R_spec_DrawCertVotes; dsimp only; first | done | exact absurd True.intro hj | (exact ⟨_, rfl, hdc⟩))⟩, (by first | exact Nat.le_refl _ | omega), (by exact h0_)⟩
    | fail)
set_option maxHeartbeats 4000000 in
set_option maxRecDepth 100000 in
theorem v_spec_DrawCertOf : Valid Try.prog n_spec_DrawCertOf S_spec_DrawCertOf := by
  refine valid_of_swp mixed is_spec_DrawCertOf (by rintro _ ⟨a, rfl, _⟩; exact Nat.le_of_ble_eq_true rfl) ?_
  rintro _ rm ⟨code, rfl, hpre⟩ hl
  try dsimp only at hpre
  have hpre0 := hpre
  have hp1 := hpre
  have h2 : S_spec_DrawTreeFinal.cost = 60000 := rfl
  have h3 : S_spec_DrawCertOf.cost = 60000 := rfl
  repeat' ((conv => whnf); first
    | refine ⟨_, rfl, ?_⟩
    | refine ⟨rfl, ?_⟩
    | (refine ⟨fun hc => ?_, fun hc => ?_⟩ <;> (try simp (disch := omega) only [List.length_map, wrap64] at hc))
    | (refine callk (b := [one (byF _)]) v_spec_DrawTreeFinal rfl ⟨_, rfl, (by exact pr_)⟩ (.inl rfl) (by omega) (fun r hr => ?_); have hj := K_spec_DrawTreeFinal (a := _) hr; clear hr; obtain ⟨l, rfl, hdl⟩ := hj)
    | exact ⟨⟨_, rfl, rfl, code, rfl, (by unfold R_spec_DrawCertOf; dsimp only; first | done | exact absurd True.intro hj | (exact ⟨_, rfl, hdl⟩))⟩, (by first | exact Nat.le_refl _ | omega), (by exact h0_)⟩
    | fail)
end Av
end Go.Proofs.Ytocfcnkfjfpoaaa
