/- The walks: a node votes and proposes, with memory of its own. -/
import Derived.Test.YtdboofnogabefaaJ34
import Derived.Test.YtdboofnogabefaaKF
import Derived.Test.YtdboofnogabefaaJ46
set_option linter.unusedVariables false
set_option linter.unusedSimpArgs false
namespace Go.Proofs.Ytdboofnogabefaa
namespace Av
open Go.RowKit
theorem vO_impl_votes_tip_L : ValidM Try.prog n_impl_votes_tip_o SO_impl_votes_tip_L.toM := vO_impl_votes_tip
theorem startN {l : List Vo} : nV.At (fun k => (nV.In l)[k]?) (l.length + 1) 0 (· + 1) l :=
  ⟨rfl, fun j v h => Nest.In_at h, fun j hj => by omega, fun j j' _ _ e => by omega, by omega, fun j hj => by omega⟩
/-- A chain, or a nest whose arrays are named. -/
def OkN (ks : List Nat) (ob : Ob) : Prop := (∃ c, ob = itO c) ∨ ∃ f l, ob = nV.ob f l ∧ ∀ j, j < l.length → f j ∈ ks
theorem okN {ks : List Nat} {ob : Ob} (h : OkN ks ob) : okOb (· ∈ ks) ob ∧ plainO ob := by
  rcases h with ⟨c, rfl⟩ | ⟨f, l, rfl, h⟩
  · exact ⟨arA_ok _, itO_plain c⟩
  · exact ⟨nV_ob_ok h, nV_ob_plain⟩
theorem okNs {H : Hp} {ks : List Nat} (h : ∀ x, x ∈ ks → ∃ ob, H x = some ob ∧ OkN ks ob) : ∀ x ob, x ∈ ks → H x = some ob → okOb (· ∈ ks) ob ∧ plainO ob := fun x ob hx e => by
  obtain ⟨ob', e', h'⟩ := h x hx
  rw [e] at e'; cases e'
  exact okN h'
theorem range_at {M i : Nat} {es : List Nat} (h : i < M) : (List.range M ++ es)[i]? = some i := by
  rw [List.getElem?_append_left (by simpa using h), List.getElem?_range h]
/-- The names of what was handed in, and new ones. -/
theorem mem_es {M x : Nat} {es : List Nat} : x ∈ List.range M ++ es ↔ x < M ∨ x ∈ es := by rw [List.mem_append, List.mem_range]
theorem nodup_es {M : Nat} {es : List Nat} (h : es.Nodup) (h' : ∀ x, x ∈ es → M ≤ x) : (List.range M ++ es).Nodup :=
  List.nodup_append.2 ⟨List.nodup_range, h, fun a ha b hb e => by have := h' b hb; have := List.mem_range.1 ha; omega⟩
theorem raw_cells {fr : Env} {H : Hp} {m t k : Nat} {sh : List (Option Nat)} {cs : List AC} (ht : fr t = .w (.o (.ptr k 0))) (hk : H k = some (.cells cs)) (hm : cs.length = m) : rawC fr H ⟨some (some m), t, sh⟩ = some (.g cs) := by
  subst hm
  have e : ldc H (fr t) cs.length = some cs := by
    rw [ht, ldc_cells hk (Nat.le_of_eq (Nat.zero_add _)), List.drop_zero, List.take_length]
  show (ldc H (fr t) ((some cs.length).getD 1)).bind (fun c => awOf (mkw (some cs.length) c)) = _
  rw [show (some cs.length).getD 1 = cs.length from rfl, e]; rfl
/-- Nothing but the node, as it lies from the start. -/
theorem triAt0 {H : Hp} {o : Tri} {l : List Vo} (h0 : o.1.seen = l) (hA : nV.At H (l.length + 1) 0 (· + 1) l) (hc : o.2.1.c = []) : TriAt H (l.length + 1) (List.range (l.length + 1)) false o 0 (· + 1) .e0 := by
  subst h0
  have hm : ∀ j, j < o.1.seen.length → j + 1 ∈ List.range (o.1.seen.length + 1) := fun j hj => List.mem_range.2 (by omega)
  refine ⟨List.nodup_range, okNs fun x hx => ?_, hA, List.mem_range.2 (by omega), hm, .inl ⟨rfl, rfl, hc⟩, fun x h => by cases h⟩
  cases x with
  | zero => exact ⟨_, hA.out, .inr ⟨_, _, rfl, hm⟩⟩
  | succ j => exact ⟨_, hA.inn j _ (List.getElem?_eq_getElem (by have := List.mem_range.1 hx; omega)), .inl ⟨_, rfl⟩⟩
/-- The node with one more vote, and a copy of the vote. -/
theorem triAtV {H : Hp} {l : List Vo} {v : Vo} {o : Tri} {b2 : Bool} {n kv B : Nat} (hl : l.length + 1 ≤ n) (hkv : n + 1 < kv) (hB : kv < B) (ho : o.1.seen = l ++ [v]) (h0 : H 0 = some (nV.ob (· + 1) l)) (hin : ∀ j u, l[j]? = some u → H (j + 1) = some (nV.ob1 u))
    (hA : nV.At H B (n + 1) (updF (· + 1) l.length n) (l ++ [v])) (hk : H kv = some (itO o.2.1.c)) : TriAt H B (List.range (l.length + 1) ++ [n, n + 1, kv]) b2 o (n + 1) (updF (· + 1) l.length n) (.ow kv) := by
  have hu : ∀ j, j < l.length → updF (· + 1) l.length n j = j + 1 := fun j hj => if_neg (by omega)
  have hue : updF (· + 1) l.length n l.length = n := if_pos rfl
  have hlen : (l ++ [v]).length = l.length + 1 := by simp
  have hfm : ∀ j, j < l.length + 1 → updF (· + 1) l.length n j ∈ List.range (l.length + 1) ++ [n, n + 1, kv] := fun j hj => by
    rw [mem_es]
    rcases Nat.lt_or_ge j l.length with h | h
    · rw [hu j h]; left; omega
    · obtain rfl : j = l.length := by omega
      rw [hue]; right; simp
  have hflt : ∀ j, j < l.length + 1 → updF (· + 1) l.length n j ≤ n := fun j hj => by
    rcases Nat.lt_or_ge j l.length with h | h
    · rw [hu j h]; omega
    · obtain rfl : j = l.length := by omega
      rw [hue]; exact Nat.le_refl _
  refine ⟨nodup_es (by simp; omega) (fun x hx => by simp at hx; omega), okNs fun x hx => ?_, by rw [ho]; exact hA, mem_es.2 (.inr (by simp)), fun j hj => hfm j (by rw [ho, hlen] at hj; exact hj), .inr ⟨kv, rfl, hB, hk, fun e => (by have := AC.ow.inj e; omega), fun j hj => ?_⟩, fun x hx => ?_⟩
  · rcases mem_es.1 hx with h | h
    · cases x with
      | zero => exact ⟨_, h0, .inr ⟨_, _, rfl, fun j hj => mem_es.2 (.inl (by omega))⟩⟩
      | succ j => exact ⟨_, hin j _ (List.getElem?_eq_getElem (by omega)), .inl ⟨_, rfl⟩⟩
    · simp only [List.mem_cons, List.not_mem_nil, or_false] at h
      rcases h with rfl | rfl | rfl
      · have := hA.inn l.length v (by simp)
        rw [hue] at this
        exact ⟨_, this, .inl ⟨_, rfl⟩⟩
      · exact ⟨_, hA.out, .inr ⟨_, _, rfl, fun j hj => hfm j (by rw [hlen] at hj; exact hj)⟩⟩
      · exact ⟨_, hk, .inl ⟨_, rfl⟩⟩
  · rw [ho, hlen] at hj
    have := hflt j hj
    omega
  · rw [← AC.ow.inj hx]; exact mem_es.2 (.inr (by simp))
section
variable {P : Program} {g : Nat} {fr : Env} {H : Hp} {nm rm : Nat} {K : KV} {xs : List (X × List (Option Nat))}
theorem bq_vo' {v : Vo} (hv : ValidM P g S_impl_Vote_copied_o) (ha : borArgs fr H xs = [agg (voF v)]) (hf : FitV v) (hK : ∀ n, nm = n → K (.w (.g (voK v n))) (hupd n (some (itO v.c)) H) rm) : BQ P nm fr H rm K g S_impl_Vote_copied_o xs := bq_vo hv ha hf (hK _ rfl)
end
attribute [local irreducible] Valid ValidM
set_option maxHeartbeats 4000000 in
set_option maxRecDepth 100000 in
theorem v_impl_Node_vote_o : ValidM Try.prog n_impl_Node_vote_o S_impl_Node_vote_o := by
  refine validM_of_swp mixed is_impl_Node_vote_o (by rintro _ _ ⟨a, rfl, _⟩; exact Nat.le_of_ble_eq_true rfl) ?_
  rintro _ _ rm ⟨⟨n, x⟩, rfl, rfl, hpre⟩ hl
  try dsimp only at hpre
  obtain ⟨hx, hsm⟩ := hpre
  try dsimp only at hx hsm
  have hA0 := startN (l := n.seen)
  have hE0 : (nV.In n.seen)[0]? = some (.arr ty_impl_Vote 2 (nV.K (· + 1) n.seen)) := rfl
  have hEl : (nV.In n.seen).length = n.seen.length + 1 := Nest.In_len
  have hKl : (nV.K (· + 1) n.seen).length = n.seen.length := Nest.K_len
  have c1 : S_impl_Node_vote_o.cost = 0 := rfl
  have c2 : S_impl_votes_with_o.cost = 0 := rfl
  obtain ⟨y, hy⟩ : ∃ y, y = x := ⟨_, rfl⟩
  rw [← hy] at hx
  try dsimp only
  by_cases h80 : 80 ≤ n.seen.length
  · have e : voteN n (chX n.seen y) = (n, zVo, false) := if_pos h80
    rcases x with c | i
    all_goals
      repeat' ((conv => whnf); first
        | refine ⟨_, _, _, _, (hk_ : (_ : Option Ob) = _), rfl, rfl, Nat.le_of_ble_eq_true rfl, ?_⟩
        | refine ⟨_, ldc_cells hk_ (Nat.le_of_ble_eq_true rfl), ?_⟩
        | refine ⟨_, rfl, ?_⟩
        | refine ⟨rfl, ?_⟩
        | refine ⟨_, _, rfl, at_map (by assumption), ?_⟩
        | refine idx_mapX (i := 0) rfl (by assumption) ?_
        | refine idx_map (by omega) (fun x hx => ?_)
        | refine idx_mapX (wrap_dn (by omega) (by omega)) (by assumption) ?_
        | refine idx_mapE (wrap_dn (by omega) (by omega)) (by omega) (fun x hx => ?_)
        | refine idx_mapL (by omega) (by first | assumption | (simp only [LIM]; omega)) (fun x hx => ?_)
        | refine idx_mapI (by omega) (by first | omega | (simp only [List.length_map] at *; omega)) (fun x hx => ?_)
        | refine ⟨_, ldc_cells hupd_at (Nat.le_of_ble_eq_true rfl), ?_⟩
        | refine ⟨_, ldc_cells (by first | assumption | exact zk ‹_› (by omega) | exact zk (zk ‹_› (by omega)) (by omega)) (Nat.le_of_ble_eq_true rfl), ?_⟩
        | refine ⟨_, _, hupd_at, rfl, rfl, Nat.le_of_ble_eq_true rfl, ?_⟩
        | refine ⟨_, _, rfl, rfl, rfl, Nat.le_of_ble_eq_true rfl, ?_⟩
        | (refine ⟨?_, _, (?_ : (_ : Option Ob) = _), rfl, rfl, ?_, ?_⟩; rotate_left; (exact hk_); exact Nat.le_of_ble_eq_true rfl)
        | refine ⟨_, _, _, _, ((by exact hk_) : (_ : Option Ob) = _), rfl, at_mapA (by assumption), ?_⟩
        | refine idx_ow (by exact hk_) (by omega) (fun x hx => ?_)
        | refine ⟨_, _, _, _, ((by exact hk_) : (_ : Option Ob) = _), rfl, fill_at (by omega), ?_⟩
        | refine ⟨_, _, _, _, ((by exact hk_) : (_ : Option Ob) = _), fill_at (by omega), rfl, rfl, Nat.le_of_ble_eq_true rfl, ?_⟩
        | refine idx_owL (by exact hk_) (by omega) (by simp only [LIM]; omega) (fun x hx => ?_)
        | refine idx_owI (by exact hk_) (by omega) (by first | omega | (simp only [List.length_map] at *; omega)) (fun x hx => ?_)
        | refine ⟨_, _, _, _, ((by exact hk_) : (_ : Option Ob) = _), at_mapA (by assumption), rfl, rfl, Nat.le_of_ble_eq_true rfl, ?_⟩
        | refine ⟨_, ldc_pa (by exact hk_) (at_mapA (by assumption)) (Nat.le_of_ble_eq_true rfl), ?_⟩
        | refine ⟨_, rfl, rfl, _, ((by exact hk_) : (_ : Option Ob) = _), (by exact ap_), ?_⟩
        | refine ⟨_, news_ow hupd_at, newsz_ow hupd_at, _, ((by exact hk_) : (_ : Option Ob) = _), (by exact ap_), ?_⟩
        | refine ⟨_, _, _, ((by exact hk_) : (_ : Option Ob) = _), ?_⟩
        | refine ⟨_, ((by exact hk_) : (_ : Option Ob) = _), ?_⟩
        | refine ⟨(show _ ≠ _ from (by first | decide | omega)), ?_⟩
        | refine ⟨(show _ ≤ _ from (by exact ap_)), ?_⟩
        | (refine ⟨fun hc => ?_, fun hc => ?_⟩ <;> (try simp (disch := omega) only [List.length_map, wrap64] at hc) <;> (try (exfalso; first | contradiction | omega)))
        | (refine ⟨⟨(by omega), (by omega), (by simp only [List.length_map] at *; simp only [LIM] at *; omega), (by simp only [List.length_map] at *; simp only [LIM] at *; omega)⟩, ?_⟩; (try simp only [List.length_map, Int.toNat_natCast]))
        | (refine ⟨_, slc_to rfl (by first | omega | (simp only [List.length_map] at *; omega)), ?_⟩; rw [map_take'])
        | (refine ⟨_, slc_toI rfl (by omega) (by first | omega | (simp only [List.length_map] at *; omega)), ?_⟩; rw [map_take'])
        | fail)
      exact finM_triO (o := (n, zVo, false)) (n0 := n.seen.length + 1) (n1 := n.seen.length + 4) (triAt0 (l := n.seen) rfl (hA0.mono (Nat.le_refl _) fun i hi => by (repeat (refine (hupd_ne (by omega)).trans ?_)); rfl) rfl) (Nat.le_add_right _ _) (fun i hi => List.getElem?_range (by have : i < (nV.In n.seen).length := hi; omega)) ⟨⟨_, raw_cells rfl hk_ rfl, .inl rfl⟩, ⟨_, raw_cells rfl hk_ rfl, .inl rfl⟩, ⟨_, rfl, .inl rfl⟩, trivial⟩ (by simp) (by simp) fun r obs' h => ⟨(n, y), by rw [hy], rfl, by show TriO _ _ _ _ (voteN n (chX n.seen y)) _ _; rw [e]; exact h⟩
  · have e : voteN n (chX n.seen y) = (⟨n.id, n.ep, n.ep, n.seen ++ [⟨n.id, chX n.seen y⟩]⟩, ⟨n.id, chX n.seen y⟩, true) := if_neg h80
    rcases x with c | i
    all_goals
      repeat' ((conv => whnf); first
        | refine ⟨_, _, _, _, (hk_ : (_ : Option Ob) = _), rfl, rfl, Nat.le_of_ble_eq_true rfl, ?_⟩
        | refine ⟨_, ldc_cells hk_ (Nat.le_of_ble_eq_true rfl), ?_⟩
        | refine ⟨_, rfl, ?_⟩
        | refine ⟨rfl, ?_⟩
        | refine ⟨_, _, rfl, at_map (by assumption), ?_⟩
        | refine idx_mapX (i := 0) rfl (by assumption) ?_
        | refine idx_map (by omega) (fun x hx => ?_)
        | refine idx_mapX (wrap_dn (by omega) (by omega)) (by assumption) ?_
        | refine idx_mapE (wrap_dn (by omega) (by omega)) (by omega) (fun x hx => ?_)
        | refine idx_mapL (by omega) (by first | assumption | (simp only [LIM]; omega)) (fun x hx => ?_)
        | refine idx_mapI (by omega) (by first | omega | (simp only [List.length_map] at *; omega)) (fun x hx => ?_)
        | refine ⟨_, ldc_cells hupd_at (Nat.le_of_ble_eq_true rfl), ?_⟩
        | refine ⟨_, ldc_cells (by first | assumption | exact zk ‹_› (by omega) | exact zk (zk ‹_› (by omega)) (by omega)) (Nat.le_of_ble_eq_true rfl), ?_⟩
        | refine ⟨_, _, hupd_at, rfl, rfl, Nat.le_of_ble_eq_true rfl, ?_⟩
        | refine ⟨_, _, rfl, rfl, rfl, Nat.le_of_ble_eq_true rfl, ?_⟩
        | (refine ⟨?_, _, (?_ : (_ : Option Ob) = _), rfl, rfl, ?_, ?_⟩; rotate_left; (exact hk_); exact Nat.le_of_ble_eq_true rfl)
        | refine ⟨_, _, _, _, ((by exact hk_) : (_ : Option Ob) = _), rfl, at_mapA (by assumption), ?_⟩
        | refine idx_ow (by exact hk_) (by omega) (fun x hx => ?_)
        | refine ⟨_, _, _, _, ((by exact hk_) : (_ : Option Ob) = _), rfl, fill_at (by omega), ?_⟩
        | refine ⟨_, _, _, _, ((by exact hk_) : (_ : Option Ob) = _), fill_at (by omega), rfl, rfl, Nat.le_of_ble_eq_true rfl, ?_⟩
        | refine idx_owL (by exact hk_) (by omega) (by simp only [LIM]; omega) (fun x hx => ?_)
        | refine idx_owI (by exact hk_) (by omega) (by first | omega | (simp only [List.length_map] at *; omega)) (fun x hx => ?_)
        | refine ⟨_, _, _, _, ((by exact hk_) : (_ : Option Ob) = _), at_mapA (by assumption), rfl, rfl, Nat.le_of_ble_eq_true rfl, ?_⟩
        | refine ⟨_, ldc_pa (by exact hk_) (at_mapA (by assumption)) (Nat.le_of_ble_eq_true rfl), ?_⟩
        | refine ⟨_, rfl, rfl, _, ((by exact hk_) : (_ : Option Ob) = _), (by exact ap_), ?_⟩
        | refine ⟨_, news_ow hupd_at, newsz_ow hupd_at, _, ((by exact hk_) : (_ : Option Ob) = _), (by exact ap_), ?_⟩
        | refine ⟨_, _, _, ((by exact hk_) : (_ : Option Ob) = _), ?_⟩
        | refine ⟨_, ((by exact hk_) : (_ : Option Ob) = _), ?_⟩
        | refine ⟨(show _ ≠ _ from (by first | decide | omega)), ?_⟩
        | refine ⟨(show _ ≤ _ from (by exact ap_)), ?_⟩
        | (refine ⟨fun hc => ?_, fun hc => ?_⟩ <;> (try simp (disch := omega) only [List.length_map, wrap64] at hc) <;> (try (exfalso; first | contradiction | omega)))
        | (refine ⟨⟨(by omega), (by omega), (by simp only [List.length_map] at *; simp only [LIM] at *; omega), (by simp only [List.length_map] at *; simp only [LIM] at *; omega)⟩, ?_⟩; (try simp only [List.length_map, Int.toNat_natCast]))
        | (refine ⟨_, slc_to rfl (by first | omega | (simp only [List.length_map] at *; omega)), ?_⟩; rw [map_take'])
        | (refine ⟨_, slc_toI rfl (by omega) (by first | omega | (simp only [List.length_map] at *; omega)), ?_⟩; rw [map_take'])
        | fail)
      refine mq_withX (v := ⟨n.id, chX n.seen y⟩) (n0 := n.id) (x0 := y) (f := (· + 1)) (k := 0) (l := n.seen) (b := n.seen.length + 1) rfl v_impl_votes_with_o (by omega) hx hsm (hA0.mono (Nat.le_refl _) fun i hi => by (repeat (refine (hupd_ne (by omega)).trans ?_)); rfl) (by omega) (by rw [hy]; rfl) fun n2 H2 e2 hA2 ho2 => ?_
      have hb0 : H2 (nV.In n.seen).length = some (.cells [cI n.id, cI n.ep, cI n.ep, .ow 0]) := (ho2 _ (by omega) (by omega)).trans hk_
      have hb1 : H2 ((nV.In n.seen).length + 16) = some (.cells [cI 0, cI 0, cI 0, .e0]) := (ho2 _ (by omega) (by omega)).trans hk_
      have hb2 : H2 ((nV.In n.seen).length + 16 + 16) = some (.cells [cI 0, .e0]) := (ho2 _ (by omega) (by omega)).trans hk_
      have hb3 : H2 ((nV.In n.seen).length + 16 + 16 + 16 + 16 + 16 + 16 + 16 + 16 + 16 + 16 + 16 + 16) = some (.cells [cI n.id, acF (· + 1) y]) := (ho2 _ (by omega) (by omega)).trans (by rw [hy]; exact hk_)
      have hin2 : ∀ i u, n.seen[i]? = some u → H2 (i + 1) = some (nV.ob1 u) := fun i u hu => by
        have := (List.getElem?_eq_some_iff.1 hu).1
        exact (ho2 (i + 1) (by omega) (by omega)).trans (by (repeat (refine (hupd_ne (by omega)).trans ?_)); exact Nest.In_at hu)
      have h20 : H2 0 = some (nV.ob (· + 1) n.seen) := (ho2 0 (by omega) (by omega)).trans (by (repeat (refine (hupd_ne (by omega)).trans ?_)); rfl)
      repeat' ((conv => whnf); first
        | refine ⟨_, _, _, _, (hk_ : (_ : Option Ob) = _), rfl, rfl, Nat.le_of_ble_eq_true rfl, ?_⟩
        | refine ⟨_, ldc_cells hk_ (Nat.le_of_ble_eq_true rfl), ?_⟩
        | refine ⟨_, rfl, ?_⟩
        | refine ⟨rfl, ?_⟩
        | refine ⟨_, _, rfl, at_map (by assumption), ?_⟩
        | refine idx_mapX (i := 0) rfl (by assumption) ?_
        | refine idx_map (by omega) (fun x hx => ?_)
        | refine idx_mapX (wrap_dn (by omega) (by omega)) (by assumption) ?_
        | refine idx_mapE (wrap_dn (by omega) (by omega)) (by omega) (fun x hx => ?_)
        | refine idx_mapL (by omega) (by first | assumption | (simp only [LIM]; omega)) (fun x hx => ?_)
        | refine idx_mapI (by omega) (by first | omega | (simp only [List.length_map] at *; omega)) (fun x hx => ?_)
        | refine ⟨_, ldc_cells hupd_at (Nat.le_of_ble_eq_true rfl), ?_⟩
        | refine ⟨_, ldc_cells (by first | assumption | exact zk ‹_› (by omega) | exact zk (zk ‹_› (by omega)) (by omega)) (Nat.le_of_ble_eq_true rfl), ?_⟩
        | refine ⟨_, _, hupd_at, rfl, rfl, Nat.le_of_ble_eq_true rfl, ?_⟩
        | refine ⟨_, _, rfl, rfl, rfl, Nat.le_of_ble_eq_true rfl, ?_⟩
        | (refine ⟨?_, _, (?_ : (_ : Option Ob) = _), rfl, rfl, ?_, ?_⟩; rotate_left; (exact hk_); exact Nat.le_of_ble_eq_true rfl)
        | refine ⟨_, _, _, _, ((by exact hk_) : (_ : Option Ob) = _), rfl, at_mapA (by assumption), ?_⟩
        | refine idx_ow (by exact hk_) (by omega) (fun x hx => ?_)
        | refine ⟨_, _, _, _, ((by exact hk_) : (_ : Option Ob) = _), rfl, fill_at (by omega), ?_⟩
        | refine ⟨_, _, _, _, ((by exact hk_) : (_ : Option Ob) = _), fill_at (by omega), rfl, rfl, Nat.le_of_ble_eq_true rfl, ?_⟩
        | refine idx_owL (by exact hk_) (by omega) (by simp only [LIM]; omega) (fun x hx => ?_)
        | refine idx_owI (by exact hk_) (by omega) (by first | omega | (simp only [List.length_map] at *; omega)) (fun x hx => ?_)
        | refine ⟨_, _, _, _, ((by exact hk_) : (_ : Option Ob) = _), at_mapA (by assumption), rfl, rfl, Nat.le_of_ble_eq_true rfl, ?_⟩
        | refine ⟨_, ldc_pa (by exact hk_) (at_mapA (by assumption)) (Nat.le_of_ble_eq_true rfl), ?_⟩
        | refine ⟨_, rfl, rfl, _, ((by exact hk_) : (_ : Option Ob) = _), (by exact ap_), ?_⟩
        | refine ⟨_, news_ow hupd_at, newsz_ow hupd_at, _, ((by exact hk_) : (_ : Option Ob) = _), (by exact ap_), ?_⟩
        | refine ⟨_, _, _, ((by exact hk_) : (_ : Option Ob) = _), ?_⟩
        | refine ⟨_, ((by exact hk_) : (_ : Option Ob) = _), ?_⟩
        | refine ⟨(show _ ≠ _ from (by first | decide | omega)), ?_⟩
        | refine ⟨(show _ ≤ _ from (by exact ap_)), ?_⟩
        | (refine ⟨fun hc => ?_, fun hc => ?_⟩ <;> (try simp (disch := omega) only [List.length_map, wrap64] at hc) <;> (try (exfalso; first | contradiction | omega)))
        | (refine ⟨⟨(by omega), (by omega), (by simp only [List.length_map] at *; simp only [LIM] at *; omega), (by simp only [List.length_map] at *; simp only [LIM] at *; omega)⟩, ?_⟩; (try simp only [List.length_map, Int.toNat_natCast]))
        | (refine ⟨_, slc_to rfl (by first | omega | (simp only [List.length_map] at *; omega)), ?_⟩; rw [map_take'])
        | (refine ⟨_, slc_toI rfl (by omega) (by first | omega | (simp only [List.length_map] at *; omega)), ?_⟩; rw [map_take'])
        | fail)
      refine bq_vo' (v := ⟨n.id, chX n.seen y⟩) v_impl_Vote_copied_o (congrArg (fun z => [z]) (bor_acX hx fun i u hu => (hupd_ne (by have := (List.getElem?_eq_some_iff.1 hu).1; omega)).trans (hin2 i u hu))) (okX_fit hx) fun n3 e3 => ?_
      repeat' ((conv => whnf); first
        | refine ⟨_, _, _, _, (hk_ : (_ : Option Ob) = _), rfl, rfl, Nat.le_of_ble_eq_true rfl, ?_⟩
        | refine ⟨_, ldc_cells hk_ (Nat.le_of_ble_eq_true rfl), ?_⟩
        | refine ⟨_, rfl, ?_⟩
        | refine ⟨rfl, ?_⟩
        | refine ⟨_, _, rfl, at_map (by assumption), ?_⟩
        | refine idx_mapX (i := 0) rfl (by assumption) ?_
        | refine idx_map (by omega) (fun x hx => ?_)
        | refine idx_mapX (wrap_dn (by omega) (by omega)) (by assumption) ?_
        | refine idx_mapE (wrap_dn (by omega) (by omega)) (by omega) (fun x hx => ?_)
        | refine idx_mapL (by omega) (by first | assumption | (simp only [LIM]; omega)) (fun x hx => ?_)
        | refine idx_mapI (by omega) (by first | omega | (simp only [List.length_map] at *; omega)) (fun x hx => ?_)
        | refine ⟨_, ldc_cells hupd_at (Nat.le_of_ble_eq_true rfl), ?_⟩
        | refine ⟨_, ldc_cells (by first | assumption | exact zk ‹_› (by omega) | exact zk (zk ‹_› (by omega)) (by omega)) (Nat.le_of_ble_eq_true rfl), ?_⟩
        | refine ⟨_, _, hupd_at, rfl, rfl, Nat.le_of_ble_eq_true rfl, ?_⟩
        | refine ⟨_, _, rfl, rfl, rfl, Nat.le_of_ble_eq_true rfl, ?_⟩
        | (refine ⟨?_, _, (?_ : (_ : Option Ob) = _), rfl, rfl, ?_, ?_⟩; rotate_left; (exact hk_); exact Nat.le_of_ble_eq_true rfl)
        | refine ⟨_, _, _, _, ((by exact hk_) : (_ : Option Ob) = _), rfl, at_mapA (by assumption), ?_⟩
        | refine idx_ow (by exact hk_) (by omega) (fun x hx => ?_)
        | refine ⟨_, _, _, _, ((by exact hk_) : (_ : Option Ob) = _), rfl, fill_at (by omega), ?_⟩
        | refine ⟨_, _, _, _, ((by exact hk_) : (_ : Option Ob) = _), fill_at (by omega), rfl, rfl, Nat.le_of_ble_eq_true rfl, ?_⟩
        | refine idx_owL (by exact hk_) (by omega) (by simp only [LIM]; omega) (fun x hx => ?_)
        | refine idx_owI (by exact hk_) (by omega) (by first | omega | (simp only [List.length_map] at *; omega)) (fun x hx => ?_)
        | refine ⟨_, _, _, _, ((by exact hk_) : (_ : Option Ob) = _), at_mapA (by assumption), rfl, rfl, Nat.le_of_ble_eq_true rfl, ?_⟩
        | refine ⟨_, ldc_pa (by exact hk_) (at_mapA (by assumption)) (Nat.le_of_ble_eq_true rfl), ?_⟩
        | refine ⟨_, rfl, rfl, _, ((by exact hk_) : (_ : Option Ob) = _), (by exact ap_), ?_⟩
        | refine ⟨_, news_ow hupd_at, newsz_ow hupd_at, _, ((by exact hk_) : (_ : Option Ob) = _), (by exact ap_), ?_⟩
        | refine ⟨_, _, _, ((by exact hk_) : (_ : Option Ob) = _), ?_⟩
        | refine ⟨_, ((by exact hk_) : (_ : Option Ob) = _), ?_⟩
        | refine ⟨(show _ ≠ _ from (by first | decide | omega)), ?_⟩
        | refine ⟨(show _ ≤ _ from (by exact ap_)), ?_⟩
        | (refine ⟨fun hc => ?_, fun hc => ?_⟩ <;> (try simp (disch := omega) only [List.length_map, wrap64] at hc) <;> (try (exfalso; first | contradiction | omega)))
        | (refine ⟨⟨(by omega), (by omega), (by simp only [List.length_map] at *; simp only [LIM] at *; omega), (by simp only [List.length_map] at *; simp only [LIM] at *; omega)⟩, ?_⟩; (try simp only [List.length_map, Int.toNat_natCast]))
        | (refine ⟨_, slc_to rfl (by first | omega | (simp only [List.length_map] at *; omega)), ?_⟩; rw [map_take'])
        | (refine ⟨_, slc_toI rfl (by omega) (by first | omega | (simp only [List.length_map] at *; omega)), ?_⟩; rw [map_take'])
        | fail)
      refine finM_triO (o := (⟨n.id, n.ep, n.ep, n.seen ++ [⟨n.id, chX n.seen y⟩]⟩, ⟨n.id, chX n.seen y⟩, true)) (n0 := n.seen.length + 1) (n1 := n.seen.length + 4) (triAtV (l := n.seen) (v := ⟨n.id, chX n.seen y⟩) (n := n2) (kv := n3) (B := n3 + 1) (by omega) (by omega) (Nat.lt_succ_self _) rfl ?_ ?_ ?_ hk_) (by omega) (fun i hi => range_at (by have : i < (nV.In n.seen).length := hi; omega)) ⟨⟨_, raw_cells rfl hk_ rfl, .inl rfl⟩, ⟨_, raw_cells rfl hk_ rfl, .inl rfl⟩, ⟨_, rfl, .inl rfl⟩, trivial⟩ (by simp) (by simp) fun r obs' h => ⟨(n, y), by rw [hy], rfl, by show TriO _ _ _ _ (voteN n (chX n.seen y)) _ _; rw [e]; exact h⟩
      · (repeat (refine (hupd_ne (by omega)).trans ?_)); exact h20
      · intro j u hj
        have := (List.getElem?_eq_some_iff.1 hj).1
        (repeat (refine (hupd_ne (by omega)).trans ?_)); exact hin2 j u hj
      · refine hA2.same (by omega) fun i hi => ?_
        have hi' : ¬ (i = n2 + 1) → i < n2 + 1 ∧ i ≠ (nV.In n.seen).length ∧ i ≠ (nV.In n.seen).length + 16 ∧ i ≠ (nV.In n.seen).length + 16 + 16 := fun hne => ?_
        · by_cases hn : i = n2 + 1
          · subst hn
            (repeat (refine (hupd_ne (by omega)).trans ?_)); rfl
          · obtain ⟨q1, q2, q3, q4⟩ := hi' hn
            (repeat (refine (hupd_ne (by omega)).trans ?_)); rfl
        · refine Classical.byContradiction fun hcon => hi ⟨hne, fun j hj e => hcon ?_⟩
          rw [List.length_append, List.length_singleton] at hj
          by_cases hjl : j = n.seen.length
          · rw [show updF (· + 1) n.seen.length n2 j = n2 from if_pos hjl] at e; omega
          · rw [show updF (· + 1) n.seen.length n2 j = j + 1 from if_neg hjl] at e; omega
end Av
end Go.Proofs.Ytdboofnogabefaa
