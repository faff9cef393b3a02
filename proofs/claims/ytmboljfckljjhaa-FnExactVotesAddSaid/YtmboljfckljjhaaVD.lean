/- The walks: votes added to, of one's own; marks on a vote. -/
import Derived.Test.YtmboljfckljjhaaVC
set_option linter.unusedVariables false
set_option linter.unusedSimpArgs false
namespace Go.Proofs.Ytmboljfckljjhaa
namespace Av
open Go.RowKit

section
variable {α : Type} {N : Nest α} {H : Hp} {b k : Nat} {f : Nat → Nat} {l : List α}
variable {fr : Env} {nx rm' lim : Nat} {res : List Rs} {post : AV → List (Option Ob) → Prop}
/-- A nest of one's own and a bool, handed back. -/
theorem finM_nestB {t : Bool} (hrm : rm' ≤ lim) (h : N.At H b k f l) (hres : resM (nks k f l.length) fr H res [.o (.ow k), .o (cB t)]) (hpost : post (.tup [.o (.ow 0), .o (cB t)]) (N.obs l)) :
    rm' ≤ lim ∧ ∃ (ks : List Nat) (az : List AW) (r : AV) (obs' : List (Option Ob)), resM ks fr H res az ∧ resV az = r.ren (nmap ks nx) ∧ post r obs' ∧
      ks.Nodup ∧ (∀ i, i < 0 → ks[i]? = some i) ∧ obs'.length = ks.length ∧
      ∀ (i k : Nat), ks[i]? = some k → (∃ ob : Ob, obs'[i]? = some (some ob) ∧ H k = some (ob.ren (nmap ks nx))) ∨ (obs'[i]? = some none ∧ H k = none) := by
  refine ⟨hrm, nks k f l.length, _, .tup [.o (.ow 0), .o (cB t)], _, hres, ?_, hpost, h.nodup, fun i hi => by omega, by rw [Nest.obs_len, nks_len], fun i k' hi => ?_⟩
  · show AV.tup [.o (.ow k), .o (cB t)] = AV.tup [.o (.ow (nmap _ nx 0)), .o (cB t)]
    have e : nmap (nks k f l.length) nx 0 = k := nmap_lt (s := 0) rfl
    rw [e]
  · left
    cases i with
    | zero =>
      cases hi
      exact ⟨_, rfl, by rw [Nest.ob_ren (f := f) (fun j hj => nmap_lt (nks_at hj))]; exact h.out⟩
    | succ j =>
      have hj : j < l.length := by
        have := (List.getElem?_eq_some_iff.1 hi).1
        rw [nks_len] at this; omega
      rw [nks_at hj] at hi
      cases hi
      have hx := List.getElem?_eq_getElem hj
      exact ⟨_, Nest.obs_at hx, by rw [Nest.ob1_ren]; exact h.inn j _ hx⟩
theorem finM_e0B {t : Bool} (hrm : rm' ≤ lim) (hres : resM [] fr H res [.o .e0, .o (cB t)]) (hpost : post (.tup [.o .e0, .o (cB t)]) []) :
    rm' ≤ lim ∧ ∃ (ks : List Nat) (az : List AW) (r : AV) (obs' : List (Option Ob)), resM ks fr H res az ∧ resV az = r.ren (nmap ks nx) ∧ post r obs' ∧
      ks.Nodup ∧ (∀ i, i < 0 → ks[i]? = some i) ∧ obs'.length = ks.length ∧
      ∀ (i k : Nat), ks[i]? = some k → (∃ ob : Ob, obs'[i]? = some (some ob) ∧ H k = some (ob.ren (nmap ks nx))) ∨ (obs'[i]? = some none ∧ H k = none) :=
  ⟨hrm, [], _, .tup [.o .e0, .o (cB t)], [], hres, rfl, hpost, List.nodup_nil, fun i hi => by omega, rfl, fun i k' hi => by simp at hi⟩
end
/-- An empty slice ahead of another part of what is handed back is as well an empty array, new. -/
theorem valid_e0t {P : Program} {f : Nat} {S S' : MSpec} (hv : ValidM P f S) (hc : S.cost = S'.cost) (hpre : ∀ args obs, S'.pre args obs → S.pre args obs)
    (hpost : ∀ args obs r obs', S'.pre args obs → S.post args obs r obs' → (∃ y, r = .tup [.o .e0, y] ∧ ∃ T sz, S'.post args obs (.tup [.o (.ow obs'.length), y]) (obs' ++ [some (.arr T sz [])])) ∨ S'.post args obs r obs') : ValidM P f S' := by
  refine ⟨hv.1, fun args obs rm hp hlim => ?_⟩
  intro V O own w vals hsub hO hown huniq hvo hobs hargs
  refine (hv.2 args obs rm (hpre _ _ hp) (by rw [hc]; exact hlim) V O own w vals hsub hO hown huniq hvo hobs hargs).mono ?_
  rintro e w' ⟨v, r, obs', V', O', own', he, q1, q2, q3, q4, q5, q6, q7, q8, q9, q10, q11, q12⟩
  rcases hpost _ _ _ _ hp q1 with ⟨y, rfl, T, sz, hob⟩ | hq
  · obtain ⟨vs, rfl, hvl, hvs⟩ := q2
    obtain ⟨u, u2, rfl⟩ : ∃ u u2, vs = [u, u2] := by
      match vs, hvl with
      | [u, u2], _ => exact ⟨u, u2, rfl⟩
    obtain ⟨⟨A, hA⟩, h1⟩ := hvs 0 u _ rfl rfl
    have h2 := hvs 1 u2 y rfl rfl
    have hle : ∀ k x, O' k = some x → (if k = obs'.length then some u else O' k) = some x := fun k x e => by
      have := q6 k x e
      rw [if_neg (by omega)]; exact e
    refine ⟨_, _, _, V', fun k => if k = obs'.length then some u else O' k, own', he, hob, ⟨[u, u2], rfl, rfl, fun i x a hx ha => ?_⟩, q3, q4, fun k x e => hle k x (q5 k x e), fun k x e => ?_, fun k ob e => ?_, fun b o x e => ?_, fun b k e => ?_, q10, q11, q12⟩
    · match i, hx, ha with
      | 0, hx, ha =>
        cases hx; cases ha
        exact ⟨⟨by show (if _ = _ then _ else _) = _; rw [if_pos rfl], h1 (by simp)⟩, fun _ => h1 (by simp)⟩
      | 1, hx, ha =>
        cases hx; cases ha
        exact h2.mono (Vw.le_refl _) hle
      | n + 2, hx, _ => simp at hx
    · rw [List.length_append]
      simp only at e
      split at e
      · rename_i hk; simp; omega
      · have := q6 k x e; omega
    · rcases Nat.lt_or_ge k obs'.length with hk | hk
      · rw [List.getElem?_append_left hk] at e
        have := q7 k ob e
        rw [hc] at this
        exact this.mono (Vw.le_refl _) hle (fun b hb => ⟨hb, rfl⟩) (Nat.le_refl _)
      · rw [List.getElem?_append_right hk] at e
        have hk0 : k - obs'.length = 0 := by
          have := (List.getElem?_eq_some_iff.1 e).1
          simp at this; omega
        rw [hk0] at e
        simp only [List.getElem?_cons_zero, Option.some.injEq] at e
        subst e
        refine ⟨fun j x hx => by simp at hx, .inl ⟨rfl, A, ?_⟩⟩
        show (if k = obs'.length then some u else O' k) = _
        rw [if_pos (by omega), hA]
    · rcases q8 b o x e with h | ⟨k, T, sz, n, h2, h3, h4⟩
      · exact .inl h
      · refine .inr ⟨k, T, sz, n, h2, ?_, h4⟩
        rw [List.getElem?_append_left (List.getElem?_eq_some_iff.1 h3).1]; exact h3
    · obtain ⟨h2, h3, h4⟩ := q9 b k e
      exact ⟨by rw [List.length_append]; omega, h3, h4⟩
  · exact ⟨v, r, obs', V', O', own', he, hq, q2, q3, q4, q5, q6, fun k ob e => by have := q7 k ob e; rw [hc] at this; exact this, q8, q9, q10, q11, q12⟩
theorem add_eq {l m : List Vo} {v : Vo} {t : Bool} (h : AV.tup [.o (.c (vsF (addL l v))), .o (cB (addB l v))] = AV.tup [.o (.c (vsF m)), .o (cB t)]) : addL l v = m ∧ addB l v = t := by
  simp only [AV.tup.injEq, List.cons.injEq, AW.o.injEq, AC.c.injEq, FV.v.injEq, Value.bool.injEq, and_true] at h
  exact ⟨vsF_inj.1 h.1, h.2⟩
set_option maxHeartbeats 4000000 in
set_option maxRecDepth 100000 in
theorem v_impl_VotesAdd_e : ValidM Try.prog n_impl_VotesAdd_o S_impl_VotesAdd_e := by
  refine validM_of_swp mixed is_impl_VotesAdd_o (by rintro _ _ ⟨a, rfl, _⟩; exact Nat.le_of_ble_eq_true rfl) ?_
  rintro _ _ rm ⟨⟨l, v⟩, rfl, rfl, hp1, hp2, hp3⟩ hl
  dsimp only at hp1 hp2 hp3
  change swp _ _ _ _ _ 0 _
  have hlt : l.length < LIM := Nat.lt_of_le_of_lt hp3 (by decide)
  have hst : S_impl_votes_copied_o.st = 4194304 := NB_eq
  have hp3' : l.length ≤ 1048576 := hp3
  by_cases h1 : VotesOk l
  · by_cases h2 : VoteOk v
    · by_cases h3 : v ∈ l
      · obtain ⟨e1, e2⟩ := add_eq (add_in h1 h2 h3)
        repeat' ((conv => whnf); first
          | refine ⟨_, rfl, ?_⟩
          | refine ⟨rfl, ?_⟩
          | refine ⟨_, _, rfl, at_map (by assumption), ?_⟩
          | refine idx_mapX (i := 0) rfl (by assumption) ?_
          | refine idx_map (by omega) (fun x hx => ?_)
          | refine idx_mapX (wrap_dn (by omega) (by omega)) (by assumption) ?_
          | refine idx_mapE (wrap_dn (by omega) (by omega)) (by omega) (fun x hx => ?_)
          | refine idx_mapL (by omega) (by first | assumption | (simp only [LIM]; omega)) (fun x hx => ?_)
          | refine idx_mapI (by omega) (by first | omega | (simp only [List.length_map] at *; omega)) (fun x hx => ?_)
          | refine ⟨_, ldc_cells hupd_at (Nat.le_of_ble_eq_true rfl), ?_⟩
          | refine ⟨_, ldc_cells (by first | assumption | exact zk ‹_› (by omega) | exact zk (zk ‹_› (by omega)) (by omega)) (Nat.le_of_ble_eq_true rfl), ?_⟩
          | refine ⟨_, _, hupd_at, rfl, rfl, Nat.le_of_ble_eq_true rfl, ?_⟩
          | refine ⟨_, _, rfl, rfl, rfl, Nat.le_of_ble_eq_true rfl, ?_⟩
          | (refine ⟨?_, _, (?_ : (_ : Option Ob) = _), rfl, rfl, ?_, ?_⟩; rotate_left; (exact hk_); exact Nat.le_of_ble_eq_true rfl)
          | refine ⟨_, _, _, _, ((by exact hk_) : (_ : Option Ob) = _), rfl, at_mapA (by assumption), ?_⟩
          | refine idx_ow (by exact hk_) (by omega) (fun x hx => ?_)
          | refine ⟨_, _, _, _, ((by exact hk_) : (_ : Option Ob) = _), rfl, fill_at (by omega), ?_⟩
          | refine ⟨_, _, _, _, ((by exact hk_) : (_ : Option Ob) = _), fill_at (by omega), rfl, rfl, Nat.le_of_ble_eq_true rfl, ?_⟩
          | refine idx_owL (by exact hk_) (by omega) (by simp only [LIM]; omega) (fun x hx => ?_)
          | refine idx_owI (by exact hk_) (by omega) (by first | omega | (simp only [List.length_map] at *; omega)) (fun x hx => ?_)
          | refine ⟨_, _, _, _, ((by exact hk_) : (_ : Option Ob) = _), at_mapA (by assumption), rfl, rfl, Nat.le_of_ble_eq_true rfl, ?_⟩
          | refine ⟨_, ldc_pa (by exact hk_) (at_mapA (by assumption)) (Nat.le_of_ble_eq_true rfl), ?_⟩
          | refine ⟨_, rfl, rfl, _, ((by exact hk_) : (_ : Option Ob) = _), (by exact ap_), ?_⟩
          | refine ⟨_, news_ow hupd_at, newsz_ow hupd_at, _, ((by exact hk_) : (_ : Option Ob) = _), (by exact ap_), ?_⟩
          | refine ⟨_, _, _, ((by exact hk_) : (_ : Option Ob) = _), ?_⟩
          | refine ⟨_, ((by exact hk_) : (_ : Option Ob) = _), ?_⟩
          | refine ⟨(show _ ≠ _ from (by first | decide | omega)), ?_⟩
          | refine ⟨(show _ ≤ _ from (by exact ap_)), ?_⟩
          | (refine ⟨fun hc => ?_, fun hc => ?_⟩ <;> (try simp (disch := omega) only [List.length_map, wrap64] at hc) <;> (try (exfalso; first | contradiction | omega)))
          | (refine ⟨⟨(by omega), (by omega), (by simp only [List.length_map] at *; simp only [LIM] at *; omega), (by simp only [List.length_map] at *; simp only [LIM] at *; omega)⟩, ?_⟩; (try simp only [List.length_map, Int.toNat_natCast]))
          | (refine ⟨_, slc_to rfl (by first | omega | (simp only [List.length_map] at *; omega)), ?_⟩; rw [map_take'])
          | (refine ⟨_, slc_toI rfl (by omega) (by first | omega | (simp only [List.length_map] at *; omega)), ?_⟩; rw [map_take'])
          | (refine callt (b := [one (vsF _)]) v_impl_VotesOk rfl ⟨_, rfl, (by exact pr_)⟩ (.inl rfl) (by first | assumption | omega) (fun r hr => K_impl_VotesOk (a := _) hr) (fun hj => ?_) (fun hj => ?_) <;> (try simp only [etaPa, etaIt, etaVo] at hj) <;> (try contradiction))
          | (refine callt (b := [agg (voF ⟨_, _⟩)]) v_impl_VoteOk rfl ⟨⟨_, _⟩, rfl, (by exact pr_)⟩ (.inl rfl) (by first | assumption | omega) (fun r hr => K_impl_VoteOk (a := ⟨_, _⟩) hr) (fun hj => ?_) (fun hj => ?_) <;> (try simp only [etaPa, etaIt, etaVo] at hj) <;> (try contradiction))
          | fail)
        conv => whnf
        refine mq_nest (N := nV) (l := l) (ar := [one (vsF l)]) v_impl_votes_copied_o (by exact hl) (by rfl) rfl ⟨l, rfl, rfl, hp1, hp3⟩ (by rw [hst]; omega) (fun r obs' h => K_nestV h) fun n1 H1 e3 hA1 ho1 => ?_
        have h1p := (ho1 0 (by omega)).trans hupd_at
        repeat' ((conv => whnf); first
          | (refine ⟨_, ldc_cells h1p (Nat.le_of_ble_eq_true rfl), ?_⟩)
          | refine ⟨_, rfl, ?_⟩
          | refine ⟨rfl, ?_⟩
          | refine ⟨_, _, rfl, at_map (by assumption), ?_⟩
          | refine idx_mapX (i := 0) rfl (by assumption) ?_
          | refine idx_map (by omega) (fun x hx => ?_)
          | refine idx_mapX (wrap_dn (by omega) (by omega)) (by assumption) ?_
          | refine idx_mapE (wrap_dn (by omega) (by omega)) (by omega) (fun x hx => ?_)
          | refine idx_mapL (by omega) (by first | assumption | (simp only [LIM]; omega)) (fun x hx => ?_)
          | refine idx_mapI (by omega) (by first | omega | (simp only [List.length_map] at *; omega)) (fun x hx => ?_)
          | refine ⟨_, ldc_cells hupd_at (Nat.le_of_ble_eq_true rfl), ?_⟩
          | refine ⟨_, ldc_cells (by first | assumption | exact zk ‹_› (by omega) | exact zk (zk ‹_› (by omega)) (by omega)) (Nat.le_of_ble_eq_true rfl), ?_⟩
          | refine ⟨_, _, hupd_at, rfl, rfl, Nat.le_of_ble_eq_true rfl, ?_⟩
          | refine ⟨_, _, rfl, rfl, rfl, Nat.le_of_ble_eq_true rfl, ?_⟩
          | (refine ⟨?_, _, (?_ : (_ : Option Ob) = _), rfl, rfl, ?_, ?_⟩; rotate_left; (exact hk_); exact Nat.le_of_ble_eq_true rfl)
          | refine ⟨_, _, _, _, ((by exact hk_) : (_ : Option Ob) = _), rfl, at_mapA (by assumption), ?_⟩
          | refine idx_ow (by exact hk_) (by omega) (fun x hx => ?_)
          | refine ⟨_, _, _, _, ((by exact hk_) : (_ : Option Ob) = _), rfl, fill_at (by omega), ?_⟩
          | refine ⟨_, _, _, _, ((by exact hk_) : (_ : Option Ob) = _), fill_at (by omega), rfl, rfl, Nat.le_of_ble_eq_true rfl, ?_⟩
          | refine idx_owL (by exact hk_) (by omega) (by simp only [LIM]; omega) (fun x hx => ?_)
          | refine idx_owI (by exact hk_) (by omega) (by first | omega | (simp only [List.length_map] at *; omega)) (fun x hx => ?_)
          | refine ⟨_, _, _, _, ((by exact hk_) : (_ : Option Ob) = _), at_mapA (by assumption), rfl, rfl, Nat.le_of_ble_eq_true rfl, ?_⟩
          | refine ⟨_, ldc_pa (by exact hk_) (at_mapA (by assumption)) (Nat.le_of_ble_eq_true rfl), ?_⟩
          | refine ⟨_, rfl, rfl, _, ((by exact hk_) : (_ : Option Ob) = _), (by exact ap_), ?_⟩
          | refine ⟨_, news_ow hupd_at, newsz_ow hupd_at, _, ((by exact hk_) : (_ : Option Ob) = _), (by exact ap_), ?_⟩
          | refine ⟨_, _, _, ((by exact hk_) : (_ : Option Ob) = _), ?_⟩
          | refine ⟨_, ((by exact hk_) : (_ : Option Ob) = _), ?_⟩
          | refine ⟨(show _ ≠ _ from (by first | decide | omega)), ?_⟩
          | refine ⟨(show _ ≤ _ from (by exact ap_)), ?_⟩
          | (refine ⟨fun hc => ?_, fun hc => ?_⟩ <;> (try simp (disch := omega) only [List.length_map, wrap64] at hc) <;> (try (exfalso; first | contradiction | omega)))
          | (refine ⟨⟨(by omega), (by omega), (by simp only [List.length_map] at *; simp only [LIM] at *; omega), (by simp only [List.length_map] at *; simp only [LIM] at *; omega)⟩, ?_⟩; (try simp only [List.length_map, Int.toNat_natCast]))
          | (refine ⟨_, slc_to rfl (by first | omega | (simp only [List.length_map] at *; omega)), ?_⟩; rw [map_take'])
          | (refine ⟨_, slc_toI rfl (by omega) (by first | omega | (simp only [List.length_map] at *; omega)), ?_⟩; rw [map_take'])
          | (refine callt (b := [one (vsF _), agg (voF ⟨_, _⟩)]) v_impl_votes_has rfl ⟨(_, ⟨_, _⟩), rfl, (by refine ⟨?_, ?_⟩ <;> (exact pr_))⟩ (.inl rfl) (by first | assumption | omega) (fun r hr => K_impl_votes_has (a := (_, ⟨_, _⟩)) hr) (fun hj => ?_) (fun hj => ?_) <;> (try simp only [etaPa, etaIt, etaVo] at hj) <;> (try contradiction))
          | fail)
        conv => whnf
        exact finM_nestB (N := nV) (Nat.le_refl _) hA1 ⟨⟨_, rfl, .inl rfl⟩, ⟨_, rfl, .inl rfl⟩, trivial⟩ ⟨(l, v), rfl, rfl, hp3, .inr ⟨by rw [e2], by rw [e1]⟩⟩
      · obtain ⟨e1, e2⟩ := add_eq (add_new h1 h2 h3)
        repeat' ((conv => whnf); first
          | refine ⟨_, rfl, ?_⟩
          | refine ⟨rfl, ?_⟩
          | refine ⟨_, _, rfl, at_map (by assumption), ?_⟩
          | refine idx_mapX (i := 0) rfl (by assumption) ?_
          | refine idx_map (by omega) (fun x hx => ?_)
          | refine idx_mapX (wrap_dn (by omega) (by omega)) (by assumption) ?_
          | refine idx_mapE (wrap_dn (by omega) (by omega)) (by omega) (fun x hx => ?_)
          | refine idx_mapL (by omega) (by first | assumption | (simp only [LIM]; omega)) (fun x hx => ?_)
          | refine idx_mapI (by omega) (by first | omega | (simp only [List.length_map] at *; omega)) (fun x hx => ?_)
          | refine ⟨_, ldc_cells hupd_at (Nat.le_of_ble_eq_true rfl), ?_⟩
          | refine ⟨_, ldc_cells (by first | assumption | exact zk ‹_› (by omega) | exact zk (zk ‹_› (by omega)) (by omega)) (Nat.le_of_ble_eq_true rfl), ?_⟩
          | refine ⟨_, _, hupd_at, rfl, rfl, Nat.le_of_ble_eq_true rfl, ?_⟩
          | refine ⟨_, _, rfl, rfl, rfl, Nat.le_of_ble_eq_true rfl, ?_⟩
          | (refine ⟨?_, _, (?_ : (_ : Option Ob) = _), rfl, rfl, ?_, ?_⟩; rotate_left; (exact hk_); exact Nat.le_of_ble_eq_true rfl)
          | refine ⟨_, _, _, _, ((by exact hk_) : (_ : Option Ob) = _), rfl, at_mapA (by assumption), ?_⟩
          | refine idx_ow (by exact hk_) (by omega) (fun x hx => ?_)
          | refine ⟨_, _, _, _, ((by exact hk_) : (_ : Option Ob) = _), rfl, fill_at (by omega), ?_⟩
          | refine ⟨_, _, _, _, ((by exact hk_) : (_ : Option Ob) = _), fill_at (by omega), rfl, rfl, Nat.le_of_ble_eq_true rfl, ?_⟩
          | refine idx_owL (by exact hk_) (by omega) (by simp only [LIM]; omega) (fun x hx => ?_)
          | refine idx_owI (by exact hk_) (by omega) (by first | omega | (simp only [List.length_map] at *; omega)) (fun x hx => ?_)
          | refine ⟨_, _, _, _, ((by exact hk_) : (_ : Option Ob) = _), at_mapA (by assumption), rfl, rfl, Nat.le_of_ble_eq_true rfl, ?_⟩
          | refine ⟨_, ldc_pa (by exact hk_) (at_mapA (by assumption)) (Nat.le_of_ble_eq_true rfl), ?_⟩
          | refine ⟨_, rfl, rfl, _, ((by exact hk_) : (_ : Option Ob) = _), (by exact ap_), ?_⟩
          | refine ⟨_, news_ow hupd_at, newsz_ow hupd_at, _, ((by exact hk_) : (_ : Option Ob) = _), (by exact ap_), ?_⟩
          | refine ⟨_, _, _, ((by exact hk_) : (_ : Option Ob) = _), ?_⟩
          | refine ⟨_, ((by exact hk_) : (_ : Option Ob) = _), ?_⟩
          | refine ⟨(show _ ≠ _ from (by first | decide | omega)), ?_⟩
          | refine ⟨(show _ ≤ _ from (by exact ap_)), ?_⟩
          | (refine ⟨fun hc => ?_, fun hc => ?_⟩ <;> (try simp (disch := omega) only [List.length_map, wrap64] at hc) <;> (try (exfalso; first | contradiction | omega)))
          | (refine ⟨⟨(by omega), (by omega), (by simp only [List.length_map] at *; simp only [LIM] at *; omega), (by simp only [List.length_map] at *; simp only [LIM] at *; omega)⟩, ?_⟩; (try simp only [List.length_map, Int.toNat_natCast]))
          | (refine ⟨_, slc_to rfl (by first | omega | (simp only [List.length_map] at *; omega)), ?_⟩; rw [map_take'])
          | (refine ⟨_, slc_toI rfl (by omega) (by first | omega | (simp only [List.length_map] at *; omega)), ?_⟩; rw [map_take'])
          | (refine callt (b := [one (vsF _)]) v_impl_VotesOk rfl ⟨_, rfl, (by exact pr_)⟩ (.inl rfl) (by first | assumption | omega) (fun r hr => K_impl_VotesOk (a := _) hr) (fun hj => ?_) (fun hj => ?_) <;> (try simp only [etaPa, etaIt, etaVo] at hj) <;> (try contradiction))
          | (refine callt (b := [agg (voF ⟨_, _⟩)]) v_impl_VoteOk rfl ⟨⟨_, _⟩, rfl, (by exact pr_)⟩ (.inl rfl) (by first | assumption | omega) (fun r hr => K_impl_VoteOk (a := ⟨_, _⟩) hr) (fun hj => ?_) (fun hj => ?_) <;> (try simp only [etaPa, etaIt, etaVo] at hj) <;> (try contradiction))
          | fail)
        conv => whnf
        refine mq_nest (N := nV) (l := l) (ar := [one (vsF l)]) v_impl_votes_copied_o (by exact hl) (by rfl) rfl ⟨l, rfl, rfl, hp1, hp3⟩ (by rw [hst]; omega) (fun r obs' h => K_nestV h) fun n1 H1 e3 hA1 ho1 => ?_
        have h1p := (ho1 0 (by omega)).trans hupd_at
        repeat' ((conv => whnf); first
          | (refine ⟨_, ldc_cells h1p (Nat.le_of_ble_eq_true rfl), ?_⟩)
          | refine ⟨_, rfl, ?_⟩
          | refine ⟨rfl, ?_⟩
          | refine ⟨_, _, rfl, at_map (by assumption), ?_⟩
          | refine idx_mapX (i := 0) rfl (by assumption) ?_
          | refine idx_map (by omega) (fun x hx => ?_)
          | refine idx_mapX (wrap_dn (by omega) (by omega)) (by assumption) ?_
          | refine idx_mapE (wrap_dn (by omega) (by omega)) (by omega) (fun x hx => ?_)
          | refine idx_mapL (by omega) (by first | assumption | (simp only [LIM]; omega)) (fun x hx => ?_)
          | refine idx_mapI (by omega) (by first | omega | (simp only [List.length_map] at *; omega)) (fun x hx => ?_)
          | refine ⟨_, ldc_cells hupd_at (Nat.le_of_ble_eq_true rfl), ?_⟩
          | refine ⟨_, ldc_cells (by first | assumption | exact zk ‹_› (by omega) | exact zk (zk ‹_› (by omega)) (by omega)) (Nat.le_of_ble_eq_true rfl), ?_⟩
          | refine ⟨_, _, hupd_at, rfl, rfl, Nat.le_of_ble_eq_true rfl, ?_⟩
          | refine ⟨_, _, rfl, rfl, rfl, Nat.le_of_ble_eq_true rfl, ?_⟩
          | (refine ⟨?_, _, (?_ : (_ : Option Ob) = _), rfl, rfl, ?_, ?_⟩; rotate_left; (exact hk_); exact Nat.le_of_ble_eq_true rfl)
          | refine ⟨_, _, _, _, ((by exact hk_) : (_ : Option Ob) = _), rfl, at_mapA (by assumption), ?_⟩
          | refine idx_ow (by exact hk_) (by omega) (fun x hx => ?_)
          | refine ⟨_, _, _, _, ((by exact hk_) : (_ : Option Ob) = _), rfl, fill_at (by omega), ?_⟩
          | refine ⟨_, _, _, _, ((by exact hk_) : (_ : Option Ob) = _), fill_at (by omega), rfl, rfl, Nat.le_of_ble_eq_true rfl, ?_⟩
          | refine idx_owL (by exact hk_) (by omega) (by simp only [LIM]; omega) (fun x hx => ?_)
          | refine idx_owI (by exact hk_) (by omega) (by first | omega | (simp only [List.length_map] at *; omega)) (fun x hx => ?_)
          | refine ⟨_, _, _, _, ((by exact hk_) : (_ : Option Ob) = _), at_mapA (by assumption), rfl, rfl, Nat.le_of_ble_eq_true rfl, ?_⟩
          | refine ⟨_, ldc_pa (by exact hk_) (at_mapA (by assumption)) (Nat.le_of_ble_eq_true rfl), ?_⟩
          | refine ⟨_, rfl, rfl, _, ((by exact hk_) : (_ : Option Ob) = _), (by exact ap_), ?_⟩
          | refine ⟨_, news_ow hupd_at, newsz_ow hupd_at, _, ((by exact hk_) : (_ : Option Ob) = _), (by exact ap_), ?_⟩
          | refine ⟨_, _, _, ((by exact hk_) : (_ : Option Ob) = _), ?_⟩
          | refine ⟨_, ((by exact hk_) : (_ : Option Ob) = _), ?_⟩
          | refine ⟨(show _ ≠ _ from (by first | decide | omega)), ?_⟩
          | refine ⟨(show _ ≤ _ from (by exact ap_)), ?_⟩
          | (refine ⟨fun hc => ?_, fun hc => ?_⟩ <;> (try simp (disch := omega) only [List.length_map, wrap64] at hc) <;> (try (exfalso; first | contradiction | omega)))
          | (refine ⟨⟨(by omega), (by omega), (by simp only [List.length_map] at *; simp only [LIM] at *; omega), (by simp only [List.length_map] at *; simp only [LIM] at *; omega)⟩, ?_⟩; (try simp only [List.length_map, Int.toNat_natCast]))
          | (refine ⟨_, slc_to rfl (by first | omega | (simp only [List.length_map] at *; omega)), ?_⟩; rw [map_take'])
          | (refine ⟨_, slc_toI rfl (by omega) (by first | omega | (simp only [List.length_map] at *; omega)), ?_⟩; rw [map_take'])
          | (refine callt (b := [one (vsF _), agg (voF ⟨_, _⟩)]) v_impl_votes_has rfl ⟨(_, ⟨_, _⟩), rfl, (by refine ⟨?_, ?_⟩ <;> (exact pr_))⟩ (.inl rfl) (by first | assumption | omega) (fun r hr => K_impl_votes_has (a := (_, ⟨_, _⟩)) hr) (fun hj => ?_) (fun hj => ?_) <;> (try simp only [etaPa, etaIt, etaVo] at hj) <;> (try contradiction))
          | fail)
        conv => whnf
        refine mq_with (l := l) (v := v) v_impl_votes_with_o (by exact hl) hp2 hp3 hA1 (by omega) (by rfl) fun n2 H2 e4 hA2 ho2 => ?_
        conv => whnf
        exact finM_nestB (N := nV) (Nat.le_refl _) hA2 ⟨⟨_, rfl, .inl rfl⟩, ⟨_, rfl, .inl rfl⟩, trivial⟩ ⟨(l, v), rfl, rfl, hp3, .inr ⟨by rw [e2], by rw [e1]⟩⟩
    · obtain ⟨e1, e2⟩ := add_eq (add_bad2 (l := l) h2)
      repeat' ((conv => whnf); first
        | refine ⟨_, rfl, ?_⟩
        | refine ⟨rfl, ?_⟩
        | refine ⟨_, _, rfl, at_map (by assumption), ?_⟩
        | refine idx_mapX (i := 0) rfl (by assumption) ?_
        | refine idx_map (by omega) (fun x hx => ?_)
        | refine idx_mapX (wrap_dn (by omega) (by omega)) (by assumption) ?_
        | refine idx_mapE (wrap_dn (by omega) (by omega)) (by omega) (fun x hx => ?_)
        | refine idx_mapL (by omega) (by first | assumption | (simp only [LIM]; omega)) (fun x hx => ?_)
        | refine idx_mapI (by omega) (by first | omega | (simp only [List.length_map] at *; omega)) (fun x hx => ?_)
        | refine ⟨_, ldc_cells hupd_at (Nat.le_of_ble_eq_true rfl), ?_⟩
        | refine ⟨_, ldc_cells (by first | assumption | exact zk ‹_› (by omega) | exact zk (zk ‹_› (by omega)) (by omega)) (Nat.le_of_ble_eq_true rfl), ?_⟩
        | refine ⟨_, _, hupd_at, rfl, rfl, Nat.le_of_ble_eq_true rfl, ?_⟩
        | refine ⟨_, _, rfl, rfl, rfl, Nat.le_of_ble_eq_true rfl, ?_⟩
        | (refine ⟨?_, _, (?_ : (_ : Option Ob) = _), rfl, rfl, ?_, ?_⟩; rotate_left; (exact hk_); exact Nat.le_of_ble_eq_true rfl)
        | refine ⟨_, _, _, _, ((by exact hk_) : (_ : Option Ob) = _), rfl, at_mapA (by assumption), ?_⟩
        | refine idx_ow (by exact hk_) (by omega) (fun x hx => ?_)
        | refine ⟨_, _, _, _, ((by exact hk_) : (_ : Option Ob) = _), rfl, fill_at (by omega), ?_⟩
        | refine ⟨_, _, _, _, ((by exact hk_) : (_ : Option Ob) = _), fill_at (by omega), rfl, rfl, Nat.le_of_ble_eq_true rfl, ?_⟩
        | refine idx_owL (by exact hk_) (by omega) (by simp only [LIM]; omega) (fun x hx => ?_)
        | refine idx_owI (by exact hk_) (by omega) (by first | omega | (simp only [List.length_map] at *; omega)) (fun x hx => ?_)
        | refine ⟨_, _, _, _, ((by exact hk_) : (_ : Option Ob) = _), at_mapA (by assumption), rfl, rfl, Nat.le_of_ble_eq_true rfl, ?_⟩
        | refine ⟨_, ldc_pa (by exact hk_) (at_mapA (by assumption)) (Nat.le_of_ble_eq_true rfl), ?_⟩
        | refine ⟨_, rfl, rfl, _, ((by exact hk_) : (_ : Option Ob) = _), (by exact ap_), ?_⟩
        | refine ⟨_, news_ow hupd_at, newsz_ow hupd_at, _, ((by exact hk_) : (_ : Option Ob) = _), (by exact ap_), ?_⟩
        | refine ⟨_, _, _, ((by exact hk_) : (_ : Option Ob) = _), ?_⟩
        | refine ⟨_, ((by exact hk_) : (_ : Option Ob) = _), ?_⟩
        | refine ⟨(show _ ≠ _ from (by first | decide | omega)), ?_⟩
        | refine ⟨(show _ ≤ _ from (by exact ap_)), ?_⟩
        | (refine ⟨fun hc => ?_, fun hc => ?_⟩ <;> (try simp (disch := omega) only [List.length_map, wrap64] at hc) <;> (try (exfalso; first | contradiction | omega)))
        | (refine ⟨⟨(by omega), (by omega), (by simp only [List.length_map] at *; simp only [LIM] at *; omega), (by simp only [List.length_map] at *; simp only [LIM] at *; omega)⟩, ?_⟩; (try simp only [List.length_map, Int.toNat_natCast]))
        | (refine ⟨_, slc_to rfl (by first | omega | (simp only [List.length_map] at *; omega)), ?_⟩; rw [map_take'])
        | (refine ⟨_, slc_toI rfl (by omega) (by first | omega | (simp only [List.length_map] at *; omega)), ?_⟩; rw [map_take'])
        | (refine callt (b := [one (vsF _)]) v_impl_VotesOk rfl ⟨_, rfl, (by exact pr_)⟩ (.inl rfl) (by first | assumption | omega) (fun r hr => K_impl_VotesOk (a := _) hr) (fun hj => ?_) (fun hj => ?_) <;> (try simp only [etaPa, etaIt, etaVo] at hj) <;> (try contradiction))
        | (refine callt (b := [agg (voF ⟨_, _⟩)]) v_impl_VoteOk rfl ⟨⟨_, _⟩, rfl, (by exact pr_)⟩ (.inl rfl) (by first | assumption | omega) (fun r hr => K_impl_VoteOk (a := ⟨_, _⟩) hr) (fun hj => ?_) (fun hj => ?_) <;> (try simp only [etaPa, etaIt, etaVo] at hj) <;> (try contradiction))
        | fail)
      conv => whnf
      exact finM_e0B (Nat.le_refl _) ⟨⟨_, rfl, .inl rfl⟩, ⟨_, rfl, .inl rfl⟩, trivial⟩ ⟨(l, v), rfl, rfl, hp3, .inl ⟨by rw [e2], rfl, e1⟩⟩
  · obtain ⟨e1, e2⟩ := add_eq (add_bad1 (v := v) h1)
    repeat' ((conv => whnf); first
      | refine ⟨_, rfl, ?_⟩
      | refine ⟨rfl, ?_⟩
      | refine ⟨_, _, rfl, at_map (by assumption), ?_⟩
      | refine idx_mapX (i := 0) rfl (by assumption) ?_
      | refine idx_map (by omega) (fun x hx => ?_)
      | refine idx_mapX (wrap_dn (by omega) (by omega)) (by assumption) ?_
      | refine idx_mapE (wrap_dn (by omega) (by omega)) (by omega) (fun x hx => ?_)
      | refine idx_mapL (by omega) (by first | assumption | (simp only [LIM]; omega)) (fun x hx => ?_)
      | refine idx_mapI (by omega) (by first | omega | (simp only [List.length_map] at *; omega)) (fun x hx => ?_)
      | refine ⟨_, ldc_cells hupd_at (Nat.le_of_ble_eq_true rfl), ?_⟩
      | refine ⟨_, ldc_cells (by first | assumption | exact zk ‹_› (by omega) | exact zk (zk ‹_› (by omega)) (by omega)) (Nat.le_of_ble_eq_true rfl), ?_⟩
      | refine ⟨_, _, hupd_at, rfl, rfl, Nat.le_of_ble_eq_true rfl, ?_⟩
      | refine ⟨_, _, rfl, rfl, rfl, Nat.le_of_ble_eq_true rfl, ?_⟩
      | (refine ⟨?_, _, (?_ : (_ : Option Ob) = _), rfl, rfl, ?_, ?_⟩; rotate_left; (exact hk_); exact Nat.le_of_ble_eq_true rfl)
      | refine ⟨_, _, _, _, ((by exact hk_) : (_ : Option Ob) = _), rfl, at_mapA (by assumption), ?_⟩
      | refine idx_ow (by exact hk_) (by omega) (fun x hx => ?_)
      | refine ⟨_, _, _, _, ((by exact hk_) : (_ : Option Ob) = _), rfl, fill_at (by omega), ?_⟩
      | refine ⟨_, _, _, _, ((by exact hk_) : (_ : Option Ob) = _), fill_at (by omega), rfl, rfl, Nat.le_of_ble_eq_true rfl, ?_⟩
      | refine idx_owL (by exact hk_) (by omega) (by simp only [LIM]; omega) (fun x hx => ?_)
      | refine idx_owI (by exact hk_) (by omega) (by first | omega | (simp only [List.length_map] at *; omega)) (fun x hx => ?_)
      | refine ⟨_, _, _, _, ((by exact hk_) : (_ : Option Ob) = _), at_mapA (by assumption), rfl, rfl, Nat.le_of_ble_eq_true rfl, ?_⟩
      | refine ⟨_, ldc_pa (by exact hk_) (at_mapA (by assumption)) (Nat.le_of_ble_eq_true rfl), ?_⟩
      | refine ⟨_, rfl, rfl, _, ((by exact hk_) : (_ : Option Ob) = _), (by exact ap_), ?_⟩
      | refine ⟨_, news_ow hupd_at, newsz_ow hupd_at, _, ((by exact hk_) : (_ : Option Ob) = _), (by exact ap_), ?_⟩
      | refine ⟨_, _, _, ((by exact hk_) : (_ : Option Ob) = _), ?_⟩
      | refine ⟨_, ((by exact hk_) : (_ : Option Ob) = _), ?_⟩
      | refine ⟨(show _ ≠ _ from (by first | decide | omega)), ?_⟩
      | refine ⟨(show _ ≤ _ from (by exact ap_)), ?_⟩
      | (refine ⟨fun hc => ?_, fun hc => ?_⟩ <;> (try simp (disch := omega) only [List.length_map, wrap64] at hc) <;> (try (exfalso; first | contradiction | omega)))
      | (refine ⟨⟨(by omega), (by omega), (by simp only [List.length_map] at *; simp only [LIM] at *; omega), (by simp only [List.length_map] at *; simp only [LIM] at *; omega)⟩, ?_⟩; (try simp only [List.length_map, Int.toNat_natCast]))
      | (refine ⟨_, slc_to rfl (by first | omega | (simp only [List.length_map] at *; omega)), ?_⟩; rw [map_take'])
      | (refine ⟨_, slc_toI rfl (by omega) (by first | omega | (simp only [List.length_map] at *; omega)), ?_⟩; rw [map_take'])
      | (refine callt (b := [one (vsF _)]) v_impl_VotesOk rfl ⟨_, rfl, (by exact pr_)⟩ (.inl rfl) (by first | assumption | omega) (fun r hr => K_impl_VotesOk (a := _) hr) (fun hj => ?_) (fun hj => ?_) <;> (try simp only [etaPa, etaIt, etaVo] at hj) <;> (try contradiction))
      | (refine callt (b := [agg (voF ⟨_, _⟩)]) v_impl_VoteOk rfl ⟨⟨_, _⟩, rfl, (by exact pr_)⟩ (.inl rfl) (by first | assumption | omega) (fun r hr => K_impl_VoteOk (a := ⟨_, _⟩) hr) (fun hj => ?_) (fun hj => ?_) <;> (try simp only [etaPa, etaIt, etaVo] at hj) <;> (try contradiction))
      | fail)
    conv => whnf
    exact finM_e0B (Nat.le_refl _) ⟨⟨_, rfl, .inl rfl⟩, ⟨_, rfl, .inl rfl⟩, trivial⟩ ⟨(l, v), rfl, rfl, hp3, .inl ⟨by rw [e2], rfl, e1⟩⟩
theorem v_impl_VotesAdd_o : ValidM Try.prog n_impl_VotesAdd_o S_impl_VotesAdd_o := by
  refine valid_e0t v_impl_VotesAdd_e rfl (fun args obs ⟨l, h, h0, hp⟩ => ⟨l, h, h0, hp⟩) fun args obs r obs' ⟨⟨l, v⟩, h, h0, hp⟩ hq => ?_
  subst h h0
  rcases K_impl_VotesAdd_e hq with ⟨h1, rfl, h3⟩ | ⟨h1, h2⟩
  · refine .inl ⟨_, h1, ty_impl_Vote, 2, (l, v), rfl, rfl, hp.2.2, rfl, ?_⟩
    rw [h3]; rfl
  · exact .inr ⟨(l, v), rfl, rfl, hp.2.2, h1, h2⟩
set_option maxHeartbeats 4000000 in
set_option maxRecDepth 100000 in
theorem v_laws_markVote_o : ValidM Try.prog n_laws_markVote_o S_laws_markVote_o := by
  refine validM_of_swp mixed is_laws_markVote_o (by rintro _ _ ⟨a, rfl, _⟩; exact Nat.le_of_ble_eq_true rfl) ?_
  rintro _ _ rm ⟨⟨v, k⟩, rfl, rfl, hv, hk0, hkM⟩ hl
  dsimp only at hv hk0 hkM
  change swp _ _ _ _ _ 1 _
  repeat' ((conv => whnf); first
    | refine ⟨_, rfl, ?_⟩
    | refine ⟨rfl, ?_⟩
    | refine ⟨_, _, rfl, at_map (by assumption), ?_⟩
    | refine idx_mapX (i := 0) rfl (by assumption) ?_
    | refine idx_map (by omega) (fun x hx => ?_)
    | refine idx_mapX (wrap_dn (by omega) (by omega)) (by assumption) ?_
    | refine idx_mapE (wrap_dn (by omega) (by omega)) (by omega) (fun x hx => ?_)
    | refine idx_mapL (by omega) (by first | assumption | (simp only [LIM]; omega)) (fun x hx => ?_)
    | refine idx_mapI (by omega) (by first | omega | (simp only [List.length_map] at *; omega)) (fun x hx => ?_)
    | refine ⟨_, ldc_cells hupd_at (Nat.le_of_ble_eq_true rfl), ?_⟩
    | refine ⟨_, ldc_cells (by first | assumption | exact zk ‹_› (by omega) | exact zk (zk ‹_› (by omega)) (by omega)) (Nat.le_of_ble_eq_true rfl), ?_⟩
    | refine ⟨_, _, hupd_at, rfl, rfl, Nat.le_of_ble_eq_true rfl, ?_⟩
    | refine ⟨_, _, rfl, rfl, rfl, Nat.le_of_ble_eq_true rfl, ?_⟩
    | (refine ⟨?_, _, (?_ : (_ : Option Ob) = _), rfl, rfl, ?_, ?_⟩; rotate_left; (exact hk_); exact Nat.le_of_ble_eq_true rfl)
    | refine ⟨_, _, _, _, ((by exact hk_) : (_ : Option Ob) = _), rfl, at_mapA (by assumption), ?_⟩
    | refine idx_ow (by exact hk_) (by omega) (fun x hx => ?_)
    | refine ⟨_, _, _, _, ((by exact hk_) : (_ : Option Ob) = _), rfl, fill_at (by omega), ?_⟩
    | refine ⟨_, _, _, _, ((by exact hk_) : (_ : Option Ob) = _), fill_at (by omega), rfl, rfl, Nat.le_of_ble_eq_true rfl, ?_⟩
    | refine idx_owL (by exact hk_) (by omega) (by simp only [LIM]; omega) (fun x hx => ?_)
    | refine idx_owI (by exact hk_) (by omega) (by first | omega | (simp only [List.length_map] at *; omega)) (fun x hx => ?_)
    | refine ⟨_, _, _, _, ((by exact hk_) : (_ : Option Ob) = _), at_mapA (by assumption), rfl, rfl, Nat.le_of_ble_eq_true rfl, ?_⟩
    | refine ⟨_, ldc_pa (by exact hk_) (at_mapA (by assumption)) (Nat.le_of_ble_eq_true rfl), ?_⟩
    | refine ⟨_, rfl, rfl, _, ((by exact hk_) : (_ : Option Ob) = _), (by exact ap_), ?_⟩
    | refine ⟨_, news_ow hupd_at, newsz_ow hupd_at, _, ((by exact hk_) : (_ : Option Ob) = _), (by exact ap_), ?_⟩
    | refine ⟨_, _, _, ((by exact hk_) : (_ : Option Ob) = _), ?_⟩
    | refine ⟨_, ((by exact hk_) : (_ : Option Ob) = _), ?_⟩
    | refine ⟨(show _ ≠ _ from (by first | decide | omega)), ?_⟩
    | refine ⟨(show _ ≤ _ from (by exact ap_)), ?_⟩
    | (refine ⟨fun hc => ?_, fun hc => ?_⟩ <;> (try simp (disch := omega) only [List.length_map, wrap64] at hc))
    | (refine ⟨⟨(by omega), (by omega), (by simp only [List.length_map] at *; simp only [LIM] at *; omega), (by simp only [List.length_map] at *; simp only [LIM] at *; omega)⟩, ?_⟩; (try simp only [List.length_map, Int.toNat_natCast]))
    | (refine ⟨_, slc_to rfl (by first | omega | (simp only [List.length_map] at *; omega)), ?_⟩; rw [map_take'])
    | (refine ⟨_, slc_toI rfl (by omega) (by first | omega | (simp only [List.length_map] at *; omega)), ?_⟩; rw [map_take'])
    | fail)
  conv => whnf
  refine mq_mark (F := itF) (T := ty_impl_Item) (sz := 4) (k := 0) (l := v.c) (l' := mkC v.c.length k) (n := k) (m := k + 4 * v.c.length) v_laws_markItemS_o (by exact hl) (zk (by rfl) (by omega)) (by rfl) ⟨(some v.c, k), rfl, rfl, fun d hd => by cases hd; exact hv, hk0, hkM⟩ (fun r obs' h => K_mark_o h) ?_
  repeat' ((conv => whnf); first
    | refine ⟨_, rfl, ?_⟩
    | refine ⟨rfl, ?_⟩
    | refine ⟨_, _, rfl, at_map (by assumption), ?_⟩
    | refine idx_mapX (i := 0) rfl (by assumption) ?_
    | refine idx_map (by omega) (fun x hx => ?_)
    | refine idx_mapX (wrap_dn (by omega) (by omega)) (by assumption) ?_
    | refine idx_mapE (wrap_dn (by omega) (by omega)) (by omega) (fun x hx => ?_)
    | refine idx_mapL (by omega) (by first | assumption | (simp only [LIM]; omega)) (fun x hx => ?_)
    | refine idx_mapI (by omega) (by first | omega | (simp only [List.length_map] at *; omega)) (fun x hx => ?_)
    | refine ⟨_, ldc_cells hupd_at (Nat.le_of_ble_eq_true rfl), ?_⟩
    | refine ⟨_, ldc_cells (by first | assumption | exact zk ‹_› (by omega) | exact zk (zk ‹_› (by omega)) (by omega)) (Nat.le_of_ble_eq_true rfl), ?_⟩
    | refine ⟨_, _, hupd_at, rfl, rfl, Nat.le_of_ble_eq_true rfl, ?_⟩
    | refine ⟨_, _, rfl, rfl, rfl, Nat.le_of_ble_eq_true rfl, ?_⟩
    | (refine ⟨?_, _, (?_ : (_ : Option Ob) = _), rfl, rfl, ?_, ?_⟩; rotate_left; (exact hk_); exact Nat.le_of_ble_eq_true rfl)
    | refine ⟨_, _, _, _, ((by exact hk_) : (_ : Option Ob) = _), rfl, at_mapA (by assumption), ?_⟩
    | refine idx_ow (by exact hk_) (by omega) (fun x hx => ?_)
    | refine ⟨_, _, _, _, ((by exact hk_) : (_ : Option Ob) = _), rfl, fill_at (by omega), ?_⟩
    | refine ⟨_, _, _, _, ((by exact hk_) : (_ : Option Ob) = _), fill_at (by omega), rfl, rfl, Nat.le_of_ble_eq_true rfl, ?_⟩
    | refine idx_owL (by exact hk_) (by omega) (by simp only [LIM]; omega) (fun x hx => ?_)
    | refine idx_owI (by exact hk_) (by omega) (by first | omega | (simp only [List.length_map] at *; omega)) (fun x hx => ?_)
    | refine ⟨_, _, _, _, ((by exact hk_) : (_ : Option Ob) = _), at_mapA (by assumption), rfl, rfl, Nat.le_of_ble_eq_true rfl, ?_⟩
    | refine ⟨_, ldc_pa (by exact hk_) (at_mapA (by assumption)) (Nat.le_of_ble_eq_true rfl), ?_⟩
    | refine ⟨_, rfl, rfl, _, ((by exact hk_) : (_ : Option Ob) = _), (by exact ap_), ?_⟩
    | refine ⟨_, news_ow hupd_at, newsz_ow hupd_at, _, ((by exact hk_) : (_ : Option Ob) = _), (by exact ap_), ?_⟩
    | refine ⟨_, _, _, ((by exact hk_) : (_ : Option Ob) = _), ?_⟩
    | refine ⟨_, ((by exact hk_) : (_ : Option Ob) = _), ?_⟩
    | refine ⟨(show _ ≠ _ from (by first | decide | omega)), ?_⟩
    | refine ⟨(show _ ≤ _ from (by exact ap_)), ?_⟩
    | (refine ⟨fun hc => ?_, fun hc => ?_⟩ <;> (try simp (disch := omega) only [List.length_map, wrap64] at hc))
    | (refine ⟨⟨(by omega), (by omega), (by simp only [List.length_map] at *; simp only [LIM] at *; omega), (by simp only [List.length_map] at *; simp only [LIM] at *; omega)⟩, ?_⟩; (try simp only [List.length_map, Int.toNat_natCast]))
    | (refine ⟨_, slc_to rfl (by first | omega | (simp only [List.length_map] at *; omega)), ?_⟩; rw [map_take'])
    | (refine ⟨_, slc_toI rfl (by omega) (by first | omega | (simp only [List.length_map] at *; omega)), ?_⟩; rw [map_take'])
    | fail)
  conv => whnf
  exact finM_s1 (F := itF) (l := mkC v.c.length k) (n := k + 4 * v.c.length) (Nat.le_refl _) hupd_at ⟨⟨_, rfl, .inl rfl⟩, trivial⟩ ⟨(v, k), rfl, rfl, rfl, rfl⟩
end Av
end Go.Proofs.Ytmboljfckljjhaa
