/- Texts of the layer, joined. -/
import Derived.Test.YtlbdoamidblkaaaG1
import Derived.Test.YtlbdoamidblkaaaJ5
import Derived.Test.YtlbdoamidblkaaaJ7
set_option linter.unusedVariables false
set_option linter.unusedSimpArgs false
namespace Go.Proofs.Ytlbdoamidblkaaa
namespace Av
open Go.RowKit
theorem allM_yes {l r : List Vo} {v : Vo} {out : List (List It)} (h : v.c ∉ out) (h' : SureM l v.c) : allFromM l (v :: r) out = allFromM l r (out ++ [v.c]) := by
  simp only [allFromM, tb_pos (show v.c ∉ out ∧ SureM l v.c from ⟨h, h'⟩), if_true]
theorem allM_no {l r : List Vo} {v : Vo} {out : List (List It)} (h : ¬ (v.c ∉ out ∧ SureM l v.c)) : allFromM l (v :: r) out = allFromM l r out := by
  simp only [allFromM, tb_neg h, Bool.false_eq_true, if_false]
theorem drop_at {α : Type} {l : List α} {i : Nat} {v : α} (hv : l[i]? = some v) : l.drop i = v :: l.drop (i + 1) := by
  obtain ⟨h, rfl⟩ := List.getElem?_eq_some_iff.1 hv
  exact List.drop_eq_getElem_cons h
theorem mem_take_succ {α : Type} {l : List α} {i : Nat} {x a : α} (hx : l[i]? = some x) : a ∈ l.take (i + 1) ↔ a ∈ l.take i ∨ x = a := by
  rw [List.take_add_one, hx]; simp [eq_comm]
theorem mem_take_mono {α : Type} {l : List α} {j : Nat} {x : α} (h : x ∈ l.take j) : x ∈ l.take (j + 1) := by
  rw [List.take_add_one]; exact List.mem_append_left _ h
attribute [local irreducible] Valid ValidM
set_option maxHeartbeats 4000000 in
set_option maxRecDepth 100000 in
theorem v_spec_l1Copy : Valid Try.prog n_spec_l1Copy S_spec_l1Copy := by
  refine valid_of_swp mixed is_spec_l1Copy (by rintro _ ⟨a, rfl, _⟩; exact Nat.le_of_ble_eq_true rfl) ?_
  rintro _ rm ⟨c, rfl, hpre⟩ hl
  try dsimp only at hpre
  have hpre0 := hpre
  have hp1 := hpre
  repeat' ((conv => whnf); first
    | refine ⟨_, rfl, ?_⟩
    | refine ⟨rfl, ?_⟩
    | refine ⟨(show _ ≤ _ from (by exact ap_)), ?_⟩
    | exact ⟨⟨[.o (.c _)], congrArg (fun x => some [AW.o x]) (bor_ow (by exact hk_) (by first | rfl | (exact fcellss_c _))), rfl, c, rfl, (by first | rfl | (refine congrArg one (?_ : (_ : FV) = _); (try dsimp only); first | done | exact absurd True.intro hj | (first | assumption | grind)))⟩, (by first | exact Nat.le_refl _ | omega), (by exact h0_)⟩
    | fail)
set_option maxHeartbeats 4000000 in
set_option maxRecDepth 100000 in
theorem v_spec_l11All : Valid Try.prog n_spec_l11All S_spec_l11All := by
  refine valid_of_swp mixed is_spec_l11All (by rintro _ ⟨a, rfl, _⟩; exact Nat.le_of_ble_eq_true rfl) ?_
  rintro _ rm ⟨l, rfl, hpre⟩ hl
  try dsimp only at hpre
  have hpre0 := hpre
  obtain ⟨hp1, hp2⟩ := hpre
  conv => whnf
  refine ⟨fun fr H nx rm' => ∃ (i k : Nat) (out : List (List It)), Has fr [(0, one (vsF l)), (3, .w (.o (.ow k))), (4, I i)] ∧ i ≤ l.length ∧ allFromM l (l.drop i) out = allM l ∧
      H k = some (.arr ty_Simpl_Item 1 (csA out)) ∧ 1 ≤ k ∧ k < nx ∧ out.length ≤ i + 1 ∧ (∀ c, c ∈ out → c.length ≤ LIM) ∧ H 0 = none ∧ rm' = rm,
    fun fr _ _ _ => l.length - ix (fr 4), ⟨0, _, [[]], ⟨rfl, rfl, rfl, trivial⟩, Nat.zero_le _, rfl, rfl, by decide, by decide, by decide, by simp, rfl, rfl⟩, ?_⟩
  rintro fr H nx rm' ⟨i, k, out, hfr, hi, hq, hk, hk1, hkn, hol, hoc, hH, rfl⟩
  rw [hfr.eq]
  repeat' ((conv => whnf); first
    | refine ⟨rfl, ?_⟩
    | (refine ⟨fun hc => ?_, fun hc => ?_⟩ <;> (try simp (disch := omega) only [List.length_map, wrap64] at hc))
    | exact ⟨⟨[.o (.c _)], congrArg (fun x => some [AW.o x]) (bor_ow (by exact hk_) (by first | rfl | (exact csA_frz _))), rfl, l, rfl, (by first | rfl | (refine congrArg one (?_ : (_ : FV) = _); (try dsimp only); first | done | exact absurd True.intro hj | ((rw [List.drop_eq_nil_of_le (by omega)] at hq; exact congrArg csF hq))))⟩, (by first | exact Nat.le_refl _ | omega), (by exact h0_)⟩
    | fail)
  obtain ⟨v, hv⟩ : ∃ v, l[i]? = some v := ⟨_, List.getElem?_eq_getElem (by omega)⟩
  have hvc : v.c.length ≤ LIM := hp1.get hv
  rw [drop_at hv] at hq
  refine ⟨fun fr H nx r2 => ∃ (j : Nat) (b : Bool), Has fr [(0, one (vsF l)), (3, .w (.o (.ow k))), (4, I i), (5, B b), (6, I j)] ∧ j ≤ out.length ∧ (b = true ↔ v.c ∈ out.take j) ∧
      H k = some (.arr ty_Simpl_Item 1 (csA out)) ∧ 1 ≤ k ∧ k < nx ∧ H 0 = none ∧ r2 = rm',
    fun fr _ _ _ => out.length - ix (fr 6), ⟨0, false, ⟨rfl, rfl, rfl, rfl, rfl, trivial⟩, Nat.zero_le _, by simp, hk, hk1, by omega, hH, rfl⟩, ?_⟩
  rintro fr H nx r2 ⟨j, b, hfr, hj, hb, hk, hk1, hkn, hH, rfl⟩
  rw [hfr.eq]
  have hlo : out.length ≤ LIM := by simp only [LIM] at *; omega
  cases b with
  | true =>
    have hb := hb.1 rfl
    repeat' ((conv => whnf); first
      | refine ⟨rfl, ?_⟩
      | refine ⟨_, _, _, ((by exact hk_) : (_ : Option Ob) = _), ?_⟩
      | (refine ⟨fun hc => ?_, fun hc => ?_⟩ <;> (try simp (disch := omega) only [List.length_map, wrap64] at hc))
      | (refine ⟨⟨j + 1, true, ⟨rfl, rfl, rfl, rfl, congrArg I (wrap_up (n := out.length) (by omega) hlo), trivial⟩, (by omega), (iff_of_true rfl ((mem_take_mono hb))), hk, hk1, (by omega), hH, rfl⟩, (by show out.length - ix (I _) < out.length - ix (I _); simp only [wrap_up (n := out.length) (i := j) (by omega) hlo, ix, Int.toNat_natCast]; omega)⟩)
      | (refine ⟨⟨i + 1, k, out, ⟨rfl, rfl, congrArg I (wrap_up (n := l.length) (by omega) hp1.1), trivial⟩, (by omega), (by rw [← hq, allM_no (by exact fun h => h.1 (List.mem_of_mem_take hb))]), hk, hk1, (by omega), (by omega), hoc, hH, rfl⟩, (by show l.length - ix (I _) < l.length - ix (I _); simp only [wrap_up (n := l.length) (i := i) (by omega) hp1.1, ix, Int.toNat_natCast]; omega)⟩)
      | fail)
  | false =>
    have hb : v.c ∉ out.take j := fun h => by have := hb.2 h; cases this
    repeat' ((conv => whnf); first
      | refine ⟨_, rfl, ?_⟩
      | refine ⟨rfl, ?_⟩
      | refine ⟨_, _, rfl, at_map (by assumption), ?_⟩
      | refine idx_ow (by exact hk_) (by omega) (fun x hx => ?_)
      | refine ⟨_, ldc_pa (by exact hk_) (at_mapA (by assumption)) (Nat.le_of_ble_eq_true rfl), ?_⟩
      | refine ⟨_, news_ow hupd_at, newsz_ow hupd_at, _, ((by exact hk_) : (_ : Option Ob) = _), (by exact ap_), ?_⟩
      | refine ⟨_, _, _, ((by exact hk_) : (_ : Option Ob) = _), ?_⟩
      | (refine ⟨fun hc => ?_, fun hc => ?_⟩ <;> (try simp (disch := omega) only [List.length_map, wrap64] at hc))
      | (refine callt (b := [one (chF _), one (chF _)]) v_spec_l3Same rfl ⟨(_, _), rfl, (by refine ⟨?_, ?_⟩ <;> (exact pr_))⟩ (.inl rfl) (by first | assumption | omega) (fun r hr => K_spec_l3Same (a := (_, _)) hr) (fun hj => ?_) (fun hj => ?_) <;> (try simp only [etaPa, etaIt, etaVo] at hj))
      | (refine callt (b := [one (vsF _), one (chF _)]) v_spec_l11Sure rfl ⟨(_, _), rfl, (by refine ⟨?_, ?_⟩ <;> (exact pr_))⟩ (.inl rfl) (by first | assumption | omega) (fun r hr => K_spec_l11Sure (a := (_, _)) hr) (fun hj => ?_) (fun hj => ?_) <;> (try simp only [etaPa, etaIt, etaVo] at hj))
      | (refine calle (b := [one (chF _)]) v_spec_l1Copy rfl ⟨_, rfl, (by exact pr_)⟩ (.inl rfl) (by first | assumption | omega) (fun r hr => K_spec_l1Copy (a := _) hr) ?_)
      | (refine ⟨⟨j + 1, true, ⟨rfl, rfl, rfl, rfl, congrArg I (wrap_up (n := out.length) (by omega) hlo), trivial⟩, (by omega), (by rw [mem_take_succ (by assumption)]; simp_all), hk, hk1, (by omega), hH, rfl⟩, (by show out.length - ix (I _) < out.length - ix (I _); simp only [wrap_up (n := out.length) (i := j) (by omega) hlo, ix, Int.toNat_natCast]; omega)⟩)
      | (refine ⟨⟨j + 1, false, ⟨rfl, rfl, rfl, rfl, congrArg I (wrap_up (n := out.length) (by omega) hlo), trivial⟩, (by omega), (by rw [mem_take_succ (by assumption)]; simp_all), hk, hk1, (by omega), hH, rfl⟩, (by show out.length - ix (I _) < out.length - ix (I _); simp only [wrap_up (n := out.length) (i := j) (by omega) hlo, ix, Int.toNat_natCast]; omega)⟩)
      | (refine ⟨⟨i + 1, k, out, ⟨rfl, rfl, congrArg I (wrap_up (n := l.length) (by omega) hp1.1), trivial⟩, (by omega), (by rw [← hq, allM_no (by exact fun h => hj h.2)]), hk, hk1, (by omega), (by omega), hoc, hH, rfl⟩, (by show l.length - ix (I _) < l.length - ix (I _); simp only [wrap_up (n := l.length) (i := i) (by omega) hp1.1, ix, Int.toNat_natCast]; omega)⟩)
      | (refine ⟨⟨i + 1, _, out ++ [v.c], ⟨rfl, rfl, congrArg I (wrap_up (n := l.length) (by omega) hp1.1), trivial⟩, (by omega), (by rw [← hq, allM_yes (by rwa [List.take_of_length_le (by omega)] at hb) hj]), hupd_at.trans (by simp [csA]), (by omega), (by (try simp only [List.length_cons, List.length_nil]); omega), (by simp only [List.length_append, List.length_cons, List.length_nil]; omega), (by intro c hc; rcases List.mem_append.1 hc with hc | hc; exact hoc c hc; rw [List.mem_singleton.1 hc]; exact hvc), (by first | rfl | assumption | exact z0 ‹_› (by omega) | exact z0 (z0 ‹_› (by omega)) (by omega) | exact z0 (z0 (z0 ‹_› (by omega)) (by omega)) (by omega) | exact z0 (z0 (z0 (z0 ‹_› (by omega)) (by omega)) (by omega)) (by omega)), rfl⟩, (by show l.length - ix (I _) < l.length - ix (I _); simp only [wrap_up (n := l.length) (i := i) (by omega) hp1.1, ix, Int.toNat_natCast]; omega)⟩)
      | fail)
theorem allFromM_pre (l : List Vo) : ∀ (r : List Vo) (out : List (List It)), ∃ t, allFromM l r out = out ++ t
  | [], out => ⟨[], by simp [allFromM]⟩
  | v :: r, out => by
    simp only [allFromM]
    split
    · obtain ⟨t, ht⟩ := allFromM_pre l r (out ++ [v.c])
      exact ⟨[v.c] ++ t, by rw [ht, List.append_assoc]⟩
    · exact allFromM_pre l r out
theorem allM_head (l : List Vo) : (allM l)[0]? = some [] := by
  obtain ⟨t, ht⟩ := allFromM_pre l l [[]]
  simp [allM, ht]
theorem allFromM_len (l : List Vo) : ∀ (r : List Vo) (out : List (List It)), (allFromM l r out).length ≤ out.length + r.length
  | [], out => Nat.le_refl _
  | v :: r, out => by
    simp only [allFromM, List.length_cons]
    refine Nat.le_trans (allFromM_len l r _) ?_
    split <;> simp <;> omega
theorem allM_len (l : List Vo) : (allM l).length ≤ l.length + 1 := by
  have := allFromM_len l l [[]]
  simp only [allM, List.length_cons, List.length_nil] at *; omega
set_option maxHeartbeats 4000000 in
set_option maxRecDepth 100000 in
theorem v_spec_l11Tip : Valid Try.prog n_spec_l11Tip S_spec_l11Tip := by
  refine valid_of_swp mixed is_spec_l11Tip (by rintro _ ⟨a, rfl, _⟩; exact Nat.le_of_ble_eq_true rfl) ?_
  rintro _ rm ⟨l, rfl, hpre⟩ hl
  try dsimp only at hpre
  have hpre0 := hpre
  obtain ⟨hp1, hp2⟩ := hpre
  have h0 := allM_head l
  have hlen : (allM l).length ≤ LIM := by have := allM_len l; omega
  have hstart : ((allM l).drop (0 + 1)).foldl longer [] = tipM l := by
    unfold tipM
    rw [show allM l = [] :: (allM l).drop (0 + 1) from by have := drop_at h0; simpa using this]
    rfl
  repeat' ((conv => whnf); first
    | refine ⟨_, rfl, ?_⟩
    | refine ⟨rfl, ?_⟩
    | refine ⟨_, _, rfl, at_map (by assumption), ?_⟩
    | (refine calle (b := [one (vsF _)]) v_spec_l11All rfl ⟨_, rfl, (by refine ⟨?_, ?_⟩ <;> (exact pr_))⟩ (.inl rfl) (by first | assumption | omega) (fun r hr => K_spec_l11All (a := _) hr) ?_)
    | fail)
  conv => whnf
  refine ⟨fun fr H nx rm' => ∃ (i : Nat) (o : List It), Has fr [(3, one (csF (allM l))), (4, one (chF o)), (5, I ((i + 1 : Nat) : Int))] ∧ i ≤ (allM l).length ∧ (((allM l).drop (i + 1)).foldl longer o = tipM l) ∧ 1 ≤ nx ∧ H 0 = none ∧ rm' = rm,
    fun fr _ _ _ => (allM l).length + 1 - ix (fr 5), ⟨0, [], ⟨(by first | rfl | (show I _ = I _; simp)), (by first | rfl | (show I _ = I _; simp)), (by first | rfl | (show I _ = I _; simp)), trivial⟩, Nat.zero_le _, (by exact hstart), (by first | decide | omega), (by exact h0_), rfl⟩, ?_⟩
  rintro fr H nx rm' ⟨i, o, hfr, hi, hq, hnx, hH, rfl⟩
  rw [hfr.eq]
  repeat' ((conv => whnf); first
    | refine ⟨_, rfl, ?_⟩
    | refine ⟨rfl, ?_⟩
    | refine ⟨_, _, rfl, at_map (by assumption), ?_⟩
    | refine idx_map (by omega) (fun x hx => ?_)
    | (refine ⟨fun hc => ?_, fun hc => ?_⟩ <;> (try simp (disch := omega) only [List.length_map, wrap64] at hc))
    | (first | (refine ⟨⟨i + 1, o, ⟨rfl, rfl, congrArg I (wrap_up1 (n := (allM l).length) (by omega) (hlen)), trivial⟩, (by omega), (by rw [← hq, drop_at hx]; simp only [List.foldl_cons, longer]; first | rw [if_neg (by omega)] | rw [if_pos (by omega)]), (by omega), (by exact h0_), rfl⟩, ?_⟩; show (allM l).length + 1 - ix (I _) < (allM l).length + 1 - ix (I _); simp only [wrap_up1 (n := (allM l).length) (i := i) (by omega) (hlen), ix, Int.toNat_natCast]; omega) | (refine ⟨⟨i + 1, x, ⟨rfl, rfl, congrArg I (wrap_up1 (n := (allM l).length) (by omega) (hlen)), trivial⟩, (by omega), (by rw [← hq, drop_at hx]; simp only [List.foldl_cons, longer]; first | rw [if_neg (by omega)] | rw [if_pos (by omega)]), (by omega), (by exact h0_), rfl⟩, ?_⟩; show (allM l).length + 1 - ix (I _) < (allM l).length + 1 - ix (I _); simp only [wrap_up1 (n := (allM l).length) (i := i) (by omega) (hlen), ix, Int.toNat_natCast]; omega))
    | exact ⟨⟨_, rfl, rfl, l, rfl, (by refine congrArg one (?_ : (_ : FV) = _); (try dsimp only); first | done | exact absurd True.intro hj | ((rw [List.drop_eq_nil_of_le (by omega)] at hq; exact congrArg chF hq)))⟩, (by first | exact Nat.le_refl _ | omega), (by exact h0_)⟩
    | fail)
end Av
end Go.Proofs.Ytlbdoamidblkaaa

namespace Go.Proofs.Ytlbdoamidblkaaa
namespace Av
open Go.RowKit
theorem VotesOk.nodup {l : List Vo} (h : VotesOk l) : l.Nodup := by
  rw [List.nodup_iff_pairwise_ne, List.pairwise_iff_getElem]
  intro i j hi hj hij e
  have h1 := (h j l[j] (List.getElem?_eq_getElem hj)).2
  apply h1
  rw [List.mem_take_iff_getElem]
  exact ⟨i, by omega, e⟩
theorem VotesOk.ok {l : List Vo} (h : VotesOk l) {v : Vo} (hv : v ∈ l) : VoteOk v := by
  obtain ⟨i, hi⟩ := List.mem_iff_getElem?.1 hv
  exact (h i v hi).1
theorem many_voters {l : List Vo} (h : VotesOk l) (d : List It) : many l d = (voters l d).length := by
  unfold many
  rw [List.countP_eq_length_filter, ← List.length_map (f := fun v : Vo => v.n)]
  apply List.Perm.length_eq
  have n1 : ((l.filter fun v => decide (v.c = d)).map fun v => v.n).Nodup := by
    rw [List.nodup_iff_pairwise_ne, List.pairwise_map]
    have : (l.filter fun v => decide (v.c = d)).Nodup := List.Nodup.sublist List.filter_sublist h.nodup
    rw [List.nodup_iff_pairwise_ne] at this
    refine this.imp_of_mem fun {a b} ha hb hne e => hne ?_
    have ha := (List.mem_filter.1 ha).2
    have hb := (List.mem_filter.1 hb).2
    simp only [decide_eq_true_eq] at ha hb
    cases a; cases b; simp_all
  have n2 : (voters l d).Nodup := List.Nodup.sublist List.filter_sublist (by decide)
  rw [List.perm_ext_iff_of_nodup n1 n2]
  intro n
  unfold voters
  simp only [List.mem_map, List.mem_filter, decide_eq_true_eq, tb_iff]
  constructor
  · rintro ⟨v, ⟨hv, rfl⟩, rfl⟩
    refine ⟨?_, hv⟩
    have := (h.ok hv).1
    have h1 : v.n = 1 ∨ v.n = 2 ∨ v.n = 3 ∨ v.n = 4 := by obtain ⟨h1, h2⟩ := this; omega
    simpa using h1
  · rintro ⟨_, hv⟩
    exact ⟨⟨n, d⟩, ⟨hv, rfl⟩, rfl⟩
theorem sureM_iff {l : List Vo} (h : VotesOk l) (c : List It) : SureM l c ↔ Sure l c := by
  unfold SureM Sure SureAt
  simp only [many_voters h]
theorem allFromM_eq {l : List Vo} (h : VotesOk l) : ∀ (r : List Vo) (out : List (List It)), allFromM l r out = allFrom l r out
  | [], _ => rfl
  | v :: r, out => by
    simp only [allFromM, allFrom]
    rw [show tb (v.c ∉ out ∧ SureM l v.c) = tb (v.c ∉ out ∧ Sure l v.c) from by rw [sureM_iff h]]
    exact allFromM_eq h r _
theorem allM_eq {l : List Vo} (h : VotesOk l) : allM l = allS l := allFromM_eq h l _
theorem tipM_eq {l : List Vo} (h : VotesOk l) : tipM l = tip l := by unfold tipM tip; rw [allM_eq h]
end Av
end Go.Proofs.Ytlbdoamidblkaaa

namespace Go.Proofs.Ytlbdoamidblkaaa
namespace Av
open Go.RowKit
theorem nodup_take {α : Type} {l : List α} (h : l.Nodup) {i : Nat} {x : α} (hx : l[i]? = some x) : x ∉ l.take i := by
  intro hm
  rw [List.mem_take_iff_getElem] at hm
  obtain ⟨j, hj, e⟩ := hm
  obtain ⟨hi, e'⟩ := List.getElem?_eq_some_iff.1 hx
  rw [List.nodup_iff_pairwise_ne, List.pairwise_iff_getElem] at h
  exact h j i (by omega) hi (by omega) (e.trans e'.symm)
theorem votesOk_iff {l : List Vo} : VotesOk l ↔ (∀ v, v ∈ l → VoteOk v) ∧ l.Nodup :=
  ⟨fun h => ⟨fun v hv => h.ok hv, h.nodup⟩, fun ⟨h1, h2⟩ i v hv => ⟨h1 v (List.mem_of_getElem? hv), nodup_take h2 hv⟩⟩
theorem filter_len_mono {α : Type} {p q : α → Bool} (h : ∀ a, p a = true → q a = true) : ∀ l : List α, (l.filter p).length ≤ (l.filter q).length
  | [] => Nat.le_refl _
  | a :: l => by
    have ih := filter_len_mono h l
    cases hp : p a with
    | true => simp [hp, h a hp]; exact ih
    | false =>
      cases hq : q a with
      | true => simp [hp, hq]; omega
      | false => simp [hp, hq]; exact ih
theorem voters_mono {l m : List Vo} (h : ∀ v, v ∈ l → v ∈ m) (c : List It) : (voters l c).length ≤ (voters m c).length :=
  filter_len_mono (fun n hn => by rw [tb_iff] at hn ⊢; exact h _ hn) _
theorem Sure.mono {l m : List Vo} (h : ∀ v, v ∈ l → v ∈ m) {c : List It} (hs : Sure l c) : Sure m c :=
  fun n h1 h2 => Nat.le_trans (hs n h1 h2) (voters_mono h _)
theorem votesOk_snoc {l : List Vo} {v : Vo} (h : VotesOk l) (hv : VoteOk v) (hn : v ∉ l) : VotesOk (l ++ [v]) := by
  rw [votesOk_iff] at h ⊢
  refine ⟨fun u hu => ?_, ?_⟩
  · rcases List.mem_append.1 hu with hu | hu
    · exact h.1 u hu
    · rw [List.mem_singleton.1 hu]; exact hv
  · rw [List.nodup_append]
    refine ⟨h.2, by simp, ?_⟩
    intro a ha b hb e
    rw [List.mem_singleton.1 hb] at e
    subst e; exact hn ha
theorem FitCs.take {l : List (List It)} (h : FitCs l) (i : Nat) : FitCs (l.take i) :=
  ⟨by have := h.1; simp only [List.length_take]; omega, fun v hv => h.2 v (List.mem_of_mem_take hv)⟩
end Av
end Go.Proofs.Ytlbdoamidblkaaa

