/- The walks: TreeAll, VotesFor, copies of votes, lists turned round, votes added. -/
import Derived.Test.YtocfcnkfjfpoaaaG4
import Derived.Test.YtocfcnkfjfpoaaaK2
set_option linter.unusedVariables false
set_option linter.unusedSimpArgs false
namespace Go.Proofs.Ytocfcnkfjfpoaaa
namespace Av
open Go.RowKit

attribute [local irreducible] Valid ValidM
set_option maxHeartbeats 4000000 in
set_option maxRecDepth 100000 in
theorem v_impl_VotesFor : Valid Try.prog n_impl_VotesFor S_impl_VotesFor := by
  refine valid_of_swp mixed is_impl_VotesFor (by rintro _ ⟨a, rfl, _⟩; exact Nat.le_of_ble_eq_true rfl) ?_
  rintro _ rm ⟨⟨l, c⟩, rfl, hpre⟩ hl
  try dsimp only at hpre
  have hpre0 := hpre
  obtain ⟨hp1, hp2⟩ := hpre
  repeat' ((conv => whnf); first
    | refine ⟨_, rfl, ?_⟩
    | refine ⟨rfl, ?_⟩
    | (refine ⟨fun hc => ?_, fun hc => ?_⟩ <;> (try simp (disch := omega) only [List.length_map, wrap64] at hc))
    | (refine callt (b := [one (vsF _)]) v_impl_VotesOk rfl ⟨_, rfl, (by exact pr_)⟩ (.inl rfl) (by first | assumption | omega) (fun r hr => K_impl_VotesOk (a := _) hr) (fun hj => ?_) (fun hj => ?_) <;> (try simp only [etaPa, etaIt, etaVo] at hj))
    | (refine calle (b := [one (vsF _), one (chF _)]) v_impl_votes_voters rfl ⟨(_, _), rfl, (by refine ⟨?_, ?_⟩ <;> (exact pr_))⟩ (.inl rfl) (by first | assumption | omega) (fun r hr => K_impl_votes_voters (a := (_, _)) hr) ?_)
    | exact ⟨⟨_, rfl, rfl, (l, c), rfl, rfl⟩, (by first | exact Nat.le_refl _ | omega), (by exact h0_)⟩
    | exact ⟨⟨_, rfl, rfl, (l, c), rfl, (by refine congrArg one (?_ : (_ : FV) = _); (try dsimp only); first | done | exact absurd True.intro hj | ((unfold votesFor; first | (rw [tb_pos (by assumption)]; rfl) | (rw [tb_neg (by assumption)]; rfl))))⟩, (by first | exact Nat.le_refl _ | omega), (by exact h0_)⟩
    | exact ⟨⟨[.o (.c _)], congrArg (fun x => some [AW.o x]) (bor_ow (by exact hk_) (by first | rfl | (exact fcellss_c _))), rfl, (l, c), rfl, (by first | rfl | (refine congrArg one (?_ : (_ : FV) = _); (try dsimp only); first | done | exact absurd True.intro hj | ((unfold votesFor; first | (rw [tb_pos (by assumption)]; rfl) | (rw [tb_neg (by assumption)]; rfl)))))⟩, (by first | exact Nat.le_refl _ | omega), (by exact h0_)⟩
    | fail)
set_option maxHeartbeats 4000000 in
set_option maxRecDepth 100000 in
theorem v_slices_Clip_VoteS : ValidM Try.prog n_slices_Clip_VoteS S_slices_Clip_VoteS := by
  refine validM_of_swp mixed is_slices_Clip_VoteS (by rintro _ _ ⟨a, rfl, _⟩; exact Nat.le_of_ble_eq_true rfl) ?_
  rintro _ _ rm ⟨l, rfl, rfl, hpre⟩ hl
  try dsimp only at hpre
  change swp _ _ _ _ _ 1 _
  repeat' ((conv => whnf); first
    | refine ⟨_, rfl, ?_⟩
    | refine ⟨rfl, ?_⟩
    | (refine ⟨fun hc => ?_, fun hc => ?_⟩ <;> (try simp (disch := omega) only [List.length_map, wrap64] at hc))
    | (refine ⟨_, slc_to rfl (by first | omega | (simp only [List.length_map] at *; omega)), ?_⟩; rw [map_take'])
    | (refine ⟨_, slc_toI rfl (by omega) (by first | omega | (simp only [List.length_map] at *; omega)), ?_⟩; rw [map_take'])
    | fail)
  refine .inl ⟨0, ty_impl_Vote, 2, arA voF l, _, rfl, rfl, fcellss_f voF l, .inr ?_⟩
  conv => whnf
  refine ⟨_, slc_clipS (sz := 2) (xs := l.map voF) rfl rfl, ?_⟩
  cases l with
  | nil =>
    conv => whnf
    exact finM_clip (Nat.le_refl _) hupd_at ⟨⟨_, rfl, .inr ⟨rfl, rfl⟩⟩, trivial⟩ ⟨[], rfl, rfl, rfl, rfl⟩
  | cons a r =>
    conv => whnf
    exact finM_clip (Nat.le_refl _) (hupd_at.trans (by rw [List.length_map])) ⟨⟨_, rfl, .inl rfl⟩, trivial⟩ ⟨a :: r, rfl, rfl, rfl, rfl⟩

def ix1 : AV → Nat
  | .w (.o (.c (.v (.int _ n)))) => (n + 1).toNat
  | _ => 0
theorem back_step {l m : List Vo} {i : Nat} {x : Vo} (h : m = (l.drop i).reverse) (hi : 0 < i) (hx : l[((i : Int) - 1).toNat]? = some x) : m ++ [x] = (l.drop (i - 1)).reverse := by
  have e : ((i : Int) - 1).toNat = i - 1 := by omega
  rw [e] at hx
  rw [drop_at hx, List.reverse_cons, show i - 1 + 1 = i from by omega, h]
set_option maxHeartbeats 4000000 in
set_option maxRecDepth 100000 in
theorem v_laws_lwBack : Valid Try.prog n_laws_lwBack S_laws_lwBack := by
  refine valid_of_swp mixed is_laws_lwBack (by rintro _ ⟨a, rfl, _⟩; exact Nat.le_of_ble_eq_true rfl) ?_
  rintro _ rm ⟨l, rfl, hpre⟩ hl
  try dsimp only at hpre
  have hpre0 := hpre
  have hp1 := hpre
  have hlen := hpre.1
  have hw : IntKind.i64.wrap (((l.map voF).length : Int) - 1) = (l.length : Int) - 1 := by simp only [LIM] at hlen; rw [List.length_map, wrap64] <;> omega
  repeat' ((conv => whnf); first
    | refine ⟨_, rfl, ?_⟩
    | refine ⟨rfl, ?_⟩
    | refine ⟨_, _, rfl, at_map (by assumption), ?_⟩
    | refine idx_mapX (i := 0) rfl (by assumption) ?_
    | refine idx_map (by omega) (fun x hx => ?_)
    | refine idx_mapX (wrap_dn (by omega) (by omega)) (by assumption) ?_
    | refine idx_mapE (wrap_dn (by omega) (by omega)) (by omega) (fun x hx => ?_)
    | refine idx_mapL (by omega) (by first | assumption | (simp only [LIM]; omega)) (fun x hx => ?_)
    | refine idx_mapI (by omega) (by first | omega | (simp only [List.length_map] at *; omega)) (fun x hx => ?_)
    | refine ⟨_, ldc_cells hupd_at (Nat.le_of_ble_eq_true rfl), ?_⟩
    | refine ⟨_, ldc_cells (by first | assumption | exact zk ‹_› (by omega) | exact zk (zk ‹_› (by omega)) (by omega)) (Nat.le_of_ble_eq_true rfl), ?_⟩
    | refine ⟨_, _, _, _, ((by exact hk_) : (_ : Option Ob) = _), rfl, at_mapA (by assumption), ?_⟩
    | refine idx_ow (by exact hk_) (by omega) (fun x hx => ?_)
    | refine ⟨_, _, _, _, ((by exact hk_) : (_ : Option Ob) = _), rfl, fill_at (by omega), ?_⟩
    | refine idx_owL (by exact hk_) (by omega) (by simp only [LIM]; omega) (fun x hx => ?_)
    | refine idx_owI (by exact hk_) (by omega) (by first | omega | (simp only [List.length_map] at *; omega)) (fun x hx => ?_)
    | refine ⟨_, ldc_pa (by exact hk_) (at_mapA (by assumption)) (Nat.le_of_ble_eq_true rfl), ?_⟩
    | refine ⟨_, rfl, rfl, _, ((by exact hk_) : (_ : Option Ob) = _), (by exact ap_), ?_⟩
    | refine ⟨_, news_ow hupd_at, newsz_ow hupd_at, _, ((by exact hk_) : (_ : Option Ob) = _), (by exact ap_), ?_⟩
    | refine ⟨_, _, _, ((by exact hk_) : (_ : Option Ob) = _), ?_⟩
    | refine ⟨_, ((by exact hk_) : (_ : Option Ob) = _), ?_⟩
    | refine ⟨(show _ ≤ _ from (by exact ap_)), ?_⟩
    | (refine ⟨fun hc => ?_, fun hc => ?_⟩ <;> (try simp (disch := omega) only [List.length_map, wrap64] at hc))
    | fail)
  conv => whnf
  refine ⟨fun fr H nx rm' => ∃ (i k : Nat) (m : List Vo), Has fr [(0, one (vsF l)), (3, .w (.o (.ow k))), (4, I ((i : Int) - 1))] ∧ i ≤ l.length ∧ m = (l.drop i).reverse ∧ m.length + i = l.length ∧ H k = some (voO m) ∧ 1 ≤ k ∧ k < nx ∧ H 0 = none ∧ rm' = rm,
    fun fr _ _ _ => ix1 (fr 4), ⟨l.length, _, [], ⟨rfl, rfl, congrArg I hw, trivial⟩, Nat.le_refl _, by simp, by simp, hupd_at, ln_, ln_, ne_, rfl⟩, ?_⟩
  rintro fr H nx rm' ⟨i, k, m, hfr, hi, hm, hml, hk, hk1, hkn, hH, rfl⟩
  rw [hfr.eq]
  have hlen' := hlen
  simp only [LIM] at hlen'
  repeat' ((conv => whnf); first
    | refine ⟨_, rfl, ?_⟩
    | refine ⟨rfl, ?_⟩
    | refine ⟨_, _, rfl, at_map (by assumption), ?_⟩
    | refine idx_mapX (i := 0) rfl (by assumption) ?_
    | refine idx_map (by omega) (fun x hx => ?_)
    | refine idx_mapX (wrap_dn (by omega) (by omega)) (by assumption) ?_
    | refine idx_mapE (wrap_dn (by omega) (by omega)) (by omega) (fun x hx => ?_)
    | refine idx_mapL (by omega) (by first | assumption | (simp only [LIM]; omega)) (fun x hx => ?_)
    | refine idx_mapI (by omega) (by first | omega | (simp only [List.length_map] at *; omega)) (fun x hx => ?_)
    | refine ⟨_, ldc_cells hupd_at (Nat.le_of_ble_eq_true rfl), ?_⟩
    | refine ⟨_, ldc_cells (by first | assumption | exact zk ‹_› (by omega) | exact zk (zk ‹_› (by omega)) (by omega)) (Nat.le_of_ble_eq_true rfl), ?_⟩
    | refine ⟨_, _, _, _, ((by exact hk_) : (_ : Option Ob) = _), rfl, at_mapA (by assumption), ?_⟩
    | refine idx_ow (by exact hk_) (by omega) (fun x hx => ?_)
    | refine ⟨_, _, _, _, ((by exact hk_) : (_ : Option Ob) = _), rfl, fill_at (by omega), ?_⟩
    | refine idx_owL (by exact hk_) (by omega) (by simp only [LIM]; omega) (fun x hx => ?_)
    | refine idx_owI (by exact hk_) (by omega) (by first | omega | (simp only [List.length_map] at *; omega)) (fun x hx => ?_)
    | refine ⟨_, ldc_pa (by exact hk_) (at_mapA (by assumption)) (Nat.le_of_ble_eq_true rfl), ?_⟩
    | refine ⟨_, rfl, rfl, _, ((by exact hk_) : (_ : Option Ob) = _), (by exact ap_), ?_⟩
    | refine ⟨_, news_ow hupd_at, newsz_ow hupd_at, _, ((by exact hk_) : (_ : Option Ob) = _), (by exact ap_), ?_⟩
    | refine ⟨_, _, _, ((by exact hk_) : (_ : Option Ob) = _), ?_⟩
    | refine ⟨_, ((by exact hk_) : (_ : Option Ob) = _), ?_⟩
    | refine ⟨(show _ ≤ _ from (by exact ap_)), ?_⟩
    | (refine ⟨fun hc => ?_, fun hc => ?_⟩ <;> (try simp (disch := omega) only [List.length_map, wrap64] at hc))
    | exact ⟨⟨_, rfl, rfl, l, rfl, rfl⟩, (by first | exact Nat.le_refl _ | omega), (by exact h0_)⟩
    | exact ⟨⟨_, rfl, rfl, l, rfl, (by refine congrArg one (?_ : (_ : FV) = _); (try dsimp only); first | done | exact absurd True.intro hj | (exact congrArg vsF (by rw [hm, show i = 0 from by omega]; rfl)))⟩, (by first | exact Nat.le_refl _ | omega), (by exact h0_)⟩
    | exact ⟨⟨[.o (.c _)], congrArg (fun x => some [AW.o x]) (bor_ow (by exact hk_) (by first | rfl | (exact fcellss_f _ _))), rfl, l, rfl, (by first | rfl | (refine congrArg one (?_ : (_ : FV) = _); (try dsimp only); first | done | exact absurd True.intro hj | (exact congrArg vsF (by rw [hm, show i = 0 from by omega]; rfl))))⟩, (by first | exact Nat.le_refl _ | omega), (by exact h0_)⟩
    | (refine ⟨⟨i - 1, _, m ++ [x], ⟨rfl, rfl, congrArg I (show IntKind.i64.wrap ((i : Int) - 1 - 1) = ((i - 1 : Nat) : Int) - 1 from by rw [wrap64] <;> omega), trivial⟩, by omega, back_step hm (by omega) hx, (by simp only [List.length_append, List.length_cons, List.length_nil]; omega), hupd_at.trans (arr_snoc rfl), ln_, ln_, ne_, rfl⟩, (by show ix1 (I _) < ix1 (I _); rw [show IntKind.i64.wrap ((i : Int) - 1 - 1) = (i : Int) - 2 from by rw [wrap64] <;> omega]; simp only [ix1]; omega)⟩)
    | fail)
theorem add_bad1 {l : List Vo} {v : Vo} (h : ¬ VotesOk l) : AV.tup [.o (.c (vsF (addL l v))), .o (cB (addB l v))] = AV.tup [.o (.c (vsF [])), .o (cB false)] := by
  unfold addL addB
  rw [tb_neg (fun q : VotesOk l ∧ VoteOk v => h q.1), tb_neg (fun q : VotesOk l ∧ VoteOk v ∧ v ∉ l => h q.1)]; rfl
theorem add_bad2 {l : List Vo} {v : Vo} (h : ¬ VoteOk v) : AV.tup [.o (.c (vsF (addL l v))), .o (cB (addB l v))] = AV.tup [.o (.c (vsF [])), .o (cB false)] := by
  unfold addL addB
  rw [tb_neg (fun q : VotesOk l ∧ VoteOk v => h q.2), tb_neg (fun q : VotesOk l ∧ VoteOk v ∧ v ∉ l => h q.2.1)]; rfl
theorem add_in {l : List Vo} {v : Vo} (h1 : VotesOk l) (h2 : VoteOk v) (h : v ∈ l) : AV.tup [.o (.c (vsF (addL l v))), .o (cB (addB l v))] = AV.tup [.o (.c (vsF l)), .o (cB false)] := by
  unfold addL addB
  rw [tb_pos (show VotesOk l ∧ VoteOk v from ⟨h1, h2⟩), tb_pos h, tb_neg (fun q : VotesOk l ∧ VoteOk v ∧ v ∉ l => q.2.2 h)]; rfl
theorem add_new {l : List Vo} {v : Vo} (h1 : VotesOk l) (h2 : VoteOk v) (h : v ∉ l) : AV.tup [.o (.c (vsF (addL l v))), .o (cB (addB l v))] = AV.tup [.o (.c (vsF (l ++ [v]))), .o (cB true)] := by
  unfold addL addB
  rw [tb_pos (show VotesOk l ∧ VoteOk v from ⟨h1, h2⟩), tb_neg h, tb_pos (show VotesOk l ∧ VoteOk v ∧ v ∉ l from ⟨h1, h2, h⟩)]; rfl
end Av
end Go.Proofs.Ytocfcnkfjfpoaaa
