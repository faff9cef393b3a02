/- The walks: making a cert. -/
import Derived.Test.YtdboofnogabefaaJ45
import Derived.Test.YtdboofnogabefaaJ47
set_option linter.unusedVariables false
set_option linter.unusedSimpArgs false
namespace Go.Proofs.Ytdboofnogabefaa
namespace Av
open Go.RowKit
theorem bs_at {l : List Vo} {c : List It} (h0 : finIn c ≠ 0) {i : Nat} (hi : i < 3) : (certIn l c).b[i]? = some (voters l ((c.take (finIn c + 1)).take ((c.take (finIn c + 1)).length - 2 + (i : Int).toNat))) := by
  have h2 := finIn_two h0
  have hlt := finIn_lt h0
  have hlen : (c.take (finIn c + 1)).length = finIn c + 1 := by simp only [List.length_take]; omega
  rw [hlen, List.take_take, Int.toNat_natCast, Nat.min_eq_left (by omega)]
  match i, hi with
  | 0, _ => simp only [certIn]; rw [show finIn c + 1 - 2 + 0 = finIn c - 1 from by omega]; rfl
  | 1, _ => simp only [certIn]; rw [show finIn c + 1 - 2 + 1 = finIn c from by omega]; rfl
  | 2, _ => simp only [certIn]; rw [show finIn c + 1 - 2 + 2 = finIn c + 1 from by omega]; rfl
attribute [local irreducible] Valid ValidM
def vtk (l : List Vo) (c : List It) : Nat → List Int → Prop := fun k b => b = ([1, 2, 3, 4].take k : List Int).filter fun n => tb ((⟨n, c⟩ : Vo) ∈ l)
theorem vtk_yes {l : List Vo} {c : List It} {k : Nat} {b : List Int} (h : vtk l c k b) (hk : k < 4) (hm : (⟨((k + 1 : Nat) : Int), c⟩ : Vo) ∈ l) : vtk l c (k + 1) (b ++ [((k + 1 : Nat) : Int)]) := by
  unfold vtk at *
  have e : ([1, 2, 3, 4] : List Int)[k]? = some ((k + 1 : Nat) : Int) := by
    match k, hk with
    | 0, _ => rfl
    | 1, _ => rfl
    | 2, _ => rfl
    | 3, _ => rfl
  rw [List.take_add_one, e, List.filter_append, ← h]
  simp only [Option.toList, List.filter_cons, List.filter_nil, tb_pos hm, if_true]
theorem vtk_no {l : List Vo} {c : List It} {k : Nat} {b : List Int} (h : vtk l c k b) (hk : k < 4) (hm : (⟨((k + 1 : Nat) : Int), c⟩ : Vo) ∉ l) : vtk l c (k + 1) b := by
  unfold vtk at *
  have e : ([1, 2, 3, 4] : List Int)[k]? = some ((k + 1 : Nat) : Int) := by
    match k, hk with
    | 0, _ => rfl
    | 1, _ => rfl
    | 2, _ => rfl
    | 3, _ => rfl
  rw [List.take_add_one, e, List.filter_append, ← h]
  simp only [Option.toList, List.filter_cons, List.filter_nil, tb_neg hm, Bool.false_eq_true, if_false, List.append_nil]
theorem vtk_end {l : List Vo} {c : List It} {b : List Int} (h : vtk l c 4 b) : b = voters l c := h
theorem vtk_len {l : List Vo} {c : List It} {k : Nat} {b : List Int} (h : vtk l c k b) : b.length ≤ 4 := by
  rw [h]; refine Nat.le_trans (List.length_filter_le _ _) ?_
  simp only [List.length_take, List.length_cons, List.length_nil]; omega
abbrev nsO (b : List Int) : Ob := .arr ty_int 1 (arA (fun n => [fI n]) b)
set_option maxHeartbeats 4000000 in
set_option maxRecDepth 100000 in
theorem v_spec_VotesFor : Valid Try.prog n_spec_VotesFor S_spec_VotesFor := by
  refine valid_of_swp mixed is_spec_VotesFor (by rintro _ ⟨a, rfl, _⟩; exact Nat.le_of_ble_eq_true rfl) ?_
  rintro _ rm ⟨⟨l, c⟩, rfl, hpre⟩ hl
  try dsimp only at hpre
  have hpre0 := hpre
  obtain ⟨hp1, hp2⟩ := hpre
  by_cases hV : VotesOk l
  · have eF : votesFor l c = voters l c := by unfold votesFor; rw [tb_pos hV]; rfl
    repeat' ((conv => whnf); first
      | refine ⟨_, rfl, ?_⟩
      | refine ⟨rfl, ?_⟩
      | refine ⟨_, rfl, rfl, _, ((by exact hk_) : (_ : Option Ob) = _), (by exact ap_), ?_⟩
      | refine ⟨_, news_ow hupd_at, newsz_ow hupd_at, _, ((by exact hk_) : (_ : Option Ob) = _), (by exact ap_), ?_⟩
      | refine ⟨_, ((by exact hk_) : (_ : Option Ob) = _), ?_⟩
      | refine ⟨(show _ ≤ _ from (by exact ap_)), ?_⟩
      | (refine ⟨fun hc => ?_, fun hc => ?_⟩ <;> (try simp (disch := omega) only [List.length_map, wrap64] at hc) <;> (try (exfalso; first | contradiction | omega)))
      | (refine callt (b := [one (vsF _)]) v_spec_VotesOk rfl ⟨_, rfl, (by exact pr_)⟩ (.inl rfl) (by first | assumption | omega) (fun r hr => K_spec_VotesOk (a := _) hr) (fun hj => ?_) (fun hj => ?_) <;> (try simp only [etaPa, etaIt, etaVo] at hj) <;> (try contradiction))
      | fail)
    conv => whnf
    refine ⟨fun fr H nx rm' => ∃ (i : Nat) (k : Nat) (b : List Int), Has fr [(0, one (vsF l)), (1, one (chF c)), (5, .w (.o (.ow k))), (6, I ((i + 1 : Nat) : Int))] ∧ i ≤ 4 ∧ (vtk l c i b) ∧ H k = some (nsO b) ∧ 1 ≤ k ∧ k < nx ∧ 1 ≤ nx ∧ H 0 = none ∧ rm' = rm,
      fun fr _ _ _ => 4 + 1 - ix (fr 6), ⟨0, _, [], ⟨(by first | rfl | (show I _ = I _; simp)), (by first | rfl | (show I _ = I _; simp)), (by first | rfl | (show I _ = I _; simp)), (by first | rfl | (show I _ = I _; simp)), trivial⟩, Nat.zero_le _, (by rfl), hk_, ln_, ln_, (by first | decide | omega), (by exact h0_), rfl⟩, ?_⟩
    rintro fr H nx rm' ⟨i, k, b, hfr, hi, hq, hk, hk1, hkn, hnx, hH, rfl⟩
    rw [hfr.eq]
    have hbl := vtk_len hq
    rcases Nat.lt_or_ge i 4 with hi' | hi'
    · by_cases hm : (⟨((i + 1 : Nat) : Int), c⟩ : Vo) ∈ l
      · skip
        repeat' ((conv => whnf); first
          | refine ⟨_, rfl, ?_⟩
          | refine ⟨rfl, ?_⟩
          | refine ⟨_, rfl, rfl, _, ((by exact hk_) : (_ : Option Ob) = _), (by exact ap_), ?_⟩
          | refine ⟨_, news_ow hupd_at, newsz_ow hupd_at, _, ((by exact hk_) : (_ : Option Ob) = _), (by exact ap_), ?_⟩
          | refine ⟨_, ((by exact hk_) : (_ : Option Ob) = _), ?_⟩
          | refine ⟨(show _ ≤ _ from (by exact ap_)), ?_⟩
          | (refine ⟨fun hc => ?_, fun hc => ?_⟩ <;> (try simp (disch := omega) only [List.length_map, wrap64] at hc) <;> (try (exfalso; first | contradiction | omega)))
          | (refine callt (b := [one (vsF _), agg (voF ⟨_, _⟩)]) v_spec_l3Has rfl ⟨(_, ⟨_, _⟩), rfl, (by refine ⟨?_, ?_⟩ <;> (exact pr_))⟩ (.inl rfl) (by first | assumption | omega) (fun r hr => K_spec_l3Has (a := (_, ⟨_, _⟩)) hr) (fun hj => ?_) (fun hj => ?_) <;> (try simp only [etaPa, etaIt, etaVo] at hj) <;> (try contradiction))
          | (first | (refine ⟨⟨i + 1, _, b ++ [((i + 1 : Nat) : Int)], ⟨rfl, rfl, rfl, congrArg I (wrap_up1 (n := 4) (by omega) (by decide)), trivial⟩, (by omega), (by exact vtk_yes hq hi' hm), (by first | exact hupd_at.trans (arr_snoc rfl) | exact hk_), (by omega), ln_, (by omega), (by exact h0_), rfl⟩, ?_⟩; show 4 + 1 - ix (I _) < 4 + 1 - ix (I _); simp only [wrap_up1 (n := 4) (i := i) (by omega) (by decide), ix, Int.toNat_natCast]; omega) | (refine ⟨⟨i + 1, _, b, ⟨rfl, rfl, rfl, congrArg I (wrap_up1 (n := 4) (by omega) (by decide)), trivial⟩, (by omega), (by exact vtk_no hq hi' hm), (by first | exact hupd_at.trans (arr_snoc rfl) | exact hk_), (by omega), ln_, (by omega), (by exact h0_), rfl⟩, ?_⟩; show 4 + 1 - ix (I _) < 4 + 1 - ix (I _); simp only [wrap_up1 (n := 4) (i := i) (by omega) (by decide), ix, Int.toNat_natCast]; omega))
          | fail)
      · skip
        repeat' ((conv => whnf); first
          | refine ⟨_, rfl, ?_⟩
          | refine ⟨rfl, ?_⟩
          | refine ⟨_, rfl, rfl, _, ((by exact hk_) : (_ : Option Ob) = _), (by exact ap_), ?_⟩
          | refine ⟨_, news_ow hupd_at, newsz_ow hupd_at, _, ((by exact hk_) : (_ : Option Ob) = _), (by exact ap_), ?_⟩
          | refine ⟨_, ((by exact hk_) : (_ : Option Ob) = _), ?_⟩
          | refine ⟨(show _ ≤ _ from (by exact ap_)), ?_⟩
          | (refine ⟨fun hc => ?_, fun hc => ?_⟩ <;> (try simp (disch := omega) only [List.length_map, wrap64] at hc) <;> (try (exfalso; first | contradiction | omega)))
          | (refine callt (b := [one (vsF _), agg (voF ⟨_, _⟩)]) v_spec_l3Has rfl ⟨(_, ⟨_, _⟩), rfl, (by refine ⟨?_, ?_⟩ <;> (exact pr_))⟩ (.inl rfl) (by first | assumption | omega) (fun r hr => K_spec_l3Has (a := (_, ⟨_, _⟩)) hr) (fun hj => ?_) (fun hj => ?_) <;> (try simp only [etaPa, etaIt, etaVo] at hj) <;> (try contradiction))
          | (first | (refine ⟨⟨i + 1, _, b ++ [((i + 1 : Nat) : Int)], ⟨rfl, rfl, rfl, congrArg I (wrap_up1 (n := 4) (by omega) (by decide)), trivial⟩, (by omega), (by exact vtk_yes hq hi' hm), (by first | exact hupd_at.trans (arr_snoc rfl) | exact hk_), (by omega), ln_, (by omega), (by exact h0_), rfl⟩, ?_⟩; show 4 + 1 - ix (I _) < 4 + 1 - ix (I _); simp only [wrap_up1 (n := 4) (i := i) (by omega) (by decide), ix, Int.toNat_natCast]; omega) | (refine ⟨⟨i + 1, _, b, ⟨rfl, rfl, rfl, congrArg I (wrap_up1 (n := 4) (by omega) (by decide)), trivial⟩, (by omega), (by exact vtk_no hq hi' hm), (by first | exact hupd_at.trans (arr_snoc rfl) | exact hk_), (by omega), ln_, (by omega), (by exact h0_), rfl⟩, ?_⟩; show 4 + 1 - ix (I _) < 4 + 1 - ix (I _); simp only [wrap_up1 (n := 4) (i := i) (by omega) (by decide), ix, Int.toNat_natCast]; omega))
          | fail)
    · have hi4 : i = 4 := by omega
      subst hi4
      have hb := vtk_end hq
      repeat' ((conv => whnf); first
        | refine ⟨_, rfl, ?_⟩
        | refine ⟨rfl, ?_⟩
        | refine ⟨_, rfl, rfl, _, ((by exact hk_) : (_ : Option Ob) = _), (by exact ap_), ?_⟩
        | refine ⟨_, news_ow hupd_at, newsz_ow hupd_at, _, ((by exact hk_) : (_ : Option Ob) = _), (by exact ap_), ?_⟩
        | refine ⟨_, ((by exact hk_) : (_ : Option Ob) = _), ?_⟩
        | refine ⟨(show _ ≤ _ from (by exact ap_)), ?_⟩
        | (refine ⟨fun hc => ?_, fun hc => ?_⟩ <;> (try simp (disch := omega) only [List.length_map, wrap64] at hc) <;> (try (exfalso; first | contradiction | omega)))
        | (first | (refine ⟨⟨i + 1, _, b ++ [((i + 1 : Nat) : Int)], ⟨rfl, rfl, rfl, congrArg I (wrap_up1 (n := 4) (by omega) (by decide)), trivial⟩, (by omega), (by exact vtk_yes hq hi' hm), (by first | exact hupd_at.trans (arr_snoc rfl) | exact hk_), (by omega), ln_, (by omega), (by exact h0_), rfl⟩, ?_⟩; show 4 + 1 - ix (I _) < 4 + 1 - ix (I _); simp only [wrap_up1 (n := 4) (i := i) (by omega) (by decide), ix, Int.toNat_natCast]; omega) | (refine ⟨⟨i + 1, _, b, ⟨rfl, rfl, rfl, congrArg I (wrap_up1 (n := 4) (by omega) (by decide)), trivial⟩, (by omega), (by exact vtk_no hq hi' hm), (by first | exact hupd_at.trans (arr_snoc rfl) | exact hk_), (by omega), ln_, (by omega), (by exact h0_), rfl⟩, ?_⟩; show 4 + 1 - ix (I _) < 4 + 1 - ix (I _); simp only [wrap_up1 (n := 4) (i := i) (by omega) (by decide), ix, Int.toNat_natCast]; omega))
        | exact ⟨⟨_, rfl, rfl, (l, c), rfl, rfl⟩, (by first | exact Nat.le_refl _ | omega), (by exact h0_)⟩
        | exact ⟨⟨_, rfl, rfl, (l, c), rfl, (by refine congrArg one (?_ : (_ : FV) = _); (try dsimp only); first | done | exact absurd True.intro hj | ((rw [eF, ← hb]; rfl)))⟩, (by first | exact Nat.le_refl _ | omega), (by exact h0_)⟩
        | exact ⟨⟨[.o (.c _)], congrArg (fun x => some [AW.o x]) (bor_ow (by exact hk_) (by first | rfl | (exact fcellss_f _ _))), rfl, (l, c), rfl, (by first | rfl | (refine congrArg one (?_ : (_ : FV) = _); (try dsimp only); first | done | exact absurd True.intro hj | ((rw [eF, ← hb]; rfl))))⟩, (by first | exact Nat.le_refl _ | omega), (by exact h0_)⟩
        | fail)
  · have eF : votesFor l c = [] := by unfold votesFor; rw [tb_neg hV]; rfl
    repeat' ((conv => whnf); first
      | refine ⟨_, rfl, ?_⟩
      | refine ⟨rfl, ?_⟩
      | refine ⟨_, rfl, rfl, _, ((by exact hk_) : (_ : Option Ob) = _), (by exact ap_), ?_⟩
      | refine ⟨_, news_ow hupd_at, newsz_ow hupd_at, _, ((by exact hk_) : (_ : Option Ob) = _), (by exact ap_), ?_⟩
      | refine ⟨_, ((by exact hk_) : (_ : Option Ob) = _), ?_⟩
      | refine ⟨(show _ ≤ _ from (by exact ap_)), ?_⟩
      | (refine ⟨fun hc => ?_, fun hc => ?_⟩ <;> (try simp (disch := omega) only [List.length_map, wrap64] at hc) <;> (try (exfalso; first | contradiction | omega)))
      | (refine callt (b := [one (vsF _)]) v_spec_VotesOk rfl ⟨_, rfl, (by exact pr_)⟩ (.inl rfl) (by first | assumption | omega) (fun r hr => K_spec_VotesOk (a := _) hr) (fun hj => ?_) (fun hj => ?_) <;> (try simp only [etaPa, etaIt, etaVo] at hj) <;> (try contradiction))
      | (first | (refine ⟨⟨i + 1, _, b ++ [((i + 1 : Nat) : Int)], ⟨rfl, rfl, rfl, congrArg I (wrap_up1 (n := 4) (by omega) (by decide)), trivial⟩, (by omega), (by exact vtk_yes hq hi' hm), (by first | exact hupd_at.trans (arr_snoc rfl) | exact hk_), (by omega), ln_, (by omega), (by exact h0_), rfl⟩, ?_⟩; show 4 + 1 - ix (I _) < 4 + 1 - ix (I _); simp only [wrap_up1 (n := 4) (i := i) (by omega) (by decide), ix, Int.toNat_natCast]; omega) | (refine ⟨⟨i + 1, _, b, ⟨rfl, rfl, rfl, congrArg I (wrap_up1 (n := 4) (by omega) (by decide)), trivial⟩, (by omega), (by exact vtk_no hq hi' hm), (by first | exact hupd_at.trans (arr_snoc rfl) | exact hk_), (by omega), ln_, (by omega), (by exact h0_), rfl⟩, ?_⟩; show 4 + 1 - ix (I _) < 4 + 1 - ix (I _); simp only [wrap_up1 (n := 4) (i := i) (by omega) (by decide), ix, Int.toNat_natCast]; omega))
      | exact ⟨⟨_, rfl, rfl, (l, c), rfl, rfl⟩, (by first | exact Nat.le_refl _ | omega), (by exact h0_)⟩
      | exact ⟨⟨_, rfl, rfl, (l, c), rfl, (by refine congrArg one (?_ : (_ : FV) = _); (try dsimp only); first | done | exact absurd True.intro hj | ((rw [eF]; rfl)))⟩, (by first | exact Nat.le_refl _ | omega), (by exact h0_)⟩
      | exact ⟨⟨[.o (.c _)], congrArg (fun x => some [AW.o x]) (bor_ow (by exact hk_) (by first | rfl | (exact fcellss_f _ _))), rfl, (l, c), rfl, (by first | rfl | (refine congrArg one (?_ : (_ : FV) = _); (try dsimp only); first | done | exact absurd True.intro hj | ((rw [eF]; rfl))))⟩, (by first | exact Nat.le_refl _ | omega), (by exact h0_)⟩
      | fail)
end Av
end Go.Proofs.Ytdboofnogabefaa
/- The walks: the reference's certs, certs' votes. -/
namespace Go.Proofs.Ytdboofnogabefaa
namespace Av
open Go.RowKit
theorem votesFor_fits {l : List Vo} {c : List It} : (votesFor l c).length ≤ LIM := by
  unfold votesFor
  split
  · exact Nat.le_trans (List.length_filter_le _ _) (by decide)
  · exact Nat.zero_le _
theorem certBs_at {l : List Vo} {c : List It} (h0 : finIn c ≠ 0) {i : Nat} (hi : i < 3) : (certBs l c)[i]? = some (votesFor l (c.take (finIn c - 1 + i))) := by
  have h2 := finIn_two h0
  match i, hi with
  | 0, _ => rfl
  | 1, _ => simp only [certBs]; rw [show finIn c - 1 + 1 = finIn c from by omega]; rfl
  | 2, _ => simp only [certBs]; rw [show finIn c - 1 + 2 = finIn c + 1 from by omega]; rfl
section
variable {res : List Rs} {fr : Env} {H : Hp} {nx rm' lim : Nat} {post : AV → List (Option Ob) → Prop}
theorem finM_ceN (hrm : rm' ≤ lim) (hres : resM [] fr H res [.g [.e0, .e0], .o (cB false)]) (hpost : post ceN []) : rm' ≤ lim ∧ ∃ (ks : List Nat) (az : List AW) (r : AV) (obs' : List (Option Ob)), resM ks fr H res az ∧ resV az = r.ren (nmap ks nx) ∧ post r obs' ∧
      ks.Nodup ∧ (∀ i, i < 0 → ks[i]? = some i) ∧ obs'.length = ks.length ∧
      ∀ (i k : Nat), ks[i]? = some k → (∃ ob : Ob, obs'[i]? = some (some ob) ∧ H k = some (ob.ren (nmap ks nx))) ∨ (obs'[i]? = some none ∧ H k = none) :=
  ⟨hrm, [], _, _, _, hres, rfl, hpost, by simp, fun i hi => by omega, rfl, fun i k' h => by simp at h⟩
theorem finM_ceP {c : List It} {bs : List (List Int)} {k : Nat} (hrm : rm' ≤ lim) (hk : H k = some (bsO bs)) (hres : resM [k] fr H res [.g [.c (chF c), .ow k], .o (cB true)]) (hpost : post (ceP c 0 true) [some (bsO bs)]) : rm' ≤ lim ∧ ∃ (ks : List Nat) (az : List AW) (r : AV) (obs' : List (Option Ob)), resM ks fr H res az ∧ resV az = r.ren (nmap ks nx) ∧ post r obs' ∧
      ks.Nodup ∧ (∀ i, i < 0 → ks[i]? = some i) ∧ obs'.length = ks.length ∧
      ∀ (i k : Nat), ks[i]? = some k → (∃ ob : Ob, obs'[i]? = some (some ob) ∧ H k = some (ob.ren (nmap ks nx))) ∨ (obs'[i]? = some none ∧ H k = none) := by
  refine ⟨hrm, [k], _, _, _, hres, rfl, hpost, by simp, fun i hi => by omega, rfl, fun i k' h => ?_⟩
  left
  match i, h with
  | 0, h => cases h; exact ⟨_, rfl, by rw [arr_ren]; exact hk⟩
  | i + 1, h => simp at h
end
theorem bsO_snoc {b : List (List Int)} {i : Nat} {v : List Int} {T : Nat} (h : b[i]? = some v) {ys : List (List AC)} (hy : ys = [[.c (nsF v)]] := by rfl) : some (Ob.arr T 1 (arA (fun n => [nsF n]) (b.take i) ++ ys)) = some (Ob.arr T 1 (arA (fun n => [nsF n]) (b.take (i + 1)))) := by
  rw [List.take_add_one, h, hy]; simp [arA]
set_option maxHeartbeats 4000000 in
set_option maxRecDepth 100000 in
theorem v_spec_l13Of : ValidM Try.prog n_spec_l13Of S_spec_l13Of := by
  refine validM_of_swp mixed is_spec_l13Of (by rintro _ _ ⟨a, rfl, _⟩; exact Nat.le_of_ble_eq_true rfl) ?_
  rintro _ _ rm ⟨⟨l, c⟩, rfl, rfl, hpre⟩ hl
  try dsimp only at hpre
  change swp _ _ _ _ _ 0 _
  dsimp only
  obtain ⟨hp1, hp2⟩ := hpre
  rcases Nat.eq_zero_or_pos (finIn c) with h0 | h0
  · skip
    repeat' ((conv => whnf); first
      | refine ⟨_, rfl, ?_⟩
      | refine ⟨rfl, ?_⟩
      | refine ⟨_, ldc_cells hupd_at (Nat.le_of_ble_eq_true rfl), ?_⟩
      | refine ⟨_, ldc_cells (by first | assumption | exact zk ‹_› (by omega) | exact zk (zk ‹_› (by omega)) (by omega)) (Nat.le_of_ble_eq_true rfl), ?_⟩
      | refine ⟨_, _, hupd_at, rfl, rfl, Nat.le_of_ble_eq_true rfl, ?_⟩
      | refine ⟨_, _, rfl, rfl, rfl, Nat.le_of_ble_eq_true rfl, ?_⟩
      | (refine ⟨?_, _, (?_ : (_ : Option Ob) = _), rfl, rfl, ?_, ?_⟩; rotate_left; (exact hk_); exact Nat.le_of_ble_eq_true rfl)
      | refine ⟨_, _, _, _, ((by exact hk_) : (_ : Option Ob) = _), fill_at (by omega), rfl, rfl, Nat.le_of_ble_eq_true rfl, ?_⟩
      | refine ⟨_, _, _, _, ((by exact hk_) : (_ : Option Ob) = _), at_mapA (by assumption), rfl, rfl, Nat.le_of_ble_eq_true rfl, ?_⟩
      | refine ⟨_, ldc_pa (by exact hk_) (at_mapA (by assumption)) (Nat.le_of_ble_eq_true rfl), ?_⟩
      | refine ⟨_, rfl, rfl, _, ((by exact hk_) : (_ : Option Ob) = _), (by exact ap_), ?_⟩
      | refine ⟨_, news_ow hupd_at, newsz_ow hupd_at, _, ((by exact hk_) : (_ : Option Ob) = _), (by exact ap_), ?_⟩
      | refine ⟨_, ((by exact hk_) : (_ : Option Ob) = _), ?_⟩
      | refine ⟨(show _ ≤ _ from (by exact ap_)), ?_⟩
      | (refine ⟨fun hc => ?_, fun hc => ?_⟩ <;> (try simp (disch := omega) only [List.length_map, wrap64] at hc) <;> (try (exfalso; first | contradiction | omega)))
      | (refine ⟨_, slc_to rfl (by first | omega | (simp only [List.length_map] at *; omega)), ?_⟩; rw [map_take'])
      | (refine ⟨_, slc_toI rfl (by omega) (by first | omega | (simp only [List.length_map] at *; omega)), ?_⟩; rw [map_take'])
      | (refine calle (b := [one (chF _)]) v_spec_l11FinalIn rfl ⟨_, rfl, (by exact pr_)⟩ (.inl rfl) (by first | assumption | omega) (fun r hr => K_spec_l11FinalIn (a := _) hr) ?_)
      | (exact finM_ceN (by first | exact Nat.le_refl _ | omega) ⟨⟨_, rfl, .inl rfl⟩, ⟨_, rfl, .inl rfl⟩, trivial⟩ ⟨(l, c), rfl, rfl, .inl ⟨h0, rfl, rfl⟩⟩)
      | fail)
  · have h0' : finIn c ≠ 0 := by omega
    have hlt := finIn_lt h0'
    have h2 := finIn_two h0'
    have hL := hp2
    simp only [LIM] at hL
    have hw : IntKind.i64.wrap ((finIn c : Int) + 1) = ((finIn c + 1 : Nat) : Int) := by rw [wrap64] <;> omega
    have hcl : (c.take (finIn c + 1)).length = finIn c + 1 := by simp only [List.length_take]; omega
    have hfc : (c.take (finIn c + 1)).length ≤ LIM := by omega
    repeat' ((conv => whnf); first
      | (refine ⟨_, slc_to (congrArg I hw) (by simp only [List.length_map]; omega), ?_⟩; rw [map_take'])
      | refine ⟨_, rfl, ?_⟩
      | refine ⟨rfl, ?_⟩
      | refine ⟨_, ldc_cells hupd_at (Nat.le_of_ble_eq_true rfl), ?_⟩
      | refine ⟨_, ldc_cells (by first | assumption | exact zk ‹_› (by omega) | exact zk (zk ‹_› (by omega)) (by omega)) (Nat.le_of_ble_eq_true rfl), ?_⟩
      | refine ⟨_, _, hupd_at, rfl, rfl, Nat.le_of_ble_eq_true rfl, ?_⟩
      | refine ⟨_, _, rfl, rfl, rfl, Nat.le_of_ble_eq_true rfl, ?_⟩
      | (refine ⟨?_, _, (?_ : (_ : Option Ob) = _), rfl, rfl, ?_, ?_⟩; rotate_left; (exact hk_); exact Nat.le_of_ble_eq_true rfl)
      | refine ⟨_, _, _, _, ((by exact hk_) : (_ : Option Ob) = _), fill_at (by omega), rfl, rfl, Nat.le_of_ble_eq_true rfl, ?_⟩
      | refine ⟨_, _, _, _, ((by exact hk_) : (_ : Option Ob) = _), at_mapA (by assumption), rfl, rfl, Nat.le_of_ble_eq_true rfl, ?_⟩
      | refine ⟨_, ldc_pa (by exact hk_) (at_mapA (by assumption)) (Nat.le_of_ble_eq_true rfl), ?_⟩
      | refine ⟨_, rfl, rfl, _, ((by exact hk_) : (_ : Option Ob) = _), (by exact ap_), ?_⟩
      | refine ⟨_, news_ow hupd_at, newsz_ow hupd_at, _, ((by exact hk_) : (_ : Option Ob) = _), (by exact ap_), ?_⟩
      | refine ⟨_, ((by exact hk_) : (_ : Option Ob) = _), ?_⟩
      | refine ⟨(show _ ≤ _ from (by exact ap_)), ?_⟩
      | (refine ⟨fun hc => ?_, fun hc => ?_⟩ <;> (try simp (disch := omega) only [List.length_map, wrap64] at hc) <;> (try (exfalso; first | contradiction | omega)))
      | (refine ⟨_, slc_to rfl (by first | omega | (simp only [List.length_map] at *; omega)), ?_⟩; rw [map_take'])
      | (refine ⟨_, slc_toI rfl (by omega) (by first | omega | (simp only [List.length_map] at *; omega)), ?_⟩; rw [map_take'])
      | (refine calle (b := [one (chF _)]) v_spec_l11FinalIn rfl ⟨_, rfl, (by exact pr_)⟩ (.inl rfl) (by first | assumption | omega) (fun r hr => K_spec_l11FinalIn (a := _) hr) ?_)
      | (refine calle (b := [one (chF _)]) v_spec_l1Copy rfl ⟨_, rfl, (by exact pr_)⟩ (.inl rfl) (by first | assumption | omega) (fun r hr => K_spec_l1Copy (a := _) hr) ?_)
      | fail)
    conv => whnf
    have w0 : IntKind.i64.wrap ((finIn c : Int) - 1) = ((finIn c - 1 + 0 : Nat) : Int) := by rw [wrap64] <;> omega
    refine ⟨fun fr H nx r2 => ∃ (j k7 : Nat) (x : AC), Has fr [(0, one (vsF l)), (1, one (chF c)), (4, .w (.o (.ptr 0 0))), (6, I (finIn c)), (7, .w (.o (.ptr k7 0))), (8, I ((finIn c - 1 + j : Nat) : Int))] ∧ j ≤ 3 ∧ H 0 = some (.cells [.e0, .e0]) ∧ H k7 = some (.cells [.c (chF (c.take (finIn c + 1))), x]) ∧
        ((j = 0 ∧ x = .e0) ∨ (∃ kb, 0 < j ∧ x = .ow kb ∧ H kb = some (bsO ((certBs l c).take j)) ∧ 1 ≤ kb ∧ kb < nx ∧ kb ≠ k7)) ∧ 1 ≤ k7 ∧ k7 < nx ∧ r2 = rm,
      fun fr _ _ _ => c.length + 2 - ix (fr 8), ⟨0, _, .e0, ⟨rfl, rfl, rfl, rfl, rfl, congrArg I w0, trivial⟩, by omega, hk_, hk_, .inl ⟨rfl, rfl⟩, ln_, ln_, rfl⟩, ?_⟩
    rintro fr H nx r2 ⟨j, k7, x, hfr, hj, hH0, hk7, hx, h71, h7n, rfl⟩
    rw [hfr.eq]
    have wj : IntKind.i64.wrap (((finIn c - 1 + j : Nat) : Int) + 1) = ((finIn c - 1 + (j + 1) : Nat) : Int) := by rw [wrap64] <;> omega
    rcases Nat.lt_or_ge j 3 with hj' | hj'
    · have hvf := votesFor_fits (l := l) (c := c.take (finIn c - 1 + j))
      have hct : (c.take (finIn c - 1 + j)).length ≤ LIM := by simp only [List.length_take]; omega
      rcases hx with ⟨rfl, rfl⟩ | ⟨kb, hj0, rfl, hkb, hb1, hbn, hne⟩
      · skip
        repeat' ((conv => whnf); first
          | (refine ⟨_, slc_to rfl (by simp only [List.length_map]; omega), ?_⟩; rw [map_take'])
          | refine ⟨_, rfl, ?_⟩
          | refine ⟨rfl, ?_⟩
          | refine ⟨_, ldc_cells hupd_at (Nat.le_of_ble_eq_true rfl), ?_⟩
          | refine ⟨_, ldc_cells (by first | assumption | exact zk ‹_› (by omega) | exact zk (zk ‹_› (by omega)) (by omega)) (Nat.le_of_ble_eq_true rfl), ?_⟩
          | refine ⟨_, _, hupd_at, rfl, rfl, Nat.le_of_ble_eq_true rfl, ?_⟩
          | refine ⟨_, _, rfl, rfl, rfl, Nat.le_of_ble_eq_true rfl, ?_⟩
          | (refine ⟨?_, _, (?_ : (_ : Option Ob) = _), rfl, rfl, ?_, ?_⟩; rotate_left; (exact hk_); exact Nat.le_of_ble_eq_true rfl)
          | refine ⟨_, _, _, _, ((by exact hk_) : (_ : Option Ob) = _), fill_at (by omega), rfl, rfl, Nat.le_of_ble_eq_true rfl, ?_⟩
          | refine ⟨_, _, _, _, ((by exact hk_) : (_ : Option Ob) = _), at_mapA (by assumption), rfl, rfl, Nat.le_of_ble_eq_true rfl, ?_⟩
          | refine ⟨_, ldc_pa (by exact hk_) (at_mapA (by assumption)) (Nat.le_of_ble_eq_true rfl), ?_⟩
          | refine ⟨_, rfl, rfl, _, ((by exact hk_) : (_ : Option Ob) = _), (by exact ap_), ?_⟩
          | refine ⟨_, news_ow hupd_at, newsz_ow hupd_at, _, ((by exact hk_) : (_ : Option Ob) = _), (by exact ap_), ?_⟩
          | refine ⟨_, ((by exact hk_) : (_ : Option Ob) = _), ?_⟩
          | refine ⟨(show _ ≤ _ from (by exact ap_)), ?_⟩
          | (refine ⟨fun hc => ?_, fun hc => ?_⟩ <;> (try simp (disch := omega) only [List.length_map, wrap64] at hc) <;> (try (exfalso; first | contradiction | omega)))
          | (refine ⟨_, slc_to rfl (by first | omega | (simp only [List.length_map] at *; omega)), ?_⟩; rw [map_take'])
          | (refine ⟨_, slc_toI rfl (by omega) (by first | omega | (simp only [List.length_map] at *; omega)), ?_⟩; rw [map_take'])
          | (refine calle (b := [one (vsF _), one (chF _)]) v_spec_VotesFor rfl ⟨(_, _), rfl, (by refine ⟨?_, ?_⟩ <;> (exact pr_))⟩ (.inl rfl) (by first | assumption | omega) (fun r hr => K_spec_VotesFor (a := (_, _)) hr) ?_)
          | (refine ⟨_, news_ow hupd_at, newsz_ow hupd_at, Nat.le_of_ble_eq_true rfl, ?_⟩)
          | (refine ⟨⟨0 + 1, k7, .ow _, ⟨rfl, rfl, rfl, rfl, rfl, congrArg I wj, trivial⟩, by omega, hk_, hk_, .inr ⟨_, by omega, rfl, (Eq.trans (b := some (Ob.arr _ 1 (arA (fun n => [nsF n]) ((certBs l c).take 0) ++ _))) hk_ (bsO_snoc (certBs_at h0' hj'))), ln_, ln_, (by (try simp only [List.length_cons, List.length_nil]); omega)⟩, h71, ln_, rfl⟩, (by show c.length + 2 - ix (I _) < c.length + 2 - ix (I _); simp only [wj, ix, Int.toNat_natCast]; omega)⟩)
          | fail)
      · skip
        repeat' ((conv => whnf); first
          | (refine ⟨_, slc_to rfl (by simp only [List.length_map]; omega), ?_⟩; rw [map_take'])
          | refine ⟨_, rfl, ?_⟩
          | refine ⟨rfl, ?_⟩
          | refine ⟨_, ldc_cells hupd_at (Nat.le_of_ble_eq_true rfl), ?_⟩
          | refine ⟨_, ldc_cells (by first | assumption | exact zk ‹_› (by omega) | exact zk (zk ‹_› (by omega)) (by omega)) (Nat.le_of_ble_eq_true rfl), ?_⟩
          | refine ⟨_, _, hupd_at, rfl, rfl, Nat.le_of_ble_eq_true rfl, ?_⟩
          | refine ⟨_, _, rfl, rfl, rfl, Nat.le_of_ble_eq_true rfl, ?_⟩
          | (refine ⟨?_, _, (?_ : (_ : Option Ob) = _), rfl, rfl, ?_, ?_⟩; rotate_left; (exact hk_); exact Nat.le_of_ble_eq_true rfl)
          | refine ⟨_, _, _, _, ((by exact hk_) : (_ : Option Ob) = _), fill_at (by omega), rfl, rfl, Nat.le_of_ble_eq_true rfl, ?_⟩
          | refine ⟨_, _, _, _, ((by exact hk_) : (_ : Option Ob) = _), at_mapA (by assumption), rfl, rfl, Nat.le_of_ble_eq_true rfl, ?_⟩
          | refine ⟨_, ldc_pa (by exact hk_) (at_mapA (by assumption)) (Nat.le_of_ble_eq_true rfl), ?_⟩
          | refine ⟨_, rfl, rfl, _, ((by exact hk_) : (_ : Option Ob) = _), (by exact ap_), ?_⟩
          | refine ⟨_, news_ow hupd_at, newsz_ow hupd_at, _, ((by exact hk_) : (_ : Option Ob) = _), (by exact ap_), ?_⟩
          | refine ⟨_, ((by exact hk_) : (_ : Option Ob) = _), ?_⟩
          | refine ⟨(show _ ≤ _ from (by exact ap_)), ?_⟩
          | (refine ⟨fun hc => ?_, fun hc => ?_⟩ <;> (try simp (disch := omega) only [List.length_map, wrap64] at hc) <;> (try (exfalso; first | contradiction | omega)))
          | (refine ⟨_, slc_to rfl (by first | omega | (simp only [List.length_map] at *; omega)), ?_⟩; rw [map_take'])
          | (refine ⟨_, slc_toI rfl (by omega) (by first | omega | (simp only [List.length_map] at *; omega)), ?_⟩; rw [map_take'])
          | (refine calle (b := [one (vsF _), one (chF _)]) v_spec_VotesFor rfl ⟨(_, _), rfl, (by refine ⟨?_, ?_⟩ <;> (exact pr_))⟩ (.inl rfl) (by first | assumption | omega) (fun r hr => K_spec_VotesFor (a := (_, _)) hr) ?_)
          | (refine ⟨⟨j + 1, k7, .ow _, ⟨rfl, rfl, rfl, rfl, rfl, congrArg I wj, trivial⟩, by omega, hk_, hk_, .inr ⟨_, by omega, rfl, (Eq.trans (b := some (Ob.arr _ 1 (arA (fun n => [nsF n]) ((certBs l c).take j) ++ _))) hk_ (bsO_snoc (certBs_at h0' hj'))), ln_, ln_, (by (try simp only [List.length_cons, List.length_nil]); omega)⟩, h71, ln_, rfl⟩, (by show c.length + 2 - ix (I _) < c.length + 2 - ix (I _); simp only [wj, ix, Int.toNat_natCast]; omega)⟩)
          | fail)
    · have hj3 : j = 3 := by omega
      subst hj3
      rcases hx with ⟨h, _⟩ | ⟨kb, hj0, rfl, hkb, hb1, hbn, hne⟩
      · omega
      · have e4 : (certBs l c).take 3 = certBs l c := rfl
        rw [e4] at hkb
        repeat' ((conv => whnf); first
          | (exact finM_ceP (c := c.take (finIn c + 1)) (bs := certBs l c) (by first | exact Nat.le_refl _ | omega) hk_ ⟨⟨_, rfl, .inl rfl⟩, ⟨_, rfl, .inl rfl⟩, trivial⟩ ⟨(l, c), rfl, rfl, .inr ⟨h0', rfl, rfl⟩⟩)
          | refine ⟨_, rfl, ?_⟩
          | refine ⟨rfl, ?_⟩
          | refine ⟨_, ldc_cells hupd_at (Nat.le_of_ble_eq_true rfl), ?_⟩
          | refine ⟨_, ldc_cells (by first | assumption | exact zk ‹_› (by omega) | exact zk (zk ‹_› (by omega)) (by omega)) (Nat.le_of_ble_eq_true rfl), ?_⟩
          | refine ⟨_, _, hupd_at, rfl, rfl, Nat.le_of_ble_eq_true rfl, ?_⟩
          | refine ⟨_, _, rfl, rfl, rfl, Nat.le_of_ble_eq_true rfl, ?_⟩
          | (refine ⟨?_, _, (?_ : (_ : Option Ob) = _), rfl, rfl, ?_, ?_⟩; rotate_left; (exact hk_); exact Nat.le_of_ble_eq_true rfl)
          | refine ⟨_, _, _, _, ((by exact hk_) : (_ : Option Ob) = _), fill_at (by omega), rfl, rfl, Nat.le_of_ble_eq_true rfl, ?_⟩
          | refine ⟨_, _, _, _, ((by exact hk_) : (_ : Option Ob) = _), at_mapA (by assumption), rfl, rfl, Nat.le_of_ble_eq_true rfl, ?_⟩
          | refine ⟨_, ldc_pa (by exact hk_) (at_mapA (by assumption)) (Nat.le_of_ble_eq_true rfl), ?_⟩
          | refine ⟨_, rfl, rfl, _, ((by exact hk_) : (_ : Option Ob) = _), (by exact ap_), ?_⟩
          | refine ⟨_, news_ow hupd_at, newsz_ow hupd_at, _, ((by exact hk_) : (_ : Option Ob) = _), (by exact ap_), ?_⟩
          | refine ⟨_, ((by exact hk_) : (_ : Option Ob) = _), ?_⟩
          | refine ⟨(show _ ≤ _ from (by exact ap_)), ?_⟩
          | (refine ⟨fun hc => ?_, fun hc => ?_⟩ <;> (try simp (disch := omega) only [List.length_map, wrap64] at hc) <;> (try (exfalso; first | contradiction | omega)))
          | (refine ⟨_, slc_to rfl (by first | omega | (simp only [List.length_map] at *; omega)), ?_⟩; rw [map_take'])
          | (refine ⟨_, slc_toI rfl (by omega) (by first | omega | (simp only [List.length_map] at *; omega)), ?_⟩; rw [map_take'])
          | fail)
/-- Where the first chain is by which as much is final as by any. -/
theorem first_at {l : List Vo} (h0 : finIn (shown l) ≠ 0) : ∃ i : Nat, (allS l)[i]? = some (shown l) := by
  obtain ⟨i, hi⟩ := List.mem_iff_getElem?.1 (shown_mem l)
  exact ⟨i, hi⟩
theorem certBs_eq {l : List Vo} (hV : VotesOk l) (c : List It) : certBs l c = (certIn l c).b := by
  have : ∀ d, votesFor l d = voters l d := fun d => by unfold votesFor; rw [tb_pos hV]; rfl
  simp only [certBs, certIn, this]
theorem mq_of {P : Program} {f : Nat} {S : MSpec} {fr : Env} {H : Hp} {nm rm : Nat} {K : KV} {xs : List (X × List (Option Nat))} {ar : List AV} {Q0 : Prop} {c : List It} {bs : List (List Int)} {Q1 : Prop} (hv : ValidM P f S) (hl : rm + S.cost ≤ LIM) (ha : nrmArgs fr xs = ar) (hr : ar.map (AV.ren (nmapS S.st [] nm)) = ar) (hpre : S.pre ar [])
    (hpost : ∀ r obs', S.post ar [] r obs' → (Q0 ∧ r = ceN ∧ obs' = []) ∨ (Q1 ∧ r = ceP c 0 true ∧ obs' = [some (bsO bs)]))
    (hK0 : Q0 → K ceN H (rm + S.cost)) (hK : Q1 → K (ceP c nm true) (hupd nm (some (bsO bs)) H) (rm + S.cost)) : MQ P nm fr H rm K f S xs := by
  refine ⟨⟨hv, hl, [], ar, [], by simp, rfl, fun i k' h => by simp at h, by rw [ha, hr], hpre, fun r obs' hp _ _ => ?_⟩⟩
  rcases hpost r obs' hp with ⟨h0, rfl, rfl⟩ | ⟨h1, rfl, rfl⟩
  · exact hK0 h0
  · have e := hK h1
    show K (.tup [.g [.c (chF c), .ow (nmapS S.st [] nm 0)], .o (cB true)]) (hupd (nmapS S.st [] nm 0) (some ((bsO bs).ren _)) H) _
    rw [arr_ren, show nmapS S.st [] nm 0 = nm from nmap_next (ks := [])]
    exact e
set_option maxHeartbeats 4000000 in
set_option maxRecDepth 100000 in
theorem v_spec_CertOf : ValidM Try.prog n_spec_CertOf S_spec_CertOf := by
  refine validM_of_swp mixed is_spec_CertOf (by rintro _ _ ⟨a, rfl, _⟩; exact Nat.le_of_ble_eq_true rfl) ?_
  rintro _ _ rm ⟨l, rfl, rfl, hpre⟩ hl
  try dsimp only at hpre
  change swp _ _ _ _ _ 0 _
  obtain ⟨hp1, hp2⟩ := hpre
  have cc_spec_CertOf : S_spec_CertOf.cost = 0 := rfl
  have cc_spec_l13Of : S_spec_l13Of.cost = 0 := rfl
  have cc_spec_VotesOk : S_spec_VotesOk.cost = 0 := rfl
  have cc_spec_l11All : S_spec_l11All.cost = 0 := rfl
  have cc_spec_l11Final : S_spec_l11Final.cost = 0 := rfl
  have cc_spec_l11FinalIn : S_spec_l11FinalIn.cost = 0 := rfl
  have cc1 : S_spec_CertOf.cost = 0 := rfl
  have cc2 : S_spec_l13Of.cost = 0 := rfl
  by_cases hV : VotesOk l
  · have hlen : (allM l).length ≤ LIM := by have := allM_len l; omega
    have hfs := allM_fits hp1
    rw [allM_eq hV] at hlen hfs
    have eF : (finM l).length = finIn (shown l) := by rw [finM_eq hV, fin_len]
    have eA := allM_eq hV
    repeat' ((conv => whnf); first
      | refine ⟨_, rfl, ?_⟩
      | refine ⟨rfl, ?_⟩
      | refine ⟨_, _, rfl, at_map (by assumption), ?_⟩
      | refine idx_mapX (i := 0) rfl (by assumption) ?_
      | refine idx_map (by omega) (fun x hx => ?_)
      | refine idx_mapX (wrap_dn (by omega) (by omega)) (by assumption) ?_
      | refine idx_mapE (wrap_dn (by omega) (by omega)) (by omega) (fun x hx => ?_)
      | refine idx_mapL (by omega) (by first | assumption | (simp only [LIM]; omega)) (fun x hx => ?_)
      | refine idx_mapI (by omega) (by first | omega | (simp only [List.length_map] at *; omega)) (fun x hx => ?_)
      | refine ⟨_, ldc_cells hupd_at (Nat.le_of_ble_eq_true rfl), ?_⟩
      | refine ⟨_, ldc_cells (by first | assumption | exact zk ‹_› (by omega) | exact zk (zk ‹_› (by omega)) (by omega)) (Nat.le_of_ble_eq_true rfl), ?_⟩
      | refine ⟨_, _, hupd_at, rfl, rfl, Nat.le_of_ble_eq_true rfl, ?_⟩
      | refine ⟨_, _, rfl, rfl, rfl, Nat.le_of_ble_eq_true rfl, ?_⟩
      | (refine ⟨?_, _, (?_ : (_ : Option Ob) = _), rfl, rfl, ?_, ?_⟩; rotate_left; (exact hk_); exact Nat.le_of_ble_eq_true rfl)
      | refine ⟨_, _, _, _, ((by exact hk_) : (_ : Option Ob) = _), rfl, at_mapA (by assumption), ?_⟩
      | refine idx_ow (by exact hk_) (by omega) (fun x hx => ?_)
      | refine ⟨_, _, _, _, ((by exact hk_) : (_ : Option Ob) = _), rfl, fill_at (by omega), ?_⟩
      | refine ⟨_, _, _, _, ((by exact hk_) : (_ : Option Ob) = _), fill_at (by omega), rfl, rfl, Nat.le_of_ble_eq_true rfl, ?_⟩
      | refine idx_owL (by exact hk_) (by omega) (by simp only [LIM]; omega) (fun x hx => ?_)
      | refine idx_owI (by exact hk_) (by omega) (by first | omega | (simp only [List.length_map] at *; omega)) (fun x hx => ?_)
      | refine ⟨_, _, _, _, ((by exact hk_) : (_ : Option Ob) = _), at_mapA (by assumption), rfl, rfl, Nat.le_of_ble_eq_true rfl, ?_⟩
      | refine ⟨_, ldc_pa (by exact hk_) (at_mapA (by assumption)) (Nat.le_of_ble_eq_true rfl), ?_⟩
      | refine ⟨_, _, _, ((by exact hk_) : (_ : Option Ob) = _), ?_⟩
      | refine ⟨_, ((by exact hk_) : (_ : Option Ob) = _), ?_⟩
      | (refine ⟨fun hc => ?_, fun hc => ?_⟩ <;> (try simp (disch := omega) only [List.length_map, wrap64] at hc) <;> (try (exfalso; first | contradiction | omega)))
      | (refine callt (b := [one (vsF _)]) v_spec_VotesOk rfl ⟨_, rfl, (by exact pr_)⟩ (.inl rfl) (by first | assumption | omega) (fun r hr => K_spec_VotesOk (a := _) hr) (fun hj => ?_) (fun hj => ?_) <;> (try simp only [etaPa, etaIt, etaVo] at hj) <;> (try contradiction))
      | (refine calle (b := [one (vsF _)]) v_spec_l11All rfl ⟨_, rfl, (by refine ⟨?_, ?_⟩ <;> (exact pr_))⟩ (.inl rfl) (by first | assumption | omega) (fun r hr => K_spec_l11All (a := _) hr) ?_)
      | (refine calle (b := [one (vsF _)]) v_spec_l11Final rfl ⟨_, rfl, (by refine ⟨?_, ?_⟩ <;> (exact pr_))⟩ (.inl rfl) (by first | assumption | omega) (fun r hr => K_spec_l11Final (a := _) hr) ?_)
      | fail)
    rw [eA]
    conv => whnf
    refine ⟨fun fr H nx r2 => ∃ i : Nat, Has fr [(0, one (vsF l)), (2, .w (.o (.ptr 0 0))), (4, one (csF (allS l))), (5, I (finIn (shown l))), (6, I i)] ∧ i ≤ (allS l).length ∧ H 0 = some (.cells [.e0, .e0]) ∧ (∀ (j : Nat) x, j < i → (allS l)[j]? = some x → finIn (shown l) ≠ 0 → finIn x ≠ finIn (shown l)) ∧ 1 ≤ nx ∧ r2 = rm,
      fun fr _ _ _ => (allS l).length - ix (fr 6), ⟨0, ⟨rfl, rfl, rfl, (show I _ = I _ by rw [List.length_map, eF]), rfl, trivial⟩, Nat.zero_le _, hk_, (by intro j x h; omega), ln_, rfl⟩, ?_⟩
    rintro fr H nx r2 ⟨i, hfr, hi, hH, hq, hnx, rfl⟩
    rw [hfr.eq]
    rcases Nat.lt_or_ge i (allS l).length with hi' | hi'
    · obtain ⟨x, hx⟩ : ∃ x, (allS l)[i]? = some x := ⟨_, List.getElem?_eq_getElem hi'⟩
      have hxl := hfs x (List.mem_of_getElem? hx)
      by_cases hm : finIn x = finIn (shown l) ∧ finIn (shown l) ≠ 0
      · have e1 : certB l = true := certB_iff.2 ⟨hV, hm.2⟩
        have ex : x = shown l := shown_first hm.2 hx hm.1 (fun j y hj hy => hq j y hj hy hm.2)
        have e2 := certOf_yes e1
        subst ex
        repeat' ((conv => whnf); first
          | refine ⟨_, _, rfl, at_map hx, ?_⟩
          | (refine mq_of (Q0 := finIn (shown l) = 0) (Q1 := finIn (shown l) ≠ 0) (c := (shown l).take (finIn (shown l) + 1)) (bs := certBs l (shown l)) v_spec_l13Of (by omega) rfl rfl ⟨(l, shown l), rfl, rfl, hp1, hxl⟩ (fun r obs' h => K_spec_l13Of h) (fun h => absurd h hm.2) (fun h => ?_))
          | (exact finM_ceP (c := (shown l).take (finIn (shown l) + 1)) (bs := certBs l (shown l)) (by first | exact Nat.le_refl _ | omega) hk_ ⟨⟨_, rfl, .inl rfl⟩, ⟨_, rfl, .inl rfl⟩, trivial⟩ ⟨l, rfl, rfl, .inr ⟨e1, (by rw [e2]; rfl), (by rw [e2, ← certBs_eq hV])⟩⟩)
          | refine ⟨_, rfl, ?_⟩
          | refine ⟨rfl, ?_⟩
          | refine ⟨_, _, rfl, at_map (by assumption), ?_⟩
          | refine idx_mapX (i := 0) rfl (by assumption) ?_
          | refine idx_map (by omega) (fun x hx => ?_)
          | refine idx_mapX (wrap_dn (by omega) (by omega)) (by assumption) ?_
          | refine idx_mapE (wrap_dn (by omega) (by omega)) (by omega) (fun x hx => ?_)
          | refine idx_mapL (by omega) (by first | assumption | (simp only [LIM]; omega)) (fun x hx => ?_)
          | refine idx_mapI (by omega) (by first | omega | (simp only [List.length_map] at *; omega)) (fun x hx => ?_)
          | refine ⟨_, ldc_cells hupd_at (Nat.le_of_ble_eq_true rfl), ?_⟩
          | refine ⟨_, ldc_cells (by first | assumption | exact zk ‹_› (by omega) | exact zk (zk ‹_› (by omega)) (by omega)) (Nat.le_of_ble_eq_true rfl), ?_⟩
          | refine ⟨_, _, hupd_at, rfl, rfl, Nat.le_of_ble_eq_true rfl, ?_⟩
          | refine ⟨_, _, rfl, rfl, rfl, Nat.le_of_ble_eq_true rfl, ?_⟩
          | (refine ⟨?_, _, (?_ : (_ : Option Ob) = _), rfl, rfl, ?_, ?_⟩; rotate_left; (exact hk_); exact Nat.le_of_ble_eq_true rfl)
          | refine ⟨_, _, _, _, ((by exact hk_) : (_ : Option Ob) = _), rfl, at_mapA (by assumption), ?_⟩
          | refine idx_ow (by exact hk_) (by omega) (fun x hx => ?_)
          | refine ⟨_, _, _, _, ((by exact hk_) : (_ : Option Ob) = _), rfl, fill_at (by omega), ?_⟩
          | refine ⟨_, _, _, _, ((by exact hk_) : (_ : Option Ob) = _), fill_at (by omega), rfl, rfl, Nat.le_of_ble_eq_true rfl, ?_⟩
          | refine idx_owL (by exact hk_) (by omega) (by simp only [LIM]; omega) (fun x hx => ?_)
          | refine idx_owI (by exact hk_) (by omega) (by first | omega | (simp only [List.length_map] at *; omega)) (fun x hx => ?_)
          | refine ⟨_, _, _, _, ((by exact hk_) : (_ : Option Ob) = _), at_mapA (by assumption), rfl, rfl, Nat.le_of_ble_eq_true rfl, ?_⟩
          | refine ⟨_, ldc_pa (by exact hk_) (at_mapA (by assumption)) (Nat.le_of_ble_eq_true rfl), ?_⟩
          | refine ⟨_, _, _, ((by exact hk_) : (_ : Option Ob) = _), ?_⟩
          | refine ⟨_, ((by exact hk_) : (_ : Option Ob) = _), ?_⟩
          | (refine ⟨fun hc => ?_, fun hc => ?_⟩ <;> (try simp (disch := omega) only [List.length_map, wrap64] at hc) <;> (try (exfalso; first | contradiction | omega)))
          | (refine calle (b := [one (chF _)]) v_spec_l11FinalIn rfl ⟨_, rfl, (by exact pr_)⟩ (.inl rfl) (by first | assumption | omega) (fun r hr => K_spec_l11FinalIn (a := _) hr) ?_)
          | fail)
      · skip
        repeat' ((conv => whnf); first
          | refine ⟨_, _, rfl, at_map hx, ?_⟩
          | refine ⟨_, rfl, ?_⟩
          | refine ⟨rfl, ?_⟩
          | refine ⟨_, _, rfl, at_map (by assumption), ?_⟩
          | refine idx_mapX (i := 0) rfl (by assumption) ?_
          | refine idx_map (by omega) (fun x hx => ?_)
          | refine idx_mapX (wrap_dn (by omega) (by omega)) (by assumption) ?_
          | refine idx_mapE (wrap_dn (by omega) (by omega)) (by omega) (fun x hx => ?_)
          | refine idx_mapL (by omega) (by first | assumption | (simp only [LIM]; omega)) (fun x hx => ?_)
          | refine idx_mapI (by omega) (by first | omega | (simp only [List.length_map] at *; omega)) (fun x hx => ?_)
          | refine ⟨_, ldc_cells hupd_at (Nat.le_of_ble_eq_true rfl), ?_⟩
          | refine ⟨_, ldc_cells (by first | assumption | exact zk ‹_› (by omega) | exact zk (zk ‹_› (by omega)) (by omega)) (Nat.le_of_ble_eq_true rfl), ?_⟩
          | refine ⟨_, _, hupd_at, rfl, rfl, Nat.le_of_ble_eq_true rfl, ?_⟩
          | refine ⟨_, _, rfl, rfl, rfl, Nat.le_of_ble_eq_true rfl, ?_⟩
          | (refine ⟨?_, _, (?_ : (_ : Option Ob) = _), rfl, rfl, ?_, ?_⟩; rotate_left; (exact hk_); exact Nat.le_of_ble_eq_true rfl)
          | refine ⟨_, _, _, _, ((by exact hk_) : (_ : Option Ob) = _), rfl, at_mapA (by assumption), ?_⟩
          | refine idx_ow (by exact hk_) (by omega) (fun x hx => ?_)
          | refine ⟨_, _, _, _, ((by exact hk_) : (_ : Option Ob) = _), rfl, fill_at (by omega), ?_⟩
          | refine ⟨_, _, _, _, ((by exact hk_) : (_ : Option Ob) = _), fill_at (by omega), rfl, rfl, Nat.le_of_ble_eq_true rfl, ?_⟩
          | refine idx_owL (by exact hk_) (by omega) (by simp only [LIM]; omega) (fun x hx => ?_)
          | refine idx_owI (by exact hk_) (by omega) (by first | omega | (simp only [List.length_map] at *; omega)) (fun x hx => ?_)
          | refine ⟨_, _, _, _, ((by exact hk_) : (_ : Option Ob) = _), at_mapA (by assumption), rfl, rfl, Nat.le_of_ble_eq_true rfl, ?_⟩
          | refine ⟨_, ldc_pa (by exact hk_) (at_mapA (by assumption)) (Nat.le_of_ble_eq_true rfl), ?_⟩
          | refine ⟨_, _, _, ((by exact hk_) : (_ : Option Ob) = _), ?_⟩
          | refine ⟨_, ((by exact hk_) : (_ : Option Ob) = _), ?_⟩
          | (refine ⟨fun hc => ?_, fun hc => ?_⟩ <;> (try simp (disch := omega) only [List.length_map, wrap64] at hc) <;> (try (exfalso; first | contradiction | omega)))
          | (refine calle (b := [one (chF _)]) v_spec_l11FinalIn rfl ⟨_, rfl, (by exact pr_)⟩ (.inl rfl) (by first | assumption | omega) (fun r hr => K_spec_l11FinalIn (a := _) hr) ?_)
          | (exfalso; exact hm ⟨by omega, by omega⟩)
          | (refine ⟨⟨i + 1, ⟨rfl, rfl, rfl, rfl, congrArg I (wrap_up (n := (allS l).length) (by omega) hlen), trivial⟩, by omega, hk_, (by intro j y hj hy h; rcases Nat.lt_or_ge j i with h1 | h1; exact hq j y h1 hy h; rw [show j = i from by omega, hx] at hy; cases hy; exact fun e => hm ⟨e, h⟩), ln_, (by omega)⟩, (by show (allS l).length - ix (I _) < (allS l).length - ix (I _); simp only [wrap_up (n := (allS l).length) (i := i) (by omega) hlen, ix, Int.toNat_natCast]; omega)⟩)
          | fail)
    · have e1 : certB l = false := by
        cases hB : certB l with
        | false => rfl
        | true =>
          have h0 := (certB_iff.1 hB).2
          obtain ⟨j, hj⟩ := first_at h0
          exact absurd rfl (hq j _ (by have := (List.getElem?_eq_some_iff.1 hj).1; omega) hj h0)
      repeat' ((conv => whnf); first
        | (exact finM_ceN (by first | exact Nat.le_refl _ | omega) ⟨⟨_, rfl, .inl rfl⟩, ⟨_, rfl, .inl rfl⟩, trivial⟩ ⟨l, rfl, rfl, .inl ⟨e1, rfl, rfl⟩⟩)
        | refine ⟨_, rfl, ?_⟩
        | refine ⟨rfl, ?_⟩
        | refine ⟨_, _, rfl, at_map (by assumption), ?_⟩
        | refine idx_mapX (i := 0) rfl (by assumption) ?_
        | refine idx_map (by omega) (fun x hx => ?_)
        | refine idx_mapX (wrap_dn (by omega) (by omega)) (by assumption) ?_
        | refine idx_mapE (wrap_dn (by omega) (by omega)) (by omega) (fun x hx => ?_)
        | refine idx_mapL (by omega) (by first | assumption | (simp only [LIM]; omega)) (fun x hx => ?_)
        | refine idx_mapI (by omega) (by first | omega | (simp only [List.length_map] at *; omega)) (fun x hx => ?_)
        | refine ⟨_, ldc_cells hupd_at (Nat.le_of_ble_eq_true rfl), ?_⟩
        | refine ⟨_, ldc_cells (by first | assumption | exact zk ‹_› (by omega) | exact zk (zk ‹_› (by omega)) (by omega)) (Nat.le_of_ble_eq_true rfl), ?_⟩
        | refine ⟨_, _, hupd_at, rfl, rfl, Nat.le_of_ble_eq_true rfl, ?_⟩
        | refine ⟨_, _, rfl, rfl, rfl, Nat.le_of_ble_eq_true rfl, ?_⟩
        | (refine ⟨?_, _, (?_ : (_ : Option Ob) = _), rfl, rfl, ?_, ?_⟩; rotate_left; (exact hk_); exact Nat.le_of_ble_eq_true rfl)
        | refine ⟨_, _, _, _, ((by exact hk_) : (_ : Option Ob) = _), rfl, at_mapA (by assumption), ?_⟩
        | refine idx_ow (by exact hk_) (by omega) (fun x hx => ?_)
        | refine ⟨_, _, _, _, ((by exact hk_) : (_ : Option Ob) = _), rfl, fill_at (by omega), ?_⟩
        | refine ⟨_, _, _, _, ((by exact hk_) : (_ : Option Ob) = _), fill_at (by omega), rfl, rfl, Nat.le_of_ble_eq_true rfl, ?_⟩
        | refine idx_owL (by exact hk_) (by omega) (by simp only [LIM]; omega) (fun x hx => ?_)
        | refine idx_owI (by exact hk_) (by omega) (by first | omega | (simp only [List.length_map] at *; omega)) (fun x hx => ?_)
        | refine ⟨_, _, _, _, ((by exact hk_) : (_ : Option Ob) = _), at_mapA (by assumption), rfl, rfl, Nat.le_of_ble_eq_true rfl, ?_⟩
        | refine ⟨_, ldc_pa (by exact hk_) (at_mapA (by assumption)) (Nat.le_of_ble_eq_true rfl), ?_⟩
        | refine ⟨_, _, _, ((by exact hk_) : (_ : Option Ob) = _), ?_⟩
        | refine ⟨_, ((by exact hk_) : (_ : Option Ob) = _), ?_⟩
        | (refine ⟨fun hc => ?_, fun hc => ?_⟩ <;> (try simp (disch := omega) only [List.length_map, wrap64] at hc) <;> (try (exfalso; first | contradiction | omega)))
        | fail)
  · have e1 : certB l = false := tb_neg fun h => hV h.1
    repeat' ((conv => whnf); first
      | (exact finM_ceN (by first | exact Nat.le_refl _ | omega) ⟨⟨_, rfl, .inl rfl⟩, ⟨_, rfl, .inl rfl⟩, trivial⟩ ⟨l, rfl, rfl, .inl ⟨e1, rfl, rfl⟩⟩)
      | refine ⟨_, rfl, ?_⟩
      | refine ⟨rfl, ?_⟩
      | refine ⟨_, _, rfl, at_map (by assumption), ?_⟩
      | refine idx_mapX (i := 0) rfl (by assumption) ?_
      | refine idx_map (by omega) (fun x hx => ?_)
      | refine idx_mapX (wrap_dn (by omega) (by omega)) (by assumption) ?_
      | refine idx_mapE (wrap_dn (by omega) (by omega)) (by omega) (fun x hx => ?_)
      | refine idx_mapL (by omega) (by first | assumption | (simp only [LIM]; omega)) (fun x hx => ?_)
      | refine idx_mapI (by omega) (by first | omega | (simp only [List.length_map] at *; omega)) (fun x hx => ?_)
      | refine ⟨_, ldc_cells hupd_at (Nat.le_of_ble_eq_true rfl), ?_⟩
      | refine ⟨_, ldc_cells (by first | assumption | exact zk ‹_› (by omega) | exact zk (zk ‹_› (by omega)) (by omega)) (Nat.le_of_ble_eq_true rfl), ?_⟩
      | refine ⟨_, _, hupd_at, rfl, rfl, Nat.le_of_ble_eq_true rfl, ?_⟩
      | refine ⟨_, _, rfl, rfl, rfl, Nat.le_of_ble_eq_true rfl, ?_⟩
      | (refine ⟨?_, _, (?_ : (_ : Option Ob) = _), rfl, rfl, ?_, ?_⟩; rotate_left; (exact hk_); exact Nat.le_of_ble_eq_true rfl)
      | refine ⟨_, _, _, _, ((by exact hk_) : (_ : Option Ob) = _), rfl, at_mapA (by assumption), ?_⟩
      | refine idx_ow (by exact hk_) (by omega) (fun x hx => ?_)
      | refine ⟨_, _, _, _, ((by exact hk_) : (_ : Option Ob) = _), rfl, fill_at (by omega), ?_⟩
      | refine ⟨_, _, _, _, ((by exact hk_) : (_ : Option Ob) = _), fill_at (by omega), rfl, rfl, Nat.le_of_ble_eq_true rfl, ?_⟩
      | refine idx_owL (by exact hk_) (by omega) (by simp only [LIM]; omega) (fun x hx => ?_)
      | refine idx_owI (by exact hk_) (by omega) (by first | omega | (simp only [List.length_map] at *; omega)) (fun x hx => ?_)
      | refine ⟨_, _, _, _, ((by exact hk_) : (_ : Option Ob) = _), at_mapA (by assumption), rfl, rfl, Nat.le_of_ble_eq_true rfl, ?_⟩
      | refine ⟨_, ldc_pa (by exact hk_) (at_mapA (by assumption)) (Nat.le_of_ble_eq_true rfl), ?_⟩
      | refine ⟨_, _, _, ((by exact hk_) : (_ : Option Ob) = _), ?_⟩
      | refine ⟨_, ((by exact hk_) : (_ : Option Ob) = _), ?_⟩
      | (refine ⟨fun hc => ?_, fun hc => ?_⟩ <;> (try simp (disch := omega) only [List.length_map, wrap64] at hc) <;> (try (exfalso; first | contradiction | omega)))
      | (refine callt (b := [one (vsF _)]) v_spec_VotesOk rfl ⟨_, rfl, (by exact pr_)⟩ (.inl rfl) (by first | assumption | omega) (fun r hr => K_spec_VotesOk (a := _) hr) (fun hj => ?_) (fun hj => ?_) <;> (try simp only [etaPa, etaIt, etaVo] at hj) <;> (try contradiction))
      | fail)
end Av
end Go.Proofs.Ytdboofnogabefaa
/- The walks: a cert's votes, drawn certs. -/
namespace Go.Proofs.Ytdboofnogabefaa
namespace Av
open Go.RowKit
end Av
end Go.Proofs.Ytdboofnogabefaa
/- The walks: drawn certs. -/
namespace Go.Proofs.Ytdboofnogabefaa
namespace Av
open Go.RowKit
theorem certOf_small {l : List Vo} (h : certB l = true) : (certOf l).c.length ≤ 16 ∧ (certOf l).b.length = 3 ∧ ∀ x, x ∈ (certOf l).b → x.length ≤ 4 := by
  have hok := certOf_ok h
  refine ⟨hok.1.2, hok.2.2.2.1, fun b hb => ?_⟩
  have hv := hok.2.2.2.2 b hb
  show _ ≤ ([1, 2, 3, 4] : List Int).length
  refine List.Nodup.length_le_of_subset (asc_nodup (asc_vt hv)) fun n hn => ?_
  have := vt_in hv hn
  obtain ⟨q1, q2⟩ := this
  have : n = 1 ∨ n = 2 ∨ n = 3 ∨ n = 4 := by omega
  simpa using this
end Av
end Go.Proofs.Ytdboofnogabefaa
