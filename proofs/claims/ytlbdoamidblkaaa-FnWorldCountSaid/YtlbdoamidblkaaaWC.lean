/- The walks: the program's worlds, written. -/
import Derived.Test.YtlbdoamidblkaaaWB
import Derived.Test.YtlbdoamidblkaaaJ46
import Derived.Test.YtlbdoamidblkaaaJ17
set_option linter.unusedVariables false
set_option linter.unusedSimpArgs false
namespace Go.Proofs.Ytlbdoamidblkaaa
namespace Av
open Go.RowKit
theorem arA_at {α : Type} {F : α → List FV} {l : List α} {i : Nat} {x : α} (h : l[i]? = some x) : (arA F l)[i]? = some ((F x).map AC.c) := by
  simp only [arA, List.getElem?_map, h, Option.map_some]
theorem arA_set {α : Type} {F : α → List FV} {l : List α} {i : Nat} {x : α} : (arA F l).set i ((F x).map AC.c) = arA F (l.set i x) := by
  simp only [arA, List.map_set]
theorem put_all {a b : List AC} (h : a.length = b.length) : put a 0 b = b := by
  unfold put
  rw [List.take_zero, List.drop_eq_nil_of_le (by omega)]; simp
theorem nd4 {n m : Nd} : put ((ndF n).map AC.c) 0 ((ndF m).map AC.c) = (ndF m).map AC.c := put_all rfl
/-- Some done, the others not yet. -/
def partL {α : Type} (f : α → α) (l : List α) (i : Nat) : List α := (l.map f).take i ++ l.drop i
theorem partL_0 {α : Type} {f : α → α} {l : List α} : partL f l 0 = l := by simp [partL]
theorem partL_end {α : Type} {f : α → α} {l : List α} {i : Nat} (h : l.length ≤ i) : partL f l i = l.map f := by
  unfold partL
  rw [List.drop_eq_nil_of_le h, List.append_nil, List.take_of_length_le (by simpa using h)]
theorem partL_at {α : Type} {f : α → α} {l : List α} {i : Nat} {x : α} (h : l[i]? = some x) : (partL f l i)[i]? = some x := by
  have hi := (List.getElem?_eq_some_iff.1 h).1
  unfold partL
  rw [List.getElem?_append_right (by simp; omega), List.length_take, List.length_map, Nat.min_eq_left (Nat.le_of_lt hi), Nat.sub_self, List.getElem?_drop, Nat.add_zero]
  exact h
theorem partL_step {α : Type} {f : α → α} {l : List α} {i : Nat} {x : α} (h : l[i]? = some x) : (partL f l i).set i (f x) = partL f l (i + 1) := by
  have hi := (List.getElem?_eq_some_iff.1 h).1
  have hl : ((l.map f).take i).length = i := by simp; omega
  unfold partL
  rw [List.set_append_right _ _ (by omega), hl, Nat.sub_self, List.drop_eq_getElem_cons hi, List.set_cons_zero, List.take_add_one, List.getElem?_map, h, List.append_assoc]
  rfl
attribute [local irreducible] Valid ValidM
set_option maxHeartbeats 4000000 in
set_option maxRecDepth 100000 in
theorem v_impl_World_honest : ValidM Try.prog n_impl_World_honest S_impl_World_honest := by
  refine validM_of_swp mixed is_impl_World_honest (by rintro _ _ ⟨a, rfl, _⟩; exact Nat.le_of_ble_eq_true rfl) ?_
  rintro _ _ rm ⟨⟨w, k⟩, rfl, rfl, hpre⟩ hl
  try dsimp only at hpre
  change swp _ _ _ _ _ 2 _
  dsimp only
  obtain ⟨hl4, hsb⟩ := hpre
  have hl80 : w.log.length ≤ 80 := hsb.1
  have hlL : w.log.length ≤ LIM := Nat.le_trans hl80 (by decide)
  by_cases hh : HonW w k
  · obtain ⟨h1, h2, h3⟩ := id hh
    obtain ⟨h11, h12⟩ := id h1
    have e : honR w k = .w (.o (.pa 1 4 (k - 1).toNat 0)) := by unfold honR; rw [tb_pos hh]; rfl
    obtain ⟨n, hn⟩ : ∃ n, w.nodes[(k - 1).toNat]? = some n := ⟨_, List.getElem?_eq_getElem (by omega)⟩
    have hw : IntKind.i64.wrap (k - 1) = (((k - 1).toNat : Nat) : Int) := by rw [wrap64 (by omega) (by omega)]; omega
    repeat' ((conv => whnf); first
      | refine ⟨_, _, (k - 1).toNat, _, hk_, hw, arA_at hn, ?_⟩
      | refine ⟨_, rfl, ?_⟩
      | refine ⟨rfl, ?_⟩
      | (refine ⟨fun hc => ?_, fun hc => ?_⟩ <;> (try simp (disch := omega) only [List.length_map, wrap64] at hc) <;> (try (exfalso; first | contradiction | omega)))
      | (refine callt (b := [I _]) v_impl_nodeOk rfl ⟨_, rfl, (by exact True.intro)⟩ (.inl rfl) (by first | assumption | omega) (fun r hr => K_impl_nodeOk (a := _) hr) (fun hj => ?_) (fun hj => ?_) <;> (try simp only [etaPa, etaIt, etaVo] at hj) <;> (try contradiction))
      | fail)
    exact finM_I (w' := w) (r0 := honR w k) (az := [.o (.pa 1 4 (k - 1).toNat 0)]) (Nat.le_add_right _ _) hk_ hk_ ⟨⟨_, rfl, .inl rfl⟩, trivial⟩ (by rw [e]; rfl) ⟨(w, k), rfl, rfl, rfl, rfl⟩
  · have e : honR w k = .w (.o (.c (.v (.pointer none)))) := by unfold honR; rw [tb_neg hh]; rfl
    unfold HonW at hh
    repeat' ((conv => whnf); first
      | refine ⟨_, rfl, ?_⟩
      | refine ⟨rfl, ?_⟩
      | (refine ⟨fun hc => ?_, fun hc => ?_⟩ <;> (try simp (disch := omega) only [List.length_map, wrap64] at hc) <;> (try (exfalso; first | contradiction | omega)))
      | (refine callt (b := [I _]) v_impl_nodeOk rfl ⟨_, rfl, (by exact True.intro)⟩ (.inl rfl) (by first | assumption | omega) (fun r hr => K_impl_nodeOk (a := _) hr) (fun hj => ?_) (fun hj => ?_) <;> (try simp only [etaPa, etaIt, etaVo] at hj) <;> (try contradiction))
      | fail)
    all_goals first
      | exact absurd ⟨by assumption, by assumption, by omega⟩ hh
      | exact finM_I (w' := w) (r0 := honR w k) (az := [.o (.c (.v (.pointer none)))]) (Nat.le_add_right _ _) hk_ hk_ ⟨⟨_, rfl, .inl rfl⟩, trivial⟩ (by rw [e]; rfl) ⟨(w, k), rfl, rfl, rfl, rfl⟩
set_option maxHeartbeats 4000000 in
set_option maxRecDepth 100000 in
theorem v_impl_World_send : ValidM Try.prog n_impl_World_send S_impl_World_send := by
  refine validM_of_swp mixed is_impl_World_send (by rintro _ _ ⟨a, rfl, _⟩; exact Nat.le_of_ble_eq_true rfl) ?_
  rintro _ _ rm ⟨⟨w, v⟩, rfl, rfl, hpre⟩ hl
  try dsimp only at hpre
  change swp _ _ _ _ _ 2 _
  dsimp only
  obtain ⟨hsb, hfv⟩ := hpre
  have hl80 : w.log.length ≤ 80 := hsb.1
  have hfl : FitVs w.log := hsb.fit
  have hlt : w.log.length < LIM := hsb.lt
  have hlL : w.log.length ≤ LIM := hfl.1
  by_cases hm : v ∈ w.log
  · have e : sendW w v true = w := by
      unfold sendW
      split
      · rw [addV_in hm]
      · rfl
    repeat' ((conv => whnf); first
      | refine ⟨_, rfl, ?_⟩
      | (refine callt (b := [one (vsF _), agg (voF ⟨_, _⟩)]) v_impl_votes_has rfl ⟨(_, ⟨_, _⟩), rfl, (by refine ⟨?_, ?_⟩ <;> (exact pr_))⟩ (.inl rfl) (by first | assumption | omega) (fun r hr => K_impl_votes_has (a := (_, ⟨_, _⟩)) hr) (fun hj => ?_) (fun hj => ?_) <;> (try simp only [etaPa, etaIt, etaVo] at hj) <;> (try contradiction))
      | fail)
    exact finM_I (w' := sendW w v true) (r0 := .tup []) (az := []) (Nat.le_add_right _ _) (by rw [e]; exact hk_) (by rw [e]; exact hk_) trivial rfl ⟨(w, v), rfl, rfl, rfl, rfl⟩
  · by_cases h8 : w.log.length < 80
    · have e : sendW w v true = ⟨w.ep, w.nodes, w.log ++ [v], w.bad⟩ := by
        unfold sendW
        rw [if_pos ⟨rfl, h8⟩, addV_new hm]
      repeat' ((conv => whnf); first
        | refine ⟨_, rfl, ?_⟩
        | refine ⟨rfl, ?_⟩
        | refine ⟨_, _, rfl, rfl, rfl, Nat.le_of_ble_eq_true rfl, ?_⟩
        | (refine ⟨fun hc => ?_, fun hc => ?_⟩ <;> (try simp (disch := omega) only [List.length_map, wrap64] at hc) <;> (try (exfalso; first | contradiction | omega)))
        | (refine callt (b := [one (vsF _), agg (voF ⟨_, _⟩)]) v_impl_votes_has rfl ⟨(_, ⟨_, _⟩), rfl, (by refine ⟨?_, ?_⟩ <;> (exact pr_))⟩ (.inl rfl) (by first | assumption | omega) (fun r hr => K_impl_votes_has (a := (_, ⟨_, _⟩)) hr) (fun hj => ?_) (fun hj => ?_) <;> (try simp only [etaPa, etaIt, etaVo] at hj) <;> (try contradiction))
        | (refine calle (b := [one (vsF _), agg (voF ⟨_, _⟩)]) v_impl_votes_with rfl ⟨(_, ⟨_, _⟩), rfl, (by refine ⟨?_, ?_, ?_⟩ <;> (exact pr_))⟩ (.inl rfl) (by first | assumption | omega) (fun r hr => K_impl_votes_with (a := (_, ⟨_, _⟩)) hr) ?_)
        | fail)
      exact finM_I (w' := sendW w v true) (r0 := .tup []) (az := []) (Nat.le_add_right _ _) (by rw [e]; exact hk_) (by rw [e]; exact hk_) trivial rfl ⟨(w, v), rfl, rfl, rfl, rfl⟩
    · have e : sendW w v true = w := by unfold sendW; rw [if_neg fun h => h8 h.2]
      repeat' ((conv => whnf); first
        | refine ⟨_, rfl, ?_⟩
        | refine ⟨rfl, ?_⟩
        | (refine ⟨fun hc => ?_, fun hc => ?_⟩ <;> (try simp (disch := omega) only [List.length_map, wrap64] at hc) <;> (try (exfalso; first | contradiction | omega)))
        | (refine callt (b := [one (vsF _), agg (voF ⟨_, _⟩)]) v_impl_votes_has rfl ⟨(_, ⟨_, _⟩), rfl, (by refine ⟨?_, ?_⟩ <;> (exact pr_))⟩ (.inl rfl) (by first | assumption | omega) (fun r hr => K_impl_votes_has (a := (_, ⟨_, _⟩)) hr) (fun hj => ?_) (fun hj => ?_) <;> (try simp only [etaPa, etaIt, etaVo] at hj) <;> (try contradiction))
        | fail)
      exact finM_I (w' := sendW w v true) (r0 := .tup []) (az := []) (Nat.le_add_right _ _) (by rw [e]; exact hk_) (by rw [e]; exact hk_) trivial rfl ⟨(w, v), rfl, rfl, rfl, rfl⟩
set_option maxHeartbeats 4000000 in
set_option maxRecDepth 100000 in
theorem v_impl_World_tick : ValidM Try.prog n_impl_World_tick S_impl_World_tick := by
  refine validM_of_swp mixed is_impl_World_tick (by rintro _ _ ⟨a, rfl, _⟩; exact Nat.le_of_ble_eq_true rfl) ?_
  rintro _ _ rm ⟨w, rfl, rfl, hpre⟩ hl
  try dsimp only at hpre
  change swp _ _ _ _ _ 2 _
  dsimp only
  have hJ := hpre
  obtain ⟨⟨he1, he2⟩, _, hl4, _, _⟩ := hJ.inv
  have hte : (if (30 : Int) < IntKind.i64.wrap (w.ep + 1) then 30 else IntKind.i64.wrap (w.ep + 1)) = tickE w := by
    rw [wrap64 (by omega) (by omega)]; rfl
  have hIe : In (tickE w) 0 30 := tickE_in ⟨he1, he2⟩
  obtain ⟨g, hg⟩ : ∃ g : Nd → Nd, g = fun n => entN n (tickE w) := ⟨_, rfl⟩
  repeat' ((conv => whnf); first
    | refine ⟨_, _, _, (hk_ : (_ : Option Ob) = _), ?_⟩
    | refine ⟨_, rfl, ?_⟩
    | refine ⟨rfl, ?_⟩
    | refine ⟨_, _, rfl, rfl, rfl, Nat.le_of_ble_eq_true rfl, ?_⟩
    | fail)
  conv => whnf
  refine ⟨fun fr H nx rm' => ∃ i : Nat, Has fr [(0, pt0), (16, .w (.o (.ow 1))), (17, I w.nodes.length), (18, I i)] ∧ i ≤ w.nodes.length ∧ 2 ≤ nx ∧ H 0 = some (.cells (wiC ⟨tickE w, w.nodes, w.log, w.bad⟩ 1)) ∧ H 1 = some (.arr ty_impl_Node 4 (arA ndF (partL g w.nodes i))) ∧ rm' = rm,
    fun fr _ _ _ => w.nodes.length - ix (fr 18), ⟨0, ⟨rfl, rfl, congrArg (fun z : Nat => I (z : Int)) (by simp [arA]), rfl, trivial⟩, Nat.zero_le _, ln_, (by rw [← hte]; exact hk_), (by rw [partL_0]; exact hk_), rfl⟩, ?_⟩
  rintro fr H nx rm' ⟨i, hfr, hi, hnx, hH0, hH1, rfl⟩
  rw [hfr.eq]
  rcases Nat.lt_or_ge i w.nodes.length with hi' | hi'
  · obtain ⟨n, hn⟩ : ∃ n, w.nodes[i]? = some n := ⟨_, List.getElem?_eq_getElem hi'⟩
    have hne : In n.ep 0 30 := (hJ.nd i n hn).2.2.2.1
    have hp := partL_at (f := g) hn
    have hgn : entN n (tickE w) = g n := by rw [hg]
    repeat' ((conv => whnf); first
      | refine ⟨_, _, i, _, hk_, rfl, arA_at hp, ?_⟩
      | refine ⟨_, ldc_pa hk_ (arA_at hp) (Nat.le_of_ble_eq_true rfl), ?_⟩
      | refine ⟨_, _, _, _, (hk_ : (_ : Option Ob) = _), arA_at hp, rfl, rfl, Nat.le_of_ble_eq_true rfl, ?_⟩
      | refine ⟨rfl, ?_⟩
      | refine ⟨_, ldc_cells hupd_at (Nat.le_of_ble_eq_true rfl), ?_⟩
      | refine ⟨_, ldc_cells (by first | assumption | exact zk ‹_› (by omega) | exact zk (zk ‹_› (by omega)) (by omega)) (Nat.le_of_ble_eq_true rfl), ?_⟩
      | refine ⟨_, _, hupd_at, rfl, rfl, Nat.le_of_ble_eq_true rfl, ?_⟩
      | (refine ⟨fun hc => ?_, fun hc => ?_⟩ <;> (try simp (disch := omega) only [List.length_map, wrap64] at hc) <;> (try (exfalso; first | contradiction | omega)))
      | (refine calle (b := [agg (ndF ⟨_, _, _, _⟩), I _]) v_impl_Node_enter rfl ⟨(⟨_, _, _, _⟩, _), rfl, (by exact pr_)⟩ (.inl rfl) (by first | assumption | omega) (fun r hr => K_impl_Node_enter (a := (⟨_, _, _, _⟩, _)) hr) ?_)
      | fail)
    refine ⟨⟨i + 1, ⟨rfl, rfl, rfl, congrArg I (wrap_up (n := w.nodes.length) (by omega) (by rw [hl4]; decide)), trivial⟩, (by omega), (by omega), (by first | assumption | exact hk_), ?_, rfl⟩, ?_⟩
    · exact Eq.trans hk_ (congrArg (fun z => some (Ob.arr ty_impl_Node 4 z)) ((congrArg ((arA ndF (partL g w.nodes i)).set i) nd4).trans (arA_set.trans (congrArg (arA ndF) ((congrArg ((partL g w.nodes i).set i) hgn).trans (partL_step hn))))))
    · show w.nodes.length - ix (I _) < w.nodes.length - ix (I _)
      simp only [wrap_up (n := w.nodes.length) (i := i) (by omega) (by rw [hl4]; decide), ix, Int.toNat_natCast]
      omega
  · have hie : i = w.nodes.length := by omega
    repeat' ((conv => whnf); first
      | refine ⟨rfl, ?_⟩
      | (refine ⟨fun hc => ?_, fun hc => ?_⟩ <;> (try simp (disch := omega) only [List.length_map, wrap64] at hc) <;> (try (exfalso; first | contradiction | omega)))
      | fail)
    exact finM_I (w' := tickW w) (r0 := .tup []) (az := []) (Nat.le_add_right _ _) hH0 (by rw [hH1, partL_end (by omega), hg]; rfl) trivial rfl ⟨w, rfl, rfl, rfl, rfl⟩
set_option maxHeartbeats 4000000 in
set_option maxRecDepth 100000 in
theorem v_impl_World_propose : ValidM Try.prog n_impl_World_propose S_impl_World_propose := by
  refine validM_of_swp mixed is_impl_World_propose (by rintro _ _ ⟨a, rfl, _⟩; exact Nat.le_of_ble_eq_true rfl) ?_
  rintro _ _ rm ⟨⟨w, k, p⟩, rfl, rfl, hpre⟩ hl
  try dsimp only at hpre
  change swp _ _ _ _ _ 2 _
  dsimp only
  have hJ := hpre
  obtain ⟨_, _, hl4, hsb, _⟩ := hJ.inv
  have hst : S_impl_World_honest.st = 0 := rfl
  have c0 : S_impl_World_honest.cost = 0 := rfl
  have c1 : S_impl_World_send.cost = 0 := rfl
  have cc_impl_PayOk : S_impl_PayOk.cost = 0 := rfl
  have cc_impl_Node_propose : S_impl_Node_propose.cost = 0 := rfl
  have cc_impl_Node_hear : S_impl_Node_hear.cost = 0 := rfl
  have cc_impl_within : S_impl_within.cost = 0 := rfl
  by_cases hh : HonW w k
  · obtain ⟨h1, h2, h3⟩ := id hh
    obtain ⟨h11, h12⟩ := id h1
    have e : honR w k = .w (.o (.pa 1 4 (k - 1).toNat 0)) := by unfold honR; rw [tb_pos hh]; rfl
    obtain ⟨n, hn⟩ : ∃ n, w.nodes[(k - 1).toNat]? = some n := ⟨_, List.getElem?_eq_getElem (by omega)⟩
    have hnok : NodeOk n := (hJ.nd _ n hn).2.2
    by_cases hp : PayOk p
    · have e2 : propW w k p = sendW (setN w (k - 1).toNat (propN false n p).1) (propN false n p).2.1 (propN false n p).2.2 := by
        unfold propW; rw [tb_pos ⟨h1, h2, hp, h3⟩]
        show stepW w _ _ = _
        unfold stepW; rw [hn]
        show sendW (setN w _ (propN true n p).1) (propN true n p).2.1 (propN true n p).2.2 = _
        rw [propN_tf hnok.2.2.2.2.1]
      have hs := propN_b (b := false) (p := p) hnok.ndb.1 hnok.ndb.2.2
      obtain ⟨o, ho⟩ : ∃ o, propN false n p = o := ⟨_, rfl⟩
      rw [ho] at e2 hs
      obtain ⟨x, y, t⟩ := o
      have hfy : FitV y := Nat.le_trans hs.2.2.2.2 (by decide)
      skip
      refine mq_I (w := w) (w' := w) (r0 := honR w k) v_impl_World_honest rfl (by first | assumption | omega) hk_ hk_ rfl (fun _ => rfl) ⟨(w, k), rfl, rfl, hl4, hsb⟩ (fun r obs' h => K_impl_World_honest h) (fun ρ hρ => ?_)
      rw [e, show (AV.w (.o (.pa 1 4 (k - 1).toNat 0))).ren ρ = .w (.o (.pa 1 4 (k - 1).toNat 0)) from congrArg (fun z => AV.w (.o (.pa z 4 (k - 1).toNat 0))) hρ]
      rcases t with _ | _
      · have e3 : propW w k p = setN w (k - 1).toNat x := by rw [e2]; exact if_neg fun h => Bool.noConfusion h.1
        repeat' ((conv => whnf); first
          | refine ⟨_, ldc_pa hk_ (arA_at hn) (Nat.le_of_ble_eq_true rfl), ?_⟩
          | (refine calle (b := [agg (ndF n), agg (paF p)]) v_impl_Node_propose rfl ⟨(n, p), rfl, hnok⟩ (.inl rfl) (by first | assumption | omega) (fun r hr => (show r = trip (propN false n p) from K_impl_Node_propose (a := (n, p)) hr).trans (congrArg trip ho)) ?_)
          | refine ⟨_, _, _, _, (hk_ : (_ : Option Ob) = _), arA_at hn, rfl, rfl, Nat.le_of_ble_eq_true rfl, ?_⟩
          | refine ⟨_, rfl, ?_⟩
          | refine ⟨_, _, rfl, rfl, rfl, Nat.le_of_ble_eq_true rfl, ?_⟩
          | (refine callt (b := [agg (paF ⟨_, _, _⟩)]) v_impl_PayOk rfl ⟨⟨_, _, _⟩, rfl, (by exact True.intro)⟩ (.inl rfl) (by first | assumption | omega) (fun r hr => K_impl_PayOk (a := ⟨_, _, _⟩) hr) (fun hj => ?_) (fun hj => ?_) <;> (try simp only [etaPa, etaIt, etaVo] at hj) <;> (try contradiction))
          | fail)
        exact finM_I (w' := propW w k p) (r0 := .tup []) (az := []) (by omega) (by rw [e3]; exact hk_) (by rw [e3]; exact (Eq.trans hk_ (congrArg (fun z => some (Ob.arr ty_impl_Node 4 z)) ((congrArg ((arA ndF w.nodes).set (k - 1).toNat) nd4).trans arA_set)))) trivial rfl ⟨(w, k, p), rfl, rfl, rfl, rfl⟩
      · have hss : SeenB (setN w (k - 1).toNat x).log := hsb
        repeat' ((conv => whnf); first
          | refine ⟨_, ldc_pa hk_ (arA_at hn) (Nat.le_of_ble_eq_true rfl), ?_⟩
          | (refine calle (b := [agg (ndF n), agg (paF p)]) v_impl_Node_propose rfl ⟨(n, p), rfl, hnok⟩ (.inl rfl) (by first | assumption | omega) (fun r hr => (show r = trip (propN false n p) from K_impl_Node_propose (a := (n, p)) hr).trans (congrArg trip ho)) ?_)
          | refine ⟨_, _, _, _, (hk_ : (_ : Option Ob) = _), arA_at hn, rfl, rfl, Nat.le_of_ble_eq_true rfl, ?_⟩
          | refine ⟨_, rfl, ?_⟩
          | refine ⟨_, _, rfl, rfl, rfl, Nat.le_of_ble_eq_true rfl, ?_⟩
          | (refine callt (b := [agg (paF ⟨_, _, _⟩)]) v_impl_PayOk rfl ⟨⟨_, _, _⟩, rfl, (by exact True.intro)⟩ (.inl rfl) (by first | assumption | omega) (fun r hr => K_impl_PayOk (a := ⟨_, _, _⟩) hr) (fun hj => ?_) (fun hj => ?_) <;> (try simp only [etaPa, etaIt, etaVo] at hj) <;> (try contradiction))
          | fail)
        refine mq_I (w := setN w (k - 1).toNat x) (w' := sendW (setN w (k - 1).toNat x) y true) (r0 := .tup []) v_impl_World_send rfl (by first | assumption | omega) hk_ (Eq.trans hk_ (congrArg (fun z => some (Ob.arr ty_impl_Node 4 z)) ((congrArg ((arA ndF w.nodes).set (k - 1).toNat) nd4).trans arA_set))) rfl (fun _ => rfl) ⟨(setN w (k - 1).toNat x, y), rfl, rfl, hss, hfy⟩ (fun r obs' h => K_impl_World_send h) (fun ρ2 hρ2 => ?_)
        skip
        exact finM_I (w' := propW w k p) (r0 := .tup []) (az := []) (by omega) (by rw [e2]; exact hk_) (by rw [e2]; exact hk_) trivial rfl ⟨(w, k, p), rfl, rfl, rfl, rfl⟩
    · have e2 : propW w k p = w := by unfold propW; rw [tb_neg fun h => hp h.2.2.1]; rfl
      skip
      refine mq_I (w := w) (w' := w) (r0 := honR w k) v_impl_World_honest rfl (by first | assumption | omega) hk_ hk_ rfl (fun _ => rfl) ⟨(w, k), rfl, rfl, hl4, hsb⟩ (fun r obs' h => K_impl_World_honest h) (fun ρ hρ => ?_)
      rw [e, show (AV.w (.o (.pa 1 4 (k - 1).toNat 0))).ren ρ = .w (.o (.pa 1 4 (k - 1).toNat 0)) from congrArg (fun z => AV.w (.o (.pa z 4 (k - 1).toNat 0))) hρ]
      repeat' ((conv => whnf); first
        | refine ⟨_, rfl, ?_⟩
        | (refine callt (b := [agg (paF ⟨_, _, _⟩)]) v_impl_PayOk rfl ⟨⟨_, _, _⟩, rfl, (by exact True.intro)⟩ (.inl rfl) (by first | assumption | omega) (fun r hr => K_impl_PayOk (a := ⟨_, _, _⟩) hr) (fun hj => ?_) (fun hj => ?_) <;> (try simp only [etaPa, etaIt, etaVo] at hj) <;> (try contradiction))
        | fail)
      exact finM_I (w' := propW w k p) (r0 := .tup []) (az := []) (by omega) (by rw [e2]; exact hk_) (by rw [e2]; exact hk_) trivial rfl ⟨(w, k, p), rfl, rfl, rfl, rfl⟩
  · have e : honR w k = .w (.o (.c (.v (.pointer none)))) := by unfold honR; rw [tb_neg hh]; rfl
    have e2 : propW w k p = w := by unfold propW; rw [tb_neg fun h => hh ⟨h.1, h.2.1, h.2.2.2⟩]; rfl
    skip
    refine mq_I (w := w) (w' := w) (r0 := honR w k) v_impl_World_honest rfl (by first | assumption | omega) hk_ hk_ rfl (fun _ => rfl) ⟨(w, k), rfl, rfl, hl4, hsb⟩ (fun r obs' h => K_impl_World_honest h) (fun ρ hρ => ?_)
    rw [e, show (AV.w (.o (.c (.v (.pointer none))))).ren ρ = .w (.o (.c (.v (.pointer none)))) from rfl]
    skip
    exact finM_I (w' := propW w k p) (r0 := .tup []) (az := []) (by omega) (by rw [e2]; exact hk_) (by rw [e2]; exact hk_) trivial rfl ⟨(w, k, p), rfl, rfl, rfl, rfl⟩
set_option maxHeartbeats 4000000 in
set_option maxRecDepth 100000 in
theorem v_impl_World_bring : ValidM Try.prog n_impl_World_bring S_impl_World_bring := by
  refine validM_of_swp mixed is_impl_World_bring (by rintro _ _ ⟨a, rfl, _⟩; exact Nat.le_of_ble_eq_true rfl) ?_
  rintro _ _ rm ⟨⟨w, j, k⟩, rfl, rfl, hpre⟩ hl
  try dsimp only at hpre
  change swp _ _ _ _ _ 2 _
  dsimp only
  have hJ := hpre
  obtain ⟨_, _, hl4, hsb, _⟩ := hJ.inv
  have hl80 : w.log.length ≤ 80 := hsb.1
  have hlL : w.log.length ≤ LIM := Nat.le_trans hl80 (by decide)
  have hst : S_impl_World_honest.st = 0 := rfl
  have c0 : S_impl_World_honest.cost = 0 := rfl
  have c1 : S_impl_World_send.cost = 0 := rfl
  have cc_impl_PayOk : S_impl_PayOk.cost = 0 := rfl
  have cc_impl_Node_propose : S_impl_Node_propose.cost = 0 := rfl
  have cc_impl_Node_hear : S_impl_Node_hear.cost = 0 := rfl
  have cc_impl_within : S_impl_within.cost = 0 := rfl
  by_cases hh : HonW w k
  · obtain ⟨h1, h2, h3⟩ := id hh
    obtain ⟨h11, h12⟩ := id h1
    have e : honR w k = .w (.o (.pa 1 4 (k - 1).toNat 0)) := by unfold honR; rw [tb_pos hh]; rfl
    obtain ⟨n, hn⟩ : ∃ n, w.nodes[(k - 1).toNat]? = some n := ⟨_, List.getElem?_eq_getElem (by omega)⟩
    have hnok : NodeOk n := (hJ.nd _ n hn).2.2
    have hwl : IntKind.i64.wrap (((w.log.map voF).length : Int) - 1) = (w.log.length : Int) - 1 := by rw [List.length_map, wrap64] <;> omega
    by_cases hj : In j 0 ((w.log.length : Int) - 1)
    · obtain ⟨hj1, hj2⟩ := id hj
      obtain ⟨v, hv⟩ : ∃ v, w.log[j.toNat]? = some v := ⟨_, List.getElem?_eq_getElem (by omega)⟩
      have hvo := hsb.2 v (List.mem_of_getElem? hv)
      have hfv : FitV v := Nat.le_trans hvo.2.2.2 (by decide)
      have hjn : j = ((j.toNat : Nat) : Int) := by omega
      have e2 : bringW w j k = sendW (setN w (k - 1).toNat (hearN false n v).1) (hearN false n v).2.1 (hearN false n v).2.2 := by
        unfold bringW; rw [tb_pos ⟨hj, h1, h2, h3⟩]
        simp only [if_true, hv]
        show stepW w _ _ = _
        unfold stepW; rw [hn]
        show sendW (setN w _ (hearN true n v).1) (hearN true n v).2.1 (hearN true n v).2.2 = _
        rw [hearN_tf hnok.2.2.2.2.1]
      have hs := hearN_b (b := false) (v := v) hnok.ndb.1 hnok.ndb.2.2
      obtain ⟨o, ho⟩ : ∃ o, hearN false n v = o := ⟨_, rfl⟩
      rw [ho] at e2 hs
      obtain ⟨x, y, t⟩ := o
      have hfy : FitV y := Nat.le_trans hs.2.2.2.2 (by decide)
      skip
      refine mq_I (w := w) (w' := w) (r0 := honR w k) v_impl_World_honest rfl (by first | assumption | omega) hk_ hk_ rfl (fun _ => rfl) ⟨(w, k), rfl, rfl, hl4, hsb⟩ (fun r obs' h => K_impl_World_honest h) (fun ρ hρ => ?_)
      rw [e, show (AV.w (.o (.pa 1 4 (k - 1).toNat 0))).ren ρ = .w (.o (.pa 1 4 (k - 1).toNat 0)) from congrArg (fun z => AV.w (.o (.pa z 4 (k - 1).toNat 0))) hρ]
      rcases t with _ | _
      · have e3 : bringW w j k = setN w (k - 1).toNat x := by rw [e2]; exact if_neg fun h => Bool.noConfusion h.1
        repeat' ((conv => whnf); first
          | (refine callt (b := [I j, I 0, I ((w.log.length : Int) - 1)]) v_impl_within (congrArg (fun z => [I j, I 0, I z]) hwl) ⟨(j, 0, (w.log.length : Int) - 1), rfl, trivial⟩ (.inl rfl) (by first | assumption | omega) (fun r hr => K_impl_within (a := (j, 0, (w.log.length : Int) - 1)) hr) (fun hj => ?_) (fun hj => ?_) <;> (try contradiction))
          | refine ⟨_, ldc_pa hk_ (arA_at hn) (Nat.le_of_ble_eq_true rfl), ?_⟩
          | refine ⟨rfl, j.toNat, _, hjn, at_map hv, ?_⟩
          | (refine calle (b := [agg (ndF n), agg (voF v)]) v_impl_Node_hear rfl ⟨(n, v), rfl, hnok, hfv⟩ (.inl rfl) (by first | assumption | omega) (fun r hr => (show r = trip (hearN false n v) from K_impl_Node_hear (a := (n, v)) hr).trans (congrArg trip ho)) ?_)
          | refine ⟨_, _, _, _, (hk_ : (_ : Option Ob) = _), arA_at hn, rfl, rfl, Nat.le_of_ble_eq_true rfl, ?_⟩
          | refine ⟨_, rfl, ?_⟩
          | refine ⟨rfl, ?_⟩
          | refine ⟨_, _, rfl, rfl, rfl, Nat.le_of_ble_eq_true rfl, ?_⟩
          | fail)
        exact finM_I (w' := bringW w j k) (r0 := .tup []) (az := []) (by omega) (by rw [e3]; exact hk_) (by rw [e3]; exact (Eq.trans hk_ (congrArg (fun z => some (Ob.arr ty_impl_Node 4 z)) ((congrArg ((arA ndF w.nodes).set (k - 1).toNat) nd4).trans arA_set)))) trivial rfl ⟨(w, j, k), rfl, rfl, rfl, rfl⟩
      · have hss : SeenB (setN w (k - 1).toNat x).log := hsb
        repeat' ((conv => whnf); first
          | (refine callt (b := [I j, I 0, I ((w.log.length : Int) - 1)]) v_impl_within (congrArg (fun z => [I j, I 0, I z]) hwl) ⟨(j, 0, (w.log.length : Int) - 1), rfl, trivial⟩ (.inl rfl) (by first | assumption | omega) (fun r hr => K_impl_within (a := (j, 0, (w.log.length : Int) - 1)) hr) (fun hj => ?_) (fun hj => ?_) <;> (try contradiction))
          | refine ⟨_, ldc_pa hk_ (arA_at hn) (Nat.le_of_ble_eq_true rfl), ?_⟩
          | refine ⟨rfl, j.toNat, _, hjn, at_map hv, ?_⟩
          | (refine calle (b := [agg (ndF n), agg (voF v)]) v_impl_Node_hear rfl ⟨(n, v), rfl, hnok, hfv⟩ (.inl rfl) (by first | assumption | omega) (fun r hr => (show r = trip (hearN false n v) from K_impl_Node_hear (a := (n, v)) hr).trans (congrArg trip ho)) ?_)
          | refine ⟨_, _, _, _, (hk_ : (_ : Option Ob) = _), arA_at hn, rfl, rfl, Nat.le_of_ble_eq_true rfl, ?_⟩
          | refine ⟨_, rfl, ?_⟩
          | refine ⟨rfl, ?_⟩
          | refine ⟨_, _, rfl, rfl, rfl, Nat.le_of_ble_eq_true rfl, ?_⟩
          | fail)
        refine mq_I (w := setN w (k - 1).toNat x) (w' := sendW (setN w (k - 1).toNat x) y true) (r0 := .tup []) v_impl_World_send rfl (by first | assumption | omega) hk_ (Eq.trans hk_ (congrArg (fun z => some (Ob.arr ty_impl_Node 4 z)) ((congrArg ((arA ndF w.nodes).set (k - 1).toNat) nd4).trans arA_set))) rfl (fun _ => rfl) ⟨(setN w (k - 1).toNat x, y), rfl, rfl, hss, hfy⟩ (fun r obs' h => K_impl_World_send h) (fun ρ2 hρ2 => ?_)
        skip
        exact finM_I (w' := bringW w j k) (r0 := .tup []) (az := []) (by omega) (by rw [e2]; exact hk_) (by rw [e2]; exact hk_) trivial rfl ⟨(w, j, k), rfl, rfl, rfl, rfl⟩
    · have e2 : bringW w j k = w := by unfold bringW; rw [tb_neg fun h => hj h.1]; rfl
      skip
      refine mq_I (w := w) (w' := w) (r0 := honR w k) v_impl_World_honest rfl (by first | assumption | omega) hk_ hk_ rfl (fun _ => rfl) ⟨(w, k), rfl, rfl, hl4, hsb⟩ (fun r obs' h => K_impl_World_honest h) (fun ρ hρ => ?_)
      rw [e, show (AV.w (.o (.pa 1 4 (k - 1).toNat 0))).ren ρ = .w (.o (.pa 1 4 (k - 1).toNat 0)) from congrArg (fun z => AV.w (.o (.pa z 4 (k - 1).toNat 0))) hρ]
      repeat' ((conv => whnf); first
        | (refine callt (b := [I j, I 0, I ((w.log.length : Int) - 1)]) v_impl_within (congrArg (fun z => [I j, I 0, I z]) hwl) ⟨(j, 0, (w.log.length : Int) - 1), rfl, trivial⟩ (.inl rfl) (by first | assumption | omega) (fun r hr => K_impl_within (a := (j, 0, (w.log.length : Int) - 1)) hr) (fun hj => ?_) (fun hj => ?_) <;> (try contradiction))
        | refine ⟨_, rfl, ?_⟩
        | refine ⟨rfl, ?_⟩
        | fail)
      exact finM_I (w' := bringW w j k) (r0 := .tup []) (az := []) (by omega) (by rw [e2]; exact hk_) (by rw [e2]; exact hk_) trivial rfl ⟨(w, j, k), rfl, rfl, rfl, rfl⟩
  · have e : honR w k = .w (.o (.c (.v (.pointer none)))) := by unfold honR; rw [tb_neg hh]; rfl
    have e2 : bringW w j k = w := by unfold bringW; rw [tb_neg fun h => hh ⟨h.2.1, h.2.2.1, h.2.2.2⟩]; rfl
    skip
    refine mq_I (w := w) (w' := w) (r0 := honR w k) v_impl_World_honest rfl (by first | assumption | omega) hk_ hk_ rfl (fun _ => rfl) ⟨(w, k), rfl, rfl, hl4, hsb⟩ (fun r obs' h => K_impl_World_honest h) (fun ρ hρ => ?_)
    rw [e, show (AV.w (.o (.c (.v (.pointer none))))).ren ρ = .w (.o (.c (.v (.pointer none)))) from rfl]
    skip
    exact finM_I (w' := bringW w j k) (r0 := .tup []) (az := []) (by omega) (by rw [e2]; exact hk_) (by rw [e2]; exact hk_) trivial rfl ⟨(w, j, k), rfl, rfl, rfl, rfl⟩
set_option maxHeartbeats 4000000 in
set_option maxRecDepth 100000 in
theorem v_impl_World_do : ValidM Try.prog n_impl_World_do S_impl_World_do := by
  refine validM_of_swp mixed is_impl_World_do (by rintro _ _ ⟨a, rfl, _⟩; exact Nat.le_of_ble_eq_true rfl) ?_
  rintro _ _ rm ⟨⟨w, e⟩, rfl, rfl, hpre⟩ hl
  try dsimp only at hpre
  change swp _ _ _ _ _ 2 _
  dsimp only
  obtain ⟨hJ, hfe⟩ := hpre
  obtain ⟨_, _, hl4, hsb, _⟩ := hJ.inv
  have c0 : S_impl_World_tick.cost = 0 := rfl
  have c1 : S_impl_World_send.cost = 0 := rfl
  have c2 : S_impl_World_propose.cost = 0 := rfl
  have c3 : S_impl_World_bring.cost = 0 := rfl
  have cc_impl_VoteOk : S_impl_VoteOk.cost = 0 := rfl
  by_cases k1 : e.k = 1
  · have e2 : doW w e = tickW w := if_pos k1
    repeat' ((conv => whnf); first
      | refine ⟨_, rfl, ?_⟩
      | refine ⟨rfl, ?_⟩
      | (refine ⟨fun hc => ?_, fun hc => ?_⟩ <;> (try simp (disch := omega) only [List.length_map, wrap64] at hc) <;> (try (exfalso; first | contradiction | omega)))
      | fail)
    refine mq_I (w := w) (w' := tickW w) (r0 := .tup []) v_impl_World_tick rfl (by first | assumption | omega) hk_ hk_ rfl (fun _ => rfl) ⟨w, rfl, rfl, hJ⟩ (fun r obs' h => K_impl_World_tick h) (fun ρ hρ => ?_)
    skip
    exact finM_I (w' := doW w e) (r0 := .tup []) (az := []) (by omega) (by rw [e2]; exact hk_) (by rw [e2]; exact hk_) trivial rfl ⟨(w, e), rfl, rfl, rfl, rfl⟩
  · by_cases k2 : e.k = 2
    · have e2 : doW w e = propW w e.a e.p := (if_neg k1).trans (if_pos k2)
      repeat' ((conv => whnf); first
        | refine ⟨_, rfl, ?_⟩
        | refine ⟨rfl, ?_⟩
        | (refine ⟨fun hc => ?_, fun hc => ?_⟩ <;> (try simp (disch := omega) only [List.length_map, wrap64] at hc) <;> (try (exfalso; first | contradiction | omega)))
        | fail)
      refine mq_I (w := w) (w' := propW w e.a e.p) (r0 := .tup []) v_impl_World_propose rfl (by first | assumption | omega) hk_ hk_ rfl (fun _ => rfl) ⟨(w, e.a, e.p), rfl, rfl, hJ⟩ (fun r obs' h => K_impl_World_propose h) (fun ρ hρ => ?_)
      skip
      exact finM_I (w' := doW w e) (r0 := .tup []) (az := []) (by omega) (by rw [e2]; exact hk_) (by rw [e2]; exact hk_) trivial rfl ⟨(w, e), rfl, rfl, rfl, rfl⟩
    · by_cases k3 : e.k = 3
      · have e2 : doW w e = bringW w e.a e.b := (if_neg k1).trans ((if_neg k2).trans (if_pos k3))
        repeat' ((conv => whnf); first
          | refine ⟨_, rfl, ?_⟩
          | refine ⟨rfl, ?_⟩
          | (refine ⟨fun hc => ?_, fun hc => ?_⟩ <;> (try simp (disch := omega) only [List.length_map, wrap64] at hc) <;> (try (exfalso; first | contradiction | omega)))
          | fail)
        refine mq_I (w := w) (w' := bringW w e.a e.b) (r0 := .tup []) v_impl_World_bring rfl (by first | assumption | omega) hk_ hk_ rfl (fun _ => rfl) ⟨(w, e.a, e.b), rfl, rfl, hJ⟩ (fun r obs' h => K_impl_World_bring h) (fun ρ hρ => ?_)
        skip
        exact finM_I (w' := doW w e) (r0 := .tup []) (az := []) (by omega) (by rw [e2]; exact hk_) (by rw [e2]; exact hk_) trivial rfl ⟨(w, e), rfl, rfl, rfl, rfl⟩
      · by_cases k4 : e.k = 4 ∧ VoteOk e.v ∧ e.v.n = w.bad
        · obtain ⟨k41, k42, k43⟩ := id k4
          have e2 : doW w e = sendW w e.v true := (if_neg k1).trans ((if_neg k2).trans ((if_neg k3).trans (by rw [tb_pos k4]; rfl)))
          repeat' ((conv => whnf); first
            | refine ⟨_, rfl, ?_⟩
            | refine ⟨rfl, ?_⟩
            | (refine ⟨fun hc => ?_, fun hc => ?_⟩ <;> (try simp (disch := omega) only [List.length_map, wrap64] at hc) <;> (try (exfalso; first | contradiction | omega)))
            | (refine callt (b := [agg (voF ⟨_, _⟩)]) v_impl_VoteOk rfl ⟨⟨_, _⟩, rfl, (by exact pr_)⟩ (.inl rfl) (by first | assumption | omega) (fun r hr => K_impl_VoteOk (a := ⟨_, _⟩) hr) (fun hj => ?_) (fun hj => ?_) <;> (try simp only [etaPa, etaIt, etaVo] at hj) <;> (try contradiction))
            | fail)
          refine mq_I (w := w) (w' := sendW w e.v true) (r0 := .tup []) v_impl_World_send rfl (by first | assumption | omega) hk_ hk_ rfl (fun _ => rfl) ⟨(w, e.v), rfl, rfl, hsb, hfe⟩ (fun r obs' h => K_impl_World_send h) (fun ρ hρ => ?_)
          skip
          exact finM_I (w' := doW w e) (r0 := .tup []) (az := []) (by omega) (by rw [e2]; exact hk_) (by rw [e2]; exact hk_) trivial rfl ⟨(w, e), rfl, rfl, rfl, rfl⟩
        · have e2 : doW w e = w := (if_neg k1).trans ((if_neg k2).trans ((if_neg k3).trans (by rw [tb_neg k4]; rfl)))
          repeat' ((conv => whnf); first
            | refine ⟨_, rfl, ?_⟩
            | refine ⟨rfl, ?_⟩
            | (refine ⟨fun hc => ?_, fun hc => ?_⟩ <;> (try simp (disch := omega) only [List.length_map, wrap64] at hc) <;> (try (exfalso; first | contradiction | omega)))
            | (refine callt (b := [agg (voF ⟨_, _⟩)]) v_impl_VoteOk rfl ⟨⟨_, _⟩, rfl, (by exact pr_)⟩ (.inl rfl) (by first | assumption | omega) (fun r hr => K_impl_VoteOk (a := ⟨_, _⟩) hr) (fun hj => ?_) (fun hj => ?_) <;> (try simp only [etaPa, etaIt, etaVo] at hj) <;> (try contradiction))
            | fail)
          all_goals first
            | exact absurd ⟨by assumption, by assumption, by assumption⟩ k4
            | exact finM_I (w' := doW w e) (r0 := .tup []) (az := []) (by omega) (by rw [e2]; exact hk_) (by rw [e2]; exact hk_) trivial rfl ⟨(w, e), rfl, rfl, rfl, rfl⟩
end Av
end Go.Proofs.Ytlbdoamidblkaaa
