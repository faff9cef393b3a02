/- The walks: nodes drawn, with what they are to do. -/
import Derived.Test.YtkpncekaehgbdaaZT
set_option linter.unusedVariables false
set_option linter.unusedSimpArgs false
namespace Go.Proofs.Ytkpncekaehgbdaa
namespace Av
open Go.RowKit

section
variable {P : Program} {g : Nat} {fr : Env} {H : Hp} {nm nx rm rm' lim : Nat} {K : KV} {xs : List (X × List (Option Nat))} {res : List Rs} {post : AV → List (Option Ob) → Prop}
theorem finM_vc {v : Vo} {k : Nat} (hrm : rm' ≤ lim) (hk : H k = some (itO v.c)) (hres : resM [k] fr H res [.g [cI v.n, .ow k]]) (hpost : post (.w (.g [cI v.n, .ow 0])) [some (itO v.c)]) :
    rm' ≤ lim ∧ ∃ (ks : List Nat) (aw : List AW) (r : AV) (obs' : List (Option Ob)), resM ks fr H res aw ∧ resV aw = r.ren (nmap ks nx) ∧ post r obs' ∧
      ks.Nodup ∧ (∀ i, i < 0 → ks[i]? = some i) ∧ obs'.length = ks.length ∧
      ∀ (i k : Nat), ks[i]? = some k → (∃ ob : Ob, obs'[i]? = some (some ob) ∧ H k = some (ob.ren (nmap ks nx))) ∨ (obs'[i]? = some none ∧ H k = none) := by
  refine ⟨hrm, [k], _, _, _, hres, ?_, hpost, by simp, fun i hi => absurd hi (Nat.not_lt_zero i), rfl, fun i k' h => ?_⟩
  · show AV.w (.g [cI v.n, .ow k]) = AV.w (.g [cI v.n, .ow (nmap [k] nx 0)])
    rw [show nmap [k] nx 0 = k from nmap_lt (s := 0) rfl]
  · match i, h with
    | 0, h => cases h; exact .inl ⟨_, rfl, by rw [arr_ren]; exact hk⟩
    | i + 1, h => simp at h
theorem bq_vc {v : Vo} (hv : ValidM P g S_spec_l3VoteCopy_o) (ha : borArgs fr H xs = [agg (voF v)]) (hf : FitV v) (hK : K (.w (.g [cI v.n, .ow nm])) (hupd nm (some (itO v.c)) H) rm) : BQ P nm fr H rm K g S_spec_l3VoteCopy_o xs := by
  refine BQ.mk1 ha hv rfl ⟨v, rfl, rfl, hf⟩ (by rw [List.all_cons, cl_agg]; rfl) (fun r obs' h => ?_) (fun r obs' h => ?_)
  · obtain ⟨rfl, rfl⟩ := K_spec_l3VoteCopy_o h
    refine ⟨fun c hc => ?_, fun j ob e => ?_⟩
    · simp only [List.mem_cons, List.not_mem_nil, or_false] at hc
      rcases hc with rfl | rfl <;> trivial
    · cases j with
      | zero =>
        cases e
        intro x hx c hc
        obtain ⟨y, _, rfl⟩ := List.mem_map.1 hx
        obtain ⟨z, hz, rfl⟩ := List.mem_map.1 hc
        simp only [itF, List.mem_cons, List.not_mem_nil, or_false] at hz
        rcases hz with rfl | rfl | rfl | rfl <;> trivial
      | succ j => simp at e
  · obtain ⟨rfl, rfl⟩ := K_spec_l3VoteCopy_o h
    show K (.w (.g [cI v.n, .ow (nmapS 0 [] nm 0)])) (hupd (nmapS 0 [] nm 0) (some ((itO v.c).ren _)) H) _
    rw [arr_ren, show nmapS 0 [] nm 0 = nm from nmap_next (ks := [])]
    exact hK
end
attribute [local irreducible] Valid ValidM
set_option maxHeartbeats 4000000 in
set_option maxRecDepth 100000 in
theorem v_spec_l3VoteCopy_o : ValidM Try.prog n_spec_l3VoteCopy_o S_spec_l3VoteCopy_o := by
  refine validM_of_swp mixed is_spec_l3VoteCopy_o (by rintro _ _ ⟨a, rfl, _⟩; exact Nat.le_of_ble_eq_true rfl) ?_
  rintro _ _ rm ⟨v, rfl, rfl, hpre⟩ hl
  try dsimp only at hpre
  change swp _ _ _ _ _ 0 _
  repeat' ((conv => whnf); first
    | refine ⟨_, rfl, ?_⟩
    | refine ⟨_, _, rfl, rfl, rfl, Nat.le_of_ble_eq_true rfl, ?_⟩
    | (refine OQ.mk1 (ar := [one (chF _)]) rfl ⟨_, rfl, (by first | assumption | (simp only [LIM, List.length_take] at *; omega))⟩ vO_spec_l1Copy (so_spec_l1Copy _) ?_)
    | fail)
  exact finM_vc (v := v) (Nat.le_refl _) hk_ ⟨⟨_, rfl, .inl rfl⟩, trivial⟩ ⟨v, rfl, rfl, rfl, rfl⟩
set_option maxHeartbeats 4000000 in
set_option maxRecDepth 100000 in
theorem v_spec_DrawNodeEnter : Valid Try.prog n_spec_DrawNodeEnter S_spec_DrawNodeEnter := by
  refine valid_of_swp mixed is_spec_DrawNodeEnter (by rintro _ ⟨a, rfl, _⟩; exact Nat.le_of_ble_eq_true rfl) ?_
  rintro _ rm ⟨code, rfl, hpre⟩ hl
  try dsimp only at hpre
  have hpre0 := hpre
  have hp1 := hpre
  have c1 : S_spec_l72Node.cost = 31000 := rfl
  have c3 : S_spec_DrawNodeEnter.cost = 60000 := rfl
  have s1 : S_spec_l6Open.st = 0 := rfl
  have s2 : S_spec_l72Node.st = 0 := rfl
  have c2 : S_spec_l6Open.cost = 0 := rfl
  have cc_spec_l6Rd_pick : S_spec_l6Rd_pick.cost = 1 := rfl
  repeat' ((conv => whnf); first
    | (refine mq_open (Q := fun g => ∃ b, g = byF b ∧ RdOk b) (ar := [one (byF _)]) v_spec_l6Open (by first | assumption | omega) rfl rfl ⟨_, rfl, rfl, (by assumption)⟩ (fun r obs' h => by obtain ⟨b, h1, h2, h3⟩ := K_spec_l6Open h; exact ⟨byF b, h1, h2, b, rfl, h3⟩) (fun g hg => ?_); obtain ⟨b, rfl, hrd⟩ := hg)
    | fail)
  refine mq_node (b := b) vP_spec_l72Node (by omega) hk_ (by omega) rfl hrd (fun n w hdn hsl => ?_)
  obtain ⟨he1, he2⟩ := hdn.2.2
  repeat' ((conv => whnf); first
    | refine ⟨⟨.inl (by omega), trivial⟩, ?_⟩
    | refine ⟨_, ldc_cells hk_ (Nat.le_of_ble_eq_true rfl), ?_⟩
    | refine ⟨rfl, ?_⟩
    | refine ⟨_, _, rfl, rfl, rfl, Nat.le_of_ble_eq_true rfl, ?_⟩
    | refine ⟨(show _ ≠ _ from (by first | decide | omega)), ?_⟩
    | (refine callrd (by exact hk_) rfl rfl ⟨(_, _), rfl, (by exact pr_)⟩ v_spec_l6Rd_pick (by omega) (fun r hr => ?_); have hj := K_spec_l6Rd_pick (a := (_, _)) hr; clear hr; obtain ⟨k, rfl, hk0, hk1⟩ := hj; dsimp only at hk1; (try simp (disch := omega) only [List.length_map, ncast, wrap64] at hk1))
    | fail)
  rename_i k1 hk01 hk11
  have t1 : 0 ≤ k.tdiv 23 := Int.tdiv_nonneg hk0 (by decide)
  have t2 : k.tdiv 23 ≤ 1 := by rw [Int.tdiv_eq_ediv_of_nonneg hk0]; omega
  refine ⟨⟨_, rfl, rfl, code, rfl, ?_⟩, (by omega), h0_⟩
  unfold R_spec_DrawNodeEnter
  refine ⟨n, _, rfl, hdn, ?_⟩
  generalize k.tdiv 23 = q at *
  rw [wrap64 (n := n.ep + k1) (by omega) (by omega), wrap64 (n := n.ep + k1 - 1) (by omega) (by omega), wrap64 (n := q) (by omega) (by omega), wrap64 (n := q * 40) (by omega) (by omega), wrap64 (by omega) (by omega)]
  exact ⟨by omega, by omega⟩
theorem drN_ent {n : Nd} {e : Int} (h : DrN n) (he : 0 ≤ e) : DrN (entN n e) := by
  obtain ⟨h1, h2, h3, h4⟩ := h
  unfold entN
  split
  · rename_i hh; exact ⟨h1, h2, he, hh.2⟩
  · exact ⟨h1, h2, h3, h4⟩
set_option maxHeartbeats 4000000 in
set_option maxRecDepth 100000 in
theorem v_spec_DrawNodePropose : Valid Try.prog n_spec_DrawNodePropose S_spec_DrawNodePropose := by
  refine valid_of_swp mixed is_spec_DrawNodePropose (by rintro _ ⟨a, rfl, _⟩; exact Nat.le_of_ble_eq_true rfl) ?_
  rintro _ rm ⟨code, rfl, hpre⟩ hl
  try dsimp only at hpre
  have hpre0 := hpre
  have hp1 := hpre
  have c1 : S_spec_l72Node.cost = 31000 := rfl
  have c3 : S_spec_DrawNodePropose.cost = 60000 := rfl
  have s1 : S_spec_l6Open.st = 0 := rfl
  have s2 : S_spec_l72Node.st = 0 := rfl
  have s3 : S_spec_l12Enter.st = 0 := rfl
  have c2 : S_spec_l6Open.cost = 0 := rfl
  have c4 : S_spec_l12Enter.cost = 0 := rfl
  have cc_spec_l6Rd_pick : S_spec_l6Rd_pick.cost = 1 := rfl
  have cc_spec_l71AnyPay : S_spec_l71AnyPay.cost = 20 := rfl
  have cc_spec_l3Leader : S_spec_l3Leader.cost = 0 := rfl
  have cc_spec_NodeOk : S_spec_NodeOk.cost = 0 := rfl
  repeat' ((conv => whnf); first
    | (refine mq_open (Q := fun g => ∃ b, g = byF b ∧ RdOk b) (ar := [one (byF _)]) v_spec_l6Open (by first | assumption | omega) rfl rfl ⟨_, rfl, rfl, (by assumption)⟩ (fun r obs' h => by obtain ⟨b, h1, h2, h3⟩ := K_spec_l6Open h; exact ⟨byF b, h1, h2, b, rfl, h3⟩) (fun g hg => ?_); obtain ⟨b, rfl, hrd⟩ := hg)
    | fail)
  refine mq_node (b := b) vP_spec_l72Node (by omega) hk_ (by omega) rfl hrd (fun n w hdn hsl => ?_)
  repeat' ((conv => whnf); first
    | refine ⟨_, _, rfl, rfl, rfl, Nat.le_of_ble_eq_true rfl, ?_⟩
    | fail)
  conv => whnf
  refine ⟨fun fr H nx rm' => ∃ (i : Nat) (n : Nd), Has fr [(2, .w (.o (.ptr 1 0))), (3, .w (.o (.ptr 17 0))), (4, .w (.o (.ptr 49 0))), (5, .w (.o (.ptr 161 0))), (7, I i)] ∧ i ≤ 4 ∧ DrN n ∧ H 161 = some (.cells (ndK n 97)) ∧ H 97 = some (tokO n.seen) ∧ H 49 = some (.rd (byF b)) ∧ H 1 = some (.cells [cI 0, cI 0, cI 0, .e0]) ∧ H 17 = some (.cells [cI 0, cI 0, cI 0]) ∧ H 0 = none ∧ 200 ≤ nx ∧ rm' ≤ rm + 31000 + 10 * i,
    fun fr _ _ _ => 4 - ix (fr 7), ⟨0, n, ⟨rfl, rfl, rfl, rfl, rfl, trivial⟩, Nat.zero_le _, hdn, hk_, hk_, hk_, hk_, hk_, ne_, ln_, by omega⟩, ?_⟩
  clear hdn
  rintro fr H nx rm' ⟨i, n, hfr, hi, hdn, hH161, hH97, hH49, hH1, hH17, hH0, hnx, hrm⟩
  rw [hfr.eq]
  obtain ⟨he1, he2⟩ := hdn.2.2
  have hfs : FitVs n.seen := hdn.fit
  have hep : In n.ep (-100) 100 := ⟨by omega, by omega⟩
  have hwe : IntKind.i64.wrap (n.ep + 1) = n.ep + 1 := by rw [wrap64] <;> omega
  have hmx : In (if 1 > n.ep then 1 else n.ep) 0 100 := by split <;> exact ⟨by omega, by omega⟩
  rcases Nat.lt_or_ge i 4 with hi' | hi'
  · skip
    repeat' ((conv => whnf); first
      | refine ⟨_, ldc_cells hk_ (Nat.le_of_ble_eq_true rfl), ?_⟩
      | refine mq_ent (n := n) (e := IntKind.i64.wrap (n.ep + 1)) (t := 97) v_spec_l12Enter (by omega) hk_ hep rfl ?_
      | refine ⟨rfl, ?_⟩
      | (refine ⟨?_, _, (?_ : (_ : Option Ob) = _), rfl, rfl, ?_, ?_⟩; rotate_left; (exact hk_); exact Nat.le_of_ble_eq_true rfl)
      | (refine ⟨fun hc => ?_, fun hc => ?_⟩ <;> (try simp (disch := omega) only [List.length_map, wrap64] at hc) <;> (try (exfalso; first | contradiction | omega)))
      | (refine callrd (by exact hk_) rfl rfl ⟨(_, _), rfl, (by exact pr_)⟩ v_spec_l6Rd_pick (by omega) (fun r hr => ?_); have hj := K_spec_l6Rd_pick (a := (_, _)) hr; clear hr; obtain ⟨k, rfl, hk0, hk1⟩ := hj; dsimp only at hk1; (try simp (disch := omega) only [List.length_map, ncast, wrap64] at hk1))
      | (refine callt (b := [agg (ndF ⟨_, _, _, _⟩)]) v_spec_NodeOk rfl ⟨⟨_, _, _, _⟩, rfl, (by exact pr_)⟩ (.inl rfl) (by first | assumption | omega) (fun r hr => K_spec_NodeOk (a := ⟨_, _, _, _⟩) hr) (fun hj => ?_) (fun hj => ?_) <;> (try simp only [etaPa, etaIt, etaVo] at hj) <;> (try simp only [etaNd, etaWo] at hj) <;> (try contradiction))
      | (refine calle (b := [I _]) v_spec_l3Leader rfl ⟨_, rfl, (by exact pr_)⟩ (.inl rfl) (by first | assumption | omega) (fun r hr => K_spec_l3Leader (a := _) hr) ?_)
      | (refine callrd (by exact hk_) rfl rfl ⟨_, rfl, (by exact pr_)⟩ v_spec_l71AnyPay (by omega) (fun r hr => ?_); have hj := K_spec_l71AnyPay (a := _) hr; clear hr; obtain ⟨p, rfl⟩ := hj)
      | fail)
    all_goals first
      | exact ⟨⟨_, rfl, rfl, code, rfl, (by unfold R_spec_DrawNodePropose; exact ⟨n, _, rfl, hdn⟩)⟩, (by omega), h0_⟩
      | (refine ⟨⟨i + 1, entN n (IntKind.i64.wrap (n.ep + 1)), ⟨rfl, rfl, rfl, rfl, congrArg I (wrap_up (n := 4) hi' (by decide)), trivial⟩, hi', drN_ent hdn (by rw [hwe]; omega), hk_, (by rw [entN_seen]; exact hk_), hk_, hk_, hk_, ne_, (by omega), (by omega)⟩, ?_⟩; show 4 - ix (I _) < 4 - ix (I _); simp only [wrap_up (n := 4) hi' (by decide), ix, Int.toNat_natCast]; omega)
  · have hi5 : i = 4 := by omega
    subst hi5
    repeat' ((conv => whnf); first
      | refine ⟨_, ldc_cells hk_ (Nat.le_of_ble_eq_true rfl), ?_⟩
      | refine ⟨rfl, ?_⟩
      | (refine ⟨?_, _, (?_ : (_ : Option Ob) = _), rfl, rfl, ?_, ?_⟩; rotate_left; (exact hk_); exact Nat.le_of_ble_eq_true rfl)
      | (refine ⟨fun hc => ?_, fun hc => ?_⟩ <;> (try simp (disch := omega) only [List.length_map, wrap64] at hc) <;> (try (exfalso; first | contradiction | omega)))
      | (refine callrd (by exact hk_) rfl rfl ⟨_, rfl, (by exact pr_)⟩ v_spec_l71AnyPay (by omega) (fun r hr => ?_); have hj := K_spec_l71AnyPay (a := _) hr; clear hr; obtain ⟨p, rfl⟩ := hj)
      | fail)
    exact ⟨⟨_, rfl, rfl, code, rfl, (by unfold R_spec_DrawNodePropose; exact ⟨n, _, rfl, hdn⟩)⟩, (by omega), h0_⟩
end Av
end Go.Proofs.Ytkpncekaehgbdaa
