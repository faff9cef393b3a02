/- Texts of the layer, joined. -/
import Derived.Test.YtfijfccgghhkoaaZT
import Derived.Test.YtfijfccgghhkoaaJ8
import Derived.Test.YtfijfccgghhkoaaJ21
set_option linter.unusedVariables false
set_option linter.unusedSimpArgs false
namespace Go.Proofs.Ytfijfccgghhkoaa
namespace Av
open Go.RowKit
section
variable {P : Program} {g : Nat} {fr : Env} {H : Hp} {nm nx rm rm' lim : Nat} {K : KV} {xs : List (X × List (Option Nat))} {res : List Rs} {post : AV → List (Option Ob) → Prop}
end
attribute [local irreducible] Valid ValidM
theorem drN_ent {n : Nd} {e : Int} (h : DrN n) (he : 0 ≤ e) : DrN (entN n e) := by
  obtain ⟨h1, h2, h3, h4⟩ := h
  unfold entN
  split
  · rename_i hh; exact ⟨h1, h2, he, hh.2⟩
  · exact ⟨h1, h2, h3, h4⟩
set_option maxHeartbeats 4000000 in
set_option maxRecDepth 100000 in
theorem v_spec_DrawNodePropose : Valid Try.prog n_spec_DrawNodePropose S_spec_DrawNodePropose := by
  refine valid_of_swp mixed is_spec_DrawNodePropose (by rintro _ ⟨a, rfl, _⟩; exact Nat.le_of_ble_eq_true rfl) ?_
  rintro _ rm ⟨code, rfl, hpre⟩ hl
  try dsimp only at hpre
  have hpre0 := hpre
  have hp1 := hpre
  have c1 : S_spec_l72Node.cost = 31000 := rfl
  have c3 : S_spec_DrawNodePropose.cost = 60000 := rfl
  have s1 : S_spec_l6Open.st = 0 := rfl
  have s2 : S_spec_l72Node.st = 0 := rfl
  have s3 : S_spec_l12Enter.st = 0 := rfl
  have c2 : S_spec_l6Open.cost = 0 := rfl
  have c4 : S_spec_l12Enter.cost = 0 := rfl
  have cc_spec_l6Rd_pick : S_spec_l6Rd_pick.cost = 1 := rfl
  have cc_spec_l71AnyPay : S_spec_l71AnyPay.cost = 20 := rfl
  have cc_spec_l3Leader : S_spec_l3Leader.cost = 0 := rfl
  have cc_spec_NodeOk : S_spec_NodeOk.cost = 0 := rfl
  repeat' ((conv => whnf); first
    | (refine mq_open (Q := fun g => ∃ b, g = byF b ∧ RdOk b) (ar := [one (byF _)]) v_spec_l6Open (by first | assumption | omega) rfl rfl ⟨_, rfl, rfl, (by assumption)⟩ (fun r obs' h => by obtain ⟨b, h1, h2, h3⟩ := K_spec_l6Open h; exact ⟨byF b, h1, h2, b, rfl, h3⟩) (fun g hg => ?_); obtain ⟨b, rfl, hrd⟩ := hg)
    | fail)
  refine mq_node (b := b) vP_spec_l72Node (by omega) hk_ (by omega) rfl hrd (fun n w hdn hsl => ?_)
  repeat' ((conv => whnf); first
    | refine ⟨_, _, rfl, rfl, rfl, Nat.le_of_ble_eq_true rfl, ?_⟩
    | fail)
  conv => whnf
  refine ⟨fun fr H nx rm' => ∃ (i : Nat) (n : Nd), Has fr [(2, .w (.o (.ptr 1 0))), (3, .w (.o (.ptr 17 0))), (4, .w (.o (.ptr 49 0))), (5, .w (.o (.ptr 161 0))), (7, I i)] ∧ i ≤ 4 ∧ DrN n ∧ H 161 = some (.cells (ndK n 97)) ∧ H 97 = some (tokO n.seen) ∧ H 49 = some (.rd (byF b)) ∧ H 1 = some (.cells [cI 0, cI 0, cI 0, .e0]) ∧ H 17 = some (.cells [cI 0, cI 0, cI 0]) ∧ H 0 = none ∧ 200 ≤ nx ∧ rm' ≤ rm + 31000 + 10 * i,
    fun fr _ _ _ => 4 - ix (fr 7), ⟨0, n, ⟨rfl, rfl, rfl, rfl, rfl, trivial⟩, Nat.zero_le _, hdn, hk_, hk_, hk_, hk_, hk_, ne_, ln_, by omega⟩, ?_⟩
  clear hdn
  rintro fr H nx rm' ⟨i, n, hfr, hi, hdn, hH161, hH97, hH49, hH1, hH17, hH0, hnx, hrm⟩
  rw [hfr.eq]
  obtain ⟨he1, he2⟩ := hdn.2.2
  have hfs : FitVs n.seen := hdn.fit
  have hep : In n.ep (-100) 100 := ⟨by omega, by omega⟩
  have hwe : IntKind.i64.wrap (n.ep + 1) = n.ep + 1 := by rw [wrap64] <;> omega
  have hmx : In (if 1 > n.ep then 1 else n.ep) 0 100 := by split <;> exact ⟨by omega, by omega⟩
  rcases Nat.lt_or_ge i 4 with hi' | hi'
  · skip
    repeat' ((conv => whnf); first
      | refine ⟨_, ldc_cells hk_ (Nat.le_of_ble_eq_true rfl), ?_⟩
      | refine mq_ent (n := n) (e := IntKind.i64.wrap (n.ep + 1)) (t := 97) v_spec_l12Enter (by omega) hk_ hep rfl ?_
      | refine ⟨rfl, ?_⟩
      | (refine ⟨?_, _, (?_ : (_ : Option Ob) = _), rfl, rfl, ?_, ?_⟩; rotate_left; (exact hk_); exact Nat.le_of_ble_eq_true rfl)
      | (refine ⟨fun hc => ?_, fun hc => ?_⟩ <;> (try simp (disch := omega) only [List.length_map, wrap64] at hc) <;> (try (exfalso; first | contradiction | omega)))
      | (refine callrd (by exact hk_) rfl rfl ⟨(_, _), rfl, (by exact pr_)⟩ v_spec_l6Rd_pick (by omega) (fun r hr => ?_); have hj := K_spec_l6Rd_pick (a := (_, _)) hr; clear hr; obtain ⟨k, rfl, hk0, hk1⟩ := hj; dsimp only at hk1; (try simp (disch := omega) only [List.length_map, ncast, wrap64] at hk1))
      | (refine callt (b := [agg (ndF ⟨_, _, _, _⟩)]) v_spec_NodeOk rfl ⟨⟨_, _, _, _⟩, rfl, (by exact pr_)⟩ (.inl rfl) (by first | assumption | omega) (fun r hr => K_spec_NodeOk (a := ⟨_, _, _, _⟩) hr) (fun hj => ?_) (fun hj => ?_) <;> (try simp only [etaPa, etaIt, etaVo] at hj) <;> (try simp only [etaNd, etaWo] at hj) <;> (try contradiction))
      | (refine calle (b := [I _]) v_spec_l3Leader rfl ⟨_, rfl, (by exact pr_)⟩ (.inl rfl) (by first | assumption | omega) (fun r hr => K_spec_l3Leader (a := _) hr) ?_)
      | (refine callrd (by exact hk_) rfl rfl ⟨_, rfl, (by exact pr_)⟩ v_spec_l71AnyPay (by omega) (fun r hr => ?_); have hj := K_spec_l71AnyPay (a := _) hr; clear hr; obtain ⟨p, rfl⟩ := hj)
      | fail)
    all_goals first
      | exact ⟨⟨_, rfl, rfl, code, rfl, (by unfold R_spec_DrawNodePropose; exact ⟨n, _, rfl, hdn⟩)⟩, (by omega), h0_⟩
      | (refine ⟨⟨i + 1, entN n (IntKind.i64.wrap (n.ep + 1)), ⟨rfl, rfl, rfl, rfl, congrArg I (wrap_up (n := 4) hi' (by decide)), trivial⟩, hi', drN_ent hdn (by rw [hwe]; omega), hk_, (by rw [entN_seen]; exact hk_), hk_, hk_, hk_, ne_, (by omega), (by omega)⟩, ?_⟩; show 4 - ix (I _) < 4 - ix (I _); simp only [wrap_up (n := 4) hi' (by decide), ix, Int.toNat_natCast]; omega)
  · have hi5 : i = 4 := by omega
    subst hi5
    repeat' ((conv => whnf); first
      | refine ⟨_, ldc_cells hk_ (Nat.le_of_ble_eq_true rfl), ?_⟩
      | refine ⟨rfl, ?_⟩
      | (refine ⟨?_, _, (?_ : (_ : Option Ob) = _), rfl, rfl, ?_, ?_⟩; rotate_left; (exact hk_); exact Nat.le_of_ble_eq_true rfl)
      | (refine ⟨fun hc => ?_, fun hc => ?_⟩ <;> (try simp (disch := omega) only [List.length_map, wrap64] at hc) <;> (try (exfalso; first | contradiction | omega)))
      | (refine callrd (by exact hk_) rfl rfl ⟨_, rfl, (by exact pr_)⟩ v_spec_l71AnyPay (by omega) (fun r hr => ?_); have hj := K_spec_l71AnyPay (a := _) hr; clear hr; obtain ⟨p, rfl⟩ := hj)
      | fail)
    exact ⟨⟨_, rfl, rfl, code, rfl, (by unfold R_spec_DrawNodePropose; exact ⟨n, _, rfl, hdn⟩)⟩, (by omega), h0_⟩
end Av
end Go.Proofs.Ytfijfccgghhkoaa

namespace Go.Proofs.Ytfijfccgghhkoaa
namespace Av
open Go.RowKit
/-- One number behind the other, azz the machine adds. -/
def Nxt (a b : Int) : Prop := IntKind.i64.wrap (a + 1) = b
/-- Three epochs, one behind the other, the last one at place i + 2. -/
def Con3 (c : List It) (i : Nat) : Prop := ∃ x y z : It, c[i]? = some x ∧ c[i + 1]? = some y ∧ c[i + 2]? = some z ∧ Nxt x.e y.e ∧ Nxt y.e z.e
/-- How much is final, of the first m + 2 items. -/
noncomputable def finAt (c : List It) : Nat → Nat
  | 0 => 0
  | m + 1 => if tb (Con3 c m) = true then m + 2 else finAt c m
noncomputable def finIn (c : List It) : Nat := finAt c (c.length - 2)
noncomputable def shwn (o c : List It) : List It := if finIn o < finIn c then c else o
noncomputable def shown (l : List Vo) : List It := (allS l).foldl shwn []
noncomputable def fin (l : List Vo) : List It := (shown l).take (finIn (shown l))
noncomputable def tipT (l : List Vo) : List It := if tb (VotesOk l) = true then tip l else []
theorem tip_ok {l : List Vo} (h : VotesOk l) : tipT l = tip l := by unfold tipT; rw [tb_pos h]; rfl
noncomputable def S_impl_TreeTip : FSpec := oF (α := (List Vo)) (fun a => [one (vsF a)]) (fun a => FitVs a ∧ a.length < LIM) (fun a => chF (tipT a)) (fun _ => rfl)
theorem K_impl_TreeTip {a : (List Vo)} {r : AV} (h : S_impl_TreeTip.post ([one (vsF a)]) r) : r = one (chF (tipT a)) :=
  oF_post (hcl := fun _ => rfl) (a := a) (by intro a b h; simpa only [List.cons.injEq, and_true, true_and, one_inj, agg_inj, paF_inj, itF_inj, chF_inj, voF_inj, vsF_inj, csF_inj, nsF_inj, nssF_inj, ndF_inj, ceF_inj, woF_inj, evF_inj, byF_inj, ndsF_inj, evsF_inj, pasF_inj, aI_inj, aB_inj, aRp_inj, fI_inj, fBo_inj] using h) h
end Av
end Go.Proofs.Ytfijfccgghhkoaa

