/- The walk: what is final of a cert, of one's own. -/
import Derived.Test.YtmboljfckljjhaaCK
import Derived.Test.YtmboljfckljjhaaU2
import Derived.Test.YtmboljfckljjhaaFC
set_option linter.unusedVariables false
set_option linter.unusedSimpArgs false
namespace Go.Proofs.Ytmboljfckljjhaa
namespace Av
open Go.RowKit

attribute [local irreducible] Valid ValidM
set_option maxHeartbeats 4000000 in
set_option maxRecDepth 100000 in
theorem v_impl_CertFinal_o : ValidM Try.prog n_impl_CertFinal_o S_impl_CertFinal_o := by
  refine validM_of_swp mixed is_impl_CertFinal_o (by rintro _ _ ⟨a, rfl, _⟩; exact Nat.le_of_ble_eq_true rfl) ?_
  rintro _ _ rm ⟨c, rfl, rfl, hpre⟩ hl
  try dsimp only at hpre
  change swp _ _ _ _ _ 0 _
  have hc1 : c.c.length ≤ LIM := hpre.1
  have hp1 := hpre
  have hL := hc1
  simp only [LIM] at hL
  by_cases hok : CertOk c
  · have hok0 := hok
    obtain ⟨_, h3, _⟩ := hok
    have e := certFin_ok hok0
    have hw : IntKind.i64.wrap (((c.c.map itF).length : Int) - 1) = ((c.c.length - 1 : Nat) : Int) := by rw [List.length_map, wrap64] <;> omega
    repeat' ((conv => whnf); first
      | (refine ⟨_, slc_to (congrArg I hw) (by simp only [List.length_map]; omega), ?_⟩; rw [map_take'])
      | refine ⟨_, rfl, ?_⟩
      | refine ⟨rfl, ?_⟩
      | (refine callt (b := [agg (ceF ⟨_, _⟩)]) v_impl_CertOk rfl ⟨⟨_, _⟩, rfl, (by exact pr_)⟩ (.inl rfl) (by first | assumption | omega) (fun r hr => K_impl_CertOk (a := ⟨_, _⟩) hr) (fun hj => ?_) (fun hj => ?_) <;> (try simp only [etaPa, etaIt, etaVo] at hj) <;> (try contradiction))
      | fail)
    conv => whnf
    refine OQ.mk1 (ar := [one (chF (c.c.take (c.c.length - 1)))]) (by rfl) ⟨c.c.take (c.c.length - 1), rfl, by show (c.c.take (c.c.length - 1)).length ≤ LIM; rw [List.length_take]; omega⟩ vO_impl_copied (so_impl_copied _) ?_
    conv => whnf
    exact finM_new (F := itF) (T := ty_impl_Item) (sz := 4) (l := c.c.take (c.c.length - 1)) (Nat.le_refl _) hupd_at ⟨⟨_, rfl, .inl rfl⟩, trivial⟩ ⟨c, rfl, rfl, .inr ⟨rfl, by rw [e]⟩⟩
  · have e := certFin_no hok
    repeat' ((conv => whnf); first
      | refine ⟨_, rfl, ?_⟩
      | (refine callt (b := [agg (ceF ⟨_, _⟩)]) v_impl_CertOk rfl ⟨⟨_, _⟩, rfl, (by exact pr_)⟩ (.inl rfl) (by first | assumption | omega) (fun r hr => K_impl_CertOk (a := ⟨_, _⟩) hr) (fun hj => ?_) (fun hj => ?_) <;> (try simp only [etaPa, etaIt, etaVo] at hj) <;> (try contradiction))
      | fail)
    conv => whnf
    exact finM_e0 (Nat.le_refl _) ⟨⟨_, rfl, .inl rfl⟩, trivial⟩ ⟨c, rfl, rfl, .inl ⟨rfl, rfl, e⟩⟩
theorem vO_impl_CertFinal : ValidM Try.prog n_impl_CertFinal SO_impl_CertFinal.toM := by
  refine valid_O v_impl_CertFinal_o rfl (fun args ⟨l, h, hp⟩ => ⟨l, h, rfl, hp⟩) fun args r obs' ⟨l, h, hp⟩ hq => ?_
  subst h
  rw [so_impl_CertFinal]
  rcases K_impl_CertFinal_o hq with ⟨h1, h2, h3⟩ | ⟨h1, h2⟩
  · exact .inl ⟨h1, h2, ty_impl_Item, 4, by rw [h3]; rfl⟩
  · exact .inr ⟨h1, h2⟩
end Av
end Go.Proofs.Ytmboljfckljjhaa
