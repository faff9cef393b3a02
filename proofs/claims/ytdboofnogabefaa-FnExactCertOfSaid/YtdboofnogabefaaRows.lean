/-
  No cell of these rows narrows 'for every input' (looked for: loops, veiled, ifaces, maps, wideKeys, modest, calm, conditions, laid).
  DERIVED. THE GIVEN ROWS OF THIS SEAT. 6 by the template 'for every input the law returns true; each argument reads behind the call as it read before'; 0 by the template 'total and deterministic' (their statements: YtdboofnogabefaaTotals.lean).
  GIVEN WITH THE SEED: the statements are not yours to turn. If you find one false, say at which input.
  Laid BY PROGRAM, IN A SANDBOX (cutbox-rows.mjs): the forced cells as the released guide's own fill.sh prints them over the translation 4a8d39522fc5a317… (all of the seat's roots in one cut). By AI agents, Wed Nov 11 2026. No macro, syntax, notation, axiom, sorry.
-/
import Derived.Test.YtdboofnogabefaaChecked
import GoSem.Claim
import GoSem.ClaimJoined
import GoSem.ClaimMapViews
import Derived.JoinedTies
import Derived.KernelRfl
namespace Go.Proofs.Ytdboofnogabefaa
/- THE CELL 'sum', in the pinned program and in every row, IS THE sha256 OF THE DUMP (.gsa) THAT YtdboofnogabefaaProg.lean LOADS. Nothing in Lean hashes anything: it is a label: what it is worth is what the hold of that sum in a sandbox is worth. -/
noncomputable def Try.pinned : Pinned := { name := "ytdboofnogabefaa", sum := "4a8d39522fc5a317acdc8af6990a8060783235a88baf87d24f57549998237a6c", checked := Try.checked }
namespace Rows
def none {H : Type} : Left H := { results := [], args := [] }

/-- 'laws.FnNodeNew': WHATEVER THE INPUT: true; the input reads as it did. -/
def fnNodeNewSpec : ChangeSpec := { name := "fnNodeNew", fn := fun _ => fun
  | [d] => { results := [.lit (.bool true)], args := [d] }
  | _ => none }
def fnNodeNewRow : OpenClaim := { program := "ytdboofnogabefaa", sum := "4a8d39522fc5a317acdc8af6990a8060783235a88baf87d24f57549998237a6c", func := "loop.example/witan/laws.FnNodeNew", spec := "fnNodeNew", unfollowed := true, recurses := true, apart := false }
def FnNodeNewSaid : Prop := fnNodeNewRow.holds Try.pinned (OpenSpec.ofChange fnNodeNewSpec)

/-- ITS FALSE NEIGHBOUR: 'it returns false'. Refute it at one input. -/
def fnNodeNewWrong : ChangeSpec := { name := "fnNodeNew", fn := fun _ => fun
  | [d] => { results := [.lit (.bool false)], args := [d] }
  | _ => none }
def FnNodeNewWrongFalsely : Prop := fnNodeNewRow.holds Try.pinned (OpenSpec.ofChange fnNodeNewWrong)

/-- 'laws.FnCertBook': WHATEVER THE INPUT: true; the input reads as it did. -/
def fnCertBookSpec : ChangeSpec := { name := "fnCertBook", fn := fun _ => fun
  | [d] => { results := [.lit (.bool true)], args := [d] }
  | _ => none }
def fnCertBookRow : OpenClaim := { program := "ytdboofnogabefaa", sum := "4a8d39522fc5a317acdc8af6990a8060783235a88baf87d24f57549998237a6c", func := "loop.example/witan/laws.FnCertBook", spec := "fnCertBook", unfollowed := true, recurses := true, apart := false }
def FnCertBookSaid : Prop := fnCertBookRow.holds Try.pinned (OpenSpec.ofChange fnCertBookSpec)

/-- ITS FALSE NEIGHBOUR: 'it returns false'. Refute it at one input. -/
def fnCertBookWrong : ChangeSpec := { name := "fnCertBook", fn := fun _ => fun
  | [d] => { results := [.lit (.bool false)], args := [d] }
  | _ => none }
def FnCertBookWrongFalsely : Prop := fnCertBookRow.holds Try.pinned (OpenSpec.ofChange fnCertBookWrong)

/-- 'laws.FnExactNodeBook': WHATEVER THE INPUT: true; the input reads as it did. -/
def fnExactNodeBookSpec : ChangeSpec := { name := "fnExactNodeBook", fn := fun _ => fun
  | [d] => { results := [.lit (.bool true)], args := [d] }
  | _ => none }
def fnExactNodeBookRow : OpenClaim := { program := "ytdboofnogabefaa", sum := "4a8d39522fc5a317acdc8af6990a8060783235a88baf87d24f57549998237a6c", func := "loop.example/witan/laws.FnExactNodeBook", spec := "fnExactNodeBook", unfollowed := true, recurses := true, apart := false }
def FnExactNodeBookSaid : Prop := fnExactNodeBookRow.holds Try.pinned (OpenSpec.ofChange fnExactNodeBookSpec)

/-- ITS FALSE NEIGHBOUR: 'it returns false'. Refute it at one input. -/
def fnExactNodeBookWrong : ChangeSpec := { name := "fnExactNodeBook", fn := fun _ => fun
  | [d] => { results := [.lit (.bool false)], args := [d] }
  | _ => none }
def FnExactNodeBookWrongFalsely : Prop := fnExactNodeBookRow.holds Try.pinned (OpenSpec.ofChange fnExactNodeBookWrong)

/-- 'laws.FnExactCertOf': WHATEVER THE INPUT: true; the input reads as it did. -/
def fnExactCertOfSpec : ChangeSpec := { name := "fnExactCertOf", fn := fun _ => fun
  | [d] => { results := [.lit (.bool true)], args := [d] }
  | _ => none }
def fnExactCertOfRow : OpenClaim := { program := "ytdboofnogabefaa", sum := "4a8d39522fc5a317acdc8af6990a8060783235a88baf87d24f57549998237a6c", func := "loop.example/witan/laws.FnExactCertOf", spec := "fnExactCertOf", unfollowed := true, recurses := true, apart := false }
def FnExactCertOfSaid : Prop := fnExactCertOfRow.holds Try.pinned (OpenSpec.ofChange fnExactCertOfSpec)

/-- ITS FALSE NEIGHBOUR: 'it returns false'. Refute it at one input. -/
def fnExactCertOfWrong : ChangeSpec := { name := "fnExactCertOf", fn := fun _ => fun
  | [d] => { results := [.lit (.bool false)], args := [d] }
  | _ => none }
def FnExactCertOfWrongFalsely : Prop := fnExactCertOfRow.holds Try.pinned (OpenSpec.ofChange fnExactCertOfWrong)

/-- 'laws.FnExactNodePropose': WHATEVER THE INPUT: true; the input reads as it did. -/
def fnExactNodeProposeSpec : ChangeSpec := { name := "fnExactNodePropose", fn := fun _ => fun
  | [d1, d2] => { results := [.lit (.bool true)], args := [d1, d2] }
  | _ => none }
def fnExactNodeProposeRow : OpenClaim := { program := "ytdboofnogabefaa", sum := "4a8d39522fc5a317acdc8af6990a8060783235a88baf87d24f57549998237a6c", func := "loop.example/witan/laws.FnExactNodePropose", spec := "fnExactNodePropose", unfollowed := true, recurses := true, apart := false }
def FnExactNodeProposeSaid : Prop := fnExactNodeProposeRow.holds Try.pinned (OpenSpec.ofChange fnExactNodeProposeSpec)

/-- ITS FALSE NEIGHBOUR: 'it returns false'. Refute it at one input. -/
def fnExactNodeProposeWrong : ChangeSpec := { name := "fnExactNodePropose", fn := fun _ => fun
  | [d1, d2] => { results := [.lit (.bool false)], args := [d1, d2] }
  | _ => none }
def FnExactNodeProposeWrongFalsely : Prop := fnExactNodeProposeRow.holds Try.pinned (OpenSpec.ofChange fnExactNodeProposeWrong)

/-- 'laws.FnExactNodeHear': WHATEVER THE INPUT: true; the input reads as it did. -/
def fnExactNodeHearSpec : ChangeSpec := { name := "fnExactNodeHear", fn := fun _ => fun
  | [d1, d2] => { results := [.lit (.bool true)], args := [d1, d2] }
  | _ => none }
def fnExactNodeHearRow : OpenClaim := { program := "ytdboofnogabefaa", sum := "4a8d39522fc5a317acdc8af6990a8060783235a88baf87d24f57549998237a6c", func := "loop.example/witan/laws.FnExactNodeHear", spec := "fnExactNodeHear", unfollowed := true, recurses := true, apart := false }
def FnExactNodeHearSaid : Prop := fnExactNodeHearRow.holds Try.pinned (OpenSpec.ofChange fnExactNodeHearSpec)

/-- ITS FALSE NEIGHBOUR: 'it returns false'. Refute it at one input. -/
def fnExactNodeHearWrong : ChangeSpec := { name := "fnExactNodeHear", fn := fun _ => fun
  | [d1, d2] => { results := [.lit (.bool false)], args := [d1, d2] }
  | _ => none }
def FnExactNodeHearWrongFalsely : Prop := fnExactNodeHearRow.holds Try.pinned (OpenSpec.ofChange fnExactNodeHearWrong)

/- THE SECOND FORM. 'bulk': how many values and letters a reading holds, each counted each time it is reached (what is shared counts as often as it is met; a slice's spare places count too). A statement '..UptoSaid' is the law's where the arguments, and the package variables that the reading takes, are together of bulk at most 1048576: NARROWER than '..Said'. Prove '..Said' where nothing that the law and all that it calls make is longer than what came in: it says more and counts as full. Else prove '..UptoSaid'. A law counts once. -/
mutual
def uptoBulk {H : Type} : DataW H → Nat
  | .lit (.string bytes) => bytes.length + 1
  | .lit _ => 1
  | .nil => 1
  | .ptr d => uptoBulk d + 1
  | .slice elems spare => uptoBulkAll elems + uptoBulkAll spare + 1
  | .agg parts => uptoBulkAll parts + 1
  | .iface _ d => uptoBulk d + 1
  | .map entries => uptoBulkEntries entries + 1
  | .held _ => 1
def uptoBulkAll {H : Type} : List (DataW H) → Nat
  | [] => 0
  | d :: r => uptoBulk d + uptoBulkAll r
def uptoBulkEntries {H : Type} : List (Lit × DataW H) → Nat
  | [] => 0
  | x :: r => uptoBulkEntry x + uptoBulkEntries r
def uptoBulkEntry {H : Type} : Lit × DataW H → Nat
  | (.string bytes, d) => bytes.length + uptoBulk d + 1
  | (_, d) => uptoBulk d + 1
 end
def uptoSmall : (H : Type) → List (DataW H) → Bool := fun _ ds => decide (uptoBulkAll ds ≤ 1048576)
def OpenSpec.upto (s : _root_.Go.ChangeSpec) : _root_.Go.OpenSpec := { _root_.Go.OpenSpec.ofChange s with cond := some uptoSmall }

/-- 'laws.FnNodeNew', WHERE WHAT IT READS IS OF BULK AT MOST 1048576: true; the input reads as it did. -/
def fnNodeNewUptoRow : OpenClaim := { program := "ytdboofnogabefaa", sum := "4a8d39522fc5a317acdc8af6990a8060783235a88baf87d24f57549998237a6c", func := "loop.example/witan/laws.FnNodeNew", spec := "fnNodeNew", unfollowed := true, recurses := true, apart := false, narrowed := true }
def FnNodeNewUptoSaid : Prop := fnNodeNewUptoRow.holds Try.pinned (OpenSpec.upto fnNodeNewSpec)

/-- 'laws.FnCertBook', WHERE WHAT IT READS IS OF BULK AT MOST 1048576: true; the input reads as it did. -/
def fnCertBookUptoRow : OpenClaim := { program := "ytdboofnogabefaa", sum := "4a8d39522fc5a317acdc8af6990a8060783235a88baf87d24f57549998237a6c", func := "loop.example/witan/laws.FnCertBook", spec := "fnCertBook", unfollowed := true, recurses := true, apart := false, narrowed := true }
def FnCertBookUptoSaid : Prop := fnCertBookUptoRow.holds Try.pinned (OpenSpec.upto fnCertBookSpec)

/-- 'laws.FnExactNodeBook', WHERE WHAT IT READS IS OF BULK AT MOST 1048576: true; the input reads as it did. -/
def fnExactNodeBookUptoRow : OpenClaim := { program := "ytdboofnogabefaa", sum := "4a8d39522fc5a317acdc8af6990a8060783235a88baf87d24f57549998237a6c", func := "loop.example/witan/laws.FnExactNodeBook", spec := "fnExactNodeBook", unfollowed := true, recurses := true, apart := false, narrowed := true }
def FnExactNodeBookUptoSaid : Prop := fnExactNodeBookUptoRow.holds Try.pinned (OpenSpec.upto fnExactNodeBookSpec)

/-- 'laws.FnExactCertOf', WHERE WHAT IT READS IS OF BULK AT MOST 1048576: true; the input reads as it did. -/
def fnExactCertOfUptoRow : OpenClaim := { program := "ytdboofnogabefaa", sum := "4a8d39522fc5a317acdc8af6990a8060783235a88baf87d24f57549998237a6c", func := "loop.example/witan/laws.FnExactCertOf", spec := "fnExactCertOf", unfollowed := true, recurses := true, apart := false, narrowed := true }
def FnExactCertOfUptoSaid : Prop := fnExactCertOfUptoRow.holds Try.pinned (OpenSpec.upto fnExactCertOfSpec)

/-- 'laws.FnExactNodePropose', WHERE WHAT IT READS IS OF BULK AT MOST 1048576: true; the input reads as it did. -/
def fnExactNodeProposeUptoRow : OpenClaim := { program := "ytdboofnogabefaa", sum := "4a8d39522fc5a317acdc8af6990a8060783235a88baf87d24f57549998237a6c", func := "loop.example/witan/laws.FnExactNodePropose", spec := "fnExactNodePropose", unfollowed := true, recurses := true, apart := false, narrowed := true }
def FnExactNodeProposeUptoSaid : Prop := fnExactNodeProposeUptoRow.holds Try.pinned (OpenSpec.upto fnExactNodeProposeSpec)

/-- 'laws.FnExactNodeHear', WHERE WHAT IT READS IS OF BULK AT MOST 1048576: true; the input reads as it did. -/
def fnExactNodeHearUptoRow : OpenClaim := { program := "ytdboofnogabefaa", sum := "4a8d39522fc5a317acdc8af6990a8060783235a88baf87d24f57549998237a6c", func := "loop.example/witan/laws.FnExactNodeHear", spec := "fnExactNodeHear", unfollowed := true, recurses := true, apart := false, narrowed := true }
def FnExactNodeHearUptoSaid : Prop := fnExactNodeHearUptoRow.holds Try.pinned (OpenSpec.upto fnExactNodeHearSpec)

end Rows
end Go.Proofs.Ytdboofnogabefaa
