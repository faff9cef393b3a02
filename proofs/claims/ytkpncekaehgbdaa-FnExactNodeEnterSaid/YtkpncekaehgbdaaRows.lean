/-
  No cell of these rows narrows 'for every input' (looked for: loops, veiled, ifaces, maps, wideKeys, modest, calm, conditions, laid).
  DERIVED. THE GIVEN ROWS OF THIS SEAT. 12 by the template 'for every input the law returns true; each argument reads behind the call as it read before'; 0 by the template 'total and deterministic' (their statements: YtkpncekaehgbdaaTotals.lean).
  GIVEN WITH THE SEED: the statements are not yours to turn. If you find one false, say at which input.
  Laid BY PROGRAM, IN A SANDBOX (cutbox-rows.mjs): the forced cells as the released guide's own fill.sh prints them over the translation 698686dc3b7b4566… (all of the seat's roots in one cut). By AI agents, Wed Nov 11 2026. No macro, syntax, notation, axiom, sorry.
-/
import Derived.Test.YtkpncekaehgbdaaChecked
import GoSem.Claim
import GoSem.ClaimJoined
import GoSem.ClaimMapViews
import Derived.JoinedTies
import Derived.KernelRfl
namespace Go.Proofs.Ytkpncekaehgbdaa
/- THE CELL 'sum', in the pinned program and in every row, IS THE sha256 OF THE DUMP (.gsa) THAT YtkpncekaehgbdaaProg.lean LOADS. Nothing in Lean hashes anything: it is a label: what it is worth is what the hold of that sum in a sandbox is worth. -/
noncomputable def Try.pinned : Pinned := { name := "ytkpncekaehgbdaa", sum := "698686dc3b7b4566ff62ba1918baedbd0c62ffb6a4560cd108e53ea7bb9c5aeb", checked := Try.checked }
namespace Rows
def none {H : Type} : Left H := { results := [], args := [] }

/-- 'laws.FnHearEpoch': WHATEVER THE INPUT: true; the input reads as it did. -/
def fnHearEpochSpec : ChangeSpec := { name := "fnHearEpoch", fn := fun _ => fun
  | [d1, d2] => { results := [.lit (.bool true)], args := [d1, d2] }
  | _ => none }
def fnHearEpochRow : OpenClaim := { program := "ytkpncekaehgbdaa", sum := "698686dc3b7b4566ff62ba1918baedbd0c62ffb6a4560cd108e53ea7bb9c5aeb", func := "loop.example/witan/laws.FnHearEpoch", spec := "fnHearEpoch", unfollowed := true, recurses := true, apart := false }
def FnHearEpochSaid : Prop := fnHearEpochRow.holds Try.pinned (OpenSpec.ofChange fnHearEpochSpec)

/-- ITS FALSE NEIGHBOUR: 'it returns false'. Refute it at one input. -/
def fnHearEpochWrong : ChangeSpec := { name := "fnHearEpoch", fn := fun _ => fun
  | [d1, d2] => { results := [.lit (.bool false)], args := [d1, d2] }
  | _ => none }
def FnHearEpochWrongFalsely : Prop := fnHearEpochRow.holds Try.pinned (OpenSpec.ofChange fnHearEpochWrong)

/-- 'laws.FnHearSees': WHATEVER THE INPUT: true; the input reads as it did. -/
def fnHearSeesSpec : ChangeSpec := { name := "fnHearSees", fn := fun _ => fun
  | [d] => { results := [.lit (.bool true)], args := [d] }
  | _ => none }
def fnHearSeesRow : OpenClaim := { program := "ytkpncekaehgbdaa", sum := "698686dc3b7b4566ff62ba1918baedbd0c62ffb6a4560cd108e53ea7bb9c5aeb", func := "loop.example/witan/laws.FnHearSees", spec := "fnHearSees", unfollowed := true, recurses := true, apart := false }
def FnHearSeesSaid : Prop := fnHearSeesRow.holds Try.pinned (OpenSpec.ofChange fnHearSeesSpec)

/-- ITS FALSE NEIGHBOUR: 'it returns false'. Refute it at one input. -/
def fnHearSeesWrong : ChangeSpec := { name := "fnHearSees", fn := fun _ => fun
  | [d] => { results := [.lit (.bool false)], args := [d] }
  | _ => none }
def FnHearSeesWrongFalsely : Prop := fnHearSeesRow.holds Try.pinned (OpenSpec.ofChange fnHearSeesWrong)

/-- 'laws.FnExactNodeEnter': WHATEVER THE INPUT: true; the input reads as it did. -/
def fnExactNodeEnterSpec : ChangeSpec := { name := "fnExactNodeEnter", fn := fun _ => fun
  | [d1, d2] => { results := [.lit (.bool true)], args := [d1, d2] }
  | _ => none }
def fnExactNodeEnterRow : OpenClaim := { program := "ytkpncekaehgbdaa", sum := "698686dc3b7b4566ff62ba1918baedbd0c62ffb6a4560cd108e53ea7bb9c5aeb", func := "loop.example/witan/laws.FnExactNodeEnter", spec := "fnExactNodeEnter", unfollowed := true, recurses := true, apart := false }
def FnExactNodeEnterSaid : Prop := fnExactNodeEnterRow.holds Try.pinned (OpenSpec.ofChange fnExactNodeEnterSpec)

/-- ITS FALSE NEIGHBOUR: 'it returns false'. Refute it at one input. -/
def fnExactNodeEnterWrong : ChangeSpec := { name := "fnExactNodeEnter", fn := fun _ => fun
  | [d1, d2] => { results := [.lit (.bool false)], args := [d1, d2] }
  | _ => none }
def FnExactNodeEnterWrongFalsely : Prop := fnExactNodeEnterRow.holds Try.pinned (OpenSpec.ofChange fnExactNodeEnterWrong)

/-- 'laws.FnExactNodePropose': WHATEVER THE INPUT: true; the input reads as it did. -/
def fnExactNodeProposeSpec : ChangeSpec := { name := "fnExactNodePropose", fn := fun _ => fun
  | [d1, d2] => { results := [.lit (.bool true)], args := [d1, d2] }
  | _ => none }
def fnExactNodeProposeRow : OpenClaim := { program := "ytkpncekaehgbdaa", sum := "698686dc3b7b4566ff62ba1918baedbd0c62ffb6a4560cd108e53ea7bb9c5aeb", func := "loop.example/witan/laws.FnExactNodePropose", spec := "fnExactNodePropose", unfollowed := true, recurses := true, apart := false }
def FnExactNodeProposeSaid : Prop := fnExactNodeProposeRow.holds Try.pinned (OpenSpec.ofChange fnExactNodeProposeSpec)

/-- ITS FALSE NEIGHBOUR: 'it returns false'. Refute it at one input. -/
def fnExactNodeProposeWrong : ChangeSpec := { name := "fnExactNodePropose", fn := fun _ => fun
  | [d1, d2] => { results := [.lit (.bool false)], args := [d1, d2] }
  | _ => none }
def FnExactNodeProposeWrongFalsely : Prop := fnExactNodeProposeRow.holds Try.pinned (OpenSpec.ofChange fnExactNodeProposeWrong)

/-- 'laws.FnEnterTwice': WHATEVER THE INPUT: true; the input reads as it did. -/
def fnEnterTwiceSpec : ChangeSpec := { name := "fnEnterTwice", fn := fun _ => fun
  | [d1, d2] => { results := [.lit (.bool true)], args := [d1, d2] }
  | _ => none }
def fnEnterTwiceRow : OpenClaim := { program := "ytkpncekaehgbdaa", sum := "698686dc3b7b4566ff62ba1918baedbd0c62ffb6a4560cd108e53ea7bb9c5aeb", func := "loop.example/witan/laws.FnEnterTwice", spec := "fnEnterTwice", unfollowed := true, recurses := true, apart := false }
def FnEnterTwiceSaid : Prop := fnEnterTwiceRow.holds Try.pinned (OpenSpec.ofChange fnEnterTwiceSpec)

/-- ITS FALSE NEIGHBOUR: 'it returns false'. Refute it at one input. -/
def fnEnterTwiceWrong : ChangeSpec := { name := "fnEnterTwice", fn := fun _ => fun
  | [d1, d2] => { results := [.lit (.bool false)], args := [d1, d2] }
  | _ => none }
def FnEnterTwiceWrongFalsely : Prop := fnEnterTwiceRow.holds Try.pinned (OpenSpec.ofChange fnEnterTwiceWrong)

/-- 'laws.FnNodeEnter': WHATEVER THE INPUT: true; the input reads as it did. -/
def fnNodeEnterSpec : ChangeSpec := { name := "fnNodeEnter", fn := fun _ => fun
  | [d] => { results := [.lit (.bool true)], args := [d] }
  | _ => none }
def fnNodeEnterRow : OpenClaim := { program := "ytkpncekaehgbdaa", sum := "698686dc3b7b4566ff62ba1918baedbd0c62ffb6a4560cd108e53ea7bb9c5aeb", func := "loop.example/witan/laws.FnNodeEnter", spec := "fnNodeEnter", unfollowed := true, recurses := true, apart := false }
def FnNodeEnterSaid : Prop := fnNodeEnterRow.holds Try.pinned (OpenSpec.ofChange fnNodeEnterSpec)

/-- ITS FALSE NEIGHBOUR: 'it returns false'. Refute it at one input. -/
def fnNodeEnterWrong : ChangeSpec := { name := "fnNodeEnter", fn := fun _ => fun
  | [d] => { results := [.lit (.bool false)], args := [d] }
  | _ => none }
def FnNodeEnterWrongFalsely : Prop := fnNodeEnterRow.holds Try.pinned (OpenSpec.ofChange fnNodeEnterWrong)

/-- 'laws.FnExactNodeBook': WHATEVER THE INPUT: true; the input reads as it did. -/
def fnExactNodeBookSpec : ChangeSpec := { name := "fnExactNodeBook", fn := fun _ => fun
  | [d] => { results := [.lit (.bool true)], args := [d] }
  | _ => none }
def fnExactNodeBookRow : OpenClaim := { program := "ytkpncekaehgbdaa", sum := "698686dc3b7b4566ff62ba1918baedbd0c62ffb6a4560cd108e53ea7bb9c5aeb", func := "loop.example/witan/laws.FnExactNodeBook", spec := "fnExactNodeBook", unfollowed := true, recurses := true, apart := false }
def FnExactNodeBookSaid : Prop := fnExactNodeBookRow.holds Try.pinned (OpenSpec.ofChange fnExactNodeBookSpec)

/-- ITS FALSE NEIGHBOUR: 'it returns false'. Refute it at one input. -/
def fnExactNodeBookWrong : ChangeSpec := { name := "fnExactNodeBook", fn := fun _ => fun
  | [d] => { results := [.lit (.bool false)], args := [d] }
  | _ => none }
def FnExactNodeBookWrongFalsely : Prop := fnExactNodeBookRow.holds Try.pinned (OpenSpec.ofChange fnExactNodeBookWrong)

/-- 'laws.FnExactNodeHear': WHATEVER THE INPUT: true; the input reads as it did. -/
def fnExactNodeHearSpec : ChangeSpec := { name := "fnExactNodeHear", fn := fun _ => fun
  | [d1, d2] => { results := [.lit (.bool true)], args := [d1, d2] }
  | _ => none }
def fnExactNodeHearRow : OpenClaim := { program := "ytkpncekaehgbdaa", sum := "698686dc3b7b4566ff62ba1918baedbd0c62ffb6a4560cd108e53ea7bb9c5aeb", func := "loop.example/witan/laws.FnExactNodeHear", spec := "fnExactNodeHear", unfollowed := true, recurses := true, apart := false }
def FnExactNodeHearSaid : Prop := fnExactNodeHearRow.holds Try.pinned (OpenSpec.ofChange fnExactNodeHearSpec)

/-- ITS FALSE NEIGHBOUR: 'it returns false'. Refute it at one input. -/
def fnExactNodeHearWrong : ChangeSpec := { name := "fnExactNodeHear", fn := fun _ => fun
  | [d1, d2] => { results := [.lit (.bool false)], args := [d1, d2] }
  | _ => none }
def FnExactNodeHearWrongFalsely : Prop := fnExactNodeHearRow.holds Try.pinned (OpenSpec.ofChange fnExactNodeHearWrong)

/-- 'laws.FnProposeNot': WHATEVER THE INPUT: true; the input reads as it did. -/
def fnProposeNotSpec : ChangeSpec := { name := "fnProposeNot", fn := fun _ => fun
  | [d] => { results := [.lit (.bool true)], args := [d] }
  | _ => none }
def fnProposeNotRow : OpenClaim := { program := "ytkpncekaehgbdaa", sum := "698686dc3b7b4566ff62ba1918baedbd0c62ffb6a4560cd108e53ea7bb9c5aeb", func := "loop.example/witan/laws.FnProposeNot", spec := "fnProposeNot", unfollowed := true, recurses := true, apart := false }
def FnProposeNotSaid : Prop := fnProposeNotRow.holds Try.pinned (OpenSpec.ofChange fnProposeNotSpec)

/-- ITS FALSE NEIGHBOUR: 'it returns false'. Refute it at one input. -/
def fnProposeNotWrong : ChangeSpec := { name := "fnProposeNot", fn := fun _ => fun
  | [d] => { results := [.lit (.bool false)], args := [d] }
  | _ => none }
def FnProposeNotWrongFalsely : Prop := fnProposeNotRow.holds Try.pinned (OpenSpec.ofChange fnProposeNotWrong)

/-- 'laws.FnPropose': WHATEVER THE INPUT: true; the input reads as it did. -/
def fnProposeSpec : ChangeSpec := { name := "fnPropose", fn := fun _ => fun
  | [d] => { results := [.lit (.bool true)], args := [d] }
  | _ => none }
def fnProposeRow : OpenClaim := { program := "ytkpncekaehgbdaa", sum := "698686dc3b7b4566ff62ba1918baedbd0c62ffb6a4560cd108e53ea7bb9c5aeb", func := "loop.example/witan/laws.FnPropose", spec := "fnPropose", unfollowed := true, recurses := true, apart := false }
def FnProposeSaid : Prop := fnProposeRow.holds Try.pinned (OpenSpec.ofChange fnProposeSpec)

/-- ITS FALSE NEIGHBOUR: 'it returns false'. Refute it at one input. -/
def fnProposeWrong : ChangeSpec := { name := "fnPropose", fn := fun _ => fun
  | [d] => { results := [.lit (.bool false)], args := [d] }
  | _ => none }
def FnProposeWrongFalsely : Prop := fnProposeRow.holds Try.pinned (OpenSpec.ofChange fnProposeWrong)

/-- 'laws.FnHearOther': WHATEVER THE INPUT: true; the input reads as it did. -/
def fnHearOtherSpec : ChangeSpec := { name := "fnHearOther", fn := fun _ => fun
  | [d] => { results := [.lit (.bool true)], args := [d] }
  | _ => none }
def fnHearOtherRow : OpenClaim := { program := "ytkpncekaehgbdaa", sum := "698686dc3b7b4566ff62ba1918baedbd0c62ffb6a4560cd108e53ea7bb9c5aeb", func := "loop.example/witan/laws.FnHearOther", spec := "fnHearOther", unfollowed := true, recurses := true, apart := false }
def FnHearOtherSaid : Prop := fnHearOtherRow.holds Try.pinned (OpenSpec.ofChange fnHearOtherSpec)

/-- ITS FALSE NEIGHBOUR: 'it returns false'. Refute it at one input. -/
def fnHearOtherWrong : ChangeSpec := { name := "fnHearOther", fn := fun _ => fun
  | [d] => { results := [.lit (.bool false)], args := [d] }
  | _ => none }
def FnHearOtherWrongFalsely : Prop := fnHearOtherRow.holds Try.pinned (OpenSpec.ofChange fnHearOtherWrong)

/-- 'laws.FnHearTwice': WHATEVER THE INPUT: true; the input reads as it did. -/
def fnHearTwiceSpec : ChangeSpec := { name := "fnHearTwice", fn := fun _ => fun
  | [d] => { results := [.lit (.bool true)], args := [d] }
  | _ => none }
def fnHearTwiceRow : OpenClaim := { program := "ytkpncekaehgbdaa", sum := "698686dc3b7b4566ff62ba1918baedbd0c62ffb6a4560cd108e53ea7bb9c5aeb", func := "loop.example/witan/laws.FnHearTwice", spec := "fnHearTwice", unfollowed := true, recurses := true, apart := false }
def FnHearTwiceSaid : Prop := fnHearTwiceRow.holds Try.pinned (OpenSpec.ofChange fnHearTwiceSpec)

/-- ITS FALSE NEIGHBOUR: 'it returns false'. Refute it at one input. -/
def fnHearTwiceWrong : ChangeSpec := { name := "fnHearTwice", fn := fun _ => fun
  | [d] => { results := [.lit (.bool false)], args := [d] }
  | _ => none }
def FnHearTwiceWrongFalsely : Prop := fnHearTwiceRow.holds Try.pinned (OpenSpec.ofChange fnHearTwiceWrong)

/- THE SECOND FORM. 'bulk': how many values and letters a reading holds, each counted each time it is reached (what is shared counts as often as it is met; a slice's spare places count too). A statement '..UptoSaid' is the law's where the arguments, and the package variables that the reading takes, are together of bulk at most 1048576: NARROWER than '..Said'. Prove '..Said' where nothing that the law and all that it calls make is longer than what came in: it says more and counts as full. Else prove '..UptoSaid'. A law counts once. -/
mutual
def uptoBulk {H : Type} : DataW H → Nat
  | .lit (.string bytes) => bytes.length + 1
  | .lit _ => 1
  | .nil => 1
  | .ptr d => uptoBulk d + 1
  | .slice elems spare => uptoBulkAll elems + uptoBulkAll spare + 1
  | .agg parts => uptoBulkAll parts + 1
  | .iface _ d => uptoBulk d + 1
  | .map entries => uptoBulkEntries entries + 1
  | .held _ => 1
def uptoBulkAll {H : Type} : List (DataW H) → Nat
  | [] => 0
  | d :: r => uptoBulk d + uptoBulkAll r
def uptoBulkEntries {H : Type} : List (Lit × DataW H) → Nat
  | [] => 0
  | x :: r => uptoBulkEntry x + uptoBulkEntries r
def uptoBulkEntry {H : Type} : Lit × DataW H → Nat
  | (.string bytes, d) => bytes.length + uptoBulk d + 1
  | (_, d) => uptoBulk d + 1
 end
def uptoSmall : (H : Type) → List (DataW H) → Bool := fun _ ds => decide (uptoBulkAll ds ≤ 1048576)
def OpenSpec.upto (s : _root_.Go.ChangeSpec) : _root_.Go.OpenSpec := { _root_.Go.OpenSpec.ofChange s with cond := some uptoSmall }

/-- 'laws.FnHearEpoch', WHERE WHAT IT READS IS OF BULK AT MOST 1048576: true; the input reads as it did. -/
def fnHearEpochUptoRow : OpenClaim := { program := "ytkpncekaehgbdaa", sum := "698686dc3b7b4566ff62ba1918baedbd0c62ffb6a4560cd108e53ea7bb9c5aeb", func := "loop.example/witan/laws.FnHearEpoch", spec := "fnHearEpoch", unfollowed := true, recurses := true, apart := false, narrowed := true }
def FnHearEpochUptoSaid : Prop := fnHearEpochUptoRow.holds Try.pinned (OpenSpec.upto fnHearEpochSpec)

/-- 'laws.FnHearSees', WHERE WHAT IT READS IS OF BULK AT MOST 1048576: true; the input reads as it did. -/
def fnHearSeesUptoRow : OpenClaim := { program := "ytkpncekaehgbdaa", sum := "698686dc3b7b4566ff62ba1918baedbd0c62ffb6a4560cd108e53ea7bb9c5aeb", func := "loop.example/witan/laws.FnHearSees", spec := "fnHearSees", unfollowed := true, recurses := true, apart := false, narrowed := true }
def FnHearSeesUptoSaid : Prop := fnHearSeesUptoRow.holds Try.pinned (OpenSpec.upto fnHearSeesSpec)

/-- 'laws.FnExactNodeEnter', WHERE WHAT IT READS IS OF BULK AT MOST 1048576: true; the input reads as it did. -/
def fnExactNodeEnterUptoRow : OpenClaim := { program := "ytkpncekaehgbdaa", sum := "698686dc3b7b4566ff62ba1918baedbd0c62ffb6a4560cd108e53ea7bb9c5aeb", func := "loop.example/witan/laws.FnExactNodeEnter", spec := "fnExactNodeEnter", unfollowed := true, recurses := true, apart := false, narrowed := true }
def FnExactNodeEnterUptoSaid : Prop := fnExactNodeEnterUptoRow.holds Try.pinned (OpenSpec.upto fnExactNodeEnterSpec)

/-- 'laws.FnExactNodePropose', WHERE WHAT IT READS IS OF BULK AT MOST 1048576: true; the input reads as it did. -/
def fnExactNodeProposeUptoRow : OpenClaim := { program := "ytkpncekaehgbdaa", sum := "698686dc3b7b4566ff62ba1918baedbd0c62ffb6a4560cd108e53ea7bb9c5aeb", func := "loop.example/witan/laws.FnExactNodePropose", spec := "fnExactNodePropose", unfollowed := true, recurses := true, apart := false, narrowed := true }
def FnExactNodeProposeUptoSaid : Prop := fnExactNodeProposeUptoRow.holds Try.pinned (OpenSpec.upto fnExactNodeProposeSpec)

/-- 'laws.FnEnterTwice', WHERE WHAT IT READS IS OF BULK AT MOST 1048576: true; the input reads as it did. -/
def fnEnterTwiceUptoRow : OpenClaim := { program := "ytkpncekaehgbdaa", sum := "698686dc3b7b4566ff62ba1918baedbd0c62ffb6a4560cd108e53ea7bb9c5aeb", func := "loop.example/witan/laws.FnEnterTwice", spec := "fnEnterTwice", unfollowed := true, recurses := true, apart := false, narrowed := true }
def FnEnterTwiceUptoSaid : Prop := fnEnterTwiceUptoRow.holds Try.pinned (OpenSpec.upto fnEnterTwiceSpec)

/-- 'laws.FnNodeEnter', WHERE WHAT IT READS IS OF BULK AT MOST 1048576: true; the input reads as it did. -/
def fnNodeEnterUptoRow : OpenClaim := { program := "ytkpncekaehgbdaa", sum := "698686dc3b7b4566ff62ba1918baedbd0c62ffb6a4560cd108e53ea7bb9c5aeb", func := "loop.example/witan/laws.FnNodeEnter", spec := "fnNodeEnter", unfollowed := true, recurses := true, apart := false, narrowed := true }
def FnNodeEnterUptoSaid : Prop := fnNodeEnterUptoRow.holds Try.pinned (OpenSpec.upto fnNodeEnterSpec)

/-- 'laws.FnExactNodeBook', WHERE WHAT IT READS IS OF BULK AT MOST 1048576: true; the input reads as it did. -/
def fnExactNodeBookUptoRow : OpenClaim := { program := "ytkpncekaehgbdaa", sum := "698686dc3b7b4566ff62ba1918baedbd0c62ffb6a4560cd108e53ea7bb9c5aeb", func := "loop.example/witan/laws.FnExactNodeBook", spec := "fnExactNodeBook", unfollowed := true, recurses := true, apart := false, narrowed := true }
def FnExactNodeBookUptoSaid : Prop := fnExactNodeBookUptoRow.holds Try.pinned (OpenSpec.upto fnExactNodeBookSpec)

/-- 'laws.FnExactNodeHear', WHERE WHAT IT READS IS OF BULK AT MOST 1048576: true; the input reads as it did. -/
def fnExactNodeHearUptoRow : OpenClaim := { program := "ytkpncekaehgbdaa", sum := "698686dc3b7b4566ff62ba1918baedbd0c62ffb6a4560cd108e53ea7bb9c5aeb", func := "loop.example/witan/laws.FnExactNodeHear", spec := "fnExactNodeHear", unfollowed := true, recurses := true, apart := false, narrowed := true }
def FnExactNodeHearUptoSaid : Prop := fnExactNodeHearUptoRow.holds Try.pinned (OpenSpec.upto fnExactNodeHearSpec)

/-- 'laws.FnProposeNot', WHERE WHAT IT READS IS OF BULK AT MOST 1048576: true; the input reads as it did. -/
def fnProposeNotUptoRow : OpenClaim := { program := "ytkpncekaehgbdaa", sum := "698686dc3b7b4566ff62ba1918baedbd0c62ffb6a4560cd108e53ea7bb9c5aeb", func := "loop.example/witan/laws.FnProposeNot", spec := "fnProposeNot", unfollowed := true, recurses := true, apart := false, narrowed := true }
def FnProposeNotUptoSaid : Prop := fnProposeNotUptoRow.holds Try.pinned (OpenSpec.upto fnProposeNotSpec)

/-- 'laws.FnPropose', WHERE WHAT IT READS IS OF BULK AT MOST 1048576: true; the input reads as it did. -/
def fnProposeUptoRow : OpenClaim := { program := "ytkpncekaehgbdaa", sum := "698686dc3b7b4566ff62ba1918baedbd0c62ffb6a4560cd108e53ea7bb9c5aeb", func := "loop.example/witan/laws.FnPropose", spec := "fnPropose", unfollowed := true, recurses := true, apart := false, narrowed := true }
def FnProposeUptoSaid : Prop := fnProposeUptoRow.holds Try.pinned (OpenSpec.upto fnProposeSpec)

/-- 'laws.FnHearOther', WHERE WHAT IT READS IS OF BULK AT MOST 1048576: true; the input reads as it did. -/
def fnHearOtherUptoRow : OpenClaim := { program := "ytkpncekaehgbdaa", sum := "698686dc3b7b4566ff62ba1918baedbd0c62ffb6a4560cd108e53ea7bb9c5aeb", func := "loop.example/witan/laws.FnHearOther", spec := "fnHearOther", unfollowed := true, recurses := true, apart := false, narrowed := true }
def FnHearOtherUptoSaid : Prop := fnHearOtherUptoRow.holds Try.pinned (OpenSpec.upto fnHearOtherSpec)

/-- 'laws.FnHearTwice', WHERE WHAT IT READS IS OF BULK AT MOST 1048576: true; the input reads as it did. -/
def fnHearTwiceUptoRow : OpenClaim := { program := "ytkpncekaehgbdaa", sum := "698686dc3b7b4566ff62ba1918baedbd0c62ffb6a4560cd108e53ea7bb9c5aeb", func := "loop.example/witan/laws.FnHearTwice", spec := "fnHearTwice", unfollowed := true, recurses := true, apart := false, narrowed := true }
def FnHearTwiceUptoSaid : Prop := fnHearTwiceUptoRow.holds Try.pinned (OpenSpec.upto fnHearTwiceSpec)

end Rows
end Go.Proofs.Ytkpncekaehgbdaa
