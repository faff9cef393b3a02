/-
  No cell of these rows narrows 'for every input' (looked for: loops, veiled, ifaces, maps, wideKeys, modest, calm, conditions, laid).
  DERIVED. THE GIVEN ROWS OF THIS SEAT. 6 by the template 'for every input the law returns true; each argument reads behind the call as it read before'; 0 by the template 'total and deterministic' (their statements: YtfijfccgghhkoaaTotals.lean).
  GIVEN WITH THE SEED: the statements are not yours to turn. If you find one false, say at which input.
  Laid BY PROGRAM, IN A SANDBOX (cutbox-rows.mjs): the forced cells as the released guide's own fill.sh prints them over the translation e3df0c40c8657eee… (all of the seat's roots in one cut). By AI agents, Wed Nov 11 2026. No macro, syntax, notation, axiom, sorry.
-/
import Derived.Test.YtfijfccgghhkoaaChecked
import GoSem.Claim
import GoSem.ClaimJoined
import GoSem.ClaimMapViews
import Derived.JoinedTies
import Derived.KernelRfl
namespace Go.Proofs.Ytfijfccgghhkoaa
/- THE CELL 'sum', in the pinned program and in every row, IS THE sha256 OF THE DUMP (.gsa) THAT YtfijfccgghhkoaaProg.lean LOADS. Nothing in Lean hashes anything: it is a label: what it is worth is what the hold of that sum in a sandbox is worth. -/
noncomputable def Try.pinned : Pinned := { name := "ytfijfccgghhkoaa", sum := "e3df0c40c8657eeef89c19c057429be0e6025b03b0ff72be3b6bfa74c1bd5fa7", checked := Try.checked }
namespace Rows
def none {H : Type} : Left H := { results := [], args := [] }

/-- 'laws.FnProposeNot': WHATEVER THE INPUT: true; the input reads as it did. -/
def fnProposeNotSpec : ChangeSpec := { name := "fnProposeNot", fn := fun _ => fun
  | [d] => { results := [.lit (.bool true)], args := [d] }
  | _ => none }
def fnProposeNotRow : OpenClaim := { program := "ytfijfccgghhkoaa", sum := "e3df0c40c8657eeef89c19c057429be0e6025b03b0ff72be3b6bfa74c1bd5fa7", func := "loop.example/witan/laws.FnProposeNot", spec := "fnProposeNot", unfollowed := true, recurses := true, apart := false }
def FnProposeNotSaid : Prop := fnProposeNotRow.holds Try.pinned (OpenSpec.ofChange fnProposeNotSpec)

/-- ITS FALSE NEIGHBOUR: 'it returns false'. Refute it at one input. -/
def fnProposeNotWrong : ChangeSpec := { name := "fnProposeNot", fn := fun _ => fun
  | [d] => { results := [.lit (.bool false)], args := [d] }
  | _ => none }
def FnProposeNotWrongFalsely : Prop := fnProposeNotRow.holds Try.pinned (OpenSpec.ofChange fnProposeNotWrong)

/-- 'laws.FnPropose': WHATEVER THE INPUT: true; the input reads as it did. -/
def fnProposeSpec : ChangeSpec := { name := "fnPropose", fn := fun _ => fun
  | [d] => { results := [.lit (.bool true)], args := [d] }
  | _ => none }
def fnProposeRow : OpenClaim := { program := "ytfijfccgghhkoaa", sum := "e3df0c40c8657eeef89c19c057429be0e6025b03b0ff72be3b6bfa74c1bd5fa7", func := "loop.example/witan/laws.FnPropose", spec := "fnPropose", unfollowed := true, recurses := true, apart := false }
def FnProposeSaid : Prop := fnProposeRow.holds Try.pinned (OpenSpec.ofChange fnProposeSpec)

/-- ITS FALSE NEIGHBOUR: 'it returns false'. Refute it at one input. -/
def fnProposeWrong : ChangeSpec := { name := "fnPropose", fn := fun _ => fun
  | [d] => { results := [.lit (.bool false)], args := [d] }
  | _ => none }
def FnProposeWrongFalsely : Prop := fnProposeRow.holds Try.pinned (OpenSpec.ofChange fnProposeWrong)

/-- 'laws.FnNodeNew': WHATEVER THE INPUT: true; the input reads as it did. -/
def fnNodeNewSpec : ChangeSpec := { name := "fnNodeNew", fn := fun _ => fun
  | [d] => { results := [.lit (.bool true)], args := [d] }
  | _ => none }
def fnNodeNewRow : OpenClaim := { program := "ytfijfccgghhkoaa", sum := "e3df0c40c8657eeef89c19c057429be0e6025b03b0ff72be3b6bfa74c1bd5fa7", func := "loop.example/witan/laws.FnNodeNew", spec := "fnNodeNew", unfollowed := true, recurses := true, apart := false }
def FnNodeNewSaid : Prop := fnNodeNewRow.holds Try.pinned (OpenSpec.ofChange fnNodeNewSpec)

/-- ITS FALSE NEIGHBOUR: 'it returns false'. Refute it at one input. -/
def fnNodeNewWrong : ChangeSpec := { name := "fnNodeNew", fn := fun _ => fun
  | [d] => { results := [.lit (.bool false)], args := [d] }
  | _ => none }
def FnNodeNewWrongFalsely : Prop := fnNodeNewRow.holds Try.pinned (OpenSpec.ofChange fnNodeNewWrong)

/-- 'laws.FnCertBook': WHATEVER THE INPUT: true; the input reads as it did. -/
def fnCertBookSpec : ChangeSpec := { name := "fnCertBook", fn := fun _ => fun
  | [d] => { results := [.lit (.bool true)], args := [d] }
  | _ => none }
def fnCertBookRow : OpenClaim := { program := "ytfijfccgghhkoaa", sum := "e3df0c40c8657eeef89c19c057429be0e6025b03b0ff72be3b6bfa74c1bd5fa7", func := "loop.example/witan/laws.FnCertBook", spec := "fnCertBook", unfollowed := true, recurses := true, apart := false }
def FnCertBookSaid : Prop := fnCertBookRow.holds Try.pinned (OpenSpec.ofChange fnCertBookSpec)

/-- ITS FALSE NEIGHBOUR: 'it returns false'. Refute it at one input. -/
def fnCertBookWrong : ChangeSpec := { name := "fnCertBook", fn := fun _ => fun
  | [d] => { results := [.lit (.bool false)], args := [d] }
  | _ => none }
def FnCertBookWrongFalsely : Prop := fnCertBookRow.holds Try.pinned (OpenSpec.ofChange fnCertBookWrong)

/-- 'laws.FnWorldNew': WHATEVER THE INPUT: true; the input reads as it did. -/
def fnWorldNewSpec : ChangeSpec := { name := "fnWorldNew", fn := fun _ => fun
  | [d] => { results := [.lit (.bool true)], args := [d] }
  | _ => none }
def fnWorldNewRow : OpenClaim := { program := "ytfijfccgghhkoaa", sum := "e3df0c40c8657eeef89c19c057429be0e6025b03b0ff72be3b6bfa74c1bd5fa7", func := "loop.example/witan/laws.FnWorldNew", spec := "fnWorldNew", unfollowed := true, recurses := true, apart := false }
def FnWorldNewSaid : Prop := fnWorldNewRow.holds Try.pinned (OpenSpec.ofChange fnWorldNewSpec)

/-- ITS FALSE NEIGHBOUR: 'it returns false'. Refute it at one input. -/
def fnWorldNewWrong : ChangeSpec := { name := "fnWorldNew", fn := fun _ => fun
  | [d] => { results := [.lit (.bool false)], args := [d] }
  | _ => none }
def FnWorldNewWrongFalsely : Prop := fnWorldNewRow.holds Try.pinned (OpenSpec.ofChange fnWorldNewWrong)

/-- 'laws.FnExactWorldNew': WHATEVER THE INPUT: true; the input reads as it did. -/
def fnExactWorldNewSpec : ChangeSpec := { name := "fnExactWorldNew", fn := fun _ => fun
  | [d] => { results := [.lit (.bool true)], args := [d] }
  | _ => none }
def fnExactWorldNewRow : OpenClaim := { program := "ytfijfccgghhkoaa", sum := "e3df0c40c8657eeef89c19c057429be0e6025b03b0ff72be3b6bfa74c1bd5fa7", func := "loop.example/witan/laws.FnExactWorldNew", spec := "fnExactWorldNew", apart := false }
def FnExactWorldNewSaid : Prop := fnExactWorldNewRow.holds Try.pinned (OpenSpec.ofChange fnExactWorldNewSpec)

/-- ITS FALSE NEIGHBOUR: 'it returns false'. Refute it at one input. -/
def fnExactWorldNewWrong : ChangeSpec := { name := "fnExactWorldNew", fn := fun _ => fun
  | [d] => { results := [.lit (.bool false)], args := [d] }
  | _ => none }
def FnExactWorldNewWrongFalsely : Prop := fnExactWorldNewRow.holds Try.pinned (OpenSpec.ofChange fnExactWorldNewWrong)

/- THE SECOND FORM. 'bulk': how many values and letters a reading holds, each counted each time it is reached (what is shared counts as often as it is met; a slice's spare places count too). A statement '..UptoSaid' is the law's where the arguments, and the package variables that the reading takes, are together of bulk at most 1048576: NARROWER than '..Said'. Prove '..Said' where nothing that the law and all that it calls make is longer than what came in: it says more and counts as full. Else prove '..UptoSaid'. A law counts once. -/
mutual
def uptoBulk {H : Type} : DataW H → Nat
  | .lit (.string bytes) => bytes.length + 1
  | .lit _ => 1
  | .nil => 1
  | .ptr d => uptoBulk d + 1
  | .slice elems spare => uptoBulkAll elems + uptoBulkAll spare + 1
  | .agg parts => uptoBulkAll parts + 1
  | .iface _ d => uptoBulk d + 1
  | .map entries => uptoBulkEntries entries + 1
  | .held _ => 1
def uptoBulkAll {H : Type} : List (DataW H) → Nat
  | [] => 0
  | d :: r => uptoBulk d + uptoBulkAll r
def uptoBulkEntries {H : Type} : List (Lit × DataW H) → Nat
  | [] => 0
  | x :: r => uptoBulkEntry x + uptoBulkEntries r
def uptoBulkEntry {H : Type} : Lit × DataW H → Nat
  | (.string bytes, d) => bytes.length + uptoBulk d + 1
  | (_, d) => uptoBulk d + 1
 end
def uptoSmall : (H : Type) → List (DataW H) → Bool := fun _ ds => decide (uptoBulkAll ds ≤ 1048576)
def OpenSpec.upto (s : _root_.Go.ChangeSpec) : _root_.Go.OpenSpec := { _root_.Go.OpenSpec.ofChange s with cond := some uptoSmall }

/-- 'laws.FnProposeNot', WHERE WHAT IT READS IS OF BULK AT MOST 1048576: true; the input reads as it did. -/
def fnProposeNotUptoRow : OpenClaim := { program := "ytfijfccgghhkoaa", sum := "e3df0c40c8657eeef89c19c057429be0e6025b03b0ff72be3b6bfa74c1bd5fa7", func := "loop.example/witan/laws.FnProposeNot", spec := "fnProposeNot", unfollowed := true, recurses := true, apart := false, narrowed := true }
def FnProposeNotUptoSaid : Prop := fnProposeNotUptoRow.holds Try.pinned (OpenSpec.upto fnProposeNotSpec)

/-- 'laws.FnPropose', WHERE WHAT IT READS IS OF BULK AT MOST 1048576: true; the input reads as it did. -/
def fnProposeUptoRow : OpenClaim := { program := "ytfijfccgghhkoaa", sum := "e3df0c40c8657eeef89c19c057429be0e6025b03b0ff72be3b6bfa74c1bd5fa7", func := "loop.example/witan/laws.FnPropose", spec := "fnPropose", unfollowed := true, recurses := true, apart := false, narrowed := true }
def FnProposeUptoSaid : Prop := fnProposeUptoRow.holds Try.pinned (OpenSpec.upto fnProposeSpec)

/-- 'laws.FnNodeNew', WHERE WHAT IT READS IS OF BULK AT MOST 1048576: true; the input reads as it did. -/
def fnNodeNewUptoRow : OpenClaim := { program := "ytfijfccgghhkoaa", sum := "e3df0c40c8657eeef89c19c057429be0e6025b03b0ff72be3b6bfa74c1bd5fa7", func := "loop.example/witan/laws.FnNodeNew", spec := "fnNodeNew", unfollowed := true, recurses := true, apart := false, narrowed := true }
def FnNodeNewUptoSaid : Prop := fnNodeNewUptoRow.holds Try.pinned (OpenSpec.upto fnNodeNewSpec)

/-- 'laws.FnCertBook', WHERE WHAT IT READS IS OF BULK AT MOST 1048576: true; the input reads as it did. -/
def fnCertBookUptoRow : OpenClaim := { program := "ytfijfccgghhkoaa", sum := "e3df0c40c8657eeef89c19c057429be0e6025b03b0ff72be3b6bfa74c1bd5fa7", func := "loop.example/witan/laws.FnCertBook", spec := "fnCertBook", unfollowed := true, recurses := true, apart := false, narrowed := true }
def FnCertBookUptoSaid : Prop := fnCertBookUptoRow.holds Try.pinned (OpenSpec.upto fnCertBookSpec)

/-- 'laws.FnWorldNew', WHERE WHAT IT READS IS OF BULK AT MOST 1048576: true; the input reads as it did. -/
def fnWorldNewUptoRow : OpenClaim := { program := "ytfijfccgghhkoaa", sum := "e3df0c40c8657eeef89c19c057429be0e6025b03b0ff72be3b6bfa74c1bd5fa7", func := "loop.example/witan/laws.FnWorldNew", spec := "fnWorldNew", unfollowed := true, recurses := true, apart := false, narrowed := true }
def FnWorldNewUptoSaid : Prop := fnWorldNewUptoRow.holds Try.pinned (OpenSpec.upto fnWorldNewSpec)

/-- 'laws.FnExactWorldNew', WHERE WHAT IT READS IS OF BULK AT MOST 1048576: true; the input reads as it did. -/
def fnExactWorldNewUptoRow : OpenClaim := { program := "ytfijfccgghhkoaa", sum := "e3df0c40c8657eeef89c19c057429be0e6025b03b0ff72be3b6bfa74c1bd5fa7", func := "loop.example/witan/laws.FnExactWorldNew", spec := "fnExactWorldNew", apart := false, narrowed := true }
def FnExactWorldNewUptoSaid : Prop := fnExactWorldNewUptoRow.holds Try.pinned (OpenSpec.upto fnExactWorldNewSpec)

end Rows
end Go.Proofs.Ytfijfccgghhkoaa
