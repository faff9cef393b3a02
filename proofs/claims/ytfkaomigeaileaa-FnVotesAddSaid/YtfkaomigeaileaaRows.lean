/-
  No cell of these rows narrows 'for every input' (looked for: loops, veiled, ifaces, maps, wideKeys, modest, calm, conditions, laid).
  DERIVED. THE GIVEN ROWS OF THIS SEAT. 12 by the template 'for every input the law returns true; each argument reads behind the call as it read before'; 0 by the template 'total and deterministic' (their statements: YtfkaomigeaileaaTotals.lean).
  GIVEN WITH THE SEED: the statements are not yours to turn. If you find one false, say at which input.
  Laid BY PROGRAM, IN A SANDBOX (cutbox-rows.mjs): the forced cells as the released guide's own fill.sh prints them over the translation 0ddcc031df8f083a… (all of the seat's roots in one cut). By AI agents, Wed Nov 11 2026. No macro, syntax, notation, axiom, sorry.
-/
import Derived.Test.YtfkaomigeaileaaChecked
import GoSem.Claim
import GoSem.ClaimJoined
import GoSem.ClaimMapViews
import Derived.JoinedTies
import Derived.KernelRfl
namespace Go.Proofs.Ytfkaomigeaileaa
/- THE CELL 'sum', in the pinned program and in every row, IS THE sha256 OF THE DUMP (.gsa) THAT YtfkaomigeaileaaProg.lean LOADS. Nothing in Lean hashes anything: it is a label: what it is worth is what the hold of that sum in a sandbox is worth. -/
noncomputable def Try.pinned : Pinned := { name := "ytfkaomigeaileaa", sum := "0ddcc031df8f083ae56428f6d5e12f733c3fc38ff98fefc549294e1dafd48aa6", checked := Try.checked }
namespace Rows
def none {H : Type} : Left H := { results := [], args := [] }

/-- 'laws.FnExactWorldNew': WHATEVER THE INPUT: true; the input reads as it did. -/
def fnExactWorldNewSpec : ChangeSpec := { name := "fnExactWorldNew", fn := fun _ => fun
  | [d] => { results := [.lit (.bool true)], args := [d] }
  | _ => none }
def fnExactWorldNewRow : OpenClaim := { program := "ytfkaomigeaileaa", sum := "0ddcc031df8f083ae56428f6d5e12f733c3fc38ff98fefc549294e1dafd48aa6", func := "loop.example/witan/laws.FnExactWorldNew", spec := "fnExactWorldNew", apart := false }
def FnExactWorldNewSaid : Prop := fnExactWorldNewRow.holds Try.pinned (OpenSpec.ofChange fnExactWorldNewSpec)

/-- ITS FALSE NEIGHBOUR: 'it returns false'. Refute it at one input. -/
def fnExactWorldNewWrong : ChangeSpec := { name := "fnExactWorldNew", fn := fun _ => fun
  | [d] => { results := [.lit (.bool false)], args := [d] }
  | _ => none }
def FnExactWorldNewWrongFalsely : Prop := fnExactWorldNewRow.holds Try.pinned (OpenSpec.ofChange fnExactWorldNewWrong)

/-- 'laws.FnWorldNew': WHATEVER THE INPUT: true; the input reads as it did. -/
def fnWorldNewSpec : ChangeSpec := { name := "fnWorldNew", fn := fun _ => fun
  | [d] => { results := [.lit (.bool true)], args := [d] }
  | _ => none }
def fnWorldNewRow : OpenClaim := { program := "ytfkaomigeaileaa", sum := "0ddcc031df8f083ae56428f6d5e12f733c3fc38ff98fefc549294e1dafd48aa6", func := "loop.example/witan/laws.FnWorldNew", spec := "fnWorldNew", unfollowed := true, recurses := true, apart := false }
def FnWorldNewSaid : Prop := fnWorldNewRow.holds Try.pinned (OpenSpec.ofChange fnWorldNewSpec)

/-- ITS FALSE NEIGHBOUR: 'it returns false'. Refute it at one input. -/
def fnWorldNewWrong : ChangeSpec := { name := "fnWorldNew", fn := fun _ => fun
  | [d] => { results := [.lit (.bool false)], args := [d] }
  | _ => none }
def FnWorldNewWrongFalsely : Prop := fnWorldNewRow.holds Try.pinned (OpenSpec.ofChange fnWorldNewWrong)

/-- 'laws.FnExactCertFinal': WHATEVER THE INPUT: true; the input reads as it did. -/
def fnExactCertFinalSpec : ChangeSpec := { name := "fnExactCertFinal", fn := fun _ => fun
  | [d] => { results := [.lit (.bool true)], args := [d] }
  | _ => none }
def fnExactCertFinalRow : OpenClaim := { program := "ytfkaomigeaileaa", sum := "0ddcc031df8f083ae56428f6d5e12f733c3fc38ff98fefc549294e1dafd48aa6", func := "loop.example/witan/laws.FnExactCertFinal", spec := "fnExactCertFinal", unfollowed := true, recurses := true, apart := false }
def FnExactCertFinalSaid : Prop := fnExactCertFinalRow.holds Try.pinned (OpenSpec.ofChange fnExactCertFinalSpec)

/-- ITS FALSE NEIGHBOUR: 'it returns false'. Refute it at one input. -/
def fnExactCertFinalWrong : ChangeSpec := { name := "fnExactCertFinal", fn := fun _ => fun
  | [d] => { results := [.lit (.bool false)], args := [d] }
  | _ => none }
def FnExactCertFinalWrongFalsely : Prop := fnExactCertFinalRow.holds Try.pinned (OpenSpec.ofChange fnExactCertFinalWrong)

/-- 'laws.FnExactTreeLong': WHATEVER THE INPUT: true; the input reads as it did. -/
def fnExactTreeLongSpec : ChangeSpec := { name := "fnExactTreeLong", fn := fun _ => fun
  | [d] => { results := [.lit (.bool true)], args := [d] }
  | _ => none }
def fnExactTreeLongRow : OpenClaim := { program := "ytfkaomigeaileaa", sum := "0ddcc031df8f083ae56428f6d5e12f733c3fc38ff98fefc549294e1dafd48aa6", func := "loop.example/witan/laws.FnExactTreeLong", spec := "fnExactTreeLong", unfollowed := true, recurses := true, apart := false }
def FnExactTreeLongSaid : Prop := fnExactTreeLongRow.holds Try.pinned (OpenSpec.ofChange fnExactTreeLongSpec)

/-- ITS FALSE NEIGHBOUR: 'it returns false'. Refute it at one input. -/
def fnExactTreeLongWrong : ChangeSpec := { name := "fnExactTreeLong", fn := fun _ => fun
  | [d] => { results := [.lit (.bool false)], args := [d] }
  | _ => none }
def FnExactTreeLongWrongFalsely : Prop := fnExactTreeLongRow.holds Try.pinned (OpenSpec.ofChange fnExactTreeLongWrong)

/-- 'laws.FnNodeNew': WHATEVER THE INPUT: true; the input reads as it did. -/
def fnNodeNewSpec : ChangeSpec := { name := "fnNodeNew", fn := fun _ => fun
  | [d] => { results := [.lit (.bool true)], args := [d] }
  | _ => none }
def fnNodeNewRow : OpenClaim := { program := "ytfkaomigeaileaa", sum := "0ddcc031df8f083ae56428f6d5e12f733c3fc38ff98fefc549294e1dafd48aa6", func := "loop.example/witan/laws.FnNodeNew", spec := "fnNodeNew", unfollowed := true, recurses := true, apart := false }
def FnNodeNewSaid : Prop := fnNodeNewRow.holds Try.pinned (OpenSpec.ofChange fnNodeNewSpec)

/-- ITS FALSE NEIGHBOUR: 'it returns false'. Refute it at one input. -/
def fnNodeNewWrong : ChangeSpec := { name := "fnNodeNew", fn := fun _ => fun
  | [d] => { results := [.lit (.bool false)], args := [d] }
  | _ => none }
def FnNodeNewWrongFalsely : Prop := fnNodeNewRow.holds Try.pinned (OpenSpec.ofChange fnNodeNewWrong)

/-- 'laws.FnWorldOnce': WHATEVER THE INPUT: true; the input reads as it did. -/
def fnWorldOnceSpec : ChangeSpec := { name := "fnWorldOnce", fn := fun _ => fun
  | [d] => { results := [.lit (.bool true)], args := [d] }
  | _ => none }
def fnWorldOnceRow : OpenClaim := { program := "ytfkaomigeaileaa", sum := "0ddcc031df8f083ae56428f6d5e12f733c3fc38ff98fefc549294e1dafd48aa6", func := "loop.example/witan/laws.FnWorldOnce", spec := "fnWorldOnce", unfollowed := true, recurses := true, apart := false }
def FnWorldOnceSaid : Prop := fnWorldOnceRow.holds Try.pinned (OpenSpec.ofChange fnWorldOnceSpec)

/-- ITS FALSE NEIGHBOUR: 'it returns false'. Refute it at one input. -/
def fnWorldOnceWrong : ChangeSpec := { name := "fnWorldOnce", fn := fun _ => fun
  | [d] => { results := [.lit (.bool false)], args := [d] }
  | _ => none }
def FnWorldOnceWrongFalsely : Prop := fnWorldOnceRow.holds Try.pinned (OpenSpec.ofChange fnWorldOnceWrong)

/-- 'laws.FnVotesAdd': WHATEVER THE INPUT: true; the input reads as it did. -/
def fnVotesAddSpec : ChangeSpec := { name := "fnVotesAdd", fn := fun _ => fun
  | [d] => { results := [.lit (.bool true)], args := [d] }
  | _ => none }
def fnVotesAddRow : OpenClaim := { program := "ytfkaomigeaileaa", sum := "0ddcc031df8f083ae56428f6d5e12f733c3fc38ff98fefc549294e1dafd48aa6", func := "loop.example/witan/laws.FnVotesAdd", spec := "fnVotesAdd", unfollowed := true, recurses := true, apart := false }
def FnVotesAddSaid : Prop := fnVotesAddRow.holds Try.pinned (OpenSpec.ofChange fnVotesAddSpec)

/-- ITS FALSE NEIGHBOUR: 'it returns false'. Refute it at one input. -/
def fnVotesAddWrong : ChangeSpec := { name := "fnVotesAdd", fn := fun _ => fun
  | [d] => { results := [.lit (.bool false)], args := [d] }
  | _ => none }
def FnVotesAddWrongFalsely : Prop := fnVotesAddRow.holds Try.pinned (OpenSpec.ofChange fnVotesAddWrong)

/-- 'laws.FnExactVotesAdd': WHATEVER THE INPUT: true; the input reads as it did. -/
def fnExactVotesAddSpec : ChangeSpec := { name := "fnExactVotesAdd", fn := fun _ => fun
  | [d1, d2] => { results := [.lit (.bool true)], args := [d1, d2] }
  | _ => none }
def fnExactVotesAddRow : OpenClaim := { program := "ytfkaomigeaileaa", sum := "0ddcc031df8f083ae56428f6d5e12f733c3fc38ff98fefc549294e1dafd48aa6", func := "loop.example/witan/laws.FnExactVotesAdd", spec := "fnExactVotesAdd", unfollowed := true, recurses := true, apart := false }
def FnExactVotesAddSaid : Prop := fnExactVotesAddRow.holds Try.pinned (OpenSpec.ofChange fnExactVotesAddSpec)

/-- ITS FALSE NEIGHBOUR: 'it returns false'. Refute it at one input. -/
def fnExactVotesAddWrong : ChangeSpec := { name := "fnExactVotesAdd", fn := fun _ => fun
  | [d1, d2] => { results := [.lit (.bool false)], args := [d1, d2] }
  | _ => none }
def FnExactVotesAddWrongFalsely : Prop := fnExactVotesAddRow.holds Try.pinned (OpenSpec.ofChange fnExactVotesAddWrong)

/-- 'laws.FnSureMore': WHATEVER THE INPUT: true; the input reads as it did. -/
def fnSureMoreSpec : ChangeSpec := { name := "fnSureMore", fn := fun _ => fun
  | [d1, d2] => { results := [.lit (.bool true)], args := [d1, d2] }
  | _ => none }
def fnSureMoreRow : OpenClaim := { program := "ytfkaomigeaileaa", sum := "0ddcc031df8f083ae56428f6d5e12f733c3fc38ff98fefc549294e1dafd48aa6", func := "loop.example/witan/laws.FnSureMore", spec := "fnSureMore", unfollowed := true, recurses := true, apart := false }
def FnSureMoreSaid : Prop := fnSureMoreRow.holds Try.pinned (OpenSpec.ofChange fnSureMoreSpec)

/-- ITS FALSE NEIGHBOUR: 'it returns false'. Refute it at one input. -/
def fnSureMoreWrong : ChangeSpec := { name := "fnSureMore", fn := fun _ => fun
  | [d1, d2] => { results := [.lit (.bool false)], args := [d1, d2] }
  | _ => none }
def FnSureMoreWrongFalsely : Prop := fnSureMoreRow.holds Try.pinned (OpenSpec.ofChange fnSureMoreWrong)

/-- 'laws.FnAllSure': WHATEVER THE INPUT: true; the input reads as it did. -/
def fnAllSureSpec : ChangeSpec := { name := "fnAllSure", fn := fun _ => fun
  | [d] => { results := [.lit (.bool true)], args := [d] }
  | _ => none }
def fnAllSureRow : OpenClaim := { program := "ytfkaomigeaileaa", sum := "0ddcc031df8f083ae56428f6d5e12f733c3fc38ff98fefc549294e1dafd48aa6", func := "loop.example/witan/laws.FnAllSure", spec := "fnAllSure", unfollowed := true, recurses := true, apart := false }
def FnAllSureSaid : Prop := fnAllSureRow.holds Try.pinned (OpenSpec.ofChange fnAllSureSpec)

/-- ITS FALSE NEIGHBOUR: 'it returns false'. Refute it at one input. -/
def fnAllSureWrong : ChangeSpec := { name := "fnAllSure", fn := fun _ => fun
  | [d] => { results := [.lit (.bool false)], args := [d] }
  | _ => none }
def FnAllSureWrongFalsely : Prop := fnAllSureRow.holds Try.pinned (OpenSpec.ofChange fnAllSureWrong)

/-- 'laws.FnForAdd': WHATEVER THE INPUT: true; the input reads as it did. -/
def fnForAddSpec : ChangeSpec := { name := "fnForAdd", fn := fun _ => fun
  | [d1, d2] => { results := [.lit (.bool true)], args := [d1, d2] }
  | _ => none }
def fnForAddRow : OpenClaim := { program := "ytfkaomigeaileaa", sum := "0ddcc031df8f083ae56428f6d5e12f733c3fc38ff98fefc549294e1dafd48aa6", func := "loop.example/witan/laws.FnForAdd", spec := "fnForAdd", unfollowed := true, recurses := true, apart := false }
def FnForAddSaid : Prop := fnForAddRow.holds Try.pinned (OpenSpec.ofChange fnForAddSpec)

/-- ITS FALSE NEIGHBOUR: 'it returns false'. Refute it at one input. -/
def fnForAddWrong : ChangeSpec := { name := "fnForAdd", fn := fun _ => fun
  | [d1, d2] => { results := [.lit (.bool false)], args := [d1, d2] }
  | _ => none }
def FnForAddWrongFalsely : Prop := fnForAddRow.holds Try.pinned (OpenSpec.ofChange fnForAddWrong)

/-- 'laws.FnVotesOrder': WHATEVER THE INPUT: true; the input reads as it did. -/
def fnVotesOrderSpec : ChangeSpec := { name := "fnVotesOrder", fn := fun _ => fun
  | [d1, d2] => { results := [.lit (.bool true)], args := [d1, d2] }
  | _ => none }
def fnVotesOrderRow : OpenClaim := { program := "ytfkaomigeaileaa", sum := "0ddcc031df8f083ae56428f6d5e12f733c3fc38ff98fefc549294e1dafd48aa6", func := "loop.example/witan/laws.FnVotesOrder", spec := "fnVotesOrder", unfollowed := true, recurses := true, apart := false }
def FnVotesOrderSaid : Prop := fnVotesOrderRow.holds Try.pinned (OpenSpec.ofChange fnVotesOrderSpec)

/-- ITS FALSE NEIGHBOUR: 'it returns false'. Refute it at one input. -/
def fnVotesOrderWrong : ChangeSpec := { name := "fnVotesOrder", fn := fun _ => fun
  | [d1, d2] => { results := [.lit (.bool false)], args := [d1, d2] }
  | _ => none }
def FnVotesOrderWrongFalsely : Prop := fnVotesOrderRow.holds Try.pinned (OpenSpec.ofChange fnVotesOrderWrong)

/- THE SECOND FORM. 'bulk': how many values and letters a reading holds, each counted each time it is reached (what is shared counts as often as it is met; a slice's spare places count too). A statement '..UptoSaid' is the law's where the arguments, and the package variables that the reading takes, are together of bulk at most 1048576: NARROWER than '..Said'. Prove '..Said' where nothing that the law and all that it calls make is longer than what came in: it says more and counts as full. Else prove '..UptoSaid'. A law counts once. -/
mutual
def uptoBulk {H : Type} : DataW H → Nat
  | .lit (.string bytes) => bytes.length + 1
  | .lit _ => 1
  | .nil => 1
  | .ptr d => uptoBulk d + 1
  | .slice elems spare => uptoBulkAll elems + uptoBulkAll spare + 1
  | .agg parts => uptoBulkAll parts + 1
  | .iface _ d => uptoBulk d + 1
  | .map entries => uptoBulkEntries entries + 1
  | .held _ => 1
def uptoBulkAll {H : Type} : List (DataW H) → Nat
  | [] => 0
  | d :: r => uptoBulk d + uptoBulkAll r
def uptoBulkEntries {H : Type} : List (Lit × DataW H) → Nat
  | [] => 0
  | x :: r => uptoBulkEntry x + uptoBulkEntries r
def uptoBulkEntry {H : Type} : Lit × DataW H → Nat
  | (.string bytes, d) => bytes.length + uptoBulk d + 1
  | (_, d) => uptoBulk d + 1
 end
def uptoSmall : (H : Type) → List (DataW H) → Bool := fun _ ds => decide (uptoBulkAll ds ≤ 1048576)
def OpenSpec.upto (s : _root_.Go.ChangeSpec) : _root_.Go.OpenSpec := { _root_.Go.OpenSpec.ofChange s with cond := some uptoSmall }

/-- 'laws.FnExactWorldNew', WHERE WHAT IT READS IS OF BULK AT MOST 1048576: true; the input reads as it did. -/
def fnExactWorldNewUptoRow : OpenClaim := { program := "ytfkaomigeaileaa", sum := "0ddcc031df8f083ae56428f6d5e12f733c3fc38ff98fefc549294e1dafd48aa6", func := "loop.example/witan/laws.FnExactWorldNew", spec := "fnExactWorldNew", apart := false, narrowed := true }
def FnExactWorldNewUptoSaid : Prop := fnExactWorldNewUptoRow.holds Try.pinned (OpenSpec.upto fnExactWorldNewSpec)

/-- 'laws.FnWorldNew', WHERE WHAT IT READS IS OF BULK AT MOST 1048576: true; the input reads as it did. -/
def fnWorldNewUptoRow : OpenClaim := { program := "ytfkaomigeaileaa", sum := "0ddcc031df8f083ae56428f6d5e12f733c3fc38ff98fefc549294e1dafd48aa6", func := "loop.example/witan/laws.FnWorldNew", spec := "fnWorldNew", unfollowed := true, recurses := true, apart := false, narrowed := true }
def FnWorldNewUptoSaid : Prop := fnWorldNewUptoRow.holds Try.pinned (OpenSpec.upto fnWorldNewSpec)

/-- 'laws.FnExactCertFinal', WHERE WHAT IT READS IS OF BULK AT MOST 1048576: true; the input reads as it did. -/
def fnExactCertFinalUptoRow : OpenClaim := { program := "ytfkaomigeaileaa", sum := "0ddcc031df8f083ae56428f6d5e12f733c3fc38ff98fefc549294e1dafd48aa6", func := "loop.example/witan/laws.FnExactCertFinal", spec := "fnExactCertFinal", unfollowed := true, recurses := true, apart := false, narrowed := true }
def FnExactCertFinalUptoSaid : Prop := fnExactCertFinalUptoRow.holds Try.pinned (OpenSpec.upto fnExactCertFinalSpec)

/-- 'laws.FnExactTreeLong', WHERE WHAT IT READS IS OF BULK AT MOST 1048576: true; the input reads as it did. -/
def fnExactTreeLongUptoRow : OpenClaim := { program := "ytfkaomigeaileaa", sum := "0ddcc031df8f083ae56428f6d5e12f733c3fc38ff98fefc549294e1dafd48aa6", func := "loop.example/witan/laws.FnExactTreeLong", spec := "fnExactTreeLong", unfollowed := true, recurses := true, apart := false, narrowed := true }
def FnExactTreeLongUptoSaid : Prop := fnExactTreeLongUptoRow.holds Try.pinned (OpenSpec.upto fnExactTreeLongSpec)

/-- 'laws.FnNodeNew', WHERE WHAT IT READS IS OF BULK AT MOST 1048576: true; the input reads as it did. -/
def fnNodeNewUptoRow : OpenClaim := { program := "ytfkaomigeaileaa", sum := "0ddcc031df8f083ae56428f6d5e12f733c3fc38ff98fefc549294e1dafd48aa6", func := "loop.example/witan/laws.FnNodeNew", spec := "fnNodeNew", unfollowed := true, recurses := true, apart := false, narrowed := true }
def FnNodeNewUptoSaid : Prop := fnNodeNewUptoRow.holds Try.pinned (OpenSpec.upto fnNodeNewSpec)

/-- 'laws.FnWorldOnce', WHERE WHAT IT READS IS OF BULK AT MOST 1048576: true; the input reads as it did. -/
def fnWorldOnceUptoRow : OpenClaim := { program := "ytfkaomigeaileaa", sum := "0ddcc031df8f083ae56428f6d5e12f733c3fc38ff98fefc549294e1dafd48aa6", func := "loop.example/witan/laws.FnWorldOnce", spec := "fnWorldOnce", unfollowed := true, recurses := true, apart := false, narrowed := true }
def FnWorldOnceUptoSaid : Prop := fnWorldOnceUptoRow.holds Try.pinned (OpenSpec.upto fnWorldOnceSpec)

/-- 'laws.FnVotesAdd', WHERE WHAT IT READS IS OF BULK AT MOST 1048576: true; the input reads as it did. -/
def fnVotesAddUptoRow : OpenClaim := { program := "ytfkaomigeaileaa", sum := "0ddcc031df8f083ae56428f6d5e12f733c3fc38ff98fefc549294e1dafd48aa6", func := "loop.example/witan/laws.FnVotesAdd", spec := "fnVotesAdd", unfollowed := true, recurses := true, apart := false, narrowed := true }
def FnVotesAddUptoSaid : Prop := fnVotesAddUptoRow.holds Try.pinned (OpenSpec.upto fnVotesAddSpec)

/-- 'laws.FnExactVotesAdd', WHERE WHAT IT READS IS OF BULK AT MOST 1048576: true; the input reads as it did. -/
def fnExactVotesAddUptoRow : OpenClaim := { program := "ytfkaomigeaileaa", sum := "0ddcc031df8f083ae56428f6d5e12f733c3fc38ff98fefc549294e1dafd48aa6", func := "loop.example/witan/laws.FnExactVotesAdd", spec := "fnExactVotesAdd", unfollowed := true, recurses := true, apart := false, narrowed := true }
def FnExactVotesAddUptoSaid : Prop := fnExactVotesAddUptoRow.holds Try.pinned (OpenSpec.upto fnExactVotesAddSpec)

/-- 'laws.FnSureMore', WHERE WHAT IT READS IS OF BULK AT MOST 1048576: true; the input reads as it did. -/
def fnSureMoreUptoRow : OpenClaim := { program := "ytfkaomigeaileaa", sum := "0ddcc031df8f083ae56428f6d5e12f733c3fc38ff98fefc549294e1dafd48aa6", func := "loop.example/witan/laws.FnSureMore", spec := "fnSureMore", unfollowed := true, recurses := true, apart := false, narrowed := true }
def FnSureMoreUptoSaid : Prop := fnSureMoreUptoRow.holds Try.pinned (OpenSpec.upto fnSureMoreSpec)

/-- 'laws.FnAllSure', WHERE WHAT IT READS IS OF BULK AT MOST 1048576: true; the input reads as it did. -/
def fnAllSureUptoRow : OpenClaim := { program := "ytfkaomigeaileaa", sum := "0ddcc031df8f083ae56428f6d5e12f733c3fc38ff98fefc549294e1dafd48aa6", func := "loop.example/witan/laws.FnAllSure", spec := "fnAllSure", unfollowed := true, recurses := true, apart := false, narrowed := true }
def FnAllSureUptoSaid : Prop := fnAllSureUptoRow.holds Try.pinned (OpenSpec.upto fnAllSureSpec)

/-- 'laws.FnForAdd', WHERE WHAT IT READS IS OF BULK AT MOST 1048576: true; the input reads as it did. -/
def fnForAddUptoRow : OpenClaim := { program := "ytfkaomigeaileaa", sum := "0ddcc031df8f083ae56428f6d5e12f733c3fc38ff98fefc549294e1dafd48aa6", func := "loop.example/witan/laws.FnForAdd", spec := "fnForAdd", unfollowed := true, recurses := true, apart := false, narrowed := true }
def FnForAddUptoSaid : Prop := fnForAddUptoRow.holds Try.pinned (OpenSpec.upto fnForAddSpec)

/-- 'laws.FnVotesOrder', WHERE WHAT IT READS IS OF BULK AT MOST 1048576: true; the input reads as it did. -/
def fnVotesOrderUptoRow : OpenClaim := { program := "ytfkaomigeaileaa", sum := "0ddcc031df8f083ae56428f6d5e12f733c3fc38ff98fefc549294e1dafd48aa6", func := "loop.example/witan/laws.FnVotesOrder", spec := "fnVotesOrder", unfollowed := true, recurses := true, apart := false, narrowed := true }
def FnVotesOrderUptoSaid : Prop := fnVotesOrderUptoRow.holds Try.pinned (OpenSpec.upto fnVotesOrderSpec)

end Rows
end Go.Proofs.Ytfkaomigeaileaa
