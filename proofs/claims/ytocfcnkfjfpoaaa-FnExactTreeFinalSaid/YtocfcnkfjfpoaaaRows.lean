/-
  No cell of these rows narrows 'for every input' (looked for: loops, veiled, ifaces, maps, wideKeys, modest, calm, conditions, laid).
  DERIVED. THE GIVEN ROWS OF THIS SEAT. 12 by the template 'for every input the law returns true; each argument reads behind the call as it read before'; 0 by the template 'total and deterministic' (their statements: YtocfcnkfjfpoaaaTotals.lean).
  GIVEN WITH THE SEED: the statements are not yours to turn. If you find one false, say at which input.
  Laid BY PROGRAM, IN A SANDBOX (cutbox-rows.mjs): the forced cells as the released guide's own fill.sh prints them over the translation e80db032740e7ebc… (all of the seat's roots in one cut). By AI agents, Wed Nov 11 2026. No macro, syntax, notation, axiom, sorry.
-/
import Derived.Test.YtocfcnkfjfpoaaaChecked
import GoSem.Claim
import GoSem.ClaimJoined
import GoSem.ClaimMapViews
import Derived.JoinedTies
import Derived.KernelRfl
namespace Go.Proofs.Ytocfcnkfjfpoaaa
/- THE CELL 'sum', in the pinned program and in every row, IS THE sha256 OF THE DUMP (.gsa) THAT YtocfcnkfjfpoaaaProg.lean LOADS. Nothing in Lean hashes anything: it is a label: what it is worth is what the hold of that sum in a sandbox is worth. -/
noncomputable def Try.pinned : Pinned := { name := "ytocfcnkfjfpoaaa", sum := "e80db032740e7ebc93b679717ebd60bdcb2a640230f8e25f4f06a67fa01ed9a2", checked := Try.checked }
namespace Rows
def none {H : Type} : Left H := { results := [], args := [] }

/-- 'laws.FnCertEpochs': WHATEVER THE INPUT: true; the input reads as it did. -/
def fnCertEpochsSpec : ChangeSpec := { name := "fnCertEpochs", fn := fun _ => fun
  | [d] => { results := [.lit (.bool true)], args := [d] }
  | _ => none }
def fnCertEpochsRow : OpenClaim := { program := "ytocfcnkfjfpoaaa", sum := "e80db032740e7ebc93b679717ebd60bdcb2a640230f8e25f4f06a67fa01ed9a2", func := "loop.example/witan/laws.FnCertEpochs", spec := "fnCertEpochs", unfollowed := true, recurses := true, apart := false }
def FnCertEpochsSaid : Prop := fnCertEpochsRow.holds Try.pinned (OpenSpec.ofChange fnCertEpochsSpec)

/-- ITS FALSE NEIGHBOUR: 'it returns false'. Refute it at one input. -/
def fnCertEpochsWrong : ChangeSpec := { name := "fnCertEpochs", fn := fun _ => fun
  | [d] => { results := [.lit (.bool false)], args := [d] }
  | _ => none }
def FnCertEpochsWrongFalsely : Prop := fnCertEpochsRow.holds Try.pinned (OpenSpec.ofChange fnCertEpochsWrong)

/-- 'laws.FnExactCertVotes': WHATEVER THE INPUT: true; the input reads as it did. -/
def fnExactCertVotesSpec : ChangeSpec := { name := "fnExactCertVotes", fn := fun _ => fun
  | [d] => { results := [.lit (.bool true)], args := [d] }
  | _ => none }
def fnExactCertVotesRow : OpenClaim := { program := "ytocfcnkfjfpoaaa", sum := "e80db032740e7ebc93b679717ebd60bdcb2a640230f8e25f4f06a67fa01ed9a2", func := "loop.example/witan/laws.FnExactCertVotes", spec := "fnExactCertVotes", unfollowed := true, recurses := true, apart := false }
def FnExactCertVotesSaid : Prop := fnExactCertVotesRow.holds Try.pinned (OpenSpec.ofChange fnExactCertVotesSpec)

/-- ITS FALSE NEIGHBOUR: 'it returns false'. Refute it at one input. -/
def fnExactCertVotesWrong : ChangeSpec := { name := "fnExactCertVotes", fn := fun _ => fun
  | [d] => { results := [.lit (.bool false)], args := [d] }
  | _ => none }
def FnExactCertVotesWrongFalsely : Prop := fnExactCertVotesRow.holds Try.pinned (OpenSpec.ofChange fnExactCertVotesWrong)

/-- 'laws.FnCertFinal': WHATEVER THE INPUT: true; the input reads as it did. -/
def fnCertFinalSpec : ChangeSpec := { name := "fnCertFinal", fn := fun _ => fun
  | [d] => { results := [.lit (.bool true)], args := [d] }
  | _ => none }
def fnCertFinalRow : OpenClaim := { program := "ytocfcnkfjfpoaaa", sum := "e80db032740e7ebc93b679717ebd60bdcb2a640230f8e25f4f06a67fa01ed9a2", func := "loop.example/witan/laws.FnCertFinal", spec := "fnCertFinal", unfollowed := true, recurses := true, apart := false }
def FnCertFinalSaid : Prop := fnCertFinalRow.holds Try.pinned (OpenSpec.ofChange fnCertFinalSpec)

/-- ITS FALSE NEIGHBOUR: 'it returns false'. Refute it at one input. -/
def fnCertFinalWrong : ChangeSpec := { name := "fnCertFinal", fn := fun _ => fun
  | [d] => { results := [.lit (.bool false)], args := [d] }
  | _ => none }
def FnCertFinalWrongFalsely : Prop := fnCertFinalRow.holds Try.pinned (OpenSpec.ofChange fnCertFinalWrong)

/-- 'laws.FnCertVotes': WHATEVER THE INPUT: true; the input reads as it did. -/
def fnCertVotesSpec : ChangeSpec := { name := "fnCertVotes", fn := fun _ => fun
  | [d] => { results := [.lit (.bool true)], args := [d] }
  | _ => none }
def fnCertVotesRow : OpenClaim := { program := "ytocfcnkfjfpoaaa", sum := "e80db032740e7ebc93b679717ebd60bdcb2a640230f8e25f4f06a67fa01ed9a2", func := "loop.example/witan/laws.FnCertVotes", spec := "fnCertVotes", unfollowed := true, recurses := true, apart := false }
def FnCertVotesSaid : Prop := fnCertVotesRow.holds Try.pinned (OpenSpec.ofChange fnCertVotesSpec)

/-- ITS FALSE NEIGHBOUR: 'it returns false'. Refute it at one input. -/
def fnCertVotesWrong : ChangeSpec := { name := "fnCertVotes", fn := fun _ => fun
  | [d] => { results := [.lit (.bool false)], args := [d] }
  | _ => none }
def FnCertVotesWrongFalsely : Prop := fnCertVotesRow.holds Try.pinned (OpenSpec.ofChange fnCertVotesWrong)

/-- 'laws.FnCertLonger': WHATEVER THE INPUT: true; the input reads as it did. -/
def fnCertLongerSpec : ChangeSpec := { name := "fnCertLonger", fn := fun _ => fun
  | [d1, d2] => { results := [.lit (.bool true)], args := [d1, d2] }
  | _ => none }
def fnCertLongerRow : OpenClaim := { program := "ytocfcnkfjfpoaaa", sum := "e80db032740e7ebc93b679717ebd60bdcb2a640230f8e25f4f06a67fa01ed9a2", func := "loop.example/witan/laws.FnCertLonger", spec := "fnCertLonger", unfollowed := true, recurses := true, apart := false }
def FnCertLongerSaid : Prop := fnCertLongerRow.holds Try.pinned (OpenSpec.ofChange fnCertLongerSpec)

/-- ITS FALSE NEIGHBOUR: 'it returns false'. Refute it at one input. -/
def fnCertLongerWrong : ChangeSpec := { name := "fnCertLonger", fn := fun _ => fun
  | [d1, d2] => { results := [.lit (.bool false)], args := [d1, d2] }
  | _ => none }
def FnCertLongerWrongFalsely : Prop := fnCertLongerRow.holds Try.pinned (OpenSpec.ofChange fnCertLongerWrong)

/-- 'laws.FnCertOrder': WHATEVER THE INPUT: true; the input reads as it did. -/
def fnCertOrderSpec : ChangeSpec := { name := "fnCertOrder", fn := fun _ => fun
  | [d] => { results := [.lit (.bool true)], args := [d] }
  | _ => none }
def fnCertOrderRow : OpenClaim := { program := "ytocfcnkfjfpoaaa", sum := "e80db032740e7ebc93b679717ebd60bdcb2a640230f8e25f4f06a67fa01ed9a2", func := "loop.example/witan/laws.FnCertOrder", spec := "fnCertOrder", unfollowed := true, recurses := true, apart := false }
def FnCertOrderSaid : Prop := fnCertOrderRow.holds Try.pinned (OpenSpec.ofChange fnCertOrderSpec)

/-- ITS FALSE NEIGHBOUR: 'it returns false'. Refute it at one input. -/
def fnCertOrderWrong : ChangeSpec := { name := "fnCertOrder", fn := fun _ => fun
  | [d] => { results := [.lit (.bool false)], args := [d] }
  | _ => none }
def FnCertOrderWrongFalsely : Prop := fnCertOrderRow.holds Try.pinned (OpenSpec.ofChange fnCertOrderWrong)

/-- 'laws.FnCertBook': WHATEVER THE INPUT: true; the input reads as it did. -/
def fnCertBookSpec : ChangeSpec := { name := "fnCertBook", fn := fun _ => fun
  | [d] => { results := [.lit (.bool true)], args := [d] }
  | _ => none }
def fnCertBookRow : OpenClaim := { program := "ytocfcnkfjfpoaaa", sum := "e80db032740e7ebc93b679717ebd60bdcb2a640230f8e25f4f06a67fa01ed9a2", func := "loop.example/witan/laws.FnCertBook", spec := "fnCertBook", unfollowed := true, recurses := true, apart := false }
def FnCertBookSaid : Prop := fnCertBookRow.holds Try.pinned (OpenSpec.ofChange fnCertBookSpec)

/-- ITS FALSE NEIGHBOUR: 'it returns false'. Refute it at one input. -/
def fnCertBookWrong : ChangeSpec := { name := "fnCertBook", fn := fun _ => fun
  | [d] => { results := [.lit (.bool false)], args := [d] }
  | _ => none }
def FnCertBookWrongFalsely : Prop := fnCertBookRow.holds Try.pinned (OpenSpec.ofChange fnCertBookWrong)

/-- 'laws.FnCertAgain': WHATEVER THE INPUT: true; the input reads as it did. -/
def fnCertAgainSpec : ChangeSpec := { name := "fnCertAgain", fn := fun _ => fun
  | [d] => { results := [.lit (.bool true)], args := [d] }
  | _ => none }
def fnCertAgainRow : OpenClaim := { program := "ytocfcnkfjfpoaaa", sum := "e80db032740e7ebc93b679717ebd60bdcb2a640230f8e25f4f06a67fa01ed9a2", func := "loop.example/witan/laws.FnCertAgain", spec := "fnCertAgain", unfollowed := true, recurses := true, apart := false }
def FnCertAgainSaid : Prop := fnCertAgainRow.holds Try.pinned (OpenSpec.ofChange fnCertAgainSpec)

/-- ITS FALSE NEIGHBOUR: 'it returns false'. Refute it at one input. -/
def fnCertAgainWrong : ChangeSpec := { name := "fnCertAgain", fn := fun _ => fun
  | [d] => { results := [.lit (.bool false)], args := [d] }
  | _ => none }
def FnCertAgainWrongFalsely : Prop := fnCertAgainRow.holds Try.pinned (OpenSpec.ofChange fnCertAgainWrong)

/-- 'laws.FnExactCertOf': WHATEVER THE INPUT: true; the input reads as it did. -/
def fnExactCertOfSpec : ChangeSpec := { name := "fnExactCertOf", fn := fun _ => fun
  | [d] => { results := [.lit (.bool true)], args := [d] }
  | _ => none }
def fnExactCertOfRow : OpenClaim := { program := "ytocfcnkfjfpoaaa", sum := "e80db032740e7ebc93b679717ebd60bdcb2a640230f8e25f4f06a67fa01ed9a2", func := "loop.example/witan/laws.FnExactCertOf", spec := "fnExactCertOf", unfollowed := true, recurses := true, apart := false }
def FnExactCertOfSaid : Prop := fnExactCertOfRow.holds Try.pinned (OpenSpec.ofChange fnExactCertOfSpec)

/-- ITS FALSE NEIGHBOUR: 'it returns false'. Refute it at one input. -/
def fnExactCertOfWrong : ChangeSpec := { name := "fnExactCertOf", fn := fun _ => fun
  | [d] => { results := [.lit (.bool false)], args := [d] }
  | _ => none }
def FnExactCertOfWrongFalsely : Prop := fnExactCertOfRow.holds Try.pinned (OpenSpec.ofChange fnExactCertOfWrong)

/-- 'laws.FnCertOf': WHATEVER THE INPUT: true; the input reads as it did. -/
def fnCertOfSpec : ChangeSpec := { name := "fnCertOf", fn := fun _ => fun
  | [d] => { results := [.lit (.bool true)], args := [d] }
  | _ => none }
def fnCertOfRow : OpenClaim := { program := "ytocfcnkfjfpoaaa", sum := "e80db032740e7ebc93b679717ebd60bdcb2a640230f8e25f4f06a67fa01ed9a2", func := "loop.example/witan/laws.FnCertOf", spec := "fnCertOf", unfollowed := true, recurses := true, apart := false }
def FnCertOfSaid : Prop := fnCertOfRow.holds Try.pinned (OpenSpec.ofChange fnCertOfSpec)

/-- ITS FALSE NEIGHBOUR: 'it returns false'. Refute it at one input. -/
def fnCertOfWrong : ChangeSpec := { name := "fnCertOf", fn := fun _ => fun
  | [d] => { results := [.lit (.bool false)], args := [d] }
  | _ => none }
def FnCertOfWrongFalsely : Prop := fnCertOfRow.holds Try.pinned (OpenSpec.ofChange fnCertOfWrong)

/-- 'laws.FnExactTreeFinal': WHATEVER THE INPUT: true; the input reads as it did. -/
def fnExactTreeFinalSpec : ChangeSpec := { name := "fnExactTreeFinal", fn := fun _ => fun
  | [d] => { results := [.lit (.bool true)], args := [d] }
  | _ => none }
def fnExactTreeFinalRow : OpenClaim := { program := "ytocfcnkfjfpoaaa", sum := "e80db032740e7ebc93b679717ebd60bdcb2a640230f8e25f4f06a67fa01ed9a2", func := "loop.example/witan/laws.FnExactTreeFinal", spec := "fnExactTreeFinal", unfollowed := true, recurses := true, apart := false }
def FnExactTreeFinalSaid : Prop := fnExactTreeFinalRow.holds Try.pinned (OpenSpec.ofChange fnExactTreeFinalSpec)

/-- ITS FALSE NEIGHBOUR: 'it returns false'. Refute it at one input. -/
def fnExactTreeFinalWrong : ChangeSpec := { name := "fnExactTreeFinal", fn := fun _ => fun
  | [d] => { results := [.lit (.bool false)], args := [d] }
  | _ => none }
def FnExactTreeFinalWrongFalsely : Prop := fnExactTreeFinalRow.holds Try.pinned (OpenSpec.ofChange fnExactTreeFinalWrong)

/-- 'laws.FnExactWorldOk': WHATEVER THE INPUT: true; the input reads as it did. -/
def fnExactWorldOkSpec : ChangeSpec := { name := "fnExactWorldOk", fn := fun _ => fun
  | [d] => { results := [.lit (.bool true)], args := [d] }
  | _ => none }
def fnExactWorldOkRow : OpenClaim := { program := "ytocfcnkfjfpoaaa", sum := "e80db032740e7ebc93b679717ebd60bdcb2a640230f8e25f4f06a67fa01ed9a2", func := "loop.example/witan/laws.FnExactWorldOk", spec := "fnExactWorldOk", unfollowed := true, recurses := true, apart := false }
def FnExactWorldOkSaid : Prop := fnExactWorldOkRow.holds Try.pinned (OpenSpec.ofChange fnExactWorldOkSpec)

/-- ITS FALSE NEIGHBOUR: 'it returns false'. Refute it at one input. -/
def fnExactWorldOkWrong : ChangeSpec := { name := "fnExactWorldOk", fn := fun _ => fun
  | [d] => { results := [.lit (.bool false)], args := [d] }
  | _ => none }
def FnExactWorldOkWrongFalsely : Prop := fnExactWorldOkRow.holds Try.pinned (OpenSpec.ofChange fnExactWorldOkWrong)

/- THE SECOND FORM. 'bulk': how many values and letters a reading holds, each counted each time it is reached (what is shared counts as often as it is met; a slice's spare places count too). A statement '..UptoSaid' is the law's where the arguments, and the package variables that the reading takes, are together of bulk at most 1048576: NARROWER than '..Said'. Prove '..Said' where nothing that the law and all that it calls make is longer than what came in: it says more and counts as full. Else prove '..UptoSaid'. A law counts once. -/
mutual
def uptoBulk {H : Type} : DataW H → Nat
  | .lit (.string bytes) => bytes.length + 1
  | .lit _ => 1
  | .nil => 1
  | .ptr d => uptoBulk d + 1
  | .slice elems spare => uptoBulkAll elems + uptoBulkAll spare + 1
  | .agg parts => uptoBulkAll parts + 1
  | .iface _ d => uptoBulk d + 1
  | .map entries => uptoBulkEntries entries + 1
  | .held _ => 1
def uptoBulkAll {H : Type} : List (DataW H) → Nat
  | [] => 0
  | d :: r => uptoBulk d + uptoBulkAll r
def uptoBulkEntries {H : Type} : List (Lit × DataW H) → Nat
  | [] => 0
  | x :: r => uptoBulkEntry x + uptoBulkEntries r
def uptoBulkEntry {H : Type} : Lit × DataW H → Nat
  | (.string bytes, d) => bytes.length + uptoBulk d + 1
  | (_, d) => uptoBulk d + 1
 end
def uptoSmall : (H : Type) → List (DataW H) → Bool := fun _ ds => decide (uptoBulkAll ds ≤ 1048576)
def OpenSpec.upto (s : _root_.Go.ChangeSpec) : _root_.Go.OpenSpec := { _root_.Go.OpenSpec.ofChange s with cond := some uptoSmall }

/-- 'laws.FnCertEpochs', WHERE WHAT IT READS IS OF BULK AT MOST 1048576: true; the input reads as it did. -/
def fnCertEpochsUptoRow : OpenClaim := { program := "ytocfcnkfjfpoaaa", sum := "e80db032740e7ebc93b679717ebd60bdcb2a640230f8e25f4f06a67fa01ed9a2", func := "loop.example/witan/laws.FnCertEpochs", spec := "fnCertEpochs", unfollowed := true, recurses := true, apart := false, narrowed := true }
def FnCertEpochsUptoSaid : Prop := fnCertEpochsUptoRow.holds Try.pinned (OpenSpec.upto fnCertEpochsSpec)

/-- 'laws.FnExactCertVotes', WHERE WHAT IT READS IS OF BULK AT MOST 1048576: true; the input reads as it did. -/
def fnExactCertVotesUptoRow : OpenClaim := { program := "ytocfcnkfjfpoaaa", sum := "e80db032740e7ebc93b679717ebd60bdcb2a640230f8e25f4f06a67fa01ed9a2", func := "loop.example/witan/laws.FnExactCertVotes", spec := "fnExactCertVotes", unfollowed := true, recurses := true, apart := false, narrowed := true }
def FnExactCertVotesUptoSaid : Prop := fnExactCertVotesUptoRow.holds Try.pinned (OpenSpec.upto fnExactCertVotesSpec)

/-- 'laws.FnCertFinal', WHERE WHAT IT READS IS OF BULK AT MOST 1048576: true; the input reads as it did. -/
def fnCertFinalUptoRow : OpenClaim := { program := "ytocfcnkfjfpoaaa", sum := "e80db032740e7ebc93b679717ebd60bdcb2a640230f8e25f4f06a67fa01ed9a2", func := "loop.example/witan/laws.FnCertFinal", spec := "fnCertFinal", unfollowed := true, recurses := true, apart := false, narrowed := true }
def FnCertFinalUptoSaid : Prop := fnCertFinalUptoRow.holds Try.pinned (OpenSpec.upto fnCertFinalSpec)

/-- 'laws.FnCertVotes', WHERE WHAT IT READS IS OF BULK AT MOST 1048576: true; the input reads as it did. -/
def fnCertVotesUptoRow : OpenClaim := { program := "ytocfcnkfjfpoaaa", sum := "e80db032740e7ebc93b679717ebd60bdcb2a640230f8e25f4f06a67fa01ed9a2", func := "loop.example/witan/laws.FnCertVotes", spec := "fnCertVotes", unfollowed := true, recurses := true, apart := false, narrowed := true }
def FnCertVotesUptoSaid : Prop := fnCertVotesUptoRow.holds Try.pinned (OpenSpec.upto fnCertVotesSpec)

/-- 'laws.FnCertLonger', WHERE WHAT IT READS IS OF BULK AT MOST 1048576: true; the input reads as it did. -/
def fnCertLongerUptoRow : OpenClaim := { program := "ytocfcnkfjfpoaaa", sum := "e80db032740e7ebc93b679717ebd60bdcb2a640230f8e25f4f06a67fa01ed9a2", func := "loop.example/witan/laws.FnCertLonger", spec := "fnCertLonger", unfollowed := true, recurses := true, apart := false, narrowed := true }
def FnCertLongerUptoSaid : Prop := fnCertLongerUptoRow.holds Try.pinned (OpenSpec.upto fnCertLongerSpec)

/-- 'laws.FnCertOrder', WHERE WHAT IT READS IS OF BULK AT MOST 1048576: true; the input reads as it did. -/
def fnCertOrderUptoRow : OpenClaim := { program := "ytocfcnkfjfpoaaa", sum := "e80db032740e7ebc93b679717ebd60bdcb2a640230f8e25f4f06a67fa01ed9a2", func := "loop.example/witan/laws.FnCertOrder", spec := "fnCertOrder", unfollowed := true, recurses := true, apart := false, narrowed := true }
def FnCertOrderUptoSaid : Prop := fnCertOrderUptoRow.holds Try.pinned (OpenSpec.upto fnCertOrderSpec)

/-- 'laws.FnCertBook', WHERE WHAT IT READS IS OF BULK AT MOST 1048576: true; the input reads as it did. -/
def fnCertBookUptoRow : OpenClaim := { program := "ytocfcnkfjfpoaaa", sum := "e80db032740e7ebc93b679717ebd60bdcb2a640230f8e25f4f06a67fa01ed9a2", func := "loop.example/witan/laws.FnCertBook", spec := "fnCertBook", unfollowed := true, recurses := true, apart := false, narrowed := true }
def FnCertBookUptoSaid : Prop := fnCertBookUptoRow.holds Try.pinned (OpenSpec.upto fnCertBookSpec)

/-- 'laws.FnCertAgain', WHERE WHAT IT READS IS OF BULK AT MOST 1048576: true; the input reads as it did. -/
def fnCertAgainUptoRow : OpenClaim := { program := "ytocfcnkfjfpoaaa", sum := "e80db032740e7ebc93b679717ebd60bdcb2a640230f8e25f4f06a67fa01ed9a2", func := "loop.example/witan/laws.FnCertAgain", spec := "fnCertAgain", unfollowed := true, recurses := true, apart := false, narrowed := true }
def FnCertAgainUptoSaid : Prop := fnCertAgainUptoRow.holds Try.pinned (OpenSpec.upto fnCertAgainSpec)

/-- 'laws.FnExactCertOf', WHERE WHAT IT READS IS OF BULK AT MOST 1048576: true; the input reads as it did. -/
def fnExactCertOfUptoRow : OpenClaim := { program := "ytocfcnkfjfpoaaa", sum := "e80db032740e7ebc93b679717ebd60bdcb2a640230f8e25f4f06a67fa01ed9a2", func := "loop.example/witan/laws.FnExactCertOf", spec := "fnExactCertOf", unfollowed := true, recurses := true, apart := false, narrowed := true }
def FnExactCertOfUptoSaid : Prop := fnExactCertOfUptoRow.holds Try.pinned (OpenSpec.upto fnExactCertOfSpec)

/-- 'laws.FnCertOf', WHERE WHAT IT READS IS OF BULK AT MOST 1048576: true; the input reads as it did. -/
def fnCertOfUptoRow : OpenClaim := { program := "ytocfcnkfjfpoaaa", sum := "e80db032740e7ebc93b679717ebd60bdcb2a640230f8e25f4f06a67fa01ed9a2", func := "loop.example/witan/laws.FnCertOf", spec := "fnCertOf", unfollowed := true, recurses := true, apart := false, narrowed := true }
def FnCertOfUptoSaid : Prop := fnCertOfUptoRow.holds Try.pinned (OpenSpec.upto fnCertOfSpec)

/-- 'laws.FnExactTreeFinal', WHERE WHAT IT READS IS OF BULK AT MOST 1048576: true; the input reads as it did. -/
def fnExactTreeFinalUptoRow : OpenClaim := { program := "ytocfcnkfjfpoaaa", sum := "e80db032740e7ebc93b679717ebd60bdcb2a640230f8e25f4f06a67fa01ed9a2", func := "loop.example/witan/laws.FnExactTreeFinal", spec := "fnExactTreeFinal", unfollowed := true, recurses := true, apart := false, narrowed := true }
def FnExactTreeFinalUptoSaid : Prop := fnExactTreeFinalUptoRow.holds Try.pinned (OpenSpec.upto fnExactTreeFinalSpec)

/-- 'laws.FnExactWorldOk', WHERE WHAT IT READS IS OF BULK AT MOST 1048576: true; the input reads as it did. -/
def fnExactWorldOkUptoRow : OpenClaim := { program := "ytocfcnkfjfpoaaa", sum := "e80db032740e7ebc93b679717ebd60bdcb2a640230f8e25f4f06a67fa01ed9a2", func := "loop.example/witan/laws.FnExactWorldOk", spec := "fnExactWorldOk", unfollowed := true, recurses := true, apart := false, narrowed := true }
def FnExactWorldOkUptoSaid : Prop := fnExactWorldOkUptoRow.holds Try.pinned (OpenSpec.upto fnExactWorldOkSpec)

end Rows
end Go.Proofs.Ytocfcnkfjfpoaaa
