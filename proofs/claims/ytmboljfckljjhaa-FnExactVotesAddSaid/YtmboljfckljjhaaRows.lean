/-
  No cell of these rows narrows 'for every input' (looked for: loops, veiled, ifaces, maps, wideKeys, modest, calm, conditions, laid).
  DERIVED. THE GIVEN ROWS OF THIS SEAT. 12 by the template 'for every input the law returns true; each argument reads behind the call as it read before'; 0 by the template 'total and deterministic' (their statements: YtmboljfckljjhaaTotals.lean).
  GIVEN WITH THE SEED: the statements are not yours to turn. If you find one false, say at which input.
  Laid BY PROGRAM, IN A SANDBOX (cutbox-rows.mjs): the forced cells as the released guide's own fill.sh prints them over the translation db34b3a494240801… (all of the seat's roots in one cut). By AI agents, Wed Nov 11 2026. No macro, syntax, notation, axiom, sorry.
-/
import Derived.Test.YtmboljfckljjhaaChecked
import GoSem.Claim
import GoSem.ClaimJoined
import GoSem.ClaimMapViews
import Derived.JoinedTies
import Derived.KernelRfl
namespace Go.Proofs.Ytmboljfckljjhaa
/- THE CELL 'sum', in the pinned program and in every row, IS THE sha256 OF THE DUMP (.gsa) THAT YtmboljfckljjhaaProg.lean LOADS. Nothing in Lean hashes anything: it is a label: what it is worth is what the hold of that sum in a sandbox is worth. -/
noncomputable def Try.pinned : Pinned := { name := "ytmboljfckljjhaa", sum := "db34b3a4942408019946c71504a33adc38ab28bdbe898879acc0435dd58ad141", checked := Try.checked }
namespace Rows
def none {H : Type} : Left H := { results := [], args := [] }

/-- 'laws.FnExactWorldNew': WHATEVER THE INPUT: true; the input reads as it did. -/
def fnExactWorldNewSpec : ChangeSpec := { name := "fnExactWorldNew", fn := fun _ => fun
  | [d] => { results := [.lit (.bool true)], args := [d] }
  | _ => none }
def fnExactWorldNewRow : OpenClaim := { program := "ytmboljfckljjhaa", sum := "db34b3a4942408019946c71504a33adc38ab28bdbe898879acc0435dd58ad141", func := "loop.example/witan/laws.FnExactWorldNew", spec := "fnExactWorldNew", apart := false }
def FnExactWorldNewSaid : Prop := fnExactWorldNewRow.holds Try.pinned (OpenSpec.ofChange fnExactWorldNewSpec)

/-- ITS FALSE NEIGHBOUR: 'it returns false'. Refute it at one input. -/
def fnExactWorldNewWrong : ChangeSpec := { name := "fnExactWorldNew", fn := fun _ => fun
  | [d] => { results := [.lit (.bool false)], args := [d] }
  | _ => none }
def FnExactWorldNewWrongFalsely : Prop := fnExactWorldNewRow.holds Try.pinned (OpenSpec.ofChange fnExactWorldNewWrong)

/-- 'laws.FnWorldNew': WHATEVER THE INPUT: true; the input reads as it did. -/
def fnWorldNewSpec : ChangeSpec := { name := "fnWorldNew", fn := fun _ => fun
  | [d] => { results := [.lit (.bool true)], args := [d] }
  | _ => none }
def fnWorldNewRow : OpenClaim := { program := "ytmboljfckljjhaa", sum := "db34b3a4942408019946c71504a33adc38ab28bdbe898879acc0435dd58ad141", func := "loop.example/witan/laws.FnWorldNew", spec := "fnWorldNew", unfollowed := true, recurses := true, apart := false }
def FnWorldNewSaid : Prop := fnWorldNewRow.holds Try.pinned (OpenSpec.ofChange fnWorldNewSpec)

/-- ITS FALSE NEIGHBOUR: 'it returns false'. Refute it at one input. -/
def fnWorldNewWrong : ChangeSpec := { name := "fnWorldNew", fn := fun _ => fun
  | [d] => { results := [.lit (.bool false)], args := [d] }
  | _ => none }
def FnWorldNewWrongFalsely : Prop := fnWorldNewRow.holds Try.pinned (OpenSpec.ofChange fnWorldNewWrong)

/-- 'laws.FnExactCertFinal': WHATEVER THE INPUT: true; the input reads as it did. -/
def fnExactCertFinalSpec : ChangeSpec := { name := "fnExactCertFinal", fn := fun _ => fun
  | [d] => { results := [.lit (.bool true)], args := [d] }
  | _ => none }
def fnExactCertFinalRow : OpenClaim := { program := "ytmboljfckljjhaa", sum := "db34b3a4942408019946c71504a33adc38ab28bdbe898879acc0435dd58ad141", func := "loop.example/witan/laws.FnExactCertFinal", spec := "fnExactCertFinal", unfollowed := true, recurses := true, apart := false }
def FnExactCertFinalSaid : Prop := fnExactCertFinalRow.holds Try.pinned (OpenSpec.ofChange fnExactCertFinalSpec)

/-- ITS FALSE NEIGHBOUR: 'it returns false'. Refute it at one input. -/
def fnExactCertFinalWrong : ChangeSpec := { name := "fnExactCertFinal", fn := fun _ => fun
  | [d] => { results := [.lit (.bool false)], args := [d] }
  | _ => none }
def FnExactCertFinalWrongFalsely : Prop := fnExactCertFinalRow.holds Try.pinned (OpenSpec.ofChange fnExactCertFinalWrong)

/-- 'laws.FnNodeNew': WHATEVER THE INPUT: true; the input reads as it did. -/
def fnNodeNewSpec : ChangeSpec := { name := "fnNodeNew", fn := fun _ => fun
  | [d] => { results := [.lit (.bool true)], args := [d] }
  | _ => none }
def fnNodeNewRow : OpenClaim := { program := "ytmboljfckljjhaa", sum := "db34b3a4942408019946c71504a33adc38ab28bdbe898879acc0435dd58ad141", func := "loop.example/witan/laws.FnNodeNew", spec := "fnNodeNew", unfollowed := true, recurses := true, apart := false }
def FnNodeNewSaid : Prop := fnNodeNewRow.holds Try.pinned (OpenSpec.ofChange fnNodeNewSpec)

/-- ITS FALSE NEIGHBOUR: 'it returns false'. Refute it at one input. -/
def fnNodeNewWrong : ChangeSpec := { name := "fnNodeNew", fn := fun _ => fun
  | [d] => { results := [.lit (.bool false)], args := [d] }
  | _ => none }
def FnNodeNewWrongFalsely : Prop := fnNodeNewRow.holds Try.pinned (OpenSpec.ofChange fnNodeNewWrong)

/-- 'laws.FnExactVotesAdd': WHATEVER THE INPUT: true; the input reads as it did. -/
def fnExactVotesAddSpec : ChangeSpec := { name := "fnExactVotesAdd", fn := fun _ => fun
  | [d1, d2] => { results := [.lit (.bool true)], args := [d1, d2] }
  | _ => none }
def fnExactVotesAddRow : OpenClaim := { program := "ytmboljfckljjhaa", sum := "db34b3a4942408019946c71504a33adc38ab28bdbe898879acc0435dd58ad141", func := "loop.example/witan/laws.FnExactVotesAdd", spec := "fnExactVotesAdd", unfollowed := true, recurses := true, apart := false }
def FnExactVotesAddSaid : Prop := fnExactVotesAddRow.holds Try.pinned (OpenSpec.ofChange fnExactVotesAddSpec)

/-- ITS FALSE NEIGHBOUR: 'it returns false'. Refute it at one input. -/
def fnExactVotesAddWrong : ChangeSpec := { name := "fnExactVotesAdd", fn := fun _ => fun
  | [d1, d2] => { results := [.lit (.bool false)], args := [d1, d2] }
  | _ => none }
def FnExactVotesAddWrongFalsely : Prop := fnExactVotesAddRow.holds Try.pinned (OpenSpec.ofChange fnExactVotesAddWrong)

/-- 'laws.FnExactTreeTip': WHATEVER THE INPUT: true; the input reads as it did. -/
def fnExactTreeTipSpec : ChangeSpec := { name := "fnExactTreeTip", fn := fun _ => fun
  | [d] => { results := [.lit (.bool true)], args := [d] }
  | _ => none }
def fnExactTreeTipRow : OpenClaim := { program := "ytmboljfckljjhaa", sum := "db34b3a4942408019946c71504a33adc38ab28bdbe898879acc0435dd58ad141", func := "loop.example/witan/laws.FnExactTreeTip", spec := "fnExactTreeTip", unfollowed := true, recurses := true, apart := false }
def FnExactTreeTipSaid : Prop := fnExactTreeTipRow.holds Try.pinned (OpenSpec.ofChange fnExactTreeTipSpec)

/-- ITS FALSE NEIGHBOUR: 'it returns false'. Refute it at one input. -/
def fnExactTreeTipWrong : ChangeSpec := { name := "fnExactTreeTip", fn := fun _ => fun
  | [d] => { results := [.lit (.bool false)], args := [d] }
  | _ => none }
def FnExactTreeTipWrongFalsely : Prop := fnExactTreeTipRow.holds Try.pinned (OpenSpec.ofChange fnExactTreeTipWrong)

/-- 'laws.FnCertEpochs': WHATEVER THE INPUT: true; the input reads as it did. -/
def fnCertEpochsSpec : ChangeSpec := { name := "fnCertEpochs", fn := fun _ => fun
  | [d] => { results := [.lit (.bool true)], args := [d] }
  | _ => none }
def fnCertEpochsRow : OpenClaim := { program := "ytmboljfckljjhaa", sum := "db34b3a4942408019946c71504a33adc38ab28bdbe898879acc0435dd58ad141", func := "loop.example/witan/laws.FnCertEpochs", spec := "fnCertEpochs", unfollowed := true, recurses := true, apart := false }
def FnCertEpochsSaid : Prop := fnCertEpochsRow.holds Try.pinned (OpenSpec.ofChange fnCertEpochsSpec)

/-- ITS FALSE NEIGHBOUR: 'it returns false'. Refute it at one input. -/
def fnCertEpochsWrong : ChangeSpec := { name := "fnCertEpochs", fn := fun _ => fun
  | [d] => { results := [.lit (.bool false)], args := [d] }
  | _ => none }
def FnCertEpochsWrongFalsely : Prop := fnCertEpochsRow.holds Try.pinned (OpenSpec.ofChange fnCertEpochsWrong)

/-- 'laws.FnExactCertVotes': WHATEVER THE INPUT: true; the input reads as it did. -/
def fnExactCertVotesSpec : ChangeSpec := { name := "fnExactCertVotes", fn := fun _ => fun
  | [d] => { results := [.lit (.bool true)], args := [d] }
  | _ => none }
def fnExactCertVotesRow : OpenClaim := { program := "ytmboljfckljjhaa", sum := "db34b3a4942408019946c71504a33adc38ab28bdbe898879acc0435dd58ad141", func := "loop.example/witan/laws.FnExactCertVotes", spec := "fnExactCertVotes", unfollowed := true, recurses := true, apart := false }
def FnExactCertVotesSaid : Prop := fnExactCertVotesRow.holds Try.pinned (OpenSpec.ofChange fnExactCertVotesSpec)

/-- ITS FALSE NEIGHBOUR: 'it returns false'. Refute it at one input. -/
def fnExactCertVotesWrong : ChangeSpec := { name := "fnExactCertVotes", fn := fun _ => fun
  | [d] => { results := [.lit (.bool false)], args := [d] }
  | _ => none }
def FnExactCertVotesWrongFalsely : Prop := fnExactCertVotesRow.holds Try.pinned (OpenSpec.ofChange fnExactCertVotesWrong)

/-- 'laws.FnExactTreeAll': WHATEVER THE INPUT: true; the input reads as it did. -/
def fnExactTreeAllSpec : ChangeSpec := { name := "fnExactTreeAll", fn := fun _ => fun
  | [d] => { results := [.lit (.bool true)], args := [d] }
  | _ => none }
def fnExactTreeAllRow : OpenClaim := { program := "ytmboljfckljjhaa", sum := "db34b3a4942408019946c71504a33adc38ab28bdbe898879acc0435dd58ad141", func := "loop.example/witan/laws.FnExactTreeAll", spec := "fnExactTreeAll", unfollowed := true, recurses := true, apart := false }
def FnExactTreeAllSaid : Prop := fnExactTreeAllRow.holds Try.pinned (OpenSpec.ofChange fnExactTreeAllSpec)

/-- ITS FALSE NEIGHBOUR: 'it returns false'. Refute it at one input. -/
def fnExactTreeAllWrong : ChangeSpec := { name := "fnExactTreeAll", fn := fun _ => fun
  | [d] => { results := [.lit (.bool false)], args := [d] }
  | _ => none }
def FnExactTreeAllWrongFalsely : Prop := fnExactTreeAllRow.holds Try.pinned (OpenSpec.ofChange fnExactTreeAllWrong)

/-- 'laws.FnCertBook': WHATEVER THE INPUT: true; the input reads as it did. -/
def fnCertBookSpec : ChangeSpec := { name := "fnCertBook", fn := fun _ => fun
  | [d] => { results := [.lit (.bool true)], args := [d] }
  | _ => none }
def fnCertBookRow : OpenClaim := { program := "ytmboljfckljjhaa", sum := "db34b3a4942408019946c71504a33adc38ab28bdbe898879acc0435dd58ad141", func := "loop.example/witan/laws.FnCertBook", spec := "fnCertBook", unfollowed := true, recurses := true, apart := false }
def FnCertBookSaid : Prop := fnCertBookRow.holds Try.pinned (OpenSpec.ofChange fnCertBookSpec)

/-- ITS FALSE NEIGHBOUR: 'it returns false'. Refute it at one input. -/
def fnCertBookWrong : ChangeSpec := { name := "fnCertBook", fn := fun _ => fun
  | [d] => { results := [.lit (.bool false)], args := [d] }
  | _ => none }
def FnCertBookWrongFalsely : Prop := fnCertBookRow.holds Try.pinned (OpenSpec.ofChange fnCertBookWrong)

/-- 'laws.FnCertAgain': WHATEVER THE INPUT: true; the input reads as it did. -/
def fnCertAgainSpec : ChangeSpec := { name := "fnCertAgain", fn := fun _ => fun
  | [d] => { results := [.lit (.bool true)], args := [d] }
  | _ => none }
def fnCertAgainRow : OpenClaim := { program := "ytmboljfckljjhaa", sum := "db34b3a4942408019946c71504a33adc38ab28bdbe898879acc0435dd58ad141", func := "loop.example/witan/laws.FnCertAgain", spec := "fnCertAgain", unfollowed := true, recurses := true, apart := false }
def FnCertAgainSaid : Prop := fnCertAgainRow.holds Try.pinned (OpenSpec.ofChange fnCertAgainSpec)

/-- ITS FALSE NEIGHBOUR: 'it returns false'. Refute it at one input. -/
def fnCertAgainWrong : ChangeSpec := { name := "fnCertAgain", fn := fun _ => fun
  | [d] => { results := [.lit (.bool false)], args := [d] }
  | _ => none }
def FnCertAgainWrongFalsely : Prop := fnCertAgainRow.holds Try.pinned (OpenSpec.ofChange fnCertAgainWrong)

/-- 'laws.FnExactCertOf': WHATEVER THE INPUT: true; the input reads as it did. -/
def fnExactCertOfSpec : ChangeSpec := { name := "fnExactCertOf", fn := fun _ => fun
  | [d] => { results := [.lit (.bool true)], args := [d] }
  | _ => none }
def fnExactCertOfRow : OpenClaim := { program := "ytmboljfckljjhaa", sum := "db34b3a4942408019946c71504a33adc38ab28bdbe898879acc0435dd58ad141", func := "loop.example/witan/laws.FnExactCertOf", spec := "fnExactCertOf", unfollowed := true, recurses := true, apart := false }
def FnExactCertOfSaid : Prop := fnExactCertOfRow.holds Try.pinned (OpenSpec.ofChange fnExactCertOfSpec)

/-- ITS FALSE NEIGHBOUR: 'it returns false'. Refute it at one input. -/
def fnExactCertOfWrong : ChangeSpec := { name := "fnExactCertOf", fn := fun _ => fun
  | [d] => { results := [.lit (.bool false)], args := [d] }
  | _ => none }
def FnExactCertOfWrongFalsely : Prop := fnExactCertOfRow.holds Try.pinned (OpenSpec.ofChange fnExactCertOfWrong)

/- THE SECOND FORM. 'bulk': how many values and letters a reading holds, each counted each time it is reached (what is shared counts as often as it is met; a slice's spare places count too). A statement '..UptoSaid' is the law's where the arguments, and the package variables that the reading takes, are together of bulk at most 1048576: NARROWER than '..Said'. Prove '..Said' where nothing that the law and all that it calls make is longer than what came in: it says more and counts as full. Else prove '..UptoSaid'. A law counts once. -/
mutual
def uptoBulk {H : Type} : DataW H → Nat
  | .lit (.string bytes) => bytes.length + 1
  | .lit _ => 1
  | .nil => 1
  | .ptr d => uptoBulk d + 1
  | .slice elems spare => uptoBulkAll elems + uptoBulkAll spare + 1
  | .agg parts => uptoBulkAll parts + 1
  | .iface _ d => uptoBulk d + 1
  | .map entries => uptoBulkEntries entries + 1
  | .held _ => 1
def uptoBulkAll {H : Type} : List (DataW H) → Nat
  | [] => 0
  | d :: r => uptoBulk d + uptoBulkAll r
def uptoBulkEntries {H : Type} : List (Lit × DataW H) → Nat
  | [] => 0
  | x :: r => uptoBulkEntry x + uptoBulkEntries r
def uptoBulkEntry {H : Type} : Lit × DataW H → Nat
  | (.string bytes, d) => bytes.length + uptoBulk d + 1
  | (_, d) => uptoBulk d + 1
 end
def uptoSmall : (H : Type) → List (DataW H) → Bool := fun _ ds => decide (uptoBulkAll ds ≤ 1048576)
def OpenSpec.upto (s : _root_.Go.ChangeSpec) : _root_.Go.OpenSpec := { _root_.Go.OpenSpec.ofChange s with cond := some uptoSmall }

/-- 'laws.FnExactWorldNew', WHERE WHAT IT READS IS OF BULK AT MOST 1048576: true; the input reads as it did. -/
def fnExactWorldNewUptoRow : OpenClaim := { program := "ytmboljfckljjhaa", sum := "db34b3a4942408019946c71504a33adc38ab28bdbe898879acc0435dd58ad141", func := "loop.example/witan/laws.FnExactWorldNew", spec := "fnExactWorldNew", apart := false, narrowed := true }
def FnExactWorldNewUptoSaid : Prop := fnExactWorldNewUptoRow.holds Try.pinned (OpenSpec.upto fnExactWorldNewSpec)

/-- 'laws.FnWorldNew', WHERE WHAT IT READS IS OF BULK AT MOST 1048576: true; the input reads as it did. -/
def fnWorldNewUptoRow : OpenClaim := { program := "ytmboljfckljjhaa", sum := "db34b3a4942408019946c71504a33adc38ab28bdbe898879acc0435dd58ad141", func := "loop.example/witan/laws.FnWorldNew", spec := "fnWorldNew", unfollowed := true, recurses := true, apart := false, narrowed := true }
def FnWorldNewUptoSaid : Prop := fnWorldNewUptoRow.holds Try.pinned (OpenSpec.upto fnWorldNewSpec)

/-- 'laws.FnExactCertFinal', WHERE WHAT IT READS IS OF BULK AT MOST 1048576: true; the input reads as it did. -/
def fnExactCertFinalUptoRow : OpenClaim := { program := "ytmboljfckljjhaa", sum := "db34b3a4942408019946c71504a33adc38ab28bdbe898879acc0435dd58ad141", func := "loop.example/witan/laws.FnExactCertFinal", spec := "fnExactCertFinal", unfollowed := true, recurses := true, apart := false, narrowed := true }
def FnExactCertFinalUptoSaid : Prop := fnExactCertFinalUptoRow.holds Try.pinned (OpenSpec.upto fnExactCertFinalSpec)

/-- 'laws.FnNodeNew', WHERE WHAT IT READS IS OF BULK AT MOST 1048576: true; the input reads as it did. -/
def fnNodeNewUptoRow : OpenClaim := { program := "ytmboljfckljjhaa", sum := "db34b3a4942408019946c71504a33adc38ab28bdbe898879acc0435dd58ad141", func := "loop.example/witan/laws.FnNodeNew", spec := "fnNodeNew", unfollowed := true, recurses := true, apart := false, narrowed := true }
def FnNodeNewUptoSaid : Prop := fnNodeNewUptoRow.holds Try.pinned (OpenSpec.upto fnNodeNewSpec)

/-- 'laws.FnExactVotesAdd', WHERE WHAT IT READS IS OF BULK AT MOST 1048576: true; the input reads as it did. -/
def fnExactVotesAddUptoRow : OpenClaim := { program := "ytmboljfckljjhaa", sum := "db34b3a4942408019946c71504a33adc38ab28bdbe898879acc0435dd58ad141", func := "loop.example/witan/laws.FnExactVotesAdd", spec := "fnExactVotesAdd", unfollowed := true, recurses := true, apart := false, narrowed := true }
def FnExactVotesAddUptoSaid : Prop := fnExactVotesAddUptoRow.holds Try.pinned (OpenSpec.upto fnExactVotesAddSpec)

/-- 'laws.FnExactTreeTip', WHERE WHAT IT READS IS OF BULK AT MOST 1048576: true; the input reads as it did. -/
def fnExactTreeTipUptoRow : OpenClaim := { program := "ytmboljfckljjhaa", sum := "db34b3a4942408019946c71504a33adc38ab28bdbe898879acc0435dd58ad141", func := "loop.example/witan/laws.FnExactTreeTip", spec := "fnExactTreeTip", unfollowed := true, recurses := true, apart := false, narrowed := true }
def FnExactTreeTipUptoSaid : Prop := fnExactTreeTipUptoRow.holds Try.pinned (OpenSpec.upto fnExactTreeTipSpec)

/-- 'laws.FnCertEpochs', WHERE WHAT IT READS IS OF BULK AT MOST 1048576: true; the input reads as it did. -/
def fnCertEpochsUptoRow : OpenClaim := { program := "ytmboljfckljjhaa", sum := "db34b3a4942408019946c71504a33adc38ab28bdbe898879acc0435dd58ad141", func := "loop.example/witan/laws.FnCertEpochs", spec := "fnCertEpochs", unfollowed := true, recurses := true, apart := false, narrowed := true }
def FnCertEpochsUptoSaid : Prop := fnCertEpochsUptoRow.holds Try.pinned (OpenSpec.upto fnCertEpochsSpec)

/-- 'laws.FnExactCertVotes', WHERE WHAT IT READS IS OF BULK AT MOST 1048576: true; the input reads as it did. -/
def fnExactCertVotesUptoRow : OpenClaim := { program := "ytmboljfckljjhaa", sum := "db34b3a4942408019946c71504a33adc38ab28bdbe898879acc0435dd58ad141", func := "loop.example/witan/laws.FnExactCertVotes", spec := "fnExactCertVotes", unfollowed := true, recurses := true, apart := false, narrowed := true }
def FnExactCertVotesUptoSaid : Prop := fnExactCertVotesUptoRow.holds Try.pinned (OpenSpec.upto fnExactCertVotesSpec)

/-- 'laws.FnExactTreeAll', WHERE WHAT IT READS IS OF BULK AT MOST 1048576: true; the input reads as it did. -/
def fnExactTreeAllUptoRow : OpenClaim := { program := "ytmboljfckljjhaa", sum := "db34b3a4942408019946c71504a33adc38ab28bdbe898879acc0435dd58ad141", func := "loop.example/witan/laws.FnExactTreeAll", spec := "fnExactTreeAll", unfollowed := true, recurses := true, apart := false, narrowed := true }
def FnExactTreeAllUptoSaid : Prop := fnExactTreeAllUptoRow.holds Try.pinned (OpenSpec.upto fnExactTreeAllSpec)

/-- 'laws.FnCertBook', WHERE WHAT IT READS IS OF BULK AT MOST 1048576: true; the input reads as it did. -/
def fnCertBookUptoRow : OpenClaim := { program := "ytmboljfckljjhaa", sum := "db34b3a4942408019946c71504a33adc38ab28bdbe898879acc0435dd58ad141", func := "loop.example/witan/laws.FnCertBook", spec := "fnCertBook", unfollowed := true, recurses := true, apart := false, narrowed := true }
def FnCertBookUptoSaid : Prop := fnCertBookUptoRow.holds Try.pinned (OpenSpec.upto fnCertBookSpec)

/-- 'laws.FnCertAgain', WHERE WHAT IT READS IS OF BULK AT MOST 1048576: true; the input reads as it did. -/
def fnCertAgainUptoRow : OpenClaim := { program := "ytmboljfckljjhaa", sum := "db34b3a4942408019946c71504a33adc38ab28bdbe898879acc0435dd58ad141", func := "loop.example/witan/laws.FnCertAgain", spec := "fnCertAgain", unfollowed := true, recurses := true, apart := false, narrowed := true }
def FnCertAgainUptoSaid : Prop := fnCertAgainUptoRow.holds Try.pinned (OpenSpec.upto fnCertAgainSpec)

/-- 'laws.FnExactCertOf', WHERE WHAT IT READS IS OF BULK AT MOST 1048576: true; the input reads as it did. -/
def fnExactCertOfUptoRow : OpenClaim := { program := "ytmboljfckljjhaa", sum := "db34b3a4942408019946c71504a33adc38ab28bdbe898879acc0435dd58ad141", func := "loop.example/witan/laws.FnExactCertOf", spec := "fnExactCertOf", unfollowed := true, recurses := true, apart := false, narrowed := true }
def FnExactCertOfUptoSaid : Prop := fnExactCertOfUptoRow.holds Try.pinned (OpenSpec.upto fnExactCertOfSpec)

end Rows
end Go.Proofs.Ytmboljfckljjhaa
