/-
  No cell of these rows narrows 'for every input' (looked for: loops, veiled, ifaces, maps, wideKeys, modest, calm, conditions, laid).
  DERIVED. THE GIVEN ROWS OF THIS SEAT. 12 by the template 'for every input the law returns true; each argument reads behind the call as it read before'; 0 by the template 'total and deterministic' (their statements: YtdklbphecnennaaTotals.lean).
  GIVEN WITH THE SEED: the statements are not yours to turn. If you find one false, say at which input.
  Laid BY PROGRAM, IN A SANDBOX (cutbox-rows.mjs): the forced cells as the released guide's own fill.sh prints them over the translation aa110055c30ab048… (all of the seat's roots in one cut). By AI agents, Wed Nov 11 2026. No macro, syntax, notation, axiom, sorry.
-/
import Derived.Test.YtdklbphecnennaaChecked
import GoSem.Claim
import GoSem.ClaimJoined
import GoSem.ClaimMapViews
import Derived.JoinedTies
import Derived.KernelRfl
namespace Go.Proofs.Ytdklbphecnennaa
/- THE CELL 'sum', in the pinned program and in every row, IS THE sha256 OF THE DUMP (.gsa) THAT YtdklbphecnennaaProg.lean LOADS. Nothing in Lean hashes anything: it is a label: what it is worth is what the hold of that sum in a sandbox is worth. -/
noncomputable def Try.pinned : Pinned := { name := "ytdklbphecnennaa", sum := "aa110055c30ab0481598c6e7e6b2ecb5561d4c39505ca3ee8a121f03b8f9e897", checked := Try.checked }
namespace Rows
def none {H : Type} : Left H := { results := [], args := [] }

/-- 'laws.FnAllBack': WHATEVER THE INPUT: true; the input reads as it did. -/
def fnAllBackSpec : ChangeSpec := { name := "fnAllBack", fn := fun _ => fun
  | [d] => { results := [.lit (.bool true)], args := [d] }
  | _ => none }
def fnAllBackRow : OpenClaim := { program := "ytdklbphecnennaa", sum := "aa110055c30ab0481598c6e7e6b2ecb5561d4c39505ca3ee8a121f03b8f9e897", func := "loop.example/witan/laws.FnAllBack", spec := "fnAllBack", unfollowed := true, recurses := true, apart := false }
def FnAllBackSaid : Prop := fnAllBackRow.holds Try.pinned (OpenSpec.ofChange fnAllBackSpec)

/-- ITS FALSE NEIGHBOUR: 'it returns false'. Refute it at one input. -/
def fnAllBackWrong : ChangeSpec := { name := "fnAllBack", fn := fun _ => fun
  | [d] => { results := [.lit (.bool false)], args := [d] }
  | _ => none }
def FnAllBackWrongFalsely : Prop := fnAllBackRow.holds Try.pinned (OpenSpec.ofChange fnAllBackWrong)

/-- 'laws.FnLongMore': WHATEVER THE INPUT: true; the input reads as it did. -/
def fnLongMoreSpec : ChangeSpec := { name := "fnLongMore", fn := fun _ => fun
  | [d1, d2] => { results := [.lit (.bool true)], args := [d1, d2] }
  | _ => none }
def fnLongMoreRow : OpenClaim := { program := "ytdklbphecnennaa", sum := "aa110055c30ab0481598c6e7e6b2ecb5561d4c39505ca3ee8a121f03b8f9e897", func := "loop.example/witan/laws.FnLongMore", spec := "fnLongMore", unfollowed := true, recurses := true, apart := false }
def FnLongMoreSaid : Prop := fnLongMoreRow.holds Try.pinned (OpenSpec.ofChange fnLongMoreSpec)

/-- ITS FALSE NEIGHBOUR: 'it returns false'. Refute it at one input. -/
def fnLongMoreWrong : ChangeSpec := { name := "fnLongMore", fn := fun _ => fun
  | [d1, d2] => { results := [.lit (.bool false)], args := [d1, d2] }
  | _ => none }
def FnLongMoreWrongFalsely : Prop := fnLongMoreRow.holds Try.pinned (OpenSpec.ofChange fnLongMoreWrong)

/-- 'laws.FnSureBoth': WHATEVER THE INPUT: true; the input reads as it did. -/
def fnSureBothSpec : ChangeSpec := { name := "fnSureBoth", fn := fun _ => fun
  | [d1, d2] => { results := [.lit (.bool true)], args := [d1, d2] }
  | _ => none }
def fnSureBothRow : OpenClaim := { program := "ytdklbphecnennaa", sum := "aa110055c30ab0481598c6e7e6b2ecb5561d4c39505ca3ee8a121f03b8f9e897", func := "loop.example/witan/laws.FnSureBoth", spec := "fnSureBoth", unfollowed := true, recurses := true, apart := false }
def FnSureBothSaid : Prop := fnSureBothRow.holds Try.pinned (OpenSpec.ofChange fnSureBothSpec)

/-- ITS FALSE NEIGHBOUR: 'it returns false'. Refute it at one input. -/
def fnSureBothWrong : ChangeSpec := { name := "fnSureBoth", fn := fun _ => fun
  | [d1, d2] => { results := [.lit (.bool false)], args := [d1, d2] }
  | _ => none }
def FnSureBothWrongFalsely : Prop := fnSureBothRow.holds Try.pinned (OpenSpec.ofChange fnSureBothWrong)

/-- 'laws.FnTreeNone': WHATEVER THE INPUT: true; the input reads as it did. -/
def fnTreeNoneSpec : ChangeSpec := { name := "fnTreeNone", fn := fun _ => fun
  | [d1, d2] => { results := [.lit (.bool true)], args := [d1, d2] }
  | _ => none }
def fnTreeNoneRow : OpenClaim := { program := "ytdklbphecnennaa", sum := "aa110055c30ab0481598c6e7e6b2ecb5561d4c39505ca3ee8a121f03b8f9e897", func := "loop.example/witan/laws.FnTreeNone", spec := "fnTreeNone", unfollowed := true, recurses := true, apart := false }
def FnTreeNoneSaid : Prop := fnTreeNoneRow.holds Try.pinned (OpenSpec.ofChange fnTreeNoneSpec)

/-- ITS FALSE NEIGHBOUR: 'it returns false'. Refute it at one input. -/
def fnTreeNoneWrong : ChangeSpec := { name := "fnTreeNone", fn := fun _ => fun
  | [d1, d2] => { results := [.lit (.bool false)], args := [d1, d2] }
  | _ => none }
def FnTreeNoneWrongFalsely : Prop := fnTreeNoneRow.holds Try.pinned (OpenSpec.ofChange fnTreeNoneWrong)

/-- 'laws.FnTipLongest': WHATEVER THE INPUT: true; the input reads as it did. -/
def fnTipLongestSpec : ChangeSpec := { name := "fnTipLongest", fn := fun _ => fun
  | [d] => { results := [.lit (.bool true)], args := [d] }
  | _ => none }
def fnTipLongestRow : OpenClaim := { program := "ytdklbphecnennaa", sum := "aa110055c30ab0481598c6e7e6b2ecb5561d4c39505ca3ee8a121f03b8f9e897", func := "loop.example/witan/laws.FnTipLongest", spec := "fnTipLongest", unfollowed := true, recurses := true, apart := false }
def FnTipLongestSaid : Prop := fnTipLongestRow.holds Try.pinned (OpenSpec.ofChange fnTipLongestSpec)

/-- ITS FALSE NEIGHBOUR: 'it returns false'. Refute it at one input. -/
def fnTipLongestWrong : ChangeSpec := { name := "fnTipLongest", fn := fun _ => fun
  | [d] => { results := [.lit (.bool false)], args := [d] }
  | _ => none }
def FnTipLongestWrongFalsely : Prop := fnTipLongestRow.holds Try.pinned (OpenSpec.ofChange fnTipLongestWrong)

/-- 'laws.FnFinalThree': WHATEVER THE INPUT: true; the input reads as it did. -/
def fnFinalThreeSpec : ChangeSpec := { name := "fnFinalThree", fn := fun _ => fun
  | [d1, d2] => { results := [.lit (.bool true)], args := [d1, d2] }
  | _ => none }
def fnFinalThreeRow : OpenClaim := { program := "ytdklbphecnennaa", sum := "aa110055c30ab0481598c6e7e6b2ecb5561d4c39505ca3ee8a121f03b8f9e897", func := "loop.example/witan/laws.FnFinalThree", spec := "fnFinalThree", unfollowed := true, recurses := true, apart := false }
def FnFinalThreeSaid : Prop := fnFinalThreeRow.holds Try.pinned (OpenSpec.ofChange fnFinalThreeSpec)

/-- ITS FALSE NEIGHBOUR: 'it returns false'. Refute it at one input. -/
def fnFinalThreeWrong : ChangeSpec := { name := "fnFinalThree", fn := fun _ => fun
  | [d1, d2] => { results := [.lit (.bool false)], args := [d1, d2] }
  | _ => none }
def FnFinalThreeWrongFalsely : Prop := fnFinalThreeRow.holds Try.pinned (OpenSpec.ofChange fnFinalThreeWrong)

/-- 'laws.FnFinalMost': WHATEVER THE INPUT: true; the input reads as it did. -/
def fnFinalMostSpec : ChangeSpec := { name := "fnFinalMost", fn := fun _ => fun
  | [d] => { results := [.lit (.bool true)], args := [d] }
  | _ => none }
def fnFinalMostRow : OpenClaim := { program := "ytdklbphecnennaa", sum := "aa110055c30ab0481598c6e7e6b2ecb5561d4c39505ca3ee8a121f03b8f9e897", func := "loop.example/witan/laws.FnFinalMost", spec := "fnFinalMost", unfollowed := true, recurses := true, apart := false }
def FnFinalMostSaid : Prop := fnFinalMostRow.holds Try.pinned (OpenSpec.ofChange fnFinalMostSpec)

/-- ITS FALSE NEIGHBOUR: 'it returns false'. Refute it at one input. -/
def fnFinalMostWrong : ChangeSpec := { name := "fnFinalMost", fn := fun _ => fun
  | [d] => { results := [.lit (.bool false)], args := [d] }
  | _ => none }
def FnFinalMostWrongFalsely : Prop := fnFinalMostRow.holds Try.pinned (OpenSpec.ofChange fnFinalMostWrong)

/-- 'laws.FnTipNew': WHATEVER THE INPUT: true; the input reads as it did. -/
def fnTipNewSpec : ChangeSpec := { name := "fnTipNew", fn := fun _ => fun
  | [d1, d2] => { results := [.lit (.bool true)], args := [d1, d2] }
  | _ => none }
def fnTipNewRow : OpenClaim := { program := "ytdklbphecnennaa", sum := "aa110055c30ab0481598c6e7e6b2ecb5561d4c39505ca3ee8a121f03b8f9e897", func := "loop.example/witan/laws.FnTipNew", spec := "fnTipNew", unfollowed := true, recurses := true, apart := false }
def FnTipNewSaid : Prop := fnTipNewRow.holds Try.pinned (OpenSpec.ofChange fnTipNewSpec)

/-- ITS FALSE NEIGHBOUR: 'it returns false'. Refute it at one input. -/
def fnTipNewWrong : ChangeSpec := { name := "fnTipNew", fn := fun _ => fun
  | [d1, d2] => { results := [.lit (.bool false)], args := [d1, d2] }
  | _ => none }
def FnTipNewWrongFalsely : Prop := fnTipNewRow.holds Try.pinned (OpenSpec.ofChange fnTipNewWrong)

/-- 'laws.FnFinalMore': WHATEVER THE INPUT: true; the input reads as it did. -/
def fnFinalMoreSpec : ChangeSpec := { name := "fnFinalMore", fn := fun _ => fun
  | [d1, d2] => { results := [.lit (.bool true)], args := [d1, d2] }
  | _ => none }
def fnFinalMoreRow : OpenClaim := { program := "ytdklbphecnennaa", sum := "aa110055c30ab0481598c6e7e6b2ecb5561d4c39505ca3ee8a121f03b8f9e897", func := "loop.example/witan/laws.FnFinalMore", spec := "fnFinalMore", unfollowed := true, recurses := true, apart := false }
def FnFinalMoreSaid : Prop := fnFinalMoreRow.holds Try.pinned (OpenSpec.ofChange fnFinalMoreSpec)

/-- ITS FALSE NEIGHBOUR: 'it returns false'. Refute it at one input. -/
def fnFinalMoreWrong : ChangeSpec := { name := "fnFinalMore", fn := fun _ => fun
  | [d1, d2] => { results := [.lit (.bool false)], args := [d1, d2] }
  | _ => none }
def FnFinalMoreWrongFalsely : Prop := fnFinalMoreRow.holds Try.pinned (OpenSpec.ofChange fnFinalMoreWrong)

/-- 'laws.FnFinalSure': WHATEVER THE INPUT: true; the input reads as it did. -/
def fnFinalSureSpec : ChangeSpec := { name := "fnFinalSure", fn := fun _ => fun
  | [d] => { results := [.lit (.bool true)], args := [d] }
  | _ => none }
def fnFinalSureRow : OpenClaim := { program := "ytdklbphecnennaa", sum := "aa110055c30ab0481598c6e7e6b2ecb5561d4c39505ca3ee8a121f03b8f9e897", func := "loop.example/witan/laws.FnFinalSure", spec := "fnFinalSure", unfollowed := true, recurses := true, apart := false }
def FnFinalSureSaid : Prop := fnFinalSureRow.holds Try.pinned (OpenSpec.ofChange fnFinalSureSpec)

/-- ITS FALSE NEIGHBOUR: 'it returns false'. Refute it at one input. -/
def fnFinalSureWrong : ChangeSpec := { name := "fnFinalSure", fn := fun _ => fun
  | [d] => { results := [.lit (.bool false)], args := [d] }
  | _ => none }
def FnFinalSureWrongFalsely : Prop := fnFinalSureRow.holds Try.pinned (OpenSpec.ofChange fnFinalSureWrong)

/-- 'laws.FnExactTreeTip': WHATEVER THE INPUT: true; the input reads as it did. -/
def fnExactTreeTipSpec : ChangeSpec := { name := "fnExactTreeTip", fn := fun _ => fun
  | [d] => { results := [.lit (.bool true)], args := [d] }
  | _ => none }
def fnExactTreeTipRow : OpenClaim := { program := "ytdklbphecnennaa", sum := "aa110055c30ab0481598c6e7e6b2ecb5561d4c39505ca3ee8a121f03b8f9e897", func := "loop.example/witan/laws.FnExactTreeTip", spec := "fnExactTreeTip", unfollowed := true, recurses := true, apart := false }
def FnExactTreeTipSaid : Prop := fnExactTreeTipRow.holds Try.pinned (OpenSpec.ofChange fnExactTreeTipSpec)

/-- ITS FALSE NEIGHBOUR: 'it returns false'. Refute it at one input. -/
def fnExactTreeTipWrong : ChangeSpec := { name := "fnExactTreeTip", fn := fun _ => fun
  | [d] => { results := [.lit (.bool false)], args := [d] }
  | _ => none }
def FnExactTreeTipWrongFalsely : Prop := fnExactTreeTipRow.holds Try.pinned (OpenSpec.ofChange fnExactTreeTipWrong)

/-- 'laws.FnExactTreeAll': WHATEVER THE INPUT: true; the input reads as it did. -/
def fnExactTreeAllSpec : ChangeSpec := { name := "fnExactTreeAll", fn := fun _ => fun
  | [d] => { results := [.lit (.bool true)], args := [d] }
  | _ => none }
def fnExactTreeAllRow : OpenClaim := { program := "ytdklbphecnennaa", sum := "aa110055c30ab0481598c6e7e6b2ecb5561d4c39505ca3ee8a121f03b8f9e897", func := "loop.example/witan/laws.FnExactTreeAll", spec := "fnExactTreeAll", unfollowed := true, recurses := true, apart := false }
def FnExactTreeAllSaid : Prop := fnExactTreeAllRow.holds Try.pinned (OpenSpec.ofChange fnExactTreeAllSpec)

/-- ITS FALSE NEIGHBOUR: 'it returns false'. Refute it at one input. -/
def fnExactTreeAllWrong : ChangeSpec := { name := "fnExactTreeAll", fn := fun _ => fun
  | [d] => { results := [.lit (.bool false)], args := [d] }
  | _ => none }
def FnExactTreeAllWrongFalsely : Prop := fnExactTreeAllRow.holds Try.pinned (OpenSpec.ofChange fnExactTreeAllWrong)

/- THE SECOND FORM. 'bulk': how many values and letters a reading holds, each counted each time it is reached (what is shared counts as often as it is met; a slice's spare places count too). A statement '..UptoSaid' is the law's where the arguments, and the package variables that the reading takes, are together of bulk at most 1048576: NARROWER than '..Said'. Prove '..Said' where nothing that the law and all that it calls make is longer than what came in: it says more and counts as full. Else prove '..UptoSaid'. A law counts once. -/
mutual
def uptoBulk {H : Type} : DataW H → Nat
  | .lit (.string bytes) => bytes.length + 1
  | .lit _ => 1
  | .nil => 1
  | .ptr d => uptoBulk d + 1
  | .slice elems spare => uptoBulkAll elems + uptoBulkAll spare + 1
  | .agg parts => uptoBulkAll parts + 1
  | .iface _ d => uptoBulk d + 1
  | .map entries => uptoBulkEntries entries + 1
  | .held _ => 1
def uptoBulkAll {H : Type} : List (DataW H) → Nat
  | [] => 0
  | d :: r => uptoBulk d + uptoBulkAll r
def uptoBulkEntries {H : Type} : List (Lit × DataW H) → Nat
  | [] => 0
  | x :: r => uptoBulkEntry x + uptoBulkEntries r
def uptoBulkEntry {H : Type} : Lit × DataW H → Nat
  | (.string bytes, d) => bytes.length + uptoBulk d + 1
  | (_, d) => uptoBulk d + 1
 end
def uptoSmall : (H : Type) → List (DataW H) → Bool := fun _ ds => decide (uptoBulkAll ds ≤ 1048576)
def OpenSpec.upto (s : _root_.Go.ChangeSpec) : _root_.Go.OpenSpec := { _root_.Go.OpenSpec.ofChange s with cond := some uptoSmall }

/-- 'laws.FnAllBack', WHERE WHAT IT READS IS OF BULK AT MOST 1048576: true; the input reads as it did. -/
def fnAllBackUptoRow : OpenClaim := { program := "ytdklbphecnennaa", sum := "aa110055c30ab0481598c6e7e6b2ecb5561d4c39505ca3ee8a121f03b8f9e897", func := "loop.example/witan/laws.FnAllBack", spec := "fnAllBack", unfollowed := true, recurses := true, apart := false, narrowed := true }
def FnAllBackUptoSaid : Prop := fnAllBackUptoRow.holds Try.pinned (OpenSpec.upto fnAllBackSpec)

/-- 'laws.FnLongMore', WHERE WHAT IT READS IS OF BULK AT MOST 1048576: true; the input reads as it did. -/
def fnLongMoreUptoRow : OpenClaim := { program := "ytdklbphecnennaa", sum := "aa110055c30ab0481598c6e7e6b2ecb5561d4c39505ca3ee8a121f03b8f9e897", func := "loop.example/witan/laws.FnLongMore", spec := "fnLongMore", unfollowed := true, recurses := true, apart := false, narrowed := true }
def FnLongMoreUptoSaid : Prop := fnLongMoreUptoRow.holds Try.pinned (OpenSpec.upto fnLongMoreSpec)

/-- 'laws.FnSureBoth', WHERE WHAT IT READS IS OF BULK AT MOST 1048576: true; the input reads as it did. -/
def fnSureBothUptoRow : OpenClaim := { program := "ytdklbphecnennaa", sum := "aa110055c30ab0481598c6e7e6b2ecb5561d4c39505ca3ee8a121f03b8f9e897", func := "loop.example/witan/laws.FnSureBoth", spec := "fnSureBoth", unfollowed := true, recurses := true, apart := false, narrowed := true }
def FnSureBothUptoSaid : Prop := fnSureBothUptoRow.holds Try.pinned (OpenSpec.upto fnSureBothSpec)

/-- 'laws.FnTreeNone', WHERE WHAT IT READS IS OF BULK AT MOST 1048576: true; the input reads as it did. -/
def fnTreeNoneUptoRow : OpenClaim := { program := "ytdklbphecnennaa", sum := "aa110055c30ab0481598c6e7e6b2ecb5561d4c39505ca3ee8a121f03b8f9e897", func := "loop.example/witan/laws.FnTreeNone", spec := "fnTreeNone", unfollowed := true, recurses := true, apart := false, narrowed := true }
def FnTreeNoneUptoSaid : Prop := fnTreeNoneUptoRow.holds Try.pinned (OpenSpec.upto fnTreeNoneSpec)

/-- 'laws.FnTipLongest', WHERE WHAT IT READS IS OF BULK AT MOST 1048576: true; the input reads as it did. -/
def fnTipLongestUptoRow : OpenClaim := { program := "ytdklbphecnennaa", sum := "aa110055c30ab0481598c6e7e6b2ecb5561d4c39505ca3ee8a121f03b8f9e897", func := "loop.example/witan/laws.FnTipLongest", spec := "fnTipLongest", unfollowed := true, recurses := true, apart := false, narrowed := true }
def FnTipLongestUptoSaid : Prop := fnTipLongestUptoRow.holds Try.pinned (OpenSpec.upto fnTipLongestSpec)

/-- 'laws.FnFinalThree', WHERE WHAT IT READS IS OF BULK AT MOST 1048576: true; the input reads as it did. -/
def fnFinalThreeUptoRow : OpenClaim := { program := "ytdklbphecnennaa", sum := "aa110055c30ab0481598c6e7e6b2ecb5561d4c39505ca3ee8a121f03b8f9e897", func := "loop.example/witan/laws.FnFinalThree", spec := "fnFinalThree", unfollowed := true, recurses := true, apart := false, narrowed := true }
def FnFinalThreeUptoSaid : Prop := fnFinalThreeUptoRow.holds Try.pinned (OpenSpec.upto fnFinalThreeSpec)

/-- 'laws.FnFinalMost', WHERE WHAT IT READS IS OF BULK AT MOST 1048576: true; the input reads as it did. -/
def fnFinalMostUptoRow : OpenClaim := { program := "ytdklbphecnennaa", sum := "aa110055c30ab0481598c6e7e6b2ecb5561d4c39505ca3ee8a121f03b8f9e897", func := "loop.example/witan/laws.FnFinalMost", spec := "fnFinalMost", unfollowed := true, recurses := true, apart := false, narrowed := true }
def FnFinalMostUptoSaid : Prop := fnFinalMostUptoRow.holds Try.pinned (OpenSpec.upto fnFinalMostSpec)

/-- 'laws.FnTipNew', WHERE WHAT IT READS IS OF BULK AT MOST 1048576: true; the input reads as it did. -/
def fnTipNewUptoRow : OpenClaim := { program := "ytdklbphecnennaa", sum := "aa110055c30ab0481598c6e7e6b2ecb5561d4c39505ca3ee8a121f03b8f9e897", func := "loop.example/witan/laws.FnTipNew", spec := "fnTipNew", unfollowed := true, recurses := true, apart := false, narrowed := true }
def FnTipNewUptoSaid : Prop := fnTipNewUptoRow.holds Try.pinned (OpenSpec.upto fnTipNewSpec)

/-- 'laws.FnFinalMore', WHERE WHAT IT READS IS OF BULK AT MOST 1048576: true; the input reads as it did. -/
def fnFinalMoreUptoRow : OpenClaim := { program := "ytdklbphecnennaa", sum := "aa110055c30ab0481598c6e7e6b2ecb5561d4c39505ca3ee8a121f03b8f9e897", func := "loop.example/witan/laws.FnFinalMore", spec := "fnFinalMore", unfollowed := true, recurses := true, apart := false, narrowed := true }
def FnFinalMoreUptoSaid : Prop := fnFinalMoreUptoRow.holds Try.pinned (OpenSpec.upto fnFinalMoreSpec)

/-- 'laws.FnFinalSure', WHERE WHAT IT READS IS OF BULK AT MOST 1048576: true; the input reads as it did. -/
def fnFinalSureUptoRow : OpenClaim := { program := "ytdklbphecnennaa", sum := "aa110055c30ab0481598c6e7e6b2ecb5561d4c39505ca3ee8a121f03b8f9e897", func := "loop.example/witan/laws.FnFinalSure", spec := "fnFinalSure", unfollowed := true, recurses := true, apart := false, narrowed := true }
def FnFinalSureUptoSaid : Prop := fnFinalSureUptoRow.holds Try.pinned (OpenSpec.upto fnFinalSureSpec)

/-- 'laws.FnExactTreeTip', WHERE WHAT IT READS IS OF BULK AT MOST 1048576: true; the input reads as it did. -/
def fnExactTreeTipUptoRow : OpenClaim := { program := "ytdklbphecnennaa", sum := "aa110055c30ab0481598c6e7e6b2ecb5561d4c39505ca3ee8a121f03b8f9e897", func := "loop.example/witan/laws.FnExactTreeTip", spec := "fnExactTreeTip", unfollowed := true, recurses := true, apart := false, narrowed := true }
def FnExactTreeTipUptoSaid : Prop := fnExactTreeTipUptoRow.holds Try.pinned (OpenSpec.upto fnExactTreeTipSpec)

/-- 'laws.FnExactTreeAll', WHERE WHAT IT READS IS OF BULK AT MOST 1048576: true; the input reads as it did. -/
def fnExactTreeAllUptoRow : OpenClaim := { program := "ytdklbphecnennaa", sum := "aa110055c30ab0481598c6e7e6b2ecb5561d4c39505ca3ee8a121f03b8f9e897", func := "loop.example/witan/laws.FnExactTreeAll", spec := "fnExactTreeAll", unfollowed := true, recurses := true, apart := false, narrowed := true }
def FnExactTreeAllUptoSaid : Prop := fnExactTreeAllUptoRow.holds Try.pinned (OpenSpec.upto fnExactTreeAllSpec)

end Rows
end Go.Proofs.Ytdklbphecnennaa
