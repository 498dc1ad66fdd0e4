/-
  No cell of these rows narrows 'for every input' (looked for: loops, veiled, ifaces, maps, wideKeys, modest, calm, conditions, laid).
  DERIVED. THE GIVEN ROWS OF THIS SEAT. 8 by the template 'for every input the law returns true; each argument reads behind the call as it read before'; 0 by the template 'total and deterministic' (their statements: YtpjcfojdkdlggaaTotals.lean).
  GIVEN WITH THE SEED: the statements are not yours to turn. If you find one false, say at which input.
  Laid BY PROGRAM, IN A SANDBOX (cutbox-rows.mjs): the forced cells as the released guide's own fill.sh prints them over the translation b79e21bf26c26b1b… (all of the seat's roots in one cut). By AI agents, Wed Nov 11 2026. No macro, syntax, notation, axiom, sorry.
-/
import Derived.Test.YtpjcfojdkdlggaaChecked
import GoSem.Claim
import GoSem.ClaimJoined
import GoSem.ClaimMapViews
import Derived.JoinedTies
import Derived.KernelRfl
namespace Go.Proofs.Ytpjcfojdkdlggaa
/- THE CELL 'sum', in the pinned program and in every row, IS THE sha256 OF THE DUMP (.gsa) THAT YtpjcfojdkdlggaaProg.lean LOADS. Nothing in Lean hashes anything: it is a label: what it is worth is what the hold of that sum in a sandbox is worth. -/
noncomputable def Try.pinned : Pinned := { name := "ytpjcfojdkdlggaa", sum := "b79e21bf26c26b1b7575888064c229982db1f16145b25add528ffa64f107613a", checked := Try.checked }
namespace Rows
def none {H : Type} : Left H := { results := [], args := [] }

/-- 'juristlaw18.CyclesOf': WHATEVER THE INPUT: true; the input reads as it did. -/
def cyclesOfSpec : ChangeSpec := { name := "cyclesOf", fn := fun _ => fun
  | [d1, d2] => { results := [.lit (.bool true)], args := [d1, d2] }
  | _ => none }
def cyclesOfRow : OpenClaim := { program := "ytpjcfojdkdlggaa", sum := "b79e21bf26c26b1b7575888064c229982db1f16145b25add528ffa64f107613a", func := "jurist/juristlaw18.CyclesOf", spec := "cyclesOf", inPlace := ["math/bits.Add64"], unfollowed := true, recurses := true, apart := false }
def CyclesOfSaid : Prop := cyclesOfRow.holds Try.pinned (OpenSpec.ofChange cyclesOfSpec)

/-- ITS FALSE NEIGHBOUR: 'it returns false'. Refute it at one input. -/
def cyclesOfWrong : ChangeSpec := { name := "cyclesOf", fn := fun _ => fun
  | [d1, d2] => { results := [.lit (.bool false)], args := [d1, d2] }
  | _ => none }
def CyclesOfWrongFalsely : Prop := cyclesOfRow.holds Try.pinned (OpenSpec.ofChange cyclesOfWrong)

/-- 'juristlaw18.CyclesSums': WHATEVER THE INPUT: true; the input reads as it did. -/
def cyclesSumsSpec : ChangeSpec := { name := "cyclesSums", fn := fun _ => fun
  | [d] => { results := [.lit (.bool true)], args := [d] }
  | _ => none }
def cyclesSumsRow : OpenClaim := { program := "ytpjcfojdkdlggaa", sum := "b79e21bf26c26b1b7575888064c229982db1f16145b25add528ffa64f107613a", func := "jurist/juristlaw18.CyclesSums", spec := "cyclesSums", inPlace := ["math/bits.Add64"], unfollowed := true, recurses := true, apart := false }
def CyclesSumsSaid : Prop := cyclesSumsRow.holds Try.pinned (OpenSpec.ofChange cyclesSumsSpec)

/-- ITS FALSE NEIGHBOUR: 'it returns false'. Refute it at one input. -/
def cyclesSumsWrong : ChangeSpec := { name := "cyclesSums", fn := fun _ => fun
  | [d] => { results := [.lit (.bool false)], args := [d] }
  | _ => none }
def CyclesSumsWrongFalsely : Prop := cyclesSumsRow.holds Try.pinned (OpenSpec.ofChange cyclesSumsWrong)

/-- 'juristlaw18.CyclesChecks': WHATEVER THE INPUT: true; the input reads as it did. -/
def cyclesChecksSpec : ChangeSpec := { name := "cyclesChecks", fn := fun _ => fun
  | [d1, d2] => { results := [.lit (.bool true)], args := [d1, d2] }
  | _ => none }
def cyclesChecksRow : OpenClaim := { program := "ytpjcfojdkdlggaa", sum := "b79e21bf26c26b1b7575888064c229982db1f16145b25add528ffa64f107613a", func := "jurist/juristlaw18.CyclesChecks", spec := "cyclesChecks", inPlace := ["math/bits.Add64"], unfollowed := true, recurses := true, apart := false }
def CyclesChecksSaid : Prop := cyclesChecksRow.holds Try.pinned (OpenSpec.ofChange cyclesChecksSpec)

/-- ITS FALSE NEIGHBOUR: 'it returns false'. Refute it at one input. -/
def cyclesChecksWrong : ChangeSpec := { name := "cyclesChecks", fn := fun _ => fun
  | [d1, d2] => { results := [.lit (.bool false)], args := [d1, d2] }
  | _ => none }
def CyclesChecksWrongFalsely : Prop := cyclesChecksRow.holds Try.pinned (OpenSpec.ofChange cyclesChecksWrong)

/-- 'juristlaw18.CyclesSound': WHATEVER THE INPUT: true; the input reads as it did. -/
def cyclesSoundSpec : ChangeSpec := { name := "cyclesSound", fn := fun _ => fun
  | [d1, d2, d3] => { results := [.lit (.bool true)], args := [d1, d2, d3] }
  | _ => none }
def cyclesSoundRow : OpenClaim := { program := "ytpjcfojdkdlggaa", sum := "b79e21bf26c26b1b7575888064c229982db1f16145b25add528ffa64f107613a", func := "jurist/juristlaw18.CyclesSound", spec := "cyclesSound", inPlace := ["math/bits.Add64"], unfollowed := true, recurses := true, apart := false }
def CyclesSoundSaid : Prop := cyclesSoundRow.holds Try.pinned (OpenSpec.ofChange cyclesSoundSpec)

/-- ITS FALSE NEIGHBOUR: 'it returns false'. Refute it at one input. -/
def cyclesSoundWrong : ChangeSpec := { name := "cyclesSound", fn := fun _ => fun
  | [d1, d2, d3] => { results := [.lit (.bool false)], args := [d1, d2, d3] }
  | _ => none }
def CyclesSoundWrongFalsely : Prop := cyclesSoundRow.holds Try.pinned (OpenSpec.ofChange cyclesSoundWrong)

/-- 'juristlaw18.CyclesTurned': WHATEVER THE INPUT: true; the input reads as it did. -/
def cyclesTurnedSpec : ChangeSpec := { name := "cyclesTurned", fn := fun _ => fun
  | [d1, d2] => { results := [.lit (.bool true)], args := [d1, d2] }
  | _ => none }
def cyclesTurnedRow : OpenClaim := { program := "ytpjcfojdkdlggaa", sum := "b79e21bf26c26b1b7575888064c229982db1f16145b25add528ffa64f107613a", func := "jurist/juristlaw18.CyclesTurned", spec := "cyclesTurned", inPlace := ["math/bits.Add64"], unfollowed := true, recurses := true, apart := false }
def CyclesTurnedSaid : Prop := cyclesTurnedRow.holds Try.pinned (OpenSpec.ofChange cyclesTurnedSpec)

/-- ITS FALSE NEIGHBOUR: 'it returns false'. Refute it at one input. -/
def cyclesTurnedWrong : ChangeSpec := { name := "cyclesTurned", fn := fun _ => fun
  | [d1, d2] => { results := [.lit (.bool false)], args := [d1, d2] }
  | _ => none }
def CyclesTurnedWrongFalsely : Prop := cyclesTurnedRow.holds Try.pinned (OpenSpec.ofChange cyclesTurnedWrong)

/-- 'juristlaw18.CyclesRound': WHATEVER THE INPUT: true; the input reads as it did. -/
def cyclesRoundSpec : ChangeSpec := { name := "cyclesRound", fn := fun _ => fun
  | [d1, d2] => { results := [.lit (.bool true)], args := [d1, d2] }
  | _ => none }
def cyclesRoundRow : OpenClaim := { program := "ytpjcfojdkdlggaa", sum := "b79e21bf26c26b1b7575888064c229982db1f16145b25add528ffa64f107613a", func := "jurist/juristlaw18.CyclesRound", spec := "cyclesRound", inPlace := ["math/bits.Add64"], unfollowed := true, recurses := true, apart := false }
def CyclesRoundSaid : Prop := cyclesRoundRow.holds Try.pinned (OpenSpec.ofChange cyclesRoundSpec)

/-- ITS FALSE NEIGHBOUR: 'it returns false'. Refute it at one input. -/
def cyclesRoundWrong : ChangeSpec := { name := "cyclesRound", fn := fun _ => fun
  | [d1, d2] => { results := [.lit (.bool false)], args := [d1, d2] }
  | _ => none }
def CyclesRoundWrongFalsely : Prop := cyclesRoundRow.holds Try.pinned (OpenSpec.ofChange cyclesRoundWrong)

/-- 'juristlaw18.CyclesJoin': WHATEVER THE INPUT: true; the input reads as it did. -/
def cyclesJoinSpec : ChangeSpec := { name := "cyclesJoin", fn := fun _ => fun
  | [d1, d2] => { results := [.lit (.bool true)], args := [d1, d2] }
  | _ => none }
def cyclesJoinRow : OpenClaim := { program := "ytpjcfojdkdlggaa", sum := "b79e21bf26c26b1b7575888064c229982db1f16145b25add528ffa64f107613a", func := "jurist/juristlaw18.CyclesJoin", spec := "cyclesJoin", inPlace := ["math/bits.Add64"], unfollowed := true, recurses := true, apart := false }
def CyclesJoinSaid : Prop := cyclesJoinRow.holds Try.pinned (OpenSpec.ofChange cyclesJoinSpec)

/-- ITS FALSE NEIGHBOUR: 'it returns false'. Refute it at one input. -/
def cyclesJoinWrong : ChangeSpec := { name := "cyclesJoin", fn := fun _ => fun
  | [d1, d2] => { results := [.lit (.bool false)], args := [d1, d2] }
  | _ => none }
def CyclesJoinWrongFalsely : Prop := cyclesJoinRow.holds Try.pinned (OpenSpec.ofChange cyclesJoinWrong)

/-- 'juristlaw18.CyclesScale': WHATEVER THE INPUT: true; the input reads as it did. -/
def cyclesScaleSpec : ChangeSpec := { name := "cyclesScale", fn := fun _ => fun
  | [d1, d2] => { results := [.lit (.bool true)], args := [d1, d2] }
  | _ => none }
def cyclesScaleRow : OpenClaim := { program := "ytpjcfojdkdlggaa", sum := "b79e21bf26c26b1b7575888064c229982db1f16145b25add528ffa64f107613a", func := "jurist/juristlaw18.CyclesScale", spec := "cyclesScale", inPlace := ["math/bits.Add64"], unfollowed := true, recurses := true, apart := false }
def CyclesScaleSaid : Prop := cyclesScaleRow.holds Try.pinned (OpenSpec.ofChange cyclesScaleSpec)

/-- ITS FALSE NEIGHBOUR: 'it returns false'. Refute it at one input. -/
def cyclesScaleWrong : ChangeSpec := { name := "cyclesScale", fn := fun _ => fun
  | [d1, d2] => { results := [.lit (.bool false)], args := [d1, d2] }
  | _ => none }
def CyclesScaleWrongFalsely : Prop := cyclesScaleRow.holds Try.pinned (OpenSpec.ofChange cyclesScaleWrong)

/- THE SECOND FORM. 'bulk': how many values and letters a reading holds, each counted each time it is reached (what is shared counts as often as it is met; a slice's spare places count too). A statement '..UptoSaid' is the law's where the arguments, and the package variables that the reading takes, are together of bulk at most 1048576: NARROWER than '..Said'. Prove '..Said' where nothing that the law and all that it calls make is longer than what came in: it says more and counts as full. Else prove '..UptoSaid'. A law counts once. -/
mutual
def uptoBulk {H : Type} : DataW H → Nat
  | .lit (.string bytes) => bytes.length + 1
  | .lit _ => 1
  | .nil => 1
  | .ptr d => uptoBulk d + 1
  | .slice elems spare => uptoBulkAll elems + uptoBulkAll spare + 1
  | .agg parts => uptoBulkAll parts + 1
  | .iface _ d => uptoBulk d + 1
  | .map entries => uptoBulkEntries entries + 1
  | .held _ => 1
def uptoBulkAll {H : Type} : List (DataW H) → Nat
  | [] => 0
  | d :: r => uptoBulk d + uptoBulkAll r
def uptoBulkEntries {H : Type} : List (Lit × DataW H) → Nat
  | [] => 0
  | x :: r => uptoBulkEntry x + uptoBulkEntries r
def uptoBulkEntry {H : Type} : Lit × DataW H → Nat
  | (.string bytes, d) => bytes.length + uptoBulk d + 1
  | (_, d) => uptoBulk d + 1
 end
def uptoSmall : (H : Type) → List (DataW H) → Bool := fun _ ds => decide (uptoBulkAll ds ≤ 1048576)
def OpenSpec.upto (s : _root_.Go.ChangeSpec) : _root_.Go.OpenSpec := { _root_.Go.OpenSpec.ofChange s with cond := some uptoSmall }

/-- 'juristlaw18.CyclesOf', WHERE WHAT IT READS IS OF BULK AT MOST 1048576: true; the input reads as it did. -/
def cyclesOfUptoRow : OpenClaim := { program := "ytpjcfojdkdlggaa", sum := "b79e21bf26c26b1b7575888064c229982db1f16145b25add528ffa64f107613a", func := "jurist/juristlaw18.CyclesOf", spec := "cyclesOf", inPlace := ["math/bits.Add64"], unfollowed := true, recurses := true, apart := false, narrowed := true }
def CyclesOfUptoSaid : Prop := cyclesOfUptoRow.holds Try.pinned (OpenSpec.upto cyclesOfSpec)

/-- 'juristlaw18.CyclesSums', WHERE WHAT IT READS IS OF BULK AT MOST 1048576: true; the input reads as it did. -/
def cyclesSumsUptoRow : OpenClaim := { program := "ytpjcfojdkdlggaa", sum := "b79e21bf26c26b1b7575888064c229982db1f16145b25add528ffa64f107613a", func := "jurist/juristlaw18.CyclesSums", spec := "cyclesSums", inPlace := ["math/bits.Add64"], unfollowed := true, recurses := true, apart := false, narrowed := true }
def CyclesSumsUptoSaid : Prop := cyclesSumsUptoRow.holds Try.pinned (OpenSpec.upto cyclesSumsSpec)

/-- 'juristlaw18.CyclesChecks', WHERE WHAT IT READS IS OF BULK AT MOST 1048576: true; the input reads as it did. -/
def cyclesChecksUptoRow : OpenClaim := { program := "ytpjcfojdkdlggaa", sum := "b79e21bf26c26b1b7575888064c229982db1f16145b25add528ffa64f107613a", func := "jurist/juristlaw18.CyclesChecks", spec := "cyclesChecks", inPlace := ["math/bits.Add64"], unfollowed := true, recurses := true, apart := false, narrowed := true }
def CyclesChecksUptoSaid : Prop := cyclesChecksUptoRow.holds Try.pinned (OpenSpec.upto cyclesChecksSpec)

/-- 'juristlaw18.CyclesSound', WHERE WHAT IT READS IS OF BULK AT MOST 1048576: true; the input reads as it did. -/
def cyclesSoundUptoRow : OpenClaim := { program := "ytpjcfojdkdlggaa", sum := "b79e21bf26c26b1b7575888064c229982db1f16145b25add528ffa64f107613a", func := "jurist/juristlaw18.CyclesSound", spec := "cyclesSound", inPlace := ["math/bits.Add64"], unfollowed := true, recurses := true, apart := false, narrowed := true }
def CyclesSoundUptoSaid : Prop := cyclesSoundUptoRow.holds Try.pinned (OpenSpec.upto cyclesSoundSpec)

/-- 'juristlaw18.CyclesTurned', WHERE WHAT IT READS IS OF BULK AT MOST 1048576: true; the input reads as it did. -/
def cyclesTurnedUptoRow : OpenClaim := { program := "ytpjcfojdkdlggaa", sum := "b79e21bf26c26b1b7575888064c229982db1f16145b25add528ffa64f107613a", func := "jurist/juristlaw18.CyclesTurned", spec := "cyclesTurned", inPlace := ["math/bits.Add64"], unfollowed := true, recurses := true, apart := false, narrowed := true }
def CyclesTurnedUptoSaid : Prop := cyclesTurnedUptoRow.holds Try.pinned (OpenSpec.upto cyclesTurnedSpec)

/-- 'juristlaw18.CyclesRound', WHERE WHAT IT READS IS OF BULK AT MOST 1048576: true; the input reads as it did. -/
def cyclesRoundUptoRow : OpenClaim := { program := "ytpjcfojdkdlggaa", sum := "b79e21bf26c26b1b7575888064c229982db1f16145b25add528ffa64f107613a", func := "jurist/juristlaw18.CyclesRound", spec := "cyclesRound", inPlace := ["math/bits.Add64"], unfollowed := true, recurses := true, apart := false, narrowed := true }
def CyclesRoundUptoSaid : Prop := cyclesRoundUptoRow.holds Try.pinned (OpenSpec.upto cyclesRoundSpec)

/-- 'juristlaw18.CyclesJoin', WHERE WHAT IT READS IS OF BULK AT MOST 1048576: true; the input reads as it did. -/
def cyclesJoinUptoRow : OpenClaim := { program := "ytpjcfojdkdlggaa", sum := "b79e21bf26c26b1b7575888064c229982db1f16145b25add528ffa64f107613a", func := "jurist/juristlaw18.CyclesJoin", spec := "cyclesJoin", inPlace := ["math/bits.Add64"], unfollowed := true, recurses := true, apart := false, narrowed := true }
def CyclesJoinUptoSaid : Prop := cyclesJoinUptoRow.holds Try.pinned (OpenSpec.upto cyclesJoinSpec)

/-- 'juristlaw18.CyclesScale', WHERE WHAT IT READS IS OF BULK AT MOST 1048576: true; the input reads as it did. -/
def cyclesScaleUptoRow : OpenClaim := { program := "ytpjcfojdkdlggaa", sum := "b79e21bf26c26b1b7575888064c229982db1f16145b25add528ffa64f107613a", func := "jurist/juristlaw18.CyclesScale", spec := "cyclesScale", inPlace := ["math/bits.Add64"], unfollowed := true, recurses := true, apart := false, narrowed := true }
def CyclesScaleUptoSaid : Prop := cyclesScaleUptoRow.holds Try.pinned (OpenSpec.upto cyclesScaleSpec)

end Rows
end Go.Proofs.Ytpjcfojdkdlggaa
