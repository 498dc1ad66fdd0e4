/-
  No cell of these rows narrows 'for every input' (looked for: loops, veiled, ifaces, maps, wideKeys, modest, calm, conditions, laid).
  DERIVED. THE GIVEN ROWS OF THIS SEAT. 6 by the template 'for every input the law returns true; each argument reads behind the call as it read before'; 0 by the template 'total and deterministic' (their statements: YtmgbodmpjholiaaTotals.lean).
  GIVEN WITH THE SEED: the statements are not yours to turn. If you find one false, say at which input.
  Laid BY PROGRAM, IN A SANDBOX (cutbox-rows.mjs): the forced cells as the released guide's own fill.sh prints them over the translation 32257f613f50f55d… (all of the seat's roots in one cut). By AI agents, Wed Nov 11 2026. No macro, syntax, notation, axiom, sorry.
-/
import Derived.Test.YtmgbodmpjholiaaChecked
import GoSem.Claim
import GoSem.ClaimJoined
import GoSem.ClaimMapViews
import Derived.JoinedTies
import Derived.KernelRfl
namespace Go.Proofs.Ytmgbodmpjholiaa
/- THE CELL 'sum', in the pinned program and in every row, IS THE sha256 OF THE DUMP (.gsa) THAT YtmgbodmpjholiaaProg.lean LOADS. Nothing in Lean hashes anything: it is a label: what it is worth is what the hold of that sum in a sandbox is worth. -/
noncomputable def Try.pinned : Pinned := { name := "ytmgbodmpjholiaa", sum := "32257f613f50f55d3443126c1d218f0a082c918f84c4af93d2ec3fe634dd7317", checked := Try.checked }
namespace Rows
def none {H : Type} : Left H := { results := [], args := [] }

/-- 'juristlaw06.TermsSums': WHATEVER THE INPUT: true; the input reads as it did. -/
def termsSumsSpec : ChangeSpec := { name := "termsSums", fn := fun _ => fun
  | [d1, d2] => { results := [.lit (.bool true)], args := [d1, d2] }
  | _ => none }
def termsSumsRow : OpenClaim := { program := "ytmgbodmpjholiaa", sum := "32257f613f50f55d3443126c1d218f0a082c918f84c4af93d2ec3fe634dd7317", func := "jurist/juristlaw06.TermsSums", spec := "termsSums", unfollowed := true, recurses := true, plainKeys := false, apart := false }
def TermsSumsSaid : Prop := termsSumsRow.holds Try.pinned (OpenSpec.ofChange termsSumsSpec)

/-- ITS FALSE NEIGHBOUR: 'it returns false'. Refute it at one input. -/
def termsSumsWrong : ChangeSpec := { name := "termsSums", fn := fun _ => fun
  | [d1, d2] => { results := [.lit (.bool false)], args := [d1, d2] }
  | _ => none }
def TermsSumsWrongFalsely : Prop := termsSumsRow.holds Try.pinned (OpenSpec.ofChange termsSumsWrong)

/-- 'juristlaw06.TermsFull': WHATEVER THE INPUT: true; the input reads as it did. -/
def termsFullSpec : ChangeSpec := { name := "termsFull", fn := fun _ => fun
  | [d] => { results := [.lit (.bool true)], args := [d] }
  | _ => none }
def termsFullRow : OpenClaim := { program := "ytmgbodmpjholiaa", sum := "32257f613f50f55d3443126c1d218f0a082c918f84c4af93d2ec3fe634dd7317", func := "jurist/juristlaw06.TermsFull", spec := "termsFull", unfollowed := true, recurses := true, plainKeys := false, apart := false }
def TermsFullSaid : Prop := termsFullRow.holds Try.pinned (OpenSpec.ofChange termsFullSpec)

/-- ITS FALSE NEIGHBOUR: 'it returns false'. Refute it at one input. -/
def termsFullWrong : ChangeSpec := { name := "termsFull", fn := fun _ => fun
  | [d] => { results := [.lit (.bool false)], args := [d] }
  | _ => none }
def TermsFullWrongFalsely : Prop := termsFullRow.holds Try.pinned (OpenSpec.ofChange termsFullWrong)

/-- 'juristlaw06.TermsOnce': WHATEVER THE INPUT: true; the input reads as it did. -/
def termsOnceSpec : ChangeSpec := { name := "termsOnce", fn := fun _ => fun
  | [d] => { results := [.lit (.bool true)], args := [d] }
  | _ => none }
def termsOnceRow : OpenClaim := { program := "ytmgbodmpjholiaa", sum := "32257f613f50f55d3443126c1d218f0a082c918f84c4af93d2ec3fe634dd7317", func := "jurist/juristlaw06.TermsOnce", spec := "termsOnce", unfollowed := true, recurses := true, plainKeys := false, apart := false }
def TermsOnceSaid : Prop := termsOnceRow.holds Try.pinned (OpenSpec.ofChange termsOnceSpec)

/-- ITS FALSE NEIGHBOUR: 'it returns false'. Refute it at one input. -/
def termsOnceWrong : ChangeSpec := { name := "termsOnce", fn := fun _ => fun
  | [d] => { results := [.lit (.bool false)], args := [d] }
  | _ => none }
def TermsOnceWrongFalsely : Prop := termsOnceRow.holds Try.pinned (OpenSpec.ofChange termsOnceWrong)

/-- 'juristlaw06.TermsSorts': WHATEVER THE INPUT: true; the input reads as it did. -/
def termsSortsSpec : ChangeSpec := { name := "termsSorts", fn := fun _ => fun
  | [d] => { results := [.lit (.bool true)], args := [d] }
  | _ => none }
def termsSortsRow : OpenClaim := { program := "ytmgbodmpjholiaa", sum := "32257f613f50f55d3443126c1d218f0a082c918f84c4af93d2ec3fe634dd7317", func := "jurist/juristlaw06.TermsSorts", spec := "termsSorts", unfollowed := true, recurses := true, plainKeys := false, apart := false }
def TermsSortsSaid : Prop := termsSortsRow.holds Try.pinned (OpenSpec.ofChange termsSortsSpec)

/-- ITS FALSE NEIGHBOUR: 'it returns false'. Refute it at one input. -/
def termsSortsWrong : ChangeSpec := { name := "termsSorts", fn := fun _ => fun
  | [d] => { results := [.lit (.bool false)], args := [d] }
  | _ => none }
def TermsSortsWrongFalsely : Prop := termsSortsRow.holds Try.pinned (OpenSpec.ofChange termsSortsWrong)

/-- 'juristlaw06.TermsPlays': WHATEVER THE INPUT: true; the input reads as it did. -/
def termsPlaysSpec : ChangeSpec := { name := "termsPlays", fn := fun _ => fun
  | [d] => { results := [.lit (.bool true)], args := [d] }
  | _ => none }
def termsPlaysRow : OpenClaim := { program := "ytmgbodmpjholiaa", sum := "32257f613f50f55d3443126c1d218f0a082c918f84c4af93d2ec3fe634dd7317", func := "jurist/juristlaw06.TermsPlays", spec := "termsPlays", inPlace := ["maps.clone"], unfollowed := true, recurses := true, plainKeys := false, apart := false }
def TermsPlaysSaid : Prop := termsPlaysRow.holds Try.pinned (OpenSpec.ofChange termsPlaysSpec)

/-- ITS FALSE NEIGHBOUR: 'it returns false'. Refute it at one input. -/
def termsPlaysWrong : ChangeSpec := { name := "termsPlays", fn := fun _ => fun
  | [d] => { results := [.lit (.bool false)], args := [d] }
  | _ => none }
def TermsPlaysWrongFalsely : Prop := termsPlaysRow.holds Try.pinned (OpenSpec.ofChange termsPlaysWrong)

/-- 'juristlaw06.TermsNone': WHATEVER THE INPUT: true; the input reads as it did. -/
def termsNoneSpec : ChangeSpec := { name := "termsNone", fn := fun _ => fun
  | [d1, d2, d3] => { results := [.lit (.bool true)], args := [d1, d2, d3] }
  | _ => none }
def termsNoneRow : OpenClaim := { program := "ytmgbodmpjholiaa", sum := "32257f613f50f55d3443126c1d218f0a082c918f84c4af93d2ec3fe634dd7317", func := "jurist/juristlaw06.TermsNone", spec := "termsNone", inPlace := ["maps.clone"], unfollowed := true, recurses := true, plainKeys := false, apart := false }
def TermsNoneSaid : Prop := termsNoneRow.holds Try.pinned (OpenSpec.ofChange termsNoneSpec)

/-- ITS FALSE NEIGHBOUR: 'it returns false'. Refute it at one input. -/
def termsNoneWrong : ChangeSpec := { name := "termsNone", fn := fun _ => fun
  | [d1, d2, d3] => { results := [.lit (.bool false)], args := [d1, d2, d3] }
  | _ => none }
def TermsNoneWrongFalsely : Prop := termsNoneRow.holds Try.pinned (OpenSpec.ofChange termsNoneWrong)

/- THE SECOND FORM. 'bulk': how many values and letters a reading holds, each counted each time it is reached (what is shared counts as often as it is met; a slice's spare places count too). A statement '..UptoSaid' is the law's where the arguments, and the package variables that the reading takes, are together of bulk at most 1048576: NARROWER than '..Said'. Prove '..Said' where nothing that the law and all that it calls make is longer than what came in: it says more and counts as full. Else prove '..UptoSaid'. A law counts once. -/
mutual
def uptoBulk {H : Type} : DataW H → Nat
  | .lit (.string bytes) => bytes.length + 1
  | .lit _ => 1
  | .nil => 1
  | .ptr d => uptoBulk d + 1
  | .slice elems spare => uptoBulkAll elems + uptoBulkAll spare + 1
  | .agg parts => uptoBulkAll parts + 1
  | .iface _ d => uptoBulk d + 1
  | .map entries => uptoBulkEntries entries + 1
  | .held _ => 1
def uptoBulkAll {H : Type} : List (DataW H) → Nat
  | [] => 0
  | d :: r => uptoBulk d + uptoBulkAll r
def uptoBulkEntries {H : Type} : List (Lit × DataW H) → Nat
  | [] => 0
  | x :: r => uptoBulkEntry x + uptoBulkEntries r
def uptoBulkEntry {H : Type} : Lit × DataW H → Nat
  | (.string bytes, d) => bytes.length + uptoBulk d + 1
  | (_, d) => uptoBulk d + 1
 end
def uptoSmall : (H : Type) → List (DataW H) → Bool := fun _ ds => decide (uptoBulkAll ds ≤ 1048576)
def OpenSpec.upto (s : _root_.Go.ChangeSpec) : _root_.Go.OpenSpec := { _root_.Go.OpenSpec.ofChange s with cond := some uptoSmall }

/-- 'juristlaw06.TermsSums', WHERE WHAT IT READS IS OF BULK AT MOST 1048576: true; the input reads as it did. -/
def termsSumsUptoRow : OpenClaim := { program := "ytmgbodmpjholiaa", sum := "32257f613f50f55d3443126c1d218f0a082c918f84c4af93d2ec3fe634dd7317", func := "jurist/juristlaw06.TermsSums", spec := "termsSums", unfollowed := true, recurses := true, plainKeys := false, apart := false, narrowed := true }
def TermsSumsUptoSaid : Prop := termsSumsUptoRow.holds Try.pinned (OpenSpec.upto termsSumsSpec)

/-- 'juristlaw06.TermsFull', WHERE WHAT IT READS IS OF BULK AT MOST 1048576: true; the input reads as it did. -/
def termsFullUptoRow : OpenClaim := { program := "ytmgbodmpjholiaa", sum := "32257f613f50f55d3443126c1d218f0a082c918f84c4af93d2ec3fe634dd7317", func := "jurist/juristlaw06.TermsFull", spec := "termsFull", unfollowed := true, recurses := true, plainKeys := false, apart := false, narrowed := true }
def TermsFullUptoSaid : Prop := termsFullUptoRow.holds Try.pinned (OpenSpec.upto termsFullSpec)

/-- 'juristlaw06.TermsOnce', WHERE WHAT IT READS IS OF BULK AT MOST 1048576: true; the input reads as it did. -/
def termsOnceUptoRow : OpenClaim := { program := "ytmgbodmpjholiaa", sum := "32257f613f50f55d3443126c1d218f0a082c918f84c4af93d2ec3fe634dd7317", func := "jurist/juristlaw06.TermsOnce", spec := "termsOnce", unfollowed := true, recurses := true, plainKeys := false, apart := false, narrowed := true }
def TermsOnceUptoSaid : Prop := termsOnceUptoRow.holds Try.pinned (OpenSpec.upto termsOnceSpec)

/-- 'juristlaw06.TermsSorts', WHERE WHAT IT READS IS OF BULK AT MOST 1048576: true; the input reads as it did. -/
def termsSortsUptoRow : OpenClaim := { program := "ytmgbodmpjholiaa", sum := "32257f613f50f55d3443126c1d218f0a082c918f84c4af93d2ec3fe634dd7317", func := "jurist/juristlaw06.TermsSorts", spec := "termsSorts", unfollowed := true, recurses := true, plainKeys := false, apart := false, narrowed := true }
def TermsSortsUptoSaid : Prop := termsSortsUptoRow.holds Try.pinned (OpenSpec.upto termsSortsSpec)

/-- 'juristlaw06.TermsPlays', WHERE WHAT IT READS IS OF BULK AT MOST 1048576: true; the input reads as it did. -/
def termsPlaysUptoRow : OpenClaim := { program := "ytmgbodmpjholiaa", sum := "32257f613f50f55d3443126c1d218f0a082c918f84c4af93d2ec3fe634dd7317", func := "jurist/juristlaw06.TermsPlays", spec := "termsPlays", inPlace := ["maps.clone"], unfollowed := true, recurses := true, plainKeys := false, apart := false, narrowed := true }
def TermsPlaysUptoSaid : Prop := termsPlaysUptoRow.holds Try.pinned (OpenSpec.upto termsPlaysSpec)

/-- 'juristlaw06.TermsNone', WHERE WHAT IT READS IS OF BULK AT MOST 1048576: true; the input reads as it did. -/
def termsNoneUptoRow : OpenClaim := { program := "ytmgbodmpjholiaa", sum := "32257f613f50f55d3443126c1d218f0a082c918f84c4af93d2ec3fe634dd7317", func := "jurist/juristlaw06.TermsNone", spec := "termsNone", inPlace := ["maps.clone"], unfollowed := true, recurses := true, plainKeys := false, apart := false, narrowed := true }
def TermsNoneUptoSaid : Prop := termsNoneUptoRow.holds Try.pinned (OpenSpec.upto termsNoneSpec)

end Rows
end Go.Proofs.Ytmgbodmpjholiaa
