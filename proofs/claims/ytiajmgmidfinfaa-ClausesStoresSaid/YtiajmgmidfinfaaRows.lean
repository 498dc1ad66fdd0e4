/-
  No cell of these rows narrows 'for every input' (looked for: loops, veiled, ifaces, maps, wideKeys, modest, calm, conditions, laid).
  DERIVED. THE GIVEN ROWS OF THIS SEAT. 7 by the template 'for every input the law returns true; each argument reads behind the call as it read before'; 0 by the template 'total and deterministic' (their statements: YtiajmgmidfinfaaTotals.lean).
  GIVEN WITH THE SEED: the statements are not yours to turn. If you find one false, say at which input.
  Laid BY PROGRAM, IN A SANDBOX (cutbox-rows.mjs): the forced cells as the released guide's own fill.sh prints them over the translation a819474442f0dd5a… (all of the seat's roots in one cut). By AI agents, Wed Nov 11 2026. No macro, syntax, notation, axiom, sorry.
-/
import Derived.Test.YtiajmgmidfinfaaChecked
import GoSem.Claim
import GoSem.ClaimJoined
import GoSem.ClaimMapViews
import Derived.JoinedTies
import Derived.KernelRfl
namespace Go.Proofs.Ytiajmgmidfinfaa
/- THE CELL 'sum', in the pinned program and in every row, IS THE sha256 OF THE DUMP (.gsa) THAT YtiajmgmidfinfaaProg.lean LOADS. Nothing in Lean hashes anything: it is a label: what it is worth is what the hold of that sum in a sandbox is worth. -/
noncomputable def Try.pinned : Pinned := { name := "ytiajmgmidfinfaa", sum := "a819474442f0dd5ae1becd096bcdf2366fb45a1952215ef857274653a7091ea8", checked := Try.checked }
namespace Rows
def none {H : Type} : Left H := { results := [], args := [] }

/-- 'juristlaw14.ClausesNothing': WHATEVER THE INPUT: true; the input reads as it did. -/
def clausesNothingSpec : ChangeSpec := { name := "clausesNothing", fn := fun _ => fun
  | [d1, d2] => { results := [.lit (.bool true)], args := [d1, d2] }
  | _ => none }
def clausesNothingRow : OpenClaim := { program := "ytiajmgmidfinfaa", sum := "a819474442f0dd5ae1becd096bcdf2366fb45a1952215ef857274653a7091ea8", func := "jurist/juristlaw14.ClausesNothing", spec := "clausesNothing", unfollowed := true, recurses := true, apart := false }
def ClausesNothingSaid : Prop := clausesNothingRow.holds Try.pinned (OpenSpec.ofChange clausesNothingSpec)

/-- ITS FALSE NEIGHBOUR: 'it returns false'. Refute it at one input. -/
def clausesNothingWrong : ChangeSpec := { name := "clausesNothing", fn := fun _ => fun
  | [d1, d2] => { results := [.lit (.bool false)], args := [d1, d2] }
  | _ => none }
def ClausesNothingWrongFalsely : Prop := clausesNothingRow.holds Try.pinned (OpenSpec.ofChange clausesNothingWrong)

/-- 'juristlaw14.ClausesOne': WHATEVER THE INPUT: true; the input reads as it did. -/
def clausesOneSpec : ChangeSpec := { name := "clausesOne", fn := fun _ => fun
  | [d1, d2, d3] => { results := [.lit (.bool true)], args := [d1, d2, d3] }
  | _ => none }
def clausesOneRow : OpenClaim := { program := "ytiajmgmidfinfaa", sum := "a819474442f0dd5ae1becd096bcdf2366fb45a1952215ef857274653a7091ea8", func := "jurist/juristlaw14.ClausesOne", spec := "clausesOne", unfollowed := true, recurses := true, apart := false }
def ClausesOneSaid : Prop := clausesOneRow.holds Try.pinned (OpenSpec.ofChange clausesOneSpec)

/-- ITS FALSE NEIGHBOUR: 'it returns false'. Refute it at one input. -/
def clausesOneWrong : ChangeSpec := { name := "clausesOne", fn := fun _ => fun
  | [d1, d2, d3] => { results := [.lit (.bool false)], args := [d1, d2, d3] }
  | _ => none }
def ClausesOneWrongFalsely : Prop := clausesOneRow.holds Try.pinned (OpenSpec.ofChange clausesOneWrong)

/-- 'juristlaw14.ClausesForms': WHATEVER THE INPUT: true; the input reads as it did. -/
def clausesFormsSpec : ChangeSpec := { name := "clausesForms", fn := fun _ => fun
  | [d1, d2] => { results := [.lit (.bool true)], args := [d1, d2] }
  | _ => none }
def clausesFormsRow : OpenClaim := { program := "ytiajmgmidfinfaa", sum := "a819474442f0dd5ae1becd096bcdf2366fb45a1952215ef857274653a7091ea8", func := "jurist/juristlaw14.ClausesForms", spec := "clausesForms", unfollowed := true, recurses := true, apart := false }
def ClausesFormsSaid : Prop := clausesFormsRow.holds Try.pinned (OpenSpec.ofChange clausesFormsSpec)

/-- ITS FALSE NEIGHBOUR: 'it returns false'. Refute it at one input. -/
def clausesFormsWrong : ChangeSpec := { name := "clausesForms", fn := fun _ => fun
  | [d1, d2] => { results := [.lit (.bool false)], args := [d1, d2] }
  | _ => none }
def ClausesFormsWrongFalsely : Prop := clausesFormsRow.holds Try.pinned (OpenSpec.ofChange clausesFormsWrong)

/-- 'juristlaw14.ClausesResolve': WHATEVER THE INPUT: true; the input reads as it did. -/
def clausesResolveSpec : ChangeSpec := { name := "clausesResolve", fn := fun _ => fun
  | [d1, d2, d3] => { results := [.lit (.bool true)], args := [d1, d2, d3] }
  | _ => none }
def clausesResolveRow : OpenClaim := { program := "ytiajmgmidfinfaa", sum := "a819474442f0dd5ae1becd096bcdf2366fb45a1952215ef857274653a7091ea8", func := "jurist/juristlaw14.ClausesResolve", spec := "clausesResolve", unfollowed := true, recurses := true, apart := false }
def ClausesResolveSaid : Prop := clausesResolveRow.holds Try.pinned (OpenSpec.ofChange clausesResolveSpec)

/-- ITS FALSE NEIGHBOUR: 'it returns false'. Refute it at one input. -/
def clausesResolveWrong : ChangeSpec := { name := "clausesResolve", fn := fun _ => fun
  | [d1, d2, d3] => { results := [.lit (.bool false)], args := [d1, d2, d3] }
  | _ => none }
def ClausesResolveWrongFalsely : Prop := clausesResolveRow.holds Try.pinned (OpenSpec.ofChange clausesResolveWrong)

/-- 'juristlaw14.ClausesFollow': WHATEVER THE INPUT: true; the input reads as it did. -/
def clausesFollowSpec : ChangeSpec := { name := "clausesFollow", fn := fun _ => fun
  | [d1, d2, d3, d4] => { results := [.lit (.bool true)], args := [d1, d2, d3, d4] }
  | _ => none }
def clausesFollowRow : OpenClaim := { program := "ytiajmgmidfinfaa", sum := "a819474442f0dd5ae1becd096bcdf2366fb45a1952215ef857274653a7091ea8", func := "jurist/juristlaw14.ClausesFollow", spec := "clausesFollow", unfollowed := true, recurses := true, apart := false }
def ClausesFollowSaid : Prop := clausesFollowRow.holds Try.pinned (OpenSpec.ofChange clausesFollowSpec)

/-- ITS FALSE NEIGHBOUR: 'it returns false'. Refute it at one input. -/
def clausesFollowWrong : ChangeSpec := { name := "clausesFollow", fn := fun _ => fun
  | [d1, d2, d3, d4] => { results := [.lit (.bool false)], args := [d1, d2, d3, d4] }
  | _ => none }
def ClausesFollowWrongFalsely : Prop := clausesFollowRow.holds Try.pinned (OpenSpec.ofChange clausesFollowWrong)

/-- 'juristlaw14.ClausesNone': WHATEVER THE INPUT: true; the input reads as it did. -/
def clausesNoneSpec : ChangeSpec := { name := "clausesNone", fn := fun _ => fun
  | [d1, d2] => { results := [.lit (.bool true)], args := [d1, d2] }
  | _ => none }
def clausesNoneRow : OpenClaim := { program := "ytiajmgmidfinfaa", sum := "a819474442f0dd5ae1becd096bcdf2366fb45a1952215ef857274653a7091ea8", func := "jurist/juristlaw14.ClausesNone", spec := "clausesNone", unfollowed := true, recurses := true, apart := false }
def ClausesNoneSaid : Prop := clausesNoneRow.holds Try.pinned (OpenSpec.ofChange clausesNoneSpec)

/-- ITS FALSE NEIGHBOUR: 'it returns false'. Refute it at one input. -/
def clausesNoneWrong : ChangeSpec := { name := "clausesNone", fn := fun _ => fun
  | [d1, d2] => { results := [.lit (.bool false)], args := [d1, d2] }
  | _ => none }
def ClausesNoneWrongFalsely : Prop := clausesNoneRow.holds Try.pinned (OpenSpec.ofChange clausesNoneWrong)

/-- 'juristlaw14.ClausesStores': WHATEVER THE INPUT: true; the input reads as it did. -/
def clausesStoresSpec : ChangeSpec := { name := "clausesStores", fn := fun _ => fun
  | [d1, d2] => { results := [.lit (.bool true)], args := [d1, d2] }
  | _ => none }
def clausesStoresRow : OpenClaim := { program := "ytiajmgmidfinfaa", sum := "a819474442f0dd5ae1becd096bcdf2366fb45a1952215ef857274653a7091ea8", func := "jurist/juristlaw14.ClausesStores", spec := "clausesStores", unfollowed := true, recurses := true, apart := false }
def ClausesStoresSaid : Prop := clausesStoresRow.holds Try.pinned (OpenSpec.ofChange clausesStoresSpec)

/-- ITS FALSE NEIGHBOUR: 'it returns false'. Refute it at one input. -/
def clausesStoresWrong : ChangeSpec := { name := "clausesStores", fn := fun _ => fun
  | [d1, d2] => { results := [.lit (.bool false)], args := [d1, d2] }
  | _ => none }
def ClausesStoresWrongFalsely : Prop := clausesStoresRow.holds Try.pinned (OpenSpec.ofChange clausesStoresWrong)

/- THE SECOND FORM. 'bulk': how many values and letters a reading holds, each counted each time it is reached (what is shared counts as often as it is met; a slice's spare places count too). A statement '..UptoSaid' is the law's where the arguments, and the package variables that the reading takes, are together of bulk at most 1048576: NARROWER than '..Said'. Prove '..Said' where nothing that the law and all that it calls make is longer than what came in: it says more and counts as full. Else prove '..UptoSaid'. A law counts once. -/
mutual
def uptoBulk {H : Type} : DataW H → Nat
  | .lit (.string bytes) => bytes.length + 1
  | .lit _ => 1
  | .nil => 1
  | .ptr d => uptoBulk d + 1
  | .slice elems spare => uptoBulkAll elems + uptoBulkAll spare + 1
  | .agg parts => uptoBulkAll parts + 1
  | .iface _ d => uptoBulk d + 1
  | .map entries => uptoBulkEntries entries + 1
  | .held _ => 1
def uptoBulkAll {H : Type} : List (DataW H) → Nat
  | [] => 0
  | d :: r => uptoBulk d + uptoBulkAll r
def uptoBulkEntries {H : Type} : List (Lit × DataW H) → Nat
  | [] => 0
  | x :: r => uptoBulkEntry x + uptoBulkEntries r
def uptoBulkEntry {H : Type} : Lit × DataW H → Nat
  | (.string bytes, d) => bytes.length + uptoBulk d + 1
  | (_, d) => uptoBulk d + 1
 end
def uptoSmall : (H : Type) → List (DataW H) → Bool := fun _ ds => decide (uptoBulkAll ds ≤ 1048576)
def OpenSpec.upto (s : _root_.Go.ChangeSpec) : _root_.Go.OpenSpec := { _root_.Go.OpenSpec.ofChange s with cond := some uptoSmall }

/-- 'juristlaw14.ClausesNothing', WHERE WHAT IT READS IS OF BULK AT MOST 1048576: true; the input reads as it did. -/
def clausesNothingUptoRow : OpenClaim := { program := "ytiajmgmidfinfaa", sum := "a819474442f0dd5ae1becd096bcdf2366fb45a1952215ef857274653a7091ea8", func := "jurist/juristlaw14.ClausesNothing", spec := "clausesNothing", unfollowed := true, recurses := true, apart := false, narrowed := true }
def ClausesNothingUptoSaid : Prop := clausesNothingUptoRow.holds Try.pinned (OpenSpec.upto clausesNothingSpec)

/-- 'juristlaw14.ClausesOne', WHERE WHAT IT READS IS OF BULK AT MOST 1048576: true; the input reads as it did. -/
def clausesOneUptoRow : OpenClaim := { program := "ytiajmgmidfinfaa", sum := "a819474442f0dd5ae1becd096bcdf2366fb45a1952215ef857274653a7091ea8", func := "jurist/juristlaw14.ClausesOne", spec := "clausesOne", unfollowed := true, recurses := true, apart := false, narrowed := true }
def ClausesOneUptoSaid : Prop := clausesOneUptoRow.holds Try.pinned (OpenSpec.upto clausesOneSpec)

/-- 'juristlaw14.ClausesForms', WHERE WHAT IT READS IS OF BULK AT MOST 1048576: true; the input reads as it did. -/
def clausesFormsUptoRow : OpenClaim := { program := "ytiajmgmidfinfaa", sum := "a819474442f0dd5ae1becd096bcdf2366fb45a1952215ef857274653a7091ea8", func := "jurist/juristlaw14.ClausesForms", spec := "clausesForms", unfollowed := true, recurses := true, apart := false, narrowed := true }
def ClausesFormsUptoSaid : Prop := clausesFormsUptoRow.holds Try.pinned (OpenSpec.upto clausesFormsSpec)

/-- 'juristlaw14.ClausesResolve', WHERE WHAT IT READS IS OF BULK AT MOST 1048576: true; the input reads as it did. -/
def clausesResolveUptoRow : OpenClaim := { program := "ytiajmgmidfinfaa", sum := "a819474442f0dd5ae1becd096bcdf2366fb45a1952215ef857274653a7091ea8", func := "jurist/juristlaw14.ClausesResolve", spec := "clausesResolve", unfollowed := true, recurses := true, apart := false, narrowed := true }
def ClausesResolveUptoSaid : Prop := clausesResolveUptoRow.holds Try.pinned (OpenSpec.upto clausesResolveSpec)

/-- 'juristlaw14.ClausesFollow', WHERE WHAT IT READS IS OF BULK AT MOST 1048576: true; the input reads as it did. -/
def clausesFollowUptoRow : OpenClaim := { program := "ytiajmgmidfinfaa", sum := "a819474442f0dd5ae1becd096bcdf2366fb45a1952215ef857274653a7091ea8", func := "jurist/juristlaw14.ClausesFollow", spec := "clausesFollow", unfollowed := true, recurses := true, apart := false, narrowed := true }
def ClausesFollowUptoSaid : Prop := clausesFollowUptoRow.holds Try.pinned (OpenSpec.upto clausesFollowSpec)

/-- 'juristlaw14.ClausesNone', WHERE WHAT IT READS IS OF BULK AT MOST 1048576: true; the input reads as it did. -/
def clausesNoneUptoRow : OpenClaim := { program := "ytiajmgmidfinfaa", sum := "a819474442f0dd5ae1becd096bcdf2366fb45a1952215ef857274653a7091ea8", func := "jurist/juristlaw14.ClausesNone", spec := "clausesNone", unfollowed := true, recurses := true, apart := false, narrowed := true }
def ClausesNoneUptoSaid : Prop := clausesNoneUptoRow.holds Try.pinned (OpenSpec.upto clausesNoneSpec)

/-- 'juristlaw14.ClausesStores', WHERE WHAT IT READS IS OF BULK AT MOST 1048576: true; the input reads as it did. -/
def clausesStoresUptoRow : OpenClaim := { program := "ytiajmgmidfinfaa", sum := "a819474442f0dd5ae1becd096bcdf2366fb45a1952215ef857274653a7091ea8", func := "jurist/juristlaw14.ClausesStores", spec := "clausesStores", unfollowed := true, recurses := true, apart := false, narrowed := true }
def ClausesStoresUptoSaid : Prop := clausesStoresUptoRow.holds Try.pinned (OpenSpec.upto clausesStoresSpec)

end Rows
end Go.Proofs.Ytiajmgmidfinfaa
