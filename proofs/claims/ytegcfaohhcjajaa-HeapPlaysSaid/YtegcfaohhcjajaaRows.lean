/-
  No cell of these rows narrows 'for every input' (looked for: loops, veiled, ifaces, maps, wideKeys, modest, calm, conditions, laid).
  DERIVED. THE GIVEN ROWS OF THIS SEAT. 6 by the template 'for every input the law returns true; each argument reads behind the call as it read before'; 0 by the template 'total and deterministic' (their statements: YtegcfaohhcjajaaTotals.lean).
  GIVEN WITH THE SEED: the statements are not yours to turn. If you find one false, say at which input.
  Laid BY PROGRAM, IN A SANDBOX (cutbox-rows.mjs): the forced cells as the released guide's own fill.sh prints them over the translation 8f16c73f37968a6f… (all of the seat's roots in one cut). By AI agents, Wed Nov 11 2026. No macro, syntax, notation, axiom, sorry.
-/
import Derived.Test.YtegcfaohhcjajaaChecked
import GoSem.Claim
import GoSem.ClaimJoined
import GoSem.ClaimMapViews
import Derived.JoinedTies
import Derived.KernelRfl
namespace Go.Proofs.Ytegcfaohhcjajaa
/- THE CELL 'sum', in the pinned program and in every row, IS THE sha256 OF THE DUMP (.gsa) THAT YtegcfaohhcjajaaProg.lean LOADS. Nothing in Lean hashes anything: it is a label: what it is worth is what the hold of that sum in a sandbox is worth. -/
noncomputable def Try.pinned : Pinned := { name := "ytegcfaohhcjajaa", sum := "8f16c73f37968a6f49bff67879d15aeebd2105a5b93d3e5990d0e52035b39452", checked := Try.checked }
namespace Rows
def none {H : Type} : Left H := { results := [], args := [] }

/-- 'juristlaw02.HeapTrails': WHATEVER THE INPUT: true; the input reads as it did. -/
def heapTrailsSpec : ChangeSpec := { name := "heapTrails", fn := fun _ => fun
  | [d] => { results := [.lit (.bool true)], args := [d] }
  | _ => none }
def heapTrailsRow : OpenClaim := { program := "ytegcfaohhcjajaa", sum := "8f16c73f37968a6f49bff67879d15aeebd2105a5b93d3e5990d0e52035b39452", func := "jurist/juristlaw02.HeapTrails", spec := "heapTrails", apart := false }
def HeapTrailsSaid : Prop := heapTrailsRow.holds Try.pinned (OpenSpec.ofChange heapTrailsSpec)

/-- ITS FALSE NEIGHBOUR: 'it returns false'. Refute it at one input. -/
def heapTrailsWrong : ChangeSpec := { name := "heapTrails", fn := fun _ => fun
  | [d] => { results := [.lit (.bool false)], args := [d] }
  | _ => none }
def HeapTrailsWrongFalsely : Prop := heapTrailsRow.holds Try.pinned (OpenSpec.ofChange heapTrailsWrong)

/-- 'juristlaw02.HeapFalls': WHATEVER THE INPUT: true; the input reads as it did. -/
def heapFallsSpec : ChangeSpec := { name := "heapFalls", fn := fun _ => fun
  | [d1, d2] => { results := [.lit (.bool true)], args := [d1, d2] }
  | _ => none }
def heapFallsRow : OpenClaim := { program := "ytegcfaohhcjajaa", sum := "8f16c73f37968a6f49bff67879d15aeebd2105a5b93d3e5990d0e52035b39452", func := "jurist/juristlaw02.HeapFalls", spec := "heapFalls", apart := false }
def HeapFallsSaid : Prop := heapFallsRow.holds Try.pinned (OpenSpec.ofChange heapFallsSpec)

/-- ITS FALSE NEIGHBOUR: 'it returns false'. Refute it at one input. -/
def heapFallsWrong : ChangeSpec := { name := "heapFalls", fn := fun _ => fun
  | [d1, d2] => { results := [.lit (.bool false)], args := [d1, d2] }
  | _ => none }
def HeapFallsWrongFalsely : Prop := heapFallsRow.holds Try.pinned (OpenSpec.ofChange heapFallsWrong)

/-- 'juristlaw02.HeapBack': WHATEVER THE INPUT: true; the input reads as it did. -/
def heapBackSpec : ChangeSpec := { name := "heapBack", fn := fun _ => fun
  | [d1, d2, d3] => { results := [.lit (.bool true)], args := [d1, d2, d3] }
  | _ => none }
def heapBackRow : OpenClaim := { program := "ytegcfaohhcjajaa", sum := "8f16c73f37968a6f49bff67879d15aeebd2105a5b93d3e5990d0e52035b39452", func := "jurist/juristlaw02.HeapBack", spec := "heapBack", apart := false }
def HeapBackSaid : Prop := heapBackRow.holds Try.pinned (OpenSpec.ofChange heapBackSpec)

/-- ITS FALSE NEIGHBOUR: 'it returns false'. Refute it at one input. -/
def heapBackWrong : ChangeSpec := { name := "heapBack", fn := fun _ => fun
  | [d1, d2, d3] => { results := [.lit (.bool false)], args := [d1, d2, d3] }
  | _ => none }
def HeapBackWrongFalsely : Prop := heapBackRow.holds Try.pinned (OpenSpec.ofChange heapBackWrong)

/-- 'juristlaw02.HeapRaises': WHATEVER THE INPUT: true; the input reads as it did. -/
def heapRaisesSpec : ChangeSpec := { name := "heapRaises", fn := fun _ => fun
  | [d1, d2, d3] => { results := [.lit (.bool true)], args := [d1, d2, d3] }
  | _ => none }
def heapRaisesRow : OpenClaim := { program := "ytegcfaohhcjajaa", sum := "8f16c73f37968a6f49bff67879d15aeebd2105a5b93d3e5990d0e52035b39452", func := "jurist/juristlaw02.HeapRaises", spec := "heapRaises", unfollowed := true, recurses := true, apart := false }
def HeapRaisesSaid : Prop := heapRaisesRow.holds Try.pinned (OpenSpec.ofChange heapRaisesSpec)

/-- ITS FALSE NEIGHBOUR: 'it returns false'. Refute it at one input. -/
def heapRaisesWrong : ChangeSpec := { name := "heapRaises", fn := fun _ => fun
  | [d1, d2, d3] => { results := [.lit (.bool false)], args := [d1, d2, d3] }
  | _ => none }
def HeapRaisesWrongFalsely : Prop := heapRaisesRow.holds Try.pinned (OpenSpec.ofChange heapRaisesWrong)

/-- 'juristlaw02.HeapPlays': WHATEVER THE INPUT: true; the input reads as it did. -/
def heapPlaysSpec : ChangeSpec := { name := "heapPlays", fn := fun _ => fun
  | [d1, d2] => { results := [.lit (.bool true)], args := [d1, d2] }
  | _ => none }
def heapPlaysRow : OpenClaim := { program := "ytegcfaohhcjajaa", sum := "8f16c73f37968a6f49bff67879d15aeebd2105a5b93d3e5990d0e52035b39452", func := "jurist/juristlaw02.HeapPlays", spec := "heapPlays", unfollowed := true, recurses := true, apart := false }
def HeapPlaysSaid : Prop := heapPlaysRow.holds Try.pinned (OpenSpec.ofChange heapPlaysSpec)

/-- ITS FALSE NEIGHBOUR: 'it returns false'. Refute it at one input. -/
def heapPlaysWrong : ChangeSpec := { name := "heapPlays", fn := fun _ => fun
  | [d1, d2] => { results := [.lit (.bool false)], args := [d1, d2] }
  | _ => none }
def HeapPlaysWrongFalsely : Prop := heapPlaysRow.holds Try.pinned (OpenSpec.ofChange heapPlaysWrong)

/-- 'juristlaw02.HeapNone': WHATEVER THE INPUT: true; the input reads as it did. -/
def heapNoneSpec : ChangeSpec := { name := "heapNone", fn := fun _ => fun
  | [d1, d2, d3] => { results := [.lit (.bool true)], args := [d1, d2, d3] }
  | _ => none }
def heapNoneRow : OpenClaim := { program := "ytegcfaohhcjajaa", sum := "8f16c73f37968a6f49bff67879d15aeebd2105a5b93d3e5990d0e52035b39452", func := "jurist/juristlaw02.HeapNone", spec := "heapNone", unfollowed := true, recurses := true, apart := false }
def HeapNoneSaid : Prop := heapNoneRow.holds Try.pinned (OpenSpec.ofChange heapNoneSpec)

/-- ITS FALSE NEIGHBOUR: 'it returns false'. Refute it at one input. -/
def heapNoneWrong : ChangeSpec := { name := "heapNone", fn := fun _ => fun
  | [d1, d2, d3] => { results := [.lit (.bool false)], args := [d1, d2, d3] }
  | _ => none }
def HeapNoneWrongFalsely : Prop := heapNoneRow.holds Try.pinned (OpenSpec.ofChange heapNoneWrong)

/- THE SECOND FORM. 'bulk': how many values and letters a reading holds, each counted each time it is reached (what is shared counts as often as it is met; a slice's spare places count too). A statement '..UptoSaid' is the law's where the arguments, and the package variables that the reading takes, are together of bulk at most 1048576: NARROWER than '..Said'. Prove '..Said' where nothing that the law and all that it calls make is longer than what came in: it says more and counts as full. Else prove '..UptoSaid'. A law counts once. -/
mutual
def uptoBulk {H : Type} : DataW H → Nat
  | .lit (.string bytes) => bytes.length + 1
  | .lit _ => 1
  | .nil => 1
  | .ptr d => uptoBulk d + 1
  | .slice elems spare => uptoBulkAll elems + uptoBulkAll spare + 1
  | .agg parts => uptoBulkAll parts + 1
  | .iface _ d => uptoBulk d + 1
  | .map entries => uptoBulkEntries entries + 1
  | .held _ => 1
def uptoBulkAll {H : Type} : List (DataW H) → Nat
  | [] => 0
  | d :: r => uptoBulk d + uptoBulkAll r
def uptoBulkEntries {H : Type} : List (Lit × DataW H) → Nat
  | [] => 0
  | x :: r => uptoBulkEntry x + uptoBulkEntries r
def uptoBulkEntry {H : Type} : Lit × DataW H → Nat
  | (.string bytes, d) => bytes.length + uptoBulk d + 1
  | (_, d) => uptoBulk d + 1
 end
def uptoSmall : (H : Type) → List (DataW H) → Bool := fun _ ds => decide (uptoBulkAll ds ≤ 1048576)
def OpenSpec.upto (s : _root_.Go.ChangeSpec) : _root_.Go.OpenSpec := { _root_.Go.OpenSpec.ofChange s with cond := some uptoSmall }

/-- 'juristlaw02.HeapTrails', WHERE WHAT IT READS IS OF BULK AT MOST 1048576: true; the input reads as it did. -/
def heapTrailsUptoRow : OpenClaim := { program := "ytegcfaohhcjajaa", sum := "8f16c73f37968a6f49bff67879d15aeebd2105a5b93d3e5990d0e52035b39452", func := "jurist/juristlaw02.HeapTrails", spec := "heapTrails", apart := false, narrowed := true }
def HeapTrailsUptoSaid : Prop := heapTrailsUptoRow.holds Try.pinned (OpenSpec.upto heapTrailsSpec)

/-- 'juristlaw02.HeapFalls', WHERE WHAT IT READS IS OF BULK AT MOST 1048576: true; the input reads as it did. -/
def heapFallsUptoRow : OpenClaim := { program := "ytegcfaohhcjajaa", sum := "8f16c73f37968a6f49bff67879d15aeebd2105a5b93d3e5990d0e52035b39452", func := "jurist/juristlaw02.HeapFalls", spec := "heapFalls", apart := false, narrowed := true }
def HeapFallsUptoSaid : Prop := heapFallsUptoRow.holds Try.pinned (OpenSpec.upto heapFallsSpec)

/-- 'juristlaw02.HeapBack', WHERE WHAT IT READS IS OF BULK AT MOST 1048576: true; the input reads as it did. -/
def heapBackUptoRow : OpenClaim := { program := "ytegcfaohhcjajaa", sum := "8f16c73f37968a6f49bff67879d15aeebd2105a5b93d3e5990d0e52035b39452", func := "jurist/juristlaw02.HeapBack", spec := "heapBack", apart := false, narrowed := true }
def HeapBackUptoSaid : Prop := heapBackUptoRow.holds Try.pinned (OpenSpec.upto heapBackSpec)

/-- 'juristlaw02.HeapRaises', WHERE WHAT IT READS IS OF BULK AT MOST 1048576: true; the input reads as it did. -/
def heapRaisesUptoRow : OpenClaim := { program := "ytegcfaohhcjajaa", sum := "8f16c73f37968a6f49bff67879d15aeebd2105a5b93d3e5990d0e52035b39452", func := "jurist/juristlaw02.HeapRaises", spec := "heapRaises", unfollowed := true, recurses := true, apart := false, narrowed := true }
def HeapRaisesUptoSaid : Prop := heapRaisesUptoRow.holds Try.pinned (OpenSpec.upto heapRaisesSpec)

/-- 'juristlaw02.HeapPlays', WHERE WHAT IT READS IS OF BULK AT MOST 1048576: true; the input reads as it did. -/
def heapPlaysUptoRow : OpenClaim := { program := "ytegcfaohhcjajaa", sum := "8f16c73f37968a6f49bff67879d15aeebd2105a5b93d3e5990d0e52035b39452", func := "jurist/juristlaw02.HeapPlays", spec := "heapPlays", unfollowed := true, recurses := true, apart := false, narrowed := true }
def HeapPlaysUptoSaid : Prop := heapPlaysUptoRow.holds Try.pinned (OpenSpec.upto heapPlaysSpec)

/-- 'juristlaw02.HeapNone', WHERE WHAT IT READS IS OF BULK AT MOST 1048576: true; the input reads as it did. -/
def heapNoneUptoRow : OpenClaim := { program := "ytegcfaohhcjajaa", sum := "8f16c73f37968a6f49bff67879d15aeebd2105a5b93d3e5990d0e52035b39452", func := "jurist/juristlaw02.HeapNone", spec := "heapNone", unfollowed := true, recurses := true, apart := false, narrowed := true }
def HeapNoneUptoSaid : Prop := heapNoneUptoRow.holds Try.pinned (OpenSpec.upto heapNoneSpec)

end Rows
end Go.Proofs.Ytegcfaohhcjajaa
