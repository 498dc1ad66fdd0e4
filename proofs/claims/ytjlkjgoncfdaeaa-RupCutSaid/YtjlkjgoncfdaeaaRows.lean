/-
  No cell of these rows narrows 'for every input' (looked for: loops, veiled, ifaces, maps, wideKeys, modest, calm, conditions, laid).
  DERIVED. THE GIVEN ROWS OF THIS SEAT. 9 by the template 'for every input the law returns true; each argument reads behind the call as it read before'; 0 by the template 'total and deterministic' (their statements: YtjlkjgoncfdaeaaTotals.lean).
  GIVEN WITH THE SEED: the statements are not yours to turn. If you find one false, say at which input.
  Laid BY PROGRAM, IN A SANDBOX (cutbox-rows.mjs): the forced cells as the released guide's own fill.sh prints them over the translation 27e49ec872d799aa… (all of the seat's roots in one cut). By AI agents, Wed Nov 11 2026. No macro, syntax, notation, axiom, sorry.
-/
import Derived.Test.YtjlkjgoncfdaeaaChecked
import GoSem.Claim
import GoSem.ClaimJoined
import GoSem.ClaimMapViews
import Derived.JoinedTies
import Derived.KernelRfl
namespace Go.Proofs.Ytjlkjgoncfdaeaa
/- THE CELL 'sum', in the pinned program and in every row, IS THE sha256 OF THE DUMP (.gsa) THAT YtjlkjgoncfdaeaaProg.lean LOADS. Nothing in Lean hashes anything: it is a label: what it is worth is what the hold of that sum in a sandbox is worth. -/
noncomputable def Try.pinned : Pinned := { name := "ytjlkjgoncfdaeaa", sum := "27e49ec872d799aa49469cb24578d5f386200954ccdfaacfc2cad49c6aa594e5", checked := Try.checked }
namespace Rows
def none {H : Type} : Left H := { results := [], args := [] }

/-- 'juristlaw16.RupCut': WHATEVER THE INPUT: true; the input reads as it did. -/
def rupCutSpec : ChangeSpec := { name := "rupCut", fn := fun _ => fun
  | [d1, d2, d3, d4] => { results := [.lit (.bool true)], args := [d1, d2, d3, d4] }
  | _ => none }
def rupCutRow : OpenClaim := { program := "ytjlkjgoncfdaeaa", sum := "27e49ec872d799aa49469cb24578d5f386200954ccdfaacfc2cad49c6aa594e5", func := "jurist/juristlaw16.RupCut", spec := "rupCut", unfollowed := true, recurses := true, apart := false }
def RupCutSaid : Prop := rupCutRow.holds Try.pinned (OpenSpec.ofChange rupCutSpec)

/-- ITS FALSE NEIGHBOUR: 'it returns false'. Refute it at one input. -/
def rupCutWrong : ChangeSpec := { name := "rupCut", fn := fun _ => fun
  | [d1, d2, d3, d4] => { results := [.lit (.bool false)], args := [d1, d2, d3, d4] }
  | _ => none }
def RupCutWrongFalsely : Prop := rupCutRow.holds Try.pinned (OpenSpec.ofChange rupCutWrong)

/-- 'juristlaw16.RupSelf': WHATEVER THE INPUT: true; the input reads as it did. -/
def rupSelfSpec : ChangeSpec := { name := "rupSelf", fn := fun _ => fun
  | [d1, d2] => { results := [.lit (.bool true)], args := [d1, d2] }
  | _ => none }
def rupSelfRow : OpenClaim := { program := "ytjlkjgoncfdaeaa", sum := "27e49ec872d799aa49469cb24578d5f386200954ccdfaacfc2cad49c6aa594e5", func := "jurist/juristlaw16.RupSelf", spec := "rupSelf", unfollowed := true, recurses := true, apart := false }
def RupSelfSaid : Prop := rupSelfRow.holds Try.pinned (OpenSpec.ofChange rupSelfSpec)

/-- ITS FALSE NEIGHBOUR: 'it returns false'. Refute it at one input. -/
def rupSelfWrong : ChangeSpec := { name := "rupSelf", fn := fun _ => fun
  | [d1, d2] => { results := [.lit (.bool false)], args := [d1, d2] }
  | _ => none }
def RupSelfWrongFalsely : Prop := rupSelfRow.holds Try.pinned (OpenSpec.ofChange rupSelfWrong)

/-- 'juristlaw16.RupUnits': WHATEVER THE INPUT: true; the input reads as it did. -/
def rupUnitsSpec : ChangeSpec := { name := "rupUnits", fn := fun _ => fun
  | [d1, d2] => { results := [.lit (.bool true)], args := [d1, d2] }
  | _ => none }
def rupUnitsRow : OpenClaim := { program := "ytjlkjgoncfdaeaa", sum := "27e49ec872d799aa49469cb24578d5f386200954ccdfaacfc2cad49c6aa594e5", func := "jurist/juristlaw16.RupUnits", spec := "rupUnits", unfollowed := true, recurses := true, apart := false }
def RupUnitsSaid : Prop := rupUnitsRow.holds Try.pinned (OpenSpec.ofChange rupUnitsSpec)

/-- ITS FALSE NEIGHBOUR: 'it returns false'. Refute it at one input. -/
def rupUnitsWrong : ChangeSpec := { name := "rupUnits", fn := fun _ => fun
  | [d1, d2] => { results := [.lit (.bool false)], args := [d1, d2] }
  | _ => none }
def RupUnitsWrongFalsely : Prop := rupUnitsRow.holds Try.pinned (OpenSpec.ofChange rupUnitsWrong)

/-- 'juristlaw16.RupFollows': WHATEVER THE INPUT: true; the input reads as it did. -/
def rupFollowsSpec : ChangeSpec := { name := "rupFollows", fn := fun _ => fun
  | [d1, d2] => { results := [.lit (.bool true)], args := [d1, d2] }
  | _ => none }
def rupFollowsRow : OpenClaim := { program := "ytjlkjgoncfdaeaa", sum := "27e49ec872d799aa49469cb24578d5f386200954ccdfaacfc2cad49c6aa594e5", func := "jurist/juristlaw16.RupFollows", spec := "rupFollows", unfollowed := true, recurses := true, apart := false }
def RupFollowsSaid : Prop := rupFollowsRow.holds Try.pinned (OpenSpec.ofChange rupFollowsSpec)

/-- ITS FALSE NEIGHBOUR: 'it returns false'. Refute it at one input. -/
def rupFollowsWrong : ChangeSpec := { name := "rupFollows", fn := fun _ => fun
  | [d1, d2] => { results := [.lit (.bool false)], args := [d1, d2] }
  | _ => none }
def RupFollowsWrongFalsely : Prop := rupFollowsRow.holds Try.pinned (OpenSpec.ofChange rupFollowsWrong)

/-- 'juristlaw16.RupHolds': WHATEVER THE INPUT: true; the input reads as it did. -/
def rupHoldsSpec : ChangeSpec := { name := "rupHolds", fn := fun _ => fun
  | [d1, d2, d3] => { results := [.lit (.bool true)], args := [d1, d2, d3] }
  | _ => none }
def rupHoldsRow : OpenClaim := { program := "ytjlkjgoncfdaeaa", sum := "27e49ec872d799aa49469cb24578d5f386200954ccdfaacfc2cad49c6aa594e5", func := "jurist/juristlaw16.RupHolds", spec := "rupHolds", unfollowed := true, recurses := true, apart := false }
def RupHoldsSaid : Prop := rupHoldsRow.holds Try.pinned (OpenSpec.ofChange rupHoldsSpec)

/-- ITS FALSE NEIGHBOUR: 'it returns false'. Refute it at one input. -/
def rupHoldsWrong : ChangeSpec := { name := "rupHolds", fn := fun _ => fun
  | [d1, d2, d3] => { results := [.lit (.bool false)], args := [d1, d2, d3] }
  | _ => none }
def RupHoldsWrongFalsely : Prop := rupHoldsRow.holds Try.pinned (OpenSpec.ofChange rupHoldsWrong)

/-- 'juristlaw16.RupMore': WHATEVER THE INPUT: true; the input reads as it did. -/
def rupMoreSpec : ChangeSpec := { name := "rupMore", fn := fun _ => fun
  | [d1, d2, d3, d4] => { results := [.lit (.bool true)], args := [d1, d2, d3, d4] }
  | _ => none }
def rupMoreRow : OpenClaim := { program := "ytjlkjgoncfdaeaa", sum := "27e49ec872d799aa49469cb24578d5f386200954ccdfaacfc2cad49c6aa594e5", func := "jurist/juristlaw16.RupMore", spec := "rupMore", unfollowed := true, recurses := true, apart := false }
def RupMoreSaid : Prop := rupMoreRow.holds Try.pinned (OpenSpec.ofChange rupMoreSpec)

/-- ITS FALSE NEIGHBOUR: 'it returns false'. Refute it at one input. -/
def rupMoreWrong : ChangeSpec := { name := "rupMore", fn := fun _ => fun
  | [d1, d2, d3, d4] => { results := [.lit (.bool false)], args := [d1, d2, d3, d4] }
  | _ => none }
def RupMoreWrongFalsely : Prop := rupMoreRow.holds Try.pinned (OpenSpec.ofChange rupMoreWrong)

/-- 'juristlaw16.RupOrder': WHATEVER THE INPUT: true; the input reads as it did. -/
def rupOrderSpec : ChangeSpec := { name := "rupOrder", fn := fun _ => fun
  | [d1, d2] => { results := [.lit (.bool true)], args := [d1, d2] }
  | _ => none }
def rupOrderRow : OpenClaim := { program := "ytjlkjgoncfdaeaa", sum := "27e49ec872d799aa49469cb24578d5f386200954ccdfaacfc2cad49c6aa594e5", func := "jurist/juristlaw16.RupOrder", spec := "rupOrder", unfollowed := true, recurses := true, apart := false }
def RupOrderSaid : Prop := rupOrderRow.holds Try.pinned (OpenSpec.ofChange rupOrderSpec)

/-- ITS FALSE NEIGHBOUR: 'it returns false'. Refute it at one input. -/
def rupOrderWrong : ChangeSpec := { name := "rupOrder", fn := fun _ => fun
  | [d1, d2] => { results := [.lit (.bool false)], args := [d1, d2] }
  | _ => none }
def RupOrderWrongFalsely : Prop := rupOrderRow.holds Try.pinned (OpenSpec.ofChange rupOrderWrong)

/-- 'juristlaw16.RupRows': WHATEVER THE INPUT: true; the input reads as it did. -/
def rupRowsSpec : ChangeSpec := { name := "rupRows", fn := fun _ => fun
  | [d1, d2] => { results := [.lit (.bool true)], args := [d1, d2] }
  | _ => none }
def rupRowsRow : OpenClaim := { program := "ytjlkjgoncfdaeaa", sum := "27e49ec872d799aa49469cb24578d5f386200954ccdfaacfc2cad49c6aa594e5", func := "jurist/juristlaw16.RupRows", spec := "rupRows", unfollowed := true, recurses := true, apart := false }
def RupRowsSaid : Prop := rupRowsRow.holds Try.pinned (OpenSpec.ofChange rupRowsSpec)

/-- ITS FALSE NEIGHBOUR: 'it returns false'. Refute it at one input. -/
def rupRowsWrong : ChangeSpec := { name := "rupRows", fn := fun _ => fun
  | [d1, d2] => { results := [.lit (.bool false)], args := [d1, d2] }
  | _ => none }
def RupRowsWrongFalsely : Prop := rupRowsRow.holds Try.pinned (OpenSpec.ofChange rupRowsWrong)

/-- 'juristlaw16.RupSound': WHATEVER THE INPUT: true; the input reads as it did. -/
def rupSoundSpec : ChangeSpec := { name := "rupSound", fn := fun _ => fun
  | [d1, d2, d3] => { results := [.lit (.bool true)], args := [d1, d2, d3] }
  | _ => none }
def rupSoundRow : OpenClaim := { program := "ytjlkjgoncfdaeaa", sum := "27e49ec872d799aa49469cb24578d5f386200954ccdfaacfc2cad49c6aa594e5", func := "jurist/juristlaw16.RupSound", spec := "rupSound", unfollowed := true, recurses := true, apart := false }
def RupSoundSaid : Prop := rupSoundRow.holds Try.pinned (OpenSpec.ofChange rupSoundSpec)

/-- ITS FALSE NEIGHBOUR: 'it returns false'. Refute it at one input. -/
def rupSoundWrong : ChangeSpec := { name := "rupSound", fn := fun _ => fun
  | [d1, d2, d3] => { results := [.lit (.bool false)], args := [d1, d2, d3] }
  | _ => none }
def RupSoundWrongFalsely : Prop := rupSoundRow.holds Try.pinned (OpenSpec.ofChange rupSoundWrong)

/- THE SECOND FORM. 'bulk': how many values and letters a reading holds, each counted each time it is reached (what is shared counts as often as it is met; a slice's spare places count too). A statement '..UptoSaid' is the law's where the arguments, and the package variables that the reading takes, are together of bulk at most 1048576: NARROWER than '..Said'. Prove '..Said' where nothing that the law and all that it calls make is longer than what came in: it says more and counts as full. Else prove '..UptoSaid'. A law counts once. -/
mutual
def uptoBulk {H : Type} : DataW H → Nat
  | .lit (.string bytes) => bytes.length + 1
  | .lit _ => 1
  | .nil => 1
  | .ptr d => uptoBulk d + 1
  | .slice elems spare => uptoBulkAll elems + uptoBulkAll spare + 1
  | .agg parts => uptoBulkAll parts + 1
  | .iface _ d => uptoBulk d + 1
  | .map entries => uptoBulkEntries entries + 1
  | .held _ => 1
def uptoBulkAll {H : Type} : List (DataW H) → Nat
  | [] => 0
  | d :: r => uptoBulk d + uptoBulkAll r
def uptoBulkEntries {H : Type} : List (Lit × DataW H) → Nat
  | [] => 0
  | x :: r => uptoBulkEntry x + uptoBulkEntries r
def uptoBulkEntry {H : Type} : Lit × DataW H → Nat
  | (.string bytes, d) => bytes.length + uptoBulk d + 1
  | (_, d) => uptoBulk d + 1
 end
def uptoSmall : (H : Type) → List (DataW H) → Bool := fun _ ds => decide (uptoBulkAll ds ≤ 1048576)
def OpenSpec.upto (s : _root_.Go.ChangeSpec) : _root_.Go.OpenSpec := { _root_.Go.OpenSpec.ofChange s with cond := some uptoSmall }

/-- 'juristlaw16.RupCut', WHERE WHAT IT READS IS OF BULK AT MOST 1048576: true; the input reads as it did. -/
def rupCutUptoRow : OpenClaim := { program := "ytjlkjgoncfdaeaa", sum := "27e49ec872d799aa49469cb24578d5f386200954ccdfaacfc2cad49c6aa594e5", func := "jurist/juristlaw16.RupCut", spec := "rupCut", unfollowed := true, recurses := true, apart := false, narrowed := true }
def RupCutUptoSaid : Prop := rupCutUptoRow.holds Try.pinned (OpenSpec.upto rupCutSpec)

/-- 'juristlaw16.RupSelf', WHERE WHAT IT READS IS OF BULK AT MOST 1048576: true; the input reads as it did. -/
def rupSelfUptoRow : OpenClaim := { program := "ytjlkjgoncfdaeaa", sum := "27e49ec872d799aa49469cb24578d5f386200954ccdfaacfc2cad49c6aa594e5", func := "jurist/juristlaw16.RupSelf", spec := "rupSelf", unfollowed := true, recurses := true, apart := false, narrowed := true }
def RupSelfUptoSaid : Prop := rupSelfUptoRow.holds Try.pinned (OpenSpec.upto rupSelfSpec)

/-- 'juristlaw16.RupUnits', WHERE WHAT IT READS IS OF BULK AT MOST 1048576: true; the input reads as it did. -/
def rupUnitsUptoRow : OpenClaim := { program := "ytjlkjgoncfdaeaa", sum := "27e49ec872d799aa49469cb24578d5f386200954ccdfaacfc2cad49c6aa594e5", func := "jurist/juristlaw16.RupUnits", spec := "rupUnits", unfollowed := true, recurses := true, apart := false, narrowed := true }
def RupUnitsUptoSaid : Prop := rupUnitsUptoRow.holds Try.pinned (OpenSpec.upto rupUnitsSpec)

/-- 'juristlaw16.RupFollows', WHERE WHAT IT READS IS OF BULK AT MOST 1048576: true; the input reads as it did. -/
def rupFollowsUptoRow : OpenClaim := { program := "ytjlkjgoncfdaeaa", sum := "27e49ec872d799aa49469cb24578d5f386200954ccdfaacfc2cad49c6aa594e5", func := "jurist/juristlaw16.RupFollows", spec := "rupFollows", unfollowed := true, recurses := true, apart := false, narrowed := true }
def RupFollowsUptoSaid : Prop := rupFollowsUptoRow.holds Try.pinned (OpenSpec.upto rupFollowsSpec)

/-- 'juristlaw16.RupHolds', WHERE WHAT IT READS IS OF BULK AT MOST 1048576: true; the input reads as it did. -/
def rupHoldsUptoRow : OpenClaim := { program := "ytjlkjgoncfdaeaa", sum := "27e49ec872d799aa49469cb24578d5f386200954ccdfaacfc2cad49c6aa594e5", func := "jurist/juristlaw16.RupHolds", spec := "rupHolds", unfollowed := true, recurses := true, apart := false, narrowed := true }
def RupHoldsUptoSaid : Prop := rupHoldsUptoRow.holds Try.pinned (OpenSpec.upto rupHoldsSpec)

/-- 'juristlaw16.RupMore', WHERE WHAT IT READS IS OF BULK AT MOST 1048576: true; the input reads as it did. -/
def rupMoreUptoRow : OpenClaim := { program := "ytjlkjgoncfdaeaa", sum := "27e49ec872d799aa49469cb24578d5f386200954ccdfaacfc2cad49c6aa594e5", func := "jurist/juristlaw16.RupMore", spec := "rupMore", unfollowed := true, recurses := true, apart := false, narrowed := true }
def RupMoreUptoSaid : Prop := rupMoreUptoRow.holds Try.pinned (OpenSpec.upto rupMoreSpec)

/-- 'juristlaw16.RupOrder', WHERE WHAT IT READS IS OF BULK AT MOST 1048576: true; the input reads as it did. -/
def rupOrderUptoRow : OpenClaim := { program := "ytjlkjgoncfdaeaa", sum := "27e49ec872d799aa49469cb24578d5f386200954ccdfaacfc2cad49c6aa594e5", func := "jurist/juristlaw16.RupOrder", spec := "rupOrder", unfollowed := true, recurses := true, apart := false, narrowed := true }
def RupOrderUptoSaid : Prop := rupOrderUptoRow.holds Try.pinned (OpenSpec.upto rupOrderSpec)

/-- 'juristlaw16.RupRows', WHERE WHAT IT READS IS OF BULK AT MOST 1048576: true; the input reads as it did. -/
def rupRowsUptoRow : OpenClaim := { program := "ytjlkjgoncfdaeaa", sum := "27e49ec872d799aa49469cb24578d5f386200954ccdfaacfc2cad49c6aa594e5", func := "jurist/juristlaw16.RupRows", spec := "rupRows", unfollowed := true, recurses := true, apart := false, narrowed := true }
def RupRowsUptoSaid : Prop := rupRowsUptoRow.holds Try.pinned (OpenSpec.upto rupRowsSpec)

/-- 'juristlaw16.RupSound', WHERE WHAT IT READS IS OF BULK AT MOST 1048576: true; the input reads as it did. -/
def rupSoundUptoRow : OpenClaim := { program := "ytjlkjgoncfdaeaa", sum := "27e49ec872d799aa49469cb24578d5f386200954ccdfaacfc2cad49c6aa594e5", func := "jurist/juristlaw16.RupSound", spec := "rupSound", unfollowed := true, recurses := true, apart := false, narrowed := true }
def RupSoundUptoSaid : Prop := rupSoundUptoRow.holds Try.pinned (OpenSpec.upto rupSoundSpec)

end Rows
end Go.Proofs.Ytjlkjgoncfdaeaa
