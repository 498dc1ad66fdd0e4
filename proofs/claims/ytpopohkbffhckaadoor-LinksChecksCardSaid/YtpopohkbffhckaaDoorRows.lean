/-
  NARROWER THAN 'FOR EVERY INPUT', by the rows' own cells (each row's printed sentence says how): LinksChecks: laid · LinksSound: laid · LinksCut: laid · LinksMore: laid · LinksDouble: laid.
  DERIVED. THE GIVEN ROWS OF THIS SEAT. 5 by the template 'for every input the law returns true; each argument reads behind the call as it read before'; 0 by the template 'total and deterministic' (their statements: YtpopohkbffhckaaDoorTotals.lean).
  GIVEN WITH THE SEED: the statements are not yours to turn. If you find one false, say at which input.
  Laid BY PROGRAM, IN A SANDBOX (cutbox-rows.mjs): the forced cells as the released guide's own fill.sh prints them over the translation 280043d7ef64f691… (all of the seat's roots in one cut). By AI agents, Wed Nov 11 2026. No macro, syntax, notation, axiom, sorry.
-/
import Derived.Test.YtpopohkbffhckaaDoorChecked
import GoSem.Claim
import GoSem.ClaimJoined
import GoSem.ClaimMapViews
import Derived.JoinedTies
import Derived.KernelRfl
namespace Go.Proofs.YtpopohkbffhckaaDoor
/- THE CELL 'sum', in the pinned program and in every row, IS THE sha256 OF THE DUMP (.gsa) THAT YtpopohkbffhckaaDoorProg.lean LOADS. Nothing in Lean hashes anything: it is a label: what it is worth is what the hold of that sum in a sandbox is worth. -/
noncomputable def Tryd.pinned : Pinned := { name := "ytpopohkbffhckaadoor", sum := "280043d7ef64f691eee810a0dcdeaa89079c8a2d32ec6e74deea4cc0344d5ff0", checked := Tryd.checked }
namespace Rows
def none {H : Type} : Left H := { results := [], args := [] }

/- WHAT THE LISTED PACKAGE-LEVEL VARIABLES READ AS WHEN THE CALL BEGINS. Each datum BY PROGRAM (the guide's laid-datum.mjs) off the statement by which the dump's own 'gosem.cut.vars' lays the variable. In a bare row this is a premise. The card (YtpopohkbffhckaaDoorCards.lean) ties it to the program's text. -/
def laid_jurist_links_nothing {H : Type} : DataW H := .agg [.lit (.int .i64 (-1)), .lit (.int .i64 (-1))]

/-- 'juristlaw17.LinksChecks': WHATEVER THE INPUT: true; the input reads as it did. -/
def linksChecksSpec : ChangeSpec := { name := "linksChecks", fn := fun _ => fun
  | [d1, d2, d3] => { results := [.lit (.bool true)], args := [d1, d2, d3] }
  | _ => none }
def linksChecksRow : OpenClaim := { program := "ytpopohkbffhckaadoor", sum := "280043d7ef64f691eee810a0dcdeaa89079c8a2d32ec6e74deea4cc0344d5ff0", func := "jurist/juristlaw17.LinksChecks", spec := "linksChecks", unfollowed := true, recurses := true, named := ["jurist/links.nothing"], apart := false, laid := [("jurist/links.nothing", laid_jurist_links_nothing)] }
def LinksChecksSaid : Prop := linksChecksRow.holds Tryd.pinned (OpenSpec.ofChange linksChecksSpec)

/-- ITS FALSE NEIGHBOUR: 'it returns false'. Refute it at one input. -/
def linksChecksWrong : ChangeSpec := { name := "linksChecks", fn := fun _ => fun
  | [d1, d2, d3] => { results := [.lit (.bool false)], args := [d1, d2, d3] }
  | _ => none }
def LinksChecksWrongFalsely : Prop := linksChecksRow.holds Tryd.pinned (OpenSpec.ofChange linksChecksWrong)

/-- 'juristlaw17.LinksSound': WHATEVER THE INPUT: true; the input reads as it did. -/
def linksSoundSpec : ChangeSpec := { name := "linksSound", fn := fun _ => fun
  | [d1, d2, d3, d4] => { results := [.lit (.bool true)], args := [d1, d2, d3, d4] }
  | _ => none }
def linksSoundRow : OpenClaim := { program := "ytpopohkbffhckaadoor", sum := "280043d7ef64f691eee810a0dcdeaa89079c8a2d32ec6e74deea4cc0344d5ff0", func := "jurist/juristlaw17.LinksSound", spec := "linksSound", unfollowed := true, recurses := true, named := ["jurist/links.nothing"], apart := false, laid := [("jurist/links.nothing", laid_jurist_links_nothing)] }
def LinksSoundSaid : Prop := linksSoundRow.holds Tryd.pinned (OpenSpec.ofChange linksSoundSpec)

/-- ITS FALSE NEIGHBOUR: 'it returns false'. Refute it at one input. -/
def linksSoundWrong : ChangeSpec := { name := "linksSound", fn := fun _ => fun
  | [d1, d2, d3, d4] => { results := [.lit (.bool false)], args := [d1, d2, d3, d4] }
  | _ => none }
def LinksSoundWrongFalsely : Prop := linksSoundRow.holds Tryd.pinned (OpenSpec.ofChange linksSoundWrong)

/-- 'juristlaw17.LinksCut': WHATEVER THE INPUT: true; the input reads as it did. -/
def linksCutSpec : ChangeSpec := { name := "linksCut", fn := fun _ => fun
  | [d1, d2, d3, d4] => { results := [.lit (.bool true)], args := [d1, d2, d3, d4] }
  | _ => none }
def linksCutRow : OpenClaim := { program := "ytpopohkbffhckaadoor", sum := "280043d7ef64f691eee810a0dcdeaa89079c8a2d32ec6e74deea4cc0344d5ff0", func := "jurist/juristlaw17.LinksCut", spec := "linksCut", unfollowed := true, recurses := true, named := ["jurist/links.nothing"], apart := false, laid := [("jurist/links.nothing", laid_jurist_links_nothing)] }
def LinksCutSaid : Prop := linksCutRow.holds Tryd.pinned (OpenSpec.ofChange linksCutSpec)

/-- ITS FALSE NEIGHBOUR: 'it returns false'. Refute it at one input. -/
def linksCutWrong : ChangeSpec := { name := "linksCut", fn := fun _ => fun
  | [d1, d2, d3, d4] => { results := [.lit (.bool false)], args := [d1, d2, d3, d4] }
  | _ => none }
def LinksCutWrongFalsely : Prop := linksCutRow.holds Tryd.pinned (OpenSpec.ofChange linksCutWrong)

/-- 'juristlaw17.LinksMore': WHATEVER THE INPUT: true; the input reads as it did. -/
def linksMoreSpec : ChangeSpec := { name := "linksMore", fn := fun _ => fun
  | [d1, d2, d3, d4, d5] => { results := [.lit (.bool true)], args := [d1, d2, d3, d4, d5] }
  | _ => none }
def linksMoreRow : OpenClaim := { program := "ytpopohkbffhckaadoor", sum := "280043d7ef64f691eee810a0dcdeaa89079c8a2d32ec6e74deea4cc0344d5ff0", func := "jurist/juristlaw17.LinksMore", spec := "linksMore", unfollowed := true, recurses := true, named := ["jurist/links.nothing"], apart := false, laid := [("jurist/links.nothing", laid_jurist_links_nothing)] }
def LinksMoreSaid : Prop := linksMoreRow.holds Tryd.pinned (OpenSpec.ofChange linksMoreSpec)

/-- ITS FALSE NEIGHBOUR: 'it returns false'. Refute it at one input. -/
def linksMoreWrong : ChangeSpec := { name := "linksMore", fn := fun _ => fun
  | [d1, d2, d3, d4, d5] => { results := [.lit (.bool false)], args := [d1, d2, d3, d4, d5] }
  | _ => none }
def LinksMoreWrongFalsely : Prop := linksMoreRow.holds Tryd.pinned (OpenSpec.ofChange linksMoreWrong)

/-- 'juristlaw17.LinksDouble': WHATEVER THE INPUT: true; the input reads as it did. -/
def linksDoubleSpec : ChangeSpec := { name := "linksDouble", fn := fun _ => fun
  | [d1, d2, d3] => { results := [.lit (.bool true)], args := [d1, d2, d3] }
  | _ => none }
def linksDoubleRow : OpenClaim := { program := "ytpopohkbffhckaadoor", sum := "280043d7ef64f691eee810a0dcdeaa89079c8a2d32ec6e74deea4cc0344d5ff0", func := "jurist/juristlaw17.LinksDouble", spec := "linksDouble", unfollowed := true, recurses := true, named := ["jurist/links.nothing"], apart := false, laid := [("jurist/links.nothing", laid_jurist_links_nothing)] }
def LinksDoubleSaid : Prop := linksDoubleRow.holds Tryd.pinned (OpenSpec.ofChange linksDoubleSpec)

/-- ITS FALSE NEIGHBOUR: 'it returns false'. Refute it at one input. -/
def linksDoubleWrong : ChangeSpec := { name := "linksDouble", fn := fun _ => fun
  | [d1, d2, d3] => { results := [.lit (.bool false)], args := [d1, d2, d3] }
  | _ => none }
def LinksDoubleWrongFalsely : Prop := linksDoubleRow.holds Tryd.pinned (OpenSpec.ofChange linksDoubleWrong)

/- THE SECOND FORM. 'bulk': how many values and letters a reading holds, each counted each time it is reached (what is shared counts as often as it is met; a slice's spare places count too). A statement '..UptoSaid' is the law's where the arguments, and the package variables that the reading takes, are together of bulk at most 1048576: NARROWER than '..Said'. Prove '..Said' where nothing that the law and all that it calls make is longer than what came in: it says more and counts as full. Else prove '..UptoSaid'. A law counts once. -/
mutual
def uptoBulk {H : Type} : DataW H → Nat
  | .lit (.string bytes) => bytes.length + 1
  | .lit _ => 1
  | .nil => 1
  | .ptr d => uptoBulk d + 1
  | .slice elems spare => uptoBulkAll elems + uptoBulkAll spare + 1
  | .agg parts => uptoBulkAll parts + 1
  | .iface _ d => uptoBulk d + 1
  | .map entries => uptoBulkEntries entries + 1
  | .held _ => 1
def uptoBulkAll {H : Type} : List (DataW H) → Nat
  | [] => 0
  | d :: r => uptoBulk d + uptoBulkAll r
def uptoBulkEntries {H : Type} : List (Lit × DataW H) → Nat
  | [] => 0
  | x :: r => uptoBulkEntry x + uptoBulkEntries r
def uptoBulkEntry {H : Type} : Lit × DataW H → Nat
  | (.string bytes, d) => bytes.length + uptoBulk d + 1
  | (_, d) => uptoBulk d + 1
 end
def uptoSmall : (H : Type) → List (DataW H) → Bool := fun _ ds => decide (uptoBulkAll ds ≤ 1048576)
def OpenSpec.upto (s : _root_.Go.ChangeSpec) : _root_.Go.OpenSpec := { _root_.Go.OpenSpec.ofChange s with cond := some uptoSmall }

/-- 'juristlaw17.LinksChecks', WHERE WHAT IT READS IS OF BULK AT MOST 1048576: true; the input reads as it did. -/
def linksChecksUptoRow : OpenClaim := { program := "ytpopohkbffhckaadoor", sum := "280043d7ef64f691eee810a0dcdeaa89079c8a2d32ec6e74deea4cc0344d5ff0", func := "jurist/juristlaw17.LinksChecks", spec := "linksChecks", unfollowed := true, recurses := true, named := ["jurist/links.nothing"], apart := false, laid := [("jurist/links.nothing", laid_jurist_links_nothing)], narrowed := true }
def LinksChecksUptoSaid : Prop := linksChecksUptoRow.holds Tryd.pinned (OpenSpec.upto linksChecksSpec)

/-- 'juristlaw17.LinksSound', WHERE WHAT IT READS IS OF BULK AT MOST 1048576: true; the input reads as it did. -/
def linksSoundUptoRow : OpenClaim := { program := "ytpopohkbffhckaadoor", sum := "280043d7ef64f691eee810a0dcdeaa89079c8a2d32ec6e74deea4cc0344d5ff0", func := "jurist/juristlaw17.LinksSound", spec := "linksSound", unfollowed := true, recurses := true, named := ["jurist/links.nothing"], apart := false, laid := [("jurist/links.nothing", laid_jurist_links_nothing)], narrowed := true }
def LinksSoundUptoSaid : Prop := linksSoundUptoRow.holds Tryd.pinned (OpenSpec.upto linksSoundSpec)

/-- 'juristlaw17.LinksCut', WHERE WHAT IT READS IS OF BULK AT MOST 1048576: true; the input reads as it did. -/
def linksCutUptoRow : OpenClaim := { program := "ytpopohkbffhckaadoor", sum := "280043d7ef64f691eee810a0dcdeaa89079c8a2d32ec6e74deea4cc0344d5ff0", func := "jurist/juristlaw17.LinksCut", spec := "linksCut", unfollowed := true, recurses := true, named := ["jurist/links.nothing"], apart := false, laid := [("jurist/links.nothing", laid_jurist_links_nothing)], narrowed := true }
def LinksCutUptoSaid : Prop := linksCutUptoRow.holds Tryd.pinned (OpenSpec.upto linksCutSpec)

/-- 'juristlaw17.LinksMore', WHERE WHAT IT READS IS OF BULK AT MOST 1048576: true; the input reads as it did. -/
def linksMoreUptoRow : OpenClaim := { program := "ytpopohkbffhckaadoor", sum := "280043d7ef64f691eee810a0dcdeaa89079c8a2d32ec6e74deea4cc0344d5ff0", func := "jurist/juristlaw17.LinksMore", spec := "linksMore", unfollowed := true, recurses := true, named := ["jurist/links.nothing"], apart := false, laid := [("jurist/links.nothing", laid_jurist_links_nothing)], narrowed := true }
def LinksMoreUptoSaid : Prop := linksMoreUptoRow.holds Tryd.pinned (OpenSpec.upto linksMoreSpec)

/-- 'juristlaw17.LinksDouble', WHERE WHAT IT READS IS OF BULK AT MOST 1048576: true; the input reads as it did. -/
def linksDoubleUptoRow : OpenClaim := { program := "ytpopohkbffhckaadoor", sum := "280043d7ef64f691eee810a0dcdeaa89079c8a2d32ec6e74deea4cc0344d5ff0", func := "jurist/juristlaw17.LinksDouble", spec := "linksDouble", unfollowed := true, recurses := true, named := ["jurist/links.nothing"], apart := false, laid := [("jurist/links.nothing", laid_jurist_links_nothing)], narrowed := true }
def LinksDoubleUptoSaid : Prop := linksDoubleUptoRow.holds Tryd.pinned (OpenSpec.upto linksDoubleSpec)

end Rows
end Go.Proofs.YtpopohkbffhckaaDoor
