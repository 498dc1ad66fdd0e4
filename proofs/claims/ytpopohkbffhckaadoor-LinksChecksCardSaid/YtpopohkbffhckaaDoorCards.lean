/-
  DERIVED. GIVEN WITH THE SEED: THE CARDS: each row of YtpopohkbffhckaaDoorRows.lean that lists a variable, with what it lists TIED to the program's text (the seventh form; the later family's looks); each row that meets fmt, with fmt's text TOLD by the authors' own Lean function (tested against real Go, not proved from fmt's source: count such statements apart). THE CARD IS WHAT COUNTS. Prove the row's statement (the work); the ties are given (YtpopohkbffhckaaDoorTie.lean); close each card by the builder's one call (the guide's Derived/Test/ToyasCard.lean, 'card_holds'). Laid BY PROGRAM, IN A SANDBOX (cutbox-door.mjs). By AI agents, Wed Nov 11 2026. No macro, syntax, notation, axiom, sorry.
-/
import Derived.Test.YtpopohkbffhckaaDoorRows
import GoSem.ClaimSeven
namespace Go.Proofs.YtpopohkbffhckaaDoor
namespace Rows

/-- THE TIED CARD OF 'juristlaw17.LinksChecks'. -/
def linksChecksCard : Claim7 := { stood := { row := linksChecksRow, standIns := [], harness := (true, "135314e3e606e13d540b931271da28b7af6198cfdeb9de7c350b3d8001c5d0e7"), looks := false }, kinds := [], alts := [], laidByText := true, laidKinds := [.data], laidTests := true, laidLooks := .later }
def LinksChecksCardSaid : Prop := Claim7.holds Tryd.pinned (.plain (OpenSpec.ofChange linksChecksSpec)) linksChecksCard

/-- THE TIED CARD OF 'juristlaw17.LinksSound'. -/
def linksSoundCard : Claim7 := { stood := { row := linksSoundRow, standIns := [], harness := (true, "135314e3e606e13d540b931271da28b7af6198cfdeb9de7c350b3d8001c5d0e7"), looks := false }, kinds := [], alts := [], laidByText := true, laidKinds := [.data], laidTests := true, laidLooks := .later }
def LinksSoundCardSaid : Prop := Claim7.holds Tryd.pinned (.plain (OpenSpec.ofChange linksSoundSpec)) linksSoundCard

/-- THE TIED CARD OF 'juristlaw17.LinksCut'. -/
def linksCutCard : Claim7 := { stood := { row := linksCutRow, standIns := [], harness := (true, "135314e3e606e13d540b931271da28b7af6198cfdeb9de7c350b3d8001c5d0e7"), looks := false }, kinds := [], alts := [], laidByText := true, laidKinds := [.data], laidTests := true, laidLooks := .later }
def LinksCutCardSaid : Prop := Claim7.holds Tryd.pinned (.plain (OpenSpec.ofChange linksCutSpec)) linksCutCard

/-- THE TIED CARD OF 'juristlaw17.LinksMore'. -/
def linksMoreCard : Claim7 := { stood := { row := linksMoreRow, standIns := [], harness := (true, "135314e3e606e13d540b931271da28b7af6198cfdeb9de7c350b3d8001c5d0e7"), looks := false }, kinds := [], alts := [], laidByText := true, laidKinds := [.data], laidTests := true, laidLooks := .later }
def LinksMoreCardSaid : Prop := Claim7.holds Tryd.pinned (.plain (OpenSpec.ofChange linksMoreSpec)) linksMoreCard

/-- THE TIED CARD OF 'juristlaw17.LinksDouble'. -/
def linksDoubleCard : Claim7 := { stood := { row := linksDoubleRow, standIns := [], harness := (true, "135314e3e606e13d540b931271da28b7af6198cfdeb9de7c350b3d8001c5d0e7"), looks := false }, kinds := [], alts := [], laidByText := true, laidKinds := [.data], laidTests := true, laidLooks := .later }
def LinksDoubleCardSaid : Prop := Claim7.holds Tryd.pinned (.plain (OpenSpec.ofChange linksDoubleSpec)) linksDoubleCard

/-- THE SECOND FORM's CARD OF 'juristlaw17.LinksChecks'. -/
def linksChecksUptoCard : Claim7 := { stood := { row := linksChecksUptoRow, standIns := [], harness := (true, "135314e3e606e13d540b931271da28b7af6198cfdeb9de7c350b3d8001c5d0e7"), looks := false }, kinds := [], alts := [], laidByText := true, laidKinds := [.data], laidTests := true, laidLooks := .later }
def LinksChecksUptoCardSaid : Prop := Claim7.holds Tryd.pinned (.plain (OpenSpec.upto linksChecksSpec)) linksChecksUptoCard

/-- THE SECOND FORM's CARD OF 'juristlaw17.LinksSound'. -/
def linksSoundUptoCard : Claim7 := { stood := { row := linksSoundUptoRow, standIns := [], harness := (true, "135314e3e606e13d540b931271da28b7af6198cfdeb9de7c350b3d8001c5d0e7"), looks := false }, kinds := [], alts := [], laidByText := true, laidKinds := [.data], laidTests := true, laidLooks := .later }
def LinksSoundUptoCardSaid : Prop := Claim7.holds Tryd.pinned (.plain (OpenSpec.upto linksSoundSpec)) linksSoundUptoCard

/-- THE SECOND FORM's CARD OF 'juristlaw17.LinksCut'. -/
def linksCutUptoCard : Claim7 := { stood := { row := linksCutUptoRow, standIns := [], harness := (true, "135314e3e606e13d540b931271da28b7af6198cfdeb9de7c350b3d8001c5d0e7"), looks := false }, kinds := [], alts := [], laidByText := true, laidKinds := [.data], laidTests := true, laidLooks := .later }
def LinksCutUptoCardSaid : Prop := Claim7.holds Tryd.pinned (.plain (OpenSpec.upto linksCutSpec)) linksCutUptoCard

/-- THE SECOND FORM's CARD OF 'juristlaw17.LinksMore'. -/
def linksMoreUptoCard : Claim7 := { stood := { row := linksMoreUptoRow, standIns := [], harness := (true, "135314e3e606e13d540b931271da28b7af6198cfdeb9de7c350b3d8001c5d0e7"), looks := false }, kinds := [], alts := [], laidByText := true, laidKinds := [.data], laidTests := true, laidLooks := .later }
def LinksMoreUptoCardSaid : Prop := Claim7.holds Tryd.pinned (.plain (OpenSpec.upto linksMoreSpec)) linksMoreUptoCard

/-- THE SECOND FORM's CARD OF 'juristlaw17.LinksDouble'. -/
def linksDoubleUptoCard : Claim7 := { stood := { row := linksDoubleUptoRow, standIns := [], harness := (true, "135314e3e606e13d540b931271da28b7af6198cfdeb9de7c350b3d8001c5d0e7"), looks := false }, kinds := [], alts := [], laidByText := true, laidKinds := [.data], laidTests := true, laidLooks := .later }
def LinksDoubleUptoCardSaid : Prop := Claim7.holds Tryd.pinned (.plain (OpenSpec.upto linksDoubleSpec)) linksDoubleUptoCard
end Rows
end Go.Proofs.YtpopohkbffhckaaDoor
