/-
  DERIVED. GIVEN WITH THE SEED: THE CARDS: each row of YtcdopfjiadifhaaGreatDoorRows.lean that lists a variable, with what it lists TIED to the program's text (the seventh form; the later family's looks); each row that meets fmt, with fmt's text TOLD by the authors' own Lean function (tested against real Go, not proved from fmt's source: count such statements apart). THE CARD IS WHAT COUNTS. Prove the row's statement (the work); the ties are given (YtcdopfjiadifhaaGreatDoorTie.lean); close each card by the builder's one call (the guide's Derived/Test/ToyasCard.lean, 'card_holds'). Laid BY PROGRAM, IN A SANDBOX (cutbox-door.mjs). By AI agents, Wed Nov 11 2026. No macro, syntax, notation, axiom, sorry.
-/
import Derived.Test.YtcdopfjiadifhaaGreatDoorRows
import GoSem.ClaimSeven
namespace Go.Proofs.YtcdopfjiadifhaaGreatDoor
namespace Rows

/-- THE TIED CARD OF 'wayzgooselaw09.BoldStrings'. -/
def boldStringsCard : Claim7 := { stood := { row := boldStringsRow, standIns := [], harness := (true, "5dda9c9c1b768fe5f3ea25ff92074e9828ea7ba45ed75f67d6ea6ac042e0e637"), looks := true }, kinds := [], alts := [], goes := true, laidByText := true, laidKinds := [.data, .data, .data, .data, .sentinel, .sentinel, .pinned], laidTests := true, laidLooks := .later }
def BoldStringsCardSaid : Prop := Claim7.holds Tryz.pinned (.plain (OpenSpec.ofChange boldStringsSpec)) boldStringsCard

/-- THE TIED CARD OF 'wayzgooselaw09.BoldRead'. -/
def boldReadCard : Claim7 := { stood := { row := boldReadRow, standIns := [], harness := (true, "5dda9c9c1b768fe5f3ea25ff92074e9828ea7ba45ed75f67d6ea6ac042e0e637"), looks := true }, kinds := [], alts := [], goes := true, laidByText := true, laidKinds := [.data, .data, .data, .data, .sentinel, .sentinel, .pinned], laidTests := true, laidLooks := .later }
def BoldReadCardSaid : Prop := Claim7.holds Tryz.pinned (.plain (OpenSpec.ofChange boldReadSpec)) boldReadCard

/-- THE SECOND FORM's CARD OF 'wayzgooselaw09.BoldStrings'. -/
def boldStringsUptoCard : Claim7 := { stood := { row := boldStringsUptoRow, standIns := [], harness := (true, "5dda9c9c1b768fe5f3ea25ff92074e9828ea7ba45ed75f67d6ea6ac042e0e637"), looks := true }, kinds := [], alts := [], goes := true, laidByText := true, laidKinds := [.data, .data, .data, .data, .sentinel, .sentinel, .pinned], laidTests := true, laidLooks := .later }
def BoldStringsUptoCardSaid : Prop := Claim7.holds Tryz.pinned (.plain (OpenSpec.upto boldStringsSpec)) boldStringsUptoCard

/-- THE SECOND FORM's CARD OF 'wayzgooselaw09.BoldRead'. -/
def boldReadUptoCard : Claim7 := { stood := { row := boldReadUptoRow, standIns := [], harness := (true, "5dda9c9c1b768fe5f3ea25ff92074e9828ea7ba45ed75f67d6ea6ac042e0e637"), looks := true }, kinds := [], alts := [], goes := true, laidByText := true, laidKinds := [.data, .data, .data, .data, .sentinel, .sentinel, .pinned], laidTests := true, laidLooks := .later }
def BoldReadUptoCardSaid : Prop := Claim7.holds Tryz.pinned (.plain (OpenSpec.upto boldReadSpec)) boldReadUptoCard
end Rows
end Go.Proofs.YtcdopfjiadifhaaGreatDoor
