/-
  DERIVED. GIVEN WITH THE SEED: THE CARDS: each row of YtmpfpfbcejfijaaGreatDoorRows.lean that lists a variable, with what it lists TIED to the program's text (the seventh form; the later family's looks); each row that meets fmt, with fmt's text TOLD by the authors' own Lean function (tested against real Go, not proved from fmt's source: count such statements apart). THE CARD IS WHAT COUNTS. Prove the row's statement (the work); the ties are given (YtmpfpfbcejfijaaGreatDoorTie.lean); close each card by the builder's one call (the guide's Derived/Test/ToyasCard.lean, 'card_holds'). Laid BY PROGRAM, IN A SANDBOX (cutbox-door.mjs). By AI agents, Wed Nov 11 2026. No macro, syntax, notation, axiom, sorry.
-/
import Derived.Test.YtmpfpfbcejfijaaGreatDoorRows
import GoSem.ClaimSeven
namespace Go.Proofs.YtmpfpfbcejfijaaGreatDoor
namespace Rows

/-- THE TIED CARD OF 'wayzgooselaw09.BoldKnown'. -/
def boldKnownCard : Claim7 := { stood := { row := boldKnownRow, standIns := [], harness := (true, "5a8b00ba3f6591e7c83f9904d8e7e3e470a1e617f807b6c7d99b24947d9948d8"), looks := true }, kinds := [], alts := [], goes := true, laidByText := true, laidKinds := [.data, .data, .data], laidTests := true, laidLooks := .later }
def BoldKnownCardSaid : Prop := Claim7.holds Tryz.pinned (.plain (OpenSpec.ofChange boldKnownSpec)) boldKnownCard

/-- THE SECOND FORM's CARD OF 'wayzgooselaw09.BoldKnown'. -/
def boldKnownUptoCard : Claim7 := { stood := { row := boldKnownUptoRow, standIns := [], harness := (true, "5a8b00ba3f6591e7c83f9904d8e7e3e470a1e617f807b6c7d99b24947d9948d8"), looks := true }, kinds := [], alts := [], goes := true, laidByText := true, laidKinds := [.data, .data, .data], laidTests := true, laidLooks := .later }
def BoldKnownUptoCardSaid : Prop := Claim7.holds Tryz.pinned (.plain (OpenSpec.upto boldKnownSpec)) boldKnownUptoCard
end Rows
end Go.Proofs.YtmpfpfbcejfijaaGreatDoor
