/-
  DERIVED. GIVEN WITH THE SEED: THE CARDS: each row of YtpihanmcnmlodaaGreatDoorRows.lean that lists a variable, with what it lists TIED to the program's text (the seventh form; the later family's looks); each row that meets fmt, with fmt's text TOLD by the authors' own Lean function (tested against real Go, not proved from fmt's source: count such statements apart). THE CARD IS WHAT COUNTS. Prove the row's statement (the work); the ties are given (YtpihanmcnmlodaaGreatDoorTie.lean); close each card by the builder's one call (the guide's Derived/Test/ToyasCard.lean, 'card_holds'). Laid BY PROGRAM, IN A SANDBOX (cutbox-door.mjs). By AI agents, Wed Nov 11 2026. No macro, syntax, notation, axiom, sorry.
-/
import Derived.Test.YtpihanmcnmlodaaGreatDoorRows
import GoSem.ClaimSeven
namespace Go.Proofs.YtpihanmcnmlodaaGreatDoor
namespace Rows

/-- THE TIED CARD OF 'wayzgoosetop.TopCorrected'. -/
def topCorrectedCard : Claim7 := { stood := { row := topCorrectedRow, standIns := [], harness := (true, "0e426502e98f5f8e1985efff19f4795bf3af73b3e139e65a22f38d0401575912"), looks := true }, kinds := [], alts := [], laidByText := true, laidKinds := [.data, .pinned, .pinned], laidTests := true, laidLooks := .later }
def TopCorrectedCardSaid : Prop := Claim7.holds Tryz.pinned (.plain (OpenSpec.ofChange topCorrectedSpec)) topCorrectedCard

/-- THE TIED CARD OF 'wayzgoosetop.TopPlaced'. -/
def topPlacedCard : Claim7 := { stood := { row := topPlacedRow, standIns := [], harness := (true, "0e426502e98f5f8e1985efff19f4795bf3af73b3e139e65a22f38d0401575912"), looks := true }, kinds := [], alts := [], laidByText := true, laidKinds := [.data, .pinned, .pinned], laidTests := true, laidLooks := .later }
def TopPlacedCardSaid : Prop := Claim7.holds Tryz.pinned (.plain (OpenSpec.ofChange topPlacedSpec)) topPlacedCard

/-- THE SECOND FORM's CARD OF 'wayzgoosetop.TopCorrected'. -/
def topCorrectedUptoCard : Claim7 := { stood := { row := topCorrectedUptoRow, standIns := [], harness := (true, "0e426502e98f5f8e1985efff19f4795bf3af73b3e139e65a22f38d0401575912"), looks := true }, kinds := [], alts := [], laidByText := true, laidKinds := [.data, .pinned, .pinned], laidTests := true, laidLooks := .later }
def TopCorrectedUptoCardSaid : Prop := Claim7.holds Tryz.pinned (.plain (OpenSpec.upto topCorrectedSpec)) topCorrectedUptoCard

/-- THE SECOND FORM's CARD OF 'wayzgoosetop.TopPlaced'. -/
def topPlacedUptoCard : Claim7 := { stood := { row := topPlacedUptoRow, standIns := [], harness := (true, "0e426502e98f5f8e1985efff19f4795bf3af73b3e139e65a22f38d0401575912"), looks := true }, kinds := [], alts := [], laidByText := true, laidKinds := [.data, .pinned, .pinned], laidTests := true, laidLooks := .later }
def TopPlacedUptoCardSaid : Prop := Claim7.holds Tryz.pinned (.plain (OpenSpec.upto topPlacedSpec)) topPlacedUptoCard
end Rows
end Go.Proofs.YtpihanmcnmlodaaGreatDoor
