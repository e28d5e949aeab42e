/-
  DERIVED. GIVEN WITH THE SEED: THE CARDS: each row of YtdgmfagfpbdbhaaGreatDoorRows.lean that lists a variable, with what it lists TIED to the program's text (the seventh form; the later family's looks); each row that meets fmt, with fmt's text TOLD by the authors' own Lean function (tested against real Go, not proved from fmt's source: count such statements apart). THE CARD IS WHAT COUNTS. Prove the row's statement (the work); the ties are given (YtdgmfagfpbdbhaaGreatDoorTie.lean); close each card by the builder's one call (the guide's Derived/Test/ToyasCard.lean, 'card_holds'). Laid BY PROGRAM, IN A SANDBOX (cutbox-door.mjs). By AI agents, Wed Nov 11 2026. No macro, syntax, notation, axiom, sorry.
-/
import Derived.Test.YtdgmfagfpbdbhaaGreatDoorRows
import GoSem.ClaimSeven
namespace Go.Proofs.YtdgmfagfpbdbhaaGreatDoor
namespace Rows

/-- THE TIED CARD OF 'wayzgooselaw04.TradeTexts'. -/
def tradeTextsCard : Claim7 := { stood := { row := tradeTextsRow, standIns := [], harness := (true, "7624e589804d5d1b5a4c7b23c663c6b16d8d7dda4fc12131ee3a06d111a3b361"), looks := true }, kinds := [], alts := [], laidByText := true, laidKinds := [.data, .handle, .pinned], laidTests := true, laidLooks := .later }
def TradeTextsCardSaid : Prop := Claim7.holds Tryz.pinned (.plain (OpenSpec.ofChange tradeTextsSpec)) tradeTextsCard

/-- THE TIED CARD OF 'wayzgooselaw04.TradeRead'. -/
def tradeReadCard : Claim7 := { stood := { row := tradeReadRow, standIns := [], harness := (true, "7624e589804d5d1b5a4c7b23c663c6b16d8d7dda4fc12131ee3a06d111a3b361"), looks := true }, kinds := [], alts := [], laidByText := true, laidKinds := [.data, .handle, .pinned], laidTests := true, laidLooks := .later }
def TradeReadCardSaid : Prop := Claim7.holds Tryz.pinned (.plain (OpenSpec.ofChange tradeReadSpec)) tradeReadCard

/-- THE SECOND FORM's CARD OF 'wayzgooselaw04.TradeTexts'. -/
def tradeTextsUptoCard : Claim7 := { stood := { row := tradeTextsUptoRow, standIns := [], harness := (true, "7624e589804d5d1b5a4c7b23c663c6b16d8d7dda4fc12131ee3a06d111a3b361"), looks := true }, kinds := [], alts := [], laidByText := true, laidKinds := [.data, .handle, .pinned], laidTests := true, laidLooks := .later }
def TradeTextsUptoCardSaid : Prop := Claim7.holds Tryz.pinned (.plain (OpenSpec.upto tradeTextsSpec)) tradeTextsUptoCard

/-- THE SECOND FORM's CARD OF 'wayzgooselaw04.TradeRead'. -/
def tradeReadUptoCard : Claim7 := { stood := { row := tradeReadUptoRow, standIns := [], harness := (true, "7624e589804d5d1b5a4c7b23c663c6b16d8d7dda4fc12131ee3a06d111a3b361"), looks := true }, kinds := [], alts := [], laidByText := true, laidKinds := [.data, .handle, .pinned], laidTests := true, laidLooks := .later }
def TradeReadUptoCardSaid : Prop := Claim7.holds Tryz.pinned (.plain (OpenSpec.upto tradeReadSpec)) tradeReadUptoCard
end Rows
end Go.Proofs.YtdgmfagfpbdbhaaGreatDoor
