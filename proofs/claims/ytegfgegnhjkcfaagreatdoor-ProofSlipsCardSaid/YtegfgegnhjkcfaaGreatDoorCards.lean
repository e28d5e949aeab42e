/-
  DERIVED. GIVEN WITH THE SEED: THE CARDS: each row of YtegfgegnhjkcfaaGreatDoorRows.lean that lists a variable, with what it lists TIED to the program's text (the seventh form; the later family's looks); each row that meets fmt, with fmt's text TOLD by the authors' own Lean function (tested against real Go, not proved from fmt's source: count such statements apart). THE CARD IS WHAT COUNTS. Prove the row's statement (the work); the ties are given (YtegfgegnhjkcfaaGreatDoorTie.lean); close each card by the builder's one call (the guide's Derived/Test/ToyasCard.lean, 'card_holds'). Laid BY PROGRAM, IN A SANDBOX (cutbox-door.mjs). By AI agents, Wed Nov 11 2026. No macro, syntax, notation, axiom, sorry.
-/
import Derived.Test.YtegfgegnhjkcfaaGreatDoorRows
import GoSem.ClaimSeven
namespace Go.Proofs.YtegfgegnhjkcfaaGreatDoor
namespace Rows

/-- THE TIED CARD OF 'wayzgooselaw07.ProofSlips'. -/
def proofSlipsCard : Claim7 := { stood := { row := proofSlipsRow, standIns := [], harness := (true, "61f35cda4143e685413f4485d935e06f4b83966350eae42147d669c8336722fb"), looks := true }, kinds := [], alts := [], laidByText := true, laidKinds := [.data, .data, .data, .data, .sentinel, .sentinel, .pinned], laidTests := true, laidLooks := .later }
def ProofSlipsCardSaid : Prop := Claim7.holds Tryz.pinned (.plain (OpenSpec.ofChange proofSlipsSpec)) proofSlipsCard

/-- THE TIED CARD OF 'wayzgooselaw07.ProofRead'. -/
def proofReadCard : Claim7 := { stood := { row := proofReadRow, standIns := [], harness := (true, "61f35cda4143e685413f4485d935e06f4b83966350eae42147d669c8336722fb"), looks := true }, kinds := [], alts := [], laidByText := true, laidKinds := [.data, .data, .data, .data, .sentinel, .sentinel, .pinned], laidTests := true, laidLooks := .later }
def ProofReadCardSaid : Prop := Claim7.holds Tryz.pinned (.plain (OpenSpec.ofChange proofReadSpec)) proofReadCard

/-- THE SECOND FORM's CARD OF 'wayzgooselaw07.ProofSlips'. -/
def proofSlipsUptoCard : Claim7 := { stood := { row := proofSlipsUptoRow, standIns := [], harness := (true, "61f35cda4143e685413f4485d935e06f4b83966350eae42147d669c8336722fb"), looks := true }, kinds := [], alts := [], laidByText := true, laidKinds := [.data, .data, .data, .data, .sentinel, .sentinel, .pinned], laidTests := true, laidLooks := .later }
def ProofSlipsUptoCardSaid : Prop := Claim7.holds Tryz.pinned (.plain (OpenSpec.upto proofSlipsSpec)) proofSlipsUptoCard

/-- THE SECOND FORM's CARD OF 'wayzgooselaw07.ProofRead'. -/
def proofReadUptoCard : Claim7 := { stood := { row := proofReadUptoRow, standIns := [], harness := (true, "61f35cda4143e685413f4485d935e06f4b83966350eae42147d669c8336722fb"), looks := true }, kinds := [], alts := [], laidByText := true, laidKinds := [.data, .data, .data, .data, .sentinel, .sentinel, .pinned], laidTests := true, laidLooks := .later }
def ProofReadUptoCardSaid : Prop := Claim7.holds Tryz.pinned (.plain (OpenSpec.upto proofReadSpec)) proofReadUptoCard
end Rows
end Go.Proofs.YtegfgegnhjkcfaaGreatDoor
