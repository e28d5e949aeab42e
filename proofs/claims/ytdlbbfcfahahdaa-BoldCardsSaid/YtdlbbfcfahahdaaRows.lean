/-
  No cell of these rows narrows 'for every input' (looked for: loops, veiled, ifaces, maps, wideKeys, modest, calm, conditions, laid).
  DERIVED. THE GIVEN ROWS OF THIS SEAT. 14 by the template 'for every input the law returns true; each argument reads behind the call as it read before'; 0 by the template 'total and deterministic' (their statements: YtdlbbfcfahahdaaTotals.lean).
  GIVEN WITH THE SEED: the statements are not yours to turn. If you find one false, say at which input.
  Laid BY PROGRAM, IN A SANDBOX (cutbox-rows.mjs): the forced cells as the released guide's own fill.sh prints them over the translation 164d1967d966a0f8… (all of the seat's roots in one cut). By AI agents, Wed Nov 11 2026. No macro, syntax, notation, axiom, sorry.
-/
import Derived.Test.YtdlbbfcfahahdaaChecked
import GoSem.Claim
import GoSem.ClaimJoined
import GoSem.ClaimMapViews
import Derived.JoinedTies
import Derived.KernelRfl
namespace Go.Proofs.Ytdlbbfcfahahdaa
/- THE CELL 'sum', in the pinned program and in every row, IS THE sha256 OF THE DUMP (.gsa) THAT YtdlbbfcfahahdaaProg.lean LOADS. Nothing in Lean hashes anything: it is a label: what it is worth is what the hold of that sum in a sandbox is worth. -/
noncomputable def Try.pinned : Pinned := { name := "ytdlbbfcfahahdaa", sum := "164d1967d966a0f862c7a208ffddd7239209c903463efa81af6a52f9e80af1c4", checked := Try.checked }
namespace Rows
def none {H : Type} : Left H := { results := [], args := [] }

/-- 'wayzgooselaw09.BoldSheets': WHATEVER THE INPUT: true; the input reads as it did. -/
def boldSheetsSpec : ChangeSpec := { name := "boldSheets", fn := fun _ => fun
  | [d1, d2, d3, d4] => { results := [.lit (.bool true)], args := [d1, d2, d3, d4] }
  | _ => none }
def boldSheetsRow : OpenClaim := { program := "ytdlbbfcfahahdaa", sum := "164d1967d966a0f862c7a208ffddd7239209c903463efa81af6a52f9e80af1c4", func := "wayzgoose/wayzgooselaw09.BoldSheets", spec := "boldSheets", unfollowed := true, recurses := true, leaving := true, apart := false }
def BoldSheetsSaid : Prop := boldSheetsRow.holds Try.pinned (OpenSpec.ofChange boldSheetsSpec)

/-- ITS FALSE NEIGHBOUR: 'it returns false'. Refute it at one input. -/
def boldSheetsWrong : ChangeSpec := { name := "boldSheets", fn := fun _ => fun
  | [d1, d2, d3, d4] => { results := [.lit (.bool false)], args := [d1, d2, d3, d4] }
  | _ => none }
def BoldSheetsWrongFalsely : Prop := boldSheetsRow.holds Try.pinned (OpenSpec.ofChange boldSheetsWrong)

/-- 'wayzgooselaw09.BoldWorth': WHATEVER THE INPUT: true; the input reads as it did. -/
def boldWorthSpec : ChangeSpec := { name := "boldWorth", fn := fun _ => fun
  | [d] => { results := [.lit (.bool true)], args := [d] }
  | _ => none }
def boldWorthRow : OpenClaim := { program := "ytdlbbfcfahahdaa", sum := "164d1967d966a0f862c7a208ffddd7239209c903463efa81af6a52f9e80af1c4", func := "wayzgoose/wayzgooselaw09.BoldWorth", spec := "boldWorth", unfollowed := true, recurses := true, leaving := true, apart := false }
def BoldWorthSaid : Prop := boldWorthRow.holds Try.pinned (OpenSpec.ofChange boldWorthSpec)

/-- ITS FALSE NEIGHBOUR: 'it returns false'. Refute it at one input. -/
def boldWorthWrong : ChangeSpec := { name := "boldWorth", fn := fun _ => fun
  | [d] => { results := [.lit (.bool false)], args := [d] }
  | _ => none }
def BoldWorthWrongFalsely : Prop := boldWorthRow.holds Try.pinned (OpenSpec.ofChange boldWorthWrong)

/-- 'wayzgooselaw09.BoldFilled': WHATEVER THE INPUT: true; the input reads as it did. -/
def boldFilledSpec : ChangeSpec := { name := "boldFilled", fn := fun _ => fun
  | [d] => { results := [.lit (.bool true)], args := [d] }
  | _ => none }
def boldFilledRow : OpenClaim := { program := "ytdlbbfcfahahdaa", sum := "164d1967d966a0f862c7a208ffddd7239209c903463efa81af6a52f9e80af1c4", func := "wayzgoose/wayzgooselaw09.BoldFilled", spec := "boldFilled", unfollowed := true, recurses := true, leaving := true, apart := false }
def BoldFilledSaid : Prop := boldFilledRow.holds Try.pinned (OpenSpec.ofChange boldFilledSpec)

/-- ITS FALSE NEIGHBOUR: 'it returns false'. Refute it at one input. -/
def boldFilledWrong : ChangeSpec := { name := "boldFilled", fn := fun _ => fun
  | [d] => { results := [.lit (.bool false)], args := [d] }
  | _ => none }
def BoldFilledWrongFalsely : Prop := boldFilledRow.holds Try.pinned (OpenSpec.ofChange boldFilledWrong)

/-- 'wayzgooselaw09.BoldBound': WHATEVER THE INPUT: true; the input reads as it did. -/
def boldBoundSpec : ChangeSpec := { name := "boldBound", fn := fun _ => fun
  | [d] => { results := [.lit (.bool true)], args := [d] }
  | _ => none }
def boldBoundRow : OpenClaim := { program := "ytdlbbfcfahahdaa", sum := "164d1967d966a0f862c7a208ffddd7239209c903463efa81af6a52f9e80af1c4", func := "wayzgoose/wayzgooselaw09.BoldBound", spec := "boldBound", unfollowed := true, recurses := true, leaving := true, apart := false }
def BoldBoundSaid : Prop := boldBoundRow.holds Try.pinned (OpenSpec.ofChange boldBoundSpec)

/-- ITS FALSE NEIGHBOUR: 'it returns false'. Refute it at one input. -/
def boldBoundWrong : ChangeSpec := { name := "boldBound", fn := fun _ => fun
  | [d] => { results := [.lit (.bool false)], args := [d] }
  | _ => none }
def BoldBoundWrongFalsely : Prop := boldBoundRow.holds Try.pinned (OpenSpec.ofChange boldBoundWrong)

/-- 'wayzgooselaw09.BoldPlaced': WHATEVER THE INPUT: true; the input reads as it did. -/
def boldPlacedSpec : ChangeSpec := { name := "boldPlaced", fn := fun _ => fun
  | [d] => { results := [.lit (.bool true)], args := [d] }
  | _ => none }
def boldPlacedRow : OpenClaim := { program := "ytdlbbfcfahahdaa", sum := "164d1967d966a0f862c7a208ffddd7239209c903463efa81af6a52f9e80af1c4", func := "wayzgoose/wayzgooselaw09.BoldPlaced", spec := "boldPlaced", unfollowed := true, recurses := true, leaving := true, apart := false }
def BoldPlacedSaid : Prop := boldPlacedRow.holds Try.pinned (OpenSpec.ofChange boldPlacedSpec)

/-- ITS FALSE NEIGHBOUR: 'it returns false'. Refute it at one input. -/
def boldPlacedWrong : ChangeSpec := { name := "boldPlaced", fn := fun _ => fun
  | [d] => { results := [.lit (.bool false)], args := [d] }
  | _ => none }
def BoldPlacedWrongFalsely : Prop := boldPlacedRow.holds Try.pinned (OpenSpec.ofChange boldPlacedWrong)

/-- 'wayzgooselaw09.BoldOrder': WHATEVER THE INPUT: true; the input reads as it did. -/
def boldOrderSpec : ChangeSpec := { name := "boldOrder", fn := fun _ => fun
  | [d] => { results := [.lit (.bool true)], args := [d] }
  | _ => none }
def boldOrderRow : OpenClaim := { program := "ytdlbbfcfahahdaa", sum := "164d1967d966a0f862c7a208ffddd7239209c903463efa81af6a52f9e80af1c4", func := "wayzgoose/wayzgooselaw09.BoldOrder", spec := "boldOrder", unfollowed := true, recurses := true, leaving := true, apart := false }
def BoldOrderSaid : Prop := boldOrderRow.holds Try.pinned (OpenSpec.ofChange boldOrderSpec)

/-- ITS FALSE NEIGHBOUR: 'it returns false'. Refute it at one input. -/
def boldOrderWrong : ChangeSpec := { name := "boldOrder", fn := fun _ => fun
  | [d] => { results := [.lit (.bool false)], args := [d] }
  | _ => none }
def BoldOrderWrongFalsely : Prop := boldOrderRow.holds Try.pinned (OpenSpec.ofChange boldOrderWrong)

/-- 'wayzgooselaw09.BoldCards': WHATEVER THE INPUT: true; the input reads as it did. -/
def boldCardsSpec : ChangeSpec := { name := "boldCards", fn := fun _ => fun
  | [d1, d2, d3] => { results := [.lit (.bool true)], args := [d1, d2, d3] }
  | _ => none }
def boldCardsRow : OpenClaim := { program := "ytdlbbfcfahahdaa", sum := "164d1967d966a0f862c7a208ffddd7239209c903463efa81af6a52f9e80af1c4", func := "wayzgoose/wayzgooselaw09.BoldCards", spec := "boldCards", unfollowed := true, recurses := true, leaving := true, apart := false }
def BoldCardsSaid : Prop := boldCardsRow.holds Try.pinned (OpenSpec.ofChange boldCardsSpec)

/-- ITS FALSE NEIGHBOUR: 'it returns false'. Refute it at one input. -/
def boldCardsWrong : ChangeSpec := { name := "boldCards", fn := fun _ => fun
  | [d1, d2, d3] => { results := [.lit (.bool false)], args := [d1, d2, d3] }
  | _ => none }
def BoldCardsWrongFalsely : Prop := boldCardsRow.holds Try.pinned (OpenSpec.ofChange boldCardsWrong)

/-- 'wayzgooselaw09.BoldExact': WHATEVER THE INPUT: true; the input reads as it did. -/
def boldExactSpec : ChangeSpec := { name := "boldExact", fn := fun _ => fun
  | [d] => { results := [.lit (.bool true)], args := [d] }
  | _ => none }
def boldExactRow : OpenClaim := { program := "ytdlbbfcfahahdaa", sum := "164d1967d966a0f862c7a208ffddd7239209c903463efa81af6a52f9e80af1c4", func := "wayzgoose/wayzgooselaw09.BoldExact", spec := "boldExact", unfollowed := true, recurses := true, leaving := true, apart := false }
def BoldExactSaid : Prop := boldExactRow.holds Try.pinned (OpenSpec.ofChange boldExactSpec)

/-- ITS FALSE NEIGHBOUR: 'it returns false'. Refute it at one input. -/
def boldExactWrong : ChangeSpec := { name := "boldExact", fn := fun _ => fun
  | [d] => { results := [.lit (.bool false)], args := [d] }
  | _ => none }
def BoldExactWrongFalsely : Prop := boldExactRow.holds Try.pinned (OpenSpec.ofChange boldExactWrong)

/-- 'wayzgooselaw09.BoldOwes': WHATEVER THE INPUT: true; the input reads as it did. -/
def boldOwesSpec : ChangeSpec := { name := "boldOwes", fn := fun _ => fun
  | [d1, d2, d3] => { results := [.lit (.bool true)], args := [d1, d2, d3] }
  | _ => none }
def boldOwesRow : OpenClaim := { program := "ytdlbbfcfahahdaa", sum := "164d1967d966a0f862c7a208ffddd7239209c903463efa81af6a52f9e80af1c4", func := "wayzgoose/wayzgooselaw09.BoldOwes", spec := "boldOwes", unfollowed := true, recurses := true, leaving := true, apart := false }
def BoldOwesSaid : Prop := boldOwesRow.holds Try.pinned (OpenSpec.ofChange boldOwesSpec)

/-- ITS FALSE NEIGHBOUR: 'it returns false'. Refute it at one input. -/
def boldOwesWrong : ChangeSpec := { name := "boldOwes", fn := fun _ => fun
  | [d1, d2, d3] => { results := [.lit (.bool false)], args := [d1, d2, d3] }
  | _ => none }
def BoldOwesWrongFalsely : Prop := boldOwesRow.holds Try.pinned (OpenSpec.ofChange boldOwesWrong)

/-- 'wayzgooselaw09.BoldPaid': WHATEVER THE INPUT: true; the input reads as it did. -/
def boldPaidSpec : ChangeSpec := { name := "boldPaid", fn := fun _ => fun
  | [d] => { results := [.lit (.bool true)], args := [d] }
  | _ => none }
def boldPaidRow : OpenClaim := { program := "ytdlbbfcfahahdaa", sum := "164d1967d966a0f862c7a208ffddd7239209c903463efa81af6a52f9e80af1c4", func := "wayzgoose/wayzgooselaw09.BoldPaid", spec := "boldPaid", unfollowed := true, recurses := true, leaving := true, apart := false }
def BoldPaidSaid : Prop := boldPaidRow.holds Try.pinned (OpenSpec.ofChange boldPaidSpec)

/-- ITS FALSE NEIGHBOUR: 'it returns false'. Refute it at one input. -/
def boldPaidWrong : ChangeSpec := { name := "boldPaid", fn := fun _ => fun
  | [d] => { results := [.lit (.bool false)], args := [d] }
  | _ => none }
def BoldPaidWrongFalsely : Prop := boldPaidRow.holds Try.pinned (OpenSpec.ofChange boldPaidWrong)

/-- 'wayzgooselaw09.BoldOnce': WHATEVER THE INPUT: true; the input reads as it did. -/
def boldOnceSpec : ChangeSpec := { name := "boldOnce", fn := fun _ => fun
  | [d] => { results := [.lit (.bool true)], args := [d] }
  | _ => none }
def boldOnceRow : OpenClaim := { program := "ytdlbbfcfahahdaa", sum := "164d1967d966a0f862c7a208ffddd7239209c903463efa81af6a52f9e80af1c4", func := "wayzgoose/wayzgooselaw09.BoldOnce", spec := "boldOnce", unfollowed := true, recurses := true, leaving := true, apart := false }
def BoldOnceSaid : Prop := boldOnceRow.holds Try.pinned (OpenSpec.ofChange boldOnceSpec)

/-- ITS FALSE NEIGHBOUR: 'it returns false'. Refute it at one input. -/
def boldOnceWrong : ChangeSpec := { name := "boldOnce", fn := fun _ => fun
  | [d] => { results := [.lit (.bool false)], args := [d] }
  | _ => none }
def BoldOnceWrongFalsely : Prop := boldOnceRow.holds Try.pinned (OpenSpec.ofChange boldOnceWrong)

/-- 'wayzgooselaw09.BoldWanted': WHATEVER THE INPUT: true; the input reads as it did. -/
def boldWantedSpec : ChangeSpec := { name := "boldWanted", fn := fun _ => fun
  | [d] => { results := [.lit (.bool true)], args := [d] }
  | _ => none }
def boldWantedRow : OpenClaim := { program := "ytdlbbfcfahahdaa", sum := "164d1967d966a0f862c7a208ffddd7239209c903463efa81af6a52f9e80af1c4", func := "wayzgoose/wayzgooselaw09.BoldWanted", spec := "boldWanted", unfollowed := true, recurses := true, leaving := true, apart := false }
def BoldWantedSaid : Prop := boldWantedRow.holds Try.pinned (OpenSpec.ofChange boldWantedSpec)

/-- ITS FALSE NEIGHBOUR: 'it returns false'. Refute it at one input. -/
def boldWantedWrong : ChangeSpec := { name := "boldWanted", fn := fun _ => fun
  | [d] => { results := [.lit (.bool false)], args := [d] }
  | _ => none }
def BoldWantedWrongFalsely : Prop := boldWantedRow.holds Try.pinned (OpenSpec.ofChange boldWantedWrong)

/-- 'wayzgooselaw09.BoldAdverts': WHATEVER THE INPUT: true; the input reads as it did. -/
def boldAdvertsSpec : ChangeSpec := { name := "boldAdverts", fn := fun _ => fun
  | [d1, d2, d3, d4, d5] => { results := [.lit (.bool true)], args := [d1, d2, d3, d4, d5] }
  | _ => none }
def boldAdvertsRow : OpenClaim := { program := "ytdlbbfcfahahdaa", sum := "164d1967d966a0f862c7a208ffddd7239209c903463efa81af6a52f9e80af1c4", func := "wayzgoose/wayzgooselaw09.BoldAdverts", spec := "boldAdverts", unfollowed := true, recurses := true, leaving := true, apart := false }
def BoldAdvertsSaid : Prop := boldAdvertsRow.holds Try.pinned (OpenSpec.ofChange boldAdvertsSpec)

/-- ITS FALSE NEIGHBOUR: 'it returns false'. Refute it at one input. -/
def boldAdvertsWrong : ChangeSpec := { name := "boldAdverts", fn := fun _ => fun
  | [d1, d2, d3, d4, d5] => { results := [.lit (.bool false)], args := [d1, d2, d3, d4, d5] }
  | _ => none }
def BoldAdvertsWrongFalsely : Prop := boldAdvertsRow.holds Try.pinned (OpenSpec.ofChange boldAdvertsWrong)

/-- 'wayzgooselaw09.BoldCheapest': WHATEVER THE INPUT: true; the input reads as it did. -/
def boldCheapestSpec : ChangeSpec := { name := "boldCheapest", fn := fun _ => fun
  | [d] => { results := [.lit (.bool true)], args := [d] }
  | _ => none }
def boldCheapestRow : OpenClaim := { program := "ytdlbbfcfahahdaa", sum := "164d1967d966a0f862c7a208ffddd7239209c903463efa81af6a52f9e80af1c4", func := "wayzgoose/wayzgooselaw09.BoldCheapest", spec := "boldCheapest", unfollowed := true, recurses := true, leaving := true, apart := false }
def BoldCheapestSaid : Prop := boldCheapestRow.holds Try.pinned (OpenSpec.ofChange boldCheapestSpec)

/-- ITS FALSE NEIGHBOUR: 'it returns false'. Refute it at one input. -/
def boldCheapestWrong : ChangeSpec := { name := "boldCheapest", fn := fun _ => fun
  | [d] => { results := [.lit (.bool false)], args := [d] }
  | _ => none }
def BoldCheapestWrongFalsely : Prop := boldCheapestRow.holds Try.pinned (OpenSpec.ofChange boldCheapestWrong)

/- THE SECOND FORM. 'bulk': how many values and letters a reading holds, each counted each time it is reached (what is shared counts as often as it is met; a slice's spare places count too). A statement '..UptoSaid' is the law's where the arguments, and the package variables that the reading takes, are together of bulk at most 1048576: NARROWER than '..Said'. Prove '..Said' where nothing that the law and all that it calls make is longer than what came in: it says more and counts as full. Else prove '..UptoSaid'. A law counts once. -/
mutual
def uptoBulk {H : Type} : DataW H → Nat
  | .lit (.string bytes) => bytes.length + 1
  | .lit _ => 1
  | .nil => 1
  | .ptr d => uptoBulk d + 1
  | .slice elems spare => uptoBulkAll elems + uptoBulkAll spare + 1
  | .agg parts => uptoBulkAll parts + 1
  | .iface _ d => uptoBulk d + 1
  | .map entries => uptoBulkEntries entries + 1
  | .held _ => 1
def uptoBulkAll {H : Type} : List (DataW H) → Nat
  | [] => 0
  | d :: r => uptoBulk d + uptoBulkAll r
def uptoBulkEntries {H : Type} : List (Lit × DataW H) → Nat
  | [] => 0
  | x :: r => uptoBulkEntry x + uptoBulkEntries r
def uptoBulkEntry {H : Type} : Lit × DataW H → Nat
  | (.string bytes, d) => bytes.length + uptoBulk d + 1
  | (_, d) => uptoBulk d + 1
 end
def uptoSmall : (H : Type) → List (DataW H) → Bool := fun _ ds => decide (uptoBulkAll ds ≤ 1048576)
def OpenSpec.upto (s : _root_.Go.ChangeSpec) : _root_.Go.OpenSpec := { _root_.Go.OpenSpec.ofChange s with cond := some uptoSmall }

/-- 'wayzgooselaw09.BoldSheets', WHERE WHAT IT READS IS OF BULK AT MOST 1048576: true; the input reads as it did. -/
def boldSheetsUptoRow : OpenClaim := { program := "ytdlbbfcfahahdaa", sum := "164d1967d966a0f862c7a208ffddd7239209c903463efa81af6a52f9e80af1c4", func := "wayzgoose/wayzgooselaw09.BoldSheets", spec := "boldSheets", unfollowed := true, recurses := true, leaving := true, apart := false, narrowed := true }
def BoldSheetsUptoSaid : Prop := boldSheetsUptoRow.holds Try.pinned (OpenSpec.upto boldSheetsSpec)

/-- 'wayzgooselaw09.BoldWorth', WHERE WHAT IT READS IS OF BULK AT MOST 1048576: true; the input reads as it did. -/
def boldWorthUptoRow : OpenClaim := { program := "ytdlbbfcfahahdaa", sum := "164d1967d966a0f862c7a208ffddd7239209c903463efa81af6a52f9e80af1c4", func := "wayzgoose/wayzgooselaw09.BoldWorth", spec := "boldWorth", unfollowed := true, recurses := true, leaving := true, apart := false, narrowed := true }
def BoldWorthUptoSaid : Prop := boldWorthUptoRow.holds Try.pinned (OpenSpec.upto boldWorthSpec)

/-- 'wayzgooselaw09.BoldFilled', WHERE WHAT IT READS IS OF BULK AT MOST 1048576: true; the input reads as it did. -/
def boldFilledUptoRow : OpenClaim := { program := "ytdlbbfcfahahdaa", sum := "164d1967d966a0f862c7a208ffddd7239209c903463efa81af6a52f9e80af1c4", func := "wayzgoose/wayzgooselaw09.BoldFilled", spec := "boldFilled", unfollowed := true, recurses := true, leaving := true, apart := false, narrowed := true }
def BoldFilledUptoSaid : Prop := boldFilledUptoRow.holds Try.pinned (OpenSpec.upto boldFilledSpec)

/-- 'wayzgooselaw09.BoldBound', WHERE WHAT IT READS IS OF BULK AT MOST 1048576: true; the input reads as it did. -/
def boldBoundUptoRow : OpenClaim := { program := "ytdlbbfcfahahdaa", sum := "164d1967d966a0f862c7a208ffddd7239209c903463efa81af6a52f9e80af1c4", func := "wayzgoose/wayzgooselaw09.BoldBound", spec := "boldBound", unfollowed := true, recurses := true, leaving := true, apart := false, narrowed := true }
def BoldBoundUptoSaid : Prop := boldBoundUptoRow.holds Try.pinned (OpenSpec.upto boldBoundSpec)

/-- 'wayzgooselaw09.BoldPlaced', WHERE WHAT IT READS IS OF BULK AT MOST 1048576: true; the input reads as it did. -/
def boldPlacedUptoRow : OpenClaim := { program := "ytdlbbfcfahahdaa", sum := "164d1967d966a0f862c7a208ffddd7239209c903463efa81af6a52f9e80af1c4", func := "wayzgoose/wayzgooselaw09.BoldPlaced", spec := "boldPlaced", unfollowed := true, recurses := true, leaving := true, apart := false, narrowed := true }
def BoldPlacedUptoSaid : Prop := boldPlacedUptoRow.holds Try.pinned (OpenSpec.upto boldPlacedSpec)

/-- 'wayzgooselaw09.BoldOrder', WHERE WHAT IT READS IS OF BULK AT MOST 1048576: true; the input reads as it did. -/
def boldOrderUptoRow : OpenClaim := { program := "ytdlbbfcfahahdaa", sum := "164d1967d966a0f862c7a208ffddd7239209c903463efa81af6a52f9e80af1c4", func := "wayzgoose/wayzgooselaw09.BoldOrder", spec := "boldOrder", unfollowed := true, recurses := true, leaving := true, apart := false, narrowed := true }
def BoldOrderUptoSaid : Prop := boldOrderUptoRow.holds Try.pinned (OpenSpec.upto boldOrderSpec)

/-- 'wayzgooselaw09.BoldCards', WHERE WHAT IT READS IS OF BULK AT MOST 1048576: true; the input reads as it did. -/
def boldCardsUptoRow : OpenClaim := { program := "ytdlbbfcfahahdaa", sum := "164d1967d966a0f862c7a208ffddd7239209c903463efa81af6a52f9e80af1c4", func := "wayzgoose/wayzgooselaw09.BoldCards", spec := "boldCards", unfollowed := true, recurses := true, leaving := true, apart := false, narrowed := true }
def BoldCardsUptoSaid : Prop := boldCardsUptoRow.holds Try.pinned (OpenSpec.upto boldCardsSpec)

/-- 'wayzgooselaw09.BoldExact', WHERE WHAT IT READS IS OF BULK AT MOST 1048576: true; the input reads as it did. -/
def boldExactUptoRow : OpenClaim := { program := "ytdlbbfcfahahdaa", sum := "164d1967d966a0f862c7a208ffddd7239209c903463efa81af6a52f9e80af1c4", func := "wayzgoose/wayzgooselaw09.BoldExact", spec := "boldExact", unfollowed := true, recurses := true, leaving := true, apart := false, narrowed := true }
def BoldExactUptoSaid : Prop := boldExactUptoRow.holds Try.pinned (OpenSpec.upto boldExactSpec)

/-- 'wayzgooselaw09.BoldOwes', WHERE WHAT IT READS IS OF BULK AT MOST 1048576: true; the input reads as it did. -/
def boldOwesUptoRow : OpenClaim := { program := "ytdlbbfcfahahdaa", sum := "164d1967d966a0f862c7a208ffddd7239209c903463efa81af6a52f9e80af1c4", func := "wayzgoose/wayzgooselaw09.BoldOwes", spec := "boldOwes", unfollowed := true, recurses := true, leaving := true, apart := false, narrowed := true }
def BoldOwesUptoSaid : Prop := boldOwesUptoRow.holds Try.pinned (OpenSpec.upto boldOwesSpec)

/-- 'wayzgooselaw09.BoldPaid', WHERE WHAT IT READS IS OF BULK AT MOST 1048576: true; the input reads as it did. -/
def boldPaidUptoRow : OpenClaim := { program := "ytdlbbfcfahahdaa", sum := "164d1967d966a0f862c7a208ffddd7239209c903463efa81af6a52f9e80af1c4", func := "wayzgoose/wayzgooselaw09.BoldPaid", spec := "boldPaid", unfollowed := true, recurses := true, leaving := true, apart := false, narrowed := true }
def BoldPaidUptoSaid : Prop := boldPaidUptoRow.holds Try.pinned (OpenSpec.upto boldPaidSpec)

/-- 'wayzgooselaw09.BoldOnce', WHERE WHAT IT READS IS OF BULK AT MOST 1048576: true; the input reads as it did. -/
def boldOnceUptoRow : OpenClaim := { program := "ytdlbbfcfahahdaa", sum := "164d1967d966a0f862c7a208ffddd7239209c903463efa81af6a52f9e80af1c4", func := "wayzgoose/wayzgooselaw09.BoldOnce", spec := "boldOnce", unfollowed := true, recurses := true, leaving := true, apart := false, narrowed := true }
def BoldOnceUptoSaid : Prop := boldOnceUptoRow.holds Try.pinned (OpenSpec.upto boldOnceSpec)

/-- 'wayzgooselaw09.BoldWanted', WHERE WHAT IT READS IS OF BULK AT MOST 1048576: true; the input reads as it did. -/
def boldWantedUptoRow : OpenClaim := { program := "ytdlbbfcfahahdaa", sum := "164d1967d966a0f862c7a208ffddd7239209c903463efa81af6a52f9e80af1c4", func := "wayzgoose/wayzgooselaw09.BoldWanted", spec := "boldWanted", unfollowed := true, recurses := true, leaving := true, apart := false, narrowed := true }
def BoldWantedUptoSaid : Prop := boldWantedUptoRow.holds Try.pinned (OpenSpec.upto boldWantedSpec)

/-- 'wayzgooselaw09.BoldAdverts', WHERE WHAT IT READS IS OF BULK AT MOST 1048576: true; the input reads as it did. -/
def boldAdvertsUptoRow : OpenClaim := { program := "ytdlbbfcfahahdaa", sum := "164d1967d966a0f862c7a208ffddd7239209c903463efa81af6a52f9e80af1c4", func := "wayzgoose/wayzgooselaw09.BoldAdverts", spec := "boldAdverts", unfollowed := true, recurses := true, leaving := true, apart := false, narrowed := true }
def BoldAdvertsUptoSaid : Prop := boldAdvertsUptoRow.holds Try.pinned (OpenSpec.upto boldAdvertsSpec)

/-- 'wayzgooselaw09.BoldCheapest', WHERE WHAT IT READS IS OF BULK AT MOST 1048576: true; the input reads as it did. -/
def boldCheapestUptoRow : OpenClaim := { program := "ytdlbbfcfahahdaa", sum := "164d1967d966a0f862c7a208ffddd7239209c903463efa81af6a52f9e80af1c4", func := "wayzgoose/wayzgooselaw09.BoldCheapest", spec := "boldCheapest", unfollowed := true, recurses := true, leaving := true, apart := false, narrowed := true }
def BoldCheapestUptoSaid : Prop := boldCheapestUptoRow.holds Try.pinned (OpenSpec.upto boldCheapestSpec)

end Rows
end Go.Proofs.Ytdlbbfcfahahdaa
