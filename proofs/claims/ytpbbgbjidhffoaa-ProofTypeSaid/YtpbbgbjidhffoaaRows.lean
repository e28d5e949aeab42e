/-
  No cell of these rows narrows 'for every input' (looked for: loops, veiled, ifaces, maps, wideKeys, modest, calm, conditions, laid).
  DERIVED. THE GIVEN ROWS OF THIS SEAT. 12 by the template 'for every input the law returns true; each argument reads behind the call as it read before'; 0 by the template 'total and deterministic' (their statements: YtpbbgbjidhffoaaTotals.lean).
  GIVEN WITH THE SEED: the statements are not yours to turn. If you find one false, say at which input.
  Laid BY PROGRAM, IN A SANDBOX (cutbox-rows.mjs): the forced cells as the released guide's own fill.sh prints them over the translation e10762df84f87ae0… (all of the seat's roots in one cut). By AI agents, Wed Nov 11 2026. No macro, syntax, notation, axiom, sorry.
-/
import Derived.Test.YtpbbgbjidhffoaaChecked
import GoSem.Claim
import GoSem.ClaimJoined
import GoSem.ClaimMapViews
import Derived.JoinedTies
import Derived.KernelRfl
namespace Go.Proofs.Ytpbbgbjidhffoaa
/- THE CELL 'sum', in the pinned program and in every row, IS THE sha256 OF THE DUMP (.gsa) THAT YtpbbgbjidhffoaaProg.lean LOADS. Nothing in Lean hashes anything: it is a label: what it is worth is what the hold of that sum in a sandbox is worth. -/
noncomputable def Try.pinned : Pinned := { name := "ytpbbgbjidhffoaa", sum := "e10762df84f87ae0dfab825f348c2d1125343e69a1e3dc2328431939c18ddfaa", checked := Try.checked }
namespace Rows
def none {H : Type} : Left H := { results := [], args := [] }

/-- 'wayzgooselaw07.ProofDiffs': WHATEVER THE INPUT: true; the input reads as it did. -/
def proofDiffsSpec : ChangeSpec := { name := "proofDiffs", fn := fun _ => fun
  | [d1, d2, d3] => { results := [.lit (.bool true)], args := [d1, d2, d3] }
  | _ => none }
def proofDiffsRow : OpenClaim := { program := "ytpbbgbjidhffoaa", sum := "e10762df84f87ae0dfab825f348c2d1125343e69a1e3dc2328431939c18ddfaa", func := "wayzgoose/wayzgooselaw07.ProofDiffs", spec := "proofDiffs", unfollowed := true, recurses := true, plainKeys := false, apart := false }
def ProofDiffsSaid : Prop := proofDiffsRow.holds Try.pinned (OpenSpec.ofChange proofDiffsSpec)

/-- ITS FALSE NEIGHBOUR: 'it returns false'. Refute it at one input. -/
def proofDiffsWrong : ChangeSpec := { name := "proofDiffs", fn := fun _ => fun
  | [d1, d2, d3] => { results := [.lit (.bool false)], args := [d1, d2, d3] }
  | _ => none }
def ProofDiffsWrongFalsely : Prop := proofDiffsRow.holds Try.pinned (OpenSpec.ofChange proofDiffsWrong)

/-- 'wayzgooselaw07.ProofSteps': WHATEVER THE INPUT: true; the input reads as it did. -/
def proofStepsSpec : ChangeSpec := { name := "proofSteps", fn := fun _ => fun
  | [d1, d2, d3, d4] => { results := [.lit (.bool true)], args := [d1, d2, d3, d4] }
  | _ => none }
def proofStepsRow : OpenClaim := { program := "ytpbbgbjidhffoaa", sum := "e10762df84f87ae0dfab825f348c2d1125343e69a1e3dc2328431939c18ddfaa", func := "wayzgoose/wayzgooselaw07.ProofSteps", spec := "proofSteps", unfollowed := true, recurses := true, plainKeys := false, apart := false }
def ProofStepsSaid : Prop := proofStepsRow.holds Try.pinned (OpenSpec.ofChange proofStepsSpec)

/-- ITS FALSE NEIGHBOUR: 'it returns false'. Refute it at one input. -/
def proofStepsWrong : ChangeSpec := { name := "proofSteps", fn := fun _ => fun
  | [d1, d2, d3, d4] => { results := [.lit (.bool false)], args := [d1, d2, d3, d4] }
  | _ => none }
def ProofStepsWrongFalsely : Prop := proofStepsRow.holds Try.pinned (OpenSpec.ofChange proofStepsWrong)

/-- 'wayzgooselaw07.ProofLooks': WHATEVER THE INPUT: true; the input reads as it did. -/
def proofLooksSpec : ChangeSpec := { name := "proofLooks", fn := fun _ => fun
  | [d1, d2, d3, d4] => { results := [.lit (.bool true)], args := [d1, d2, d3, d4] }
  | _ => none }
def proofLooksRow : OpenClaim := { program := "ytpbbgbjidhffoaa", sum := "e10762df84f87ae0dfab825f348c2d1125343e69a1e3dc2328431939c18ddfaa", func := "wayzgoose/wayzgooselaw07.ProofLooks", spec := "proofLooks", unfollowed := true, recurses := true, plainKeys := false, apart := false }
def ProofLooksSaid : Prop := proofLooksRow.holds Try.pinned (OpenSpec.ofChange proofLooksSpec)

/-- ITS FALSE NEIGHBOUR: 'it returns false'. Refute it at one input. -/
def proofLooksWrong : ChangeSpec := { name := "proofLooks", fn := fun _ => fun
  | [d1, d2, d3, d4] => { results := [.lit (.bool false)], args := [d1, d2, d3, d4] }
  | _ => none }
def ProofLooksWrongFalsely : Prop := proofLooksRow.holds Try.pinned (OpenSpec.ofChange proofLooksWrong)

/-- 'wayzgooselaw07.ProofMade': WHATEVER THE INPUT: true; the input reads as it did. -/
def proofMadeSpec : ChangeSpec := { name := "proofMade", fn := fun _ => fun
  | [d] => { results := [.lit (.bool true)], args := [d] }
  | _ => none }
def proofMadeRow : OpenClaim := { program := "ytpbbgbjidhffoaa", sum := "e10762df84f87ae0dfab825f348c2d1125343e69a1e3dc2328431939c18ddfaa", func := "wayzgoose/wayzgooselaw07.ProofMade", spec := "proofMade", unfollowed := true, recurses := true, plainKeys := false, apart := false }
def ProofMadeSaid : Prop := proofMadeRow.holds Try.pinned (OpenSpec.ofChange proofMadeSpec)

/-- ITS FALSE NEIGHBOUR: 'it returns false'. Refute it at one input. -/
def proofMadeWrong : ChangeSpec := { name := "proofMade", fn := fun _ => fun
  | [d] => { results := [.lit (.bool false)], args := [d] }
  | _ => none }
def ProofMadeWrongFalsely : Prop := proofMadeRow.holds Try.pinned (OpenSpec.ofChange proofMadeWrong)

/-- 'wayzgooselaw07.ProofOrders': WHATEVER THE INPUT: true; the input reads as it did. -/
def proofOrdersSpec : ChangeSpec := { name := "proofOrders", fn := fun _ => fun
  | [d] => { results := [.lit (.bool true)], args := [d] }
  | _ => none }
def proofOrdersRow : OpenClaim := { program := "ytpbbgbjidhffoaa", sum := "e10762df84f87ae0dfab825f348c2d1125343e69a1e3dc2328431939c18ddfaa", func := "wayzgoose/wayzgooselaw07.ProofOrders", spec := "proofOrders", unfollowed := true, recurses := true, plainKeys := false, apart := false }
def ProofOrdersSaid : Prop := proofOrdersRow.holds Try.pinned (OpenSpec.ofChange proofOrdersSpec)

/-- ITS FALSE NEIGHBOUR: 'it returns false'. Refute it at one input. -/
def proofOrdersWrong : ChangeSpec := { name := "proofOrders", fn := fun _ => fun
  | [d] => { results := [.lit (.bool false)], args := [d] }
  | _ => none }
def ProofOrdersWrongFalsely : Prop := proofOrdersRow.holds Try.pinned (OpenSpec.ofChange proofOrdersWrong)

/-- 'wayzgooselaw07.ProofFlaws': WHATEVER THE INPUT: true; the input reads as it did. -/
def proofFlawsSpec : ChangeSpec := { name := "proofFlaws", fn := fun _ => fun
  | [d] => { results := [.lit (.bool true)], args := [d] }
  | _ => none }
def proofFlawsRow : OpenClaim := { program := "ytpbbgbjidhffoaa", sum := "e10762df84f87ae0dfab825f348c2d1125343e69a1e3dc2328431939c18ddfaa", func := "wayzgoose/wayzgooselaw07.ProofFlaws", spec := "proofFlaws", unfollowed := true, recurses := true, plainKeys := false, apart := false }
def ProofFlawsSaid : Prop := proofFlawsRow.holds Try.pinned (OpenSpec.ofChange proofFlawsSpec)

/-- ITS FALSE NEIGHBOUR: 'it returns false'. Refute it at one input. -/
def proofFlawsWrong : ChangeSpec := { name := "proofFlaws", fn := fun _ => fun
  | [d] => { results := [.lit (.bool false)], args := [d] }
  | _ => none }
def ProofFlawsWrongFalsely : Prop := proofFlawsRow.holds Try.pinned (OpenSpec.ofChange proofFlawsWrong)

/-- 'wayzgooselaw07.ProofMarks': WHATEVER THE INPUT: true; the input reads as it did. -/
def proofMarksSpec : ChangeSpec := { name := "proofMarks", fn := fun _ => fun
  | [d1, d2, d3] => { results := [.lit (.bool true)], args := [d1, d2, d3] }
  | _ => none }
def proofMarksRow : OpenClaim := { program := "ytpbbgbjidhffoaa", sum := "e10762df84f87ae0dfab825f348c2d1125343e69a1e3dc2328431939c18ddfaa", func := "wayzgoose/wayzgooselaw07.ProofMarks", spec := "proofMarks", unfollowed := true, recurses := true, plainKeys := false, apart := false }
def ProofMarksSaid : Prop := proofMarksRow.holds Try.pinned (OpenSpec.ofChange proofMarksSpec)

/-- ITS FALSE NEIGHBOUR: 'it returns false'. Refute it at one input. -/
def proofMarksWrong : ChangeSpec := { name := "proofMarks", fn := fun _ => fun
  | [d1, d2, d3] => { results := [.lit (.bool false)], args := [d1, d2, d3] }
  | _ => none }
def ProofMarksWrongFalsely : Prop := proofMarksRow.holds Try.pinned (OpenSpec.ofChange proofMarksWrong)

/-- 'wayzgooselaw07.ProofFewest': WHATEVER THE INPUT: true; the input reads as it did. -/
def proofFewestSpec : ChangeSpec := { name := "proofFewest", fn := fun _ => fun
  | [d] => { results := [.lit (.bool true)], args := [d] }
  | _ => none }
def proofFewestRow : OpenClaim := { program := "ytpbbgbjidhffoaa", sum := "e10762df84f87ae0dfab825f348c2d1125343e69a1e3dc2328431939c18ddfaa", func := "wayzgoose/wayzgooselaw07.ProofFewest", spec := "proofFewest", unfollowed := true, recurses := true, plainKeys := false, apart := false }
def ProofFewestSaid : Prop := proofFewestRow.holds Try.pinned (OpenSpec.ofChange proofFewestSpec)

/-- ITS FALSE NEIGHBOUR: 'it returns false'. Refute it at one input. -/
def proofFewestWrong : ChangeSpec := { name := "proofFewest", fn := fun _ => fun
  | [d] => { results := [.lit (.bool false)], args := [d] }
  | _ => none }
def ProofFewestWrongFalsely : Prop := proofFewestRow.holds Try.pinned (OpenSpec.ofChange proofFewestWrong)

/-- 'wayzgooselaw07.ProofWay': WHATEVER THE INPUT: true; the input reads as it did. -/
def proofWaySpec : ChangeSpec := { name := "proofWay", fn := fun _ => fun
  | [d] => { results := [.lit (.bool true)], args := [d] }
  | _ => none }
def proofWayRow : OpenClaim := { program := "ytpbbgbjidhffoaa", sum := "e10762df84f87ae0dfab825f348c2d1125343e69a1e3dc2328431939c18ddfaa", func := "wayzgoose/wayzgooselaw07.ProofWay", spec := "proofWay", unfollowed := true, recurses := true, plainKeys := false, apart := false }
def ProofWaySaid : Prop := proofWayRow.holds Try.pinned (OpenSpec.ofChange proofWaySpec)

/-- ITS FALSE NEIGHBOUR: 'it returns false'. Refute it at one input. -/
def proofWayWrong : ChangeSpec := { name := "proofWay", fn := fun _ => fun
  | [d] => { results := [.lit (.bool false)], args := [d] }
  | _ => none }
def ProofWayWrongFalsely : Prop := proofWayRow.holds Try.pinned (OpenSpec.ofChange proofWayWrong)

/-- 'wayzgooselaw07.ProofLines': WHATEVER THE INPUT: true; the input reads as it did. -/
def proofLinesSpec : ChangeSpec := { name := "proofLines", fn := fun _ => fun
  | [d] => { results := [.lit (.bool true)], args := [d] }
  | _ => none }
def proofLinesRow : OpenClaim := { program := "ytpbbgbjidhffoaa", sum := "e10762df84f87ae0dfab825f348c2d1125343e69a1e3dc2328431939c18ddfaa", func := "wayzgoose/wayzgooselaw07.ProofLines", spec := "proofLines", unfollowed := true, recurses := true, plainKeys := false, apart := false }
def ProofLinesSaid : Prop := proofLinesRow.holds Try.pinned (OpenSpec.ofChange proofLinesSpec)

/-- ITS FALSE NEIGHBOUR: 'it returns false'. Refute it at one input. -/
def proofLinesWrong : ChangeSpec := { name := "proofLines", fn := fun _ => fun
  | [d] => { results := [.lit (.bool false)], args := [d] }
  | _ => none }
def ProofLinesWrongFalsely : Prop := proofLinesRow.holds Try.pinned (OpenSpec.ofChange proofLinesWrong)

/-- 'wayzgooselaw07.ProofOrigins': WHATEVER THE INPUT: true; the input reads as it did. -/
def proofOriginsSpec : ChangeSpec := { name := "proofOrigins", fn := fun _ => fun
  | [d] => { results := [.lit (.bool true)], args := [d] }
  | _ => none }
def proofOriginsRow : OpenClaim := { program := "ytpbbgbjidhffoaa", sum := "e10762df84f87ae0dfab825f348c2d1125343e69a1e3dc2328431939c18ddfaa", func := "wayzgoose/wayzgooselaw07.ProofOrigins", spec := "proofOrigins", unfollowed := true, recurses := true, plainKeys := false, apart := false }
def ProofOriginsSaid : Prop := proofOriginsRow.holds Try.pinned (OpenSpec.ofChange proofOriginsSpec)

/-- ITS FALSE NEIGHBOUR: 'it returns false'. Refute it at one input. -/
def proofOriginsWrong : ChangeSpec := { name := "proofOrigins", fn := fun _ => fun
  | [d] => { results := [.lit (.bool false)], args := [d] }
  | _ => none }
def ProofOriginsWrongFalsely : Prop := proofOriginsRow.holds Try.pinned (OpenSpec.ofChange proofOriginsWrong)

/-- 'wayzgooselaw07.ProofType': WHATEVER THE INPUT: true; the input reads as it did. -/
def proofTypeSpec : ChangeSpec := { name := "proofType", fn := fun _ => fun
  | [d] => { results := [.lit (.bool true)], args := [d] }
  | _ => none }
def proofTypeRow : OpenClaim := { program := "ytpbbgbjidhffoaa", sum := "e10762df84f87ae0dfab825f348c2d1125343e69a1e3dc2328431939c18ddfaa", func := "wayzgoose/wayzgooselaw07.ProofType", spec := "proofType", unfollowed := true, recurses := true, plainKeys := false, apart := false }
def ProofTypeSaid : Prop := proofTypeRow.holds Try.pinned (OpenSpec.ofChange proofTypeSpec)

/-- ITS FALSE NEIGHBOUR: 'it returns false'. Refute it at one input. -/
def proofTypeWrong : ChangeSpec := { name := "proofType", fn := fun _ => fun
  | [d] => { results := [.lit (.bool false)], args := [d] }
  | _ => none }
def ProofTypeWrongFalsely : Prop := proofTypeRow.holds Try.pinned (OpenSpec.ofChange proofTypeWrong)

/- THE SECOND FORM. 'bulk': how many values and letters a reading holds, each counted each time it is reached (what is shared counts as often as it is met; a slice's spare places count too). A statement '..UptoSaid' is the law's where the arguments, and the package variables that the reading takes, are together of bulk at most 1048576: NARROWER than '..Said'. Prove '..Said' where nothing that the law and all that it calls make is longer than what came in: it says more and counts as full. Else prove '..UptoSaid'. A law counts once. -/
mutual
def uptoBulk {H : Type} : DataW H → Nat
  | .lit (.string bytes) => bytes.length + 1
  | .lit _ => 1
  | .nil => 1
  | .ptr d => uptoBulk d + 1
  | .slice elems spare => uptoBulkAll elems + uptoBulkAll spare + 1
  | .agg parts => uptoBulkAll parts + 1
  | .iface _ d => uptoBulk d + 1
  | .map entries => uptoBulkEntries entries + 1
  | .held _ => 1
def uptoBulkAll {H : Type} : List (DataW H) → Nat
  | [] => 0
  | d :: r => uptoBulk d + uptoBulkAll r
def uptoBulkEntries {H : Type} : List (Lit × DataW H) → Nat
  | [] => 0
  | x :: r => uptoBulkEntry x + uptoBulkEntries r
def uptoBulkEntry {H : Type} : Lit × DataW H → Nat
  | (.string bytes, d) => bytes.length + uptoBulk d + 1
  | (_, d) => uptoBulk d + 1
 end
def uptoSmall : (H : Type) → List (DataW H) → Bool := fun _ ds => decide (uptoBulkAll ds ≤ 1048576)
def OpenSpec.upto (s : _root_.Go.ChangeSpec) : _root_.Go.OpenSpec := { _root_.Go.OpenSpec.ofChange s with cond := some uptoSmall }

/-- 'wayzgooselaw07.ProofDiffs', WHERE WHAT IT READS IS OF BULK AT MOST 1048576: true; the input reads as it did. -/
def proofDiffsUptoRow : OpenClaim := { program := "ytpbbgbjidhffoaa", sum := "e10762df84f87ae0dfab825f348c2d1125343e69a1e3dc2328431939c18ddfaa", func := "wayzgoose/wayzgooselaw07.ProofDiffs", spec := "proofDiffs", unfollowed := true, recurses := true, plainKeys := false, apart := false, narrowed := true }
def ProofDiffsUptoSaid : Prop := proofDiffsUptoRow.holds Try.pinned (OpenSpec.upto proofDiffsSpec)

/-- 'wayzgooselaw07.ProofSteps', WHERE WHAT IT READS IS OF BULK AT MOST 1048576: true; the input reads as it did. -/
def proofStepsUptoRow : OpenClaim := { program := "ytpbbgbjidhffoaa", sum := "e10762df84f87ae0dfab825f348c2d1125343e69a1e3dc2328431939c18ddfaa", func := "wayzgoose/wayzgooselaw07.ProofSteps", spec := "proofSteps", unfollowed := true, recurses := true, plainKeys := false, apart := false, narrowed := true }
def ProofStepsUptoSaid : Prop := proofStepsUptoRow.holds Try.pinned (OpenSpec.upto proofStepsSpec)

/-- 'wayzgooselaw07.ProofLooks', WHERE WHAT IT READS IS OF BULK AT MOST 1048576: true; the input reads as it did. -/
def proofLooksUptoRow : OpenClaim := { program := "ytpbbgbjidhffoaa", sum := "e10762df84f87ae0dfab825f348c2d1125343e69a1e3dc2328431939c18ddfaa", func := "wayzgoose/wayzgooselaw07.ProofLooks", spec := "proofLooks", unfollowed := true, recurses := true, plainKeys := false, apart := false, narrowed := true }
def ProofLooksUptoSaid : Prop := proofLooksUptoRow.holds Try.pinned (OpenSpec.upto proofLooksSpec)

/-- 'wayzgooselaw07.ProofMade', WHERE WHAT IT READS IS OF BULK AT MOST 1048576: true; the input reads as it did. -/
def proofMadeUptoRow : OpenClaim := { program := "ytpbbgbjidhffoaa", sum := "e10762df84f87ae0dfab825f348c2d1125343e69a1e3dc2328431939c18ddfaa", func := "wayzgoose/wayzgooselaw07.ProofMade", spec := "proofMade", unfollowed := true, recurses := true, plainKeys := false, apart := false, narrowed := true }
def ProofMadeUptoSaid : Prop := proofMadeUptoRow.holds Try.pinned (OpenSpec.upto proofMadeSpec)

/-- 'wayzgooselaw07.ProofOrders', WHERE WHAT IT READS IS OF BULK AT MOST 1048576: true; the input reads as it did. -/
def proofOrdersUptoRow : OpenClaim := { program := "ytpbbgbjidhffoaa", sum := "e10762df84f87ae0dfab825f348c2d1125343e69a1e3dc2328431939c18ddfaa", func := "wayzgoose/wayzgooselaw07.ProofOrders", spec := "proofOrders", unfollowed := true, recurses := true, plainKeys := false, apart := false, narrowed := true }
def ProofOrdersUptoSaid : Prop := proofOrdersUptoRow.holds Try.pinned (OpenSpec.upto proofOrdersSpec)

/-- 'wayzgooselaw07.ProofFlaws', WHERE WHAT IT READS IS OF BULK AT MOST 1048576: true; the input reads as it did. -/
def proofFlawsUptoRow : OpenClaim := { program := "ytpbbgbjidhffoaa", sum := "e10762df84f87ae0dfab825f348c2d1125343e69a1e3dc2328431939c18ddfaa", func := "wayzgoose/wayzgooselaw07.ProofFlaws", spec := "proofFlaws", unfollowed := true, recurses := true, plainKeys := false, apart := false, narrowed := true }
def ProofFlawsUptoSaid : Prop := proofFlawsUptoRow.holds Try.pinned (OpenSpec.upto proofFlawsSpec)

/-- 'wayzgooselaw07.ProofMarks', WHERE WHAT IT READS IS OF BULK AT MOST 1048576: true; the input reads as it did. -/
def proofMarksUptoRow : OpenClaim := { program := "ytpbbgbjidhffoaa", sum := "e10762df84f87ae0dfab825f348c2d1125343e69a1e3dc2328431939c18ddfaa", func := "wayzgoose/wayzgooselaw07.ProofMarks", spec := "proofMarks", unfollowed := true, recurses := true, plainKeys := false, apart := false, narrowed := true }
def ProofMarksUptoSaid : Prop := proofMarksUptoRow.holds Try.pinned (OpenSpec.upto proofMarksSpec)

/-- 'wayzgooselaw07.ProofFewest', WHERE WHAT IT READS IS OF BULK AT MOST 1048576: true; the input reads as it did. -/
def proofFewestUptoRow : OpenClaim := { program := "ytpbbgbjidhffoaa", sum := "e10762df84f87ae0dfab825f348c2d1125343e69a1e3dc2328431939c18ddfaa", func := "wayzgoose/wayzgooselaw07.ProofFewest", spec := "proofFewest", unfollowed := true, recurses := true, plainKeys := false, apart := false, narrowed := true }
def ProofFewestUptoSaid : Prop := proofFewestUptoRow.holds Try.pinned (OpenSpec.upto proofFewestSpec)

/-- 'wayzgooselaw07.ProofWay', WHERE WHAT IT READS IS OF BULK AT MOST 1048576: true; the input reads as it did. -/
def proofWayUptoRow : OpenClaim := { program := "ytpbbgbjidhffoaa", sum := "e10762df84f87ae0dfab825f348c2d1125343e69a1e3dc2328431939c18ddfaa", func := "wayzgoose/wayzgooselaw07.ProofWay", spec := "proofWay", unfollowed := true, recurses := true, plainKeys := false, apart := false, narrowed := true }
def ProofWayUptoSaid : Prop := proofWayUptoRow.holds Try.pinned (OpenSpec.upto proofWaySpec)

/-- 'wayzgooselaw07.ProofLines', WHERE WHAT IT READS IS OF BULK AT MOST 1048576: true; the input reads as it did. -/
def proofLinesUptoRow : OpenClaim := { program := "ytpbbgbjidhffoaa", sum := "e10762df84f87ae0dfab825f348c2d1125343e69a1e3dc2328431939c18ddfaa", func := "wayzgoose/wayzgooselaw07.ProofLines", spec := "proofLines", unfollowed := true, recurses := true, plainKeys := false, apart := false, narrowed := true }
def ProofLinesUptoSaid : Prop := proofLinesUptoRow.holds Try.pinned (OpenSpec.upto proofLinesSpec)

/-- 'wayzgooselaw07.ProofOrigins', WHERE WHAT IT READS IS OF BULK AT MOST 1048576: true; the input reads as it did. -/
def proofOriginsUptoRow : OpenClaim := { program := "ytpbbgbjidhffoaa", sum := "e10762df84f87ae0dfab825f348c2d1125343e69a1e3dc2328431939c18ddfaa", func := "wayzgoose/wayzgooselaw07.ProofOrigins", spec := "proofOrigins", unfollowed := true, recurses := true, plainKeys := false, apart := false, narrowed := true }
def ProofOriginsUptoSaid : Prop := proofOriginsUptoRow.holds Try.pinned (OpenSpec.upto proofOriginsSpec)

/-- 'wayzgooselaw07.ProofType', WHERE WHAT IT READS IS OF BULK AT MOST 1048576: true; the input reads as it did. -/
def proofTypeUptoRow : OpenClaim := { program := "ytpbbgbjidhffoaa", sum := "e10762df84f87ae0dfab825f348c2d1125343e69a1e3dc2328431939c18ddfaa", func := "wayzgoose/wayzgooselaw07.ProofType", spec := "proofType", unfollowed := true, recurses := true, plainKeys := false, apart := false, narrowed := true }
def ProofTypeUptoSaid : Prop := proofTypeUptoRow.holds Try.pinned (OpenSpec.upto proofTypeSpec)

end Rows
end Go.Proofs.Ytpbbgbjidhffoaa
