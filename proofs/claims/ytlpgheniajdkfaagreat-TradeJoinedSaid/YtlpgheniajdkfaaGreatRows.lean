/-
  No cell of these rows narrows 'for every input' (looked for: loops, veiled, ifaces, maps, wideKeys, modest, calm, conditions, laid).
  DERIVED. THE GIVEN ROWS OF THIS SEAT. 8 by the template 'for every input the law returns true; each argument reads behind the call as it read before'; 0 by the template 'total and deterministic' (their statements: YtlpgheniajdkfaaGreatTotals.lean).
  GIVEN WITH THE SEED: the statements are not yours to turn. If you find one false, say at which input.
  Laid BY PROGRAM, IN A SANDBOX (cutbox-rows.mjs): the forced cells as the released guide's own fill.sh prints them over the translation fe9481b6c9d35a19… (all of the seat's roots in one cut). By AI agents, Wed Nov 11 2026. No macro, syntax, notation, axiom, sorry.
-/
import Derived.Test.YtlpgheniajdkfaaGreatChecked
import GoSem.Claim
import GoSem.ClaimJoined
import GoSem.ClaimMapViews
import Derived.JoinedTies
import Derived.KernelRfl
namespace Go.Proofs.YtlpgheniajdkfaaGreat
/- THE CELL 'sum', in the pinned program and in every row, IS THE sha256 OF THE DUMP (.gsa) THAT YtlpgheniajdkfaaGreatProg.lean LOADS. Nothing in Lean hashes anything: it is a label: what it is worth is what the hold of that sum in a sandbox is worth. -/
noncomputable def Tryz.pinned : Pinned := { name := "ytlpgheniajdkfaagreat", sum := "fe9481b6c9d35a19272ae979e4aa094afff1d6c36eb1ea1d93b7c61b2b85fcc3", checked := Tryz.checked }
namespace Rows
def none {H : Type} : Left H := { results := [], args := [] }

/-- 'wayzgooselaw04.TradeJoins': WHATEVER THE INPUT: true; the input reads as it did. -/
def tradeJoinsSpec : ChangeSpec := { name := "tradeJoins", fn := fun _ => fun
  | [d1, d2, d3, d4] => { results := [.lit (.bool true)], args := [d1, d2, d3, d4] }
  | _ => none }
def tradeJoinsRow : OpenClaim := { program := "ytlpgheniajdkfaagreat", sum := "fe9481b6c9d35a19272ae979e4aa094afff1d6c36eb1ea1d93b7c61b2b85fcc3", func := "wayzgoose/wayzgooselaw04.TradeJoins", spec := "tradeJoins", inPlace := ["internal/bytealg.abigen_runtime_cmpstring"], unfollowed := true, recurses := true, plainKeys := false, apart := false }
def TradeJoinsSaid : Prop := tradeJoinsRow.holds Tryz.pinned (OpenSpec.ofChange tradeJoinsSpec)

/-- ITS FALSE NEIGHBOUR: 'it returns false'. Refute it at one input. -/
def tradeJoinsWrong : ChangeSpec := { name := "tradeJoins", fn := fun _ => fun
  | [d1, d2, d3, d4] => { results := [.lit (.bool false)], args := [d1, d2, d3, d4] }
  | _ => none }
def TradeJoinsWrongFalsely : Prop := tradeJoinsRow.holds Tryz.pinned (OpenSpec.ofChange tradeJoinsWrong)

/-- 'wayzgooselaw04.TradePaths': WHATEVER THE INPUT: true; the input reads as it did. -/
def tradePathsSpec : ChangeSpec := { name := "tradePaths", fn := fun _ => fun
  | [d1, d2, d3, d4, d5] => { results := [.lit (.bool true)], args := [d1, d2, d3, d4, d5] }
  | _ => none }
def tradePathsRow : OpenClaim := { program := "ytlpgheniajdkfaagreat", sum := "fe9481b6c9d35a19272ae979e4aa094afff1d6c36eb1ea1d93b7c61b2b85fcc3", func := "wayzgoose/wayzgooselaw04.TradePaths", spec := "tradePaths", inPlace := ["internal/bytealg.abigen_runtime_cmpstring"], unfollowed := true, recurses := true, plainKeys := false, apart := false }
def TradePathsSaid : Prop := tradePathsRow.holds Tryz.pinned (OpenSpec.ofChange tradePathsSpec)

/-- ITS FALSE NEIGHBOUR: 'it returns false'. Refute it at one input. -/
def tradePathsWrong : ChangeSpec := { name := "tradePaths", fn := fun _ => fun
  | [d1, d2, d3, d4, d5] => { results := [.lit (.bool false)], args := [d1, d2, d3, d4, d5] }
  | _ => none }
def TradePathsWrongFalsely : Prop := tradePathsRow.holds Tryz.pinned (OpenSpec.ofChange tradePathsWrong)

/-- 'wayzgooselaw04.TradeMeans': WHATEVER THE INPUT: true; the input reads as it did. -/
def tradeMeansSpec : ChangeSpec := { name := "tradeMeans", fn := fun _ => fun
  | [d1, d2, d3, d4, d5] => { results := [.lit (.bool true)], args := [d1, d2, d3, d4, d5] }
  | _ => none }
def tradeMeansRow : OpenClaim := { program := "ytlpgheniajdkfaagreat", sum := "fe9481b6c9d35a19272ae979e4aa094afff1d6c36eb1ea1d93b7c61b2b85fcc3", func := "wayzgoose/wayzgooselaw04.TradeMeans", spec := "tradeMeans", inPlace := ["internal/bytealg.abigen_runtime_cmpstring"], unfollowed := true, recurses := true, plainKeys := false, apart := false }
def TradeMeansSaid : Prop := tradeMeansRow.holds Tryz.pinned (OpenSpec.ofChange tradeMeansSpec)

/-- ITS FALSE NEIGHBOUR: 'it returns false'. Refute it at one input. -/
def tradeMeansWrong : ChangeSpec := { name := "tradeMeans", fn := fun _ => fun
  | [d1, d2, d3, d4, d5] => { results := [.lit (.bool false)], args := [d1, d2, d3, d4, d5] }
  | _ => none }
def TradeMeansWrongFalsely : Prop := tradeMeansRow.holds Tryz.pinned (OpenSpec.ofChange tradeMeansWrong)

/-- 'wayzgooselaw04.TradeDrops': WHATEVER THE INPUT: true; the input reads as it did. -/
def tradeDropsSpec : ChangeSpec := { name := "tradeDrops", fn := fun _ => fun
  | [d1, d2, d3, d4, d5] => { results := [.lit (.bool true)], args := [d1, d2, d3, d4, d5] }
  | _ => none }
def tradeDropsRow : OpenClaim := { program := "ytlpgheniajdkfaagreat", sum := "fe9481b6c9d35a19272ae979e4aa094afff1d6c36eb1ea1d93b7c61b2b85fcc3", func := "wayzgoose/wayzgooselaw04.TradeDrops", spec := "tradeDrops", inPlace := ["internal/bytealg.abigen_runtime_cmpstring"], unfollowed := true, recurses := true, plainKeys := false, apart := false }
def TradeDropsSaid : Prop := tradeDropsRow.holds Tryz.pinned (OpenSpec.ofChange tradeDropsSpec)

/-- ITS FALSE NEIGHBOUR: 'it returns false'. Refute it at one input. -/
def tradeDropsWrong : ChangeSpec := { name := "tradeDrops", fn := fun _ => fun
  | [d1, d2, d3, d4, d5] => { results := [.lit (.bool false)], args := [d1, d2, d3, d4, d5] }
  | _ => none }
def TradeDropsWrongFalsely : Prop := tradeDropsRow.holds Tryz.pinned (OpenSpec.ofChange tradeDropsWrong)

/-- 'wayzgooselaw04.TradeJoined': WHATEVER THE INPUT: true; the input reads as it did. -/
def tradeJoinedSpec : ChangeSpec := { name := "tradeJoined", fn := fun _ => fun
  | [d] => { results := [.lit (.bool true)], args := [d] }
  | _ => none }
def tradeJoinedRow : OpenClaim := { program := "ytlpgheniajdkfaagreat", sum := "fe9481b6c9d35a19272ae979e4aa094afff1d6c36eb1ea1d93b7c61b2b85fcc3", func := "wayzgoose/wayzgooselaw04.TradeJoined", spec := "tradeJoined", inPlace := ["internal/bytealg.abigen_runtime_cmpstring"], unfollowed := true, recurses := true, plainKeys := false, apart := false }
def TradeJoinedSaid : Prop := tradeJoinedRow.holds Tryz.pinned (OpenSpec.ofChange tradeJoinedSpec)

/-- ITS FALSE NEIGHBOUR: 'it returns false'. Refute it at one input. -/
def tradeJoinedWrong : ChangeSpec := { name := "tradeJoined", fn := fun _ => fun
  | [d] => { results := [.lit (.bool false)], args := [d] }
  | _ => none }
def TradeJoinedWrongFalsely : Prop := tradeJoinedRow.holds Tryz.pinned (OpenSpec.ofChange tradeJoinedWrong)

/-- 'wayzgooselaw04.TradeSteps': WHATEVER THE INPUT: true; the input reads as it did. -/
def tradeStepsSpec : ChangeSpec := { name := "tradeSteps", fn := fun _ => fun
  | [d1, d2, d3, d4, d5] => { results := [.lit (.bool true)], args := [d1, d2, d3, d4, d5] }
  | _ => none }
def tradeStepsRow : OpenClaim := { program := "ytlpgheniajdkfaagreat", sum := "fe9481b6c9d35a19272ae979e4aa094afff1d6c36eb1ea1d93b7c61b2b85fcc3", func := "wayzgoose/wayzgooselaw04.TradeSteps", spec := "tradeSteps", inPlace := ["internal/bytealg.abigen_runtime_cmpstring"], unfollowed := true, recurses := true, plainKeys := false, apart := false }
def TradeStepsSaid : Prop := tradeStepsRow.holds Tryz.pinned (OpenSpec.ofChange tradeStepsSpec)

/-- ITS FALSE NEIGHBOUR: 'it returns false'. Refute it at one input. -/
def tradeStepsWrong : ChangeSpec := { name := "tradeSteps", fn := fun _ => fun
  | [d1, d2, d3, d4, d5] => { results := [.lit (.bool false)], args := [d1, d2, d3, d4, d5] }
  | _ => none }
def TradeStepsWrongFalsely : Prop := tradeStepsRow.holds Tryz.pinned (OpenSpec.ofChange tradeStepsWrong)

/-- 'wayzgooselaw04.TradeFollows': WHATEVER THE INPUT: true; the input reads as it did. -/
def tradeFollowsSpec : ChangeSpec := { name := "tradeFollows", fn := fun _ => fun
  | [d1, d2, d3, d4] => { results := [.lit (.bool true)], args := [d1, d2, d3, d4] }
  | _ => none }
def tradeFollowsRow : OpenClaim := { program := "ytlpgheniajdkfaagreat", sum := "fe9481b6c9d35a19272ae979e4aa094afff1d6c36eb1ea1d93b7c61b2b85fcc3", func := "wayzgoose/wayzgooselaw04.TradeFollows", spec := "tradeFollows", inPlace := ["internal/bytealg.abigen_runtime_cmpstring"], unfollowed := true, recurses := true, plainKeys := false, apart := false }
def TradeFollowsSaid : Prop := tradeFollowsRow.holds Tryz.pinned (OpenSpec.ofChange tradeFollowsSpec)

/-- ITS FALSE NEIGHBOUR: 'it returns false'. Refute it at one input. -/
def tradeFollowsWrong : ChangeSpec := { name := "tradeFollows", fn := fun _ => fun
  | [d1, d2, d3, d4] => { results := [.lit (.bool false)], args := [d1, d2, d3, d4] }
  | _ => none }
def TradeFollowsWrongFalsely : Prop := tradeFollowsRow.holds Tryz.pinned (OpenSpec.ofChange tradeFollowsWrong)

/-- 'wayzgooselaw04.TradeCircles': WHATEVER THE INPUT: true; the input reads as it did. -/
def tradeCirclesSpec : ChangeSpec := { name := "tradeCircles", fn := fun _ => fun
  | [d] => { results := [.lit (.bool true)], args := [d] }
  | _ => none }
def tradeCirclesRow : OpenClaim := { program := "ytlpgheniajdkfaagreat", sum := "fe9481b6c9d35a19272ae979e4aa094afff1d6c36eb1ea1d93b7c61b2b85fcc3", func := "wayzgoose/wayzgooselaw04.TradeCircles", spec := "tradeCircles", inPlace := ["internal/bytealg.abigen_runtime_cmpstring"], unfollowed := true, recurses := true, plainKeys := false, apart := false }
def TradeCirclesSaid : Prop := tradeCirclesRow.holds Tryz.pinned (OpenSpec.ofChange tradeCirclesSpec)

/-- ITS FALSE NEIGHBOUR: 'it returns false'. Refute it at one input. -/
def tradeCirclesWrong : ChangeSpec := { name := "tradeCircles", fn := fun _ => fun
  | [d] => { results := [.lit (.bool false)], args := [d] }
  | _ => none }
def TradeCirclesWrongFalsely : Prop := tradeCirclesRow.holds Tryz.pinned (OpenSpec.ofChange tradeCirclesWrong)

/- THE SECOND FORM. 'bulk': how many values and letters a reading holds, each counted each time it is reached (what is shared counts as often as it is met; a slice's spare places count too). A statement '..UptoSaid' is the law's where the arguments, and the package variables that the reading takes, are together of bulk at most 1048576: NARROWER than '..Said'. Prove '..Said' where nothing that the law and all that it calls make is longer than what came in: it says more and counts as full. Else prove '..UptoSaid'. A law counts once. -/
mutual
def uptoBulk {H : Type} : DataW H → Nat
  | .lit (.string bytes) => bytes.length + 1
  | .lit _ => 1
  | .nil => 1
  | .ptr d => uptoBulk d + 1
  | .slice elems spare => uptoBulkAll elems + uptoBulkAll spare + 1
  | .agg parts => uptoBulkAll parts + 1
  | .iface _ d => uptoBulk d + 1
  | .map entries => uptoBulkEntries entries + 1
  | .held _ => 1
def uptoBulkAll {H : Type} : List (DataW H) → Nat
  | [] => 0
  | d :: r => uptoBulk d + uptoBulkAll r
def uptoBulkEntries {H : Type} : List (Lit × DataW H) → Nat
  | [] => 0
  | x :: r => uptoBulkEntry x + uptoBulkEntries r
def uptoBulkEntry {H : Type} : Lit × DataW H → Nat
  | (.string bytes, d) => bytes.length + uptoBulk d + 1
  | (_, d) => uptoBulk d + 1
 end
def uptoSmall : (H : Type) → List (DataW H) → Bool := fun _ ds => decide (uptoBulkAll ds ≤ 1048576)
def OpenSpec.upto (s : _root_.Go.ChangeSpec) : _root_.Go.OpenSpec := { _root_.Go.OpenSpec.ofChange s with cond := some uptoSmall }

/-- 'wayzgooselaw04.TradeJoins', WHERE WHAT IT READS IS OF BULK AT MOST 1048576: true; the input reads as it did. -/
def tradeJoinsUptoRow : OpenClaim := { program := "ytlpgheniajdkfaagreat", sum := "fe9481b6c9d35a19272ae979e4aa094afff1d6c36eb1ea1d93b7c61b2b85fcc3", func := "wayzgoose/wayzgooselaw04.TradeJoins", spec := "tradeJoins", inPlace := ["internal/bytealg.abigen_runtime_cmpstring"], unfollowed := true, recurses := true, plainKeys := false, apart := false, narrowed := true }
def TradeJoinsUptoSaid : Prop := tradeJoinsUptoRow.holds Tryz.pinned (OpenSpec.upto tradeJoinsSpec)

/-- 'wayzgooselaw04.TradePaths', WHERE WHAT IT READS IS OF BULK AT MOST 1048576: true; the input reads as it did. -/
def tradePathsUptoRow : OpenClaim := { program := "ytlpgheniajdkfaagreat", sum := "fe9481b6c9d35a19272ae979e4aa094afff1d6c36eb1ea1d93b7c61b2b85fcc3", func := "wayzgoose/wayzgooselaw04.TradePaths", spec := "tradePaths", inPlace := ["internal/bytealg.abigen_runtime_cmpstring"], unfollowed := true, recurses := true, plainKeys := false, apart := false, narrowed := true }
def TradePathsUptoSaid : Prop := tradePathsUptoRow.holds Tryz.pinned (OpenSpec.upto tradePathsSpec)

/-- 'wayzgooselaw04.TradeMeans', WHERE WHAT IT READS IS OF BULK AT MOST 1048576: true; the input reads as it did. -/
def tradeMeansUptoRow : OpenClaim := { program := "ytlpgheniajdkfaagreat", sum := "fe9481b6c9d35a19272ae979e4aa094afff1d6c36eb1ea1d93b7c61b2b85fcc3", func := "wayzgoose/wayzgooselaw04.TradeMeans", spec := "tradeMeans", inPlace := ["internal/bytealg.abigen_runtime_cmpstring"], unfollowed := true, recurses := true, plainKeys := false, apart := false, narrowed := true }
def TradeMeansUptoSaid : Prop := tradeMeansUptoRow.holds Tryz.pinned (OpenSpec.upto tradeMeansSpec)

/-- 'wayzgooselaw04.TradeDrops', WHERE WHAT IT READS IS OF BULK AT MOST 1048576: true; the input reads as it did. -/
def tradeDropsUptoRow : OpenClaim := { program := "ytlpgheniajdkfaagreat", sum := "fe9481b6c9d35a19272ae979e4aa094afff1d6c36eb1ea1d93b7c61b2b85fcc3", func := "wayzgoose/wayzgooselaw04.TradeDrops", spec := "tradeDrops", inPlace := ["internal/bytealg.abigen_runtime_cmpstring"], unfollowed := true, recurses := true, plainKeys := false, apart := false, narrowed := true }
def TradeDropsUptoSaid : Prop := tradeDropsUptoRow.holds Tryz.pinned (OpenSpec.upto tradeDropsSpec)

/-- 'wayzgooselaw04.TradeJoined', WHERE WHAT IT READS IS OF BULK AT MOST 1048576: true; the input reads as it did. -/
def tradeJoinedUptoRow : OpenClaim := { program := "ytlpgheniajdkfaagreat", sum := "fe9481b6c9d35a19272ae979e4aa094afff1d6c36eb1ea1d93b7c61b2b85fcc3", func := "wayzgoose/wayzgooselaw04.TradeJoined", spec := "tradeJoined", inPlace := ["internal/bytealg.abigen_runtime_cmpstring"], unfollowed := true, recurses := true, plainKeys := false, apart := false, narrowed := true }
def TradeJoinedUptoSaid : Prop := tradeJoinedUptoRow.holds Tryz.pinned (OpenSpec.upto tradeJoinedSpec)

/-- 'wayzgooselaw04.TradeSteps', WHERE WHAT IT READS IS OF BULK AT MOST 1048576: true; the input reads as it did. -/
def tradeStepsUptoRow : OpenClaim := { program := "ytlpgheniajdkfaagreat", sum := "fe9481b6c9d35a19272ae979e4aa094afff1d6c36eb1ea1d93b7c61b2b85fcc3", func := "wayzgoose/wayzgooselaw04.TradeSteps", spec := "tradeSteps", inPlace := ["internal/bytealg.abigen_runtime_cmpstring"], unfollowed := true, recurses := true, plainKeys := false, apart := false, narrowed := true }
def TradeStepsUptoSaid : Prop := tradeStepsUptoRow.holds Tryz.pinned (OpenSpec.upto tradeStepsSpec)

/-- 'wayzgooselaw04.TradeFollows', WHERE WHAT IT READS IS OF BULK AT MOST 1048576: true; the input reads as it did. -/
def tradeFollowsUptoRow : OpenClaim := { program := "ytlpgheniajdkfaagreat", sum := "fe9481b6c9d35a19272ae979e4aa094afff1d6c36eb1ea1d93b7c61b2b85fcc3", func := "wayzgoose/wayzgooselaw04.TradeFollows", spec := "tradeFollows", inPlace := ["internal/bytealg.abigen_runtime_cmpstring"], unfollowed := true, recurses := true, plainKeys := false, apart := false, narrowed := true }
def TradeFollowsUptoSaid : Prop := tradeFollowsUptoRow.holds Tryz.pinned (OpenSpec.upto tradeFollowsSpec)

/-- 'wayzgooselaw04.TradeCircles', WHERE WHAT IT READS IS OF BULK AT MOST 1048576: true; the input reads as it did. -/
def tradeCirclesUptoRow : OpenClaim := { program := "ytlpgheniajdkfaagreat", sum := "fe9481b6c9d35a19272ae979e4aa094afff1d6c36eb1ea1d93b7c61b2b85fcc3", func := "wayzgoose/wayzgooselaw04.TradeCircles", spec := "tradeCircles", inPlace := ["internal/bytealg.abigen_runtime_cmpstring"], unfollowed := true, recurses := true, plainKeys := false, apart := false, narrowed := true }
def TradeCirclesUptoSaid : Prop := tradeCirclesUptoRow.holds Tryz.pinned (OpenSpec.upto tradeCirclesSpec)

end Rows
end Go.Proofs.YtlpgheniajdkfaaGreat
