/-
  No cell of these rows narrows 'for every input' (looked for: loops, veiled, ifaces, maps, wideKeys, modest, calm, conditions, laid).
  DERIVED. THE GIVEN ROWS OF THIS SEAT. 10 by the template 'for every input the law returns true; each argument reads behind the call as it read before'; 0 by the template 'total and deterministic' (their statements: YtlpgheniajdkfaaTotals.lean).
  GIVEN WITH THE SEED: the statements are not yours to turn. If you find one false, say at which input.
  Laid BY PROGRAM, IN A SANDBOX (cutbox-rows.mjs): the forced cells as the released guide's own fill.sh prints them over the translation 0abc4dc2f27d99b8… (all of the seat's roots in one cut). By AI agents, Wed Nov 11 2026. No macro, syntax, notation, axiom, sorry.
-/
import Derived.Test.YtlpgheniajdkfaaChecked
import GoSem.Claim
import GoSem.ClaimJoined
import GoSem.ClaimMapViews
import Derived.JoinedTies
import Derived.KernelRfl
namespace Go.Proofs.Ytlpgheniajdkfaa
/- THE CELL 'sum', in the pinned program and in every row, IS THE sha256 OF THE DUMP (.gsa) THAT YtlpgheniajdkfaaProg.lean LOADS. Nothing in Lean hashes anything: it is a label: what it is worth is what the hold of that sum in a sandbox is worth. -/
noncomputable def Try.pinned : Pinned := { name := "ytlpgheniajdkfaa", sum := "0abc4dc2f27d99b8a4ec27d6fdb0468774432d4e5e6567cd9bc36d5cc48988c2", checked := Try.checked }
namespace Rows
def none {H : Type} : Left H := { results := [], args := [] }

/-- 'wayzgooselaw04.TradeLeast': WHATEVER THE INPUT: true; the input reads as it did. -/
def tradeLeastSpec : ChangeSpec := { name := "tradeLeast", fn := fun _ => fun
  | [d] => { results := [.lit (.bool true)], args := [d] }
  | _ => none }
def tradeLeastRow : OpenClaim := { program := "ytlpgheniajdkfaa", sum := "0abc4dc2f27d99b8a4ec27d6fdb0468774432d4e5e6567cd9bc36d5cc48988c2", func := "wayzgoose/wayzgooselaw04.TradeLeast", spec := "tradeLeast", inPlace := ["internal/bytealg.abigen_runtime_cmpstring"], unfollowed := true, recurses := true, plainKeys := false, apart := false }
def TradeLeastSaid : Prop := tradeLeastRow.holds Try.pinned (OpenSpec.ofChange tradeLeastSpec)

/-- ITS FALSE NEIGHBOUR: 'it returns false'. Refute it at one input. -/
def tradeLeastWrong : ChangeSpec := { name := "tradeLeast", fn := fun _ => fun
  | [d] => { results := [.lit (.bool false)], args := [d] }
  | _ => none }
def TradeLeastWrongFalsely : Prop := tradeLeastRow.holds Try.pinned (OpenSpec.ofChange tradeLeastWrong)

/-- 'wayzgooselaw04.TradeFollowed': WHATEVER THE INPUT: true; the input reads as it did. -/
def tradeFollowedSpec : ChangeSpec := { name := "tradeFollowed", fn := fun _ => fun
  | [d] => { results := [.lit (.bool true)], args := [d] }
  | _ => none }
def tradeFollowedRow : OpenClaim := { program := "ytlpgheniajdkfaa", sum := "0abc4dc2f27d99b8a4ec27d6fdb0468774432d4e5e6567cd9bc36d5cc48988c2", func := "wayzgoose/wayzgooselaw04.TradeFollowed", spec := "tradeFollowed", inPlace := ["internal/bytealg.abigen_runtime_cmpstring"], unfollowed := true, recurses := true, plainKeys := false, apart := false }
def TradeFollowedSaid : Prop := tradeFollowedRow.holds Try.pinned (OpenSpec.ofChange tradeFollowedSpec)

/-- ITS FALSE NEIGHBOUR: 'it returns false'. Refute it at one input. -/
def tradeFollowedWrong : ChangeSpec := { name := "tradeFollowed", fn := fun _ => fun
  | [d] => { results := [.lit (.bool false)], args := [d] }
  | _ => none }
def TradeFollowedWrongFalsely : Prop := tradeFollowedRow.holds Try.pinned (OpenSpec.ofChange tradeFollowedWrong)

/-- 'wayzgooselaw04.TradeLonger': WHATEVER THE INPUT: true; the input reads as it did. -/
def tradeLongerSpec : ChangeSpec := { name := "tradeLonger", fn := fun _ => fun
  | [d] => { results := [.lit (.bool true)], args := [d] }
  | _ => none }
def tradeLongerRow : OpenClaim := { program := "ytlpgheniajdkfaa", sum := "0abc4dc2f27d99b8a4ec27d6fdb0468774432d4e5e6567cd9bc36d5cc48988c2", func := "wayzgoose/wayzgooselaw04.TradeLonger", spec := "tradeLonger", inPlace := ["internal/bytealg.abigen_runtime_cmpstring"], unfollowed := true, recurses := true, plainKeys := false, apart := false }
def TradeLongerSaid : Prop := tradeLongerRow.holds Try.pinned (OpenSpec.ofChange tradeLongerSpec)

/-- ITS FALSE NEIGHBOUR: 'it returns false'. Refute it at one input. -/
def tradeLongerWrong : ChangeSpec := { name := "tradeLonger", fn := fun _ => fun
  | [d] => { results := [.lit (.bool false)], args := [d] }
  | _ => none }
def TradeLongerWrongFalsely : Prop := tradeLongerRow.holds Try.pinned (OpenSpec.ofChange tradeLongerWrong)

/-- 'wayzgooselaw04.TradeCompared': WHATEVER THE INPUT: true; the input reads as it did. -/
def tradeComparedSpec : ChangeSpec := { name := "tradeCompared", fn := fun _ => fun
  | [d] => { results := [.lit (.bool true)], args := [d] }
  | _ => none }
def tradeComparedRow : OpenClaim := { program := "ytlpgheniajdkfaa", sum := "0abc4dc2f27d99b8a4ec27d6fdb0468774432d4e5e6567cd9bc36d5cc48988c2", func := "wayzgoose/wayzgooselaw04.TradeCompared", spec := "tradeCompared", inPlace := ["internal/bytealg.abigen_runtime_cmpstring"], unfollowed := true, recurses := true, plainKeys := false, apart := false }
def TradeComparedSaid : Prop := tradeComparedRow.holds Try.pinned (OpenSpec.ofChange tradeComparedSpec)

/-- ITS FALSE NEIGHBOUR: 'it returns false'. Refute it at one input. -/
def tradeComparedWrong : ChangeSpec := { name := "tradeCompared", fn := fun _ => fun
  | [d] => { results := [.lit (.bool false)], args := [d] }
  | _ => none }
def TradeComparedWrongFalsely : Prop := tradeComparedRow.holds Try.pinned (OpenSpec.ofChange tradeComparedWrong)

/-- 'wayzgooselaw04.TradeRenumbered': WHATEVER THE INPUT: true; the input reads as it did. -/
def tradeRenumberedSpec : ChangeSpec := { name := "tradeRenumbered", fn := fun _ => fun
  | [d] => { results := [.lit (.bool true)], args := [d] }
  | _ => none }
def tradeRenumberedRow : OpenClaim := { program := "ytlpgheniajdkfaa", sum := "0abc4dc2f27d99b8a4ec27d6fdb0468774432d4e5e6567cd9bc36d5cc48988c2", func := "wayzgoose/wayzgooselaw04.TradeRenumbered", spec := "tradeRenumbered", inPlace := ["internal/bytealg.abigen_runtime_cmpstring"], unfollowed := true, recurses := true, plainKeys := false, apart := false }
def TradeRenumberedSaid : Prop := tradeRenumberedRow.holds Try.pinned (OpenSpec.ofChange tradeRenumberedSpec)

/-- ITS FALSE NEIGHBOUR: 'it returns false'. Refute it at one input. -/
def tradeRenumberedWrong : ChangeSpec := { name := "tradeRenumbered", fn := fun _ => fun
  | [d] => { results := [.lit (.bool false)], args := [d] }
  | _ => none }
def TradeRenumberedWrongFalsely : Prop := tradeRenumberedRow.holds Try.pinned (OpenSpec.ofChange tradeRenumberedWrong)

/-- 'wayzgooselaw04.TradeUp': WHATEVER THE INPUT: true; the input reads as it did. -/
def tradeUpSpec : ChangeSpec := { name := "tradeUp", fn := fun _ => fun
  | [d] => { results := [.lit (.bool true)], args := [d] }
  | _ => none }
def tradeUpRow : OpenClaim := { program := "ytlpgheniajdkfaa", sum := "0abc4dc2f27d99b8a4ec27d6fdb0468774432d4e5e6567cd9bc36d5cc48988c2", func := "wayzgoose/wayzgooselaw04.TradeUp", spec := "tradeUp", inPlace := ["internal/bytealg.abigen_runtime_cmpstring"], unfollowed := true, recurses := true, plainKeys := false, apart := false }
def TradeUpSaid : Prop := tradeUpRow.holds Try.pinned (OpenSpec.ofChange tradeUpSpec)

/-- ITS FALSE NEIGHBOUR: 'it returns false'. Refute it at one input. -/
def tradeUpWrong : ChangeSpec := { name := "tradeUp", fn := fun _ => fun
  | [d] => { results := [.lit (.bool false)], args := [d] }
  | _ => none }
def TradeUpWrongFalsely : Prop := tradeUpRow.holds Try.pinned (OpenSpec.ofChange tradeUpWrong)

/-- 'wayzgooselaw04.TradeShort': WHATEVER THE INPUT: true; the input reads as it did. -/
def tradeShortSpec : ChangeSpec := { name := "tradeShort", fn := fun _ => fun
  | [d] => { results := [.lit (.bool true)], args := [d] }
  | _ => none }
def tradeShortRow : OpenClaim := { program := "ytlpgheniajdkfaa", sum := "0abc4dc2f27d99b8a4ec27d6fdb0468774432d4e5e6567cd9bc36d5cc48988c2", func := "wayzgoose/wayzgooselaw04.TradeShort", spec := "tradeShort", inPlace := ["internal/bytealg.abigen_runtime_cmpstring"], unfollowed := true, recurses := true, plainKeys := false, apart := false }
def TradeShortSaid : Prop := tradeShortRow.holds Try.pinned (OpenSpec.ofChange tradeShortSpec)

/-- ITS FALSE NEIGHBOUR: 'it returns false'. Refute it at one input. -/
def tradeShortWrong : ChangeSpec := { name := "tradeShort", fn := fun _ => fun
  | [d] => { results := [.lit (.bool false)], args := [d] }
  | _ => none }
def TradeShortWrongFalsely : Prop := tradeShortRow.holds Try.pinned (OpenSpec.ofChange tradeShortWrong)

/-- 'wayzgooselaw04.TradeDropped': WHATEVER THE INPUT: true; the input reads as it did. -/
def tradeDroppedSpec : ChangeSpec := { name := "tradeDropped", fn := fun _ => fun
  | [d] => { results := [.lit (.bool true)], args := [d] }
  | _ => none }
def tradeDroppedRow : OpenClaim := { program := "ytlpgheniajdkfaa", sum := "0abc4dc2f27d99b8a4ec27d6fdb0468774432d4e5e6567cd9bc36d5cc48988c2", func := "wayzgoose/wayzgooselaw04.TradeDropped", spec := "tradeDropped", inPlace := ["internal/bytealg.abigen_runtime_cmpstring"], unfollowed := true, recurses := true, plainKeys := false, apart := false }
def TradeDroppedSaid : Prop := tradeDroppedRow.holds Try.pinned (OpenSpec.ofChange tradeDroppedSpec)

/-- ITS FALSE NEIGHBOUR: 'it returns false'. Refute it at one input. -/
def tradeDroppedWrong : ChangeSpec := { name := "tradeDropped", fn := fun _ => fun
  | [d] => { results := [.lit (.bool false)], args := [d] }
  | _ => none }
def TradeDroppedWrongFalsely : Prop := tradeDroppedRow.holds Try.pinned (OpenSpec.ofChange tradeDroppedWrong)

/-- 'wayzgooselaw04.TradeFound': WHATEVER THE INPUT: true; the input reads as it did. -/
def tradeFoundSpec : ChangeSpec := { name := "tradeFound", fn := fun _ => fun
  | [d] => { results := [.lit (.bool true)], args := [d] }
  | _ => none }
def tradeFoundRow : OpenClaim := { program := "ytlpgheniajdkfaa", sum := "0abc4dc2f27d99b8a4ec27d6fdb0468774432d4e5e6567cd9bc36d5cc48988c2", func := "wayzgoose/wayzgooselaw04.TradeFound", spec := "tradeFound", inPlace := ["internal/bytealg.abigen_runtime_cmpstring"], unfollowed := true, recurses := true, plainKeys := false, apart := false }
def TradeFoundSaid : Prop := tradeFoundRow.holds Try.pinned (OpenSpec.ofChange tradeFoundSpec)

/-- ITS FALSE NEIGHBOUR: 'it returns false'. Refute it at one input. -/
def tradeFoundWrong : ChangeSpec := { name := "tradeFound", fn := fun _ => fun
  | [d] => { results := [.lit (.bool false)], args := [d] }
  | _ => none }
def TradeFoundWrongFalsely : Prop := tradeFoundRow.holds Try.pinned (OpenSpec.ofChange tradeFoundWrong)

/-- 'wayzgooselaw04.TradeMore': WHATEVER THE INPUT: true; the input reads as it did. -/
def tradeMoreSpec : ChangeSpec := { name := "tradeMore", fn := fun _ => fun
  | [d] => { results := [.lit (.bool true)], args := [d] }
  | _ => none }
def tradeMoreRow : OpenClaim := { program := "ytlpgheniajdkfaa", sum := "0abc4dc2f27d99b8a4ec27d6fdb0468774432d4e5e6567cd9bc36d5cc48988c2", func := "wayzgoose/wayzgooselaw04.TradeMore", spec := "tradeMore", inPlace := ["internal/bytealg.abigen_runtime_cmpstring"], unfollowed := true, recurses := true, plainKeys := false, apart := false }
def TradeMoreSaid : Prop := tradeMoreRow.holds Try.pinned (OpenSpec.ofChange tradeMoreSpec)

/-- ITS FALSE NEIGHBOUR: 'it returns false'. Refute it at one input. -/
def tradeMoreWrong : ChangeSpec := { name := "tradeMore", fn := fun _ => fun
  | [d] => { results := [.lit (.bool false)], args := [d] }
  | _ => none }
def TradeMoreWrongFalsely : Prop := tradeMoreRow.holds Try.pinned (OpenSpec.ofChange tradeMoreWrong)

/- THE SECOND FORM. 'bulk': how many values and letters a reading holds, each counted each time it is reached (what is shared counts as often as it is met; a slice's spare places count too). A statement '..UptoSaid' is the law's where the arguments, and the package variables that the reading takes, are together of bulk at most 1048576: NARROWER than '..Said'. Prove '..Said' where nothing that the law and all that it calls make is longer than what came in: it says more and counts as full. Else prove '..UptoSaid'. A law counts once. -/
mutual
def uptoBulk {H : Type} : DataW H → Nat
  | .lit (.string bytes) => bytes.length + 1
  | .lit _ => 1
  | .nil => 1
  | .ptr d => uptoBulk d + 1
  | .slice elems spare => uptoBulkAll elems + uptoBulkAll spare + 1
  | .agg parts => uptoBulkAll parts + 1
  | .iface _ d => uptoBulk d + 1
  | .map entries => uptoBulkEntries entries + 1
  | .held _ => 1
def uptoBulkAll {H : Type} : List (DataW H) → Nat
  | [] => 0
  | d :: r => uptoBulk d + uptoBulkAll r
def uptoBulkEntries {H : Type} : List (Lit × DataW H) → Nat
  | [] => 0
  | x :: r => uptoBulkEntry x + uptoBulkEntries r
def uptoBulkEntry {H : Type} : Lit × DataW H → Nat
  | (.string bytes, d) => bytes.length + uptoBulk d + 1
  | (_, d) => uptoBulk d + 1
 end
def uptoSmall : (H : Type) → List (DataW H) → Bool := fun _ ds => decide (uptoBulkAll ds ≤ 1048576)
def OpenSpec.upto (s : _root_.Go.ChangeSpec) : _root_.Go.OpenSpec := { _root_.Go.OpenSpec.ofChange s with cond := some uptoSmall }

/-- 'wayzgooselaw04.TradeLeast', WHERE WHAT IT READS IS OF BULK AT MOST 1048576: true; the input reads as it did. -/
def tradeLeastUptoRow : OpenClaim := { program := "ytlpgheniajdkfaa", sum := "0abc4dc2f27d99b8a4ec27d6fdb0468774432d4e5e6567cd9bc36d5cc48988c2", func := "wayzgoose/wayzgooselaw04.TradeLeast", spec := "tradeLeast", inPlace := ["internal/bytealg.abigen_runtime_cmpstring"], unfollowed := true, recurses := true, plainKeys := false, apart := false, narrowed := true }
def TradeLeastUptoSaid : Prop := tradeLeastUptoRow.holds Try.pinned (OpenSpec.upto tradeLeastSpec)

/-- 'wayzgooselaw04.TradeFollowed', WHERE WHAT IT READS IS OF BULK AT MOST 1048576: true; the input reads as it did. -/
def tradeFollowedUptoRow : OpenClaim := { program := "ytlpgheniajdkfaa", sum := "0abc4dc2f27d99b8a4ec27d6fdb0468774432d4e5e6567cd9bc36d5cc48988c2", func := "wayzgoose/wayzgooselaw04.TradeFollowed", spec := "tradeFollowed", inPlace := ["internal/bytealg.abigen_runtime_cmpstring"], unfollowed := true, recurses := true, plainKeys := false, apart := false, narrowed := true }
def TradeFollowedUptoSaid : Prop := tradeFollowedUptoRow.holds Try.pinned (OpenSpec.upto tradeFollowedSpec)

/-- 'wayzgooselaw04.TradeLonger', WHERE WHAT IT READS IS OF BULK AT MOST 1048576: true; the input reads as it did. -/
def tradeLongerUptoRow : OpenClaim := { program := "ytlpgheniajdkfaa", sum := "0abc4dc2f27d99b8a4ec27d6fdb0468774432d4e5e6567cd9bc36d5cc48988c2", func := "wayzgoose/wayzgooselaw04.TradeLonger", spec := "tradeLonger", inPlace := ["internal/bytealg.abigen_runtime_cmpstring"], unfollowed := true, recurses := true, plainKeys := false, apart := false, narrowed := true }
def TradeLongerUptoSaid : Prop := tradeLongerUptoRow.holds Try.pinned (OpenSpec.upto tradeLongerSpec)

/-- 'wayzgooselaw04.TradeCompared', WHERE WHAT IT READS IS OF BULK AT MOST 1048576: true; the input reads as it did. -/
def tradeComparedUptoRow : OpenClaim := { program := "ytlpgheniajdkfaa", sum := "0abc4dc2f27d99b8a4ec27d6fdb0468774432d4e5e6567cd9bc36d5cc48988c2", func := "wayzgoose/wayzgooselaw04.TradeCompared", spec := "tradeCompared", inPlace := ["internal/bytealg.abigen_runtime_cmpstring"], unfollowed := true, recurses := true, plainKeys := false, apart := false, narrowed := true }
def TradeComparedUptoSaid : Prop := tradeComparedUptoRow.holds Try.pinned (OpenSpec.upto tradeComparedSpec)

/-- 'wayzgooselaw04.TradeRenumbered', WHERE WHAT IT READS IS OF BULK AT MOST 1048576: true; the input reads as it did. -/
def tradeRenumberedUptoRow : OpenClaim := { program := "ytlpgheniajdkfaa", sum := "0abc4dc2f27d99b8a4ec27d6fdb0468774432d4e5e6567cd9bc36d5cc48988c2", func := "wayzgoose/wayzgooselaw04.TradeRenumbered", spec := "tradeRenumbered", inPlace := ["internal/bytealg.abigen_runtime_cmpstring"], unfollowed := true, recurses := true, plainKeys := false, apart := false, narrowed := true }
def TradeRenumberedUptoSaid : Prop := tradeRenumberedUptoRow.holds Try.pinned (OpenSpec.upto tradeRenumberedSpec)

/-- 'wayzgooselaw04.TradeUp', WHERE WHAT IT READS IS OF BULK AT MOST 1048576: true; the input reads as it did. -/
def tradeUpUptoRow : OpenClaim := { program := "ytlpgheniajdkfaa", sum := "0abc4dc2f27d99b8a4ec27d6fdb0468774432d4e5e6567cd9bc36d5cc48988c2", func := "wayzgoose/wayzgooselaw04.TradeUp", spec := "tradeUp", inPlace := ["internal/bytealg.abigen_runtime_cmpstring"], unfollowed := true, recurses := true, plainKeys := false, apart := false, narrowed := true }
def TradeUpUptoSaid : Prop := tradeUpUptoRow.holds Try.pinned (OpenSpec.upto tradeUpSpec)

/-- 'wayzgooselaw04.TradeShort', WHERE WHAT IT READS IS OF BULK AT MOST 1048576: true; the input reads as it did. -/
def tradeShortUptoRow : OpenClaim := { program := "ytlpgheniajdkfaa", sum := "0abc4dc2f27d99b8a4ec27d6fdb0468774432d4e5e6567cd9bc36d5cc48988c2", func := "wayzgoose/wayzgooselaw04.TradeShort", spec := "tradeShort", inPlace := ["internal/bytealg.abigen_runtime_cmpstring"], unfollowed := true, recurses := true, plainKeys := false, apart := false, narrowed := true }
def TradeShortUptoSaid : Prop := tradeShortUptoRow.holds Try.pinned (OpenSpec.upto tradeShortSpec)

/-- 'wayzgooselaw04.TradeDropped', WHERE WHAT IT READS IS OF BULK AT MOST 1048576: true; the input reads as it did. -/
def tradeDroppedUptoRow : OpenClaim := { program := "ytlpgheniajdkfaa", sum := "0abc4dc2f27d99b8a4ec27d6fdb0468774432d4e5e6567cd9bc36d5cc48988c2", func := "wayzgoose/wayzgooselaw04.TradeDropped", spec := "tradeDropped", inPlace := ["internal/bytealg.abigen_runtime_cmpstring"], unfollowed := true, recurses := true, plainKeys := false, apart := false, narrowed := true }
def TradeDroppedUptoSaid : Prop := tradeDroppedUptoRow.holds Try.pinned (OpenSpec.upto tradeDroppedSpec)

/-- 'wayzgooselaw04.TradeFound', WHERE WHAT IT READS IS OF BULK AT MOST 1048576: true; the input reads as it did. -/
def tradeFoundUptoRow : OpenClaim := { program := "ytlpgheniajdkfaa", sum := "0abc4dc2f27d99b8a4ec27d6fdb0468774432d4e5e6567cd9bc36d5cc48988c2", func := "wayzgoose/wayzgooselaw04.TradeFound", spec := "tradeFound", inPlace := ["internal/bytealg.abigen_runtime_cmpstring"], unfollowed := true, recurses := true, plainKeys := false, apart := false, narrowed := true }
def TradeFoundUptoSaid : Prop := tradeFoundUptoRow.holds Try.pinned (OpenSpec.upto tradeFoundSpec)

/-- 'wayzgooselaw04.TradeMore', WHERE WHAT IT READS IS OF BULK AT MOST 1048576: true; the input reads as it did. -/
def tradeMoreUptoRow : OpenClaim := { program := "ytlpgheniajdkfaa", sum := "0abc4dc2f27d99b8a4ec27d6fdb0468774432d4e5e6567cd9bc36d5cc48988c2", func := "wayzgoose/wayzgooselaw04.TradeMore", spec := "tradeMore", inPlace := ["internal/bytealg.abigen_runtime_cmpstring"], unfollowed := true, recurses := true, plainKeys := false, apart := false, narrowed := true }
def TradeMoreUptoSaid : Prop := tradeMoreUptoRow.holds Try.pinned (OpenSpec.upto tradeMoreSpec)

end Rows
end Go.Proofs.Ytlpgheniajdkfaa
