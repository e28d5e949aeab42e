/- The document's checks, its questions, its paths: what they answer is what the program's answer. -/
import Derived.Test.YtlpgheniajdkfaaGreatPna
namespace Go.Proofs.YtlpgheniajdkfaaGreat
open Go Go.W
set_option linter.unusedVariables false
set_option linter.unusedSimpArgs false
set_option maxRecDepth 20000
attribute [local irreducible] HL HC HQ HB Row Rows2 Blk Facts

def askdE (t : Tr) (l1 l2 : List Int) : Int := if ¬ checkT t = 0 then checkT t else if l1.all (fun x => decide (0 ≤ x ∧ x ≤ (t.cs.length : Int) - 1)) then (if l2.all (fun x => decide (0 ≤ x ∧ x ≤ (t.hs.length : Int) - 1)) then 0 else 3) else 3
/-- The last number of a list that is in another one. -/
def lastC (p q : List Int) : Nat → Int
  | 0 => -1
  | k + 1 => if p.getD k default ∈ q then p.getD k default else lastC p q k







end Go.Proofs.YtlpgheniajdkfaaGreat
