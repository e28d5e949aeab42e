/- Small things that the statements share. -/
import Derived.Test.YtlpgheniajdkfaaPbe
namespace Go.Proofs.Ytlpgheniajdkfaa
open Go Go.W
set_option linter.unusedVariables false
set_option linter.unusedSimpArgs false
set_option maxRecDepth 20000
attribute [local irreducible] HL HC HQ HB Row Rows2 Blk Facts

theorem dok0 (nums : List Int) : DOK nums (0, 11400714819323198485) := ⟨by decide, by show (0 : Int) ≤ nums.length; omega, by decide, by decide⟩

end Go.Proofs.Ytlpgheniajdkfaa
