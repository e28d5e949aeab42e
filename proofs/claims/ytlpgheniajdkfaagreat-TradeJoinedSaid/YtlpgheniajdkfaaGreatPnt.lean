/- The document: one more reference (With). -/
import Derived.Test.YtlpgheniajdkfaaGreatPnb
import Derived.Test.YtlpgheniajdkfaaGreatPm8
namespace Go.Proofs.YtlpgheniajdkfaaGreat
open Go Go.W
set_option linter.unusedVariables false
set_option linter.unusedSimpArgs false
set_option maxRecDepth 20000
attribute [local irreducible] HL HC HQ HB Row Rows2 Blk Facts



end Go.Proofs.YtlpgheniajdkfaaGreat
