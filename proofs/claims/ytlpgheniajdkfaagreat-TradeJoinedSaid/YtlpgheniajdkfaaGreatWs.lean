/- A row of lists with one more in front. -/
import Derived.Test.YtlpgheniajdkfaaGreatWn
namespace Go.W
open Go Go.RowKit
set_option linter.unusedVariables false
set_option linter.unusedSimpArgs false

end Go.W
