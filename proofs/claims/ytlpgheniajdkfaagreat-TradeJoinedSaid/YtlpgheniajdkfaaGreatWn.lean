/- More rules: facts of nothing; rows of rows that grow by many. -/
import Derived.Test.YtlpgheniajdkfaaGreatWk
namespace Go.W
open Go Go.RowKit
set_option linter.unusedVariables false
set_option linter.unusedSimpArgs false
section
variable {c : Cx} {Q : Exit → Act → World → Prop} {fr : Fr} {hp : Hp} {L : List Fact} {ops : Array Oper} {rest : List Oper}
variable {α : Type} [El α]
/-- The inner rows of some slices. -/
abbrev innerF (ps : List (Sl α)) : Fact := Facts (ps.map fun p => Row p.a (rows p.l))
end
end Go.W
