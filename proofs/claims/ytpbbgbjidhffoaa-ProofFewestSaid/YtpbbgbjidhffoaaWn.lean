/- More rules: facts of nothing; others that came up later. -/
import Derived.Test.YtpbbgbjidhffoaaWk
namespace Go.W
open Go Go.RowKit
set_option linter.unusedVariables false
set_option linter.unusedSimpArgs false
section
variable {c : Cx} {Q : Exit → Act → World → Prop} {fr : Fr} {hp : Hp} {L : List Fact}
theorem hc_nilrow {x : Code} {α : Type} [El α] (k : HC c x Q fr hp (Row none (rows ([] : List α)) :: L)) : HC c x Q fr hp L := hc_more (F := Row none (rows ([] : List α))) (fun w _ => Row.nil _ w) (fun k hk => by obtain ⟨_, e, _⟩ := hk; cases e) k
end
end Go.W
