/- More rules: facts of nothing; rows of rows that grow by many. -/
import Derived.Test.YtlpgheniajdkfaaGreatWk
namespace Go.W
open Go Go.RowKit
set_option linter.unusedVariables false
set_option linter.unusedSimpArgs false
theorem ptr_inj {a b : Nat} (h : Value.pointer (some ⟨a, 0, none⟩) = Value.pointer (some ⟨b, 0, none⟩)) : a = b := by cases h; rfl
section
variable {c : Cx} {Q : Exit → Act → World → Prop} {fr : Fr} {hp : Hp} {L : List Fact} {ops : Array Oper} {rest : List Oper}
variable {α : Type} [El α]
/-- The inner rows of some slices. -/
abbrev innerF (ps : List (Sl α)) : Fact := Facts (ps.map fun p => Row p.a (rows p.l))
end
end Go.W
