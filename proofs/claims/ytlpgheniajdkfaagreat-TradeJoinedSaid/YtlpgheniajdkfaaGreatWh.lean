/- More rules: a string's bytes. -/
import Derived.Test.YtlpgheniajdkfaaGreatWg
import Derived.Laws.IdiomStrings
namespace Go.W
open Go Go.RowKit
set_option linter.unusedVariables false
set_option linter.unusedSimpArgs false

section
variable {c : Cx} {Q : Exit → Act → World → Prop} {fr : Fr} {hp : Hp} {L : List Fact} {ops : Array Oper} {rest : List Oper}
variable {d : Tmp} {ty : TypeId} {pos : String} {af : Array Edge}
/-- A whole owned block. -/
theorem r_loadA {t e : TypeId} {x : Operand} {g : Nat} {cs : Array Value} {fz : Nat × Nat} {n : Nat} (hd : Nat.blt d c.n = true) (ht' : IsR c.P t) (hz' : Sz c.P t n) (hx : ev fr x = some (.pointer (some ⟨g, 0, none⟩))) (h : (g, Obj.cells cs e fz) ∈ hp) (hn : cs.size = n)
    (k : HL c ops Q rest ((d, .agg cs) :: fr) hp L) : HL c ops Q (⟨some d, .load t x, ty, pos, af, none⟩ :: rest) fr hp L :=
  r_loadS (cs := cs.toList) hd ht' hz' hx (by simpa using hn) (cells_own h (fun i u hu => by simpa using hu)) k
end
end Go.W
