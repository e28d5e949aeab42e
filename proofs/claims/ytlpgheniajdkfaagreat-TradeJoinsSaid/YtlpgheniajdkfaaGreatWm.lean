/- What is handed in: lists of marks, lists of pages. -/
import Derived.Test.YtlpgheniajdkfaaGreatWl
import Derived.Deep.Strs
namespace Go.W
open Go Go.RowKit Go.ChangeShapes Go.WideShapes Go.Deep
set_option linter.unusedVariables false
set_option linter.unusedSimpArgs false

section
variable {H : Type} {enc : TypeId × Value → H} {P : Program} {w : World} {base : Nat} {spare : Nat → Bool} {held : Bool}
/-- A row of elements of some cells each. -/
theorem row_ofN {α : Type} [El α] (h0 : 0 < El.sz α) {a : Addr} {l : List α} (h : ∀ j, j < l.length → ∀ i v, (El.cells (l.getD j default))[i]? = some v → w.cell? (a.add (j * El.sz α + i)) = some v) : (Row (some a) (rows l)).P w := by
  intro k u hu
  refine ⟨a, rfl, ?_⟩
  have hk := (List.getElem?_eq_some_iff.1 hu).1
  rw [rows_len] at hk
  have hj : k / El.sz α < l.length := Nat.div_lt_of_lt_mul (by rw [Nat.mul_comm]; exact hk)
  have hd : k / El.sz α * El.sz α + k % El.sz α = k := by rw [Nat.mul_comm]; exact Nat.div_add_mod _ _
  have h2 := rows_get' l (k / El.sz α) (k % El.sz α) hj (Nat.mod_lt _ h0)
  rw [hd, hu] at h2
  have := h _ hj _ _ h2.symm
  rwa [hd] at this
end
end Go.W
