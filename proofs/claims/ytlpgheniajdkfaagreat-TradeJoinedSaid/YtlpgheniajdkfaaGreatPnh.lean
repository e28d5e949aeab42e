/- The document: the steps from one heading to all. -/
import Derived.Test.YtlpgheniajdkfaaGreatPnb
import Derived.Test.YtlpgheniajdkfaaGreatPm6
namespace Go.Proofs.YtlpgheniajdkfaaGreat
open Go Go.W
set_option linter.unusedVariables false
set_option linter.unusedSimpArgs false
set_option maxRecDepth 20000
attribute [local irreducible] HL HC HQ HB Row Rows2 Blk Facts


theorem steps_at {t : Tr} {h i : Nat} (hi : i < t.hs.length) : (stepsT t (h : Int)).getD i default = distI t.hs.length (nextB t) h i := by
  unfold stepsT
  rw [getD_at (by rw [List.length_map, List.length_range]; exact hi), List.getElem_map, List.getElem_range, Int.toNat_natCast]




section
variable {n : Nat} {e : Edges} {h : Nat}
/-- Level by level: in level k, the headings before i are seen through, of i those before j. -/
structure Lv (n : Nat) (e : Edges) (h k i j : Nat) (ds : List Int) : Prop where
  len : ds.length = n
  old : ∀ m, m < n → 0 ≤ distI n e h m → distI n e h m ≤ (k : Int) → dAt ds m = distI n e h m
  new : ∀ m, m < n → ¬ (0 ≤ distI n e h m ∧ distI n e h m ≤ (k : Int)) → dAt ds m = -1 ∨ (dAt ds m = (k : Int) + 1 ∧ distI n e h m = (k : Int) + 1)
  seen : ∀ p m, p < n → m < n → (p < i ∨ (p = i ∧ m < j)) → 0 ≤ distI n e h p → distI n e h p ≤ (k : Int) → e p m = true → 0 ≤ dAt ds m
end







end Go.Proofs.YtlpgheniajdkfaaGreat
