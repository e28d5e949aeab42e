/- Small lemmas that many statements share. -/
import Derived.Test.YtpbbgbjidhffoaaPp
import Derived.Test.YtpbbgbjidhffoaaPqa
import Derived.Test.YtpbbgbjidhffoaaPl
namespace Go.Proofs.Ytpbbgbjidhffoaa
open Go Go.W
set_option linter.unusedVariables false
set_option linter.unusedSimpArgs false
set_option maxRecDepth 20000
attribute [local irreducible] HL HC HQ HB Row Rows2 Blk Facts

def seed0 : Int × Int := (0, 11400714819323198485)
theorem dok0 (nums : List Int) : DOK nums seed0 := ⟨by decide, by simp [seed0], by decide, by decide⟩
theorem diffE_len (a b : List Str) (ms : List Mk) : (diffE a b ms).1.length ≤ ms.length := by
  unfold diffE
  split
  · simp
  · split
    · simp
    · exact Nat.le_refl _
theorem diffP_len (a b : List Str) : (diffP a b 0 0).2.length ≤ a.length + b.length := (diffP_bd a b _ 0 0 (Nat.le_refl _)).2.2
/-- A list of pages that is given: each somewhere. -/
abbrev Pg := Sl Str

theorem growF_len {n : Nat} {p : List Int → Bool} : ∀ (d : Nat) (done l : List Int), growF n p d done = some l → l.length = done.length + d
  | 0, done, l, h => by
    rw [growF] at h
    split at h
    · cases h; rfl
    · cases h
  | d + 1, done, l, h => by
    rw [growF] at h
    obtain ⟨i, _, hi⟩ := List.exists_of_findSome?_eq_some h
    split at hi
    · cases hi
    · have := growF_len d _ l hi
      rw [this, List.length_append]; simp; omega
theorem stepsP_len (p : List Str) (l : List Mk) (most : Int) : (stepsP p l most).1.length ≤ l.length := by
  unfold stepsP
  split
  · simp
  · split
    · simp
    · split
      · simp
      · split
        · simp
        · cases h : growF l.length (orderOK l most p.length) l.length [] with
          | none => simp
          | some o => have := growF_len _ _ _ h; simp at this; simp [this]
/-- A list of lists of marks that is given: each somewhere. -/
abbrev Mg := Sl Mk


end Go.Proofs.Ytpbbgbjidhffoaa
