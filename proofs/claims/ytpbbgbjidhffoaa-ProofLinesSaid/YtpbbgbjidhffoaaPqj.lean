/- Plain law for ProofOrders: the first order as wanted is the first one of all orders. -/
import Derived.Test.YtpbbgbjidhffoaaPl
namespace Go.Proofs.Ytpbbgbjidhffoaa
open Go Go.W
set_option linter.unusedVariables false
set_option linter.unusedSimpArgs false
set_option maxRecDepth 20000
attribute [local irreducible] HL HC HQ HB Row Rows2 Blk Facts

/-- All orders of the numbers below n from a beginning on; d numbers are still wanted. -/
def ordersL (n : Nat) : Nat → List Int → List (List Int)
  | 0, done => [done]
  | d + 1, done => (List.range n).flatMap fun i : Nat => if (i : Int) ∈ done then [] else ordersL n d (done ++ [(i : Int)])
theorem grow_find {n : Nat} {p : List Int → Bool} : ∀ (d : Nat) (done : List Int), growF n p d done = (ordersL n d done).find? p
  | 0, done => by
    rw [growF, ordersL, List.find?_singleton]
  | d + 1, done => by
    rw [growF, ordersL, List.find?_flatMap]
    congr 1
    funext i
    split
    · rfl
    · exact grow_find d _
theorem orders_len {n : Nat} : ∀ (d : Nat) (done : List Int), ∀ o ∈ ordersL n d done, o.length = done.length + d
  | 0, done, o, h => by rw [ordersL, List.mem_singleton] at h; subst h; rfl
  | d + 1, done, o, h => by
    rw [ordersL, List.mem_flatMap] at h
    obtain ⟨i, _, hi⟩ := h
    split at hi
    · simp at hi
    · have := orders_len d _ o hi
      rw [this, len_snoc]; omega
theorem orders_in {n : Nat} : ∀ (d : Nat) (done : List Int), InR n done → ∀ o ∈ ordersL n d done, InR n o
  | 0, done, hd, o, h => by rw [ordersL, List.mem_singleton] at h; subst h; exact hd
  | d + 1, done, hd, o, h => by
    rw [ordersL, List.mem_flatMap] at h
    obtain ⟨i, hi0, hi⟩ := h
    split at hi
    · simp at hi
    · exact orders_in d _ (hd.snoc (List.mem_range.1 hi0)) o hi
/-- How many orders there are at most. -/
theorem orders_many {n : Nat} : ∀ (d : Nat) (done : List Int), (ordersL n d done).length ≤ n ^ d
  | 0, done => by simp [ordersL]
  | d + 1, done => by
    rw [ordersL, List.length_flatMap]
    have h : ∀ l : List Nat, (l.map fun i : Nat => (if (i : Int) ∈ done then [] else ordersL n d (done ++ [(i : Int)])).length).sum ≤ l.length * n ^ d := by
      intro l
      induction l with
      | nil => simp
      | cons i l ih =>
        rw [List.map_cons, List.sum_cons, List.length_cons, Nat.succ_mul]
        have : (if (i : Int) ∈ done then [] else ordersL n d (done ++ [(i : Int)])).length ≤ n ^ d := by
          split
          · simp
          · exact orders_many d _
        omega
    have := h (List.range n)
    rw [List.length_range] at this
    rw [Nat.pow_succ, Nat.mul_comm]
    exact this
theorem orders_ne {n : Nat} {d : Nat} {done : List Int} : ∀ o ∈ ordersL n d done, o ≠ [] ∨ done.length + d = 0 := by
  intro o h
  have := orders_len d done o h
  by_cases h0 : o = []
  · subst h0; right; simpa using this.symm
  · exact .inl h0
theorem find_cut {α : Type} [Inhabited α] {p : α → Bool} {l : List α} {k : Nat} (hk : k < l.length) (h : (l.take k).find? p = none) (h1 : p (l.getD k default) = false) : (l.take (k + 1)).find? p = none := by
  rw [take_succ_getD l k hk, List.find?_append, h, List.find?_cons_of_neg (by rw [h1]; decide)]
  rfl
theorem find_here {α : Type} [Inhabited α] {p : α → Bool} {l : List α} {k : Nat} (hk : k < l.length) (h : (l.take k).find? p = none) (h1 : p (l.getD k default) = true) : l.find? p = some (l.getD k default) := by
  have e : l = l.take (k + 1) ++ l.drop (k + 1) := (List.take_append_drop _ _).symm
  have h2 : (l.take (k + 1)).find? p = some (l.getD k default) := by
    rw [take_succ_getD l k hk, List.find?_append, h, List.find?_cons_of_pos h1]
    rfl
  conv => lhs; rw [e]
  rw [List.find?_append, h2]
  rfl


end Go.Proofs.Ytpbbgbjidhffoaa
