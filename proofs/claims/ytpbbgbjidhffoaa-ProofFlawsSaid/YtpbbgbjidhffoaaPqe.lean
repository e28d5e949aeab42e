/- Plain law: the kit's table of common lines holds the length of the longest common sublist. -/
import Derived.Test.YtpbbgbjidhffoaaPqd
import Derived.Test.YtpbbgbjidhffoaaPp
namespace Go.Proofs.Ytpbbgbjidhffoaa
open Go Go.W
set_option linter.unusedVariables false
set_option linter.unusedSimpArgs false
set_option maxRecDepth 20000
attribute [local irreducible] HL HC HQ HB Row Rows2 Blk Facts

theorem sub_snoc {α : Type} {s a : List α} {x : α} (h : s.Sublist (a ++ [x])) : s.Sublist a ∨ ∃ t : List α, s = t ++ [x] ∧ t.Sublist a := by
  obtain ⟨l1, l2, rfl, h1, h2⟩ := List.sublist_append_iff.1 h
  cases h2 with
  | cons _ h2 => rw [List.eq_nil_of_sublist_nil h2, List.append_nil]; exact .inl h1
  | cons_cons _ h2 => rw [List.eq_nil_of_sublist_nil h2]; exact .inr ⟨l1, rfl, h1⟩
theorem LCS.nil_left {α : Type} (b : List α) : LCS [] b 0 := ⟨⟨[], List.nil_sublist _, List.nil_sublist _, rfl⟩, fun s h _ => by rw [List.eq_nil_of_sublist_nil h]; exact Nat.le_refl _⟩
theorem LCS.nil_right {α : Type} (a : List α) : LCS a [] 0 := ⟨⟨[], List.nil_sublist _, List.nil_sublist _, rfl⟩, fun s _ h => by rw [List.eq_nil_of_sublist_nil h]; exact Nat.le_refl _⟩
theorem LCS.snoc_eq {α : Type} {a b : List α} {n : Nat} (x : α) (h : LCS a b n) : LCS (a ++ [x]) (b ++ [x]) (n + 1) := by
  obtain ⟨s, s1, s2, s3⟩ := h.ex
  refine ⟨⟨s ++ [x], s1.append (List.Sublist.refl _), s2.append (List.Sublist.refl _), by simp [s3]⟩, fun t t1 t2 => ?_⟩
  rcases sub_snoc t1 with h1 | ⟨u, rfl, hu⟩
  · rcases sub_snoc t2 with h2 | ⟨v, rfl, hv⟩
    · have := h.le t h1 h2; omega
    · have := h.le v ((List.sublist_append_left v [x]).trans h1) hv
      simp; omega
  · rcases sub_snoc t2 with h2 | ⟨v, e, hv⟩
    · have := h.le u hu ((List.sublist_append_left u [x]).trans h2)
      simp; omega
    · obtain rfl : u = v := List.append_cancel_right e
      have := h.le u hu hv
      simp; omega
theorem LCS.snoc_ne {α : Type} {a b : List α} {n m : Nat} {x y : α} (hxy : ¬ x = y) (h : LCS a (b ++ [y]) n) (h' : LCS (a ++ [x]) b m) : LCS (a ++ [x]) (b ++ [y]) (max n m) := by
  refine ⟨?_, fun t t1 t2 => ?_⟩
  · obtain ⟨s, s1, s2, s3⟩ := h.ex
    obtain ⟨t, t1, t2, t3⟩ := h'.ex
    by_cases hle : n ≤ m
    · exact ⟨t, t1, t2.trans (List.sublist_append_left _ _), by omega⟩
    · exact ⟨s, s1.trans (List.sublist_append_left _ _), s2, by omega⟩
  · rcases sub_snoc t1 with h1 | ⟨u, e, hu⟩
    · have := h.le t h1 t2; omega
    · rcases sub_snoc t2 with h2 | ⟨v, e2, hv⟩
      · have := h'.le t t1 h2; omega
      · rw [e] at e2
        have := (List.append_inj' e2 rfl).2
        simp at this
        exact absurd this hxy
/-- A row of the table. -/
structure RowL (a b : List Str) (cur : List Int) : Prop where
  len : cur.length = b.length + 1
  at_ : ∀ j, j ≤ b.length → ∃ n : Nat, cur.getD j default = n ∧ LCS a (b.take j) n
structure MidL (a b : List Str) (x : Str) (k : Nat) (st : List Int × Int) : Prop where
  len : st.1.length = b.length + 1
  new : ∀ j, j ≤ k → ∃ n : Nat, st.1.getD j default = n ∧ LCS (a ++ [x]) (b.take j) n
  old : ∀ j, k < j → j ≤ b.length → ∃ n : Nat, st.1.getD j default = n ∧ LCS a (b.take j) n
  dia : ∃ n : Nat, st.2 = n ∧ LCS a (b.take k) n
theorem MidL.step {a b : List Str} {x : Str} {k : Nat} {st : List Int × Int} (h : MidL a b x k st) (hk : k < b.length) : MidL a b x (k + 1) (stepC b x st k) := by
  have hl : k + 1 < st.1.length := by rw [h.len]; omega
  obtain ⟨n1, e1, l1⟩ := h.new k (Nat.le_refl _)
  obtain ⟨n2, e2, l2⟩ := h.old (k + 1) (by omega) (by omega)
  obtain ⟨n3, e3, l3⟩ := h.dia
  refine ⟨by simp [stepC, h.len], fun j hj => ?_, fun j hj hj2 => ?_, ⟨n2, e2, l2⟩⟩
  · show ∃ n : Nat, (st.1.set (k + 1) _).getD j default = n ∧ _
    rw [getD_set' hl]
    by_cases hjk : k + 1 = j
    · subst hjk
      rw [if_pos rfl, take_succ_getD b k hk]
      rw [take_succ_getD b k hk] at l2
      by_cases hx : x = b.getD k default
      · rw [if_pos hx, e3, ← hx]
        exact ⟨n3 + 1, by simp, l3.snoc_eq x⟩
      · rw [if_neg hx, e1, e2]
        have := l2.snoc_ne hx l1
        refine ⟨max n2 n1, ?_, this⟩
        split <;> omega
    · rw [if_neg hjk]
      exact h.new j (by omega)
  · show ∃ n : Nat, (st.1.set (k + 1) _).getD j default = n ∧ _
    rw [getD_set' hl, if_neg (by omega)]
    exact h.old j (by omega) hj2
theorem row_mid {a b : List Str} {x : Str} {cur : List Int} (h : RowL a b cur) : ∀ k, k ≤ b.length → MidL a b x k ((List.range k).foldl (stepC b x) (cur, 0))
  | 0, _ => by
    obtain ⟨n, e, l⟩ := h.at_ 0 (Nat.zero_le _)
    rw [List.take_zero] at l
    have : n = 0 := l.uniq (.nil_right _)
    subst this
    refine ⟨h.len, fun j hj => ?_, fun j _ hj => h.at_ j hj, ⟨0, rfl, by rw [List.take_zero]; exact .nil_right _⟩⟩
    obtain rfl : j = 0 := by omega
    exact ⟨0, e, by rw [List.take_zero]; exact .nil_right _⟩
  | k + 1, hk => by
    rw [List.range_succ, List.foldl_append]
    exact (row_mid h k (by omega)).step (by omega)
theorem RowL.next {a b : List Str} {cur : List Int} (x : Str) (h : RowL a b cur) : RowL (a ++ [x]) b (rowC b cur x) := by
  have := row_mid (x := x) h b.length (Nat.le_refl _)
  exact ⟨this.len, fun j hj => this.new j hj⟩
theorem rows_of (b : List Str) : ∀ (c a : List Str) (cur : List Int), RowL a b cur → RowL (a ++ c) b (c.foldl (rowC b) cur)
  | [], a, cur, h => by rw [List.append_nil]; exact h
  | x :: c, a, cur, h => by
    have := rows_of b c (a ++ [x]) (rowC b cur x) (h.next x)
    rw [List.append_assoc] at this
    exact this
theorem common_lcs (a b : List Str) : ∃ n : Nat, commonI a b = n ∧ LCS a b n := by
  have h0 : RowL [] b (zeroC b) := ⟨by simp [zeroC], fun j hj => ⟨0, by
    rw [zeroC, List.getD_eq_getElem?_getD, List.getElem?_replicate]
    split <;> rfl, .nil_left _⟩⟩
  have := rows_of b a [] _ h0
  obtain ⟨n, e, l⟩ := this.at_ b.length (Nat.le_refl _)
  rw [List.take_length, List.nil_append] at l
  exact ⟨n, e, l⟩


end Go.Proofs.Ytpbbgbjidhffoaa
