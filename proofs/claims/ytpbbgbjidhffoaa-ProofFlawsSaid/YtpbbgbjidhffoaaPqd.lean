/- Plain laws: what a diff costs: the new page's length less the longest common sublist; the triangle. -/
import Derived.Test.YtpbbgbjidhffoaaPqc
namespace Go.Proofs.Ytpbbgbjidhffoaa
open Go Go.W
set_option linter.unusedVariables false
set_option linter.unusedSimpArgs false
set_option maxRecDepth 20000
attribute [local irreducible] HL HC HQ HB Row Rows2 Blk Facts

structure LCS {α : Type} (a b : List α) (n : Nat) : Prop where
  ex : ∃ s : List α, s.Sublist a ∧ s.Sublist b ∧ s.length = n
  le : ∀ s : List α, s.Sublist a → s.Sublist b → s.length ≤ n
theorem LCS.uniq {α : Type} {a b : List α} {n m : Nat} (h : LCS a b n) (h' : LCS a b m) : n = m := by
  obtain ⟨s, h1, h2, h3⟩ := h.ex
  obtain ⟨t, h4, h5, h6⟩ := h'.ex
  have := h.le t h4 h5
  have := h'.le s h1 h2
  omega
theorem meet_sub {α : Type} : ∀ (b s t : List α), s.Sublist b → t.Sublist b → ∃ u : List α, u.Sublist s ∧ u.Sublist t ∧ s.length + t.length ≤ b.length + u.length
  | [], s, t, hs, ht => ⟨[], List.nil_sublist _, List.nil_sublist _, by rw [List.eq_nil_of_sublist_nil hs, List.eq_nil_of_sublist_nil ht]; simp⟩
  | x :: b, s, t, hs, ht => by
    cases hs with
    | cons _ hs =>
      cases ht with
      | cons _ ht =>
        obtain ⟨u, h1, h2, h3⟩ := meet_sub b s t hs ht
        exact ⟨u, h1, h2, by simp only [List.length_cons]; omega⟩
      | cons_cons _ ht =>
        obtain ⟨u, h1, h2, h3⟩ := meet_sub b s _ hs ht
        exact ⟨u, h1, .cons _ h2, by simp only [List.length_cons]; omega⟩
    | cons_cons _ hs =>
      cases ht with
      | cons _ ht =>
        obtain ⟨u, h1, h2, h3⟩ := meet_sub b _ t hs ht
        exact ⟨u, .cons _ h1, h2, by simp only [List.length_cons]; omega⟩
      | cons_cons _ ht =>
        obtain ⟨u, h1, h2, h3⟩ := meet_sub b _ _ hs ht
        exact ⟨x :: u, h1.cons_cons _, h2.cons_cons _, by simp only [List.length_cons]; omega⟩
/-- The triangle. -/
theorem LCS.tri {α : Type} {a b c : List α} {n m k : Nat} (h1 : LCS a b n) (h2 : LCS b c m) (h3 : LCS a c k) : n + m ≤ b.length + k := by
  obtain ⟨s, sa, sb, hs⟩ := h1.ex
  obtain ⟨t, tb, tc, ht⟩ := h2.ex
  obtain ⟨u, us, ut, hu⟩ := meet_sub b s t sb tb
  have := h3.le u (us.trans sa) (ut.trans tc)
  omega

theorem cmpL_fst {x y : Lst} (h : ¬ cmpL x y < 0) : y.1 ≤ x.1 := by
  apply Classical.byContradiction
  intro hlt
  apply h
  have e : cmpI x.1 y.1 = -1 := by rw [cmpI, if_pos (show x.1 < y.1 by omega)]
  rw [cmpL, orL3]
  simp [e]
theorem cmpL_fst' {x y : Lst} (h : cmpL x y < 0) : x.1 ≤ y.1 := by
  apply Classical.byContradiction
  intro hlt
  have e : cmpI x.1 y.1 = 1 := by rw [cmpI, if_neg (show ¬ x.1 < y.1 by omega), if_pos (show y.1 < x.1 by omega)]
  rw [cmpL, orL3] at h
  simp [e] at h
theorem leastP_le : ∀ (l : List Lst) (f : Lst), (leastP f l).1 ≤ f.1 ∧ ∀ x ∈ l, (leastP f l).1 ≤ x.1
  | [], f => ⟨Int.le_refl _, by simp⟩
  | y :: l, f => by
    have e : leastP f (y :: l) = leastP (if cmpL y f < 0 then y else f) l := rfl
    obtain ⟨h1, h2⟩ := leastP_le l (if cmpL y f < 0 then y else f)
    rw [e]
    by_cases hc : cmpL y f < 0
    · rw [if_pos hc] at *
      have := cmpL_fst' hc
      exact ⟨by omega, fun x hx => (List.mem_cons.1 hx).elim (fun e => by rw [e]; exact h1) (h2 x)⟩
    · rw [if_neg hc] at *
      have := cmpL_fst hc
      exact ⟨h1, fun x hx => (List.mem_cons.1 hx).elim (fun e => by rw [e]; omega) (h2 x)⟩
theorem leastOf_le {l : List Lst} {x : Lst} (h : x ∈ l) : (leastOf l).1 ≤ x.1 := by
  cases l with
  | nil => simp at h
  | cons f l =>
    rcases List.mem_cons.1 h with rfl | h
    · exact (leastP_le l x).1
    · exact (leastP_le l f).2 x h

theorem drop_cons {l : List Str} {i : Nat} (h : i < l.length) : l.drop i = l.getD i default :: l.drop (i + 1) := by rw [List.drop_eq_getElem_cons h, getD_at h]
/-- Not dearer than any common sublist allows. -/
theorem diffP_le (old page : List Str) : ∀ (d i j : Nat), (old.length - i) + (page.length - j) ≤ d → i ≤ old.length → j ≤ page.length → ∀ s : List Str, s.Sublist (old.drop i) → s.Sublist (page.drop j) → (diffP old page i j).1 + s.length ≤ (page.length - j : Nat) := by
  intro d
  induction d with
  | zero =>
    intro i j h hi hj s h1 h2
    obtain rfl : i = old.length := by omega
    obtain rfl : j = page.length := by omega
    have hs := h1.length_le
    rw [List.length_drop, Nat.sub_self] at hs
    unfold diffP
    rw [dif_neg (by omega), dif_neg (by omega), dif_neg (by omega), if_pos ⟨rfl, rfl⟩]
    show (0 : Int) + _ ≤ _
    omega
  | succ d ih =>
    intro i j h hi hj s h1 h2
    have ins : ∀ hj2 : j < page.length, (diffP old page i j).1 ≤ (diffP old page i (j + 1)).1 + 1 := by
      intro hj2
      have : (behindP (diffP old page i (j + 1)) (1, (i : Int), page.getD j default)).1 = (diffP old page i (j + 1)).1 + 1 := rfl
      rw [← this]
      conv => lhs; unfold diffP
      exact leastOf_le (by simp [hj2])
    have del : ∀ hi2 : i < old.length, (diffP old page i j).1 ≤ (diffP old page (i + 1) j).1 := by
      intro hi2
      have : (behindP (diffP old page (i + 1) j) (3, (i : Int), [])).1 = (diffP old page (i + 1) j).1 := rfl
      rw [← this]
      conv => lhs; unfold diffP
      exact leastOf_le (by simp [hi2])
    have kp : ∀ (hi2 : i < old.length) (hj2 : j < page.length), old.getD i default = page.getD j default → (diffP old page i j).1 ≤ (diffP old page (i + 1) (j + 1)).1 := by
      intro hi2 hj2 he
      conv => lhs; unfold diffP
      refine leastOf_le (List.mem_append_right _ ?_)
      rw [dif_pos ⟨hi2, hj2⟩, if_pos he]
      simp
    by_cases hi2 : i < old.length
    · rw [drop_cons hi2] at h1
      cases h1 with
      | cons _ h1 =>
        have := ih (i + 1) j (by omega) (by omega) hj s h1 h2
        have := del hi2
        omega
      | cons_cons _ h1 =>
        rename_i s'
        have hj2 : j < page.length := by
          have := h2.length_le
          rw [List.length_drop] at this
          simp at this
          omega
        rw [drop_cons hj2] at h2
        generalize he : old.getD i default = o at *
        cases h2 with
        | cons _ h2 =>
          have := ih i (j + 1) (by omega) hi (by omega) (o :: s') (by rw [drop_cons hi2, he]; exact h1.cons_cons _) h2
          have := ins hj2
          omega
        | cons_cons _ h2 =>
          have := ih (i + 1) (j + 1) (by omega) (by omega) (by omega) s' h1 h2
          have := kp hi2 hj2 rfl
          simp only [List.length_cons]
          omega
    · have hs := h1.length_le
      rw [List.length_drop] at hs
      have hs0 : s = [] := List.length_eq_zero_iff.1 (by omega)
      subst hs0
      by_cases hj2 : j < page.length
      · have := ih i (j + 1) (by omega) hi (by omega) [] (List.nil_sublist _) (List.nil_sublist _)
        have := ins hj2
        simp only [List.length_nil] at *
        omega
      · have := (diffP_bd old page _ i j (Nat.le_refl _)).2.1
        simp only [List.length_nil] at *
        omega
/-- A common sublist as long as the cost allows. -/
def HasS (old page : List Str) (i j : Nat) (c : Int) : Prop := ∃ s : List Str, s.Sublist (old.drop i) ∧ s.Sublist (page.drop j) ∧ (page.length - j : Nat) ≤ c + s.length
theorem diffP_has (old page : List Str) : ∀ (d i j : Nat), (old.length - i) + (page.length - j) ≤ d → i ≤ old.length → j ≤ page.length → HasS old page i j (diffP old page i j).1 := by
  intro d
  induction d with
  | zero =>
    intro i j h hi hj
    exact ⟨[], List.nil_sublist _, List.nil_sublist _, by have := diffP_pos old page i j; simp only [List.length_nil]; omega⟩
  | succ d ih =>
    intro i j h hi hj
    by_cases h00 : ¬ i < old.length ∧ ¬ j < page.length
    · exact ⟨[], List.nil_sublist _, List.nil_sublist _, by have := diffP_pos old page i j; simp only [List.length_nil]; omega⟩
    unfold diffP
    refine (fun (c : List Lst) (hne : c ≠ []) (hc : ∀ x ∈ c, HasS old page i j x.1) => hc _ (leastOf_mem hne)) _ ?_ ?_
    · by_cases h1 : j < page.length
      · simp [h1]
      · by_cases h2 : i < old.length
        · simp [h2]
        · exact absurd ⟨h2, h1⟩ h00
    · intro x hx
      simp only [List.mem_append] at hx
      rcases hx with ((hx | hx) | hx) | hx
      · split at hx
        · rename_i h0; omega
        · simp at hx
      · split at hx
        · rename_i h1
          simp at hx; subst hx
          obtain ⟨s, s1, s2, s3⟩ := ih i (j + 1) (by omega) hi (by omega)
          exact ⟨s, s1, by rw [drop_cons h1]; exact .cons _ s2, by show _ ≤ (diffP old page i (j + 1)).1 + 1 + _; omega⟩
        · simp at hx
      · split at hx
        · rename_i h1
          simp at hx; subst hx
          obtain ⟨s, s1, s2, s3⟩ := ih (i + 1) j (by omega) (by omega) hj
          exact ⟨s, by rw [drop_cons h1]; exact .cons _ s1, s2, s3⟩
        · simp at hx
      · split at hx
        · rename_i h1
          obtain ⟨s, s1, s2, s3⟩ := ih (i + 1) (j + 1) (by omega) (by omega) (by omega)
          rcases List.mem_cons.1 hx with rfl | hx
          · exact ⟨s, by rw [drop_cons h1.1]; exact .cons _ s1, by rw [drop_cons h1.2]; exact .cons _ s2, by show _ ≤ (diffP old page (i + 1) (j + 1)).1 + 1 + _; omega⟩
          · split at hx
            · rename_i h2
              rw [List.mem_singleton] at hx; subst hx
              exact ⟨page.getD j default :: s, by rw [drop_cons h1.1, h2]; exact s1.cons_cons _, by rw [drop_cons h1.2]; exact s2.cons_cons _, by simp only [List.length_cons]; omega⟩
            · simp at hx
        · simp at hx
/-- The price of a diff. -/
theorem diff_price {a b : List Str} {n : Nat} (h : LCS a b n) : (diffP a b 0 0).1 = (b.length : Int) - n := by
  obtain ⟨s, s1, s2, s3⟩ := h.ex
  have h1 := diffP_le a b _ 0 0 (Nat.le_refl _) (Nat.zero_le _) (Nat.zero_le _) s (by simpa using s1) (by simpa using s2)
  obtain ⟨t, t1, t2, t3⟩ := diffP_has a b _ 0 0 (Nat.le_refl _) (Nat.zero_le _) (Nat.zero_le _)
  have := h.le t (by simpa using t1) (by simpa using t2)
  simp only [Nat.sub_zero] at h1 t3
  omega


end Go.Proofs.Ytpbbgbjidhffoaa
