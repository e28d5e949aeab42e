/- Plain law: what the marks of a diff cost. -/
import Derived.Test.YtpbbgbjidhffoaaPqe
namespace Go.Proofs.Ytpbbgbjidhffoaa
open Go Go.W
set_option linter.unusedVariables false
set_option linter.unusedSimpArgs false
set_option maxRecDepth 20000
attribute [local irreducible] HL HC HQ HB Row Rows2 Blk Facts

def PaidOK (x : Lst) : Prop := x.1 = (costM x.2 : Nat)
theorem paid_behind {x : Lst} (m : Mk) (h : PaidOK x) : PaidOK (behindP x m) := by
  unfold PaidOK at *
  unfold behindP costM
  unfold costM at h
  by_cases h3 : m.1 = 3
  · simp [h3, h]
  · simp [h3, h]
theorem diffP_paid (old page : List Str) : ∀ (d i j : Nat), (old.length - i) + (page.length - j) ≤ d → PaidOK (diffP old page i j) := by
  intro d
  induction d with
  | zero =>
    intro i j h
    unfold diffP
    rw [dif_neg (by omega), dif_neg (by omega), dif_neg (by omega)]
    split <;> rfl
  | succ d ih =>
    intro i j h
    unfold diffP
    refine (fun (c : List Lst) (hc : ∀ x ∈ c, PaidOK x) => if hn : c = [] then by rw [hn]; rfl else hc _ (leastOf_mem hn)) _ ?_
    intro x hx
    simp only [List.mem_append] at hx
    rcases hx with ((hx | hx) | hx) | hx
    · split at hx
      · simp at hx; subst hx; rfl
      · simp at hx
    · split at hx
      · simp at hx; subst hx; exact paid_behind _ (ih _ _ (by omega))
      · simp at hx
    · split at hx
      · simp at hx; subst hx; exact paid_behind _ (ih _ _ (by omega))
      · simp at hx
    · split at hx
      · rcases List.mem_cons.1 hx with rfl | hx
        · exact paid_behind _ (ih _ _ (by omega))
        · split at hx
          · rw [List.mem_singleton] at hx; subst hx; exact ih _ _ (by omega)
          · simp at hx
      · simp at hx
/-- The cost of a diff's marks, by the kit's count of common lines. -/
theorem diff_cost {a b : List Str} (ha : pageErr a = 0) (hb : pageErr b = 0) (hbl : ∀ s ∈ b, lineErr s = 0) : costR a (diffP a b 0 0).2 = ((b.length : Int) - commonI a b, 0) := by
  obtain ⟨n, e, l⟩ := common_lcs a b
  have h1 := diff_price l
  have h2 := diffP_paid a b _ 0 0 (Nat.le_refl _)
  unfold PaidOK at h2
  have hd := diffP_dm a b hbl _ 0 0 (Nat.le_refl _) (Nat.zero_le _) (Nat.zero_le _)
  have ha6 := pageErr_zero ha
  have hb6 := pageErr_zero hb
  have hl := (diffP_bd a b _ 0 0 (Nat.le_refl _)).2.2
  have hm := dm_marks hd (by omega)
  have hc : checkErr a (diffP a b 0 0).2 = 0 := by rw [checkErr, if_pos ha]; exact hm
  rw [costR, if_neg (by rw [hc]; decide), ← h2, h1, e]


end Go.Proofs.Ytpbbgbjidhffoaa
