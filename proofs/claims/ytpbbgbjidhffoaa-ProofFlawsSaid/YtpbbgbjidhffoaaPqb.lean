/- Plain laws: the program's Steps is the document's; what marks make is the same; so is Look. -/
import Derived.Test.YtpbbgbjidhffoaaPn
import Derived.Test.YtpbbgbjidhffoaaPqa
namespace Go.Proofs.Ytpbbgbjidhffoaa
open Go Go.W
set_option linter.unusedVariables false
set_option linter.unusedSimpArgs false
set_option maxRecDepth 20000
attribute [local irreducible] HL HC HQ HB Row Rows2 Blk Facts

theorem growF_none {n : Nat} {p : List Int → Bool} : ∀ (d : Nat) (done : List Int), (∀ r, p (done ++ r) = false) → growF n p d done = none
  | 0, done, h => by
    have := h []
    rw [List.append_nil] at this
    rw [growF, if_neg (by rw [this]; decide)]
  | d + 1, done, h => by
    rw [growF, List.findSome?_eq_none_iff]
    intro i _
    split
    · rfl
    · exact growF_none d _ fun r => by rw [List.append_assoc]; exact h _
theorem grow_steps {l : List Mk} {most : Int} {p : List Int → Bool} : ∀ (d : Nat) (done : List Int) (lines : Int), (∀ r, p (done ++ r) = orderOK l most lines r) → growF l.length p d done = stepsF l most d done lines
  | 0, done, lines, h => by
    have := h []
    rw [List.append_nil] at this
    rw [growF, stepsF, if_pos (by rw [this]; rfl)]
  | d + 1, done, lines, h => by
    rw [growF, stepsF]
    congr 1
    funext i
    have hr : ∀ r, p ((done ++ [(i : Int)]) ++ r) = if most < lines + growsM (l.getD i default) then false else orderOK l most (lines + growsM (l.getD i default)) r := by
      intro r
      rw [List.append_assoc, h]
      show orderOK l most lines ((i : Int) :: r) = _
      rw [orderOK, Int.toNat_natCast]
    by_cases h1 : (i : Int) ∈ done
    · rw [if_pos h1, if_pos (.inl h1)]
    · rw [if_neg h1]
      by_cases h2 : most < lines + growsM (l.getD i default)
      · rw [if_pos (.inr h2)]
        exact growF_none d _ fun r => by rw [hr, if_pos h2]
      · rw [if_neg (fun h => h.elim h1 h2)]
        exact grow_steps d _ _ fun r => by rw [hr, if_neg h2]
theorem steps_same (p : List Str) (l : List Mk) (most : Int) : stepsP p l most = stepsR p l most := by
  unfold stepsP stepsR
  rw [grow_steps (l := l) (most := most) (p := orderOK l most p.length) l.length [] p.length (fun r => rfl)]
  split
  · rfl
  · split
    · rfl
    · split
      · rfl
      · split
        · rfl
        · cases h : stepsF l most l.length [] p.length <;> rfl

/-! ### What marks make -/
theorem fold_skip {i : Nat} (l : List Mk) (st : List Str × Str × Bool) : l.foldl (inR i) st = (l.filter fun m => decide (m.2.1 = (i : Int))).foldl (inR i) st := by
  induction l generalizing st with
  | nil => rfl
  | cons m l ih =>
    by_cases h : m.2.1 = (i : Int)
    · rw [List.filter_cons_of_pos (by simpa using h), List.foldl_cons, List.foldl_cons, ih]
    · rw [List.filter_cons_of_neg (by simpa using h), List.foldl_cons, ih]
      congr 1
      rw [inR, if_pos h]
/-- Ascending; at one line all but the last put lines in. -/
def Asc : List Mk → Prop
  | [] => True
  | m :: l => (∀ b ∈ l, m.2.1 < b.2.1 ∨ (m.2.1 = b.2.1 ∧ m.1 = 1)) ∧ Asc l
theorem Asc.filter_lt {l : List Mk} (h : Asc l) (i : Int) : (l.filter fun m => decide (m.2.1 < i + 1)) = (l.filter fun m => decide (m.2.1 < i)) ++ (l.filter fun m => decide (m.2.1 = i)) := by
  induction l with
  | nil => rfl
  | cons m l ih =>
    have ih := ih h.2
    rcases Int.lt_trichotomy m.2.1 i with h1 | h1 | h1
    · rw [List.filter_cons_of_pos (by simp; omega), List.filter_cons_of_pos (by simpa using h1), List.filter_cons_of_neg (by simp; omega), ih, List.cons_append]
    · have hno : (l.filter fun m => decide (m.2.1 < i)) = [] := by
        rw [List.filter_eq_nil_iff]
        intro b hb
        rcases h.1 b hb with h2 | h2 <;> simp <;> omega
      rw [List.filter_cons_of_pos (by simp; omega), List.filter_cons_of_neg (by simp; omega), List.filter_cons_of_pos (by simpa using h1), ih, hno]
      rfl
    · rw [List.filter_cons_of_neg (by simp; omega), List.filter_cons_of_neg (by simp; omega), List.filter_cons_of_neg (by simp; omega), ih]
theorem Asc.filter {l : List Mk} (h : Asc l) (q : Mk → Bool) : Asc (l.filter q) := by
  induction l with
  | nil => exact h
  | cons m l ih =>
    by_cases hq : q m = true
    · rw [List.filter_cons_of_pos hq]
      exact ⟨fun b hb => h.1 b ((List.mem_filter.1 hb).1), ih h.2⟩
    · rw [List.filter_cons_of_neg hq]
      exact ih h.2
def finR (st : List Str × Str × Bool) : List Str := if st.2.2 = true then st.1 ++ [st.2.1] else st.1
theorem drop_same {α : Type} (p : List α) (i : Nat) : (p.take i).drop i = [] := List.drop_eq_nil_of_le (by rw [List.length_take]; omega)
/-- The marks at one line. -/
theorem group_made (p : List Str) (i : Nat) (hi : i ≤ p.length) : ∀ (G : List Mk) (ls : List Str) (nx : Nat), Asc G → (∀ m ∈ G, m.2.1 = (i : Int) ∧ 1 ≤ m.1 ∧ m.1 ≤ 3 ∧ (m.1 = 1 ∨ i < p.length)) → nx ≤ i →
    finR (G.foldl (inR i) (ls ++ (p.take i).drop nx, lineR p i, decide (i < p.length))) = (G.foldl (stepP p) (ls, nx)).1 ++ (p.take (i + 1)).drop (G.foldl (stepP p) (ls, nx)).2 ∧ (G.foldl (stepP p) (ls, nx)).2 ≤ i + 1
  | [], ls, nx, _, _, hnx => by
    refine ⟨?_, by simp only [List.foldl_nil]; omega⟩
    show (if decide (i < p.length) = true then (ls ++ (p.take i).drop nx) ++ [lineR p i] else ls ++ (p.take i).drop nx) = ls ++ (p.take (i + 1)).drop nx
    by_cases h : i < p.length
    · rw [if_pos (decide_eq_true h), lineR, if_pos h, take_succ_getD p i h, List.drop_append_of_le_length (by rw [List.length_take]; omega), List.append_assoc]
    · rw [if_neg (by rw [decide_eq_true_eq]; exact h), List.take_of_length_le (by omega), List.take_of_length_le (by omega)]
  | m :: G, ls, nx, hA, hm, hnx => by
    obtain ⟨hat, h1, h3, hin⟩ := hm m (by simp)
    have hmax : max nx m.2.1.toNat = i := by rw [hat, Int.toNat_natCast]; omega
    have hs : stepP p (ls, nx) m = (deedL m (ls ++ (p.take i).drop nx), (deedN m (i : Nat)).toNat) := by
      unfold stepP
      simp only [hmax]
    rw [List.foldl_cons, List.foldl_cons, hs]
    by_cases k1 : m.1 = 1
    · have e1 : inR i (ls ++ (p.take i).drop nx, lineR p i, decide (i < p.length)) m = (ls ++ (p.take i).drop nx ++ [m.2.2], lineR p i, decide (i < p.length)) := by
        rw [inR, if_neg (by simp [hat]), if_pos k1]
      have e2 : deedL m (ls ++ (p.take i).drop nx) = ls ++ (p.take i).drop nx ++ [m.2.2] := by rw [deedL, if_neg (by omega)]
      have e3 : (deedN m (i : Nat)).toNat = i := by rw [deedN, if_pos k1, Int.toNat_natCast]
      rw [e1, e2, e3]
      have := group_made p i hi G (ls ++ (p.take i).drop nx ++ [m.2.2]) i hA.2 (fun b hb => hm b (by simp [hb])) (Nat.le_refl _)
      rw [drop_same, List.append_nil] at this
      exact this
    · have hG : G = [] := by
        cases G with
        | nil => rfl
        | cons b G =>
          have := hA.1 b (by simp)
          have hb := (hm b (by simp)).1
          rcases this with h | h <;> omega
      subst hG
      have hlt : i < p.length := hin.resolve_left k1
      have e3 : (deedN m (i : Nat)).toNat = i + 1 := by rw [deedN, if_neg k1, hat]; omega
      simp only [List.foldl_nil]
      rw [e3, drop_same, List.append_nil]
      refine ⟨?_, Nat.le_refl _⟩
      by_cases k2 : m.1 = 2
      · rw [inR, if_neg (by simp [hat]), if_neg k1, if_pos k2, deedL, if_neg (by omega), finR, if_pos (by simpa using hlt)]
      · rw [inR, if_neg (by simp [hat]), if_neg k1, if_neg k2, deedL, if_pos (by omega), finR, if_neg (by simp)]
theorem made_upto (p : List Str) (l : List Mk) (hA : Asc l) (hV : MV p.length l) : ∀ i, i ≤ p.length + 1 →
    (List.range i).foldl (outR p l) [] = ((l.filter fun m => decide (m.2.1 < (i : Int))).foldl (stepP p) ([], 0)).1 ++ (p.take i).drop ((l.filter fun m => decide (m.2.1 < (i : Int))).foldl (stepP p) ([], 0)).2 ∧
      ((l.filter fun m => decide (m.2.1 < (i : Int))).foldl (stepP p) ([], 0)).2 ≤ i
  | 0, _ => by
    have : (l.filter fun m => decide (m.2.1 < ((0 : Nat) : Int))) = [] := by
      rw [List.filter_eq_nil_iff]
      intro m hm
      have := hV m hm
      simp; omega
    rw [this]
    exact ⟨by simp, Nat.le_refl _⟩
  | i + 1, hi => by
    obtain ⟨h1, h2⟩ := made_upto p l hA hV i (by omega)
    have hf := hA.filter_lt (i : Int)
    have e0 : ((i + 1 : Nat) : Int) = (i : Int) + 1 := rfl
    rw [e0, hf, List.foldl_append]
    have hg := group_made p i (by omega) (l.filter fun m => decide (m.2.1 = (i : Int))) ((l.filter fun m => decide (m.2.1 < (i : Int))).foldl (stepP p) ([], 0)).1 ((l.filter fun m => decide (m.2.1 < (i : Int))).foldl (stepP p) ([], 0)).2 (hA.filter _) (fun m hm => by
      have hm1 := (List.mem_filter.1 hm).1
      have hm2 := (List.mem_filter.1 hm).2
      have := hV m hm1
      simp at hm2
      refine ⟨hm2, this.1, this.2.1, ?_⟩
      omega) h2
    refine ⟨?_, hg.2⟩
    rw [List.range_succ, List.foldl_append, h1]
    refine Eq.trans ?_ hg.1
    show outR p l _ i = _
    unfold outR
    rw [fold_skip]
    rfl
theorem made_same (p : List Str) (l : List Mk) (hA : Asc l) (hV : MV p.length l) : madeR p l = madeP p l := by
  have h := (made_upto p l hA hV (p.length + 1) (Nat.le_refl _)).1
  have hall : (l.filter fun m => decide (m.2.1 < ((p.length + 1 : Nat) : Int))) = l := by
    rw [List.filter_eq_self]
    intro m hm
    have := hV m hm
    simp; omega
  rw [hall, List.take_of_length_le (by omega)] at h
  exact h
theorem asc_of {l : List Mk} (h : ∀ k, k + 1 < l.length → okNext (l.getD k default) (l.getD (k + 1) default)) : Asc l := by
  induction l with
  | nil => trivial
  | cons m l ih =>
    have h2 : Asc l := ih fun k hk => by
      have := h (k + 1) (by simpa using hk)
      simpa [List.getD_eq_getElem?_getD] using this
    refine ⟨?_, h2⟩
    cases l with
    | nil => intro b hb; simp at hb
    | cons b l =>
      have h0 : okNext m b := by simpa [List.getD_eq_getElem?_getD] using h 0 (by simp)
      intro c hc
      rcases List.mem_cons.1 hc with rfl | hc
      · exact h0
      · have h3 := h2.1 c hc
        rcases h0 with h4 | ⟨h4, h5⟩ <;> rcases h3 with h6 | ⟨h6, h7⟩
        · exact .inl (by omega)
        · exact .inl (by omega)
        · exact .inl (by omega)
        · exact .inr ⟨by omega, h5⟩
theorem marks_asc {n : Nat} {l : List Mk} (h : marksErr n l = 0) : Asc l := by
  refine asc_of fun k hk => ?_
  unfold marksErr at h
  split at h
  · omega
  · have := firstErr_zero h (k + 1) (by simpa using hk)
    unfold markErr at this
    rw [Nat.add_sub_cancel] at this
    generalize l.getD k default = b at *
    generalize l.getD (k + 1) default = m at *
    unfold mErr at this
    unfold okNext
    split at this
    · omega
    · split at this
      · omega
      · split at this
        · first | omega | (rename_i h1; exact absurd this h1)
        · split at this
          · omega
          · split at this
            · omega
            · split at this
              · rename_i h3; omega
              · split at this <;> omega
theorem apply_same (p : List Str) (l : List Mk) : applyP p l = applyR p l := by
  unfold applyP applyR
  split
  · rfl
  · rename_i h
    have h0 := Classical.not_not.1 h
    have hm : marksErr p.length l = 0 := by
      unfold checkErr at h0
      split at h0
      · exact h0
      · rename_i h1; exact absurd h0 h1
    rw [made_same p l (marks_asc hm) (marks_valid hm).2]


end Go.Proofs.Ytpbbgbjidhffoaa
