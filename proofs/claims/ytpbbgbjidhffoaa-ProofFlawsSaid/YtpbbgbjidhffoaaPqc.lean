/- Plain laws: the marks of a diff are valid and make the page; a page's diff with itself is empty. -/
import Derived.Test.YtpbbgbjidhffoaaPn
import Derived.Test.YtpbbgbjidhffoaaPqb
namespace Go.Proofs.Ytpbbgbjidhffoaa
open Go Go.W
set_option linter.unusedVariables false
set_option linter.unusedSimpArgs false
set_option maxRecDepth 20000
attribute [local irreducible] HL HC HQ HB Row Rows2 Blk Facts

theorem words_ok : ∀ s ∈ lineWords, lineErr s = 0 := by decide +kernel
theorem firstErr_all {α : Type} {f : α → Int} : ∀ {l : List α}, (∀ a ∈ l, f a = 0) → firstErr f l = 0
  | [], _ => rfl
  | a :: l, h => by rw [firstErr, if_pos (h a (by simp))]; exact firstErr_all fun b hb => h b (by simp [hb])
theorem page_lines {p : List Str} (h : PageOK p) : ∀ s ∈ p, lineErr s = 0 := fun s hs => words_ok s (h s hs)
theorem page_ok {p : List Str} (h : PageOK p) (h6 : p.length ≤ 6) : pageErr p = 0 := by
  rw [pageErr, if_neg (by omega)]
  exact firstErr_all (page_lines h)
theorem diffE_ok {a b : List Str} (ms : List Mk) (ha : pageErr a = 0) (hb : pageErr b = 0) : diffE a b ms = (ms, 0) := by
  rw [diffE, if_neg (by simp [ha]), if_neg (by simp [hb])]

/-! ### The marks of a diff -/
def finP (old : List Str) (st : List Str × Nat) : List Str := st.1 ++ old.drop st.2
structure DM (old page : List Str) (i j : Nat) (l : List Mk) : Prop where
  v : ∀ m ∈ l, (i : Int) ≤ m.2.1 ∧ m.2.1 ≤ old.length ∧ 1 ≤ m.1 ∧ m.1 ≤ 3 ∧ (m.1 = 1 ∨ m.2.1 < old.length) ∧ textErr m = 0
  a : Asc l
  f : ∀ nx, nx ≤ i → ∀ ls, finP old (l.foldl (stepP old) (ls, nx)) = ls ++ (old.take i).drop nx ++ page.drop j
theorem dm_nil (old page : List Str) : DM old page old.length page.length [] where
  v := by simp
  a := trivial
  f nx _ ls := by simp [finP]
theorem stepP_at {old : List Str} {i nx : Nat} (ls : List Str) (k : Int) (t : Str) (h : nx ≤ i) : stepP old (ls, nx) (k, (i : Int), t) = (deedL (k, (i : Int), t) (ls ++ (old.take i).drop nx), (deedN (k, (i : Int), t) (i : Nat)).toNat) := by
  have hmax : max nx ((k, (i : Int), t) : Mk).2.1.toNat = i := by simp only [Int.toNat_natCast]; omega
  unfold stepP
  simp only [hmax]
theorem dm_ins {old page : List Str} {i j : Nat} {l : List Mk} (hi : i ≤ old.length) (hj : j < page.length) (ht : lineErr (page.getD j default) = 0) (h : DM old page i (j + 1) l) : DM old page i j ((1, (i : Int), page.getD j default) :: l) where
  v m hm := by
    rcases List.mem_cons.1 hm with rfl | hm
    · exact ⟨Int.le_refl _, by simp only; omega, by simp, by simp, .inl rfl, by rw [textErr, if_pos (by simp)]; exact ht⟩
    · exact h.v m hm
  a := ⟨fun b hb => (Int.lt_or_eq_of_le (h.v b hb).1).elim .inl fun e => .inr ⟨e, rfl⟩, h.a⟩
  f nx hnx ls := by
    rw [List.foldl_cons, stepP_at ls 1 _ hnx, deedL, if_neg (by simp), deedN, if_pos rfl, Int.toNat_natCast, h.f i (Nat.le_refl _), drop_same, List.append_nil, List.drop_eq_getElem_cons hj, getD_at hj, List.append_assoc]
    rfl
theorem dm_del {old page : List Str} {i j : Nat} {l : List Mk} (hi : i < old.length) (h : DM old page (i + 1) j l) : DM old page i j ((3, (i : Int), []) :: l) where
  v m hm := by
    rcases List.mem_cons.1 hm with rfl | hm
    · exact ⟨Int.le_refl _, by simp only; omega, by simp, by simp, .inr (by simp only; omega), by rw [textErr, if_neg (by simp), if_neg (by simp)]⟩
    · have := h.v m hm
      exact ⟨by omega, this.2⟩
  a := ⟨fun b hb => by have := (h.v b hb).1; simp only; omega, h.a⟩
  f nx hnx ls := by
    have e : (deedN (3, (i : Int), []) (i : Nat)).toNat = i + 1 := by rw [deedN, if_neg (by simp)]; simp only; omega
    rw [List.foldl_cons, stepP_at ls 3 _ hnx, deedL, if_pos rfl, e, h.f (i + 1) (Nat.le_refl _), drop_same, List.append_nil]
theorem dm_rep {old page : List Str} {i j : Nat} {l : List Mk} (hi : i < old.length) (hj : j < page.length) (ht : lineErr (page.getD j default) = 0) (h : DM old page (i + 1) (j + 1) l) : DM old page i j ((2, (i : Int), page.getD j default) :: l) where
  v m hm := by
    rcases List.mem_cons.1 hm with rfl | hm
    · exact ⟨Int.le_refl _, by simp only; omega, by simp, by simp, .inr (by simp only; omega), by rw [textErr, if_pos (by simp)]; exact ht⟩
    · have := h.v m hm
      exact ⟨by omega, this.2⟩
  a := ⟨fun b hb => by have := (h.v b hb).1; simp only; omega, h.a⟩
  f nx hnx ls := by
    have e : (deedN (2, (i : Int), page.getD j default) (i : Nat)).toNat = i + 1 := by rw [deedN, if_neg (by simp)]; simp only; omega
    rw [List.foldl_cons, stepP_at ls 2 _ hnx, deedL, if_neg (by simp), e, h.f (i + 1) (Nat.le_refl _), drop_same, List.append_nil, List.drop_eq_getElem_cons hj, getD_at hj, List.append_assoc]
    rfl
theorem dm_keep {old page : List Str} {i j : Nat} {l : List Mk} (hi : i < old.length) (hj : j < page.length) (he : old.getD i default = page.getD j default) (h : DM old page (i + 1) (j + 1) l) : DM old page i j l where
  v m hm := by
    have := h.v m hm
    exact ⟨by omega, this.2⟩
  a := h.a
  f nx hnx ls := by
    rw [h.f nx (by omega), take_succ_getD old i hi, List.drop_append_of_le_length (by rw [List.length_take]; omega), List.drop_eq_getElem_cons hj, he, getD_at hj]
    simp only [List.append_assoc]
    rfl
theorem diffP_dm (old page : List Str) (hp : ∀ s ∈ page, lineErr s = 0) : ∀ (d i j : Nat), (old.length - i) + (page.length - j) ≤ d → i ≤ old.length → j ≤ page.length → DM old page i j (diffP old page i j).2 := by
  intro d
  induction d with
  | zero =>
    intro i j h hi hj
    obtain rfl : i = old.length := by omega
    obtain rfl : j = page.length := by omega
    unfold diffP
    rw [dif_neg (by omega), dif_neg (by omega), dif_neg (by omega), if_pos ⟨rfl, rfl⟩]
    exact dm_nil old page
  | succ d ih =>
    intro i j h hi hj
    unfold diffP
    refine (fun (c : List Lst) (hne : c ≠ []) (hc : ∀ x ∈ c, DM old page i j x.2) => hc _ (leastOf_mem hne)) _ ?_ ?_
    · by_cases h1 : j < page.length
      · simp [h1]
      · by_cases h2 : i < old.length
        · simp [h2]
        · rw [if_pos ⟨by omega, by omega⟩]; simp
    · intro x hx
      simp only [List.mem_append] at hx
      rcases hx with ((hx | hx) | hx) | hx
      · split at hx
        · rename_i h0
          obtain ⟨rfl, rfl⟩ := h0
          simp at hx; subst hx
          exact dm_nil old page
        · simp at hx
      · split at hx
        · rename_i h1
          simp at hx; subst hx
          exact dm_ins hi h1 (hp _ (getD_mem h1)) (ih i (j + 1) (by omega) hi (by omega))
        · simp at hx
      · split at hx
        · rename_i h1
          simp at hx; subst hx
          exact dm_del h1 (ih (i + 1) j (by omega) (by omega) hj)
        · simp at hx
      · split at hx
        · rename_i h1
          rcases List.mem_cons.1 hx with rfl | hx
          · exact dm_rep h1.1 h1.2 (hp _ (getD_mem h1.2)) (ih (i + 1) (j + 1) (by omega) (by omega) (by omega))
          · split at hx
            · rename_i h2
              rw [List.mem_singleton] at hx; subst hx
              exact dm_keep h1.1 h1.2 h2 (ih (i + 1) (j + 1) (by omega) (by omega) (by omega))
            · simp at hx
        · simp at hx
theorem asc_next : ∀ {l : List Mk} {k : Nat}, Asc l → k + 1 < l.length → okNext (l.getD k default) (l.getD (k + 1) default)
  | [], k, _, h => by simp at h
  | m :: l, 0, h, hk => by
    have h1 : 0 < l.length := by simpa using hk
    have := h.1 (l.getD 0 default) (getD_mem h1)
    simpa [List.getD_eq_getElem?_getD, okNext] using this
  | m :: l, k + 1, h, hk => by
    have := asc_next (l := l) (k := k) h.2 (by simpa using hk)
    simpa [List.getD_eq_getElem?_getD] using this
theorem dm_marks {old page : List Str} {l : List Mk} (h : DM old page 0 0 l) (hl : l.length ≤ 12) : marksErr old.length l = 0 := by
  rw [marksErr, if_neg (by omega)]
  refine firstErr_all fun k hk => ?_
  have hk := List.mem_range.1 hk
  have hv := h.v _ (getD_mem hk)
  have hn : ¬ k = 0 → okNext (l.getD (k - 1) default) (l.getD k default) := fun h0 => by
    have := asc_next (k := k - 1) h.a (by omega)
    rwa [Nat.sub_add_cancel (by omega)] at this
  unfold markErr mErr
  unfold okNext at hn
  generalize l.getD k default = m at *
  generalize l.getD (k - 1) default = b at *
  rw [if_neg (by omega), if_neg (by split <;> omega), if_neg (by simp [hv.2.2.2.2.2])]
  split
  · rfl
  · rename_i h0
    have := hn h0
    rw [if_neg (by omega), if_pos (by omega)]
theorem diff_makes {a b : List Str} (ha : pageErr a = 0) (hb : pageErr b = 0) (hbl : ∀ s ∈ b, lineErr s = 0) : applyP a (diffP a b 0 0).2 = (b, 0) := by
  have ha6 := pageErr_zero ha
  have hb6 := pageErr_zero hb
  have hd := diffP_dm a b hbl _ 0 0 (Nat.le_refl _) (Nat.zero_le _) (Nat.zero_le _)
  have hl := (diffP_bd a b _ 0 0 (Nat.le_refl _)).2.2
  have hm := dm_marks hd (by omega)
  have hmade : madeP a (diffP a b 0 0).2 = b := by
    have := hd.f 0 (Nat.le_refl _) []
    simpa [finP, madeP] using this
  have hc : checkErr a (diffP a b 0 0).2 = 0 := by rw [checkErr, if_pos ha]; exact hm
  rw [applyP, if_neg (by rw [hc]; decide), hmade, if_neg (by omega)]

/-! ### A page with itself -/
theorem cmp_z1 {x : Lst} (h : 0 ≤ x.1) : ¬ cmpL x (0, []) < 0 := by
  obtain ⟨c, l⟩ := x
  simp only at h
  rw [cmpL, orL3]
  simp only [cmpI]
  rw [if_neg (show ¬ c < 0 by omega)]
  by_cases h1 : 0 < c
  · simp [h1]
  · rw [if_neg h1]
    cases l with
    | nil => simp [cmpMs]
    | cons m l => first | (simp; done) | (simp; split <;> omega)
theorem cmp_z2 {x : Lst} (h : 0 ≤ x.1) (hx : x ≠ (0, [])) : cmpL (0, []) x < 0 := by
  obtain ⟨c, l⟩ := x
  simp only at h
  rw [cmpL, orL3]
  simp only [cmpI]
  by_cases h1 : 0 < c
  · simp [h1]
  · obtain rfl : c = 0 := by omega
    cases l with
    | nil => exact absurd rfl hx
    | cons m l => first | (simp; done) | (simp; split <;> omega)
theorem leastP_zero : ∀ (l : List Lst) (f : Lst), (∀ x ∈ f :: l, 0 ≤ x.1) → (0, []) ∈ f :: l → leastP f l = (0, [])
  | [], f, _, h => by simp at h; rw [← h]; rfl
  | x :: l, f, hc, h => by
    have e : leastP f (x :: l) = leastP (if cmpL x f < 0 then x else f) l := rfl
    rw [e]
    refine leastP_zero l _ ?_ ?_
    · intro y hy
      rcases List.mem_cons.1 hy with rfl | hy
      · split <;> exact hc _ (by simp)
      · exact hc y (by simp [hy])
    · by_cases hf : f = (0, [])
      · subst hf
        rw [if_neg (cmp_z1 (hc x (by simp)))]
        simp
      · rcases List.mem_cons.1 h with h | h
        · exact absurd h.symm hf
        · rcases List.mem_cons.1 h with h | h
          · subst h
            rw [if_pos (cmp_z2 (hc f (by simp)) hf)]
            simp
          · simp [h]
theorem leastOf_zero {l : List Lst} (hc : ∀ x ∈ l, 0 ≤ x.1) (h : (0, []) ∈ l) : leastOf l = (0, []) := by
  cases l with
  | nil => simp at h
  | cons f l => exact leastP_zero l f hc h
theorem diffP_pos (old page : List Str) (i j : Nat) : 0 ≤ (diffP old page i j).1 := (diffP_bd old page _ i j (Nat.le_refl _)).1
theorem behind_pos {x : Lst} (m : Mk) (h : 0 ≤ x.1) : 0 ≤ (behindP x m).1 := by
  unfold behindP; simp only; split <;> omega
theorem diff_self (a : List Str) : ∀ (d i : Nat), a.length - i ≤ d → i ≤ a.length → diffP a a i i = (0, []) := by
  intro d
  induction d with
  | zero =>
    intro i h hi
    obtain rfl : i = a.length := by omega
    unfold diffP
    rw [dif_neg (by omega), dif_neg (by omega), dif_neg (by omega), if_pos ⟨rfl, rfl⟩]
    rfl
  | succ d ih =>
    intro i h hi
    unfold diffP
    refine leastOf_zero ?_ ?_
    · intro x hx
      simp only [List.mem_append] at hx
      rcases hx with ((hx | hx) | hx) | hx
      · split at hx
        · simp at hx; subst hx; simp
        · simp at hx
      · split at hx
        · simp at hx; subst hx; exact behind_pos _ (diffP_pos ..)
        · simp at hx
      · split at hx
        · simp at hx; subst hx; exact behind_pos _ (diffP_pos ..)
        · simp at hx
      · split at hx
        · rcases List.mem_cons.1 hx with rfl | hx
          · exact behind_pos _ (diffP_pos ..)
          · simp at hx; subst hx; exact diffP_pos ..
        · simp at hx
    · by_cases h0 : i = a.length
      · rw [if_pos ⟨h0, h0⟩]; simp
      · have hlt : i < a.length := by omega
        refine List.mem_append_right _ ?_
        rw [dif_pos ⟨hlt, hlt⟩, if_pos rfl, ih (i + 1) (by omega) (by omega)]
        simp


end Go.Proofs.Ytpbbgbjidhffoaa
