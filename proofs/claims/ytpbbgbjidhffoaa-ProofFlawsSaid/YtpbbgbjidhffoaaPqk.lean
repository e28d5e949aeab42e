/- Plain laws of Look: the program's is the document's; what flaws say. -/
import Derived.Test.YtpbbgbjidhffoaaPk
import Derived.Test.YtpbbgbjidhffoaaPqi
import Derived.Test.YtpbbgbjidhffoaaPqf
import Derived.Test.YtpbbgbjidhffoaaPv
namespace Go.Proofs.Ytpbbgbjidhffoaa
open Go Go.W
set_option linter.unusedVariables false
set_option linter.unusedSimpArgs false
set_option maxRecDepth 20000
attribute [local irreducible] HL HC HQ HB Row Rows2 Blk Facts

theorem marks_text {n : Nat} {l : List Mk} (h : marksErr n l = 0) : ∀ m ∈ l, textErr m = 0 := by
  intro m hm
  obtain ⟨k, hk, rfl⟩ := List.getElem_of_mem hm
  unfold marksErr at h
  split at h
  · omega
  · have := firstErr_zero h k (List.mem_range.2 hk)
    unfold markErr at this
    rw [getD_at hk] at this
    generalize l[k] = m at *
    generalize l.getD (k - 1) default = b at *
    by_cases ht : textErr m = 0
    · exact ht
    · unfold mErr at this
      exfalso
      repeat' (split at this)
      all_goals first | omega | contradiction
theorem mk2_mem (p : List Str) : ∀ (l : List Mk) (nx : Nat) (s : Str), s ∈ mk2 p l nx → s ∈ p ∨ ∃ m ∈ l, ¬ m.1 = 3 ∧ s = m.2.2
  | [], nx, s, h => .inl (List.mem_of_mem_drop h)
  | m :: l, nx, s, h => by
    rw [mk2] at h
    rcases List.mem_append.1 h with h | h
    · exact .inl (List.mem_of_mem_take (List.mem_of_mem_drop h))
    · rcases List.mem_append.1 h with h | h
      · split at h
        · simp at h
        · rename_i h3; rw [List.mem_singleton] at h; exact .inr ⟨m, by simp, h3, h⟩
      · rcases mk2_mem p l _ s h with h | ⟨m', h1, h2⟩
        · exact .inl h
        · exact .inr ⟨m', by simp [h1], h2⟩
theorem apply_check {p : List Str} {l : List Mk} (h : (applyP p l).2 = 0) : checkErr p l = 0 ∧ applyP p l = (madeP p l, 0) ∧ (madeP p l).length ≤ 6 := by
  unfold applyP at h ⊢
  split at h
  · rename_i h1; exact absurd h h1
  · rename_i h1
    split at h
    · cases h
    · rename_i h2
      exact ⟨Classical.not_not.1 h1, by rw [if_neg h1, if_neg h2], by omega⟩
theorem check_parts {p : List Str} {l : List Mk} (h : checkErr p l = 0) : pageErr p = 0 ∧ marksErr p.length l = 0 := by
  unfold checkErr at h
  split at h
  · rename_i h1; exact ⟨h1, h⟩
  · rename_i h1; exact absurd h h1
theorem page_line {p : List Str} (h : pageErr p = 0) : ∀ s ∈ p, lineErr s = 0 := by
  unfold pageErr at h
  split at h
  · omega
  · exact firstErr_zero h
theorem applied_ok {p : List Str} {l : List Mk} (h : (applyP p l).2 = 0) : pageErr (applyP p l).1 = 0 := by
  obtain ⟨h1, h2, h3⟩ := apply_check h
  obtain ⟨h4, h5⟩ := check_parts h1
  rw [h2]
  show pageErr (madeP p l) = 0
  rw [pageErr, if_neg (by omega)]
  refine firstErr_all fun s hs => ?_
  rw [made_is p (marks_asc h5) (marks_valid h5).2] at hs
  rcases mk2_mem p l 0 s hs with h6 | ⟨m, h6, h7, rfl⟩
  · exact page_line h4 s h6
  · have := marks_text h5 m h6
    rw [textErr, if_pos h7] at this
    exact this
theorem count_zero {l : List Str} {s : Str} : countN l s = 0 ↔ s ∉ l := by
  unfold countN
  rw [List.length_eq_zero_iff, List.filter_eq_nil_iff]
  constructor
  · intro h hs; have := h s hs; simp at this
  · intro h x hx; simp; rintro rfl; exact h hx
theorem stock_fold (s : Str) : ∀ (ps : List (Sl Str)) (n : Nat), 0 < ps.foldl (fun n p => max n (countN p.l s)) n ↔ 0 < n ∨ ∃ p ∈ ps, s ∈ p.l
  | [], n => by simp
  | p :: ps, n => by
    rw [List.foldl_cons, stock_fold s ps]
    have h := count_zero (l := p.l) (s := s)
    constructor
    · rintro (h1 | ⟨q, h1, h2⟩)
      · by_cases h3 : 0 < n
        · exact .inl h3
        · exact .inr ⟨p, by simp, Classical.byContradiction fun h4 => by have := h.2 h4; omega⟩
      · exact .inr ⟨q, by simp [h1], h2⟩
    · rintro (h1 | ⟨q, h1, h2⟩)
      · exact .inl (by omega)
      · rcases List.mem_cons.1 h1 with rfl | h1
        · exact .inl (by
            have : countN q.l s ≠ 0 := fun h3 => h.1 h3 h2
            omega)
        · exact .inr ⟨q, h1, h2⟩
theorem stock_origin {ps : List (Sl Str)} {s : Str} {n : Nat} (hn : n ≤ ps.length) : 0 < stockN (ps.take n) s ↔ 0 ≤ originN ps s n := by
  unfold stockN
  rw [stock_fold]
  have ho := origin_ok ps s n
  constructor
  · rintro (h | ⟨p, h1, h2⟩)
    · omega
    · obtain ⟨j, hj, rfl⟩ := List.getElem_of_mem h1
      rw [List.length_take] at hj
      rw [List.getElem_take] at h2
      apply Classical.byContradiction
      intro h3
      refine ho.no j (by omega) (by omega) ?_
      rw [getD_at (by omega)]
      exact h2
  · intro h
    right
    have h1 := ho.hi
    have h2 := ho.mem h
    refine ⟨ps.getD (originN ps s n).toNat default, ?_, h2⟩
    rw [getD_at (by omega)]
    have : ps[(originN ps s n).toNat] = (ps.take n)[(originN ps s n).toNat]'(by rw [List.length_take]; omega) := by rw [List.getElem_take]
    rw [this]
    exact List.getElem_mem _
theorem flaw_same (ps : List (Sl Str)) (r : List Str) (m : Mk) : flawP ps r m = flawR ps r m := by
  unfold flawP flawR
  congr 1
  by_cases h : m.1 = 3
  · rw [if_pos h, if_pos h]
  · rw [if_neg h, if_neg h]
    have e : (¬ m.2.2 ∈ r ∧ 0 ≤ originN ps m.2.2 (ps.length - 1)) = (countN r m.2.2 = 0 ∧ 0 < stockN (ps.take (ps.length - 1)) m.2.2) := by
      rw [count_zero, stock_origin (by omega)]
    simp only [e]
theorem look_same (ps : List (Sl Str)) (l : List Mk) (p : List Str) : lookP ps l p = lookR ps l p := by
  unfold lookP lookR
  simp only [← apply_same]
  by_cases h1 : yearsErr (years ps) = 0
  · rw [if_neg (not_not_intro h1), if_neg (not_not_intro h1)]
    by_cases h2 : ps.length = 0
    · rw [if_pos h2, if_pos h2]
    · rw [if_neg h2, if_neg h2]
      by_cases h3 : (applyP (lastP ps).l l).2 = 0
      · rw [if_neg (not_not_intro h3), if_neg (not_not_intro h3)]
        have hr := applied_ok h3
        have hE : ∀ M, diffE (applyP (lastP ps).l l).1 p M = if ¬ pageErr p = 0 then ([], pageErr p) else (M, 0) := fun M => by rw [diffE, if_neg (not_not_intro hr)]
        rw [hE, diff_same]
        by_cases h4 : pageErr p = 0
        · rw [if_neg (not_not_intro h4), if_neg (not_not_intro h4)]
          rw [flaw_same, if_neg (show ¬ ¬ (diffR (applyP (lastP ps).l l).1 p 0 0, (0 : Int)).2 = 0 from not_not_intro rfl)]
        · rw [if_pos h4, if_pos h4]
          rw [if_pos h4]
      · rw [if_pos h3, if_pos h3]
  · rw [if_pos h1, if_pos h1]

/-! ### What flaws say -/
theorem diffP_text (old page : List Str) : ∀ (d i j : Nat), (old.length - i) + (page.length - j) ≤ d → ∀ m ∈ (diffP old page i j).2, m.1 = 3 ∨ m.2.2 ∈ page := by
  intro d
  induction d with
  | zero =>
    intro i j h
    unfold diffP
    rw [dif_neg (by omega), dif_neg (by omega), dif_neg (by omega)]
    split <;> (intro m hm; simp [leastOf, leastP] at hm)
  | succ d ih =>
    intro i j h
    unfold diffP
    refine (fun (c : List Lst) (hc : ∀ x ∈ c, ∀ m ∈ x.2, m.1 = 3 ∨ m.2.2 ∈ page) => if hn : c = [] then by rw [hn]; intro m hm; simp [leastOf] at hm else hc _ (leastOf_mem hn)) _ ?_
    intro x hx
    simp only [List.mem_append] at hx
    rcases hx with ((hx | hx) | hx) | hx
    · split at hx
      · simp at hx; subst hx; intro m hm; simp at hm
      · simp at hx
    · split at hx
      · rename_i hj
        simp at hx; subst hx
        intro m hm
        rcases List.mem_cons.1 hm with rfl | hm
        · exact .inr (getD_mem hj)
        · exact ih _ _ (by omega) m hm
      · simp at hx
    · split at hx
      · simp at hx; subst hx
        intro m hm
        rcases List.mem_cons.1 hm with rfl | hm
        · exact .inl rfl
        · exact ih _ _ (by omega) m hm
      · simp at hx
    · split at hx
      · rename_i hj
        rcases List.mem_cons.1 hx with rfl | hx
        · intro m hm
          rcases List.mem_cons.1 hm with rfl | hm
          · exact .inr (getD_mem hj.2)
          · exact ih _ _ (by omega) m hm
        · split at hx
          · rw [List.mem_singleton] at hx; subst hx; exact ih _ _ (by omega)
          · simp at hx
      · simp at hx
theorem ins_cost (l : List Mk) : insM l ≤ costM l := by
  unfold insM costM
  induction l with
  | nil => simp
  | cons m l ih =>
    by_cases h : m.1 = 1
    · rw [List.filter_cons_of_pos (by simpa using h), List.filter_cons_of_pos (by simp; omega)]
      simp only [List.length_cons]; omega
    · rw [List.filter_cons_of_neg (by simpa using h)]
      by_cases h3 : m.1 = 3
      · rw [List.filter_cons_of_neg (by simpa using h3)]; exact ih
      · rw [List.filter_cons_of_pos (by simpa using h3)]; simp only [List.length_cons]; omega
theorem outs_pos {l : List Mk} {m : Mk} (h : m ∈ l) (h3 : m.1 = 3) : 0 < outsM l := by
  unfold outsM
  exact List.length_pos_of_mem (List.mem_filter.2 ⟨h, by simpa using h3⟩)
/-- The first flaw of a valid proof. -/
def flawV (ps : List (Sl Str)) (R q : List Str) : Int × Int := if (diffP R q 0 0).2.length = 0 then (0, 0) else flawP ps R ((diffP R q 0 0).2.getD 0 default)
structure FlawOK (ps : List (Sl Str)) (R q : List Str) (w : Int × Int) : Prop where
  zero : w = (0, 0) ↔ R = q
  rng : ¬ R = q → 1 ≤ w.1 ∧ w.1 ≤ 3 ∧ 0 ≤ w.2 ∧ w.2 ≤ R.length
  back : w.1 = 2 → ∃ k, k < q.length ∧ q.getD k default ∉ R ∧ ∃ y, y < ps.length - 1 ∧ q.getD k default ∈ (ps.getD y default).l
  lost : w.1 = 1 → commonI R q < R.length
theorem common_bd2 (a b : List Str) : commonI a b ≤ a.length := by
  obtain ⟨n, e, l⟩ := common_lcs a b
  obtain ⟨s, s1, s2, s3⟩ := l.ex
  have := s1.length_le
  omega
theorem flaw_ok (ps : List (Sl Str)) {R q : List Str} (hR : pageErr R = 0) (hq : pageErr q = 0) : FlawOK ps R q (flawV ps R q) := by
  have hql := page_line hq
  have hmk := diff_makes hR hq hql
  have hd := diffP_dm R q hql _ 0 0 (Nat.le_refl _) (Nat.zero_le _) (Nat.zero_le _)
  have hR6 := pageErr_zero hR
  have hq6 := pageErr_zero hq
  have hl := (diffP_bd R q _ 0 0 (Nat.le_refl _)).2.2
  have hm := dm_marks hd (by omega)
  have htx := diffP_text R q _ 0 0 (Nat.le_refl _)
  have hco := diff_cost hR hq hql
  have hck : checkErr R (diffP R q 0 0).2 = 0 := by rw [checkErr, if_pos hR]; exact hm
  rw [costR, if_neg (not_not_intro hck)] at hco
  have hco := congrArg Prod.fst hco
  simp only at hco
  obtain ⟨_, hap, _⟩ := apply_check (p := R) (l := (diffP R q 0 0).2) (by rw [hmk])
  rw [hmk] at hap
  have hmade : madeP R (diffP R q 0 0).2 = q := (congrArg Prod.fst hap).symm
  have hlen := (lines_ok (p := R) hd.a (marks_valid hm).2).len
  rw [hmade] at hlen
  have hself := diff_self R _ 0 (Nat.le_refl _) (Nat.zero_le _)
  unfold flawV
  by_cases h0 : (diffP R q 0 0).2.length = 0
  · rw [if_pos h0]
    have hnil := List.length_eq_zero_iff.1 h0
    have hEq : R = q := by
      rw [hnil] at hmade
      rw [← hmade]
      simp [madeP]
    exact ⟨⟨fun _ => hEq, fun _ => rfl⟩, fun h => absurd hEq h, fun h => by simp at h, fun h => by simp at h⟩
  · rw [if_neg h0]
    have hne : ¬ R = q := by
      rintro rfl
      rw [hself] at h0
      exact h0 rfl
    have hmem : (diffP R q 0 0).2.getD 0 default ∈ (diffP R q 0 0).2 := getD_mem (by omega)
    generalize (diffP R q 0 0).2.getD 0 default = m at *
    have hv := hd.v m hmem
    have ht := htx m hmem
    unfold flawP
    refine ⟨⟨fun h => ?_, fun h => absurd h hne⟩, fun _ => ?_, fun h => ?_, fun h => ?_⟩
    · have := congrArg Prod.fst h
      simp only at this
      split at this
      · omega
      · split at this <;> omega
    · refine ⟨?_, ?_, by simp only; omega, by simp only; omega⟩
      · simp only; split
        · omega
        · split <;> omega
      · simp only; split
        · omega
        · split <;> omega
    · simp only at h
      split at h
      · omega
      · rename_i h3
        split at h
        · rename_i hb
          obtain ⟨k, hk, e⟩ := List.getElem_of_mem (ht.resolve_left h3)
          have ho := origin_ok ps m.2.2 (ps.length - 1)
          have ho1 := ho.hi
          exact ⟨k, hk, by rw [getD_at hk, e]; exact hb.1, (originN ps m.2.2 (ps.length - 1)).toNat, by omega, by rw [getD_at hk, e]; exact ho.mem hb.2⟩
        · omega
    · simp only at h
      have h3 : m.1 = 3 := by
        apply Classical.byContradiction
        intro h3
        rw [if_neg h3] at h
        split at h <;> omega
      have h4 := outs_pos hmem h3
      have h5 := ins_cost (diffP R q 0 0).2
      have h6 := common_bd2 R q
      omega
theorem look_valid {ps : List (Sl Str)} {l : List Mk} {q : List Str} (h1 : yearsErr (years ps) = 0) (h2 : ¬ ps.length = 0) (h3 : (applyP (lastP ps).l l).2 = 0) (h4 : pageErr q = 0) : lookP ps l q = (flawV ps (applyP (lastP ps).l l).1 q, 0) := by
  rw [lookP, if_neg (not_not_intro h1), if_neg h2, if_neg (not_not_intro h3), if_neg (not_not_intro h4)]
  unfold flawV
  split <;> rfl


end Go.Proofs.Ytpbbgbjidhffoaa
