/- Trades made of numbers are valid. -/
import Derived.Test.YtlpgheniajdkfaaPbc
import Derived.Test.YtlpgheniajdkfaaPao
namespace Go.Proofs.Ytlpgheniajdkfaa
open Go Go.W
set_option linter.unusedVariables false
set_option linter.unusedSimpArgs false
set_option maxRecDepth 20000
attribute [local irreducible] HL HC HQ HB Row Rows2 Blk Facts

theorem firstE_all {f : Nat → Int} : ∀ {n : Nat}, (∀ i, i < n → f i = 0) → firstE f n = 0
  | 0, _ => rfl
  | n + 1, h => by rw [firstE, if_pos (firstE_all fun i hi => h i (by omega))]; exact h n (by omega)
def sortN (names : List Int) (i : Nat) : Str := sortsL.getD (names.getD i default).toNat default
def callN (words : List Int) (i : Nat) : Str := callingsL.getD (words.getD i default).toNat default
theorem sorts_word : ∀ k, k < 9 → wordB (sortsL.getD k default) = true := by decide
theorem calls_word : ∀ k, k < 16 → wordB (callingsL.getD k default) = true := by decide
theorem sorts_inj : ∀ a, a < 9 → ∀ b, b < 9 → sortsL.getD a default = sortsL.getD b default → a = b := by decide
theorem calls_asc : ∀ b, b < 16 → ∀ a, a < b → callingsL.getD a default < callingsL.getD b default := by decide
theorem rng_at {names : List Int} {n i : Nat} (hP : names.Perm (rngI n)) (hi : i < n) : 0 ≤ names.getD i default ∧ names.getD i default < (n : Int) := by
  have hl : names.length = n := by rw [hP.length_eq, rng_len]
  have hm : names.getD i default ∈ rngI n := hP.mem_iff.1 (getD_mem (by omega))
  obtain ⟨k, hk, e⟩ := List.mem_map.1 hm
  have := List.mem_range.1 hk
  omega
theorem rng_inj {names : List Int} {n i j : Nat} (hP : names.Perm (rngI n)) (hi : i < n) (hj : j < i) : ¬ names.getD j default = names.getD i default := by
  have hl : names.length = n := by rw [hP.length_eq, rng_len]
  have hnd : names.Nodup := hP.nodup_iff.2 (by
    unfold rngI
    rw [List.nodup_iff_pairwise_ne, List.pairwise_map]
    exact List.pairwise_lt_range.imp fun h => by omega)
  rw [getD_at (show j < names.length by omega), getD_at (show i < names.length by omega)]
  intro e
  have := (List.getElem_inj hnd).1 e
  omega
/-- Classes as they are made. -/
def ClsMade (names : List Int) (cs : List Cl) : Prop := ∀ i, i < cs.length → (cs.getD i default).1 = sortN names i ∧ -1 ≤ (cs.getD i default).2 ∧ (cs.getD i default).2 < (i : Int)
theorem ClsMade.snoc {names : List Int} {cs : List Cl} (h : ClsMade names cs) {u : Int} (h1 : -1 ≤ u) (h2 : u < (cs.length : Int)) : ClsMade names (cs ++ [(sortN names cs.length, u)]) := by
  intro i hi
  rw [List.length_append, List.length_singleton] at hi
  rw [getD_at (by simp; omega)]
  by_cases e : i < cs.length
  · rw [List.getElem_append_left e, ← getD_at e]
    exact h i e
  · obtain rfl : i = cs.length := by omega
    rw [List.getElem_append_right (by omega)]
    simp only [Nat.sub_self, List.getElem_cons_zero]
    exact ⟨trivial, h1, h2⟩
theorem cls_all {names : List Int} {cs : List Cl} (hP : names.Perm (rngI 9)) (h : ClsMade names cs) (h6 : cs.length ≤ 6) (i : Nat) (hi : i < cs.length) : clsErr cs i = 0 := by
  obtain ⟨e1, e2, e3⟩ := h i hi
  have hr := rng_at hP (show i < 9 by omega)
  unfold clsErr
  rw [if_neg, if_neg, if_neg (by omega), if_neg (by omega)]
  · intro hm
    obtain ⟨x, hx, ex⟩ := List.mem_map.1 hm
    obtain ⟨j, hj, rfl⟩ := List.getElem_of_mem hx
    rw [List.length_take] at hj
    have hj2 : j < i := by omega
    rw [List.getElem_take, ← getD_at (show j < cs.length by omega), (h j (by omega)).1, e1] at ex
    have hrj := rng_at hP (show j < 9 by omega)
    have := sorts_inj _ (by omega) _ (by omega) ex
    exact rng_inj hP (show i < 9 by omega) hj2 (by omega)
  · rw [e1]
    have := sorts_word (names.getD i default).toNat (by omega)
    unfold sortN
    rw [this]
    decide
/-- Headings as they are made. -/
def HdMade (nc n i : Nat) (h : Hd) : Prop := (∀ k, k < h.2.2.2.l.length → alsoErr n i h.2.2.2.l k = 0) ∧ ((0 ≤ h.2.2.1 ∧ h.2.2.1 < (n : Int) ∧ ¬ h.2.2.1 = (i : Int) ∧ h.2.1 = -1 ∧ h.2.2.2.l = []) ∨ (h.2.2.1 = -1 ∧ 0 ≤ h.2.1 ∧ h.2.1 < (nc : Int)) ∨ (h.2.2.1 = -1 ∧ h.2.1 = -1 ∧ h.2.2.2.l ≠ []))
def HsMade (words : List Int) (nc n : Nat) (hs : List Hd) : Prop := ∀ i, i < hs.length → (hs.getD i default).1 = callN words i ∧ HdMade nc n i (hs.getD i default)
theorem HsMade.snoc {words : List Int} {nc n : Nat} {hs : List Hd} (h : HsMade words nc n hs) {x : Hd} (h1 : x.1 = callN words hs.length) (h2 : HdMade nc n hs.length x) : HsMade words nc n (hs ++ [x]) := by
  intro i hi
  rw [List.length_append, List.length_singleton] at hi
  rw [getD_at (by simp; omega)]
  by_cases e : i < hs.length
  · rw [List.getElem_append_left e, ← getD_at e]
    exact h i e
  · obtain rfl : i = hs.length := by omega
    rw [List.getElem_append_right (by omega)]
    simp only [Nat.sub_self, List.getElem_cons_zero]
    exact ⟨h1, h2⟩
theorem asc_at {l : List Int} (h : l.Pairwise (· < ·)) {j i : Nat} (hji : j < i) (hi : i < l.length) : l.getD j default < l.getD i default := by
  rw [getD_at (show j < l.length by omega), getD_at hi]
  exact (List.pairwise_iff_getElem.1 h) j i (by omega) hi hji
theorem calls_at {words : List Int} (h : words.Pairwise (· < ·)) (h2 : ∀ v ∈ words, 0 ≤ v ∧ v < 16) {j i : Nat} (hji : j < i) (hi : i < words.length) : callN words j < callN words i := by
  have h3 := asc_at h hji hi
  have h4 := h2 _ (getD_mem (show j < words.length by omega))
  have h5 := h2 _ (getD_mem hi)
  exact calls_asc _ (by omega) _ (by omega)
theorem kind_made {n nc i : Nat} {h : Hd} (e : (0 ≤ h.2.2.1 ∧ h.2.2.1 < (n : Int) ∧ ¬ h.2.2.1 = (i : Int) ∧ h.2.1 = -1 ∧ h.2.2.2.l = []) ∨ (h.2.2.1 = -1 ∧ 0 ≤ h.2.1 ∧ h.2.1 < (nc : Int)) ∨ (h.2.2.1 = -1 ∧ h.2.1 = -1 ∧ h.2.2.2.l ≠ [])) : kindBad h.p = false := by
  have e1 : h.p.2.2.1 = h.2.2.1 := rfl
  have e2 : h.p.2.1 = h.2.1 := rfl
  have e3 : h.p.2.2.2 = h.2.2.2.l := rfl
  unfold kindBad
  rw [e1, e2, e3]
  rcases e with ⟨h1, _, _, h2, h3⟩ | ⟨h1, h2, _⟩ | ⟨h1, h2, h3⟩
  · have h4 : ¬ h.2.2.1 = -1 := by omega
    rw [h2, h3, decide_eq_false h4]; simp
  · have h4 : ¬ h.2.1 = -1 := by omega
    rw [h1, decide_eq_false h4]; simp
  · have h4 : ¬ h.2.2.2.l.length = 0 := fun e => h3 (List.eq_nil_of_length_eq_zero e)
    rw [h1, h2, decide_eq_false h4]; simp
theorem head_all {words : List Int} {cs : List Cl} {hs : List Hd} {n : Nat} (hw : words.Pairwise (· < ·)) (hw2 : ∀ v ∈ words, 0 ≤ v ∧ v < 16) (hn : words.length = n) (hl : hs.length = n) (h : HsMade words cs.length n hs) (i : Nat) (hi : i < n) : headErr (trOf cs hs) i = 0 := by
  obtain ⟨e1, e2, e3⟩ := h i (by omega)
  have hg : ∀ j, j < n → (trOf cs hs).hs.getD j default = (hs.getD j default).p := fun j hj => hd_get (by omega)
  have hlen : (trOf cs hs).hs.length = n := by rw [hs_len, hl]
  have hwi := hw2 _ (getD_mem (show i < words.length by omega))
  unfold headErr
  rw [hlen, hg i hi]
  rw [if_neg, if_neg, if_neg, if_neg, if_neg, if_neg, if_neg]
  · rw [kind_made e3]; decide
  · rw [Classical.not_not]
    exact firstE_all e2
  · show ¬ (hs.getD i default).2.2.1 = (i : Int)
    rcases e3 with ⟨_, _, h1, _, _⟩ | ⟨h1, _, _⟩ | ⟨h1, _, _⟩ <;> omega
  · show ¬ ((hs.getD i default).2.1 < -1 ∨ (cs.length : Int) ≤ (hs.getD i default).2.1 ∨ (hs.getD i default).2.2.1 < -1 ∨ (n : Int) ≤ (hs.getD i default).2.2.1)
    rcases e3 with ⟨h1, h2, _, h3, _⟩ | ⟨h1, h2, h3⟩ | ⟨h1, h2, _⟩ <;> omega
  · rintro ⟨h0, hlt⟩
    rw [hg (i - 1) (by omega)] at hlt
    have h1 : (hs.getD i default).1 < (hs.getD (i - 1) default).1 := hlt
    rw [e1, (h (i - 1) (by omega)).1] at h1
    exact slt_irr _ (List.lt_trans h1 (calls_at hw hw2 (show i - 1 < i by omega) (by omega)))
  · intro hm
    obtain ⟨x, hx, ex⟩ := List.mem_map.1 hm
    obtain ⟨j, hj, rfl⟩ := List.getElem_of_mem hx
    rw [List.length_take, hlen] at hj
    have hj2 : j < i := by omega
    rw [List.getElem_take, ← getD_at (show j < (trOf cs hs).hs.length by rw [hlen]; omega), hg j (by omega)] at ex
    have h1 : (hs.getD j default).1 = (hs.getD i default).1 := ex
    rw [(h j (by omega)).1, e1] at h1
    have h2 := calls_at hw hw2 hj2 (by omega)
    rw [h1] at h2
    exact slt_irr _ h2
  · show ¬ wordB (hs.getD i default).1 = false
    rw [e1]
    have := calls_word (words.getD i default).toNat (by omega)
    unfold callN
    rw [this]
    decide
theorem made_ok {names words : List Int} {cs : List Cl} {hs : List Hd} (hP : names.Perm (rngI 9)) (hC : ClsMade names cs) (h6 : cs.length ≤ 6) (hw : words.Pairwise (· < ·)) (hw2 : ∀ v ∈ words, 0 ≤ v ∧ v < 16) (hl : hs.length = words.length) (hn : words.length ≤ 6) (h : HsMade words cs.length words.length hs) : checkT (trOf cs hs) = 0 := by
  unfold checkT
  have hlen : (trOf cs hs).hs.length = words.length := by rw [hs_len, hl]
  have h1 : firstE (clsErr cs) cs.length = 0 := firstE_all fun i hi => cls_all hP hC h6 i hi
  have h2 : firstE (headErr (trOf cs hs)) words.length = 0 := firstE_all fun i hi => head_all hw hw2 rfl hl h i hi
  rw [hlen, if_neg (by show ¬ (6 < cs.length ∨ 6 < words.length); omega), if_neg (by rw [Classical.not_not]; exact h1)]
  exact h2
/-- References as they are made. -/
def AscB (i k : Nat) (l : List Int) : Prop := l.Pairwise (· < ·) ∧ ∀ x ∈ l, 0 ≤ x ∧ x < (k : Int) ∧ ¬ x = (i : Int)
theorem AscB.step {i k : Nat} {l : List Int} (h : AscB i k l) : AscB i (k + 1) l := ⟨h.1, fun x hx => by have := h.2 x hx; omega⟩
theorem AscB.snoc {i k : Nat} {l : List Int} (h : AscB i k l) (hk : ¬ k = i) : AscB i (k + 1) (l ++ [(k : Int)]) := by
  refine ⟨List.pairwise_append.2 ⟨h.1, by simp, fun a ha b hb => ?_⟩, fun x hx => ?_⟩
  · rw [List.mem_singleton] at hb; have := (h.2 a ha).2.1; omega
  · rcases List.mem_append.1 hx with hx | hx
    · have := h.2 x hx; omega
    · rw [List.mem_singleton] at hx; omega
theorem AscB.err {i n : Nat} {l : List Int} (h : AscB i n l) (k : Nat) (hk : k < l.length) : alsoErr n i l k = 0 := by
  have h1 := h.2 _ (getD_mem hk)
  unfold alsoErr
  rw [if_neg (by omega), if_neg h1.2.2, if_neg]
  rintro ⟨h0, h2⟩
  have := asc_at h.1 (show k - 1 < k by omega) hk
  omega
theorem AscB.len {i n : Nat} {l : List Int} (h : AscB i n l) : l.length ≤ n := by
  have hg := asc_ge (l := l) fun k hk => ⟨(h.2 _ (getD_mem hk)).1, fun h0 => asc_at h.1 (show k - 1 < k by omega) hk⟩
  by_cases h0 : l.length = 0
  · omega
  · have h1 := hg (l.length - 1) (by omega)
    have h2 := (h.2 _ (getD_mem (show l.length - 1 < l.length by omega))).2.1
    omega
/-- A pointer from i, past i. -/
theorem past {n i : Nat} {v : Int} (hi : i < n) (h0 : 0 ≤ v) (h1 : v ≤ (n : Int) - 2) : 0 ≤ (((i : Int) + 1 + v).tmod n) ∧ (((i : Int) + 1 + v).tmod n) < (n : Int) ∧ ¬ (((i : Int) + 1 + v).tmod n) = (i : Int) := by
  rw [Int.tmod_eq_emod_of_nonneg (by omega)]
  by_cases h : (i : Int) + 1 + v < (n : Int)
  · rw [Int.emod_eq_of_lt (by omega) h]; omega
  · have e : ((i : Int) + 1 + v) % (n : Int) = (i : Int) + 1 + v - n := by
      rw [← Int.sub_emod_right]
      exact Int.emod_eq_of_lt (by omega) (by omega)
    rw [e]; omega

end Go.Proofs.Ytlpgheniajdkfaa
