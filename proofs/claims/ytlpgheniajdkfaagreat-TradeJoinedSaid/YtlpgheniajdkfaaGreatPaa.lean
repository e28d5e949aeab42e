/- Layer 04 in plain Lean: what the program computes, and laws about it. -/
import Derived.Test.YtlpgheniajdkfaaGreatT
import Derived.Test.YtlpgheniajdkfaaGreatWp
open Go Go.W
set_option linter.unusedVariables false
set_option linter.unusedSimpArgs false
set_option maxRecDepth 20000
attribute [local irreducible] HL HC HQ HB Row Rows2 Blk Facts

namespace Go.W
abbrev Cl := Str × Int
abbrev PH := Str × Int × Int × List Int
structure Tr where
  cs : List Cl
  hs : List PH
deriving DecidableEq
def wd (s : String) : Str := s.toUTF8.toList
def azB (c : UInt8) : Bool := decide (97 ≤ c.toNat) && decide (c.toNat ≤ 122)
def wClass : Str := [99, 108, 97, 115, 115]
def wFinis : Str := [102, 105, 110, 105, 115]
def wordB (s : Str) : Bool := decide (0 < s.length) && (decide (s.length ≤ 12) && (decide (¬ s = wClass) && (decide (¬ s = wFinis) && s.all azB)))
/-- The error of a class. -/
def clsErr (cs : List Cl) (i : Nat) : Int :=
  if wordB (cs.getD i default).1 = false then 2
  else if (cs.getD i default).1 ∈ (cs.take i).map (·.1) then 4
  else if (cs.getD i default).2 < -1 ∨ (cs.length : Int) ≤ (cs.getD i default).2 then 3
  else if (i : Int) ≤ (cs.getD i default).2 then 5 else 0
/-- The error of a reference. -/
def alsoErr (n i : Nat) (l : List Int) (k : Nat) : Int :=
  if l.getD k default < 0 ∨ (n : Int) ≤ l.getD k default then 3
  else if l.getD k default = (i : Int) then 9
  else if 0 < k ∧ l.getD k default ≤ l.getD (k - 1) default then 5 else 0
def firstE (f : Nat → Int) : Nat → Int
  | 0 => 0
  | n + 1 => if firstE f n = 0 then f n else firstE f n
def kindBad (h : PH) : Bool := (decide (¬ h.2.2.1 = -1) && (decide (¬ h.2.1 = -1) || decide (0 < h.2.2.2.length))) || (decide (h.2.2.1 = -1) && (decide (h.2.1 = -1) && decide (h.2.2.2.length = 0)))
def headErr (t : Tr) (i : Nat) : Int :=
  if wordB (t.hs.getD i default).1 = false then 2
  else if (t.hs.getD i default).1 ∈ (t.hs.take i).map (·.1) then 4
  else if 0 < i ∧ (t.hs.getD i default).1 < (t.hs.getD (i - 1) default).1 then 5
  else if (t.hs.getD i default).2.1 < -1 ∨ (t.cs.length : Int) ≤ (t.hs.getD i default).2.1 ∨ (t.hs.getD i default).2.2.1 < -1 ∨ (t.hs.length : Int) ≤ (t.hs.getD i default).2.2.1 then 3
  else if (t.hs.getD i default).2.2.1 = (i : Int) then 9
  else if ¬ firstE (alsoErr t.hs.length i (t.hs.getD i default).2.2.2) (t.hs.getD i default).2.2.2.length = 0 then firstE (alsoErr t.hs.length i (t.hs.getD i default).2.2.2) (t.hs.getD i default).2.2.2.length
  else if kindBad (t.hs.getD i default) = true then 8 else 0
def checkT (t : Tr) : Int :=
  if 6 < t.cs.length ∨ 6 < t.hs.length then 6
  else if ¬ firstE (clsErr t.cs) t.cs.length = 0 then firstE (clsErr t.cs) t.cs.length
  else firstE (headErr t) t.hs.length
/-- The path of a class. -/
def pathL (cs : List Cl) : Nat → Int → List Int
  | 0, _ => []
  | d + 1, c => if c < 0 then [] else pathL cs d (cs.getD c.toNat default).2 ++ [c]
def pathT (cs : List Cl) (c : Int) : List Int := pathL cs (c.toNat + 1) c
def leastN (p q : List Int) : Nat → Int
  | 0 => -1
  | k + 1 => if (k : Int) ∈ p ∧ (k : Int) ∈ q then (k : Int) else leastN p q k
def leastT (t : Tr) (a b : Int) : Int := leastN (pathT t.cs a) (pathT t.cs b) t.cs.length
def underT (t : Tr) (c : Int) : List Int := ((List.range t.hs.length).filter fun i => decide (¬ (t.hs.getD i default).2.1 = -1) && decide (c ∈ pathT t.cs (t.hs.getD i default).2.1)).map fun i : Nat => (i : Int)
/-- Where one comes to an end; none if nowhere. -/
def followN (hs : List PH) : Nat → Int → Int → Option (Int × Int)
  | 0, _, _ => none
  | d + 1, h, n => if (hs.getD h.toNat default).2.2.1 = -1 then some (h, n) else followN hs d (hs.getD h.toNat default).2.2.1 (n + 1)
def followT (t : Tr) (h : Int) : Option (Int × Int) := followN t.hs (t.hs.length + 1) h 0
def isTrB (t : Tr) (h : Int) : Bool := decide ((t.hs.getD h.toNat default).2.2.1 = -1) && decide (¬ (t.hs.getD h.toNat default).2.1 = -1)
/-- The heading leads to a trade. -/
def leadsB (t : Tr) (b : Str) (h i : Nat) : Bool := decide (b <+: (t.hs.getD h default).1) && (match followT t h with | some (e, _) => decide (e = (i : Int)) && isTrB t e | none => false)
def mayT (t : Tr) (b : Str) : List Int := ((List.range t.hs.length).filter fun i => (List.range t.hs.length).any fun h => leadsB t b h i).map fun i : Nat => (i : Int)
def shortN (t : Tr) (w : Str) : Nat → Nat → Option Str
  | 0, n => none
  | d + 1, n => if (mayT t (w.take n)).length = 1 then some (w.take n) else shortN t w d (n + 1)
def shortT (t : Tr) (h : Int) : Option Str := shortN t (t.hs.getD h.toNat default).1 ((t.hs.getD h.toNat default).1.length + 1) 0

theorem firstE_zero {f : Nat → Int} : ∀ {n : Nat}, firstE f n = 0 → ∀ i, i < n → f i = 0
  | 0, _, i, h => by omega
  | n + 1, h, i, hi => by
    rw [firstE] at h
    by_cases h1 : firstE f n = 0
    · rw [if_pos h1] at h
      by_cases h2 : i = n
      · rw [h2]; exact h
      · exact firstE_zero h1 i (by omega)
    · rw [if_neg h1] at h; exact absurd h h1
theorem firstE_succ {f : Nat → Int} {n : Nat} (h : firstE f n = 0) : firstE f (n + 1) = f n := by rw [firstE, if_pos h]
theorem firstE_stop {f : Nat → Int} {k : Nat} (h0 : firstE f k = 0) (h1 : ¬ f k = 0) : ∀ n, k < n → firstE f n = f k
  | 0, h => by omega
  | n + 1, h => by
    rw [firstE]
    by_cases hk : k = n
    · subst hk; rw [if_pos h0]
    · rw [firstE_stop h0 h1 n (by omega), if_neg h1]
/-- What a valid class is, a valid heading. -/
structure ClsOK (cs : List Cl) (i : Nat) : Prop where
  w : wordB (cs.getD i default).1 = true
  n : (cs.getD i default).1 ∉ (cs.take i).map (·.1)
  lo : -1 ≤ (cs.getD i default).2
  hi : (cs.getD i default).2 < (i : Int)
structure HeadOK (t : Tr) (i : Nat) : Prop where
  w : wordB (t.hs.getD i default).1 = true
  n : (t.hs.getD i default).1 ∉ (t.hs.take i).map (·.1)
  o : ¬ (0 < i ∧ (t.hs.getD i default).1 < (t.hs.getD (i - 1) default).1)
  c : -1 ≤ (t.hs.getD i default).2.1 ∧ (t.hs.getD i default).2.1 < (t.cs.length : Int)
  s : -1 ≤ (t.hs.getD i default).2.2.1 ∧ (t.hs.getD i default).2.2.1 < (t.hs.length : Int) ∧ ¬ (t.hs.getD i default).2.2.1 = (i : Int)
  a : ∀ k, k < (t.hs.getD i default).2.2.2.length → alsoErr t.hs.length i (t.hs.getD i default).2.2.2 k = 0
  k : kindBad (t.hs.getD i default) = false
structure TrOK (t : Tr) : Prop where
  c6 : t.cs.length ≤ 6
  h6 : t.hs.length ≤ 6
  c : ∀ i, i < t.cs.length → ClsOK t.cs i
  h : ∀ i, i < t.hs.length → HeadOK t i
theorem cls_ok {cs : List Cl} {i : Nat} (h : clsErr cs i = 0) : ClsOK cs i := by
  unfold clsErr at h
  split at h
  · omega
  · rename_i h1
    split at h
    · omega
    · rename_i h2
      split at h
      · omega
      · rename_i h3
        split at h
        · omega
        · rename_i h4
          exact ⟨by simpa using h1, h2, by omega, by omega⟩
theorem head_ok {t : Tr} {i : Nat} (h : headErr t i = 0) : HeadOK t i := by
  unfold headErr at h
  split at h
  · omega
  · rename_i h1
    split at h
    · omega
    · rename_i h2
      split at h
      · omega
      · rename_i h3
        split at h
        · omega
        · rename_i h4
          split at h
          · omega
          · rename_i h5
            split at h
            · rename_i h6; exact absurd h h6
            · rename_i h6
              split at h
              · omega
              · rename_i h7
                exact ⟨by simpa using h1, h2, h3, by omega, by omega, firstE_zero (Classical.not_not.1 h6), by simpa using h7⟩
theorem tr_ok {t : Tr} (h : checkT t = 0) : TrOK t := by
  unfold checkT at h
  split at h
  · omega
  · rename_i h1
    split at h
    · rename_i h2; exact absurd h h2
    · rename_i h2
      exact ⟨by omega, by omega, fun i hi => cls_ok (firstE_zero (Classical.not_not.1 h2) i hi), fun i hi => head_ok (firstE_zero h i hi)⟩
theorem also_ok {n i : Nat} {l : List Int} {k : Nat} (h : alsoErr n i l k = 0) : 0 ≤ l.getD k default ∧ l.getD k default < (n : Int) ∧ ¬ l.getD k default = (i : Int) ∧ (0 < k → l.getD (k - 1) default < l.getD k default) := by
  unfold alsoErr at h
  split at h
  · omega
  · split at h
    · omega
    · split at h
      · omega
      · exact ⟨by omega, by omega, by omega, by omega⟩
/-- The three kinds of headings. -/
theorem HeadOK.kinds {t : Tr} {i : Nat} (h : HeadOK t i) : (0 ≤ (t.hs.getD i default).2.2.1 ∧ (t.hs.getD i default).2.1 = -1 ∧ (t.hs.getD i default).2.2.2 = []) ∨ ((t.hs.getD i default).2.2.1 = -1 ∧ 0 ≤ (t.hs.getD i default).2.1) ∨ ((t.hs.getD i default).2.2.1 = -1 ∧ (t.hs.getD i default).2.1 = -1 ∧ (t.hs.getD i default).2.2.2 ≠ []) := by
  have hk := h.k
  have hs := h.s
  have hc := h.c
  unfold kindBad at hk
  generalize t.hs.getD i default = x at *
  simp only [Bool.or_eq_false_iff, Bool.and_eq_false_iff, decide_eq_false_iff_not] at hk
  have hl : x.2.2.2.length = 0 ↔ x.2.2.2 = [] := List.length_eq_zero_iff
  by_cases h1 : x.2.2.1 = -1
  · by_cases h2 : x.2.1 = -1
    · right; right
      refine ⟨h1, h2, fun e => ?_⟩
      rcases hk.2 with h3 | h3 | h3
      · exact h3 h1
      · exact h3 h2
      · exact h3 (hl.2 e)
    · right; left
      exact ⟨h1, by omega⟩
  · left
    rcases hk.1 with h3 | ⟨h3, h4⟩
    · exact absurd h1 h3
    · exact ⟨by omega, Classical.not_not.1 h3, hl.1 (by omega)⟩
theorem pathL_neg (cs : List Cl) (d : Nat) {u : Int} (h : u < 0) : pathL cs d u = [] := by
  cases d with
  | zero => rfl
  | succ d => rw [pathL, if_pos h]
/-- Paths: they go on from the path above, and need no more steps than they have. -/
theorem path_fuel (cs : List Cl) (hc : ∀ i, i < cs.length → ClsOK cs i) : ∀ (d : Nat) (c : Int), c < (cs.length : Int) → c.toNat + 1 ≤ d → pathL cs d c = pathT cs c
  | 0, c, _, h => by omega
  | d + 1, c, hl, h => by
    unfold pathT
    rw [pathL, pathL]
    by_cases h0 : c < 0
    · rw [if_pos h0, if_pos h0]
    · rw [if_neg h0, if_neg h0]
      have hcl := hc c.toNat (by omega)
      have h1 := hcl.lo
      have h2 := hcl.hi
      congr 1
      generalize (cs.getD c.toNat default).2 = u at *
      by_cases hu : u < 0
      · rw [pathL_neg cs d hu, pathL_neg cs c.toNat hu]
      · rw [path_fuel cs hc d u (by omega) (by omega), path_fuel cs hc c.toNat u (by omega) (by omega)]
theorem path_neg (cs : List Cl) {c : Int} (h : c < 0) : pathT cs c = [] := by unfold pathT; rw [pathL, if_pos h]
theorem path_step (cs : List Cl) (hc : ∀ i, i < cs.length → ClsOK cs i) {c : Int} (h0 : 0 ≤ c) (hl : c < (cs.length : Int)) : pathT cs c = pathT cs (cs.getD c.toNat default).2 ++ [c] := by
  have hcl := hc c.toNat (by omega)
  have h1 := hcl.lo
  have h2 := hcl.hi
  conv => lhs; unfold pathT
  rw [pathL, if_neg (by omega)]
  congr 1
  by_cases hu : (cs.getD c.toNat default).2 < 0
  · rw [path_neg cs hu]
    cases hn : c.toNat with
    | zero => rfl
    | succ m => rw [pathL, if_pos (by rw [← hn]; exact hu)]
  · exact path_fuel cs hc c.toNat _ (by omega) (by omega)
/-- Ascending, from 0 on, to the class itself. -/
theorem path_asc (cs : List Cl) (hc : ∀ i, i < cs.length → ClsOK cs i) : ∀ (n : Nat) (c : Int), c.toNat ≤ n → c < (cs.length : Int) → (pathT cs c).Pairwise (· < ·) ∧ ∀ x ∈ pathT cs c, 0 ≤ x ∧ x ≤ c
  | n, c, hn, hl => by
    by_cases h0 : c < 0
    · rw [path_neg cs h0]; simp
    · have hcl := hc c.toNat (by omega)
      have h1 := hcl.lo
      have h2 := hcl.hi
      rw [path_step cs hc (by omega) hl]
      generalize (cs.getD c.toNat default).2 = u at *
      have ih : (pathT cs u).Pairwise (· < ·) ∧ ∀ x ∈ pathT cs u, 0 ≤ x ∧ x ≤ u := by
        by_cases hu : u < 0
        · rw [path_neg cs hu]; simp
        · cases n with
          | zero => omega
          | succ n => exact path_asc cs hc n u (by omega) (by omega)
      refine ⟨List.pairwise_append.2 ⟨ih.1, by simp, fun a ha b hb => ?_⟩, fun x hx => ?_⟩
      · rw [List.mem_singleton] at hb; have := (ih.2 a ha).2; omega
      · rcases List.mem_append.1 hx with hx | hx
        · have := ih.2 x hx; omega
        · rw [List.mem_singleton] at hx; omega
end Go.W


namespace Go.W
structure LeastOK (p q : List Int) (n : Nat) (m : Int) : Prop where
  lo : -1 ≤ m
  hi : m < n
  mem : 0 ≤ m → m ∈ p ∧ m ∈ q
  no : ∀ c : Int, m < c → c < n → c ∈ p → c ∈ q → False
/-! ### Following -/
theorem follow_in {t : Tr} (h : TrOK t) : ∀ (d : Nat) (x n e m : Int), 0 ≤ x → x < (t.hs.length : Int) → followN t.hs d x n = some (e, m) → 0 ≤ e ∧ e < (t.hs.length : Int)
  | 0, x, n, e, m, _, _, hf => by cases hf
  | d + 1, x, n, e, m, h0, hl, hf => by
    rw [followN] at hf
    split at hf
    · cases hf; exact ⟨h0, hl⟩
    · rename_i h1
      have hh := (h.h x.toNat (by omega)).s
      exact follow_in h d _ _ e m (by omega) (by omega) hf
/-! ### What a beginning means -/
end Go.W


namespace Go.W
/-! ### A heading dropped -/
def fallsB (t : Tr) (g : List Bool) (i : Nat) : Bool :=
  if ¬ (t.hs.getD i default).2.2.1 = -1 then g.getD (t.hs.getD i default).2.2.1.toNat default
  else if ¬ (t.hs.getD i default).2.1 = -1 then false
  else (t.hs.getD i default).2.2.2.all fun n => g.getD n.toNat default
def fallStep (t : Tr) (g : List Bool) (i : Nat) : List Bool := g.set i (g.getD i default || fallsB t g i)
def fallRound (t : Tr) (g : List Bool) : List Bool := (List.range t.hs.length).foldl (fallStep t) g
def goneL (t : Tr) (h : Int) : List Bool := (List.range t.hs.length).foldl (fun g _ => fallRound t g) ((List.replicate t.hs.length false).set h.toNat true)
def numB (g : List Bool) (i : Nat) : Int := (((List.range i).filter fun k => !g.getD k default).length : Nat)
def dropH (g : List Bool) (x : PH) : PH := (x.1, x.2.1, (if 0 ≤ x.2.2.1 then numB g x.2.2.1.toNat else x.2.2.1), (x.2.2.2.filter fun a => !g.getD a.toNat default).map fun a => numB g a.toNat)
def dropT (t : Tr) (h : Int) : Tr := ⟨t.cs, ((List.range t.hs.length).filter fun i => !(goneL t h).getD i default).map fun i => dropH (goneL t h) (t.hs.getD i default)⟩
/-! ### Editions compared -/
def insU (s : Str) : List Str → List Str
  | [] => [s]
  | x :: l => if s < x then s :: x :: l else if s = x then x :: l else x :: insU s l
def sortU (ws : List Str) : List Str := ws.foldr insU []
def wordsT (t : Tr) : List Str := t.hs.map (·.1)
def namesN (t : Tr) (s : Str) : Option (List Str) := (t.hs.find? fun h => decide (h.1 = s) && decide (¬ h.2.1 = -1)).map fun h => (pathT t.cs h.2.1).map fun c => (t.cs.getD c.toNat default).1
def moveN (a b : Tr) (s : Str) : Option (Str × Int) :=
  match namesN a s, namesN b s with
  | some _, none => some (s, 1)
  | none, some _ => some (s, 2)
  | some p, some q => if p = q then none else some (s, 3)
  | none, none => none
def compareT (a b : Tr) : List (Str × Int) := (sortU (wordsT a ++ wordsT b)).filterMap (moveN a b)
/-! ### The fewest references -/
def nextB (t : Tr) (h k : Nat) : Bool := decide ((t.hs.getD h default).2.2.1 = (k : Int)) || decide ((k : Int) ∈ (t.hs.getD h default).2.2.2)
abbrev Edges := Nat → Nat → Bool
def reachB (n : Nat) (e : Edges) (h : Nat) : Nat → Nat → Bool
  | 0, i => decide (i = h)
  | s + 1, i => reachB n e h s i || (List.range n).any fun k => reachB n e h s k && e k i
def freeT (t : Tr) : List (Int × Int) := (List.range t.hs.length).flatMap fun i => if (t.hs.getD i default).2.2.1 = -1 then ((List.range t.hs.length).filter fun k => decide (¬ k = i) && !nextB t i k).map fun k : Nat => ((i : Int), (k : Int)) else []
def withE (t : Tr) (r : List (Int × Int)) : Edges := fun h k => nextB t h k || decide (((h : Int), (k : Int)) ∈ r)
def fineB (t : Tr) (h : Int) (s : Int) (r : List (Int × Int)) : Bool := (List.range t.hs.length).all fun i => !isTrB t i || reachB t.hs.length (withE t r) h.toNat s.toNat i
def combos {α : Type} : Nat → List α → List (List α)
  | 0, _ => [[]]
  | k + 1, [] => []
  | k + 1, x :: l => (combos k l).map (x :: ·) ++ combos (k + 1) l
def joinT (t : Tr) (h s : Int) : Option (List (Int × Int)) :=
  if fineB t h s (freeT t) = false then none else ((List.range ((freeT t).length + 1)).flatMap fun m => combos m (freeT t)).find? (fineB t h s)
end Go.W
open Go.W
def shopsT : Tr := ⟨[(wd "food", -1), (wd "bread", 0), (wd "cloth", -1), (wd "hats", 2)], [(wd "baker", 1, -1, []), (wd "bonnets", -1, 3, []), (wd "confectioner", 0, -1, [0]), (wd "hatter", 3, -1, []), (wd "mercer", 2, -1, [3]), (wd "milliner", -1, 1, [])]⟩
def laterT : Tr := ⟨shopsT.cs, [(wd "baker", 1, -1, []), (wd "bonnets", -1, 2, []), (wd "hatter", 2, -1, []), (wd "ironmonger", 0, -1, []), (wd "mercer", 2, -1, [2]), (wd "milliner", -1, 1, [])]⟩


namespace Go.W
theorem reach_mono {n : Nat} {e : Edges} {h : Nat} {i : Nat} : ∀ {s t : Nat}, s ≤ t → reachB n e h s i = true → reachB n e h t i = true := by
  intro s t hst
  induction t with
  | zero => intro hr; obtain rfl : s = 0 := (by omega); exact hr
  | succ t ih =>
    intro hr
    by_cases hs : s = t + 1
    · subst hs; exact hr
    · rw [reachB, ih (by omega) hr, Bool.true_or]
theorem reach_succ {n : Nat} {e : Edges} {h s i : Nat} : reachB n e h (s + 1) i = true ↔ reachB n e h s i = true ∨ ∃ k, k < n ∧ reachB n e h s k = true ∧ e k i = true := by
  rw [reachB, Bool.or_eq_true, List.any_eq_true]
  constructor
  · rintro (h1 | ⟨k, h1, h2⟩)
    · exact .inl h1
    · rw [Bool.and_eq_true] at h2; exact .inr ⟨k, List.mem_range.1 h1, h2⟩
  · rintro (h1 | ⟨k, h1, h2⟩)
    · exact .inl h1
    · exact .inr ⟨k, List.mem_range.2 h1, by rw [Bool.and_eq_true]; exact h2⟩
/-- If nothing comes to it, nothing ever comes to it. -/
theorem reach_still {n : Nat} {e : Edges} {h s : Nat} (hs : ∀ i, i < n → reachB n e h (s + 1) i = true → reachB n e h s i = true) : ∀ (d i : Nat), i < n → reachB n e h (s + d) i = true → reachB n e h s i = true
  | 0, i, _, hr => hr
  | d + 1, i, hi, hr => by
    rw [show s + (d + 1) = (s + d) + 1 by omega, reach_succ] at hr
    rcases hr with hr | ⟨k, h1, h2, h3⟩
    · exact reach_still hs d i hi hr
    · exact hs i hi (reach_succ.2 (.inr ⟨k, h1, reach_still hs d k h1 h2, h3⟩))
theorem count_lt {p q : Nat → Bool} : ∀ {n : Nat}, (∀ i, i < n → p i = true → q i = true) → (∃ i, i < n ∧ q i = true ∧ p i = false) → (List.range n).countP p < (List.range n).countP q
  | 0, _, ⟨i, h, _⟩ => by omega
  | n + 1, h, ⟨i, h1, h2, h3⟩ => by
    rw [List.range_succ, List.countP_append, List.countP_append]
    have hle : (List.range n).countP p ≤ (List.range n).countP q := List.countP_mono_left fun x hx hp => h x (by have := List.mem_range.1 hx; omega) hp
    simp only [List.countP_cons, List.countP_nil]
    by_cases hi : i = n
    · subst hi
      rw [h2, h3]
      simp; omega
    · have := count_lt (n := n) (fun x hx hp => h x (by omega) hp) ⟨i, by omega, h2, h3⟩
      have hn := h n (by omega)
      cases hp : p n
      · simp; split <;> omega
      · rw [hn hp]; simp; omega
/-- After as many steps as there are headings all is found. -/
theorem reach_all {n : Nat} {e : Edges} {h : Nat} (hh : h < n) : ∀ (s : Nat), (∃ k, k ≤ s ∧ ∀ i, i < n → reachB n e h (k + 1) i = true → reachB n e h k i = true) ∨ s < (List.range n).countP (reachB n e h s)
  | 0 => by
    right
    rw [List.countP_pos_iff]
    exact ⟨h, List.mem_range.2 hh, by rw [reachB]; simp⟩
  | s + 1 => by
    rcases reach_all hh s with ⟨k, h1, h2⟩ | h1
    · exact .inl ⟨k, by omega, h2⟩
    · by_cases hs : ∀ i, i < n → reachB n e h (s + 1) i = true → reachB n e h s i = true
      · exact .inl ⟨s, by omega, hs⟩
      · right
        simp only [Classical.not_forall] at hs
        obtain ⟨i, hi, hr, hn⟩ := hs
        have := count_lt (p := reachB n e h s) (q := reachB n e h (s + 1)) (n := n) (fun x _ hp => reach_mono (by omega) hp) ⟨i, hi, hr, by simpa using hn⟩
        omega
theorem reach_cap {n : Nat} {e : Edges} {h : Nat} (hh : h < n) {s i : Nat} (hi : i < n) (hr : reachB n e h s i = true) : reachB n e h n i = true := by
  by_cases hs : s ≤ n
  · exact reach_mono hs hr
  · rcases reach_all (e := e) hh n with ⟨k, h1, h2⟩ | h1
    · exact reach_mono h1 (reach_still h2 (s - k) i hi (by rw [show k + (s - k) = s by omega]; exact hr))
    · have : (List.range n).countP (reachB n e h n) ≤ (List.range n).length := List.countP_le_length
      rw [List.length_range] at this
      omega
/-- The number of steps in which a heading is found, none if it is not. -/
def distB (n : Nat) (e : Edges) (h i : Nat) : Option Nat := (List.range (n + 1)).find? fun s => reachB n e h s i
theorem find_range {p : Nat → Bool} : ∀ {m s : Nat}, (List.range m).find? p = some s ↔ s < m ∧ p s = true ∧ ∀ k, k < s → p k = false
  | 0, s => by simp
  | m + 1, s => by
    rw [List.range_succ, List.find?_append]
    cases hf : (List.range m).find? p with
    | some r =>
      have hr := (find_range (m := m)).1 hf
      simp only [Option.some_or, Option.some.injEq]
      constructor
      · rintro rfl; exact ⟨by omega, hr.2⟩
      · rintro ⟨h1, h2, h3⟩
        rcases Nat.lt_trichotomy r s with h | h | h
        · have := h3 r h; rw [hr.2.1] at this; cases this
        · exact h
        · have := hr.2.2 s h; rw [h2] at this; cases this
    | none =>
      have hn : ∀ k, k < m → p k = false := by
        intro k hk
        have := List.find?_eq_none.1 hf k (List.mem_range.2 hk)
        simpa using this
      simp only [Option.none_or, List.find?_singleton]
      constructor
      · intro h
        split at h
        · rename_i hp; cases h; exact ⟨by omega, hp, hn⟩
        · cases h
      · rintro ⟨h1, h2, h3⟩
        by_cases hs : s = m
        · subst hs; rw [if_pos h2]
        · have := hn s (by omega); rw [h2] at this; cases this
theorem dist_some {n : Nat} {e : Edges} {h i s : Nat} : distB n e h i = some s ↔ s < n + 1 ∧ reachB n e h s i = true ∧ ∀ k, k < s → reachB n e h k i = false := find_range
theorem dist_none {n : Nat} {e : Edges} {h i : Nat} : distB n e h i = none ↔ ∀ s, s ≤ n → reachB n e h s i = false := by
  unfold distB
  rw [List.find?_eq_none]
  constructor
  · intro h s hs; simpa using h s (List.mem_range.2 (by omega))
  · intro h s hs; simp [h s (by have := List.mem_range.1 hs; omega)]
def distI (n : Nat) (e : Edges) (h i : Nat) : Int := match distB n e h i with | some s => (s : Int) | none => -1
def stepsT (t : Tr) (h : Int) : List Int := (List.range t.hs.length).map fun i => distI t.hs.length (nextB t) h.toNat i
theorem dist_le {n : Nat} {e : Edges} {h i : Nat} (hh : h < n) (hi : i < n) (s : Nat) : (0 ≤ distI n e h i ∧ distI n e h i ≤ (s : Int)) ↔ reachB n e h s i = true := by
  unfold distI
  cases hd : distB n e h i with
  | some r =>
    have hr := dist_some.1 hd
    simp only
    constructor
    · rintro ⟨_, h2⟩; exact reach_mono (by omega) hr.2.1
    · intro h2
      refine ⟨by omega, ?_⟩
      apply Classical.byContradiction
      intro hn
      have := hr.2.2 s (by omega)
      rw [h2] at this; cases this
  | none =>
    have hr := dist_none.1 hd
    simp only
    constructor
    · rintro ⟨h1, _⟩; omega
    · intro h2
      have := hr n (Nat.le_refl _)
      rw [reach_cap hh hi h2] at this; cases this
end Go.W


namespace Go.W
theorem slt_irr (a : Str) : ¬ a < a := List.lt_irrefl a
theorem slt_tri {a b : Str} (h1 : ¬ a < b) (h2 : ¬ b < a) : a = b := List.le_antisymm (List.not_lt.1 h2) (List.not_lt.1 h1)
theorem insU_mem {s x : Str} : ∀ {l : List Str}, x ∈ insU s l ↔ x = s ∨ x ∈ l
  | [] => by simp [insU]
  | y :: l => by
    rw [insU]
    split
    · simp
    · split
      · rename_i h; subst h; simp
      · rw [List.mem_cons, insU_mem (l := l), List.mem_cons]
        constructor
        · rintro (h | h | h)
          · exact .inr (.inl h)
          · exact .inl h
          · exact .inr (.inr h)
        · rintro (h | h | h)
          · exact .inr (.inl h)
          · exact .inl h
          · exact .inr (.inr h)
theorem insU_sorted {s : Str} : ∀ {l : List Str}, l.Pairwise (· < ·) → (insU s l).Pairwise (· < ·)
  | [], _ => by simp [insU]
  | y :: l, h => by
    rw [insU]
    have h1 := List.pairwise_cons.1 h
    split
    · rename_i hs
      exact List.pairwise_cons.2 ⟨fun z hz => by
        rcases List.mem_cons.1 hz with rfl | hz
        · exact hs
        · exact List.lt_trans hs (h1.1 z hz), h⟩
    · rename_i hs
      split
      · exact h
      · rename_i hne
        refine List.pairwise_cons.2 ⟨fun z hz => ?_, insU_sorted h1.2⟩
        rcases insU_mem.1 hz with rfl | hz
        · apply Classical.byContradiction
          intro hn
          exact hne (slt_tri hs hn)
        · exact h1.1 z hz
theorem sortU_mem {x : Str} : ∀ {ws : List Str}, x ∈ sortU ws ↔ x ∈ ws
  | [] => by simp [sortU]
  | w :: ws => by
    show x ∈ insU w (sortU ws) ↔ _
    rw [insU_mem, sortU_mem, List.mem_cons]
theorem sortU_sorted : ∀ ws : List Str, (sortU ws).Pairwise (· < ·)
  | [] => by simp [sortU]
  | w :: ws => insU_sorted (sortU_sorted ws)
/-- A strictly ascending list is known by what it has. -/
theorem asc_uniq : ∀ {l l' : List Str}, l.Pairwise (· < ·) → l'.Pairwise (· < ·) → (∀ x, x ∈ l ↔ x ∈ l') → l = l'
  | [], [], _, _, _ => rfl
  | [], y :: l', _, _, h => by have := (h y).2 (by simp); simp at this
  | x :: l, [], _, _, h => by have := (h x).1 (by simp); simp at this
  | x :: l, y :: l', h1, h2, h => by
    have p1 := List.pairwise_cons.1 h1
    have p2 := List.pairwise_cons.1 h2
    have e : x = y := by
      rcases List.mem_cons.1 ((h x).1 (by simp)) with e | e
      · exact e
      · rcases List.mem_cons.1 ((h y).2 (by simp)) with e2 | e2
        · exact e2.symm
        · exact absurd (List.lt_trans (p2.1 x e) (p1.1 y e2)) (slt_irr y)
    subst e
    congr 1
    refine asc_uniq p1.2 p2.2 fun z => ?_
    have hz := h z
    rw [List.mem_cons, List.mem_cons] at hz
    constructor
    · intro hm
      rcases hz.1 (.inr hm) with e | e
      · subst e; exact absurd (p1.1 z hm) (slt_irr z)
      · exact e
    · intro hm
      rcases hz.2 (.inr hm) with e | e
      · subst e; exact absurd (p2.1 z hm) (slt_irr z)
      · exact e
def flipK (m : Str × Int) : Str × Int := (m.1, if m.2 = 1 then 2 else if m.2 = 2 then 1 else m.2)
structure MoveOK (a b : Tr) (m : Str × Int) : Prop where
  k1 : m.2 = 1 → (namesN a m.1).isSome = true ∧ (namesN b m.1).isSome = false
  k2 : m.2 = 2 → (namesN a m.1).isSome = false ∧ (namesN b m.1).isSome = true
  k3 : m.2 = 3 → (namesN a m.1).isSome = true ∧ (namesN b m.1).isSome = true
  k : m.2 = 1 ∨ m.2 = 2 ∨ m.2 = 3
end Go.W

