/- Texts. -/

import Derived.Test.YtpihanmcnmlodaaGreatDoorAAe
import Derived.Test.YtpihanmcnmlodaaGreatDoorAAd
set_option linter.unusedVariables false
set_option linter.unusedSimpArgs false
section
namespace Go.Proofs.YtpihanmcnmlodaaGreatDoor
open Go Go.W Tryz T F
set_option maxRecDepth 20000
attribute [local irreducible] HL HC HQ HB Row Rows2 Blk Facts
def lineBad (u : UInt8) : Bool := (decide ((u.toNat : Int) < 97) || decide (122 < (u.toNat : Int))) && (decide ((u.toNat : Int) < 48) || decide (57 < (u.toNat : Int))) && decide (¬ (u.toNat : Int) = 32)
def lineErr (s : Str) : Int := if s.length = 0 then 7 else if 10 < s.length then 10 else if s.any lineBad then 2 else if s.take 1 = [32] ∨ s.drop (s.length - 1) = [32] then 2 else 0
def firstErr {α : Type} (f : α → Int) : List α → Int
  | [] => 0
  | a :: l => if f a = 0 then firstErr f l else f a
def pageErr (p : List Str) : Int := if 6 < p.length then 6 else firstErr lineErr p
theorem hJ {α : Type} {f : α → Int} {l : List α} {k : Nat} (hk : k < l.length) (h : firstErr f (l.take k) = 0) : firstErr f (l.take (k + 1)) = f l[k] := by
  induction l generalizing k with
  | nil => simp at hk
  | cons a l ih =>
    cases k with
    | zero => simp [firstErr]; intro h; exact h.symm
    | succ k =>
      simp only [List.take_succ_cons, firstErr] at h ⊢
      split at h
      · rename_i h0
        rw [if_pos h0]; exact ih (by simpa using hk) h
      rename_i h0; exact absurd h h0
theorem nQ {α : Type} {f : α → Int} {l : List α} {k : Nat} (hk : k < l.length) (h : firstErr f (l.take k) = 0) (h1 : ¬ f l[k] = 0) : firstErr f l = f l[k] := by
  induction l generalizing k with
  | nil => simp at hk
  | cons a l ih =>
    cases k with
    | zero => simp at h1; simp [firstErr, h1]
    | succ k =>
      simp only [List.take_succ_cons, firstErr] at h ⊢
      split at h
      · rename_i h0
        rw [if_pos h0]; exact ih (by simpa using hk) h (by simpa using h1)
      rename_i h0; exact absurd h h0
theorem gj3 {α : Type} {f : α → Bool} {l : List α} {k : Nat} (hk : k < l.length) (h : (l.take k).any f = false) (h1 : f l[k] = false) : (l.take (k + 1)).any f = false := by
  rw [List.take_succ_eq_append_getElem hk, List.any_append, h]; simp [h1]
theorem any_at {α : Type} {f : α → Bool} {l : List α} {k : Nat} (hk : k < l.length) (h1 : f l[k] = true) : l.any f = true := List.any_eq_true.2 ⟨_, List.getElem_mem hk, h1⟩
theorem z8 {α : Type} [Inhabited α] {l : List α} {k : Nat} (hk : k < l.length) : l.getD k default = l[k] := by simp [List.getD_eq_getElem?_getD, hk]
theorem L8 (s p : Str) (hs : s.length ≤ 1000000) (hp : p.length ≤ 1000000) :
    Meets prog A7 [str s, str p] { val := fun _ : Unit => .bool (decide (p.length ≤ s.length ∧ s.take p.length = p)) } := by
 refine d5 M8 rfl r4 fun w0 => ?_; refine c5 (b7 rfl (l7 (b3 rfl ?_))); refine B9 rfl n8 rfl (b3 rfl (B9 rfl n8 rfl ?_)); refine cV rfl rfl rfl (b3 rfl ?_); refine l8 rfl rfl ?_ ?_
 ·intro hg1; have hg1' := hg1; try simp at hg1'
  have hle : p.length ≤ s.length := by simpa using hg1
  refine j0 hg1 (b3 rfl (j0 hg1 (b3 rfl (j0 hg1 ?_)))); refine B9 rfl n8 rfl (j0 hg1 (nL p.length rfl n8 rfl rfl rfl (by omega) ?_)); refine j0 hg1 (b3 rfl (j0 hg1 (lQ rfl rfl rfl ?_))); refine p_t rfl rfl (bt1 hg1) rfl ?_; refine b7 rfl (b5 (i8 ?_)); exact ret1 () rfl (congrArg (fun b => some (Value.bool b)) (by simp [hle])) rfl tK (.refl _) tK
 intro hg1; have hg1' := hg1; try simp at hg1'
 have hle : ¬ p.length ≤ s.length := by simpa using hg1
 refine p6 hg1 (p6 hg1 (p6 hg1 (p6 hg1 (p6 hg1 (p6 hg1 ?_))))); refine p_f rfl rfl (bf2 hg1) rfl ?_; refine b7 rfl (b5 (i8 ?_)); exact ret1 () rfl (congrArg (fun b => some (Value.bool b)) (by simp [hle])) rfl tK (.refl _) tK
theorem bE (s p : Str) (hs : s.length ≤ 1000000) (hp : p.length ≤ 1000000) :
    Meets prog J8 [str s, str p] { val := fun _ : Unit => .bool (decide (p.length ≤ s.length ∧ s.take p.length = p)) } := by
 refine d5 cM rfl r4 fun w0 => ?_; refine c5 (b7 rfl (l7 (b3 rfl (b3 rfl ?_)))); refine h8 M4 rfl rfl (L8 s p hs hp) (.refl _) tK fun _ _ => ?_; refine b7 rfl (b5 (i8 ?_)); exact ret1 () rfl rfl rfl tK (.refl _) tK
theorem L7 (s p : Str) (hs : s.length ≤ 1000000) (hp : p.length ≤ 1000000) :
    Meets prog A6 [str s, str p] { val := fun _ : Unit => .bool (decide (p.length ≤ s.length ∧ s.drop (s.length - p.length) = p)) } := by
 refine d5 M7 rfl r4 fun w0 => ?_; refine c5 (b7 rfl (l7 (b3 rfl ?_))); refine B9 rfl n8 rfl (b3 rfl (B9 rfl n8 rfl ?_)); refine cV rfl rfl rfl (b3 rfl ?_); refine l8 rfl rfl ?_ ?_
 ·intro hg1; have hg1' := hg1; try simp at hg1'
  have hle : p.length ≤ s.length := by simpa using hg1
  refine j0 hg1 (b3 rfl (j0 hg1 (b3 rfl (j0 hg1 ?_)))); refine B9 rfl n8 rfl ?_; refine j0 hg1 (b3 rfl (j0 hg1 ?_)); refine B9 rfl n8 rfl (j0 hg1 (J4 ((s.length - p.length : Nat) : Int) rfl rfl rfl (by omega) q8 (j0 hg1 (nJ (s.length - p.length) rfl n8 rfl rfl (by omega) (by omega) ?_)))); refine j0 hg1 (b3 rfl (j0 hg1 (lQ rfl rfl rfl ?_))); refine p_t rfl rfl (bt1 hg1) rfl ?_; refine b7 rfl (b5 (i8 ?_)); exact ret1 () rfl (congrArg (fun b => some (Value.bool b)) (by simp [hle])) rfl tK (.refl _) tK
 intro hg1; have hg1' := hg1; try simp at hg1'
 have hle : ¬ p.length ≤ s.length := by simpa using hg1
 refine p6 hg1 (p6 hg1 (p6 hg1 (p6 hg1 (p6 hg1 (p6 hg1 (p6 hg1 (p6 hg1 (p6 hg1 ?_)))))))); refine p_f rfl rfl (bf2 hg1) rfl ?_; refine b7 rfl (b5 (i8 ?_)); exact ret1 () rfl (congrArg (fun b => some (Value.bool b)) (by simp [hle])) rfl tK (.refl _) tK
theorem bD (s p : Str) (hs : s.length ≤ 1000000) (hp : p.length ≤ 1000000) :
    Meets prog J7 [str s, str p] { val := fun _ : Unit => .bool (decide (p.length ≤ s.length ∧ s.drop (s.length - p.length) = p)) } := by
 refine d5 cK rfl r4 fun w0 => ?_; refine c5 (b7 rfl (l7 (b3 rfl (b3 rfl ?_)))); refine h8 M3 rfl rfl (L7 s p hs hp) (.refl _) tK fun _ _ => ?_; refine b7 rfl (b5 (i8 ?_)); exact ret1 () rfl rfl rfl tK (.refl _) tK
theorem Q2 (s : Str) :
    Meets prog N6 [str s] { val := fun _ : Unit => int (lineErr s) } := by
 refine d5 dT rfl r4 fun w0 => ?_; refine c5 (b7 rfl (b5 (c6 (c5 (b3 rfl ?_))))); refine B9 rfl n8 rfl ?_; refine D9 rfl rfl rfl (b5 ?_)
 first | refine i6 rfl (fun hb1 => ?_) (fun hb1 => ?_) | refine c8 rfl (fun hb1 => ?_) (fun hb1 => ?_)
 ·have hb1' := hb1; try simp at hb1'
  have hb1 : s.length = 0 := by omega
  refine c5 (b7 rfl (b5 (C6 ?_))); exact ret1 () rfl (congrArg (fun b => some (int b)) (by simp [lineErr, hb1])) rfl tK (.refl _) tK
 have hb1' := hb1; try simp at hb1'
 have hb1 : ¬ s.length = 0 := by omega
 refine c4 (c3 (c6 (c5 (b3 rfl ?_)))); refine B9 rfl n8 rfl ?_; refine G6 rfl rfl rfl (b5 ?_)
 first | refine i6 rfl (fun hb2 => ?_) (fun hb2 => ?_) | refine c8 rfl (fun hb2 => ?_) (fun hb2 => ?_)
 ·have hb2' := hb2; try simp at hb2'
  have hb2 : 10 < s.length := by omega
  refine c5 (b7 rfl (b5 (C6 ?_))); exact ret1 () rfl (congrArg (fun b => some (int b)) (by simp [lineErr, hb1, hb2])) rfl tK (.refl _) tK
 have hb2' := hb2; try simp at hb2'
 have hb2 : ¬ 10 < s.length := by omega
 refine c4 (c3 (c6 (c5 (b3 rfl ?_)))); refine r_bytes rfl n8 cA zL rfl fun gb cap => i7 rfl cA rfl ?_; refine b3 rfl (b5 (i5 ?_)); refine v6 (β := Nat) ⟨fun k => k ≤ s.length ∧ (s.take k).any lineBad = false, fun k => [(0, str s), (12, .slice (n9 gb) s.length cap), (13, int s.length), (14, int k)], fun _ => [], fun _ => [Row (n9 gb) (rows s)]⟩ (fun k => s.length - k) 0 ⟨Nat.zero_le _, rfl⟩ mC (.refl _) ⟨m0, tK⟩ fun k hk => ?_; obtain ⟨hk, ht⟩ := hk; refine c5 (y5 rfl rfl rfl (b5 (c6 ?_)))
 first | refine i6 rfl (fun hb3 => ?_) (fun hb3 => ?_) | refine c8 rfl (fun hb3 => ?_) (fun hb3 => ?_)
 ·have hb3' := hb3; try simp at hb3'
  have hb3 : k < s.length := by omega
  refine c4 (c3 (c6 (i5 (c5 ?_)))); refine u6 (α := UInt8) _ _ rfl cA cj6 rfl rfl rfl mB rfl (by omega) (by decide) ?_; refine a7 rfl xJ rfl (b9 m0 (b4 hb3 (by rw [z8 hb3]; rfl))) ?_; refine b7 rfl (b5 ?_); refine X4 ⟨fun _ : Unit => True, fun _ => [(0, str s), (12, .slice (n9 gb) s.length cap), (13, int s.length), (14, int k), (35, .bool (lineBad s[k]))], fun _ => [], fun _ => [Row (n9 gb) (rows s)]⟩ ?_ ?_
  ·skip
   refine c7 (b3 rfl (y5 rfl rfl rfl (b3 rfl ?_))); refine l8 rfl rfl ?_ ?_
   ·intro hg1; have hg1' := hg1; try simp at hg1'
    refine j0 hg1 (b3 rfl (j0 hg1 (G6 rfl rfl rfl ?_))); refine p_f rfl rfl (bf1 hg1) rfl (b3 rfl ?_); refine l8 rfl rfl ?_ ?_
    ·intro hg2; have hg2' := hg2; try simp at hg2'
     refine j0 hg2 (b3 rfl (j0 hg2 (y5 rfl rfl rfl (j0 hg2 (b3 rfl ?_))))); refine l8 rfl rfl ?_ ?_
     ·intro hg3; have hg3' := hg3; try simp at hg3'
      refine j0 hg3 (b3 rfl (j0 hg3 (G6 rfl rfl rfl (j0 hg2 ?_)))); refine p_f rfl rfl (bf1 hg3) rfl (p_t rfl rfl (bt1 hg2) rfl (b3 rfl ?_)); refine l8 rfl rfl ?_ ?_
      ·intro hg4; have hg4' := hg4; try simp at hg4'
       refine j0 hg4 (b3 rfl (j0 hg4 (w7 rfl rfl rfl ?_))); refine p_t rfl rfl (bt1 hg4) rfl (b6 ?_); exact H4 _ () tK ⟨rfl, rfl, rfl, rfl, congrArg (fun b => some (Value.bool b)) (by simp only [lineBad]; simp [*, Int.not_le, Int.not_lt, Int.not_lt.2, Int.not_le.2]), tK⟩ (.refl _) ⟨m0, tK⟩
      intro hg4; have hg4' := hg4; try simp at hg4'
      refine p6 hg4 (p6 hg4 ?_); refine p_f rfl rfl (bf2 hg4) rfl (b6 ?_); exact H4 _ () tK ⟨rfl, rfl, rfl, rfl, congrArg (fun b => some (Value.bool b)) (by simp only [lineBad]; simp [*, Int.not_le, Int.not_lt, Int.not_lt.2, Int.not_le.2]), tK⟩ (.refl _) ⟨m0, tK⟩
     intro hg3; have hg3' := hg3; try simp at hg3'
     refine p6 hg3 (p6 hg3 (j0 hg2 ?_)); refine p_t rfl rfl (bt2 hg3) rfl (p_t rfl rfl (bt1 hg2) rfl ?_); refine b3 rfl (N9 rfl rfl rfl (b3 rfl (N9 rfl rfl rfl (w7 rfl rfl rfl (p_t rfl rfl rfl rfl (b6 ?_)))))); exact H4 _ () tK ⟨rfl, rfl, rfl, rfl, congrArg (fun b => some (Value.bool b)) (by simp only [lineBad]; simp [*, Int.not_le, Int.not_lt, Int.not_lt.2, Int.not_le.2]), tK⟩ (.refl _) ⟨m0, tK⟩
    intro hg2; have hg2' := hg2; try simp at hg2'
    refine p6 hg2 (p6 hg2 (p6 hg2 (g_und rfl rfl rfl rfl rfl rfl (g_und rfl rfl rfl rfl rfl rfl (p6 hg2 ?_))))); refine p_f rfl rfl (bf2 hg2) rfl ?_; refine b3 rfl (rC rfl rfl rfl rfl rfl rfl (rC rfl rfl rfl rfl rfl rfl (p_f rfl rfl rfl rfl (b6 ?_)))); exact H4 _ () tK ⟨rfl, rfl, rfl, rfl, congrArg (fun b => some (Value.bool b)) (by simp only [lineBad]; simp [*, Int.not_le, Int.not_lt, Int.not_lt.2, Int.not_le.2]), tK⟩ (.refl _) ⟨m0, tK⟩
   intro hg1; have hg1' := hg1; try simp at hg1'
   refine p6 hg1 (p6 hg1 ?_); refine p_t rfl rfl (bt2 hg1) rfl ?_; refine b3 rfl (N9 rfl rfl rfl (b3 rfl (N9 rfl rfl rfl (y5 rfl rfl rfl (N9 rfl rfl rfl (b3 rfl ?_)))))); refine l8 rfl rfl ?_ ?_
   ·intro hg5; have hg5' := hg5; try simp at hg5'
    refine j0 hg5 (b3 rfl (j0 hg5 (G6 rfl rfl rfl (N9 rfl rfl rfl ?_)))); refine p_f rfl rfl (bf1 hg5) rfl ?_; refine p_t rfl rfl rfl rfl (b3 rfl ?_); refine l8 rfl rfl ?_ ?_
    ·intro hg6; have hg6' := hg6; try simp at hg6'
     refine j0 hg6 (b3 rfl (j0 hg6 (w7 rfl rfl rfl ?_))); refine p_t rfl rfl (bt1 hg6) rfl (b6 ?_); exact H4 _ () tK ⟨rfl, rfl, rfl, rfl, congrArg (fun b => some (Value.bool b)) (by simp only [lineBad]; simp [*, Int.not_le, Int.not_lt, Int.not_lt.2, Int.not_le.2]), tK⟩ (.refl _) ⟨m0, tK⟩
    intro hg6; have hg6' := hg6; try simp at hg6'
    refine p6 hg6 (p6 hg6 ?_); refine p_f rfl rfl (bf2 hg6) rfl (b6 ?_); exact H4 _ () tK ⟨rfl, rfl, rfl, rfl, congrArg (fun b => some (Value.bool b)) (by simp only [lineBad]; simp [*, Int.not_le, Int.not_lt, Int.not_lt.2, Int.not_le.2]), tK⟩ (.refl _) ⟨m0, tK⟩
   intro hg5; have hg5' := hg5; try simp at hg5'
   refine p6 hg5 (p6 hg5 (N9 rfl rfl rfl ?_)); refine p_t rfl rfl (bt2 hg5) rfl ?_; refine p_t rfl rfl rfl rfl (b3 rfl (N9 rfl rfl rfl (b3 rfl (N9 rfl rfl rfl (w7 rfl rfl rfl (p_t rfl rfl rfl rfl (b6 ?_))))))); exact H4 _ () tK ⟨rfl, rfl, rfl, rfl, congrArg (fun b => some (Value.bool b)) (by simp only [lineBad]; simp [*, Int.not_le, Int.not_lt, Int.not_lt.2, Int.not_le.2]), tK⟩ (.refl _) ⟨m0, tK⟩
  refine fun _ _ => ?_
  first | refine i6 rfl (fun hb4 => ?_) (fun hb4 => ?_) | refine c8 rfl (fun hb4 => ?_) (fun hb4 => ?_)
  ·have hb4' := hb4; try simp at hb4'
   refine c5 (b7 rfl (b5 (i8 (y8 (r6 (y8 ?_)))))); exact ret1 () rfl (congrArg (fun b => some (int b)) (by simp [lineErr, hb1, hb2, any_at hb3 hb4])) rfl tK (.refl _) tK
  have hb4' := hb4; try simp at hb4'
  refine c4 (u4 (c3 (c7 ?_))); refine w5 _ rfl rfl rfl rfl q8 ?_; refine b3 rfl (b6 ?_); exact again _ (k + 1) ⟨by omega, gj3 hb3 ht hb4⟩ (C5 (by omega)) mC (.refl _) ⟨m0, tK⟩
 have hb3' := hb3; try simp at hb3'
 have hb3 : k = s.length := by omega
 subst hb3; rw [List.take_length] at ht; refine r9 (B2 (r8 (c3 (c6 (c5 (b3 rfl ?_)))))); refine h8 bP rfl rfl (bE s [32] (by omega) (by decide)) (.refl _) tK fun _ _ => b3 rfl ?_; refine l8 rfl rfl ?_ ?_
 ·intro hg7; have hg7' := hg7; try simp at hg7'
  have hp1 := of_decide_eq_false (bf1 hg7); simp only [List.length_cons, List.length_nil] at hp1; have hp1 : ¬ s.take 1 = [32] := fun e => hp1 ⟨by omega, e⟩; refine j0 hg7 (b3 rfl (j0 hg7 ?_)); refine h8 bO rfl rfl (bD s [32] (by omega) (by decide)) (.refl _) tK fun _ _ => p_f rfl rfl (bf1 hg7) rfl (b5 ?_)
  first | refine i6 rfl (fun hb5 => ?_) (fun hb5 => ?_) | refine c8 rfl (fun hb5 => ?_) (fun hb5 => ?_)
  ·have hb5' := hb5; try simp at hb5'
   have h5 := hb5; simp only [List.length_cons, List.length_nil] at h5; refine c5 (b7 rfl (b5 (C6 ?_))); exact ret1 () rfl (congrArg (fun b => some (int b)) (by simp [lineErr, hb1, hb2, ht, h5.2])) rfl tK (.refl _) tK
  have hb5' := hb5; try simp at hb5'
  have h5 := hb5; simp only [List.length_cons, List.length_nil] at h5; have h5 : ¬ s.drop (s.length - 1) = [32] := fun e => h5 ⟨by omega, e⟩; refine c4 (c3 (c5 (b7 rfl (b5 (i8 ?_))))); exact ret1 () rfl (congrArg (fun b => some (int b)) (by simp only [lineErr]; rw [if_neg hb1, if_neg hb2, ht, if_neg (by simp), if_neg (by simp [hp1, h5])])) rfl tK (.refl _) tK
 intro hg7; have hg7' := hg7; try simp at hg7'
 have hp1 := of_decide_eq_true (bt2 hg7); simp only [List.length_cons, List.length_nil] at hp1; refine p6 hg7 (p6 hg7 ?_); refine p_t rfl rfl (bt2 hg7) rfl ?_; refine b5 (c_t rfl rfl (c5 (b7 rfl (b5 (C6 ?_))))); exact ret1 () rfl (congrArg (fun b => some (int b)) (by simp [lineErr, hb1, hb2, ht, hp1.2])) rfl tK (.refl _) tK
theorem Z0 {α : Type} [Inhabited α] {f : α → Int} {l : List α} {k : Nat} (hk : k < l.length) (h : firstErr f (l.take k) = 0) : firstErr f (l.take (k + 1)) = f (l.getD k default) := by rw [hJ hk h, z8 hk]
theorem cS {α : Type} [Inhabited α] {f : α → Int} {l : List α} {k : Nat} (hk : k < l.length) (h : firstErr f (l.take k) = 0) (h1 : ¬ f (l.getD k default) = 0) : firstErr f l = f (l.getD k default) := by
  rw [z8 hk] at h1 ⊢; exact nQ hk h h1
def textErr (m : Mk) : Int := if ¬ m.1 = 3 then lineErr m.2.2 else if ¬ m.2.2 = [] then 2 else 0
def mErr (n : Nat) (m : Mk) (k : Nat) (b : Mk) : Int :=
  if m.1 < 1 ∨ 3 < m.1 then 8 else if m.2.1 < 0 ∨ (n : Int) - 1 + (if m.1 = 1 then 1 else 0) < m.2.1 then 3 else if ¬ textErr m = 0 then textErr m else if k = 0 then 0 else
  if m.2.1 < b.2.1 then 5 else if b.2.1 < m.2.1 ∨ b.1 = 1 then 0 else if m.1 = 1 then 5 else 4
def markErr (n : Nat) (l : List Mk) (k : Nat) : Int := mErr n (l.getD k default) k (l.getD (k - 1) default)
def marksErr (n : Nat) (l : List Mk) : Int := if 12 < l.length then 6 else firstErr (markErr n l) (List.range l.length)
theorem Q9 {n : Nat} {l : List Mk} {k : Nat} (ht : firstErr (markErr n l) (List.range k) = 0) (h0 : mErr n (l.getD k default) k (l.getD (k - 1) default) = 0) : firstErr (markErr n l) (List.range (k + 1)) = 0 := by
  have h1 : (List.range (k + 1)).take k = List.range k := by rw [List.take_range]; simp
  have := hJ (f := markErr n l) (l := List.range (k + 1)) (k := k) (by simp) (by rw [h1]; exact ht); rw [List.take_of_length_le (by simp)] at this; rw [this]
  simpa [markErr] using h0
theorem G2 {n : Nat} {l : List Mk} {k : Nat} {e : Int} (h12 : ¬ 12 < l.length) (hk : k < l.length) (ht : firstErr (markErr n l) (List.range k) = 0) (h0 : mErr n (l.getD k default) k (l.getD (k - 1) default) = e) (he : ¬ e = 0) : marksErr n l = e := by
  have h1 : (List.range l.length).take k = List.range k := by rw [List.take_range, Nat.min_eq_left (Nat.le_of_lt hk)]
  have := nQ (f := markErr n l) (l := List.range l.length) (k := k) (by simpa using hk) (by rw [h1]; exact ht) (by simp only [List.getElem_range]; unfold markErr; rw [h0]; exact he); rw [marksErr, if_neg h12, this]; simp only [List.getElem_range]; exact h0
theorem ax9 {n : Nat} {l : List Mk} {k : Nat} (h12 : ¬ 12 < l.length) (hk : k = l.length) (ht : firstErr (markErr n l) (List.range k) = 0) : marksErr n l = 0 := by
  subst hk; rw [marksErr, if_neg h12, ht]
def checkErr (p : List Str) (l : List Mk) : Int := if pageErr p = 0 then marksErr p.length l else pageErr p
theorem D0 {A : Option Addr} {c : Nat} (p : List Str) :
    Meets prog Y1 [.slice A p.length c] { LI := [Row A (rows p)], val := fun _ : Unit => int (pageErr p) } := by
 refine d5 mN rfl r4 fun w0 => ?_; refine c5 (b7 rfl (b5 (c6 (c5 (b3 rfl ?_))))); refine i7 rfl j7 rfl ?_; refine G6 rfl rfl rfl (b5 ?_)
 first | refine i6 rfl (fun hb1 => ?_) (fun hb1 => ?_) | refine c8 rfl (fun hb1 => ?_) (fun hb1 => ?_)
 ·have hb1' := hb1; try simp at hb1'
  have hb1 : 6 < p.length := by omega
  refine c5 (b7 rfl (b5 (C6 ?_))); exact ret1 () rfl (congrArg (fun b => some (int b)) (by rw [pageErr, if_pos hb1])) rfl tK nK tK
 have hb1' := hb1; try simp at hb1'
 have hb1 : ¬ 6 < p.length := by omega
 refine c4 (c3 (c6 (c5 (b3 rfl ?_)))); refine i7 rfl j7 rfl ?_; refine b3 rfl (b5 (i5 ?_)); refine v6 (β := Nat) ⟨fun k => k ≤ p.length ∧ firstErr lineErr (p.take k) = 0, fun k => [(9, .slice A p.length c), (10, int p.length), (11, int k)], fun _ => [], fun _ => [Row A (rows p)]⟩ (fun k => p.length - k) 0 ⟨Nat.zero_le _, rfl⟩ mC (.refl _) ⟨m0, tK⟩ fun k hk => ?_; obtain ⟨hk, ht⟩ := hk; refine c5 (y5 rfl rfl rfl (b5 (c6 ?_)))
 first | refine i6 rfl (fun hb2 => ?_) (fun hb2 => ?_) | refine c8 rfl (fun hb2 => ?_) (fun hb2 => ?_)
 ·have hb2' := hb2; try simp at hb2'
  have hb2 : k < p.length := by omega
  refine c4 (c3 (c6 (i5 (c5 ?_)))); refine u6 (α := Str) _ _ rfl j7 q7 rfl rfl rfl mB rfl (by omega) (by decide) (a7 rfl d6 rfl (b9 mB (b4 (by omega) rfl)) ?_); refine b7 rfl (l7 (b3 rfl ?_)); refine h8 Q4 rfl rfl (Q2 (p.getD k default)) (.refl _) tK fun _ _ => ?_; refine b7 rfl (l7 (b3 rfl (w7 rfl rfl rfl (b5 ?_))))
  first | refine i6 rfl (fun hb3 => ?_) (fun hb3 => ?_) | refine c8 rfl (fun hb3 => ?_) (fun hb3 => ?_)
  ·have hb3' := hb3; try simp at hb3'
   refine c5 (b3 rfl (b7 rfl (b5 (i8 (y8 (r6 (y8 ?_))))))); exact ret1 () rfl (congrArg (fun b => some (int b)) (by rw [pageErr, if_neg hb1, cS hb2 ht hb3])) rfl tK nK tK
  have hb3' := hb3; try simp at hb3'
  refine c4 (u4 (c3 (c7 ?_))); refine w5 _ rfl rfl rfl rfl q8 ?_; refine b3 rfl (b6 ?_); exact again _ (k + 1) ⟨by omega, by rw [Z0 hb2 ht]; omega⟩ (C5 (by omega)) mC (.refl _) ⟨m0, tK⟩
 have hb2' := hb2; try simp at hb2'
 have hb2 : k = p.length := by omega
 subst hb2; rw [List.take_length] at ht; refine r9 (B2 (r8 (c3 (c5 (b7 rfl (b5 (i8 ?_))))))); exact ret1 () rfl (congrArg (fun b => some (int b)) (by rw [pageErr, if_neg hb1, ht])) rfl tK nK tK
theorem Q1 (m : Mk) : Meets prog N5 [.agg #[int m.1, int m.2.1, str m.2.2]] { val := fun _ : Unit => int (textErr m) } := by
 refine d5 dS rfl r4 fun w0 => c5 (Q0 rfl rfl fun gB => ?_); refine b7 rfl (b5 (c6 (c5 ?_)))
 first | refine a8 ⟨_, 0, none⟩ rfl rfl i9 rfl ?_ | refine a8 _ rfl rfl i9 rfl ?_
 first | refine a7 rfl a6 rfl (d9 mB rfl) ?_ | refine a7 rfl a6 rfl (d4 mB rfl) ?_ | refine a7 rfl a6 rfl (b9 mB (b4 (by omega) rfl)) ?_ | refine a7 rfl a6 rfl (b8 mB (rows_get (by omega) rfl)) ?_
 refine w7 rfl rfl rfl (b5 ?_)
 first | refine i6 rfl (fun hb1 => ?_) (fun hb1 => ?_) | refine c8 rfl (fun hb1 => ?_) (fun hb1 => ?_)
 ·have hb1' := hb1; try simp at hb1'
  refine c5 ?_
  first | refine a8 ⟨_, 2, none⟩ rfl rfl n5 rfl ?_ | refine a8 _ rfl rfl n5 rfl ?_
  first | refine a7 rfl d6 rfl (d9 mB rfl) ?_ | refine a7 rfl d6 rfl (d4 mB rfl) ?_ | refine a7 rfl d6 rfl (b9 mB (b4 (by omega) rfl)) ?_ | refine a7 rfl d6 rfl (b8 mB (rows_get (by omega) rfl)) ?_
  refine h8 Q4 rfl rfl (Q2 m.2.2) p9 tK fun _ _ => ?_; refine b7 rfl (b5 (C6 ?_)); exact ret1 () rfl (congrArg (fun b => some (int b)) (by rw [textErr, if_pos hb1])) rfl tK nK tK
 have hb1' := hb1; try simp at hb1'
 refine c4 (c3 (c6 (c5 ?_)))
 first | refine a8 ⟨_, 2, none⟩ rfl rfl n5 rfl ?_ | refine a8 _ rfl rfl n5 rfl ?_
 first | refine a7 rfl d6 rfl (d9 mB rfl) ?_ | refine a7 rfl d6 rfl (d4 mB rfl) ?_ | refine a7 rfl d6 rfl (b9 mB (b4 (by omega) rfl)) ?_ | refine a7 rfl d6 rfl (b8 mB (rows_get (by omega) rfl)) ?_
 refine xS rfl rfl rfl (b5 ?_)
 first | refine i6 rfl (fun hb2 => ?_) (fun hb2 => ?_) | refine c8 rfl (fun hb2 => ?_) (fun hb2 => ?_)
 ·have hb2' := hb2; try simp at hb2'
  refine c5 (b7 rfl (b5 (C6 ?_))); exact ret1 () rfl (congrArg (fun b => some (int b)) (by rw [textErr, if_neg hb1, if_pos hb2])) rfl tK nK tK
 have hb2' := hb2; try simp at hb2'
 refine c4 (c3 (c5 (b7 rfl (b5 (i8 ?_))))); exact ret1 () rfl (congrArg (fun b => some (int b)) (by rw [textErr, if_neg hb1, if_neg hb2])) rfl tK nK tK
theorem cE {A B : Option Addr} {n ca cb : Nat} (l : List Mk) (hn : n ≤ 1000000) :
    Meets prog M1 [.slice A n ca, .slice B l.length cb] { LI := [Row B (rows l)], val := fun _ : Unit => int (marksErr n l) } := by
 refine d5 dE rfl r4 fun w0 => ?_; refine c5 (b7 rfl (b5 (c6 (c5 (b3 rfl ?_))))); refine i7 rfl j6 rfl ?_; refine G6 rfl rfl rfl (b5 ?_)
 first | refine i6 rfl (fun hb1 => ?_) (fun hb1 => ?_) | refine c8 rfl (fun hb1 => ?_) (fun hb1 => ?_)
 ·have hb1' := hb1; try simp at hb1'
  have h12 : 12 < l.length := by omega
  refine c5 (b7 rfl (b5 (C6 ?_))); exact ret1 () rfl (congrArg (fun b => some (int b)) (by rw [marksErr, if_pos h12])) rfl tK nK tK
 have hb1' := hb1; try simp at hb1'
 have h12 : ¬ 12 < l.length := by omega
 refine c4 (c3 (c6 (c5 (b3 rfl ?_)))); refine i7 rfl j6 rfl ?_; refine b3 rfl (b5 (i5 ?_)); refine v6 (β := Nat) ⟨fun k => k ≤ l.length ∧ firstErr (markErr n l) (List.range k) = 0, fun k => [(0, .slice A n ca), (1, .slice B l.length cb), (13, .slice B l.length cb), (14, int l.length), (15, int k)], fun _ => [], fun _ => [Row B (rows l)]⟩ (fun k => l.length - k) 0 ⟨Nat.zero_le _, rfl⟩ mC (.refl _) ⟨m0, tK⟩ fun k hk => ?_; obtain ⟨hk, ht⟩ := hk; refine c5 (y5 rfl rfl rfl (b5 (c6 ?_)))
 first | refine i6 rfl (fun hb2 => ?_) (fun hb2 => ?_) | refine c8 rfl (fun hb2 => ?_) (fun hb2 => ?_)
 ·have hb2' := hb2; try simp at hb2'
  have hk2 : k < l.length := by omega
  refine c4 (c3 (c6 (i5 (c5 (b3 rfl ?_))))); refine u6 (α := Mk) _ _ rfl j6 g0 rfl rfl rfl mB rfl (by omega) (by decide) (v8 rfl j5 g0 rfl rfl (q9 mB (u1 (by omega))) (A5 rfl (fun _ => C3 _) fun gA => b7 rfl (u2 rfl rfl J0 g0 (by rfl) (by rfl) ?_))); refine b5 (cH ?_); generalize hm : l.getD k default = m; refine c7 ?_
  first | refine a8 ⟨_, 0, none⟩ rfl rfl i9 rfl ?_ | refine a8 _ rfl rfl i9 rfl ?_
  first | refine a7 rfl a6 rfl (d9 mB rfl) ?_ | refine a7 rfl a6 rfl (d4 mB rfl) ?_ | refine a7 rfl a6 rfl (b9 mB (b4 (by omega) rfl)) ?_ | refine a7 rfl a6 rfl (b8 mB (rows_get (by omega) rfl)) ?_
  refine y5 rfl rfl rfl (b3 rfl ?_); refine l8 rfl rfl ?_ ?_
  ·intro hg1; have hg1' := hg1; try simp at hg1'
   refine j0 hg1 ?_
   first | refine a8 ⟨_, 0, none⟩ rfl rfl i9 rfl ?_ | refine a8 _ rfl rfl i9 rfl ?_
   refine j0 hg1 ?_
   first | refine a7 rfl a6 rfl (d9 mB rfl) ?_ | refine a7 rfl a6 rfl (d4 mB rfl) ?_ | refine a7 rfl a6 rfl (b9 mB (b4 (by omega) rfl)) ?_ | refine a7 rfl a6 rfl (b8 mB (rows_get (by omega) rfl)) ?_
   refine j0 hg1 (G6 rfl rfl rfl ?_); refine p_f rfl rfl (bf1 hg1) rfl (b5 ?_)
   first | refine i6 rfl (fun hb3 => ?_) (fun hb3 => ?_) | refine c8 rfl (fun hb3 => ?_) (fun hb3 => ?_)
   ·have hb3' := hb3; try simp at hb3'
    refine c5 (b7 rfl (b5 (C6 (y8 (r6 (y8 ?_)))))); exact ret1 () rfl (congrArg (fun b => some (int b)) (by refine (G2 h12 hk2 ht (e := 8) (by first | (exfalso; omega) | (rw [hm]; (try rw [hm2]); unfold mErr; (repeat (first | rw [if_pos (by omega)] | rw [if_neg (by omega)])); done)) (by omega)).symm)) rfl tK nK tK
   have hb3' := hb3; try simp at hb3'
   refine c4 (c3 (c5 (b3 rfl ?_))); refine i7 rfl j7 rfl (J4 _ rfl rfl rfl rfl q8 ?_); refine b7 rfl (b5 (c6 (c5 ?_)))
   first | refine a8 ⟨_, 0, none⟩ rfl rfl i9 rfl ?_ | refine a8 _ rfl rfl i9 rfl ?_
   first | refine a7 rfl a6 rfl (d9 mB rfl) ?_ | refine a7 rfl a6 rfl (d4 mB rfl) ?_ | refine a7 rfl a6 rfl (b9 mB (b4 (by omega) rfl)) ?_ | refine a7 rfl a6 rfl (b8 mB (rows_get (by omega) rfl)) ?_
   refine D9 rfl rfl rfl (b5 ?_)
   first | refine i6 rfl (fun hb4 => ?_) (fun hb4 => ?_) | refine c8 rfl (fun hb4 => ?_) (fun hb4 => ?_)
   ·have hb4' := hb4; try simp at hb4'
    refine c7 (b3 rfl ?_); refine w5 _ rfl rfl rfl rfl q8 ?_; refine b7 rfl (b5 (c6 (c5 ?_)))
    first | refine a8 ⟨_, 1, none⟩ rfl rfl d7 rfl ?_ | refine a8 _ rfl rfl d7 rfl ?_
    first | refine a7 rfl a6 rfl (d9 mB rfl) ?_ | refine a7 rfl a6 rfl (d4 mB rfl) ?_ | refine a7 rfl a6 rfl (b9 mB (b4 (by omega) rfl)) ?_ | refine a7 rfl a6 rfl (b8 mB (rows_get (by omega) rfl)) ?_
    refine y5 rfl rfl rfl (b3 rfl ?_); refine l8 rfl rfl ?_ ?_
    ·intro hg2; have hg2' := hg2; try simp at hg2'
     refine j0 hg2 ?_
     first | refine a8 ⟨_, 1, none⟩ rfl rfl d7 rfl ?_ | refine a8 _ rfl rfl d7 rfl ?_
     refine j0 hg2 ?_
     first | refine a7 rfl a6 rfl (d9 mB rfl) ?_ | refine a7 rfl a6 rfl (d4 mB rfl) ?_ | refine a7 rfl a6 rfl (b9 mB (b4 (by omega) rfl)) ?_ | refine a7 rfl a6 rfl (b8 mB (rows_get (by omega) rfl)) ?_
     refine j0 hg2 (b3 rfl (j0 hg2 (G6 rfl rfl rfl ?_))); refine p_f rfl rfl (bf1 hg2) rfl (b5 ?_)
     first | refine i6 rfl (fun hb5 => ?_) (fun hb5 => ?_) | refine c8 rfl (fun hb5 => ?_) (fun hb5 => ?_)
     ·have hb5' := hb5; try simp at hb5'
      refine c5 (b7 rfl (b5 (C6 (y8 (r6 (y8 ?_)))))); exact ret1 () rfl (congrArg (fun b => some (int b)) (by refine (G2 h12 hk2 ht (e := 3) (by first | (exfalso; omega) | (rw [hm]; (try rw [hm2]); unfold mErr; (repeat (first | rw [if_pos (by omega)] | rw [if_neg (by omega)])); done)) (by omega)).symm)) rfl tK nK tK
     have hb5' := hb5; try simp at hb5'
     refine c4 (c3 (c6 (c5 ?_)))
     first | refine D6 rfl j5 g0 rfl mB (by rfl) ?_ | refine D5 rfl j5 g0 rfl mB (by rfl) ?_ | refine v8 rfl j5 g0 rfl rfl (q9 mB (u1 (by omega))) ?_
     refine h8 Q3 rfl rfl (Q1 m) p9 tK fun _ _ => ?_; refine b7 rfl (l7 (b3 rfl (w7 rfl rfl rfl (b5 ?_))))
     first | refine i6 rfl (fun hb6 => ?_) (fun hb6 => ?_) | refine c8 rfl (fun hb6 => ?_) (fun hb6 => ?_)
     ·have hb6' := hb6; try simp at hb6'
      refine c5 (b3 rfl (b7 rfl (b5 (C6 (y8 (r6 (S8 ?_))))))); refine r6 ?_; exact ret1 () rfl (congrArg (fun b => some (int b)) (by refine (G2 h12 hk2 ht (e := textErr m) (by first | (exfalso; omega) | (rw [hm]; (try rw [hm2]); unfold mErr; (repeat (first | rw [if_pos (by omega)] | rw [if_neg (by omega)])); done)) (by omega)).symm)) rfl tK nK tK
     have hb6' := hb6; try simp at hb6'
     refine c4 (c3 (c6 (c5 (b3 rfl (D9 rfl rfl rfl (b5 ?_))))))
     first | refine i6 rfl (fun hb7 => ?_) (fun hb7 => ?_) | refine c8 rfl (fun hb7 => ?_) (fun hb7 => ?_)
     ·have hb7' := hb7; try simp at hb7'
      refine r9 (B8 (r8 (c3 (c7 ?_)))); refine w5 _ rfl rfl rfl rfl q8 ?_; refine b3 rfl (b6 ?_); exact again _ (k + 1) ⟨by omega, Q9 ht (by first | (exfalso; omega) | (rw [hm]; (try rw [hm2]); unfold mErr; (repeat (first | rw [if_pos (by omega)] | rw [if_neg (by omega)])); done))⟩ (C5 (by omega)) mC nK ⟨m0, tK⟩
     have hb7' := hb7; try simp at hb7'
     refine c4 (c3 (c5 (b3 rfl (b3 rfl ?_)))); refine J4 ((k - 1 : Nat) : Int) rfl rfl rfl (by omega) q8 (u6 (α := Mk) _ _ rfl j6 g0 rfl rfl rfl mB rfl (by omega) (by decide) (v8 rfl j5 g0 rfl rfl (q9 mB (u1 (by omega))) (A5 rfl (fun _ => C3 _) fun gA => u2 rfl rfl J0 g0 (by rfl) (by rfl) ?_))); refine b5 (i5 (c6 ?_)); generalize hm2 : l.getD (k - 1) default = m2; refine c7 ?_
     first | refine a8 ⟨_, 1, none⟩ rfl rfl d7 rfl ?_ | refine a8 _ rfl rfl d7 rfl ?_
     first | refine a7 rfl a6 rfl (d9 mB rfl) ?_ | refine a7 rfl a6 rfl (d4 mB rfl) ?_ | refine a7 rfl a6 rfl (b9 mB (b4 (by omega) rfl)) ?_ | refine a7 rfl a6 rfl (b8 mB (rows_get (by omega) rfl)) ?_
     first | refine a8 ⟨_, 1, none⟩ rfl rfl d7 rfl ?_ | refine a8 _ rfl rfl d7 rfl ?_
     first | refine a7 rfl a6 rfl (d9 mB rfl) ?_ | refine a7 rfl a6 rfl (d4 mB rfl) ?_ | refine a7 rfl a6 rfl (b9 mB (b4 (by omega) rfl)) ?_ | refine a7 rfl a6 rfl (b8 mB (rows_get (by omega) rfl)) ?_
     refine y5 rfl rfl rfl (b7 rfl (b5 ?_))
     first | refine i6 rfl (fun hb8 => ?_) (fun hb8 => ?_) | refine c8 rfl (fun hb8 => ?_) (fun hb8 => ?_)
     ·have hb8' := hb8; try simp at hb8'
      refine c5 (b7 rfl (b5 (i8 (S8 (y8 (r6 (y8 ?_))))))); exact ret1 () rfl (congrArg (fun b => some (int b)) (by refine (G2 h12 hk2 ht (e := 5) (by first | (exfalso; omega) | (rw [hm]; (try rw [hm2]); unfold mErr; (repeat (first | rw [if_pos (by omega)] | rw [if_neg (by omega)])); done)) (by omega)).symm)) rfl tK nK tK
     have hb8' := hb8; try simp at hb8'
     refine c5 ?_
     first | refine a8 ⟨_, 1, none⟩ rfl rfl d7 rfl ?_ | refine a8 _ rfl rfl d7 rfl ?_
     first | refine a7 rfl a6 rfl (d9 mB rfl) ?_ | refine a7 rfl a6 rfl (d4 mB rfl) ?_ | refine a7 rfl a6 rfl (b9 mB (b4 (by omega) rfl)) ?_ | refine a7 rfl a6 rfl (b8 mB (rows_get (by omega) rfl)) ?_
     first | refine a8 ⟨_, 1, none⟩ rfl rfl d7 rfl ?_ | refine a8 _ rfl rfl d7 rfl ?_
     first | refine a7 rfl a6 rfl (d9 mB rfl) ?_ | refine a7 rfl a6 rfl (d4 mB rfl) ?_ | refine a7 rfl a6 rfl (b9 mB (b4 (by omega) rfl)) ?_ | refine a7 rfl a6 rfl (b8 mB (rows_get (by omega) rfl)) ?_
     refine G6 rfl rfl rfl (b3 rfl ?_); refine l8 rfl rfl ?_ ?_
     ·intro hg3; have hg3' := hg3; try simp at hg3'
      refine j0 hg3 ?_
      first | refine a8 ⟨_, 0, none⟩ rfl rfl i9 rfl ?_ | refine a8 _ rfl rfl i9 rfl ?_
      refine j0 hg3 ?_
      first | refine a7 rfl a6 rfl (d9 mB rfl) ?_ | refine a7 rfl a6 rfl (d4 mB rfl) ?_ | refine a7 rfl a6 rfl (b9 mB (b4 (by omega) rfl)) ?_ | refine a7 rfl a6 rfl (b8 mB (rows_get (by omega) rfl)) ?_
      refine j0 hg3 (D9 rfl rfl rfl ?_); refine p_f rfl rfl (bf1 hg3) rfl ?_; refine b7 rfl (b5 ?_)
      first | refine i6 rfl (fun hb9 => ?_) (fun hb9 => ?_) | refine c8 rfl (fun hb9 => ?_) (fun hb9 => ?_)
      ·have hb9' := hb9; try simp at hb9'
       refine c4 (u4 (u4 (c3 (c7 ?_)))); refine w5 _ rfl rfl rfl rfl q8 ?_; refine b3 rfl (b6 ?_); exact again _ (k + 1) ⟨by omega, Q9 ht (by first | (exfalso; omega) | (rw [hm]; (try rw [hm2]); unfold mErr; (repeat (first | rw [if_pos (by omega)] | rw [if_neg (by omega)])); done))⟩ (C5 (by omega)) mC nK ⟨m0, tK⟩
      have hb9' := hb9; try simp at hb9'
      refine c5 ?_
      first | refine a8 ⟨_, 0, none⟩ rfl rfl i9 rfl ?_ | refine a8 _ rfl rfl i9 rfl ?_
      first | refine a7 rfl a6 rfl (d9 mB rfl) ?_ | refine a7 rfl a6 rfl (d4 mB rfl) ?_ | refine a7 rfl a6 rfl (b9 mB (b4 (by omega) rfl)) ?_ | refine a7 rfl a6 rfl (b8 mB (rows_get (by omega) rfl)) ?_
      refine D9 rfl rfl rfl (b7 rfl (b5 ?_))
      first | refine i6 rfl (fun hb10 => ?_) (fun hb10 => ?_) | refine c8 rfl (fun hb10 => ?_) (fun hb10 => ?_)
      ·have hb10' := hb10; try simp at hb10'
       refine c5 (b7 rfl (b5 (i8 (S8 (y8 (r6 (y8 ?_))))))); exact ret1 () rfl (congrArg (fun b => some (int b)) (by refine (G2 h12 hk2 ht (e := 5) (by first | (exfalso; omega) | (rw [hm]; (try rw [hm2]); unfold mErr; (repeat (first | rw [if_pos (by omega)] | rw [if_neg (by omega)])); done)) (by omega)).symm)) rfl tK nK tK
      have hb10' := hb10; try simp at hb10'
      refine c5 (b7 rfl (b5 (i8 (S8 (y8 (r6 (y8 ?_))))))); exact ret1 () rfl (congrArg (fun b => some (int b)) (by refine (G2 h12 hk2 ht (e := 4) (by first | (exfalso; omega) | (rw [hm]; (try rw [hm2]); unfold mErr; (repeat (first | rw [if_pos (by omega)] | rw [if_neg (by omega)])); done)) (by omega)).symm)) rfl tK nK tK
     intro hg3; have hg3' := hg3; try simp at hg3'
     refine p6 hg3 (p6 hg3 (p6 hg3 ?_)); refine p_t rfl rfl (bt2 hg3) rfl ?_; refine b7 rfl (b5 (c_t rfl rfl (c4 (u4 (u4 (c3 (c7 ?_))))))); refine w5 _ rfl rfl rfl rfl q8 ?_; refine b3 rfl (b6 ?_); exact again _ (k + 1) ⟨by omega, Q9 ht (by first | (exfalso; omega) | (rw [hm]; (try rw [hm2]); unfold mErr; (repeat (first | rw [if_pos (by omega)] | rw [if_neg (by omega)])); done))⟩ (C5 (by omega)) mC nK ⟨m0, tK⟩
    intro hg2; have hg2' := hg2; try simp at hg2'
    refine p6 hg2 (p6 hg2 (p6 hg2 (p6 hg2 ?_))); refine p_t rfl rfl (bt2 hg2) rfl ?_; refine b5 (c_t rfl rfl (c5 (b7 rfl (b5 (C6 (y8 ?_)))))); refine r6 (y8 ?_); exact ret1 () rfl (congrArg (fun b => some (int b)) (by refine (G2 h12 hk2 ht (e := 3) (by first | (exfalso; omega) | (rw [hm]; (try rw [hm2]); unfold mErr; (repeat (first | rw [if_pos (by omega)] | rw [if_neg (by omega)])); done)) (by omega)).symm)) rfl tK nK tK
   have hb4' := hb4; try simp at hb4'
   refine c4 (c3 (c6 (c5 ?_)))
   first | refine a8 ⟨_, 1, none⟩ rfl rfl d7 rfl ?_ | refine a8 _ rfl rfl d7 rfl ?_
   first | refine a7 rfl a6 rfl (d9 mB rfl) ?_ | refine a7 rfl a6 rfl (d4 mB rfl) ?_ | refine a7 rfl a6 rfl (b9 mB (b4 (by omega) rfl)) ?_ | refine a7 rfl a6 rfl (b8 mB (rows_get (by omega) rfl)) ?_
   refine y5 rfl rfl rfl (b3 rfl ?_); refine l8 rfl rfl ?_ ?_
   ·intro hg4; have hg4' := hg4; try simp at hg4'
    refine j0 hg4 ?_
    first | refine a8 ⟨_, 1, none⟩ rfl rfl d7 rfl ?_ | refine a8 _ rfl rfl d7 rfl ?_
    refine j0 hg4 ?_
    first | refine a7 rfl a6 rfl (d9 mB rfl) ?_ | refine a7 rfl a6 rfl (d4 mB rfl) ?_ | refine a7 rfl a6 rfl (b9 mB (b4 (by omega) rfl)) ?_ | refine a7 rfl a6 rfl (b8 mB (rows_get (by omega) rfl)) ?_
    refine j0 hg4 (b3 rfl (j0 hg4 (G6 rfl rfl rfl ?_))); refine p_f rfl rfl (bf1 hg4) rfl (b5 ?_)
    first | refine i6 rfl (fun hb5 => ?_) (fun hb5 => ?_) | refine c8 rfl (fun hb5 => ?_) (fun hb5 => ?_)
    ·have hb5' := hb5; try simp at hb5'
     refine c5 (b7 rfl (b5 (C6 (y8 (r6 (y8 ?_)))))); exact ret1 () rfl (congrArg (fun b => some (int b)) (by refine (G2 h12 hk2 ht (e := 3) (by first | (exfalso; omega) | (rw [hm]; (try rw [hm2]); unfold mErr; (repeat (first | rw [if_pos (by omega)] | rw [if_neg (by omega)])); done)) (by omega)).symm)) rfl tK nK tK
    have hb5' := hb5; try simp at hb5'
    refine c4 (c3 (c6 (c5 ?_)))
    first | refine D6 rfl j5 g0 rfl mB (by rfl) ?_ | refine D5 rfl j5 g0 rfl mB (by rfl) ?_ | refine v8 rfl j5 g0 rfl rfl (q9 mB (u1 (by omega))) ?_
    refine h8 Q3 rfl rfl (Q1 m) p9 tK fun _ _ => ?_; refine b7 rfl (l7 (b3 rfl (w7 rfl rfl rfl (b5 ?_))))
    first | refine i6 rfl (fun hb6 => ?_) (fun hb6 => ?_) | refine c8 rfl (fun hb6 => ?_) (fun hb6 => ?_)
    ·have hb6' := hb6; try simp at hb6'
     refine c5 (b3 rfl (b7 rfl (b5 (C6 (y8 (r6 (S8 ?_))))))); refine r6 ?_; exact ret1 () rfl (congrArg (fun b => some (int b)) (by refine (G2 h12 hk2 ht (e := textErr m) (by first | (exfalso; omega) | (rw [hm]; (try rw [hm2]); unfold mErr; (repeat (first | rw [if_pos (by omega)] | rw [if_neg (by omega)])); done)) (by omega)).symm)) rfl tK nK tK
    have hb6' := hb6; try simp at hb6'
    refine c4 (c3 (c6 (c5 (b3 rfl (D9 rfl rfl rfl (b5 ?_))))))
    first | refine i6 rfl (fun hb7 => ?_) (fun hb7 => ?_) | refine c8 rfl (fun hb7 => ?_) (fun hb7 => ?_)
    ·have hb7' := hb7; try simp at hb7'
     refine r9 (B8 (r8 (c3 (c7 ?_)))); refine w5 _ rfl rfl rfl rfl q8 ?_; refine b3 rfl (b6 ?_); exact again _ (k + 1) ⟨by omega, Q9 ht (by first | (exfalso; omega) | (rw [hm]; (try rw [hm2]); unfold mErr; (repeat (first | rw [if_pos (by omega)] | rw [if_neg (by omega)])); done))⟩ (C5 (by omega)) mC nK ⟨m0, tK⟩
    have hb7' := hb7; try simp at hb7'
    refine c4 (c3 (c5 (b3 rfl (b3 rfl ?_)))); refine J4 ((k - 1 : Nat) : Int) rfl rfl rfl (by omega) q8 (u6 (α := Mk) _ _ rfl j6 g0 rfl rfl rfl mB rfl (by omega) (by decide) (v8 rfl j5 g0 rfl rfl (q9 mB (u1 (by omega))) (A5 rfl (fun _ => C3 _) fun gA => u2 rfl rfl J0 g0 (by rfl) (by rfl) ?_))); refine b5 (i5 (c6 ?_)); generalize hm2 : l.getD (k - 1) default = m2; refine c7 ?_
    first | refine a8 ⟨_, 1, none⟩ rfl rfl d7 rfl ?_ | refine a8 _ rfl rfl d7 rfl ?_
    first | refine a7 rfl a6 rfl (d9 mB rfl) ?_ | refine a7 rfl a6 rfl (d4 mB rfl) ?_ | refine a7 rfl a6 rfl (b9 mB (b4 (by omega) rfl)) ?_ | refine a7 rfl a6 rfl (b8 mB (rows_get (by omega) rfl)) ?_
    first | refine a8 ⟨_, 1, none⟩ rfl rfl d7 rfl ?_ | refine a8 _ rfl rfl d7 rfl ?_
    first | refine a7 rfl a6 rfl (d9 mB rfl) ?_ | refine a7 rfl a6 rfl (d4 mB rfl) ?_ | refine a7 rfl a6 rfl (b9 mB (b4 (by omega) rfl)) ?_ | refine a7 rfl a6 rfl (b8 mB (rows_get (by omega) rfl)) ?_
    refine y5 rfl rfl rfl (b7 rfl (b5 ?_))
    first | refine i6 rfl (fun hb8 => ?_) (fun hb8 => ?_) | refine c8 rfl (fun hb8 => ?_) (fun hb8 => ?_)
    ·have hb8' := hb8; try simp at hb8'
     refine c5 (b7 rfl (b5 (i8 (S8 (y8 (r6 (y8 ?_))))))); exact ret1 () rfl (congrArg (fun b => some (int b)) (by refine (G2 h12 hk2 ht (e := 5) (by first | (exfalso; omega) | (rw [hm]; (try rw [hm2]); unfold mErr; (repeat (first | rw [if_pos (by omega)] | rw [if_neg (by omega)])); done)) (by omega)).symm)) rfl tK nK tK
    have hb8' := hb8; try simp at hb8'
    refine c5 ?_
    first | refine a8 ⟨_, 1, none⟩ rfl rfl d7 rfl ?_ | refine a8 _ rfl rfl d7 rfl ?_
    first | refine a7 rfl a6 rfl (d9 mB rfl) ?_ | refine a7 rfl a6 rfl (d4 mB rfl) ?_ | refine a7 rfl a6 rfl (b9 mB (b4 (by omega) rfl)) ?_ | refine a7 rfl a6 rfl (b8 mB (rows_get (by omega) rfl)) ?_
    first | refine a8 ⟨_, 1, none⟩ rfl rfl d7 rfl ?_ | refine a8 _ rfl rfl d7 rfl ?_
    first | refine a7 rfl a6 rfl (d9 mB rfl) ?_ | refine a7 rfl a6 rfl (d4 mB rfl) ?_ | refine a7 rfl a6 rfl (b9 mB (b4 (by omega) rfl)) ?_ | refine a7 rfl a6 rfl (b8 mB (rows_get (by omega) rfl)) ?_
    refine G6 rfl rfl rfl (b3 rfl ?_); refine l8 rfl rfl ?_ ?_
    ·intro hg5; have hg5' := hg5; try simp at hg5'
     refine j0 hg5 ?_
     first | refine a8 ⟨_, 0, none⟩ rfl rfl i9 rfl ?_ | refine a8 _ rfl rfl i9 rfl ?_
     refine j0 hg5 ?_
     first | refine a7 rfl a6 rfl (d9 mB rfl) ?_ | refine a7 rfl a6 rfl (d4 mB rfl) ?_ | refine a7 rfl a6 rfl (b9 mB (b4 (by omega) rfl)) ?_ | refine a7 rfl a6 rfl (b8 mB (rows_get (by omega) rfl)) ?_
     refine j0 hg5 (D9 rfl rfl rfl ?_); refine p_f rfl rfl (bf1 hg5) rfl ?_; refine b7 rfl (b5 ?_)
     first | refine i6 rfl (fun hb9 => ?_) (fun hb9 => ?_) | refine c8 rfl (fun hb9 => ?_) (fun hb9 => ?_)
     ·have hb9' := hb9; try simp at hb9'
      refine c4 (u4 (u4 (c3 (c7 ?_)))); refine w5 _ rfl rfl rfl rfl q8 ?_; refine b3 rfl (b6 ?_); exact again _ (k + 1) ⟨by omega, Q9 ht (by first | (exfalso; omega) | (rw [hm]; (try rw [hm2]); unfold mErr; (repeat (first | rw [if_pos (by omega)] | rw [if_neg (by omega)])); done))⟩ (C5 (by omega)) mC nK ⟨m0, tK⟩
     have hb9' := hb9; try simp at hb9'
     refine c5 ?_
     first | refine a8 ⟨_, 0, none⟩ rfl rfl i9 rfl ?_ | refine a8 _ rfl rfl i9 rfl ?_
     first | refine a7 rfl a6 rfl (d9 mB rfl) ?_ | refine a7 rfl a6 rfl (d4 mB rfl) ?_ | refine a7 rfl a6 rfl (b9 mB (b4 (by omega) rfl)) ?_ | refine a7 rfl a6 rfl (b8 mB (rows_get (by omega) rfl)) ?_
     refine D9 rfl rfl rfl (b7 rfl (b5 ?_))
     first | refine i6 rfl (fun hb10 => ?_) (fun hb10 => ?_) | refine c8 rfl (fun hb10 => ?_) (fun hb10 => ?_)
     ·have hb10' := hb10; try simp at hb10'
      refine c5 (b7 rfl (b5 (i8 (S8 (y8 (r6 (y8 ?_))))))); exact ret1 () rfl (congrArg (fun b => some (int b)) (by refine (G2 h12 hk2 ht (e := 5) (by first | (exfalso; omega) | (rw [hm]; (try rw [hm2]); unfold mErr; (repeat (first | rw [if_pos (by omega)] | rw [if_neg (by omega)])); done)) (by omega)).symm)) rfl tK nK tK
     have hb10' := hb10; try simp at hb10'
     refine c5 (b7 rfl (b5 (i8 (S8 (y8 (r6 (y8 ?_))))))); exact ret1 () rfl (congrArg (fun b => some (int b)) (by refine (G2 h12 hk2 ht (e := 4) (by first | (exfalso; omega) | (rw [hm]; (try rw [hm2]); unfold mErr; (repeat (first | rw [if_pos (by omega)] | rw [if_neg (by omega)])); done)) (by omega)).symm)) rfl tK nK tK
    intro hg5; have hg5' := hg5; try simp at hg5'
    refine p6 hg5 (p6 hg5 (p6 hg5 ?_)); refine p_t rfl rfl (bt2 hg5) rfl ?_; refine b7 rfl (b5 (c_t rfl rfl (c4 (u4 (u4 (c3 (c7 ?_))))))); refine w5 _ rfl rfl rfl rfl q8 ?_; refine b3 rfl (b6 ?_); exact again _ (k + 1) ⟨by omega, Q9 ht (by first | (exfalso; omega) | (rw [hm]; (try rw [hm2]); unfold mErr; (repeat (first | rw [if_pos (by omega)] | rw [if_neg (by omega)])); done))⟩ (C5 (by omega)) mC nK ⟨m0, tK⟩
   intro hg4; have hg4' := hg4; try simp at hg4'
   refine p6 hg4 (p6 hg4 (p6 hg4 (p6 hg4 ?_))); refine p_t rfl rfl (bt2 hg4) rfl ?_; refine b5 (c_t rfl rfl (c5 (b7 rfl (b5 (C6 (y8 ?_)))))); refine r6 (y8 ?_); exact ret1 () rfl (congrArg (fun b => some (int b)) (by refine (G2 h12 hk2 ht (e := 3) (by first | (exfalso; omega) | (rw [hm]; (try rw [hm2]); unfold mErr; (repeat (first | rw [if_pos (by omega)] | rw [if_neg (by omega)])); done)) (by omega)).symm)) rfl tK nK tK
  intro hg1; have hg1' := hg1; try simp at hg1'
  refine p6 hg1 (p6 hg1 (p6 hg1 ?_)); refine p_t rfl rfl (bt2 hg1) rfl ?_; refine b5 (c_t rfl rfl (c5 (b7 rfl (b5 (C6 (y8 ?_)))))); refine r6 (y8 ?_); exact ret1 () rfl (congrArg (fun b => some (int b)) (by refine (G2 h12 hk2 ht (e := 8) (by first | (exfalso; omega) | (rw [hm]; (try rw [hm2]); unfold mErr; (repeat (first | rw [if_pos (by omega)] | rw [if_neg (by omega)])); done)) (by omega)).symm)) rfl tK nK tK
 have hb2' := hb2; try simp at hb2'
 have hk2 : k = l.length := by omega
 refine r9 (B2 (r8 (c3 (c5 (b7 rfl (b5 (i8 ?_))))))); exact ret1 () rfl (congrArg (fun b => some (int b)) (by rw [ax9 h12 hk2 ht])) rfl tK nK tK
theorem V5 {A B : Option Addr} {ca cb : Nat} (p : List Str) (l : List Mk) :
    Meets prog R6 [.slice A p.length ca, .slice B l.length cb] { LI := [Row A (rows p), Row B (rows l)], val := fun _ : Unit => int (checkErr p l) } := by
 refine d5 iR rfl r4 fun w0 => ?_; refine c5 (b7 rfl (b5 (c6 (c5 (b3 rfl ?_))))); refine h8 D2 rfl rfl (D0 p) (.refl _) ⟨m0, tK⟩ fun _ _ => ?_; refine b7 rfl (l7 (b3 rfl (w7 rfl rfl rfl (b5 ?_))))
 first | refine i6 rfl (fun hb1 => ?_) (fun hb1 => ?_) | refine c8 rfl (fun hb1 => ?_) (fun hb1 => ?_)
 ·have hb1' := hb1; try simp at hb1'
  refine c5 (b3 rfl (b7 rfl (b5 (C6 ?_)))); exact ret1 () rfl (congrArg (fun b => some (int b)) (by rw [checkErr, if_neg hb1])) rfl tK nK tK
 have hb1' := hb1; try simp at hb1'
 have h6 : pageErr p = 0 := by omega
 have hp : p.length ≤ 1000000 := by unfold pageErr at h6; split at h6 <;> omega
 refine c4 (c3 (c5 (b3 rfl (b3 rfl ?_)))); refine h8 cO rfl rfl (cE l hp) (.refl _) ⟨m1, tK⟩ fun _ _ => ?_; refine b7 rfl (b5 (i8 ?_)); exact ret1 () rfl (congrArg (fun b => some (int b)) (by rw [checkErr, if_pos h6])) rfl tK nK tK
def pressO (g : Nat) (o : OutC) (lines : List Str) (nx : Int) : Nat × Obj := (g, .cells #[.slice o.1 lines.length o.2, int nx] O3 (0, 0))
def deedL (m : Mk) (lines : List Str) : List Str := if m.1 = 3 then lines else lines ++ [m.2.2]
def deedN (m : Mk) (nx : Int) : Int := if m.1 = 1 then nx else m.2.1 + 1
abbrev GrowS (o : OutC) (l : List Str) (og : Hp) : Prop := Grow y6 1 o.1 l.length o.2 (rows l) og
def deedCon (g : Nat) (o : OutC) (og : Hp) (lines : List Str) (nx : Int) (m : Mk) : Con (OutC × Hp) :=
  { hpI := pressO g o lines nx :: og, inv := fun x => GrowS x.1 (deedL m lines) x.2, val := fun _ => .tuple #[], hpO := fun x => pressO g x.1 (deedL m lines) (deedN m nx) :: x.2 }
theorem xZ {α : Type} (l : List α) (a b : α) : (l ++ [a, b]).Perm (b :: (l ++ [a])) := by
  have : l ++ [a, b] = (l ++ [a]) ++ [b] := by simp
  rw [this]; exact List.perm_append_comm
theorem yA {α : Type} (l : List α) (a : α) : (l ++ [a]).Perm (a :: l) := List.perm_append_comm
theorem w8 {α : Type} (l : List α) (a : α) : (l ++ [a]).length = l.length + 1 := by simp
theorem gT {g : Nat} {o : OutC} {og : Hp} {lines : List Str} {nx : Int} (m : Mk) (hG : GrowS o lines og) (hl : lines.length ≤ 1000) (hk : m.1 = 1) : Meets prog H2 [.pointer (n9 g), .agg #[int m.1, int m.2.1, str m.2.2]] (deedCon g o og lines nx m) := by
 have eL : deedL m lines = lines ++ [m.2.2] := by simp [deedL, hk]
 have eN : deedN m nx = nx := by simp [deedN, hk]
 unfold deedCon; rw [eL, eN]; unfold pressO GrowS; rw [w8]; refine d5 iP rfl r4 fun w0 => c5 (Q0 rfl rfl fun gB => b5 (J6 (og) ([_, _]) (List.perm_append_comm (l₁ := [_, _])) 9 [8] mixed (by decide) (by decide) (by decide) rfl rfl rfl (p8 rfl (p8 rfl (s7 (fun w1 => l9 rfl rfl (q_z rfl)) ?_)))))
 apply k9 _ rfl rfl rfl
 ·intro w1
  first | refine a8 ⟨_, 0, none⟩ rfl rfl n7 rfl ?_ | refine a8 _ rfl rfl n7 rfl ?_
  refine b6 ?_; exact h9 rfl
 apply k9 _ rfl rfl rfl
 ·intro w1
  first | refine a7 rfl c9 rfl (d4 mB rfl) ?_ | refine a7 rfl c9 rfl (d9 mB rfl) ?_ | refine a7 rfl c9 rfl (b9 mB (b4 (by omega) rfl)) ?_ | refine a7 rfl c9 rfl (b8 mB (rows_get (by omega) rfl)) ?_
  refine b6 ?_; exact h9 rfl
 apply k9 _ rfl rfl rfl
 ·intro w1
  first | refine a8 ⟨_, 2, none⟩ rfl rfl n5 rfl ?_ | refine a8 _ rfl rfl n5 rfl ?_
  refine b6 ?_; exact h9 rfl
 apply k9 _ rfl rfl rfl
 ·intro w1
  first | refine a7 rfl d6 rfl (d4 mB rfl) ?_ | refine a7 rfl d6 rfl (d9 mB rfl) ?_ | refine a7 rfl d6 rfl (b9 mB (b4 (by omega) rfl)) ?_ | refine a7 rfl d6 rfl (b8 mB (rows_get (by omega) rfl)) ?_
  refine b6 ?_; exact h9 rfl
 refine V7 ⟨Nat, fun _ => True, fun g1 => .slice (n9 g1) 1 1, fun g1 => [Row (n9 g1) (rows [m.2.2])]⟩ rfl rfl rfl ?_ ?_
 ·intro w1; refine j8 _ rfl rfl (fun _ => E9 ..) fun gS => b6 (bM (rows [m.2.2]) (List.prefix_refl _) ?_); exact G5 gS tK rfl ⟨m0, tK⟩
 refine rB ⟨OutC × Hp, fun x => Grow y6 1 x.1.1 (lines.length + 1) x.1.2 (rows (lines ++ [m.2.2])) x.2, fun x => .slice x.1.1 (lines.length + 1) x.1.2, fun _ => [], fun x => x.2⟩ rfl rfl rfl ?_ ?_
 ·intro g1 _; intro w1; refine E6 (lines.length + 1) (rows (lines ++ [m.2.2])) H6 rfl rfl rfl hG (hp' := []) (by rw [List.append_nil]) (Src.row (news := rows [m.2.2]) (m := 1) m0 rfl (U5 _) (by decide)) rfl (y4 lines [m.2.2]).symm (by unfold maxLen; omega) (by omega) fun A' c' og' hG' => ?_; refine b6 ?_; exact W6 ((A', c'), og') hG' (fun _ => rfl) (List.sublist_append_left _ _) tK
 refine A9 ⟨rfl, ?_⟩; intro g1 _ x hx; refine l9 rfl rfl ?_
 first | refine a8 ⟨_, 0, none⟩ rfl rfl n7 rfl ?_ | refine a8 _ rfl rfl n7 rfl ?_
 refine D4 rfl rfl (xZ _ _ _) J1 (by rfl) (by rfl) (b6 ?_); exact ret0n x rfl rfl rfl hx ((List.sublist_append_left _ _).cons_cons _) tK
theorem gR {g : Nat} {o : OutC} {og : Hp} {lines : List Str} {nx : Int} (m : Mk) (hG : GrowS o lines og) (hl : lines.length ≤ 1000) (hk : m.1 = 2) (hat : 0 ≤ m.2.1 ∧ m.2.1 ≤ 1000000) : Meets prog H1 [.pointer (n9 g), .agg #[int m.1, int m.2.1, str m.2.2]] (deedCon g o og lines nx m) := by
 have eL : deedL m lines = lines ++ [m.2.2] := by simp [deedL, hk]
 have eN : deedN m nx = m.2.1 + 1 := by simp [deedN, hk]
 unfold deedCon; rw [eL, eN]; unfold pressO GrowS; rw [w8]; refine d5 iO rfl r4 fun w0 => c5 (Q0 rfl rfl fun gB => b5 (J6 (_ :: og) ([_]) (List.perm_append_comm (l₁ := [_])) 16 [15, 9, 5] mixed (by decide) (by decide) (by decide) rfl rfl rfl (p8 rfl (p8 rfl (p8 rfl (s7 (fun w1 => l9 rfl rfl (q_z rfl)) ?_))))))
 apply k9 _ rfl rfl rfl
 ·intro w1
  first | refine a8 ⟨_, 0, none⟩ rfl rfl n7 rfl ?_ | refine a8 _ rfl rfl n7 rfl ?_
  refine b6 ?_; exact h9 rfl
 refine rB ⟨Unit, fun _ => True, fun _ => .slice o.1 lines.length o.2, fun _ => [], fun _ => (g, Obj.cells #[.slice o.1 lines.length o.2, int nx] O3 (0, 0)) :: og⟩ rfl rfl rfl ?_ ?_
 ·intro w1
  first | refine a7 rfl c9 rfl (d9 mB rfl) ?_ | refine a7 rfl c9 rfl (d4 mB rfl) ?_ | refine a7 rfl c9 rfl (b9 mB (b4 (by omega) rfl)) ?_ | refine a7 rfl c9 rfl (b8 mB (rows_get (by omega) rfl)) ?_
  refine b6 ?_; exact W6 () tK (fun _ => rfl) (.refl _) tK
 apply k9 _ rfl rfl rfl
 ·intro w1
  first | refine a8 ⟨_, 2, none⟩ rfl rfl n5 rfl ?_ | refine a8 _ rfl rfl n5 rfl ?_
  refine b6 ?_; exact h9 rfl
 apply k9 _ rfl rfl rfl
 ·intro w1
  first | refine a7 rfl d6 rfl (d4 mB rfl) ?_ | refine a7 rfl d6 rfl (d9 mB rfl) ?_ | refine a7 rfl d6 rfl (b9 mB (b4 (by omega) rfl)) ?_ | refine a7 rfl d6 rfl (b8 mB (rows_get (by omega) rfl)) ?_
  refine b6 ?_; exact h9 rfl
 refine V7 ⟨Nat, fun _ => True, fun g1 => .slice (n9 g1) 1 1, fun g1 => [Row (n9 g1) (rows [m.2.2])]⟩ rfl rfl rfl ?_ ?_
 ·intro w1; refine j8 _ rfl rfl (fun _ => E9 ..) fun gS => b6 (bM (rows [m.2.2]) (List.prefix_refl _) ?_); exact G5 gS tK rfl ⟨m0, tK⟩
 refine rB ⟨OutC × Hp, fun x => Grow y6 1 x.1.1 (lines.length + 1) x.1.2 (rows (lines ++ [m.2.2])) x.2, fun x => .slice x.1.1 (lines.length + 1) x.1.2, fun _ => [], fun x => x.2 ++ [(g, Obj.cells #[.slice o.1 lines.length o.2, int nx] O3 (0, 0))]⟩ rfl rfl rfl ?_ ?_
 ·intro g1 _ _ _; intro w1; refine E6 (lines.length + 1) (rows (lines ++ [m.2.2])) H6 rfl rfl rfl hG (List.perm_append_comm (l₁ := [_])) (Src.row (news := rows [m.2.2]) (m := 1) m0 rfl (U5 _) (by decide)) rfl (y4 lines [m.2.2]).symm (by unfold maxLen; omega) (by omega) fun A' c' og' hG' => ?_; refine b6 ?_; exact W6 ((A', c'), og') hG' (fun _ => rfl) (.refl _) tK
 apply k9 _ rfl rfl rfl
 ·intro w1
  first | refine a8 ⟨_, 1, none⟩ rfl rfl d7 rfl ?_ | refine a8 _ rfl rfl d7 rfl ?_
  refine b6 ?_; exact h9 rfl
 apply k9 _ rfl rfl rfl
 ·intro w1
  first | refine a7 rfl a6 rfl (d4 mB rfl) ?_ | refine a7 rfl a6 rfl (d9 mB rfl) ?_ | refine a7 rfl a6 rfl (b9 mB (b4 (by omega) rfl)) ?_ | refine a7 rfl a6 rfl (b8 mB (rows_get (by omega) rfl)) ?_
  refine b6 ?_; exact h9 rfl
 refine s7 (fun w1 => w5 _ rfl rfl rfl rfl q8 (q_z rfl)) (s7 (fun w1 => l9 rfl rfl (q_z rfl)) ?_)
 apply k9 _ rfl rfl rfl
 ·intro w1
  first | refine a8 ⟨_, 0, none⟩ rfl rfl n7 rfl ?_ | refine a8 _ rfl rfl n7 rfl ?_
  refine b6 ?_; exact h9 rfl
 refine hb_st ⟨OutC × Hp, fun x => Grow y6 1 x.1.1 (lines.length + 1) x.1.2 (rows (lines ++ [m.2.2])) x.2, fun x => .tuple #[], fun _ => [], fun x => (g, Obj.cells #[.slice x.1.1 (lines.length + 1) x.1.2, int nx] O3 (0, 0)) :: x.2⟩ rfl rfl ?_ ?_
 ·intro x hx; intro w1; refine D4 rfl rfl (yA _ _) J1 (by rfl) (by rfl) (b6 ?_); exact W6 x hx (fun h => by cases h) (.refl _) tK
 refine A9 ⟨rfl, ?_⟩; intro _ _ g1 _ x0 hx0 x hx; refine l9 rfl rfl ?_
 first | refine a8 ⟨_, 1, none⟩ rfl rfl n6 rfl ?_ | refine a8 _ rfl rfl n6 rfl ?_
 refine D4 rfl rfl (.refl _) w6 (by rfl) (by rfl) (b6 ?_); exact ret0n x rfl rfl rfl hx ((List.sublist_append_left _ _).cons_cons _) tK
theorem gQ {g : Nat} {o : OutC} {og : Hp} {lines : List Str} {nx : Int} (m : Mk) (hG : GrowS o lines og) (hl : lines.length ≤ 1000) (hk : m.1 = 3) (hat : 0 ≤ m.2.1 ∧ m.2.1 ≤ 1000000) : Meets prog H0 [.pointer (n9 g), .agg #[int m.1, int m.2.1, str m.2.2]] (deedCon g o og lines nx m) := by
 have eL : deedL m lines = lines := by simp [deedL, hk]
 have eN : deedN m nx = m.2.1 + 1 := by simp [deedN, hk]
 unfold deedCon; rw [eL, eN]; unfold pressO; refine d5 iN rfl r4 fun w0 => c5 (Q0 rfl rfl fun gB => ?_); refine b5 (c7 (b3 rfl ?_))
 first | refine a8 ⟨_, 1, none⟩ rfl rfl d7 rfl ?_ | refine a8 _ rfl rfl d7 rfl ?_
 first | refine a7 rfl a6 rfl (d9 mB rfl) ?_ | refine a7 rfl a6 rfl (d4 mB rfl) ?_ | refine a7 rfl a6 rfl (b9 mB (b4 (by omega) rfl)) ?_ | refine a7 rfl a6 rfl (b8 mB (rows_get (by omega) rfl)) ?_
 refine w5 _ rfl rfl rfl rfl q8 (l9 rfl rfl ?_)
 first | refine a8 ⟨_, 1, none⟩ rfl rfl n6 rfl ?_ | refine a8 _ rfl rfl n6 rfl ?_
 refine D4 rfl rfl (.swap _ _ _) w6 (by rfl) (by rfl) (b6 ?_); exact ret0n (o, og) rfl rfl rfl hG ((List.sublist_cons_self _ _).cons_cons _) tK
def fnV (f : Nat) : Value := .func (.func f) #[] #[]
def deedsL : List (Ment Int) := [(1, fnV H2, 0), (2, fnV H1, 1), (3, fnV H0, 2)]
abbrev K3 : KeyC prog E2 int := KeyC.int dH
theorem jR : Meets prog X8 [] { val := fun g : Nat => .map (some g), hpO := fun g => [(g, mapO int deedsL 3)] } := by
 refine d5 mK rfl r4 fun w0 => ?_; refine c5 (b7 rfl (l7 ?_)); refine cD int rfl fun gM => X2 (k := 1) K3 (.inr rfl) u5 rfl rfl rfl (.refl _) (X2 (k := 2) K3 (.inr rfl) u5 rfl rfl rfl (.refl _) (X2 (k := 3) K3 (.inr rfl) u5 rfl rfl rfl (.refl _) ?_)); refine b3 rfl (b7 rfl (b5 (i8 ?_))); exact ret1 gM rfl rfl rfl tK (.refl _) tK
def deedV (k : Int) : Value := if k = 1 then fnV H2 else if k = 2 then fnV H1 else fnV H0
theorem dz5 {k : Int} (h : 1 ≤ k ∧ k ≤ 3) : getM deedsL k = some (deedV k) := by
  have : k = 1 ∨ k = 2 ∨ k = 3 := by omega
  rcases this with rfl | rfl | rfl <;> rfl
theorem hl_deed {n : Nat} {b : Bx} {Q : Exit → Act → World → Prop} {fr : Fr} {hp hpR : Hp} {L : List Fact} {ops : Array Oper} {rest : List Oper} {d : Tmp} {ty : TypeId} {pos : String} {af : Array Edge} {x : Operand} {args : Array Operand} {ats : Array TypeId}
    {g : Nat} {o : OutC} {og : Hp} {lines : List Str} {nx : Int} {m : Mk} (hd : Nat.blt d n = true) (hf : ev fr x = some (deedV m.1)) (hx : args.toList.mapM (ev fr) = some [.pointer (n9 g), .agg #[int m.1, int m.2.1, str m.2.2]])
    (hk : 1 ≤ m.1 ∧ m.1 ≤ 3) (hat : 0 ≤ m.2.1 ∧ m.2.1 ≤ 1000000) (hG : GrowS o lines og) (hl : lines.length ≤ 1000) (h1 : hp.Perm ((pressO g o lines nx :: og) ++ hpR))
    (kk : ∀ y : OutC × Hp, GrowS y.1 (deedL m lines) y.2 → HL ⟨prog, n, b, [], none⟩ ops Q rest ((d, .tuple #[]) :: fr) ((pressO g y.1 (deedL m lines) (deedN m nx) :: y.2) ++ hpR) L) :
    HL ⟨prog, n, b, [], none⟩ ops Q (⟨some d, .call ⟨.value x, args, ats⟩, ty, pos, af, none⟩ :: rest) fr hp L := by
  have : m.1 = 1 ∨ m.1 = 2 ∨ m.1 = 3 := by omega
  rcases this with h | h | h
  · exact G3 (cap := []) gW hd (by rw [hf, h]; rfl) hx (gT m hG hl h) h1 tK (fun y hy => kk y hy)
  · exact G3 (cap := []) gV hd (by rw [hf, h]; rfl) hx (gR m hG hl h hat) h1 tK (fun y hy => kk y hy)
  exact G3 (cap := []) gU hd (by rw [hf, h]; rfl) hx (gQ m hG hl h hat) h1 tK (fun y hy => kk y hy)
def stepP (p : List Str) (st : List Str × Nat) (m : Mk) : List Str × Nat :=
  (deedL m (st.1 ++ (p.take (max st.2 m.2.1.toNat)).drop st.2), (deedN m (max st.2 m.2.1.toNat : Nat)).toNat)
def madeP (p : List Str) (l : List Mk) : List Str := (l.foldl (stepP p) ([], 0)).1 ++ p.drop (l.foldl (stepP p) ([], 0)).2
def MV (n : Nat) (l : List Mk) : Prop := ∀ m ∈ l, 1 ≤ m.1 ∧ m.1 ≤ 3 ∧ 0 ≤ m.2.1 ∧ m.2.1 ≤ n ∧ (m.1 = 1 ∨ m.2.1 < n)
theorem I3 {α : Type} {f : α → Int} : ∀ {l : List α}, firstErr f l = 0 → ∀ a ∈ l, f a = 0
  | [], _, a, h => by simp at h
  | b :: l, h, a, ha => by
    rw [firstErr] at h
    split at h
    · rename_i h0
      rcases List.mem_cons.1 ha with rfl | ha
      · exact h0
      exact I3 h a ha
    rename_i h0; exact absurd h h0
theorem vJ {n : Nat} {l : List Mk} (h : marksErr n l = 0) : l.length ≤ 12 ∧ MV n l := by
  unfold marksErr at h
  split at h
  · omega
  rename_i h12
  refine ⟨by omega, fun m hm => ?_⟩; obtain ⟨i, hi, rfl⟩ := List.getElem_of_mem hm; have := I3 h i (by simpa using hi); unfold markErr mErr at this; rw [z8 hi] at this; generalize l[i] = m at *
  split at this
  · omega
  split at this
  · omega
  rename_i h1 h2
  by_cases hk : m.1 = 1
  · simp only [hk, if_true] at h2; omega
  simp only [hk, if_false] at h2; omega
theorem cq5 {p : List Str} {st : List Str × Nat} {m : Mk} {k : Nat} (hp6 : p.length ≤ 6) (h1 : st.2 ≤ p.length) (h2 : st.1.length ≤ 7 * k) (hm : 1 ≤ m.1 ∧ m.1 ≤ 3 ∧ 0 ≤ m.2.1 ∧ m.2.1 ≤ p.length ∧ (m.1 = 1 ∨ m.2.1 < p.length)) : (stepP p st m).2 ≤ p.length ∧ (stepP p st m).1.length ≤ 7 * (k + 1) := by
  obtain ⟨ls, nx⟩ := st; simp only at h1 h2; unfold stepP deedL deedN; have h3 : ((p.take (max nx m.2.1.toNat)).drop nx).length ≤ 6 := by rw [List.length_drop, List.length_take]; omega
  by_cases k1 : m.1 = 1
  · simp only [k1, if_true]
    rw [if_neg (by decide)]; rw [List.length_append, List.length_append]; simp only [List.length_cons, List.length_nil, Int.toNat_natCast]; omega
  by_cases k3 : m.1 = 3
  · simp only [k3, if_true]
    rw [if_neg (by decide), List.length_append]
    omega
  simp only [k1, k3, if_false]; rw [List.length_append, List.length_append]; simp only [List.length_cons, List.length_nil]; omega
theorem r7 {α : Type} [Inhabited α] {l : List α} {k : Nat} (h : k < l.length) : l.getD k default ∈ l := by rw [z8 h]; exact List.getElem_mem h
theorem lS {A B : Option Addr} {ca cb : Nat} (p : List Str) (l : List Mk) (hp6 : p.length ≤ 6) (hl : l.length ≤ 12) (hV : MV p.length l) (hc : p.length ≤ ca) :
    Meets prog aO [.slice A p.length ca, .slice B l.length cb] { outSl (madeP p l) with LI := [Row A (rows p), Row B (rows l)] } := by
 refine d5 pF rfl r4 fun w0 => ?_; refine c5 (b7 rfl (l7 ?_)); refine C9 _ rfl rfl (fun _ => hU ..) (Q0 rfl rfl fun gB => ?_); refine b7 rfl (l7 ?_); refine h8 kO rfl rfl (jR) p9 tK fun gM _ => ?_; refine b7 rfl (b5 (cH ?_)); refine P2 (.swap _ _ _) ?_; refine c7 (b3 rfl ?_); refine i7 rfl j6 rfl ?_; refine b3 rfl (b5 (i5 ?_))
 refine v6 (β := Nat × OutC × Hp × List Str × Nat) ⟨fun ⟨k, o, og, ls, nx⟩ => k ≤ l.length ∧ (l.take k).foldl (stepP p) ([], 0) = (ls, nx) ∧ GrowS o ls og ∧ nx ≤ p.length ∧ ls.length ≤ 7 * k,
   fun ⟨k, o, og, ls, nx⟩ => [(0, .slice A p.length ca), (5, .pointer (n9 gB)), (6, .map (some gM)), (12, .slice B l.length cb), (13, int l.length), (14, int k)], fun ⟨k, o, og, ls, nx⟩ => pressO gB o ls nx :: (og ++ [(gM, mapO int deedsL 3)]), fun _ => [Row A (rows p), Row B (rows l)]⟩
   (fun x => l.length - x.1) (0, (none, 0), [], [], 0) ⟨Nat.zero_le _, rfl, Grow.nil _ _, Nat.zero_le _, Nat.le_refl _⟩ mC (.refl _) ⟨m0, m1, tK⟩ fun x hx => ?_
 obtain ⟨k, o, og, ls, nx⟩ := x; obtain ⟨hk, hst, hG, hn, hlen⟩ := hx; refine c5 (y5 rfl rfl rfl (b5 (c6 ?_)))
 first | refine i6 rfl (fun hb1 => ?_) (fun hb1 => ?_) | refine c8 rfl (fun hb1 => ?_) (fun hb1 => ?_)
 ·have hb1' := hb1; try simp at hb1'
  have hk2 : k < l.length := by omega
  refine c4 (c3 (c6 (i5 (c5 ?_)))); refine u6 (α := Mk) _ _ rfl j6 g0 rfl rfl rfl mB rfl (by omega) (by decide) (v8 rfl j5 g0 rfl rfl (q9 mB (u1 (by omega))) (A5 rfl (fun _ => C3 _) fun gA => u2 rfl rfl J0 g0 (by rfl) (by rfl) ?_)); refine b5 (c6 ?_); have hVm := hV _ (r7 hk2); have hst2 : (l.take (k + 1)).foldl (stepP p) ([], 0) = stepP p (ls, nx) (l.getD k default) := by rw [s9 l k hk2, List.foldl_append, hst]; rfl
  have hnext := cq5 (st := (ls, nx)) (k := k) hp6 hn hlen hVm; generalize hm : l.getD k default = m at *; obtain ⟨kd, at0, t⟩ := m; simp only at hVm; obtain ⟨at1, rfl⟩ := Int.eq_ofNat_of_zero_le hVm.2.2.1; refine P2 (pm1 _ _ _ _) (J6 (og) ([_, _, _]) (.refl _) 19 [18] mixed (by decide) (by decide) (by decide) rfl rfl rfl (p8 rfl (p8 rfl (s7 (fun w1 => l9 rfl rfl (q_z rfl)) ?_))))
  apply k9 _ rfl rfl rfl
  ·intro w1
   first | refine a8 ⟨_, 0, none⟩ rfl rfl n7 rfl ?_ | refine a8 _ rfl rfl n7 rfl ?_
   refine b6 ?_; exact h9 rfl
  apply k9 _ rfl rfl rfl
  ·intro w1
   first | refine a7 rfl c9 rfl (d4 mB rfl) ?_ | refine a7 rfl c9 rfl (d9 mB rfl) ?_ | refine a7 rfl c9 rfl (b9 mB (b4 (by omega) rfl)) ?_ | refine a7 rfl c9 rfl (b8 mB (rows_get (by omega) rfl)) ?_
   refine b6 ?_; exact h9 rfl
  refine p8 rfl (p8 rfl (s7 (fun w1 => l9 rfl rfl (q_z rfl)) ?_))
  apply k9 _ rfl rfl rfl
  ·intro w1
   first | refine a8 ⟨_, 1, none⟩ rfl rfl n6 rfl ?_ | refine a8 _ rfl rfl n6 rfl ?_
   refine b6 ?_; exact h9 rfl
  apply k9 _ rfl rfl rfl
  ·intro w1
   first | refine a7 rfl a6 rfl (d4 mB rfl) ?_ | refine a7 rfl a6 rfl (d9 mB rfl) ?_ | refine a7 rfl a6 rfl (b9 mB (b4 (by omega) rfl)) ?_ | refine a7 rfl a6 rfl (b8 mB (rows_get (by omega) rfl)) ?_
   refine b6 ?_; exact h9 rfl
  refine p8 rfl (s7 (fun w1 => l9 rfl rfl (q_z rfl)) ?_)
  apply k9 _ rfl rfl rfl
  ·intro w1
   first | refine a8 ⟨_, 1, none⟩ rfl rfl n6 rfl ?_ | refine a8 _ rfl rfl n6 rfl ?_
   refine b6 ?_; exact h9 rfl
  apply k9 _ rfl rfl rfl
  ·intro w1
   first | refine a7 rfl a6 rfl (d4 mB rfl) ?_ | refine a7 rfl a6 rfl (d9 mB rfl) ?_ | refine a7 rfl a6 rfl (b9 mB (b4 (by omega) rfl)) ?_ | refine a7 rfl a6 rfl (b8 mB (rows_get (by omega) rfl)) ?_
   refine b6 ?_; exact h9 rfl
  apply k9 _ rfl rfl rfl
  ·intro w1
   first | refine a8 ⟨_, 1, none⟩ rfl rfl d7 rfl ?_ | refine a8 _ rfl rfl d7 rfl ?_
   refine b6 ?_; exact h9 rfl
  apply k9 _ rfl rfl rfl
  ·intro w1
   first | refine a7 rfl a6 rfl (d4 mB rfl) ?_ | refine a7 rfl a6 rfl (d9 mB rfl) ?_ | refine a7 rfl a6 rfl (b9 mB (b4 (by omega) rfl)) ?_ | refine a7 rfl a6 rfl (b8 mB (rows_get (by omega) rfl)) ?_
   refine b6 ?_; exact h9 rfl
  refine s7 (fun w1 => cx6 ((max nx at1 : Nat) : Int) rfl rfl rfl (by simp only; split <;> omega) (q_z rfl)) ?_; refine s7 (fun w1 => xT nx (max nx at1) rfl j7 q7 rfl rfl rfl rfl rfl (Nat.le_max_left _ _) (by omega) (q_z rfl)) ?_; refine rB ⟨OutC × Hp, fun x => GrowS x.1 (ls ++ (p.take (max nx at1)).drop nx) x.2, fun x => .slice x.1.1 (ls ++ (p.take (max nx at1)).drop nx).length x.1.2, fun _ => [], fun x => x.2⟩ rfl rfl rfl ?_ ?_
  ·intro w1; refine yK (p := p) (ca := ca) nx (max nx at1) m0 hc ?_; refine E6 (ls ++ (p.take (max nx at1)).drop nx).length (rows (ls ++ (p.take (max nx at1)).drop nx)) H6 rfl rfl rfl hG (hp' := []) (by rw [List.append_nil]) (Src.row (news := rows ((p.take (max nx at1)).drop nx)) m0 (by rw [O8, List.length_drop, List.length_take, Nat.min_eq_left (by omega)]; rfl) (U5 _) (by decide)) (by rw [List.length_append, List.length_drop, List.length_take]; omega) (y4 _ _).symm (by unfold maxLen; rw [List.length_append, List.length_drop, List.length_take]; omega) (by rw [List.length_append, List.length_drop, List.length_take]; omega) fun A' c' og' hG' => ?_; refine b6 ?_; exact W6 ((A', c'), og') hG' (fun _ => rfl) (List.sublist_append_left _ _) tK
  refine A9 ⟨rfl, ?_⟩; intro x hx; obtain ⟨o1, og1⟩ := x; have hG1 : GrowS o1 (ls ++ (p.take (max nx at1)).drop nx) og1 := hx; generalize hl1 : ls ++ (p.take (max nx at1)).drop nx = l1 at *; refine l9 rfl rfl ?_
  first | refine a8 ⟨_, 0, none⟩ rfl rfl n7 rfl ?_ | refine a8 _ rfl rfl n7 rfl ?_
  refine D4 rfl rfl (pm2 _ _ _ _) J1 (by rfl) (by rfl) ?_; refine b5 (c6 ?_); refine P2 (pm3 _ _ _ _) (J6 (og1) ([_, _, _]) (.refl _) 8 [] mixed (by decide) (by decide) (by decide) rfl rfl rfl (p8 rfl (p8 rfl (s7 (fun w1 => l9 rfl rfl (q_z rfl)) ?_))))
  apply k9 _ rfl rfl rfl
  ·intro w1
   first | refine a8 ⟨_, 1, none⟩ rfl rfl n6 rfl ?_ | refine a8 _ rfl rfl n6 rfl ?_
   refine b6 ?_; exact h9 rfl
  apply k9 _ rfl rfl rfl
  ·intro w1
   first | refine a7 rfl a6 rfl (d4 mB rfl) ?_ | refine a7 rfl a6 rfl (d9 mB rfl) ?_ | refine a7 rfl a6 rfl (b9 mB (b4 (by omega) rfl)) ?_ | refine a7 rfl a6 rfl (b8 mB (rows_get (by omega) rfl)) ?_
   refine b6 ?_; exact h9 rfl
  apply k9 _ rfl rfl rfl
  ·intro w1
   first | refine a8 ⟨_, 1, none⟩ rfl rfl d7 rfl ?_ | refine a8 _ rfl rfl d7 rfl ?_
   refine b6 ?_; exact h9 rfl
  apply k9 _ rfl rfl rfl
  ·intro w1
   first | refine a7 rfl a6 rfl (d4 mB rfl) ?_ | refine a7 rfl a6 rfl (d9 mB rfl) ?_ | refine a7 rfl a6 rfl (b9 mB (b4 (by omega) rfl)) ?_ | refine a7 rfl a6 rfl (b8 mB (rows_get (by omega) rfl)) ?_
   refine b6 ?_; exact h9 rfl
  refine s7 (fun w1 => cx6 ((max nx at1 : Nat) : Int) rfl rfl rfl (by simp only; split <;> omega) (q_z rfl)) ?_; refine A9 ⟨rfl, ?_⟩; refine l9 rfl rfl ?_
  first | refine a8 ⟨_, 1, none⟩ rfl rfl n6 rfl ?_ | refine a8 _ rfl rfl n6 rfl ?_
  refine D4 rfl rfl (pm4 _ _ _ _) w6 (by rfl) (by rfl) (b5 (P2 (pm5 _ _ _ _) ?_)); refine c7 (b3 rfl ?_)
  first | refine a8 ⟨_, 0, none⟩ rfl rfl i9 rfl ?_ | refine a8 _ rfl rfl i9 rfl ?_
  first | refine a7 rfl a6 rfl (d9 mB rfl) ?_ | refine a7 rfl a6 rfl (d4 mB rfl) ?_ | refine a7 rfl a6 rfl (b9 mB (b4 (by omega) rfl)) ?_ | refine a7 rfl a6 rfl (b8 mB (rows_get (by omega) rfl)) ?_
  refine xY (k := kd) K3 rfl u5 rfl rfl (P1 m1) (dz5 ⟨hVm.1, hVm.2.1⟩) (b3 rfl ?_)
  first | refine D6 rfl j5 g0 rfl mB (by rfl) ?_ | refine D5 rfl j5 g0 rfl mB (by rfl) ?_ | refine v8 rfl j5 g0 rfl rfl (q9 mB (u1 (by omega))) ?_
  have hl1n : l1.length ≤ 1000 := by rw [← hl1, List.length_append, List.length_drop, List.length_take]; omega
  refine hl_deed (m := (kd, (at1 : Int), t)) (o := o1) (og := og1) (lines := l1) (nx := (max nx at1 : Nat)) rfl rfl rfl ⟨hVm.1, hVm.2.1⟩ ⟨by simp only; omega, by simp only; omega⟩ hG1 hl1n (pm6 _ _ _ _) fun y hy => ?_; refine b6 (u4 (c3 (c7 ?_))); refine w5 _ rfl rfl rfl rfl q8 ?_; refine b3 rfl (b6 ?_); have hs : stepP p (ls, nx) (kd, (at1 : Int), t) = (deedL (kd, (at1 : Int), t) l1, (deedN (kd, (at1 : Int), t) (max nx at1 : Nat)).toNat) := by rw [← hl1]; rfl
  rw [hs] at hst2 hnext; have hN : (((deedN (kd, (at1 : Int), t) (max nx at1 : Nat)).toNat : Nat) : Int) = deedN (kd, (at1 : Int), t) (max nx at1 : Nat) := Int.toNat_of_nonneg (by unfold deedN; simp only; split <;> omega); refine again _ (k + 1, y.1, y.2, deedL (kd, (at1 : Int), t) l1, (deedN (kd, (at1 : Int), t) (max nx at1 : Nat)).toNat) ?_ ?_ ?_ ?_ ?_
  · exact ⟨by omega, hst2, hy, hnext.1, hnext.2⟩
  · show l.length - (k + 1) < l.length - k
    omega
  · exact mC
  · show (pressO gB y.1 _ (((deedN (kd, (at1 : Int), t) (max nx at1 : Nat)).toNat : Nat) : Int) :: (y.2 ++ [_])).Sublist _
    rw [hN]; exact ((List.Sublist.refl _).append (.cons _ (.refl _))).cons_cons _
  exact ⟨m0, m1, tK⟩
 have hb1' := hb1; try simp at hb1'
 have hk2 : k = l.length := by omega
 refine r9 (B2 (r8 (c3 (c6 ?_)))); refine G4 10 mixed (by decide) (by decide) rfl rfl (p8 rfl (s7 (fun w1 => l9 rfl rfl (q_z rfl)) ?_))
 apply k9 _ rfl rfl rfl
 ·intro w1
  first | refine a8 ⟨_, 0, none⟩ rfl rfl n7 rfl ?_ | refine a8 _ rfl rfl n7 rfl ?_
  refine b6 ?_; exact h9 rfl
 apply k9 _ rfl rfl rfl
 ·intro w1
  first | refine a7 rfl c9 rfl (d4 mB rfl) ?_ | refine a7 rfl c9 rfl (d9 mB rfl) ?_ | refine a7 rfl c9 rfl (b9 mB (b4 (by omega) rfl)) ?_ | refine a7 rfl c9 rfl (b8 mB (rows_get (by omega) rfl)) ?_
  refine b6 ?_; exact h9 rfl
 refine p8 rfl (p8 rfl (s7 (fun w1 => l9 rfl rfl (q_z rfl)) ?_))
 apply k9 _ rfl rfl rfl
 ·intro w1
  first | refine a8 ⟨_, 1, none⟩ rfl rfl n6 rfl ?_ | refine a8 _ rfl rfl n6 rfl ?_
  refine b6 ?_; exact h9 rfl
 apply k9 _ rfl rfl rfl
 ·intro w1
  first | refine a7 rfl a6 rfl (d4 mB rfl) ?_ | refine a7 rfl a6 rfl (d9 mB rfl) ?_ | refine a7 rfl a6 rfl (b9 mB (b4 (by omega) rfl)) ?_ | refine a7 rfl a6 rfl (b8 mB (rows_get (by omega) rfl)) ?_
  refine b6 ?_; exact h9 rfl
 refine s7 (fun w1 => qM nx rfl j7 q7 rfl rfl rfl hn (q_z rfl)) ?_; refine A9 ⟨rfl, ?_⟩; refine yK (p := p) (ca := ca) nx p.length m0 hc ?_; rw [List.take_length]; refine E6 (ls ++ p.drop nx).length (rows (ls ++ p.drop nx)) H6 rfl rfl rfl hG (pm7 _ _ _) (Src.row (news := rows (p.drop nx)) m0 (by rw [O8, List.length_drop]; rfl) (U5 _) (by decide)) (by rw [List.length_append, List.length_drop]) (y4 _ _).symm (by unfold maxLen; rw [List.length_append, List.length_drop]; omega) (by rw [List.length_append, List.length_drop]; omega) fun A' c' og' hG' => ?_; refine b7 rfl (b5 (i8 ?_)); subst hk2; rw [List.take_length] at hst; have e : madeP p l = ls ++ p.drop nx := by unfold madeP; rw [hst]
 rw [e]; refine vP hG' ?_; exact ret1 (A', c') rfl rfl rfl hG'.le nK ⟨m0, tK⟩
end Go.Proofs.YtpihanmcnmlodaaGreatDoor
end
