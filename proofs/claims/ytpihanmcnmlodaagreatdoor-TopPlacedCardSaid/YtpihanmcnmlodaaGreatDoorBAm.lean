/- Texts. -/

import Derived.Test.YtpihanmcnmlodaaGreatDoorBAe
import Derived.Test.YtpihanmcnmlodaaGreatDoorBAl
import Derived.Test.YtpihanmcnmlodaaGreatDoorBAi
set_option linter.unusedVariables false
set_option linter.unusedSimpArgs false
section
namespace Go.Proofs.YtpihanmcnmlodaaGreatDoor
open Go Go.W Tryz T F
set_option maxRecDepth 20000
attribute [local irreducible] HL HC HQ HB Row Rows2 Blk Facts
def firstErr {α : Type} (f : α → Int) : List α → Int
  | [] => 0
  | a :: l => if f a = 0 then firstErr f l else f a
theorem ax2 {α : Type} {f : α → Int} {l : List α} {k : Nat} (hk : k < l.length) (h : firstErr f (l.take k) = 0) : firstErr f (l.take (k + 1)) = f l[k] := by
  induction l generalizing k with
  | nil => simp at hk
  | cons a l ih =>
    cases k with
    | zero => simp [firstErr]; intro h; exact h.symm
    | succ k =>
      simp only [List.take_succ_cons, firstErr] at h ⊢
      split at h
      · rename_i h0
        rw [if_pos h0]; exact ih (by simpa using hk) h
      rename_i h0; exact absurd h h0
theorem gj5 {α : Type} {f : α → Int} {l : List α} {k : Nat} (hk : k < l.length) (h : firstErr f (l.take k) = 0) (h1 : ¬ f l[k] = 0) : firstErr f l = f l[k] := by
  induction l generalizing k with
  | nil => simp at hk
  | cons a l ih =>
    cases k with
    | zero => simp at h1; simp [firstErr, h1]
    | succ k =>
      simp only [List.take_succ_cons, firstErr] at h ⊢
      split at h
      · rename_i h0
        rw [if_pos h0]; exact ih (by simpa using hk) h (by simpa using h1)
      rename_i h0; exact absurd h h0
theorem aj5 {α : Type} [Inhabited α] {f : α → Int} {l : List α} {k : Nat} (hk : k < l.length) (h : firstErr f (l.take k) = 0) : firstErr f (l.take (k + 1)) = f (l.getD k default) := by rw [ax2 hk h, q7 hk]
theorem cq6 {α : Type} [Inhabited α] {f : α → Int} {l : List α} {k : Nat} (hk : k < l.length) (h : firstErr f (l.take k) = 0) (h1 : ¬ f (l.getD k default) = 0) : firstErr f l = f (l.getD k default) := by
  rw [q7 hk] at h1 ⊢; exact gj5 hk h h1
abbrev Asc7 (s : Str) : Prop := ∀ b ∈ s, b.toNat < 128
def hqw : Str := [72, 81, 87]
def kindN (b : UInt8) : Int := if 97 ≤ b.toNat ∧ b.toNat ≤ 122 then 1 else if 65 ≤ b.toNat ∧ b.toNat ≤ 90 ∧ ¬ b ∈ hqw then 2 else 0
def soundB (b : UInt8) : Str := if b.toNat = 67 then [99, 104] else if b.toNat = 74 then [106, 117] else if b.toNat = 89 then [106, 97] else if b.toNat = 88 then [115, 104] else Lib.toLowerA [b]
def keyOf (s : Str) : Str := (s.map soundB).flatten
def okS (s : Str) : Bool := s.all fun b => decide (kindN b = kindN (s.getD 0 default)) && decide (¬ kindN b = 0)
def nameErr (s : Str) : Int := if s.length = 0 then 7 else if 6 < s.length then 10 else if okS s = true then 0 else 2
theorem az1 (b : UInt8) : (soundB b).length ≤ 2 := by
  unfold soundB
  repeat' split
  all_goals simp [Lib.toLowerA]
theorem hq8 {s : Str} {k : Nat} (h : k < s.length) : keyOf (s.take (k + 1)) = keyOf (s.take k) ++ soundB (s.getD k default) := by
  rw [A6 s k h]; unfold keyOf; simp
theorem bj6 : ∀ s : Str, (keyOf s).length ≤ 2 * s.length
  | [] => by simp [keyOf]
  | b :: s => by
    have h1 := bj6 s; have h2 := az1 b; unfold keyOf at h1 ⊢; simp only [List.map_cons, List.flatten_cons, List.length_append, List.length_cons]
    omega
theorem iq4 {s : Str} {k : Nat} (hk : k < s.length) (h : kindN (s.getD k default) = 0 ∨ ¬ kindN (s.getD k default) = kindN (s.getD 0 default)) : ¬ okS s = true := by
  intro e; have := List.all_eq_true.1 e _ (n7 hk); rw [Bool.and_eq_true, decide_eq_true_eq, decide_eq_true_eq] at this
  rcases h with h | h
  · exact this.2 h
  exact h this.1
theorem okS_all {s : Str} (h : ∀ j, j < s.length → kindN (s.getD j default) = kindN (s.getD 0 default) ∧ ¬ kindN (s.getD j default) = 0) : okS s = true := by
  refine List.all_eq_true.2 fun b hb => ?_; obtain ⟨j, hj, rfl⟩ := List.getElem_of_mem hb; have := h j hj; rw [q7 hj] at this; rw [Bool.and_eq_true, decide_eq_true_eq, decide_eq_true_eq]; exact this
def cmpN (a b : Str) : Int := orL [cmpS (keyOf a) (keyOf b), cmpI (kindN (a.getD 0 default)) (kindN (b.getD 0 default))]
theorem i32_u8 (u : UInt8) : IntKind.i32.wrap (u.toNat : Int) = u.toNat := IntWalk.i32_in _ (by have := u.toNat_lt; omega)
theorem mL (b : UInt8) (hb : b.toNat < 128) : Meets prog lU [.int .i32 (b.toNat : Int)] { val := fun _ : Unit => int (kindN b) } := by
 refine d3 aj1 rfl n2 fun w0 => ?_; refine d4 (b6 rfl (c3 (d1 (i8 (d4 (b4 rfl (cT rfl rfl rfl (b4 rfl ?_)))))))); refine q6 rfl rfl ?_ ?_
 ·intro hg1; have hg1' := hg1; try simp at hg1'
  have q1 := of_decide_eq_true (bt1 hg1); refine k7 hg1 (b4 rfl (k7 hg1 (nY rfl rfl rfl ?_))); refine p_t rfl rfl (bt1 hg1) rfl ?_; refine b6 rfl (c3 ?_)
  first | refine j9 rfl (fun hb1 => ?_) (fun hb1 => ?_) | refine d6 rfl (fun hb1 => ?_) (fun hb1 => ?_)
  ·have hb1' := hb1; try simp at hb1'
   refine d4 (b6 rfl (c3 (j6 (A1 ?_)))); exact ret1 () rfl (congrArg (fun n => some (int n)) (by first | (rw [kindN, if_pos (by omega)]; done) | (rw [kindN, if_neg (by omega), if_pos ⟨by omega, by omega, by simpa using hb2⟩]; done) | (rw [kindN, if_neg (by omega), if_neg (by omega)]; done) | (rw [kindN, if_neg (by omega), if_neg (by rintro ⟨h1, h2, h3⟩; exact h3 (by simpa using hb2))]))) rfl tK nK tK
  have hb1' := hb1; try simp at hb1'
  refine d4 (b4 rfl (cT rfl rfl rfl (b4 rfl ?_))); refine q6 rfl rfl ?_ ?_
  ·intro hg2; have hg2' := hg2; try simp at hg2'
   have q2 := of_decide_eq_true (bt1 hg2); refine k7 hg2 (b4 rfl (k7 hg2 (nY rfl rfl rfl ?_))); refine p_t rfl rfl (bt1 hg2) rfl (b4 rfl ?_); refine q6 rfl rfl ?_ ?_
   ·intro hg3; have hg3' := hg3; try simp at hg3'
    have q3 := of_decide_eq_true (bt1 hg3); refine k7 hg3 (b4 rfl (k7 hg3 ?_)); have hcr := dR hqw b hb; rw [vX] at hcr; refine i5 O1 rfl rfl (hcr) k8 tK fun _ _ => ?_; refine k7 hg3 (I6 rfl rfl ?_); refine p_t rfl rfl (bt1 hg3) rfl ?_; refine b6 rfl (c3 ?_)
    first | refine j9 rfl (fun hb2 => ?_) (fun hb2 => ?_) | refine d6 rfl (fun hb2 => ?_) (fun hb2 => ?_)
    ·have hb2' := hb2; try simp at hb2'
     refine d4 (b6 rfl (c3 (j6 (A1 ?_)))); exact ret1 () rfl (congrArg (fun n => some (int n)) (by first | (rw [kindN, if_pos (by omega)]; done) | (rw [kindN, if_neg (by omega), if_pos ⟨by omega, by omega, by simpa using hb2⟩]; done) | (rw [kindN, if_neg (by omega), if_neg (by omega)]; done) | (rw [kindN, if_neg (by omega), if_neg (by rintro ⟨h1, h2, h3⟩; exact h3 (by simpa using hb2))]))) rfl tK nK tK
    have hb2' := hb2; try simp at hb2'
    refine i4 (q8 (c7 (d4 (b6 rfl (c3 (j6 ?_)))))); exact ret1 () rfl (congrArg (fun n => some (int n)) (by first | (rw [kindN, if_pos (by omega)]; done) | (rw [kindN, if_neg (by omega), if_pos ⟨by omega, by omega, by simpa using hb2⟩]; done) | (rw [kindN, if_neg (by omega), if_neg (by omega)]; done) | (rw [kindN, if_neg (by omega), if_neg (by rintro ⟨h1, h2, h3⟩; exact h3 (by simpa using hb2))]))) rfl tK nK tK
   intro hg3; have hg3' := hg3; try simp at hg3'
   have q3 := of_decide_eq_false (bf2 hg3); refine n4 hg3 (n4 hg3 (n4 hg3 ?_)); refine p_f rfl rfl (bf2 hg3) rfl ?_; refine b6 rfl (c3 (c_f rfl rfl (i4 (q8 (c7 (d4 (b6 rfl (c3 ?_)))))))); refine j6 ?_; exact ret1 () rfl (congrArg (fun n => some (int n)) (by first | (rw [kindN, if_pos (by omega)]; done) | (rw [kindN, if_neg (by omega), if_pos ⟨by omega, by omega, by simpa using hb2⟩]; done) | (rw [kindN, if_neg (by omega), if_neg (by omega)]; done) | (rw [kindN, if_neg (by omega), if_neg (by rintro ⟨h1, h2, h3⟩; exact h3 (by simpa using hb2))]))) rfl tK nK tK
  intro hg2; have hg2' := hg2; try simp at hg2'
  have q2 := of_decide_eq_false (bf2 hg2); refine n4 hg2 (n4 hg2 ?_); refine p_f rfl rfl (bf2 hg2) rfl ?_; refine b4 rfl (D8 rfl rfl rfl rfl rfl rfl (D8 rfl rfl rfl rfl rfl rfl (D8 rfl rfl rfl rfl rfl rfl (p_f rfl rfl rfl rfl (b6 rfl (c3 (c_f rfl rfl (i4 (q8 (c7 ?_)))))))))); refine d4 (b6 rfl (c3 (j6 ?_))); exact ret1 () rfl (congrArg (fun n => some (int n)) (by first | (rw [kindN, if_pos (by omega)]; done) | (rw [kindN, if_neg (by omega), if_pos ⟨by omega, by omega, by simpa using hb2⟩]; done) | (rw [kindN, if_neg (by omega), if_neg (by omega)]; done) | (rw [kindN, if_neg (by omega), if_neg (by rintro ⟨h1, h2, h3⟩; exact h3 (by simpa using hb2))]))) rfl tK nK tK
 intro hg1; have hg1' := hg1; try simp at hg1'
 have q1 := of_decide_eq_false (bf2 hg1); refine n4 hg1 (n4 hg1 ?_); refine p_f rfl rfl (bf2 hg1) rfl ?_; refine b6 rfl (c3 (c_f rfl rfl (d4 (b4 rfl (cT rfl rfl rfl (b4 rfl ?_)))))); refine q6 rfl rfl ?_ ?_
 ·intro hg4; have hg4' := hg4; try simp at hg4'
  have q2 := of_decide_eq_true (bt1 hg4); refine k7 hg4 (b4 rfl (k7 hg4 (nY rfl rfl rfl ?_))); refine p_t rfl rfl (bt1 hg4) rfl (b4 rfl ?_); refine q6 rfl rfl ?_ ?_
  ·intro hg5; have hg5' := hg5; try simp at hg5'
   have q3 := of_decide_eq_true (bt1 hg5); refine k7 hg5 (b4 rfl (k7 hg5 ?_)); have hcr := dR hqw b hb; rw [vX] at hcr; refine i5 O1 rfl rfl (hcr) k8 tK fun _ _ => ?_; refine k7 hg5 (I6 rfl rfl ?_); refine p_t rfl rfl (bt1 hg5) rfl ?_; refine b6 rfl (c3 ?_)
   first | refine j9 rfl (fun hb2 => ?_) (fun hb2 => ?_) | refine d6 rfl (fun hb2 => ?_) (fun hb2 => ?_)
   ·have hb2' := hb2; try simp at hb2'
    refine d4 (b6 rfl (c3 (j6 (A1 ?_)))); exact ret1 () rfl (congrArg (fun n => some (int n)) (by first | (rw [kindN, if_pos (by omega)]; done) | (rw [kindN, if_neg (by omega), if_pos ⟨by omega, by omega, by simpa using hb2⟩]; done) | (rw [kindN, if_neg (by omega), if_neg (by omega)]; done) | (rw [kindN, if_neg (by omega), if_neg (by rintro ⟨h1, h2, h3⟩; exact h3 (by simpa using hb2))]))) rfl tK nK tK
   have hb2' := hb2; try simp at hb2'
   refine i4 (q8 (c7 (d4 (b6 rfl (c3 (j6 ?_)))))); exact ret1 () rfl (congrArg (fun n => some (int n)) (by first | (rw [kindN, if_pos (by omega)]; done) | (rw [kindN, if_neg (by omega), if_pos ⟨by omega, by omega, by simpa using hb2⟩]; done) | (rw [kindN, if_neg (by omega), if_neg (by omega)]; done) | (rw [kindN, if_neg (by omega), if_neg (by rintro ⟨h1, h2, h3⟩; exact h3 (by simpa using hb2))]))) rfl tK nK tK
  intro hg5; have hg5' := hg5; try simp at hg5'
  have q3 := of_decide_eq_false (bf2 hg5); refine n4 hg5 (n4 hg5 (n4 hg5 ?_)); refine p_f rfl rfl (bf2 hg5) rfl ?_; refine b6 rfl (c3 (c_f rfl rfl (i4 (q8 (c7 (d4 (b6 rfl (c3 ?_)))))))); refine j6 ?_; exact ret1 () rfl (congrArg (fun n => some (int n)) (by first | (rw [kindN, if_pos (by omega)]; done) | (rw [kindN, if_neg (by omega), if_pos ⟨by omega, by omega, by simpa using hb2⟩]; done) | (rw [kindN, if_neg (by omega), if_neg (by omega)]; done) | (rw [kindN, if_neg (by omega), if_neg (by rintro ⟨h1, h2, h3⟩; exact h3 (by simpa using hb2))]))) rfl tK nK tK
 intro hg4; have hg4' := hg4; try simp at hg4'
 have q2 := of_decide_eq_false (bf2 hg4); refine n4 hg4 (n4 hg4 ?_); refine p_f rfl rfl (bf2 hg4) rfl ?_; refine b4 rfl (D8 rfl rfl rfl rfl rfl rfl (D8 rfl rfl rfl rfl rfl rfl (D8 rfl rfl rfl rfl rfl rfl (p_f rfl rfl rfl rfl (b6 rfl (c3 (c_f rfl rfl (i4 (q8 (c7 ?_)))))))))); refine d4 (b6 rfl (c3 (j6 ?_))); exact ret1 () rfl (congrArg (fun n => some (int n)) (by first | (rw [kindN, if_pos (by omega)]; done) | (rw [kindN, if_neg (by omega), if_pos ⟨by omega, by omega, by simpa using hb2⟩]; done) | (rw [kindN, if_neg (by omega), if_neg (by omega)]; done) | (rw [kindN, if_neg (by omega), if_neg (by rintro ⟨h1, h2, h3⟩; exact h3 (by simpa using hb2))]))) rfl tK nK tK
theorem vU (b : UInt8) (hb : b.toNat < 128) : Meets prog iN [.int .i32 (b.toNat : Int)] { val := fun _ : Unit => str (soundB b) } := by
 refine d3 xY rfl n2 fun w0 => ?_; refine d4 (b6 rfl (j4 (b6 rfl (c3 (cW ?_))))); refine c9 (b4 rfl (c3 (i8 (d1 (i8 ?_))))); refine M6 ⟨fun u : Str => (b.toNat = 74 ∧ u = [117]) ∨ (b.toNat = 89 ∧ u = []), fun u => [(3, str u)], fun _ => [], fun _ => []⟩ ?_ ?_
 ·skip
  refine i8 (d1 (i8 (d1 (i8 (cW (d4 (I2 rfl rfl rfl (b6 rfl (b7 ?_))))))))); refine c7 ?_
  first | refine j9 rfl (fun hb1 => ?_) (fun hb1 => ?_) | refine d6 rfl (fun hb1 => ?_) (fun hb1 => ?_)
  ·have hb1' := hb1; try simp at hb1'
   refine m4 (v6 (l9 (c7 (d1 (d4 (b6 rfl (c3 (j6 ?_)))))))); refine u4 (A1 (A1 (A1 (A1 ?_)))); exact ret1 () rfl (congrArg (fun n => some (str n)) (by rw [soundB, if_pos (by omega)])) rfl tK nK tK
  have hb1' := hb1; try simp at hb1'
  refine i4 (c7 (d1 (d4 (I2 rfl rfl rfl (b6 rfl (c3 ?_))))))
  first | refine j9 rfl (fun hb2 => ?_) (fun hb2 => ?_) | refine d6 rfl (fun hb2 => ?_) (fun hb2 => ?_)
  ·have hb2' := hb2; try simp at hb2'
   refine m4 (v6 (J6 rfl (w4 (l9 (c7 (c9 (b6 rfl (b7 (q8 ?_))))))))); exact E3 _ ([117] : Str) (.inl ⟨by omega, rfl⟩) mC (.refl _) tK
  have hb2' := hb2; try simp at hb2'
  refine i4 (c7 (d1 (d4 (I2 rfl rfl rfl (b6 rfl (c3 ?_))))))
  first | refine j9 rfl (fun hb3 => ?_) (fun hb3 => ?_) | refine d6 rfl (fun hb3 => ?_) (fun hb3 => ?_)
  ·have hb3' := hb3; try simp at hb3'
   refine m4 (v6 (J6 rfl (w4 (J6 rfl (w4 (l9 ?_)))))); exact E3 _ ([] : Str) (.inr ⟨by omega, rfl⟩) mC (.refl _) tK
  have hb3' := hb3; try simp at hb3'
  refine i4 (c7 (d4 (I2 rfl rfl rfl (b6 rfl (c3 ?_)))))
  first | refine j9 rfl (fun hb4 => ?_) (fun hb4 => ?_) | refine d6 rfl (fun hb4 => ?_) (fun hb4 => ?_)
  ·have hb4' := hb4; try simp at hb4'
   refine m4 (w4 (J6 rfl (w4 (J6 rfl (w4 (J6 rfl (w4 (l9 (c7 (cW ?_)))))))))); refine c9 (b6 rfl (c3 (M2 (A1 ?_)))); exact ret1 () rfl (congrArg (fun n => some (str n)) (by rw [soundB, if_neg (by omega), if_neg (by omega), if_neg (by omega), if_pos (by omega)])) rfl tK nK tK
  have hb4' := hb4; try simp at hb4'
  refine i4 (c7 (m4 (J6 rfl (w4 (J6 rfl (w4 (J6 rfl (w4 (J6 rfl (w4 (l9 ?_))))))))))); refine c7 (d4 (b4 rfl ?_)); refine jj7 rfl hb (by rw [yZ]; rfl) C4 rfl ?_; refine i5 nG rfl rfl (aq8 [b] (by simp) (by intro x hx; rw [List.mem_singleton.1 hx]; exact hb)) k8 tK fun _ _ => ?_; refine b6 rfl (c3 (j6 ?_)); exact ret1 () rfl (congrArg (fun n => some (str n)) (by rw [soundB, if_neg (by omega), if_neg (by omega), if_neg (by omega), if_neg (by omega)])) rfl tK nK tK
 intro u hu; have hul : u.length ≤ 1 := by rcases hu with ⟨_, rfl⟩ | ⟨_, rfl⟩ <;> simp
 refine cW (d4 (b4 rfl (vM rfl rfl rfl (c3 ?_))))
 first | refine j9 rfl (fun hb5 => ?_) (fun hb5 => ?_) | refine d6 rfl (fun hb5 => ?_) (fun hb5 => ?_)
 ·have hb5' := hb5; try simp at hb5'
  have h89 : b.toNat = 89 ∧ u = [] := by
    rcases hu with ⟨h1, h2⟩ | h
    · rw [h2] at hb5; simp at hb5
    exact h
  refine c9 (b6 rfl (j4 (b4 rfl ?_))); refine gz7 rfl rfl rfl (by simp; try omega) ?_; refine b6 rfl (c3 (M2 (A1 (A1 ?_)))); exact ret1 () rfl (congrArg (fun n => some (str n)) (by rw [soundB, if_neg (by omega), if_neg (by omega), if_pos h89.1]; rfl)) rfl tK nK tK
 have hb5' := hb5; try simp at hb5'
 have h74 := hu.resolve_right (fun h => by rw [h.2] at hb5; simp at hb5); refine i4 (c7 (d4 (b4 rfl ?_))); refine gz7 rfl rfl rfl (by simp; try omega) ?_; refine b6 rfl (c3 (M2 (A1 (A1 ?_)))); exact ret1 () rfl (congrArg (fun n => some (str n)) (by rw [soundB, if_neg (by omega), if_pos h74.1, h74.2]; rfl)) rfl tK nK tK
theorem jK (s : Str) (hs : Asc7 s) : Meets prog iP [str s] { val := fun _ : Unit => int (nameErr s) } := by
 refine d3 yB rfl n2 fun w0 => ?_; refine d4 (b6 rfl (c3 (d1 (d4 (b4 rfl ?_))))); refine Z3 rfl C4 rfl ?_; refine I2 rfl rfl rfl (c3 ?_)
 first | refine j9 rfl (fun hb1 => ?_) (fun hb1 => ?_) | refine d6 rfl (fun hb1 => ?_) (fun hb1 => ?_)
 ·have hb1' := hb1; try simp at hb1'
  have h0 : s.length = 0 := by omega
  refine d4 (b6 rfl (c3 (M2 ?_))); exact ret1 () rfl (congrArg (fun n => some (int n)) (by rw [nameErr, if_pos h0])) rfl tK nK tK
 have hb1' := hb1; try simp at hb1'
 have h0 : ¬ s.length = 0 := by omega
 refine i4 (c7 (d1 (d4 (b4 rfl ?_)))); refine Z3 rfl C4 rfl ?_; refine K5 rfl rfl rfl (c3 ?_)
 first | refine j9 rfl (fun hb2 => ?_) (fun hb2 => ?_) | refine d6 rfl (fun hb2 => ?_) (fun hb2 => ?_)
 ·have hb2' := hb2; try simp at hb2'
  have h6 : 6 < s.length := by omega
  refine d4 (b6 rfl (c3 (M2 ?_))); exact ret1 () rfl (congrArg (fun n => some (int n)) (by rw [nameErr, if_neg h0, if_pos h6])) rfl tK nK tK
 have hb2' := hb2; try simp at hb2'
 have h6 : ¬ 6 < s.length := by omega
 refine i4 (c7 (d4 (b6 rfl (c3 (d1 (d4 (b4 rfl ?_))))))); refine zK rfl C4 rfl fun gI => ?_; refine c3 (i8 ?_); refine p6 (β := Nat) ⟨fun k => k ≤ s.length ∧ ∀ j, j < k → kindN (s.getD j default) = kindN (s.getD 0 default) ∧ ¬ kindN (s.getD j default) = 0, fun k => [(0, str s), (3, int (if k = 0 then 0 else kindN (s.getD 0 default))), (14, .pointer (i7 gI))], fun k => [(gI, iter s k)], fun _ => []⟩ (fun k => s.length - k) 0 ⟨Nat.zero_le _, fun j h => by omega⟩ mC (.refl _) tK fun k hk => ?_; obtain ⟨hk, ht⟩ := hk; refine d4 (bz8 rfl rfl (.refl _) ?_); refine hj3 rfl rfl (c3 (d1 ?_))
 first | refine j9 rfl (fun hb3 => ?_) (fun hb3 => ?_) | refine d6 rfl (fun hb3 => ?_) (fun hb3 => ?_)
 ·have hb3' := hb3; try simp at hb3'
  have hk2 : k < s.length := hb3; refine i4 (c7 (i8 (d4 (iq1 hs rfl rfl hb3 (b6 rfl (j4 (b4 rfl ?_))))))); refine i5 mQ rfl rfl (mL (s.getD k default) (hs _ (n7 hk2))) (hpR := [_]) (.refl _) tK fun _ _ => ?_; refine b6 rfl (c3 ?_); refine M6 ⟨fun _ : Unit => True, fun _ => [(0, str s), (3, int (kindN (s.getD 0 default))), (6, int (kindN (s.getD k default))), (14, .pointer (i7 gI))], fun _ => [(gI, iter s (nextP s k))], fun _ => []⟩ ?_ ?_
  ·skip
   refine d4 (b4 rfl (I2 rfl rfl rfl (c3 ?_)))
   first | refine j9 rfl (fun hb4 => ?_) (fun hb4 => ?_) | refine d6 rfl (fun hb4 => ?_) (fun hb4 => ?_)
   ·have hb4' := hb4; try simp at hb4'
    have hk0 : k = 0 := Classical.byContradiction fun e => (ht 0 (by omega)).2 (by rwa [if_neg e] at hb4); refine c9 (b4 rfl (b6 rfl (b7 ?_))); exact E3 _ () tK ⟨rfl, congrArg (fun q => some (int q)) (by rw [hk0]), rfl, rfl, tK⟩ (.refl _) tK
   have hb4' := hb4; try simp at hb4'
   have hk0 : ¬ k = 0 := fun e => hb4 (if_pos e); refine i4 ?_; exact E3 _ () tK ⟨rfl, congrArg (fun q => some (int q)) (by rw [if_neg hk0]), rfl, rfl, tK⟩ (.refl _) tK
  intro _ _; refine d4 (b4 rfl (I2 rfl rfl rfl (b4 rfl ?_))); refine q6 rfl rfl ?_ ?_
  ·intro hg1; have hg1' := hg1; try simp at hg1'
   have q1 := of_decide_eq_false (bf1 hg1); refine k7 hg1 (b4 rfl (k7 hg1 (b4 rfl (k7 hg1 (B9 rfl rfl rfl ?_))))); refine p_f rfl rfl (bf1 hg1) rfl (c3 ?_)
   first | refine j9 rfl (fun hb5 => ?_) (fun hb5 => ?_) | refine d6 rfl (fun hb5 => ?_) (fun hb5 => ?_)
   ·have hb5' := hb5; try simp at hb5'
    refine d4 (b6 rfl (c3 (j6 (A1 (A1 ?_))))); exact ret1 () rfl (congrArg (fun n => some (int n)) (by rw [nameErr, if_neg h0, if_neg h6, if_neg (iq4 hk2 (by first | exact .inl q1 | exact .inr hb5))])) rfl tK nK tK
   have hb5' := hb5; try simp at hb5'
   refine i4 (q8 ?_)
   exact again _ (k + 1) ⟨by omega, fun j hj => by
     by_cases e : j = k
     · subst e
       exact ⟨Classical.not_not.1 hb5, q1⟩
     exact ht j (by omega)⟩ (r9 (by omega)) ⟨rfl, congrArg (fun q => some (int q)) (by rw [if_neg (by omega)]), rfl, tK⟩ (dj5 hk2 hs) tK
  intro hg1; have hg1' := hg1; try simp at hg1'
  have q1 := of_decide_eq_true (bt2 hg1); refine n4 hg1 (n4 hg1 (n4 hg1 ?_)); refine p_t rfl rfl (bt2 hg1) rfl ?_; refine c3 (c_t rfl rfl (d4 (b6 rfl (c3 (j6 (A1 (W6 ?_))))))); refine u4 ?_; exact ret1 () rfl (congrArg (fun n => some (int n)) (by rw [nameErr, if_neg h0, if_neg h6, if_neg (iq4 hk2 (by first | exact .inl q1 | exact .inr hb5))])) rfl tK nK tK
 have hb3' := hb3; try simp at hb3'
 have hk2 : k = s.length := by omega
 subst hk2; refine m4 (v6 (l9 (c7 (d4 (b6 rfl (c3 (j6 ?_))))))); exact ret1 () rfl (congrArg (fun n => some (int n)) (by rw [nameErr, if_neg h0, if_neg h6, if_pos (okS_all ht)])) rfl tK nK tK
theorem hX (s : Str) (hs : Asc7 s) (hl : s.length ≤ 1000) : Meets prog rZ [str s] { val := fun _ : Unit => str (keyOf s) } := by
 refine d3 cq3 rfl n2 fun w0 => ?_; refine d4 (b6 rfl (j4 (b6 rfl (c3 (cW ?_))))); refine c9 (b4 rfl ?_); refine zK rfl C4 rfl fun gI => ?_; refine c3 (i8 ?_); refine p6 (β := Nat) ⟨fun k => k ≤ s.length, fun k => [(3, str (keyOf (s.take k))), (7, .pointer (i7 gI))], fun k => [(gI, iter s k)], fun _ => []⟩ (fun k => s.length - k) 0 (Nat.zero_le _) mC (.refl _) tK fun k hk => ?_; simp only at hk; have hkl := bj6 (s.take k); rw [List.length_take] at hkl; refine d4 (bz8 rfl rfl (.refl _) ?_); refine hj3 rfl rfl (c3 (d1 ?_))
 first | refine j9 rfl (fun hb1 => ?_) (fun hb1 => ?_) | refine d6 rfl (fun hb1 => ?_) (fun hb1 => ?_)
 ·have hb1' := hb1; try simp at hb1'
  have hk2 : k < s.length := hb1; have hsl := az1 (s.getD k default); refine i4 (c7 (i8 (d4 (iq1 hs rfl rfl hb1 (b6 rfl (c3 (c9 (b4 rfl (b4 rfl ?_))))))))); refine i5 wN rfl rfl (vU (s.getD k default) (hs _ (n7 hk2))) (hpR := [_]) (.refl _) tK fun _ _ => gz7 rfl rfl rfl (by omega) ?_; refine b6 rfl (b7 (q8 ?_)); exact again _ (k + 1) (by show k + 1 ≤ s.length; omega) (r9 (by omega)) ⟨congrArg (fun x => some (str x)) (hq8 hk2).symm, rfl, tK⟩ (dj5 hk2 hs) tK
 have hb1' := hb1; try simp at hb1'
 have hk2 : k = s.length := by omega
 subst hk2; refine m4 (v6 (l9 (c7 (d4 (b4 rfl (b6 rfl (c3 (j6 ?_)))))))); exact ret1 () rfl (congrArg (fun x => some (str (keyOf x))) List.take_length) rfl tK nK tK
theorem S4 (a : Str) : Meets prog N1 [str a] { val := fun _ : Unit => .bool false } := by
 refine d3 kI rfl n2 fun w0 => ?_; refine d4 (b6 rfl (j4 (b4 rfl (b4 rfl (kz2 rfl rfl rfl (b6 rfl (b7 ?_))))))); refine c7 (j6 ?_); exact ret1 () rfl (congrArg (fun b => some (Value.bool b)) (by simp)) rfl tK (.refl _) tK
theorem dS (a b : Str) : Meets prog L4 [str a, str b] { val := fun _ : Unit => int (cmpS a b) } := by
 refine d3 gJ rfl n2 fun w0 => ?_; refine d4 (b6 rfl (j4 (b4 rfl ?_))); refine i5 S3 rfl rfl (S4 _) (.refl _) tK fun _ _ => ?_; refine b6 rfl (j4 (b4 rfl ?_)); refine i5 S3 rfl rfl (S4 _) (.refl _) tK fun _ _ => ?_; refine b6 rfl (c3 (d1 (d4 (b4 rfl (c3 ?_))))); refine c_f rfl bf_x ?_; refine i4 (c7 (d1 (d4 (b4 rfl (c3 ?_))))); refine c_f rfl bf_x ?_; refine i4 (c7 (d1 (d4 (b4 rfl (b4 rfl (kz3 rfl rfl rfl (c3 ?_)))))))
 first | refine j9 rfl (fun hb4 => ?_) (fun hb4 => ?_) | refine d6 rfl (fun hb4 => ?_) (fun hb4 => ?_)
 ·have hb4' := hb4; try simp at hb4'
  refine d4 (b6 rfl (c3 (M2 ?_))); exact ret1 () rfl (congrArg (fun n => some (int n)) (by rw [cmpS, if_pos hb4])) rfl tK nK tK
 have hb4' := hb4; try simp at hb4'
 refine i4 (c7 (d1 (d4 (b4 rfl (b4 rfl (r_sgtr rfl rfl rfl (c3 ?_)))))))
 first | refine j9 rfl (fun hb5 => ?_) (fun hb5 => ?_) | refine d6 rfl (fun hb5 => ?_) (fun hb5 => ?_)
 ·have hb5' := hb5; try simp at hb5'
  refine d4 (b6 rfl (c3 (M2 ?_))); exact ret1 () rfl (congrArg (fun n => some (int n)) (by rw [cmpS, if_neg (by rw [hb4]; decide), if_pos hb5])) rfl tK nK tK
 have hb5' := hb5; try simp at hb5'
 refine i4 (c7 (d4 (b6 rfl (c3 (j6 ?_))))); exact ret1 () rfl (congrArg (fun n => some (int n)) (by rw [cmpS, if_neg (by rw [hb4]; decide), if_neg (by rw [hb5]; decide)])) rfl tK nK tK
theorem aO (s : Str) (hs : Asc7 s) (h0 : 0 < s.length) : Meets prog X3 [str s] { val := fun _ : Unit => int (kindN (s.getD 0 default)) } := by
 refine d3 qP rfl n2 fun w0 => ?_; refine d4 (b6 rfl (j4 (b4 rfl ?_))); refine dq6 0 rfl C4 rfl rfl rfl (List.getElem?_eq_getElem h0) ?_; refine nZ _ rfl nj1 yZ rfl (i32_u8 _) ?_; have hkd := mL (s.getD 0 default) (hs _ (n7 h0)); rw [q7 h0] at hkd; refine i5 mQ rfl rfl (hkd) k8 tK fun _ _ => ?_; refine b6 rfl (c3 (j6 ?_)); exact ret1 () rfl (congrArg (fun q => some (int (kindN q))) (q7 h0).symm) rfl tK (.refl _) tK
theorem rG (a b : Str) (ha : Asc7 a) (hb : Asc7 b) (ha0 : 0 < a.length) (hb0 : 0 < b.length) (hal : a.length ≤ 1000) (hbl : b.length ≤ 1000) : Meets prog aZ [str a, str b] { val := fun _ : Unit => int (cmpN a b) } := by
 refine d3 uG rfl n2 fun w0 => ?_; refine d4 (b6 rfl (j4 (b6 rfl (j4 ?_)))); refine b4 rfl (i5 aH rfl rfl (hX a ha hal) k8 tK fun _ _ => b4 rfl (i5 aH rfl rfl (hX b hb hbl) k8 tK fun _ _ => i5 dP rfl rfl (dS _ _) k8 tK fun _ _ => ?_)); refine b4 rfl (b4 rfl ?_); refine aR (vs := [str a]) (cap := []) aU rfl rfl rfl (aO a ha ha0) k8 tK fun _ _ => ?_; refine b4 rfl (b4 rfl ?_); refine aR (vs := [str b]) (cap := []) aU rfl rfl rfl (aO b hb hb0) k8 tK fun _ _ => i5 I9 rfl rfl (J0 _ _) k8 tK fun _ _ => l5 _ rfl rfl (fun _ => tH ..) fun gS => v8 (rows [cmpS (keyOf a) (keyOf b), cmpI (kindN (a.getD 0 default)) (kindN (b.getD 0 default))]) (List.prefix_refl _) ?_; refine i5 kJ rfl rfl (kM [cmpS (keyOf a) (keyOf b), cmpI (kindN (a.getD 0 default)) (kindN (b.getD 0 default))] (by simp)) k8 mC fun _ _ => ?_; refine b6 rfl (c3 (j6 ?_)); exact ret1 () rfl rfl rfl tK nK tK
theorem cU {A : Option Addr} {c : Nat} (l : List Str) (hl : l.length ≤ 1000000) (hs : (∀ s ∈ l, Asc7 s)) : Meets prog bA [.slice A l.length c] { LI := [Row A (rows l)], val := fun _ : Unit => int (firstErr nameErr l) } := by
 refine d3 uH rfl n2 fun w0 => ?_; refine d4 (b6 rfl (c3 (d1 (d4 (b4 rfl ?_))))); refine k5 rfl O9 rfl ?_; refine b4 rfl (c3 (i8 ?_)); refine p6 (β := Nat) ⟨fun k => k ≤ l.length ∧ firstErr nameErr (l.take k) = 0, fun k => [(6, .slice A l.length c), (7, int l.length), (8, int k)], fun _ => [], fun _ => [Row A (rows l)]⟩ (fun k => l.length - k) 0 ⟨Nat.zero_le _, rfl⟩ mC (.refl _) mC fun k hk => ?_; obtain ⟨hk, ht⟩ := hk; refine d4 (u7 rfl rfl rfl (c3 (d1 ?_)))
 first | refine j9 rfl (fun hb1 => ?_) (fun hb1 => ?_) | refine d6 rfl (fun hb1 => ?_) (fun hb1 => ?_)
 ·have hb1' := hb1; try simp at hb1'
  have hk2 : k < l.length := by omega
  refine i4 (c7 (d1 (i8 (d4 ?_)))); refine p8 (α := Str) _ _ rfl O9 kU rfl rfl rfl mB rfl (by omega) (by decide) (b3 rfl j7 rfl (i1 mB (c5 (by omega) rfl)) ?_); refine b6 rfl (j4 (b4 rfl ?_)); refine i5 kG rfl rfl (jK (l.getD k default) (hs _ (n7 hk2))) k8 tK fun _ _ => ?_; refine b6 rfl (j4 (b4 rfl (B9 rfl rfl rfl (c3 ?_))))
  first | refine j9 rfl (fun hb2 => ?_) (fun hb2 => ?_) | refine d6 rfl (fun hb2 => ?_) (fun hb2 => ?_)
  ·have hb2' := hb2; try simp at hb2'
   refine d4 (b4 rfl (b6 rfl (c3 (j6 (A1 (u4 (A1 ?_))))))); exact ret1 () rfl (congrArg (fun n => some (int n)) (by rw [cq6 hk2 ht hb2])) rfl tK nK tK
  have hb2' := hb2; try simp at hb2'
  refine i4 (q8 (c7 (c9 ?_))); refine r4 _ rfl rfl rfl rfl m7 ?_; refine b4 rfl (b7 ?_); exact again _ (k + 1) ⟨by omega, by rw [aj5 hk2 ht]; exact Classical.not_not.1 hb2⟩ (r9 (by omega)) mC (.refl _) mC
 have hb1' := hb1; try simp at hb1'
 have hk2 : k = l.length := by omega
 subst hk2; rw [List.take_length] at ht; refine m4 (v6 (l9 (c7 (d4 (b6 rfl (c3 (j6 ?_))))))); exact ret1 () rfl (congrArg (fun n => some (int n)) (by rw [ht])) rfl tK nK tK
def listErr (l : List Str) : Int := if 6 < l.length then 6 else firstErr nameErr l
end Go.Proofs.YtpihanmcnmlodaaGreatDoor
end
section
namespace Go.W
open Go Go.RowKit
structure Pre {α : Type} (cf : α → α → Int) : Prop where
  asym : ∀ a b, cf a b < 0 → ¬ cf b a < 0
  tr : ∀ a b c, ¬ cf b a < 0 → ¬ cf c b < 0 → ¬ cf c a < 0
section
variable {α : Type} [El α]
theorem mq7 {l : List α} {i j : Nat} {v : α} (hi : i < l.length) : (l.set i v).getD j default = if i = j then v else l.getD j default := by
  rw [List.getD_eq_getElem?_getD, List.getD_eq_getElem?_getD, List.getElem?_set]
  split
  · rfl
  rfl
def exc (l : List α) (j : Nat) : List α := (l.set (j + 1) (l.getD j default)).set j (l.getD (j + 1) default)
theorem mq6 {l : List α} {j : Nat} (hj : j + 1 < l.length) : (exc l j).Perm l := by
  unfold exc; rw [show l.getD (j + 1) default = l[j + 1] by rw [List.getD_eq_getElem?_getD, List.getElem?_eq_getElem hj]; rfl, show l.getD j default = l[j]'(by omega) by rw [List.getD_eq_getElem?_getD, List.getElem?_eq_getElem (by omega)]; rfl]; exact List.set_set_perm hj (by omega)
theorem cq7 {l : List α} {j k : Nat} (hj : j + 1 < l.length) : (exc l j).getD k default = if k = j then l.getD (j + 1) default else if k = j + 1 then l.getD j default else l.getD k default := by
  unfold exc; rw [mq7 (by simp; omega), mq7 (by omega)]
  by_cases h1 : k = j
  · rw [if_pos h1.symm, if_pos h1]
  rw [if_neg (fun e => h1 e.symm), if_neg h1]
  by_cases h2 : k = j + 1
  · rw [if_pos h2.symm, if_pos h2]
  rw [if_neg (fun e => h2 e.symm), if_neg h2]
variable {cf : α → α → Int}
def sortTo (cf : α → α → Int) (l : List α) (m : Nat) : Prop := ∀ p q, p < q → q < m → ¬ cf (l.getD q default) (l.getD p default) < 0
structure InsO (cf : α → α → Int) (l : List α) (i j : Nat) : Prop where
  o : ∀ p q, p < q → q ≤ i → ¬ p = j → ¬ q = j → ¬ cf (l.getD q default) (l.getD p default) < 0
  a : ∀ q, j < q → q ≤ i → ¬ cf (l.getD q default) (l.getD j default) < 0
theorem InsO.start {l : List α} {i : Nat} (h : sortTo cf l i) : InsO cf l i i := ⟨fun p q h1 h2 h3 h4 => h p q h1 (by omega), fun q h1 h2 => by omega⟩
theorem InsO.swap {l : List α} {i j : Nat} (hP : Pre cf) (h : InsO cf l i (j + 1)) (hi : i < l.length) (hj : j + 1 ≤ i) (hlt : cf (l.getD (j + 1) default) (l.getD j default) < 0) : InsO cf (exc l j) i j := by
  have hj2 : j + 1 < l.length := by omega
  refine ⟨fun p q h1 h2 h3 h4 => ?_, fun q h1 h2 => ?_⟩
  · rw [cq7 hj2, cq7 hj2, if_neg h3, if_neg h4]
    by_cases hp : p = j + 1
    · rw [if_pos hp, if_neg (by omega)]
      exact h.o j q (by omega) h2 (by omega) (by omega)
    rw [if_neg hp]
    by_cases hq : q = j + 1
    · rw [if_pos hq]
      exact h.o p j (by omega) (by omega) (by omega) (by omega)
    rw [if_neg hq]; exact h.o p q h1 h2 hp hq
  rw [cq7 hj2, cq7 hj2, if_pos rfl, if_neg (by omega)]
  by_cases hq : q = j + 1
  · rw [if_pos hq]; exact hP.asym _ _ hlt
  rw [if_neg hq]; exact h.a q (by omega) h2
theorem InsO.done {l : List α} {i j : Nat} (hP : Pre cf) (h : InsO cf l i j) (hj : j ≤ i) (he : ∀ k, j = k + 1 → ¬ cf (l.getD j default) (l.getD k default) < 0) : sortTo cf l (i + 1) := by
  intro p q h1 h2
  by_cases hp : p = j
  · subst hp; exact h.a q h1 (by omega)
  by_cases hq : q = j
  · subst hq
    obtain ⟨k, rfl⟩ : ∃ k, q = k + 1 := ⟨q - 1, by omega⟩; have h3 := he k rfl
    by_cases hpk : p = k
    · subst hpk; exact h3
    exact hP.tr _ _ _ (h.o p k (by omega) (by omega) hp (by omega)) h3
  exact h.o p q h1 (by omega) hp hq
abbrev Srtd (cf : α → α → Int) (ws l : List α) : Prop := l.Perm ws ∧ (Pre cf → sortTo cf l l.length)
theorem bj1 (h1 : El.sz α = 1) {cur : Array Value} {l : List α} {i q : Nat} {v : Value} (h : cur.toList.take (l.length * 1) = rows l) (hi : i < l.length) (hq : q = i) (hv : El.cells (l.getD i default) = [v]) : cur[q]? = some v := by
  subst hq; have h2 := c5 hi (v := v) (by rw [hv]; rfl); rw [h1] at h2; rw [← h, List.getElem?_take, if_pos (by omega), Nat.mul_one] at h2; rw [← Array.getElem?_toList]; exact h2
theorem put_1 (h1 : El.sz α = 1) {cur : Array Value} {l : List α} {k : Nat} {v : Value} {a : α} (hv : El.cells a = [v]) (h : cur.toList.take (l.length * 1) = rows l) : (cur.setIfInBounds k v).toList.take ((l.set k a).length * 1) = rows (l.set k a) := by
  rw [Array.toList_setIfInBounds, List.length_set, List.take_set, h, pV h1 v a hv]
theorem lz8 (h1 : El.sz α = 1) {e : TypeId} {g cap : Nat} {cur : Array Value} {l : List α} (h3 : l.length ≤ cap) (h4 : cap ≤ maxLen) (h5 : cur.size = cap * 1) (h6 : cur.toList.take (l.length * 1) = rows l) : Grow e 1 (i7 g) l.length cap (rows l) [(g, Obj.cells cur e (0, 0))] :=
  ⟨by rw [S1, h1], .inr ⟨g, cur, rfl, rfl, h3, h4, h5, h6⟩⟩
end
end Go.W
end
section
namespace Go.Proofs.YtpihanmcnmlodaaGreatDoor
open Go Go.W Tryz T F
set_option maxRecDepth 20000
attribute [local irreducible] HL HC HQ HB Row Rows2 Blk Facts
set_option maxHeartbeats 1000000 in
theorem P4 {A : Option Addr} {cap g : Nat} {cp : List Value} {L0 : List Fact} {cf : Int → Int → Int} (hcb : Callable prog g) (ws : List Int) (hm : ∀ x ∈ ws, ∀ y ∈ ws, Meets prog g ([int x, int y] ++ cp) { LI := L0, val := fun _ : Unit => int (cf x y) }) (og : Hp) (hG : Grow y2 1 A ws.length cap (rows ws) og) (hn : ws.length ≤ 1000000) :
    Meets prog C3 [.slice A ws.length cap, int (0 : Nat), int ws.length, .func (.func g) #[] cp.toArray] { hpI := og, LI := L0, inv := fun x : List Int × Hp => Srtd cf ws x.1 ∧ Grow y2 1 A x.1.length cap (rows x.1) x.2, val := fun _ => .tuple #[], hpO := fun x => x.2 } := by
 refine d3 Q9 rfl n2 fun w0 => ?_; refine d4 (b4 rfl ?_); refine r4 ((1 : Nat) : Int) rfl rfl rfl (by rfl) m7 ?_; refine b6 rfl (c3 (i8 ?_)); refine p6 (β := Nat × List Int × Hp) ⟨fun x => 1 ≤ x.1 ∧ x.2.1.Perm ws ∧ (Pre cf → sortTo cf x.2.1 x.1) ∧ Grow y2 1 A x.2.1.length cap (rows x.2.1) x.2.2, fun x => [(0, .slice A ws.length cap), (1, int (0 : Nat)), (2, int ws.length), (3, .func (.func g) #[] cp.toArray), (8, int x.1)], fun x => x.2.2, fun _ => L0⟩ (fun x => ws.length - x.1) (1, ws, og) ⟨Nat.le_refl _, .refl _, fun _ p q h1 h2 => by omega, hG⟩ mC (by first | (rw [List.append_nil]; exact List.Sublist.refl _) | exact List.Sublist.refl _) (LSub.of_mem fun F hF => by first | exact hF | exact List.mem_cons_of_mem _ hF | exact List.mem_append_right _ hF | simp [hF]) fun x hx => ?_; clear hG; obtain ⟨i, l, og⟩ := x; obtain ⟨hi0, hP, hS, hG⟩ := hx; simp only at hi0 hP hS hG; have hll : l.length = ws.length := hP.length_eq; refine d1 (d4 (b4 rfl (b4 rfl (u7 rfl rfl rfl (c3 ?_)))))
 first | refine j9 rfl (fun hb1 => ?_) (fun hb1 => ?_) | refine d6 rfl (fun hb1 => ?_) (fun hb1 => ?_)
 ·have hb1' := hb1; try simp at hb1'
  have hi : i < ws.length := by omega
  obtain ⟨gd, cur, e1, e2, hnc, hcm, hcs, hct, _⟩ := hG.open_ (by omega); subst e1; subst e2; rw [hll] at hnc; refine i4 (c7 (d1 (i8 (d4 (b4 rfl (b6 rfl (c3 (i8 ?_)))))))); refine p6 (β := Nat × List Int × Array Value) ⟨fun x => x.1 ≤ i ∧ x.2.1.Perm ws ∧ (Pre cf → InsO cf x.2.1 i x.1) ∧ x.2.2.size = cap * 1 ∧ x.2.2.toList.take (x.2.1.length * 1) = rows x.2.1, fun x => [(0, .slice (i7 gd) ws.length cap), (1, int (0 : Nat)), (2, int ws.length), (3, .func (.func g) #[] cp.toArray), (8, int i), (9, int x.1)], fun x => [(gd, Obj.cells x.2.2 y2 (0, 0))], fun _ => L0⟩ (fun x => x.1) (i, l, cur) ⟨Nat.le_refl _, hP, fun hp => .start (hS hp), hcs, hct⟩ mC (List.Sublist.refl _) (LSub.of_mem fun F hF => by first | exact hF | exact List.mem_cons_of_mem _ hF | exact List.mem_append_right _ hF | simp [hF]) fun x hx => ?_; clear hG hS hcs hct hP hll; obtain ⟨j, l, cur⟩ := x; obtain ⟨hj, hP, hS, hcs, hct⟩ := hx; simp only at hj hP hS hcs hct; have hll : l.length = ws.length := hP.length_eq; have hin : ∀ k, k < l.length → l.getD k default ∈ ws := fun k hk => hP.subset (n7 hk); refine cW (G9 14 mixed (by decide) (by decide) rfl rfl (p9 rfl (p9 rfl (m6 (fun w1 => K5 rfl rfl rfl (q_z rfl)) (p9 rfl ?_))))); refine jO (t := 21) (want := true) rfl ?_ ?_
  ·intro hg1; have hg1' := hg1; try simp at hg1'
   obtain ⟨k, rfl⟩ : ∃ k, j = k + 1 := ⟨j - 1, by simp at hg1; omega⟩
   apply k9 _ rfl rfl rfl
   ·intro w1; refine k7 hg1 (b4 rfl (b7 ?_)); exact i6 rfl
   apply k9 _ rfl rfl rfl
   ·intro w1; refine k7 hg1 (b4 rfl (b7 ?_)); exact i6 rfl
   apply k9 _ rfl rfl rfl
   ·intro w1; refine k7 hg1 (b4 rfl (b7 ?_)); exact i6 rfl
   apply k9 _ rfl rfl rfl
   ·intro w1; refine k7 hg1 (p7 (k + 1) (k + 1) rfl j2 k6 rfl rfl rfl (by omega) (by omega) (b7 ?_)); exact i6 rfl
   apply k9 _ rfl rfl rfl
   ·intro w1; refine k7 hg1 (b3 (v := int (l.getD (k + 1) default)) rfl b5 rfl (d5 mB (bj1 rfl hct (by omega) rfl rfl)) (b7 ?_)); exact i6 rfl
   apply k9 _ rfl rfl rfl
   ·intro w1; refine k7 hg1 (b4 rfl (b7 ?_)); exact i6 rfl
   apply k9 _ rfl rfl rfl
   ·intro w1; refine k7 hg1 (b4 rfl (b7 ?_)); exact i6 rfl
   apply k9 _ rfl rfl rfl
   ·intro w1; refine k7 hg1 (H3 (k : Int) rfl rfl rfl (by omega) m7 (b7 ?_)); exact i6 rfl
   apply k9 _ rfl rfl rfl
   ·intro w1; refine k7 hg1 (p7 (k) (k) rfl j2 k6 rfl rfl rfl (by omega) (by omega) (b7 ?_)); exact i6 rfl
   apply k9 _ rfl rfl rfl
   ·intro w1; refine k7 hg1 (b3 (v := int (l.getD (k) default)) rfl b5 rfl (d5 mB (bj1 rfl hct (by omega) rfl rfl)) (b7 ?_)); exact i6 rfl
   refine y8 ⟨rfl, ?_⟩; refine k7 hg1 ?_; refine aR (vs := [int (l.getD (k + 1) default), int (l.getD (k) default)]) (cap := cp) hcb rfl rfl rfl (hm _ (hin (k + 1) (by omega)) _ (hin k (by omega))) k8 (LSub.of_mem fun F hF => by first | exact hF | exact List.mem_cons_of_mem _ hF | exact List.mem_append_right _ hF | simp [hF]) fun _ _ => ?_; refine k7 hg1 (u7 rfl rfl rfl ?_); refine p_t rfl rfl (bt1 hg1) rfl (c3 ?_)
   first | refine j9 rfl (fun hb2 => ?_) (fun hb2 => ?_) | refine d6 rfl (fun hb2 => ?_) (fun hb2 => ?_)
   ·have hb2' := hb2; try simp at hb2'
    refine i4 (c7 (d1 (i8 ?_))); refine I7 ([(gd, Obj.cells cur y2 (0, 0))]) ([]) k8 16 [15, 1000013, 1000009] mixed (by decide) (by decide) (by decide) rfl rfl rfl (p9 rfl (p9 rfl (p9 rfl (p9 rfl (m6 (fun w1 => H3 (k : Int) rfl rfl rfl (by omega) m7 (q_z rfl)) (p9 rfl (p9 rfl (m6 (fun w1 => H3 (k : Int) rfl rfl rfl (by omega) m7 (q_z rfl)) (m6 (fun w1 => p7 (k) (k) rfl j2 k6 rfl rfl rfl (by omega) (by omega) (q_z rfl)) ?_))))))))); refine hb_rd (int (l.getD (k) default)) rfl rfl rfl ?_ ?_
    ·intro w1; refine b3 (v := int (l.getD (k) default)) rfl b5 rfl (d5 mB (bj1 rfl hct (by omega) rfl rfl)) (b7 ?_); exact i6 rfl
    refine p9 rfl (p9 rfl (m6 (fun w1 => p7 (k + 1) (k + 1) rfl j2 k6 rfl rfl rfl (by omega) (by omega) (q_z rfl)) ?_)); refine hb_rd (int (l.getD (k + 1) default)) rfl rfl rfl ?_ ?_
    ·intro w1; refine b3 (v := int (l.getD (k + 1) default)) rfl b5 rfl (d5 mB (bj1 rfl hct (by omega) rfl rfl)) (b7 ?_); exact i6 rfl
    refine m6 (fun w1 => p7 (k + 1) (k + 1) rfl j2 k6 rfl rfl rfl (by omega) (by omega) (q_z rfl)) ?_; refine hb_st ⟨Unit, fun _ => True, fun _ => undef, fun _ => [], fun _ => [(gd, Obj.cells (cur.setIfInBounds (k + 1) (int (l.getD (k) default))) y2 (0, 0))]⟩ rfl rfl ?_ ?_
    ·intro _ _; intro w1; refine u9 rfl rfl (.refl _) k6 (bj1 rfl hct (show k + 1 < l.length by omega) rfl rfl) (by rfl) (b7 ?_); exact P5 () tK (fun h => by cases h) (.refl _) tK
    refine y8 ⟨rfl, ?_⟩; intro _ _ _ _ _ _; have hct1 := put_1 (α := Int) (k := k + 1) (a := (l.getD (k) default)) rfl rfl hct; refine p7 (k) (k) rfl j2 k6 rfl rfl rfl (by omega) (by omega) ?_; refine u9 rfl rfl (.refl _) k6 (bj1 rfl hct1 (show k < _ by simp; omega) rfl rfl) (by rfl) ?_; have hct2 := put_1 (α := Int) (k := k) (a := (l.getD (k + 1) default)) rfl rfl hct1; refine b7 (q8 (c7 (c9 (b4 rfl ?_)))); refine H3 (k : Int) rfl rfl rfl (by omega) m7 ?_; refine b6 rfl (b7 ?_); exact again _ (k, exc l k, (cur.setIfInBounds (k + 1) (int (l.getD (k) default))).setIfInBounds k (int (l.getD (k + 1) default))) ⟨by show k ≤ i; omega, (mq6 (by omega)).trans hP, fun hp => (hS hp).swap hp (by omega) hj (by simpa using hb2), by show (Array.setIfInBounds _ _ _).size = _; rw [Array.size_setIfInBounds, Array.size_setIfInBounds]; exact hcs, hct2⟩ (by show k < k + 1; omega) mC (List.Sublist.refl _) (LSub.of_mem fun F hF => by first | exact hF | exact List.mem_cons_of_mem _ hF | exact List.mem_append_right _ hF | simp [hF])
   have hb2' := hb2; try simp at hb2'
   refine m4 (v6 (l9 (q8 (c7 (c9 (b4 rfl ?_)))))); refine r4 _ rfl rfl rfl rfl m7 ?_; refine b6 rfl (b7 ?_); exact again _ (i + 1, l, [(gd, Obj.cells cur y2 (0, 0))]) ⟨by show 1 ≤ i + 1; omega, hP, fun hp => (hS hp).done hp hj (fun q hq hlt => by obtain rfl : k = q := (by omega); exact hb2 (by simpa using hlt)), lz8 rfl (by show l.length ≤ cap; omega) hcm hcs hct⟩ (r9 (by omega)) mC (List.Sublist.refl _) (LSub.of_mem fun F hF => by first | exact hF | exact List.mem_cons_of_mem _ hF | exact List.mem_append_right _ hF | simp [hF])
  intro hg1; have hg1' := hg1; try simp at hg1'
  have hj0 : j = 0 := by simp at hg1; omega
  subst hj0; refine m6 (fun w1 => n4 hg1 (q_z rfl)) (m6 (fun w1 => n4 hg1 (q_z rfl)) (m6 (fun w1 => n4 hg1 (q_z rfl)) (m6 (fun w1 => n4 hg1 (q_z rfl)) (m6 (fun w1 => n4 hg1 (q_z rfl)) (m6 (fun w1 => n4 hg1 (q_z rfl)) (m6 (fun w1 => n4 hg1 (q_z rfl)) (m6 (fun w1 => n4 hg1 (q_z rfl)) (m6 (fun w1 => n4 hg1 (q_z rfl)) (m6 (fun w1 => n4 hg1 (q_z rfl)) ?_))))))))); refine y8 ⟨rfl, ?_⟩; refine n4 hg1 (n4 hg1 ?_); refine p_f rfl rfl (bf2 hg1) rfl ?_; refine c3 (c_f rfl rfl (m4 (v6 (l9 (q8 (c7 (c9 (b4 rfl ?_)))))))); refine r4 _ rfl rfl rfl rfl m7 ?_; refine b6 rfl (b7 ?_); exact again _ (i + 1, l, [(gd, Obj.cells cur y2 (0, 0))]) ⟨by show 1 ≤ i + 1; omega, hP, fun hp => (hS hp).done hp hj (fun q hq => by omega), lz8 rfl (by show l.length ≤ cap; omega) hcm hcs hct⟩ (r9 (by omega)) mC (List.Sublist.refl _) (LSub.of_mem fun F hF => by first | exact hF | exact List.mem_cons_of_mem _ hF | exact List.mem_append_right _ hF | simp [hF])
 have hb1' := hb1; try simp at hb1'
 refine m4 (v6 (l9 ?_)); exact ret0n (l, og) rfl rfl rfl ⟨⟨hP, fun hp p q h1 h2 => hS hp p q h1 (by have h3 : q < l.length := h2; omega)⟩, hG⟩ (List.Sublist.refl _) tK
theorem Y9 {A : Option Addr} {cap g : Nat} {cp : List Value} {L0 : List Fact} {cf : Int → Int → Int} (hcb : Callable prog g) (ws : List Int) (hm : ∀ x ∈ ws, ∀ y ∈ ws, Meets prog g ([int x, int y] ++ cp) { LI := L0, val := fun _ : Unit => int (cf x y) }) (og : Hp) (hG : Grow y2 1 A ws.length cap (rows ws) og) (hn : ws.length < 20) : Meets prog H7 [.slice A ws.length cap, int ws.length, .func (.func g) #[] cp.toArray] { hpI := og, LI := L0, inv := fun x : List Int × Hp => Srtd cf ws x.1 ∧ Grow y2 1 A x.1.length cap (rows x.1) x.2, val := fun _ => .tuple #[], hpO := fun x => x.2 } := by
 refine d3 aS rfl n2 fun w0 => ?_; refine d4 (b6 rfl (j4 (b4 rfl (b6 rfl (b6 rfl (c3 ?_)))))); refine d1 (i8 ?_); refine p6 (β := Unit) ⟨fun _ => True, fun _ => [(0, .slice A ws.length cap), (1, int ws.length), (2, .func (.func g) #[] cp.toArray), (6, int 20), (7, int (0 : Nat)), (8, int 20)], fun _ => og, fun _ => L0⟩ (fun _ => 0) () tK mC (by first | (rw [List.append_nil]; exact List.Sublist.refl _) | exact List.Sublist.refl _) (LSub.of_mem fun F hF => by first | exact hF | exact List.mem_cons_of_mem _ hF | exact List.mem_append_right _ hF | simp [hF]) fun _ _ => ?_; refine d1 (d4 (b4 rfl (b4 rfl (nY rfl rfl rfl (c3 ?_)))))
 first | refine j9 rfl (fun hb1 => ?_) (fun hb1 => ?_) | refine d6 rfl (fun hb1 => ?_) (fun hb1 => ?_)
 ·exact absurd hb1 (by omega)
 have hb1' := hb1; try simp at hb1'
 refine m4 (v6 (l9 (c7 (d4 (b4 rfl (b4 rfl (b4 rfl (b4 rfl ?_)))))))); refine i5 (hpR := []) Q0 rfl rfl (P4 hcb ws hm og hG (by omega)) (by first | (rw [List.append_nil]; done) | (rw [List.append_nil]; exact List.Perm.refl _) | exact List.Perm.refl _) (LSub.of_mem fun F hF => by first | exact hF | exact List.mem_cons_of_mem _ hF | exact List.mem_append_right _ hF | simp [hF]) fun x hx => ?_; refine c3 (i8 ?_); refine p6 (β := Unit) ⟨fun _ => True, fun _ => [(0, .slice A ws.length cap), (1, int ws.length), (6, int 20)], fun _ => x.2, fun _ => []⟩ (fun _ => 0) () tK mC (by first | (rw [List.append_nil]; exact List.Sublist.refl _) | exact List.sublist_append_left _ _) tK fun _ _ => ?_; refine d1 (d4 (b4 rfl (b4 rfl (u7 rfl rfl rfl (c3 ?_)))))
 first | refine j9 rfl (fun hb2 => ?_) (fun hb2 => ?_) | refine d6 rfl (fun hb2 => ?_) (fun hb2 => ?_)
 ·exact absurd hb2 (by omega)
 have hb2' := hb2; try simp at hb2'
 refine m4 (v6 (l9 ?_)); exact ret0n x rfl rfl rfl hx (List.Sublist.refl _) tK
theorem W4 {A : Option Addr} {cap g : Nat} {cp : List Value} {L0 : List Fact} {cf : Int → Int → Int} (hcb : Callable prog g) (ws : List Int) (hm : ∀ x ∈ ws, ∀ y ∈ ws, Meets prog g ([int x, int y] ++ cp) { LI := L0, val := fun _ : Unit => int (cf x y) }) (og : Hp) (hG : Grow y2 1 A ws.length cap (rows ws) og) (hn : ws.length < 20) : Meets prog G5 [.slice A ws.length cap, .func (.func g) #[] cp.toArray] { hpI := og, LI := L0, inv := fun x : List Int × Hp => Srtd cf ws x.1 ∧ Grow y2 1 A x.1.length cap (rows x.1) x.2, val := fun _ => .tuple #[], hpO := fun x => x.2 } := by
 refine d3 X7 rfl n2 fun w0 => ?_; refine c9 (b4 rfl (b4 rfl ?_)); refine k5 rfl j2 rfl (b4 rfl ?_); refine i5 (hpR := []) Z6 rfl rfl (Y9 hcb ws hm og hG hn) (by first | (rw [List.append_nil]; done) | (rw [List.append_nil]; exact List.Perm.refl _) | exact List.Perm.refl _) (LSub.of_mem fun F hF => by first | exact hF | exact List.mem_cons_of_mem _ hF | exact List.mem_append_right _ hF | simp [hF]) fun x hx => ?_; refine b7 ?_; exact ret0n x rfl rfl rfl hx (List.sublist_append_left _ _) tK
abbrev keyA : Str := [97]
abbrev bKey (g : Nat) : Fact := Blk g (.cells #[str keyA] wZ (0, 0))
abbrev bInt0 (g : Nat) : Fact := Blk g (.cells #[int 0] y2 (0, 0))
abbrev bRul (g : Nat) : Fact := Blk g (.cells #[.slice none 0 0] hQ (0, 0))
abbrev pA (g : Nat) : Value := .pointer (i7 g)
abbrev cS8 (g : Nat) (v : Value) : Nat × Obj := (g, .cells #[v] tC (0, 0))
abbrev cB8 (g : Nat) (b : Bool) : Nat × Obj := (g, .cells #[.bool b] kV (0, 0))
def yA (lb : Nat) (rc : Option Code → Loop) (R0 : Hp) (R1 : OutC → Hp) (LI0 : List Fact) (x : OutC) : Con Unit :=
  { hpI := (lb, .loop (rc none)) :: R0, LI := Row x.1 (rows [keyA]) :: LI0, val := fun _ => .bool true, hpO := fun _ => (lb, .loop (rc none)) :: R1 x }
theorem jj6 {c : Cx} {fr : Fr} {hp : Hp} {L : List Fact} {β : Type} {k : Con β} {fn : Func} {w0 : World} (x : β) {t : Tmp} {ty : TypeId} {p : Addr} (hres : fn.results = #[.cell t ty]) (hv : lk fr t = some (.pointer (some p))) (ht : NoR c.P ty)
    (h1 : Cell c.b hp L p (k.val x)) (hb : c.b = k.entry w0) (hi : k.inv x) (h2 : (k.hpO x).Sublist hp) (h3 : LSub L (k.LO x)) (hD : c.D = [] := by rfl) : HQ c (bodyPost c.P fn (k.post w0)) .ret fr hp L :=
  tJ x (fun a w ha hw => by
    obtain ⟨dd, ht, hr⟩ := ht
    have hagg : (isAgg ty).run c.P w = .ok false w := by
      unfold isAgg; rw [Sem.run_bind, run_underlying ht w]
      cases dd <;> simp_all [TypeDesc.isRow]
    have hl : (loadVar ty p).run c.P w = .ok (k.val x) w := by
      simp only [loadVar, Sem.run_bind, hagg, Result.andThen_ok, Bool.false_eq_true, if_false, run_load, h1 w hw]
    have hv' := ha.at_ _ _ hv; unfold results; rw [hres]; have hv2 : a.tmps[t]?.getD undef = .pointer (some p) := by simpa using hv'
    simp [hv2, asAddr, hl]) hb hi h2 h3 hD
theorem yH : Meets prog O5 [.slice none 0 0] { val := fun _ : Unit => .slice none 0 0 } := by
 refine d3 lO rfl n2 fun w0 => ?_; refine d4 (b6 rfl (c3 (d1 (d4 (b4 rfl (lj0 rfl O9 rfl rfl (c3 ?_))))))); refine d6 rfl (fun hb1 => ?_) (fun hb1 => ?_)
 ·have hb1' := hb1; try simp at hb1'
  refine d4 (b6 rfl (c3 (M2 ?_))); exact ret1 () rfl rfl rfl tK nK tK
 cases hb1
theorem ax3 {lb : Nat} {rc : Option Code → Loop} {R0 : Hp} {R1 : OutC → Hp} {LI0 : List Fact} {gm gt gy gr gs : Nat} (hY : ∀ x : OutC, 1 ≤ x.2 → MeetsY prog lb [.slice x.1 1 x.2] (yA lb rc R0 R1 LI0 x)) : Meets prog B3 [str keyA, .slice none 0 0, pA gm, pA gt, pA gy, pA gr, pA gs] { hpI := (lb, .loop (rc none)) :: R0, LI := [bInt0 gm, bKey gt, Blk gy (.cells #[yieldV lb] Y0 (0, 0))] ++ LI0, val := fun _ : OutC => .bool true, hpO := fun x => (lb, .loop (rc none)) :: R1 x, LO := fun x => [Row x.1 (rows [keyA])] } := by
 refine d3 iO rfl n2 fun w0 => d4 (B2 rfl (fun _ => zF _) fun g9 => ?_); refine j4 (b4 rfl ?_); refine i5 kC rfl rfl (yH) (hpR := _) (.refl _) tK fun _ _ => b4 rfl (l5 _ rfl rfl (fun _ => tF ..) fun gS => ?_); refine C0 (hp' := (gS, Obj.cells #[str keyA] J1 (0, 0)) :: cB8 g9 false :: (lb, .loop (rc none)) :: R0) 1 (rows [keyA]) zC rfl rfl rfl (Grow.nil J1 1) (.refl _) (Src.own (cs := #[str keyA]) (m := 1) (List.mem_append_right _ m0) rfl rfl) rfl rfl (by decide) (by decide) fun A' c' og' hG' => ?_; have hc1 := hG'.le; refine lx9 hG' (B2 rfl (fun _ => zE _) fun g10 => u9 rfl rfl (.refl _) qV (by rfl) (by rfl) (P8 (hp' := cS8 g10 (.slice A' 1 c') :: (gS, Obj.cells #[str keyA] J1 (0, 0)) :: cB8 g9 false :: (lb, .loop (rc none)) :: R0) (.refl _) ?_)); refine c3 (d1 (d4 ?_)); refine b3 (v := .slice A' 1 c') rfl L8 rfl (j3 mB rfl) (k5 rfl O9 rfl (b3 (v := int 0) rfl b5 rfl (d5 mB rfl) ?_)); refine K5 rfl rfl rfl (c3 ?_)
 first | refine j9 rfl (fun hb1 => ?_) (fun hb1 => ?_) | refine d6 rfl (fun hb1 => ?_) (fun hb1 => ?_)
 ·have hb1' := hb1; try simp at hb1'
  refine d4 (b4 rfl ?_); refine b3 (v := str keyA) rfl jA rfl (d5 mB rfl) ?_; refine kz2 rfl rfl rfl (b4 rfl ?_); refine q6 rfl rfl ?_ ?_
  ·intro hg1; have hg1' := hg1; try simp at hg1'
   refine k7 hg1 (b3 (v := yieldV lb) rfl cN rfl (d5 mB rfl) (k7 hg1 (b3 (v := .slice A' 1 c') rfl L8 rfl (j3 mB rfl) (k7 hg1 ?_)))); refine lx8 (k := yA lb rc R0 R1 LI0 (A', c')) rfl rfl rfl (hY (A', c') hc1) (hpR := [cS8 g10 (.slice A' 1 c'), (gS, Obj.cells #[str keyA] J1 (0, 0)), cB8 g9 false]) (C6 fun q => by simp only [yA, List.countP_append, List.countP_cons, List.countP_nil]; omega) ⟨mB, (LSub.of_mem fun F hF => by first | exact hF | exact List.mem_cons_of_mem _ hF | exact List.mem_append_right _ hF | (have hF : F ∈ LI0 := (by simpa using hF); simp only [List.mem_cons, List.mem_append]; simp [hF]))⟩ fun _ _ => ?_; refine p_f rfl rfl (bf1 hg1) rfl ?_; refine P8 (hp' := cB8 g9 false :: (lb, .loop (rc none)) :: (R1 (A', c') ++ [cS8 g10 (.slice A' 1 c'), (gS, Obj.cells #[str keyA] J1 (0, 0))])) (C6 fun q => by simp only [yA, List.countP_append, List.countP_cons, List.countP_nil]; omega) ?_; refine u9 rfl rfl (.refl _) J9 (by rfl) (by rfl) (P8 (hp' := cB8 g9 true :: (lb, .loop (rc none)) :: (R1 (A', c') ++ [cS8 g10 (.slice A' 1 c'), (gS, Obj.cells #[str keyA] J1 (0, 0))])) (.refl _) ?_); refine c3 (M2 ?_); exact jj6 (A', c') rfl rfl C2 (j3 mB rfl) rfl tK (.cons _ (.cons_cons _ (List.sublist_append_left _ _))) mC
  intro hg1; have hg1' := hg1; try simp at hg1'
 have hb1' := hb1; try simp at hb1'
theorem aq1 {lb : Nat} {rc : Option Code → Loop} {R0 : Hp} {R1 : OutC → Hp} {LI0 : List Fact} {gm gt gr gk : Nat} (hY : ∀ x : OutC, 1 ≤ x.2 → MeetsY prog lb [.slice x.1 1 x.2] (yA lb rc R0 R1 LI0 x)) : Meets prog G6 [yieldV lb, pA gm, pA gt, pA gr, pA gk] { hpI := (lb, .loop (rc none)) :: R0, LI := [bInt0 gm, bKey gt, bKey gk] ++ LI0, val := fun _ : OutC => .tuple #[], hpO := fun x => (lb, .loop (rc none)) :: R1 x, LO := fun x => [Row x.1 (rows [keyA])] } := by
 refine d3 lV rfl n2 fun w0 => d4 (B7 rfl rfl fun gy => ?_); refine c3 (d1 (v7 (c9 ?_))); refine B2 rfl (fun _ => V6 _) fun g6 => ?_; refine j4 (N4 rfl rfl rfl ?_); refine u9 rfl rfl (.refl _) V5 (by rfl) (by rfl) (P8 (hp' := (g6, .cells #[.func (.func B3) #[] #[pA gm, pA gt, pA gy, pA gr, pA g6]] B1 (0, 0)) :: (lb, .loop (rc none)) :: R0) (.refl _) ?_); refine c3 (c9 ?_); refine b3 (v := .func (.func B3) #[] #[pA gm, pA gt, pA gy, pA gr, pA g6]) rfl R8 rfl (j3 mB rfl) (b3 (v := str keyA) rfl jA rfl (d5 mB rfl) ?_); refine aR (vs := [str keyA, .slice none 0 0]) (cap := [pA gm, pA gt, pA gy, pA gr, pA g6]) gG rfl rfl rfl (ax3 (lb := lb) (rc := rc) (R0 := R0) (R1 := R1) (LI0 := LI0) hY) (hpR := [(g6, .cells #[.func (.func B3) #[] #[pA gm, pA gt, pA gy, pA gr, pA g6]] B1 (0, 0))]) (C6 fun q => by simp only [List.countP_append, List.countP_cons, List.countP_nil]; omega) ⟨mB, mB, mB, (LSub.of_mem fun F hF => by first | exact hF | exact List.mem_cons_of_mem _ hF | exact List.mem_append_right _ hF | (have hF : F ∈ LI0 := (by simpa using hF); simp only [List.mem_cons, List.mem_append]; simp [hF]))⟩ fun x _ => ?_; refine b7 ?_; exact ret0n x rfl rfl rfl tK (List.sublist_append_left _ _) mC
theorem vW : Meets prog U6 [str keyA, .slice none 0 0, str keyA, int 0] { val := fun x : Nat × Nat × Nat × Nat => .func (.func G6) #[] #[pA x.1, pA x.2.1, pA x.2.2.1, pA x.2.2.2], LO := fun x => [bInt0 x.1, bKey x.2.1, bKey x.2.2.2] } := by
 refine d3 pN rfl n2 fun w0 => d4 (B7 rfl rfl fun g4 => B7 rfl rfl fun g5 => B7 rfl rfl fun g6 => B7 rfl rfl fun g7 => ?_); refine b6 rfl (c3 (d1 (v7 (v7 (v7 (v7 (c9 (N4 rfl rfl rfl (b6 rfl (b7 ?_)))))))))); refine c7 (j6 ?_); exact ret1 (g7, g6, g5, g4) rfl rfl rfl tK nK mC
theorem ax1 {gm gt gr gk : Nat} : Meets prog O7 [.func (.func G6) #[] #[pA gm, pA gt, pA gr, pA gk], .func (.func H9) #[] #[]] { LI := [bInt0 gm, bKey gt, bKey gk], val := fun x : OutC => .tuple #[.slice x.1 1 x.2, .bool true], LO := fun x => [Row x.1 (rows [keyA])] } := by
 refine cj4 lW rfl n2 fun w0 => d4 (B7 rfl rfl fun g3 => ?_); refine b6 rfl (b6 rfl (j4 ?_)); refine B2 rfl (fun _ => zE _) fun g6 => j4 (B2 rfl (fun _ => zF _) fun g7 => u9 rfl rfl (.refl _) J9 (by rfl) (by rfl) ?_); refine c3 (cW ?_); refine gN (hp' := [(g3, .cells #[.func (.func H9) #[] #[]] G4 (0, 0)), cS8 g6 (.slice none 0 0), cB8 g7 false]) (List.reverse_perm [_, _, _]) ?_; refine v7 (c9 (b4 rfl (c3 (i8 ?_)))); refine cj9 (β := OutC) (cap := [pA gm, pA gt, pA gr, pA gk]) (hpR := []) [cS8 g6 (.slice none 0 0), cB8 g7 false] ([bInt0 gm, bKey gt, bKey gk] ++ [Blk g3 (.cells #[.func (.func H9) #[] #[]] G4 (0, 0))]) (fun _ => True) (fun _ => .tuple #[]) (fun _ => none) (fun x => [cS8 g6 (.slice x.1 1 x.2), cB8 g7 true]) (fun x => [Row x.1 (rows [keyA])]) rfl kE (.refl _) mC ?_ ?_ ?_
 ·intro lb d fn tmps hsz hfr; refine aq1 (lb := lb) (rc := recL fn tmps #[10] _ _ d) (R0 := [cS8 g6 (.slice none 0 0), cB8 g7 false]) (R1 := fun x => [cS8 g6 (.slice x.1 1 x.2), cB8 g7 true]) (LI0 := [Blk g3 (.cells #[.func (.func H9) #[] #[]] G4 (0, 0))]) (fun x hx => ?_); refine cj3 m0 hsz hfr rfl (by intro t ht; simp at ht; subst ht; exact Nat.lt_of_lt_of_le (show 10 < 23 by decide) (Nat.le_refl _)) fun w => ?_; refine lB rfl (b6 rfl (b7 ?_)); refine gz1 (.refl _) ?_; refine i8 (d1 (lB rfl ?_)); refine b3 (v := .bool false) rfl C2 rfl (j3 mB rfl) ?_; refine I6 rfl rfl (b4 rfl ?_); refine q6 rfl rfl ?_ ?_
  ·intro hg1; have hg1' := hg1; try simp at hg1'
  intro hg1; have hg1' := hg1; try simp at hg1'
  refine n4 hg1 (n4 hg1 (n4 hg1 (n4 hg1 (n4 hg1 ?_)))); refine p_t rfl rfl (bt2 hg1) rfl ?_; refine c3 (c_t rfl rfl (lB rfl (b4 rfl ?_))); refine u9 (hp' := [_, _]) rfl rfl (.swap _ _ _) qV (by rfl) (by rfl) (u9 (hp' := [_, _]) rfl rfl (List.perm_append_comm (l₁ := [_, _]) (l₂ := [_])) J9 (by rfl) (by rfl) ?_); refine b7 (q8 ?_); exact rp_n () (List.reverse_perm [_, _, _]).symm rfl rfl tK (.refl _) tK
 ·intro x d hx hp; refine q8 (c7 (d1 ?_)); refine G9 3 mixed (by decide) (by decide) rfl rfl ?_
  apply k9 _ rfl rfl rfl
  ·intro w1
   first | refine b3 rfl L8 rfl (d5 mB rfl) ?_ | refine b3 rfl L8 rfl (j3 mB rfl) ?_ | refine b3 rfl L8 rfl (i1 mB (c5 (by omega) rfl)) ?_ | refine b3 rfl L8 rfl (i3 mB (rows_get (by omega) rfl)) ?_
   refine b7 ?_; exact i6 rfl
  apply k9 _ rfl rfl rfl
  ·intro w1
   first | refine b3 rfl C2 rfl (d5 mB rfl) ?_ | refine b3 rfl C2 rfl (j3 mB rfl) ?_ | refine b3 rfl C2 rfl (i1 mB (c5 (by omega) rfl)) ?_ | refine b3 rfl C2 rfl (i3 mB (rows_get (by omega) rfl)) ?_
   refine b7 ?_; exact i6 rfl
  refine m6 (fun w1 => b6 rfl (q_z rfl)) ?_; refine y8 ⟨rfl, ?_⟩; refine b6 rfl (c3 (j6 ?_)); refine jj5 [d] x rfl (.refl _) (fun a w _ hat _ => by rw [results_tmp2 rfl, hat 4 _ rfl, hat 5 _ rfl]; rfl) rfl tK nK mC
 intro x d j hx hp
 cases hp
theorem xO : Meets prog X2 [str keyA, .slice none 0 0, str keyA] { val := fun x : OutC => .tuple #[.slice x.1 1 x.2, .bool true], LO := fun x => [Row x.1 (rows [keyA])] } := by
 refine d3 qN rfl n2 fun w0 => ?_; refine d4 (b6 rfl (b6 rfl (c3 (d1 (d4 (b4 rfl (c3 ?_))))))); refine i8 (p6 (β := Unit) ⟨fun _ => True, fun _ => [(0, str keyA), (1, .slice none 0 0), (2, str keyA), (11, int 0)], fun _ => [], fun _ => []⟩ (fun _ => 0) () tK mC nK tK fun _ _ => ?_); refine d4 (u7 rfl rfl rfl (c3 (d1 ?_)))
 first | refine j9 rfl (fun hb1 => ?_) (fun hb1 => ?_) | refine d6 rfl (fun hb1 => ?_) (fun hb1 => ?_)
 ·have hb1' := hb1; try simp at hb1'
  refine i4 (c7 (d1 (i8 (d4 (b4 rfl (b6 rfl (j4 ?_))))))); refine b4 rfl (b4 rfl (b4 rfl (b4 rfl ?_))); refine i5 nL rfl rfl (vW) k8 tK fun x _ => i5 kF rfl rfl (ax1) k8 mC fun y _ => ?_; refine b4 rfl (k4 rfl rfl rfl (k4 rfl rfl rfl (b6 rfl (b6 rfl (j4 (b4 rfl (c3 ?_)))))))
  first | refine j9 rfl (fun hb2 => ?_) (fun hb2 => ?_) | refine d6 rfl (fun hb2 => ?_) (fun hb2 => ?_)
  ·have hb2' := hb2; try simp at hb2'
   refine d4 (b4 rfl (b6 rfl (b6 rfl (c3 (j6 (A1 (u4 (W6 ?_)))))))); refine u4 ?_; exact ret2 y rfl rfl rfl rfl rfl tK nK mC
  have hb2' := hb2; try simp at hb2'
 have hb1' := hb1; try simp at hb1'
theorem nW : Meets prog U5 [.slice none 0 0] { val := fun _ : Unit => int 0 } := by
 refine d3 pM rfl n2 fun w0 => ?_; refine d4 (b6 rfl (c3 (d1 (d4 (b4 rfl ?_))))); refine k5 rfl mH rfl ?_; refine K5 rfl rfl rfl (c3 ?_)
 first | refine j9 rfl (fun hb1 => ?_) (fun hb1 => ?_) | refine d6 rfl (fun hb1 => ?_) (fun hb1 => ?_)
 ·have hb1' := hb1; try simp at hb1'
 have hb1' := hb1; try simp at hb1'
 refine i4 (c7 (d1 (d4 (b4 rfl ?_)))); refine k5 rfl mH rfl ?_; refine b4 rfl (c3 (i8 ?_)); refine p6 (β := Unit) ⟨fun _ => True, fun _ => [(8, .slice none 0 0), (9, int 0), (10, int 0)], fun _ => [], fun _ => []⟩ (fun _ => 0) () tK mC nK tK fun _ _ => ?_; refine d4 (u7 rfl rfl rfl (c3 (d1 ?_)))
 first | refine j9 rfl (fun hb2 => ?_) (fun hb2 => ?_) | refine d6 rfl (fun hb2 => ?_) (fun hb2 => ?_)
 ·have hb2' := hb2; try simp at hb2'
 have hb2' := hb2; try simp at hb2'
 refine m4 (v6 (l9 (c7 (d4 (b6 rfl (c3 (j6 ?_))))))); exact ret1 () rfl rfl rfl tK nK tK
theorem ax4 : Meets prog iQ [.slice none 0 0, str keyA, str keyA] { val := fun x : OutC => .tuple #[.slice x.1 1 x.2, int 0], LO := fun x => [Row x.1 (rows [keyA])] } := by
 refine d3 yC rfl n2 fun w0 => ?_; refine d4 (b6 rfl (b6 rfl (c3 (d1 (d4 (b4 rfl ?_)))))); refine i5 nJ rfl rfl (nW) k8 tK fun _ _ => ?_; refine b6 rfl (j4 (b4 rfl (B9 rfl rfl rfl (c3 ?_))))
 first | refine j9 rfl (fun hb1 => ?_) (fun hb1 => ?_) | refine d6 rfl (fun hb1 => ?_) (fun hb1 => ?_)
 ·have hb1' := hb1; try simp at hb1'
 have hb1' := hb1; try simp at hb1'
 refine i4 (c7 (d1 (d4 (b4 rfl (b4 rfl ?_))))); refine l5 _ rfl rfl (fun _ => tE ..) fun g4 => v8 (rows [keyA, keyA]) (List.prefix_refl _) ?_; have hck := cU (A := some ⟨g4, 0, none⟩) (c := 2) [keyA, keyA] (by decide) (by decide +kernel); rw [show firstErr nameErr [keyA, keyA] = 0 by decide +kernel] at hck; refine i5 dK rfl rfl (hck) k8 mC fun _ _ => ?_; refine b6 rfl (j4 (b4 rfl (B9 rfl rfl rfl (c3 ?_))))
 first | refine j9 rfl (fun hb2 => ?_) (fun hb2 => ?_) | refine d6 rfl (fun hb2 => ?_) (fun hb2 => ?_)
 ·have hb2' := hb2; try simp at hb2'
 have hb2' := hb2; try simp at hb2'
 refine i4 (c7 (d4 (b4 rfl ?_))); have hof := hX keyA (by decide +kernel) (by decide); rw [show keyOf keyA = keyA by decide +kernel] at hof; refine i5 aH rfl rfl (hof) k8 tK fun _ _ => ?_; refine b4 rfl (b4 rfl ?_); refine i5 aH rfl rfl (hof) k8 tK fun _ _ => i5 pO rfl rfl (xO) k8 tK fun x _ => ?_; refine b4 rfl (k4 rfl rfl rfl (k4 rfl rfl rfl (b6 rfl (b6 rfl (c3 (d1 (d4 (b4 rfl (I6 rfl rfl ?_))))))))); refine c3 ?_
 first | refine j9 rfl (fun hb3 => ?_) (fun hb3 => ?_) | refine d6 rfl (fun hb3 => ?_) (fun hb3 => ?_)
 ·have hb3' := hb3; try simp at hb3'
 have hb3' := hb3; try simp at hb3'
 refine i4 (c7 (d4 (b4 rfl (b6 rfl (b6 rfl (c3 (j6 ?_))))))); exact ret2 x rfl rfl rfl rfl rfl tK nK mC
theorem cx5 : Meets prog lX [.slice none 0 0, str keyA, str keyA] { val := fun _ : Unit => .tuple #[int 0, int 0] } := by
 refine d3 aj2 rfl n2 fun w0 => ?_; refine d4 (b6 rfl (b6 rfl (j4 (b4 rfl (b4 rfl (b4 rfl ?_)))))); refine i5 wO rfl rfl (ax4) k8 tK fun x _ => ?_; refine b4 rfl (k4 rfl rfl rfl (k4 rfl rfl rfl (b6 rfl (b6 rfl (c3 (d1 (d4 (b4 rfl (B9 rfl rfl rfl ?_))))))))); refine c3 ?_
 first | refine j9 rfl (fun hb1 => ?_) (fun hb1 => ?_) | refine d6 rfl (fun hb1 => ?_) (fun hb1 => ?_)
 ·have hb1' := hb1; try simp at hb1'
 have hb1' := hb1; try simp at hb1'
 refine i4 (c7 (d4 (b4 rfl ?_))); refine k5 rfl O9 rfl (H3 0 rfl rfl rfl (by rfl) m7 ?_); refine b6 rfl (b6 rfl (c3 (j6 ?_))); exact ret2 () rfl rfl rfl rfl rfl tK nK tK
theorem yI : Meets prog bB [.slice none 0 0, str keyA, str keyA] { val := fun _ : Unit => .tuple #[int 1, int 0] } := by
 refine d3 uI rfl n2 fun w0 => ?_; refine d4 (b6 rfl (b6 rfl (j4 (b4 rfl (b4 rfl (b4 rfl ?_)))))); refine i5 xZ rfl rfl (cx5) k8 tK fun _ _ => ?_; refine b4 rfl (k4 rfl rfl rfl (k4 rfl rfl rfl (b6 rfl (b6 rfl (c3 (d1 (i8 (d4 (b4 rfl ?_))))))))); refine I2 rfl rfl rfl (b6 rfl (c3 ?_))
 first | refine j9 rfl (fun hb1 => ?_) (fun hb1 => ?_) | refine d6 rfl (fun hb1 => ?_) (fun hb1 => ?_)
 ·have hb1' := hb1; try simp at hb1'
 have hb1' := hb1; try simp at hb1'
 refine d4 (b4 rfl (B9 rfl rfl rfl (b6 rfl (c3 ?_))))
 first | refine j9 rfl (fun hb2 => ?_) (fun hb2 => ?_) | refine d6 rfl (fun hb2 => ?_) (fun hb2 => ?_)
 ·have hb2' := hb2; try simp at hb2'
 have hb2' := hb2; try simp at hb2'
 refine d4 (b4 rfl (I2 rfl rfl rfl (b6 rfl (c3 ?_))))
 first | refine j9 rfl (fun hb3 => ?_) (fun hb3 => ?_) | refine d6 rfl (fun hb3 => ?_) (fun hb3 => ?_)
 ·have hb3' := hb3; try simp at hb3'
  refine d4 (b6 rfl (b6 rfl (c3 (j6 (A1 ?_))))); exact ret2 () rfl rfl rfl rfl rfl tK nK tK
 have hb3' := hb3; try simp at hb3'
end Go.Proofs.YtpihanmcnmlodaaGreatDoor
end
