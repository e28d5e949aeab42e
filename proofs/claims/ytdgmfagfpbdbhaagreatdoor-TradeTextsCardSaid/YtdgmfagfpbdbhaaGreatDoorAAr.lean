/- Texts. -/

import Derived.Test.YtdgmfagfpbdbhaaGreatDoorAAq
import Derived.Test.YtdgmfagfpbdbhaaGreatDoorAAp
set_option linter.unusedVariables false
set_option linter.unusedSimpArgs false
section
namespace Go.Proofs.YtdgmfagfpbdbhaaGreatDoor
open Go Go.W Tryz T F
set_option maxRecDepth 20000
attribute [local irreducible] HL HC HQ HB Row Rows2 Blk Facts
theorem bz2 {α : Type} [Inhabited α] {l : List α} {k i : Nat} (hk : k < i) (hi : i ≤ l.length) : l.getD k default ∈ l.take i := by
  rw [B8 (show k < l.length by omega), List.mem_take_iff_getElem]; exact ⟨k, by omega, rfl⟩
theorem pj1 {p : PH} (h1 : -1 ≤ p.2.2.1) (h2 : -1 ≤ p.2.1) : kindBad p = (decide (0 ≤ p.2.2.1) == (decide (0 ≤ p.2.1) || decide ((0 : Int) < p.2.2.2.length))) := by
  unfold kindBad; rw [show decide (¬ p.2.2.1 = -1) = decide (0 ≤ p.2.2.1) from decide_eq_decide.2 (by omega), show decide (¬ p.2.1 = -1) = decide (0 ≤ p.2.1) from decide_eq_decide.2 (by omega), show decide (p.2.2.1 = -1) = !decide (0 ≤ p.2.2.1) by rw [← decide_not]; exact decide_eq_decide.2 (by omega), show decide (p.2.1 = -1) = !decide (0 ≤ p.2.1) by rw [← decide_not]; exact decide_eq_decide.2 (by omega), show decide (p.2.2.2.length = 0) = !decide ((0 : Int) < p.2.2.2.length) by rw [← decide_not]; exact decide_eq_decide.2 (by omega), show decide (0 < p.2.2.2.length) = decide ((0 : Int) < p.2.2.2.length) from decide_eq_decide.2 (by omega)]
  cases decide (0 ≤ p.2.2.1) <;> cases decide (0 ≤ p.2.1) <;> cases decide ((0 : Int) < p.2.2.2.length) <;> rfl
def askdE (t : Tr) (l1 l2 : List Int) : Int := if ¬ checkT t = 0 then checkT t else if l1.all (fun x => decide (0 ≤ x ∧ x ≤ (t.cs.length : Int) - 1)) then (if l2.all (fun x => decide (0 ≤ x ∧ x ≤ (t.hs.length : Int) - 1)) then 0 else 3) else 3
def lastC (p q : List Int) : Nat → Int
  | 0 => -1
  | k + 1 => if p.getD k default ∈ q then p.getD k default else lastC p q k
theorem I6 (s : Str) (hl : s.length ≤ 1000) : Meets prog pI [str s] { val := fun _ : Unit => .bool (wordB s) } := by
 refine j3 cq1 rfl v8 fun w0 => ?_; refine i4 (c5 rfl (c8 (d6 (i4 (c5 rfl (c8 (j5 ?_))))))); refine u6 (β := Nat) ⟨fun k => k ≤ s.length ∧ (s.take k).all azB = true, fun k => [(0, str s), (3, int k)], fun _ => [], fun _ => []⟩ (fun k => s.length - k) 0 ⟨Nat.zero_le _, rfl⟩ mC nK tK fun k hk => ?_; obtain ⟨hk, ht⟩ := hk; refine d6 (i4 (b6 rfl (b6 rfl ?_))); refine G5 rfl q8 rfl ?_; refine B5 rfl rfl rfl (c8 ?_)
 first | refine k9 rfl (fun hb1 => ?_) (fun hb1 => ?_) | refine j0 rfl (fun hb1 => ?_) (fun hb1 => ?_)
 ·have hb1' := hb1; try simp at hb1'
  have hk2 : k < s.length := by omega
  refine i8 (i1 (d6 (j5 (i4 (b6 rfl (b6 rfl ?_)))))); refine dB k rfl q8 rfl rfl rfl (List.getElem?_eq_getElem hk2) ?_; refine B5 rfl rfl rfl (b6 rfl ?_); refine v6 rfl rfl ?_ ?_
  ·intro hg1; have hg1' := hg1; try simp at hg1'
   have g5 : ¬ (s[k].toNat : Int) < 97 := of_decide_eq_false (eq_of_beq hg1); refine k5 hg1 (b6 rfl (k5 hg1 (b6 rfl (k5 hg1 ?_)))); refine dB k rfl q8 rfl rfl rfl (List.getElem?_eq_getElem hk2) ?_; refine k5 hg1 (Q0 rfl rfl rfl ?_); refine p_f rfl rfl (bf1 hg1) rfl (c8 ?_)
   first | refine k9 rfl (fun hb2 => ?_) (fun hb2 => ?_) | refine j0 rfl (fun hb2 => ?_) (fun hb2 => ?_)
   ·have hb2' := hb2; try simp at hb2'
    refine i4 (c5 rfl (c8 (l4 (B7 (u5 (B7 ?_)))))); exact ret1 () rfl (congrArg (fun b => some (Value.bool b)) (by exact (uQ hk2 (.inr (by omega))).symm)) rfl tK nK tK
   have hb2' := hb2; try simp at hb2'
   refine i8 (w6 (i1 (c9 (b6 rfl ?_)))); refine t5 _ rfl rfl rfl rfl q6 ?_; refine c5 rfl (b5 ?_); exact again _ (k + 1) ⟨by show k + 1 ≤ s.length; omega, jq8 hk2 ht ⟨by omega, by omega⟩⟩ (y8 (by omega)) mC nK tK
  intro hg1; have hg1' := hg1; try simp at hg1'
  have g5 : (s[k].toNat : Int) < 97 := Classical.byContradiction fun e => by rw [decide_eq_false e] at hg1; cases hg1
  refine l8 hg1 (l8 hg1 (l8 hg1 (l8 hg1 ?_))); refine p_t rfl rfl (bt2 hg1) rfl ?_; refine c8 (c_t rfl rfl (i4 (c5 rfl (c8 (l4 (B7 (u5 ?_))))))); refine B7 ?_; exact ret1 () rfl (congrArg (fun b => some (Value.bool b)) (by exact (uQ hk2 (.inl (by omega))).symm)) rfl tK nK tK
 have hb1' := hb1; try simp at hb1'
 obtain rfl : k = s.length := by omega
 rw [List.take_length] at ht; refine t7 (C7 (t8 (i1 (i4 (b6 rfl ?_))))); refine G5 rfl q8 rfl ?_; refine Z4 rfl rfl rfl (b6 rfl ?_); refine v6 rfl rfl ?_ ?_
 ·intro hg2; have hg2' := hg2; try simp at hg2'
  have g4 : (1 : Int) ≤ s.length := of_decide_eq_true (eq_of_beq hg2); refine k5 hg2 (b6 rfl (k5 hg2 ?_)); refine G5 rfl q8 rfl ?_; refine k5 hg2 (cz9 rfl rfl rfl ?_); refine p_t rfl rfl (bt1 hg2) rfl (b6 rfl ?_); refine v6 rfl rfl ?_ ?_
  ·intro hg3; have hg3' := hg3; try simp at hg3'
   have g9 : (s.length : Int) ≤ 12 := of_decide_eq_true (eq_of_beq hg3); refine k5 hg3 (b6 rfl (k5 hg3 (iK rfl rfl rfl ?_))); refine p_t rfl rfl (bt1 hg3) rfl (b6 rfl ?_); refine v6 rfl rfl ?_ ?_
   ·intro hg4; have hg4' := hg4; try simp at hg4'
    have g13 : ¬ s = wClass := of_decide_eq_true (eq_of_beq hg4); refine k5 hg4 (b6 rfl (k5 hg4 (iK rfl rfl rfl ?_))); refine p_t rfl rfl (bt1 hg4) rfl ?_; refine c5 rfl (c8 (l4 ?_)); exact ret1 () rfl (congrArg (fun b => some (Value.bool b)) (by unfold wordB; rw [decide_eq_true (show 0 < s.length by omega), decide_eq_true (show s.length ≤ 12 by omega), decide_eq_true g13, ht, Bool.true_and, Bool.true_and, Bool.true_and, Bool.and_true]; rfl)) rfl tK nK tK
   intro hg4; have hg4' := hg4; try simp at hg4'
   have g13 : s = wClass := Classical.not_not.1 (of_decide_eq_false (bf2 hg4)); refine l8 hg4 (l8 hg4 ?_); refine p_f rfl rfl (bf2 hg4) rfl ?_; refine c5 rfl (c8 (l4 ?_)); exact ret1 () rfl (congrArg (fun b => some (Value.bool b)) (by rw [g13]; decide)) rfl tK nK tK
  intro hg3; have hg3' := hg3; try simp at hg3'
  have g9 : ¬ (s.length : Int) ≤ 12 := of_decide_eq_false (bf2 hg3); refine l8 hg3 (l8 hg3 ?_); refine p_f rfl rfl (bf2 hg3) rfl ?_; refine b6 rfl (S5 rfl rfl rfl rfl rfl rfl (S5 rfl rfl rfl rfl rfl rfl (p_f rfl rfl rfl rfl (c5 rfl (c8 (l4 ?_)))))); exact ret1 () rfl (congrArg (fun b => some (Value.bool b)) (by unfold wordB; rw [decide_eq_false (show ¬ s.length ≤ 12 by omega)]; simp)) rfl tK nK tK
 intro hg2; have hg2' := hg2; try simp at hg2'
 have g4 : ¬ (1 : Int) ≤ s.length := of_decide_eq_false (bf2 hg2); refine l8 hg2 (l8 hg2 (l8 hg2 ?_)); refine p_f rfl rfl (bf2 hg2) rfl ?_; refine b6 rfl (S5 rfl rfl rfl rfl rfl rfl (S5 rfl rfl rfl rfl rfl rfl (p_f rfl rfl rfl rfl (b6 rfl (S5 rfl rfl rfl rfl rfl rfl (S5 rfl rfl rfl rfl rfl rfl (p_f rfl rfl rfl rfl (c5 rfl (c8 (l4 ?_)))))))))); exact ret1 () rfl (congrArg (fun b => some (Value.bool b)) (by unfold wordB; rw [decide_eq_false (show ¬ 0 < s.length by omega)]; rfl)) rfl tK nK tK
theorem qW {A B : Option Addr} {ca cb : Nat} (cs : List Cl) (hs : List Hd) (i : Nat) (hi : i < cs.length) (hw : ∀ x ∈ cs, x.1.length ≤ 1000) (hcl : cs.length ≤ 1000) : Meets prog bK [.agg #[.slice A cs.length ca, .slice B hs.length cb], int i] { LI := [Row A (rows cs)], val := fun _ : Unit => int (clsErr cs i) } := by
 refine j3 tG rfl v8 fun w0 => i4 (O3 rfl rfl fun gB => ?_); refine c5 rfl (t6 ?_)
 first | refine a6 ⟨_, 0, none⟩ rfl rfl i9 rfl ?_ | refine a6 _ rfl rfl i9 rfl ?_
 first | refine a7 rfl b3 rfl (i2 mB rfl) ?_ | refine a7 rfl b3 rfl (d8 mB rfl) ?_ | refine a7 rfl b3 rfl (b7 mB (b4 (by omega) rfl)) ?_ | refine a7 rfl b3 rfl (b8 mB (rows_get (by omega) rfl)) ?_ | refine a7 rfl b3 rfl (d7 mB rfl) ?_
 refine b6 rfl (m7 (α := Cl) cs i rfl n6 u7 rfl rfl rfl mB rfl hi (by decide) (z8 rfl L0 u7 rfl rfl (v9 mB (B3 (by omega))) (u4 rfl (fun _ => X1 _) fun gA => l6 rfl rfl X2 u7 (by rfl) (by rfl) ?_))); refine c8 (Y7 ?_); refine Q1 (rows [(cs.getD i default)]) ⟨[], List.append_nil _⟩ (c9 ?_)
 first | refine a6 ⟨_, 0, none⟩ rfl rfl t9 rfl ?_ | refine a6 _ rfl rfl t9 rfl ?_
 first | refine a7 rfl a9 rfl (i2 mB rfl) ?_ | refine a7 rfl a9 rfl (d8 mB rfl) ?_ | refine a7 rfl a9 rfl (b7 mB (b4 (by omega) rfl)) ?_ | refine a7 rfl a9 rfl (b8 mB (rows_get (by omega) rfl)) ?_ | refine a7 rfl a9 rfl (d7 mB rfl) ?_
 refine j4 I7 rfl rfl (I6 (cs.getD i default).1 (hw _ (w8 hi))) t4 tK fun _ _ => ?_; refine H6 rfl rfl (c8 ?_)
 first | refine k9 rfl (fun hb1 => ?_) (fun hb1 => ?_) | refine j0 rfl (fun hb1 => ?_) (fun hb1 => ?_)
 ·have hb1' := hb1; try simp at hb1'
  have h1 : wordB (cs.getD i default).1 = false := by simpa using hb1
  refine i4 (c5 rfl (c8 (E9 ?_))); exact ret1 () rfl (congrArg (fun b => some (int b)) (by rw [clsErr, if_pos h1])) rfl tK nK tK
 have hb1' := hb1; try simp at hb1'
 have h1 : ¬ wordB (cs.getD i default).1 = false := by simpa using hb1
 refine i8 (i1 (d6 (i4 (c5 rfl (c8 (j5 ?_)))))); refine u6 (β := Nat) ⟨fun k => k ≤ i ∧ (cs.getD i default).1 ∉ (cs.take k).map (·.1), fun k => [(1, int i), (2, .pointer (d9 gB)), (5, .pointer (d9 gA)), (6, int k)], fun _ => [(gB, .cells #[.slice A cs.length ca, .slice B hs.length cb] p8 (0, 0))], fun _ => [Row (d9 gA) (rows [(cs.getD i default)]), Row A (rows cs)]⟩ (fun k => i - k) 0 ⟨Nat.zero_le _, by simp⟩ mC (List.Sublist.refl _) mC fun k hk => ?_; obtain ⟨hk, ht⟩ := hk; refine d6 (i4 (b6 rfl (b6 rfl (B5 rfl rfl rfl (c8 ?_)))))
 first | refine k9 rfl (fun hb2 => ?_) (fun hb2 => ?_) | refine j0 rfl (fun hb2 => ?_) (fun hb2 => ?_)
 ·have hb2' := hb2; try simp at hb2'
  have hk2 : k < i := by omega
  have hkl : k < cs.length := by omega
  refine i8 (i1 (d6 (j5 (d6 ?_)))); refine C0 8 mixed (by decide) (by decide) rfl rfl ?_
  apply k7 _ rfl rfl rfl
  ·intro w1
   first | refine a6 ⟨_, 0, none⟩ rfl rfl i9 rfl ?_ | refine a6 _ rfl rfl i9 rfl ?_
   refine b5 ?_; exact i5 rfl
  apply k7 _ rfl rfl rfl
  ·intro w1
   first | refine a7 rfl b3 rfl (d8 mB rfl) ?_ | refine a7 rfl b3 rfl (i2 mB rfl) ?_ | refine a7 rfl b3 rfl (b7 mB (b4 (by omega) rfl)) ?_ | refine a7 rfl b3 rfl (b8 mB (rows_get (by omega) rfl)) ?_ | refine a7 rfl b3 rfl (d7 mB rfl) ?_
   refine b5 ?_; exact i5 rfl
  refine r7 rfl (k8 (fun w1 => m7 (α := Cl) cs k rfl n6 u7 rfl rfl rfl mB rfl hkl (by decide) (q_z rfl)) ?_)
  apply k7 _ rfl rfl rfl
  ·intro w1
   first | refine a6 ⟨_, 0, none⟩ rfl rfl t9 rfl ?_ | refine a6 _ rfl rfl t9 rfl ?_
   refine b5 ?_; exact i5 rfl
  refine k8 (fun w1 => a7 (v := str (cs.getD k default).1) rfl a9 rfl (b8 mB (rows_get hkl rfl)) (q_z rfl)) ?_
  apply k7 _ rfl rfl rfl
  ·intro w1
   first | refine a6 ⟨_, 0, none⟩ rfl rfl t9 rfl ?_ | refine a6 _ rfl rfl t9 rfl ?_
   refine b5 ?_; exact i5 rfl
  apply k7 _ rfl rfl rfl
  ·intro w1
   first | refine a7 rfl a9 rfl (d8 mB rfl) ?_ | refine a7 rfl a9 rfl (i2 mB rfl) ?_ | refine a7 rfl a9 rfl (b7 mB (b4 (by omega) rfl)) ?_ | refine a7 rfl a9 rfl (b8 mB (rows_get (by omega) rfl)) ?_ | refine a7 rfl a9 rfl (d7 mB rfl) ?_
   refine b5 ?_; exact i5 rfl
  refine v7 ⟨rfl, ?_⟩; refine J3 rfl rfl rfl (c8 ?_)
  first | refine k9 rfl (fun hb3 => ?_) (fun hb3 => ?_) | refine j0 rfl (fun hb3 => ?_) (fun hb3 => ?_)
  ·have hb3' := hb3; try simp at hb3'
   refine i4 (c5 rfl (c8 (l4 (B7 (u5 (B7 ?_)))))); exact ret1 () rfl (congrArg (fun b => some (int b)) (by rw [clsErr, if_neg h1, if_pos (List.mem_map.2 ⟨_, bz2 hk2 (Nat.le_of_lt hi), hb3⟩)])) rfl tK nK tK
  have hb3' := hb3; try simp at hb3'
  refine i8 (w6 (i1 (c9 (b6 rfl ?_)))); refine t5 _ rfl rfl rfl rfl q6 ?_; refine c5 rfl (b5 ?_); exact again _ (k + 1) ⟨by omega, zJ (·.1) hkl ht hb3⟩ (y8 (by omega)) mC (List.Sublist.refl _) mC
 have hb2' := hb2; try simp at hb2'
 have hki : k = i := by omega
 rw [hki] at ht; refine t7 (C7 (t8 (i1 (d6 (i4 ?_)))))
 first | refine a6 ⟨_, 1, none⟩ rfl rfl y5 rfl ?_ | refine a6 _ rfl rfl y5 rfl ?_
 first | refine a7 rfl a8 rfl (i2 mB rfl) ?_ | refine a7 rfl a8 rfl (d8 mB rfl) ?_ | refine a7 rfl a8 rfl (b7 mB (b4 (by omega) rfl)) ?_ | refine a7 rfl a8 rfl (b8 mB (rows_get (by omega) rfl)) ?_ | refine a7 rfl a8 rfl (d7 mB rfl) ?_
 refine B5 rfl rfl rfl (b6 rfl ?_); refine v6 rfl rfl ?_ ?_
 ·intro hg1; have hg1' := hg1; try simp at hg1'
  have g4 : ¬ (cs.getD i default).2 < -1 := of_decide_eq_false (eq_of_beq hg1); refine k5 hg1 ?_
  first | refine a6 ⟨_, 1, none⟩ rfl rfl y5 rfl ?_ | refine a6 _ rfl rfl y5 rfl ?_
  refine k5 hg1 ?_
  first | refine a7 rfl a8 rfl (i2 mB rfl) ?_ | refine a7 rfl a8 rfl (d8 mB rfl) ?_ | refine a7 rfl a8 rfl (b7 mB (b4 (by omega) rfl)) ?_ | refine a7 rfl a8 rfl (b8 mB (rows_get (by omega) rfl)) ?_ | refine a7 rfl a8 rfl (d7 mB rfl) ?_
  refine k5 hg1 ?_
  first | refine a6 ⟨_, 0, none⟩ rfl rfl i9 rfl ?_ | refine a6 _ rfl rfl i9 rfl ?_
  refine k5 hg1 ?_
  first | refine a7 rfl b3 rfl (i2 mB rfl) ?_ | refine a7 rfl b3 rfl (d8 mB rfl) ?_ | refine a7 rfl b3 rfl (b7 mB (b4 (by omega) rfl)) ?_ | refine a7 rfl b3 rfl (b8 mB (rows_get (by omega) rfl)) ?_ | refine a7 rfl b3 rfl (d7 mB rfl) ?_
  refine k5 hg1 (k6 rfl n6 rfl ?_); refine k5 hg1 (Z4 rfl rfl rfl ?_); refine p_f rfl rfl (bf1 hg1) rfl (c8 ?_)
  first | refine k9 rfl (fun hb4 => ?_) (fun hb4 => ?_) | refine j0 rfl (fun hb4 => ?_) (fun hb4 => ?_)
  ·have hb4' := hb4; try simp at hb4'
   refine i4 (c5 rfl (c8 (E9 ?_))); exact ret1 () rfl (congrArg (fun b => some (int b)) (by rw [clsErr, if_neg h1, if_neg ht, if_pos (by omega)])) rfl tK nK tK
  have hb4' := hb4; try simp at hb4'
  refine i8 (i1 (d6 (i4 ?_)))
  first | refine a6 ⟨_, 1, none⟩ rfl rfl y5 rfl ?_ | refine a6 _ rfl rfl y5 rfl ?_
  first | refine a7 rfl a8 rfl (i2 mB rfl) ?_ | refine a7 rfl a8 rfl (d8 mB rfl) ?_ | refine a7 rfl a8 rfl (b7 mB (b4 (by omega) rfl)) ?_ | refine a7 rfl a8 rfl (b8 mB (rows_get (by omega) rfl)) ?_ | refine a7 rfl a8 rfl (d7 mB rfl) ?_
  refine b6 rfl (Z4 rfl rfl rfl (c8 ?_))
  first | refine k9 rfl (fun hb5 => ?_) (fun hb5 => ?_) | refine j0 rfl (fun hb5 => ?_) (fun hb5 => ?_)
  ·have hb5' := hb5; try simp at hb5'
   refine i4 (c5 rfl (c8 (E9 ?_))); exact ret1 () rfl (congrArg (fun b => some (int b)) (by rw [clsErr, if_neg h1, if_neg ht, if_neg (by omega), if_pos (by omega)])) rfl tK nK tK
  have hb5' := hb5; try simp at hb5'
  refine i8 (i1 (i4 (c5 rfl (c8 (l4 ?_))))); exact ret1 () rfl (congrArg (fun b => some (int b)) (by rw [clsErr, if_neg h1, if_neg ht, if_neg (by omega), if_neg (by omega)])) rfl tK nK tK
 intro hg1; have hg1' := hg1; try simp at hg1'
 have g4 : (cs.getD i default).2 < -1 := Classical.byContradiction fun e => by rw [decide_eq_false e] at hg1; cases hg1
 refine l8 hg1 (l8 hg1 (l8 hg1 (l8 hg1 (l8 hg1 (l8 hg1 ?_))))); refine p_t rfl rfl (bt2 hg1) rfl ?_; refine c8 (c_t rfl rfl (i4 (c5 rfl (c8 (E9 ?_))))); exact ret1 () rfl (congrArg (fun b => some (int b)) (by rw [clsErr, if_neg h1, if_neg ht, if_pos (by omega)])) rfl tK nK tK
set_option maxHeartbeats 2000000 in
theorem sO {A B : Option Addr} {ca cb : Nat} (cs : List Cl) (hs : List Hd) (i : Nat) (hi : i < hs.length) (hw : ∀ h ∈ hs, h.1.length ≤ 1000) (hhl : hs.length ≤ 1000) (ha : ∀ h ∈ hs, h.2.2.2.l.length ≤ 1000000) : Meets prog cW [.agg #[.slice A cs.length ca, .slice B hs.length cb], int i] { LI := [RowsF B hs Hd.row], val := fun _ : Unit => int (headErr (trOf cs hs) i) } := by
 refine j3 uK rfl v8 fun w0 => i4 (O3 rfl rfl fun gB => ?_); refine c5 rfl (c8 (d6 ?_)); refine S7 (ps := hs) (A := B) (f := Hd.row) mB (iO (p := (hs.getD i default)) (f := Hd.row) (ps := hs) mB (w8 hi) ?_); have hal := ha _ (w8 hi); refine c9 ?_
 first | refine a6 ⟨_, 1, none⟩ rfl rfl i3 rfl ?_ | refine a6 _ rfl rfl i3 rfl ?_
 first | refine a7 rfl b2 rfl (i2 mB rfl) ?_ | refine a7 rfl b2 rfl (d8 mB rfl) ?_ | refine a7 rfl b2 rfl (b7 mB (b4 (by omega) rfl)) ?_ | refine a7 rfl b2 rfl (b8 mB (rows_get (by omega) rfl)) ?_ | refine a7 rfl b2 rfl (d7 mB rfl) ?_
 refine b6 rfl (m7 (α := Hd) hs i rfl n4 l7 rfl rfl rfl mB rfl hi (by decide) (z8 rfl C1 l7 rfl rfl (v9 mB (B3 (by omega))) (u4 rfl (fun _ => G9 _) fun gA => l6 rfl rfl X2 l7 (by rfl) (by rfl) ?_))); refine c8 (Y7 ?_); refine Q1 (rows [(hs.getD i default)]) ⟨[], List.append_nil _⟩ (c9 ?_)
 first | refine a6 ⟨_, 0, none⟩ rfl rfl l9 rfl ?_ | refine a6 _ rfl rfl l9 rfl ?_
 first | refine a7 rfl a9 rfl (i2 mB rfl) ?_ | refine a7 rfl a9 rfl (d8 mB rfl) ?_ | refine a7 rfl a9 rfl (b7 mB (b4 (by omega) rfl)) ?_ | refine a7 rfl a9 rfl (b8 mB (rows_get (by omega) rfl)) ?_ | refine a7 rfl a9 rfl (d7 mB rfl) ?_
 refine j4 I7 rfl rfl (I6 (hs.getD i default).1 (hw _ (w8 hi))) t4 tK fun _ _ => ?_; refine H6 rfl rfl (c8 ?_)
 first | refine k9 rfl (fun hb1 => ?_) (fun hb1 => ?_) | refine j0 rfl (fun hb1 => ?_) (fun hb1 => ?_)
 ·have hb1' := hb1; try simp at hb1'
  have h1 : wordB (hs.getD i default).1 = false := by simpa using hb1
  refine i4 (c5 rfl (c8 (E9 ?_))); exact ret1 () rfl (congrArg (fun b => some (int b)) (by rw [K9 cs hs hi, if_pos h1])) rfl tK nK tK
 have hb1' := hb1; try simp at hb1'
 have h1 : ¬ wordB (hs.getD i default).1 = false := by simpa using hb1
 refine i8 (i1 (d6 (i4 (c5 rfl (c8 (j5 ?_)))))); refine u6 (β := Nat) ⟨fun k => k ≤ i ∧ (hs.getD i default).1 ∉ (hs.take k).map (·.1), fun k => [(1, int i), (2, .pointer (d9 gB)), (5, .pointer (d9 gA)), (6, int k)], fun _ => [(gB, .cells #[.slice A cs.length ca, .slice B hs.length cb] p8 (0, 0))], fun _ => [Row (d9 gA) (rows [(hs.getD i default)]), Hd.row (hs.getD i default), Row B (rows hs), RowsF B hs Hd.row]⟩ (fun k => i - k) 0 ⟨Nat.zero_le _, by simp⟩ mC (List.Sublist.refl _) mC fun k hk => ?_; obtain ⟨hk, ht⟩ := hk; refine d6 (i4 (b6 rfl (b6 rfl (B5 rfl rfl rfl (c8 ?_)))))
 first | refine k9 rfl (fun hb2 => ?_) (fun hb2 => ?_) | refine j0 rfl (fun hb2 => ?_) (fun hb2 => ?_)
 ·have hb2' := hb2; try simp at hb2'
  have hk2 : k < i := by omega
  have hkl : k < hs.length := by omega
  refine i8 (i1 (d6 (j5 (d6 ?_)))); refine C0 8 mixed (by decide) (by decide) rfl rfl ?_
  apply k7 _ rfl rfl rfl
  ·intro w1
   first | refine a6 ⟨_, 1, none⟩ rfl rfl i3 rfl ?_ | refine a6 _ rfl rfl i3 rfl ?_
   refine b5 ?_; exact i5 rfl
  apply k7 _ rfl rfl rfl
  ·intro w1
   first | refine a7 rfl b2 rfl (d8 mB rfl) ?_ | refine a7 rfl b2 rfl (i2 mB rfl) ?_ | refine a7 rfl b2 rfl (b7 mB (b4 (by omega) rfl)) ?_ | refine a7 rfl b2 rfl (b8 mB (rows_get (by omega) rfl)) ?_ | refine a7 rfl b2 rfl (d7 mB rfl) ?_
   refine b5 ?_; exact i5 rfl
  refine r7 rfl (k8 (fun w1 => m7 (α := Hd) hs k rfl n4 l7 rfl rfl rfl mB rfl hkl (by decide) (q_z rfl)) ?_)
  apply k7 _ rfl rfl rfl
  ·intro w1
   first | refine a6 ⟨_, 0, none⟩ rfl rfl l9 rfl ?_ | refine a6 _ rfl rfl l9 rfl ?_
   refine b5 ?_; exact i5 rfl
  refine k8 (fun w1 => a7 (v := str (hs.getD k default).1) rfl a9 rfl (b8 mB (rows_get hkl rfl)) (q_z rfl)) ?_
  apply k7 _ rfl rfl rfl
  ·intro w1
   first | refine a6 ⟨_, 0, none⟩ rfl rfl l9 rfl ?_ | refine a6 _ rfl rfl l9 rfl ?_
   refine b5 ?_; exact i5 rfl
  apply k7 _ rfl rfl rfl
  ·intro w1
   first | refine a7 rfl a9 rfl (d8 mB rfl) ?_ | refine a7 rfl a9 rfl (i2 mB rfl) ?_ | refine a7 rfl a9 rfl (b7 mB (b4 (by omega) rfl)) ?_ | refine a7 rfl a9 rfl (b8 mB (rows_get (by omega) rfl)) ?_ | refine a7 rfl a9 rfl (d7 mB rfl) ?_
   refine b5 ?_; exact i5 rfl
  refine v7 ⟨rfl, ?_⟩; refine J3 rfl rfl rfl (c8 ?_)
  first | refine k9 rfl (fun hb3 => ?_) (fun hb3 => ?_) | refine j0 rfl (fun hb3 => ?_) (fun hb3 => ?_)
  ·have hb3' := hb3; try simp at hb3'
   refine i4 (c5 rfl (c8 (l4 (B7 (u5 (B7 ?_)))))); exact ret1 () rfl (congrArg (fun b => some (int b)) (by rw [K9 cs hs hi, if_neg h1, if_pos (List.mem_map.2 ⟨_, bz2 hk2 (Nat.le_of_lt hi), hb3⟩)])) rfl tK nK tK
  have hb3' := hb3; try simp at hb3'
  refine i8 (w6 (i1 (c9 (b6 rfl ?_)))); refine t5 _ rfl rfl rfl rfl q6 ?_; refine c5 rfl (b5 ?_); exact again _ (k + 1) ⟨by omega, zJ (·.1) hkl ht hb3⟩ (y8 (by omega)) mC (List.Sublist.refl _) mC
 have hb2' := hb2; try simp at hb2'
 have hki : k = i := by omega
 rw [hki] at ht; refine t7 (C7 (t8 (i1 (d6 ?_)))); refine I0 ⟨fun _ : Unit => True, fun _ => [(1, int i), (2, .pointer (d9 gB)), (5, .pointer (d9 gA)), (45, .bool (decide (0 < i ∧ (hs.getD i default).1 < (hs.getD (i - 1) default).1)))], fun _ => [(gB, .cells #[.slice A cs.length ca, .slice B hs.length cb] p8 (0, 0))], fun _ => [Row (d9 gA) (rows [(hs.getD i default)]), Hd.row (hs.getD i default), Row B (rows hs), RowsF B hs Hd.row]⟩ ?_ ?_
 ·skip
  refine C0 12 mixed (by decide) (by decide) rfl rfl (r7 rfl (k8 (fun w1 => Q0 rfl rfl rfl (q_z rfl)) (r7 rfl ?_))); refine L3 (t := 34) (want := true) rfl ?_ ?_
  ·intro hg1; have hg1' := hg1; try simp at hg1'
   have g3 : (0 : Int) < i := of_decide_eq_true (eq_of_beq hg1); have hi1 : i - 1 < hs.length := by omega
   apply k7 _ rfl rfl rfl
   ·intro w1; refine k5 hg1 ?_
    first | refine a6 ⟨_, 0, none⟩ rfl rfl l9 rfl ?_ | refine a6 _ rfl rfl l9 rfl ?_
    refine b5 ?_; exact i5 rfl
   apply k7 _ rfl rfl rfl
   ·intro w1; refine k5 hg1 ?_
    first | refine a7 rfl a9 rfl (d8 mB rfl) ?_ | refine a7 rfl a9 rfl (i2 mB rfl) ?_ | refine a7 rfl a9 rfl (b7 mB (b4 (by omega) rfl)) ?_ | refine a7 rfl a9 rfl (b8 mB (rows_get (by omega) rfl)) ?_ | refine a7 rfl a9 rfl (d7 mB rfl) ?_
    refine b5 ?_; exact i5 rfl
   apply k7 _ rfl rfl rfl
   ·intro w1; refine k5 hg1 ?_
    first | refine a6 ⟨_, 1, none⟩ rfl rfl i3 rfl ?_ | refine a6 _ rfl rfl i3 rfl ?_
    refine b5 ?_; exact i5 rfl
   apply k7 _ rfl rfl rfl
   ·intro w1; refine k5 hg1 ?_
    first | refine a7 rfl b2 rfl (d8 mB rfl) ?_ | refine a7 rfl b2 rfl (i2 mB rfl) ?_ | refine a7 rfl b2 rfl (b7 mB (b4 (by omega) rfl)) ?_ | refine a7 rfl b2 rfl (b8 mB (rows_get (by omega) rfl)) ?_ | refine a7 rfl b2 rfl (d7 mB rfl) ?_
    refine b5 ?_; exact i5 rfl
   apply k7 _ rfl rfl rfl
   ·intro w1; refine k5 hg1 (b6 rfl (b5 ?_)); exact i5 rfl
   apply k7 _ rfl rfl rfl
   ·intro w1; refine k5 hg1 (P9 ((i - 1 : Nat) : Int) rfl rfl rfl (by omega) q6 (b5 ?_)); exact i5 rfl
   apply k7 _ rfl rfl rfl
   ·intro w1; refine k5 hg1 (m7 (α := Hd) hs (i - 1) rfl n4 l7 rfl rfl rfl mB rfl hi1 (by decide) (b5 ?_)); exact i5 rfl
   apply k7 _ rfl rfl rfl
   ·intro w1; refine k5 hg1 ?_
    first | refine a6 ⟨_, 0, none⟩ rfl rfl l9 rfl ?_ | refine a6 _ rfl rfl l9 rfl ?_
    refine b5 ?_; exact i5 rfl
   apply k7 _ rfl rfl rfl
   ·intro w1; refine k5 hg1 (a7 (v := str (hs.getD (i - 1) default).1) rfl a9 rfl (b8 mB (rows_get hi1 rfl)) (b5 ?_)); exact i5 rfl
   refine v7 ⟨rfl, ?_⟩; refine k5 hg1 (nq2 rfl rfl rfl ?_); refine p_t rfl rfl (bt1 hg1) rfl (b5 ?_); exact D5 _ () tK ⟨rfl, rfl, rfl, congrArg (fun b => some (Value.bool b)) (by rw [cz2]; exact decide_eq_decide.2 ⟨fun e => ⟨by omega, e⟩, fun e => e.2⟩), tK⟩ (List.Sublist.refl _) mC
  intro hg1; have hg1' := hg1; try simp at hg1'
  have g3 : ¬ (0 : Int) < i := of_decide_eq_false (bf2 hg1); refine k8 (fun w1 => l8 hg1 (q_z rfl)) (k8 (fun w1 => l8 hg1 (q_z rfl)) (k8 (fun w1 => l8 hg1 (q_z rfl)) (k8 (fun w1 => l8 hg1 (q_z rfl)) (k8 (fun w1 => l8 hg1 (q_z rfl)) (k8 (fun w1 => l8 hg1 (q_z rfl)) (k8 (fun w1 => l8 hg1 (q_z rfl)) (k8 (fun w1 => l8 hg1 (q_z rfl)) (k8 (fun w1 => l8 hg1 (q_z rfl)) ?_)))))))); refine v7 ⟨rfl, ?_⟩; refine l8 hg1 (p_f rfl rfl (bf2 hg1) rfl (b5 ?_)); exact D5 _ () tK ⟨rfl, rfl, rfl, congrArg (fun b => some (Value.bool b)) (by exact (decide_eq_false (by omega)).symm), tK⟩ (List.Sublist.refl _) mC
 refine fun _ _ => ?_
 first | refine k9 rfl (fun hb4 => ?_) (fun hb4 => ?_) | refine j0 rfl (fun hb4 => ?_) (fun hb4 => ?_)
 ·have hb4' := hb4; try simp at hb4'
  refine i4 (c5 rfl (c8 (E9 ?_))); exact ret1 () rfl (congrArg (fun b => some (int b)) (by rw [K9 cs hs hi, if_neg h1, if_neg ht, if_pos hb4])) rfl tK nK tK
 have hb4' := hb4; try simp at hb4'
 refine i8 (i1 (d6 (i4 ?_)))
 first | refine a6 ⟨_, 1, none⟩ rfl rfl p7 rfl ?_ | refine a6 _ rfl rfl p7 rfl ?_
 first | refine a7 rfl a8 rfl (i2 mB rfl) ?_ | refine a7 rfl a8 rfl (d8 mB rfl) ?_ | refine a7 rfl a8 rfl (b7 mB (b4 (by omega) rfl)) ?_ | refine a7 rfl a8 rfl (b8 mB (rows_get (by omega) rfl)) ?_ | refine a7 rfl a8 rfl (d7 mB rfl) ?_
 refine B5 rfl rfl rfl (b6 rfl ?_); refine v6 rfl rfl ?_ ?_
 ·intro hg2; have hg2' := hg2; try simp at hg2'
  have g11_4 : ¬ (hs.getD i default).2.1 < -1 := of_decide_eq_false (eq_of_beq hg2); refine k5 hg2 ?_
  first | refine a6 ⟨_, 1, none⟩ rfl rfl p7 rfl ?_ | refine a6 _ rfl rfl p7 rfl ?_
  refine k5 hg2 ?_
  first | refine a7 rfl a8 rfl (i2 mB rfl) ?_ | refine a7 rfl a8 rfl (d8 mB rfl) ?_ | refine a7 rfl a8 rfl (b7 mB (b4 (by omega) rfl)) ?_ | refine a7 rfl a8 rfl (b8 mB (rows_get (by omega) rfl)) ?_ | refine a7 rfl a8 rfl (d7 mB rfl) ?_
  refine k5 hg2 ?_
  first | refine a6 ⟨_, 0, none⟩ rfl rfl i9 rfl ?_ | refine a6 _ rfl rfl i9 rfl ?_
  refine k5 hg2 ?_
  first | refine a7 rfl b3 rfl (i2 mB rfl) ?_ | refine a7 rfl b3 rfl (d8 mB rfl) ?_ | refine a7 rfl b3 rfl (b7 mB (b4 (by omega) rfl)) ?_ | refine a7 rfl b3 rfl (b8 mB (rows_get (by omega) rfl)) ?_ | refine a7 rfl b3 rfl (d7 mB rfl) ?_
  refine k5 hg2 (k6 rfl n6 rfl ?_); refine k5 hg2 (Z4 rfl rfl rfl ?_); refine p_f rfl rfl (bf1 hg2) rfl (c8 ?_)
  first | refine k9 rfl (fun hb5 => ?_) (fun hb5 => ?_) | refine j0 rfl (fun hb5 => ?_) (fun hb5 => ?_)
  ·have hb5' := hb5; try simp at hb5'
   refine i4 (c5 rfl (c8 (E9 ?_))); exact ret1 () rfl (congrArg (fun b => some (int b)) (by rw [K9 cs hs hi, if_neg h1, if_neg ht, if_neg hb4, if_pos (by omega)])) rfl tK nK tK
  have hb5' := hb5; try simp at hb5'
  refine i8 (i1 (d6 (i4 ?_)))
  first | refine a6 ⟨_, 2, none⟩ rfl rfl p6 rfl ?_ | refine a6 _ rfl rfl p6 rfl ?_
  first | refine a7 rfl a8 rfl (i2 mB rfl) ?_ | refine a7 rfl a8 rfl (d8 mB rfl) ?_ | refine a7 rfl a8 rfl (b7 mB (b4 (by omega) rfl)) ?_ | refine a7 rfl a8 rfl (b8 mB (rows_get (by omega) rfl)) ?_ | refine a7 rfl a8 rfl (d7 mB rfl) ?_
  refine B5 rfl rfl rfl (b6 rfl ?_); refine v6 rfl rfl ?_ ?_
  ·intro hg3; have hg3' := hg3; try simp at hg3'
   have g13_4 : ¬ (hs.getD i default).2.2.1 < -1 := of_decide_eq_false (eq_of_beq hg3); refine k5 hg3 ?_
   first | refine a6 ⟨_, 2, none⟩ rfl rfl p6 rfl ?_ | refine a6 _ rfl rfl p6 rfl ?_
   refine k5 hg3 ?_
   first | refine a7 rfl a8 rfl (i2 mB rfl) ?_ | refine a7 rfl a8 rfl (d8 mB rfl) ?_ | refine a7 rfl a8 rfl (b7 mB (b4 (by omega) rfl)) ?_ | refine a7 rfl a8 rfl (b8 mB (rows_get (by omega) rfl)) ?_ | refine a7 rfl a8 rfl (d7 mB rfl) ?_
   refine k5 hg3 ?_
   first | refine a6 ⟨_, 1, none⟩ rfl rfl i3 rfl ?_ | refine a6 _ rfl rfl i3 rfl ?_
   refine k5 hg3 ?_
   first | refine a7 rfl b2 rfl (i2 mB rfl) ?_ | refine a7 rfl b2 rfl (d8 mB rfl) ?_ | refine a7 rfl b2 rfl (b7 mB (b4 (by omega) rfl)) ?_ | refine a7 rfl b2 rfl (b8 mB (rows_get (by omega) rfl)) ?_ | refine a7 rfl b2 rfl (d7 mB rfl) ?_
   refine k5 hg3 (k6 rfl n4 rfl ?_); refine k5 hg3 (Z4 rfl rfl rfl ?_); refine p_f rfl rfl (bf1 hg3) rfl (c8 ?_)
   first | refine k9 rfl (fun hb6 => ?_) (fun hb6 => ?_) | refine j0 rfl (fun hb6 => ?_) (fun hb6 => ?_)
   ·have hb6' := hb6; try simp at hb6'
    refine i4 (c5 rfl (c8 (E9 ?_))); exact ret1 () rfl (congrArg (fun b => some (int b)) (by rw [K9 cs hs hi, if_neg h1, if_neg ht, if_neg hb4, if_pos (by omega)])) rfl tK nK tK
   have hb6' := hb6; try simp at hb6'
   refine i8 (i1 (d6 (i4 ?_)))
   first | refine a6 ⟨_, 2, none⟩ rfl rfl p6 rfl ?_ | refine a6 _ rfl rfl p6 rfl ?_
   first | refine a7 rfl a8 rfl (i2 mB rfl) ?_ | refine a7 rfl a8 rfl (d8 mB rfl) ?_ | refine a7 rfl a8 rfl (b7 mB (b4 (by omega) rfl)) ?_ | refine a7 rfl a8 rfl (b8 mB (rows_get (by omega) rfl)) ?_ | refine a7 rfl a8 rfl (d7 mB rfl) ?_
   refine b6 rfl (J0 rfl rfl rfl (c8 ?_))
   first | refine k9 rfl (fun hb7 => ?_) (fun hb7 => ?_) | refine j0 rfl (fun hb7 => ?_) (fun hb7 => ?_)
   ·have hb7' := hb7; try simp at hb7'
    refine i4 (c5 rfl (c8 (E9 ?_))); exact ret1 () rfl (congrArg (fun b => some (int b)) (by rw [K9 cs hs hi, if_neg h1, if_neg ht, if_neg hb4, if_neg (by omega), if_pos (by omega)])) rfl tK nK tK
   have hb7' := hb7; try simp at hb7'
   have hH : headErr (trOf cs hs) i = if ¬ firstE (alsoErr hs.length i (hs.getD i default).2.2.2.l) (hs.getD i default).2.2.2.l.length = 0 then firstE (alsoErr hs.length i (hs.getD i default).2.2.2.l) (hs.getD i default).2.2.2.l.length else if kindBad (hs.getD i default).p = true then 8 else 0 := by rw [K9 cs hs hi, if_neg h1, if_neg ht, if_neg hb4, if_neg (by omega), if_neg (by omega)]
   have hkr := pj1 (p := (hs.getD i default).p) (show -1 ≤ (hs.getD i default).2.2.1 by omega) (show -1 ≤ (hs.getD i default).2.1 by omega); clear ht; refine i8 (i1 (d6 (i4 (c5 rfl (c8 (j5 ?_)))))); refine u6 (β := Nat) ⟨fun k => k ≤ (hs.getD i default).2.2.2.l.length ∧ firstE (alsoErr hs.length i (hs.getD i default).2.2.2.l) k = 0, fun k => [(1, int i), (2, .pointer (d9 gB)), (5, .pointer (d9 gA)), (7, int k)], fun _ => [(gB, .cells #[.slice A cs.length ca, .slice B hs.length cb] p8 (0, 0))], fun _ => [Row (d9 gA) (rows [(hs.getD i default)]), Hd.row (hs.getD i default), Row B (rows hs), RowsF B hs Hd.row]⟩ (fun k => (hs.getD i default).2.2.2.l.length - k) 0 ⟨Nat.zero_le _, rfl⟩ mC (List.Sublist.refl _) mC fun k hk => ?_; obtain ⟨hk, ht⟩ := hk; refine d6 (i4 (b6 rfl ?_))
   first | refine a6 ⟨_, 3, none⟩ rfl rfl l5 rfl ?_ | refine a6 _ rfl rfl l5 rfl ?_
   refine a7 (v := .slice (hs.getD i default).2.2.2.a (hs.getD i default).2.2.2.l.length (hs.getD i default).2.2.2.c) rfl k4 rfl (d7 mB rfl) (k6 rfl A8 rfl ?_); refine B5 rfl rfl rfl (c8 ?_)
   first | refine k9 rfl (fun hb8 => ?_) (fun hb8 => ?_) | refine j0 rfl (fun hb8 => ?_) (fun hb8 => ?_)
   ·have hb8' := hb8; try simp at hb8'
    have hk2 : k < (hs.getD i default).2.2.2.l.length := by omega
    refine i8 (i1 (d6 (j5 (Y7 ?_)))); refine C0 15 mixed (by decide) (by decide) rfl rfl ?_
    apply k7 _ rfl rfl rfl
    ·intro w1
     first | refine a6 ⟨_, 3, none⟩ rfl rfl l5 rfl ?_ | refine a6 _ rfl rfl l5 rfl ?_
     refine b5 ?_; exact i5 rfl
    refine k8 (fun w1 => a7 (v := .slice (hs.getD i default).2.2.2.a (hs.getD i default).2.2.2.l.length (hs.getD i default).2.2.2.c) rfl k4 rfl (d7 mB rfl) (q_z rfl)) (r7 rfl (k8 (fun w1 => m7 (α := Int) (hs.getD i default).2.2.2.l (k) rfl A8 E1 rfl rfl rfl mB rfl hk2 (by decide) (q_z rfl)) (k8 (fun w1 => a7 (v := int ((hs.getD i default).2.2.2.l.getD (k) default)) rfl a8 rfl (b7 mB (b4 hk2 rfl)) (q_z rfl)) (k8 (fun w1 => B5 rfl rfl rfl (q_z rfl)) (r7 rfl ?_))))); refine L3 (t := 85) (want := false) rfl ?_ ?_
    ·intro hg4; have hg4' := hg4; try simp at hg4'
     have g20_7 : ¬ (hs.getD i default).2.2.2.l.getD k default < 0 := of_decide_eq_false (eq_of_beq hg4)
     apply k7 _ rfl rfl rfl
     ·intro w1; refine k5 hg4 ?_
      first | refine a6 ⟨_, 3, none⟩ rfl rfl l5 rfl ?_ | refine a6 _ rfl rfl l5 rfl ?_
      refine b5 ?_; exact i5 rfl
     apply k7 _ rfl rfl rfl
     ·intro w1; refine k5 hg4 (a7 (v := .slice (hs.getD i default).2.2.2.a (hs.getD i default).2.2.2.l.length (hs.getD i default).2.2.2.c) rfl k4 rfl (d7 mB rfl) (b5 ?_)); exact i5 rfl
     apply k7 _ rfl rfl rfl
     ·intro w1; refine k5 hg4 (b6 rfl (b5 ?_)); exact i5 rfl
     apply k7 _ rfl rfl rfl
     ·intro w1; refine k5 hg4 (m7 (α := Int) (hs.getD i default).2.2.2.l (k) rfl A8 E1 rfl rfl rfl mB rfl hk2 (by decide) (b5 ?_)); exact i5 rfl
     apply k7 _ rfl rfl rfl
     ·intro w1; refine k5 hg4 (a7 (v := int ((hs.getD i default).2.2.2.l.getD (k) default)) rfl a8 rfl (b7 mB (b4 hk2 rfl)) (b5 ?_)); exact i5 rfl
     apply k7 _ rfl rfl rfl
     ·intro w1; refine k5 hg4 ?_
      first | refine a6 ⟨_, 1, none⟩ rfl rfl i3 rfl ?_ | refine a6 _ rfl rfl i3 rfl ?_
      refine b5 ?_; exact i5 rfl
     apply k7 _ rfl rfl rfl
     ·intro w1; refine k5 hg4 ?_
      first | refine a7 rfl b2 rfl (d8 mB rfl) ?_ | refine a7 rfl b2 rfl (i2 mB rfl) ?_ | refine a7 rfl b2 rfl (b7 mB (b4 (by omega) rfl)) ?_ | refine a7 rfl b2 rfl (b8 mB (rows_get (by omega) rfl)) ?_ | refine a7 rfl b2 rfl (d7 mB rfl) ?_
      refine b5 ?_; exact i5 rfl
     apply k7 _ rfl rfl rfl
     ·intro w1; refine k5 hg4 (k6 rfl n4 rfl (b5 ?_)); exact i5 rfl
     refine v7 ⟨rfl, ?_⟩; refine k5 hg4 (Z4 rfl rfl rfl ?_); refine p_f rfl rfl (bf1 hg4) rfl (c8 ?_)
     first | refine k9 rfl (fun hb9 => ?_) (fun hb9 => ?_) | refine j0 rfl (fun hb9 => ?_) (fun hb9 => ?_)
     ·have hb9' := hb9; try simp at hb9'
      refine i4 (c5 rfl (c8 (E9 (B7 (u5 (B7 ?_)))))); exact ret1 () rfl (congrArg (fun b => some (int b)) (by have he : (alsoErr hs.length i (hs.getD i default).2.2.2.l) k = 3 := (by unfold alsoErr; rw [if_pos (by omega)]); rw [hH, M9 ht (by rw [he]; omega) _ hk2, if_pos (by rw [he]; omega), he])) rfl tK nK tK
     have hb9' := hb9; try simp at hb9'
     refine i8 (i1 (d6 (i4 ?_)))
     first | refine a6 ⟨_, 3, none⟩ rfl rfl l5 rfl ?_ | refine a6 _ rfl rfl l5 rfl ?_
     refine a7 (v := .slice (hs.getD i default).2.2.2.a (hs.getD i default).2.2.2.l.length (hs.getD i default).2.2.2.c) rfl k4 rfl (d7 mB rfl) (b6 rfl (m7 (α := Int) (hs.getD i default).2.2.2.l (k) rfl A8 E1 rfl rfl rfl mB rfl hk2 (by decide) (a7 (v := int ((hs.getD i default).2.2.2.l.getD (k) default)) rfl a8 rfl (b7 mB (b4 hk2 rfl)) ?_))); refine b6 rfl (J0 rfl rfl rfl (c8 ?_))
     first | refine k9 rfl (fun hb10 => ?_) (fun hb10 => ?_) | refine j0 rfl (fun hb10 => ?_) (fun hb10 => ?_)
     ·have hb10' := hb10; try simp at hb10'
      refine i4 (c5 rfl (c8 (E9 (B7 (u5 (B7 ?_)))))); exact ret1 () rfl (congrArg (fun b => some (int b)) (by have he : (alsoErr hs.length i (hs.getD i default).2.2.2.l) k = 9 := (by unfold alsoErr; rw [if_neg (by omega), if_pos hb10]); rw [hH, M9 ht (by rw [he]; omega) _ hk2, if_pos (by rw [he]; omega), he])) rfl tK nK tK
     have hb10' := hb10; try simp at hb10'
     refine i8 (i1 ?_); refine I0 ⟨fun _ : Unit => True, fun _ => [(1, int i), (2, .pointer (d9 gB)), (5, .pointer (d9 gA)), (7, int k), (118, .bool (decide (0 < k ∧ (hs.getD i default).2.2.2.l.getD k default ≤ (hs.getD i default).2.2.2.l.getD (k - 1) default)))], fun _ => [(gB, .cells #[.slice A cs.length ca, .slice B hs.length cb] p8 (0, 0))], fun _ => [Row (d9 gA) (rows [(hs.getD i default)]), Hd.row (hs.getD i default), Row B (rows hs), RowsF B hs Hd.row]⟩ ?_ ?_
     ·skip
      refine C0 14 mixed (by decide) (by decide) rfl rfl (r7 rfl (k8 (fun w1 => Q0 rfl rfl rfl (q_z rfl)) (r7 rfl ?_))); refine L3 (t := 105) (want := true) rfl ?_ ?_
      ·intro hg5; have hg5' := hg5; try simp at hg5'
       have g3 : (0 : Int) < k := of_decide_eq_true (eq_of_beq hg5)
       apply k7 _ rfl rfl rfl
       ·intro w1; refine k5 hg5 ?_
        first | refine a6 ⟨_, 3, none⟩ rfl rfl l5 rfl ?_ | refine a6 _ rfl rfl l5 rfl ?_
        refine b5 ?_; exact i5 rfl
       apply k7 _ rfl rfl rfl
       ·intro w1; refine k5 hg5 (a7 (v := .slice (hs.getD i default).2.2.2.a (hs.getD i default).2.2.2.l.length (hs.getD i default).2.2.2.c) rfl k4 rfl (d7 mB rfl) (b5 ?_)); exact i5 rfl
       apply k7 _ rfl rfl rfl
       ·intro w1; refine k5 hg5 (b6 rfl (b5 ?_)); exact i5 rfl
       apply k7 _ rfl rfl rfl
       ·intro w1; refine k5 hg5 (m7 (α := Int) (hs.getD i default).2.2.2.l (k) rfl A8 E1 rfl rfl rfl mB rfl hk2 (by decide) (b5 ?_)); exact i5 rfl
       apply k7 _ rfl rfl rfl
       ·intro w1; refine k5 hg5 (a7 (v := int ((hs.getD i default).2.2.2.l.getD (k) default)) rfl a8 rfl (b7 mB (b4 hk2 rfl)) (b5 ?_)); exact i5 rfl
       apply k7 _ rfl rfl rfl
       ·intro w1; refine k5 hg5 ?_
        first | refine a6 ⟨_, 3, none⟩ rfl rfl l5 rfl ?_ | refine a6 _ rfl rfl l5 rfl ?_
        refine b5 ?_; exact i5 rfl
       apply k7 _ rfl rfl rfl
       ·intro w1; refine k5 hg5 (a7 (v := .slice (hs.getD i default).2.2.2.a (hs.getD i default).2.2.2.l.length (hs.getD i default).2.2.2.c) rfl k4 rfl (d7 mB rfl) (b5 ?_)); exact i5 rfl
       apply k7 _ rfl rfl rfl
       ·intro w1; refine k5 hg5 (b6 rfl (b5 ?_)); exact i5 rfl
       apply k7 _ rfl rfl rfl
       ·intro w1; refine k5 hg5 (P9 ((k - 1 : Nat) : Int) rfl rfl rfl (by omega) q6 (b5 ?_)); exact i5 rfl
       apply k7 _ rfl rfl rfl
       ·intro w1; refine k5 hg5 (m7 (α := Int) (hs.getD i default).2.2.2.l (k - 1) rfl A8 E1 rfl rfl rfl mB rfl (by omega) (by decide) (b5 ?_)); exact i5 rfl
       apply k7 _ rfl rfl rfl
       ·intro w1; refine k5 hg5 (a7 (v := int ((hs.getD i default).2.2.2.l.getD (k - 1) default)) rfl a8 rfl (b7 mB (b4 (by omega) rfl)) (b5 ?_)); exact i5 rfl
       refine v7 ⟨rfl, ?_⟩; refine k5 hg5 (cz9 rfl rfl rfl ?_); refine p_t rfl rfl (bt1 hg5) rfl (b5 ?_); exact D5 _ () tK ⟨rfl, rfl, rfl, rfl, congrArg (fun b => some (Value.bool b)) (by exact decide_eq_decide.2 ⟨fun e => ⟨by omega, e⟩, fun e => e.2⟩), tK⟩ (List.Sublist.refl _) mC
      intro hg5; have hg5' := hg5; try simp at hg5'
      have g3 : ¬ (0 : Int) < k := of_decide_eq_false (bf2 hg5); refine k8 (fun w1 => l8 hg5 (q_z rfl)) (k8 (fun w1 => l8 hg5 (q_z rfl)) (k8 (fun w1 => l8 hg5 (q_z rfl)) (k8 (fun w1 => l8 hg5 (q_z rfl)) (k8 (fun w1 => l8 hg5 (q_z rfl)) (k8 (fun w1 => l8 hg5 (q_z rfl)) (k8 (fun w1 => l8 hg5 (q_z rfl)) (k8 (fun w1 => l8 hg5 (q_z rfl)) (k8 (fun w1 => l8 hg5 (q_z rfl)) (k8 (fun w1 => l8 hg5 (q_z rfl)) (k8 (fun w1 => l8 hg5 (q_z rfl)) ?_)))))))))); refine v7 ⟨rfl, ?_⟩; refine l8 hg5 (p_f rfl rfl (bf2 hg5) rfl (b5 ?_)); exact D5 _ () tK ⟨rfl, rfl, rfl, rfl, congrArg (fun b => some (Value.bool b)) (by exact (decide_eq_false (by omega)).symm), tK⟩ (List.Sublist.refl _) mC
     refine fun _ _ => ?_
     first | refine k9 rfl (fun hb11 => ?_) (fun hb11 => ?_) | refine j0 rfl (fun hb11 => ?_) (fun hb11 => ?_)
     ·have hb11' := hb11; try simp at hb11'
      refine i4 (c5 rfl (c8 (l4 (B7 (u5 (B7 ?_)))))); exact ret1 () rfl (congrArg (fun b => some (int b)) (by have he : (alsoErr hs.length i (hs.getD i default).2.2.2.l) k = 5 := (by unfold alsoErr; rw [if_neg (by omega), if_neg hb10, if_pos hb11]); rw [hH, M9 ht (by rw [he]; omega) _ hk2, if_pos (by rw [he]; omega), he])) rfl tK nK tK
     have hb11' := hb11; try simp at hb11'
     refine i8 (w6 (i1 (c9 (b6 rfl ?_)))); refine t5 _ rfl rfl rfl rfl q6 ?_; refine c5 rfl (b5 ?_); exact again _ (k + 1) ⟨by omega, by rw [dG ht]; unfold alsoErr; rw [if_neg (by omega), if_neg hb10, if_neg hb11]⟩ (y8 (by omega)) mC (List.Sublist.refl _) mC
    intro hg4; have hg4' := hg4; try simp at hg4'
    have g20_7 : (hs.getD i default).2.2.2.l.getD k default < 0 := Classical.byContradiction fun e => by rw [decide_eq_false e] at hg4; cases hg4
    refine k8 (fun w1 => l8 hg4 (q_z rfl)) (k8 (fun w1 => l8 hg4 (q_z rfl)) (k8 (fun w1 => l8 hg4 (q_z rfl)) (k8 (fun w1 => l8 hg4 (q_z rfl)) (k8 (fun w1 => l8 hg4 (q_z rfl)) (k8 (fun w1 => l8 hg4 (q_z rfl)) (k8 (fun w1 => l8 hg4 (q_z rfl)) (k8 (fun w1 => l8 hg4 (q_z rfl)) ?_))))))); refine v7 ⟨rfl, ?_⟩; refine l8 hg4 (p_t rfl rfl (bt2 hg4) rfl ?_); refine c8 (c_t rfl rfl (i4 (c5 rfl (c8 (E9 (B7 ?_)))))); refine u5 (B7 ?_); exact ret1 () rfl (congrArg (fun b => some (int b)) (by have he : (alsoErr hs.length i (hs.getD i default).2.2.2.l) k = 3 := (by unfold alsoErr; rw [if_pos (by omega)]); rw [hH, M9 ht (by rw [he]; omega) _ hk2, if_pos (by rw [he]; omega), he])) rfl tK nK tK
   have hb8' := hb8; try simp at hb8'
   obtain rfl : k = (hs.getD i default).2.2.2.l.length := by omega
   rw [if_neg (not_not_intro ht)] at hH; refine t7 (C7 (t8 (i1 ?_))); refine I0 ⟨fun _ : Unit => True, fun _ => [(1, int i), (2, .pointer (d9 gB)), (5, .pointer (d9 gA)), (8, .bool (decide (0 ≤ (hs.getD i default).2.1) || decide ((0 : Int) < (hs.getD i default).2.2.2.l.length)))], fun _ => [(gB, .cells #[.slice A cs.length ca, .slice B hs.length cb] p8 (0, 0))], fun _ => [Row (d9 gA) (rows [(hs.getD i default)]), Hd.row (hs.getD i default), Row B (rows hs), RowsF B hs Hd.row]⟩ ?_ ?_
   ·skip
    refine c9 ?_
    first | refine a6 ⟨_, 1, none⟩ rfl rfl p7 rfl ?_ | refine a6 _ rfl rfl p7 rfl ?_
    first | refine a7 rfl a8 rfl (i2 mB rfl) ?_ | refine a7 rfl a8 rfl (d8 mB rfl) ?_ | refine a7 rfl a8 rfl (b7 mB (b4 (by omega) rfl)) ?_ | refine a7 rfl a8 rfl (b8 mB (rows_get (by omega) rfl)) ?_ | refine a7 rfl a8 rfl (d7 mB rfl) ?_
    refine Z4 rfl rfl rfl (b6 rfl ?_); refine v6 rfl rfl ?_ ?_
    ·intro hg6; have hg6' := hg6; try simp at hg6'
     have g26_4 : ¬ 0 ≤ (hs.getD i default).2.1 := of_decide_eq_false (eq_of_beq hg6); refine k5 hg6 ?_
     first | refine a6 ⟨_, 3, none⟩ rfl rfl l5 rfl ?_ | refine a6 _ rfl rfl l5 rfl ?_
     refine k5 hg6 (a7 (v := .slice (hs.getD i default).2.2.2.a (hs.getD i default).2.2.2.l.length (hs.getD i default).2.2.2.c) rfl k4 rfl (d7 mB rfl) (k5 hg6 (k6 rfl A8 rfl ?_))); refine k5 hg6 (Q0 rfl rfl rfl ?_); refine p_f rfl rfl (bf1 hg6) rfl ?_; refine c5 rfl (b5 ?_); exact D5 _ () tK ⟨rfl, rfl, rfl, congrArg (fun b => some (Value.bool b)) (by rw [decide_eq_false g26_4, Bool.false_or]), tK⟩ (List.Sublist.refl _) mC
    intro hg6; have hg6' := hg6; try simp at hg6'
    have g26_4 : 0 ≤ (hs.getD i default).2.1 := Classical.byContradiction fun e => by rw [decide_eq_false e] at hg6; cases hg6
    refine l8 hg6 (l8 hg6 (l8 hg6 (l8 hg6 ?_))); refine p_t rfl rfl (bt2 hg6) rfl ?_; refine c5 rfl (b5 ?_); exact D5 _ () tK ⟨rfl, rfl, rfl, congrArg (fun b => some (Value.bool b)) (by rw [decide_eq_true g26_4, Bool.true_or]), tK⟩ (List.Sublist.refl _) mC
   refine fun _ _ => ?_; refine d6 (i4 ?_)
   first | refine a6 ⟨_, 2, none⟩ rfl rfl p6 rfl ?_ | refine a6 _ rfl rfl p6 rfl ?_
   first | refine a7 rfl a8 rfl (i2 mB rfl) ?_ | refine a7 rfl a8 rfl (d8 mB rfl) ?_ | refine a7 rfl a8 rfl (b7 mB (b4 (by omega) rfl)) ?_ | refine a7 rfl a8 rfl (b8 mB (rows_get (by omega) rfl)) ?_ | refine a7 rfl a8 rfl (d7 mB rfl) ?_
   refine Z4 rfl rfl rfl (b6 rfl (gq6 rfl kZ rfl rfl (c8 ?_)))
   first | refine k9 rfl (fun hb12 => ?_) (fun hb12 => ?_) | refine j0 rfl (fun hb12 => ?_) (fun hb12 => ?_)
   ·have hb12' := hb12; try simp at hb12'
    refine i4 (c5 rfl (c8 (E9 ?_))); exact ret1 () rfl (congrArg (fun b => some (int b)) (by rw [hH, if_pos (by rw [hkr, beq_iff_eq]; exact hb12)])) rfl tK nK tK
   have hb12' := hb12; try simp at hb12'
   refine i8 (i1 (i4 (c5 rfl (c8 (l4 ?_))))); exact ret1 () rfl (congrArg (fun b => some (int b)) (by rw [hH, if_neg (by rw [hkr, beq_iff_eq]; exact hb12)])) rfl tK nK tK
  intro hg3; have hg3' := hg3; try simp at hg3'
  have g13_4 : (hs.getD i default).2.2.1 < -1 := Classical.byContradiction fun e => by rw [decide_eq_false e] at hg3; cases hg3
  refine l8 hg3 (l8 hg3 (l8 hg3 (l8 hg3 (l8 hg3 (l8 hg3 ?_))))); refine p_t rfl rfl (bt2 hg3) rfl ?_; refine c8 (c_t rfl rfl (i4 (c5 rfl (c8 (E9 ?_))))); exact ret1 () rfl (congrArg (fun b => some (int b)) (by rw [K9 cs hs hi, if_neg h1, if_neg ht, if_neg hb4, if_pos (by omega)])) rfl tK nK tK
 intro hg2; have hg2' := hg2; try simp at hg2'
 have g11_4 : (hs.getD i default).2.1 < -1 := Classical.byContradiction fun e => by rw [decide_eq_false e] at hg2; cases hg2
 refine l8 hg2 (l8 hg2 (l8 hg2 (l8 hg2 (l8 hg2 (l8 hg2 ?_))))); refine p_t rfl rfl (bt2 hg2) rfl ?_; refine c8 (c_t rfl rfl (i4 (c5 rfl (c8 (E9 ?_))))); exact ret1 () rfl (congrArg (fun b => some (int b)) (by rw [K9 cs hs hi, if_neg h1, if_neg ht, if_neg hb4, if_pos (by omega)])) rfl tK nK tK
theorem nD {A B : Option Addr} {ca cb : Nat} (cs : List Cl) (hs : List Hd) (hhl : hs.length ≤ 1000) (hcl : cs.length ≤ 1000) (hwc : ∀ x ∈ cs, x.1.length ≤ 1000) (hwh : ∀ h ∈ hs, h.1.length ≤ 1000) (ha : ∀ h ∈ hs, h.2.2.2.l.length ≤ 1000000) : Meets prog mD [.agg #[.slice A cs.length ca, .slice B hs.length cb]] { LI := [Row A (rows cs), RowsF B hs Hd.row], val := fun _ : Unit => int (checkT (trOf cs hs)) } := by
 refine j3 bj9 rfl v8 fun w0 => i4 (O3 rfl rfl fun gB => ?_); refine c5 rfl (c8 (Y7 ?_)); have hl := H0 cs hs; refine c9 ?_
 first | refine a6 ⟨_, 0, none⟩ rfl rfl i9 rfl ?_ | refine a6 _ rfl rfl i9 rfl ?_
 first | refine a7 rfl b3 rfl (i2 mB rfl) ?_ | refine a7 rfl b3 rfl (d8 mB rfl) ?_ | refine a7 rfl b3 rfl (b7 mB (b4 (by omega) rfl)) ?_ | refine a7 rfl b3 rfl (b8 mB (rows_get (by omega) rfl)) ?_ | refine a7 rfl b3 rfl (d7 mB rfl) ?_
 refine k6 rfl n6 rfl ?_; refine Q0 rfl rfl rfl (b6 rfl ?_); refine v6 rfl rfl ?_ ?_
 ·intro hg1; have hg1' := hg1; try simp at hg1'
  have h6 : cs.length ≤ 6 := by have g5 : ¬ (6 : Int) < cs.length := of_decide_eq_false (eq_of_beq hg1); omega
  refine k5 hg1 ?_
  first | refine a6 ⟨_, 1, none⟩ rfl rfl i3 rfl ?_ | refine a6 _ rfl rfl i3 rfl ?_
  refine k5 hg1 ?_
  first | refine a7 rfl b2 rfl (i2 mB rfl) ?_ | refine a7 rfl b2 rfl (d8 mB rfl) ?_ | refine a7 rfl b2 rfl (b7 mB (b4 (by omega) rfl)) ?_ | refine a7 rfl b2 rfl (b8 mB (rows_get (by omega) rfl)) ?_ | refine a7 rfl b2 rfl (d7 mB rfl) ?_
  refine k5 hg1 (k6 rfl n4 rfl ?_); refine k5 hg1 (Q0 rfl rfl rfl ?_); refine p_f rfl rfl (bf1 hg1) rfl (c8 ?_)
  first | refine k9 rfl (fun hb1 => ?_) (fun hb1 => ?_) | refine j0 rfl (fun hb1 => ?_) (fun hb1 => ?_)
  ·have hb1' := hb1; try simp at hb1'
   refine i4 (c5 rfl (c8 (E9 ?_))); exact ret1 () rfl (congrArg (fun b => some (int b)) (by rw [checkT, if_pos (by rw [hl]; simp only; omega)])) rfl tK nK tK
  have hb1' := hb1; try simp at hb1'
  have h6h : hs.length ≤ 6 := by omega
  have hT : checkT (trOf cs hs) = if ¬ firstE (clsErr cs) cs.length = 0 then firstE (clsErr cs) cs.length else firstE (headErr (trOf cs hs)) hs.length := by rw [checkT, if_neg (by rw [hl]; simp only; omega), hl]
  refine i8 (i1 (d6 (i4 (c5 rfl (c8 (j5 ?_)))))); refine u6 (β := Nat) ⟨fun k => k ≤ cs.length ∧ firstE (clsErr cs) k = 0, fun k => [(1, .pointer (d9 gB)), (3, int k)], fun _ => [(gB, .cells #[.slice A cs.length ca, .slice B hs.length cb] p8 (0, 0))], fun _ => [Row A (rows cs), RowsF B hs Hd.row]⟩ (fun k => cs.length - k) 0 ⟨Nat.zero_le _, rfl⟩ mC (List.Sublist.refl _) mC fun k hk => ?_; obtain ⟨hk, ht⟩ := hk; refine d6 (i4 (b6 rfl ?_))
  first | refine a6 ⟨_, 0, none⟩ rfl rfl i9 rfl ?_ | refine a6 _ rfl rfl i9 rfl ?_
  first | refine a7 rfl b3 rfl (i2 mB rfl) ?_ | refine a7 rfl b3 rfl (d8 mB rfl) ?_ | refine a7 rfl b3 rfl (b7 mB (b4 (by omega) rfl)) ?_ | refine a7 rfl b3 rfl (b8 mB (rows_get (by omega) rfl)) ?_ | refine a7 rfl b3 rfl (d7 mB rfl) ?_
  refine k6 rfl n6 rfl ?_; refine B5 rfl rfl rfl (c8 ?_)
  first | refine k9 rfl (fun hb2 => ?_) (fun hb2 => ?_) | refine j0 rfl (fun hb2 => ?_) (fun hb2 => ?_)
  ·have hb2' := hb2; try simp at hb2'
   have hk2 : k < cs.length := by omega
   refine i8 (i1 (d6 (j5 (i4 ?_))))
   first | refine G3 rfl i6 c7 rfl mB (by rfl) ?_ | refine I3 rfl i6 c7 rfl mB (by rfl) ?_ | refine z8 rfl i6 c7 rfl rfl (v9 mB (B3 (by omega))) ?_
   refine b6 rfl (j4 rR rfl rfl (qW cs hs k hk2 hwc hcl) t4 mC fun _ _ => ?_); refine c5 rfl (t6 (b6 rfl (M8 rfl rfl rfl (c8 ?_))))
   first | refine k9 rfl (fun hb3 => ?_) (fun hb3 => ?_) | refine j0 rfl (fun hb3 => ?_) (fun hb3 => ?_)
   ·have hb3' := hb3; try simp at hb3'
    refine i4 (b6 rfl (c5 rfl (c8 (l4 (B7 (u5 (B7 ?_))))))); exact ret1 () rfl (congrArg (fun b => some (int b)) (by rw [hT, M9 ht hb3 _ hk2, if_pos hb3])) rfl tK nK tK
   have hb3' := hb3; try simp at hb3'
   refine i8 (w6 (i1 (c9 (b6 rfl ?_)))); refine t5 _ rfl rfl rfl rfl q6 ?_; refine c5 rfl (b5 ?_); exact again _ (k + 1) ⟨by omega, by rw [dG ht]; exact Classical.not_not.1 hb3⟩ (y8 (by omega)) mC (List.Sublist.refl _) mC
  have hb2' := hb2; try simp at hb2'
  obtain rfl : k = cs.length := by omega
  rw [if_neg (not_not_intro ht)] at hT; refine t7 (C7 (t8 (i1 (d6 (i4 (c5 rfl (c8 (j5 ?_)))))))); refine u6 (β := Nat) ⟨fun k => k ≤ hs.length ∧ firstE (headErr (trOf cs hs)) k = 0, fun k => [(1, .pointer (d9 gB)), (5, int k)], fun _ => [(gB, .cells #[.slice A cs.length ca, .slice B hs.length cb] p8 (0, 0))], fun _ => [Row A (rows cs), RowsF B hs Hd.row]⟩ (fun k => hs.length - k) 0 ⟨Nat.zero_le _, rfl⟩ mC (List.Sublist.refl _) mC fun k hk => ?_; obtain ⟨hk, ht⟩ := hk; refine d6 (i4 (b6 rfl ?_))
  first | refine a6 ⟨_, 1, none⟩ rfl rfl i3 rfl ?_ | refine a6 _ rfl rfl i3 rfl ?_
  first | refine a7 rfl b2 rfl (i2 mB rfl) ?_ | refine a7 rfl b2 rfl (d8 mB rfl) ?_ | refine a7 rfl b2 rfl (b7 mB (b4 (by omega) rfl)) ?_ | refine a7 rfl b2 rfl (b8 mB (rows_get (by omega) rfl)) ?_ | refine a7 rfl b2 rfl (d7 mB rfl) ?_
  refine k6 rfl n4 rfl ?_; refine B5 rfl rfl rfl (c8 ?_)
  first | refine k9 rfl (fun hb4 => ?_) (fun hb4 => ?_) | refine j0 rfl (fun hb4 => ?_) (fun hb4 => ?_)
  ·have hb4' := hb4; try simp at hb4'
   have hk2 : k < hs.length := by omega
   refine i8 (i1 (d6 (j5 (i4 ?_))))
   first | refine G3 rfl i6 c7 rfl mB (by rfl) ?_ | refine I3 rfl i6 c7 rfl mB (by rfl) ?_ | refine z8 rfl i6 c7 rfl rfl (v9 mB (B3 (by omega))) ?_
   refine b6 rfl (j4 tF rfl rfl (sO cs hs k hk2 hwh hhl ha) t4 mC fun _ _ => ?_); refine c5 rfl (t6 (b6 rfl (M8 rfl rfl rfl (c8 ?_))))
   first | refine k9 rfl (fun hb5 => ?_) (fun hb5 => ?_) | refine j0 rfl (fun hb5 => ?_) (fun hb5 => ?_)
   ·have hb5' := hb5; try simp at hb5'
    refine i4 (b6 rfl (c5 rfl (c8 (l4 (B7 (u5 (B7 ?_))))))); exact ret1 () rfl (congrArg (fun b => some (int b)) (by rw [hT, M9 ht hb5 _ hk2])) rfl tK nK tK
   have hb5' := hb5; try simp at hb5'
   refine i8 (w6 (i1 (c9 (b6 rfl ?_)))); refine t5 _ rfl rfl rfl rfl q6 ?_; refine c5 rfl (b5 ?_); exact again _ (k + 1) ⟨by omega, by rw [dG ht]; exact Classical.not_not.1 hb5⟩ (y8 (by omega)) mC (List.Sublist.refl _) mC
  have hb4' := hb4; try simp at hb4'
  obtain rfl : k = hs.length := by omega
  refine t7 (C7 (t8 (i1 (i4 (c5 rfl (c8 (l4 ?_))))))); exact ret1 () rfl (congrArg (fun b => some (int b)) (by rw [hT, ht])) rfl tK nK tK
 intro hg1; have hg1' := hg1; try simp at hg1'
 have h6 : ¬ cs.length ≤ 6 := by
   have g5 : (6 : Int) < cs.length := Classical.byContradiction (fun e => by rw [decide_eq_false e] at hg1; cases hg1)
   omega
 refine l8 hg1 (l8 hg1 (l8 hg1 (l8 hg1 ?_))); refine p_t rfl rfl (bt2 hg1) rfl ?_; refine c8 (c_t rfl rfl (i4 (c5 rfl (c8 (E9 ?_))))); exact ret1 () rfl (congrArg (fun b => some (int b)) (by rw [checkT, if_pos (by simp only; omega)])) rfl tK nK tK
theorem mz7 {l : List Str} {k : Nat} (h : (l.take k).all wordB = true) (hk : k < l.length) (hw : wordB (l.getD k default) = true) : (l.take (k + 1)).all wordB = true := by
  rw [B8 hk] at hw; rw [List.take_succ_eq_append_getElem hk, List.all_append, h]
  simp [hw]
theorem not_all {l : List Str} {k : Nat} (hk : k < l.length) (hw : wordB (l.getD k default) = false) : wordsB l = false := by
  unfold wordsB
  cases h : l.all wordB
  · rfl
  have := List.all_eq_true.1 h _ (w8 hk); rw [hw] at this
  cases this
theorem mY {A : Option Addr} {c : Nat} (l : List Str) (hl : l.length ≤ 1000000) (hw : ∀ w ∈ l, w.length ≤ 1000) : Meets prog lW [.slice A l.length c] { LI := [Row A (rows l)], val := fun _ : Unit => .bool (wordsB l) } := by
 refine j3 bj3 rfl v8 fun w0 => ?_; refine i4 (c5 rfl (c8 (d6 (i4 (c5 rfl (c8 (j5 ?_))))))); refine u6 (β := Nat) ⟨fun k => k ≤ l.length ∧ (l.take k).all wordB = true, fun k => [(0, .slice A l.length c), (3, int k)], fun _ => [], fun _ => [Row A (rows l)]⟩ (fun k => l.length - k) 0 ⟨Nat.zero_le _, rfl⟩ mC nK mC fun k hk => ?_; obtain ⟨hk, hA⟩ := hk; refine d6 (i4 (b6 rfl (b6 rfl ?_))); refine k6 rfl j9 rfl ?_; refine B5 rfl rfl rfl (c8 ?_); refine k9 rfl (fun hb1 => ?_) (fun hb1 => ?_)
 ·have hb1' := hb1; try simp at hb1'
  have hlt : k < l.length := by omega
  refine i8 (i1 (d6 (j5 (i4 (b6 rfl (b6 rfl ?_)))))); refine m7 (α := Str) l k rfl j9 j6 rfl rfl rfl mB rfl hlt (by decide) (a7 (v := str (l.getD k default)) rfl a9 rfl (b7 mB (b4 hlt rfl)) (j4 I7 rfl rfl (I6 (l.getD k default) (hw _ (w8 hlt))) t4 tK fun _ _ => ?_)); refine H6 rfl rfl (c8 ?_); refine j0 rfl (fun hb2 => ?_) (fun hb2 => ?_)
  ·have hb2' := hb2; try simp at hb2'
   have hwf : wordB (l.getD k default) = false := by simpa using hb2
   have hres := not_all hlt hwf; refine i4 (c5 rfl (c8 (l4 (B7 (u5 (B7 ?_)))))); exact ret1 () rfl (congrArg (fun b => some (Value.bool b)) hres.symm) rfl tK nK tK
  have hb2' := hb2; try simp at hb2'
  have hwt : wordB (l.getD k default) = true := by simpa using hb2
  refine i8 (w6 (i1 (c9 (b6 rfl ?_)))); refine t5 _ rfl rfl rfl rfl q6 ?_; refine c5 rfl (b5 ?_); exact again _ (k + 1) ⟨hlt, mz7 hA hlt hwt⟩ (y8 (by omega)) mC nK mC
 have hb1' := hb1; try simp at hb1'
 have hkl : k = l.length := by omega
 subst hkl; rw [List.take_length] at hA; refine t7 (C7 (t8 (i1 (i4 (b6 rfl ?_))))); refine k6 rfl j9 rfl ?_; refine Q0 rfl rfl rfl (c5 rfl (c8 (l4 ?_))); exact ret1 () rfl (congrArg (fun b => some (Value.bool b)) (by unfold wordsB; rw [hA]; simp)) rfl tK nK tK
theorem mem_at' {α : Type} [Inhabited α] {l : List α} {x : α} (h : x ∈ l) : ∃ i, i < l.length ∧ l.getD i default = x := by
  obtain ⟨i, hi, e⟩ := List.getElem_of_mem h; exact ⟨i, hi, by rw [B8 hi]; exact e⟩
def hdOf (C H : List PL) (x : PL) : PH := (x.1, findP C x.2.1, findP H x.2.2.1, x.2.2.2.map (findP H))
section
variable {cs : List Cl} {hs : List Hd}
end
def hlW (y : PL) : List Str := y.1 :: ((if y.2.2.1 = [] then [] else [kSee, y.2.2.1]) ++ ((if y.2.1 = [] then [] else [kIs, y.2.1]) ++ (if y.2.2.2 = [] then [] else kAlso :: y.2.2.2)))
section
variable {cs : List Cl} {hs : List Hd}
theorem kx3 (ho : TrOK (trOf cs hs)) {i : Nat} (hi : i < hs.length) : (hs.getD i default).2.2.2.l.length ≤ 6 ∧ ∀ x ∈ (hs.getD i default).2.2.2.l, 0 ≤ x ∧ x < (hs.length : Int) := by
  have h6h := ho.h6; rw [H0] at h6h; have e : (trOf cs hs).hs.getD i default = (hs.getD i default).p := V4 hi; have ha := (ho.h i (by rw [H0]; exact hi)).a; rw [e, H0] at ha; simp only [Hd.p] at ha; generalize (hs.getD i default).2.2.2.l = l at ha; have hg := dx5 (l := l) fun k hk => ⟨(gU (ha k hk)).1, (gU (ha k hk)).2.2.2⟩; refine ⟨?_, fun x hx => ?_⟩
  · by_cases h0 : l.length = 0
    · omega
    have h1 := hg (l.length - 1) (by omega); have h2 := (gU (ha (l.length - 1) (by omega))).2.1
    omega
  obtain ⟨k, hk, rfl⟩ := List.getElem_of_mem hx; have := gU (ha k hk); rw [B8 hk] at this
  omega
theorem nz2 (ho : TrOK (trOf cs hs)) (k : Nat) : (cs.getD k default).1.length ≤ 12 := by
  by_cases h : k < cs.length
  · exact (iq2 (show wordB (cs.getD k default).1 = true from (ho.c k h).w)).2.2.2.2
  rw [List.getD_eq_getElem?_getD, List.getElem?_eq_none (by omega)]; exact Nat.zero_le 12
theorem lj0 (ho : TrOK (trOf cs hs)) (k : Nat) : (hs.getD k default).1.length ≤ 12 := by
  by_cases h : k < hs.length
  · have q := (ho.h k (by rw [H0]; exact h)).w
    rw [show (trOf cs hs).hs.getD k default = (hs.getD k default).p from V4 h] at q; exact (iq2 q).2.2.2.2
  rw [List.getD_eq_getElem?_getD, List.getElem?_eq_none (by omega)]; exact Nat.zero_le 12
theorem wr_ok (ho : TrOK (trOf cs hs)) : WrOK cs hs where
  c6 := ho.c6
  h6 := by have := ho.h6; rw [H0] at this; exact this
  cn k hk := by
    have q := ho.c k hk; have h1 : (cs.getD k default).2 < (k : Int) := q.hi; exact ⟨Nat.le_trans (nz2 ho k) (by decide), by omega⟩
  hn k hk := by
    have q := ho.h k (by rw [H0]; exact hk); have e : (trOf cs hs).hs.getD k default = (hs.getD k default).p := V4 hk; have hc := q.c; have hS := q.s; rw [e] at hc hS; rw [H0] at hS; exact ⟨Nat.le_trans (lj0 ho k) (by decide), hc.2, hS.2.1, kx3 ho hk⟩
theorem ij3 (ho : TrOK (trOf cs hs)) (z : Int) (pre : Str) : (clsT cs z pre).length ≤ pre.length + 12 := by
  unfold clsT
  split
  · rw [List.length_append]; have := nz2 ho z.toNat; omega
  exact Nat.zero_le _
theorem pj9 (ho : TrOK (trOf cs hs)) (z : Int) (pre : Str) : (heaT hs z pre).length ≤ pre.length + 12 := by
  unfold heaT
  split
  · rw [List.length_append]; have := lj0 ho z.toNat; omega
  exact Nat.zero_le _
theorem uP (ho : TrOK (trOf cs hs)) : ∀ l : List Cl, (∀ c ∈ l, c ∈ cs) → (accC cs l).length ≤ 35 * l.length
  | [], _ => Nat.le_refl 0
  | c :: l, h => by
    have h1 := uP ho l fun x hx => h x (List.mem_cons_of_mem _ hx); have h2 := ij3 ho c.2 inS; obtain ⟨k, hk, e⟩ := mem_at' (h c List.mem_cons_self); have h3 := nz2 ho k; rw [e] at h3; rw [accC]; simp only [List.length_append, List.length_cons]; have e1 : claS.length = 6 := rfl; have e2 : inS.length = 4 := rfl; have e3 : nlS.length = 1 := rfl
    omega
theorem dx7 (ho : TrOK (trOf cs hs)) : ∀ l : List Int, (accA hs l).length ≤ 13 * l.length + (if l = [] then 0 else 5)
  | [] => Nat.le_refl 0
  | x :: l => by
    have h1 := dx7 ho l; have h3 := lj0 ho x.toNat; rw [accA]; have e1 : spS.length = 1 := rfl; have e2 : alS.length = 5 := rfl; rw [if_neg (List.cons_ne_nil x l)]
    by_cases h0 : l = []
    · subst h0
      simp only [List.length_append, List.length_cons, List.length_nil, if_true, accA]
      omega
    have h0' : ¬ l.length = 0 := fun q => h0 (List.length_eq_zero_iff.1 q); rw [if_neg h0] at h1; rw [if_neg h0']; simp only [List.length_append, List.length_cons, List.length_nil]
    omega
theorem pq0 (ho : TrOK (trOf cs hs)) {k : Nat} (hk : k < hs.length) : (heaE cs hs (hs.getD k default)).length ≤ 112 := by
  have hk3 := (ho.h k (by rw [H0]; exact hk)).kinds; rw [show (trOf cs hs).hs.getD k default = (hs.getD k default).p from V4 hk] at hk3; have hn := lj0 ho k; have ha := (kx3 ho hk).1; generalize hs.getD k default = h at hk3 hn ha; simp only [Hd.p] at hk3; have h1 := ij3 ho h.2.1 isS; have h2 := pj9 ho h.2.2.1 seS; have h3 := dx7 ho h.2.2.2.l.reverse; have e1 : isS.length = 4 := rfl; have e2 : seS.length = 5 := rfl; have e3 : nlS.length = 1 := rfl; have h4 : (if h.2.2.2.l.reverse = [] then 0 else 5) ≤ 5 := by split <;> omega
  have h5 : ∀ z : Int, z = -1 → clsT cs z isS = [] ∧ heaT hs z seS = [] := fun z hz => by
    subst hz; exact ⟨rfl, rfl⟩
  rw [List.length_reverse] at h3; unfold heaE; simp only [List.length_append]
  rcases hk3 with ⟨q1, q2, q3⟩ | q | q
  · rw [q3] at h3 ⊢
    rw [(h5 _ q2).1]; simp only [List.length_nil, List.reverse_nil, accA] at h3 ⊢
    omega
  · rw [(h5 _ q.1).2]
    simp only [List.length_nil]
    omega
  rw [(h5 _ q.1).2]; simp only [List.length_nil]
  omega
theorem aj7 (ho : TrOK (trOf cs hs)) (a : Str) : ∀ l : List Hd, (∀ h ∈ l, h ∈ hs) → (accH a cs hs l).length ≤ a.length + 112 * l.length
  | [], _ => Nat.le_refl _
  | c :: l, h => by
    have h1 := aj7 ho a l fun x hx => h x (List.mem_cons_of_mem _ hx); obtain ⟨k, hk, e⟩ := mem_at' (h c List.mem_cons_self); have h3 := pq0 ho hk; rw [e] at h3; rw [accH]; simp only [List.length_append, List.length_cons]
    omega
theorem wr_len (ho : TrOK (trOf cs hs)) : (wrT cs hs).length ≤ 900 := by
  have h1 := aj7 ho (accC cs cs.reverse) hs.reverse fun h q => List.mem_reverse.1 q; have h2 := uP ho cs.reverse fun h q => List.mem_reverse.1 q; have h6 := ho.c6; have h6h := ho.h6; rw [H0] at h6h; have h6 : cs.length ≤ 6 := h6; have e1 : fiS.length = 6 := rfl; unfold wrT; rw [List.length_append]; rw [List.length_reverse] at h1 h2
  omega
end
section
variable {cs : List Cl} {hs : List Hd}
def heaF (cs : List Cl) (hs : List Hd) (h : Hd) : Str := h.1 ++ clsT cs h.2.1 isS ++ heaT hs h.2.2.1 seS ++ accA hs h.2.2.2.l.reverse ++ nlS
theorem hea_f (ho : TrOK (trOf cs hs)) {k : Nat} (hk : k < hs.length) : heaF cs hs (hs.getD k default) = heaE cs hs (hs.getD k default) := by
  have hk3 := (ho.h k (by rw [H0]; exact hk)).kinds; rw [show (trOf cs hs).hs.getD k default = (hs.getD k default).p from V4 hk] at hk3; generalize hs.getD k default = h at hk3; simp only [Hd.p] at hk3
  have h5 : ∀ z : Int, z = -1 → clsT cs z isS = [] ∧ heaT hs z seS = [] := fun z hz => by
    subst hz; exact ⟨rfl, rfl⟩
  unfold heaF heaE
  rcases hk3 with ⟨q1, q2, q3⟩ | q | q
  · rw [(h5 _ q2).1]; simp
  · rw [(h5 _ q.1).2]; simp
  rw [(h5 _ q.1).2]; simp
end
end Go.Proofs.YtdgmfagfpbdbhaaGreatDoor
end
