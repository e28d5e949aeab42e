/- Texts of this claim, one behind another. -/

import Derived.Test.YtdlbbfcfahahdaaGreatBAq
set_option linter.unusedVariables false
set_option linter.unusedSimpArgs false
section
namespace Go.Proofs.YtdlbbfcfahahdaaGreat
open Go Go.W
set_option maxRecDepth 20000
attribute [local irreducible] HL HC HQ HB Row Rows2 Blk Facts
theorem zM {α : Type} [Inhabited α] {l : List α} {k i : Nat} (hk : k < i) (hi : i ≤ l.length) : l.getD k default ∈ l.take i := by
  rw [t5 (show k < l.length by omega), List.mem_take_iff_getElem]; exact ⟨k, by omega, rfl⟩
theorem rq7 {p : PH} (h1 : -1 ≤ p.2.2.1) (h2 : -1 ≤ p.2.1) : kindBad p = (decide (0 ≤ p.2.2.1) == (decide (0 ≤ p.2.1) || decide ((0 : Int) < p.2.2.2.length))) := by
  unfold kindBad; rw [show decide (¬ p.2.2.1 = -1) = decide (0 ≤ p.2.2.1) from decide_eq_decide.2 (by omega), show decide (¬ p.2.1 = -1) = decide (0 ≤ p.2.1) from decide_eq_decide.2 (by omega), show decide (p.2.2.1 = -1) = !decide (0 ≤ p.2.2.1) by rw [← decide_not]; exact decide_eq_decide.2 (by omega), show decide (p.2.1 = -1) = !decide (0 ≤ p.2.1) by rw [← decide_not]; exact decide_eq_decide.2 (by omega), show decide (p.2.2.2.length = 0) = !decide ((0 : Int) < p.2.2.2.length) by rw [← decide_not]; exact decide_eq_decide.2 (by omega), show decide (0 < p.2.2.2.length) = decide ((0 : Int) < p.2.2.2.length) from decide_eq_decide.2 (by omega)]
  cases decide (0 ≤ p.2.2.1) <;> cases decide (0 ≤ p.2.1) <;> cases decide ((0 : Int) < p.2.2.2.length) <;> rfl
def askdE (t : Tr) (l1 l2 : List Int) : Int := if ¬ checkT t = 0 then checkT t else if l1.all (fun x => decide (0 ≤ x ∧ x ≤ (t.cs.length : Int) - 1)) then (if l2.all (fun x => decide (0 ≤ x ∧ x ≤ (t.hs.length : Int) - 1)) then 0 else 3) else 3
theorem mj5 (t : Tr) (h : Int) : askdE t [] [h] = askE t [h] := by unfold askdE askE; rfl
theorem kx6 {l : List Int} {P : Int → Bool} {k : Nat} (hk : k < l.length) (h : (l.take k).all P = true) (h1 : P (l.getD k default) = true) : (l.take (k + 1)).all P = true := by
  rw [G8 l k hk, List.all_append, h, Bool.true_and, List.all_cons, h1]; rfl
theorem jq1 {l : List Int} {P : Int → Bool} {k : Nat} (hk : k < l.length) (h1 : P (l.getD k default) = false) : ¬ l.all P = true := fun e => by
  rw [List.all_eq_true.1 e _ (n0 hk)] at h1; cases h1
def lastC (p q : List Int) : Nat → Int
  | 0 => -1
  | k + 1 => if p.getD k default ∈ q then p.getD k default else lastC p q k
theorem iH (s : Str) (hl : s.length ≤ 1000) : Meets Tryz.prog F.sE [str s] { val := fun _ : Unit => .bool (wordB s) } := by
 refine i9 F.iq2 rfl t4 fun w0 => ?_; refine i5 (b8 rfl (d6 (d7 (i5 (b8 rfl (d6 (i8 ?_))))))); refine p9 (β := Nat) ⟨fun k => k ≤ s.length ∧ (s.take k).all azB = true, fun k => [(0, str s), (3, int k)], fun _ => [], fun _ => []⟩ (fun k => s.length - k) 0 ⟨Nat.zero_le _, rfl⟩ mC nil_sb trivial fun k hk => ?_; obtain ⟨hk, ht⟩ := hk; refine d7 (i5 (a9 rfl (a9 rfl ?_))); refine X6 rfl T.R8 rfl ?_; refine u4 rfl rfl rfl (d6 ?_); refine m3 rfl (fun hb1 => ?_) (fun hb1 => ?_)
 ·have hb1' := hb1; try simp at hb1'
  have hk2 : k < s.length := by omega
  refine i6 (d8 (d7 (i8 (i5 (a9 rfl (a9 rfl ?_)))))); refine zH k rfl T.R8 rfl rfl rfl (List.getElem?_eq_getElem hk2) ?_; refine u4 rfl rfl rfl (a9 rfl ?_); refine t7 rfl rfl ?_ ?_
  ·intro hg1; have hg1' := hg1; try simp at hg1'
   have g5 : ¬ (s[k].toNat : Int) < 97 := of_decide_eq_false (eq_of_beq hg1); refine i3 rfl rfl hg1 (a9 rfl (i3 rfl rfl hg1 (a9 rfl (i3 rfl rfl hg1 ?_)))); refine zH k rfl T.R8 rfl rfl rfl (List.getElem?_eq_getElem hk2) ?_; refine i3 rfl rfl hg1 (H5 rfl rfl rfl ?_); refine p_f rfl rfl (bf1 hg1) rfl ?_; refine d6 ?_; refine m3 rfl (fun hb2 => ?_) (fun hb2 => ?_)
   ·have hb2' := hb2; try simp at hb2'
    refine i5 (b8 rfl (d6 (j5 (w8 (r6 (w8 ?_)))))); exact ret1 () rfl (congrArg (fun b => some (Value.bool b)) (by exact (pQ hk2 (.inr (by omega))).symm)) rfl trivial nil_sb trivial
   have hb2' := hb2; try simp at hb2'
   refine i6 (t6 (d8 (d9 (a9 rfl ?_)))); refine r7 _ rfl rfl rfl rfl m6 ?_; refine b8 rfl (c8 ?_); exact again _ (k + 1) ⟨by show k + 1 ≤ s.length; omega, kx7 hk2 ht ⟨by omega, by omega⟩⟩ (u2 (by omega)) mC nil_sb trivial
  intro hg1; have hg1' := hg1; try simp at hg1'
  have g5 : (s[k].toNat : Int) < 97 := Classical.byContradiction fun e => by rw [decide_eq_false e] at hg1; cases hg1
  refine k4 rfl rfl rfl rfl rfl hg1 (k4 rfl rfl rfl rfl rfl hg1 (k4 rfl rfl rfl rfl rfl hg1 (k4 rfl rfl rfl rfl rfl hg1 ?_))); refine p_t rfl rfl (bt2 hg1) rfl ?_; refine d6 (c_t rfl rfl (i5 (b8 rfl (d6 (j5 (w8 (r6 ?_))))))); refine w8 ?_; exact ret1 () rfl (congrArg (fun b => some (Value.bool b)) (by exact (pQ hk2 (.inl (by omega))).symm)) rfl trivial nil_sb trivial
 have hb1' := hb1; try simp at hb1'
 obtain rfl : k = s.length := by omega
 rw [List.take_length] at ht; refine p8 (v8 (p7 (d8 (i5 (a9 rfl ?_))))); refine X6 rfl T.R8 rfl ?_; refine R2 rfl rfl rfl (a9 rfl ?_); refine t7 rfl rfl ?_ ?_
 ·intro hg2; have hg2' := hg2; try simp at hg2'
  have g4 : (1 : Int) ≤ s.length := of_decide_eq_true (eq_of_beq hg2); refine i3 rfl rfl hg2 (a9 rfl (i3 rfl rfl hg2 ?_)); refine X6 rfl T.R8 rfl ?_; refine i3 rfl rfl hg2 (nK rfl rfl rfl ?_); refine p_t rfl rfl (bt1 hg2) rfl (a9 rfl ?_); refine t7 rfl rfl ?_ ?_
  ·intro hg3; have hg3' := hg3; try simp at hg3'
   have g9 : (s.length : Int) ≤ 12 := of_decide_eq_true (eq_of_beq hg3); refine i3 rfl rfl hg3 (a9 rfl (i3 rfl rfl hg3 (lj7 rfl rfl rfl ?_))); refine p_t rfl rfl (bt1 hg3) rfl (a9 rfl ?_); refine t7 rfl rfl ?_ ?_
   ·intro hg4; have hg4' := hg4; try simp at hg4'
    have g13 : ¬ s = wClass := of_decide_eq_true (eq_of_beq hg4); refine i3 rfl rfl hg4 (a9 rfl (i3 rfl rfl hg4 (lj7 rfl rfl rfl ?_))); refine p_t rfl rfl (bt1 hg4) rfl ?_; refine b8 rfl (d6 (j5 ?_)); exact ret1 () rfl (congrArg (fun b => some (Value.bool b)) (by unfold wordB; rw [decide_eq_true (show 0 < s.length by omega), decide_eq_true (show s.length ≤ 12 by omega), decide_eq_true g13, ht, Bool.true_and, Bool.true_and, Bool.true_and, Bool.and_true]; rfl)) rfl trivial nil_sb trivial
   intro hg4; have hg4' := hg4; try simp at hg4'
   have g13 : s = wClass := Classical.not_not.1 (of_decide_eq_false (bf2 hg4)); refine k4 rfl rfl rfl rfl rfl hg4 (k4 rfl rfl rfl rfl rfl hg4 ?_); refine p_f rfl rfl (bf2 hg4) rfl ?_; refine b8 rfl (d6 (j5 ?_)); exact ret1 () rfl (congrArg (fun b => some (Value.bool b)) (by rw [g13]; decide)) rfl trivial nil_sb trivial
  intro hg3; have hg3' := hg3; try simp at hg3'
  have g9 : ¬ (s.length : Int) ≤ 12 := of_decide_eq_false (bf2 hg3); refine k4 rfl rfl rfl rfl rfl hg3 (k4 rfl rfl rfl rfl rfl hg3 ?_); refine p_f rfl rfl (bf2 hg3) rfl ?_; refine a9 rfl (k4 rfl rfl rfl rfl rfl rfl (k4 rfl rfl rfl rfl rfl rfl (p_f rfl rfl rfl rfl (b8 rfl (d6 (j5 ?_)))))); exact ret1 () rfl (congrArg (fun b => some (Value.bool b)) (by unfold wordB; rw [decide_eq_false (show ¬ s.length ≤ 12 by omega)]; simp)) rfl trivial nil_sb trivial
 intro hg2; have hg2' := hg2; try simp at hg2'
 have g4 : ¬ (1 : Int) ≤ s.length := of_decide_eq_false (bf2 hg2); refine k4 rfl rfl rfl rfl rfl hg2 (k4 rfl rfl rfl rfl rfl hg2 (k4 rfl rfl rfl rfl rfl hg2 ?_)); refine p_f rfl rfl (bf2 hg2) rfl ?_; refine a9 rfl (k4 rfl rfl rfl rfl rfl rfl (k4 rfl rfl rfl rfl rfl rfl (p_f rfl rfl rfl rfl (a9 rfl (k4 rfl rfl rfl rfl rfl rfl (k4 rfl rfl rfl rfl rfl rfl (p_f rfl rfl rfl rfl (b8 rfl (d6 (j5 ?_)))))))))); exact ret1 () rfl (congrArg (fun b => some (Value.bool b)) (by unfold wordB; rw [decide_eq_false (show ¬ 0 < s.length by omega)]; rfl)) rfl trivial nil_sb trivial
theorem jP {A B : Option Addr} {ca cb : Nat} (cs : List Cl) (hs : List Hd) (i : Nat) (hi : i < cs.length) (hw : ∀ x ∈ cs, x.1.length ≤ 1000) (hcl : cs.length ≤ 1000) : Meets Tryz.prog F.X4 [.agg #[.slice A cs.length ca, .slice B hs.length cb], int i] { LI := [Row A (rows cs)], val := fun _ : Unit => int (clsErr cs i) } := by
 refine i9 F.sD rfl t4 fun w0 => ?_; refine i5 ?_; refine C0 rfl rfl fun gB => ?_; refine b8 rfl (j8 ?_); refine a8 ⟨_, 0, none⟩ rfl rfl T.q8 rfl (c9 rfl T.q9 rfl (l9 mB rfl) (a9 rfl (m7 (α := Cl) cs i rfl T.t9 T.A7 rfl rfl rfl mB rfl hi (by decide) (D9 rfl T.O6 T.A7 rfl rfl (B4 mB (D1 (by omega))) ?_)))); refine B6 rfl (fun _ => T.kU _) fun gA => ?_; refine B9 rfl rfl (by first | exact .refl _ | exact perm2 _ _ _ | exact perm3 _ _ _ _ | exact perm4 _ _ _ _ _) T.A7 (by rfl) (by rfl) ?_; refine d6 (dV ?_); refine cG (rows [(cs.getD i default)]) ⟨[], List.append_nil _⟩ ?_; refine d9 ?_; refine a8 ⟨_, 0, none⟩ rfl rfl T.K5 rfl (c9 rfl T.z6 rfl (p6 mB rfl) ?_); refine j0 F.rD rfl rfl (iH (cs.getD i default).1 (hw _ (n0 hi))) l7 trivial fun _ _ => ?_; refine E9 rfl rfl (d6 ?_); refine w6 rfl (fun hb1 => ?_) (fun hb1 => ?_)
 ·have hb1' := hb1; try simp at hb1'
  have h1 : wordB (cs.getD i default).1 = false := by simpa using hb1
  refine i5 (b8 rfl (d6 (G0 ?_))); exact ret1 () rfl (congrArg (fun b => some (int b)) (by rw [clsErr, if_pos h1])) rfl trivial nil_sb trivial
 have hb1' := hb1; try simp at hb1'
 have h1 : ¬ wordB (cs.getD i default).1 = false := by simpa using hb1
 refine i6 (d8 (d7 (i5 (b8 rfl (d6 (i8 ?_)))))); refine p9 (β := Nat) ⟨fun k => k ≤ i ∧ (cs.getD i default).1 ∉ (cs.take k).map (·.1), fun k => [(1, int i), (2, .pointer (b4 gB)), (5, .pointer (b4 gA)), (6, int k)], fun _ => [(gB, .cells #[.slice A cs.length ca, .slice B hs.length cb] T.k7 (0, 0))], fun _ => [Row (b4 gA) (rows [(cs.getD i default)]), Row A (rows cs)]⟩ (fun k => i - k) 0 ⟨Nat.zero_le _, by simp⟩ mC (List.Sublist.refl _) mC fun k hk => ?_; obtain ⟨hk, ht⟩ := hk; refine d7 (i5 (a9 rfl (a9 rfl (u4 rfl rfl rfl (d6 ?_))))); refine m3 rfl (fun hb2 => ?_) (fun hb2 => ?_)
 ·have hb2' := hb2; try simp at hb2'
  have hk2 : k < i := by omega
  have hkl : k < cs.length := by omega
  refine i6 (d8 (d7 (i8 (d7 ?_)))); refine A6 8 mixed (by decide) (by decide) rfl rfl (i4 (fun w1 => a8 ⟨_, 0, none⟩ rfl rfl T.q8 rfl (q_z rfl)) (i4 (fun w1 => c9 rfl T.q9 rfl (j9 mB rfl) (q_z rfl)) (i4 (fun w1 => a9 rfl (q_z rfl)) (i4 (fun w1 => m7 (α := Cl) cs k rfl T.t9 T.A7 rfl rfl rfl mB rfl hkl (by decide) (q_z rfl)) (i4 (fun w1 => a8 _ rfl rfl T.K5 rfl (q_z rfl)) (i4 (fun w1 => c9 (v := str (cs.getD k default).1) rfl T.z6 rfl (I6 mB (rows_get hkl rfl)) (q_z rfl)) (i4 (fun w1 => a8 ⟨_, 0, none⟩ rfl rfl T.K5 rfl (q_z rfl)) ?_))))))); refine i4 (fun w1 => c9 rfl T.z6 rfl (p6 mB rfl) (q_z rfl)) ?_; refine v9 ⟨rfl, ?_⟩; refine xP rfl rfl rfl (d6 ?_); refine m3 rfl (fun hb3 => ?_) (fun hb3 => ?_)
  ·have hb3' := hb3; try simp at hb3'
   refine i5 (b8 rfl (d6 (j5 (w8 (r6 (w8 ?_)))))); exact ret1 () rfl (congrArg (fun b => some (int b)) (by rw [clsErr, if_neg h1, if_pos (List.mem_map.2 ⟨_, zM hk2 (Nat.le_of_lt hi), hb3⟩)])) rfl trivial nil_sb trivial
  have hb3' := hb3; try simp at hb3'
  refine i6 (t6 (d8 (d9 (a9 rfl ?_)))); refine r7 _ rfl rfl rfl rfl m6 ?_; refine b8 rfl (c8 ?_); exact again _ (k + 1) ⟨by omega, vY (·.1) hkl ht hb3⟩ (u2 (by omega)) mC (List.Sublist.refl _) mC
 have hb2' := hb2; try simp at hb2'
 have hki : k = i := by omega
 rw [hki] at ht; refine p8 (v8 (p7 (d8 (d7 (i5 ?_))))); refine a8 ⟨_, 1, none⟩ rfl rfl T.K4 rfl (c9 rfl T.i7 rfl (p6 mB rfl) ?_); refine u4 rfl rfl rfl (a9 rfl ?_); refine t7 rfl rfl ?_ ?_
 ·intro hg1; have hg1' := hg1; try simp at hg1'
  have g4 : ¬ (cs.getD i default).2 < -1 := of_decide_eq_false (eq_of_beq hg1); refine i3 rfl rfl hg1 (a8 ⟨_, 1, none⟩ rfl rfl T.K4 rfl (i3 rfl rfl hg1 (c9 rfl T.i7 rfl (p6 mB rfl) (i3 rfl rfl hg1 (a8 ⟨_, 0, none⟩ rfl rfl T.q8 rfl (i3 rfl rfl hg1 (c9 rfl T.q9 rfl (l9 mB rfl) ?_))))))); refine i3 rfl rfl hg1 (j3 rfl T.t9 rfl ?_); refine i3 rfl rfl hg1 (R2 rfl rfl rfl ?_); refine p_f rfl rfl (bf1 hg1) rfl ?_; refine d6 ?_; refine m3 rfl (fun hb4 => ?_) (fun hb4 => ?_)
  ·have hb4' := hb4; try simp at hb4'
   refine i5 (b8 rfl (d6 (G0 ?_))); exact ret1 () rfl (congrArg (fun b => some (int b)) (by rw [clsErr, if_neg h1, if_neg ht, if_pos (by omega)])) rfl trivial nil_sb trivial
  have hb4' := hb4; try simp at hb4'
  refine i6 (d8 (d7 (i5 ?_))); refine a8 ⟨_, 1, none⟩ rfl rfl T.K4 rfl (c9 rfl T.i7 rfl (p6 mB rfl) ?_); refine a9 rfl (R2 rfl rfl rfl (d6 ?_)); refine m3 rfl (fun hb5 => ?_) (fun hb5 => ?_)
  ·have hb5' := hb5; try simp at hb5'
   refine i5 (b8 rfl (d6 (G0 ?_))); exact ret1 () rfl (congrArg (fun b => some (int b)) (by rw [clsErr, if_neg h1, if_neg ht, if_neg (by omega), if_pos (by omega)])) rfl trivial nil_sb trivial
  have hb5' := hb5; try simp at hb5'
  refine i6 (d8 (i5 (b8 rfl (d6 (j5 ?_))))); exact ret1 () rfl (congrArg (fun b => some (int b)) (by rw [clsErr, if_neg h1, if_neg ht, if_neg (by omega), if_neg (by omega)])) rfl trivial nil_sb trivial
 intro hg1; have hg1' := hg1; try simp at hg1'
 have g4 : (cs.getD i default).2 < -1 := Classical.byContradiction fun e => by rw [decide_eq_false e] at hg1; cases hg1
 refine k4 rfl rfl rfl rfl rfl hg1 (k4 rfl rfl rfl rfl rfl hg1 (k4 rfl rfl rfl rfl rfl hg1 (k4 rfl rfl rfl rfl rfl hg1 (k4 rfl rfl rfl rfl rfl hg1 (k4 rfl rfl rfl rfl rfl hg1 ?_))))); refine p_t rfl rfl (bt2 hg1) rfl ?_; refine d6 (c_t rfl rfl (i5 (b8 rfl (d6 (G0 ?_))))); exact ret1 () rfl (congrArg (fun b => some (int b)) (by rw [clsErr, if_neg h1, if_neg ht, if_pos (by omega)])) rfl trivial nil_sb trivial
set_option maxHeartbeats 2000000 in
theorem lT {A B : Option Addr} {ca cb : Nat} (cs : List Cl) (hs : List Hd) (i : Nat) (hi : i < hs.length) (hw : ∀ h ∈ hs, h.1.length ≤ 1000) (hhl : hs.length ≤ 1000) (ha : ∀ h ∈ hs, h.2.2.2.l.length ≤ 1000000) : Meets Tryz.prog F.aD [.agg #[.slice A cs.length ca, .slice B hs.length cb], int i] { LI := [RowsF B hs Hd.row], val := fun _ : Unit => int (headErr (trOf cs hs) i) } := by
 refine i9 F.uU rfl t4 fun w0 => ?_; refine i5 ?_; refine C0 rfl rfl fun gB => ?_; refine b8 rfl (d6 (d7 ?_)); refine Q7 (ps := hs) (A := B) (f := Hd.row) mB (iO (p := (hs.getD i default)) (f := Hd.row) (ps := hs) mB (n0 hi) ?_); have hal := ha _ (n0 hi); refine d9 ?_; refine a8 ⟨_, 1, none⟩ rfl rfl T.j4 rfl (c9 rfl T.j6 rfl (l9 mB rfl) (a9 rfl (m7 (α := Hd) hs i rfl T.k9 T.u0 rfl rfl rfl mB rfl hi (by decide) (D9 rfl T.L6 T.u0 rfl rfl (B4 mB (D1 (by omega))) ?_)))); refine B6 rfl (fun _ => T.U9 _) fun gA => ?_; refine B9 rfl rfl (by first | exact .refl _ | exact perm2 _ _ _ | exact perm3 _ _ _ _ | exact perm4 _ _ _ _ _) T.u0 (by rfl) (by rfl) ?_; refine d6 (dV ?_); refine cG (rows [(hs.getD i default)]) ⟨[], List.append_nil _⟩ ?_; refine d9 ?_; refine a8 ⟨_, 0, none⟩ rfl rfl T.D7 rfl (c9 rfl T.z6 rfl (p6 mB rfl) ?_); refine j0 F.rD rfl rfl (iH (hs.getD i default).1 (hw _ (n0 hi))) l7 trivial fun _ _ => ?_; refine E9 rfl rfl (d6 ?_); refine w6 rfl (fun hb1 => ?_) (fun hb1 => ?_)
 ·have hb1' := hb1; try simp at hb1'
  have h1 : wordB (hs.getD i default).1 = false := by simpa using hb1
  refine i5 (b8 rfl (d6 (G0 ?_))); exact ret1 () rfl (congrArg (fun b => some (int b)) (by rw [G5 cs hs hi, if_pos h1])) rfl trivial nil_sb trivial
 have hb1' := hb1; try simp at hb1'
 have h1 : ¬ wordB (hs.getD i default).1 = false := by simpa using hb1
 refine i6 (d8 (d7 (i5 (b8 rfl (d6 (i8 ?_)))))); refine p9 (β := Nat) ⟨fun k => k ≤ i ∧ (hs.getD i default).1 ∉ (hs.take k).map (·.1), fun k => [(1, int i), (2, .pointer (b4 gB)), (5, .pointer (b4 gA)), (6, int k)], fun _ => [(gB, .cells #[.slice A cs.length ca, .slice B hs.length cb] T.k7 (0, 0))], fun _ => [Row (b4 gA) (rows [(hs.getD i default)]), Hd.row (hs.getD i default), Row B (rows hs), RowsF B hs Hd.row]⟩ (fun k => i - k) 0 ⟨Nat.zero_le _, by simp⟩ mC (List.Sublist.refl _) mC fun k hk => ?_; obtain ⟨hk, ht⟩ := hk; refine d7 (i5 (a9 rfl (a9 rfl (u4 rfl rfl rfl (d6 ?_))))); refine m3 rfl (fun hb2 => ?_) (fun hb2 => ?_)
 ·have hb2' := hb2; try simp at hb2'
  have hk2 : k < i := by omega
  have hkl : k < hs.length := by omega
  refine i6 (d8 (d7 (i8 (d7 ?_)))); refine A6 8 mixed (by decide) (by decide) rfl rfl (i4 (fun w1 => a8 ⟨_, 1, none⟩ rfl rfl T.j4 rfl (q_z rfl)) (i4 (fun w1 => c9 rfl T.j6 rfl (j9 mB rfl) (q_z rfl)) (i4 (fun w1 => a9 rfl (q_z rfl)) (i4 (fun w1 => m7 (α := Hd) hs k rfl T.k9 T.u0 rfl rfl rfl mB rfl hkl (by decide) (q_z rfl)) (i4 (fun w1 => a8 _ rfl rfl T.D7 rfl (q_z rfl)) (i4 (fun w1 => c9 (v := str (hs.getD k default).1) rfl T.z6 rfl (I6 mB (rows_get hkl rfl)) (q_z rfl)) (i4 (fun w1 => a8 ⟨_, 0, none⟩ rfl rfl T.D7 rfl (q_z rfl)) ?_))))))); refine i4 (fun w1 => c9 rfl T.z6 rfl (p6 mB rfl) (q_z rfl)) ?_; refine v9 ⟨rfl, ?_⟩; refine xP rfl rfl rfl (d6 ?_); refine m3 rfl (fun hb3 => ?_) (fun hb3 => ?_)
  ·have hb3' := hb3; try simp at hb3'
   refine i5 (b8 rfl (d6 (j5 (w8 (r6 (w8 ?_)))))); exact ret1 () rfl (congrArg (fun b => some (int b)) (by rw [G5 cs hs hi, if_neg h1, if_pos (List.mem_map.2 ⟨_, zM hk2 (Nat.le_of_lt hi), hb3⟩)])) rfl trivial nil_sb trivial
  have hb3' := hb3; try simp at hb3'
  refine i6 (t6 (d8 (d9 (a9 rfl ?_)))); refine r7 _ rfl rfl rfl rfl m6 ?_; refine b8 rfl (c8 ?_); exact again _ (k + 1) ⟨by omega, vY (·.1) hkl ht hb3⟩ (u2 (by omega)) mC (List.Sublist.refl _) mC
 have hb2' := hb2; try simp at hb2'
 have hki : k = i := by omega
 rw [hki] at ht; refine p8 (v8 (p7 (d8 (d7 ?_)))); refine W0 ⟨fun _ : Unit => True, fun _ => [(1, int i), (2, .pointer (b4 gB)), (5, .pointer (b4 gA)), (45, .bool (decide (0 < i ∧ (hs.getD i default).1 < (hs.getD (i - 1) default).1)))], fun _ => [(gB, .cells #[.slice A cs.length ca, .slice B hs.length cb] T.k7 (0, 0))], fun _ => [Row (b4 gA) (rows [(hs.getD i default)]), Hd.row (hs.getD i default), Row B (rows hs), RowsF B hs Hd.row]⟩ ?_ ?_
 ·skip
  refine A6 12 mixed (by decide) (by decide) rfl rfl (i4 (fun w1 => a9 rfl (q_z rfl)) (i4 (fun w1 => H5 rfl rfl rfl (q_z rfl)) (i4 (fun w1 => a9 rfl (q_z rfl)) ?_))); refine I0 (t := 34) (want := true) rfl ?_ ?_
  ·intro hg1; have hg1' := hg1; try simp at hg1'
   have g3 : (0 : Int) < i := of_decide_eq_true (eq_of_beq hg1); have hi1 : i - 1 < hs.length := by omega
   apply q6 _ rfl rfl rfl
   ·intro w1; refine i3 rfl rfl hg1 (a8 ⟨_, 0, none⟩ rfl rfl T.D7 rfl ?_); refine c8 ?_; exact j7 rfl
   apply q6 _ rfl rfl rfl
   ·intro w1; refine i3 rfl rfl hg1 (c9 rfl T.z6 rfl (p6 mB rfl) ?_); refine c8 ?_; exact j7 rfl
   apply q6 _ rfl rfl rfl
   ·intro w1; refine i3 rfl rfl hg1 (a8 ⟨_, 1, none⟩ rfl rfl T.j4 rfl ?_); refine c8 ?_; exact j7 rfl
   apply q6 _ rfl rfl rfl
   ·intro w1; refine i3 rfl rfl hg1 (c9 rfl T.j6 rfl (j9 mB rfl) ?_); refine c8 ?_; exact j7 rfl
   apply q6 _ rfl rfl rfl
   ·intro w1; refine i3 rfl rfl hg1 (a9 rfl (c8 ?_)); exact j7 rfl
   apply q6 _ rfl rfl rfl
   ·intro w1; refine i3 rfl rfl hg1 (K2 ((i - 1 : Nat) : Int) rfl rfl rfl (by omega) m6 ?_); refine c8 ?_; exact j7 rfl
   apply q6 _ rfl rfl rfl
   ·intro w1; refine i3 rfl rfl hg1 (m7 (α := Hd) hs (i - 1) rfl T.k9 T.u0 rfl rfl rfl mB rfl hi1 (by decide) ?_); refine c8 ?_; exact j7 rfl
   apply q6 _ rfl rfl rfl
   ·intro w1; refine i3 rfl rfl hg1 (a8 _ rfl rfl T.D7 rfl (c8 ?_)); exact j7 rfl
   apply q6 _ rfl rfl rfl
   ·intro w1; refine i3 rfl rfl hg1 (c9 (v := str (hs.getD (i - 1) default).1) rfl T.z6 rfl (I6 mB (rows_get hi1 rfl)) ?_); refine c8 ?_; exact j7 rfl
   refine v9 ⟨rfl, ?_⟩; refine i3 rfl rfl hg1 (qz4 rfl rfl rfl ?_); refine p_t rfl rfl (bt1 hg1) rfl ?_; refine c8 ?_; exact J7 _ () trivial ⟨rfl, rfl, rfl, congrArg (fun b => some (Value.bool b)) (by rw [bq7]; exact decide_eq_decide.2 ⟨fun e => ⟨by omega, e⟩, fun e => e.2⟩), trivial⟩ (List.Sublist.refl _) mC
  intro hg1; have hg1' := hg1; try simp at hg1'
  have g3 : ¬ (0 : Int) < i := of_decide_eq_false (bf2 hg1); refine i4 (fun w1 => k4 rfl rfl rfl rfl rfl hg1 (q_z rfl)) (i4 (fun w1 => k4 rfl rfl rfl rfl rfl hg1 (q_z rfl)) (i4 (fun w1 => k4 rfl rfl rfl rfl rfl hg1 (q_z rfl)) (i4 (fun w1 => k4 rfl rfl rfl rfl rfl hg1 (q_z rfl)) (i4 (fun w1 => k4 rfl rfl rfl rfl rfl hg1 (q_z rfl)) (i4 (fun w1 => k4 rfl rfl rfl rfl rfl hg1 (q_z rfl)) (i4 (fun w1 => k4 rfl rfl rfl rfl rfl hg1 (q_z rfl)) (i4 (fun w1 => k4 rfl rfl rfl rfl rfl hg1 (q_z rfl)) ?_))))))); refine i4 (fun w1 => k4 rfl rfl rfl rfl rfl hg1 (q_z rfl)) ?_; refine v9 ⟨rfl, ?_⟩; refine k4 rfl rfl rfl rfl rfl hg1 (p_f rfl rfl (bf2 hg1) rfl ?_); refine c8 ?_; exact J7 _ () trivial ⟨rfl, rfl, rfl, congrArg (fun b => some (Value.bool b)) (by exact (decide_eq_false (by omega)).symm), trivial⟩ (List.Sublist.refl _) mC
 refine fun _ _ => ?_; refine m3 rfl (fun hb4 => ?_) (fun hb4 => ?_)
 ·have hb4' := hb4; try simp at hb4'
  refine i5 (b8 rfl (d6 (G0 ?_))); exact ret1 () rfl (congrArg (fun b => some (int b)) (by rw [G5 cs hs hi, if_neg h1, if_neg ht, if_pos hb4])) rfl trivial nil_sb trivial
 have hb4' := hb4; try simp at hb4'
 refine i6 (d8 (d7 (i5 ?_))); refine a8 ⟨_, 1, none⟩ rfl rfl T.A8 rfl (c9 rfl T.i7 rfl (p6 mB rfl) ?_); refine u4 rfl rfl rfl (a9 rfl ?_); refine t7 rfl rfl ?_ ?_
 ·intro hg2; have hg2' := hg2; try simp at hg2'
  have g11_4 : ¬ (hs.getD i default).2.1 < -1 := of_decide_eq_false (eq_of_beq hg2); refine i3 rfl rfl hg2 (a8 ⟨_, 1, none⟩ rfl rfl T.A8 rfl (i3 rfl rfl hg2 (c9 rfl T.i7 rfl (p6 mB rfl) (i3 rfl rfl hg2 (a8 ⟨_, 0, none⟩ rfl rfl T.q8 rfl (i3 rfl rfl hg2 (c9 rfl T.q9 rfl (l9 mB rfl) ?_))))))); refine i3 rfl rfl hg2 (j3 rfl T.t9 rfl ?_); refine i3 rfl rfl hg2 (R2 rfl rfl rfl ?_); refine p_f rfl rfl (bf1 hg2) rfl ?_; refine d6 ?_; refine m3 rfl (fun hb5 => ?_) (fun hb5 => ?_)
  ·have hb5' := hb5; try simp at hb5'
   refine i5 (b8 rfl (d6 (G0 ?_))); exact ret1 () rfl (congrArg (fun b => some (int b)) (by rw [G5 cs hs hi, if_neg h1, if_neg ht, if_neg hb4, if_pos (by omega)])) rfl trivial nil_sb trivial
  have hb5' := hb5; try simp at hb5'
  refine i6 (d8 (d7 (i5 ?_))); refine a8 ⟨_, 2, none⟩ rfl rfl T.B8 rfl (c9 rfl T.i7 rfl (p6 mB rfl) ?_); refine u4 rfl rfl rfl (a9 rfl ?_); refine t7 rfl rfl ?_ ?_
  ·intro hg3; have hg3' := hg3; try simp at hg3'
   have g13_4 : ¬ (hs.getD i default).2.2.1 < -1 := of_decide_eq_false (eq_of_beq hg3); refine i3 rfl rfl hg3 (a8 ⟨_, 2, none⟩ rfl rfl T.B8 rfl (i3 rfl rfl hg3 (c9 rfl T.i7 rfl (p6 mB rfl) (i3 rfl rfl hg3 (a8 ⟨_, 1, none⟩ rfl rfl T.j4 rfl (i3 rfl rfl hg3 (c9 rfl T.j6 rfl (l9 mB rfl) ?_))))))); refine i3 rfl rfl hg3 (j3 rfl T.k9 rfl ?_); refine i3 rfl rfl hg3 (R2 rfl rfl rfl ?_); refine p_f rfl rfl (bf1 hg3) rfl ?_; refine d6 ?_; refine m3 rfl (fun hb6 => ?_) (fun hb6 => ?_)
   ·have hb6' := hb6; try simp at hb6'
    refine i5 (b8 rfl (d6 (G0 ?_))); exact ret1 () rfl (congrArg (fun b => some (int b)) (by rw [G5 cs hs hi, if_neg h1, if_neg ht, if_neg hb4, if_pos (by omega)])) rfl trivial nil_sb trivial
   have hb6' := hb6; try simp at hb6'
   refine i6 (d8 (d7 (i5 ?_))); refine a8 ⟨_, 2, none⟩ rfl rfl T.B8 rfl (c9 rfl T.i7 rfl (p6 mB rfl) ?_); refine a9 rfl (I3 rfl rfl rfl (d6 ?_)); refine m3 rfl (fun hb7 => ?_) (fun hb7 => ?_)
   ·have hb7' := hb7; try simp at hb7'
    refine i5 (b8 rfl (d6 (G0 ?_))); exact ret1 () rfl (congrArg (fun b => some (int b)) (by rw [G5 cs hs hi, if_neg h1, if_neg ht, if_neg hb4, if_neg (by omega), if_pos (by omega)])) rfl trivial nil_sb trivial
   have hb7' := hb7; try simp at hb7'
   have hH : headErr (trOf cs hs) i = if ¬ Go.W.firstE (alsoErr hs.length i (hs.getD i default).2.2.2.l) (hs.getD i default).2.2.2.l.length = 0 then Go.W.firstE (alsoErr hs.length i (hs.getD i default).2.2.2.l) (hs.getD i default).2.2.2.l.length else if kindBad (hs.getD i default).p = true then 8 else 0 := by rw [G5 cs hs hi, if_neg h1, if_neg ht, if_neg hb4, if_neg (by omega), if_neg (by omega)]
   have hkr := rq7 (p := (hs.getD i default).p) (show -1 ≤ (hs.getD i default).2.2.1 by omega) (show -1 ≤ (hs.getD i default).2.1 by omega); clear ht; refine i6 (d8 (d7 (i5 (b8 rfl (d6 (i8 ?_)))))); refine p9 (β := Nat) ⟨fun k => k ≤ (hs.getD i default).2.2.2.l.length ∧ Go.W.firstE (alsoErr hs.length i (hs.getD i default).2.2.2.l) k = 0, fun k => [(1, int i), (2, .pointer (b4 gB)), (5, .pointer (b4 gA)), (7, int k)], fun _ => [(gB, .cells #[.slice A cs.length ca, .slice B hs.length cb] T.k7 (0, 0))], fun _ => [Row (b4 gA) (rows [(hs.getD i default)]), Hd.row (hs.getD i default), Row B (rows hs), RowsF B hs Hd.row]⟩ (fun k => (hs.getD i default).2.2.2.l.length - k) 0 ⟨Nat.zero_le _, rfl⟩ mC (List.Sublist.refl _) mC fun k hk => ?_; obtain ⟨hk, ht⟩ := hk; refine d7 (i5 (a9 rfl ?_)); refine a8 ⟨_, 3, none⟩ rfl rfl T.u9 rfl (c9 (v := .slice (hs.getD i default).2.2.2.a (hs.getD i default).2.2.2.l.length (hs.getD i default).2.2.2.c) rfl T.m8 rfl (p6 mB rfl) (j3 rfl T.l4 rfl ?_)); refine u4 rfl rfl rfl (d6 ?_); refine m3 rfl (fun hb8 => ?_) (fun hb8 => ?_)
   ·have hb8' := hb8; try simp at hb8'
    have hk2 : k < (hs.getD i default).2.2.2.l.length := by omega
    refine i6 (d8 (d7 (i8 (dV ?_)))); refine A6 15 mixed (by decide) (by decide) rfl rfl (i4 (fun w1 => a8 ⟨_, 3, none⟩ rfl rfl T.u9 rfl (q_z rfl)) (i4 (fun w1 => c9 (v := .slice (hs.getD i default).2.2.2.a (hs.getD i default).2.2.2.l.length (hs.getD i default).2.2.2.c) rfl T.m8 rfl (p6 mB rfl) (q_z rfl)) (i4 (fun w1 => a9 rfl (q_z rfl)) (i4 (fun w1 => m7 (α := Int) (hs.getD i default).2.2.2.l (k) rfl T.l4 T.q7 rfl rfl rfl mB rfl hk2 (by decide) (q_z rfl)) (i4 (fun w1 => c9 (v := int ((hs.getD i default).2.2.2.l.getD (k) default)) rfl T.i7 rfl (l8 mB (k6 hk2 rfl)) (q_z rfl)) (i4 (fun w1 => u4 rfl rfl rfl (q_z rfl)) (i4 (fun w1 => a9 rfl (q_z rfl)) ?_))))))); refine I0 (t := 85) (want := false) rfl ?_ ?_
    ·intro hg4; have hg4' := hg4; try simp at hg4'
     have g20_7 : ¬ (hs.getD i default).2.2.2.l.getD k default < 0 := of_decide_eq_false (eq_of_beq hg4)
     apply q6 _ rfl rfl rfl
     ·intro w1; refine i3 rfl rfl hg4 (a8 ⟨_, 3, none⟩ rfl rfl T.u9 rfl ?_); refine c8 ?_; exact j7 rfl
     apply q6 _ rfl rfl rfl
     ·intro w1; refine i3 rfl rfl hg4 (c9 (v := .slice (hs.getD i default).2.2.2.a (hs.getD i default).2.2.2.l.length (hs.getD i default).2.2.2.c) rfl T.m8 rfl (p6 mB rfl) ?_); refine c8 ?_; exact j7 rfl
     apply q6 _ rfl rfl rfl
     ·intro w1; refine i3 rfl rfl hg4 (a9 rfl (c8 ?_)); exact j7 rfl
     apply q6 _ rfl rfl rfl
     ·intro w1; refine i3 rfl rfl hg4 (m7 (α := Int) (hs.getD i default).2.2.2.l (k) rfl T.l4 T.q7 rfl rfl rfl mB rfl hk2 (by decide) ?_); refine c8 ?_; exact j7 rfl
     apply q6 _ rfl rfl rfl
     ·intro w1; refine i3 rfl rfl hg4 (c9 (v := int ((hs.getD i default).2.2.2.l.getD (k) default)) rfl T.i7 rfl (l8 mB (k6 hk2 rfl)) ?_); refine c8 ?_; exact j7 rfl
     apply q6 _ rfl rfl rfl
     ·intro w1; refine i3 rfl rfl hg4 (a8 ⟨_, 1, none⟩ rfl rfl T.j4 rfl ?_); refine c8 ?_; exact j7 rfl
     apply q6 _ rfl rfl rfl
     ·intro w1; refine i3 rfl rfl hg4 (c9 rfl T.j6 rfl (j9 mB rfl) ?_); refine c8 ?_; exact j7 rfl
     apply q6 _ rfl rfl rfl
     ·intro w1; refine i3 rfl rfl hg4 (j3 rfl T.k9 rfl ?_); refine c8 ?_; exact j7 rfl
     refine v9 ⟨rfl, ?_⟩; refine i3 rfl rfl hg4 (R2 rfl rfl rfl ?_); refine p_f rfl rfl (bf1 hg4) rfl ?_; refine d6 ?_; refine m3 rfl (fun hb9 => ?_) (fun hb9 => ?_)
     ·have hb9' := hb9; try simp at hb9'
      refine i5 (b8 rfl (d6 (G0 (w8 (r6 (w8 ?_)))))); exact ret1 () rfl (congrArg (fun b => some (int b)) (by have he : (alsoErr hs.length i (hs.getD i default).2.2.2.l) k = 3 := (by unfold alsoErr; rw [if_pos (by omega)]); rw [hH, Go.W.firstE_stop ht (by rw [he]; omega) _ hk2, if_pos (by rw [he]; omega), he])) rfl trivial nil_sb trivial
     have hb9' := hb9; try simp at hb9'
     refine i6 (d8 (d7 (i5 ?_))); refine a8 ⟨_, 3, none⟩ rfl rfl T.u9 rfl (c9 (v := .slice (hs.getD i default).2.2.2.a (hs.getD i default).2.2.2.l.length (hs.getD i default).2.2.2.c) rfl T.m8 rfl (p6 mB rfl) (a9 rfl (m7 (α := Int) (hs.getD i default).2.2.2.l (k) rfl T.l4 T.q7 rfl rfl rfl mB rfl hk2 (by decide) (c9 (v := int ((hs.getD i default).2.2.2.l.getD (k) default)) rfl T.i7 rfl (l8 mB (k6 hk2 rfl)) ?_)))); refine a9 rfl (I3 rfl rfl rfl (d6 ?_)); refine m3 rfl (fun hb10 => ?_) (fun hb10 => ?_)
     ·have hb10' := hb10; try simp at hb10'
      refine i5 (b8 rfl (d6 (G0 (w8 (r6 (w8 ?_)))))); exact ret1 () rfl (congrArg (fun b => some (int b)) (by have he : (alsoErr hs.length i (hs.getD i default).2.2.2.l) k = 9 := (by unfold alsoErr; rw [if_neg (by omega), if_pos hb10]); rw [hH, Go.W.firstE_stop ht (by rw [he]; omega) _ hk2, if_pos (by rw [he]; omega), he])) rfl trivial nil_sb trivial
     have hb10' := hb10; try simp at hb10'
     refine i6 (d8 ?_); refine W0 ⟨fun _ : Unit => True, fun _ => [(1, int i), (2, .pointer (b4 gB)), (5, .pointer (b4 gA)), (7, int k), (118, .bool (decide (0 < k ∧ (hs.getD i default).2.2.2.l.getD k default ≤ (hs.getD i default).2.2.2.l.getD (k - 1) default)))], fun _ => [(gB, .cells #[.slice A cs.length ca, .slice B hs.length cb] T.k7 (0, 0))], fun _ => [Row (b4 gA) (rows [(hs.getD i default)]), Hd.row (hs.getD i default), Row B (rows hs), RowsF B hs Hd.row]⟩ ?_ ?_
     ·skip
      refine A6 14 mixed (by decide) (by decide) rfl rfl (i4 (fun w1 => a9 rfl (q_z rfl)) (i4 (fun w1 => H5 rfl rfl rfl (q_z rfl)) (i4 (fun w1 => a9 rfl (q_z rfl)) ?_))); refine I0 (t := 105) (want := true) rfl ?_ ?_
      ·intro hg5; have hg5' := hg5; try simp at hg5'
       have g3 : (0 : Int) < k := of_decide_eq_true (eq_of_beq hg5)
       apply q6 _ rfl rfl rfl
       ·intro w1; refine i3 rfl rfl hg5 (a8 ⟨_, 3, none⟩ rfl rfl T.u9 rfl ?_); refine c8 ?_; exact j7 rfl
       apply q6 _ rfl rfl rfl
       ·intro w1; refine i3 rfl rfl hg5 (c9 (v := .slice (hs.getD i default).2.2.2.a (hs.getD i default).2.2.2.l.length (hs.getD i default).2.2.2.c) rfl T.m8 rfl (p6 mB rfl) ?_); refine c8 ?_; exact j7 rfl
       apply q6 _ rfl rfl rfl
       ·intro w1; refine i3 rfl rfl hg5 (a9 rfl (c8 ?_)); exact j7 rfl
       apply q6 _ rfl rfl rfl
       ·intro w1; refine i3 rfl rfl hg5 (m7 (α := Int) (hs.getD i default).2.2.2.l (k) rfl T.l4 T.q7 rfl rfl rfl mB rfl hk2 (by decide) ?_); refine c8 ?_; exact j7 rfl
       apply q6 _ rfl rfl rfl
       ·intro w1; refine i3 rfl rfl hg5 (c9 (v := int ((hs.getD i default).2.2.2.l.getD (k) default)) rfl T.i7 rfl (l8 mB (k6 hk2 rfl)) ?_); refine c8 ?_; exact j7 rfl
       apply q6 _ rfl rfl rfl
       ·intro w1; refine i3 rfl rfl hg5 (a8 ⟨_, 3, none⟩ rfl rfl T.u9 rfl ?_); refine c8 ?_; exact j7 rfl
       apply q6 _ rfl rfl rfl
       ·intro w1; refine i3 rfl rfl hg5 (c9 (v := .slice (hs.getD i default).2.2.2.a (hs.getD i default).2.2.2.l.length (hs.getD i default).2.2.2.c) rfl T.m8 rfl (p6 mB rfl) ?_); refine c8 ?_; exact j7 rfl
       apply q6 _ rfl rfl rfl
       ·intro w1; refine i3 rfl rfl hg5 (a9 rfl (c8 ?_)); exact j7 rfl
       apply q6 _ rfl rfl rfl
       ·intro w1; refine i3 rfl rfl hg5 (K2 ((k - 1 : Nat) : Int) rfl rfl rfl (by omega) m6 ?_); refine c8 ?_; exact j7 rfl
       apply q6 _ rfl rfl rfl
       ·intro w1; refine i3 rfl rfl hg5 (m7 (α := Int) (hs.getD i default).2.2.2.l (k - 1) rfl T.l4 T.q7 rfl rfl rfl mB rfl (by omega) (by decide) ?_); refine c8 ?_; exact j7 rfl
       apply q6 _ rfl rfl rfl
       ·intro w1; refine i3 rfl rfl hg5 (c9 (v := int ((hs.getD i default).2.2.2.l.getD (k - 1) default)) rfl T.i7 rfl (l8 mB (k6 (by omega) rfl)) ?_); refine c8 ?_; exact j7 rfl
       refine v9 ⟨rfl, ?_⟩; refine i3 rfl rfl hg5 (nK rfl rfl rfl ?_); refine p_t rfl rfl (bt1 hg5) rfl ?_; refine c8 ?_; exact J7 _ () trivial ⟨rfl, rfl, rfl, rfl, congrArg (fun b => some (Value.bool b)) (by exact decide_eq_decide.2 ⟨fun e => ⟨by omega, e⟩, fun e => e.2⟩), trivial⟩ (List.Sublist.refl _) mC
      intro hg5; have hg5' := hg5; try simp at hg5'
      have g3 : ¬ (0 : Int) < k := of_decide_eq_false (bf2 hg5); refine i4 (fun w1 => k4 rfl rfl rfl rfl rfl hg5 (q_z rfl)) (i4 (fun w1 => k4 rfl rfl rfl rfl rfl hg5 (q_z rfl)) (i4 (fun w1 => k4 rfl rfl rfl rfl rfl hg5 (q_z rfl)) (i4 (fun w1 => k4 rfl rfl rfl rfl rfl hg5 (q_z rfl)) (i4 (fun w1 => k4 rfl rfl rfl rfl rfl hg5 (q_z rfl)) (i4 (fun w1 => k4 rfl rfl rfl rfl rfl hg5 (q_z rfl)) (i4 (fun w1 => k4 rfl rfl rfl rfl rfl hg5 (q_z rfl)) (i4 (fun w1 => k4 rfl rfl rfl rfl rfl hg5 (q_z rfl)) ?_))))))); refine i4 (fun w1 => k4 rfl rfl rfl rfl rfl hg5 (q_z rfl)) (i4 (fun w1 => k4 rfl rfl rfl rfl rfl hg5 (q_z rfl)) (i4 (fun w1 => k4 rfl rfl rfl rfl rfl hg5 (q_z rfl)) ?_)); refine v9 ⟨rfl, ?_⟩; refine k4 rfl rfl rfl rfl rfl hg5 (p_f rfl rfl (bf2 hg5) rfl ?_); refine c8 ?_; exact J7 _ () trivial ⟨rfl, rfl, rfl, rfl, congrArg (fun b => some (Value.bool b)) (by exact (decide_eq_false (by omega)).symm), trivial⟩ (List.Sublist.refl _) mC
     refine fun _ _ => ?_; refine m3 rfl (fun hb11 => ?_) (fun hb11 => ?_)
     ·have hb11' := hb11; try simp at hb11'
      refine i5 (b8 rfl (d6 (j5 (w8 (r6 (w8 ?_)))))); exact ret1 () rfl (congrArg (fun b => some (int b)) (by have he : (alsoErr hs.length i (hs.getD i default).2.2.2.l) k = 5 := (by unfold alsoErr; rw [if_neg (by omega), if_neg hb10, if_pos hb11]); rw [hH, Go.W.firstE_stop ht (by rw [he]; omega) _ hk2, if_pos (by rw [he]; omega), he])) rfl trivial nil_sb trivial
     have hb11' := hb11; try simp at hb11'
     refine i6 (t6 (d8 (d9 (a9 rfl ?_)))); refine r7 _ rfl rfl rfl rfl m6 ?_; refine b8 rfl (c8 ?_); exact again _ (k + 1) ⟨by omega, by rw [Go.W.firstE_succ ht]; unfold alsoErr; rw [if_neg (by omega), if_neg hb10, if_neg hb11]⟩ (u2 (by omega)) mC (List.Sublist.refl _) mC
    intro hg4; have hg4' := hg4; try simp at hg4'
    have g20_7 : (hs.getD i default).2.2.2.l.getD k default < 0 := Classical.byContradiction fun e => by rw [decide_eq_false e] at hg4; cases hg4
    refine i4 (fun w1 => k4 rfl rfl rfl rfl rfl hg4 (q_z rfl)) (i4 (fun w1 => k4 rfl rfl rfl rfl rfl hg4 (q_z rfl)) (i4 (fun w1 => k4 rfl rfl rfl rfl rfl hg4 (q_z rfl)) (i4 (fun w1 => k4 rfl rfl rfl rfl rfl hg4 (q_z rfl)) (i4 (fun w1 => k4 rfl rfl rfl rfl rfl hg4 (q_z rfl)) (i4 (fun w1 => k4 rfl rfl rfl rfl rfl hg4 (q_z rfl)) (i4 (fun w1 => k4 rfl rfl rfl rfl rfl hg4 (q_z rfl)) (i4 (fun w1 => k4 rfl rfl rfl rfl rfl hg4 (q_z rfl)) ?_))))))); refine v9 ⟨rfl, ?_⟩; refine k4 rfl rfl rfl rfl rfl hg4 (p_t rfl rfl (bt2 hg4) rfl ?_); refine d6 (c_t rfl rfl (i5 (b8 rfl (d6 (G0 (w8 ?_)))))); refine r6 (w8 ?_); exact ret1 () rfl (congrArg (fun b => some (int b)) (by have he : (alsoErr hs.length i (hs.getD i default).2.2.2.l) k = 3 := (by unfold alsoErr; rw [if_pos (by omega)]); rw [hH, Go.W.firstE_stop ht (by rw [he]; omega) _ hk2, if_pos (by rw [he]; omega), he])) rfl trivial nil_sb trivial
   have hb8' := hb8; try simp at hb8'
   obtain rfl : k = (hs.getD i default).2.2.2.l.length := by omega
   rw [if_neg (not_not_intro ht)] at hH; refine p8 (v8 (p7 (d8 ?_))); refine W0 ⟨fun _ : Unit => True, fun _ => [(1, int i), (2, .pointer (b4 gB)), (5, .pointer (b4 gA)), (8, .bool (decide (0 ≤ (hs.getD i default).2.1) || decide ((0 : Int) < (hs.getD i default).2.2.2.l.length)))], fun _ => [(gB, .cells #[.slice A cs.length ca, .slice B hs.length cb] T.k7 (0, 0))], fun _ => [Row (b4 gA) (rows [(hs.getD i default)]), Hd.row (hs.getD i default), Row B (rows hs), RowsF B hs Hd.row]⟩ ?_ ?_
   ·skip
    refine d9 ?_; refine a8 ⟨_, 1, none⟩ rfl rfl T.A8 rfl (c9 rfl T.i7 rfl (p6 mB rfl) ?_); refine R2 rfl rfl rfl (a9 rfl ?_); refine t7 rfl rfl ?_ ?_
    ·intro hg6; have hg6' := hg6; try simp at hg6'
     have g26_4 : ¬ 0 ≤ (hs.getD i default).2.1 := of_decide_eq_false (eq_of_beq hg6); refine i3 rfl rfl hg6 (a8 ⟨_, 3, none⟩ rfl rfl T.u9 rfl (i3 rfl rfl hg6 (c9 (v := .slice (hs.getD i default).2.2.2.a (hs.getD i default).2.2.2.l.length (hs.getD i default).2.2.2.c) rfl T.m8 rfl (p6 mB rfl) (i3 rfl rfl hg6 (j3 rfl T.l4 rfl ?_))))); refine i3 rfl rfl hg6 (H5 rfl rfl rfl ?_); refine p_f rfl rfl (bf1 hg6) rfl ?_; refine b8 rfl (c8 ?_); exact J7 _ () trivial ⟨rfl, rfl, rfl, congrArg (fun b => some (Value.bool b)) (by rw [decide_eq_false g26_4, Bool.false_or]), trivial⟩ (List.Sublist.refl _) mC
    intro hg6; have hg6' := hg6; try simp at hg6'
    have g26_4 : 0 ≤ (hs.getD i default).2.1 := Classical.byContradiction fun e => by rw [decide_eq_false e] at hg6; cases hg6
    refine k4 rfl rfl rfl rfl rfl hg6 (k4 rfl rfl rfl rfl rfl hg6 (k4 rfl rfl rfl rfl rfl hg6 (k4 rfl rfl rfl rfl rfl hg6 ?_))); refine p_t rfl rfl (bt2 hg6) rfl ?_; refine b8 rfl (c8 ?_); exact J7 _ () trivial ⟨rfl, rfl, rfl, congrArg (fun b => some (Value.bool b)) (by rw [decide_eq_true g26_4, Bool.true_or]), trivial⟩ (List.Sublist.refl _) mC
   refine fun _ _ => ?_; refine d7 (i5 ?_); refine a8 ⟨_, 2, none⟩ rfl rfl T.B8 rfl (c9 rfl T.i7 rfl (p6 mB rfl) ?_); refine R2 rfl rfl rfl (a9 rfl (r_beq rfl T.u_bool rfl rfl (d6 ?_))); refine m3 rfl (fun hb12 => ?_) (fun hb12 => ?_)
   ·have hb12' := hb12; try simp at hb12'
    refine i5 (b8 rfl (d6 (G0 ?_))); exact ret1 () rfl (congrArg (fun b => some (int b)) (by rw [hH, if_pos (by rw [hkr, beq_iff_eq]; exact hb12)])) rfl trivial nil_sb trivial
   have hb12' := hb12; try simp at hb12'
   refine i6 (d8 (i5 (b8 rfl (d6 (j5 ?_))))); exact ret1 () rfl (congrArg (fun b => some (int b)) (by rw [hH, if_neg (by rw [hkr, beq_iff_eq]; exact hb12)])) rfl trivial nil_sb trivial
  intro hg3; have hg3' := hg3; try simp at hg3'
  have g13_4 : (hs.getD i default).2.2.1 < -1 := Classical.byContradiction fun e => by rw [decide_eq_false e] at hg3; cases hg3
  refine k4 rfl rfl rfl rfl rfl hg3 (k4 rfl rfl rfl rfl rfl hg3 (k4 rfl rfl rfl rfl rfl hg3 (k4 rfl rfl rfl rfl rfl hg3 (k4 rfl rfl rfl rfl rfl hg3 (k4 rfl rfl rfl rfl rfl hg3 ?_))))); refine p_t rfl rfl (bt2 hg3) rfl ?_; refine d6 (c_t rfl rfl (i5 (b8 rfl (d6 (G0 ?_))))); exact ret1 () rfl (congrArg (fun b => some (int b)) (by rw [G5 cs hs hi, if_neg h1, if_neg ht, if_neg hb4, if_pos (by omega)])) rfl trivial nil_sb trivial
 intro hg2; have hg2' := hg2; try simp at hg2'
 have g11_4 : (hs.getD i default).2.1 < -1 := Classical.byContradiction fun e => by rw [decide_eq_false e] at hg2; cases hg2
 refine k4 rfl rfl rfl rfl rfl hg2 (k4 rfl rfl rfl rfl rfl hg2 (k4 rfl rfl rfl rfl rfl hg2 (k4 rfl rfl rfl rfl rfl hg2 (k4 rfl rfl rfl rfl rfl hg2 (k4 rfl rfl rfl rfl rfl hg2 ?_))))); refine p_t rfl rfl (bt2 hg2) rfl ?_; refine d6 (c_t rfl rfl (i5 (b8 rfl (d6 (G0 ?_))))); exact ret1 () rfl (congrArg (fun b => some (int b)) (by rw [G5 cs hs hi, if_neg h1, if_neg ht, if_neg hb4, if_pos (by omega)])) rfl trivial nil_sb trivial
theorem V6 {A B : Option Addr} {ca cb : Nat} (cs : List Cl) (hs : List Hd) (hhl : hs.length ≤ 1000) (hcl : cs.length ≤ 1000) (hwc : ∀ x ∈ cs, x.1.length ≤ 1000) (hwh : ∀ h ∈ hs, h.1.length ≤ 1000) (ha : ∀ h ∈ hs, h.2.2.2.l.length ≤ 1000000) : Meets Tryz.prog F.nI [.agg #[.slice A cs.length ca, .slice B hs.length cb]] { LI := [Row A (rows cs), RowsF B hs Hd.row], val := fun _ : Unit => int (checkT (trOf cs hs)) } := by
 refine i9 F.dq6 rfl t4 fun w0 => ?_; refine i5 ?_; refine C0 rfl rfl fun gB => ?_; refine b8 rfl (d6 (dV ?_)); have hl := E4 cs hs; refine d9 ?_; refine a8 ⟨_, 0, none⟩ rfl rfl T.q8 rfl (c9 rfl T.q9 rfl (l9 mB rfl) (j3 rfl T.t9 rfl ?_)); refine H5 rfl rfl rfl (a9 rfl ?_); refine t7 rfl rfl ?_ ?_
 ·intro hg1; have hg1' := hg1; try simp at hg1'
  have h6 : cs.length ≤ 6 := by have g5 : ¬ (6 : Int) < cs.length := of_decide_eq_false (eq_of_beq hg1); omega
  refine i3 rfl rfl hg1 (a8 ⟨_, 1, none⟩ rfl rfl T.j4 rfl (i3 rfl rfl hg1 (c9 rfl T.j6 rfl (l9 mB rfl) (i3 rfl rfl hg1 (j3 rfl T.k9 rfl ?_))))); refine i3 rfl rfl hg1 (H5 rfl rfl rfl ?_); refine p_f rfl rfl (bf1 hg1) rfl ?_; refine d6 ?_; refine m3 rfl (fun hb1 => ?_) (fun hb1 => ?_)
  ·have hb1' := hb1; try simp at hb1'
   refine i5 (b8 rfl (d6 (G0 ?_))); exact ret1 () rfl (congrArg (fun b => some (int b)) (by rw [checkT, if_pos (by rw [hl]; simp only; omega)])) rfl trivial nil_sb trivial
  have hb1' := hb1; try simp at hb1'
  have h6h : hs.length ≤ 6 := by omega
  have hT : checkT (trOf cs hs) = if ¬ Go.W.firstE (clsErr cs) cs.length = 0 then Go.W.firstE (clsErr cs) cs.length else Go.W.firstE (headErr (trOf cs hs)) hs.length := by rw [checkT, if_neg (by rw [hl]; simp only; omega), hl]
  refine i6 (d8 (d7 (i5 (b8 rfl (d6 (i8 ?_)))))); refine p9 (β := Nat) ⟨fun k => k ≤ cs.length ∧ Go.W.firstE (clsErr cs) k = 0, fun k => [(1, .pointer (b4 gB)), (3, int k)], fun _ => [(gB, .cells #[.slice A cs.length ca, .slice B hs.length cb] T.k7 (0, 0))], fun _ => [Row A (rows cs), RowsF B hs Hd.row]⟩ (fun k => cs.length - k) 0 ⟨Nat.zero_le _, rfl⟩ mC (List.Sublist.refl _) mC fun k hk => ?_; obtain ⟨hk, ht⟩ := hk; refine d7 (i5 (a9 rfl ?_)); refine a8 ⟨_, 0, none⟩ rfl rfl T.q8 rfl (c9 rfl T.q9 rfl (l9 mB rfl) (j3 rfl T.t9 rfl ?_)); refine u4 rfl rfl rfl (d6 ?_); refine m3 rfl (fun hb2 => ?_) (fun hb2 => ?_)
  ·have hb2' := hb2; try simp at hb2'
   have hk2 : k < cs.length := by omega
   refine i6 (d8 (d7 (i8 (i5 ?_)))); refine D4 rfl T.m4 T.k8 rfl mB (by rfl) (a9 rfl ?_); refine j0 F.qS rfl rfl (jP cs hs k hk2 hwc hcl) l7 mC fun _ _ => ?_; refine b8 rfl (j8 (a9 rfl (H2 rfl rfl rfl (d6 ?_)))); refine m3 rfl (fun hb3 => ?_) (fun hb3 => ?_)
   ·have hb3' := hb3; try simp at hb3'
    refine i5 (a9 rfl (b8 rfl (d6 (j5 (w8 (r6 (w8 ?_))))))); exact ret1 () rfl (congrArg (fun b => some (int b)) (by rw [hT, Go.W.firstE_stop ht hb3 _ hk2, if_pos hb3])) rfl trivial nil_sb trivial
   have hb3' := hb3; try simp at hb3'
   refine i6 (t6 (d8 (d9 (a9 rfl ?_)))); refine r7 _ rfl rfl rfl rfl m6 ?_; refine b8 rfl (c8 ?_); exact again _ (k + 1) ⟨by omega, by rw [Go.W.firstE_succ ht]; exact Classical.not_not.1 hb3⟩ (u2 (by omega)) mC (List.Sublist.refl _) mC
  have hb2' := hb2; try simp at hb2'
  obtain rfl : k = cs.length := by omega
  rw [if_neg (not_not_intro ht)] at hT; refine p8 (v8 (p7 (d8 (d7 (i5 (b8 rfl (d6 (i8 ?_)))))))); refine p9 (β := Nat) ⟨fun k => k ≤ hs.length ∧ Go.W.firstE (headErr (trOf cs hs)) k = 0, fun k => [(1, .pointer (b4 gB)), (5, int k)], fun _ => [(gB, .cells #[.slice A cs.length ca, .slice B hs.length cb] T.k7 (0, 0))], fun _ => [Row A (rows cs), RowsF B hs Hd.row]⟩ (fun k => hs.length - k) 0 ⟨Nat.zero_le _, rfl⟩ mC (List.Sublist.refl _) mC fun k hk => ?_; obtain ⟨hk, ht⟩ := hk; refine d7 (i5 (a9 rfl ?_)); refine a8 ⟨_, 1, none⟩ rfl rfl T.j4 rfl (c9 rfl T.j6 rfl (l9 mB rfl) (j3 rfl T.k9 rfl ?_)); refine u4 rfl rfl rfl (d6 ?_); refine m3 rfl (fun hb4 => ?_) (fun hb4 => ?_)
  ·have hb4' := hb4; try simp at hb4'
   have hk2 : k < hs.length := by omega
   refine i6 (d8 (d7 (i8 (i5 ?_)))); refine D4 rfl T.m4 T.k8 rfl mB (by rfl) (a9 rfl ?_); refine j0 F.sB rfl rfl (lT cs hs k hk2 hwh hhl ha) l7 mC fun _ _ => ?_; refine b8 rfl (j8 (a9 rfl (H2 rfl rfl rfl (d6 ?_)))); refine m3 rfl (fun hb5 => ?_) (fun hb5 => ?_)
   ·have hb5' := hb5; try simp at hb5'
    refine i5 (a9 rfl (b8 rfl (d6 (j5 (w8 (r6 (w8 ?_))))))); exact ret1 () rfl (congrArg (fun b => some (int b)) (by rw [hT, Go.W.firstE_stop ht hb5 _ hk2])) rfl trivial nil_sb trivial
   have hb5' := hb5; try simp at hb5'
   refine i6 (t6 (d8 (d9 (a9 rfl ?_)))); refine r7 _ rfl rfl rfl rfl m6 ?_; refine b8 rfl (c8 ?_); exact again _ (k + 1) ⟨by omega, by rw [Go.W.firstE_succ ht]; exact Classical.not_not.1 hb5⟩ (u2 (by omega)) mC (List.Sublist.refl _) mC
  have hb4' := hb4; try simp at hb4'
  obtain rfl : k = hs.length := by omega
  refine p8 (v8 (p7 (d8 (i5 (b8 rfl (d6 (j5 ?_))))))); exact ret1 () rfl (congrArg (fun b => some (int b)) (by rw [hT, ht])) rfl trivial nil_sb trivial
 intro hg1; have hg1' := hg1; try simp at hg1'
 have h6 : ¬ cs.length ≤ 6 := by
   have g5 : (6 : Int) < cs.length := Classical.byContradiction (fun e => by rw [decide_eq_false e] at hg1; cases hg1)
   omega
 refine k4 rfl rfl rfl rfl rfl hg1 (k4 rfl rfl rfl rfl rfl hg1 (k4 rfl rfl rfl rfl rfl hg1 (k4 rfl rfl rfl rfl rfl hg1 ?_))); refine p_t rfl rfl (bt2 hg1) rfl ?_; refine d6 (c_t rfl rfl (i5 (b8 rfl (d6 (G0 ?_))))); exact ret1 () rfl (congrArg (fun b => some (int b)) (by rw [checkT, if_pos (by simp only; omega)])) rfl trivial nil_sb trivial
theorem uV {C1 C2 : Option Addr} {c1 c2 : Nat} {A B : Option Addr} {ca cb : Nat} (cs : List Cl) (hs : List Hd) (l1 l2 : List Int) (hl1 : l1.length ≤ 1000) (hl2 : l2.length ≤ 1000) (hhl : hs.length ≤ 1000) (hcl : cs.length ≤ 1000) (hwc : ∀ x ∈ cs, x.1.length ≤ 1000) (hwh : ∀ h ∈ hs, h.1.length ≤ 1000) (ha : ∀ h ∈ hs, h.2.2.2.l.length ≤ 1000000) : Meets Tryz.prog F.nG [.agg #[.slice A cs.length ca, .slice B hs.length cb], .slice C1 l1.length c1, .slice C2 l2.length c2] { LI := [Row A (rows cs), RowsF B hs Hd.row, Row C1 (rows l1), Row C2 (rows l2)], val := fun _ : Unit => int (askdE (trOf cs hs) l1 l2) } := by
 refine i9 F.dq4 rfl t4 fun w0 => ?_; refine i5 ?_; refine C0 rfl rfl fun gB => ?_; refine b8 rfl (d6 (d7 (i5 ?_))); refine D4 rfl T.m4 T.k8 rfl mB (by rfl) ?_; refine j0 F.bU rfl rfl (V6 cs hs hhl hcl hwc hwh ha) l7 mC fun _ _ => ?_; refine b8 rfl (j8 (a9 rfl (H2 rfl rfl rfl (d6 ?_)))); refine m3 rfl (fun hb1 => ?_) (fun hb1 => ?_)
 ·have hb1' := hb1; try simp at hb1'
  refine i5 (a9 rfl (b8 rfl (d6 (G0 ?_)))); exact ret1 () rfl (congrArg (fun b => some (int b)) (by rw [askdE, if_pos hb1])) rfl trivial nil_sb trivial
 have hb1' := hb1; try simp at hb1'
 have hA : askdE (trOf cs hs) l1 l2 = if l1.all (fun x => decide (0 ≤ x ∧ x ≤ (cs.length : Int) - 1)) then (if l2.all (fun x => decide (0 ≤ x ∧ x ≤ (hs.length : Int) - 1)) then 0 else 3) else 3 := by rw [askdE, if_neg hb1, E4]
 refine i6 (d8 (d7 (i5 (b8 rfl (d6 (i8 ?_)))))); refine p9 (β := Nat) ⟨fun k => k ≤ l1.length ∧ (l1.take k).all (fun x => decide (0 ≤ x ∧ x ≤ (cs.length : Int) - 1)) = true, fun k => [(1, .slice C1 l1.length c1), (2, .slice C2 l2.length c2), (3, .pointer (b4 gB)), (8, int k)], fun _ => [(gB, .cells #[.slice A cs.length ca, .slice B hs.length cb] T.k7 (0, 0))], fun _ => [Row A (rows cs), RowsF B hs Hd.row, Row C1 (rows l1), Row C2 (rows l2)]⟩ (fun k => l1.length - k) 0 ⟨Nat.zero_le _, rfl⟩ mC (List.Sublist.refl _) mC fun k hk => ?_; obtain ⟨hk, ht1⟩ := hk; refine d7 (i5 (a9 rfl (a9 rfl ?_))); refine j3 rfl T.l4 rfl ?_; refine u4 rfl rfl rfl (d6 ?_); refine m3 rfl (fun hb2 => ?_) (fun hb2 => ?_)
 ·have hb2' := hb2; try simp at hb2'
  have hk2 : k < l1.length := by omega
  refine i6 (d8 (d7 (i8 (d7 ?_)))); refine A6 13 mixed (by decide) (by decide) rfl rfl (i4 (fun w1 => a9 rfl (q_z rfl)) (i4 (fun w1 => a9 rfl (q_z rfl)) (i4 (fun w1 => m7 (α := Int) l1 k rfl T.l4 T.q7 rfl rfl rfl mB rfl hk2 (by decide) (q_z rfl)) (i4 (fun w1 => c9 (v := int (l1.getD k default)) rfl T.i7 rfl (l8 mB (k6 hk2 rfl)) (q_z rfl)) (i4 (fun w1 => u4 rfl rfl rfl (q_z rfl)) (i4 (fun w1 => a9 rfl (q_z rfl)) ?_)))))); refine I0 (t := 26) (want := false) rfl ?_ ?_
  ·intro hg1; have hg1' := hg1; try simp at hg1'
   have g7_6 : ¬ l1.getD k default < 0 := of_decide_eq_false (eq_of_beq hg1)
   apply q6 _ rfl rfl rfl
   ·intro w1; refine i3 rfl rfl hg1 (a9 rfl (c8 ?_)); exact j7 rfl
   apply q6 _ rfl rfl rfl
   ·intro w1; refine i3 rfl rfl hg1 (a9 rfl (c8 ?_)); exact j7 rfl
   apply q6 _ rfl rfl rfl
   ·intro w1; refine i3 rfl rfl hg1 (m7 (α := Int) l1 k rfl T.l4 T.q7 rfl rfl rfl mB rfl hk2 (by decide) ?_); refine c8 ?_; exact j7 rfl
   apply q6 _ rfl rfl rfl
   ·intro w1; refine i3 rfl rfl hg1 (c9 (v := int (l1.getD k default)) rfl T.i7 rfl (l8 mB (k6 hk2 rfl)) ?_); refine c8 ?_; exact j7 rfl
   apply q6 _ rfl rfl rfl
   ·intro w1; refine i3 rfl rfl hg1 (a8 ⟨_, 0, none⟩ rfl rfl T.q8 rfl ?_); refine c8 ?_; exact j7 rfl
   apply q6 _ rfl rfl rfl
   ·intro w1; refine i3 rfl rfl hg1 (c9 rfl T.q9 rfl (j9 mB rfl) ?_); refine c8 ?_; exact j7 rfl
   apply q6 _ rfl rfl rfl
   ·intro w1; refine i3 rfl rfl hg1 (j3 rfl T.t9 rfl ?_); refine c8 ?_; exact j7 rfl
   refine v9 ⟨rfl, ?_⟩; refine i3 rfl rfl hg1 (R2 rfl rfl rfl ?_); refine p_f rfl rfl (bf1 hg1) rfl ?_; refine d6 ?_; refine m3 rfl (fun hb3 => ?_) (fun hb3 => ?_)
   ·have hb3' := hb3; try simp at hb3'
    refine i5 (b8 rfl (d6 (j5 (w8 (r6 (w8 ?_)))))); exact ret1 () rfl (congrArg (fun b => some (int b)) (by rw [hA, if_neg (jq1 hk2 (decide_eq_false (by omega)))])) rfl trivial nil_sb trivial
   have hb3' := hb3; try simp at hb3'
   refine i6 (t6 (d8 (d9 (a9 rfl ?_)))); refine r7 _ rfl rfl rfl rfl m6 ?_; refine b8 rfl (c8 ?_); exact again _ (k + 1) ⟨by omega, kx6 hk2 ht1 (decide_eq_true (by omega))⟩ (u2 (by omega)) mC (List.Sublist.refl _) mC
  intro hg1; have hg1' := hg1; try simp at hg1'
  have g7_6 : l1.getD k default < 0 := Classical.byContradiction fun e => by rw [decide_eq_false e] at hg1; cases hg1
  refine i4 (fun w1 => k4 rfl rfl rfl rfl rfl hg1 (q_z rfl)) (i4 (fun w1 => k4 rfl rfl rfl rfl rfl hg1 (q_z rfl)) (i4 (fun w1 => k4 rfl rfl rfl rfl rfl hg1 (q_z rfl)) (i4 (fun w1 => k4 rfl rfl rfl rfl rfl hg1 (q_z rfl)) (i4 (fun w1 => k4 rfl rfl rfl rfl rfl hg1 (q_z rfl)) (i4 (fun w1 => k4 rfl rfl rfl rfl rfl hg1 (q_z rfl)) (i4 (fun w1 => k4 rfl rfl rfl rfl rfl hg1 (q_z rfl)) ?_)))))); refine v9 ⟨rfl, ?_⟩; refine k4 rfl rfl rfl rfl rfl hg1 (p_t rfl rfl (bt2 hg1) rfl ?_); refine d6 (c_t rfl rfl (i5 (b8 rfl (d6 (j5 (w8 (r6 ?_))))))); refine w8 ?_; exact ret1 () rfl (congrArg (fun b => some (int b)) (by rw [hA, if_neg (jq1 hk2 (decide_eq_false (by omega)))])) rfl trivial nil_sb trivial
 have hb2' := hb2; try simp at hb2'
 obtain rfl : k = l1.length := by omega
 rw [List.take_length] at ht1; refine p8 (v8 (p7 (d8 (d7 (i5 (b8 rfl (d6 (i8 ?_)))))))); refine p9 (β := Nat) ⟨fun k => k ≤ l2.length ∧ (l2.take k).all (fun x => decide (0 ≤ x ∧ x ≤ (hs.length : Int) - 1)) = true, fun k => [(1, .slice C1 l1.length c1), (2, .slice C2 l2.length c2), (3, .pointer (b4 gB)), (9, int k)], fun _ => [(gB, .cells #[.slice A cs.length ca, .slice B hs.length cb] T.k7 (0, 0))], fun _ => [Row A (rows cs), RowsF B hs Hd.row, Row C1 (rows l1), Row C2 (rows l2)]⟩ (fun k => l2.length - k) 0 ⟨Nat.zero_le _, rfl⟩ mC (List.Sublist.refl _) mC fun k hk => ?_; obtain ⟨hk, ht2⟩ := hk; refine d7 (i5 (a9 rfl (a9 rfl ?_))); refine j3 rfl T.l4 rfl ?_; refine u4 rfl rfl rfl (d6 ?_); refine m3 rfl (fun hb4 => ?_) (fun hb4 => ?_)
 ·have hb4' := hb4; try simp at hb4'
  have hk2 : k < l2.length := by omega
  refine i6 (d8 (d7 (i8 (d7 ?_)))); refine A6 13 mixed (by decide) (by decide) rfl rfl (i4 (fun w1 => a9 rfl (q_z rfl)) (i4 (fun w1 => a9 rfl (q_z rfl)) (i4 (fun w1 => m7 (α := Int) l2 k rfl T.l4 T.q7 rfl rfl rfl mB rfl hk2 (by decide) (q_z rfl)) (i4 (fun w1 => c9 (v := int (l2.getD k default)) rfl T.i7 rfl (l8 mB (k6 hk2 rfl)) (q_z rfl)) (i4 (fun w1 => u4 rfl rfl rfl (q_z rfl)) (i4 (fun w1 => a9 rfl (q_z rfl)) ?_)))))); refine I0 (t := 47) (want := false) rfl ?_ ?_
  ·intro hg2; have hg2' := hg2; try simp at hg2'
   have g12_6 : ¬ l2.getD k default < 0 := of_decide_eq_false (eq_of_beq hg2)
   apply q6 _ rfl rfl rfl
   ·intro w1; refine i3 rfl rfl hg2 (a9 rfl (c8 ?_)); exact j7 rfl
   apply q6 _ rfl rfl rfl
   ·intro w1; refine i3 rfl rfl hg2 (a9 rfl (c8 ?_)); exact j7 rfl
   apply q6 _ rfl rfl rfl
   ·intro w1; refine i3 rfl rfl hg2 (m7 (α := Int) l2 k rfl T.l4 T.q7 rfl rfl rfl mB rfl hk2 (by decide) ?_); refine c8 ?_; exact j7 rfl
   apply q6 _ rfl rfl rfl
   ·intro w1; refine i3 rfl rfl hg2 (c9 (v := int (l2.getD k default)) rfl T.i7 rfl (l8 mB (k6 hk2 rfl)) ?_); refine c8 ?_; exact j7 rfl
   apply q6 _ rfl rfl rfl
   ·intro w1; refine i3 rfl rfl hg2 (a8 ⟨_, 1, none⟩ rfl rfl T.j4 rfl ?_); refine c8 ?_; exact j7 rfl
   apply q6 _ rfl rfl rfl
   ·intro w1; refine i3 rfl rfl hg2 (c9 rfl T.j6 rfl (j9 mB rfl) ?_); refine c8 ?_; exact j7 rfl
   apply q6 _ rfl rfl rfl
   ·intro w1; refine i3 rfl rfl hg2 (j3 rfl T.k9 rfl ?_); refine c8 ?_; exact j7 rfl
   refine v9 ⟨rfl, ?_⟩; refine i3 rfl rfl hg2 (R2 rfl rfl rfl ?_); refine p_f rfl rfl (bf1 hg2) rfl ?_; refine d6 ?_; refine m3 rfl (fun hb5 => ?_) (fun hb5 => ?_)
   ·have hb5' := hb5; try simp at hb5'
    refine i5 (b8 rfl (d6 (j5 (w8 (r6 (w8 ?_)))))); exact ret1 () rfl (congrArg (fun b => some (int b)) (by rw [hA, if_pos ht1, if_neg (jq1 hk2 (decide_eq_false (by omega)))])) rfl trivial nil_sb trivial
   have hb5' := hb5; try simp at hb5'
   refine i6 (t6 (d8 (d9 (a9 rfl ?_)))); refine r7 _ rfl rfl rfl rfl m6 ?_; refine b8 rfl (c8 ?_); exact again _ (k + 1) ⟨by omega, kx6 hk2 ht2 (decide_eq_true (by omega))⟩ (u2 (by omega)) mC (List.Sublist.refl _) mC
  intro hg2; have hg2' := hg2; try simp at hg2'
  have g12_6 : l2.getD k default < 0 := Classical.byContradiction fun e => by rw [decide_eq_false e] at hg2; cases hg2
  refine i4 (fun w1 => k4 rfl rfl rfl rfl rfl hg2 (q_z rfl)) (i4 (fun w1 => k4 rfl rfl rfl rfl rfl hg2 (q_z rfl)) (i4 (fun w1 => k4 rfl rfl rfl rfl rfl hg2 (q_z rfl)) (i4 (fun w1 => k4 rfl rfl rfl rfl rfl hg2 (q_z rfl)) (i4 (fun w1 => k4 rfl rfl rfl rfl rfl hg2 (q_z rfl)) (i4 (fun w1 => k4 rfl rfl rfl rfl rfl hg2 (q_z rfl)) (i4 (fun w1 => k4 rfl rfl rfl rfl rfl hg2 (q_z rfl)) ?_)))))); refine v9 ⟨rfl, ?_⟩; refine k4 rfl rfl rfl rfl rfl hg2 (p_t rfl rfl (bt2 hg2) rfl ?_); refine d6 (c_t rfl rfl (i5 (b8 rfl (d6 (j5 (w8 (r6 ?_))))))); refine w8 ?_; exact ret1 () rfl (congrArg (fun b => some (int b)) (by rw [hA, if_pos ht1, if_neg (jq1 hk2 (decide_eq_false (by omega)))])) rfl trivial nil_sb trivial
 have hb4' := hb4; try simp at hb4'
 obtain rfl : k = l2.length := by omega
 rw [List.take_length] at ht2; refine p8 (v8 (p7 (d8 (i5 (b8 rfl (d6 (j5 ?_))))))); exact ret1 () rfl (congrArg (fun b => some (int b)) (by rw [hA, if_pos ht1, if_pos ht2])) rfl trivial nil_sb trivial
theorem aj3 {A : Option Addr} {c : Nat} (l : List Int) (s : Int) (hl : l.length ≤ 1000000) : Meets Tryz.prog F.xM [.slice A l.length c, int s] { LI := [Row A (rows l)], inv := fun z : Int => AtInv l s z, val := fun z => int z } := by
 refine i9 F.jz0 rfl t4 fun w0 => ?_; refine i5 (b8 rfl (d6 (d7 (i5 (b8 rfl (d6 (i8 ?_))))))); refine p9 (β := Nat) ⟨fun k => k ≤ l.length ∧ s ∉ l.take k, fun k => [(0, .slice A l.length c), (1, int s), (5, int k)], fun _ => [], fun _ => [Row A (rows l)]⟩ (fun k => l.length - k) 0 ⟨Nat.zero_le _, by simp⟩ mC (.refl _) ⟨m0, trivial⟩ fun k hk => ?_; obtain ⟨hk, ht⟩ := hk; refine d7 (i5 (a9 rfl (a9 rfl ?_))); refine j3 rfl T.l4 rfl ?_; refine u4 rfl rfl rfl (d6 ?_); refine m3 rfl (fun hb1 => ?_) (fun hb1 => ?_)
 ·have hb1' := hb1; try simp at hb1'
  have hk2 : k < l.length := by omega
  refine i6 (d8 (d7 (i8 (i5 (a9 rfl (a9 rfl ?_)))))); refine m7 (α := Int) _ _ rfl T.l4 T.q7 rfl rfl rfl mB rfl (by omega) (by decide) (c9 rfl T.i7 rfl (l8 mB (k6 (by omega) rfl)) ?_); refine a9 rfl (I3 rfl rfl rfl (d6 ?_)); refine m3 rfl (fun hb2 => ?_) (fun hb2 => ?_)
  ·have hb2' := hb2; try simp at hb2'
   refine i5 (a9 rfl (b8 rfl (d6 (j5 (w8 (r6 (w8 ?_))))))); exact ret1 (k : Int) rfl rfl rfl (dj0 hk2 hb2 ht) (.refl _) trivial
  have hb2' := hb2; try simp at hb2'
  refine i6 (t6 (d8 (d9 (a9 rfl ?_)))); refine r7 _ rfl rfl rfl rfl m6 ?_; refine b8 rfl (c8 ?_); exact again _ (k + 1) ⟨by omega, vI hk2 ht (fun e => hb2 e.symm)⟩ (u2 (by omega)) mC (.refl _) ⟨m0, trivial⟩
 have hb1' := hb1; try simp at hb1'
 have hk2 : k = l.length := by omega
 subst hk2; rw [List.take_length] at ht; refine p8 (v8 (p7 (d8 (i5 (b8 rfl (d6 (j5 ?_))))))); exact ret1 (-1) rfl rfl rfl (jj8 ht) (.refl _) trivial
end Go.Proofs.YtdlbbfcfahahdaaGreat
end
