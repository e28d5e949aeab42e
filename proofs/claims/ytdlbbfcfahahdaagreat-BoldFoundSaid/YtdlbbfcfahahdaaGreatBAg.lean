/- Texts of this claim, one behind another. -/

import Derived.Test.YtdlbbfcfahahdaaGreatBAf
set_option linter.unusedVariables false
set_option linter.unusedSimpArgs false
section
namespace Go.Proofs.YtdlbbfcfahahdaaGreat
open Go Go.W
set_option maxRecDepth 20000
attribute [local irreducible] HL HC HQ HB Row Rows2 Blk Facts
theorem ps_take {hs : List Hd} {n : Nat} : ((hs.map Hd.p).take n).map (·.1) = (hs.take n).map (·.1) := by rw [← List.map_take, List.map_map]; rfl
theorem G5 (cs : List Cl) (hs : List Hd) {i : Nat} (hi : i < hs.length) : headErr (trOf cs hs) i =
  if wordB (hs.getD i default).1 = false then 2
  else if (hs.getD i default).1 ∈ (hs.take i).map (·.1) then 4
  else if 0 < i ∧ (hs.getD i default).1 < (hs.getD (i - 1) default).1 then 5
  else if (hs.getD i default).2.1 < -1 ∨ (cs.length : Int) ≤ (hs.getD i default).2.1 ∨ (hs.getD i default).2.2.1 < -1 ∨ (hs.length : Int) ≤ (hs.getD i default).2.2.1 then 3
  else if (hs.getD i default).2.2.1 = (i : Int) then 9
  else if ¬ firstE (alsoErr hs.length i (hs.getD i default).2.2.2.l) (hs.getD i default).2.2.2.l.length = 0 then firstE (alsoErr hs.length i (hs.getD i default).2.2.2.l) (hs.getD i default).2.2.2.l.length
  else if kindBad (hs.getD i default).p = true then 8 else 0 := by
  unfold headErr; simp only [trOf, dX hi, dX (show i - 1 < hs.length by omega), ps_take, List.length_map]
  rfl
theorem nbw {a b c : Int} (h : (!decide (a ≤ b ∧ b ≤ c)) = true) : ¬ (a ≤ b ∧ b ≤ c) := fun e => by rw [decide_eq_true e] at h; cases h
theorem bw {a b c : Int} (h : (!decide (a ≤ b ∧ b ≤ c)) = false) : a ≤ b ∧ b ≤ c := Classical.byContradiction fun e => by rw [decide_eq_false e] at h; cases h
set_option maxHeartbeats 2000000 in
theorem lM {A B : Option Addr} {ca cb : Nat} (cs : List Cl) (hs : List Hd) (i : Nat) (h6 : hs.length ≤ 6) (hc6 : cs.length ≤ 6) (hc : hs.length ≤ cb) (hi : i < hs.length) (ha : ∀ h ∈ hs, h.2.2.2.l.length ≤ 1000000) : Meets Tryz.prog F.Z7 [.agg #[.slice A cs.length ca, .slice B hs.length cb], int i] { LI := [Row A (rows cs), RowsF B hs Hd.row], val := fun _ : Unit => int (headErr (trOf cs hs) i) } := by
 refine i9 F.uK rfl t4 fun w0 => ?_; refine i5 ?_; refine C0 rfl rfl fun gB => ?_; refine b8 rfl (d6 (d7 (Q7 m1 ?_))); refine iO m2 (n0 hi) ?_; have hal := ha _ (n0 hi); refine I8 ([]) (_) (.refl _) 9 [7] mixed (by decide) (by decide) (by decide) rfl rfl rfl (i4 (fun w1 => a8 ⟨_, 1, none⟩ rfl rfl T.j4 rfl (q_z rfl)) (i4 (fun w1 => c9 rfl T.j6 rfl (j9 mB rfl) (q_z rfl)) (i4 (fun w1 => a8 ⟨_, 1, none⟩ rfl rfl T.j4 rfl (q_z rfl)) (i4 (fun w1 => c9 rfl T.j6 rfl (j9 mB rfl) (q_z rfl)) (i4 (fun w1 => a9 rfl (q_z rfl)) (i4 (fun w1 => m7 (α := Hd) _ _ rfl T.k9 T.u0 rfl rfl rfl mB rfl (by omega) (by decide) (q_z rfl)) (i4 (fun w1 => D9 rfl T.L6 T.u0 rfl rfl (B4 mB (D1 (by omega))) (q_z rfl)) ?_))))))); refine cI ⟨Nat, fun _ => True, fun g => .pointer (b4 g), fun _ => [], fun g => [(g, Obj.cells #[str [], int 0, int 0, .slice none 0 0] T.C5 (0, 0))]⟩ rfl rfl rfl ?_ ?_
 ·intro w1; refine B6 rfl (fun _ => T.U9 _) fun gA => ?_; refine c8 ?_; exact H6 gA trivial (fun _ => rfl) (.refl _) trivial
 refine i4 (fun w1 => b8 rfl (q_z rfl)) ?_; refine v9 ⟨rfl, ?_⟩; intro x7 hx7; refine B9 rfl rfl (by first | exact .refl _ | exact perm2 _ _ _ | exact perm3 _ _ _ _ | exact perm4 _ _ _ _ _) T.u0 (by rfl) (by rfl) ?_; refine d6 (d7 (i8 (d7 ?_))); refine cG (rows [hs.getD i default]) ⟨[], List.append_nil _⟩ ?_; refine d9 ?_; refine a8 ⟨_, 0, none⟩ rfl rfl T.D7 rfl (c9 rfl T.z6 rfl (p6 mB rfl) ?_); refine j0 F.qZ rfl rfl (gY (hs.getD i default).1) l7 trivial fun _ _ => ?_; refine E9 rfl rfl (b8 rfl (d6 ?_)); refine w6 rfl (fun hb1 => ?_) (fun hb1 => ?_)
 ·have hb1' := hb1; try simp at hb1'
  have h1 : wordB (hs.getD i default).1 = false := by simpa using hb1
  refine i5 (b8 rfl (d6 (j5 (w8 ?_)))); exact ret1 () rfl (congrArg (fun b => some (int b)) (by rw [G5 cs hs hi, if_pos h1])) rfl trivial nil_sb trivial
 have hb1' := hb1; try simp at hb1'
 have h1 : ¬ wordB (hs.getD i default).1 = false := by simpa using hb1
 refine i5 (a9 rfl (a9 rfl ?_)); refine sF (hs.take i).length rfl T.k9 T.u0 rfl rfl (by simp; omega) (by simp; omega) ?_; refine cj9 (ps := hs) i mB (bW rfl rfl rfl ?_); refine j0 F.iC rfl rfl (bR (hs.take i) (hs.getD i default) (by simp; omega)) l7 mC fun _ _ => ?_; refine b8 rfl (d6 ?_); refine m3 rfl (fun hb2 => ?_) (fun hb2 => ?_)
 ·have hb2' := hb2; try simp at hb2'
  refine i5 (b8 rfl (d6 (j5 (w8 ?_)))); exact ret1 () rfl (congrArg (fun b => some (int b)) (by rw [G5 cs hs hi, if_neg h1, if_pos hb2])) rfl trivial nil_sb trivial
 have hb2' := hb2; try simp at hb2'
 refine W0 ⟨fun _ : Unit => True, fun _ => [(1, int i), (2, .pointer (b4 gB)), (5, .slice B hs.length cb), (6, .pointer (b4 x7)), (27, .bool (decide (0 < i ∧ (hs.getD i default).1 < (hs.getD (i - 1) default).1)))], fun _ => [(gB, .cells #[.slice A cs.length ca, .slice B hs.length cb] T.k7 (0, 0))], fun _ => [Row (b4 x7) (rows [hs.getD i default]), Row B (rows hs), Row (hs.getD i default).2.2.2.a (rows (hs.getD i default).2.2.2.l)]⟩ ?_ ?_
 ·skip
  refine A6 11 mixed (by decide) (by decide) rfl rfl (i4 (fun w1 => a9 rfl (q_z rfl)) (i4 (fun w1 => H5 rfl rfl rfl (q_z rfl)) (i4 (fun w1 => a9 rfl (q_z rfl)) ?_))); refine I0 (t := 30) (want := true) rfl ?_ ?_
  ·intro hg1; have hg1' := hg1; try simp at hg1'
   apply q6 _ rfl rfl rfl
   ·intro w1; refine i3 rfl rfl hg1 (a8 ⟨_, 0, none⟩ rfl rfl T.D7 rfl ?_); refine c8 ?_; exact j7 rfl
   apply q6 _ rfl rfl rfl
   ·intro w1; refine i3 rfl rfl hg1 (c9 rfl T.z6 rfl (p6 mB rfl) ?_); refine c8 ?_; exact j7 rfl
   apply q6 _ rfl rfl rfl
   ·intro w1; refine i3 rfl rfl hg1 (a9 rfl (c8 ?_)); exact j7 rfl
   apply q6 _ rfl rfl rfl
   ·intro w1; refine i3 rfl rfl hg1 (a9 rfl (c8 ?_)); exact j7 rfl
   apply q6 _ rfl rfl rfl
   ·intro w1; refine i3 rfl rfl hg1 (K2 ((i - 1 : Nat) : Int) rfl rfl rfl (by omega) m6 ?_); refine c8 ?_; exact j7 rfl
   apply q6 _ rfl rfl rfl
   ·intro w1; refine i3 rfl rfl hg1 (m7 (α := Hd) hs (i - 1) rfl T.k9 T.u0 rfl rfl rfl mB rfl (by omega) (by decide) ?_); refine c8 ?_; exact j7 rfl
   apply q6 _ rfl rfl rfl
   ·intro w1; refine i3 rfl rfl hg1 (a8 _ rfl rfl T.D7 rfl (c8 ?_)); exact j7 rfl
   apply q6 _ rfl rfl rfl
   ·intro w1; refine i3 rfl rfl hg1 (c9 rfl T.z6 rfl (l8 (cs := rows hs) mB (k6 (by omega) rfl)) ?_); refine c8 ?_; exact j7 rfl
   refine v9 ⟨rfl, ?_⟩; refine i3 rfl rfl hg1 (qz4 rfl rfl rfl ?_); refine p_t rfl rfl (bt1 hg1) rfl ?_; refine b8 rfl (c8 ?_); exact J7 _ () trivial ⟨rfl, rfl, rfl, rfl, congrArg (fun b => some (Value.bool b)) (by rw [bq7]; exact decide_eq_decide.2 ⟨fun e => ⟨by omega, e⟩, fun e => e.2⟩), trivial⟩ (List.Sublist.refl _) mC
  intro hg1; have hg1' := hg1; try simp at hg1'
  refine i4 (fun w1 => k4 rfl rfl rfl rfl rfl hg1 (q_z rfl)) (i4 (fun w1 => k4 rfl rfl rfl rfl rfl hg1 (q_z rfl)) (i4 (fun w1 => k4 rfl rfl rfl rfl rfl hg1 (q_z rfl)) (i4 (fun w1 => k4 rfl rfl rfl rfl rfl hg1 (q_z rfl)) (i4 (fun w1 => k4 rfl rfl rfl rfl rfl hg1 (q_z rfl)) (i4 (fun w1 => k4 rfl rfl rfl rfl rfl hg1 (q_z rfl)) (i4 (fun w1 => k4 rfl rfl rfl rfl rfl hg1 (q_z rfl)) (i4 (fun w1 => k4 rfl rfl rfl rfl rfl hg1 (q_z rfl)) ?_))))))); refine v9 ⟨rfl, ?_⟩; refine k4 rfl rfl rfl rfl rfl hg1 (p_f rfl rfl (bf2 hg1) rfl ?_); refine b8 rfl (c8 ?_); exact J7 _ () trivial ⟨rfl, rfl, rfl, rfl, congrArg (fun b => some (Value.bool b)) (by exact (decide_eq_false (by simp at hg1; omega)).symm), trivial⟩ (List.Sublist.refl _) mC
 refine fun _ _ => ?_; refine m3 rfl (fun hb3 => ?_) (fun hb3 => ?_)
 ·have hb3' := hb3; try simp at hb3'
  refine i5 (b8 rfl (d6 (j5 (w8 ?_)))); exact ret1 () rfl (congrArg (fun b => some (int b)) (by rw [G5 cs hs hi, if_neg h1, if_neg hb2, if_pos hb3])) rfl trivial nil_sb trivial
 have hb3' := hb3; try simp at hb3'
 refine W0 ⟨fun _ : Unit => True, fun _ => [(1, int i), (2, .pointer (b4 gB)), (5, .slice B hs.length cb), (6, .pointer (b4 x7)), (41, .bool (decide (¬ ((-1 ≤ (hs.getD i default).2.1 ∧ (hs.getD i default).2.1 ≤ (cs.length : Int) - 1) ∧ (-1 ≤ (hs.getD i default).2.2.1 ∧ (hs.getD i default).2.2.1 ≤ (hs.length : Int) - 1)))))], fun _ => [(gB, .cells #[.slice A cs.length ca, .slice B hs.length cb] T.k7 (0, 0))], fun _ => [Row (b4 x7) (rows [hs.getD i default]), Row B (rows hs), Row (hs.getD i default).2.2.2.a (rows (hs.getD i default).2.2.2.l)]⟩ ?_ ?_
 ·skip
  refine i5 ?_; refine a8 ⟨_, 1, none⟩ rfl rfl T.A8 rfl (c9 rfl T.i7 rfl (p6 mB rfl) (a8 ⟨_, 0, none⟩ rfl rfl T.q8 rfl (c9 rfl T.q9 rfl (l9 mB rfl) (j3 rfl T.t9 rfl (K2 _ rfl rfl rfl rfl m6 ?_))))); refine j0 F.M7 rfl rfl (I7 _ _ _) l7 trivial fun _ _ => ?_; refine E9 rfl rfl (b8 rfl (d6 ?_)); refine w6 rfl (fun hb4 => ?_) (fun hb4 => ?_)
  ·have hb4' := hb4; try simp at hb4'
   refine i6 ?_; exact J7 _ () trivial ⟨rfl, rfl, rfl, rfl, congrArg (fun b => some (Value.bool b)) (by rw [hb4]; symm; rw [decide_eq_true_eq]; exact fun e => nbw hb4 e.1), trivial⟩ (List.Sublist.refl _) mC
  have hb4' := hb4; try simp at hb4'
  refine d9 ?_; refine a8 ⟨_, 2, none⟩ rfl rfl T.B8 rfl (c9 rfl T.i7 rfl (p6 mB rfl) (a9 rfl (j3 rfl T.k9 rfl (K2 _ rfl rfl rfl rfl m6 ?_)))); refine j0 F.M7 rfl rfl (I7 _ _ _) l7 trivial fun _ _ => ?_; refine E9 rfl rfl (b8 rfl (c8 ?_)); exact J7 _ () trivial ⟨rfl, rfl, rfl, rfl, congrArg (fun b => some (Value.bool b)) (by have := bw hb4; rw [Bool.eq_iff_iff]; simp only [Bool.not_eq_true', decide_eq_false_iff_not, decide_eq_true_eq]; exact ⟨fun e f => e f.2, fun e f => e ⟨this, f⟩⟩), trivial⟩ (List.Sublist.refl _) mC
 refine fun _ _ => ?_; refine m3 rfl (fun hb5 => ?_) (fun hb5 => ?_)
 ·have hb5' := hb5; try simp at hb5'
  refine i5 (b8 rfl (d6 (j5 (w8 ?_)))); exact ret1 () rfl (congrArg (fun b => some (int b)) (by rw [G5 cs hs hi, if_neg h1, if_neg hb2, if_neg hb3, if_pos (by omega)])) rfl trivial nil_sb trivial
 have hb5' := hb5; try simp at hb5'
 refine i5 ?_; refine a8 ⟨_, 2, none⟩ rfl rfl T.B8 rfl (c9 rfl T.i7 rfl (p6 mB rfl) ?_); refine a9 rfl (I3 rfl rfl rfl (b8 rfl (d6 ?_))); refine m3 rfl (fun hb6 => ?_) (fun hb6 => ?_)
 ·have hb6' := hb6; try simp at hb6'
  refine i5 (b8 rfl (d6 (j5 (w8 ?_)))); exact ret1 () rfl (congrArg (fun b => some (int b)) (by rw [G5 cs hs hi, if_neg h1, if_neg hb2, if_neg hb3, if_neg (by omega), if_pos hb6])) rfl trivial nil_sb trivial
 have hb6' := hb6; try simp at hb6'
 have hH : headErr (trOf cs hs) i = if ¬ firstE (alsoErr hs.length i (hs.getD i default).2.2.2.l) (hs.getD i default).2.2.2.l.length = 0 then firstE (alsoErr hs.length i (hs.getD i default).2.2.2.l) (hs.getD i default).2.2.2.l.length else if kindBad (hs.getD i default).p = true then 8 else 0 := by rw [G5 cs hs hi, if_neg h1, if_neg hb2, if_neg hb3, if_neg (by omega), if_neg hb6]
 refine i6 (t6 (d8 (d7 (i5 ?_)))); refine a8 ⟨_, 3, none⟩ rfl rfl T.u9 rfl (c9 rfl T.m8 rfl (p6 mB rfl) (j3 rfl T.l4 rfl ?_)); refine a9 rfl (d6 (i8 ?_)); refine p9 (β := Nat) ⟨fun k => k ≤ (hs.getD i default).2.2.2.l.length ∧ firstE (alsoErr hs.length i (hs.getD i default).2.2.2.l) k = 0, fun k => [(1, int i), (2, .pointer (b4 gB)), (5, .slice B hs.length cb), (6, .pointer (b4 x7)), (63, .slice (hs.getD i default).2.2.2.a (hs.getD i default).2.2.2.l.length (hs.getD i default).2.2.2.c), (64, int (hs.getD i default).2.2.2.l.length), (65, int k)], fun _ => [(gB, .cells #[.slice A cs.length ca, .slice B hs.length cb] T.k7 (0, 0))], fun _ => [Row (b4 x7) (rows [hs.getD i default]), Row B (rows hs), Row (hs.getD i default).2.2.2.a (rows (hs.getD i default).2.2.2.l)]⟩ (fun k => (hs.getD i default).2.2.2.l.length - k) 0 ⟨Nat.zero_le _, rfl⟩ mC (List.Sublist.refl _) mC fun k hk => ?_; obtain ⟨hk, ht⟩ := hk; refine i5 (u4 rfl rfl rfl (d6 (d7 ?_))); refine m3 rfl (fun hb7 => ?_) (fun hb7 => ?_)
 ·have hb7' := hb7; try simp at hb7'
  have hk2 : k < (hs.getD i default).2.2.2.l.length := by omega
  refine i6 (d8 (d7 (i8 (i5 (a9 rfl ?_))))); refine m7 (α := Int) _ _ rfl T.l4 T.q7 rfl rfl rfl mB rfl (by omega) (by decide) (c9 rfl T.i7 rfl (l8 mB (k6 (by omega) rfl)) ?_); refine b8 rfl (b8 rfl (d6 (i8 (i5 (a9 rfl (a9 rfl ?_)))))); refine j3 rfl T.k9 rfl (K2 _ rfl rfl rfl rfl m6 ?_); refine j0 F.M7 rfl rfl (I7 _ _ _) l7 trivial fun _ _ => ?_; refine E9 rfl rfl (b8 rfl (d6 ?_)); refine w6 rfl (fun hb8 => ?_) (fun hb8 => ?_)
  ·have hb8' := hb8; try simp at hb8'
   refine i5 (b8 rfl (d6 (j5 (V9 (w8 (r6 (w8 ?_))))))); exact ret1 () rfl (congrArg (fun b => some (int b)) (by have he : alsoErr hs.length i (hs.getD i default).2.2.2.l k = 3 := (by unfold alsoErr; rw [if_pos (by have := nbw hb8; omega)]); rw [hH, firstE_stop ht (by rw [he]; omega) _ hk2, if_pos (by rw [he]; omega), he])) rfl trivial nil_sb trivial
  have hb8' := hb8; try simp at hb8'
  refine i5 (a9 rfl (a9 rfl (I3 rfl rfl rfl (b8 rfl (d6 ?_))))); refine m3 rfl (fun hb9 => ?_) (fun hb9 => ?_)
  ·have hb9' := hb9; try simp at hb9'
   refine i5 (b8 rfl (d6 (j5 (V9 (w8 (r6 (w8 ?_))))))); exact ret1 () rfl (congrArg (fun b => some (int b)) (by have he : alsoErr hs.length i (hs.getD i default).2.2.2.l k = 9 := (by unfold alsoErr; rw [if_neg (by have := bw hb8; omega), if_pos hb9]); rw [hH, firstE_stop ht (by rw [he]; omega) _ hk2, if_pos (by rw [he]; omega), he])) rfl trivial nil_sb trivial
  have hb9' := hb9; try simp at hb9'
  refine W0 ⟨fun _ : Unit => True, fun _ => [(1, int i), (2, .pointer (b4 gB)), (5, .slice B hs.length cb), (6, .pointer (b4 x7)), (63, .slice (hs.getD i default).2.2.2.a (hs.getD i default).2.2.2.l.length (hs.getD i default).2.2.2.c), (64, int (hs.getD i default).2.2.2.l.length), (65, int k), (81, .bool (decide (0 < k ∧ (hs.getD i default).2.2.2.l.getD k default ≤ (hs.getD i default).2.2.2.l.getD (k - 1) default)))], fun _ => [(gB, .cells #[.slice A cs.length ca, .slice B hs.length cb] T.k7 (0, 0))], fun _ => [Row (b4 x7) (rows [hs.getD i default]), Row B (rows hs), Row (hs.getD i default).2.2.2.a (rows (hs.getD i default).2.2.2.l)]⟩ ?_ ?_
  ·skip
   refine d9 (a9 rfl (H5 rfl rfl rfl (a9 rfl ?_))); refine t7 rfl rfl ?_ ?_
   ·intro hg2; have hg2' := hg2; try simp at hg2'
    refine i3 rfl rfl hg2 (a9 rfl (i3 rfl rfl hg2 ?_)); refine a8 ⟨_, 3, none⟩ rfl rfl T.u9 rfl (i3 rfl rfl hg2 (c9 rfl T.m8 rfl (p6 mB rfl) ?_)); refine i3 rfl rfl hg2 (a9 rfl (i3 rfl rfl hg2 ?_)); refine K2 ((k - 1 : Nat) : Int) rfl rfl rfl (by omega) m6 (i3 rfl rfl hg2 (m7 (α := Int) _ _ rfl T.l4 T.q7 rfl rfl rfl mB rfl (by omega) (by decide) (i3 rfl rfl hg2 (c9 rfl T.i7 rfl (l8 mB (k6 (by omega) rfl)) ?_)))); refine i3 rfl rfl hg2 (nK rfl rfl rfl ?_); refine p_t rfl rfl (bt1 hg2) rfl ?_; refine b8 rfl (c8 ?_); exact J7 _ () trivial ⟨rfl, rfl, rfl, rfl, rfl, rfl, rfl, congrArg (fun b => some (Value.bool b)) (by exact decide_eq_decide.2 ⟨fun e => ⟨by omega, e⟩, fun e => e.2⟩), trivial⟩ (List.Sublist.refl _) mC
   intro hg2; have hg2' := hg2; try simp at hg2'
   refine k4 rfl rfl rfl rfl rfl hg2 (k4 rfl rfl rfl rfl rfl hg2 (k4 rfl rfl rfl rfl rfl hg2 (k4 rfl rfl rfl rfl rfl hg2 (k4 rfl rfl rfl rfl rfl hg2 (k4 rfl rfl rfl rfl rfl hg2 (k4 rfl rfl rfl rfl rfl hg2 (k4 rfl rfl rfl rfl rfl hg2 ?_))))))); refine p_f rfl rfl (bf2 hg2) rfl ?_; refine b8 rfl (c8 ?_); exact J7 _ () trivial ⟨rfl, rfl, rfl, rfl, rfl, rfl, rfl, congrArg (fun b => some (Value.bool b)) (by exact (decide_eq_false (by simp at hg2; omega)).symm), trivial⟩ (List.Sublist.refl _) mC
  refine fun _ _ => ?_; refine m3 rfl (fun hb10 => ?_) (fun hb10 => ?_)
  ·have hb10' := hb10; try simp at hb10'
   refine i5 (b8 rfl (d6 (j5 (V9 (w8 (r6 (w8 ?_))))))); exact ret1 () rfl (congrArg (fun b => some (int b)) (by have he : alsoErr hs.length i (hs.getD i default).2.2.2.l k = 5 := (by unfold alsoErr; rw [if_neg (by have := bw hb8; omega), if_neg hb9, if_pos hb10]); rw [hH, firstE_stop ht (by rw [he]; omega) _ hk2, if_pos (by rw [he]; omega), he])) rfl trivial nil_sb trivial
  have hb10' := hb10; try simp at hb10'
  refine i6 (t6 (t6 (d8 (d9 ?_)))); refine r7 _ rfl rfl rfl rfl m6 ?_; refine a9 rfl (c8 ?_); exact again _ (k + 1) ⟨by omega, by rw [firstE_succ ht]; unfold alsoErr; rw [if_neg (by have := bw hb8; omega), if_neg hb9, if_neg hb10]⟩ (u2 (by omega)) mC (List.Sublist.refl _) mC
 have hb7' := hb7; try simp at hb7'
 have hk2 : k = (hs.getD i default).2.2.2.l.length := by omega
 subst hk2; rw [if_neg (not_not_intro ht)] at hH; refine p8 (v8 (p7 (d8 (d7 ?_)))); refine W0 ⟨fun _ : Unit => True, fun _ => [(1, int i), (2, .pointer (b4 gB)), (5, .slice B hs.length cb), (6, .pointer (b4 x7)), (124, .bool (kindBad (hs.getD i default).p))], fun _ => [(gB, .cells #[.slice A cs.length ca, .slice B hs.length cb] T.k7 (0, 0))], fun _ => [Row (b4 x7) (rows [hs.getD i default]), Row B (rows hs), Row (hs.getD i default).2.2.2.a (rows (hs.getD i default).2.2.2.l)]⟩ ?_ ?_
 ·skip
  clear hH ht hk hb1 hb1' h1 hb2 hb2' hb3 hb3' hb5 hb5' hb6 hb6' hb7 hb7' ha h6 hc6 hc hi hal; refine d9 ?_; refine a8 ⟨_, 2, none⟩ rfl rfl T.B8 rfl (c9 rfl T.i7 rfl (p6 mB rfl) ?_); refine H2 rfl rfl rfl (a9 rfl ?_); refine t7 rfl rfl ?_ ?_
  ·intro hg3; have hg3' := hg3; try simp at hg3'
   refine i3 rfl rfl hg3 (a8 ⟨_, 1, none⟩ rfl rfl T.A8 rfl (i3 rfl rfl hg3 (c9 rfl T.i7 rfl (p6 mB rfl) ?_))); refine i3 rfl rfl hg3 (H2 rfl rfl rfl (i3 rfl rfl hg3 (a9 rfl ?_))); refine t7 rfl rfl ?_ ?_
   ·intro hg4; have hg4' := hg4; try simp at hg4'
    refine i3 rfl rfl hg4 (a8 ⟨_, 3, none⟩ rfl rfl T.u9 rfl (i3 rfl rfl hg4 (c9 rfl T.m8 rfl (p6 mB rfl) (i3 rfl rfl hg4 (j3 rfl T.l4 rfl ?_))))); refine i3 rfl rfl hg4 (H5 rfl rfl rfl (i3 rfl rfl hg3 ?_)); refine p_f rfl rfl (bf1 hg4) rfl (p_t rfl rfl (bt1 hg3) rfl (a9 rfl ?_)); refine t7 rfl rfl ?_ ?_
    ·intro hg5; have hg5' := hg5; try simp at hg5'
     refine i3 rfl rfl hg5 (a8 ⟨_, 2, none⟩ rfl rfl T.B8 rfl (i3 rfl rfl hg5 (c9 rfl T.i7 rfl (p6 mB rfl) ?_))); refine i3 rfl rfl hg5 (I3 rfl rfl rfl (i3 rfl rfl hg5 (a9 rfl ?_))); refine t7 rfl rfl ?_ ?_
     ·intro hg6; have hg6' := hg6; try simp at hg6'
      refine i3 rfl rfl hg6 (a8 ⟨_, 1, none⟩ rfl rfl T.A8 rfl (i3 rfl rfl hg6 (c9 rfl T.i7 rfl (p6 mB rfl) ?_))); refine i3 rfl rfl hg6 (I3 rfl rfl rfl (i3 rfl rfl hg5 ?_)); refine p_t rfl rfl (bt1 hg6) rfl ?_; refine i3 rfl rfl hg5 (a9 rfl ?_); refine t7 rfl rfl ?_ ?_
      ·intro hg7; have hg7' := hg7; try simp at hg7'
       refine i3 rfl rfl hg7 (a8 ⟨_, 3, none⟩ rfl rfl T.u9 rfl (i3 rfl rfl hg7 (c9 rfl T.m8 rfl (p6 mB rfl) (i3 rfl rfl hg7 (j3 rfl T.l4 rfl ?_))))); refine i3 rfl rfl hg7 (I3 rfl rfl rfl (i3 rfl rfl hg5 ?_)); refine p_t rfl rfl (bt1 hg7) rfl (p_f rfl rfl (bf1 hg5) rfl ?_); refine c8 ?_; exact J7 _ () trivial ⟨rfl, rfl, rfl, rfl, congrArg (fun b => some (Value.bool b)) (by simp only [kindBad, Hd.p]; simp_all), trivial⟩ (List.Sublist.refl _) mC
      intro hg7; have hg7' := hg7; try simp at hg7'
      refine k4 rfl rfl rfl rfl rfl hg7 (k4 rfl rfl rfl rfl rfl hg7 (k4 rfl rfl rfl rfl rfl hg7 (k4 rfl rfl rfl rfl rfl hg7 (i3 rfl rfl hg5 ?_)))); refine p_f rfl rfl (bf2 hg7) rfl (p_f rfl rfl (bf1 hg5) rfl ?_); refine c8 ?_; exact J7 _ () trivial ⟨rfl, rfl, rfl, rfl, congrArg (fun b => some (Value.bool b)) (by simp only [kindBad, Hd.p]; simp_all), trivial⟩ (List.Sublist.refl _) mC
     intro hg6; have hg6' := hg6; try simp at hg6'
     refine k4 rfl rfl rfl rfl rfl hg6 (k4 rfl rfl rfl rfl rfl hg6 (k4 rfl rfl rfl rfl rfl hg6 (i3 rfl rfl hg5 ?_))); refine p_f rfl rfl (bf2 hg6) rfl ?_; refine i3 rfl rfl hg5 (a9 rfl (k4 rfl rfl rfl rfl rfl rfl (k4 rfl rfl rfl rfl rfl rfl (k4 rfl rfl rfl rfl rfl rfl (k4 rfl rfl rfl rfl rfl rfl (i3 rfl rfl hg5 (p_f rfl rfl rfl rfl ?_))))))); refine p_f rfl rfl (bf1 hg5) rfl ?_; refine c8 ?_; exact J7 _ () trivial ⟨rfl, rfl, rfl, rfl, congrArg (fun b => some (Value.bool b)) (by simp only [kindBad, Hd.p]; simp_all), trivial⟩ (List.Sublist.refl _) mC
    intro hg5; have hg5' := hg5; try simp at hg5'
    refine k4 rfl rfl rfl rfl rfl hg5 (k4 rfl rfl rfl rfl rfl hg5 (k4 rfl rfl rfl rfl rfl hg5 (k4 rfl rfl rfl rfl rfl hg5 (P5 rfl rfl rfl rfl rfl rfl (P5 rfl rfl rfl rfl rfl rfl (P5 rfl rfl rfl rfl rfl rfl (k4 rfl rfl rfl rfl rfl hg5 (k4 rfl rfl rfl rfl rfl hg5 (P5 rfl rfl rfl rfl rfl rfl (P5 rfl rfl rfl rfl rfl rfl (P5 rfl rfl rfl rfl rfl rfl ?_))))))))))); refine P5 rfl rfl rfl rfl rfl rfl (k4 rfl rfl rfl rfl rfl hg5 ?_); refine p_t rfl rfl (bt2 hg5) rfl ?_; refine c8 ?_; exact J7 _ () trivial ⟨rfl, rfl, rfl, rfl, congrArg (fun b => some (Value.bool b)) (by simp only [kindBad, Hd.p]; simp_all), trivial⟩ (List.Sublist.refl _) mC
   intro hg4; have hg4' := hg4; try simp at hg4'
   refine k4 rfl rfl rfl rfl rfl hg4 (k4 rfl rfl rfl rfl rfl hg4 (k4 rfl rfl rfl rfl rfl hg4 (k4 rfl rfl rfl rfl rfl hg4 (i3 rfl rfl hg3 ?_)))); refine p_t rfl rfl (bt2 hg4) rfl (p_t rfl rfl (bt1 hg3) rfl ?_); refine a9 rfl (k4 rfl rfl rfl rfl rfl rfl (k4 rfl rfl rfl rfl rfl rfl (k4 rfl rfl rfl rfl rfl rfl (k4 rfl rfl rfl rfl rfl rfl (P5 rfl rfl rfl rfl rfl rfl (P5 rfl rfl rfl rfl rfl rfl (P5 rfl rfl rfl rfl rfl rfl (k4 rfl rfl rfl rfl rfl rfl (k4 rfl rfl rfl rfl rfl rfl (P5 rfl rfl rfl rfl rfl rfl (P5 rfl rfl rfl rfl rfl rfl ?_))))))))))); refine P5 rfl rfl rfl rfl rfl rfl (P5 rfl rfl rfl rfl rfl rfl (k4 rfl rfl rfl rfl rfl rfl (p_t rfl rfl rfl rfl (c8 ?_)))); exact J7 _ () trivial ⟨rfl, rfl, rfl, rfl, congrArg (fun b => some (Value.bool b)) (by simp only [kindBad, Hd.p]; simp_all), trivial⟩ (List.Sublist.refl _) mC
  intro hg3; have hg3' := hg3; try simp at hg3'
  refine k4 rfl rfl rfl rfl rfl hg3 (k4 rfl rfl rfl rfl rfl hg3 (k4 rfl rfl rfl rfl rfl hg3 (k4 rfl rfl rfl rfl rfl hg3 (P5 rfl rfl rfl rfl rfl rfl (P5 rfl rfl rfl rfl rfl rfl (P5 rfl rfl rfl rfl rfl rfl (P5 rfl rfl rfl rfl rfl rfl (k4 rfl rfl rfl rfl rfl hg3 ?_)))))))); refine p_f rfl rfl (bf2 hg3) rfl ?_; refine a9 rfl (i3 rfl rfl rfl ?_); refine a8 ⟨_, 2, none⟩ rfl rfl T.B8 rfl (i3 rfl rfl rfl (c9 rfl T.i7 rfl (p6 mB rfl) ?_)); refine i3 rfl rfl rfl (I3 rfl rfl rfl (i3 rfl rfl rfl (a9 rfl ?_))); refine t7 rfl rfl ?_ ?_
  ·intro hg8; have hg8' := hg8; try simp at hg8'
   refine i3 rfl rfl hg8 (a8 ⟨_, 1, none⟩ rfl rfl T.A8 rfl (i3 rfl rfl hg8 (c9 rfl T.i7 rfl (p6 mB rfl) ?_))); refine i3 rfl rfl hg8 (I3 rfl rfl rfl (i3 rfl rfl rfl ?_)); refine p_t rfl rfl (bt1 hg8) rfl ?_; refine i3 rfl rfl rfl (a9 rfl ?_); refine t7 rfl rfl ?_ ?_
   ·intro hg9; have hg9' := hg9; try simp at hg9'
    refine i3 rfl rfl hg9 (a8 ⟨_, 3, none⟩ rfl rfl T.u9 rfl (i3 rfl rfl hg9 (c9 rfl T.m8 rfl (p6 mB rfl) (i3 rfl rfl hg9 (j3 rfl T.l4 rfl ?_))))); refine i3 rfl rfl hg9 (I3 rfl rfl rfl (i3 rfl rfl rfl ?_)); refine p_t rfl rfl (bt1 hg9) rfl ?_; refine p_f rfl rfl rfl rfl (c8 ?_); exact J7 _ () trivial ⟨rfl, rfl, rfl, rfl, congrArg (fun b => some (Value.bool b)) (by simp only [kindBad, Hd.p]; simp_all), trivial⟩ (List.Sublist.refl _) mC
   intro hg9; have hg9' := hg9; try simp at hg9'
   refine k4 rfl rfl rfl rfl rfl hg9 (k4 rfl rfl rfl rfl rfl hg9 (k4 rfl rfl rfl rfl rfl hg9 (k4 rfl rfl rfl rfl rfl hg9 (i3 rfl rfl rfl ?_)))); refine p_f rfl rfl (bf2 hg9) rfl ?_; refine p_f rfl rfl rfl rfl (c8 ?_); exact J7 _ () trivial ⟨rfl, rfl, rfl, rfl, congrArg (fun b => some (Value.bool b)) (by simp only [kindBad, Hd.p]; simp_all), trivial⟩ (List.Sublist.refl _) mC
  intro hg8; have hg8' := hg8; try simp at hg8'
  refine k4 rfl rfl rfl rfl rfl hg8 (k4 rfl rfl rfl rfl rfl hg8 (k4 rfl rfl rfl rfl rfl hg8 (i3 rfl rfl rfl ?_))); refine p_f rfl rfl (bf2 hg8) rfl ?_; refine i3 rfl rfl rfl (a9 rfl (k4 rfl rfl rfl rfl rfl rfl (k4 rfl rfl rfl rfl rfl rfl (k4 rfl rfl rfl rfl rfl rfl (k4 rfl rfl rfl rfl rfl rfl (i3 rfl rfl rfl (p_f rfl rfl rfl rfl (p_f rfl rfl rfl rfl (c8 ?_))))))))); exact J7 _ () trivial ⟨rfl, rfl, rfl, rfl, congrArg (fun b => some (Value.bool b)) (by simp only [kindBad, Hd.p]; simp_all), trivial⟩ (List.Sublist.refl _) mC
 refine fun _ _ => ?_; refine w6 rfl (fun hb11 => ?_) (fun hb11 => ?_)
 ·have hb11' := hb11; try simp at hb11'
  refine i5 (b8 rfl (d6 (G0 ?_))); exact ret1 () rfl (congrArg (fun b => some (int b)) (by rw [hH, if_pos hb11])) rfl trivial nil_sb trivial
 have hb11' := hb11; try simp at hb11'
 refine i6 (d8 (i5 (b8 rfl (d6 (j5 ?_))))); exact ret1 () rfl (congrArg (fun b => some (int b)) (by rw [hH, if_neg (by rw [hb11]; simp)])) rfl trivial nil_sb trivial
theorem E4 (cs : List Cl) (hs : List Hd) : (trOf cs hs).hs.length = hs.length := List.length_map ..
theorem cT {A B : Option Addr} {ca cb : Nat} (cs : List Cl) (hs : List Hd) (hca : cs.length ≤ ca) (hcb : hs.length ≤ cb) (ha : ∀ h ∈ hs, h.2.2.2.l.length ≤ 1000000) : Meets Tryz.prog F.mN [.agg #[.slice A cs.length ca, .slice B hs.length cb]] { LI := [Row A (rows cs), RowsF B hs Hd.row], val := fun _ : Unit => int (checkT (trOf cs hs)) } := by
 refine i9 F.dj5 rfl t4 fun w0 => ?_; refine i5 ?_; refine C0 rfl rfl fun gB => ?_; refine b8 rfl (d6 (dV ?_)); have hl := E4 cs hs; refine d9 ?_; refine a8 ⟨_, 0, none⟩ rfl rfl T.q8 rfl (c9 rfl T.q9 rfl (l9 mB rfl) (j3 rfl T.t9 rfl ?_)); refine H5 rfl rfl rfl (a9 rfl ?_); refine t7 rfl rfl ?_ ?_
 ·intro hg1; have hg1' := hg1; try simp at hg1'
  have h6 : cs.length ≤ 6 := by simp at hg1; omega
  refine i3 rfl rfl hg1 (a8 ⟨_, 1, none⟩ rfl rfl T.j4 rfl (i3 rfl rfl hg1 (c9 rfl T.j6 rfl (l9 mB rfl) (i3 rfl rfl hg1 (j3 rfl T.k9 rfl ?_))))); refine i3 rfl rfl hg1 (H5 rfl rfl rfl ?_); refine p_f rfl rfl (bf1 hg1) rfl ?_; refine d6 ?_; refine m3 rfl (fun hb1 => ?_) (fun hb1 => ?_)
  ·have hb1' := hb1; try simp at hb1'
   refine i5 (b8 rfl (d6 (G0 ?_))); exact ret1 () rfl (congrArg (fun b => some (int b)) (by rw [checkT, if_pos (by rw [hl]; simp only; omega)])) rfl trivial nil_sb trivial
  have hb1' := hb1; try simp at hb1'
  have h6h : hs.length ≤ 6 := by omega
  have hT : checkT (trOf cs hs) = if ¬ firstE (clsErr cs) cs.length = 0 then firstE (clsErr cs) cs.length else firstE (headErr (trOf cs hs)) hs.length := by rw [checkT, if_neg (by rw [hl]; simp only; omega), hl]
  refine i6 (d8 (d7 (i5 ?_))); refine a8 ⟨_, 0, none⟩ rfl rfl T.q8 rfl (c9 rfl T.q9 rfl (l9 mB rfl) (j3 rfl T.t9 rfl ?_)); refine a9 rfl (d6 (i8 ?_)); refine p9 (β := Nat) ⟨fun k => k ≤ cs.length ∧ firstE (clsErr cs) k = 0, fun k => [(1, .pointer (b4 gB)), (19, int cs.length), (20, int k)], fun _ => [(gB, .cells #[.slice A cs.length ca, .slice B hs.length cb] T.k7 (0, 0))], fun _ => [Row A (rows cs), RowsF B hs Hd.row]⟩ (fun k => cs.length - k) 0 ⟨Nat.zero_le _, rfl⟩ mC (List.Sublist.refl _) mC fun k hk => ?_; obtain ⟨hk, ht⟩ := hk; refine i5 (u4 rfl rfl rfl (d6 (d7 ?_))); refine m3 rfl (fun hb2 => ?_) (fun hb2 => ?_)
  ·have hb2' := hb2; try simp at hb2'
   have hk2 : k < cs.length := by omega
   refine i6 (d8 (d7 (i8 (i5 (a9 rfl (b8 rfl (j8 ?_))))))); refine a8 ⟨_, 0, none⟩ rfl rfl T.q8 rfl (c9 rfl T.q9 rfl (l9 mB rfl) (a9 rfl ?_)); refine j0 F.qN rfl rfl (jG cs k (by omega) hca hk2) l7 mC fun _ _ => ?_; refine b8 rfl (j8 (a9 rfl (H2 rfl rfl rfl (d6 ?_)))); refine m3 rfl (fun hb3 => ?_) (fun hb3 => ?_)
   ·have hb3' := hb3; try simp at hb3'
    refine i5 (a9 rfl (b8 rfl (d6 (j5 (w8 (r6 (w8 ?_))))))); exact ret1 () rfl (congrArg (fun b => some (int b)) (by rw [hT, firstE_stop ht hb3 _ hk2, if_pos hb3])) rfl trivial nil_sb trivial
   have hb3' := hb3; try simp at hb3'
   refine i6 (t6 (d8 (d9 ?_))); refine r7 _ rfl rfl rfl rfl m6 ?_; refine a9 rfl (c8 ?_); exact again _ (k + 1) ⟨by omega, by rw [firstE_succ ht]; exact Classical.not_not.1 hb3⟩ (u2 (by omega)) mC (List.Sublist.refl _) mC
  have hb2' := hb2; try simp at hb2'
  have hk2 : k = cs.length := by omega
  subst hk2; rw [if_neg (not_not_intro ht)] at hT; refine p8 (v8 (p7 (d8 (d7 (i5 ?_))))); refine a8 ⟨_, 1, none⟩ rfl rfl T.j4 rfl (c9 rfl T.j6 rfl (l9 mB rfl) (j3 rfl T.k9 rfl ?_)); refine a9 rfl (d6 (i8 ?_)); refine p9 (β := Nat) ⟨fun k => k ≤ hs.length ∧ firstE (headErr (trOf cs hs)) k = 0, fun k => [(1, .pointer (b4 gB)), (33, int hs.length), (34, int k)], fun _ => [(gB, .cells #[.slice A cs.length ca, .slice B hs.length cb] T.k7 (0, 0))], fun _ => [Row A (rows cs), RowsF B hs Hd.row]⟩ (fun k => hs.length - k) 0 ⟨Nat.zero_le _, rfl⟩ mC (List.Sublist.refl _) mC fun k hk => ?_; obtain ⟨hk, ht⟩ := hk; refine i5 (u4 rfl rfl rfl (d6 (d7 ?_))); refine m3 rfl (fun hb4 => ?_) (fun hb4 => ?_)
  ·have hb4' := hb4; try simp at hb4'
   have hk2 : k < hs.length := by omega
   refine i6 (d8 (d7 (i8 (i5 (a9 rfl (b8 rfl (j8 ?_))))))); refine D4 rfl T.m4 T.k8 rfl mB (by rfl) (a9 rfl ?_); refine j0 F.rR rfl rfl (lM cs hs k h6h h6 hcb hk2 ha) l7 mC fun _ _ => ?_; refine b8 rfl (j8 (a9 rfl (H2 rfl rfl rfl (d6 ?_)))); refine m3 rfl (fun hb5 => ?_) (fun hb5 => ?_)
   ·have hb5' := hb5; try simp at hb5'
    refine i5 (a9 rfl (b8 rfl (d6 (j5 (w8 (r6 (w8 ?_))))))); exact ret1 () rfl (congrArg (fun b => some (int b)) (by rw [hT, firstE_stop ht hb5 _ hk2])) rfl trivial nil_sb trivial
   have hb5' := hb5; try simp at hb5'
   refine i6 (t6 (d8 (d9 ?_))); refine r7 _ rfl rfl rfl rfl m6 ?_; refine a9 rfl (c8 ?_); exact again _ (k + 1) ⟨by omega, by rw [firstE_succ ht]; exact Classical.not_not.1 hb5⟩ (u2 (by omega)) mC (List.Sublist.refl _) mC
  have hb4' := hb4; try simp at hb4'
  have hk2 : k = hs.length := by omega
  subst hk2; refine p8 (v8 (p7 (d8 (i5 (b8 rfl (d6 (j5 ?_))))))); exact ret1 () rfl (congrArg (fun b => some (int b)) (by rw [hT, ht])) rfl trivial nil_sb trivial
 intro hg1; have hg1' := hg1; try simp at hg1'
 refine k4 rfl rfl rfl rfl rfl hg1 (k4 rfl rfl rfl rfl rfl hg1 (k4 rfl rfl rfl rfl rfl hg1 (k4 rfl rfl rfl rfl rfl hg1 ?_))); refine p_t rfl rfl (bt2 hg1) rfl ?_; refine d6 (c_t rfl rfl (i5 (b8 rfl (d6 (G0 ?_))))); exact ret1 () rfl (congrArg (fun b => some (int b)) (by rw [checkT, if_pos (by simp at hg1; simp only; omega)])) rfl trivial nil_sb trivial
end Go.Proofs.YtdlbbfcfahahdaaGreat
end
section
namespace Go.Proofs.YtdlbbfcfahahdaaGreat
open Go Go.W
set_option maxRecDepth 20000
attribute [local irreducible] HL HC HQ HB Row Rows2 Blk Facts
instance : El Nat where
  default := 0
  cells m := [u8 m]
  sz := 1
  len _ := rfl
  one a u h := by simp at h; subst h; rfl
inductive Kd where
  | art (c : Int) (al : Sl Int)
  | ptr (s : Int)
  | idx (al : Sl Int)
def Kd.v : Kd → Value
  | .art c al => .iface T.rB (.agg #[int c, .slice al.a al.l.length al.c])
  | .ptr s => .iface T.rA (.agg #[int s])
  | .idx al => .iface T.zF (.agg #[.slice al.a al.l.length al.c])
instance : El Kd where
  default := .ptr 0
  cells m := [m.v]
  sz := 1
  len _ := rfl
  one a u h := by simp at h; subst h; cases a <;> rfl
def kindOf (h : Hd) : Kd := if ¬ h.2.2.1 = -1 then .ptr h.2.2.1 else if ¬ h.2.1 = -1 then .art h.2.1 h.2.2.2 else .idx h.2.2.2
def kindsN (hs : List Hd) (k : Nat) : List Kd := (hs.take k).map kindOf
theorem qA {hs : List Hd} {k : Nat} (h : k ≤ hs.length) : (kindsN hs k).length = k := by simp [kindsN, h]
theorem tC {hs : List Hd} {k : Nat} (h : k < hs.length) : kindsN hs (k + 1) = kindsN hs k ++ [kindOf (hs.getD k default)] := by
  unfold kindsN; rw [G8 hs k h, List.map_append]
  rfl
def maskOf (l : List Int) : Nat := l.foldl (fun m x => m ||| 2 ^ x.toNat) 0
theorem pj5 (l : List Int) (x : Int) : maskOf (l ++ [x]) = maskOf l ||| 2 ^ x.toNat := by unfold maskOf; rw [List.foldl_append]; rfl
theorem kj2 : ∀ (l : List Int) (m : Nat), m < 256 → (∀ x ∈ l, x.toNat < 8) → l.foldl (fun m x => m ||| 2 ^ x.toNat) m < 256
  | [], m, hm, _ => hm
  | x :: l, m, hm, h => by
    rw [List.foldl_cons]; refine kj2 l _ (Nat.or_lt_two_pow (n := 8) hm ?_) (fun y hy => h y (List.mem_cons_of_mem _ hy)); exact Nat.pow_lt_pow_right (by omega) (h x (List.mem_cons_self ..))
theorem mask_lt {l : List Int} (h : ∀ x ∈ l, x.toNat < 8) : maskOf l < 256 := kj2 l 0 (by decide) h
def masksN (cs : List Cl) (k : Nat) : List Nat := (List.range k).map fun i : Nat => maskOf (pathT cs (i : Int))
theorem gx8 (cs : List Cl) (k : Nat) : (masksN cs k).length = k := by simp [masksN]
theorem lx0 (cs : List Cl) (k : Nat) : masksN cs (k + 1) = masksN cs k ++ [maskOf (pathT cs (k : Int))] := by unfold masksN; rw [List.range_succ, List.map_append]; rfl
theorem pj4 {cs : List Cl} {k i : Nat} (h : i < k) : (masksN cs k).getD i default = maskOf (pathT cs (i : Int)) := by
  rw [t5 (by rw [gx8]; exact h)]
  simp [masksN]
theorem lq8 {cs : List Cl} (h6 : cs.length ≤ 6) (hc : ∀ i, i < cs.length → ClsOK cs i) {c : Int} (hl : c < (cs.length : Int)) : ∀ x ∈ pathT cs c, 0 ≤ x ∧ x < 6 := fun x hx => by
  have := (jz7 cs hc c.toNat c (Nat.le_refl _) hl).2 x hx
  omega
theorem pj6 {cs : List Cl} (h6 : cs.length ≤ 6) (hc : ∀ i, i < cs.length → ClsOK cs i) {c : Int} (hl : c < (cs.length : Int)) : maskOf (pathT cs c) < 256 := mask_lt fun x hx => by have := lq8 h6 hc hl x hx; omega
theorem gx9 {cs : List Cl} (h6 : cs.length ≤ 6) (hc : ∀ i, i < cs.length → ClsOK cs i) {k : Nat} (hk : k < cs.length) : maskOf (pathT cs (k : Int)) = 2 ^ k ||| maskOf (pathT cs (cs.getD k default).2) := by
  rw [gx6 cs hc (by omega) (by omega), pj5, Nat.or_comm]
  rfl
theorem rq2 {cs : List Cl} {c : Int} (h : c < 0) : maskOf (pathT cs c) = 0 := by rw [vF cs h]; rfl
theorem pmA {α : Type} (l : List α) (a b : α) : (l ++ [a, b]).Perm (a :: (l ++ [b])) := E1 fun p => by simp only [List.countP_append, List.countP_cons, List.countP_nil]; omega
theorem pmB {α : Type} (l : List α) (a b : α) : (a :: (l ++ [b])).Perm (l ++ [a, b]) := (pmA l a b).symm
theorem pmC {α : Type} (l : List α) (a : α) : (l ++ [a]).Perm (a :: l) := List.perm_append_comm (l₂ := [a])
def beginL (cs : List Cl) (hs : List Hd) (A : Option Addr) (ca : Nat) (B : Option Addr) (cb : Nat) (x : Nat × OutC × OutC) : List Fact := [Row (some ⟨x.1, 0, none⟩) [.slice A cs.length ca, .slice B hs.length cb, .slice x.2.1.1 cs.length x.2.1.2, .slice x.2.2.1 hs.length x.2.2.2], Row x.2.1.1 (rows (masksN cs cs.length)), Row x.2.2.1 (rows (kindsN hs hs.length))]
theorem dG (m i : Nat) (hm : m < 256) (hi : i < 8) : Meets Tryz.prog F.S7 [u8 m, int i] { val := fun _ : Unit => u8 (m ||| 2 ^ i) } := by
 refine i9 F.mJ rfl t4 fun w0 => ?_; refine i5 (b8 rfl (j8 (a9 rfl (a9 rfl (r_shl8 i rfl rfl rfl rfl hi ?_))))); refine r_or8 rfl rfl rfl hm (Nat.pow_lt_pow_right (by omega) hi : 2 ^ i < 2 ^ 8) ?_; refine b8 rfl (d6 (j5 ?_)); exact ret1 () rfl rfl rfl trivial nil_sb trivial
set_option maxHeartbeats 1000000 in
theorem uL {A B : Option Addr} {ca cb : Nat} (cs : List Cl) (hs : List Hd) (hca : cs.length ≤ ca) (hcb : hs.length ≤ cb) (ha : ∀ h ∈ hs, h.2.2.2.l.length ≤ 1000000) : Meets Tryz.prog F.mO [.agg #[.slice A cs.length ca, .slice B hs.length cb]] { LI := [Row A (rows cs), RowsF B hs Hd.row], val := fun x : Nat × OutC × OutC => .tuple #[if checkT (trOf cs hs) = 0 then .pointer (some ⟨x.1, 0, none⟩) else .pointer none, int (checkT (trOf cs hs))], LO := fun x => if checkT (trOf cs hs) = 0 then beginL cs hs A ca B cb x else [] } := by
 refine i9 F.dj6 rfl t4 fun w0 => ?_; refine i5 ?_; refine C0 rfl rfl fun gB => ?_; refine b8 rfl (b8 rfl (d6 (d7 (i5 ?_)))); refine D4 rfl T.m4 T.k8 rfl mB (by rfl) ?_; refine j0 F.mK rfl rfl (cT cs hs hca hcb ha) l7 mC fun _ _ => ?_; refine b8 rfl (j8 (a9 rfl (H2 rfl rfl rfl (d6 ?_)))); refine m3 rfl (fun hb1 => ?_) (fun hb1 => ?_)
 ·have hb1' := hb1; try simp at hb1'
  refine i5 (a9 rfl (b8 rfl (b8 rfl (d6 (G0 ?_))))); exact ret2 (0, (none, 0), (none, 0)) rfl rfl rfl (by show Value.tuple #[if checkT (trOf cs hs) = 0 then _ else _, _] = _; rw [if_neg hb1]) rfl trivial nil_sb (by show LSub _ (if checkT (trOf cs hs) = 0 then _ else []); rw [if_neg hb1]; trivial)
 have hb1' := hb1; try simp at hb1'
 have hok := mT (Classical.not_not.1 hb1); have h6 : cs.length ≤ 6 := hok.c6; have h6h := hok.h6; rw [E4] at h6h; have hcl : ∀ i, i < cs.length → ClsOK cs i := hok.c; refine i6 (d8 (i5 ?_)); refine D4 rfl T.m4 T.k8 rfl mB (by rfl) (B5 _ rfl rfl (fun _ => T.az0 ..) ?_); refine C0 rfl rfl fun gB_1 => ?_; refine b8 rfl (d6 (d7 (i5 ?_))); refine a8 ⟨_, 0, none⟩ rfl rfl T.q8 rfl (c9 rfl T.q9 rfl (l9 mB rfl) (j3 rfl T.t9 rfl ?_)); refine a9 rfl (d6 (i8 ?_)); refine p9 (β := Nat × OutC × Hp) ⟨fun x => x.1 ≤ cs.length ∧ Grow T.dH 1 x.2.1.1 x.1 x.2.1.2 (rows (masksN cs x.1)) x.2.2, fun x => [(1, .pointer (b4 gB)), (5, .pointer (b4 gB_1)), (20, .slice A cs.length ca), (21, int cs.length), (22, int x.1)], fun x => (gB_1, .cells #[.slice A cs.length ca, .slice B hs.length cb, .slice x.2.1.1 x.1 x.2.1.2, .slice none 0 0] T.rP (0, 0)) :: (x.2.2 ++ [(gB, .cells #[.slice A cs.length ca, .slice B hs.length cb] T.k7 (0, 0))]), fun _ => [Row A (rows cs), RowsF B hs Hd.row]⟩ (fun x => cs.length - x.1) (0, (none, 0), []) ⟨Nat.zero_le _, Grow.nil _ _⟩ mC (List.Sublist.refl _) mC fun x hx => ?_; obtain ⟨k, ⟨oa, oc⟩, og⟩ := x; obtain ⟨hk, hG⟩ := hx; simp only at hk hG; refine i5 (u4 rfl rfl rfl (d6 (d7 ?_))); refine m3 rfl (fun hb2 => ?_) (fun hb2 => ?_)
 ·have hb2' := hb2; try simp at hb2'
  have hk2 : k < cs.length := by omega
  have hck := hcl k hk2; have hlo := hck.lo; have hhi := hck.hi; refine i6 (d8 (d7 (i8 (i5 (a9 rfl ?_))))); refine m7 (α := Cl) cs k rfl T.t9 T.A7 rfl rfl rfl mB rfl hk2 (by decide) (D9 rfl T.O6 T.A7 rfl rfl (B4 mB (D1 (by omega))) ?_); refine B6 rfl (fun _ => T.kU _) fun gA => ?_; refine b8 rfl ?_; refine B9 rfl rfl (by first | exact .refl _ | exact perm2 _ _ _ | exact perm3 _ _ _ _ | exact perm4 _ _ _ _ _) T.A7 (by rfl) (by rfl) ?_; refine j8 (a9 rfl ?_); refine j0 F.lL rfl rfl (dG 0 k (by decide) (by omega)) l7 trivial fun _ _ => ?_; refine b8 rfl (d6 ?_); refine W0 ⟨fun _ : Unit => True, fun _ => [(1, .pointer (b4 gB)), (5, .pointer (b4 gB_1)), (20, .slice A cs.length ca), (21, int cs.length), (22, int k), (8, u8 (maskOf (pathT cs (k : Int))))], fun _ => (gB_1, .cells #[.slice A cs.length ca, .slice B hs.length cb, .slice oa k oc, .slice none 0 0] T.rP (0, 0)) :: (og ++ [(gB, .cells #[.slice A cs.length ca, .slice B hs.length cb] T.k7 (0, 0))]), fun _ => [Row A (rows cs), RowsF B hs Hd.row]⟩ ?_ ?_
  ·skip
   refine i5 ?_; refine a8 ⟨_, 1, none⟩ rfl rfl T.K4 rfl (c9 rfl T.i7 rfl (l9 mB rfl) ?_); refine R2 rfl rfl rfl (d6 ?_); refine m3 rfl (fun hb3 => ?_) (fun hb3 => ?_)
   ·have hb3' := hb3; try simp at hb3'
    obtain ⟨gC, cur, e1, e2, hnc, hcm, hcs, hct, _⟩ := hG.open_ (by omega); subst e1; subst e2
    have hcell : cur[0 + (cs.getD k default).2.toNat * 1]? = some (u8 (maskOf (pathT cs (cs.getD k default).2))) := by
      have h1 : (rows (masksN cs k))[(cs.getD k default).2.toNat * 1]? = some (u8 (maskOf (pathT cs (cs.getD k default).2))) := k6 (by rw [gx8]; omega) (by rw [pj4 (by omega), Int.toNat_of_nonneg hb3]; rfl); rw [← hct, List.getElem?_take, if_pos (by omega)] at h1; rw [Nat.zero_add, ← Array.getElem?_toList]; exact h1
    refine A6 9 mixed (by decide) (by decide) rfl rfl (i4 (fun w1 => a9 rfl (q_z rfl)) (i4 (fun w1 => a9 rfl (q_z rfl)) (i4 (fun w1 => r8 rfl rfl (q_z rfl)) (i4 (fun w1 => a8 ⟨_, 2, none⟩ rfl rfl T.aF rfl (q_z rfl)) (i4 (fun w1 => c9 rfl T.Z4 rfl (j9 mB rfl) (q_z rfl)) (i4 (fun w1 => a8 ⟨_, 1, none⟩ rfl rfl T.K4 rfl (q_z rfl)) (i4 (fun w1 => c9 rfl T.i7 rfl (j9 mB rfl) (q_z rfl)) ?_))))))); refine i4 (fun w1 => u1 (cs.getD k default).2.toNat _ rfl T.uH T.xJ rfl rfl (Int.toNat_of_nonneg hb3).symm (by omega) rfl (q_z rfl)) (i4 (fun w1 => c9 rfl T.tL rfl (j9 mB hcell) (q_z rfl)) ?_); refine v9 ⟨rfl, ?_⟩; refine r_or8 rfl rfl rfl (by rw [Nat.zero_or]; exact (Nat.pow_lt_pow_right (by omega) (by omega) : 2 ^ k < 2 ^ 8)) (pj6 h6 hcl (by omega)) ?_; refine b8 rfl (c8 ?_); exact J7 _ () trivial ⟨rfl, rfl, rfl, rfl, rfl, congrArg (fun b => some (u8 b)) (by rw [Nat.zero_or]; exact (gx9 h6 hcl hk2).symm), trivial⟩ (List.sublist_cons_self _ _) mC
   have hb3' := hb3; try simp at hb3'
   refine i6 ?_; exact J7 _ () trivial ⟨rfl, rfl, rfl, rfl, rfl, congrArg (fun b => some (u8 b)) (by rw [gx9 h6 hcl hk2, rq2 (by omega), Nat.or_zero, Nat.zero_or]), trivial⟩ (List.sublist_cons_self _ _) mC
  refine fun _ _ => ?_; refine d9 (a9 rfl (a9 rfl (r8 rfl rfl ?_))); refine a8 ⟨_, 2, none⟩ rfl rfl T.aF rfl (c9 rfl T.Z4 rfl (l9 mB rfl) (a9 rfl ?_)); refine l6 _ rfl rfl (fun _ => T.pH ..) fun gS => ?_; refine w7 (rows [maskOf (pathT cs (k : Int))]) (List.prefix_refl _) ?_; refine G2 (k + 1) (rows (masksN cs k ++ [maskOf (pathT cs (k : Int))])) T.tJ rfl rfl rfl hG (pmB _ _ _) (Src.row (news := rows [maskOf (pathT cs (k : Int))]) (m := 1) m0 rfl (D0 _) (by decide)) rfl (y6 _ _).symm (by unfold maxLen; omega) (by omega) fun A' c' og' hG' => ?_; refine r8 rfl rfl (a8 ⟨_, 2, none⟩ rfl rfl T.aF rfl (z8 rfl rfl (pmA _ _ _) T.rU (by rfl) (by rfl) ?_)); refine c8 (t6 (d8 (d9 ?_))); refine r7 _ rfl rfl rfl rfl m6 ?_; refine a9 rfl (c8 ?_); exact again _ (k + 1, (A', c'), og') ⟨by show k + 1 ≤ cs.length; omega, by show Grow _ _ _ _ _ (rows (masksN cs (k + 1))) _; rw [lx0]; exact hG'⟩ (u2 (by omega)) mC (List.Sublist.refl _) mC
 have hb2' := hb2; try simp at hb2'
 have hk2 : k = cs.length := by omega
 subst hk2; refine p8 (v8 (p7 (d8 (dV ?_)))); refine dA (pmB _ _ _) (wE hG ?_); clear hG; refine d9 ?_; refine a8 ⟨_, 1, none⟩ rfl rfl T.j4 rfl (c9 rfl T.j6 rfl (l9 mB rfl) (j3 rfl T.k9 rfl ?_)); refine a9 rfl (d6 (i8 (Q7 mB ?_))); refine p9 (β := Nat × OutC × Hp) ⟨fun x => x.1 ≤ hs.length ∧ Grow T.X1 1 x.2.1.1 x.1 x.2.1.2 (rows (kindsN hs x.1)) x.2.2, fun x => [(5, .pointer (b4 gB_1)), (54, .slice B hs.length cb), (55, int hs.length), (56, int x.1)], fun x => (gB_1, .cells #[.slice A cs.length ca, .slice B hs.length cb, .slice oa cs.length oc, .slice x.2.1.1 x.1 x.2.1.2] T.rP (0, 0)) :: x.2.2, fun _ => [Row oa (rows (masksN cs cs.length)), Row A (rows cs), RowsF B hs Hd.row, Row B (rows hs)]⟩ (fun x => hs.length - x.1) (0, (none, 0), []) ⟨Nat.zero_le _, Grow.nil _ _⟩ mC (nil_sb.cons_cons _) mC fun x hx => ?_; obtain ⟨k, ⟨ka, kc⟩, og2⟩ := x; obtain ⟨hk, hG⟩ := hx; simp only at hk hG; refine i5 (u4 rfl rfl rfl (d6 (d7 ?_))); refine m3 rfl (fun hb4 => ?_) (fun hb4 => ?_)
 ·have hb4' := hb4; try simp at hb4'
  have hk2 : k < hs.length := by omega
  refine i6 (d8 (d7 (i8 (i5 ?_)))); refine m7 (α := Hd) hs k rfl T.k9 T.u0 rfl rfl rfl mB rfl hk2 (by decide) (D9 rfl T.L6 T.u0 rfl rfl (B4 mB (D1 (by omega))) ?_); refine B6 rfl (fun _ => T.U9 _) fun gA => ?_; refine B9 rfl rfl (by first | exact .refl _ | exact perm2 _ _ _ | exact perm3 _ _ _ _ | exact perm4 _ _ _ _ _) T.u0 (by rfl) (by rfl) ?_; refine d6 (i8 (d7 ?_)); refine cG (rows [hs.getD k default]) ⟨[], List.append_nil _⟩ ?_; refine d9 ?_; refine a8 ⟨_, 2, none⟩ rfl rfl T.B8 rfl (c9 rfl T.i7 rfl (p6 mB rfl) ?_); refine H2 rfl rfl rfl (b8 rfl (d6 ?_)); refine m3 rfl (fun hb5 => ?_) (fun hb5 => ?_)
  ·have hb5' := hb5; try simp at hb5'
   refine I8 (og2) ([_]) (List.perm_append_comm (l₁ := [_])) 11 [10] mixed (by decide) (by decide) (by decide) rfl rfl rfl (i4 (fun w1 => a9 rfl (q_z rfl)) (i4 (fun w1 => a9 rfl (q_z rfl)) (i4 (fun w1 => r8 rfl rfl (q_z rfl)) (i4 (fun w1 => a8 ⟨_, 3, none⟩ rfl rfl T.G4 rfl (q_z rfl)) (i4 (fun w1 => c9 rfl T.I5 rfl (j9 mB rfl) (q_z rfl)) (i4 (fun w1 => a8 ⟨_, 2, none⟩ rfl rfl T.B8 rfl (q_z rfl)) (i4 (fun w1 => c9 rfl T.i7 rfl (p6 mB rfl) (q_z rfl)) ?_))))))); refine i4 (fun w1 => B5 _ rfl rfl (fun _ => T.uA ..) (q_z rfl)) (i4 (fun w1 => gx5 rfl ⟨_, Tryz.underlying175, rfl⟩ rfl (q_z rfl)) ?_); refine E2 ⟨Nat, fun _ => True, fun g => .slice (b4 g) 1 1, fun g => [Row (b4 g) (rows [Kd.ptr (hs.getD k default).2.2.1])]⟩ rfl rfl rfl ?_ ?_
   ·intro w1; refine l6 _ rfl rfl (fun _ => T.W5 ..) fun gS => ?_; refine c8 ?_; refine C3 (rows [Kd.ptr (hs.getD k default).2.2.1]) (List.prefix_refl _) ?_; exact w3 gS trivial rfl ⟨m0, trivial⟩
   refine cI ⟨OutC × Hp, fun x => Grow T.X1 1 x.1.1 (k + 1) x.1.2 (rows (kindsN hs k ++ [Kd.ptr (hs.getD k default).2.2.1])) x.2, fun x => .slice x.1.1 (k + 1) x.1.2, fun _ => [], fun x => x.2⟩ rfl rfl rfl ?_ ?_
   ·intro g9 _; intro w1; refine G2 (k + 1) (rows (kindsN hs k ++ [Kd.ptr (hs.getD k default).2.2.1])) T.aH rfl rfl rfl hG (hp' := []) (by rw [List.append_nil]) (Src.row (news := rows [Kd.ptr (hs.getD k default).2.2.1]) (m := 1) m0 rfl (D0 _) (by decide)) rfl (y6 _ _).symm (by unfold maxLen; omega) (by omega) fun A' c' og' hG' => ?_; refine c8 ?_; exact H6 ((A', c'), og') hG' (fun _ => rfl) (by rw [List.append_nil]; exact .refl _) trivial
   refine v9 ⟨rfl, ?_⟩; intro g9 _ x hx; obtain ⟨⟨xa, xc⟩, xo⟩ := x; simp only at hx; refine r8 rfl rfl (a8 ⟨_, 3, none⟩ rfl rfl T.G4 rfl (z8 rfl rfl (pmC _ _) T.Z8 (by rfl) (by rfl) ?_)); refine c8 (t6 (t6 (d8 (d9 ?_)))); refine r7 _ rfl rfl rfl rfl m6 ?_; refine a9 rfl (c8 ?_); exact again _ (k + 1, (xa, xc), xo) ⟨by show k + 1 ≤ hs.length; omega, by show Grow _ _ _ _ _ (rows (kindsN hs (k + 1))) _; rw [tC hk2, kindOf, if_pos hb5]; exact hx⟩ (u2 (by omega)) mC (List.Sublist.refl _) mC
  have hb5' := hb5; try simp at hb5'
  refine i5 ?_; refine a8 ⟨_, 1, none⟩ rfl rfl T.A8 rfl (c9 rfl T.i7 rfl (p6 mB rfl) ?_); refine H2 rfl rfl rfl (b8 rfl (d6 ?_)); refine m3 rfl (fun hb6 => ?_) (fun hb6 => ?_)
  ·have hb6' := hb6; try simp at hb6'
   refine I8 (og2) ([_]) (List.perm_append_comm (l₁ := [_])) 13 [12] mixed (by decide) (by decide) (by decide) rfl rfl rfl (i4 (fun w1 => a9 rfl (q_z rfl)) (i4 (fun w1 => a9 rfl (q_z rfl)) (i4 (fun w1 => r8 rfl rfl (q_z rfl)) (i4 (fun w1 => a8 ⟨_, 3, none⟩ rfl rfl T.G4 rfl (q_z rfl)) (i4 (fun w1 => c9 rfl T.I5 rfl (j9 mB rfl) (q_z rfl)) (i4 (fun w1 => a8 ⟨_, 1, none⟩ rfl rfl T.A8 rfl (q_z rfl)) (i4 (fun w1 => c9 rfl T.i7 rfl (p6 mB rfl) (q_z rfl)) ?_))))))); refine i4 (fun w1 => a8 ⟨_, 3, none⟩ rfl rfl T.u9 rfl (q_z rfl)) (i4 (fun w1 => c9 rfl T.m8 rfl (p6 mB rfl) (q_z rfl)) (i4 (fun w1 => B5 _ rfl rfl (fun _ => T.pN ..) (q_z rfl)) (i4 (fun w1 => gx5 rfl ⟨_, Tryz.underlying177, rfl⟩ rfl (q_z rfl)) ?_))); refine E2 ⟨Nat, fun _ => True, fun g => .slice (b4 g) 1 1, fun g => [Row (b4 g) (rows [Kd.art (hs.getD k default).2.1 (hs.getD k default).2.2.2])]⟩ rfl rfl rfl ?_ ?_
   ·intro w1; refine l6 _ rfl rfl (fun _ => T.W5 ..) fun gS => ?_; refine c8 ?_; refine C3 (rows [Kd.art (hs.getD k default).2.1 (hs.getD k default).2.2.2]) (List.prefix_refl _) ?_; exact w3 gS trivial rfl ⟨m0, trivial⟩
   refine cI ⟨OutC × Hp, fun x => Grow T.X1 1 x.1.1 (k + 1) x.1.2 (rows (kindsN hs k ++ [Kd.art (hs.getD k default).2.1 (hs.getD k default).2.2.2])) x.2, fun x => .slice x.1.1 (k + 1) x.1.2, fun _ => [], fun x => x.2⟩ rfl rfl rfl ?_ ?_
   ·intro g9 _; intro w1; refine G2 (k + 1) (rows (kindsN hs k ++ [Kd.art (hs.getD k default).2.1 (hs.getD k default).2.2.2])) T.aH rfl rfl rfl hG (hp' := []) (by rw [List.append_nil]) (Src.row (news := rows [Kd.art (hs.getD k default).2.1 (hs.getD k default).2.2.2]) (m := 1) m0 rfl (D0 _) (by decide)) rfl (y6 _ _).symm (by unfold maxLen; omega) (by omega) fun A' c' og' hG' => ?_; refine c8 ?_; exact H6 ((A', c'), og') hG' (fun _ => rfl) (by rw [List.append_nil]; exact .refl _) trivial
   refine v9 ⟨rfl, ?_⟩; intro g9 _ x hx; obtain ⟨⟨xa, xc⟩, xo⟩ := x; simp only at hx; refine r8 rfl rfl (a8 ⟨_, 3, none⟩ rfl rfl T.G4 rfl (z8 rfl rfl (pmC _ _) T.Z8 (by rfl) (by rfl) ?_)); refine c8 (t6 (t6 (d8 (d9 ?_)))); refine r7 _ rfl rfl rfl rfl m6 ?_; refine a9 rfl (c8 ?_); exact again _ (k + 1, (xa, xc), xo) ⟨by show k + 1 ≤ hs.length; omega, by show Grow _ _ _ _ _ (rows (kindsN hs (k + 1))) _; rw [tC hk2, kindOf, if_neg hb5, if_pos hb6]; exact hx⟩ (u2 (by omega)) mC (List.Sublist.refl _) mC
  have hb6' := hb6; try simp at hb6'
  refine I8 (og2) ([_]) (List.perm_append_comm (l₁ := [_])) 11 [10] mixed (by decide) (by decide) (by decide) rfl rfl rfl (i4 (fun w1 => a9 rfl (q_z rfl)) (i4 (fun w1 => a9 rfl (q_z rfl)) (i4 (fun w1 => r8 rfl rfl (q_z rfl)) (i4 (fun w1 => a8 ⟨_, 3, none⟩ rfl rfl T.G4 rfl (q_z rfl)) (i4 (fun w1 => c9 rfl T.I5 rfl (j9 mB rfl) (q_z rfl)) (i4 (fun w1 => a8 ⟨_, 3, none⟩ rfl rfl T.u9 rfl (q_z rfl)) (i4 (fun w1 => c9 rfl T.m8 rfl (p6 mB rfl) (q_z rfl)) ?_))))))); refine i4 (fun w1 => B5 _ rfl rfl (fun _ => T.yZ ..) (q_z rfl)) (i4 (fun w1 => gx5 rfl ⟨_, Tryz.underlying179, rfl⟩ rfl (q_z rfl)) ?_); refine E2 ⟨Nat, fun _ => True, fun g => .slice (b4 g) 1 1, fun g => [Row (b4 g) (rows [Kd.idx (hs.getD k default).2.2.2])]⟩ rfl rfl rfl ?_ ?_
  ·intro w1; refine l6 _ rfl rfl (fun _ => T.W5 ..) fun gS => ?_; refine c8 ?_; refine C3 (rows [Kd.idx (hs.getD k default).2.2.2]) (List.prefix_refl _) ?_; exact w3 gS trivial rfl ⟨m0, trivial⟩
  refine cI ⟨OutC × Hp, fun x => Grow T.X1 1 x.1.1 (k + 1) x.1.2 (rows (kindsN hs k ++ [Kd.idx (hs.getD k default).2.2.2])) x.2, fun x => .slice x.1.1 (k + 1) x.1.2, fun _ => [], fun x => x.2⟩ rfl rfl rfl ?_ ?_
  ·intro g9 _; intro w1; refine G2 (k + 1) (rows (kindsN hs k ++ [Kd.idx (hs.getD k default).2.2.2])) T.aH rfl rfl rfl hG (hp' := []) (by rw [List.append_nil]) (Src.row (news := rows [Kd.idx (hs.getD k default).2.2.2]) (m := 1) m0 rfl (D0 _) (by decide)) rfl (y6 _ _).symm (by unfold maxLen; omega) (by omega) fun A' c' og' hG' => ?_; refine c8 ?_; exact H6 ((A', c'), og') hG' (fun _ => rfl) (by rw [List.append_nil]; exact .refl _) trivial
  refine v9 ⟨rfl, ?_⟩; intro g9 _ x hx; obtain ⟨⟨xa, xc⟩, xo⟩ := x; simp only at hx; refine r8 rfl rfl (a8 ⟨_, 3, none⟩ rfl rfl T.G4 rfl (z8 rfl rfl (pmC _ _) T.Z8 (by rfl) (by rfl) ?_)); refine c8 (t6 (t6 (d8 (d9 ?_)))); refine r7 _ rfl rfl rfl rfl m6 ?_; refine a9 rfl (c8 ?_); exact again _ (k + 1, (xa, xc), xo) ⟨by show k + 1 ≤ hs.length; omega, by show Grow _ _ _ _ _ (rows (kindsN hs (k + 1))) _; rw [tC hk2, kindOf, if_neg hb5, if_neg hb6]; exact hx⟩ (u2 (by omega)) mC (List.Sublist.refl _) mC
 have hb4' := hb4; try simp at hb4'
 have hk2 : k = hs.length := by omega
 subst hk2; refine p8 (v8 (p7 (d8 (i5 (a9 rfl (b8 rfl (b8 rfl (d6 ?_)))))))); refine j5 ?_; have h0 := Classical.not_not.1 hb1; refine C3 [.slice A cs.length ca, .slice B hs.length cb, .slice oa cs.length oc, .slice ka hs.length kc] (List.prefix_refl _) (qB hG ?_); exact ret2 (gB_1, (oa, oc), (ka, kc)) rfl rfl rfl (by show Value.tuple #[if checkT (trOf cs hs) = 0 then _ else _, int (checkT (trOf cs hs))] = _; rw [if_pos h0, h0]) rfl trivial nil_sb (by show LSub _ (if checkT (trOf cs hs) = 0 then _ else []); rw [if_pos h0]; exact mC)
end Go.Proofs.YtdlbbfcfahahdaaGreat
end
section
namespace Go.Proofs.YtdlbbfcfahahdaaGreat
open Go Go.W
set_option maxRecDepth 20000
attribute [local irreducible] HL HC HQ HB Row Rows2 Blk Facts
def leastE (t : Tr) (a b : Int) : Int × Int := if ¬ checkT t = 0 then (0, checkT t) else if ¬ ((0 ≤ a ∧ a ≤ (t.cs.length : Int) - 1) ∧ (0 ≤ b ∧ b ≤ (t.cs.length : Int) - 1)) then (0, 3) else (leastT t a b, 0)
end Go.Proofs.YtdlbbfcfahahdaaGreat
end
section
namespace Go.Proofs.YtdlbbfcfahahdaaGreat
open Go Go.W
set_option maxRecDepth 20000
attribute [local irreducible] HL HC HQ HB Row Rows2 Blk Facts
def Kd.isP : Kd → Bool | .ptr _ => true | _ => false
def Kd.isA : Kd → Bool | .art _ _ => true | _ => false
def Kd.see : Kd → Int | .ptr s => s | _ => 0
def Kd.cls : Kd → Int | .art c _ => c | _ => 0
def Kd.als : Kd → Sl Int | .art _ a => a | _ => ⟨none, 0, []⟩
section
variable {c : Cx} {Q : Exit → Act → World → Prop} {fr : Fr} {hp : Hp} {L : List Fact} {ops : Array Oper} {rest : List Oper} {d : Tmp} {ty : TypeId} {pos : String} {af : Array Edge}
end
theorem rq8 {hs : List Hd} {i : Nat} (h : i < hs.length) : (kindsN hs hs.length).getD i default = kindOf (hs.getD i default) := by
  rw [t5 (by rw [qA (Nat.le_refl _)]; exact h), t5 h]
  simp [kindsN]
abbrev folR (o : Option (Int × Int)) : Value := .tuple #[int (o.getD (0, 0)).1, int (o.getD (0, 0)).2, .bool o.isSome]
def SeesOK (hs : List Hd) : Prop := ∀ i, i < hs.length → -1 ≤ (hs.getD i default).2.2.1 ∧ (hs.getD i default).2.2.1 < (hs.length : Int)
theorem sees_ok {cs : List Cl} {hs : List Hd} (h : TrOK (trOf cs hs)) : SeesOK hs := fun i hi => by
  have h1 := (h.h i (by rw [E4]; exact hi)).s; simp only [trOf, dX hi] at h1; have h2 := h1.2.1; rw [List.length_map] at h2; exact ⟨h1.1, h2⟩
def askE (t : Tr) (l : List Int) : Int := if ¬ checkT t = 0 then checkT t else if l.all (fun x => decide (0 ≤ x ∧ x ≤ (t.hs.length : Int) - 1)) then 0 else 3
theorem ask_bad {t : Tr} {l : List Int} {k : Nat} (h0 : checkT t = 0) (hk : k < l.length) (h : ¬ (0 ≤ l.getD k default ∧ l.getD k default ≤ (t.hs.length : Int) - 1)) : askE t l = 3 := by
  rw [askE, if_neg (not_not_intro h0), if_neg]; intro e; exact h (of_decide_eq_true (List.all_eq_true.1 e _ (n0 hk)))
theorem ask_ok {t : Tr} {l : List Int} (h0 : checkT t = 0) (h : ∀ i, i < l.length → 0 ≤ l.getD i default ∧ l.getD i default ≤ (t.hs.length : Int) - 1) : askE t l = 0 := by
  rw [askE, if_neg (not_not_intro h0), if_pos]; rw [List.all_eq_true]; intro x hx; obtain ⟨i, hi, rfl⟩ := List.getElem_of_mem hx; rw [decide_eq_true_eq, ← t5 hi]; exact h i hi
theorem zC {t : Tr} {l : List Int} (h : askE t l = 0) : checkT t = 0 := by
  unfold askE at h
  split at h
  · exact h
  rename_i h1; exact Classical.not_not.1 h1
theorem sx6 {t : Tr} {l : List Int} (h : askE t l = 0) {x : Int} (hx : x ∈ l) : 0 ≤ x ∧ x ≤ (t.hs.length : Int) - 1 := by
  have h0 := zC h; rw [askE, if_neg (not_not_intro h0)] at h
  split at h
  · rename_i h1; exact of_decide_eq_true (List.all_eq_true.1 h1 x hx)
  omega
set_option maxHeartbeats 1000000 in
theorem zY {C : Option Addr} {cc : Nat} {A B : Option Addr} {ca cb : Nat} (cs : List Cl) (hs : List Hd) (l : List Int) (hca : cs.length ≤ ca) (hcb : hs.length ≤ cb) (ha : ∀ h ∈ hs, h.2.2.2.l.length ≤ 1000000) (hl : l.length ≤ 1000000) : Meets Tryz.prog F.xI [.agg #[.slice A cs.length ca, .slice B hs.length cb], .slice C l.length cc] { LI := [Row A (rows cs), RowsF B hs Hd.row, Row C (rows l)], val := fun x : Nat × OutC × OutC => .tuple #[if askE (trOf cs hs) l = 0 then .pointer (some ⟨x.1, 0, none⟩) else .pointer none, int (askE (trOf cs hs) l)], LO := fun x => if askE (trOf cs hs) l = 0 then beginL cs hs A ca B cb x else [] } := by
 refine i9 F.jx0 rfl t4 fun w0 => ?_; refine i5 ?_; refine C0 rfl rfl fun gB => ?_; refine b8 rfl (b8 rfl (d6 ?_)); refine W0 ⟨fun _ : Nat × OutC × OutC => True, fun x => [(1, .slice C l.length cc), (2, .pointer (b4 gB)), (6, if checkT (trOf cs hs) = 0 then .pointer (some ⟨x.1, 0, none⟩) else .pointer none), (7, int (checkT (trOf cs hs)))], fun _ => [(gB, .cells #[.slice A cs.length ca, .slice B hs.length cb] T.k7 (0, 0))], fun x => (if checkT (trOf cs hs) = 0 then beginL cs hs A ca B cb x else []) ++ [Row A (rows cs), RowsF B hs Hd.row, Row C (rows l)]⟩ ?_ ?_
 ·skip
  refine d9 ?_; refine D4 rfl T.m4 T.k8 rfl mB (by rfl) ?_; refine j0 F.bq0 rfl rfl (uL cs hs hca hcb ha) l7 mC fun x _ => ?_; refine a9 rfl (u5 rfl rfl rfl (u5 rfl rfl rfl (b8 rfl (b8 rfl (c8 ?_))))); exact J7 _ x trivial mC (List.Sublist.refl _) (LSub.of_mem fun F h => h)
 refine fun x _ => ?_
 dsimp only
 refine d7 (i5 (a9 rfl (H2 rfl rfl rfl (d6 ?_)))); refine m3 rfl (fun hb1 => ?_) (fun hb1 => ?_)
 ·have hb1' := hb1; try simp at hb1'
  have hE : askE (trOf cs hs) l = checkT (trOf cs hs) := by rw [askE, if_pos hb1]
  have hnz : ¬ askE (trOf cs hs) l = 0 := by rw [hE]; exact hb1
  refine i5 (a9 rfl (b8 rfl (b8 rfl (d6 (G0 ?_))))); exact ret2 (0, (none, 0), (none, 0)) rfl rfl rfl (by show Value.tuple #[if askE (trOf cs hs) l = 0 then _ else _, int (askE (trOf cs hs) l)] = _; rw [if_neg hnz, hE]) rfl trivial nil_sb (by show LSub _ (if askE (trOf cs hs) l = 0 then _ else []); rw [if_neg hnz]; trivial)
 have hb1' := hb1; try simp at hb1'
 have h0 := Classical.not_not.1 hb1; rw [if_pos h0, if_pos h0]; have hln := E4 cs hs; have hok := mT h0; have h6 : cs.length ≤ 6 := hok.c6; have h6h := hok.h6; rw [E4] at h6h; have hcl : ∀ i, i < cs.length → ClsOK cs i := hok.c; obtain ⟨gl, ⟨oa, oc⟩, ⟨ka, kc⟩⟩ := x; show HC _ _ _ _ _ [Row (b4 gl) [.slice A cs.length ca, .slice B hs.length cb, .slice oa cs.length oc, .slice ka hs.length kc], Row oa (rows (masksN cs cs.length)), Row ka (rows (kindsN hs hs.length)), Row A (rows cs), RowsF B hs Hd.row, Row C (rows l)]; refine i6 (d8 (d7 (i5 (a9 rfl ?_)))); refine j3 rfl T.l4 rfl ?_; refine a9 rfl (d6 (i8 ?_)); refine p9 (β := Nat) ⟨fun k => k ≤ l.length ∧ ∀ i, i < k → 0 ≤ l.getD i default ∧ l.getD i default ≤ (hs.length : Int) - 1, fun k => [(2, .pointer (b4 gB)), (6, .pointer (b4 gl)), (18, .slice C l.length cc), (19, int l.length), (20, int k)], fun _ => [(gB, .cells #[.slice A cs.length ca, .slice B hs.length cb] T.k7 (0, 0))], fun _ => [Row (b4 gl) [.slice A cs.length ca, .slice B hs.length cb, .slice oa cs.length oc, .slice ka hs.length kc], Row oa (rows (masksN cs cs.length)), Row ka (rows (kindsN hs hs.length)), Row A (rows cs), RowsF B hs Hd.row, Row C (rows l)]⟩ (fun k => l.length - k) 0 ⟨Nat.zero_le _, fun i hi => by omega⟩ mC (List.Sublist.refl _) mC fun k hk => ?_; obtain ⟨hk, ht⟩ := hk; refine i5 (u4 rfl rfl rfl (d6 (d7 ?_))); refine m3 rfl (fun hb2 => ?_) (fun hb2 => ?_)
 ·have hb2' := hb2; try simp at hb2'
  have hk2 : k < l.length := by omega
  refine i6 (d8 (d7 (i8 (i5 ?_)))); refine m7 (α := Int) _ _ rfl T.l4 T.q7 rfl rfl rfl mB rfl (by omega) (by decide) (c9 rfl T.i7 rfl (l8 mB (k6 (by omega) rfl)) ?_); refine b8 rfl (j8 (a9 rfl ?_)); refine a8 ⟨_, 1, none⟩ rfl rfl T.j4 rfl (c9 rfl T.j6 rfl (l9 mB rfl) (j3 rfl T.k9 rfl (K2 _ rfl rfl rfl rfl m6 ?_))); refine j0 F.M7 rfl rfl (I7 _ _ _) l7 trivial fun _ _ => ?_; refine E9 rfl rfl (d6 ?_); refine w6 rfl (fun hb3 => ?_) (fun hb3 => ?_)
  ·have hb3' := hb3; try simp at hb3'
   have hE : askE (trOf cs hs) l = 3 := ask_bad h0 hk2 (by rw [hln]; exact nbw hb3); have hnz : ¬ askE (trOf cs hs) l = 0 := by rw [hE]; decide
   refine i5 (b8 rfl (b8 rfl (d6 (j5 (w8 (r6 (w8 ?_))))))); exact ret2 (0, (none, 0), (none, 0)) rfl rfl rfl (by show Value.tuple #[if askE (trOf cs hs) l = 0 then _ else _, int (askE (trOf cs hs) l)] = _; rw [if_neg hnz, hE]) rfl trivial nil_sb (by show LSub _ (if askE (trOf cs hs) l = 0 then _ else []); rw [if_neg hnz]; trivial)
  have hb3' := hb3; try simp at hb3'
  refine i6 (t6 (d8 (d9 ?_))); refine r7 _ rfl rfl rfl rfl m6 ?_; refine a9 rfl (c8 ?_); have hin := bw hb3; exact again _ (k + 1) ⟨by omega, fun i hi => by rcases Nat.lt_or_ge i k with h | h; exact ht i h; rw [show i = k by omega]; exact hin⟩ (u2 (by omega)) mC (List.Sublist.refl _) mC
 have hb2' := hb2; try simp at hb2'
 have hk2 : k = l.length := by omega
 subst hk2; have hE : askE (trOf cs hs) l = 0 := ask_ok h0 (by rw [hln]; exact ht); refine p8 (v8 (p7 (d8 (i5 (a9 rfl (b8 rfl (b8 rfl (d6 ?_)))))))); refine j5 ?_; exact ret2 (gl, (oa, oc), (ka, kc)) rfl rfl rfl (by show Value.tuple #[if askE (trOf cs hs) l = 0 then _ else _, int (askE (trOf cs hs) l)] = _; rw [if_pos hE, hE]) rfl trivial nil_sb (by show LSub _ (if askE (trOf cs hs) l = 0 then _ else []); rw [if_pos hE]; exact mC)
end Go.Proofs.YtdlbbfcfahahdaaGreat
end
section
namespace Go.Proofs.YtdlbbfcfahahdaaGreat
open Go Go.W
set_option maxRecDepth 20000
attribute [local irreducible] HL HC HQ HB Row Rows2 Blk Facts
def followE (t : Tr) (h : Int) : Int × Int × Int := if ¬ askE t [h] = 0 then (0, 0, askE t [h]) else if (followT t h).isSome = false then (0, 0, 9) else (((followT t h).getD (0, 0)).1, ((followT t h).getD (0, 0)).2, 0)
def MaySet (t : Tr) (b : Str) (k m : Nat) : Prop := m < 256 ∧ ∀ j, m.testBit j = (List.range k).any fun h => leadsB t b h j
def mayK (m k : Nat) : List Int := ((List.range k).filter fun i => m.testBit i).map fun i : Nat => (i : Int)
end Go.Proofs.YtdlbbfcfahahdaaGreat
end
section
namespace Go.Proofs.YtdlbbfcfahahdaaGreat
open Go Go.W
set_option maxRecDepth 20000
attribute [local irreducible] HL HC HQ HB Row Rows2 Blk Facts
def mayE (t : Tr) (b : Str) : List Int × Int := if ¬ checkT t = 0 then ([], checkT t) else (mayT t b, 0)
theorem mj8 {s : Str} (h : wordB s = true) : s.length ≤ 12 := by
  unfold wordB at h; simp only [Bool.and_eq_true, decide_eq_true_eq] at h; exact h.2.1
theorem pq5 {cs : List Cl} {hs : List Hd} (hok : TrOK (trOf cs hs)) {i : Nat} (hi : i < hs.length) : wordB (hs.getD i default).1 = true := by
  have := (hok.h i (by rw [E4]; exact hi)).w; simp only [trOf, dX hi] at this; exact this
def shortE (t : Tr) (h : Int) : Str × Int := if ¬ askE t [h] = 0 then ([], askE t [h]) else match shortT t h with | none => ([], 11) | some s => (s, 0)
end Go.Proofs.YtdlbbfcfahahdaaGreat
end
section
namespace Go.Proofs.YtdlbbfcfahahdaaGreat
open Go Go.W
set_option maxRecDepth 20000
attribute [local irreducible] HL HC HQ HB Row Rows2 Blk Facts
end Go.Proofs.YtdlbbfcfahahdaaGreat
end
section
namespace Go.Proofs.YtdlbbfcfahahdaaGreat
open Go Go.W
set_option maxRecDepth 20000
attribute [local irreducible] HL HC HQ HB Row Rows2 Blk Facts
def hitB (s : Str) (h : Hd) : Bool := decide (h.1 = s) && decide (¬ h.2.1 = -1)
def nameOf (cs : List Cl) (c : Int) : Str := (cs.getD c.toNat default).1
end Go.Proofs.YtdlbbfcfahahdaaGreat
end
section
namespace Go.Proofs.YtdlbbfcfahahdaaGreat
open Go Go.W
set_option maxRecDepth 20000
attribute [local irreducible] HL HC HQ HB Row Rows2 Blk Facts
def dice (g : Nat) (A : Option Addr) (c : Nat) (nums : List Int) (s : Int × Int) : Nat × Obj := (g, .cells #[.slice A nums.length c, int s.1, .int .u64 s.2] T.uD (0, 0))
def DOK (nums : List Int) (s : Int × Int) : Prop := 0 ≤ s.1 ∧ s.1 ≤ nums.length ∧ 0 ≤ s.2 ∧ s.2 < 18446744073709551616
def diceCon {β : Type} (g : Nat) (A : Option Addr) (c : Nat) (nums : List Int) (s : Int × Int) (inv : β → Prop) (val : β → Value) (LO : β → List Fact) : Con ((Int × Int) × β) :=
  { hpI := [dice g A c nums s], LI := [Row A (rows nums)], inv := fun x => DOK nums x.1 ∧ inv x.2, val := fun x => val x.2, hpO := fun x => [dice g A c nums x.1], LO := fun x => LO x.2 }
theorem tA {g : Nat} {A : Option Addr} {c : Nat} {nums : List Int} {s : Int × Int} (hn : nums.length ≤ 9223372036854775807) (hs : DOK nums s) :
    Meets Tryz.prog F.jZ [.pointer (b4 g)] (diceCon g A c nums s (fun z : Int => 0 ≤ z ∧ z < 18446744073709551616) (fun z => .int .u64 z) (fun _ => [])) := by
 obtain ⟨p, q⟩ := s; obtain ⟨h1, h2, h3, h4⟩ := hs; simp only at h1 h2 h3 h4; obtain ⟨pn, rfl⟩ := Int.eq_ofNat_of_zero_le h1; refine i9 F.cj7 rfl t4 fun w0 => ?_; refine i5 (b8 rfl (d6 (d7 ?_))); refine A6 11 mixed (by decide) (by decide) rfl rfl (i4 (fun w1 => a9 rfl (q_z rfl)) (i4 (fun w1 => a9 rfl (q_z rfl)) (i4 (fun w1 => r8 rfl rfl (q_z rfl)) (i4 (fun w1 => a8 ⟨_, 2, none⟩ rfl rfl T.u6 rfl (q_z rfl)) (i4 (fun w1 => c9 rfl T.W4 rfl (j9 mB rfl) (q_z rfl)) (i4 (fun w1 => a9 rfl (q_z rfl)) (i4 (fun w1 => r8 rfl rfl (q_z rfl)) ?_))))))); refine i4 (fun w1 => a8 ⟨_, 2, none⟩ rfl rfl T.u6 rfl (q_z rfl)) (i4 (fun w1 => c9 rfl T.W4 rfl (j9 mB rfl) (q_z rfl)) (i4 (fun w1 => m9 _ rfl rfl rfl (fun _ => rfl) (fun _ => rfl) (q_z rfl)) (i4 (fun w1 => m9 _ rfl rfl rfl (fun _ => rfl) (fun _ => rfl) (q_z rfl)) ?_))); refine v9 ⟨rfl, ?_⟩; refine r8 rfl rfl (a8 ⟨_, 2, none⟩ rfl rfl T.u6 rfl ?_); refine z8 rfl rfl (by first | exact .refl _ | exact perm2 _ _ _ | exact perm3 _ _ _ _ | exact perm4 _ _ _ _ _) T.hz9 (by rfl) (by rfl) ?_; refine d6 (d7 ?_); refine A6 11 mixed (by decide) (by decide) rfl rfl (i4 (fun w1 => a9 rfl (q_z rfl)) (i4 (fun w1 => a9 rfl (q_z rfl)) (i4 (fun w1 => r8 rfl rfl (q_z rfl)) (i4 (fun w1 => a8 ⟨_, 2, none⟩ rfl rfl T.u6 rfl (q_z rfl)) (i4 (fun w1 => c9 rfl T.W4 rfl (j9 mB rfl) (q_z rfl)) (i4 (fun w1 => a9 rfl (q_z rfl)) (i4 (fun w1 => r8 rfl rfl (q_z rfl)) ?_))))))); refine i4 (fun w1 => a8 ⟨_, 2, none⟩ rfl rfl T.u6 rfl (q_z rfl)) (i4 (fun w1 => c9 rfl T.W4 rfl (j9 mB rfl) (q_z rfl)) (i4 (fun w1 => m9 _ rfl rfl rfl (fun _ => rfl) (fun _ => rfl) (q_z rfl)) (i4 (fun w1 => m9 _ rfl rfl rfl (fun _ => rfl) (fun _ => rfl) (q_z rfl)) ?_))); refine v9 ⟨rfl, ?_⟩; refine r8 rfl rfl (a8 ⟨_, 2, none⟩ rfl rfl T.u6 rfl ?_); refine z8 rfl rfl (by first | exact .refl _ | exact perm2 _ _ _ | exact perm3 _ _ _ _ | exact perm4 _ _ _ _ _) T.hz9 (by rfl) (by rfl) ?_; refine d6 (d7 ?_); refine A6 11 mixed (by decide) (by decide) rfl rfl (i4 (fun w1 => a9 rfl (q_z rfl)) (i4 (fun w1 => a9 rfl (q_z rfl)) (i4 (fun w1 => r8 rfl rfl (q_z rfl)) (i4 (fun w1 => a8 ⟨_, 2, none⟩ rfl rfl T.u6 rfl (q_z rfl)) (i4 (fun w1 => c9 rfl T.W4 rfl (j9 mB rfl) (q_z rfl)) (i4 (fun w1 => a9 rfl (q_z rfl)) (i4 (fun w1 => r8 rfl rfl (q_z rfl)) ?_))))))); refine i4 (fun w1 => a8 ⟨_, 2, none⟩ rfl rfl T.u6 rfl (q_z rfl)) (i4 (fun w1 => c9 rfl T.W4 rfl (j9 mB rfl) (q_z rfl)) (i4 (fun w1 => m9 _ rfl rfl rfl (fun _ => rfl) (fun _ => rfl) (q_z rfl)) (i4 (fun w1 => m9 _ rfl rfl rfl (fun _ => rfl) (fun _ => rfl) (q_z rfl)) ?_))); refine v9 ⟨rfl, ?_⟩; refine r8 rfl rfl (a8 ⟨_, 2, none⟩ rfl rfl T.u6 rfl ?_); refine z8 rfl rfl (by first | exact .refl _ | exact perm2 _ _ _ | exact perm3 _ _ _ _ | exact perm4 _ _ _ _ _) T.hz9 (by rfl) (by rfl) ?_; refine d6 (dV ?_); refine A6 9 mixed (by decide) (by decide) rfl rfl (i4 (fun w1 => a9 rfl (q_z rfl)) (i4 (fun w1 => r8 rfl rfl (q_z rfl)) (i4 (fun w1 => a8 ⟨_, 1, none⟩ rfl rfl T.J2 rfl (q_z rfl)) (i4 (fun w1 => c9 rfl T.i7 rfl (j9 mB rfl) (q_z rfl)) (i4 (fun w1 => a9 rfl (q_z rfl)) (i4 (fun w1 => r8 rfl rfl (q_z rfl)) (i4 (fun w1 => a8 ⟨_, 0, none⟩ rfl rfl T.W1 rfl (q_z rfl)) ?_))))))); refine i4 (fun w1 => c9 rfl T.m8 rfl (j9 mB rfl) (q_z rfl)) (i4 (fun w1 => j3 rfl T.l4 rfl (q_z rfl)) ?_); refine v9 ⟨rfl, ?_⟩; refine u4 rfl rfl rfl (d6 ?_); refine m3 rfl (fun hb1 => ?_) (fun hb1 => ?_)
 ·have hb1' := hb1; try simp at hb1'
  refine d7 ?_; refine A6 18 mixed (by decide) (by decide) rfl rfl (i4 (fun w1 => a9 rfl (q_z rfl)) (i4 (fun w1 => a9 rfl (q_z rfl)) (i4 (fun w1 => r8 rfl rfl (q_z rfl)) (i4 (fun w1 => a8 ⟨_, 2, none⟩ rfl rfl T.u6 rfl (q_z rfl)) (i4 (fun w1 => c9 rfl T.W4 rfl (j9 mB rfl) (q_z rfl)) (i4 (fun w1 => a9 rfl (q_z rfl)) (i4 (fun w1 => r8 rfl rfl (q_z rfl)) ?_))))))); refine i4 (fun w1 => a8 ⟨_, 0, none⟩ rfl rfl T.W1 rfl (q_z rfl)) (i4 (fun w1 => c9 rfl T.m8 rfl (j9 mB rfl) (q_z rfl)) (i4 (fun w1 => a9 rfl (q_z rfl)) (i4 (fun w1 => r8 rfl rfl (q_z rfl)) (i4 (fun w1 => a8 ⟨_, 1, none⟩ rfl rfl T.J2 rfl (q_z rfl)) (i4 (fun w1 => c9 rfl T.i7 rfl (j9 mB rfl) (q_z rfl)) (i4 (fun w1 => m7 (α := Int) _ pn rfl T.l4 T.q7 rfl rfl rfl m1 rfl (by omega) (by decide) (q_z rfl)) (i4 (fun w1 => c9 rfl T.i7 rfl (l8 mB (k6 (by omega) rfl)) (q_z rfl)) ?_))))))); refine i4 (fun w1 => nL _ rfl T.zE T.qq5 rfl rfl (q_z rfl)) (i4 (fun w1 => m9 _ rfl rfl rfl (fun _ => rfl) (fun _ => rfl) (q_z rfl)) (i4 (fun w1 => m9 _ rfl rfl rfl (fun _ => rfl) (fun _ => rfl) (q_z rfl)) ?_)); refine v9 ⟨rfl, ?_⟩; refine r8 rfl rfl (a8 ⟨_, 2, none⟩ rfl rfl T.u6 rfl ?_); refine z8 rfl rfl (by first | exact .refl _ | exact perm2 _ _ _ | exact perm3 _ _ _ _ | exact perm4 _ _ _ _ _) T.hz9 (by rfl) (by rfl) ?_; refine d6 (d9 (a9 rfl (r8 rfl rfl ?_))); refine a8 ⟨_, 1, none⟩ rfl rfl T.J2 rfl (c9 rfl T.i7 rfl (l9 mB rfl) (r7 _ rfl rfl rfl rfl m6 (r8 rfl rfl (a8 ⟨_, 1, none⟩ rfl rfl T.J2 rfl ?_)))); refine z8 rfl rfl (by first | exact .refl _ | exact perm2 _ _ _ | exact perm3 _ _ _ _ | exact perm4 _ _ _ _ _) T.q7 (by rfl) (by rfl) ?_; refine j8 (a9 rfl (r8 rfl rfl ?_)); refine a8 ⟨_, 2, none⟩ rfl rfl T.u6 rfl (c9 rfl T.W4 rfl (l9 mB rfl) ?_); refine b8 rfl (j8 (a9 rfl (a9 rfl ?_))); refine m9 _ rfl rfl rfl (fun _ => rfl) (fun _ => rfl) (m9 _ rfl rfl rfl (fun _ => rfl) (fun _ => rfl) (m9 _ rfl rfl rfl (fun _ => rfl) (fun _ => rfl) ?_)); refine b8 rfl (j8 (a9 rfl (a9 rfl ?_))); refine m9 _ rfl rfl rfl (fun _ => rfl) (fun _ => rfl) (m9 _ rfl rfl rfl (fun _ => rfl) (fun _ => rfl) ?_); refine b8 rfl (d6 (j5 ?_)); exact ret1 ((_, _), _) rfl rfl rfl ⟨⟨by simp only; omega, by simp only; omega, (wrapU _).1, (wrapU _).2⟩, wrapU _⟩ (.refl _) trivial
 have hb1' := hb1; try simp at hb1'
 refine i6 (d8 (i5 (a9 rfl (r8 rfl rfl ?_)))); refine a8 ⟨_, 2, none⟩ rfl rfl T.u6 rfl (c9 rfl T.W4 rfl (l9 mB rfl) ?_); refine b8 rfl (j8 (a9 rfl (a9 rfl ?_))); refine m9 _ rfl rfl rfl (fun _ => rfl) (fun _ => rfl) (m9 _ rfl rfl rfl (fun _ => rfl) (fun _ => rfl) (m9 _ rfl rfl rfl (fun _ => rfl) (fun _ => rfl) ?_)); refine b8 rfl (j8 (a9 rfl (a9 rfl ?_))); refine m9 _ rfl rfl rfl (fun _ => rfl) (fun _ => rfl) (m9 _ rfl rfl rfl (fun _ => rfl) (fun _ => rfl) ?_); refine b8 rfl (d6 (j5 ?_)); exact ret1 ((_, _), _) rfl rfl rfl ⟨⟨by simp only; omega, by simp only; omega, (wrapU _).1, (wrapU _).2⟩, wrapU _⟩ (.refl _) trivial
theorem pj1 {z n : Int} (hz : 0 ≤ z) (hn : 0 ≤ n) : 0 ≤ z.tmod (n + 1) ∧ z.tmod (n + 1) ≤ n := by
  have h1 := Int.tmod_nonneg (n + 1) hz; have h2 := Int.tmod_lt_of_pos z (show 0 < n + 1 by omega)
  omega
def ToInv (n z : Int) : Prop := 0 ≤ z ∧ (1 ≤ n → z ≤ n) ∧ (n < 1 → z = 0)
theorem A5 {g : Nat} {A : Option Addr} {c : Nat} {nums : List Int} {s : Int × Int} (n : Int) (hn : nums.length ≤ 9223372036854775807) (hs : DOK nums s) (hI : n ≤ 9223372036854775806) :
    Meets Tryz.prog F.nZ [.pointer (b4 g), int n] (diceCon g A c nums s (ToInv n) (fun z => int z) (fun _ => [])) := by
 refine i9 F.dz3 rfl t4 fun w0 => ?_; refine i5 (b8 rfl (d6 (d7 (i5 (a9 rfl (u4 rfl rfl rfl (d6 ?_))))))); refine m3 rfl (fun hb1 => ?_) (fun hb1 => ?_)
 ·have hb1' := hb1; try simp at hb1'
  refine i5 (b8 rfl (d6 (G0 ?_))); exact ret1 (s, 0) rfl rfl rfl ⟨hs, by omega, by intro; omega, by intro; rfl⟩ (.refl _) trivial
 have hb1' := hb1; try simp at hb1'
 refine i6 (d8 (i5 (a9 rfl ?_))); refine j0 F.aq1 rfl rfl (tA hn hs) (.refl _) ⟨m0, trivial⟩ fun x hx => ?_; obtain ⟨s1, z⟩ := x; obtain ⟨hs1, hz⟩ := hx; simp only at hz; refine m9 _ rfl rfl rfl (fun _ => rfl) (fun _ => rfl) (a9 rfl (r7 _ rfl rfl rfl rfl m6 (nL (n + 1) rfl T.zE T.qq5 rfl (IntWalk.u64_in _ (by omega)) (r_rem rfl rfl rfl (by omega) ?_)))); have hm := pj1 (z := z.fdiv (2 ^ min (Int.toNat 16) IntKind.u64.bits)) (n := n) (Int.fdiv_nonneg hz.1 (by decide)) (by omega); refine nL ((z.fdiv (2 ^ min (Int.toNat 16) IntKind.u64.bits)).tmod (n + 1)) rfl T.qq5 T.zE rfl (IntWalk.i64_in ((z.fdiv (2 ^ min (Int.toNat 16) IntKind.u64.bits)).tmod (n + 1)) (by omega)) ?_; refine b8 rfl (d6 (j5 ?_)); exact ret1 (s1, _) rfl rfl rfl ⟨hs1, hm.1, fun _ => hm.2, fun h => by omega⟩ (.refl _) trivial
theorem R5 {g : Nat} {A : Option Addr} {c : Nat} {nums : List Int} {s : Int × Int} (n : Int) (hn : nums.length ≤ 9223372036854775807) (hs : DOK nums s) (hI : 0 ≤ n ∧ n ≤ 9223372036854775806) :
    Meets Tryz.prog F.dS [.pointer (b4 g), int n] (diceCon g A c nums s (fun _ : Bool => True) (fun z => .bool z) (fun _ => [])) := by
 refine i9 F.aq3 rfl t4 fun w0 => ?_; refine i5 (b8 rfl (j8 (a9 rfl (a9 rfl ?_)))); refine K2 _ rfl rfl rfl rfl m6 ?_; refine j0 F.D2 rfl rfl (A5 (n - 1) hn hs (by omega)) (.refl _) ⟨m0, trivial⟩ fun x hx => ?_; obtain ⟨s1, z⟩ := x; obtain ⟨hs1, hz⟩ := hx; simp only [ToInv] at hz; refine I3 rfl rfl rfl (b8 rfl (d6 (j5 ?_))); exact ret1 (s1, _) rfl rfl rfl ⟨hs1, trivial⟩ (.refl _) trivial
def lineWords : List Str := [[97], [98], [99], [97, 110, 32, 49], [98, 101, 110], [99, 121, 100, 32, 49, 50]]
def PageOK (l : List Str) : Prop := ∀ s ∈ l, s ∈ lineWords
end Go.Proofs.YtdlbbfcfahahdaaGreat
end
section
namespace Go.Proofs.YtdlbbfcfahahdaaGreat
open Go Go.W
set_option maxRecDepth 20000
attribute [local irreducible] HL HC HQ HB Row Rows2 Blk Facts
def FromInv (lo hi z : Int) : Prop := lo ≤ z ∧ (lo < hi → z ≤ hi) ∧ (hi ≤ lo → z = lo)
def sortsL : List Str := [[102, 111, 111, 100], [98, 114, 101, 97, 100], [99, 108, 111, 116, 104], [104, 97, 116, 115], [119, 111, 111, 100], [105, 114, 111, 110], [98, 101, 101, 114], [105, 110], [115, 101, 101]]
def callingsL : List Str := [[98, 97, 107, 101, 114], [98, 97, 107, 101, 114, 115], [98, 111, 110, 110, 101, 116, 115], [98, 114, 101, 119, 101, 114], [98, 114, 117, 115, 104, 101, 115], [98, 117, 116, 99, 104, 101, 114], [99, 97, 110, 100, 108, 101, 115], [99, 111, 111, 112, 101, 114], [99, 111, 111, 112, 101, 114, 115], [99, 117, 116, 108, 101, 114], [104, 97, 116, 116, 101, 114], [104, 111, 115, 105, 101, 114], [109, 101, 114, 99, 101, 114], [109, 105, 108, 108, 105, 110, 101, 114], [116, 97, 105, 108, 111, 114], [116, 97, 110, 110, 101, 114]]
theorem vS {A : Option Addr} {c : Nat} (nums : List Int) : Meets Tryz.prog F.nV [.slice A nums.length c] { LI := [Row A (rows nums)], val := fun g : Nat => .pointer (b4 g), hpO := fun g => [dice g A c nums (0, 11400714819323198485)] } := by
 refine i9 F.dz0 rfl t4 fun w0 => ?_; refine i5 (b8 rfl (j8 (a9 rfl ?_))); refine B5 _ rfl rfl (fun _ => T.gU ..) ?_; refine C0 rfl rfl fun gB => ?_; refine b8 rfl (d6 (j5 ?_)); exact ret1 gB rfl rfl rfl trivial (.refl _) trivial
theorem aR {g : Nat} {A : Option Addr} {c : Nat} {nums : List Int} {s : Int × Int} (lo hi : Int) (hn : nums.length ≤ 9223372036854775807) (hs : DOK nums s) (hI : -1000 ≤ lo ∧ lo ≤ 1000 ∧ -1000 ≤ hi ∧ hi ≤ 1000) :
    Meets Tryz.prog F.dU [.pointer (b4 g), int lo, int hi] (diceCon g A c nums s (FromInv lo hi) (fun z => int z) (fun _ => [])) := by
 refine i9 F.aq4 rfl t4 fun w0 => ?_; refine i5 (b8 rfl (j8 (a9 rfl (a9 rfl (a9 rfl (a9 rfl ?_)))))); refine K2 _ rfl rfl rfl rfl m6 ?_; refine j0 F.D2 rfl rfl (A5 (hi - lo) hn hs (by omega)) (.refl _) ⟨m0, trivial⟩ fun x hx => ?_; obtain ⟨s1, z⟩ := x; obtain ⟨hs1, hz⟩ := hx; simp only [ToInv] at hz
 have hz1 : 0 ≤ z ∧ z ≤ 2000 := by
   refine ⟨hz.1, ?_⟩
   by_cases h1 : 1 ≤ hi - lo
   · have := hz.2.1 h1; omega
   have := hz.2.2 (by omega); omega
 refine r7 (lo + z) rfl rfl rfl rfl m6 ?_; refine b8 rfl (d6 (j5 ?_)); exact ret1 (s1, lo + z) rfl rfl rfl ⟨hs1, by simp only; omega, fun h => by have := hz.2.1 (by omega); simp only; omega, fun h => by have := hz.2.2 (by omega); simp only; omega⟩ (.refl _) trivial
theorem lC : Meets Tryz.prog F.xY [] { val := fun g : Nat => .slice (b4 g) 9 9, LO := fun g => [Row (b4 g) (rows sortsL)] } := by
 refine i9 F.kj4 rfl t4 fun w0 => ?_; refine i5 (b8 rfl (j8 ?_)); refine l6 _ rfl rfl (fun _ => T.pz5 ..) fun gS => ?_; refine b8 rfl (d6 (j5 ?_)); refine C3 (rows sortsL) (List.prefix_refl _) ?_; exact ret1 gS rfl rfl rfl trivial nil_sb ⟨m0, trivial⟩
theorem cB : Meets Tryz.prog F.jV [] { val := fun g : Nat => .slice (b4 g) 16 16, LO := fun g => [Row (b4 g) (rows callingsL)] } := by
 refine i9 F.cj2 rfl t4 fun w0 => ?_; refine i5 (b8 rfl (j8 ?_)); refine l6 _ rfl rfl (fun _ => T.mj1 ..) fun gS => ?_; refine b8 rfl (d6 (j5 ?_)); refine C3 (rows callingsL) (List.prefix_refl _) ?_; exact ret1 gS rfl rfl rfl trivial nil_sb ⟨m0, trivial⟩
end Go.Proofs.YtdlbbfcfahahdaaGreat
end
