/- Texts of this claim, one behind another. -/

import Derived.Test.YtmpfpfbcejfijaaGreatDoorAAf
import Derived.Test.YtmpfpfbcejfijaaGreatDoorAAe
set_option linter.unusedVariables false
set_option linter.unusedSimpArgs false
section
namespace Go.Proofs.YtmpfpfbcejfijaaGreatDoor
open Go Go.W
set_option maxRecDepth 20000
attribute [local irreducible] HL HC HQ HB Row Rows2 Blk Facts
theorem ps_take {hs : List Hd} {n : Nat} : ((hs.map Hd.p).take n).map (·.1) = (hs.take n).map (·.1) := by rw [← List.map_take, List.map_map]; rfl
theorem X2 (cs : List Cl) (hs : List Hd) {i : Nat} (hi : i < hs.length) : headErr (trOf cs hs) i =
  if wordB (hs.getD i default).1 = false then 2
  else if (hs.getD i default).1 ∈ (hs.take i).map (·.1) then 4
  else if 0 < i ∧ (hs.getD i default).1 < (hs.getD (i - 1) default).1 then 5
  else if (hs.getD i default).2.1 < -1 ∨ (cs.length : Int) ≤ (hs.getD i default).2.1 ∨ (hs.getD i default).2.2.1 < -1 ∨ (hs.length : Int) ≤ (hs.getD i default).2.2.1 then 3
  else if (hs.getD i default).2.2.1 = (i : Int) then 9
  else if ¬ firstE (alsoErr hs.length i (hs.getD i default).2.2.2.l) (hs.getD i default).2.2.2.l.length = 0 then firstE (alsoErr hs.length i (hs.getD i default).2.2.2.l) (hs.getD i default).2.2.2.l.length
  else if kindBad (hs.getD i default).p = true then 8 else 0 := by
  unfold headErr; simp only [trOf, yC hi, yC (show i - 1 < hs.length by omega), ps_take, List.length_map]
  rfl
theorem nbw {a b c : Int} (h : (!decide (a ≤ b ∧ b ≤ c)) = true) : ¬ (a ≤ b ∧ b ≤ c) := fun e => by rw [decide_eq_true e] at h; cases h
theorem bw {a b c : Int} (h : (!decide (a ≤ b ∧ b ≤ c)) = false) : a ≤ b ∧ b ≤ c := Classical.byContradiction fun e => by rw [decide_eq_false e] at h; cases h
set_option maxHeartbeats 2000000 in
theorem kE {A B : Option Addr} {ca cb : Nat} (cs : List Cl) (hs : List Hd) (i : Nat) (h6 : hs.length ≤ 6) (hc6 : cs.length ≤ 6) (hc : hs.length ≤ cb) (hi : i < hs.length) (ha : ∀ h ∈ hs, h.2.2.2.l.length ≤ 1000000) : Meets Tryz.prog F.aE [.agg #[.slice A cs.length ca, .slice B hs.length cb], int i] { LI := [Row A (rows cs), RowsF B hs Hd.row], val := fun _ : Unit => int (headErr (trOf cs hs) i) } := by
 refine j8 F.rP rfl t4 fun w0 => ?_; refine j3 ?_; refine C4 rfl rfl fun gB => ?_; refine b9 rfl (d9 (j6 (az7 m1 ?_))); refine jz2 m2 (u0 hi) ?_; have hal := ha _ (u0 hi); refine R0 ([]) (_) (.refl _) 9 [7] mixed (by decide) (by decide) (by decide) rfl rfl rfl ?_
 apply n0 _ rfl rfl rfl
 ·intro w1
  first | refine a7 ⟨_, 1, none⟩ rfl rfl T.p6 rfl ?_ | refine a7 _ rfl rfl T.p6 rfl ?_
  refine d6 ?_; exact k6 rfl
 apply n0 _ rfl rfl rfl
 ·intro w1
  first | refine a8 rfl T.m3 rfl (i8 mB rfl) ?_ | refine a8 rfl T.m3 rfl (j0 mB rfl) ?_ | refine a8 rfl T.m3 rfl (d8 mB (d4 (by omega) rfl)) ?_ | refine a8 rfl T.m3 rfl (d7 mB (rows_get (by omega) rfl)) ?_ | refine a8 rfl T.m3 rfl (g4 mB rfl) ?_
  refine d6 ?_; exact k6 rfl
 apply n0 _ rfl rfl rfl
 ·intro w1
  first | refine a7 ⟨_, 1, none⟩ rfl rfl T.p6 rfl ?_ | refine a7 _ rfl rfl T.p6 rfl ?_
  refine d6 ?_; exact k6 rfl
 apply n0 _ rfl rfl rfl
 ·intro w1
  first | refine a8 rfl T.m3 rfl (i8 mB rfl) ?_ | refine a8 rfl T.m3 rfl (j0 mB rfl) ?_ | refine a8 rfl T.m3 rfl (d8 mB (d4 (by omega) rfl)) ?_ | refine a8 rfl T.m3 rfl (d7 mB (rows_get (by omega) rfl)) ?_ | refine a8 rfl T.m3 rfl (g4 mB rfl) ?_
  refine d6 ?_; exact k6 rfl
 refine s7 (fun w1 => b8 rfl (q_z rfl)) (s7 (fun w1 => w3 (α := Hd) _ _ rfl T.w8 T.E8 rfl rfl rfl mB rfl (by omega) (by decide) (q_z rfl)) (s7 (fun w1 => r8 rfl T.iU T.E8 rfl rfl (m9 mB (q8 (by omega))) (q_z rfl)) ?_)); refine az8 ⟨Nat, fun _ => True, fun g => .pointer (b4 g), fun _ => [], fun g => [(g, Obj.cells #[str [], int 0, int 0, .slice none 0 0] T.tK (0, 0))]⟩ rfl rfl rfl ?_ ?_
 ·intro w1; refine z1 rfl (fun _ => T.vL _) fun gA => ?_; refine d6 ?_; exact Y4 gA trivial (fun _ => rfl) (.refl _) trivial
 refine s7 (fun w1 => b9 rfl (q_z rfl)) ?_; refine D4 ⟨rfl, ?_⟩; intro x7 hx7; refine u3 rfl rfl (by first | exact .refl _ | exact perm2 _ _ _ | exact perm3 _ _ _ _ | exact perm4 _ _ _ _ _) T.E8 (by rfl) (by rfl) ?_; refine d9 (j6 (l4 (j6 ?_))); refine lX (rows [hs.getD i default]) ⟨[], List.append_nil _⟩ ?_; refine k8 ?_
 first | refine a7 ⟨_, 0, none⟩ rfl rfl T.E1 rfl ?_ | refine a7 _ rfl rfl T.E1 rfl ?_
 first | refine a8 rfl T.s6 rfl (j0 mB rfl) ?_ | refine a8 rfl T.s6 rfl (i8 mB rfl) ?_ | refine a8 rfl T.s6 rfl (d8 mB (d4 (by omega) rfl)) ?_ | refine a8 rfl T.s6 rfl (d7 mB (rows_get (by omega) rfl)) ?_ | refine a8 rfl T.s6 rfl (g4 mB rfl) ?_
 refine i9 F.nT rfl rfl (dY (hs.getD i default).1) l5 trivial fun _ _ => ?_; refine D5 rfl rfl (b9 rfl (d9 ?_))
 first | refine m7 rfl (fun hb1 => ?_) (fun hb1 => ?_) | refine k4 rfl (fun hb1 => ?_) (fun hb1 => ?_)
 ·have hb1' := hb1; try simp at hb1'
  have h1 : wordB (hs.getD i default).1 = false := by simpa using hb1
  refine j3 (b9 rfl (d9 (l7 (C2 ?_)))); exact ret1 () rfl (congrArg (fun b => some (int b)) (by rw [X2 cs hs hi, if_pos h1])) rfl trivial nil_sb trivial
 have hb1' := hb1; try simp at hb1'
 have h1 : ¬ wordB (hs.getD i default).1 = false := by simpa using hb1
 refine j3 (b8 rfl (b8 rfl ?_)); refine pT (hs.take i).length rfl T.w8 T.E8 rfl rfl (by simp; omega) (by simp; omega) ?_; refine yA (ps := hs) i mB (bS rfl rfl rfl ?_); refine i9 F.gO rfl rfl (bP (hs.take i) (hs.getD i default) (by simp; omega)) l5 mC fun _ _ => ?_; refine b9 rfl (d9 ?_)
 first | refine m7 rfl (fun hb2 => ?_) (fun hb2 => ?_) | refine k4 rfl (fun hb2 => ?_) (fun hb2 => ?_)
 ·have hb2' := hb2; try simp at hb2'
  refine j3 (b9 rfl (d9 (l7 (C2 ?_)))); exact ret1 () rfl (congrArg (fun b => some (int b)) (by rw [X2 cs hs hi, if_neg h1, if_pos hb2])) rfl trivial nil_sb trivial
 have hb2' := hb2; try simp at hb2'
 refine jB ⟨fun _ : Unit => True, fun _ => [(1, int i), (2, .pointer (b4 gB)), (5, .slice B hs.length cb), (6, .pointer (b4 x7)), (27, .bool (decide (0 < i ∧ (hs.getD i default).1 < (hs.getD (i - 1) default).1)))], fun _ => [(gB, .cells #[.slice A cs.length ca, .slice B hs.length cb] T.z4 (0, 0))], fun _ => [Row (b4 x7) (rows [hs.getD i default]), Row B (rows hs), Row (hs.getD i default).2.2.2.a (rows (hs.getD i default).2.2.2.l)]⟩ ?_ ?_
 ·skip
  refine G8 11 mixed (by decide) (by decide) rfl rfl (s7 (fun w1 => b8 rfl (q_z rfl)) (s7 (fun w1 => V7 rfl rfl rfl (q_z rfl)) (s7 (fun w1 => b8 rfl (q_z rfl)) ?_))); refine dz6 (t := 30) (want := true) rfl ?_ ?_
  ·intro hg1; have hg1' := hg1; try simp at hg1'
   apply n0 _ rfl rfl rfl
   ·intro w1; refine k5 rfl rfl hg1 ?_
    first | refine a7 ⟨_, 0, none⟩ rfl rfl T.E1 rfl ?_ | refine a7 _ rfl rfl T.E1 rfl ?_
    refine d6 ?_; exact k6 rfl
   apply n0 _ rfl rfl rfl
   ·intro w1; refine k5 rfl rfl hg1 ?_
    first | refine a8 rfl T.s6 rfl (i8 mB rfl) ?_ | refine a8 rfl T.s6 rfl (j0 mB rfl) ?_ | refine a8 rfl T.s6 rfl (d8 mB (d4 (by omega) rfl)) ?_ | refine a8 rfl T.s6 rfl (d7 mB (rows_get (by omega) rfl)) ?_ | refine a8 rfl T.s6 rfl (g4 mB rfl) ?_
    refine d6 ?_; exact k6 rfl
   apply n0 _ rfl rfl rfl
   ·intro w1; refine k5 rfl rfl hg1 (b8 rfl (d6 ?_)); exact k6 rfl
   apply n0 _ rfl rfl rfl
   ·intro w1; refine k5 rfl rfl hg1 (b8 rfl (d6 ?_)); exact k6 rfl
   apply n0 _ rfl rfl rfl
   ·intro w1; refine k5 rfl rfl hg1 (U6 ((i - 1 : Nat) : Int) rfl rfl rfl (by omega) s9 ?_); refine d6 ?_; exact k6 rfl
   apply n0 _ rfl rfl rfl
   ·intro w1; refine k5 rfl rfl hg1 (w3 (α := Hd) hs (i - 1) rfl T.w8 T.E8 rfl rfl rfl mB rfl (by omega) (by decide) ?_); refine d6 ?_; exact k6 rfl
   apply n0 _ rfl rfl rfl
   ·intro w1; refine k5 rfl rfl hg1 ?_
    first | refine a7 ⟨_, 0, none⟩ rfl rfl T.E1 rfl ?_ | refine a7 _ rfl rfl T.E1 rfl ?_
    refine d6 ?_; exact k6 rfl
   apply n0 _ rfl rfl rfl
   ·intro w1; refine k5 rfl rfl hg1 (a8 rfl T.s6 rfl (d8 (cs := rows hs) mB (d4 (by omega) rfl)) ?_); refine d6 ?_; exact k6 rfl
   refine D4 ⟨rfl, ?_⟩; refine k5 rfl rfl hg1 (r_slss rfl rfl rfl ?_); refine p_t rfl rfl (bt1 hg1) rfl ?_; refine b9 rfl (d6 ?_); exact O1 _ () trivial ⟨rfl, rfl, rfl, rfl, congrArg (fun b => some (Value.bool b)) (by rw [gx9]; exact decide_eq_decide.2 ⟨fun e => ⟨by omega, e⟩, fun e => e.2⟩), trivial⟩ (List.Sublist.refl _) mC
  intro hg1; have hg1' := hg1; try simp at hg1'
  refine s7 (fun w1 => u2 rfl rfl rfl rfl rfl hg1 (q_z rfl)) (s7 (fun w1 => u2 rfl rfl rfl rfl rfl hg1 (q_z rfl)) (s7 (fun w1 => u2 rfl rfl rfl rfl rfl hg1 (q_z rfl)) (s7 (fun w1 => u2 rfl rfl rfl rfl rfl hg1 (q_z rfl)) (s7 (fun w1 => u2 rfl rfl rfl rfl rfl hg1 (q_z rfl)) (s7 (fun w1 => u2 rfl rfl rfl rfl rfl hg1 (q_z rfl)) (s7 (fun w1 => u2 rfl rfl rfl rfl rfl hg1 (q_z rfl)) (s7 (fun w1 => u2 rfl rfl rfl rfl rfl hg1 (q_z rfl)) ?_))))))); refine D4 ⟨rfl, ?_⟩; refine u2 rfl rfl rfl rfl rfl hg1 (p_f rfl rfl (bf2 hg1) rfl ?_); refine b9 rfl (d6 ?_); exact O1 _ () trivial ⟨rfl, rfl, rfl, rfl, congrArg (fun b => some (Value.bool b)) (by exact (decide_eq_false (by simp at hg1; omega)).symm), trivial⟩ (List.Sublist.refl _) mC
 refine fun _ _ => ?_
 first | refine m7 rfl (fun hb3 => ?_) (fun hb3 => ?_) | refine k4 rfl (fun hb3 => ?_) (fun hb3 => ?_)
 ·have hb3' := hb3; try simp at hb3'
  refine j3 (b9 rfl (d9 (l7 (C2 ?_)))); exact ret1 () rfl (congrArg (fun b => some (int b)) (by rw [X2 cs hs hi, if_neg h1, if_neg hb2, if_pos hb3])) rfl trivial nil_sb trivial
 have hb3' := hb3; try simp at hb3'
 refine jB ⟨fun _ : Unit => True, fun _ => [(1, int i), (2, .pointer (b4 gB)), (5, .slice B hs.length cb), (6, .pointer (b4 x7)), (41, .bool (decide (¬ ((-1 ≤ (hs.getD i default).2.1 ∧ (hs.getD i default).2.1 ≤ (cs.length : Int) - 1) ∧ (-1 ≤ (hs.getD i default).2.2.1 ∧ (hs.getD i default).2.2.1 ≤ (hs.length : Int) - 1)))))], fun _ => [(gB, .cells #[.slice A cs.length ca, .slice B hs.length cb] T.z4 (0, 0))], fun _ => [Row (b4 x7) (rows [hs.getD i default]), Row B (rows hs), Row (hs.getD i default).2.2.2.a (rows (hs.getD i default).2.2.2.l)]⟩ ?_ ?_
 ·skip
  refine j3 ?_
  first | refine a7 ⟨_, 1, none⟩ rfl rfl T.z8 rfl ?_ | refine a7 _ rfl rfl T.z8 rfl ?_
  first | refine a8 rfl T.a9 rfl (j0 mB rfl) ?_ | refine a8 rfl T.a9 rfl (i8 mB rfl) ?_ | refine a8 rfl T.a9 rfl (d8 mB (d4 (by omega) rfl)) ?_ | refine a8 rfl T.a9 rfl (d7 mB (rows_get (by omega) rfl)) ?_ | refine a8 rfl T.a9 rfl (g4 mB rfl) ?_
  first | refine a7 ⟨_, 0, none⟩ rfl rfl T.C6 rfl ?_ | refine a7 _ rfl rfl T.C6 rfl ?_
  first | refine a8 rfl T.r6 rfl (j0 mB rfl) ?_ | refine a8 rfl T.r6 rfl (i8 mB rfl) ?_ | refine a8 rfl T.r6 rfl (d8 mB (d4 (by omega) rfl)) ?_ | refine a8 rfl T.r6 rfl (d7 mB (rows_get (by omega) rfl)) ?_ | refine a8 rfl T.r6 rfl (g4 mB rfl) ?_
  refine l9 rfl T.D9 rfl (U6 _ rfl rfl rfl rfl s9 ?_); refine i9 F.K9 rfl rfl (H5 _ _ _) l5 trivial fun _ _ => ?_; refine D5 rfl rfl (b9 rfl (d9 ?_))
  first | refine m7 rfl (fun hb4 => ?_) (fun hb4 => ?_) | refine k4 rfl (fun hb4 => ?_) (fun hb4 => ?_)
  ·have hb4' := hb4; try simp at hb4'
   refine k7 ?_; exact O1 _ () trivial ⟨rfl, rfl, rfl, rfl, congrArg (fun b => some (Value.bool b)) (by rw [hb4]; symm; rw [decide_eq_true_eq]; exact fun e => nbw hb4 e.1), trivial⟩ (List.Sublist.refl _) mC
  have hb4' := hb4; try simp at hb4'
  refine k8 ?_
  first | refine a7 ⟨_, 2, none⟩ rfl rfl T.B5 rfl ?_ | refine a7 _ rfl rfl T.B5 rfl ?_
  first | refine a8 rfl T.a9 rfl (j0 mB rfl) ?_ | refine a8 rfl T.a9 rfl (i8 mB rfl) ?_ | refine a8 rfl T.a9 rfl (d8 mB (d4 (by omega) rfl)) ?_ | refine a8 rfl T.a9 rfl (d7 mB (rows_get (by omega) rfl)) ?_ | refine a8 rfl T.a9 rfl (g4 mB rfl) ?_
  refine b8 rfl (l9 rfl T.w8 rfl (U6 _ rfl rfl rfl rfl s9 ?_)); refine i9 F.K9 rfl rfl (H5 _ _ _) l5 trivial fun _ _ => ?_; refine D5 rfl rfl (b9 rfl (d6 ?_)); exact O1 _ () trivial ⟨rfl, rfl, rfl, rfl, congrArg (fun b => some (Value.bool b)) (by have := bw hb4; rw [Bool.eq_iff_iff]; simp only [Bool.not_eq_true', decide_eq_false_iff_not, decide_eq_true_eq]; exact ⟨fun e f => e f.2, fun e f => e ⟨this, f⟩⟩), trivial⟩ (List.Sublist.refl _) mC
 refine fun _ _ => ?_
 first | refine m7 rfl (fun hb5 => ?_) (fun hb5 => ?_) | refine k4 rfl (fun hb5 => ?_) (fun hb5 => ?_)
 ·have hb5' := hb5; try simp at hb5'
  refine j3 (b9 rfl (d9 (l7 (C2 ?_)))); exact ret1 () rfl (congrArg (fun b => some (int b)) (by rw [X2 cs hs hi, if_neg h1, if_neg hb2, if_neg hb3, if_pos (by omega)])) rfl trivial nil_sb trivial
 have hb5' := hb5; try simp at hb5'
 refine j3 ?_
 first | refine a7 ⟨_, 2, none⟩ rfl rfl T.B5 rfl ?_ | refine a7 _ rfl rfl T.B5 rfl ?_
 first | refine a8 rfl T.a9 rfl (j0 mB rfl) ?_ | refine a8 rfl T.a9 rfl (i8 mB rfl) ?_ | refine a8 rfl T.a9 rfl (d8 mB (d4 (by omega) rfl)) ?_ | refine a8 rfl T.a9 rfl (d7 mB (rows_get (by omega) rfl)) ?_ | refine a8 rfl T.a9 rfl (g4 mB rfl) ?_
 refine b8 rfl (D8 rfl rfl rfl (b9 rfl (d9 ?_)))
 first | refine m7 rfl (fun hb6 => ?_) (fun hb6 => ?_) | refine k4 rfl (fun hb6 => ?_) (fun hb6 => ?_)
 ·have hb6' := hb6; try simp at hb6'
  refine j3 (b9 rfl (d9 (l7 (C2 ?_)))); exact ret1 () rfl (congrArg (fun b => some (int b)) (by rw [X2 cs hs hi, if_neg h1, if_neg hb2, if_neg hb3, if_neg (by omega), if_pos hb6])) rfl trivial nil_sb trivial
 have hb6' := hb6; try simp at hb6'
 have hH : headErr (trOf cs hs) i = if ¬ firstE (alsoErr hs.length i (hs.getD i default).2.2.2.l) (hs.getD i default).2.2.2.l.length = 0 then firstE (alsoErr hs.length i (hs.getD i default).2.2.2.l) (hs.getD i default).2.2.2.l.length else if kindBad (hs.getD i default).p = true then 8 else 0 := by rw [X2 cs hs hi, if_neg h1, if_neg hb2, if_neg hb3, if_neg (by omega), if_neg hb6]
 refine k7 (z2 (j9 (j6 (j3 ?_))))
 first | refine a7 ⟨_, 3, none⟩ rfl rfl T.B4 rfl ?_ | refine a7 _ rfl rfl T.B4 rfl ?_
 first | refine a8 rfl T.d5 rfl (j0 mB rfl) ?_ | refine a8 rfl T.d5 rfl (i8 mB rfl) ?_ | refine a8 rfl T.d5 rfl (d8 mB (d4 (by omega) rfl)) ?_ | refine a8 rfl T.d5 rfl (d7 mB (rows_get (by omega) rfl)) ?_ | refine a8 rfl T.d5 rfl (g4 mB rfl) ?_
 refine l9 rfl T.q9 rfl ?_; refine b8 rfl (d9 (l4 ?_)); refine v8 (β := Nat) ⟨fun k => k ≤ (hs.getD i default).2.2.2.l.length ∧ firstE (alsoErr hs.length i (hs.getD i default).2.2.2.l) k = 0, fun k => [(1, int i), (2, .pointer (b4 gB)), (5, .slice B hs.length cb), (6, .pointer (b4 x7)), (63, .slice (hs.getD i default).2.2.2.a (hs.getD i default).2.2.2.l.length (hs.getD i default).2.2.2.c), (64, int (hs.getD i default).2.2.2.l.length), (65, int k)], fun _ => [(gB, .cells #[.slice A cs.length ca, .slice B hs.length cb] T.z4 (0, 0))], fun _ => [Row (b4 x7) (rows [hs.getD i default]), Row B (rows hs), Row (hs.getD i default).2.2.2.a (rows (hs.getD i default).2.2.2.l)]⟩ (fun k => (hs.getD i default).2.2.2.l.length - k) 0 ⟨Nat.zero_le _, rfl⟩ mC (List.Sublist.refl _) mC fun k hk => ?_; obtain ⟨hk, ht⟩ := hk; refine j3 (A7 rfl rfl rfl (d9 (j6 ?_)))
 first | refine m7 rfl (fun hb7 => ?_) (fun hb7 => ?_) | refine k4 rfl (fun hb7 => ?_) (fun hb7 => ?_)
 ·have hb7' := hb7; try simp at hb7'
  have hk2 : k < (hs.getD i default).2.2.2.l.length := by omega
  refine k7 (j9 (j6 (l4 (j3 (b8 rfl ?_))))); refine w3 (α := Int) _ _ rfl T.q9 T.v0 rfl rfl rfl mB rfl (by omega) (by decide) (a8 rfl T.a9 rfl (d8 mB (d4 (by omega) rfl)) ?_); refine b9 rfl (b9 rfl (d9 (l4 (j3 (b8 rfl (b8 rfl ?_)))))); refine l9 rfl T.w8 rfl (U6 _ rfl rfl rfl rfl s9 ?_); refine i9 F.K9 rfl rfl (H5 _ _ _) l5 trivial fun _ _ => ?_; refine D5 rfl rfl (b9 rfl (d9 ?_))
  first | refine m7 rfl (fun hb8 => ?_) (fun hb8 => ?_) | refine k4 rfl (fun hb8 => ?_) (fun hb8 => ?_)
  ·have hb8' := hb8; try simp at hb8'
   refine j3 (b9 rfl (d9 (l7 (Y6 (C2 (w6 (C2 ?_))))))); exact ret1 () rfl (congrArg (fun b => some (int b)) (by have he : alsoErr hs.length i (hs.getD i default).2.2.2.l k = 3 := (by unfold alsoErr; rw [if_pos (by have := nbw hb8; omega)]); rw [hH, S7 ht (by rw [he]; omega) _ hk2, if_pos (by rw [he]; omega), he])) rfl trivial nil_sb trivial
  have hb8' := hb8; try simp at hb8'
  refine j3 (b8 rfl (b8 rfl (D8 rfl rfl rfl (b9 rfl (d9 ?_)))))
  first | refine m7 rfl (fun hb9 => ?_) (fun hb9 => ?_) | refine k4 rfl (fun hb9 => ?_) (fun hb9 => ?_)
  ·have hb9' := hb9; try simp at hb9'
   refine j3 (b9 rfl (d9 (l7 (Y6 (C2 (w6 (C2 ?_))))))); exact ret1 () rfl (congrArg (fun b => some (int b)) (by have he : alsoErr hs.length i (hs.getD i default).2.2.2.l k = 9 := (by unfold alsoErr; rw [if_neg (by have := bw hb8; omega), if_pos hb9]); rw [hH, S7 ht (by rw [he]; omega) _ hk2, if_pos (by rw [he]; omega), he])) rfl trivial nil_sb trivial
  have hb9' := hb9; try simp at hb9'
  refine jB ⟨fun _ : Unit => True, fun _ => [(1, int i), (2, .pointer (b4 gB)), (5, .slice B hs.length cb), (6, .pointer (b4 x7)), (63, .slice (hs.getD i default).2.2.2.a (hs.getD i default).2.2.2.l.length (hs.getD i default).2.2.2.c), (64, int (hs.getD i default).2.2.2.l.length), (65, int k), (81, .bool (decide (0 < k ∧ (hs.getD i default).2.2.2.l.getD k default ≤ (hs.getD i default).2.2.2.l.getD (k - 1) default)))], fun _ => [(gB, .cells #[.slice A cs.length ca, .slice B hs.length cb] T.z4 (0, 0))], fun _ => [Row (b4 x7) (rows [hs.getD i default]), Row B (rows hs), Row (hs.getD i default).2.2.2.a (rows (hs.getD i default).2.2.2.l)]⟩ ?_ ?_
  ·skip
   refine k8 (b8 rfl (V7 rfl rfl rfl (b8 rfl ?_))); refine r5 rfl rfl ?_ ?_
   ·intro hg2; have hg2' := hg2; try simp at hg2'
    refine k5 rfl rfl hg2 (b8 rfl (k5 rfl rfl hg2 ?_))
    first | refine a7 ⟨_, 3, none⟩ rfl rfl T.B4 rfl ?_ | refine a7 _ rfl rfl T.B4 rfl ?_
    refine k5 rfl rfl hg2 ?_
    first | refine a8 rfl T.d5 rfl (j0 mB rfl) ?_ | refine a8 rfl T.d5 rfl (i8 mB rfl) ?_ | refine a8 rfl T.d5 rfl (d8 mB (d4 (by omega) rfl)) ?_ | refine a8 rfl T.d5 rfl (d7 mB (rows_get (by omega) rfl)) ?_ | refine a8 rfl T.d5 rfl (g4 mB rfl) ?_
    refine k5 rfl rfl hg2 (b8 rfl (k5 rfl rfl hg2 ?_)); refine U6 ((k - 1 : Nat) : Int) rfl rfl rfl (by omega) s9 (k5 rfl rfl hg2 (w3 (α := Int) _ _ rfl T.q9 T.v0 rfl rfl rfl mB rfl (by omega) (by decide) (k5 rfl rfl hg2 (a8 rfl T.a9 rfl (d8 mB (d4 (by omega) rfl)) ?_)))); refine k5 rfl rfl hg2 (uV rfl rfl rfl ?_); refine p_t rfl rfl (bt1 hg2) rfl ?_; refine b9 rfl (d6 ?_); exact O1 _ () trivial ⟨rfl, rfl, rfl, rfl, rfl, rfl, rfl, congrArg (fun b => some (Value.bool b)) (by exact decide_eq_decide.2 ⟨fun e => ⟨by omega, e⟩, fun e => e.2⟩), trivial⟩ (List.Sublist.refl _) mC
   intro hg2; have hg2' := hg2; try simp at hg2'
   refine u2 rfl rfl rfl rfl rfl hg2 (u2 rfl rfl rfl rfl rfl hg2 (u2 rfl rfl rfl rfl rfl hg2 (u2 rfl rfl rfl rfl rfl hg2 (u2 rfl rfl rfl rfl rfl hg2 (u2 rfl rfl rfl rfl rfl hg2 (u2 rfl rfl rfl rfl rfl hg2 (u2 rfl rfl rfl rfl rfl hg2 ?_))))))); refine p_f rfl rfl (bf2 hg2) rfl ?_; refine b9 rfl (d6 ?_); exact O1 _ () trivial ⟨rfl, rfl, rfl, rfl, rfl, rfl, rfl, congrArg (fun b => some (Value.bool b)) (by exact (decide_eq_false (by simp at hg2; omega)).symm), trivial⟩ (List.Sublist.refl _) mC
  refine fun _ _ => ?_
  first | refine m7 rfl (fun hb10 => ?_) (fun hb10 => ?_) | refine k4 rfl (fun hb10 => ?_) (fun hb10 => ?_)
  ·have hb10' := hb10; try simp at hb10'
   refine j3 (b9 rfl (d9 (l7 (Y6 (C2 (w6 (C2 ?_))))))); exact ret1 () rfl (congrArg (fun b => some (int b)) (by have he : alsoErr hs.length i (hs.getD i default).2.2.2.l k = 5 := (by unfold alsoErr; rw [if_neg (by have := bw hb8; omega), if_neg hb9, if_pos hb10]); rw [hH, S7 ht (by rw [he]; omega) _ hk2, if_pos (by rw [he]; omega), he])) rfl trivial nil_sb trivial
  have hb10' := hb10; try simp at hb10'
  refine k7 (z2 (z2 (j9 (k8 ?_)))); refine y2 _ rfl rfl rfl rfl s9 ?_; refine b8 rfl (d6 ?_); exact again _ (k + 1) ⟨by omega, by rw [lZ ht]; unfold alsoErr; rw [if_neg (by have := bw hb8; omega), if_neg hb9, if_neg hb10]⟩ (A5 (by omega)) mC (List.Sublist.refl _) mC
 have hb7' := hb7; try simp at hb7'
 have hk2 : k = (hs.getD i default).2.2.2.l.length := by omega
 subst hk2; rw [if_neg (not_not_intro ht)] at hH; refine v5 (C3 (u9 (j9 (j6 ?_)))); refine jB ⟨fun _ : Unit => True, fun _ => [(1, int i), (2, .pointer (b4 gB)), (5, .slice B hs.length cb), (6, .pointer (b4 x7)), (124, .bool (kindBad (hs.getD i default).p))], fun _ => [(gB, .cells #[.slice A cs.length ca, .slice B hs.length cb] T.z4 (0, 0))], fun _ => [Row (b4 x7) (rows [hs.getD i default]), Row B (rows hs), Row (hs.getD i default).2.2.2.a (rows (hs.getD i default).2.2.2.l)]⟩ ?_ ?_
 ·skip
  clear hH ht hk hb1 hb1' h1 hb2 hb2' hb3 hb3' hb5 hb5' hb6 hb6' hb7 hb7' ha h6 hc6 hc hi hal; refine k8 ?_
  first | refine a7 ⟨_, 2, none⟩ rfl rfl T.B5 rfl ?_ | refine a7 _ rfl rfl T.B5 rfl ?_
  first | refine a8 rfl T.a9 rfl (j0 mB rfl) ?_ | refine a8 rfl T.a9 rfl (i8 mB rfl) ?_ | refine a8 rfl T.a9 rfl (d8 mB (d4 (by omega) rfl)) ?_ | refine a8 rfl T.a9 rfl (d7 mB (rows_get (by omega) rfl)) ?_ | refine a8 rfl T.a9 rfl (g4 mB rfl) ?_
  refine C1 rfl rfl rfl (b8 rfl ?_); refine r5 rfl rfl ?_ ?_
  ·intro hg3; have hg3' := hg3; try simp at hg3'
   refine k5 rfl rfl hg3 ?_
   first | refine a7 ⟨_, 1, none⟩ rfl rfl T.z8 rfl ?_ | refine a7 _ rfl rfl T.z8 rfl ?_
   refine k5 rfl rfl hg3 ?_
   first | refine a8 rfl T.a9 rfl (j0 mB rfl) ?_ | refine a8 rfl T.a9 rfl (i8 mB rfl) ?_ | refine a8 rfl T.a9 rfl (d8 mB (d4 (by omega) rfl)) ?_ | refine a8 rfl T.a9 rfl (d7 mB (rows_get (by omega) rfl)) ?_ | refine a8 rfl T.a9 rfl (g4 mB rfl) ?_
   refine k5 rfl rfl hg3 (C1 rfl rfl rfl (k5 rfl rfl hg3 (b8 rfl ?_))); refine r5 rfl rfl ?_ ?_
   ·intro hg4; have hg4' := hg4; try simp at hg4'
    refine k5 rfl rfl hg4 ?_
    first | refine a7 ⟨_, 3, none⟩ rfl rfl T.B4 rfl ?_ | refine a7 _ rfl rfl T.B4 rfl ?_
    refine k5 rfl rfl hg4 ?_
    first | refine a8 rfl T.d5 rfl (j0 mB rfl) ?_ | refine a8 rfl T.d5 rfl (i8 mB rfl) ?_ | refine a8 rfl T.d5 rfl (d8 mB (d4 (by omega) rfl)) ?_ | refine a8 rfl T.d5 rfl (d7 mB (rows_get (by omega) rfl)) ?_ | refine a8 rfl T.d5 rfl (g4 mB rfl) ?_
    refine k5 rfl rfl hg4 (l9 rfl T.q9 rfl ?_); refine k5 rfl rfl hg4 (V7 rfl rfl rfl (k5 rfl rfl hg3 ?_)); refine p_f rfl rfl (bf1 hg4) rfl (p_t rfl rfl (bt1 hg3) rfl (b8 rfl ?_)); refine r5 rfl rfl ?_ ?_
    ·intro hg5; have hg5' := hg5; try simp at hg5'
     refine k5 rfl rfl hg5 ?_
     first | refine a7 ⟨_, 2, none⟩ rfl rfl T.B5 rfl ?_ | refine a7 _ rfl rfl T.B5 rfl ?_
     refine k5 rfl rfl hg5 ?_
     first | refine a8 rfl T.a9 rfl (j0 mB rfl) ?_ | refine a8 rfl T.a9 rfl (i8 mB rfl) ?_ | refine a8 rfl T.a9 rfl (d8 mB (d4 (by omega) rfl)) ?_ | refine a8 rfl T.a9 rfl (d7 mB (rows_get (by omega) rfl)) ?_ | refine a8 rfl T.a9 rfl (g4 mB rfl) ?_
     refine k5 rfl rfl hg5 (D8 rfl rfl rfl (k5 rfl rfl hg5 (b8 rfl ?_))); refine r5 rfl rfl ?_ ?_
     ·intro hg6; have hg6' := hg6; try simp at hg6'
      refine k5 rfl rfl hg6 ?_
      first | refine a7 ⟨_, 1, none⟩ rfl rfl T.z8 rfl ?_ | refine a7 _ rfl rfl T.z8 rfl ?_
      refine k5 rfl rfl hg6 ?_
      first | refine a8 rfl T.a9 rfl (j0 mB rfl) ?_ | refine a8 rfl T.a9 rfl (i8 mB rfl) ?_ | refine a8 rfl T.a9 rfl (d8 mB (d4 (by omega) rfl)) ?_ | refine a8 rfl T.a9 rfl (d7 mB (rows_get (by omega) rfl)) ?_ | refine a8 rfl T.a9 rfl (g4 mB rfl) ?_
      refine k5 rfl rfl hg6 (D8 rfl rfl rfl (k5 rfl rfl hg5 ?_)); refine p_t rfl rfl (bt1 hg6) rfl ?_; refine k5 rfl rfl hg5 (b8 rfl ?_); refine r5 rfl rfl ?_ ?_
      ·intro hg7; have hg7' := hg7; try simp at hg7'
       refine k5 rfl rfl hg7 ?_
       first | refine a7 ⟨_, 3, none⟩ rfl rfl T.B4 rfl ?_ | refine a7 _ rfl rfl T.B4 rfl ?_
       refine k5 rfl rfl hg7 ?_
       first | refine a8 rfl T.d5 rfl (j0 mB rfl) ?_ | refine a8 rfl T.d5 rfl (i8 mB rfl) ?_ | refine a8 rfl T.d5 rfl (d8 mB (d4 (by omega) rfl)) ?_ | refine a8 rfl T.d5 rfl (d7 mB (rows_get (by omega) rfl)) ?_ | refine a8 rfl T.d5 rfl (g4 mB rfl) ?_
       refine k5 rfl rfl hg7 (l9 rfl T.q9 rfl ?_); refine k5 rfl rfl hg7 (D8 rfl rfl rfl (k5 rfl rfl hg5 ?_)); refine p_t rfl rfl (bt1 hg7) rfl (p_f rfl rfl (bf1 hg5) rfl ?_); refine d6 ?_; exact O1 _ () trivial ⟨rfl, rfl, rfl, rfl, congrArg (fun b => some (Value.bool b)) (by simp only [kindBad, Hd.p]; simp_all), trivial⟩ (List.Sublist.refl _) mC
      intro hg7; have hg7' := hg7; try simp at hg7'
      refine u2 rfl rfl rfl rfl rfl hg7 (u2 rfl rfl rfl rfl rfl hg7 (u2 rfl rfl rfl rfl rfl hg7 (u2 rfl rfl rfl rfl rfl hg7 (k5 rfl rfl hg5 ?_)))); refine p_f rfl rfl (bf2 hg7) rfl (p_f rfl rfl (bf1 hg5) rfl ?_); refine d6 ?_; exact O1 _ () trivial ⟨rfl, rfl, rfl, rfl, congrArg (fun b => some (Value.bool b)) (by simp only [kindBad, Hd.p]; simp_all), trivial⟩ (List.Sublist.refl _) mC
     intro hg6; have hg6' := hg6; try simp at hg6'
     refine u2 rfl rfl rfl rfl rfl hg6 (u2 rfl rfl rfl rfl rfl hg6 (u2 rfl rfl rfl rfl rfl hg6 (k5 rfl rfl hg5 ?_))); refine p_f rfl rfl (bf2 hg6) rfl ?_; refine k5 rfl rfl hg5 (b8 rfl (u2 rfl rfl rfl rfl rfl rfl (u2 rfl rfl rfl rfl rfl rfl (u2 rfl rfl rfl rfl rfl rfl (u2 rfl rfl rfl rfl rfl rfl (k5 rfl rfl hg5 (p_f rfl rfl rfl rfl ?_))))))); refine p_f rfl rfl (bf1 hg5) rfl ?_; refine d6 ?_; exact O1 _ () trivial ⟨rfl, rfl, rfl, rfl, congrArg (fun b => some (Value.bool b)) (by simp only [kindBad, Hd.p]; simp_all), trivial⟩ (List.Sublist.refl _) mC
    intro hg5; have hg5' := hg5; try simp at hg5'
    refine u2 rfl rfl rfl rfl rfl hg5 (u2 rfl rfl rfl rfl rfl hg5 (u2 rfl rfl rfl rfl rfl hg5 (u2 rfl rfl rfl rfl rfl hg5 (R1 rfl rfl rfl rfl rfl rfl (R1 rfl rfl rfl rfl rfl rfl (R1 rfl rfl rfl rfl rfl rfl (u2 rfl rfl rfl rfl rfl hg5 (u2 rfl rfl rfl rfl rfl hg5 (R1 rfl rfl rfl rfl rfl rfl (R1 rfl rfl rfl rfl rfl rfl (R1 rfl rfl rfl rfl rfl rfl ?_))))))))))); refine R1 rfl rfl rfl rfl rfl rfl (u2 rfl rfl rfl rfl rfl hg5 ?_); refine p_t rfl rfl (bt2 hg5) rfl ?_; refine d6 ?_; exact O1 _ () trivial ⟨rfl, rfl, rfl, rfl, congrArg (fun b => some (Value.bool b)) (by simp only [kindBad, Hd.p]; simp_all), trivial⟩ (List.Sublist.refl _) mC
   intro hg4; have hg4' := hg4; try simp at hg4'
   refine u2 rfl rfl rfl rfl rfl hg4 (u2 rfl rfl rfl rfl rfl hg4 (u2 rfl rfl rfl rfl rfl hg4 (u2 rfl rfl rfl rfl rfl hg4 (k5 rfl rfl hg3 ?_)))); refine p_t rfl rfl (bt2 hg4) rfl (p_t rfl rfl (bt1 hg3) rfl ?_); refine b8 rfl (u2 rfl rfl rfl rfl rfl rfl (u2 rfl rfl rfl rfl rfl rfl (u2 rfl rfl rfl rfl rfl rfl (u2 rfl rfl rfl rfl rfl rfl (R1 rfl rfl rfl rfl rfl rfl (R1 rfl rfl rfl rfl rfl rfl (R1 rfl rfl rfl rfl rfl rfl (u2 rfl rfl rfl rfl rfl rfl (u2 rfl rfl rfl rfl rfl rfl (R1 rfl rfl rfl rfl rfl rfl (R1 rfl rfl rfl rfl rfl rfl ?_))))))))))); refine R1 rfl rfl rfl rfl rfl rfl (R1 rfl rfl rfl rfl rfl rfl (u2 rfl rfl rfl rfl rfl rfl (p_t rfl rfl rfl rfl (d6 ?_)))); exact O1 _ () trivial ⟨rfl, rfl, rfl, rfl, congrArg (fun b => some (Value.bool b)) (by simp only [kindBad, Hd.p]; simp_all), trivial⟩ (List.Sublist.refl _) mC
  intro hg3; have hg3' := hg3; try simp at hg3'
  refine u2 rfl rfl rfl rfl rfl hg3 (u2 rfl rfl rfl rfl rfl hg3 (u2 rfl rfl rfl rfl rfl hg3 (u2 rfl rfl rfl rfl rfl hg3 (R1 rfl rfl rfl rfl rfl rfl (R1 rfl rfl rfl rfl rfl rfl (R1 rfl rfl rfl rfl rfl rfl (R1 rfl rfl rfl rfl rfl rfl (u2 rfl rfl rfl rfl rfl hg3 ?_)))))))); refine p_f rfl rfl (bf2 hg3) rfl ?_; refine b8 rfl (k5 rfl rfl rfl ?_)
  first | refine a7 ⟨_, 2, none⟩ rfl rfl T.B5 rfl ?_ | refine a7 _ rfl rfl T.B5 rfl ?_
  refine k5 rfl rfl rfl ?_
  first | refine a8 rfl T.a9 rfl (j0 mB rfl) ?_ | refine a8 rfl T.a9 rfl (i8 mB rfl) ?_ | refine a8 rfl T.a9 rfl (d8 mB (d4 (by omega) rfl)) ?_ | refine a8 rfl T.a9 rfl (d7 mB (rows_get (by omega) rfl)) ?_ | refine a8 rfl T.a9 rfl (g4 mB rfl) ?_
  refine k5 rfl rfl rfl (D8 rfl rfl rfl (k5 rfl rfl rfl (b8 rfl ?_))); refine r5 rfl rfl ?_ ?_
  ·intro hg8; have hg8' := hg8; try simp at hg8'
   refine k5 rfl rfl hg8 ?_
   first | refine a7 ⟨_, 1, none⟩ rfl rfl T.z8 rfl ?_ | refine a7 _ rfl rfl T.z8 rfl ?_
   refine k5 rfl rfl hg8 ?_
   first | refine a8 rfl T.a9 rfl (j0 mB rfl) ?_ | refine a8 rfl T.a9 rfl (i8 mB rfl) ?_ | refine a8 rfl T.a9 rfl (d8 mB (d4 (by omega) rfl)) ?_ | refine a8 rfl T.a9 rfl (d7 mB (rows_get (by omega) rfl)) ?_ | refine a8 rfl T.a9 rfl (g4 mB rfl) ?_
   refine k5 rfl rfl hg8 (D8 rfl rfl rfl (k5 rfl rfl rfl ?_)); refine p_t rfl rfl (bt1 hg8) rfl ?_; refine k5 rfl rfl rfl (b8 rfl ?_); refine r5 rfl rfl ?_ ?_
   ·intro hg9; have hg9' := hg9; try simp at hg9'
    refine k5 rfl rfl hg9 ?_
    first | refine a7 ⟨_, 3, none⟩ rfl rfl T.B4 rfl ?_ | refine a7 _ rfl rfl T.B4 rfl ?_
    refine k5 rfl rfl hg9 ?_
    first | refine a8 rfl T.d5 rfl (j0 mB rfl) ?_ | refine a8 rfl T.d5 rfl (i8 mB rfl) ?_ | refine a8 rfl T.d5 rfl (d8 mB (d4 (by omega) rfl)) ?_ | refine a8 rfl T.d5 rfl (d7 mB (rows_get (by omega) rfl)) ?_ | refine a8 rfl T.d5 rfl (g4 mB rfl) ?_
    refine k5 rfl rfl hg9 (l9 rfl T.q9 rfl ?_); refine k5 rfl rfl hg9 (D8 rfl rfl rfl (k5 rfl rfl rfl ?_)); refine p_t rfl rfl (bt1 hg9) rfl ?_; refine p_f rfl rfl rfl rfl (d6 ?_); exact O1 _ () trivial ⟨rfl, rfl, rfl, rfl, congrArg (fun b => some (Value.bool b)) (by simp only [kindBad, Hd.p]; simp_all), trivial⟩ (List.Sublist.refl _) mC
   intro hg9; have hg9' := hg9; try simp at hg9'
   refine u2 rfl rfl rfl rfl rfl hg9 (u2 rfl rfl rfl rfl rfl hg9 (u2 rfl rfl rfl rfl rfl hg9 (u2 rfl rfl rfl rfl rfl hg9 (k5 rfl rfl rfl ?_)))); refine p_f rfl rfl (bf2 hg9) rfl ?_; refine p_f rfl rfl rfl rfl (d6 ?_); exact O1 _ () trivial ⟨rfl, rfl, rfl, rfl, congrArg (fun b => some (Value.bool b)) (by simp only [kindBad, Hd.p]; simp_all), trivial⟩ (List.Sublist.refl _) mC
  intro hg8; have hg8' := hg8; try simp at hg8'
  refine u2 rfl rfl rfl rfl rfl hg8 (u2 rfl rfl rfl rfl rfl hg8 (u2 rfl rfl rfl rfl rfl hg8 (k5 rfl rfl rfl ?_))); refine p_f rfl rfl (bf2 hg8) rfl ?_; refine k5 rfl rfl rfl (b8 rfl (u2 rfl rfl rfl rfl rfl rfl (u2 rfl rfl rfl rfl rfl rfl (u2 rfl rfl rfl rfl rfl rfl (u2 rfl rfl rfl rfl rfl rfl (k5 rfl rfl rfl (p_f rfl rfl rfl rfl (p_f rfl rfl rfl rfl (d6 ?_))))))))); exact O1 _ () trivial ⟨rfl, rfl, rfl, rfl, congrArg (fun b => some (Value.bool b)) (by simp only [kindBad, Hd.p]; simp_all), trivial⟩ (List.Sublist.refl _) mC
 refine fun _ _ => ?_
 first | refine m7 rfl (fun hb11 => ?_) (fun hb11 => ?_) | refine k4 rfl (fun hb11 => ?_) (fun hb11 => ?_)
 ·have hb11' := hb11; try simp at hb11'
  refine j3 (b9 rfl (d9 (J1 ?_))); exact ret1 () rfl (congrArg (fun b => some (int b)) (by rw [hH, if_pos hb11])) rfl trivial nil_sb trivial
 have hb11' := hb11; try simp at hb11'
 refine k7 (j9 (j3 (b9 rfl (d9 (l7 ?_))))); exact ret1 () rfl (congrArg (fun b => some (int b)) (by rw [hH, if_neg (by rw [hb11]; simp)])) rfl trivial nil_sb trivial
theorem N4 (cs : List Cl) (hs : List Hd) : (trOf cs hs).hs.length = hs.length := List.length_map ..
theorem cP {A B : Option Addr} {ca cb : Nat} (cs : List Cl) (hs : List Hd) (hca : cs.length ≤ ca) (hcb : hs.length ≤ cb) (ha : ∀ h ∈ hs, h.2.2.2.l.length ≤ 1000000) : Meets Tryz.prog F.lA [.agg #[.slice A cs.length ca, .slice B hs.length cb]] { LI := [Row A (rows cs), RowsF B hs Hd.row], val := fun _ : Unit => int (checkT (trOf cs hs)) } := by
 refine j8 F.zE rfl t4 fun w0 => ?_; refine j3 ?_; refine C4 rfl rfl fun gB => ?_; refine b9 rfl (d9 (hq4 ?_)); have hl := N4 cs hs; refine k8 ?_
 first | refine a7 ⟨_, 0, none⟩ rfl rfl T.C6 rfl ?_ | refine a7 _ rfl rfl T.C6 rfl ?_
 first | refine a8 rfl T.r6 rfl (j0 mB rfl) ?_ | refine a8 rfl T.r6 rfl (i8 mB rfl) ?_ | refine a8 rfl T.r6 rfl (d8 mB (d4 (by omega) rfl)) ?_ | refine a8 rfl T.r6 rfl (d7 mB (rows_get (by omega) rfl)) ?_ | refine a8 rfl T.r6 rfl (g4 mB rfl) ?_
 refine l9 rfl T.D9 rfl ?_; refine V7 rfl rfl rfl (b8 rfl ?_); refine r5 rfl rfl ?_ ?_
 ·intro hg1; have hg1' := hg1; try simp at hg1'
  have h6 : cs.length ≤ 6 := by simp at hg1; omega
  refine k5 rfl rfl hg1 ?_
  first | refine a7 ⟨_, 1, none⟩ rfl rfl T.p6 rfl ?_ | refine a7 _ rfl rfl T.p6 rfl ?_
  refine k5 rfl rfl hg1 ?_
  first | refine a8 rfl T.m3 rfl (j0 mB rfl) ?_ | refine a8 rfl T.m3 rfl (i8 mB rfl) ?_ | refine a8 rfl T.m3 rfl (d8 mB (d4 (by omega) rfl)) ?_ | refine a8 rfl T.m3 rfl (d7 mB (rows_get (by omega) rfl)) ?_ | refine a8 rfl T.m3 rfl (g4 mB rfl) ?_
  refine k5 rfl rfl hg1 (l9 rfl T.w8 rfl ?_); refine k5 rfl rfl hg1 (V7 rfl rfl rfl ?_); refine p_f rfl rfl (bf1 hg1) rfl ?_; refine d9 ?_
  first | refine m7 rfl (fun hb1 => ?_) (fun hb1 => ?_) | refine k4 rfl (fun hb1 => ?_) (fun hb1 => ?_)
  ·have hb1' := hb1; try simp at hb1'
   refine j3 (b9 rfl (d9 (J1 ?_))); exact ret1 () rfl (congrArg (fun b => some (int b)) (by rw [checkT, if_pos (by rw [hl]; simp only; omega)])) rfl trivial nil_sb trivial
  have hb1' := hb1; try simp at hb1'
  have h6h : hs.length ≤ 6 := by omega
  have hT : checkT (trOf cs hs) = if ¬ firstE (clsErr cs) cs.length = 0 then firstE (clsErr cs) cs.length else firstE (headErr (trOf cs hs)) hs.length := by rw [checkT, if_neg (by rw [hl]; simp only; omega), hl]
  refine k7 (j9 (j6 (j3 ?_)))
  first | refine a7 ⟨_, 0, none⟩ rfl rfl T.C6 rfl ?_ | refine a7 _ rfl rfl T.C6 rfl ?_
  first | refine a8 rfl T.r6 rfl (j0 mB rfl) ?_ | refine a8 rfl T.r6 rfl (i8 mB rfl) ?_ | refine a8 rfl T.r6 rfl (d8 mB (d4 (by omega) rfl)) ?_ | refine a8 rfl T.r6 rfl (d7 mB (rows_get (by omega) rfl)) ?_ | refine a8 rfl T.r6 rfl (g4 mB rfl) ?_
  refine l9 rfl T.D9 rfl ?_; refine b8 rfl (d9 (l4 ?_)); refine v8 (β := Nat) ⟨fun k => k ≤ cs.length ∧ firstE (clsErr cs) k = 0, fun k => [(1, .pointer (b4 gB)), (19, int cs.length), (20, int k)], fun _ => [(gB, .cells #[.slice A cs.length ca, .slice B hs.length cb] T.z4 (0, 0))], fun _ => [Row A (rows cs), RowsF B hs Hd.row]⟩ (fun k => cs.length - k) 0 ⟨Nat.zero_le _, rfl⟩ mC (List.Sublist.refl _) mC fun k hk => ?_; obtain ⟨hk, ht⟩ := hk; refine j3 (A7 rfl rfl rfl (d9 (j6 ?_)))
  first | refine m7 rfl (fun hb2 => ?_) (fun hb2 => ?_) | refine k4 rfl (fun hb2 => ?_) (fun hb2 => ?_)
  ·have hb2' := hb2; try simp at hb2'
   have hk2 : k < cs.length := by omega
   refine k7 (j9 (j6 (l4 (j3 (b8 rfl (b9 rfl (k9 ?_)))))))
   first | refine a7 ⟨_, 0, none⟩ rfl rfl T.C6 rfl ?_ | refine a7 _ rfl rfl T.C6 rfl ?_
   first | refine a8 rfl T.r6 rfl (j0 mB rfl) ?_ | refine a8 rfl T.r6 rfl (i8 mB rfl) ?_ | refine a8 rfl T.r6 rfl (d8 mB (d4 (by omega) rfl)) ?_ | refine a8 rfl T.r6 rfl (d7 mB (rows_get (by omega) rfl)) ?_ | refine a8 rfl T.r6 rfl (g4 mB rfl) ?_
   refine b8 rfl ?_; refine i9 F.nK rfl rfl (iN cs k (by omega) hca hk2) l5 mC fun _ _ => ?_; refine b9 rfl (k9 (b8 rfl (C1 rfl rfl rfl (d9 ?_))))
   first | refine m7 rfl (fun hb3 => ?_) (fun hb3 => ?_) | refine k4 rfl (fun hb3 => ?_) (fun hb3 => ?_)
   ·have hb3' := hb3; try simp at hb3'
    refine j3 (b8 rfl (b9 rfl (d9 (l7 (C2 (w6 (C2 ?_))))))); exact ret1 () rfl (congrArg (fun b => some (int b)) (by rw [hT, S7 ht hb3 _ hk2, if_pos hb3])) rfl trivial nil_sb trivial
   have hb3' := hb3; try simp at hb3'
   refine k7 (z2 (j9 (k8 ?_))); refine y2 _ rfl rfl rfl rfl s9 ?_; refine b8 rfl (d6 ?_); exact again _ (k + 1) ⟨by omega, by rw [lZ ht]; exact Classical.not_not.1 hb3⟩ (A5 (by omega)) mC (List.Sublist.refl _) mC
  have hb2' := hb2; try simp at hb2'
  have hk2 : k = cs.length := by omega
  subst hk2; rw [if_neg (not_not_intro ht)] at hT; refine v5 (C3 (u9 (j9 (j6 (j3 ?_)))))
  first | refine a7 ⟨_, 1, none⟩ rfl rfl T.p6 rfl ?_ | refine a7 _ rfl rfl T.p6 rfl ?_
  first | refine a8 rfl T.m3 rfl (j0 mB rfl) ?_ | refine a8 rfl T.m3 rfl (i8 mB rfl) ?_ | refine a8 rfl T.m3 rfl (d8 mB (d4 (by omega) rfl)) ?_ | refine a8 rfl T.m3 rfl (d7 mB (rows_get (by omega) rfl)) ?_ | refine a8 rfl T.m3 rfl (g4 mB rfl) ?_
  refine l9 rfl T.w8 rfl ?_; refine b8 rfl (d9 (l4 ?_)); refine v8 (β := Nat) ⟨fun k => k ≤ hs.length ∧ firstE (headErr (trOf cs hs)) k = 0, fun k => [(1, .pointer (b4 gB)), (33, int hs.length), (34, int k)], fun _ => [(gB, .cells #[.slice A cs.length ca, .slice B hs.length cb] T.z4 (0, 0))], fun _ => [Row A (rows cs), RowsF B hs Hd.row]⟩ (fun k => hs.length - k) 0 ⟨Nat.zero_le _, rfl⟩ mC (List.Sublist.refl _) mC fun k hk => ?_; obtain ⟨hk, ht⟩ := hk; refine j3 (A7 rfl rfl rfl (d9 (j6 ?_)))
  first | refine m7 rfl (fun hb4 => ?_) (fun hb4 => ?_) | refine k4 rfl (fun hb4 => ?_) (fun hb4 => ?_)
  ·have hb4' := hb4; try simp at hb4'
   have hk2 : k < hs.length := by omega
   refine k7 (j9 (j6 (l4 (j3 (b8 rfl (b9 rfl (k9 ?_)))))))
   first | refine u1 rfl T.t1 T.t5 rfl mB (by rfl) ?_ | refine t7 rfl T.t1 T.t5 rfl mB (by rfl) ?_ | refine r8 rfl T.t1 T.t5 rfl rfl (m9 mB (q8 (by omega))) ?_
   refine b8 rfl ?_; refine i9 F.pM rfl rfl (kE cs hs k h6h h6 hcb hk2 ha) l5 mC fun _ _ => ?_; refine b9 rfl (k9 (b8 rfl (C1 rfl rfl rfl (d9 ?_))))
   first | refine m7 rfl (fun hb5 => ?_) (fun hb5 => ?_) | refine k4 rfl (fun hb5 => ?_) (fun hb5 => ?_)
   ·have hb5' := hb5; try simp at hb5'
    refine j3 (b8 rfl (b9 rfl (d9 (l7 (C2 (w6 (C2 ?_))))))); exact ret1 () rfl (congrArg (fun b => some (int b)) (by rw [hT, S7 ht hb5 _ hk2])) rfl trivial nil_sb trivial
   have hb5' := hb5; try simp at hb5'
   refine k7 (z2 (j9 (k8 ?_))); refine y2 _ rfl rfl rfl rfl s9 ?_; refine b8 rfl (d6 ?_); exact again _ (k + 1) ⟨by omega, by rw [lZ ht]; exact Classical.not_not.1 hb5⟩ (A5 (by omega)) mC (List.Sublist.refl _) mC
  have hb4' := hb4; try simp at hb4'
  have hk2 : k = hs.length := by omega
  subst hk2; refine v5 (C3 (u9 (j9 (j3 (b9 rfl (d9 (l7 ?_))))))); exact ret1 () rfl (congrArg (fun b => some (int b)) (by rw [hT, ht])) rfl trivial nil_sb trivial
 intro hg1; have hg1' := hg1; try simp at hg1'
 refine u2 rfl rfl rfl rfl rfl hg1 (u2 rfl rfl rfl rfl rfl hg1 (u2 rfl rfl rfl rfl rfl hg1 (u2 rfl rfl rfl rfl rfl hg1 ?_))); refine p_t rfl rfl (bt2 hg1) rfl ?_; refine d9 (c_t rfl rfl (j3 (b9 rfl (d9 (J1 ?_))))); exact ret1 () rfl (congrArg (fun b => some (int b)) (by rw [checkT, if_pos (by simp at hg1; simp only; omega)])) rfl trivial nil_sb trivial
end Go.Proofs.YtmpfpfbcejfijaaGreatDoor
end
section
namespace Go.Proofs.YtmpfpfbcejfijaaGreatDoor
open Go Go.W
set_option maxRecDepth 20000
attribute [local irreducible] HL HC HQ HB Row Rows2 Blk Facts
instance : El Nat where
  default := 0
  cells m := [u8 m]
  sz := 1
  len _ := rfl
  one a u h := by simp at h; subst h; rfl
inductive Kd where
  | art (c : Int) (al : Sl Int)
  | ptr (s : Int)
  | idx (al : Sl Int)
def Kd.v : Kd → Value
  | .art c al => .iface T.nV (.agg #[int c, .slice al.a al.l.length al.c])
  | .ptr s => .iface T.nU (.agg #[int s])
  | .idx al => .iface T.uR (.agg #[.slice al.a al.l.length al.c])
instance : El Kd where
  default := .ptr 0
  cells m := [m.v]
  sz := 1
  len _ := rfl
  one a u h := by simp at h; subst h; cases a <;> rfl
def kindOf (h : Hd) : Kd := if ¬ h.2.2.1 = -1 then .ptr h.2.2.1 else if ¬ h.2.1 = -1 then .art h.2.1 h.2.2.2 else .idx h.2.2.2
def kindsN (hs : List Hd) (k : Nat) : List Kd := (hs.take k).map kindOf
theorem mW {hs : List Hd} {k : Nat} (h : k ≤ hs.length) : (kindsN hs k).length = k := by simp [kindsN, h]
theorem qK {hs : List Hd} {k : Nat} (h : k < hs.length) : kindsN hs (k + 1) = kindsN hs k ++ [kindOf (hs.getD k default)] := by
  unfold kindsN; rw [L3 hs k h, List.map_append]
  rfl
def maskOf (l : List Int) : Nat := l.foldl (fun m x => m ||| 2 ^ x.toNat) 0
theorem jq6 (l : List Int) (x : Int) : maskOf (l ++ [x]) = maskOf l ||| 2 ^ x.toNat := by unfold maskOf; rw [List.foldl_append]; rfl
theorem dx7 : ∀ (l : List Int) (m : Nat), m < 256 → (∀ x ∈ l, x.toNat < 8) → l.foldl (fun m x => m ||| 2 ^ x.toNat) m < 256
  | [], m, hm, _ => hm
  | x :: l, m, hm, h => by
    rw [List.foldl_cons]; refine dx7 l _ (Nat.or_lt_two_pow (n := 8) hm ?_) (fun y hy => h y (List.mem_cons_of_mem _ hy)); exact Nat.pow_lt_pow_right (by omega) (h x (List.mem_cons_self ..))
theorem mask_lt {l : List Int} (h : ∀ x ∈ l, x.toNat < 8) : maskOf l < 256 := dx7 l 0 (by decide) h
def masksN (cs : List Cl) (k : Nat) : List Nat := (List.range k).map fun i : Nat => maskOf (pathT cs (i : Int))
theorem az1 (cs : List Cl) (k : Nat) : (masksN cs k).length = k := by simp [masksN]
theorem hj5 (cs : List Cl) (k : Nat) : masksN cs (k + 1) = masksN cs k ++ [maskOf (pathT cs (k : Int))] := by unfold masksN; rw [List.range_succ, List.map_append]; rfl
theorem jq5 {cs : List Cl} {k i : Nat} (h : i < k) : (masksN cs k).getD i default = maskOf (pathT cs (i : Int)) := by
  rw [w4 (by rw [az1]; exact h)]
  simp [masksN]
theorem hj4 {cs : List Cl} (h6 : cs.length ≤ 6) (hc : ∀ i, i < cs.length → ClsOK cs i) {c : Int} (hl : c < (cs.length : Int)) : ∀ x ∈ pathT cs c, 0 ≤ x ∧ x < 6 := fun x hx => by
  have := (dx2 cs hc c.toNat c (Nat.le_refl _) hl).2 x hx
  omega
theorem jq7 {cs : List Cl} (h6 : cs.length ≤ 6) (hc : ∀ i, i < cs.length → ClsOK cs i) {c : Int} (hl : c < (cs.length : Int)) : maskOf (pathT cs c) < 256 := mask_lt fun x hx => by have := hj4 h6 hc hl x hx; omega
theorem az2 {cs : List Cl} (h6 : cs.length ≤ 6) (hc : ∀ i, i < cs.length → ClsOK cs i) {k : Nat} (hk : k < cs.length) : maskOf (pathT cs (k : Int)) = 2 ^ k ||| maskOf (pathT cs (cs.getD k default).2) := by
  rw [ax8 cs hc (by omega) (by omega), jq6, Nat.or_comm]
  rfl
theorem lx7 {cs : List Cl} {c : Int} (h : c < 0) : maskOf (pathT cs c) = 0 := by rw [sD cs h]; rfl
theorem pmA {α : Type} (l : List α) (a b : α) : (l ++ [a, b]).Perm (a :: (l ++ [b])) := U7 fun p => by simp only [List.countP_append, List.countP_cons, List.countP_nil]; omega
theorem pmB {α : Type} (l : List α) (a b : α) : (a :: (l ++ [b])).Perm (l ++ [a, b]) := (pmA l a b).symm
theorem pmC {α : Type} (l : List α) (a : α) : (l ++ [a]).Perm (a :: l) := List.perm_append_comm (l₂ := [a])
def beginL (cs : List Cl) (hs : List Hd) (A : Option Addr) (ca : Nat) (B : Option Addr) (cb : Nat) (x : Nat × OutC × OutC) : List Fact := [Row (some ⟨x.1, 0, none⟩) [.slice A cs.length ca, .slice B hs.length cb, .slice x.2.1.1 cs.length x.2.1.2, .slice x.2.2.1 hs.length x.2.2.2], Row x.2.1.1 (rows (masksN cs cs.length)), Row x.2.2.1 (rows (kindsN hs hs.length))]
theorem dD (m i : Nat) (hm : m < 256) (hi : i < 8) : Meets Tryz.prog F.R8 [u8 m, int i] { val := fun _ : Unit => u8 (m ||| 2 ^ i) } := by
 refine j8 F.kW rfl t4 fun w0 => ?_; refine j3 (b9 rfl (k9 (b8 rfl (b8 rfl (r_shl8 i rfl rfl rfl rfl hi ?_))))); refine r_or8 rfl rfl rfl hm (Nat.pow_lt_pow_right (by omega) hi : 2 ^ i < 2 ^ 8) ?_; refine b9 rfl (d9 (l7 ?_)); exact ret1 () rfl rfl rfl trivial nil_sb trivial
set_option maxHeartbeats 1000000 in
theorem rQ {A B : Option Addr} {ca cb : Nat} (cs : List Cl) (hs : List Hd) (hca : cs.length ≤ ca) (hcb : hs.length ≤ cb) (ha : ∀ h ∈ hs, h.2.2.2.l.length ≤ 1000000) : Meets Tryz.prog F.lB [.agg #[.slice A cs.length ca, .slice B hs.length cb]] { LI := [Row A (rows cs), RowsF B hs Hd.row], val := fun x : Nat × OutC × OutC => .tuple #[if checkT (trOf cs hs) = 0 then .pointer (some ⟨x.1, 0, none⟩) else .pointer none, int (checkT (trOf cs hs))], LO := fun x => if checkT (trOf cs hs) = 0 then beginL cs hs A ca B cb x else [] } := by
 refine j8 F.zF rfl t4 fun w0 => ?_; refine j3 ?_; refine C4 rfl rfl fun gB => ?_; refine b9 rfl (b9 rfl (d9 (j6 (j3 ?_))))
 first | refine u1 rfl T.t1 T.t5 rfl mB (by rfl) ?_ | refine t7 rfl T.t1 T.t5 rfl mB (by rfl) ?_ | refine r8 rfl T.t1 T.t5 rfl rfl (m9 mB (q8 (by omega))) ?_
 refine i9 F.kX rfl rfl (cP cs hs hca hcb ha) l5 mC fun _ _ => ?_; refine b9 rfl (k9 (b8 rfl (C1 rfl rfl rfl (d9 ?_))))
 first | refine m7 rfl (fun hb1 => ?_) (fun hb1 => ?_) | refine k4 rfl (fun hb1 => ?_) (fun hb1 => ?_)
 ·have hb1' := hb1; try simp at hb1'
  refine j3 (b8 rfl (b9 rfl (b9 rfl (d9 (J1 ?_))))); exact ret2 (0, (none, 0), (none, 0)) rfl rfl rfl (by show Value.tuple #[if checkT (trOf cs hs) = 0 then _ else _, _] = _; rw [if_neg hb1]) rfl trivial nil_sb (by show LSub _ (if checkT (trOf cs hs) = 0 then _ else []); rw [if_neg hb1]; trivial)
 have hb1' := hb1; try simp at hb1'
 have hok := dj3 (Classical.not_not.1 hb1); have h6 : cs.length ≤ 6 := hok.c6; have h6h := hok.h6; rw [N4] at h6h; have hcl : ∀ i, i < cs.length → ClsOK cs i := hok.c; refine k7 (j9 (j3 ?_))
 first | refine u1 rfl T.t1 T.t5 rfl mB (by rfl) ?_ | refine t7 rfl T.t1 T.t5 rfl mB (by rfl) ?_ | refine r8 rfl T.t1 T.t5 rfl rfl (m9 mB (q8 (by omega))) ?_
 refine u7 _ rfl rfl (fun _ => T.wK ..) ?_; refine C4 rfl rfl fun gB_1 => ?_; refine b9 rfl (d9 (j6 (j3 ?_)))
 first | refine a7 ⟨_, 0, none⟩ rfl rfl T.C6 rfl ?_ | refine a7 _ rfl rfl T.C6 rfl ?_
 first | refine a8 rfl T.r6 rfl (j0 mB rfl) ?_ | refine a8 rfl T.r6 rfl (i8 mB rfl) ?_ | refine a8 rfl T.r6 rfl (d8 mB (d4 (by omega) rfl)) ?_ | refine a8 rfl T.r6 rfl (d7 mB (rows_get (by omega) rfl)) ?_ | refine a8 rfl T.r6 rfl (g4 mB rfl) ?_
 refine l9 rfl T.D9 rfl ?_; refine b8 rfl (d9 (l4 ?_)); refine v8 (β := Nat × OutC × Hp) ⟨fun x => x.1 ≤ cs.length ∧ Grow T.dE 1 x.2.1.1 x.1 x.2.1.2 (rows (masksN cs x.1)) x.2.2, fun x => [(1, .pointer (b4 gB)), (5, .pointer (b4 gB_1)), (20, .slice A cs.length ca), (21, int cs.length), (22, int x.1)], fun x => (gB_1, .cells #[.slice A cs.length ca, .slice B hs.length cb, .slice x.2.1.1 x.1 x.2.1.2, .slice none 0 0] T.pK (0, 0)) :: (x.2.2 ++ [(gB, .cells #[.slice A cs.length ca, .slice B hs.length cb] T.z4 (0, 0))]), fun _ => [Row A (rows cs), RowsF B hs Hd.row]⟩ (fun x => cs.length - x.1) (0, (none, 0), []) ⟨Nat.zero_le _, Grow.nil _ _⟩ mC (List.Sublist.refl _) mC fun x hx => ?_; obtain ⟨k, ⟨oa, oc⟩, og⟩ := x; obtain ⟨hk, hG⟩ := hx; simp only at hk hG; refine j3 (A7 rfl rfl rfl (d9 (j6 ?_)))
 first | refine m7 rfl (fun hb2 => ?_) (fun hb2 => ?_) | refine k4 rfl (fun hb2 => ?_) (fun hb2 => ?_)
 ·have hb2' := hb2; try simp at hb2'
  have hk2 : k < cs.length := by omega
  have hck := hcl k hk2; have hlo := hck.lo; have hhi := hck.hi; refine k7 (j9 (j6 (l4 (j3 (b8 rfl ?_))))); refine w3 (α := Cl) cs k rfl T.D9 T.H9 rfl rfl rfl mB rfl hk2 (by decide) (r8 rfl T.dL T.H9 rfl rfl (m9 mB (q8 (by omega))) ?_); refine z1 rfl (fun _ => T.tL _) fun gA => ?_; refine b9 rfl ?_; refine u3 rfl rfl (by first | exact .refl _ | exact perm2 _ _ _ | exact perm3 _ _ _ _ | exact perm4 _ _ _ _ _) T.H9 (by rfl) (by rfl) ?_; refine k9 (b8 rfl ?_); refine i9 F.kD rfl rfl (dD 0 k (by decide) (by omega)) l5 trivial fun _ _ => ?_; refine b9 rfl (d9 ?_); refine jB ⟨fun _ : Unit => True, fun _ => [(1, .pointer (b4 gB)), (5, .pointer (b4 gB_1)), (20, .slice A cs.length ca), (21, int cs.length), (22, int k), (8, u8 (maskOf (pathT cs (k : Int))))], fun _ => (gB_1, .cells #[.slice A cs.length ca, .slice B hs.length cb, .slice oa k oc, .slice none 0 0] T.pK (0, 0)) :: (og ++ [(gB, .cells #[.slice A cs.length ca, .slice B hs.length cb] T.z4 (0, 0))]), fun _ => [Row A (rows cs), RowsF B hs Hd.row]⟩ ?_ ?_
  ·skip
   refine j3 ?_
   first | refine a7 ⟨_, 1, none⟩ rfl rfl T.H0 rfl ?_ | refine a7 _ rfl rfl T.H0 rfl ?_
   first | refine a8 rfl T.a9 rfl (j0 mB rfl) ?_ | refine a8 rfl T.a9 rfl (i8 mB rfl) ?_ | refine a8 rfl T.a9 rfl (d8 mB (d4 (by omega) rfl)) ?_ | refine a8 rfl T.a9 rfl (d7 mB (rows_get (by omega) rfl)) ?_ | refine a8 rfl T.a9 rfl (g4 mB rfl) ?_
   refine nX rfl rfl rfl (d9 ?_)
   first | refine m7 rfl (fun hb3 => ?_) (fun hb3 => ?_) | refine k4 rfl (fun hb3 => ?_) (fun hb3 => ?_)
   ·have hb3' := hb3; try simp at hb3'
    obtain ⟨gC, cur, e1, e2, hnc, hcm, hcs, hct, _⟩ := hG.open_ (by omega); subst e1; subst e2
    have hcell : cur[0 + (cs.getD k default).2.toNat * 1]? = some (u8 (maskOf (pathT cs (cs.getD k default).2))) := by
      have h1 : (rows (masksN cs k))[(cs.getD k default).2.toNat * 1]? = some (u8 (maskOf (pathT cs (cs.getD k default).2))) := d4 (by rw [az1]; omega) (by rw [jq5 (by omega), Int.toNat_of_nonneg hb3]; rfl); rw [← hct, List.getElem?_take, if_pos (by omega)] at h1; rw [Nat.zero_add, ← Array.getElem?_toList]; exact h1
    refine G8 9 mixed (by decide) (by decide) rfl rfl (s7 (fun w1 => b8 rfl (q_z rfl)) (s7 (fun w1 => b8 rfl (q_z rfl)) (s7 (fun w1 => z6 rfl rfl (q_z rfl)) ?_)))
    apply n0 _ rfl rfl rfl
    ·intro w1
     first | refine a7 ⟨_, 2, none⟩ rfl rfl T.J8 rfl ?_ | refine a7 _ rfl rfl T.J8 rfl ?_
     refine d6 ?_; exact k6 rfl
    apply n0 _ rfl rfl rfl
    ·intro w1
     first | refine a8 rfl T.z5 rfl (i8 mB rfl) ?_ | refine a8 rfl T.z5 rfl (j0 mB rfl) ?_ | refine a8 rfl T.z5 rfl (d8 mB (d4 (by omega) rfl)) ?_ | refine a8 rfl T.z5 rfl (d7 mB (rows_get (by omega) rfl)) ?_ | refine a8 rfl T.z5 rfl (g4 mB rfl) ?_
     refine d6 ?_; exact k6 rfl
    apply n0 _ rfl rfl rfl
    ·intro w1
     first | refine a7 ⟨_, 1, none⟩ rfl rfl T.H0 rfl ?_ | refine a7 _ rfl rfl T.H0 rfl ?_
     refine d6 ?_; exact k6 rfl
    apply n0 _ rfl rfl rfl
    ·intro w1
     first | refine a8 rfl T.a9 rfl (i8 mB rfl) ?_ | refine a8 rfl T.a9 rfl (j0 mB rfl) ?_ | refine a8 rfl T.a9 rfl (d8 mB (d4 (by omega) rfl)) ?_ | refine a8 rfl T.a9 rfl (d7 mB (rows_get (by omega) rfl)) ?_ | refine a8 rfl T.a9 rfl (g4 mB rfl) ?_
     refine d6 ?_; exact k6 rfl
    refine s7 (fun w1 => w7 (cs.getD k default).2.toNat _ rfl T.rM T.tO rfl rfl (Int.toNat_of_nonneg hb3).symm (by omega) rfl (q_z rfl)) (s7 (fun w1 => a8 rfl T.qS rfl (i8 mB hcell) (q_z rfl)) ?_); refine D4 ⟨rfl, ?_⟩; refine r_or8 rfl rfl rfl (by rw [Nat.zero_or]; exact (Nat.pow_lt_pow_right (by omega) (by omega) : 2 ^ k < 2 ^ 8)) (jq7 h6 hcl (by omega)) ?_; refine b9 rfl (d6 ?_); exact O1 _ () trivial ⟨rfl, rfl, rfl, rfl, rfl, congrArg (fun b => some (u8 b)) (by rw [Nat.zero_or]; exact (az2 h6 hcl hk2).symm), trivial⟩ (List.sublist_cons_self _ _) mC
   have hb3' := hb3; try simp at hb3'
   refine k7 ?_; exact O1 _ () trivial ⟨rfl, rfl, rfl, rfl, rfl, congrArg (fun b => some (u8 b)) (by rw [az2 h6 hcl hk2, lx7 (by omega), Nat.or_zero, Nat.zero_or]), trivial⟩ (List.sublist_cons_self _ _) mC
  refine fun _ _ => ?_; refine k8 (b8 rfl (b8 rfl (z6 rfl rfl ?_)))
  first | refine a7 ⟨_, 2, none⟩ rfl rfl T.J8 rfl ?_ | refine a7 _ rfl rfl T.J8 rfl ?_
  first | refine a8 rfl T.z5 rfl (j0 mB rfl) ?_ | refine a8 rfl T.z5 rfl (i8 mB rfl) ?_ | refine a8 rfl T.z5 rfl (d8 mB (d4 (by omega) rfl)) ?_ | refine a8 rfl T.z5 rfl (d7 mB (rows_get (by omega) rfl)) ?_ | refine a8 rfl T.z5 rfl (g4 mB rfl) ?_
  refine b8 rfl ?_; refine m6 _ rfl rfl (fun _ => T.mF ..) fun gS => ?_; refine t8 (rows [maskOf (pathT cs (k : Int))]) (List.prefix_refl _) ?_; refine Z1 (k + 1) (rows (masksN cs k ++ [maskOf (pathT cs (k : Int))])) T.qQ rfl rfl rfl hG (pmB _ _ _) (Src.row (news := rows [maskOf (pathT cs (k : Int))]) (m := 1) m0 rfl (Q8 _) (by decide)) rfl (E9 _ _).symm (by unfold maxLen; omega) (by omega) fun A' c' og' hG' => ?_; refine z6 rfl rfl ?_
  first | refine a7 ⟨_, 2, none⟩ rfl rfl T.J8 rfl ?_ | refine a7 _ rfl rfl T.J8 rfl ?_
  refine D7 rfl rfl (pmA _ _ _) T.pP (by rfl) (by rfl) ?_; refine d6 (z2 (j9 (k8 ?_))); refine y2 _ rfl rfl rfl rfl s9 ?_; refine b8 rfl (d6 ?_); exact again _ (k + 1, (A', c'), og') ⟨by show k + 1 ≤ cs.length; omega, by show Grow _ _ _ _ _ (rows (masksN cs (k + 1))) _; rw [hj5]; exact hG'⟩ (A5 (by omega)) mC (List.Sublist.refl _) mC
 have hb2' := hb2; try simp at hb2'
 have hk2 : k = cs.length := by omega
 subst hk2; refine v5 (C3 (u9 (j9 (hq4 ?_)))); refine mZ (pmB _ _ _) (mj7 hG ?_); clear hG; refine k8 ?_
 first | refine a7 ⟨_, 1, none⟩ rfl rfl T.p6 rfl ?_ | refine a7 _ rfl rfl T.p6 rfl ?_
 first | refine a8 rfl T.m3 rfl (j0 mB rfl) ?_ | refine a8 rfl T.m3 rfl (i8 mB rfl) ?_ | refine a8 rfl T.m3 rfl (d8 mB (d4 (by omega) rfl)) ?_ | refine a8 rfl T.m3 rfl (d7 mB (rows_get (by omega) rfl)) ?_ | refine a8 rfl T.m3 rfl (g4 mB rfl) ?_
 refine l9 rfl T.w8 rfl ?_; refine b8 rfl (d9 (l4 (az7 mB ?_))); refine v8 (β := Nat × OutC × Hp) ⟨fun x => x.1 ≤ hs.length ∧ Grow T.W1 1 x.2.1.1 x.1 x.2.1.2 (rows (kindsN hs x.1)) x.2.2, fun x => [(5, .pointer (b4 gB_1)), (54, .slice B hs.length cb), (55, int hs.length), (56, int x.1)], fun x => (gB_1, .cells #[.slice A cs.length ca, .slice B hs.length cb, .slice oa cs.length oc, .slice x.2.1.1 x.1 x.2.1.2] T.pK (0, 0)) :: x.2.2, fun _ => [Row oa (rows (masksN cs cs.length)), Row A (rows cs), RowsF B hs Hd.row, Row B (rows hs)]⟩ (fun x => hs.length - x.1) (0, (none, 0), []) ⟨Nat.zero_le _, Grow.nil _ _⟩ mC (nil_sb.cons_cons _) mC fun x hx => ?_; obtain ⟨k, ⟨ka, kc⟩, og2⟩ := x; obtain ⟨hk, hG⟩ := hx; simp only at hk hG; refine j3 (A7 rfl rfl rfl (d9 (j6 ?_)))
 first | refine m7 rfl (fun hb4 => ?_) (fun hb4 => ?_) | refine k4 rfl (fun hb4 => ?_) (fun hb4 => ?_)
 ·have hb4' := hb4; try simp at hb4'
  have hk2 : k < hs.length := by omega
  refine k7 (j9 (j6 (l4 (j3 ?_)))); refine w3 (α := Hd) hs k rfl T.w8 T.E8 rfl rfl rfl mB rfl hk2 (by decide) (r8 rfl T.iU T.E8 rfl rfl (m9 mB (q8 (by omega))) ?_); refine z1 rfl (fun _ => T.vL _) fun gA => ?_; refine u3 rfl rfl (by first | exact .refl _ | exact perm2 _ _ _ | exact perm3 _ _ _ _ | exact perm4 _ _ _ _ _) T.E8 (by rfl) (by rfl) ?_; refine d9 (l4 (j6 ?_)); refine lX (rows [hs.getD k default]) ⟨[], List.append_nil _⟩ ?_; refine k8 ?_
  first | refine a7 ⟨_, 2, none⟩ rfl rfl T.B5 rfl ?_ | refine a7 _ rfl rfl T.B5 rfl ?_
  first | refine a8 rfl T.a9 rfl (j0 mB rfl) ?_ | refine a8 rfl T.a9 rfl (i8 mB rfl) ?_ | refine a8 rfl T.a9 rfl (d8 mB (d4 (by omega) rfl)) ?_ | refine a8 rfl T.a9 rfl (d7 mB (rows_get (by omega) rfl)) ?_ | refine a8 rfl T.a9 rfl (g4 mB rfl) ?_
  refine C1 rfl rfl rfl (b9 rfl (d9 ?_))
  first | refine m7 rfl (fun hb5 => ?_) (fun hb5 => ?_) | refine k4 rfl (fun hb5 => ?_) (fun hb5 => ?_)
  ·have hb5' := hb5; try simp at hb5'
   refine R0 (og2) ([_]) (List.perm_append_comm (l₁ := [_])) 11 [10] mixed (by decide) (by decide) (by decide) rfl rfl rfl (s7 (fun w1 => b8 rfl (q_z rfl)) (s7 (fun w1 => b8 rfl (q_z rfl)) (s7 (fun w1 => z6 rfl rfl (q_z rfl)) ?_)))
   apply n0 _ rfl rfl rfl
   ·intro w1
    first | refine a7 ⟨_, 3, none⟩ rfl rfl T.u6 rfl ?_ | refine a7 _ rfl rfl T.u6 rfl ?_
    refine d6 ?_; exact k6 rfl
   apply n0 _ rfl rfl rfl
   ·intro w1
    first | refine a8 rfl T.m5 rfl (i8 mB rfl) ?_ | refine a8 rfl T.m5 rfl (j0 mB rfl) ?_ | refine a8 rfl T.m5 rfl (d8 mB (d4 (by omega) rfl)) ?_ | refine a8 rfl T.m5 rfl (d7 mB (rows_get (by omega) rfl)) ?_ | refine a8 rfl T.m5 rfl (g4 mB rfl) ?_
    refine d6 ?_; exact k6 rfl
   apply n0 _ rfl rfl rfl
   ·intro w1
    first | refine a7 ⟨_, 2, none⟩ rfl rfl T.B5 rfl ?_ | refine a7 _ rfl rfl T.B5 rfl ?_
    refine d6 ?_; exact k6 rfl
   apply n0 _ rfl rfl rfl
   ·intro w1
    first | refine a8 rfl T.a9 rfl (i8 mB rfl) ?_ | refine a8 rfl T.a9 rfl (j0 mB rfl) ?_ | refine a8 rfl T.a9 rfl (d8 mB (d4 (by omega) rfl)) ?_ | refine a8 rfl T.a9 rfl (d7 mB (rows_get (by omega) rfl)) ?_ | refine a8 rfl T.a9 rfl (g4 mB rfl) ?_
    refine d6 ?_; exact k6 rfl
   refine s7 (fun w1 => u7 _ rfl rfl (fun _ => T.rI ..) (q_z rfl)) (s7 (fun w1 => ax6 rfl ⟨_, Tryz.underlying160, rfl⟩ rfl (q_z rfl)) ?_); refine cT ⟨Nat, fun _ => True, fun g => .slice (b4 g) 1 1, fun g => [Row (b4 g) (rows [Kd.ptr (hs.getD k default).2.2.1])]⟩ rfl rfl rfl ?_ ?_
   ·intro w1; refine m6 _ rfl rfl (fun _ => T.V5 ..) fun gS => ?_; refine d6 ?_; refine G9 (rows [Kd.ptr (hs.getD k default).2.2.1]) (List.prefix_refl _) ?_; exact N8 gS trivial rfl ⟨m0, trivial⟩
   refine az8 ⟨OutC × Hp, fun x => Grow T.W1 1 x.1.1 (k + 1) x.1.2 (rows (kindsN hs k ++ [Kd.ptr (hs.getD k default).2.2.1])) x.2, fun x => .slice x.1.1 (k + 1) x.1.2, fun _ => [], fun x => x.2⟩ rfl rfl rfl ?_ ?_
   ·intro g9 _; intro w1; refine Z1 (k + 1) (rows (kindsN hs k ++ [Kd.ptr (hs.getD k default).2.2.1])) T.aI rfl rfl rfl hG (hp' := []) (by rw [List.append_nil]) (Src.row (news := rows [Kd.ptr (hs.getD k default).2.2.1]) (m := 1) m0 rfl (Q8 _) (by decide)) rfl (E9 _ _).symm (by unfold maxLen; omega) (by omega) fun A' c' og' hG' => ?_; refine d6 ?_; exact Y4 ((A', c'), og') hG' (fun _ => rfl) (by rw [List.append_nil]; exact .refl _) trivial
   refine D4 ⟨rfl, ?_⟩; intro g9 _ x hx; obtain ⟨⟨xa, xc⟩, xo⟩ := x; simp only at hx; refine z6 rfl rfl ?_
   first | refine a7 ⟨_, 3, none⟩ rfl rfl T.u6 rfl ?_ | refine a7 _ rfl rfl T.u6 rfl ?_
   refine D7 rfl rfl (pmC _ _) T.aF (by rfl) (by rfl) ?_; refine d6 (z2 (z2 (j9 (k8 ?_)))); refine y2 _ rfl rfl rfl rfl s9 ?_; refine b8 rfl (d6 ?_); exact again _ (k + 1, (xa, xc), xo) ⟨by show k + 1 ≤ hs.length; omega, by show Grow _ _ _ _ _ (rows (kindsN hs (k + 1))) _; rw [qK hk2, kindOf, if_pos hb5]; exact hx⟩ (A5 (by omega)) mC (List.Sublist.refl _) mC
  have hb5' := hb5; try simp at hb5'
  refine j3 ?_
  first | refine a7 ⟨_, 1, none⟩ rfl rfl T.z8 rfl ?_ | refine a7 _ rfl rfl T.z8 rfl ?_
  first | refine a8 rfl T.a9 rfl (j0 mB rfl) ?_ | refine a8 rfl T.a9 rfl (i8 mB rfl) ?_ | refine a8 rfl T.a9 rfl (d8 mB (d4 (by omega) rfl)) ?_ | refine a8 rfl T.a9 rfl (d7 mB (rows_get (by omega) rfl)) ?_ | refine a8 rfl T.a9 rfl (g4 mB rfl) ?_
  refine C1 rfl rfl rfl (b9 rfl (d9 ?_))
  first | refine m7 rfl (fun hb6 => ?_) (fun hb6 => ?_) | refine k4 rfl (fun hb6 => ?_) (fun hb6 => ?_)
  ·have hb6' := hb6; try simp at hb6'
   refine R0 (og2) ([_]) (List.perm_append_comm (l₁ := [_])) 13 [12] mixed (by decide) (by decide) (by decide) rfl rfl rfl (s7 (fun w1 => b8 rfl (q_z rfl)) (s7 (fun w1 => b8 rfl (q_z rfl)) (s7 (fun w1 => z6 rfl rfl (q_z rfl)) ?_)))
   apply n0 _ rfl rfl rfl
   ·intro w1
    first | refine a7 ⟨_, 3, none⟩ rfl rfl T.u6 rfl ?_ | refine a7 _ rfl rfl T.u6 rfl ?_
    refine d6 ?_; exact k6 rfl
   apply n0 _ rfl rfl rfl
   ·intro w1
    first | refine a8 rfl T.m5 rfl (i8 mB rfl) ?_ | refine a8 rfl T.m5 rfl (j0 mB rfl) ?_ | refine a8 rfl T.m5 rfl (d8 mB (d4 (by omega) rfl)) ?_ | refine a8 rfl T.m5 rfl (d7 mB (rows_get (by omega) rfl)) ?_ | refine a8 rfl T.m5 rfl (g4 mB rfl) ?_
    refine d6 ?_; exact k6 rfl
   apply n0 _ rfl rfl rfl
   ·intro w1
    first | refine a7 ⟨_, 1, none⟩ rfl rfl T.z8 rfl ?_ | refine a7 _ rfl rfl T.z8 rfl ?_
    refine d6 ?_; exact k6 rfl
   apply n0 _ rfl rfl rfl
   ·intro w1
    first | refine a8 rfl T.a9 rfl (i8 mB rfl) ?_ | refine a8 rfl T.a9 rfl (j0 mB rfl) ?_ | refine a8 rfl T.a9 rfl (d8 mB (d4 (by omega) rfl)) ?_ | refine a8 rfl T.a9 rfl (d7 mB (rows_get (by omega) rfl)) ?_ | refine a8 rfl T.a9 rfl (g4 mB rfl) ?_
    refine d6 ?_; exact k6 rfl
   apply n0 _ rfl rfl rfl
   ·intro w1
    first | refine a7 ⟨_, 3, none⟩ rfl rfl T.B4 rfl ?_ | refine a7 _ rfl rfl T.B4 rfl ?_
    refine d6 ?_; exact k6 rfl
   apply n0 _ rfl rfl rfl
   ·intro w1
    first | refine a8 rfl T.d5 rfl (i8 mB rfl) ?_ | refine a8 rfl T.d5 rfl (j0 mB rfl) ?_ | refine a8 rfl T.d5 rfl (d8 mB (d4 (by omega) rfl)) ?_ | refine a8 rfl T.d5 rfl (d7 mB (rows_get (by omega) rfl)) ?_ | refine a8 rfl T.d5 rfl (g4 mB rfl) ?_
    refine d6 ?_; exact k6 rfl
   refine s7 (fun w1 => u7 _ rfl rfl (fun _ => T.mM ..) (q_z rfl)) (s7 (fun w1 => ax6 rfl ⟨_, Tryz.underlying162, rfl⟩ rfl (q_z rfl)) ?_); refine cT ⟨Nat, fun _ => True, fun g => .slice (b4 g) 1 1, fun g => [Row (b4 g) (rows [Kd.art (hs.getD k default).2.1 (hs.getD k default).2.2.2])]⟩ rfl rfl rfl ?_ ?_
   ·intro w1; refine m6 _ rfl rfl (fun _ => T.V5 ..) fun gS => ?_; refine d6 ?_; refine G9 (rows [Kd.art (hs.getD k default).2.1 (hs.getD k default).2.2.2]) (List.prefix_refl _) ?_; exact N8 gS trivial rfl ⟨m0, trivial⟩
   refine az8 ⟨OutC × Hp, fun x => Grow T.W1 1 x.1.1 (k + 1) x.1.2 (rows (kindsN hs k ++ [Kd.art (hs.getD k default).2.1 (hs.getD k default).2.2.2])) x.2, fun x => .slice x.1.1 (k + 1) x.1.2, fun _ => [], fun x => x.2⟩ rfl rfl rfl ?_ ?_
   ·intro g9 _; intro w1; refine Z1 (k + 1) (rows (kindsN hs k ++ [Kd.art (hs.getD k default).2.1 (hs.getD k default).2.2.2])) T.aI rfl rfl rfl hG (hp' := []) (by rw [List.append_nil]) (Src.row (news := rows [Kd.art (hs.getD k default).2.1 (hs.getD k default).2.2.2]) (m := 1) m0 rfl (Q8 _) (by decide)) rfl (E9 _ _).symm (by unfold maxLen; omega) (by omega) fun A' c' og' hG' => ?_; refine d6 ?_; exact Y4 ((A', c'), og') hG' (fun _ => rfl) (by rw [List.append_nil]; exact .refl _) trivial
   refine D4 ⟨rfl, ?_⟩; intro g9 _ x hx; obtain ⟨⟨xa, xc⟩, xo⟩ := x; simp only at hx; refine z6 rfl rfl ?_
   first | refine a7 ⟨_, 3, none⟩ rfl rfl T.u6 rfl ?_ | refine a7 _ rfl rfl T.u6 rfl ?_
   refine D7 rfl rfl (pmC _ _) T.aF (by rfl) (by rfl) ?_; refine d6 (z2 (z2 (j9 (k8 ?_)))); refine y2 _ rfl rfl rfl rfl s9 ?_; refine b8 rfl (d6 ?_); exact again _ (k + 1, (xa, xc), xo) ⟨by show k + 1 ≤ hs.length; omega, by show Grow _ _ _ _ _ (rows (kindsN hs (k + 1))) _; rw [qK hk2, kindOf, if_neg hb5, if_pos hb6]; exact hx⟩ (A5 (by omega)) mC (List.Sublist.refl _) mC
  have hb6' := hb6; try simp at hb6'
  refine R0 (og2) ([_]) (List.perm_append_comm (l₁ := [_])) 11 [10] mixed (by decide) (by decide) (by decide) rfl rfl rfl (s7 (fun w1 => b8 rfl (q_z rfl)) (s7 (fun w1 => b8 rfl (q_z rfl)) (s7 (fun w1 => z6 rfl rfl (q_z rfl)) ?_)))
  apply n0 _ rfl rfl rfl
  ·intro w1
   first | refine a7 ⟨_, 3, none⟩ rfl rfl T.u6 rfl ?_ | refine a7 _ rfl rfl T.u6 rfl ?_
   refine d6 ?_; exact k6 rfl
  apply n0 _ rfl rfl rfl
  ·intro w1
   first | refine a8 rfl T.m5 rfl (i8 mB rfl) ?_ | refine a8 rfl T.m5 rfl (j0 mB rfl) ?_ | refine a8 rfl T.m5 rfl (d8 mB (d4 (by omega) rfl)) ?_ | refine a8 rfl T.m5 rfl (d7 mB (rows_get (by omega) rfl)) ?_ | refine a8 rfl T.m5 rfl (g4 mB rfl) ?_
   refine d6 ?_; exact k6 rfl
  apply n0 _ rfl rfl rfl
  ·intro w1
   first | refine a7 ⟨_, 3, none⟩ rfl rfl T.B4 rfl ?_ | refine a7 _ rfl rfl T.B4 rfl ?_
   refine d6 ?_; exact k6 rfl
  apply n0 _ rfl rfl rfl
  ·intro w1
   first | refine a8 rfl T.d5 rfl (i8 mB rfl) ?_ | refine a8 rfl T.d5 rfl (j0 mB rfl) ?_ | refine a8 rfl T.d5 rfl (d8 mB (d4 (by omega) rfl)) ?_ | refine a8 rfl T.d5 rfl (d7 mB (rows_get (by omega) rfl)) ?_ | refine a8 rfl T.d5 rfl (g4 mB rfl) ?_
   refine d6 ?_; exact k6 rfl
  refine s7 (fun w1 => u7 _ rfl rfl (fun _ => T.uN ..) (q_z rfl)) (s7 (fun w1 => ax6 rfl ⟨_, Tryz.underlying164, rfl⟩ rfl (q_z rfl)) ?_); refine cT ⟨Nat, fun _ => True, fun g => .slice (b4 g) 1 1, fun g => [Row (b4 g) (rows [Kd.idx (hs.getD k default).2.2.2])]⟩ rfl rfl rfl ?_ ?_
  ·intro w1; refine m6 _ rfl rfl (fun _ => T.V5 ..) fun gS => ?_; refine d6 ?_; refine G9 (rows [Kd.idx (hs.getD k default).2.2.2]) (List.prefix_refl _) ?_; exact N8 gS trivial rfl ⟨m0, trivial⟩
  refine az8 ⟨OutC × Hp, fun x => Grow T.W1 1 x.1.1 (k + 1) x.1.2 (rows (kindsN hs k ++ [Kd.idx (hs.getD k default).2.2.2])) x.2, fun x => .slice x.1.1 (k + 1) x.1.2, fun _ => [], fun x => x.2⟩ rfl rfl rfl ?_ ?_
  ·intro g9 _; intro w1; refine Z1 (k + 1) (rows (kindsN hs k ++ [Kd.idx (hs.getD k default).2.2.2])) T.aI rfl rfl rfl hG (hp' := []) (by rw [List.append_nil]) (Src.row (news := rows [Kd.idx (hs.getD k default).2.2.2]) (m := 1) m0 rfl (Q8 _) (by decide)) rfl (E9 _ _).symm (by unfold maxLen; omega) (by omega) fun A' c' og' hG' => ?_; refine d6 ?_; exact Y4 ((A', c'), og') hG' (fun _ => rfl) (by rw [List.append_nil]; exact .refl _) trivial
  refine D4 ⟨rfl, ?_⟩; intro g9 _ x hx; obtain ⟨⟨xa, xc⟩, xo⟩ := x; simp only at hx; refine z6 rfl rfl ?_
  first | refine a7 ⟨_, 3, none⟩ rfl rfl T.u6 rfl ?_ | refine a7 _ rfl rfl T.u6 rfl ?_
  refine D7 rfl rfl (pmC _ _) T.aF (by rfl) (by rfl) ?_; refine d6 (z2 (z2 (j9 (k8 ?_)))); refine y2 _ rfl rfl rfl rfl s9 ?_; refine b8 rfl (d6 ?_); exact again _ (k + 1, (xa, xc), xo) ⟨by show k + 1 ≤ hs.length; omega, by show Grow _ _ _ _ _ (rows (kindsN hs (k + 1))) _; rw [qK hk2, kindOf, if_neg hb5, if_neg hb6]; exact hx⟩ (A5 (by omega)) mC (List.Sublist.refl _) mC
 have hb4' := hb4; try simp at hb4'
 have hk2 : k = hs.length := by omega
 subst hk2; refine v5 (C3 (u9 (j9 (j3 (b8 rfl (b9 rfl (b9 rfl (d9 ?_)))))))); refine l7 ?_; have h0 := Classical.not_not.1 hb1; refine G9 [.slice A cs.length ca, .slice B hs.length cb, .slice oa cs.length oc, .slice ka hs.length kc] (List.prefix_refl _) (az3 hG ?_); exact ret2 (gB_1, (oa, oc), (ka, kc)) rfl rfl rfl (by show Value.tuple #[if checkT (trOf cs hs) = 0 then _ else _, int (checkT (trOf cs hs))] = _; rw [if_pos h0, h0]) rfl trivial nil_sb (by show LSub _ (if checkT (trOf cs hs) = 0 then _ else []); rw [if_pos h0]; exact mC)
end Go.Proofs.YtmpfpfbcejfijaaGreatDoor
end
section
namespace Go.Proofs.YtmpfpfbcejfijaaGreatDoor
open Go Go.W
set_option maxRecDepth 20000
attribute [local irreducible] HL HC HQ HB Row Rows2 Blk Facts
def leastE (t : Tr) (a b : Int) : Int × Int := if ¬ checkT t = 0 then (0, checkT t) else if ¬ ((0 ≤ a ∧ a ≤ (t.cs.length : Int) - 1) ∧ (0 ≤ b ∧ b ≤ (t.cs.length : Int) - 1)) then (0, 3) else (leastT t a b, 0)
end Go.Proofs.YtmpfpfbcejfijaaGreatDoor
end
section
namespace Go.Proofs.YtmpfpfbcejfijaaGreatDoor
open Go Go.W
set_option maxRecDepth 20000
attribute [local irreducible] HL HC HQ HB Row Rows2 Blk Facts
def Kd.isP : Kd → Bool | .ptr _ => true | _ => false
def Kd.isA : Kd → Bool | .art _ _ => true | _ => false
def Kd.see : Kd → Int | .ptr s => s | _ => 0
def Kd.cls : Kd → Int | .art c _ => c | _ => 0
def Kd.als : Kd → Sl Int | .art _ a => a | _ => ⟨none, 0, []⟩
section
variable {c : Cx} {Q : Exit → Act → World → Prop} {fr : Fr} {hp : Hp} {L : List Fact} {ops : Array Oper} {rest : List Oper} {d : Tmp} {ty : TypeId} {pos : String} {af : Array Edge}
end
theorem lz8 {hs : List Hd} {i : Nat} (h : i < hs.length) : (kindsN hs hs.length).getD i default = kindOf (hs.getD i default) := by
  rw [w4 (by rw [mW (Nat.le_refl _)]; exact h), w4 h]
  simp [kindsN]
abbrev folR (o : Option (Int × Int)) : Value := .tuple #[int (o.getD (0, 0)).1, int (o.getD (0, 0)).2, .bool o.isSome]
def SeesOK (hs : List Hd) : Prop := ∀ i, i < hs.length → -1 ≤ (hs.getD i default).2.2.1 ∧ (hs.getD i default).2.2.1 < (hs.length : Int)
def askE (t : Tr) (l : List Int) : Int := if ¬ checkT t = 0 then checkT t else if l.all (fun x => decide (0 ≤ x ∧ x ≤ (t.hs.length : Int) - 1)) then 0 else 3
theorem ask_bad {t : Tr} {l : List Int} {k : Nat} (h0 : checkT t = 0) (hk : k < l.length) (h : ¬ (0 ≤ l.getD k default ∧ l.getD k default ≤ (t.hs.length : Int) - 1)) : askE t l = 3 := by
  rw [askE, if_neg (not_not_intro h0), if_neg]; intro e; exact h (of_decide_eq_true (List.all_eq_true.1 e _ (u0 hk)))
theorem ask_ok {t : Tr} {l : List Int} (h0 : checkT t = 0) (h : ∀ i, i < l.length → 0 ≤ l.getD i default ∧ l.getD i default ≤ (t.hs.length : Int) - 1) : askE t l = 0 := by
  rw [askE, if_neg (not_not_intro h0), if_pos]; rw [List.all_eq_true]; intro x hx; obtain ⟨i, hi, rfl⟩ := List.getElem_of_mem hx; rw [decide_eq_true_eq, ← w4 hi]; exact h i hi
theorem bj9 {t : Tr} {l : List Int} (h : askE t l = 0) : checkT t = 0 := by
  unfold askE at h
  split at h
  · exact h
  rename_i h1; exact Classical.not_not.1 h1
theorem ask_in {t : Tr} {l : List Int} (h : askE t l = 0) {x : Int} (hx : x ∈ l) : 0 ≤ x ∧ x ≤ (t.hs.length : Int) - 1 := by
  have h0 := bj9 h; rw [askE, if_neg (not_not_intro h0)] at h
  split at h
  · rename_i h1; exact of_decide_eq_true (List.all_eq_true.1 h1 x hx)
  omega
set_option maxHeartbeats 1000000 in
theorem vP {C : Option Addr} {cc : Nat} {A B : Option Addr} {ca cb : Nat} (cs : List Cl) (hs : List Hd) (l : List Int) (hca : cs.length ≤ ca) (hcb : hs.length ≤ cb) (ha : ∀ h ∈ hs, h.2.2.2.l.length ≤ 1000000) (hl : l.length ≤ 1000000) : Meets Tryz.prog F.tN [.agg #[.slice A cs.length ca, .slice B hs.length cb], .slice C l.length cc] { LI := [Row A (rows cs), RowsF B hs Hd.row, Row C (rows l)], val := fun x : Nat × OutC × OutC => .tuple #[if askE (trOf cs hs) l = 0 then .pointer (some ⟨x.1, 0, none⟩) else .pointer none, int (askE (trOf cs hs) l)], LO := fun x => if askE (trOf cs hs) l = 0 then beginL cs hs A ca B cb x else [] } := by
 refine j8 F.dj1 rfl t4 fun w0 => ?_; refine j3 ?_; refine C4 rfl rfl fun gB => ?_; refine b9 rfl (b9 rfl (d9 ?_)); refine jB ⟨fun _ : Nat × OutC × OutC => True, fun x => [(1, .slice C l.length cc), (2, .pointer (b4 gB)), (6, if checkT (trOf cs hs) = 0 then .pointer (some ⟨x.1, 0, none⟩) else .pointer none), (7, int (checkT (trOf cs hs)))], fun _ => [(gB, .cells #[.slice A cs.length ca, .slice B hs.length cb] T.z4 (0, 0))], fun x => (if checkT (trOf cs hs) = 0 then beginL cs hs A ca B cb x else []) ++ [Row A (rows cs), RowsF B hs Hd.row, Row C (rows l)]⟩ ?_ ?_
 ·skip
  refine k8 ?_
  first | refine u1 rfl T.t1 T.t5 rfl mB (by rfl) ?_ | refine t7 rfl T.t1 T.t5 rfl mB (by rfl) ?_ | refine r8 rfl T.t1 T.t5 rfl rfl (m9 mB (q8 (by omega))) ?_
  refine i9 F.xE rfl rfl (rQ cs hs hca hcb ha) l5 mC fun x _ => ?_; refine b8 rfl (l6 rfl rfl rfl (l6 rfl rfl rfl (b9 rfl (b9 rfl (d6 ?_))))); exact O1 _ x trivial mC (List.Sublist.refl _) (LSub.of_mem fun F h => h)
 refine fun x _ => ?_
 dsimp only
 refine j6 (j3 (b8 rfl (C1 rfl rfl rfl (d9 ?_))))
 first | refine m7 rfl (fun hb1 => ?_) (fun hb1 => ?_) | refine k4 rfl (fun hb1 => ?_) (fun hb1 => ?_)
 ·have hb1' := hb1; try simp at hb1'
  have hE : askE (trOf cs hs) l = checkT (trOf cs hs) := by rw [askE, if_pos hb1]
  have hnz : ¬ askE (trOf cs hs) l = 0 := by rw [hE]; exact hb1
  refine j3 (b8 rfl (b9 rfl (b9 rfl (d9 (J1 ?_))))); exact ret2 (0, (none, 0), (none, 0)) rfl rfl rfl (by show Value.tuple #[if askE (trOf cs hs) l = 0 then _ else _, int (askE (trOf cs hs) l)] = _; rw [if_neg hnz, hE]) rfl trivial nil_sb (by show LSub _ (if askE (trOf cs hs) l = 0 then _ else []); rw [if_neg hnz]; trivial)
 have hb1' := hb1; try simp at hb1'
 have h0 := Classical.not_not.1 hb1; rw [if_pos h0, if_pos h0]; have hln := N4 cs hs; have hok := dj3 h0; have h6 : cs.length ≤ 6 := hok.c6; have h6h := hok.h6; rw [N4] at h6h; have hcl : ∀ i, i < cs.length → ClsOK cs i := hok.c; obtain ⟨gl, ⟨oa, oc⟩, ⟨ka, kc⟩⟩ := x; show HC _ _ _ _ _ [Row (b4 gl) [.slice A cs.length ca, .slice B hs.length cb, .slice oa cs.length oc, .slice ka hs.length kc], Row oa (rows (masksN cs cs.length)), Row ka (rows (kindsN hs hs.length)), Row A (rows cs), RowsF B hs Hd.row, Row C (rows l)]; refine k7 (j9 (j6 (j3 (b8 rfl ?_)))); refine l9 rfl T.q9 rfl ?_; refine b8 rfl (d9 (l4 ?_)); refine v8 (β := Nat) ⟨fun k => k ≤ l.length ∧ ∀ i, i < k → 0 ≤ l.getD i default ∧ l.getD i default ≤ (hs.length : Int) - 1, fun k => [(2, .pointer (b4 gB)), (6, .pointer (b4 gl)), (18, .slice C l.length cc), (19, int l.length), (20, int k)], fun _ => [(gB, .cells #[.slice A cs.length ca, .slice B hs.length cb] T.z4 (0, 0))], fun _ => [Row (b4 gl) [.slice A cs.length ca, .slice B hs.length cb, .slice oa cs.length oc, .slice ka hs.length kc], Row oa (rows (masksN cs cs.length)), Row ka (rows (kindsN hs hs.length)), Row A (rows cs), RowsF B hs Hd.row, Row C (rows l)]⟩ (fun k => l.length - k) 0 ⟨Nat.zero_le _, fun i hi => by omega⟩ mC (List.Sublist.refl _) mC fun k hk => ?_; obtain ⟨hk, ht⟩ := hk; refine j3 (A7 rfl rfl rfl (d9 (j6 ?_)))
 first | refine m7 rfl (fun hb2 => ?_) (fun hb2 => ?_) | refine k4 rfl (fun hb2 => ?_) (fun hb2 => ?_)
 ·have hb2' := hb2; try simp at hb2'
  have hk2 : k < l.length := by omega
  refine k7 (j9 (j6 (l4 (j3 ?_)))); refine w3 (α := Int) _ _ rfl T.q9 T.v0 rfl rfl rfl mB rfl (by omega) (by decide) (a8 rfl T.a9 rfl (d8 mB (d4 (by omega) rfl)) ?_); refine b9 rfl (k9 (b8 rfl ?_))
  first | refine a7 ⟨_, 1, none⟩ rfl rfl T.p6 rfl ?_ | refine a7 _ rfl rfl T.p6 rfl ?_
  first | refine a8 rfl T.m3 rfl (j0 mB rfl) ?_ | refine a8 rfl T.m3 rfl (i8 mB rfl) ?_ | refine a8 rfl T.m3 rfl (d8 mB (d4 (by omega) rfl)) ?_ | refine a8 rfl T.m3 rfl (d7 mB (rows_get (by omega) rfl)) ?_ | refine a8 rfl T.m3 rfl (g4 mB rfl) ?_
  refine l9 rfl T.w8 rfl (U6 _ rfl rfl rfl rfl s9 ?_); refine i9 F.K9 rfl rfl (H5 _ _ _) l5 trivial fun _ _ => ?_; refine D5 rfl rfl (d9 ?_)
  first | refine m7 rfl (fun hb3 => ?_) (fun hb3 => ?_) | refine k4 rfl (fun hb3 => ?_) (fun hb3 => ?_)
  ·have hb3' := hb3; try simp at hb3'
   have hE : askE (trOf cs hs) l = 3 := ask_bad h0 hk2 (by rw [hln]; exact nbw hb3); have hnz : ¬ askE (trOf cs hs) l = 0 := by rw [hE]; decide
   refine j3 (b9 rfl (b9 rfl (d9 (l7 (C2 (w6 (C2 ?_))))))); exact ret2 (0, (none, 0), (none, 0)) rfl rfl rfl (by show Value.tuple #[if askE (trOf cs hs) l = 0 then _ else _, int (askE (trOf cs hs) l)] = _; rw [if_neg hnz, hE]) rfl trivial nil_sb (by show LSub _ (if askE (trOf cs hs) l = 0 then _ else []); rw [if_neg hnz]; trivial)
  have hb3' := hb3; try simp at hb3'
  refine k7 (z2 (j9 (k8 ?_))); refine y2 _ rfl rfl rfl rfl s9 ?_; refine b8 rfl (d6 ?_); have hin := bw hb3; exact again _ (k + 1) ⟨by omega, fun i hi => by rcases Nat.lt_or_ge i k with h | h; exact ht i h; rw [show i = k by omega]; exact hin⟩ (A5 (by omega)) mC (List.Sublist.refl _) mC
 have hb2' := hb2; try simp at hb2'
 have hk2 : k = l.length := by omega
 subst hk2; have hE : askE (trOf cs hs) l = 0 := ask_ok h0 (by rw [hln]; exact ht); refine v5 (C3 (u9 (j9 (j3 (b8 rfl (b9 rfl (b9 rfl (d9 ?_)))))))); refine l7 ?_; exact ret2 (gl, (oa, oc), (ka, kc)) rfl rfl rfl (by show Value.tuple #[if askE (trOf cs hs) l = 0 then _ else _, int (askE (trOf cs hs) l)] = _; rw [if_pos hE, hE]) rfl trivial nil_sb (by show LSub _ (if askE (trOf cs hs) l = 0 then _ else []); rw [if_pos hE]; exact mC)
end Go.Proofs.YtmpfpfbcejfijaaGreatDoor
end
section
namespace Go.Proofs.YtmpfpfbcejfijaaGreatDoor
open Go Go.W
set_option maxRecDepth 20000
attribute [local irreducible] HL HC HQ HB Row Rows2 Blk Facts
def followE (t : Tr) (h : Int) : Int × Int × Int := if ¬ askE t [h] = 0 then (0, 0, askE t [h]) else if (followT t h).isSome = false then (0, 0, 9) else (((followT t h).getD (0, 0)).1, ((followT t h).getD (0, 0)).2, 0)
def MaySet (t : Tr) (b : Str) (k m : Nat) : Prop := m < 256 ∧ ∀ j, m.testBit j = (List.range k).any fun h => leadsB t b h j
def mayK (m k : Nat) : List Int := ((List.range k).filter fun i => m.testBit i).map fun i : Nat => (i : Int)
end Go.Proofs.YtmpfpfbcejfijaaGreatDoor
end
section
namespace Go.Proofs.YtmpfpfbcejfijaaGreatDoor
open Go Go.W
set_option maxRecDepth 20000
attribute [local irreducible] HL HC HQ HB Row Rows2 Blk Facts
def mayE (t : Tr) (b : Str) : List Int × Int := if ¬ checkT t = 0 then ([], checkT t) else (mayT t b, 0)
def shortE (t : Tr) (h : Int) : Str × Int := if ¬ askE t [h] = 0 then ([], askE t [h]) else match shortT t h with | none => ([], 11) | some s => (s, 0)
end Go.Proofs.YtmpfpfbcejfijaaGreatDoor
end
section
namespace Go.Proofs.YtmpfpfbcejfijaaGreatDoor
open Go Go.W
set_option maxRecDepth 20000
attribute [local irreducible] HL HC HQ HB Row Rows2 Blk Facts
end Go.Proofs.YtmpfpfbcejfijaaGreatDoor
end
section
namespace Go.Proofs.YtmpfpfbcejfijaaGreatDoor
open Go Go.W
set_option maxRecDepth 20000
attribute [local irreducible] HL HC HQ HB Row Rows2 Blk Facts
def hitB (s : Str) (h : Hd) : Bool := decide (h.1 = s) && decide (¬ h.2.1 = -1)
def nameOf (cs : List Cl) (c : Int) : Str := (cs.getD c.toNat default).1
end Go.Proofs.YtmpfpfbcejfijaaGreatDoor
end
section
namespace Go.Proofs.YtmpfpfbcejfijaaGreatDoor
open Go Go.W
set_option maxRecDepth 20000
attribute [local irreducible] HL HC HQ HB Row Rows2 Blk Facts
def DOK (nums : List Int) (s : Int × Int) : Prop := 0 ≤ s.1 ∧ s.1 ≤ nums.length ∧ 0 ≤ s.2 ∧ s.2 < 18446744073709551616
def ToInv (n z : Int) : Prop := 0 ≤ z ∧ (1 ≤ n → z ≤ n) ∧ (n < 1 → z = 0)
def lineWords : List Str := [[97], [98], [99], [97, 110, 32, 49], [98, 101, 110], [99, 121, 100, 32, 49, 50]]
def PageOK (l : List Str) : Prop := ∀ s ∈ l, s ∈ lineWords
end Go.Proofs.YtmpfpfbcejfijaaGreatDoor
end
section
namespace Go.Proofs.YtmpfpfbcejfijaaGreatDoor
open Go Go.W
set_option maxRecDepth 20000
attribute [local irreducible] HL HC HQ HB Row Rows2 Blk Facts
def FromInv (lo hi z : Int) : Prop := lo ≤ z ∧ (lo < hi → z ≤ hi) ∧ (hi ≤ lo → z = lo)
def sortsL : List Str := [[102, 111, 111, 100], [98, 114, 101, 97, 100], [99, 108, 111, 116, 104], [104, 97, 116, 115], [119, 111, 111, 100], [105, 114, 111, 110], [98, 101, 101, 114], [105, 110], [115, 101, 101]]
def callingsL : List Str := [[98, 97, 107, 101, 114], [98, 97, 107, 101, 114, 115], [98, 111, 110, 110, 101, 116, 115], [98, 114, 101, 119, 101, 114], [98, 114, 117, 115, 104, 101, 115], [98, 117, 116, 99, 104, 101, 114], [99, 97, 110, 100, 108, 101, 115], [99, 111, 111, 112, 101, 114], [99, 111, 111, 112, 101, 114, 115], [99, 117, 116, 108, 101, 114], [104, 97, 116, 116, 101, 114], [104, 111, 115, 105, 101, 114], [109, 101, 114, 99, 101, 114], [109, 105, 108, 108, 105, 110, 101, 114], [116, 97, 105, 108, 111, 114], [116, 97, 110, 110, 101, 114]]
end Go.Proofs.YtmpfpfbcejfijaaGreatDoor
end
section
namespace Go.Proofs.YtmpfpfbcejfijaaGreatDoor
open Go Go.W
set_option maxRecDepth 20000
attribute [local irreducible] HL HC HQ HB Row Rows2 Blk Facts
abbrev rngI (n : Nat) : List Int := (List.range n).map fun i : Nat => (i : Int)
end Go.Proofs.YtmpfpfbcejfijaaGreatDoor
end
section
namespace Go.Proofs.YtmpfpfbcejfijaaGreatDoor
open Go Go.W
set_option maxRecDepth 20000
attribute [local irreducible] HL HC HQ HB Row Rows2 Blk Facts
def AtInv (l : List Int) (s z : Int) : Prop := (0 ≤ z ↔ s ∈ l) ∧ (s ∈ l → ∀ k : Nat, z < (k : Int) ↔ s ∈ l.take k)
theorem nj1 {l : List Int} {k : Nat} {s : Int} (hk : k < l.length) (hb : l.getD k default = s) (ht : s ∉ l.take k) : AtInv l s (k : Int) := by
  refine ⟨⟨fun _ => hb ▸ u0 hk, fun _ => by omega⟩, fun _ j => ⟨fun h => ?_, fun h => ?_⟩⟩
  · have h1 : s ∈ l.take (k + 1) := by rw [L3 l k hk, hb]; simp
    exact List.take_subset_take_left l (by omega) h1
  rcases Nat.lt_or_ge k j with h2 | h2
  · omega
  exact absurd (List.take_subset_take_left l h2 h) ht
theorem at_none {l : List Int} {s : Int} (ht : s ∉ l) : AtInv l s (-1) := ⟨⟨fun h => by omega, fun h => absurd h ht⟩, fun h => absurd h ht⟩
def partL (o : List Int) (m n : Nat) : List Int := (rngI n).filter fun v => decide (v ∈ o.take m)
end Go.Proofs.YtmpfpfbcejfijaaGreatDoor
end
