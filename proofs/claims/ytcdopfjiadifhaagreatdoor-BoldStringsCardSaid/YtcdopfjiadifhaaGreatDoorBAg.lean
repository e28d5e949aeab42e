/- Texts. -/
import Derived.Lib.SliceRun
import Derived.Laws.AppendOwn
import Derived.Laws.MakeOwn
import Derived.Test.YtcdopfjiadifhaaGreatDoorBAf
set_option linter.unusedVariables false
set_option linter.unusedSimpArgs false
section
namespace Go.Proofs.YtcdopfjiadifhaaGreatDoor
open Go Go.W Tryz T F
set_option maxRecDepth 20000
attribute [local irreducible] HL HC HQ HB Row Rows2 Blk Facts
theorem ps_take {hs : List Hd} {n : Nat} : ((hs.map Hd.p).take n).map (·.1) = (hs.take n).map (·.1) := by rw [← List.map_take, List.map_map]; rfl
theorem iT (cs : List Cl) (hs : List Hd) {i : Nat} (hi : i < hs.length) : headErr (trOf cs hs) i =
  if wordB (hs.getD i default).1 = false then 2
  else if (hs.getD i default).1 ∈ (hs.take i).map (·.1) then 4
  else if 0 < i ∧ (hs.getD i default).1 < (hs.getD (i - 1) default).1 then 5
  else if (hs.getD i default).2.1 < -1 ∨ (cs.length : Int) ≤ (hs.getD i default).2.1 ∨ (hs.getD i default).2.2.1 < -1 ∨ (hs.length : Int) ≤ (hs.getD i default).2.2.1 then 3
  else if (hs.getD i default).2.2.1 = (i : Int) then 9
  else if ¬ firstE (alsoErr hs.length i (hs.getD i default).2.2.2.l) (hs.getD i default).2.2.2.l.length = 0 then firstE (alsoErr hs.length i (hs.getD i default).2.2.2.l) (hs.getD i default).2.2.2.l.length
  else if kindBad (hs.getD i default).p = true then 8 else 0 := by
  unfold headErr; simp only [trOf, kz6 hi, kz6 (show i - 1 < hs.length by omega), ps_take, List.length_map]
  rfl
theorem nbw {a b c : Int} (h : (!decide (a ≤ b ∧ b ≤ c)) = true) : ¬ (a ≤ b ∧ b ≤ c) := fun e => by rw [decide_eq_true e] at h; cases h
theorem bw {a b c : Int} (h : (!decide (a ≤ b ∧ b ≤ c)) = false) : a ≤ b ∧ b ≤ c := Classical.byContradiction fun e => by rw [decide_eq_false e] at h; cases h
set_option maxHeartbeats 2000000 in
theorem vQ {A B : Option Addr} {ca cb : Nat} (cs : List Cl) (hs : List Hd) (i : Nat) (h6 : hs.length ≤ 6) (hc6 : cs.length ≤ 6) (hc : hs.length ≤ cb) (hi : i < hs.length) (ha : ∀ h ∈ hs, h.2.2.2.l.length ≤ 1000000) : Meets prog dH [.agg #[.slice A cs.length ca, .slice B hs.length cb], int i] { LI := [Row A (rows cs), RowsF B hs Hd.row], val := fun _ : Unit => int (headErr (trOf cs hs) i) } := by
 refine j3 yE rfl t8 fun w0 => d9 (J5 rfl rfl fun gB => ?_); refine c7 rfl (d8 (i7 (mx9 m1 ?_))); refine mz0 m2 (A3 hi) ?_; have hal := ha _ (A3 hi); refine Y4 ([]) (_) (.refl _) 9 [7] mixed (by decide) (by decide) (by decide) rfl rfl rfl (k7 (fun w1 => a9 ⟨_, 1, none⟩ rfl rfl D3 rfl (q_z rfl)) (k7 (fun w1 => c8 rfl D4 rfl (l4 mB rfl) (q_z rfl)) (k7 (fun w1 => a9 ⟨_, 1, none⟩ rfl rfl D3 rfl (q_z rfl)) (k7 (fun w1 => c8 rfl D4 rfl (l4 mB rfl) (q_z rfl)) (u4 rfl (k7 (fun w1 => r8 (α := Hd) _ _ rfl B4 J8 rfl rfl rfl mB rfl (by omega) (by decide) (q_z rfl)) (k7 (fun w1 => I0 rfl kA J8 rfl rfl (H5 mB (K2 (by omega))) (q_z rfl)) ?_))))))); refine kY ⟨Nat, fun _ => True, fun g => .pointer (d6 g), fun _ => [], fun g => [(g, Obj.cells #[str [], int 0, int 0, .slice none 0 0] pT (0, 0))]⟩ rfl rfl rfl ?_ ?_
 ·intro w1; refine B3 rfl (fun _ => xJ _) fun gA => j4 ?_; exact Q3 gA tK (fun _ => rfl) (.refl _) tK
 refine k7 (fun w1 => c7 rfl (q_z rfl)) ?_; refine E1 ⟨rfl, ?_⟩; intro x7 hx7; refine t6 rfl rfl gP J8 (by rfl) (by rfl) ?_; refine d8 (i7 (j8 (i7 ?_))); refine kz7 (rows [hs.getD i default]) ⟨[], List.append_nil _⟩ (j0 (a9 ⟨_, 0, none⟩ rfl rfl X9 rfl (c8 rfl l3 rfl (u7 mB rfl) (j5 sW rfl rfl (rQ (hs.getD i default).1) p6 tK fun _ _ => ?_)))); refine K6 rfl rfl (c7 rfl (d8 ?_)); refine D0 rfl (fun hb1 => ?_) (fun hb1 => ?_)
 ·have h1 : wordB (hs.getD i default).1 = false := by simpa using hb1
  refine d9 (c7 rfl (d8 (k5 (G6 ?_)))); exact ret1 () rfl (congrArg (fun b => some (int b)) (by rw [iT cs hs hi, if_pos h1])) rfl tK nK tK
 have hb1' := hb1; try simp at hb1'
 have h1 : ¬ wordB (hs.getD i default).1 = false := by simpa using hb1
 refine d9 (b8 rfl (b8 rfl ?_)); refine uB (hs.take i).length rfl B4 J8 rfl rfl (by simp; omega) (by simp; omega) ?_; refine kz3 (ps := hs) i mB (mP rfl rfl rfl ?_); refine j5 nG rfl rfl (mL (hs.take i) (hs.getD i default) (by simp; omega)) p6 mC fun _ _ => ?_; refine c7 rfl (d8 ?_); refine m6 rfl (fun hb2 => ?_) (fun hb2 => ?_)
 ·refine d9 (c7 rfl (d8 (k5 (G6 ?_)))); exact ret1 () rfl (congrArg (fun b => some (int b)) (by rw [iT cs hs hi, if_neg h1, if_pos hb2])) rfl tK nK tK
 have hb2' := hb2; try simp at hb2'
 refine kE ⟨fun _ : Unit => True, fun _ => [(1, int i), (2, .pointer (d6 gB)), (5, .slice B hs.length cb), (6, .pointer (d6 x7)), (27, .bool (decide (0 < i ∧ (hs.getD i default).1 < (hs.getD (i - 1) default).1)))], fun _ => [(gB, .cells #[.slice A cs.length ca, .slice B hs.length cb] B7 (0, 0))], fun _ => [Row (d6 x7) (rows [hs.getD i default]), Row B (rows hs), Row (hs.getD i default).2.2.2.a (rows (hs.getD i default).2.2.2.l)]⟩ ?_ ?_
 ·skip
  refine J0 11 mixed (by decide) (by decide) rfl rfl (u4 rfl (k7 (fun w1 => P4 rfl rfl rfl (q_z rfl)) (u4 rfl ?_))); refine qx0 (t := 30) (want := true) rfl ?_ ?_
  ·intro hg1; have hg1' := hg1; try simp at hg1'
   apply V6 _ rfl rfl rfl
   ·intro w1; refine l9 hg1 (a9 ⟨_, 0, none⟩ rfl rfl X9 rfl (j4 ?_)); exact I7 rfl
   apply V6 _ rfl rfl rfl
   ·intro w1; refine l9 hg1 (c8 rfl l3 rfl (u7 mB rfl) (j4 ?_)); exact I7 rfl
   apply V6 _ rfl rfl rfl
   ·intro w1; refine l9 hg1 (b8 rfl (j4 ?_)); exact I7 rfl
   apply V6 _ rfl rfl rfl
   ·intro w1; refine l9 hg1 (b8 rfl (j4 ?_)); exact I7 rfl
   apply V6 _ rfl rfl rfl
   ·intro w1; refine l9 hg1 (W9 ((i - 1 : Nat) : Int) rfl rfl rfl (by omega) r6 (j4 ?_)); exact I7 rfl
   apply V6 _ rfl rfl rfl
   ·intro w1; refine l9 hg1 (r8 (α := Hd) hs (i - 1) rfl B4 J8 rfl rfl rfl mB rfl (by omega) (by decide) (j4 ?_)); exact I7 rfl
   apply V6 _ rfl rfl rfl
   ·intro w1; refine l9 hg1 (a9 _ rfl rfl X9 rfl (j4 ?_)); exact I7 rfl
   apply V6 _ rfl rfl rfl
   ·intro w1; refine l9 hg1 (c8 rfl l3 rfl (k9 (cs := rows hs) mB (j9 (by omega) rfl)) (j4 ?_)); exact I7 rfl
   refine E1 ⟨rfl, ?_⟩; refine l9 hg1 (r_slss rfl rfl rfl ?_); refine p_t rfl rfl (bt1 hg1) rfl ?_; refine c7 rfl (j4 ?_); exact P5 _ () tK ⟨rfl, rfl, rfl, rfl, congrArg (fun b => some (Value.bool b)) (by rw [rq3]; exact decide_eq_decide.2 ⟨fun e => ⟨by omega, e⟩, fun e => e.2⟩), tK⟩ (List.Sublist.refl _) mC
  intro hg1; refine k7 (fun w1 => q7 hg1 (q_z rfl)) (k7 (fun w1 => q7 hg1 (q_z rfl)) (k7 (fun w1 => q7 hg1 (q_z rfl)) (k7 (fun w1 => q7 hg1 (q_z rfl)) (k7 (fun w1 => q7 hg1 (q_z rfl)) (k7 (fun w1 => q7 hg1 (q_z rfl)) (k7 (fun w1 => q7 hg1 (q_z rfl)) (k7 (fun w1 => q7 hg1 (q_z rfl)) ?_))))))); refine E1 ⟨rfl, ?_⟩; refine q7 hg1 (p_f rfl rfl (bf2 hg1) rfl ?_); refine c7 rfl (j4 ?_); exact P5 _ () tK ⟨rfl, rfl, rfl, rfl, congrArg (fun b => some (Value.bool b)) (by exact (decide_eq_false (by simp at hg1; omega)).symm), tK⟩ (List.Sublist.refl _) mC
 refine fun _ _ => ?_; refine m6 rfl (fun hb3 => ?_) (fun hb3 => ?_)
 ·refine d9 (c7 rfl (d8 (k5 (G6 ?_)))); exact ret1 () rfl (congrArg (fun b => some (int b)) (by rw [iT cs hs hi, if_neg h1, if_neg hb2, if_pos hb3])) rfl tK nK tK
 have hb3' := hb3; try simp at hb3'
 refine kE ⟨fun _ : Unit => True, fun _ => [(1, int i), (2, .pointer (d6 gB)), (5, .slice B hs.length cb), (6, .pointer (d6 x7)), (41, .bool (decide (¬ ((-1 ≤ (hs.getD i default).2.1 ∧ (hs.getD i default).2.1 ≤ (cs.length : Int) - 1) ∧ (-1 ≤ (hs.getD i default).2.2.1 ∧ (hs.getD i default).2.2.1 ≤ (hs.length : Int) - 1)))))], fun _ => [(gB, .cells #[.slice A cs.length ca, .slice B hs.length cb] B7 (0, 0))], fun _ => [Row (d6 x7) (rows [hs.getD i default]), Row B (rows hs), Row (hs.getD i default).2.2.2.a (rows (hs.getD i default).2.2.2.l)]⟩ ?_ ?_
 ·skip
  refine d9 (a9 ⟨_, 1, none⟩ rfl rfl P0 rfl (c8 rfl b9 rfl (u7 mB rfl) (a9 ⟨_, 0, none⟩ rfl rfl S7 rfl (c8 rfl R0 rfl (m3 mB rfl) (l7 rfl J1 rfl (W9 _ rfl rfl rfl rfl r6 (j5 R4 rfl rfl (Q8 _ _ _) p6 tK fun _ _ => ?_))))))); refine K6 rfl rfl (c7 rfl (d8 ?_)); refine D0 rfl (fun hb4 => ?_) (fun hb4 => ?_)
  ·refine j6 ?_; exact P5 _ () tK ⟨rfl, rfl, rfl, rfl, congrArg (fun b => some (Value.bool b)) (by rw [hb4]; symm; rw [decide_eq_true_eq]; exact fun e => nbw hb4 e.1), tK⟩ (List.Sublist.refl _) mC
  refine j0 (a9 ⟨_, 2, none⟩ rfl rfl O9 rfl (c8 rfl b9 rfl (u7 mB rfl) (b8 rfl (l7 rfl B4 rfl (W9 _ rfl rfl rfl rfl r6 (j5 R4 rfl rfl (Q8 _ _ _) p6 tK fun _ _ => ?_)))))); refine K6 rfl rfl (c7 rfl (j4 ?_)); exact P5 _ () tK ⟨rfl, rfl, rfl, rfl, congrArg (fun b => some (Value.bool b)) (by have := bw hb4; rw [Bool.eq_iff_iff]; simp only [Bool.not_eq_true', decide_eq_false_iff_not, decide_eq_true_eq]; exact ⟨fun e f => e f.2, fun e f => e ⟨this, f⟩⟩), tK⟩ (List.Sublist.refl _) mC
 refine fun _ _ => ?_; refine m6 rfl (fun hb5 => ?_) (fun hb5 => ?_)
 ·refine d9 (c7 rfl (d8 (k5 (G6 ?_)))); exact ret1 () rfl (congrArg (fun b => some (int b)) (by rw [iT cs hs hi, if_neg h1, if_neg hb2, if_neg hb3, if_pos (by omega)])) rfl tK nK tK
 have hb5' := hb5; try simp at hb5'
 refine d9 (a9 ⟨_, 2, none⟩ rfl rfl O9 rfl (c8 rfl b9 rfl (u7 mB rfl) ?_)); refine b8 rfl (G2 rfl rfl rfl (c7 rfl (d8 ?_))); refine m6 rfl (fun hb6 => ?_) (fun hb6 => ?_)
 ·refine d9 (c7 rfl (d8 (k5 (G6 ?_)))); exact ret1 () rfl (congrArg (fun b => some (int b)) (by rw [iT cs hs hi, if_neg h1, if_neg hb2, if_neg hb3, if_neg (by omega), if_pos hb6])) rfl tK nK tK
 have hb6' := hb6; try simp at hb6'
 have hH : headErr (trOf cs hs) i = if ¬ firstE (alsoErr hs.length i (hs.getD i default).2.2.2.l) (hs.getD i default).2.2.2.l.length = 0 then firstE (alsoErr hs.length i (hs.getD i default).2.2.2.l) (hs.getD i default).2.2.2.l.length else if kindBad (hs.getD i default).p = true then 8 else 0 := by rw [iT cs hs hi, if_neg h1, if_neg hb2, if_neg hb3, if_neg (by omega), if_neg hb6]
 refine j6 (w9 (i8 (i7 (d9 ?_)))); refine a9 ⟨_, 3, none⟩ rfl rfl O8 rfl (c8 rfl k8 rfl (u7 mB rfl) (l7 rfl l8 rfl ?_)); refine b8 rfl (d8 (j8 ?_)); refine y8 (β := Nat) ⟨fun k => k ≤ (hs.getD i default).2.2.2.l.length ∧ firstE (alsoErr hs.length i (hs.getD i default).2.2.2.l) k = 0, fun k => [(1, int i), (2, .pointer (d6 gB)), (5, .slice B hs.length cb), (6, .pointer (d6 x7)), (63, .slice (hs.getD i default).2.2.2.a (hs.getD i default).2.2.2.l.length (hs.getD i default).2.2.2.c), (64, int (hs.getD i default).2.2.2.l.length), (65, int k)], fun _ => [(gB, .cells #[.slice A cs.length ca, .slice B hs.length cb] B7 (0, 0))], fun _ => [Row (d6 x7) (rows [hs.getD i default]), Row B (rows hs), Row (hs.getD i default).2.2.2.a (rows (hs.getD i default).2.2.2.l)]⟩ (fun k => (hs.getD i default).2.2.2.l.length - k) 0 ⟨Nat.zero_le _, rfl⟩ mC (List.Sublist.refl _) mC fun k hk => ?_; obtain ⟨hk, ht⟩ := hk; refine d9 (C4 rfl rfl rfl (d8 (i7 ?_))); refine m6 rfl (fun hb7 => ?_) (fun hb7 => ?_)
 ·have hb7' := hb7; try simp at hb7'
  have hk2 : k < (hs.getD i default).2.2.2.l.length := by omega
  refine j6 (i8 (i7 (j8 (d9 (b8 rfl ?_))))); refine r8 (α := Int) _ _ rfl l8 m9 rfl rfl rfl mB rfl (by omega) (by decide) (c8 rfl b9 rfl (k9 mB (j9 (by omega) rfl)) ?_); refine c7 rfl (c7 rfl (d8 (j8 (d9 (b8 rfl (b8 rfl ?_)))))); refine l7 rfl B4 rfl (W9 _ rfl rfl rfl rfl r6 (j5 R4 rfl rfl (Q8 _ _ _) p6 tK fun _ _ => ?_)); refine K6 rfl rfl (c7 rfl (d8 ?_)); refine D0 rfl (fun hb8 => ?_) (fun hb8 => ?_)
  ·refine d9 (c7 rfl (d8 (k5 (cU (G6 (C5 (G6 ?_))))))); exact ret1 () rfl (congrArg (fun b => some (int b)) (by have he : alsoErr hs.length i (hs.getD i default).2.2.2.l k = 3 := (by unfold alsoErr; rw [if_pos (by have := nbw hb8; omega)]); rw [hH, dU ht (by rw [he]; omega) _ hk2, if_pos (by rw [he]; omega), he])) rfl tK nK tK
  have hb8' := hb8; try simp at hb8'
  refine d9 (b8 rfl (b8 rfl (G2 rfl rfl rfl (c7 rfl (d8 ?_))))); refine m6 rfl (fun hb9 => ?_) (fun hb9 => ?_)
  ·refine d9 (c7 rfl (d8 (k5 (cU (G6 (C5 (G6 ?_))))))); exact ret1 () rfl (congrArg (fun b => some (int b)) (by have he : alsoErr hs.length i (hs.getD i default).2.2.2.l k = 9 := (by unfold alsoErr; rw [if_neg (by have := bw hb8; omega), if_pos hb9]); rw [hH, dU ht (by rw [he]; omega) _ hk2, if_pos (by rw [he]; omega), he])) rfl tK nK tK
  have hb9' := hb9; try simp at hb9'
  refine kE ⟨fun _ : Unit => True, fun _ => [(1, int i), (2, .pointer (d6 gB)), (5, .slice B hs.length cb), (6, .pointer (d6 x7)), (63, .slice (hs.getD i default).2.2.2.a (hs.getD i default).2.2.2.l.length (hs.getD i default).2.2.2.c), (64, int (hs.getD i default).2.2.2.l.length), (65, int k), (81, .bool (decide (0 < k ∧ (hs.getD i default).2.2.2.l.getD k default ≤ (hs.getD i default).2.2.2.l.getD (k - 1) default)))], fun _ => [(gB, .cells #[.slice A cs.length ca, .slice B hs.length cb] B7 (0, 0))], fun _ => [Row (d6 x7) (rows [hs.getD i default]), Row B (rows hs), Row (hs.getD i default).2.2.2.a (rows (hs.getD i default).2.2.2.l)]⟩ ?_ ?_
  ·skip
   refine j0 (b8 rfl (P4 rfl rfl rfl (b8 rfl ?_))); refine t7 rfl rfl ?_ ?_
   ·intro hg2; have hg2' := hg2; try simp at hg2'
    refine l9 hg2 (b8 rfl (l9 hg2 ?_)); refine a9 ⟨_, 3, none⟩ rfl rfl O8 rfl (l9 hg2 (c8 rfl k8 rfl (u7 mB rfl) ?_)); refine l9 hg2 (b8 rfl (l9 hg2 ?_)); refine W9 ((k - 1 : Nat) : Int) rfl rfl rfl (by omega) r6 (l9 hg2 (r8 (α := Int) _ _ rfl l8 m9 rfl rfl rfl mB rfl (by omega) (by decide) (l9 hg2 (c8 rfl b9 rfl (k9 mB (j9 (by omega) rfl)) ?_)))); refine l9 hg2 (xT rfl rfl rfl ?_); refine p_t rfl rfl (bt1 hg2) rfl ?_; refine c7 rfl (j4 ?_); exact P5 _ () tK ⟨rfl, rfl, rfl, rfl, rfl, rfl, rfl, congrArg (fun b => some (Value.bool b)) (by exact decide_eq_decide.2 ⟨fun e => ⟨by omega, e⟩, fun e => e.2⟩), tK⟩ (List.Sublist.refl _) mC
   intro hg2; refine q7 hg2 (q7 hg2 (q7 hg2 (q7 hg2 (q7 hg2 (q7 hg2 (q7 hg2 (q7 hg2 ?_))))))); refine p_f rfl rfl (bf2 hg2) rfl ?_; refine c7 rfl (j4 ?_); exact P5 _ () tK ⟨rfl, rfl, rfl, rfl, rfl, rfl, rfl, congrArg (fun b => some (Value.bool b)) (by exact (decide_eq_false (by simp at hg2; omega)).symm), tK⟩ (List.Sublist.refl _) mC
  refine fun _ _ => ?_; refine m6 rfl (fun hb10 => ?_) (fun hb10 => ?_)
  ·refine d9 (c7 rfl (d8 (k5 (cU (G6 (C5 (G6 ?_))))))); exact ret1 () rfl (congrArg (fun b => some (int b)) (by have he : alsoErr hs.length i (hs.getD i default).2.2.2.l k = 5 := (by unfold alsoErr; rw [if_neg (by have := bw hb8; omega), if_neg hb9, if_pos hb10]); rw [hH, dU ht (by rw [he]; omega) _ hk2, if_pos (by rw [he]; omega), he])) rfl tK nK tK
  refine j6 (w9 (w9 (i8 (j0 ?_)))); refine v8 _ rfl rfl rfl rfl r6 ?_; refine b8 rfl (j4 ?_); exact again _ (k + 1) ⟨by omega, by rw [yO ht]; unfold alsoErr; rw [if_neg (by have := bw hb8; omega), if_neg hb9, if_neg hb10]⟩ (C8 (by omega)) mC (List.Sublist.refl _) mC
 have hb7' := hb7; try simp at hb7'
 have hk2 : k = (hs.getD i default).2.2.2.l.length := by omega
 subst hk2; rw [if_neg (not_not_intro ht)] at hH; refine w8 (E4 (w6 (i8 (i7 ?_)))); refine kE ⟨fun _ : Unit => True, fun _ => [(1, int i), (2, .pointer (d6 gB)), (5, .slice B hs.length cb), (6, .pointer (d6 x7)), (124, .bool (kindBad (hs.getD i default).p))], fun _ => [(gB, .cells #[.slice A cs.length ca, .slice B hs.length cb] B7 (0, 0))], fun _ => [Row (d6 x7) (rows [hs.getD i default]), Row B (rows hs), Row (hs.getD i default).2.2.2.a (rows (hs.getD i default).2.2.2.l)]⟩ ?_ ?_
 ·skip
  clear hH ht hk hb1 hb1' h1 hb2 hb2' hb3 hb3' hb5 hb5' hb6 hb6' hb7 hb7' ha h6 hc6 hc hi hal; refine j0 (a9 ⟨_, 2, none⟩ rfl rfl O9 rfl (c8 rfl b9 rfl (u7 mB rfl) ?_)); refine P9 rfl rfl rfl (b8 rfl ?_); refine t7 rfl rfl ?_ ?_
  ·intro hg3; refine l9 hg3 (a9 ⟨_, 1, none⟩ rfl rfl P0 rfl (l9 hg3 (c8 rfl b9 rfl (u7 mB rfl) ?_))); refine l9 hg3 (P9 rfl rfl rfl (l9 hg3 (b8 rfl ?_))); refine t7 rfl rfl ?_ ?_
   ·intro hg4; refine l9 hg4 (a9 ⟨_, 3, none⟩ rfl rfl O8 rfl (l9 hg4 (c8 rfl k8 rfl (u7 mB rfl) (l9 hg4 (l7 rfl l8 rfl ?_))))); refine l9 hg4 (P4 rfl rfl rfl (l9 hg3 ?_)); refine p_f rfl rfl (bf1 hg4) rfl (p_t rfl rfl (bt1 hg3) rfl (b8 rfl ?_)); refine t7 rfl rfl ?_ ?_
    ·intro hg5; refine l9 hg5 (a9 ⟨_, 2, none⟩ rfl rfl O9 rfl (l9 hg5 (c8 rfl b9 rfl (u7 mB rfl) ?_))); refine l9 hg5 (G2 rfl rfl rfl (l9 hg5 (b8 rfl ?_))); refine t7 rfl rfl ?_ ?_
     ·intro hg6; refine l9 hg6 (a9 ⟨_, 1, none⟩ rfl rfl P0 rfl (l9 hg6 (c8 rfl b9 rfl (u7 mB rfl) ?_))); refine l9 hg6 (G2 rfl rfl rfl (l9 hg5 ?_)); refine p_t rfl rfl (bt1 hg6) rfl ?_; refine l9 hg5 (b8 rfl ?_); refine t7 rfl rfl ?_ ?_
      ·intro hg7; refine l9 hg7 (a9 ⟨_, 3, none⟩ rfl rfl O8 rfl (l9 hg7 (c8 rfl k8 rfl (u7 mB rfl) (l9 hg7 (l7 rfl l8 rfl ?_))))); refine l9 hg7 (G2 rfl rfl rfl (l9 hg5 ?_)); refine p_t rfl rfl (bt1 hg7) rfl (p_f rfl rfl (bf1 hg5) rfl (j4 ?_)); exact P5 _ () tK ⟨rfl, rfl, rfl, rfl, congrArg (fun b => some (Value.bool b)) (by simp only [kindBad, Hd.p]; simp_all), tK⟩ (List.Sublist.refl _) mC
      intro hg7; refine q7 hg7 (q7 hg7 (q7 hg7 (q7 hg7 (l9 hg5 ?_)))); refine p_f rfl rfl (bf2 hg7) rfl (p_f rfl rfl (bf1 hg5) rfl (j4 ?_)); exact P5 _ () tK ⟨rfl, rfl, rfl, rfl, congrArg (fun b => some (Value.bool b)) (by simp only [kindBad, Hd.p]; simp_all), tK⟩ (List.Sublist.refl _) mC
     intro hg6; refine q7 hg6 (q7 hg6 (q7 hg6 (l9 hg5 ?_))); refine p_f rfl rfl (bf2 hg6) rfl ?_; refine l9 hg5 (b8 rfl (E2 rfl rfl rfl rfl rfl rfl (E2 rfl rfl rfl rfl rfl rfl (E2 rfl rfl rfl rfl rfl rfl (E2 rfl rfl rfl rfl rfl rfl (l9 hg5 (p_f rfl rfl rfl rfl ?_))))))); refine p_f rfl rfl (bf1 hg5) rfl (j4 ?_); exact P5 _ () tK ⟨rfl, rfl, rfl, rfl, congrArg (fun b => some (Value.bool b)) (by simp only [kindBad, Hd.p]; simp_all), tK⟩ (List.Sublist.refl _) mC
    intro hg5; refine q7 hg5 (q7 hg5 (q7 hg5 (q7 hg5 (M4 rfl rfl rfl rfl rfl rfl (M4 rfl rfl rfl rfl rfl rfl (M4 rfl rfl rfl rfl rfl rfl (q7 hg5 (q7 hg5 (M4 rfl rfl rfl rfl rfl rfl (M4 rfl rfl rfl rfl rfl rfl (M4 rfl rfl rfl rfl rfl rfl ?_))))))))))); refine M4 rfl rfl rfl rfl rfl rfl (q7 hg5 ?_); refine p_t rfl rfl (bt2 hg5) rfl (j4 ?_); exact P5 _ () tK ⟨rfl, rfl, rfl, rfl, congrArg (fun b => some (Value.bool b)) (by simp only [kindBad, Hd.p]; simp_all), tK⟩ (List.Sublist.refl _) mC
   intro hg4; refine q7 hg4 (q7 hg4 (q7 hg4 (q7 hg4 (l9 hg3 ?_)))); refine p_t rfl rfl (bt2 hg4) rfl (p_t rfl rfl (bt1 hg3) rfl ?_); refine b8 rfl (E2 rfl rfl rfl rfl rfl rfl (E2 rfl rfl rfl rfl rfl rfl (E2 rfl rfl rfl rfl rfl rfl (E2 rfl rfl rfl rfl rfl rfl (M4 rfl rfl rfl rfl rfl rfl (M4 rfl rfl rfl rfl rfl rfl (M4 rfl rfl rfl rfl rfl rfl (E2 rfl rfl rfl rfl rfl rfl (E2 rfl rfl rfl rfl rfl rfl (M4 rfl rfl rfl rfl rfl rfl (M4 rfl rfl rfl rfl rfl rfl ?_))))))))))); refine M4 rfl rfl rfl rfl rfl rfl (M4 rfl rfl rfl rfl rfl rfl (E2 rfl rfl rfl rfl rfl rfl (p_t rfl rfl rfl rfl (j4 ?_)))); exact P5 _ () tK ⟨rfl, rfl, rfl, rfl, congrArg (fun b => some (Value.bool b)) (by simp only [kindBad, Hd.p]; simp_all), tK⟩ (List.Sublist.refl _) mC
  intro hg3; refine q7 hg3 (q7 hg3 (q7 hg3 (q7 hg3 (M4 rfl rfl rfl rfl rfl rfl (M4 rfl rfl rfl rfl rfl rfl (M4 rfl rfl rfl rfl rfl rfl (M4 rfl rfl rfl rfl rfl rfl (q7 hg3 ?_)))))))); refine p_f rfl rfl (bf2 hg3) rfl ?_; refine b8 rfl (cL rfl rfl rfl ?_); refine a9 ⟨_, 2, none⟩ rfl rfl O9 rfl (cL rfl rfl rfl (c8 rfl b9 rfl (u7 mB rfl) ?_)); refine cL rfl rfl rfl (G2 rfl rfl rfl (cL rfl rfl rfl (b8 rfl ?_))); refine t7 rfl rfl ?_ ?_
  ·intro hg8; refine l9 hg8 (a9 ⟨_, 1, none⟩ rfl rfl P0 rfl (l9 hg8 (c8 rfl b9 rfl (u7 mB rfl) ?_))); refine l9 hg8 (G2 rfl rfl rfl (cL rfl rfl rfl ?_)); refine p_t rfl rfl (bt1 hg8) rfl ?_; refine cL rfl rfl rfl (b8 rfl ?_); refine t7 rfl rfl ?_ ?_
   ·intro hg9; refine l9 hg9 (a9 ⟨_, 3, none⟩ rfl rfl O8 rfl (l9 hg9 (c8 rfl k8 rfl (u7 mB rfl) (l9 hg9 (l7 rfl l8 rfl ?_))))); refine l9 hg9 (G2 rfl rfl rfl (cL rfl rfl rfl ?_)); refine p_t rfl rfl (bt1 hg9) rfl ?_; refine p_f rfl rfl rfl rfl (j4 ?_); exact P5 _ () tK ⟨rfl, rfl, rfl, rfl, congrArg (fun b => some (Value.bool b)) (by simp only [kindBad, Hd.p]; simp_all), tK⟩ (List.Sublist.refl _) mC
   intro hg9; refine q7 hg9 (q7 hg9 (q7 hg9 (q7 hg9 (cL rfl rfl rfl ?_)))); refine p_f rfl rfl (bf2 hg9) rfl ?_; refine p_f rfl rfl rfl rfl (j4 ?_); exact P5 _ () tK ⟨rfl, rfl, rfl, rfl, congrArg (fun b => some (Value.bool b)) (by simp only [kindBad, Hd.p]; simp_all), tK⟩ (List.Sublist.refl _) mC
  intro hg8; refine q7 hg8 (q7 hg8 (q7 hg8 (cL rfl rfl rfl ?_))); refine p_f rfl rfl (bf2 hg8) rfl ?_; refine cL rfl rfl rfl (b8 rfl (E2 rfl rfl rfl rfl rfl rfl (E2 rfl rfl rfl rfl rfl rfl (E2 rfl rfl rfl rfl rfl rfl (E2 rfl rfl rfl rfl rfl rfl (cL rfl rfl rfl (p_f rfl rfl rfl rfl (p_f rfl rfl rfl rfl (j4 ?_))))))))); exact P5 _ () tK ⟨rfl, rfl, rfl, rfl, congrArg (fun b => some (Value.bool b)) (by simp only [kindBad, Hd.p]; simp_all), tK⟩ (List.Sublist.refl _) mC
 refine fun _ _ => ?_; refine D0 rfl (fun hb11 => ?_) (fun hb11 => ?_)
 ·refine d9 (c7 rfl (d8 (J4 ?_))); exact ret1 () rfl (congrArg (fun b => some (int b)) (by rw [hH, if_pos hb11])) rfl tK nK tK
 refine j6 (i8 (d9 (c7 rfl (d8 (k5 ?_))))); exact ret1 () rfl (congrArg (fun b => some (int b)) (by rw [hH, if_neg (by rw [hb11]; simp)])) rfl tK nK tK
theorem bA (cs : List Cl) (hs : List Hd) : (trOf cs hs).hs.length = hs.length := List.length_map ..
theorem pN {A B : Option Addr} {ca cb : Nat} (cs : List Cl) (hs : List Hd) (hca : cs.length ≤ ca) (hcb : hs.length ≤ cb) (ha : ∀ h ∈ hs, h.2.2.2.l.length ≤ 1000000) : Meets prog mV [.agg #[.slice A cs.length ca, .slice B hs.length cb]] { LI := [Row A (rows cs), RowsF B hs Hd.row], val := fun _ : Unit => int (checkT (trOf cs hs)) } := by
 refine j3 gz7 rfl t8 fun w0 => d9 (J5 rfl rfl fun gB => ?_); refine c7 rfl (d8 (dj7 ?_)); have hl := bA cs hs; refine j0 (a9 ⟨_, 0, none⟩ rfl rfl S7 rfl (c8 rfl R0 rfl (m3 mB rfl) (l7 rfl J1 rfl ?_))); refine P4 rfl rfl rfl (b8 rfl ?_); refine t7 rfl rfl ?_ ?_
 ·intro hg1; have h6 : cs.length ≤ 6 := by simp at hg1; omega
  refine l9 hg1 (a9 ⟨_, 1, none⟩ rfl rfl D3 rfl (l9 hg1 (c8 rfl D4 rfl (m3 mB rfl) (l9 hg1 (l7 rfl B4 rfl ?_))))); refine l9 hg1 (P4 rfl rfl rfl ?_); refine p_f rfl rfl (bf1 hg1) rfl (d8 ?_); refine m6 rfl (fun hb1 => ?_) (fun hb1 => ?_)
  ·refine d9 (c7 rfl (d8 (J4 ?_))); exact ret1 () rfl (congrArg (fun b => some (int b)) (by rw [checkT, if_pos (by rw [hl]; simp only; omega)])) rfl tK nK tK
  have h6h : hs.length ≤ 6 := by omega
  have hT : checkT (trOf cs hs) = if ¬ firstE (clsErr cs) cs.length = 0 then firstE (clsErr cs) cs.length else firstE (headErr (trOf cs hs)) hs.length := by rw [checkT, if_neg (by rw [hl]; simp only; omega), hl]
  refine j6 (i8 (i7 (d9 ?_))); refine a9 ⟨_, 0, none⟩ rfl rfl S7 rfl (c8 rfl R0 rfl (m3 mB rfl) (l7 rfl J1 rfl ?_)); refine b8 rfl (d8 (j8 ?_)); refine y8 (β := Nat) ⟨fun k => k ≤ cs.length ∧ firstE (clsErr cs) k = 0, fun k => [(1, .pointer (d6 gB)), (19, int cs.length), (20, int k)], fun _ => [(gB, .cells #[.slice A cs.length ca, .slice B hs.length cb] B7 (0, 0))], fun _ => [Row A (rows cs), RowsF B hs Hd.row]⟩ (fun k => cs.length - k) 0 ⟨Nat.zero_le _, rfl⟩ mC (List.Sublist.refl _) mC fun k hk => ?_; obtain ⟨hk, ht⟩ := hk; refine d9 (C4 rfl rfl rfl (d8 (i7 ?_))); refine m6 rfl (fun hb2 => ?_) (fun hb2 => ?_)
  ·have hk2 : k < cs.length := by omega
   refine j6 (i8 (i7 (j8 (d9 (b8 rfl (c7 rfl (k6 ?_))))))); refine a9 ⟨_, 0, none⟩ rfl rfl S7 rfl (c8 rfl R0 rfl (m3 mB rfl) (b8 rfl (j5 uM rfl rfl (tS cs k (by omega) hca hk2) p6 mC fun _ _ => ?_))); refine c7 rfl (k6 (b8 rfl (P9 rfl rfl rfl (d8 ?_)))); refine m6 rfl (fun hb3 => ?_) (fun hb3 => ?_)
   ·refine d9 (b8 rfl (c7 rfl (d8 (k5 (G6 (C5 (G6 ?_))))))); exact ret1 () rfl (congrArg (fun b => some (int b)) (by rw [hT, dU ht hb3 _ hk2, if_pos hb3])) rfl tK nK tK
   refine j6 (w9 (i8 (j0 ?_))); refine v8 _ rfl rfl rfl rfl r6 ?_; refine b8 rfl (j4 ?_); exact again _ (k + 1) ⟨by omega, by rw [yO ht]; exact Classical.not_not.1 hb3⟩ (C8 (by omega)) mC (List.Sublist.refl _) mC
  have hk2 : k = cs.length := by omega
  subst hk2; rw [if_neg (not_not_intro ht)] at hT; refine w8 (E4 (w6 (i8 (i7 (d9 ?_))))); refine a9 ⟨_, 1, none⟩ rfl rfl D3 rfl (c8 rfl D4 rfl (m3 mB rfl) (l7 rfl B4 rfl ?_)); refine b8 rfl (d8 (j8 ?_)); refine y8 (β := Nat) ⟨fun k => k ≤ hs.length ∧ firstE (headErr (trOf cs hs)) k = 0, fun k => [(1, .pointer (d6 gB)), (33, int hs.length), (34, int k)], fun _ => [(gB, .cells #[.slice A cs.length ca, .slice B hs.length cb] B7 (0, 0))], fun _ => [Row A (rows cs), RowsF B hs Hd.row]⟩ (fun k => hs.length - k) 0 ⟨Nat.zero_le _, rfl⟩ mC (List.Sublist.refl _) mC fun k hk => ?_; obtain ⟨hk, ht⟩ := hk; refine d9 (C4 rfl rfl rfl (d8 (i7 ?_))); refine m6 rfl (fun hb4 => ?_) (fun hb4 => ?_)
  ·have hk2 : k < hs.length := by omega
   refine j6 (i8 (i7 (j8 (d9 (b8 rfl (c7 rfl (k6 ?_))))))); refine B8 rfl E8 E6 rfl mB (by rfl) ?_; refine b8 rfl (j5 wE rfl rfl (vQ cs hs k h6h h6 hcb hk2 ha) p6 mC fun _ _ => ?_); refine c7 rfl (k6 (b8 rfl (P9 rfl rfl rfl (d8 ?_)))); refine m6 rfl (fun hb5 => ?_) (fun hb5 => ?_)
   ·refine d9 (b8 rfl (c7 rfl (d8 (k5 (G6 (C5 (G6 ?_))))))); exact ret1 () rfl (congrArg (fun b => some (int b)) (by rw [hT, dU ht hb5 _ hk2])) rfl tK nK tK
   refine j6 (w9 (i8 (j0 ?_))); refine v8 _ rfl rfl rfl rfl r6 ?_; refine b8 rfl (j4 ?_); exact again _ (k + 1) ⟨by omega, by rw [yO ht]; exact Classical.not_not.1 hb5⟩ (C8 (by omega)) mC (List.Sublist.refl _) mC
  have hk2 : k = hs.length := by omega
  subst hk2; refine w8 (E4 (w6 (i8 (d9 (c7 rfl (d8 (k5 ?_))))))); exact ret1 () rfl (congrArg (fun b => some (int b)) (by rw [hT, ht])) rfl tK nK tK
 intro hg1; refine q7 hg1 (q7 hg1 (q7 hg1 (q7 hg1 ?_))); refine p_t rfl rfl (bt2 hg1) rfl ?_; refine d8 (c_t rfl rfl (d9 (c7 rfl (d8 (J4 ?_))))); exact ret1 () rfl (congrArg (fun b => some (int b)) (by rw [checkT, if_pos (by simp at hg1; simp only; omega)])) rfl tK nK tK
instance : El Nat where
  default := 0
  cells m := [u8 m]
  sz := 1
  len _ := rfl
  one a u h := by simp at h; subst h; rfl
inductive Kd where
  | art (c : Int) (al : Sl Int)
  | ptr (s : Int)
  | idx (al : Sl Int)
def Kd.v : Kd → Value
  | .art c al => .iface rU (.agg #[int c, .slice al.a al.l.length al.c])
  | .ptr s => .iface rT (.agg #[int s])
  | .idx al => .iface wZ (.agg #[.slice al.a al.l.length al.c])
instance : El Kd where
  default := .ptr 0
  cells m := [m.v]
  sz := 1
  len _ := rfl
  one a u h := by simp at h; subst h; cases a <;> rfl
def kindOf (h : Hd) : Kd := if ¬ h.2.2.1 = -1 then .ptr h.2.2.1 else if ¬ h.2.1 = -1 then .art h.2.1 h.2.2.2 else .idx h.2.2.2
def kindsN (hs : List Hd) (k : Nat) : List Kd := (hs.take k).map kindOf
theorem zB {hs : List Hd} {k : Nat} (h : k ≤ hs.length) : (kindsN hs k).length = k := by simp [kindsN, h]
theorem az9 {hs : List Hd} {k : Nat} (h : k < hs.length) : kindsN hs (k + 1) = kindsN hs k ++ [kindOf (hs.getD k default)] := by
  unfold kindsN; rw [P8 hs k h, List.map_append]
  rfl
def maskOf (l : List Int) : Nat := l.foldl (fun m x => m ||| 2 ^ x.toNat) 0
theorem tz8 (l : List Int) (x : Int) : maskOf (l ++ [x]) = maskOf l ||| 2 ^ x.toNat := by unfold maskOf; rw [List.foldl_append]; rfl
theorem qq4 : ∀ (l : List Int) (m : Nat), m < 256 → (∀ x ∈ l, x.toNat < 8) → l.foldl (fun m x => m ||| 2 ^ x.toNat) m < 256
  | [], m, hm, _ => hm
  | x :: l, m, hm, h => by
    rw [List.foldl_cons]; refine qq4 l _ (Nat.or_lt_two_pow (n := 8) hm ?_) (fun y hy => h y (List.mem_cons_of_mem _ hy)); exact Nat.pow_lt_pow_right (by omega) (h x (List.mem_cons_self ..))
theorem mask_lt {l : List Int} (h : ∀ x ∈ l, x.toNat < 8) : maskOf l < 256 := qq4 l 0 (by decide) h
def masksN (cs : List Cl) (k : Nat) : List Nat := (List.range k).map fun i : Nat => maskOf (pathT cs (i : Int))
theorem mx4 (cs : List Cl) (k : Nat) : (masksN cs k).length = k := by simp [masksN]
theorem rx7 (cs : List Cl) (k : Nat) : masksN cs (k + 1) = masksN cs k ++ [maskOf (pathT cs (k : Int))] := by unfold masksN; rw [List.range_succ, List.map_append]; rfl
theorem tz7 {cs : List Cl} {k i : Nat} (h : i < k) : (masksN cs k).getD i default = maskOf (pathT cs (i : Int)) := by
  rw [D7 (by rw [mx4]; exact h)]
  simp [masksN]
theorem rx5 {cs : List Cl} (h6 : cs.length ≤ 6) (hc : ∀ i, i < cs.length → ClsOK cs i) {c : Int} (hl : c < (cs.length : Int)) : ∀ x ∈ pathT cs c, 0 ≤ x ∧ x < 6 := fun x hx => by
  have := (qj9 cs hc c.toNat c (Nat.le_refl _) hl).2 x hx
  omega
theorem tz9 {cs : List Cl} (h6 : cs.length ≤ 6) (hc : ∀ i, i < cs.length → ClsOK cs i) {c : Int} (hl : c < (cs.length : Int)) : maskOf (pathT cs c) < 256 := mask_lt fun x hx => by have := rx5 h6 hc hl x hx; omega
theorem mx5 {cs : List Cl} (h6 : cs.length ≤ 6) (hc : ∀ i, i < cs.length → ClsOK cs i) {k : Nat} (hk : k < cs.length) : maskOf (pathT cs (k : Int)) = 2 ^ k ||| maskOf (pathT cs (cs.getD k default).2) := by
  rw [mx2 cs hc (by omega) (by omega), tz8, Nat.or_comm]
  rfl
theorem wq0 {cs : List Cl} {c : Int} (h : c < 0) : maskOf (pathT cs c) = 0 := by rw [cx8 cs h]; rfl
theorem pmA {α : Type} (l : List α) (a b : α) : (l ++ [a, b]).Perm (a :: (l ++ [b])) := Z2 fun p => by simp only [List.countP_append, List.countP_cons, List.countP_nil]; omega
theorem pmB {α : Type} (l : List α) (a b : α) : (a :: (l ++ [b])).Perm (l ++ [a, b]) := (pmA l a b).symm
theorem pmC {α : Type} (l : List α) (a : α) : (l ++ [a]).Perm (a :: l) := List.perm_append_comm (l₂ := [a])
def beginL (cs : List Cl) (hs : List Hd) (A : Option Addr) (ca : Nat) (B : Option Addr) (cb : Nat) (x : Nat × OutC × OutC) : List Fact := [Row (some ⟨x.1, 0, none⟩) [.slice A cs.length ca, .slice B hs.length cb, .slice x.2.1.1 cs.length x.2.1.2, .slice x.2.2.1 hs.length x.2.2.2], Row x.2.1.1 (rows (masksN cs cs.length)), Row x.2.2.1 (rows (kindsN hs hs.length))]
theorem qJ (m i : Nat) (hm : m < 256) (hi : i < 8) : Meets prog aI [u8 m, int i] { val := fun _ : Unit => u8 (m ||| 2 ^ i) } := by
 refine j3 sY rfl t8 fun w0 => ?_; refine d9 (c7 rfl (k6 (b8 rfl (b8 rfl (r_shl8 i rfl rfl rfl rfl hi ?_))))); refine r_or8 rfl rfl rfl hm (Nat.pow_lt_pow_right (by omega) hi : 2 ^ i < 2 ^ 8) ?_; refine c7 rfl (d8 (k5 ?_)); exact ret1 () rfl rfl rfl tK nK tK
set_option maxHeartbeats 1000000 in
theorem bz6 {A B : Option Addr} {ca cb : Nat} (cs : List Cl) (hs : List Hd) (hca : cs.length ≤ ca) (hcb : hs.length ≤ cb) (ha : ∀ h ∈ hs, h.2.2.2.l.length ≤ 1000000) : Meets prog mW [.agg #[.slice A cs.length ca, .slice B hs.length cb]] { LI := [Row A (rows cs), RowsF B hs Hd.row], val := fun x : Nat × OutC × OutC => .tuple #[if checkT (trOf cs hs) = 0 then .pointer (some ⟨x.1, 0, none⟩) else .pointer none, int (checkT (trOf cs hs))], LO := fun x => if checkT (trOf cs hs) = 0 then beginL cs hs A ca B cb x else [] } := by
 refine j3 gz8 rfl t8 fun w0 => d9 (J5 rfl rfl fun gB => ?_); refine c7 rfl (c7 rfl (d8 (i7 (d9 ?_)))); refine B8 rfl E8 E6 rfl mB (by rfl) ?_; refine j5 qB rfl rfl (pN cs hs hca hcb ha) p6 mC fun _ _ => ?_; refine c7 rfl (k6 (b8 rfl (P9 rfl rfl rfl (d8 ?_)))); refine m6 rfl (fun hb1 => ?_) (fun hb1 => ?_)
 ·refine d9 (b8 rfl (c7 rfl (c7 rfl (d8 (J4 ?_))))); exact ret2 (0, (none, 0), (none, 0)) rfl rfl rfl (by show Value.tuple #[if checkT (trOf cs hs) = 0 then _ else _, _] = _; rw [if_neg hb1]) rfl tK nK (by show LSub _ (if checkT (trOf cs hs) = 0 then _ else []); rw [if_neg hb1]; trivial)
 have hok := sq3 (Classical.not_not.1 hb1); have h6 : cs.length ≤ 6 := hok.c6; have h6h := hok.h6; rw [bA] at h6h; have hcl : ∀ i, i < cs.length → ClsOK cs i := hok.c; refine j6 (i8 (d9 ?_)); refine B8 rfl E8 E6 rfl mB (by rfl) ?_; refine v9 _ rfl rfl (fun _ => aq6 ..) (J5 rfl rfl fun gB_1 => ?_); refine c7 rfl (d8 (i7 (d9 ?_))); refine a9 ⟨_, 0, none⟩ rfl rfl S7 rfl (c8 rfl R0 rfl (m3 mB rfl) (l7 rfl J1 rfl ?_)); refine b8 rfl (d8 (j8 ?_)); refine y8 (β := Nat × OutC × Hp) ⟨fun x => x.1 ≤ cs.length ∧ Grow iJ 1 x.2.1.1 x.1 x.2.1.2 (rows (masksN cs x.1)) x.2.2, fun x => [(1, .pointer (d6 gB)), (5, .pointer (d6 gB_1)), (20, .slice A cs.length ca), (21, int cs.length), (22, int x.1)], fun x => (gB_1, .cells #[.slice A cs.length ca, .slice B hs.length cb, .slice x.2.1.1 x.1 x.2.1.2, .slice none 0 0] qM (0, 0)) :: (x.2.2 ++ [(gB, .cells #[.slice A cs.length ca, .slice B hs.length cb] B7 (0, 0))]), fun _ => [Row A (rows cs), RowsF B hs Hd.row]⟩ (fun x => cs.length - x.1) (0, (none, 0), []) ⟨Nat.zero_le _, Grow.nil _ _⟩ mC (List.Sublist.refl _) mC fun x hx => ?_; obtain ⟨k, ⟨oa, oc⟩, og⟩ := x; obtain ⟨hk, hG⟩ := hx; simp only at hk hG; refine d9 (C4 rfl rfl rfl (d8 (i7 ?_))); refine m6 rfl (fun hb2 => ?_) (fun hb2 => ?_)
 ·have hk2 : k < cs.length := by omega
  have hck := hcl k hk2; have hlo := hck.lo; have hhi := hck.hi; refine j6 (i8 (i7 (j8 (d9 (b8 rfl ?_))))); refine r8 (α := Cl) cs k rfl J1 L6 rfl rfl rfl mB rfl hk2 (by decide) (I0 rfl iL L6 rfl rfl (H5 mB (K2 (by omega))) (B3 rfl (fun _ => vI _) fun gA => c7 rfl (t6 rfl rfl gP L6 (by rfl) (by rfl) ?_))); refine k6 (b8 rfl ?_); refine j5 rA rfl rfl (qJ 0 k (by decide) (by omega)) p6 tK fun _ _ => ?_; refine c7 rfl (d8 ?_); refine kE ⟨fun _ : Unit => True, fun _ => [(1, .pointer (d6 gB)), (5, .pointer (d6 gB_1)), (20, .slice A cs.length ca), (21, int cs.length), (22, int k), (8, u8 (maskOf (pathT cs (k : Int))))], fun _ => (gB_1, .cells #[.slice A cs.length ca, .slice B hs.length cb, .slice oa k oc, .slice none 0 0] qM (0, 0)) :: (og ++ [(gB, .cells #[.slice A cs.length ca, .slice B hs.length cb] B7 (0, 0))]), fun _ => [Row A (rows cs), RowsF B hs Hd.row]⟩ ?_ ?_
  ·skip
   refine d9 (a9 ⟨_, 1, none⟩ rfl rfl aN rfl (c8 rfl b9 rfl (m3 mB rfl) ?_)); refine aX rfl rfl rfl (d8 ?_); refine m6 rfl (fun hb3 => ?_) (fun hb3 => ?_)
   ·obtain ⟨gC, cur, e1, e2, hnc, hcm, hcs, hct, _⟩ := hG.open_ (by omega); subst e1; subst e2
    have hcell : cur[0 + (cs.getD k default).2.toNat * 1]? = some (u8 (maskOf (pathT cs (cs.getD k default).2))) := by
      have h1 : (rows (masksN cs k))[(cs.getD k default).2.toNat * 1]? = some (u8 (maskOf (pathT cs (cs.getD k default).2))) := j9 (by rw [mx4]; omega) (by rw [tz7 (by omega), Int.toNat_of_nonneg hb3]; rfl); rw [← hct, List.getElem?_take, if_pos (by omega)] at h1; rw [Nat.zero_add, ← Array.getElem?_toList]; exact h1
    refine J0 9 mixed (by decide) (by decide) rfl rfl (u4 rfl (u4 rfl (k7 (fun w1 => r9 rfl rfl (q_z rfl)) (k7 (fun w1 => a9 ⟨_, 2, none⟩ rfl rfl dA rfl (q_z rfl)) (k7 (fun w1 => c8 rfl dP rfl (l4 mB rfl) (q_z rfl)) (k7 (fun w1 => a9 ⟨_, 1, none⟩ rfl rfl aN rfl (q_z rfl)) (k7 (fun w1 => c8 rfl b9 rfl (l4 mB rfl) (q_z rfl)) (k7 (fun w1 => B9 (cs.getD k default).2.toNat _ rfl wX zG rfl rfl (Int.toNat_of_nonneg hb3).symm (by omega) rfl (q_z rfl)) (k7 (fun w1 => c8 rfl vX rfl (l4 mB hcell) (q_z rfl)) ?_))))))))); refine E1 ⟨rfl, ?_⟩; refine r_or8 rfl rfl rfl (by rw [Nat.zero_or]; exact (Nat.pow_lt_pow_right (by omega) (by omega) : 2 ^ k < 2 ^ 8)) (tz9 h6 hcl (by omega)) ?_; refine c7 rfl (j4 ?_); exact P5 _ () tK ⟨rfl, rfl, rfl, rfl, rfl, congrArg (fun b => some (u8 b)) (by rw [Nat.zero_or]; exact (mx5 h6 hcl hk2).symm), tK⟩ (List.sublist_cons_self _ _) mC
   refine j6 ?_; exact P5 _ () tK ⟨rfl, rfl, rfl, rfl, rfl, congrArg (fun b => some (u8 b)) (by rw [mx5 h6 hcl hk2, wq0 (by omega), Nat.or_zero, Nat.zero_or]), tK⟩ (List.sublist_cons_self _ _) mC
  refine fun _ _ => ?_; refine j0 (b8 rfl (b8 rfl (r9 rfl rfl ?_))); refine a9 ⟨_, 2, none⟩ rfl rfl dA rfl (c8 rfl dP rfl (m3 mB rfl) (b8 rfl (p7 _ rfl rfl (fun _ => rX ..) fun gS => E0 (rows [maskOf (pathT cs (k : Int))]) (List.prefix_refl _) ?_))); refine M2 (k + 1) (rows (masksN cs k ++ [maskOf (pathT cs (k : Int))])) vW rfl rfl rfl hG (pmB _ _ _) (Src.row (news := rows [maskOf (pathT cs (k : Int))]) (m := 1) m0 rfl (M1 _) (by decide)) rfl (C9 _ _).symm (by unfold maxLen; omega) (by omega) fun A' c' og' hG' => ?_; refine r9 rfl rfl (a9 ⟨_, 2, none⟩ rfl rfl dA rfl (z8 rfl rfl (pmA _ _ _) vR (by rfl) (by rfl) ?_)); refine j4 (w9 (i8 (j0 ?_))); refine v8 _ rfl rfl rfl rfl r6 ?_; refine b8 rfl (j4 ?_); exact again _ (k + 1, (A', c'), og') ⟨by show k + 1 ≤ cs.length; omega, by show Grow _ _ _ _ _ (rows (masksN cs (k + 1))) _; rw [rx7]; exact hG'⟩ (C8 (by omega)) mC (List.Sublist.refl _) mC
 have hk2 : k = cs.length := by omega
 subst hk2; refine w8 (E4 (w6 (i8 (dj7 ?_)))); refine pZ (pmB _ _ _) (yA hG ?_); clear hG; refine j0 (a9 ⟨_, 1, none⟩ rfl rfl D3 rfl (c8 rfl D4 rfl (m3 mB rfl) (l7 rfl B4 rfl ?_))); refine b8 rfl (d8 (j8 (mx9 mB ?_))); refine y8 (β := Nat × OutC × Hp) ⟨fun x => x.1 ≤ hs.length ∧ Grow Z9 1 x.2.1.1 x.1 x.2.1.2 (rows (kindsN hs x.1)) x.2.2, fun x => [(5, .pointer (d6 gB_1)), (54, .slice B hs.length cb), (55, int hs.length), (56, int x.1)], fun x => (gB_1, .cells #[.slice A cs.length ca, .slice B hs.length cb, .slice oa cs.length oc, .slice x.2.1.1 x.1 x.2.1.2] qM (0, 0)) :: x.2.2, fun _ => [Row oa (rows (masksN cs cs.length)), Row A (rows cs), RowsF B hs Hd.row, Row B (rows hs)]⟩ (fun x => hs.length - x.1) (0, (none, 0), []) ⟨Nat.zero_le _, Grow.nil _ _⟩ mC (nK.cons_cons _) mC fun x hx => ?_; obtain ⟨k, ⟨ka, kc⟩, og2⟩ := x; obtain ⟨hk, hG⟩ := hx; simp only at hk hG; refine d9 (C4 rfl rfl rfl (d8 (i7 ?_))); refine m6 rfl (fun hb4 => ?_) (fun hb4 => ?_)
 ·have hk2 : k < hs.length := by omega
  refine j6 (i8 (i7 (j8 (d9 ?_)))); refine r8 (α := Hd) hs k rfl B4 J8 rfl rfl rfl mB rfl hk2 (by decide) (I0 rfl kA J8 rfl rfl (H5 mB (K2 (by omega))) (B3 rfl (fun _ => xJ _) fun gA => t6 rfl rfl gP J8 (by rfl) (by rfl) ?_)); refine d8 (j8 (i7 ?_)); refine kz7 (rows [hs.getD k default]) ⟨[], List.append_nil _⟩ (j0 (a9 ⟨_, 2, none⟩ rfl rfl O9 rfl (c8 rfl b9 rfl (u7 mB rfl) ?_))); refine P9 rfl rfl rfl (c7 rfl (d8 ?_)); refine m6 rfl (fun hb5 => ?_) (fun hb5 => ?_)
  ·refine Y4 (og2) ([_]) (List.perm_append_comm (l₁ := [_])) 11 [10] mixed (by decide) (by decide) (by decide) rfl rfl rfl (u4 rfl (u4 rfl (k7 (fun w1 => r9 rfl rfl (q_z rfl)) (k7 (fun w1 => a9 ⟨_, 3, none⟩ rfl rfl I5 rfl (q_z rfl)) (k7 (fun w1 => c8 rfl M0 rfl (l4 mB rfl) (q_z rfl)) (k7 (fun w1 => a9 ⟨_, 2, none⟩ rfl rfl O9 rfl (q_z rfl)) (k7 (fun w1 => c8 rfl b9 rfl (u7 mB rfl) (q_z rfl)) (k7 (fun w1 => v9 _ rfl rfl (fun _ => vY ..) (q_z rfl)) (k7 (fun w1 => jR rfl ⟨_, underlying208, rfl⟩ rfl (q_z rfl)) ?_))))))))); refine U5 ⟨Nat, fun _ => True, fun g => .slice (d6 g) 1 1, fun g => [Row (d6 g) (rows [Kd.ptr (hs.getD k default).2.2.1])]⟩ rfl rfl rfl ?_ ?_
   ·intro w1; refine p7 _ rfl rfl (fun _ => aV ..) fun gS => j4 (H6 (rows [Kd.ptr (hs.getD k default).2.2.1]) (List.prefix_refl _) ?_); exact I9 gS tK rfl ⟨m0, tK⟩
   refine kY ⟨OutC × Hp, fun x => Grow Z9 1 x.1.1 (k + 1) x.1.2 (rows (kindsN hs k ++ [Kd.ptr (hs.getD k default).2.2.1])) x.2, fun x => .slice x.1.1 (k + 1) x.1.2, fun _ => [], fun x => x.2⟩ rfl rfl rfl ?_ ?_
   ·intro g9 _; intro w1; refine M2 (k + 1) (rows (kindsN hs k ++ [Kd.ptr (hs.getD k default).2.2.1])) dB rfl rfl rfl hG (hp' := []) (by rw [List.append_nil]) (Src.row (news := rows [Kd.ptr (hs.getD k default).2.2.1]) (m := 1) m0 rfl (M1 _) (by decide)) rfl (C9 _ _).symm (by unfold maxLen; omega) (by omega) fun A' c' og' hG' => ?_; refine j4 ?_; exact Q3 ((A', c'), og') hG' (fun _ => rfl) (by rw [List.append_nil]; exact .refl _) tK
   refine E1 ⟨rfl, ?_⟩; intro g9 _ x hx; obtain ⟨⟨xa, xc⟩, xo⟩ := x; simp only at hx; refine r9 rfl rfl (a9 ⟨_, 3, none⟩ rfl rfl I5 rfl (z8 rfl rfl (pmC _ _) cZ (by rfl) (by rfl) ?_)); refine j4 (w9 (w9 (i8 (j0 ?_)))); refine v8 _ rfl rfl rfl rfl r6 ?_; refine b8 rfl (j4 ?_); exact again _ (k + 1, (xa, xc), xo) ⟨by show k + 1 ≤ hs.length; omega, by show Grow _ _ _ _ _ (rows (kindsN hs (k + 1))) _; rw [az9 hk2, kindOf, if_pos hb5]; exact hx⟩ (C8 (by omega)) mC (List.Sublist.refl _) mC
  refine d9 (a9 ⟨_, 1, none⟩ rfl rfl P0 rfl (c8 rfl b9 rfl (u7 mB rfl) ?_)); refine P9 rfl rfl rfl (c7 rfl (d8 ?_)); refine m6 rfl (fun hb6 => ?_) (fun hb6 => ?_)
  ·refine Y4 (og2) ([_]) (List.perm_append_comm (l₁ := [_])) 13 [12] mixed (by decide) (by decide) (by decide) rfl rfl rfl (u4 rfl (u4 rfl (k7 (fun w1 => r9 rfl rfl (q_z rfl)) (k7 (fun w1 => a9 ⟨_, 3, none⟩ rfl rfl I5 rfl (q_z rfl)) (k7 (fun w1 => c8 rfl M0 rfl (l4 mB rfl) (q_z rfl)) (k7 (fun w1 => a9 ⟨_, 1, none⟩ rfl rfl P0 rfl (q_z rfl)) (k7 (fun w1 => c8 rfl b9 rfl (u7 mB rfl) (q_z rfl)) (k7 (fun w1 => a9 ⟨_, 3, none⟩ rfl rfl O8 rfl (q_z rfl)) (k7 (fun w1 => c8 rfl k8 rfl (u7 mB rfl) (q_z rfl)) (k7 (fun w1 => v9 _ rfl rfl (fun _ => rY ..) (q_z rfl)) (k7 (fun w1 => jR rfl ⟨_, underlying210, rfl⟩ rfl (q_z rfl)) ?_))))))))))); refine U5 ⟨Nat, fun _ => True, fun g => .slice (d6 g) 1 1, fun g => [Row (d6 g) (rows [Kd.art (hs.getD k default).2.1 (hs.getD k default).2.2.2])]⟩ rfl rfl rfl ?_ ?_
   ·intro w1; refine p7 _ rfl rfl (fun _ => aV ..) fun gS => j4 (H6 (rows [Kd.art (hs.getD k default).2.1 (hs.getD k default).2.2.2]) (List.prefix_refl _) ?_); exact I9 gS tK rfl ⟨m0, tK⟩
   refine kY ⟨OutC × Hp, fun x => Grow Z9 1 x.1.1 (k + 1) x.1.2 (rows (kindsN hs k ++ [Kd.art (hs.getD k default).2.1 (hs.getD k default).2.2.2])) x.2, fun x => .slice x.1.1 (k + 1) x.1.2, fun _ => [], fun x => x.2⟩ rfl rfl rfl ?_ ?_
   ·intro g9 _; intro w1; refine M2 (k + 1) (rows (kindsN hs k ++ [Kd.art (hs.getD k default).2.1 (hs.getD k default).2.2.2])) dB rfl rfl rfl hG (hp' := []) (by rw [List.append_nil]) (Src.row (news := rows [Kd.art (hs.getD k default).2.1 (hs.getD k default).2.2.2]) (m := 1) m0 rfl (M1 _) (by decide)) rfl (C9 _ _).symm (by unfold maxLen; omega) (by omega) fun A' c' og' hG' => ?_; refine j4 ?_; exact Q3 ((A', c'), og') hG' (fun _ => rfl) (by rw [List.append_nil]; exact .refl _) tK
   refine E1 ⟨rfl, ?_⟩; intro g9 _ x hx; obtain ⟨⟨xa, xc⟩, xo⟩ := x; simp only at hx; refine r9 rfl rfl (a9 ⟨_, 3, none⟩ rfl rfl I5 rfl (z8 rfl rfl (pmC _ _) cZ (by rfl) (by rfl) ?_)); refine j4 (w9 (w9 (i8 (j0 ?_)))); refine v8 _ rfl rfl rfl rfl r6 ?_; refine b8 rfl (j4 ?_); exact again _ (k + 1, (xa, xc), xo) ⟨by show k + 1 ≤ hs.length; omega, by show Grow _ _ _ _ _ (rows (kindsN hs (k + 1))) _; rw [az9 hk2, kindOf, if_neg hb5, if_pos hb6]; exact hx⟩ (C8 (by omega)) mC (List.Sublist.refl _) mC
  refine Y4 (og2) ([_]) (List.perm_append_comm (l₁ := [_])) 11 [10] mixed (by decide) (by decide) (by decide) rfl rfl rfl (u4 rfl (u4 rfl (k7 (fun w1 => r9 rfl rfl (q_z rfl)) (k7 (fun w1 => a9 ⟨_, 3, none⟩ rfl rfl I5 rfl (q_z rfl)) (k7 (fun w1 => c8 rfl M0 rfl (l4 mB rfl) (q_z rfl)) (k7 (fun w1 => a9 ⟨_, 3, none⟩ rfl rfl O8 rfl (q_z rfl)) (k7 (fun w1 => c8 rfl k8 rfl (u7 mB rfl) (q_z rfl)) (k7 (fun w1 => v9 _ rfl rfl (fun _ => zM ..) (q_z rfl)) (k7 (fun w1 => jR rfl ⟨_, underlying212, rfl⟩ rfl (q_z rfl)) ?_))))))))); refine U5 ⟨Nat, fun _ => True, fun g => .slice (d6 g) 1 1, fun g => [Row (d6 g) (rows [Kd.idx (hs.getD k default).2.2.2])]⟩ rfl rfl rfl ?_ ?_
  ·intro w1; refine p7 _ rfl rfl (fun _ => aV ..) fun gS => j4 (H6 (rows [Kd.idx (hs.getD k default).2.2.2]) (List.prefix_refl _) ?_); exact I9 gS tK rfl ⟨m0, tK⟩
  refine kY ⟨OutC × Hp, fun x => Grow Z9 1 x.1.1 (k + 1) x.1.2 (rows (kindsN hs k ++ [Kd.idx (hs.getD k default).2.2.2])) x.2, fun x => .slice x.1.1 (k + 1) x.1.2, fun _ => [], fun x => x.2⟩ rfl rfl rfl ?_ ?_
  ·intro g9 _; intro w1; refine M2 (k + 1) (rows (kindsN hs k ++ [Kd.idx (hs.getD k default).2.2.2])) dB rfl rfl rfl hG (hp' := []) (by rw [List.append_nil]) (Src.row (news := rows [Kd.idx (hs.getD k default).2.2.2]) (m := 1) m0 rfl (M1 _) (by decide)) rfl (C9 _ _).symm (by unfold maxLen; omega) (by omega) fun A' c' og' hG' => ?_; refine j4 ?_; exact Q3 ((A', c'), og') hG' (fun _ => rfl) (by rw [List.append_nil]; exact .refl _) tK
  refine E1 ⟨rfl, ?_⟩; intro g9 _ x hx; obtain ⟨⟨xa, xc⟩, xo⟩ := x; simp only at hx; refine r9 rfl rfl (a9 ⟨_, 3, none⟩ rfl rfl I5 rfl (z8 rfl rfl (pmC _ _) cZ (by rfl) (by rfl) ?_)); refine j4 (w9 (w9 (i8 (j0 ?_)))); refine v8 _ rfl rfl rfl rfl r6 ?_; refine b8 rfl (j4 ?_); exact again _ (k + 1, (xa, xc), xo) ⟨by show k + 1 ≤ hs.length; omega, by show Grow _ _ _ _ _ (rows (kindsN hs (k + 1))) _; rw [az9 hk2, kindOf, if_neg hb5, if_neg hb6]; exact hx⟩ (C8 (by omega)) mC (List.Sublist.refl _) mC
 have hk2 : k = hs.length := by omega
 subst hk2; refine w8 (E4 (w6 (i8 (d9 (b8 rfl (c7 rfl (c7 rfl (d8 ?_)))))))); refine k5 ?_; have h0 := Classical.not_not.1 hb1; refine H6 [.slice A cs.length ca, .slice B hs.length cb, .slice oa cs.length oc, .slice ka hs.length kc] (List.prefix_refl _) (gz4 hG ?_); exact ret2 (gB_1, (oa, oc), (ka, kc)) rfl rfl rfl (by show Value.tuple #[if checkT (trOf cs hs) = 0 then _ else _, int (checkT (trOf cs hs))] = _; rw [if_pos h0, h0]) rfl tK nK (by show LSub _ (if checkT (trOf cs hs) = 0 then _ else []); rw [if_pos h0]; exact mC)
def leastE (t : Tr) (a b : Int) : Int × Int := if ¬ checkT t = 0 then (0, checkT t) else if ¬ ((0 ≤ a ∧ a ≤ (t.cs.length : Int) - 1) ∧ (0 ≤ b ∧ b ≤ (t.cs.length : Int) - 1)) then (0, 3) else (leastT t a b, 0)
def Kd.isP : Kd → Bool | .ptr _ => true | _ => false
def Kd.isA : Kd → Bool | .art _ _ => true | _ => false
def Kd.see : Kd → Int | .ptr s => s | _ => 0
def Kd.cls : Kd → Int | .art c _ => c | _ => 0
def Kd.als : Kd → Sl Int | .art _ a => a | _ => ⟨none, 0, []⟩
section
variable {c : Cx} {Q : Exit → Act → World → Prop} {fr : Fr} {hp : Hp} {L : List Fact} {ops : Array Oper} {rest : List Oper} {d : Tmp} {ty : TypeId} {pos : String} {af : Array Edge}
end
theorem wq8 {hs : List Hd} {i : Nat} (h : i < hs.length) : (kindsN hs hs.length).getD i default = kindOf (hs.getD i default) := by
  rw [D7 (by rw [zB (Nat.le_refl _)]; exact h), D7 h]
  simp [kindsN]
abbrev folR (o : Option (Int × Int)) : Value := .tuple #[int (o.getD (0, 0)).1, int (o.getD (0, 0)).2, .bool o.isSome]
def SeesOK (hs : List Hd) : Prop := ∀ i, i < hs.length → -1 ≤ (hs.getD i default).2.2.1 ∧ (hs.getD i default).2.2.1 < (hs.length : Int)
def askE (t : Tr) (l : List Int) : Int := if ¬ checkT t = 0 then checkT t else if l.all (fun x => decide (0 ≤ x ∧ x ≤ (t.hs.length : Int) - 1)) then 0 else 3
theorem ask_bad {t : Tr} {l : List Int} {k : Nat} (h0 : checkT t = 0) (hk : k < l.length) (h : ¬ (0 ≤ l.getD k default ∧ l.getD k default ≤ (t.hs.length : Int) - 1)) : askE t l = 3 := by
  rw [askE, if_neg (not_not_intro h0), if_neg]; intro e; exact h (of_decide_eq_true (List.all_eq_true.1 e _ (A3 hk)))
theorem ask_ok {t : Tr} {l : List Int} (h0 : checkT t = 0) (h : ∀ i, i < l.length → 0 ≤ l.getD i default ∧ l.getD i default ≤ (t.hs.length : Int) - 1) : askE t l = 0 := by
  rw [askE, if_neg (not_not_intro h0), if_pos]; rw [List.all_eq_true]; intro x hx; obtain ⟨i, hi, rfl⟩ := List.getElem_of_mem hx; rw [decide_eq_true_eq, ← D7 hi]; exact h i hi
theorem nj3 {t : Tr} {l : List Int} (h : askE t l = 0) : checkT t = 0 := by
  unfold askE at h
  split at h
  · exact h
  rename_i h1; exact Classical.not_not.1 h1
theorem ask_in {t : Tr} {l : List Int} (h : askE t l = 0) {x : Int} (hx : x ∈ l) : 0 ≤ x ∧ x ≤ (t.hs.length : Int) - 1 := by
  have h0 := nj3 h; rw [askE, if_neg (not_not_intro h0)] at h
  split at h
  · rename_i h1; exact of_decide_eq_true (List.all_eq_true.1 h1 x hx)
  omega
set_option maxHeartbeats 1000000 in
theorem iz9 {C : Option Addr} {cc : Nat} {A B : Option Addr} {ca cb : Nat} (cs : List Cl) (hs : List Hd) (l : List Int) (hca : cs.length ≤ ca) (hcb : hs.length ≤ cb) (ha : ∀ h ∈ hs, h.2.2.2.l.length ≤ 1000000) (hl : l.length ≤ 1000000) : Meets prog uN [.agg #[.slice A cs.length ca, .slice B hs.length cb], .slice C l.length cc] { LI := [Row A (rows cs), RowsF B hs Hd.row, Row C (rows l)], val := fun x : Nat × OutC × OutC => .tuple #[if askE (trOf cs hs) l = 0 then .pointer (some ⟨x.1, 0, none⟩) else .pointer none, int (askE (trOf cs hs) l)], LO := fun x => if askE (trOf cs hs) l = 0 then beginL cs hs A ca B cb x else [] } := by
 refine j3 lj0 rfl t8 fun w0 => d9 (J5 rfl rfl fun gB => ?_); refine c7 rfl (c7 rfl (d8 ?_)); refine kE ⟨fun _ : Nat × OutC × OutC => True, fun x => [(1, .slice C l.length cc), (2, .pointer (d6 gB)), (6, if checkT (trOf cs hs) = 0 then .pointer (some ⟨x.1, 0, none⟩) else .pointer none), (7, int (checkT (trOf cs hs)))], fun _ => [(gB, .cells #[.slice A cs.length ca, .slice B hs.length cb] B7 (0, 0))], fun x => (if checkT (trOf cs hs) = 0 then beginL cs hs A ca B cb x else []) ++ [Row A (rows cs), RowsF B hs Hd.row, Row C (rows l)]⟩ ?_ ?_
 ·skip
  refine j0 (B8 rfl E8 E6 rfl mB (by rfl) ?_); refine j5 dq0 rfl rfl (bz6 cs hs hca hcb ha) p6 mC fun x _ => ?_; refine b8 rfl (m4 rfl rfl rfl (m4 rfl rfl rfl (c7 rfl (c7 rfl (j4 ?_))))); exact P5 _ x tK mC (List.Sublist.refl _) (LSub.of_mem fun F h => h)
 refine fun x _ => ?_
 dsimp only
 refine i7 (d9 (b8 rfl (P9 rfl rfl rfl (d8 ?_)))); refine m6 rfl (fun hb1 => ?_) (fun hb1 => ?_)
 ·have hE : askE (trOf cs hs) l = checkT (trOf cs hs) := by rw [askE, if_pos hb1]
  have hnz : ¬ askE (trOf cs hs) l = 0 := by rw [hE]; exact hb1
  refine d9 (b8 rfl (c7 rfl (c7 rfl (d8 (J4 ?_))))); exact ret2 (0, (none, 0), (none, 0)) rfl rfl rfl (by show Value.tuple #[if askE (trOf cs hs) l = 0 then _ else _, int (askE (trOf cs hs) l)] = _; rw [if_neg hnz, hE]) rfl tK nK (by show LSub _ (if askE (trOf cs hs) l = 0 then _ else []); rw [if_neg hnz]; trivial)
 have h0 := Classical.not_not.1 hb1; rw [if_pos h0, if_pos h0]; have hln := bA cs hs; have hok := sq3 h0; have h6 : cs.length ≤ 6 := hok.c6; have h6h := hok.h6; rw [bA] at h6h; have hcl : ∀ i, i < cs.length → ClsOK cs i := hok.c; obtain ⟨gl, ⟨oa, oc⟩, ⟨ka, kc⟩⟩ := x; show HC _ _ _ _ _ [Row (d6 gl) [.slice A cs.length ca, .slice B hs.length cb, .slice oa cs.length oc, .slice ka hs.length kc], Row oa (rows (masksN cs cs.length)), Row ka (rows (kindsN hs hs.length)), Row A (rows cs), RowsF B hs Hd.row, Row C (rows l)]; refine j6 (i8 (i7 (d9 (b8 rfl ?_)))); refine l7 rfl l8 rfl ?_; refine b8 rfl (d8 (j8 ?_)); refine y8 (β := Nat) ⟨fun k => k ≤ l.length ∧ ∀ i, i < k → 0 ≤ l.getD i default ∧ l.getD i default ≤ (hs.length : Int) - 1, fun k => [(2, .pointer (d6 gB)), (6, .pointer (d6 gl)), (18, .slice C l.length cc), (19, int l.length), (20, int k)], fun _ => [(gB, .cells #[.slice A cs.length ca, .slice B hs.length cb] B7 (0, 0))], fun _ => [Row (d6 gl) [.slice A cs.length ca, .slice B hs.length cb, .slice oa cs.length oc, .slice ka hs.length kc], Row oa (rows (masksN cs cs.length)), Row ka (rows (kindsN hs hs.length)), Row A (rows cs), RowsF B hs Hd.row, Row C (rows l)]⟩ (fun k => l.length - k) 0 ⟨Nat.zero_le _, fun i hi => by omega⟩ mC (List.Sublist.refl _) mC fun k hk => ?_; obtain ⟨hk, ht⟩ := hk; refine d9 (C4 rfl rfl rfl (d8 (i7 ?_))); refine m6 rfl (fun hb2 => ?_) (fun hb2 => ?_)
 ·have hk2 : k < l.length := by omega
  refine j6 (i8 (i7 (j8 (d9 ?_)))); refine r8 (α := Int) _ _ rfl l8 m9 rfl rfl rfl mB rfl (by omega) (by decide) (c8 rfl b9 rfl (k9 mB (j9 (by omega) rfl)) ?_); refine c7 rfl (k6 (b8 rfl ?_)); refine a9 ⟨_, 1, none⟩ rfl rfl D3 rfl (c8 rfl D4 rfl (m3 mB rfl) (l7 rfl B4 rfl (W9 _ rfl rfl rfl rfl r6 (j5 R4 rfl rfl (Q8 _ _ _) p6 tK fun _ _ => ?_)))); refine K6 rfl rfl (d8 ?_); refine D0 rfl (fun hb3 => ?_) (fun hb3 => ?_)
  ·have hE : askE (trOf cs hs) l = 3 := ask_bad h0 hk2 (by rw [hln]; exact nbw hb3); have hnz : ¬ askE (trOf cs hs) l = 0 := by rw [hE]; decide
   refine d9 (c7 rfl (c7 rfl (d8 (k5 (G6 (C5 (G6 ?_))))))); exact ret2 (0, (none, 0), (none, 0)) rfl rfl rfl (by show Value.tuple #[if askE (trOf cs hs) l = 0 then _ else _, int (askE (trOf cs hs) l)] = _; rw [if_neg hnz, hE]) rfl tK nK (by show LSub _ (if askE (trOf cs hs) l = 0 then _ else []); rw [if_neg hnz]; trivial)
  refine j6 (w9 (i8 (j0 ?_))); refine v8 _ rfl rfl rfl rfl r6 ?_; refine b8 rfl (j4 ?_); have hin := bw hb3; exact again _ (k + 1) ⟨by omega, fun i hi => by rcases Nat.lt_or_ge i k with h | h; exact ht i h; rw [show i = k by omega]; exact hin⟩ (C8 (by omega)) mC (List.Sublist.refl _) mC
 have hk2 : k = l.length := by omega
 subst hk2; have hE : askE (trOf cs hs) l = 0 := ask_ok h0 (by rw [hln]; exact ht); refine w8 (E4 (w6 (i8 (d9 (b8 rfl (c7 rfl (c7 rfl (d8 ?_)))))))); refine k5 ?_; exact ret2 (gl, (oa, oc), (ka, kc)) rfl rfl rfl (by show Value.tuple #[if askE (trOf cs hs) l = 0 then _ else _, int (askE (trOf cs hs) l)] = _; rw [if_pos hE, hE]) rfl tK nK (by show LSub _ (if askE (trOf cs hs) l = 0 then _ else []); rw [if_pos hE]; exact mC)
def followE (t : Tr) (h : Int) : Int × Int × Int := if ¬ askE t [h] = 0 then (0, 0, askE t [h]) else if (followT t h).isSome = false then (0, 0, 9) else (((followT t h).getD (0, 0)).1, ((followT t h).getD (0, 0)).2, 0)
def MaySet (t : Tr) (b : Str) (k m : Nat) : Prop := m < 256 ∧ ∀ j, m.testBit j = (List.range k).any fun h => leadsB t b h j
def mayK (m k : Nat) : List Int := ((List.range k).filter fun i => m.testBit i).map fun i : Nat => (i : Int)
def mayE (t : Tr) (b : Str) : List Int × Int := if ¬ checkT t = 0 then ([], checkT t) else (mayT t b, 0)
def shortE (t : Tr) (h : Int) : Str × Int := if ¬ askE t [h] = 0 then ([], askE t [h]) else match shortT t h with | none => ([], 11) | some s => (s, 0)
def hitB (s : Str) (h : Hd) : Bool := decide (h.1 = s) && decide (¬ h.2.1 = -1)
def nameOf (cs : List Cl) (c : Int) : Str := (cs.getD c.toNat default).1
def dice (g : Nat) (A : Option Addr) (c : Nat) (nums : List Int) (s : Int × Int) : Nat × Obj := (g, .cells #[.slice A nums.length c, int s.1, .int .u64 s.2] wW (0, 0))
def DOK (nums : List Int) (s : Int × Int) : Prop := 0 ≤ s.1 ∧ s.1 ≤ nums.length ∧ 0 ≤ s.2 ∧ s.2 < 18446744073709551616
def diceCon {β : Type} (g : Nat) (A : Option Addr) (c : Nat) (nums : List Int) (s : Int × Int) (inv : β → Prop) (val : β → Value) (LO : β → List Fact) : Con ((Int × Int) × β) :=
  { hpI := [dice g A c nums s], LI := [Row A (rows nums)], inv := fun x => DOK nums x.1 ∧ inv x.2, val := fun x => val x.2, hpO := fun x => [dice g A c nums x.1], LO := fun x => LO x.2 }
theorem az7 {g : Nat} {A : Option Addr} {c : Nat} {nums : List Int} {s : Int × Int} (hn : nums.length ≤ 9223372036854775807) (hs : DOK nums s) :
    Meets prog kO [.pointer (d6 g)] (diceCon g A c nums s (fun z : Int => 0 ≤ z ∧ z < 18446744073709551616) (fun z => .int .u64 z) (fun _ => [])) := by
 obtain ⟨p, q⟩ := s; obtain ⟨h1, h2, h3, h4⟩ := hs; simp only at h1 h2 h3 h4; obtain ⟨pn, rfl⟩ := Int.eq_ofNat_of_zero_le h1; refine j3 dz0 rfl t8 fun w0 => ?_; refine d9 (c7 rfl (d8 (i7 ?_))); refine J0 11 mixed (by decide) (by decide) rfl rfl (u4 rfl (u4 rfl (k7 (fun w1 => r9 rfl rfl (q_z rfl)) (k7 (fun w1 => a9 ⟨_, 2, none⟩ rfl rfl y7 rfl (q_z rfl)) (k7 (fun w1 => c8 rfl P7 rfl (l4 mB rfl) (q_z rfl)) (u4 rfl (k7 (fun w1 => r9 rfl rfl (q_z rfl)) (k7 (fun w1 => a9 ⟨_, 2, none⟩ rfl rfl y7 rfl (q_z rfl)) (k7 (fun w1 => c8 rfl P7 rfl (l4 mB rfl) (q_z rfl)) (k7 (fun w1 => q8 _ rfl rfl rfl (fun _ => rfl) (fun _ => rfl) (q_z rfl)) (k7 (fun w1 => q8 _ rfl rfl rfl (fun _ => rfl) (fun _ => rfl) (q_z rfl)) ?_))))))))))); refine E1 ⟨rfl, ?_⟩; refine r9 rfl rfl (a9 ⟨_, 2, none⟩ rfl rfl y7 rfl (z8 rfl rfl gP lS (by rfl) (by rfl) ?_)); refine d8 (i7 ?_); refine J0 11 mixed (by decide) (by decide) rfl rfl (u4 rfl (u4 rfl (k7 (fun w1 => r9 rfl rfl (q_z rfl)) (k7 (fun w1 => a9 ⟨_, 2, none⟩ rfl rfl y7 rfl (q_z rfl)) (k7 (fun w1 => c8 rfl P7 rfl (l4 mB rfl) (q_z rfl)) (u4 rfl (k7 (fun w1 => r9 rfl rfl (q_z rfl)) (k7 (fun w1 => a9 ⟨_, 2, none⟩ rfl rfl y7 rfl (q_z rfl)) (k7 (fun w1 => c8 rfl P7 rfl (l4 mB rfl) (q_z rfl)) (k7 (fun w1 => q8 _ rfl rfl rfl (fun _ => rfl) (fun _ => rfl) (q_z rfl)) (k7 (fun w1 => q8 _ rfl rfl rfl (fun _ => rfl) (fun _ => rfl) (q_z rfl)) ?_))))))))))); refine E1 ⟨rfl, ?_⟩; refine r9 rfl rfl (a9 ⟨_, 2, none⟩ rfl rfl y7 rfl (z8 rfl rfl gP lS (by rfl) (by rfl) ?_)); refine d8 (i7 ?_); refine J0 11 mixed (by decide) (by decide) rfl rfl (u4 rfl (u4 rfl (k7 (fun w1 => r9 rfl rfl (q_z rfl)) (k7 (fun w1 => a9 ⟨_, 2, none⟩ rfl rfl y7 rfl (q_z rfl)) (k7 (fun w1 => c8 rfl P7 rfl (l4 mB rfl) (q_z rfl)) (u4 rfl (k7 (fun w1 => r9 rfl rfl (q_z rfl)) (k7 (fun w1 => a9 ⟨_, 2, none⟩ rfl rfl y7 rfl (q_z rfl)) (k7 (fun w1 => c8 rfl P7 rfl (l4 mB rfl) (q_z rfl)) (k7 (fun w1 => q8 _ rfl rfl rfl (fun _ => rfl) (fun _ => rfl) (q_z rfl)) (k7 (fun w1 => q8 _ rfl rfl rfl (fun _ => rfl) (fun _ => rfl) (q_z rfl)) ?_))))))))))); refine E1 ⟨rfl, ?_⟩; refine r9 rfl rfl (a9 ⟨_, 2, none⟩ rfl rfl y7 rfl (z8 rfl rfl gP lS (by rfl) (by rfl) ?_)); refine d8 (dj7 ?_); refine J0 9 mixed (by decide) (by decide) rfl rfl (u4 rfl (k7 (fun w1 => r9 rfl rfl (q_z rfl)) (k7 (fun w1 => a9 ⟨_, 1, none⟩ rfl rfl O1 rfl (q_z rfl)) (k7 (fun w1 => c8 rfl b9 rfl (l4 mB rfl) (q_z rfl)) (u4 rfl (k7 (fun w1 => r9 rfl rfl (q_z rfl)) (k7 (fun w1 => a9 ⟨_, 0, none⟩ rfl rfl bV rfl (q_z rfl)) (k7 (fun w1 => c8 rfl k8 rfl (l4 mB rfl) (q_z rfl)) (k7 (fun w1 => l7 rfl l8 rfl (q_z rfl)) ?_))))))))); refine E1 ⟨rfl, ?_⟩; refine C4 rfl rfl rfl (d8 ?_); refine m6 rfl (fun hb1 => ?_) (fun hb1 => ?_)
 ·refine i7 (J0 18 mixed (by decide) (by decide) rfl rfl (u4 rfl (u4 rfl (k7 (fun w1 => r9 rfl rfl (q_z rfl)) (k7 (fun w1 => a9 ⟨_, 2, none⟩ rfl rfl y7 rfl (q_z rfl)) (k7 (fun w1 => c8 rfl P7 rfl (l4 mB rfl) (q_z rfl)) (u4 rfl (k7 (fun w1 => r9 rfl rfl (q_z rfl)) (k7 (fun w1 => a9 ⟨_, 0, none⟩ rfl rfl bV rfl (q_z rfl)) (k7 (fun w1 => c8 rfl k8 rfl (l4 mB rfl) (q_z rfl)) (u4 rfl ?_))))))))))); refine k7 (fun w1 => r9 rfl rfl (q_z rfl)) (k7 (fun w1 => a9 ⟨_, 1, none⟩ rfl rfl O1 rfl (q_z rfl)) (k7 (fun w1 => c8 rfl b9 rfl (l4 mB rfl) (q_z rfl)) (k7 (fun w1 => r8 (α := Int) _ pn rfl l8 m9 rfl rfl rfl m1 rfl (by omega) (by decide) (q_z rfl)) (k7 (fun w1 => c8 rfl b9 rfl (k9 mB (j9 (by omega) rfl)) (q_z rfl)) (k7 (fun w1 => aH _ rfl X8 mE rfl rfl (q_z rfl)) (k7 (fun w1 => q8 _ rfl rfl rfl (fun _ => rfl) (fun _ => rfl) (q_z rfl)) (k7 (fun w1 => q8 _ rfl rfl rfl (fun _ => rfl) (fun _ => rfl) (q_z rfl)) ?_))))))); refine E1 ⟨rfl, ?_⟩; refine r9 rfl rfl (a9 ⟨_, 2, none⟩ rfl rfl y7 rfl (z8 rfl rfl gP lS (by rfl) (by rfl) ?_)); refine d8 (j0 (b8 rfl (r9 rfl rfl ?_))); refine a9 ⟨_, 1, none⟩ rfl rfl O1 rfl (c8 rfl b9 rfl (m3 mB rfl) (v8 _ rfl rfl rfl rfl r6 (r9 rfl rfl (a9 ⟨_, 1, none⟩ rfl rfl O1 rfl (z8 rfl rfl gP m9 (by rfl) (by rfl) ?_))))); refine k6 (b8 rfl (r9 rfl rfl ?_)); refine a9 ⟨_, 2, none⟩ rfl rfl y7 rfl (c8 rfl P7 rfl (m3 mB rfl) ?_); refine c7 rfl (k6 (b8 rfl (b8 rfl ?_))); refine q8 _ rfl rfl rfl (fun _ => rfl) (fun _ => rfl) (q8 _ rfl rfl rfl (fun _ => rfl) (fun _ => rfl) (q8 _ rfl rfl rfl (fun _ => rfl) (fun _ => rfl) ?_)); refine c7 rfl (k6 (b8 rfl (b8 rfl ?_))); refine q8 _ rfl rfl rfl (fun _ => rfl) (fun _ => rfl) (q8 _ rfl rfl rfl (fun _ => rfl) (fun _ => rfl) ?_); refine c7 rfl (d8 (k5 ?_)); exact ret1 ((_, _), _) rfl rfl rfl ⟨⟨by simp only; omega, by simp only; omega, (wrapU _).1, (wrapU _).2⟩, wrapU _⟩ (.refl _) tK
 refine j6 (i8 (d9 (b8 rfl (r9 rfl rfl ?_)))); refine a9 ⟨_, 2, none⟩ rfl rfl y7 rfl (c8 rfl P7 rfl (m3 mB rfl) ?_); refine c7 rfl (k6 (b8 rfl (b8 rfl ?_))); refine q8 _ rfl rfl rfl (fun _ => rfl) (fun _ => rfl) (q8 _ rfl rfl rfl (fun _ => rfl) (fun _ => rfl) (q8 _ rfl rfl rfl (fun _ => rfl) (fun _ => rfl) ?_)); refine c7 rfl (k6 (b8 rfl (b8 rfl ?_))); refine q8 _ rfl rfl rfl (fun _ => rfl) (fun _ => rfl) (q8 _ rfl rfl rfl (fun _ => rfl) (fun _ => rfl) ?_); refine c7 rfl (d8 (k5 ?_)); exact ret1 ((_, _), _) rfl rfl rfl ⟨⟨by simp only; omega, by simp only; omega, (wrapU _).1, (wrapU _).2⟩, wrapU _⟩ (.refl _) tK
theorem tz6 {z n : Int} (hz : 0 ≤ z) (hn : 0 ≤ n) : 0 ≤ z.tmod (n + 1) ∧ z.tmod (n + 1) ≤ n := by
  have h1 := Int.tmod_nonneg (n + 1) hz; have h2 := Int.tmod_lt_of_pos z (show 0 < n + 1 by omega)
  omega
def ToInv (n z : Int) : Prop := 0 ≤ z ∧ (1 ≤ n → z ≤ n) ∧ (n < 1 → z = 0)
theorem G8 {g : Nat} {A : Option Addr} {c : Nat} {nums : List Int} {s : Int × Int} (n : Int) (hn : nums.length ≤ 9223372036854775807) (hs : DOK nums s) (hI : n ≤ 9223372036854775806) :
    Meets prog nT [.pointer (d6 g), int n] (diceCon g A c nums s (ToInv n) (fun z => int z) (fun _ => [])) := by
 refine j3 hz3 rfl t8 fun w0 => ?_; refine d9 (c7 rfl (d8 (i7 (d9 (b8 rfl (C4 rfl rfl rfl (d8 ?_))))))); refine m6 rfl (fun hb1 => ?_) (fun hb1 => ?_)
 ·refine d9 (c7 rfl (d8 (J4 ?_))); exact ret1 (s, 0) rfl rfl rfl ⟨hs, by omega, by intro; omega, by intro; rfl⟩ (.refl _) tK
 refine j6 (i8 (d9 (b8 rfl ?_))); refine j5 bq1 rfl rfl (az7 hn hs) (.refl _) ⟨m0, tK⟩ fun x hx => ?_; obtain ⟨s1, z⟩ := x; obtain ⟨hs1, hz⟩ := hx; simp only at hz; refine q8 _ rfl rfl rfl (fun _ => rfl) (fun _ => rfl) (b8 rfl (v8 _ rfl rfl rfl rfl r6 (aH (n + 1) rfl X8 mE rfl (IntWalk.u64_in _ (by omega)) (vx9 rfl rfl rfl (by omega) ?_)))); have hm := tz6 (z := z.fdiv (2 ^ min (Int.toNat 16) IntKind.u64.bits)) (n := n) (Int.fdiv_nonneg hz.1 (by decide)) (by omega); refine aH ((z.fdiv (2 ^ min (Int.toNat 16) IntKind.u64.bits)).tmod (n + 1)) rfl mE X8 rfl (IntWalk.i64_in ((z.fdiv (2 ^ min (Int.toNat 16) IntKind.u64.bits)).tmod (n + 1)) (by omega)) ?_; refine c7 rfl (d8 (k5 ?_)); exact ret1 (s1, _) rfl rfl rfl ⟨hs1, hm.1, fun _ => hm.2, fun h => by omega⟩ (.refl _) tK
def lineWords : List Str := [[97], [98], [99], [97, 110, 32, 49], [98, 101, 110], [99, 121, 100, 32, 49, 50]]
def PageOK (l : List Str) : Prop := ∀ s ∈ l, s ∈ lineWords
def FromInv (lo hi z : Int) : Prop := lo ≤ z ∧ (lo < hi → z ≤ hi) ∧ (hi ≤ lo → z = lo)
def sortsL : List Str := [[102, 111, 111, 100], [98, 114, 101, 97, 100], [99, 108, 111, 116, 104], [104, 97, 116, 115], [119, 111, 111, 100], [105, 114, 111, 110], [98, 101, 101, 114], [105, 110], [115, 101, 101]]
def callingsL : List Str := [[98, 97, 107, 101, 114], [98, 97, 107, 101, 114, 115], [98, 111, 110, 110, 101, 116, 115], [98, 114, 101, 119, 101, 114], [98, 114, 117, 115, 104, 101, 115], [98, 117, 116, 99, 104, 101, 114], [99, 97, 110, 100, 108, 101, 115], [99, 111, 111, 112, 101, 114], [99, 111, 111, 112, 101, 114, 115], [99, 117, 116, 108, 101, 114], [104, 97, 116, 116, 101, 114], [104, 111, 115, 105, 101, 114], [109, 101, 114, 99, 101, 114], [109, 105, 108, 108, 105, 110, 101, 114], [116, 97, 105, 108, 111, 114], [116, 97, 110, 110, 101, 114]]
theorem dj4 {A : Option Addr} {c : Nat} (nums : List Int) : Meets prog nR [.slice A nums.length c] { LI := [Row A (rows nums)], val := fun g : Nat => .pointer (d6 g), hpO := fun g => [dice g A c nums (0, 11400714819323198485)] } := by
 refine j3 hx6 rfl t8 fun w0 => ?_; refine d9 (c7 rfl (k6 (b8 rfl ?_))); refine v9 _ rfl rfl (fun _ => lH ..) (J5 rfl rfl fun gB => ?_); refine c7 rfl (d8 (k5 ?_)); exact ret1 gB rfl rfl rfl tK (.refl _) tK
theorem X6 {g : Nat} {A : Option Addr} {c : Nat} {nums : List Int} {s : Int × Int} (lo hi : Int) (hn : nums.length ≤ 9223372036854775807) (hs : DOK nums s) (hI : -1000 ≤ lo ∧ lo ≤ 1000 ∧ -1000 ≤ hi ∧ hi ≤ 1000) :
    Meets prog jC [.pointer (d6 g), int lo, int hi] (diceCon g A c nums s (FromInv lo hi) (fun z => int z) (fun _ => [])) := by
 refine j3 bq2 rfl t8 fun w0 => ?_; refine d9 (c7 rfl (k6 (b8 rfl (b8 rfl (b8 rfl (b8 rfl ?_)))))); refine W9 _ rfl rfl rfl rfl r6 (j5 G9 rfl rfl (G8 (hi - lo) hn hs (by omega)) (.refl _) ⟨m0, tK⟩ fun x hx => ?_); obtain ⟨s1, z⟩ := x; obtain ⟨hs1, hz⟩ := hx; simp only [ToInv] at hz
 have hz1 : 0 ≤ z ∧ z ≤ 2000 := by
   refine ⟨hz.1, ?_⟩
   by_cases h1 : 1 ≤ hi - lo
   · have := hz.2.1 h1; omega
   have := hz.2.2 (by omega); omega
 refine v8 (lo + z) rfl rfl rfl rfl r6 ?_; refine c7 rfl (d8 (k5 ?_)); exact ret1 (s1, lo + z) rfl rfl rfl ⟨hs1, by simp only; omega, fun h => by have := hz.2.1 (by omega); simp only; omega, fun h => by have := hz.2.2 (by omega); simp only; omega⟩ (.refl _) tK
abbrev rngI (n : Nat) : List Int := (List.range n).map fun i : Nat => (i : Int)
def AtInv (l : List Int) (s z : Int) : Prop := (0 ≤ z ↔ s ∈ l) ∧ (s ∈ l → ∀ k : Nat, z < (k : Int) ↔ s ∈ l.take k)
theorem xx2 {l : List Int} {k : Nat} {s : Int} (hk : k < l.length) (hb : l.getD k default = s) (ht : s ∉ l.take k) : AtInv l s (k : Int) := by
  refine ⟨⟨fun _ => hb ▸ A3 hk, fun _ => by omega⟩, fun _ j => ⟨fun h => ?_, fun h => ?_⟩⟩
  · have h1 : s ∈ l.take (k + 1) := by rw [P8 l k hk, hb]; simp
    exact List.take_subset_take_left l (by omega) h1
  rcases Nat.lt_or_ge k j with h2 | h2
  · omega
  exact absurd (List.take_subset_take_left l h2 h) ht
theorem at_none {l : List Int} {s : Int} (ht : s ∉ l) : AtInv l s (-1) := ⟨⟨fun h => by omega, fun h => absurd h ht⟩, fun h => absurd h ht⟩
def partL (o : List Int) (m n : Nat) : List Int := (rngI n).filter fun v => decide (v ∈ o.take m)
end Go.Proofs.YtcdopfjiadifhaaGreatDoor
end
section
namespace Go.W
open Go Go.RowKit
section
variable {c : Cx} {Q : Exit → Act → World → Prop} {fr : Fr} {hp : Hp} {L : List Fact} {ops : Array Oper} {rest : List Oper}
variable {d : Tmp} {ty : TypeId} {pos : String} {af : Array Edge}
theorem hl_eff {o : Oper} (ho : o.dst = none) (hg : o.guard = none)
    (h : ∀ a w, Ok c a fr → WI c.b w hp L → ∃ v w' hp' L', (execOp a.eval o).run c.P w = .ok (.value v) w' ∧ WI c.b w' hp' L' ∧ HL c ops Q rest fr hp' L') (hok : okOp o = true := by exact rfl) : HL c ops Q (o :: rest) fr hp L := by
  intro a w ha hw; refine Z8 hg fun K hK => fun d0 => ⟨jI hok _, ?_⟩; obtain ⟨v, w', hp', L', hr, hw', hk⟩ := h a (w.at d0) ha (hw.at d0); rw [hr, pL, ho]; exact hK _ _ (hk _ _ ha hw')
theorem aW {t e : TypeId} {x i : Operand} {g o n sz : Nat} {kd : IntKind} {z : Int} (j q : Nat) (hd : Nat.blt d c.n = true) (ht : c.P.underlying t = some (.array n e)) (hz : Sz c.P e sz)
    (hx : ev fr x = some (.pointer (some ⟨g, o, none⟩))) (hi : ev fr i = some (.int kd z)) (hjz : z = (j : Int)) (hj : j < n) (hq : o + j * sz = q)
    (k : HL c ops Q rest ((d, .pointer (some ⟨g, q, none⟩)) :: fr) hp L) : HL c ops Q (⟨some d, .indexAddr t x i, ty, pos, af, none⟩ :: rest) fr hp L :=
  G3 _ rfl rfl hd (fun a w ha hw => by
    subst hjz
    have hr : (Instr.indexAt t (.pointer (some ⟨g, o, none⟩)) (.int kd (j : Int))).run c.P w = .ok (.pointer (some ⟨g, q, none⟩)) w := by
      subst hq
      simp [Instr.indexAt, asIntOf, run_underlying ht, U4 hz, hj, Instr.sureAddr, bI]
    simp only [execOp, ha.ev hx, ha.ev hi, Sem.run_bind, hr, Result.andThen_ok, Sem.run_pure]) k
theorem hl_dup {F : Fact} (h : F ∈ L) (k : HL c ops Q rest fr hp (F :: L)) : HL c ops Q rest fr hp L := fun a w ha hw => k a w ha (hw.weak (List.Sublist.refl _) fun G hG => by
  rcases List.mem_cons.1 hG with rfl | hG
  · exact h
  exact hG)
theorem hc_dup {F : Fact} {x : Code} (h : F ∈ L) (k : HC c x Q fr hp (F :: L)) : HC c x Q fr hp L := fun a w ha hw => k a w ha (hw.weak (List.Sublist.refl _) fun G hG => by
  rcases List.mem_cons.1 hG with rfl | hG
  · exact h
  exact hG)
theorem lX {f : Nat} {x : Operand} {ats : Array TypeId} {t : TypeId} {v v' : Value} {name : String} {β : Type} {k : Con β} {hpR : Hp} (hcb : Callable c.P f) (hd : Nat.blt d c.n = true) (hx : ev fr x = some (.iface t v))
    (hmt : ∀ w, (method (c.P.types.size + Made.depth) t v name).run c.P w = .ok (f, v') w)
    (hm : Meets c.P f [v'] k) (h1 : hp.Perm (k.hpI ++ hpR)) (h2 : LSub L k.LI) (kk : ∀ x, k.inv x → HL c ops Q rest ((d, k.val x) :: fr) (k.hpO x ++ hpR) (k.LO x ++ L)) :
    HL c ops Q (⟨some d, .call ⟨.invoke x name, #[], ats⟩, ty, pos, af, none⟩ :: rest) fr hp L := by
  intro a w ha hw; refine Z8 rfl fun K hK => ?_; intro d0; have hw := hw.at d0
  have e2 : ∀ w, (execOp a.eval (⟨some d, .call ⟨.invoke x name, #[], ats⟩, ty, pos, af, none⟩ : Oper)).run c.P w = .ok (.enter f [v'].toArray) w := by
    intro w; show ((do let dd ← resolve a.eval ⟨.invoke x name, #[], ats⟩ ty; invoke dd.target dd.args) : Sem Next).run c.P w = _; simp only [resolve, ha.ev hx, Sem.run_bind, Sem.run_pure, Result.andThen_ok, invoke]; have e3 : (#[Value.iface t v] ++ Array.map a.eval #[]) = #[Value.iface t v] := by simp
    rw [e3]; have e4 : (#[Value.iface t v] : Array Value).extract 1 (#[Value.iface t v] : Array Value).size = #[] := by simp
    show (callMethod (.iface t v) name ((#[Value.iface t v] : Array Value).extract 1 (#[Value.iface t v] : Array Value).size)).run c.P w = _; rw [e4]; have e5 : (#[v'] ++ #[] : Array Value) = [v'].toArray := by simp
    simp only [callMethod, Sem.run_bind, Sem.run_pure, run_program, Result.andThen_ok, hmt, e5]; exact hcb.run _ _
  refine ⟨?_, ?_⟩
  · show ∀ e ∈ ((do let dd ← resolve a.eval ⟨.invoke x name, #[], ats⟩ ty; invoke dd.target dd.args) : Sem Next).events c.P _ #[], Calm e
    have e3 : (#[Value.iface t v] ++ Array.map a.eval #[]) = #[Value.iface t v] := by simp
    simp only [resolve, ha.ev hx, e3]; show ∀ e ∈ (callMethod (.iface t v) name ((#[Value.iface t v] : Array Value).extract 1 (#[Value.iface t v] : Array Value).size)).events c.P _ #[], Calm e; exact qz2 hcb hmt _ _
  rw [e2, pM]; refine CallsB.E ((hm _ (hw.entry h1 h2.mem)).mono fun v w' hp => ?_); obtain ⟨x, rfl, hi, hwi⟩ := hp; exact hK _ _ (kk x hi _ _ (ha.put (by simpa using hd) _) (hw.back h1 h2.mem hwi))
/-! ### Loops that leave marks -/
def AgainM {β : Type} (s : Sta β) (ds : β → List Nat) (μ : β → Nat) (m : Nat) (P : Program) (n : Nat) (b : Bx) (a : Act) (w : World) : Prop := ∃ y, s.inv y ∧ μ y < m ∧ Ok ⟨P, n, b, (ds y).map markOf, none⟩ a (s.fr y) ∧ WI b w (shutM (ds y) ++ s.hp y) (s.L y)
end
end Go.W
end
