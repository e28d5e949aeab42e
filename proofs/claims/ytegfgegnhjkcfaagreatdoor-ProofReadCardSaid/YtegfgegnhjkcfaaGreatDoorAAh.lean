/- Texts of this claim, one behind another. -/

import Derived.Test.YtegfgegnhjkcfaaGreatDoorAAg
import Derived.Test.YtegfgegnhjkcfaaGreatDoorAAe
set_option linter.unusedVariables false
set_option linter.unusedSimpArgs false
section
namespace Go.Proofs.YtegfgegnhjkcfaaGreatDoor
open Go Go.W
set_option maxRecDepth 20000
attribute [local irreducible] HL HC HQ HB Row Rows2 Blk Facts
def cmpI (a b : Int) : Int := if a < b then -1 else if b < a then 1 else 0
def cmpS (a b : Str) : Int := if Op.bytesLess a b = true then -1 else if (!(Op.bytesLess a b || a == b)) = true then 1 else 0
def orL : List Int → Int
  | [] => 0
  | a :: l => if ¬ a = 0 then a else orL l
def cmpMk (a b : Mk) : Int := orL [cmpI a.2.1 b.2.1, cmpI a.1 b.1, cmpS a.2.2 b.2.2]
def cmpMs : List Mk → List Mk → Int
  | [], [] => 0
  | [], _ :: _ => -1
  | _ :: _, [] => 1
  | a :: l, b :: l' => if ¬ cmpMk a b = 0 then cmpMk a b else cmpMs l l'
abbrev Lst := Int × List Mk
def cmpL (a b : Lst) : Int := orL [cmpI a.1 b.1, cmpI a.2.length b.2.length, cmpMs a.2 b.2]
theorem Q7 (a : Int) : Meets Tryz.prog F.X8 [int a] { val := fun _ : Unit => .bool false } := by
 refine c1 F.mJ rfl j9 fun w0 => ?_; refine b7 (b4 rfl (j6 (a6 rfl (a6 rfl (u5 rfl rfl rfl (b4 rfl (b5 ?_))))))); refine c3 (g2 ?_); exact ret1 () rfl (congrArg (fun b => some (Value.bool b)) (by simp)) rfl trivial (.refl _) trivial
theorem M3 (a : Str) : Meets Tryz.prog F.N7 [str a] { val := fun _ : Unit => .bool false } := by
 refine c1 F.iI rfl j9 fun w0 => ?_; refine b7 (b4 rfl (j6 (a6 rfl (a6 rfl (nD rfl rfl rfl (b4 rfl (b5 ?_))))))); refine c3 (g2 ?_); exact ret1 () rfl (congrArg (fun b => some (Value.bool b)) (by simp)) rfl trivial (.refl _) trivial
theorem y9 (a b : Int) : Meets Tryz.prog F.Q1 [int a, int b] { val := fun _ : Unit => int (cmpI a b) } := by
 refine c1 F.jZ rfl j9 fun w0 => ?_; refine b7 (b4 rfl (j6 (a6 rfl ?_))); refine c8 F.aH rfl rfl (Q7 _) (.refl _) trivial fun _ _ => ?_; refine b4 rfl (j6 (a6 rfl ?_)); refine c8 F.aH rfl rfl (Q7 _) (.refl _) trivial fun _ _ => ?_; refine b4 rfl (a8 (b8 (b7 (a6 rfl (a8 ?_))))); refine c_f rfl (by first | rfl | assumption | exact bf1 (by assumption) | exact bf2 (by assumption)) ?_; refine c4 (c3 (b8 (b7 (a6 rfl (a8 ?_))))); refine c_f rfl (by first | rfl | assumption | exact bf1 (by assumption) | exact bf2 (by assumption)) ?_; refine c4 (c3 (b8 (b7 (a6 rfl (a6 rfl (r9 rfl rfl rfl (a8 ?_)))))))
 first | refine i4 rfl (fun hb4 => ?_) (fun hb4 => ?_) | refine c5 rfl (fun hb4 => ?_) (fun hb4 => ?_)
 ·have hb4' := hb4; try simp at hb4'
  refine b7 (b4 rfl (a8 (t5 ?_))); exact ret1 () rfl (congrArg (fun n => some (int n)) (by rw [cmpI, if_pos hb4])) rfl trivial i2 trivial
 have hb4' := hb4; try simp at hb4'
 refine c4 (c3 (b8 (b7 (a6 rfl (a6 rfl (A5 rfl rfl rfl (a8 ?_)))))))
 first | refine i4 rfl (fun hb5 => ?_) (fun hb5 => ?_) | refine c5 rfl (fun hb5 => ?_) (fun hb5 => ?_)
 ·have hb5' := hb5; try simp at hb5'
  refine b7 (b4 rfl (a8 (t5 ?_))); exact ret1 () rfl (congrArg (fun n => some (int n)) (by rw [cmpI, if_neg hb4, if_pos hb5])) rfl trivial i2 trivial
 have hb5' := hb5; try simp at hb5'
 refine c4 (c3 (b7 (b4 rfl (a8 (g2 ?_))))); exact ret1 () rfl (congrArg (fun n => some (int n)) (by rw [cmpI, if_neg hb4, if_neg hb5])) rfl trivial i2 trivial
theorem X9 (a b : Str) : Meets Tryz.prog F.I9 [str a, str b] { val := fun _ : Unit => int (cmpS a b) } := by
 refine c1 F.dD rfl j9 fun w0 => ?_; refine b7 (b4 rfl (j6 (a6 rfl ?_))); refine c8 F.Q6 rfl rfl (M3 _) (.refl _) trivial fun _ _ => ?_; refine b4 rfl (j6 (a6 rfl ?_)); refine c8 F.Q6 rfl rfl (M3 _) (.refl _) trivial fun _ _ => ?_; refine b4 rfl (a8 (b8 (b7 (a6 rfl (a8 ?_))))); refine c_f rfl (by first | rfl | assumption | exact bf1 (by assumption) | exact bf2 (by assumption)) ?_; refine c4 (c3 (b8 (b7 (a6 rfl (a8 ?_))))); refine c_f rfl (by first | rfl | assumption | exact bf1 (by assumption) | exact bf2 (by assumption)) ?_; refine c4 (c3 (b8 (b7 (a6 rfl (a6 rfl (r_slss rfl rfl rfl (a8 ?_)))))))
 first | refine i4 rfl (fun hb4 => ?_) (fun hb4 => ?_) | refine c5 rfl (fun hb4 => ?_) (fun hb4 => ?_)
 ·have hb4' := hb4; try simp at hb4'
  refine b7 (b4 rfl (a8 (t5 ?_))); exact ret1 () rfl (congrArg (fun n => some (int n)) (by rw [cmpS, if_pos hb4])) rfl trivial i2 trivial
 have hb4' := hb4; try simp at hb4'
 refine c4 (c3 (b8 (b7 (a6 rfl (a6 rfl (r_sgtr rfl rfl rfl (a8 ?_)))))))
 first | refine i4 rfl (fun hb5 => ?_) (fun hb5 => ?_) | refine c5 rfl (fun hb5 => ?_) (fun hb5 => ?_)
 ·have hb5' := hb5; try simp at hb5'
  refine b7 (b4 rfl (a8 (t5 ?_))); exact ret1 () rfl (congrArg (fun n => some (int n)) (by rw [cmpS, if_neg (by rw [hb4]; decide), if_pos hb5])) rfl trivial i2 trivial
 have hb5' := hb5; try simp at hb5'
 refine c4 (c3 (b7 (b4 rfl (a8 (g2 ?_))))); exact ret1 () rfl (congrArg (fun n => some (int n)) (by rw [cmpS, if_neg (by rw [hb4]; decide), if_neg (by rw [hb5]; decide)])) rfl trivial i2 trivial
theorem zX {l : List Int} {k : Nat} (hk : k < l.length) : orL (l.drop k) = if ¬ l.getD k default = 0 then l.getD k default else orL (l.drop (k + 1)) := by
  rw [List.drop_eq_getElem_cons hk, orL, y8 hk]
theorem aI {A : Option Addr} {c : Nat} (l : List Int) (hl : l.length ≤ 1000000) : Meets Tryz.prog F.iJ [.slice A l.length c] { LI := [Row A (rows l)], val := fun _ : Unit => int (orL l) } := by
 refine c1 F.tC rfl j9 fun w0 => ?_; refine b7 (b4 rfl (j6 (b4 rfl (a8 (mF ?_))))); refine c7 (a6 rfl ?_); refine j0 rfl T.I6 rfl ?_; refine a6 rfl (a8 (i8 ?_)); refine s9 (β := Nat) ⟨fun k => k ≤ l.length ∧ orL l = orL (l.drop k), fun k => [(3, int 0), (6, .slice A l.length c), (7, int l.length), (8, int k)], fun _ => [], fun _ => [Row A (rows l)]⟩ (fun k => l.length - k) 0 ⟨Nat.zero_le _, rfl⟩ mC (.refl _) ⟨m0, trivial⟩ fun k hk => ?_; obtain ⟨hk, ht⟩ := hk; refine b7 (r9 rfl rfl rfl (a8 (b8 ?_)))
 first | refine i4 rfl (fun hb1 => ?_) (fun hb1 => ?_) | refine c5 rfl (fun hb1 => ?_) (fun hb1 => ?_)
 ·have hb1' := hb1; try simp at hb1'
  have hk2 : k < l.length := by omega
  rw [zX hk2] at ht; refine c4 (c3 (b8 (i8 (b7 ?_)))); refine r6 (α := Int) _ _ rfl T.I6 T.G8 rfl rfl rfl mB rfl (by omega) (by decide) (a4 rfl T.a5 rfl (b6 mB (a7 (by omega) rfl)) ?_); refine b4 rfl (j6 (a6 rfl (a6 rfl (u5 rfl rfl rfl (a8 ?_)))))
  first | refine i4 rfl (fun hb2 => ?_) (fun hb2 => ?_) | refine c5 rfl (fun hb2 => ?_) (fun hb2 => ?_)
  ·have hb2' := hb2; try simp at hb2'
   rw [if_pos hb2] at ht; refine b7 (a6 rfl (b4 rfl (a8 (g2 (s8 (k5 (s8 ?_))))))); exact ret1 () rfl (congrArg (fun n => some (int n)) (by rw [ht])) rfl trivial i2 trivial
  have hb2' := hb2; try simp at hb2'
  rw [if_neg hb2] at ht; refine c4 (q6 (c3 (c7 ?_))); refine p9 _ rfl rfl rfl rfl n3 ?_; refine a6 rfl (b5 ?_); exact again _ (k + 1) ⟨by omega, ht⟩ (z4 (by omega)) mC (.refl _) ⟨m0, trivial⟩
 have hb1' := hb1; try simp at hb1'
 have hk2 : k = l.length := by omega
 refine n5 (A3 (n4 (c3 (b7 (a6 rfl (b4 rfl (a8 (g2 ?_)))))))); exact ret1 () rfl (congrArg (fun n => some (int n)) (by rw [ht, hk2, List.drop_length]; rfl)) rfl trivial i2 trivial
theorem W6 (a b : Mk) : Meets Tryz.prog F.w9 [.agg #[int a.1, int a.2.1, str a.2.2], .agg #[int b.1, int b.2.1, str b.2.2]] { val := fun _ : Unit => int (cmpMk a b) } := by
 refine c1 F.cI rfl j9 fun w0 => ?_; refine b7 ?_; refine H5 rfl rfl fun gB => ?_; refine H5 rfl rfl fun gB => ?_; refine b4 rfl (a8 (b8 ?_)); refine A8 14 mixed (by decide) (by decide) rfl rfl ?_
 apply j4 _ rfl rfl rfl
 ·intro w1
  first | refine a3 ⟨_, 1, none⟩ rfl rfl T.c9 rfl ?_ | refine a3 _ rfl rfl T.c9 rfl ?_
  refine b5 ?_; exact d8 rfl
 apply j4 _ rfl rfl rfl
 ·intro w1
  first | refine a4 rfl T.a5 rfl (b9 mB rfl) ?_ | refine a4 rfl T.a5 rfl (a9 mB rfl) ?_ | refine a4 rfl T.a5 rfl (b6 mB (a7 (by omega) rfl)) ?_ | refine a4 rfl T.a5 rfl (b3 mB (rows_get (by omega) rfl)) ?_
  refine b5 ?_; exact d8 rfl
 apply j4 _ rfl rfl rfl
 ·intro w1
  first | refine a3 ⟨_, 1, none⟩ rfl rfl T.c9 rfl ?_ | refine a3 _ rfl rfl T.c9 rfl ?_
  refine b5 ?_; exact d8 rfl
 apply j4 _ rfl rfl rfl
 ·intro w1
  first | refine a4 rfl T.a5 rfl (b9 mB rfl) ?_ | refine a4 rfl T.a5 rfl (a9 mB rfl) ?_ | refine a4 rfl T.a5 rfl (b6 mB (a7 (by omega) rfl)) ?_ | refine a4 rfl T.a5 rfl (b3 mB (rows_get (by omega) rfl)) ?_
  refine b5 ?_; exact d8 rfl
 refine i7 (fun w1 => c8 F.C8 rfl rfl (y9 _ _) (.refl _) trivial fun _ _ => (q_z rfl)) ?_
 apply j4 _ rfl rfl rfl
 ·intro w1
  first | refine a3 ⟨_, 0, none⟩ rfl rfl T.g0 rfl ?_ | refine a3 _ rfl rfl T.g0 rfl ?_
  refine b5 ?_; exact d8 rfl
 apply j4 _ rfl rfl rfl
 ·intro w1
  first | refine a4 rfl T.a5 rfl (b9 mB rfl) ?_ | refine a4 rfl T.a5 rfl (a9 mB rfl) ?_ | refine a4 rfl T.a5 rfl (b6 mB (a7 (by omega) rfl)) ?_ | refine a4 rfl T.a5 rfl (b3 mB (rows_get (by omega) rfl)) ?_
  refine b5 ?_; exact d8 rfl
 apply j4 _ rfl rfl rfl
 ·intro w1
  first | refine a3 ⟨_, 0, none⟩ rfl rfl T.g0 rfl ?_ | refine a3 _ rfl rfl T.g0 rfl ?_
  refine b5 ?_; exact d8 rfl
 apply j4 _ rfl rfl rfl
 ·intro w1
  first | refine a4 rfl T.a5 rfl (b9 mB rfl) ?_ | refine a4 rfl T.a5 rfl (a9 mB rfl) ?_ | refine a4 rfl T.a5 rfl (b6 mB (a7 (by omega) rfl)) ?_ | refine a4 rfl T.a5 rfl (b3 mB (rows_get (by omega) rfl)) ?_
  refine b5 ?_; exact d8 rfl
 refine i7 (fun w1 => c8 F.C8 rfl rfl (y9 _ _) (.refl _) trivial fun _ _ => (q_z rfl)) ?_
 apply j4 _ rfl rfl rfl
 ·intro w1
  first | refine a3 ⟨_, 2, none⟩ rfl rfl T.k7 rfl ?_ | refine a3 _ rfl rfl T.k7 rfl ?_
  refine b5 ?_; exact d8 rfl
 apply j4 _ rfl rfl rfl
 ·intro w1
  first | refine a4 rfl T.i3 rfl (b9 mB rfl) ?_ | refine a4 rfl T.i3 rfl (a9 mB rfl) ?_ | refine a4 rfl T.i3 rfl (b6 mB (a7 (by omega) rfl)) ?_ | refine a4 rfl T.i3 rfl (b3 mB (rows_get (by omega) rfl)) ?_
  refine b5 ?_; exact d8 rfl
 apply j4 _ rfl rfl rfl
 ·intro w1
  first | refine a3 ⟨_, 2, none⟩ rfl rfl T.k7 rfl ?_ | refine a3 _ rfl rfl T.k7 rfl ?_
  refine b5 ?_; exact d8 rfl
 apply j4 _ rfl rfl rfl
 ·intro w1
  first | refine a4 rfl T.i3 rfl (b9 mB rfl) ?_ | refine a4 rfl T.i3 rfl (a9 mB rfl) ?_ | refine a4 rfl T.i3 rfl (b6 mB (a7 (by omega) rfl)) ?_ | refine a4 rfl T.i3 rfl (b3 mB (rows_get (by omega) rfl)) ?_
  refine b5 ?_; exact d8 rfl
 refine t6 ⟨rfl, ?_⟩; refine c8 F.bO rfl rfl (X9 _ _) (.refl _) trivial fun _ _ => ?_; refine j3 _ rfl rfl (fun _ => T.dL ..) fun gS => ?_; refine E9 (rows [cmpI a.2.1 b.2.1, cmpI a.1 b.1, cmpS a.2.2 b.2.2]) ⟨[], List.append_nil _⟩ ?_; refine c8 F.gR rfl rfl (aI [cmpI a.2.1 b.2.1, cmpI a.1 b.1, cmpS a.2.2 b.2.2] (by simp)) k6 ⟨m0, trivial⟩ fun _ _ => ?_; refine b4 rfl (a8 (g2 ?_)); exact ret1 () rfl rfl rfl trivial i2 trivial
theorem kY {α : Type} [Inhabited α] {l : List α} {k : Nat} (hk : k < l.length) : l.drop k = l.getD k default :: l.drop (k + 1) := by rw [List.drop_eq_getElem_cons hk, y8 hk]
theorem W4 {A B : Option Addr} {ca cb : Nat} (a b : List Mk) (ha : a.length ≤ 1000000) : Meets Tryz.prog F.I7 [.slice A a.length ca, .slice B b.length cb, fnV F.w9] { LI := [Row A (rows a), Row B (rows b)], val := fun _ : Unit => int (cmpMs a b) } := by
 refine c1 F.bY rfl j9 fun w0 => ?_; refine b7 (b4 rfl (a8 (b8 (b7 (a6 rfl ?_))))); refine j0 rfl T.j2 rfl ?_; refine a6 rfl (a8 (i8 ?_)); refine s9 (β := Nat) ⟨fun k => k ≤ a.length ∧ k ≤ b.length ∧ cmpMs a b = cmpMs (a.drop k) (b.drop k), fun k => [(0, .slice A a.length ca), (1, .slice B b.length cb), (2, fnV F.w9), (11, .slice A a.length ca), (12, int a.length), (13, int k)], fun _ => [], fun _ => [Row A (rows a), Row B (rows b)]⟩ (fun k => a.length - k) 0 ⟨Nat.zero_le _, Nat.zero_le _, rfl⟩ mC (.refl _) ⟨m0, m1, trivial⟩ fun k hk => ?_; obtain ⟨hka, hkb, ht⟩ := hk; refine b7 (r9 rfl rfl rfl (a8 (b8 ?_)))
 first | refine i4 rfl (fun hb1 => ?_) (fun hb1 => ?_) | refine c5 rfl (fun hb1 => ?_) (fun hb1 => ?_)
 ·have hb1' := hb1; try simp at hb1'
  have hk2 : k < a.length := by omega
  rw [kY hk2] at ht; refine c4 (c3 (b8 (i8 (b7 (a6 rfl ?_))))); refine r6 (α := Mk) _ _ rfl T.j2 T.d3 rfl rfl rfl mB rfl (by omega) (by decide) (p6 rfl T.i6 T.d3 rfl rfl (k8 mB (n2 (by omega))) ?_); refine p8 rfl (fun _ => T.t8 _) fun gA => ?_; refine b4 rfl ?_; refine l5 rfl rfl (by first | exact .refl _ | exact perm2 _ _ _ | exact perm3 _ _ _ _ | exact perm4 _ _ _ _ _) T.d3 (by rfl) (by rfl) ?_; refine a8 (b8 (b7 (a6 rfl (a6 rfl ?_)))); refine j0 rfl T.j2 rfl ?_; refine iT rfl rfl rfl (a8 ?_)
  first | refine i4 rfl (fun hb2 => ?_) (fun hb2 => ?_) | refine c5 rfl (fun hb2 => ?_) (fun hb2 => ?_)
  ·have hb2' := hb2; try simp at hb2'
   have hk3 : k = b.length := by omega
   refine b7 (b4 rfl (a8 (t5 (s8 (k5 (s8 ?_)))))); exact ret1 () rfl (congrArg (fun n => some (int n)) (by rw [ht, hk3, List.drop_length]; rfl)) rfl trivial i2 trivial
  have hb2' := hb2; try simp at hb2'
  have hk3 : k < b.length := by omega
  rw [kY hk3, cmpMs] at ht; refine c4 (c3 (b7 (a6 rfl (a6 rfl ?_)))); refine r6 (α := Mk) _ _ rfl T.j2 T.d3 rfl rfl rfl mB rfl (by omega) (by decide) (p6 rfl T.i6 T.d3 rfl rfl (k8 mB (n2 (by omega))) ?_); refine p8 rfl (fun _ => T.t8 _) fun gA => ?_; refine l5 rfl rfl (by first | exact .refl _ | exact perm2 _ _ _ | exact perm3 _ _ _ _ | exact perm4 _ _ _ _ _) T.d3 (by rfl) (by rfl) ?_; refine j6 (a6 rfl ?_)
  first | refine t9 rfl T.i6 T.d3 rfl mB (by rfl) ?_ | refine u4 rfl T.i6 T.d3 rfl mB (by rfl) ?_ | refine p6 rfl T.i6 T.d3 rfl rfl (k8 mB (n2 (by omega))) ?_
  first | refine t9 rfl T.i6 T.d3 rfl mB (by rfl) ?_ | refine u4 rfl T.i6 T.d3 rfl mB (by rfl) ?_ | refine p6 rfl T.i6 T.d3 rfl rfl (k8 mB (n2 (by omega))) ?_
  refine G0 (cap := []) F.bK rfl rfl rfl (W6 (a.getD k default) (b.getD k default)) k6 trivial fun _ _ => ?_; refine b4 rfl (j6 (a6 rfl (u5 rfl rfl rfl (a8 ?_))))
  first | refine i4 rfl (fun hb3 => ?_) (fun hb3 => ?_) | refine c5 rfl (fun hb3 => ?_) (fun hb3 => ?_)
  ·have hb3' := hb3; try simp at hb3'
   rw [if_pos hb3] at ht; refine b7 (a6 rfl (b4 rfl (a8 (g2 (s8 (k5 (s8 ?_))))))); exact ret1 () rfl (congrArg (fun n => some (int n)) (by rw [ht])) rfl trivial i2 trivial
  have hb3' := hb3; try simp at hb3'
  rw [if_neg hb3] at ht; refine c4 (q6 (c3 (c7 ?_))); refine p9 _ rfl rfl rfl rfl n3 ?_; refine a6 rfl (b5 ?_); exact again _ (k + 1) ⟨by omega, by omega, ht⟩ (z4 (by omega)) mC i2 ⟨m0, m1, trivial⟩
 have hb1' := hb1; try simp at hb1'
 have hk2 : k = a.length := by omega
 refine n5 (A3 (n4 (c3 (b8 (b7 (a6 rfl ?_)))))); refine j0 rfl T.j2 rfl (a6 rfl (j0 rfl T.j2 rfl ?_)); refine r9 rfl rfl rfl (a8 ?_)
 first | refine i4 rfl (fun hb4 => ?_) (fun hb4 => ?_) | refine c5 rfl (fun hb4 => ?_) (fun hb4 => ?_)
 ·have hb4' := hb4; try simp at hb4'
  have h4 : k < b.length := by omega
  rw [hk2, List.drop_length, kY (by omega)] at ht; refine b7 (b4 rfl (a8 (t5 ?_))); exact ret1 () rfl (congrArg (fun n => some (int n)) (by rw [ht]; rfl)) rfl trivial i2 trivial
 have hb4' := hb4; try simp at hb4'
 have h4 : k = b.length := by omega
 rw [hk2, List.drop_length, ← hk2, h4, List.drop_length] at ht; refine c4 (c3 (b7 (b4 rfl (a8 (g2 ?_))))); exact ret1 () rfl (congrArg (fun n => some (int n)) (by rw [ht]; rfl)) rfl trivial i2 trivial
theorem W7 {A B : Option Addr} {ca cb : Nat} (x y : Lst) (ha : x.2.length ≤ 1000000) (hb : y.2.length ≤ 1000000) : Meets Tryz.prog F.t0 [.agg #[int x.1, .slice A x.2.length ca], .agg #[int y.1, .slice B y.2.length cb]] { LI := [Row A (rows x.2), Row B (rows y.2)], val := fun _ : Unit => int (cmpL x y) } := by
 refine c1 F.cJ rfl j9 fun w0 => ?_; refine b7 ?_; refine H5 rfl rfl fun gB => ?_; refine H5 rfl rfl fun gB => ?_; refine b4 rfl (a8 (b8 ?_)); refine A8 16 mixed (by decide) (by decide) rfl rfl ?_
 apply j4 _ rfl rfl rfl
 ·intro w1
  first | refine a3 ⟨_, 0, none⟩ rfl rfl T.r4 rfl ?_ | refine a3 _ rfl rfl T.r4 rfl ?_
  refine b5 ?_; exact d8 rfl
 apply j4 _ rfl rfl rfl
 ·intro w1
  first | refine a4 rfl T.a5 rfl (b9 mB rfl) ?_ | refine a4 rfl T.a5 rfl (a9 mB rfl) ?_ | refine a4 rfl T.a5 rfl (b6 mB (a7 (by omega) rfl)) ?_ | refine a4 rfl T.a5 rfl (b3 mB (rows_get (by omega) rfl)) ?_
  refine b5 ?_; exact d8 rfl
 apply j4 _ rfl rfl rfl
 ·intro w1
  first | refine a3 ⟨_, 0, none⟩ rfl rfl T.r4 rfl ?_ | refine a3 _ rfl rfl T.r4 rfl ?_
  refine b5 ?_; exact d8 rfl
 apply j4 _ rfl rfl rfl
 ·intro w1
  first | refine a4 rfl T.a5 rfl (b9 mB rfl) ?_ | refine a4 rfl T.a5 rfl (a9 mB rfl) ?_ | refine a4 rfl T.a5 rfl (b6 mB (a7 (by omega) rfl)) ?_ | refine a4 rfl T.a5 rfl (b3 mB (rows_get (by omega) rfl)) ?_
  refine b5 ?_; exact d8 rfl
 refine i7 (fun w1 => c8 F.C8 rfl rfl (y9 _ _) (.refl _) trivial fun _ _ => (q_z rfl)) ?_
 apply j4 _ rfl rfl rfl
 ·intro w1
  first | refine a3 ⟨_, 1, none⟩ rfl rfl T.q9 rfl ?_ | refine a3 _ rfl rfl T.q9 rfl ?_
  refine b5 ?_; exact d8 rfl
 apply j4 _ rfl rfl rfl
 ·intro w1
  first | refine a4 rfl T.c6 rfl (b9 mB rfl) ?_ | refine a4 rfl T.c6 rfl (a9 mB rfl) ?_ | refine a4 rfl T.c6 rfl (b6 mB (a7 (by omega) rfl)) ?_ | refine a4 rfl T.c6 rfl (b3 mB (rows_get (by omega) rfl)) ?_
  refine b5 ?_; exact d8 rfl
 refine i7 (fun w1 => j0 rfl T.j2 rfl (q_z rfl)) ?_
 apply j4 _ rfl rfl rfl
 ·intro w1
  first | refine a3 ⟨_, 1, none⟩ rfl rfl T.q9 rfl ?_ | refine a3 _ rfl rfl T.q9 rfl ?_
  refine b5 ?_; exact d8 rfl
 apply j4 _ rfl rfl rfl
 ·intro w1
  first | refine a4 rfl T.c6 rfl (b9 mB rfl) ?_ | refine a4 rfl T.c6 rfl (a9 mB rfl) ?_ | refine a4 rfl T.c6 rfl (b6 mB (a7 (by omega) rfl)) ?_ | refine a4 rfl T.c6 rfl (b3 mB (rows_get (by omega) rfl)) ?_
  refine b5 ?_; exact d8 rfl
 refine i7 (fun w1 => j0 rfl T.j2 rfl (q_z rfl)) ?_; refine i7 (fun w1 => c8 F.C8 rfl rfl (y9 _ _) (.refl _) trivial fun _ _ => (q_z rfl)) ?_
 apply j4 _ rfl rfl rfl
 ·intro w1
  first | refine a3 ⟨_, 1, none⟩ rfl rfl T.q9 rfl ?_ | refine a3 _ rfl rfl T.q9 rfl ?_
  refine b5 ?_; exact d8 rfl
 apply j4 _ rfl rfl rfl
 ·intro w1
  first | refine a4 rfl T.c6 rfl (b9 mB rfl) ?_ | refine a4 rfl T.c6 rfl (a9 mB rfl) ?_ | refine a4 rfl T.c6 rfl (b6 mB (a7 (by omega) rfl)) ?_ | refine a4 rfl T.c6 rfl (b3 mB (rows_get (by omega) rfl)) ?_
  refine b5 ?_; exact d8 rfl
 apply j4 _ rfl rfl rfl
 ·intro w1
  first | refine a3 ⟨_, 1, none⟩ rfl rfl T.q9 rfl ?_ | refine a3 _ rfl rfl T.q9 rfl ?_
  refine b5 ?_; exact d8 rfl
 apply j4 _ rfl rfl rfl
 ·intro w1
  first | refine a4 rfl T.c6 rfl (b9 mB rfl) ?_ | refine a4 rfl T.c6 rfl (a9 mB rfl) ?_ | refine a4 rfl T.c6 rfl (b6 mB (a7 (by omega) rfl)) ?_ | refine a4 rfl T.c6 rfl (b3 mB (rows_get (by omega) rfl)) ?_
  refine b5 ?_; exact d8 rfl
 refine t6 ⟨rfl, ?_⟩; refine c8 F.bJ rfl rfl (W4 x.2 y.2 ha) (.refl _) ⟨m0, m1, trivial⟩ fun _ _ => ?_; refine j3 _ rfl rfl (fun _ => T.dL ..) fun gS => ?_; refine E9 (rows [cmpI x.1 y.1, cmpI x.2.length y.2.length, cmpMs x.2 y.2]) ⟨[], List.append_nil _⟩ ?_; refine c8 F.gR rfl rfl (aI [cmpI x.1 y.1, cmpI x.2.length y.2.length, cmpMs x.2 y.2] (by simp)) k6 ⟨m0, trivial⟩ fun _ _ => ?_; refine b4 rfl (a8 (g2 ?_)); exact ret1 () rfl rfl rfl trivial i2 trivial
abbrev LstV := Int × Sl Mk
instance : El LstV where
  default := (0, ⟨none, 0, []⟩)
  cells x := [int x.1, .slice x.2.a x.2.l.length x.2.c]
  sz := 2
  len _ := rfl
  one a u h := by simp at h; rcases h with h | h <;> subst h <;> rfl
def LstV.dat (x : LstV) : Lst := (x.1, x.2.l)
def LstV.row (x : LstV) : Fact := Row x.2.a (rows x.2.l)
def LstV.v (x : LstV) : Value := .agg #[int x.1, .slice x.2.a x.2.l.length x.2.c]
theorem U8 (x y : LstV) (ha : x.2.l.length ≤ 1000000) (hb : y.2.l.length ≤ 1000000) : Meets Tryz.prog F.t0 [x.v, y.v] { LI := [x.row, y.row], val := fun _ : Unit => int (cmpL x.dat y.dat) } :=
  W7 (A := x.2.a) (B := y.2.a) (ca := x.2.c) (cb := y.2.c) (x.1, x.2.l) (y.1, y.2.l) ha hb
def leastV (f : LstV) (l : List LstV) : LstV := l.foldl (fun f x => if cmpL x.dat f.dat < 0 then x else f) f
theorem hX (f : LstV) (l : List LstV) : leastV f l ∈ f :: l := by
  unfold leastV
  induction l generalizing f with
  | nil => simp
  | cons x l ih =>
    rw [List.foldl_cons]; have := ih (if cmpL x.dat f.dat < 0 then x else f)
    rcases List.mem_cons.1 this with h | h
    · rw [h]; split <;> simp
    simp [h]
theorem uG {f : LstV} {l : List LstV} {k : Nat} (hk : k < l.length) : leastV f (l.take (k + 1)) = if cmpL (l.getD k default).dat (leastV f (l.take k)).dat < 0 then l.getD k default else leastV f (l.take k) := by
  rw [s6 l k hk]; unfold leastV; rw [List.foldl_append]
  rfl
theorem iZ {B : Option Addr} {cb : Nat} (f : LstV) (l : List LstV) (hl : l.length ≤ 1000) (hs : ∀ x ∈ f :: l, x.2.l.length ≤ 1000000) :
    Meets Tryz.prog F.cG [fnV F.t0, f.v, .slice B l.length cb] { LI := [Row B (rows l), Facts ((f :: l).map LstV.row)], val := fun _ : Unit => (leastV f l).v } := by
 unfold LstV.v; refine c1 F.pW rfl j9 fun w0 => ?_; refine b7 ?_; refine H5 rfl rfl fun gB => ?_; refine p8 rfl (fun _ => T.B3 _) fun gA => ?_; refine a8 (mF ?_); refine I5 (.swap _ _ _) ?_; refine c7 (a6 rfl ?_); refine j0 rfl T.J7 rfl ?_; refine a6 rfl (a8 (i8 ?_)); refine s9 (β := Nat) ⟨fun k => k ≤ l.length, fun k => [(0, fnV F.t0), (4, .pointer (i5 gB)), (6, .pointer (i5 gA)), (9, .slice B l.length cb), (10, int l.length), (11, int k)], fun k => [(gB, .cells (El.cells (leastV f (l.take k))).toArray T.n8 (0, 0)), (gA, .cells #[int 0, .slice none 0 0] T.n8 (0, 0))], fun _ => [Row B (rows l), Facts ((f :: l).map LstV.row)]⟩ (fun k => l.length - k) 0 (Nat.zero_le _) mC (.refl _) ⟨m0, m1, trivial⟩ fun k hk => ?_; simp only at hk; refine b7 (r9 rfl rfl rfl (a8 (b8 ?_)))
 first | refine i4 rfl (fun hb1 => ?_) (fun hb1 => ?_) | refine c5 rfl (fun hb1 => ?_) (fun hb1 => ?_)
 ·have hb1' := hb1; try simp at hb1'
  have hk2 : k < l.length := by omega
  have hlt := uG (f := f) hk2
  have hmem : leastV f (l.take k) ∈ f :: l := by
    rcases List.mem_cons.1 (hX f (l.take k)) with h | h
    · simp [h]
    exact List.mem_cons_of_mem _ (List.mem_of_mem_take h)
  refine c4 (c3 (b8 (i8 (b7 ?_)))); refine r6 (α := _) _ _ rfl T.J7 T.d6 rfl rfl rfl mB rfl (by omega) (by decide) (p6 rfl T.i1 T.d6 rfl rfl (k8 mB (n2 (by omega))) ?_); refine p8 rfl (fun _ => T.B3 _) fun gA => ?_; refine l5 rfl rfl (by first | exact .refl _ | exact perm2 _ _ _ | exact perm3 _ _ _ _ | exact perm4 _ _ _ _ _) T.d6 (by rfl) (by rfl) ?_; refine a8 (b8 ?_); have hx := List.mem_cons_of_mem f (P1 hk2); generalize hm : l.getD k default = x at *; refine c7 (a6 rfl ?_)
  first | refine t9 rfl T.i1 T.d6 rfl mB (by rfl) ?_ | refine u4 rfl T.i1 T.d6 rfl mB (by rfl) ?_ | refine p6 rfl T.i1 T.d6 rfl rfl (k8 mB (n2 (by omega))) ?_
  first | refine t9 rfl T.i1 T.d6 rfl mB (by rfl) ?_ | refine u4 rfl T.i1 T.d6 rfl mB (by rfl) ?_ | refine p6 rfl T.i1 T.d6 rfl rfl (k8 mB (n2 (by omega))) ?_
  refine sR (F := LstV.row x) m1 (List.mem_map.2 ⟨x, hx, rfl⟩) (sR (F := LstV.row (leastV f (l.take k))) m2 (List.mem_map.2 ⟨_, hmem, rfl⟩) ?_); refine G0 (vs := [x.v, (leastV f (l.take k)).v]) (cap := []) F.bM rfl rfl rfl (U8 x (leastV f (l.take k)) (hs x hx) (hs _ hmem)) k6 ⟨m1, m0, trivial⟩ fun _ _ => ?_; refine r9 rfl rfl rfl (a8 ?_)
  first | refine i4 rfl (fun hb2 => ?_) (fun hb2 => ?_) | refine c5 rfl (fun hb2 => ?_) (fun hb2 => ?_)
  ·have hb2' := hb2; try simp at hb2'
   rw [if_pos hb2] at hlt; refine c7 ?_
   first | refine t9 rfl T.i1 T.d6 rfl mB (by rfl) ?_ | refine u4 rfl T.i1 T.d6 rfl mB (by rfl) ?_ | refine p6 rfl T.i1 T.d6 rfl rfl (k8 mB (n2 (by omega))) ?_
   refine l5 rfl rfl (.swap _ _ _) T.d6 (by rfl) (by rfl) ?_; refine b5 (q6 (c3 (c7 ?_))); refine p9 _ rfl rfl rfl rfl n3 ?_; refine a6 rfl (b5 ?_); refine again _ (k + 1) (by show k + 1 ≤ l.length; omega) (z4 (by omega)) mC ?_ ⟨m2, m3, trivial⟩; show [(gB, Obj.cells (El.cells (leastV f (l.take (k + 1)))).toArray T.n8 (0, 0)), _].Sublist _; rw [hlt]; exact (List.sublist_cons_self _ _).cons_cons _
  have hb2' := hb2; try simp at hb2'
  rw [if_neg hb2] at hlt; refine c4 (q6 (c3 (c7 ?_))); refine p9 _ rfl rfl rfl rfl n3 ?_; refine a6 rfl (b5 ?_); refine again _ (k + 1) (by show k + 1 ≤ l.length; omega) (z4 (by omega)) mC ?_ ⟨m2, m3, trivial⟩; show [(gB, Obj.cells (El.cells (leastV f (l.take (k + 1)))).toArray T.n8 (0, 0)), _].Sublist _; rw [hlt]; exact List.sublist_cons_self _ _
 have hb1' := hb1; try simp at hb1'
 have hk2 : k = l.length := by omega
 subst hk2; refine n5 (A3 (n4 (c3 (b7 ?_))))
 first | refine t9 rfl T.i1 T.d6 rfl mB (by rfl) ?_ | refine u4 rfl T.i1 T.d6 rfl mB (by rfl) ?_ | refine p6 rfl T.i1 T.d6 rfl rfl (k8 mB (n2 (by omega))) ?_
 refine l5 rfl rfl (by first | exact .refl _ | exact perm2 _ _ _ | exact perm3 _ _ _ _ | exact perm4 _ _ _ _ _) T.d6 (by rfl) (by rfl) ?_; refine a8 (g2 ?_); refine V2 () rfl rfl T.i1 T.d6 rfl m0 (by rw [List.take_length]; rfl) rfl trivial i2 trivial
theorem B7 (x : LstV) (m : Mk) (hc : 0 ≤ x.1 ∧ x.1 ≤ 1000000) (hl : x.2.l.length ≤ 1000000) :
    Meets Tryz.prog F.L3 [x.v, .agg #[int m.1, int m.2.1, str m.2.2]] { LI := [x.row], inv := fun o : OutC => (m :: x.2.l).length ≤ o.2, val := fun o => LstV.v (if m.1 = 3 then x.1 else x.1 + 1, ⟨o.1, o.2, m :: x.2.l⟩), LO := fun o => [Row o.1 (rows (m :: x.2.l))] } := by
 unfold LstV.v LstV.row; refine c1 F.dW rfl j9 fun w0 => ?_; refine b7 ?_; refine H5 rfl rfl fun gB => ?_; refine H5 rfl rfl fun gB => ?_; refine p8 rfl (fun _ => T.B3 _) fun gA => ?_; refine a8 (b8 ?_); refine G1 ([]) (_) k6 9 [8] mixed (by decide) (by decide) (by decide) rfl rfl rfl ?_
 apply j4 _ rfl rfl rfl
 ·intro w1
  first | refine a3 ⟨_, 0, none⟩ rfl rfl T.r4 rfl ?_ | refine a3 _ rfl rfl T.r4 rfl ?_
  refine b5 ?_; exact d8 rfl
 apply j4 _ rfl rfl rfl
 ·intro w1
  first | refine a4 rfl T.a5 rfl (b9 mB rfl) ?_ | refine a4 rfl T.a5 rfl (a9 mB rfl) ?_ | refine a4 rfl T.a5 rfl (b6 mB (a7 (by omega) rfl)) ?_ | refine a4 rfl T.a5 rfl (b3 mB (rows_get (by omega) rfl)) ?_
  refine b5 ?_; exact d8 rfl
 apply j4 _ rfl rfl rfl
 ·intro w1
  first | refine t9 rfl T.i6 T.d3 rfl mB (by rfl) ?_ | refine u4 rfl T.i6 T.d3 rfl mB (by rfl) ?_ | refine p6 rfl T.i6 T.d3 rfl rfl (k8 mB (n2 (by omega))) ?_
  refine b5 ?_; exact d8 rfl
 refine bI ⟨Nat, fun _ => True, fun g => .slice (i5 g) 1 1, fun g => [Row (i5 g) (rows [m])]⟩ rfl rfl rfl ?_ ?_
 ·intro w1; refine j3 _ rfl rfl (fun _ => T.z9 ..) fun gS => ?_; refine b5 ?_; refine D1 (rows [m]) ⟨[], List.append_nil _⟩ ?_; exact I2 gS trivial rfl ⟨m0, trivial⟩
 apply j4 _ rfl rfl rfl
 ·intro w1
  first | refine a3 ⟨_, 1, none⟩ rfl rfl T.q9 rfl ?_ | refine a3 _ rfl rfl T.q9 rfl ?_
  refine b5 ?_; exact d8 rfl
 apply j4 _ rfl rfl rfl
 ·intro w1
  first | refine a4 rfl T.c6 rfl (b9 mB rfl) ?_ | refine a4 rfl T.c6 rfl (a9 mB rfl) ?_ | refine a4 rfl T.c6 rfl (b6 mB (a7 (by omega) rfl)) ?_ | refine a4 rfl T.c6 rfl (b3 mB (rows_get (by omega) rfl)) ?_
  refine b5 ?_; exact d8 rfl
 refine bI ⟨OutC, fun o => x.2.l.length + 1 ≤ o.2, fun o => .slice o.1 (x.2.l.length + 1) o.2, fun o => [Row o.1 (rows (m :: x.2.l))]⟩ rfl rfl rfl ?_ ?_
 ·intro g1 _; intro w1; refine pU (x.2.l.length + 1) (rows (m :: x.2.l)) T.I0 rfl rfl rfl m0 (K6 [m]) (Src.row (news := rows x.2.l) m1 (K6 _) (H4 _) (by decide)) (by omega) rfl (by unfold maxLen; omega) (by omega) fun A' c' hc' => ?_; refine b5 ?_; exact I2 (A', c') hc' rfl ⟨m0, trivial⟩
 refine bI ⟨OutC, fun o => x.2.l.length + 1 ≤ o.2, fun o => .agg #[int x.1, .slice o.1 (x.2.l.length + 1) o.2], fun o => [Row o.1 (rows (m :: x.2.l))]⟩ rfl rfl rfl ?_ ?_
 ·intro o ho; intro w1; refine r7 [(0, int x.1), (1, .slice o.1 (x.2.l.length + 1) o.2)] rfl rfl (fun _ => T.kB ..) ?_; refine b5 ?_; exact I2 o ho rfl ⟨m0, trivial⟩
 refine cX ⟨Nat, fun _ => True, fun g => .pointer (i5 g), fun _ => [], fun g => [(g, Obj.cells #[int 0, .slice none 0 0] T.n8 (0, 0))]⟩ rfl rfl rfl ?_ ?_
 ·intro w1; refine p8 rfl (fun _ => T.B3 _) fun gA => ?_; refine b5 ?_; exact I1 gA trivial (fun _ => rfl) (.refl _) trivial
 refine t6 ⟨rfl, ?_⟩; intro g1 _ o1 ho1 o ho g5 _; refine l5 rfl rfl (by first | exact .refl _ | exact perm2 _ _ _ | exact perm3 _ _ _ _ | exact perm4 _ _ _ _ _) T.d6 (by rfl) (by rfl) ?_; refine a8 (b8 (b7 ?_))
 first | refine a3 ⟨_, 0, none⟩ rfl rfl T.g0 rfl ?_ | refine a3 _ rfl rfl T.g0 rfl ?_
 first | refine a4 rfl T.a5 rfl (a9 mB rfl) ?_ | refine a4 rfl T.a5 rfl (b9 mB rfl) ?_ | refine a4 rfl T.a5 rfl (b6 mB (a7 (by omega) rfl)) ?_ | refine a4 rfl T.a5 rfl (b3 mB (rows_get (by omega) rfl)) ?_
 refine u5 rfl rfl rfl (a8 ?_)
 first | refine i4 rfl (fun hb1 => ?_) (fun hb1 => ?_) | refine c5 rfl (fun hb1 => ?_) (fun hb1 => ?_)
 ·have hb1' := hb1; try simp at hb1'
  rw [if_neg hb1]; refine c7 ?_
  first | refine a3 ⟨_, 0, none⟩ rfl rfl T.r4 rfl ?_ | refine a3 _ rfl rfl T.r4 rfl ?_
  first | refine a4 rfl T.a5 rfl (a9 mB rfl) ?_ | refine a4 rfl T.a5 rfl (b9 mB rfl) ?_ | refine a4 rfl T.a5 rfl (b6 mB (a7 (by omega) rfl)) ?_ | refine a4 rfl T.a5 rfl (b3 mB (rows_get (by omega) rfl)) ?_
  refine p9 _ rfl rfl rfl rfl n3 ?_
  first | refine a3 ⟨_, 0, none⟩ rfl rfl T.r4 rfl ?_ | refine a3 _ rfl rfl T.r4 rfl ?_
  refine n1 rfl rfl (by first | exact .refl _ | exact perm2 _ _ _ | exact perm3 _ _ _ _ | exact perm4 _ _ _ _ _) T.G8 (by rfl) (by rfl) ?_; refine j6 ?_
  first | refine t9 rfl T.i1 T.d6 rfl mB (by rfl) ?_ | refine u4 rfl T.i1 T.d6 rfl mB (by rfl) ?_ | refine p6 rfl T.i1 T.d6 rfl rfl (k8 mB (n2 (by omega))) ?_
  refine l5 rfl rfl (.swap _ _ _) T.d6 (by rfl) (by rfl) ?_; refine a8 (g2 ?_); refine V2 o rfl rfl T.i1 T.d6 rfl m0 rfl rfl ho i2 ⟨m0, trivial⟩
 have hb1' := hb1; try simp at hb1'
 rw [if_pos (Classical.not_not.1 hb1)]; refine c4 (c3 (b7 ?_))
 first | refine t9 rfl T.i1 T.d6 rfl mB (by rfl) ?_ | refine u4 rfl T.i1 T.d6 rfl mB (by rfl) ?_ | refine p6 rfl T.i1 T.d6 rfl rfl (k8 mB (n2 (by omega))) ?_
 refine l5 rfl rfl (.swap _ _ _) T.d6 (by rfl) (by rfl) ?_; refine a8 (g2 ?_); refine V2 o rfl rfl T.i1 T.d6 rfl m0 rfl rfl ho i2 ⟨m0, trivial⟩
end Go.Proofs.YtegfgegnhjkcfaaGreatDoor
end
section
namespace Go.Proofs.YtegfgegnhjkcfaaGreatDoor
open Go Go.W
set_option maxRecDepth 20000
attribute [local irreducible] HL HC HQ HB Row Rows2 Blk Facts
def behindP (x : Lst) (m : Mk) : Lst := (if m.1 = 3 then x.1 else x.1 + 1, m :: x.2)
def leastP (f : Lst) (l : List Lst) : Lst := l.foldl (fun f x => if cmpL x f < 0 then x else f) f
def leastOf : List Lst → Lst
  | [] => (0, [])
  | f :: l => leastP f l
def diffP (old page : List Str) (i j : Nat) : Lst :=
  leastOf ((if i = old.length ∧ j = page.length then [(0, [])] else []) ++
    (if h : j < page.length then [behindP (diffP old page i (j + 1)) (1, (i : Int), page.getD j default)] else []) ++
    (if h : i < old.length then [behindP (diffP old page (i + 1) j) (3, (i : Int), [])] else []) ++
    (if h : i < old.length ∧ j < page.length then behindP (diffP old page (i + 1) (j + 1)) (2, (i : Int), page.getD j default) :: (if old.getD i default = page.getD j default then [diffP old page (i + 1) (j + 1)] else []) else []))
termination_by (old.length - i) + (page.length - j)
decreasing_by all_goals omega
theorem vT (f : Lst) (l : List Lst) : leastP f l ∈ f :: l := by
  unfold leastP
  induction l generalizing f with
  | nil => simp
  | cons x l ih =>
    rw [List.foldl_cons]; have := ih (if cmpL x f < 0 then x else f)
    rcases List.mem_cons.1 this with h | h
    · rw [h]; split <;> simp
    simp [h]
theorem uH {l : List Lst} (h : l ≠ []) : leastOf l ∈ l := by
  cases l with
  | nil => exact absurd rfl h
  | cons f l => exact vT f l
theorem vS (f : LstV) (l : List LstV) : (leastV f l).dat = leastP f.dat (l.map LstV.dat) := by
  unfold leastV leastP
  induction l generalizing f with
  | nil => rfl
  | cons x l ih =>
    rw [List.foldl_cons, ih, List.map_cons, List.foldl_cons]
    congr 1
    split <;> rfl
theorem xQ {f : LstV} {l : List LstV} {c : List Lst} (h : (f :: l).map LstV.dat = c) : (leastV f l).dat = leastOf c := by
  rw [← h, vS]; rfl
theorem uS (old page : List Str) : ∀ (d i j : Nat), (old.length - i) + (page.length - j) ≤ d → 0 ≤ (diffP old page i j).1 ∧ (diffP old page i j).1 ≤ (old.length - i : Nat) + (page.length - j : Nat) ∧ (diffP old page i j).2.length ≤ (old.length - i) + (page.length - j) := by
  intro d
  induction d with
  | zero =>
    intro i j h; unfold diffP; rw [dif_neg (by omega), dif_neg (by omega), dif_neg (by omega)]
    split <;> simp [leastOf, leastP] <;> omega
  | succ d ih =>
    intro i j h
    have key : ∀ c : List Lst, (∀ x ∈ c, 0 ≤ x.1 ∧ x.1 ≤ (old.length - i : Nat) + (page.length - j : Nat) ∧ x.2.length ≤ (old.length - i) + (page.length - j)) → 0 ≤ (leastOf c).1 ∧ (leastOf c).1 ≤ (old.length - i : Nat) + (page.length - j : Nat) ∧ (leastOf c).2.length ≤ (old.length - i) + (page.length - j) := by
      intro c hc
      by_cases hn : c = []
      · subst hn; simp [leastOf]; omega
      exact hc _ (uH hn)
    have bh : ∀ (x : Lst) (m : Mk) (N : Nat), 0 ≤ x.1 ∧ x.1 ≤ (N : Int) ∧ x.2.length ≤ N → 0 ≤ (behindP x m).1 ∧ (behindP x m).1 ≤ ((N + 1 : Nat) : Int) ∧ (behindP x m).2.length ≤ N + 1 := by
      intro x m N hx; unfold behindP; refine ⟨?_, ?_, ?_⟩
      · simp only; split <;> omega
      · simp only; split <;> omega
      simp only [List.length_cons]; omega
    unfold diffP; refine key _ fun x hx => ?_; simp only [List.mem_append] at hx
    rcases hx with ((hx | hx) | hx) | hx
    · split at hx
      · simp at hx; subst hx; simp; omega
      simp at hx
    · split at hx
      · rename_i hj
        simp at hx; subst hx
        have := bh (diffP old page i (j + 1)) (1, (i : Int), page.getD j default) ((old.length - i) + (page.length - (j + 1))) (by have := ih i (j + 1) (by omega); omega); have e : page.length - j = page.length - (j + 1) + 1 := by omega
        simp only [List.getD_eq_getElem?_getD] at this
        omega
      simp at hx
    · split at hx
      · rename_i hj
        simp at hx; subst hx
        have := bh (diffP old page (i + 1) j) (3, (i : Int), ([] : Str)) ((old.length - (i + 1)) + (page.length - j)) (by have := ih (i + 1) j (by omega); omega)
        omega
      simp at hx
    split at hx
    · rename_i hj
      have h2 := ih (i + 1) (j + 1) (by omega)
      rcases List.mem_cons.1 hx with hx | hx
      · subst hx
        have := bh (diffP old page (i + 1) (j + 1)) (2, (i : Int), page.getD j default) ((old.length - (i + 1)) + (page.length - (j + 1))) (by omega)
        omega
      split at hx
      · simp at hx; subst hx; omega
      simp at hx
    simp at hx
abbrev Memo := List (Ment (Int × Int))
def MI (old page : List Str) (l : Memo) (Fs : List Fact) : Prop := ∀ e ∈ l, ∃ (x : LstV) (i j : Nat), e.2.1 = x.v ∧ x.row ∈ Fs ∧ e.1 = ((i : Int), (j : Int)) ∧ x.dat = diffP old page i j
theorem MI.mono {old page : List Str} {l : Memo} {Fs Gs : List Fact} (h : MI old page l Fs) (hs : ∀ F ∈ Fs, F ∈ Gs) : MI old page l Gs := fun e he => by
  obtain ⟨x, i, j, h1, h2, h3⟩ := h e he; exact ⟨x, i, j, h1, hs _ h2, h3⟩
theorem MI.get {old page : List Str} {l : Memo} {Fs : List Fact} (h : MI old page l Fs) {i j : Nat} {v : Value} (hv : getM l ((i : Int), (j : Int)) = some v) : ∃ x : LstV, v = x.v ∧ x.row ∈ Fs ∧ x.dat = diffP old page i j := by
  obtain ⟨e, he, h1, h2⟩ := aq2 hv; obtain ⟨x, i', j', h3, h4, h5, h6⟩ := h e he; rw [h1] at h5; simp only [Prod.mk.injEq, Int.natCast_inj] at h5; obtain ⟨rfl, rfl⟩ := h5; exact ⟨x, h2 ▸ h3, h4, h6⟩
theorem MI.put {old page : List Str} {l : Memo} {Fs : List Fact} (h : MI old page l Fs) {i j clk : Nat} {x : LstV} (hx : x.row ∈ Fs) (hd : x.dat = diffP old page i j) : MI old page (putM l ((i : Int), (j : Int)) x.v clk) Fs := fun e he => by
  rcases zQ he with ⟨h1, h2⟩ | he
  · exact ⟨x, i, j, h2, hx, h1, hd⟩
  exact h e he
theorem zv_list (w : World) : (zeroValue T.n8).run Tryz.prog w = .ok (.agg #[int 0, .slice none 0 0]) w := by kernel_rfl
abbrev KP : KeyC Tryz.prog T.H2 pair := KeyC.pair T.yW T.qS T.G8
def capV (gk go gp gf : Nat) : Value := .func (.func F.R6) #[] #[.pointer (i5 gk), .pointer (i5 go), .pointer (i5 gp), .pointer (i5 gf)]
def cellsD (gk gm go gp gf : Nat) (A B : Option Addr) (n ca m cb : Nat) : List Fact :=
  [Blk gk (.cells #[.map (some gm)] T.A7 (0, 0)), Blk go (.cells #[.slice A n ca] T.strs (0, 0)), Blk gp (.cells #[.slice B m cb] T.strs (0, 0)), Blk gf (.cells #[capV gk go gp gf] T.B9 (0, 0))]
def diffCon (gk gm go gp gf : Nat) (A B : Option Addr) (ca cb : Nat) (old page : List Str) (l : Memo) (clk : Nat) (Fs : List Fact) (i j : Nat) : Con (Memo × Nat × List Fact × LstV) :=
  { hpI := [(gm, mapO pair l clk)], LI := Facts Fs :: Row A (rows old) :: Row B (rows page) :: cellsD gk gm go gp gf A B old.length ca page.length cb,
    inv := fun x => MI old page x.1 x.2.2.1 ∧ x.2.2.2.dat = diffP old page i j, val := fun x => x.2.2.2.v, hpO := fun x => [(gm, mapO pair x.1 x.2.1)], LO := fun x => [x.2.2.2.row, Facts x.2.2.1] }
def argD (gk go gp gf : Nat) (i j : Nat) : List Value := [int i, int j, .pointer (i5 gk), .pointer (i5 go), .pointer (i5 gp), .pointer (i5 gf)]
def cand0 (old page : List Str) (i j : Nat) : List Lst := if i = old.length ∧ j = page.length then [(0, [])] else []
def cand1 (old page : List Str) (i j : Nat) : List Lst := cand0 old page i j ++ (if j < page.length then [behindP (diffP old page i (j + 1)) (1, (i : Int), page.getD j default)] else [])
def cand2 (old page : List Str) (i j : Nat) : List Lst := cand1 old page i j ++ (if i < old.length then [behindP (diffP old page (i + 1) j) (3, (i : Int), [])] else [])
def cand3 (old page : List Str) (i j : Nat) : List Lst := cand2 old page i j ++ (if i < old.length ∧ j < page.length then behindP (diffP old page (i + 1) (j + 1)) (2, (i : Int), page.getD j default) :: (if old.getD i default = page.getD j default then [diffP old page (i + 1) (j + 1)] else []) else [])
theorem aq5 (old page : List Str) (i j : Nat) : diffP old page i j = leastOf (cand3 old page i j) := by
  rw [diffP]; simp only [dite_eq_ite, cand3, cand2, cand1, cand0]
theorem bdV {old page : List Str} {x : LstV} {i j : Nat} (h : x.dat = diffP old page i j) (ho : old.length ≤ 1000) (hp : page.length ≤ 1000) : (0 ≤ x.1 ∧ x.1 ≤ 1000000) ∧ x.2.l.length ≤ 1000000 := by
  have := uS old page _ i j (Nat.le_refl _); rw [← h] at this; obtain ⟨h1, h2, h3⟩ := this; simp only [LstV.dat] at h1 h2 h3; exact ⟨⟨h1, by omega⟩, by omega⟩
theorem pm8 {α : Type} (l : List α) (a b c : α) : ((a :: l) ++ [b, c]).Perm (l ++ [a, b, c]) := I4 fun p => by simp only [List.countP_append, List.countP_cons, List.countP_nil]; omega
theorem pm9 {α : Type} (l : List α) (s a b c : α) : (s :: a :: (l ++ [b, c])).Perm (l ++ [s, a, b, c]) := I4 fun p => by simp only [List.countP_append, List.countP_cons, List.countP_nil]; omega
theorem pm10 {α : Type} (l : List α) (a b c d : α) : (l ++ [a, b, c, d]).Perm (a :: (l ++ [b, c, d])) := I4 fun p => by simp only [List.countP_append, List.countP_cons, List.countP_nil]; omega
theorem pm11 {α : Type} (l : List α) (s a b c d : α) : (s :: a :: (l ++ [b, c, d])).Perm (l ++ [s, a, b, c, d]) := I4 fun p => by simp only [List.countP_append, List.countP_cons, List.countP_nil]; omega
theorem aq9 {old page : List Str} {i j : Nat} (hi : i ≤ old.length) (hj : j ≤ page.length) : cand3 old page i j ≠ [] := by
  unfold cand3 cand2 cand1 cand0
  by_cases h1 : j < page.length
  · simp [h1]
  by_cases h2 : i < old.length
  · simp [h2]
  have e1 : i = old.length := by omega
  have e2 : j = page.length := by omega
  simp [e1, e2]
theorem ax0 {old page : List Str} {i j : Nat} (ho : old.length ≤ 1000) (hp : page.length ≤ 1000) : ∀ x ∈ cand3 old page i j, x.2.length ≤ 1000000 := by
  have b : ∀ a b, (diffP old page a b).2.length ≤ 2000 := fun a b => by have := (uS old page _ a b (Nat.le_refl _)).2.2; omega
  intro x hx; unfold cand3 cand2 cand1 cand0 at hx; simp only [List.mem_append] at hx
  rcases hx with ((hx | hx) | hx) | hx
  · split at hx <;> simp at hx
    subst hx; simp
  · split at hx <;> simp at hx
    subst hx; have := b i (j + 1); simp only [behindP, List.length_cons]; omega
  · split at hx <;> simp at hx
    subst hx; have := b (i + 1) j; simp only [behindP, List.length_cons]; omega
  split at hx
  · rcases List.mem_cons.1 hx with hx | hx
    · subst hx; have := b (i + 1) (j + 1); simp only [behindP, List.length_cons]; omega
    split at hx <;> simp at hx
    subst hx; have := b (i + 1) (j + 1); omega
  simp at hx
theorem rD (old page : List Str) (i j : Nat) : (cand2 old page i j).length ≤ 3 := by
  have h1 : ∀ (p : Prop) [Decidable p] (x : Lst), (if p then [x] else []).length ≤ 1 := by intro p _ x; split <;> simp
  unfold cand2 cand1 cand0; rw [List.length_append, List.length_append]; have a := h1 (i = old.length ∧ j = page.length) (0, []); have b := h1 (j < page.length) (behindP (diffP old page i (j + 1)) (1, (i : Int), page.getD j default)); have c := h1 (i < old.length) (behindP (diffP old page (i + 1) j) (3, (i : Int), []))
  omega
structure DSt where
  l : Memo
  clk : Nat
  Fs : List Fact
  cs : List LstV
  o : OutC
  og : Hp
def dInv (old page : List Str) (c : List Lst) (x : DSt) : Prop := MI old page x.l x.Fs ∧ x.cs.map LstV.dat = c ∧ Grow T.n8 2 x.o.1 x.cs.length x.o.2 (rows x.cs) x.og ∧ (∀ y ∈ x.cs, y.row ∈ x.Fs) ∧ x.cs.length ≤ 10
abbrev dSta (gk gm go gp gf g8 g9 : Nat) (A B : Option Addr) (ca cb : Nat) (old page : List Str) (i j : Nat) (c : List Lst) : Sta DSt :=
  { inv := dInv old page c
    fr := fun x => [(0, int i), (1, int j), (2, .pointer (i5 gk)), (3, .pointer (i5 go)), (4, .pointer (i5 gp)), (5, .pointer (i5 gf)), (8, .pointer (i5 g8)), (9, .pointer (i5 g9)), (12, .slice x.o.1 x.cs.length x.o.2)]
    hp := fun x => (gm, mapO pair x.l x.clk) :: (x.og ++ [(g8, .cells #[int 0, .slice none 0 0] T.n8 (0, 0)), (g9, .cells #[int i, int j] T.H2 (0, 0))])
    L := fun x => Facts x.Fs :: Row A (rows old) :: Row B (rows page) :: cellsD gk gm go gp gf A B old.length ca page.length cb }
theorem hJ {gk gm go gp gf : Nat} {A B : Option Addr} {ca cb : Nat} {old page : List Str} (ho : old.length ≤ 1000) (hpl : page.length ≤ 1000) (d : Nat) : ∀ (i j : Nat) (l : Memo) (clk : Nat) (Fs : List Fact), (old.length - i) + (page.length - j) < d → i ≤ old.length → j ≤ page.length → MI old page l Fs →
    Meets Tryz.prog F.R6 (argD gk go gp gf i j) (diffCon gk gm go gp gf A B ca cb old page l clk Fs i j) := by
 induction d
 case zero => intro i j l clk Fs hd; omega
 rename_i d ih
 intro i j l clk Fs hd hi hj hM; refine c1 F.nK rfl j9 fun w0 => ?_; refine b7 ?_; refine p8 rfl (fun _ => T.B3 _) fun g8 => ?_; refine j6 (a6 rfl (a6 rfl ?_)); refine r7 _ rfl rfl (fun _ => T.qP ..) ?_; refine p8 rfl (fun _ => T.yL _) fun g9 => ?_; refine l5 rfl rfl (by first | exact .refl _ | exact perm2 _ _ _ | exact perm3 _ _ _ _ | exact perm4 _ _ _ _ _) T.D4 (by rfl) (by rfl) ?_; refine a8 (mF ?_)
 obtain ⟨y, b, hv, hb, hy⟩ : ∃ (y : LstV) (b : Bool), (getM l ((i : Int), (j : Int))).getD (.agg #[int 0, .slice none 0 0]) = y.v ∧ (getM l ((i : Int), (j : Int))).isSome = b ∧ (b = true → y.row ∈ Fs ∧ y.dat = diffP old page i j) := by
   cases hg : getM l ((i : Int), (j : Int)) with
   | none => exact ⟨(0, ⟨none, 0, []⟩), false, rfl, rfl, by intro h; cases h⟩
   | some v =>
     obtain ⟨y, rfl, h1, h2⟩ := hM.get hg; exact ⟨y, true, rfl, rfl, fun _ => ⟨h1, h2⟩⟩
 refine c7 ?_
 first | refine a4 rfl T.j5 rfl (a9 mB rfl) ?_ | refine a4 rfl T.j5 rfl (b9 mB rfl) ?_ | refine a4 rfl T.j5 rfl (b6 mB (a7 (by omega) rfl)) ?_ | refine a4 rfl T.j5 rfl (b3 mB (rows_get (by omega) rfl)) ?_
 first | refine t9 rfl T.C3 T.D4 rfl mB (by rfl) ?_ | refine u4 rfl T.C3 T.D4 rfl mB (by rfl) ?_ | refine p6 rfl T.C3 T.D4 rfl rfl (k8 mB (n2 (by omega))) ?_
 refine xK (k := ((i : Int), (j : Int))) _ _ b KP rfl T.C1 rfl rfl (sH m2) zv_list hv hb ?_; refine a6 rfl (i9 rfl rfl rfl (i9 rfl rfl rfl ?_)); refine p8 rfl (fun _ => T.B3 _) fun g10 => ?_; refine l5 rfl rfl (by first | exact .refl _ | exact perm2 _ _ _ | exact perm3 _ _ _ _ | exact perm4 _ _ _ _ _) T.d6 (by rfl) (by rfl) ?_; refine b4 rfl (j6 (a6 rfl (a8 ?_)))
 first | refine i4 rfl (fun hb1 => ?_) (fun hb1 => ?_) | refine c5 rfl (fun hb1 => ?_) (fun hb1 => ?_)
 ·have hb1' := hb1; try simp at hb1'
  obtain ⟨hy1, hy2⟩ := hy hb1; refine b7 ?_
  first | refine t9 rfl T.i1 T.d6 rfl mB (by rfl) ?_ | refine u4 rfl T.i1 T.d6 rfl mB (by rfl) ?_ | refine p6 rfl T.i1 T.d6 rfl rfl (k8 mB (n2 (by omega))) ?_
  refine l5 rfl rfl (by first | exact .refl _ | exact perm2 _ _ _ | exact perm3 _ _ _ _ | exact perm4 _ _ _ _ _) T.d6 (by rfl) (by rfl) ?_; refine a8 (t5 ?_); refine hq_pick (F := y.row) m0 hy1 ?_; exact V2 (l, clk, Fs, y) rfl rfl T.i1 T.d6 rfl m0 rfl rfl ⟨hM, hy2⟩ (.cons _ (.cons _ (.cons _ (.refl _)))) ⟨m0, m1, trivial⟩
 have hb1' := hb1; try simp at hb1'
 refine c4 (c3 (b7 (b4 rfl (a8 ?_)))); refine kV (dSta gk gm go gp gf g8 g9 A B ca cb old page i j (cand0 old page i j)) ?_ ?_
 ·skip
  refine b7 (a6 rfl ?_)
  first | refine a4 rfl T.d9 rfl (a9 mB rfl) ?_ | refine a4 rfl T.d9 rfl (b9 mB rfl) ?_ | refine a4 rfl T.d9 rfl (b6 mB (a7 (by omega) rfl)) ?_ | refine a4 rfl T.d9 rfl (b3 mB (rows_get (by omega) rfl)) ?_
  refine j0 rfl T.t4 rfl ?_; refine t7 rfl rfl rfl (a6 rfl ?_); refine k9 rfl rfl ?_ ?_
  ·intro hg1; have hg1' := hg1; try simp at hg1'
   refine d7 rfl rfl hg1 (a6 rfl (d7 rfl rfl hg1 ?_))
   first | refine a4 rfl T.d9 rfl (a9 mB rfl) ?_ | refine a4 rfl T.d9 rfl (b9 mB rfl) ?_ | refine a4 rfl T.d9 rfl (b6 mB (a7 (by omega) rfl)) ?_ | refine a4 rfl T.d9 rfl (b3 mB (rows_get (by omega) rfl)) ?_
   refine d7 rfl rfl hg1 (j0 rfl T.t4 rfl ?_); refine d7 rfl rfl hg1 (t7 rfl rfl rfl ?_); refine p_t rfl rfl (bt1 hg1) rfl ?_; refine a8 ?_
   first | refine i4 rfl (fun hb2 => ?_) (fun hb2 => ?_) | refine c5 rfl (fun hb2 => ?_) (fun hb2 => ?_)
   ·have hb2' := hb2; try simp at hb2'
    refine c7 (a6 rfl ?_); refine r7 _ rfl rfl (fun _ => T.pM ..) ?_; refine j3 _ rfl rfl (fun _ => T.B0 ..) fun gS => ?_; refine v5 1 (rows [((0, ⟨none, 0, []⟩) : LstV)]) T.D2 rfl rfl rfl (Grow.nil _ _) (.refl _) (Src.own (m := 1) m0 rfl rfl) rfl rfl (by decide) (by decide) fun A' c' og' hG' => ?_; refine b4 rfl (b5 ?_); refine G6 (α := Mk) ?_
    refine cW (Fs := Row none (rows ([] : List Mk)) :: Fs) (fun F hF => by
      rcases List.mem_cons.1 hF with rfl | hF
      · exact .inl m0
      exact .inr ⟨Fs, m1, hF⟩) ?_
    exact dC _ ⟨l, clk, _, [(0, ⟨none, 0, []⟩)], (A', c'), og'⟩ ⟨hM.mono (fun _ h => List.mem_cons_of_mem _ h), by rw [cand0, if_pos (by omega)]; rfl, hG', by simp [LstV.row], by simp⟩ mC (fun p => by simp only [int, T.H2, T.n8, diffCon, dSta, List.countP_append, List.countP_cons, List.countP_nil]; omega) ⟨m0, m3, m4, m5, m6, m7, m8, trivial⟩
   have hb2' := hb2; try simp at hb2'
   refine c4 ?_; exact dC _ ⟨l, clk, Fs, [], (none, 0), []⟩ ⟨hM, by rw [cand0, if_neg (by omega)]; rfl, Grow.nil _ _, by simp, by simp⟩ mC (fun p => by simp only [int, T.H2, T.n8, diffCon, dSta, List.countP_append, List.countP_cons, List.countP_nil]; omega) ⟨m0, m1, m2, m3, m4, m5, m6, trivial⟩
  intro hg1; have hg1' := hg1; try simp at hg1'
  refine k4 rfl rfl rfl rfl rfl hg1 (k4 rfl rfl rfl rfl rfl hg1 (k4 rfl rfl rfl rfl rfl hg1 (k4 rfl rfl rfl rfl rfl hg1 ?_))); refine p_f rfl rfl (bf2 hg1) rfl ?_; refine a8 (c_f rfl rfl (c4 ?_)); exact dC _ ⟨l, clk, Fs, [], (none, 0), []⟩ ⟨hM, by rw [cand0, if_neg (by omega)]; rfl, Grow.nil _ _, by simp, by simp⟩ mC (fun p => by simp only [int, T.H2, T.n8, diffCon, dSta, List.countP_append, List.countP_cons, List.countP_nil]; omega) ⟨m0, m1, m2, m3, m4, m5, m6, trivial⟩
 refine fun x hx => ?_; obtain ⟨l, clk, Fs, cs, o, og⟩ := x; obtain ⟨hM, hcs, hG, hrow, hlen⟩ := hx; simp only at hM hcs hG hrow hlen; refine kV (dSta gk gm go gp gf g8 g9 A B ca cb old page i j (cand1 old page i j)) ?_ ?_
 ·skip
  refine b7 (a6 rfl ?_)
  first | refine a4 rfl T.d9 rfl (a9 mB rfl) ?_ | refine a4 rfl T.d9 rfl (b9 mB rfl) ?_ | refine a4 rfl T.d9 rfl (b6 mB (a7 (by omega) rfl)) ?_ | refine a4 rfl T.d9 rfl (b3 mB (rows_get (by omega) rfl)) ?_
  refine j0 rfl T.t4 rfl ?_; refine r9 rfl rfl rfl (a8 ?_)
  first | refine i4 rfl (fun hb3 => ?_) (fun hb3 => ?_) | refine c5 rfl (fun hb3 => ?_) (fun hb3 => ?_)
  ·have hb3' := hb3; try simp at hb3'
   have hj3 : j < page.length := by omega
   refine G1 ((gm, mapO pair l clk) :: og) ([_, _]) k6 14 [5] mixed (by decide) (by decide) (by decide) rfl rfl rfl (i7 (fun w1 => a6 rfl (q_z rfl)) ?_)
   apply j4 _ rfl rfl rfl
   ·intro w1
    first | refine a4 rfl T.h8 rfl (b9 mB rfl) ?_ | refine a4 rfl T.h8 rfl (a9 mB rfl) ?_ | refine a4 rfl T.h8 rfl (b6 mB (a7 (by omega) rfl)) ?_ | refine a4 rfl T.h8 rfl (b3 mB (rows_get (by omega) rfl)) ?_
    refine b5 ?_; exact d8 rfl
   refine i7 (fun w1 => a6 rfl (q_z rfl)) (i7 (fun w1 => a6 rfl (q_z rfl)) (i7 (fun w1 => p9 ((j + 1 : Nat) : Int) rfl rfl rfl (by omega) n3 (q_z rfl)) ?_)); refine cX ⟨Memo × Nat × List Fact × LstV, fun x => MI old page x.1 x.2.2.1 ∧ x.2.2.2.dat = diffP old page i (j + 1), fun x => x.2.2.2.v, fun x => [x.2.2.2.row, Facts x.2.2.1], fun x => (gm, mapO pair x.1 x.2.1) :: og⟩ rfl rfl rfl ?_ ?_
   ·intro w1; refine G0 (vs := [int i, int ((j + 1 : Nat) : Int)]) F.I3 rfl rfl rfl (ih i (j + 1) l clk Fs (by omega) hi (by omega) hM) k6 ⟨m0, m1, m2, m3, m4, m5, m6, trivial⟩ fun x hx => ?_; refine b5 ?_; exact I1 x hx (fun _ => rfl) (.refl _) ⟨m0, m1, trivial⟩
   refine i7 (fun w1 => a6 rfl (q_z rfl)) ?_
   apply j4 _ rfl rfl rfl
   ·intro w1
    first | refine a4 rfl T.d9 rfl (b9 mB rfl) ?_ | refine a4 rfl T.d9 rfl (a9 mB rfl) ?_ | refine a4 rfl T.d9 rfl (b6 mB (a7 (by omega) rfl)) ?_ | refine a4 rfl T.d9 rfl (b3 mB (rows_get (by omega) rfl)) ?_
    refine b5 ?_; exact d8 rfl
   refine i7 (fun w1 => a6 rfl (q_z rfl)) (i7 (fun w1 => r6 (α := Str) _ _ rfl T.t4 T.u6 rfl rfl rfl mB rfl (by omega) (by decide) (q_z rfl)) (i7 (fun w1 => a4 rfl T.i3 rfl (b6 mB (a7 (by omega) rfl)) (q_z rfl)) (i7 (fun w1 => r7 _ rfl rfl (fun _ => T.v4 ..) (q_z rfl)) ?_))); refine bI ⟨LstV, fun y => y.dat = behindP (diffP old page i (j + 1)) (1, (i : Int), page.getD j default), fun y => .agg #[int y.1, .slice y.2.a y.2.l.length y.2.c], fun y => [y.row]⟩ rfl rfl rfl ?_ ?_
   ·intro x hx; intro w1; refine c8 F.E8 rfl rfl (B7 x.2.2.2 (1, (i : Int), page.getD j default) (bdV hx.2 ho hpl).1 (bdV hx.2 ho hpl).2) k6 ⟨m0, trivial⟩ fun o1 ho1 => ?_; refine b5 ?_; exact I2 (_, ⟨o1.1, o1.2, _⟩) (by rw [← hx.2]; rfl) rfl ⟨m0, trivial⟩
   refine bI ⟨Nat × LstV, fun z => z.2.dat = behindP (diffP old page i (j + 1)) (1, (i : Int), page.getD j default), fun z => .slice (some ⟨z.1, 0, none⟩) 1 1, fun z => [Row (some ⟨z.1, 0, none⟩) (rows [z.2]), z.2.row]⟩ rfl rfl rfl ?_ ?_
   ·intro y hy; intro w1; refine j3 _ rfl rfl (fun _ => T.B0 ..) fun gS => ?_; refine b5 ?_; refine D1 (rows [y]) ⟨[], List.append_nil _⟩ ?_; exact I2 (gS, y) hy rfl ⟨m0, m1, trivial⟩
   refine t6 ⟨rfl, ?_⟩; intro x hx y1 hy1 z hz; refine v5 (cs.length + 1) (rows (cs ++ [z.2])) T.D2 rfl rfl rfl hG (pm8 _ _ _ _) (Src.row (news := rows [z.2]) (m := 1) m0 rfl (H4 _) (by decide)) rfl (s4 cs [z.2]).symm (by unfold maxLen; omega) (by omega) fun A' c' og' hG' => ?_; refine b4 rfl (b5 ?_); have hl0 : cs.length ≤ 1 := by have := congrArg List.length hcs; rw [List.length_map] at this; rw [this, cand0]; split <;> simp
   refine cW (Fs := z.2.row :: (x.2.2.1 ++ Fs)) (fun F hF => by
     rcases List.mem_cons.1 hF with rfl | hF
     · exact .inl m1
     rcases List.mem_append.1 hF with hF | hF
     · exact .inr ⟨_, m4, hF⟩
     exact .inr ⟨Fs, m5, hF⟩) ?_
   exact dC _ ⟨x.1, x.2.1, z.2.row :: (x.2.2.1 ++ Fs), cs ++ [z.2], (A', c'), og'⟩ ⟨hx.1.mono (fun F h => by simp [h]), by rw [List.map_append, hcs, cand1, if_pos hj3]; show _ ++ [z.2.dat] = _; rw [show z.2.dat = _ from hz], by rw [l6]; exact hG', fun y hy => by
     rcases List.mem_append.1 hy with h | h
     · simp [hrow y h]
     simp at h; subst h; simp, by rw [l6]; omega⟩ ⟨rfl, rfl, rfl, rfl, rfl, rfl, rfl, rfl, by rw [l6]; rfl, trivial⟩ (fun p => by simp only [int, T.H2, T.n8, diffCon, dSta, List.countP_append, List.countP_cons, List.countP_nil]; omega) ⟨m0, m7, m8, m9, m10, m11, m12, trivial⟩
  have hb3' := hb3; try simp at hb3'
  have hj3 : ¬ j < page.length := by omega
  refine c4 ?_; exact dC _ ⟨l, clk, Fs, cs, o, og⟩ ⟨hM, by rw [hcs, cand1, if_neg hj3, List.append_nil], hG, hrow, hlen⟩ mC (fun p => by simp only [int, T.H2, T.n8, diffCon, dSta, List.countP_append, List.countP_cons, List.countP_nil]; omega) ⟨m0, m1, m2, m3, m4, m5, m6, trivial⟩
 refine fun x hx => ?_; obtain ⟨l, clk, Fs, cs, o, og⟩ := x; obtain ⟨hM, hcs, hG, hrow, hlen⟩ := hx; simp only at hM hcs hG hrow hlen; refine kV (dSta gk gm go gp gf g8 g9 A B ca cb old page i j (cand2 old page i j)) ?_ ?_
 ·skip
  refine b7 (a6 rfl ?_)
  first | refine a4 rfl T.d9 rfl (a9 mB rfl) ?_ | refine a4 rfl T.d9 rfl (b9 mB rfl) ?_ | refine a4 rfl T.d9 rfl (b6 mB (a7 (by omega) rfl)) ?_ | refine a4 rfl T.d9 rfl (b3 mB (rows_get (by omega) rfl)) ?_
  refine j0 rfl T.t4 rfl ?_; refine r9 rfl rfl rfl (a8 ?_)
  first | refine i4 rfl (fun hb4 => ?_) (fun hb4 => ?_) | refine c5 rfl (fun hb4 => ?_) (fun hb4 => ?_)
  ·have hb4' := hb4; try simp at hb4'
   have hi4 : i < old.length := by omega
   refine c7 (a6 rfl ?_)
   first | refine a4 rfl T.h8 rfl (a9 mB rfl) ?_ | refine a4 rfl T.h8 rfl (b9 mB rfl) ?_ | refine a4 rfl T.h8 rfl (b6 mB (a7 (by omega) rfl)) ?_ | refine a4 rfl T.h8 rfl (b3 mB (rows_get (by omega) rfl)) ?_
   refine a6 rfl (p9 ((i + 1 : Nat) : Int) rfl rfl rfl (by omega) n3 (a6 rfl ?_)); refine G0 (vs := [int ((i + 1 : Nat) : Int), int j]) F.I3 rfl rfl rfl (ih (i + 1) j l clk Fs (by omega) (by omega) hj hM) k6 ⟨m0, m1, m2, m3, m4, m5, m6, trivial⟩ fun x hx => ?_; refine a6 rfl (r7 _ rfl rfl (fun _ => T.Q2 ..) ?_); refine c8 F.E8 rfl rfl (B7 x.2.2.2 (3, (i : Int), []) (bdV hx.2 ho hpl).1 (bdV hx.2 ho hpl).2) k6 ⟨m0, trivial⟩ fun o1 ho1 => ?_; obtain ⟨z, hz⟩ : ∃ z : LstV, z = (x.2.2.2.1, ⟨o1.1, o1.2, (3, (i : Int), []) :: x.2.2.2.2.l⟩) := ⟨_, rfl⟩; have hzd : z.dat = behindP (diffP old page (i + 1) j) (3, (i : Int), []) := by rw [hz, ← hx.2]; rfl
   refine wU (F := z.row) (fun w hw => by rw [hz]; exact hw.fs _ m0) (fun k hk => ⟨_, m0, by rw [hz] at hk; exact hk⟩) ?_; refine j3 [(0, .agg #[int z.1, .slice z.2.a z.2.l.length z.2.c])] rfl (by rw [hz]; rfl) (fun _ => T.B0 ..) fun gS => ?_; refine v5 (cs.length + 1) (rows (cs ++ [z])) T.D2 rfl rfl rfl hG (pm9 _ _ _ _ _) (Src.own (cs := (El.cells z).toArray) (m := 1) (List.mem_append_right _ m0) rfl rfl) rfl (by rw [s4]; simp [rows]) (by unfold maxLen; omega) (by omega) fun A' c' og' hG' => ?_; refine b4 rfl (b5 ?_); have hl0 : cs.length ≤ 2 := by have := congrArg List.length hcs; rw [List.length_map] at this; rw [this, cand1, cand0, List.length_append]; split <;> split <;> simp
   refine cW (Fs := z.row :: (x.2.2.1 ++ Fs)) (fun F hF => by
     rcases List.mem_cons.1 hF with rfl | hF
     · exact .inl m0
     rcases List.mem_append.1 hF with hF | hF
     · exact .inr ⟨_, m3, hF⟩
     exact .inr ⟨Fs, m4, hF⟩) ?_
   exact dC _ ⟨x.1, x.2.1, z.row :: (x.2.2.1 ++ Fs), cs ++ [z], (A', c'), og'⟩ ⟨hx.1.mono (fun F h => by simp [h]), by rw [List.map_append, hcs, cand2, if_pos hi4]; show _ ++ [z.dat] = _; rw [hzd], by rw [l6]; exact hG', fun y hy => by
     rcases List.mem_append.1 hy with h | h
     · simp [hrow y h]
     simp at h; subst h; simp, by rw [l6]; omega⟩ ⟨rfl, rfl, rfl, rfl, rfl, rfl, rfl, rfl, by rw [l6]; rfl, trivial⟩ (fun p => by simp only [int, T.H2, T.n8, diffCon, dSta, List.countP_append, List.countP_cons, List.countP_nil]; omega) ⟨m0, m6, m7, m8, m9, m10, m11, trivial⟩
  have hb4' := hb4; try simp at hb4'
  have hi4 : ¬ i < old.length := by omega
  refine c4 ?_; exact dC _ ⟨l, clk, Fs, cs, o, og⟩ ⟨hM, by rw [hcs, cand2, if_neg hi4, List.append_nil], hG, hrow, hlen⟩ mC (fun p => by simp only [int, T.H2, T.n8, diffCon, dSta, List.countP_append, List.countP_cons, List.countP_nil]; omega) ⟨m0, m1, m2, m3, m4, m5, m6, trivial⟩
 refine fun x hx => ?_; obtain ⟨l, clk, Fs, cs, o, og⟩ := x; obtain ⟨hM, hcs, hG, hrow, hlen⟩ := hx; simp only at hM hcs hG hrow hlen; refine kV (dSta gk gm go gp gf g8 g9 A B ca cb old page i j (cand3 old page i j)) ?_ ?_
 ·skip
  refine b7 (a6 rfl ?_)
  first | refine a4 rfl T.d9 rfl (a9 mB rfl) ?_ | refine a4 rfl T.d9 rfl (b9 mB rfl) ?_ | refine a4 rfl T.d9 rfl (b6 mB (a7 (by omega) rfl)) ?_ | refine a4 rfl T.d9 rfl (b3 mB (rows_get (by omega) rfl)) ?_
  refine j0 rfl T.t4 rfl ?_; refine r9 rfl rfl rfl (a6 rfl ?_); refine k9 rfl rfl ?_ ?_
  ·intro hg2; have hg2' := hg2; try simp at hg2'
   refine d7 rfl rfl hg2 (a6 rfl (d7 rfl rfl hg2 ?_))
   first | refine a4 rfl T.d9 rfl (a9 mB rfl) ?_ | refine a4 rfl T.d9 rfl (b9 mB rfl) ?_ | refine a4 rfl T.d9 rfl (b6 mB (a7 (by omega) rfl)) ?_ | refine a4 rfl T.d9 rfl (b3 mB (rows_get (by omega) rfl)) ?_
   refine d7 rfl rfl hg2 (j0 rfl T.t4 rfl ?_); refine d7 rfl rfl hg2 (r9 rfl rfl rfl ?_); refine p_t rfl rfl (bt1 hg2) rfl ?_; refine a8 ?_
   first | refine i4 rfl (fun hb5 => ?_) (fun hb5 => ?_) | refine c5 rfl (fun hb5 => ?_) (fun hb5 => ?_)
   ·have hb5' := hb5; try simp at hb5'
    have hij : i < old.length ∧ j < page.length := by omega
    refine b7 ?_
    first | refine a4 rfl T.h8 rfl (a9 mB rfl) ?_ | refine a4 rfl T.h8 rfl (b9 mB rfl) ?_ | refine a4 rfl T.h8 rfl (b6 mB (a7 (by omega) rfl)) ?_ | refine a4 rfl T.h8 rfl (b3 mB (rows_get (by omega) rfl)) ?_
    refine a6 rfl (p9 ((i + 1 : Nat) : Int) rfl rfl rfl (by omega) n3 (a6 rfl (p9 ((j + 1 : Nat) : Int) rfl rfl rfl (by omega) n3 ?_))); refine G0 (vs := [int ((i + 1 : Nat) : Int), int ((j + 1 : Nat) : Int)]) F.I3 rfl rfl rfl (ih (i + 1) (j + 1) l clk Fs (by omega) (by omega) (by omega) hM) k6 ⟨m0, m1, m2, m3, m4, m5, m6, trivial⟩ fun x hx => ?_; refine p8 rfl (fun _ => T.B3 _) fun g13 => ?_; refine l5 rfl rfl (by first | exact .refl _ | exact perm2 _ _ _ | exact perm3 _ _ _ _ | exact perm4 _ _ _ _ _) T.d6 (by rfl) (by rfl) ?_; refine a8 (b8 ?_); refine G1 (og) ([_, _, _, _]) (pm9 _ _ _ _ _) 10 [] mixed (by decide) (by decide) (by decide) rfl rfl rfl (i7 (fun w1 => a6 rfl (q_z rfl)) ?_)
    apply j4 _ rfl rfl rfl
    ·intro w1
     first | refine t9 rfl T.i1 T.d6 rfl mB (by rfl) ?_ | refine u4 rfl T.i1 T.d6 rfl mB (by rfl) ?_ | refine p6 rfl T.i1 T.d6 rfl rfl (k8 mB (n2 (by omega))) ?_
     refine b5 ?_; exact d8 rfl
    refine i7 (fun w1 => a6 rfl (q_z rfl)) ?_
    apply j4 _ rfl rfl rfl
    ·intro w1
     first | refine a4 rfl T.d9 rfl (b9 mB rfl) ?_ | refine a4 rfl T.d9 rfl (a9 mB rfl) ?_ | refine a4 rfl T.d9 rfl (b6 mB (a7 (by omega) rfl)) ?_ | refine a4 rfl T.d9 rfl (b3 mB (rows_get (by omega) rfl)) ?_
     refine b5 ?_; exact d8 rfl
    refine i7 (fun w1 => a6 rfl (q_z rfl)) (i7 (fun w1 => r6 (α := Str) _ _ rfl T.t4 T.u6 rfl rfl rfl mB rfl (by omega) (by decide) (q_z rfl)) (i7 (fun w1 => a4 rfl T.i3 rfl (b6 mB (a7 (by omega) rfl)) (q_z rfl)) (i7 (fun w1 => r7 _ rfl rfl (fun _ => T.v4 ..) (q_z rfl)) ?_))); refine bI ⟨LstV, fun y => y.dat = behindP (diffP old page (i + 1) (j + 1)) (2, (i : Int), page.getD j default), fun y => .agg #[int y.1, .slice y.2.a y.2.l.length y.2.c], fun y => [y.row]⟩ rfl rfl rfl ?_ ?_
    ·intro w1; refine c8 F.E8 rfl rfl (B7 x.2.2.2 (2, (i : Int), page.getD j default) (bdV hx.2 ho hpl).1 (bdV hx.2 ho hpl).2) k6 ⟨m0, trivial⟩ fun o1 ho1 => ?_; refine b5 ?_; exact I2 (_, ⟨o1.1, o1.2, _⟩) (by rw [← hx.2]; rfl) rfl ⟨m0, trivial⟩
    refine bI ⟨Nat × LstV, fun z => z.2.dat = behindP (diffP old page (i + 1) (j + 1)) (2, (i : Int), page.getD j default), fun z => .slice (some ⟨z.1, 0, none⟩) 1 1, fun z => [Row (some ⟨z.1, 0, none⟩) (rows [z.2]), z.2.row]⟩ rfl rfl rfl ?_ ?_
    ·intro y hy; intro w1; refine j3 _ rfl rfl (fun _ => T.B0 ..) fun gS => ?_; refine b5 ?_; refine D1 (rows [y]) ⟨[], List.append_nil _⟩ ?_; exact I2 (gS, y) hy rfl ⟨m0, m1, trivial⟩
    refine t6 ⟨rfl, ?_⟩; intro y1 hy1 z hz; refine v5 (cs.length + 1) (rows (cs ++ [z.2])) T.D2 rfl rfl rfl hG k6 (Src.row (news := rows [z.2]) (m := 1) m0 rfl (H4 _) (by decide)) rfl (s4 cs [z.2]).symm (by unfold maxLen; omega) (by omega) fun A' c' og' hG' => ?_; refine b4 rfl (a8 (b8 ?_)); refine G1 (og') ([_, _, _, _]) k6 8 [] mixed (by decide) (by decide) (by decide) rfl rfl rfl ?_
    apply j4 _ rfl rfl rfl
    ·intro w1
     first | refine a4 rfl T.d9 rfl (b9 mB rfl) ?_ | refine a4 rfl T.d9 rfl (a9 mB rfl) ?_ | refine a4 rfl T.d9 rfl (b6 mB (a7 (by omega) rfl)) ?_ | refine a4 rfl T.d9 rfl (b3 mB (rows_get (by omega) rfl)) ?_
     refine b5 ?_; exact d8 rfl
    refine i7 (fun w1 => a6 rfl (q_z rfl)) (i7 (fun w1 => r6 (α := Str) _ _ rfl T.t4 T.u6 rfl rfl rfl mB rfl (by omega) (by decide) (q_z rfl)) (i7 (fun w1 => a4 rfl T.i3 rfl (b6 mB (a7 (by omega) rfl)) (q_z rfl)) ?_))
    apply j4 _ rfl rfl rfl
    ·intro w1
     first | refine a4 rfl T.d9 rfl (b9 mB rfl) ?_ | refine a4 rfl T.d9 rfl (a9 mB rfl) ?_ | refine a4 rfl T.d9 rfl (b6 mB (a7 (by omega) rfl)) ?_ | refine a4 rfl T.d9 rfl (b3 mB (rows_get (by omega) rfl)) ?_
     refine b5 ?_; exact d8 rfl
    refine i7 (fun w1 => a6 rfl (q_z rfl)) (i7 (fun w1 => r6 (α := Str) _ _ rfl T.t4 T.u6 rfl rfl rfl mB rfl (by omega) (by decide) (q_z rfl)) (i7 (fun w1 => a4 rfl T.i3 rfl (b6 mB (a7 (by omega) rfl)) (q_z rfl)) ?_)); refine t6 ⟨rfl, ?_⟩; refine W5 rfl rfl rfl (a8 ?_)
    first | refine i4 rfl (fun hb6 => ?_) (fun hb6 => ?_) | refine c5 rfl (fun hb6 => ?_) (fun hb6 => ?_)
    ·have hb6' := hb6; try simp at hb6'
     refine I5 (pm10 _ _ _ _ _) ?_; refine c7 (a6 rfl ?_)
     first | refine t9 rfl T.i1 T.d6 rfl mB (by rfl) ?_ | refine u4 rfl T.i1 T.d6 rfl mB (by rfl) ?_ | refine p6 rfl T.i1 T.d6 rfl rfl (k8 mB (n2 (by omega))) ?_
     refine j3 _ rfl rfl (fun _ => T.B0 ..) fun gS => ?_; refine v5 (cs.length + 2) (rows (cs ++ [z.2] ++ [x.2.2.2])) T.D2 rfl rfl rfl hG' (pm11 _ _ _ _ _ _) (Src.own (cs := (El.cells (x.2.2.2 : LstV)).toArray) (m := 1) (List.mem_append_right _ m0) rfl rfl) rfl (by rw [s4 (cs ++ [z.2])]; simp [rows]) (by unfold maxLen; omega) (by omega) fun A2 c2 og2 hG2 => ?_; refine b4 rfl (b5 ?_); have hl0 : cs.length ≤ 3 := by have := congrArg List.length hcs; rw [List.length_map] at this; rw [this]; exact rD ..
     refine cW (Fs := z.2.row :: x.2.2.2.row :: (x.2.2.1 ++ Fs)) (fun F hF => by
       rcases List.mem_cons.1 hF with rfl | hF
       · exact .inl m1
       rcases List.mem_cons.1 hF with rfl | hF
       · exact .inl m3
       rcases List.mem_append.1 hF with hF | hF
       · exact .inr ⟨_, m4, hF⟩
       exact .inr ⟨Fs, m5, hF⟩) ?_
     exact dC _ ⟨x.1, x.2.1, z.2.row :: x.2.2.2.row :: (x.2.2.1 ++ Fs), cs ++ [z.2] ++ [x.2.2.2], (A2, c2), og2⟩ ⟨hx.1.mono (fun F h => by simp [h]), by rw [List.map_append, List.map_append, hcs, cand3, if_pos hij, if_pos hb6, List.append_assoc]; show _ ++ ([z.2.dat] ++ [LstV.dat x.2.2.2]) = _; rw [show z.2.dat = _ from hz, show LstV.dat x.2.2.2 = _ from hx.2]; rfl, by rw [l6, l6]; exact hG2, fun y hy => by
       simp only [List.mem_append, List.mem_singleton] at hy
       rcases hy with (h | h) | h
       · simp [hrow y h]
       · subst h; simp
       subst h; simp, by rw [l6, l6]; omega⟩ ⟨rfl, rfl, rfl, rfl, rfl, rfl, rfl, rfl, by rw [l6, l6]; rfl, trivial⟩ (fun p => by simp only [int, T.H2, T.n8, diffCon, dSta, List.countP_append, List.countP_cons, List.countP_nil]; omega) ⟨m0, m7, m8, m9, m10, m11, m12, trivial⟩
    have hb6' := hb6; try simp at hb6'
    refine c4 ?_; have hl0 : cs.length ≤ 3 := by have := congrArg List.length hcs; rw [List.length_map] at this; rw [this]; exact rD ..
    refine cW (Fs := z.2.row :: x.2.2.2.row :: (x.2.2.1 ++ Fs)) (fun F hF => by
      rcases List.mem_cons.1 hF with rfl | hF
      · exact .inl m1
      rcases List.mem_cons.1 hF with rfl | hF
      · exact .inl m3
      rcases List.mem_append.1 hF with hF | hF
      · exact .inr ⟨_, m4, hF⟩
      exact .inr ⟨Fs, m5, hF⟩) ?_
    exact dC _ ⟨x.1, x.2.1, z.2.row :: x.2.2.2.row :: (x.2.2.1 ++ Fs), cs ++ [z.2], (A', c'), og'⟩ ⟨hx.1.mono (fun F h => by simp [h]), by rw [List.map_append, hcs, cand3, if_pos hij, if_neg hb6]; show _ ++ [z.2.dat] = _; rw [show z.2.dat = _ from hz], by rw [l6]; exact hG', fun y hy => by
      simp only [List.mem_append, List.mem_singleton] at hy
      rcases hy with h | h
      · simp [hrow y h]
      subst h; simp, by rw [l6]; omega⟩ ⟨rfl, rfl, rfl, rfl, rfl, rfl, rfl, rfl, by rw [l6]; rfl, trivial⟩ (fun p => by simp only [int, T.H2, T.n8, diffCon, dSta, List.countP_append, List.countP_cons, List.countP_nil]; omega) ⟨m0, m7, m8, m9, m10, m11, m12, trivial⟩
   have hb5' := hb5; try simp at hb5'
   refine c4 ?_; exact dC _ ⟨l, clk, Fs, cs, o, og⟩ ⟨hM, by rw [hcs, cand3, if_neg (by omega), List.append_nil], hG, hrow, hlen⟩ mC (fun p => by simp only [int, T.H2, T.n8, diffCon, dSta, List.countP_append, List.countP_cons, List.countP_nil]; omega) ⟨m0, m1, m2, m3, m4, m5, m6, trivial⟩
  intro hg2; have hg2' := hg2; try simp at hg2'
  refine k4 rfl rfl rfl rfl rfl hg2 (k4 rfl rfl rfl rfl rfl hg2 (k4 rfl rfl rfl rfl rfl hg2 (k4 rfl rfl rfl rfl rfl hg2 ?_))); refine p_f rfl rfl (bf2 hg2) rfl ?_; refine a8 (c_f rfl rfl (c4 ?_)); exact dC _ ⟨l, clk, Fs, cs, o, og⟩ ⟨hM, by rw [hcs, cand3, if_neg (by omega), List.append_nil], hG, hrow, hlen⟩ mC (fun p => by simp only [int, T.H2, T.n8, diffCon, dSta, List.countP_append, List.countP_cons, List.countP_nil]; omega) ⟨m0, m1, m2, m3, m4, m5, m6, trivial⟩
 refine fun x hx => ?_; obtain ⟨l, clk, Fs, cs, o, og⟩ := x; obtain ⟨hM, hcs, hG, hrow, hlen⟩ := hx; simp only at hM hcs hG hrow hlen; refine b8 ?_; have hne : cand3 old page i j ≠ [] := aq9 hi hj; have hbd := ax0 (i := i) (j := j) ho hpl
 obtain ⟨f, r, rfl⟩ : ∃ f r, cs = f :: r := by
   cases cs with
   | nil => exact absurd (by rw [← hcs]; rfl) hne
   | cons f r => exact ⟨f, r, rfl⟩
 refine I5 (pm3 _ _ _ _) (aj8 hG (A8 8 mixed (by decide) (by decide) rfl rfl ?_))
 apply j4 _ rfl rfl rfl
 ·intro w1
  first | refine a4 rfl T.j5 rfl (b9 mB rfl) ?_ | refine a4 rfl T.j5 rfl (a9 mB rfl) ?_ | refine a4 rfl T.j5 rfl (b6 mB (a7 (by omega) rfl)) ?_ | refine a4 rfl T.j5 rfl (b3 mB (rows_get (by omega) rfl)) ?_
  refine b5 ?_; exact d8 rfl
 apply j4 _ rfl rfl rfl
 ·intro w1
  first | refine t9 rfl T.C3 T.D4 rfl mB (by rfl) ?_ | refine u4 rfl T.C3 T.D4 rfl mB (by rfl) ?_ | refine p6 rfl T.C3 T.D4 rfl rfl (k8 mB (n2 (by omega))) ?_
  refine b5 ?_; exact d8 rfl
 refine i7 (fun w1 => a6 rfl (q_z rfl)) ?_; refine i7 (fun w1 => r6 (α := LstV) (f :: r) 0 rfl T.J7 T.d6 rfl rfl rfl m3 rfl (by simp) (by decide) (q_z rfl)) ?_; refine i7 (fun w1 => p6 rfl T.i1 T.d6 rfl rfl (k8 (A := o.1) (cs := rows (f :: r)) (j := 0 * El.sz LstV) m3 (n2 (l := f :: r) (i := 0) (by simp))) (q_z rfl)) ?_; refine i7 (fun w1 => a6 rfl (q_z rfl)) ?_; refine i7 (fun w1 => nE 1 rfl T.J7 T.d6 rfl rfl rfl (by simp) (q_z rfl)) ?_; refine bI ⟨LstV, fun y => y.dat = diffP old page i j ∧ y.row ∈ Fs, fun y => .agg #[int y.1, .slice y.2.a y.2.l.length y.2.c], fun y => [y.row]⟩ rfl rfl rfl ?_ ?_
 ·intro w1; refine vW (p := f :: r) (ca := o.2) 1 (f :: r).length m0 hG.le ?_; rw [List.take_length]
  refine aj5 (Fs := (f :: r).map LstV.row) (fun F hF => by
    obtain ⟨y, hy, rfl⟩ := List.mem_map.1 hF
    exact .inr ⟨Fs, m2, hrow y hy⟩) ?_
  refine c8 (vs := [fnV F.t0, f.v, .slice (cutA o.1 o.2 1 2) r.length (o.2 - 1)]) F.nJ rfl rfl (iZ f r (by simp at hlen; omega) (fun y hy => hbd y.dat (by rw [← hcs]; exact List.mem_map_of_mem hy))) k6 ⟨m1, m0, trivial⟩ fun _ _ => ?_; refine sR (F := (leastV f r).row) m0 (List.mem_map_of_mem (hX f r)) ?_; refine b5 ?_; exact I2 (leastV f r) ⟨by rw [aq5]; exact xQ hcs, hrow _ (hX f r)⟩ rfl ⟨m0, trivial⟩
 refine t6 ⟨rfl, ?_⟩; intro y2 hy2; refine iS (k := ((i : Int), (j : Int))) KP (.inl rfl) T.C1 rfl rfl rfl (.refl _) ?_; refine j6 ?_
 first | refine a4 rfl T.j5 rfl (a9 mB rfl) ?_ | refine a4 rfl T.j5 rfl (b9 mB rfl) ?_ | refine a4 rfl T.j5 rfl (b6 mB (a7 (by omega) rfl)) ?_ | refine a4 rfl T.j5 rfl (b3 mB (rows_get (by omega) rfl)) ?_
 first | refine t9 rfl T.C3 T.D4 rfl mB (by rfl) ?_ | refine u4 rfl T.C3 T.D4 rfl mB (by rfl) ?_ | refine p6 rfl T.C3 T.D4 rfl rfl (k8 mB (n2 (by omega))) ?_
 refine zM (k := ((i : Int), (j : Int))) (v := LstV.v y2) KP rfl T.C1 rfl rfl (sH m0) (by rw [aq1, if_pos rfl]; rfl) ?_; refine l5 rfl rfl (by first | exact .refl _ | exact perm2 _ _ _ | exact perm3 _ _ _ _ | exact perm4 _ _ _ _ _) T.d6 (by rfl) (by rfl) ?_; refine a8 (g2 ?_); exact V2 (putM l ((i : Int), (j : Int)) (LstV.v y2) clk, clkM l ((i : Int), (j : Int)) clk, Fs, y2) rfl rfl T.i1 T.d6 rfl m0 rfl rfl ⟨hM.put hy2.2 hy2.1, hy2.1⟩ (.cons _ (.cons_cons _ i2)) ⟨m0, m2, trivial⟩
end Go.Proofs.YtegfgegnhjkcfaaGreatDoor
end
section
namespace Go.Proofs.YtegfgegnhjkcfaaGreatDoor
open Go Go.W
set_option maxRecDepth 20000
attribute [local irreducible] HL HC HQ HB Row Rows2 Blk Facts
def outV {α : Type} [El α] (l : List α) : Con OutC := { val := fun x => .slice x.1 l.length x.2, LO := fun x => [Row x.1 (rows l)] }
theorem Z3 {A B : Option Addr} {ca cb : Nat} (old page : List Str) (ho : old.length ≤ 1000) (hpl : page.length ≤ 1000) : Meets Tryz.prog F.hO [.slice A old.length ca, .slice B page.length cb] { outV (diffP old page 0 0).2 with LI := [Row A (rows old), Row B (rows page)] } := by
 refine c1 F.rX rfl j9 fun w0 => ?_; refine b7 ?_; refine H5 rfl rfl fun go => ?_; refine H5 rfl rfl fun gp => ?_; refine b4 rfl (j6 ?_); refine nF pair rfl fun gm => ?_; refine p8 rfl (fun _ => T.aK _) fun gk => ?_; refine n1 rfl rfl (by first | exact .refl _ | exact perm2 _ _ _ | exact perm3 _ _ _ _ | exact perm4 _ _ _ _ _) T.Y1 (by rfl) (by rfl) ?_; refine j6 ?_; refine p8 rfl (fun _ => T.U6 _) fun gf => ?_; refine j6 (aT rfl rfl rfl ?_); refine n1 rfl rfl (by first | exact .refl _ | exact perm2 _ _ _ | exact perm3 _ _ _ _ | exact perm4 _ _ _ _ _) T.S5 (by rfl) (by rfl) ?_; refine a8 (b8 (z7 (z7 ?_))); refine I5 (perm3 _ _ _ _) ?_; refine z7 ?_; refine I5 (.swap _ _ _) ?_; refine z7 ?_; refine aj9 (Fs := []) (fun F hF => by simp at hF) ?_; refine c7 ?_
 first | refine a4 rfl T.h8 rfl (a9 mB rfl) ?_ | refine a4 rfl T.h8 rfl (b9 mB rfl) ?_ | refine a4 rfl T.h8 rfl (b6 mB (a7 (by omega) rfl)) ?_ | refine a4 rfl T.h8 rfl (b3 mB (rows_get (by omega) rfl)) ?_
 refine G0 (vs := [int (0 : Nat), int (0 : Nat)]) F.I3 rfl rfl rfl (hJ (gk := gk) (gm := gm) (go := go) (gp := gp) (gf := gf) (A := A) (B := B) (ca := ca) (cb := cb) ho hpl _ 0 0 [] 0 [] (Nat.lt_succ_self _) (Nat.zero_le _) (Nat.zero_le _) (by intro e he; simp at he)) k6 ⟨m0, m5, m6, m3, m2, m1, m4, trivial⟩ fun x hx => ?_; obtain ⟨l1, clk1, Fs1, x⟩ := x; have hx2 : x.2.l = (diffP old page 0 0).2 := by rw [← hx.2]; rfl
 refine r_field (v := .slice x.2.a x.2.l.length x.2.c) rfl rfl (fun _ => T.pI ..) ?_; refine b4 rfl (a8 (g2 ?_)); rw [← hx2]; exact ret1 (x.2.a, x.2.c) rfl rfl rfl trivial i2 ⟨m0, trivial⟩
def diffE (old page : List Str) (ms : List Mk) : List Mk × Int := if ¬ pageErr old = 0 then ([], pageErr old) else if ¬ pageErr page = 0 then ([], pageErr page) else (ms, 0)
def outE {α : Type} [El α] (r : List α × Int) : Con OutC := { val := fun x => .tuple #[.slice x.1 r.1.length x.2, int r.2], LO := fun x => [Row x.1 (rows r.1)] }
theorem L5 {p : List Str} (h : pageErr p = 0) : p.length ≤ 6 := by unfold pageErr at h; split at h <;> omega
theorem kO {A B : Option Addr} {ca cb : Nat} (old page : List Str) : Meets Tryz.prog F.aZ [.slice A old.length ca, .slice B page.length cb] { outE (diffE old page (diffP old page 0 0).2) with LI := [Row A (rows old), Row B (rows page)] } := by
 refine c1 F.sA rfl j9 fun w0 => ?_; refine b7 (b4 rfl (b4 rfl (a8 (b8 (b7 (a6 rfl ?_)))))); refine c8 F.B8 rfl rfl (u7 old) (.refl _) ⟨m0, trivial⟩ fun _ _ => ?_; refine b4 rfl (j6 (a6 rfl (u5 rfl rfl rfl (a8 ?_))))
 first | refine i4 rfl (fun hb1 => ?_) (fun hb1 => ?_) | refine c5 rfl (fun hb1 => ?_) (fun hb1 => ?_)
 ·have hb1' := hb1; try simp at hb1'
  have e : diffE old page (diffP old page 0 0).2 = ([], pageErr old) := by rw [diffE, if_pos hb1]
  rw [e]; refine b7 (a6 rfl (b4 rfl (b4 rfl (a8 (t5 (jS ?_)))))); exact ret2 (none, 0) rfl rfl rfl rfl rfl trivial (.refl _) ⟨m0, trivial⟩
 have hb1' := hb1; try simp at hb1'
 refine c4 (c3 (b8 (b7 (a6 rfl ?_)))); refine c8 F.B8 rfl rfl (u7 page) (.refl _) ⟨m1, trivial⟩ fun _ _ => ?_; refine b4 rfl (j6 (a6 rfl (u5 rfl rfl rfl (a8 ?_))))
 first | refine i4 rfl (fun hb2 => ?_) (fun hb2 => ?_) | refine c5 rfl (fun hb2 => ?_) (fun hb2 => ?_)
 ·have hb2' := hb2; try simp at hb2'
  have e : diffE old page (diffP old page 0 0).2 = ([], pageErr page) := by rw [diffE, if_neg hb1, if_pos hb2]
  rw [e]; refine b7 (a6 rfl (b4 rfl (b4 rfl (a8 (t5 (jS ?_)))))); exact ret2 (none, 0) rfl rfl rfl rfl rfl trivial (.refl _) ⟨m0, trivial⟩
 have hb2' := hb2; try simp at hb2'
 have e : diffE old page (diffP old page 0 0).2 = ((diffP old page 0 0).2, 0) := by rw [diffE, if_neg hb1, if_neg hb2]
 rw [e]; have h1 := L5 (Classical.not_not.1 hb1); have h2 := L5 (Classical.not_not.1 hb2); refine c4 (c3 (b7 (a6 rfl (a6 rfl ?_)))); refine c8 F.gJ rfl rfl (Z3 old page (by omega) (by omega)) (.refl _) ⟨m0, m1, trivial⟩ fun x hx => ?_; refine b4 rfl (b4 rfl (a8 (g2 ?_))); exact ret2 x rfl rfl rfl rfl rfl trivial (.refl _) ⟨m0, trivial⟩
def beforeR (a b : Mk) : Bool := if ¬ a.2.1 = b.2.1 then decide (a.2.1 < b.2.1) else if ¬ a.1 = b.1 then decide (a.1 < b.1) else Op.bytesLess a.2.2 b.2.2
def lexR : List Mk → List Mk → Bool
  | a :: l, b :: l' => if ¬ a = b then beforeR a b else lexR l l'
  | _, _ => false
def betterR (a b : List Mk) : Bool := if ¬ (costM a : Int) = costM b then decide ((costM a : Int) < costM b) else if ¬ (a.length : Int) = b.length then decide ((a.length : Int) < b.length) else lexR a b
end Go.Proofs.YtegfgegnhjkcfaaGreatDoor
end
section
namespace Go.Proofs.YtegfgegnhjkcfaaGreatDoor
open Go Go.W
set_option maxRecDepth 20000
attribute [local irreducible] HL HC HQ HB Row Rows2 Blk Facts
def pickR (s : Option (List Mk)) (l : List Mk) : Option (List Mk) :=
  match s with
  | none => some l
  | some b => if betterR l b = true then some l else some b
def diffR (old page : List Str) (i k : Nat) : List Mk :=
  if i = old.length ∧ k = page.length then [] else
  (if h : i < old.length then pickR
    (if h : i < old.length ∧ k < page.length then pickR
      (if h : k < page.length then pickR
        (if h : i < old.length ∧ k < page.length ∧ old.getD i default = page.getD k default then some (diffR old page (i + 1) (k + 1)) else none)
        ((1, (i : Int), page.getD k default) :: diffR old page i (k + 1)) else
        (if h : i < old.length ∧ k < page.length ∧ old.getD i default = page.getD k default then some (diffR old page (i + 1) (k + 1)) else none))
      ((2, (i : Int), page.getD k default) :: diffR old page (i + 1) (k + 1)) else
      (if h : k < page.length then pickR
        (if h : i < old.length ∧ k < page.length ∧ old.getD i default = page.getD k default then some (diffR old page (i + 1) (k + 1)) else none)
        ((1, (i : Int), page.getD k default) :: diffR old page i (k + 1)) else
        (if h : i < old.length ∧ k < page.length ∧ old.getD i default = page.getD k default then some (diffR old page (i + 1) (k + 1)) else none)))
    ((3, (i : Int), []) :: diffR old page (i + 1) k) else
    (if h : i < old.length ∧ k < page.length then pickR
      (if h : k < page.length then pickR
        (if h : i < old.length ∧ k < page.length ∧ old.getD i default = page.getD k default then some (diffR old page (i + 1) (k + 1)) else none)
        ((1, (i : Int), page.getD k default) :: diffR old page i (k + 1)) else
        (if h : i < old.length ∧ k < page.length ∧ old.getD i default = page.getD k default then some (diffR old page (i + 1) (k + 1)) else none))
      ((2, (i : Int), page.getD k default) :: diffR old page (i + 1) (k + 1)) else
      (if h : k < page.length then pickR
        (if h : i < old.length ∧ k < page.length ∧ old.getD i default = page.getD k default then some (diffR old page (i + 1) (k + 1)) else none)
        ((1, (i : Int), page.getD k default) :: diffR old page i (k + 1)) else
        (if h : i < old.length ∧ k < page.length ∧ old.getD i default = page.getD k default then some (diffR old page (i + 1) (k + 1)) else none)))).getD []
termination_by (old.length - i) + (page.length - k)
decreasing_by all_goals omega
def dr0 (old page : List Str) (i k : Nat) : Option (List Mk) := if i < old.length ∧ k < page.length ∧ old.getD i default = page.getD k default then some (diffR old page (i + 1) (k + 1)) else none
def dr1 (old page : List Str) (i k : Nat) : Option (List Mk) := if k < page.length then pickR (dr0 old page i k) ((1, (i : Int), page.getD k default) :: diffR old page i (k + 1)) else dr0 old page i k
def dr2 (old page : List Str) (i k : Nat) : Option (List Mk) := if i < old.length ∧ k < page.length then pickR (dr1 old page i k) ((2, (i : Int), page.getD k default) :: diffR old page (i + 1) (k + 1)) else dr1 old page i k
def dr3 (old page : List Str) (i k : Nat) : Option (List Mk) := if i < old.length then pickR (dr2 old page i k) ((3, (i : Int), []) :: diffR old page (i + 1) k) else dr2 old page i k
theorem zR (s : Option (List Mk)) (l : List Mk) : pickR s l = some l ∨ (pickR s l = s) := by
  unfold pickR
  cases s with
  | none => exact .inl rfl
  | some b => simp only; split <;> simp
def Bd (N : Nat) (s : Option (List Mk)) : Prop := ∀ b, s = some b → b.length ≤ N
theorem Bd.pick {N : Nat} {s : Option (List Mk)} {l : List Mk} (h : Bd N s) (hl : l.length ≤ N) : Bd N (pickR s l) := by
  intro b hb
  rcases zR s l with h1 | h1
  · rw [h1] at hb; cases hb; exact hl
  rw [h1] at hb; exact h b hb
structure RSt where
  s : Option (List Mk)
  o : OutC
abbrev rSta (A B : Option Addr) (ca cb : Nat) (old page : List Str) (i k : Nat) (r : Option (List Mk)) : Sta RSt :=
  { inv := fun x => x.s = r
    fr := fun x => [(0, .slice A old.length ca), (1, .slice B page.length cb), (2, int i), (3, int k), (9, .slice x.o.1 (x.s.getD []).length x.o.2), (10, .bool x.s.isSome)]
    hp := fun _ => []
    L := fun x => [Row x.o.1 (rows (x.s.getD [])), Row A (rows old), Row B (rows page)] }
end Go.Proofs.YtegfgegnhjkcfaaGreatDoor
end
