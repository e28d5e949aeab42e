/- Texts of this claim, one behind another. -/

import Derived.Test.YtegfgegnhjkcfaaGreatDoorBAg
import Derived.Test.YtegfgegnhjkcfaaGreatDoorBAe
set_option linter.unusedVariables false
set_option linter.unusedSimpArgs false
section
namespace Go.Proofs.YtegfgegnhjkcfaaGreatDoor
open Go Go.W
set_option maxRecDepth 20000
attribute [local irreducible] HL HC HQ HB Row Rows2 Blk Facts
def cmpI (a b : Int) : Int := if a < b then -1 else if b < a then 1 else 0
def cmpS (a b : Str) : Int := if Op.bytesLess a b = true then -1 else if (!(Op.bytesLess a b || a == b)) = true then 1 else 0
def orL : List Int → Int
  | [] => 0
  | a :: l => if ¬ a = 0 then a else orL l
def cmpMk (a b : Mk) : Int := orL [cmpI a.2.1 b.2.1, cmpI a.1 b.1, cmpS a.2.2 b.2.2]
def cmpMs : List Mk → List Mk → Int
  | [], [] => 0
  | [], _ :: _ => -1
  | _ :: _, [] => 1
  | a :: l, b :: l' => if ¬ cmpMk a b = 0 then cmpMk a b else cmpMs l l'
abbrev Lst := Int × List Mk
def cmpL (a b : Lst) : Int := orL [cmpI a.1 b.1, cmpI a.2.length b.2.length, cmpMs a.2 b.2]
theorem V4 (a : Int) : Meets Tryz.prog F.aU [int a] { val := fun _ : Unit => .bool false } := by
 refine c4 F.qB rfl l5 fun w0 => ?_; refine a9 (a8 rfl (k9 (a5 rfl (a5 rfl (u9 rfl rfl rfl (a8 rfl (b3 ?_))))))); refine b6 (i6 ?_); exact ret1 () rfl (congrArg (fun b => some (Value.bool b)) (by simp)) rfl trivial (.refl _) trivial
theorem P3 (a : Str) : Meets Tryz.prog F.Q9 [str a] { val := fun _ : Unit => .bool false } := by
 refine c4 F.kN rfl l5 fun w0 => ?_; refine a9 (a8 rfl (k9 (a5 rfl (a5 rfl (jO rfl rfl rfl (a8 rfl (b3 ?_))))))); refine b6 (i6 ?_); exact ret1 () rfl (congrArg (fun b => some (Value.bool b)) (by simp)) rfl trivial (.refl _) trivial
theorem C4 (a b : Int) : Meets Tryz.prog F.U8 [int a, int b] { val := fun _ : Unit => int (cmpI a b) } := by
 refine c4 F.mL rfl l5 fun w0 => ?_; refine a9 (a8 rfl (k9 (a5 rfl ?_))); refine d6 F.bY rfl rfl (V4 _) (.refl _) trivial fun _ _ => ?_; refine a8 rfl (k9 (a5 rfl ?_)); refine d6 F.bY rfl rfl (V4 _) (.refl _) trivial fun _ _ => ?_; refine a8 rfl (a7 (b5 (a9 (a5 rfl (a7 ?_))))); refine c_f rfl (by first | rfl | assumption | exact bf1 (by assumption) | exact bf2 (by assumption)) ?_; refine c3 (b6 (b5 (a9 (a5 rfl (a7 ?_))))); refine c_f rfl (by first | rfl | assumption | exact bf1 (by assumption) | exact bf2 (by assumption)) ?_; refine c3 (b6 (b5 (a9 (a5 rfl (a5 rfl (r6 rfl rfl rfl (a7 ?_)))))))
 first | refine i8 rfl (fun hb4 => ?_) (fun hb4 => ?_) | refine b9 rfl (fun hb4 => ?_) (fun hb4 => ?_)
 ·have hb4' := hb4; try simp at hb4'
  refine a9 (a8 rfl (a7 (s6 ?_))); exact ret1 () rfl (congrArg (fun n => some (int n)) (by rw [cmpI, if_pos hb4])) rfl trivial i1 trivial
 have hb4' := hb4; try simp at hb4'
 refine c3 (b6 (b5 (a9 (a5 rfl (a5 rfl (v9 rfl rfl rfl (a7 ?_)))))))
 first | refine i8 rfl (fun hb5 => ?_) (fun hb5 => ?_) | refine b9 rfl (fun hb5 => ?_) (fun hb5 => ?_)
 ·have hb5' := hb5; try simp at hb5'
  refine a9 (a8 rfl (a7 (s6 ?_))); exact ret1 () rfl (congrArg (fun n => some (int n)) (by rw [cmpI, if_neg hb4, if_pos hb5])) rfl trivial i1 trivial
 have hb5' := hb5; try simp at hb5'
 refine c3 (b6 (a9 (a8 rfl (a7 (i6 ?_))))); exact ret1 () rfl (congrArg (fun n => some (int n)) (by rw [cmpI, if_neg hb4, if_neg hb5])) rfl trivial i1 trivial
theorem aV (a b : Str) : Meets Tryz.prog F.M2 [str a, str b] { val := fun _ : Unit => int (cmpS a b) } := by
 refine c4 F.hU rfl l5 fun w0 => ?_; refine a9 (a8 rfl (k9 (a5 rfl ?_))); refine d6 F.V3 rfl rfl (P3 _) (.refl _) trivial fun _ _ => ?_; refine a8 rfl (k9 (a5 rfl ?_)); refine d6 F.V3 rfl rfl (P3 _) (.refl _) trivial fun _ _ => ?_; refine a8 rfl (a7 (b5 (a9 (a5 rfl (a7 ?_))))); refine c_f rfl (by first | rfl | assumption | exact bf1 (by assumption) | exact bf2 (by assumption)) ?_; refine c3 (b6 (b5 (a9 (a5 rfl (a7 ?_))))); refine c_f rfl (by first | rfl | assumption | exact bf1 (by assumption) | exact bf2 (by assumption)) ?_; refine c3 (b6 (b5 (a9 (a5 rfl (a5 rfl (r_slss rfl rfl rfl (a7 ?_)))))))
 first | refine i8 rfl (fun hb4 => ?_) (fun hb4 => ?_) | refine b9 rfl (fun hb4 => ?_) (fun hb4 => ?_)
 ·have hb4' := hb4; try simp at hb4'
  refine a9 (a8 rfl (a7 (s6 ?_))); exact ret1 () rfl (congrArg (fun n => some (int n)) (by rw [cmpS, if_pos hb4])) rfl trivial i1 trivial
 have hb4' := hb4; try simp at hb4'
 refine c3 (b6 (b5 (a9 (a5 rfl (a5 rfl (r_sgtr rfl rfl rfl (a7 ?_)))))))
 first | refine i8 rfl (fun hb5 => ?_) (fun hb5 => ?_) | refine b9 rfl (fun hb5 => ?_) (fun hb5 => ?_)
 ·have hb5' := hb5; try simp at hb5'
  refine a9 (a8 rfl (a7 (s6 ?_))); exact ret1 () rfl (congrArg (fun n => some (int n)) (by rw [cmpS, if_neg (by rw [hb4]; decide), if_pos hb5])) rfl trivial i1 trivial
 have hb5' := hb5; try simp at hb5'
 refine c3 (b6 (a9 (a8 rfl (a7 (i6 ?_))))); exact ret1 () rfl (congrArg (fun n => some (int n)) (by rw [cmpS, if_neg (by rw [hb4]; decide), if_neg (by rw [hb5]; decide)])) rfl trivial i1 trivial
theorem bz4 {l : List Int} {k : Nat} (hk : k < l.length) : orL (l.drop k) = if ¬ l.getD k default = 0 then l.getD k default else orL (l.drop (k + 1)) := by
  rw [List.drop_eq_getElem_cons hk, orL, B1 hk]
theorem bZ {A : Option Addr} {c : Nat} (l : List Int) (hl : l.length ≤ 1000000) : Meets Tryz.prog F.kO [.slice A l.length c] { LI := [Row A (rows l)], val := fun _ : Unit => int (orL l) } := by
 refine c4 F.wO rfl l5 fun w0 => ?_; refine a9 (a8 rfl (k9 (a8 rfl (a7 (kK ?_))))); refine c6 (a5 rfl ?_); refine j9 rfl T.L8 rfl ?_; refine a5 rfl (a7 (j0 ?_)); refine s9 (β := Nat) ⟨fun k => k ≤ l.length ∧ orL l = orL (l.drop k), fun k => [(3, int 0), (6, .slice A l.length c), (7, int l.length), (8, int k)], fun _ => [], fun _ => [Row A (rows l)]⟩ (fun k => l.length - k) 0 ⟨Nat.zero_le _, rfl⟩ mC (.refl _) ⟨m0, trivial⟩ fun k hk => ?_; obtain ⟨hk, ht⟩ := hk; refine a9 (r6 rfl rfl rfl (a7 (b5 ?_)))
 first | refine i8 rfl (fun hb1 => ?_) (fun hb1 => ?_) | refine b9 rfl (fun hb1 => ?_) (fun hb1 => ?_)
 ·have hb1' := hb1; try simp at hb1'
  have hk2 : k < l.length := by omega
  rw [bz4 hk2] at ht; refine c3 (b6 (b5 (j0 (a9 ?_)))); refine r7 (α := Int) _ _ rfl T.L8 T.D8 rfl rfl rfl mB rfl (by omega) (by decide) (a4 rfl T.a6 rfl (c5 mB (b4 (by omega) rfl)) ?_); refine a8 rfl (k9 (a5 rfl (a5 rfl (u9 rfl rfl rfl (a7 ?_)))))
  first | refine i8 rfl (fun hb2 => ?_) (fun hb2 => ?_) | refine b9 rfl (fun hb2 => ?_) (fun hb2 => ?_)
  ·have hb2' := hb2; try simp at hb2'
   rw [if_pos hb2] at ht; refine a9 (a5 rfl (a8 rfl (a7 (i6 (t5 (l6 (t5 ?_))))))); exact ret1 () rfl (congrArg (fun n => some (int n)) (by rw [ht])) rfl trivial i1 trivial
  have hb2' := hb2; try simp at hb2'
  rw [if_neg hb2] at ht; refine c3 (q9 (b6 (c6 ?_))); refine p7 _ rfl rfl rfl rfl l9 ?_; refine a5 rfl (b3 ?_); exact again _ (k + 1) ⟨by omega, ht⟩ (y5 (by omega)) mC (.refl _) ⟨m0, trivial⟩
 have hb1' := hb1; try simp at hb1'
 have hk2 : k = l.length := by omega
 refine n5 (y6 (n4 (b6 (a9 (a5 rfl (a8 rfl (a7 (i6 ?_)))))))); exact ret1 () rfl (congrArg (fun n => some (int n)) (by rw [ht, hk2, List.drop_length]; rfl)) rfl trivial i1 trivial
theorem aH (a b : Mk) : Meets Tryz.prog F.B7 [.agg #[int a.1, int a.2.1, str a.2.2], .agg #[int b.1, int b.2.1, str b.2.2]] { val := fun _ : Unit => int (cmpMk a b) } := by
 refine c4 F.gK rfl l5 fun w0 => ?_; refine a9 ?_; refine J9 rfl rfl fun gB => ?_; refine J9 rfl rfl fun gB => ?_; refine a8 rfl (a7 (b5 ?_)); refine z6 14 mixed (by decide) (by decide) rfl rfl ?_
 apply k7 _ rfl rfl rfl
 ·intro w1
  first | refine a3 ⟨_, 1, none⟩ rfl rfl T.d8 rfl ?_ | refine a3 _ rfl rfl T.d8 rfl ?_
  refine b3 ?_; exact i3 rfl
 apply k7 _ rfl rfl rfl
 ·intro w1
  first | refine a4 rfl T.a6 rfl (c8 mB rfl) ?_ | refine a4 rfl T.a6 rfl (b7 mB rfl) ?_ | refine a4 rfl T.a6 rfl (c5 mB (b4 (by omega) rfl)) ?_ | refine a4 rfl T.a6 rfl (b8 mB (rows_get (by omega) rfl)) ?_
  refine b3 ?_; exact i3 rfl
 apply k7 _ rfl rfl rfl
 ·intro w1
  first | refine a3 ⟨_, 1, none⟩ rfl rfl T.d8 rfl ?_ | refine a3 _ rfl rfl T.d8 rfl ?_
  refine b3 ?_; exact i3 rfl
 apply k7 _ rfl rfl rfl
 ·intro w1
  first | refine a4 rfl T.a6 rfl (c8 mB rfl) ?_ | refine a4 rfl T.a6 rfl (b7 mB rfl) ?_ | refine a4 rfl T.a6 rfl (c5 mB (b4 (by omega) rfl)) ?_ | refine a4 rfl T.a6 rfl (b8 mB (rows_get (by omega) rfl)) ?_
  refine b3 ?_; exact i3 rfl
 refine j5 (fun w1 => d6 F.G8 rfl rfl (C4 _ _) (.refl _) trivial fun _ _ => (q_z rfl)) ?_
 apply k7 _ rfl rfl rfl
 ·intro w1
  first | refine a3 ⟨_, 0, none⟩ rfl rfl T.d9 rfl ?_ | refine a3 _ rfl rfl T.d9 rfl ?_
  refine b3 ?_; exact i3 rfl
 apply k7 _ rfl rfl rfl
 ·intro w1
  first | refine a4 rfl T.a6 rfl (c8 mB rfl) ?_ | refine a4 rfl T.a6 rfl (b7 mB rfl) ?_ | refine a4 rfl T.a6 rfl (c5 mB (b4 (by omega) rfl)) ?_ | refine a4 rfl T.a6 rfl (b8 mB (rows_get (by omega) rfl)) ?_
  refine b3 ?_; exact i3 rfl
 apply k7 _ rfl rfl rfl
 ·intro w1
  first | refine a3 ⟨_, 0, none⟩ rfl rfl T.d9 rfl ?_ | refine a3 _ rfl rfl T.d9 rfl ?_
  refine b3 ?_; exact i3 rfl
 apply k7 _ rfl rfl rfl
 ·intro w1
  first | refine a4 rfl T.a6 rfl (c8 mB rfl) ?_ | refine a4 rfl T.a6 rfl (b7 mB rfl) ?_ | refine a4 rfl T.a6 rfl (c5 mB (b4 (by omega) rfl)) ?_ | refine a4 rfl T.a6 rfl (b8 mB (rows_get (by omega) rfl)) ?_
  refine b3 ?_; exact i3 rfl
 refine j5 (fun w1 => d6 F.G8 rfl rfl (C4 _ _) (.refl _) trivial fun _ _ => (q_z rfl)) ?_
 apply k7 _ rfl rfl rfl
 ·intro w1
  first | refine a3 ⟨_, 2, none⟩ rfl rfl T.k6 rfl ?_ | refine a3 _ rfl rfl T.k6 rfl ?_
  refine b3 ?_; exact i3 rfl
 apply k7 _ rfl rfl rfl
 ·intro w1
  first | refine a4 rfl T.j1 rfl (c8 mB rfl) ?_ | refine a4 rfl T.j1 rfl (b7 mB rfl) ?_ | refine a4 rfl T.j1 rfl (c5 mB (b4 (by omega) rfl)) ?_ | refine a4 rfl T.j1 rfl (b8 mB (rows_get (by omega) rfl)) ?_
  refine b3 ?_; exact i3 rfl
 apply k7 _ rfl rfl rfl
 ·intro w1
  first | refine a3 ⟨_, 2, none⟩ rfl rfl T.k6 rfl ?_ | refine a3 _ rfl rfl T.k6 rfl ?_
  refine b3 ?_; exact i3 rfl
 apply k7 _ rfl rfl rfl
 ·intro w1
  first | refine a4 rfl T.j1 rfl (c8 mB rfl) ?_ | refine a4 rfl T.j1 rfl (b7 mB rfl) ?_ | refine a4 rfl T.j1 rfl (c5 mB (b4 (by omega) rfl)) ?_ | refine a4 rfl T.j1 rfl (b8 mB (rows_get (by omega) rfl)) ?_
  refine b3 ?_; exact i3 rfl
 refine v6 ⟨rfl, ?_⟩; refine d6 F.dN rfl rfl (aV _ _) (.refl _) trivial fun _ _ => ?_; refine j8 _ rfl rfl (fun _ => T.iG ..) fun gS => ?_; refine J0 (rows [cmpI a.2.1 b.2.1, cmpI a.1 b.1, cmpS a.2.2 b.2.2]) ⟨[], List.append_nil _⟩ ?_; refine d6 F.jI rfl rfl (bZ [cmpI a.2.1 b.2.1, cmpI a.1 b.1, cmpS a.2.2 b.2.2] (by simp)) n6 ⟨m0, trivial⟩ fun _ _ => ?_; refine a8 rfl (a7 (i6 ?_)); exact ret1 () rfl rfl rfl trivial i1 trivial
theorem nP {α : Type} [Inhabited α] {l : List α} {k : Nat} (hk : k < l.length) : l.drop k = l.getD k default :: l.drop (k + 1) := by rw [List.drop_eq_getElem_cons hk, B1 hk]
theorem aE {A B : Option Addr} {ca cb : Nat} (a b : List Mk) (ha : a.length ≤ 1000000) : Meets Tryz.prog F.L9 [.slice A a.length ca, .slice B b.length cb, fnV F.B7] { LI := [Row A (rows a), Row B (rows b)], val := fun _ : Unit => int (cmpMs a b) } := by
 refine c4 F.dY rfl l5 fun w0 => ?_; refine a9 (a8 rfl (a7 (b5 (a9 (a5 rfl ?_))))); refine j9 rfl T.j3 rfl ?_; refine a5 rfl (a7 (j0 ?_)); refine s9 (β := Nat) ⟨fun k => k ≤ a.length ∧ k ≤ b.length ∧ cmpMs a b = cmpMs (a.drop k) (b.drop k), fun k => [(0, .slice A a.length ca), (1, .slice B b.length cb), (2, fnV F.B7), (11, .slice A a.length ca), (12, int a.length), (13, int k)], fun _ => [], fun _ => [Row A (rows a), Row B (rows b)]⟩ (fun k => a.length - k) 0 ⟨Nat.zero_le _, Nat.zero_le _, rfl⟩ mC (.refl _) ⟨m0, m1, trivial⟩ fun k hk => ?_; obtain ⟨hka, hkb, ht⟩ := hk; refine a9 (r6 rfl rfl rfl (a7 (b5 ?_)))
 first | refine i8 rfl (fun hb1 => ?_) (fun hb1 => ?_) | refine b9 rfl (fun hb1 => ?_) (fun hb1 => ?_)
 ·have hb1' := hb1; try simp at hb1'
  have hk2 : k < a.length := by omega
  rw [nP hk2] at ht; refine c3 (b6 (b5 (j0 (a9 (a5 rfl ?_))))); refine r7 (α := Mk) _ _ rfl T.j3 T.c7 rfl rfl rfl mB rfl (by omega) (by decide) (r8 rfl T.j2 T.c7 rfl rfl (n3 mB (q8 (by omega))) ?_); refine r9 rfl (fun _ => T.u1 _) fun gA => ?_; refine a8 rfl ?_; refine n1 rfl rfl (by first | exact .refl _ | exact perm2 _ _ _ | exact perm3 _ _ _ _ | exact perm4 _ _ _ _ _) T.c7 (by rfl) (by rfl) ?_; refine a7 (b5 (a9 (a5 rfl (a5 rfl ?_)))); refine j9 rfl T.j3 rfl ?_; refine jC rfl rfl rfl (a7 ?_)
  first | refine i8 rfl (fun hb2 => ?_) (fun hb2 => ?_) | refine b9 rfl (fun hb2 => ?_) (fun hb2 => ?_)
  ·have hb2' := hb2; try simp at hb2'
   have hk3 : k = b.length := by omega
   refine a9 (a8 rfl (a7 (s6 (t5 (l6 (t5 ?_)))))); exact ret1 () rfl (congrArg (fun n => some (int n)) (by rw [ht, hk3, List.drop_length]; rfl)) rfl trivial i1 trivial
  have hb2' := hb2; try simp at hb2'
  have hk3 : k < b.length := by omega
  rw [nP hk3, cmpMs] at ht; refine c3 (b6 (a9 (a5 rfl (a5 rfl ?_)))); refine r7 (α := Mk) _ _ rfl T.j3 T.c7 rfl rfl rfl mB rfl (by omega) (by decide) (r8 rfl T.j2 T.c7 rfl rfl (n3 mB (q8 (by omega))) ?_); refine r9 rfl (fun _ => T.u1 _) fun gA => ?_; refine n1 rfl rfl (by first | exact .refl _ | exact perm2 _ _ _ | exact perm3 _ _ _ _ | exact perm4 _ _ _ _ _) T.c7 (by rfl) (by rfl) ?_; refine k9 (a5 rfl ?_)
  first | refine w7 rfl T.j2 T.c7 rfl mB (by rfl) ?_ | refine z2 rfl T.j2 T.c7 rfl mB (by rfl) ?_ | refine r8 rfl T.j2 T.c7 rfl rfl (n3 mB (q8 (by omega))) ?_
  first | refine w7 rfl T.j2 T.c7 rfl mB (by rfl) ?_ | refine z2 rfl T.j2 T.c7 rfl mB (by rfl) ?_ | refine r8 rfl T.j2 T.c7 rfl rfl (n3 mB (q8 (by omega))) ?_
  refine J1 (cap := []) F.dL rfl rfl rfl (aH (a.getD k default) (b.getD k default)) n6 trivial fun _ _ => ?_; refine a8 rfl (k9 (a5 rfl (u9 rfl rfl rfl (a7 ?_))))
  first | refine i8 rfl (fun hb3 => ?_) (fun hb3 => ?_) | refine b9 rfl (fun hb3 => ?_) (fun hb3 => ?_)
  ·have hb3' := hb3; try simp at hb3'
   rw [if_pos hb3] at ht; refine a9 (a5 rfl (a8 rfl (a7 (i6 (t5 (l6 (t5 ?_))))))); exact ret1 () rfl (congrArg (fun n => some (int n)) (by rw [ht])) rfl trivial i1 trivial
  have hb3' := hb3; try simp at hb3'
  rw [if_neg hb3] at ht; refine c3 (q9 (b6 (c6 ?_))); refine p7 _ rfl rfl rfl rfl l9 ?_; refine a5 rfl (b3 ?_); exact again _ (k + 1) ⟨by omega, by omega, ht⟩ (y5 (by omega)) mC i1 ⟨m0, m1, trivial⟩
 have hb1' := hb1; try simp at hb1'
 have hk2 : k = a.length := by omega
 refine n5 (y6 (n4 (b6 (b5 (a9 (a5 rfl ?_)))))); refine j9 rfl T.j3 rfl (a5 rfl (j9 rfl T.j3 rfl ?_)); refine r6 rfl rfl rfl (a7 ?_)
 first | refine i8 rfl (fun hb4 => ?_) (fun hb4 => ?_) | refine b9 rfl (fun hb4 => ?_) (fun hb4 => ?_)
 ·have hb4' := hb4; try simp at hb4'
  have h4 : k < b.length := by omega
  rw [hk2, List.drop_length, nP (by omega)] at ht; refine a9 (a8 rfl (a7 (s6 ?_))); exact ret1 () rfl (congrArg (fun n => some (int n)) (by rw [ht]; rfl)) rfl trivial i1 trivial
 have hb4' := hb4; try simp at hb4'
 have h4 : k = b.length := by omega
 rw [hk2, List.drop_length, ← hk2, h4, List.drop_length] at ht; refine c3 (b6 (a9 (a8 rfl (a7 (i6 ?_))))); exact ret1 () rfl (congrArg (fun n => some (int n)) (by rw [ht]; rfl)) rfl trivial i1 trivial
theorem aI {A B : Option Addr} {ca cb : Nat} (x y : Lst) (ha : x.2.length ≤ 1000000) (hb : y.2.length ≤ 1000000) : Meets Tryz.prog F.w8 [.agg #[int x.1, .slice A x.2.length ca], .agg #[int y.1, .slice B y.2.length cb]] { LI := [Row A (rows x.2), Row B (rows y.2)], val := fun _ : Unit => int (cmpL x y) } := by
 refine c4 F.gL rfl l5 fun w0 => ?_; refine a9 ?_; refine J9 rfl rfl fun gB => ?_; refine J9 rfl rfl fun gB => ?_; refine a8 rfl (a7 (b5 ?_)); refine z6 16 mixed (by decide) (by decide) rfl rfl ?_
 apply k7 _ rfl rfl rfl
 ·intro w1
  first | refine a3 ⟨_, 0, none⟩ rfl rfl T.u4 rfl ?_ | refine a3 _ rfl rfl T.u4 rfl ?_
  refine b3 ?_; exact i3 rfl
 apply k7 _ rfl rfl rfl
 ·intro w1
  first | refine a4 rfl T.a6 rfl (c8 mB rfl) ?_ | refine a4 rfl T.a6 rfl (b7 mB rfl) ?_ | refine a4 rfl T.a6 rfl (c5 mB (b4 (by omega) rfl)) ?_ | refine a4 rfl T.a6 rfl (b8 mB (rows_get (by omega) rfl)) ?_
  refine b3 ?_; exact i3 rfl
 apply k7 _ rfl rfl rfl
 ·intro w1
  first | refine a3 ⟨_, 0, none⟩ rfl rfl T.u4 rfl ?_ | refine a3 _ rfl rfl T.u4 rfl ?_
  refine b3 ?_; exact i3 rfl
 apply k7 _ rfl rfl rfl
 ·intro w1
  first | refine a4 rfl T.a6 rfl (c8 mB rfl) ?_ | refine a4 rfl T.a6 rfl (b7 mB rfl) ?_ | refine a4 rfl T.a6 rfl (c5 mB (b4 (by omega) rfl)) ?_ | refine a4 rfl T.a6 rfl (b8 mB (rows_get (by omega) rfl)) ?_
  refine b3 ?_; exact i3 rfl
 refine j5 (fun w1 => d6 F.G8 rfl rfl (C4 _ _) (.refl _) trivial fun _ _ => (q_z rfl)) ?_
 apply k7 _ rfl rfl rfl
 ·intro w1
  first | refine a3 ⟨_, 1, none⟩ rfl rfl T.u3 rfl ?_ | refine a3 _ rfl rfl T.u3 rfl ?_
  refine b3 ?_; exact i3 rfl
 apply k7 _ rfl rfl rfl
 ·intro w1
  first | refine a4 rfl T.d7 rfl (c8 mB rfl) ?_ | refine a4 rfl T.d7 rfl (b7 mB rfl) ?_ | refine a4 rfl T.d7 rfl (c5 mB (b4 (by omega) rfl)) ?_ | refine a4 rfl T.d7 rfl (b8 mB (rows_get (by omega) rfl)) ?_
  refine b3 ?_; exact i3 rfl
 refine j5 (fun w1 => j9 rfl T.j3 rfl (q_z rfl)) ?_
 apply k7 _ rfl rfl rfl
 ·intro w1
  first | refine a3 ⟨_, 1, none⟩ rfl rfl T.u3 rfl ?_ | refine a3 _ rfl rfl T.u3 rfl ?_
  refine b3 ?_; exact i3 rfl
 apply k7 _ rfl rfl rfl
 ·intro w1
  first | refine a4 rfl T.d7 rfl (c8 mB rfl) ?_ | refine a4 rfl T.d7 rfl (b7 mB rfl) ?_ | refine a4 rfl T.d7 rfl (c5 mB (b4 (by omega) rfl)) ?_ | refine a4 rfl T.d7 rfl (b8 mB (rows_get (by omega) rfl)) ?_
  refine b3 ?_; exact i3 rfl
 refine j5 (fun w1 => j9 rfl T.j3 rfl (q_z rfl)) ?_; refine j5 (fun w1 => d6 F.G8 rfl rfl (C4 _ _) (.refl _) trivial fun _ _ => (q_z rfl)) ?_
 apply k7 _ rfl rfl rfl
 ·intro w1
  first | refine a3 ⟨_, 1, none⟩ rfl rfl T.u3 rfl ?_ | refine a3 _ rfl rfl T.u3 rfl ?_
  refine b3 ?_; exact i3 rfl
 apply k7 _ rfl rfl rfl
 ·intro w1
  first | refine a4 rfl T.d7 rfl (c8 mB rfl) ?_ | refine a4 rfl T.d7 rfl (b7 mB rfl) ?_ | refine a4 rfl T.d7 rfl (c5 mB (b4 (by omega) rfl)) ?_ | refine a4 rfl T.d7 rfl (b8 mB (rows_get (by omega) rfl)) ?_
  refine b3 ?_; exact i3 rfl
 apply k7 _ rfl rfl rfl
 ·intro w1
  first | refine a3 ⟨_, 1, none⟩ rfl rfl T.u3 rfl ?_ | refine a3 _ rfl rfl T.u3 rfl ?_
  refine b3 ?_; exact i3 rfl
 apply k7 _ rfl rfl rfl
 ·intro w1
  first | refine a4 rfl T.d7 rfl (c8 mB rfl) ?_ | refine a4 rfl T.d7 rfl (b7 mB rfl) ?_ | refine a4 rfl T.d7 rfl (c5 mB (b4 (by omega) rfl)) ?_ | refine a4 rfl T.d7 rfl (b8 mB (rows_get (by omega) rfl)) ?_
  refine b3 ?_; exact i3 rfl
 refine v6 ⟨rfl, ?_⟩; refine d6 F.dJ rfl rfl (aE x.2 y.2 ha) (.refl _) ⟨m0, m1, trivial⟩ fun _ _ => ?_; refine j8 _ rfl rfl (fun _ => T.iG ..) fun gS => ?_; refine J0 (rows [cmpI x.1 y.1, cmpI x.2.length y.2.length, cmpMs x.2 y.2]) ⟨[], List.append_nil _⟩ ?_; refine d6 F.jI rfl rfl (bZ [cmpI x.1 y.1, cmpI x.2.length y.2.length, cmpMs x.2 y.2] (by simp)) n6 ⟨m0, trivial⟩ fun _ _ => ?_; refine a8 rfl (a7 (i6 ?_)); exact ret1 () rfl rfl rfl trivial i1 trivial
abbrev LstV := Int × Sl Mk
instance : El LstV where
  default := (0, ⟨none, 0, []⟩)
  cells x := [int x.1, .slice x.2.a x.2.l.length x.2.c]
  sz := 2
  len _ := rfl
  one a u h := by simp at h; rcases h with h | h <;> subst h <;> rfl
def LstV.dat (x : LstV) : Lst := (x.1, x.2.l)
def LstV.row (x : LstV) : Fact := Row x.2.a (rows x.2.l)
def LstV.v (x : LstV) : Value := .agg #[int x.1, .slice x.2.a x.2.l.length x.2.c]
theorem Z0 (x y : LstV) (ha : x.2.l.length ≤ 1000000) (hb : y.2.l.length ≤ 1000000) : Meets Tryz.prog F.w8 [x.v, y.v] { LI := [x.row, y.row], val := fun _ : Unit => int (cmpL x.dat y.dat) } :=
  aI (A := x.2.a) (B := y.2.a) (ca := x.2.c) (cb := y.2.c) (x.1, x.2.l) (y.1, y.2.l) ha hb
def leastV (f : LstV) (l : List LstV) : LstV := l.foldl (fun f x => if cmpL x.dat f.dat < 0 then x else f) f
theorem jZ (f : LstV) (l : List LstV) : leastV f l ∈ f :: l := by
  unfold leastV
  induction l generalizing f with
  | nil => simp
  | cons x l ih =>
    rw [List.foldl_cons]; have := ih (if cmpL x.dat f.dat < 0 then x else f)
    rcases List.mem_cons.1 this with h | h
    · rw [h]; split <;> simp
    simp [h]
theorem xQ {f : LstV} {l : List LstV} {k : Nat} (hk : k < l.length) : leastV f (l.take (k + 1)) = if cmpL (l.getD k default).dat (leastV f (l.take k)).dat < 0 then l.getD k default else leastV f (l.take k) := by
  rw [u0 l k hk]; unfold leastV; rw [List.foldl_append]
  rfl
theorem lE {B : Option Addr} {cb : Nat} (f : LstV) (l : List LstV) (hl : l.length ≤ 1000) (hs : ∀ x ∈ f :: l, x.2.l.length ≤ 1000000) :
    Meets Tryz.prog F.gI [fnV F.w8, f.v, .slice B l.length cb] { LI := [Row B (rows l), Facts ((f :: l).map LstV.row)], val := fun _ : Unit => (leastV f l).v } := by
 unfold LstV.v; refine c4 F.tD rfl l5 fun w0 => ?_; refine a9 ?_; refine J9 rfl rfl fun gB => ?_; refine r9 rfl (fun _ => T.E2 _) fun gA => ?_; refine a7 (kK ?_); refine J7 (.swap _ _ _) ?_; refine c6 (a5 rfl ?_); refine j9 rfl T.M9 rfl ?_; refine a5 rfl (a7 (j0 ?_)); refine s9 (β := Nat) ⟨fun k => k ≤ l.length, fun k => [(0, fnV F.w8), (4, .pointer (j4 gB)), (6, .pointer (j4 gA)), (9, .slice B l.length cb), (10, int l.length), (11, int k)], fun k => [(gB, .cells (El.cells (leastV f (l.take k))).toArray T.s7 (0, 0)), (gA, .cells #[int 0, .slice none 0 0] T.s7 (0, 0))], fun _ => [Row B (rows l), Facts ((f :: l).map LstV.row)]⟩ (fun k => l.length - k) 0 (Nat.zero_le _) mC (.refl _) ⟨m0, m1, trivial⟩ fun k hk => ?_; simp only at hk; refine a9 (r6 rfl rfl rfl (a7 (b5 ?_)))
 first | refine i8 rfl (fun hb1 => ?_) (fun hb1 => ?_) | refine b9 rfl (fun hb1 => ?_) (fun hb1 => ?_)
 ·have hb1' := hb1; try simp at hb1'
  have hk2 : k < l.length := by omega
  have hlt := xQ (f := f) hk2
  have hmem : leastV f (l.take k) ∈ f :: l := by
    rcases List.mem_cons.1 (jZ f (l.take k)) with h | h
    · simp [h]
    exact List.mem_cons_of_mem _ (List.mem_of_mem_take h)
  refine c3 (b6 (b5 (j0 (a9 ?_)))); refine r7 (α := _) _ _ rfl T.M9 T.i7 rfl rfl rfl mB rfl (by omega) (by decide) (r8 rfl T.j7 T.i7 rfl rfl (n3 mB (q8 (by omega))) ?_); refine r9 rfl (fun _ => T.E2 _) fun gA => ?_; refine n1 rfl rfl (by first | exact .refl _ | exact perm2 _ _ _ | exact perm3 _ _ _ _ | exact perm4 _ _ _ _ _) T.i7 (by rfl) (by rfl) ?_; refine a7 (b5 ?_); have hx := List.mem_cons_of_mem f (L3 hk2); generalize hm : l.getD k default = x at *; refine c6 (a5 rfl ?_)
  first | refine w7 rfl T.j7 T.i7 rfl mB (by rfl) ?_ | refine z2 rfl T.j7 T.i7 rfl mB (by rfl) ?_ | refine r8 rfl T.j7 T.i7 rfl rfl (n3 mB (q8 (by omega))) ?_
  first | refine w7 rfl T.j7 T.i7 rfl mB (by rfl) ?_ | refine z2 rfl T.j7 T.i7 rfl mB (by rfl) ?_ | refine r8 rfl T.j7 T.i7 rfl rfl (n3 mB (q8 (by omega))) ?_
  refine wB (F := LstV.row x) m1 (List.mem_map.2 ⟨x, hx, rfl⟩) (wB (F := LstV.row (leastV f (l.take k))) m2 (List.mem_map.2 ⟨_, hmem, rfl⟩) ?_); refine J1 (vs := [x.v, (leastV f (l.take k)).v]) (cap := []) F.dM rfl rfl rfl (Z0 x (leastV f (l.take k)) (hs x hx) (hs _ hmem)) n6 ⟨m1, m0, trivial⟩ fun _ _ => ?_; refine r6 rfl rfl rfl (a7 ?_)
  first | refine i8 rfl (fun hb2 => ?_) (fun hb2 => ?_) | refine b9 rfl (fun hb2 => ?_) (fun hb2 => ?_)
  ·have hb2' := hb2; try simp at hb2'
   rw [if_pos hb2] at hlt; refine c6 ?_
   first | refine w7 rfl T.j7 T.i7 rfl mB (by rfl) ?_ | refine z2 rfl T.j7 T.i7 rfl mB (by rfl) ?_ | refine r8 rfl T.j7 T.i7 rfl rfl (n3 mB (q8 (by omega))) ?_
   refine n1 rfl rfl (.swap _ _ _) T.i7 (by rfl) (by rfl) ?_; refine b3 (q9 (b6 (c6 ?_))); refine p7 _ rfl rfl rfl rfl l9 ?_; refine a5 rfl (b3 ?_); refine again _ (k + 1) (by show k + 1 ≤ l.length; omega) (y5 (by omega)) mC ?_ ⟨m2, m3, trivial⟩; show [(gB, Obj.cells (El.cells (leastV f (l.take (k + 1)))).toArray T.s7 (0, 0)), _].Sublist _; rw [hlt]; exact (List.sublist_cons_self _ _).cons_cons _
  have hb2' := hb2; try simp at hb2'
  rw [if_neg hb2] at hlt; refine c3 (q9 (b6 (c6 ?_))); refine p7 _ rfl rfl rfl rfl l9 ?_; refine a5 rfl (b3 ?_); refine again _ (k + 1) (by show k + 1 ≤ l.length; omega) (y5 (by omega)) mC ?_ ⟨m2, m3, trivial⟩; show [(gB, Obj.cells (El.cells (leastV f (l.take (k + 1)))).toArray T.s7 (0, 0)), _].Sublist _; rw [hlt]; exact List.sublist_cons_self _ _
 have hb1' := hb1; try simp at hb1'
 have hk2 : k = l.length := by omega
 subst hk2; refine n5 (y6 (n4 (b6 (a9 ?_))))
 first | refine w7 rfl T.j7 T.i7 rfl mB (by rfl) ?_ | refine z2 rfl T.j7 T.i7 rfl mB (by rfl) ?_ | refine r8 rfl T.j7 T.i7 rfl rfl (n3 mB (q8 (by omega))) ?_
 refine n1 rfl rfl (by first | exact .refl _ | exact perm2 _ _ _ | exact perm3 _ _ _ _ | exact perm4 _ _ _ _ _) T.i7 (by rfl) (by rfl) ?_; refine a7 (i6 ?_); refine Z4 () rfl rfl T.j7 T.i7 rfl m0 (by rw [List.take_length]; rfl) rfl trivial i1 trivial
theorem E6 (x : LstV) (m : Mk) (hc : 0 ≤ x.1 ∧ x.1 ≤ 1000000) (hl : x.2.l.length ≤ 1000000) :
    Meets Tryz.prog F.O3 [x.v, .agg #[int m.1, int m.2.1, str m.2.2]] { LI := [x.row], inv := fun o : OutC => (m :: x.2.l).length ≤ o.2, val := fun o => LstV.v (if m.1 = 3 then x.1 else x.1 + 1, ⟨o.1, o.2, m :: x.2.l⟩), LO := fun o => [Row o.1 (rows (m :: x.2.l))] } := by
 unfold LstV.v LstV.row; refine c4 F.iR rfl l5 fun w0 => ?_; refine a9 ?_; refine J9 rfl rfl fun gB => ?_; refine J9 rfl rfl fun gB => ?_; refine r9 rfl (fun _ => T.E2 _) fun gA => ?_; refine a7 (b5 ?_); refine J2 ([]) (_) n6 9 [8] mixed (by decide) (by decide) (by decide) rfl rfl rfl ?_
 apply k7 _ rfl rfl rfl
 ·intro w1
  first | refine a3 ⟨_, 0, none⟩ rfl rfl T.u4 rfl ?_ | refine a3 _ rfl rfl T.u4 rfl ?_
  refine b3 ?_; exact i3 rfl
 apply k7 _ rfl rfl rfl
 ·intro w1
  first | refine a4 rfl T.a6 rfl (c8 mB rfl) ?_ | refine a4 rfl T.a6 rfl (b7 mB rfl) ?_ | refine a4 rfl T.a6 rfl (c5 mB (b4 (by omega) rfl)) ?_ | refine a4 rfl T.a6 rfl (b8 mB (rows_get (by omega) rfl)) ?_
  refine b3 ?_; exact i3 rfl
 apply k7 _ rfl rfl rfl
 ·intro w1
  first | refine w7 rfl T.j2 T.c7 rfl mB (by rfl) ?_ | refine z2 rfl T.j2 T.c7 rfl mB (by rfl) ?_ | refine r8 rfl T.j2 T.c7 rfl rfl (n3 mB (q8 (by omega))) ?_
  refine b3 ?_; exact i3 rfl
 refine aA ⟨Nat, fun _ => True, fun g => .slice (j4 g) 1 1, fun g => [Row (j4 g) (rows [m])]⟩ rfl rfl rfl ?_ ?_
 ·intro w1; refine j8 _ rfl rfl (fun _ => T.A6 ..) fun gS => ?_; refine b3 ?_; refine D5 (rows [m]) ⟨[], List.append_nil _⟩ ?_; exact I0 gS trivial rfl ⟨m0, trivial⟩
 apply k7 _ rfl rfl rfl
 ·intro w1
  first | refine a3 ⟨_, 1, none⟩ rfl rfl T.u3 rfl ?_ | refine a3 _ rfl rfl T.u3 rfl ?_
  refine b3 ?_; exact i3 rfl
 apply k7 _ rfl rfl rfl
 ·intro w1
  first | refine a4 rfl T.d7 rfl (c8 mB rfl) ?_ | refine a4 rfl T.d7 rfl (b7 mB rfl) ?_ | refine a4 rfl T.d7 rfl (c5 mB (b4 (by omega) rfl)) ?_ | refine a4 rfl T.d7 rfl (b8 mB (rows_get (by omega) rfl)) ?_
  refine b3 ?_; exact i3 rfl
 refine aA ⟨OutC, fun o => x.2.l.length + 1 ≤ o.2, fun o => .slice o.1 (x.2.l.length + 1) o.2, fun o => [Row o.1 (rows (m :: x.2.l))]⟩ rfl rfl rfl ?_ ?_
 ·intro g1 _; intro w1; refine tB (x.2.l.length + 1) (rows (m :: x.2.l)) T.E1 rfl rfl rfl m0 (E5 [m]) (Src.row (news := rows x.2.l) m1 (E5 _) (I7 _) (by decide)) (by omega) rfl (by unfold maxLen; omega) (by omega) fun A' c' hc' => ?_; refine b3 ?_; exact I0 (A', c') hc' rfl ⟨m0, trivial⟩
 refine aA ⟨OutC, fun o => x.2.l.length + 1 ≤ o.2, fun o => .agg #[int x.1, .slice o.1 (x.2.l.length + 1) o.2], fun o => [Row o.1 (rows (m :: x.2.l))]⟩ rfl rfl rfl ?_ ?_
 ·intro o ho; intro w1; refine t4 [(0, int x.1), (1, .slice o.1 (x.2.l.length + 1) o.2)] rfl rfl (fun _ => T.mO ..) ?_; refine b3 ?_; exact I0 o ho rfl ⟨m0, trivial⟩
 refine hH ⟨Nat, fun _ => True, fun g => .pointer (j4 g), fun _ => [], fun g => [(g, Obj.cells #[int 0, .slice none 0 0] T.s7 (0, 0))]⟩ rfl rfl rfl ?_ ?_
 ·intro w1; refine r9 rfl (fun _ => T.E2 _) fun gA => ?_; refine b3 ?_; exact L5 gA trivial (fun _ => rfl) (.refl _) trivial
 refine v6 ⟨rfl, ?_⟩; intro g1 _ o1 ho1 o ho g5 _; refine n1 rfl rfl (by first | exact .refl _ | exact perm2 _ _ _ | exact perm3 _ _ _ _ | exact perm4 _ _ _ _ _) T.i7 (by rfl) (by rfl) ?_; refine a7 (b5 (a9 ?_))
 first | refine a3 ⟨_, 0, none⟩ rfl rfl T.d9 rfl ?_ | refine a3 _ rfl rfl T.d9 rfl ?_
 first | refine a4 rfl T.a6 rfl (b7 mB rfl) ?_ | refine a4 rfl T.a6 rfl (c8 mB rfl) ?_ | refine a4 rfl T.a6 rfl (c5 mB (b4 (by omega) rfl)) ?_ | refine a4 rfl T.a6 rfl (b8 mB (rows_get (by omega) rfl)) ?_
 refine u9 rfl rfl rfl (a7 ?_)
 first | refine i8 rfl (fun hb1 => ?_) (fun hb1 => ?_) | refine b9 rfl (fun hb1 => ?_) (fun hb1 => ?_)
 ·have hb1' := hb1; try simp at hb1'
  rw [if_neg hb1]; refine c6 ?_
  first | refine a3 ⟨_, 0, none⟩ rfl rfl T.u4 rfl ?_ | refine a3 _ rfl rfl T.u4 rfl ?_
  first | refine a4 rfl T.a6 rfl (b7 mB rfl) ?_ | refine a4 rfl T.a6 rfl (c8 mB rfl) ?_ | refine a4 rfl T.a6 rfl (c5 mB (b4 (by omega) rfl)) ?_ | refine a4 rfl T.a6 rfl (b8 mB (rows_get (by omega) rfl)) ?_
  refine p7 _ rfl rfl rfl rfl l9 ?_
  first | refine a3 ⟨_, 0, none⟩ rfl rfl T.u4 rfl ?_ | refine a3 _ rfl rfl T.u4 rfl ?_
  refine n7 rfl rfl (by first | exact .refl _ | exact perm2 _ _ _ | exact perm3 _ _ _ _ | exact perm4 _ _ _ _ _) T.D8 (by rfl) (by rfl) ?_; refine k9 ?_
  first | refine w7 rfl T.j7 T.i7 rfl mB (by rfl) ?_ | refine z2 rfl T.j7 T.i7 rfl mB (by rfl) ?_ | refine r8 rfl T.j7 T.i7 rfl rfl (n3 mB (q8 (by omega))) ?_
  refine n1 rfl rfl (.swap _ _ _) T.i7 (by rfl) (by rfl) ?_; refine a7 (i6 ?_); refine Z4 o rfl rfl T.j7 T.i7 rfl m0 rfl rfl ho i1 ⟨m0, trivial⟩
 have hb1' := hb1; try simp at hb1'
 rw [if_pos (Classical.not_not.1 hb1)]; refine c3 (b6 (a9 ?_))
 first | refine w7 rfl T.j7 T.i7 rfl mB (by rfl) ?_ | refine z2 rfl T.j7 T.i7 rfl mB (by rfl) ?_ | refine r8 rfl T.j7 T.i7 rfl rfl (n3 mB (q8 (by omega))) ?_
 refine n1 rfl rfl (.swap _ _ _) T.i7 (by rfl) (by rfl) ?_; refine a7 (i6 ?_); refine Z4 o rfl rfl T.j7 T.i7 rfl m0 rfl rfl ho i1 ⟨m0, trivial⟩
end Go.Proofs.YtegfgegnhjkcfaaGreatDoor
end
section
namespace Go.Proofs.YtegfgegnhjkcfaaGreatDoor
open Go Go.W
set_option maxRecDepth 20000
attribute [local irreducible] HL HC HQ HB Row Rows2 Blk Facts
def behindP (x : Lst) (m : Mk) : Lst := (if m.1 = 3 then x.1 else x.1 + 1, m :: x.2)
def leastP (f : Lst) (l : List Lst) : Lst := l.foldl (fun f x => if cmpL x f < 0 then x else f) f
def leastOf : List Lst → Lst
  | [] => (0, [])
  | f :: l => leastP f l
def diffP (old page : List Str) (i j : Nat) : Lst :=
  leastOf ((if i = old.length ∧ j = page.length then [(0, [])] else []) ++
    (if h : j < page.length then [behindP (diffP old page i (j + 1)) (1, (i : Int), page.getD j default)] else []) ++
    (if h : i < old.length then [behindP (diffP old page (i + 1) j) (3, (i : Int), [])] else []) ++
    (if h : i < old.length ∧ j < page.length then behindP (diffP old page (i + 1) (j + 1)) (2, (i : Int), page.getD j default) :: (if old.getD i default = page.getD j default then [diffP old page (i + 1) (j + 1)] else []) else []))
termination_by (old.length - i) + (page.length - j)
decreasing_by all_goals omega
theorem yY (f : Lst) (l : List Lst) : leastP f l ∈ f :: l := by
  unfold leastP
  induction l generalizing f with
  | nil => simp
  | cons x l ih =>
    rw [List.foldl_cons]; have := ih (if cmpL x f < 0 then x else f)
    rcases List.mem_cons.1 this with h | h
    · rw [h]; split <;> simp
    simp [h]
theorem xR {l : List Lst} (h : l ≠ []) : leastOf l ∈ l := by
  cases l with
  | nil => exact absurd rfl h
  | cons f l => exact yY f l
theorem yX (f : LstV) (l : List LstV) : (leastV f l).dat = leastP f.dat (l.map LstV.dat) := by
  unfold leastV leastP
  induction l generalizing f with
  | nil => rfl
  | cons x l ih =>
    rw [List.foldl_cons, ih, List.map_cons, List.foldl_cons]
    congr 1
    split <;> rfl
theorem ax0 {f : LstV} {l : List LstV} {c : List Lst} (h : (f :: l).map LstV.dat = c) : (leastV f l).dat = leastOf c := by
  rw [← h, yX]; rfl
theorem yA (old page : List Str) : ∀ (d i j : Nat), (old.length - i) + (page.length - j) ≤ d → 0 ≤ (diffP old page i j).1 ∧ (diffP old page i j).1 ≤ (old.length - i : Nat) + (page.length - j : Nat) ∧ (diffP old page i j).2.length ≤ (old.length - i) + (page.length - j) := by
  intro d
  induction d with
  | zero =>
    intro i j h; unfold diffP; rw [dif_neg (by omega), dif_neg (by omega), dif_neg (by omega)]
    split <;> simp [leastOf, leastP] <;> omega
  | succ d ih =>
    intro i j h
    have key : ∀ c : List Lst, (∀ x ∈ c, 0 ≤ x.1 ∧ x.1 ≤ (old.length - i : Nat) + (page.length - j : Nat) ∧ x.2.length ≤ (old.length - i) + (page.length - j)) → 0 ≤ (leastOf c).1 ∧ (leastOf c).1 ≤ (old.length - i : Nat) + (page.length - j : Nat) ∧ (leastOf c).2.length ≤ (old.length - i) + (page.length - j) := by
      intro c hc
      by_cases hn : c = []
      · subst hn; simp [leastOf]; omega
      exact hc _ (xR hn)
    have bh : ∀ (x : Lst) (m : Mk) (N : Nat), 0 ≤ x.1 ∧ x.1 ≤ (N : Int) ∧ x.2.length ≤ N → 0 ≤ (behindP x m).1 ∧ (behindP x m).1 ≤ ((N + 1 : Nat) : Int) ∧ (behindP x m).2.length ≤ N + 1 := by
      intro x m N hx; unfold behindP; refine ⟨?_, ?_, ?_⟩
      · simp only; split <;> omega
      · simp only; split <;> omega
      simp only [List.length_cons]; omega
    unfold diffP; refine key _ fun x hx => ?_; simp only [List.mem_append] at hx
    rcases hx with ((hx | hx) | hx) | hx
    · split at hx
      · simp at hx; subst hx; simp; omega
      simp at hx
    · split at hx
      · rename_i hj
        simp at hx; subst hx
        have := bh (diffP old page i (j + 1)) (1, (i : Int), page.getD j default) ((old.length - i) + (page.length - (j + 1))) (by have := ih i (j + 1) (by omega); omega); have e : page.length - j = page.length - (j + 1) + 1 := by omega
        simp only [List.getD_eq_getElem?_getD] at this
        omega
      simp at hx
    · split at hx
      · rename_i hj
        simp at hx; subst hx
        have := bh (diffP old page (i + 1) j) (3, (i : Int), ([] : Str)) ((old.length - (i + 1)) + (page.length - j)) (by have := ih (i + 1) j (by omega); omega)
        omega
      simp at hx
    split at hx
    · rename_i hj
      have h2 := ih (i + 1) (j + 1) (by omega)
      rcases List.mem_cons.1 hx with hx | hx
      · subst hx
        have := bh (diffP old page (i + 1) (j + 1)) (2, (i : Int), page.getD j default) ((old.length - (i + 1)) + (page.length - (j + 1))) (by omega)
        omega
      split at hx
      · simp at hx; subst hx; omega
      simp at hx
    simp at hx
abbrev Memo := List (Ment (Int × Int))
def MI (old page : List Str) (l : Memo) (Fs : List Fact) : Prop := ∀ e ∈ l, ∃ (x : LstV) (i j : Nat), e.2.1 = x.v ∧ x.row ∈ Fs ∧ e.1 = ((i : Int), (j : Int)) ∧ x.dat = diffP old page i j
theorem MI.mono {old page : List Str} {l : Memo} {Fs Gs : List Fact} (h : MI old page l Fs) (hs : ∀ F ∈ Fs, F ∈ Gs) : MI old page l Gs := fun e he => by
  obtain ⟨x, i, j, h1, h2, h3⟩ := h e he; exact ⟨x, i, j, h1, hs _ h2, h3⟩
theorem MI.get {old page : List Str} {l : Memo} {Fs : List Fact} (h : MI old page l Fs) {i j : Nat} {v : Value} (hv : getM l ((i : Int), (j : Int)) = some v) : ∃ x : LstV, v = x.v ∧ x.row ∈ Fs ∧ x.dat = diffP old page i j := by
  obtain ⟨e, he, h1, h2⟩ := cq1 hv; obtain ⟨x, i', j', h3, h4, h5, h6⟩ := h e he; rw [h1] at h5; simp only [Prod.mk.injEq, Int.natCast_inj] at h5; obtain ⟨rfl, rfl⟩ := h5; exact ⟨x, h2 ▸ h3, h4, h6⟩
theorem MI.put {old page : List Str} {l : Memo} {Fs : List Fact} (h : MI old page l Fs) {i j clk : Nat} {x : LstV} (hx : x.row ∈ Fs) (hd : x.dat = diffP old page i j) : MI old page (putM l ((i : Int), (j : Int)) x.v clk) Fs := fun e he => by
  rcases bx7 he with ⟨h1, h2⟩ | he
  · exact ⟨x, i, j, h2, hx, h1, hd⟩
  exact h e he
theorem zv_list (w : World) : (zeroValue T.s7).run Tryz.prog w = .ok (.agg #[int 0, .slice none 0 0]) w := by kernel_rfl
abbrev KP : KeyC Tryz.prog T.K5 pair := KeyC.pair T.bq0 T.nY T.D8
def capV (gk go gp gf : Nat) : Value := .func (.func F.W1) #[] #[.pointer (j4 gk), .pointer (j4 go), .pointer (j4 gp), .pointer (j4 gf)]
def cellsD (gk gm go gp gf : Nat) (A B : Option Addr) (n ca m cb : Nat) : List Fact :=
  [Blk gk (.cells #[.map (some gm)] T.D4 (0, 0)), Blk go (.cells #[.slice A n ca] T.strs (0, 0)), Blk gp (.cells #[.slice B m cb] T.strs (0, 0)), Blk gf (.cells #[capV gk go gp gf] T.E8 (0, 0))]
def diffCon (gk gm go gp gf : Nat) (A B : Option Addr) (ca cb : Nat) (old page : List Str) (l : Memo) (clk : Nat) (Fs : List Fact) (i j : Nat) : Con (Memo × Nat × List Fact × LstV) :=
  { hpI := [(gm, mapO pair l clk)], LI := Facts Fs :: Row A (rows old) :: Row B (rows page) :: cellsD gk gm go gp gf A B old.length ca page.length cb,
    inv := fun x => MI old page x.1 x.2.2.1 ∧ x.2.2.2.dat = diffP old page i j, val := fun x => x.2.2.2.v, hpO := fun x => [(gm, mapO pair x.1 x.2.1)], LO := fun x => [x.2.2.2.row, Facts x.2.2.1] }
def argD (gk go gp gf : Nat) (i j : Nat) : List Value := [int i, int j, .pointer (j4 gk), .pointer (j4 go), .pointer (j4 gp), .pointer (j4 gf)]
def cand0 (old page : List Str) (i j : Nat) : List Lst := if i = old.length ∧ j = page.length then [(0, [])] else []
def cand1 (old page : List Str) (i j : Nat) : List Lst := cand0 old page i j ++ (if j < page.length then [behindP (diffP old page i (j + 1)) (1, (i : Int), page.getD j default)] else [])
def cand2 (old page : List Str) (i j : Nat) : List Lst := cand1 old page i j ++ (if i < old.length then [behindP (diffP old page (i + 1) j) (3, (i : Int), [])] else [])
def cand3 (old page : List Str) (i j : Nat) : List Lst := cand2 old page i j ++ (if i < old.length ∧ j < page.length then behindP (diffP old page (i + 1) (j + 1)) (2, (i : Int), page.getD j default) :: (if old.getD i default = page.getD j default then [diffP old page (i + 1) (j + 1)] else []) else [])
theorem cq6 (old page : List Str) (i j : Nat) : diffP old page i j = leastOf (cand3 old page i j) := by
  rw [diffP]; simp only [dite_eq_ite, cand3, cand2, cand1, cand0]
theorem bdV {old page : List Str} {x : LstV} {i j : Nat} (h : x.dat = diffP old page i j) (ho : old.length ≤ 1000) (hp : page.length ≤ 1000) : (0 ≤ x.1 ∧ x.1 ≤ 1000000) ∧ x.2.l.length ≤ 1000000 := by
  have := yA old page _ i j (Nat.le_refl _); rw [← h] at this; obtain ⟨h1, h2, h3⟩ := this; simp only [LstV.dat] at h1 h2 h3; exact ⟨⟨h1, by omega⟩, by omega⟩
theorem pm8 {α : Type} (l : List α) (a b c : α) : ((a :: l) ++ [b, c]).Perm (l ++ [a, b, c]) := L7 fun p => by simp only [List.countP_append, List.countP_cons, List.countP_nil]; omega
theorem pm9 {α : Type} (l : List α) (s a b c : α) : (s :: a :: (l ++ [b, c])).Perm (l ++ [s, a, b, c]) := L7 fun p => by simp only [List.countP_append, List.countP_cons, List.countP_nil]; omega
theorem pm10 {α : Type} (l : List α) (a b c d : α) : (l ++ [a, b, c, d]).Perm (a :: (l ++ [b, c, d])) := L7 fun p => by simp only [List.countP_append, List.countP_cons, List.countP_nil]; omega
theorem pm11 {α : Type} (l : List α) (s a b c d : α) : (s :: a :: (l ++ [b, c, d])).Perm (l ++ [s, a, b, c, d]) := L7 fun p => by simp only [List.countP_append, List.countP_cons, List.countP_nil]; omega
theorem cx2 {old page : List Str} {i j : Nat} (hi : i ≤ old.length) (hj : j ≤ page.length) : cand3 old page i j ≠ [] := by
  unfold cand3 cand2 cand1 cand0
  by_cases h1 : j < page.length
  · simp [h1]
  by_cases h2 : i < old.length
  · simp [h2]
  have e1 : i = old.length := by omega
  have e2 : j = page.length := by omega
  simp [e1, e2]
theorem cx3 {old page : List Str} {i j : Nat} (ho : old.length ≤ 1000) (hp : page.length ≤ 1000) : ∀ x ∈ cand3 old page i j, x.2.length ≤ 1000000 := by
  have b : ∀ a b, (diffP old page a b).2.length ≤ 2000 := fun a b => by have := (yA old page _ a b (Nat.le_refl _)).2.2; omega
  intro x hx; unfold cand3 cand2 cand1 cand0 at hx; simp only [List.mem_append] at hx
  rcases hx with ((hx | hx) | hx) | hx
  · split at hx <;> simp at hx
    subst hx; simp
  · split at hx <;> simp at hx
    subst hx; have := b i (j + 1); simp only [behindP, List.length_cons]; omega
  · split at hx <;> simp at hx
    subst hx; have := b (i + 1) j; simp only [behindP, List.length_cons]; omega
  split at hx
  · rcases List.mem_cons.1 hx with hx | hx
    · subst hx; have := b (i + 1) (j + 1); simp only [behindP, List.length_cons]; omega
    split at hx <;> simp at hx
    subst hx; have := b (i + 1) (j + 1); omega
  simp at hx
theorem uO (old page : List Str) (i j : Nat) : (cand2 old page i j).length ≤ 3 := by
  have h1 : ∀ (p : Prop) [Decidable p] (x : Lst), (if p then [x] else []).length ≤ 1 := by intro p _ x; split <;> simp
  unfold cand2 cand1 cand0; rw [List.length_append, List.length_append]; have a := h1 (i = old.length ∧ j = page.length) (0, []); have b := h1 (j < page.length) (behindP (diffP old page i (j + 1)) (1, (i : Int), page.getD j default)); have c := h1 (i < old.length) (behindP (diffP old page (i + 1) j) (3, (i : Int), []))
  omega
structure DSt where
  l : Memo
  clk : Nat
  Fs : List Fact
  cs : List LstV
  o : OutC
  og : Hp
def dInv (old page : List Str) (c : List Lst) (x : DSt) : Prop := MI old page x.l x.Fs ∧ x.cs.map LstV.dat = c ∧ Grow T.s7 2 x.o.1 x.cs.length x.o.2 (rows x.cs) x.og ∧ (∀ y ∈ x.cs, y.row ∈ x.Fs) ∧ x.cs.length ≤ 10
abbrev dSta (gk gm go gp gf g8 g9 : Nat) (A B : Option Addr) (ca cb : Nat) (old page : List Str) (i j : Nat) (c : List Lst) : Sta DSt :=
  { inv := dInv old page c
    fr := fun x => [(0, int i), (1, int j), (2, .pointer (j4 gk)), (3, .pointer (j4 go)), (4, .pointer (j4 gp)), (5, .pointer (j4 gf)), (8, .pointer (j4 g8)), (9, .pointer (j4 g9)), (12, .slice x.o.1 x.cs.length x.o.2)]
    hp := fun x => (gm, mapO pair x.l x.clk) :: (x.og ++ [(g8, .cells #[int 0, .slice none 0 0] T.s7 (0, 0)), (g9, .cells #[int i, int j] T.K5 (0, 0))])
    L := fun x => Facts x.Fs :: Row A (rows old) :: Row B (rows page) :: cellsD gk gm go gp gf A B old.length ca page.length cb }
theorem jV {gk gm go gp gf : Nat} {A B : Option Addr} {ca cb : Nat} {old page : List Str} (ho : old.length ≤ 1000) (hpl : page.length ≤ 1000) (d : Nat) : ∀ (i j : Nat) (l : Memo) (clk : Nat) (Fs : List Fact), (old.length - i) + (page.length - j) < d → i ≤ old.length → j ≤ page.length → MI old page l Fs →
    Meets Tryz.prog F.W1 (argD gk go gp gf i j) (diffCon gk gm go gp gf A B ca cb old page l clk Fs i j) := by
 induction d
 case zero => intro i j l clk Fs hd; omega
 rename_i d ih
 intro i j l clk Fs hd hi hj hM; refine c4 F.rJ rfl l5 fun w0 => ?_; refine a9 ?_; refine r9 rfl (fun _ => T.E2 _) fun g8 => ?_; refine k9 (a5 rfl (a5 rfl ?_)); refine t4 _ rfl rfl (fun _ => T.tY ..) ?_; refine r9 rfl (fun _ => T.bj1 _) fun g9 => ?_; refine n1 rfl rfl (by first | exact .refl _ | exact perm2 _ _ _ | exact perm3 _ _ _ _ | exact perm4 _ _ _ _ _) T.H3 (by rfl) (by rfl) ?_; refine a7 (kK ?_)
 obtain ⟨y, b, hv, hb, hy⟩ : ∃ (y : LstV) (b : Bool), (getM l ((i : Int), (j : Int))).getD (.agg #[int 0, .slice none 0 0]) = y.v ∧ (getM l ((i : Int), (j : Int))).isSome = b ∧ (b = true → y.row ∈ Fs ∧ y.dat = diffP old page i j) := by
   cases hg : getM l ((i : Int), (j : Int)) with
   | none => exact ⟨(0, ⟨none, 0, []⟩), false, rfl, rfl, by intro h; cases h⟩
   | some v =>
     obtain ⟨y, rfl, h1, h2⟩ := hM.get hg; exact ⟨y, true, rfl, rfl, fun _ => ⟨h1, h2⟩⟩
 refine c6 ?_
 first | refine a4 rfl T.l7 rfl (b7 mB rfl) ?_ | refine a4 rfl T.l7 rfl (c8 mB rfl) ?_ | refine a4 rfl T.l7 rfl (c5 mB (b4 (by omega) rfl)) ?_ | refine a4 rfl T.l7 rfl (b8 mB (rows_get (by omega) rfl)) ?_
 first | refine w7 rfl T.G3 T.H3 rfl mB (by rfl) ?_ | refine z2 rfl T.G3 T.H3 rfl mB (by rfl) ?_ | refine r8 rfl T.G3 T.H3 rfl rfl (n3 mB (q8 (by omega))) ?_
 refine aq5 (k := ((i : Int), (j : Int))) _ _ b KP rfl T.G1 rfl rfl (vP m2) zv_list hv hb ?_; refine a5 rfl (k4 rfl rfl rfl (k4 rfl rfl rfl ?_)); refine r9 rfl (fun _ => T.E2 _) fun g10 => ?_; refine n1 rfl rfl (by first | exact .refl _ | exact perm2 _ _ _ | exact perm3 _ _ _ _ | exact perm4 _ _ _ _ _) T.i7 (by rfl) (by rfl) ?_; refine a8 rfl (k9 (a5 rfl (a7 ?_)))
 first | refine i8 rfl (fun hb1 => ?_) (fun hb1 => ?_) | refine b9 rfl (fun hb1 => ?_) (fun hb1 => ?_)
 ·have hb1' := hb1; try simp at hb1'
  obtain ⟨hy1, hy2⟩ := hy hb1; refine a9 ?_
  first | refine w7 rfl T.j7 T.i7 rfl mB (by rfl) ?_ | refine z2 rfl T.j7 T.i7 rfl mB (by rfl) ?_ | refine r8 rfl T.j7 T.i7 rfl rfl (n3 mB (q8 (by omega))) ?_
  refine n1 rfl rfl (by first | exact .refl _ | exact perm2 _ _ _ | exact perm3 _ _ _ _ | exact perm4 _ _ _ _ _) T.i7 (by rfl) (by rfl) ?_; refine a7 (s6 ?_); refine hq_pick (F := y.row) m0 hy1 ?_; exact Z4 (l, clk, Fs, y) rfl rfl T.j7 T.i7 rfl m0 rfl rfl ⟨hM, hy2⟩ (.cons _ (.cons _ (.cons _ (.refl _)))) ⟨m0, m1, trivial⟩
 have hb1' := hb1; try simp at hb1'
 refine c3 (b6 (a9 (a8 rfl (a7 ?_)))); refine aS (dSta gk gm go gp gf g8 g9 A B ca cb old page i j (cand0 old page i j)) ?_ ?_
 ·skip
  refine a9 (a5 rfl ?_)
  first | refine a4 rfl T.i9 rfl (b7 mB rfl) ?_ | refine a4 rfl T.i9 rfl (c8 mB rfl) ?_ | refine a4 rfl T.i9 rfl (c5 mB (b4 (by omega) rfl)) ?_ | refine a4 rfl T.i9 rfl (b8 mB (rows_get (by omega) rfl)) ?_
  refine j9 rfl T.u5 rfl ?_; refine t8 rfl rfl rfl (a5 rfl ?_); refine l3 rfl rfl ?_ ?_
  ·intro hg1; have hg1' := hg1; try simp at hg1'
   refine c9 rfl rfl hg1 (a5 rfl (c9 rfl rfl hg1 ?_))
   first | refine a4 rfl T.i9 rfl (b7 mB rfl) ?_ | refine a4 rfl T.i9 rfl (c8 mB rfl) ?_ | refine a4 rfl T.i9 rfl (c5 mB (b4 (by omega) rfl)) ?_ | refine a4 rfl T.i9 rfl (b8 mB (rows_get (by omega) rfl)) ?_
   refine c9 rfl rfl hg1 (j9 rfl T.u5 rfl ?_); refine c9 rfl rfl hg1 (t8 rfl rfl rfl ?_); refine p_t rfl rfl (bt1 hg1) rfl ?_; refine a7 ?_
   first | refine i8 rfl (fun hb2 => ?_) (fun hb2 => ?_) | refine b9 rfl (fun hb2 => ?_) (fun hb2 => ?_)
   ·have hb2' := hb2; try simp at hb2'
    refine c6 (a5 rfl ?_); refine t4 _ rfl rfl (fun _ => T.sS ..) ?_; refine j8 _ rfl rfl (fun _ => T.D7 ..) fun gS => ?_; refine w9 1 (rows [((0, ⟨none, 0, []⟩) : LstV)]) T.H1 rfl rfl rfl (Grow.nil _ _) (.refl _) (Src.own (m := 1) m0 rfl rfl) rfl rfl (by decide) (by decide) fun A' c' og' hG' => ?_; refine a8 rfl (b3 ?_); refine A3 (α := Mk) ?_
    refine hB (Fs := Row none (rows ([] : List Mk)) :: Fs) (fun F hF => by
      rcases List.mem_cons.1 hF with rfl | hF
      · exact .inl m0
      exact .inr ⟨Fs, m1, hF⟩) ?_
    exact hT _ ⟨l, clk, _, [(0, ⟨none, 0, []⟩)], (A', c'), og'⟩ ⟨hM.mono (fun _ h => List.mem_cons_of_mem _ h), by rw [cand0, if_pos (by omega)]; rfl, hG', by simp [LstV.row], by simp⟩ mC (fun p => by simp only [int, T.K5, T.s7, diffCon, dSta, List.countP_append, List.countP_cons, List.countP_nil]; omega) ⟨m0, m3, m4, m5, m6, m7, m8, trivial⟩
   have hb2' := hb2; try simp at hb2'
   refine c3 ?_; exact hT _ ⟨l, clk, Fs, [], (none, 0), []⟩ ⟨hM, by rw [cand0, if_neg (by omega)]; rfl, Grow.nil _ _, by simp, by simp⟩ mC (fun p => by simp only [int, T.K5, T.s7, diffCon, dSta, List.countP_append, List.countP_cons, List.countP_nil]; omega) ⟨m0, m1, m2, m3, m4, m5, m6, trivial⟩
  intro hg1; have hg1' := hg1; try simp at hg1'
  refine k5 rfl rfl rfl rfl rfl hg1 (k5 rfl rfl rfl rfl rfl hg1 (k5 rfl rfl rfl rfl rfl hg1 (k5 rfl rfl rfl rfl rfl hg1 ?_))); refine p_f rfl rfl (bf2 hg1) rfl ?_; refine a7 (c_f rfl rfl (c3 ?_)); exact hT _ ⟨l, clk, Fs, [], (none, 0), []⟩ ⟨hM, by rw [cand0, if_neg (by omega)]; rfl, Grow.nil _ _, by simp, by simp⟩ mC (fun p => by simp only [int, T.K5, T.s7, diffCon, dSta, List.countP_append, List.countP_cons, List.countP_nil]; omega) ⟨m0, m1, m2, m3, m4, m5, m6, trivial⟩
 refine fun x hx => ?_; obtain ⟨l, clk, Fs, cs, o, og⟩ := x; obtain ⟨hM, hcs, hG, hrow, hlen⟩ := hx; simp only at hM hcs hG hrow hlen; refine aS (dSta gk gm go gp gf g8 g9 A B ca cb old page i j (cand1 old page i j)) ?_ ?_
 ·skip
  refine a9 (a5 rfl ?_)
  first | refine a4 rfl T.i9 rfl (b7 mB rfl) ?_ | refine a4 rfl T.i9 rfl (c8 mB rfl) ?_ | refine a4 rfl T.i9 rfl (c5 mB (b4 (by omega) rfl)) ?_ | refine a4 rfl T.i9 rfl (b8 mB (rows_get (by omega) rfl)) ?_
  refine j9 rfl T.u5 rfl ?_; refine r6 rfl rfl rfl (a7 ?_)
  first | refine i8 rfl (fun hb3 => ?_) (fun hb3 => ?_) | refine b9 rfl (fun hb3 => ?_) (fun hb3 => ?_)
  ·have hb3' := hb3; try simp at hb3'
   have hj3 : j < page.length := by omega
   refine J2 ((gm, mapO pair l clk) :: og) ([_, _]) n6 14 [5] mixed (by decide) (by decide) (by decide) rfl rfl rfl (j5 (fun w1 => a5 rfl (q_z rfl)) ?_)
   apply k7 _ rfl rfl rfl
   ·intro w1
    first | refine a4 rfl T.j6 rfl (c8 mB rfl) ?_ | refine a4 rfl T.j6 rfl (b7 mB rfl) ?_ | refine a4 rfl T.j6 rfl (c5 mB (b4 (by omega) rfl)) ?_ | refine a4 rfl T.j6 rfl (b8 mB (rows_get (by omega) rfl)) ?_
    refine b3 ?_; exact i3 rfl
   refine j5 (fun w1 => a5 rfl (q_z rfl)) (j5 (fun w1 => a5 rfl (q_z rfl)) (j5 (fun w1 => p7 ((j + 1 : Nat) : Int) rfl rfl rfl (by omega) l9 (q_z rfl)) ?_)); refine hH ⟨Memo × Nat × List Fact × LstV, fun x => MI old page x.1 x.2.2.1 ∧ x.2.2.2.dat = diffP old page i (j + 1), fun x => x.2.2.2.v, fun x => [x.2.2.2.row, Facts x.2.2.1], fun x => (gm, mapO pair x.1 x.2.1) :: og⟩ rfl rfl rfl ?_ ?_
   ·intro w1; refine J1 (vs := [int i, int ((j + 1 : Nat) : Int)]) F.L6 rfl rfl rfl (ih i (j + 1) l clk Fs (by omega) hi (by omega) hM) n6 ⟨m0, m1, m2, m3, m4, m5, m6, trivial⟩ fun x hx => ?_; refine b3 ?_; exact L5 x hx (fun _ => rfl) (.refl _) ⟨m0, m1, trivial⟩
   refine j5 (fun w1 => a5 rfl (q_z rfl)) ?_
   apply k7 _ rfl rfl rfl
   ·intro w1
    first | refine a4 rfl T.i9 rfl (c8 mB rfl) ?_ | refine a4 rfl T.i9 rfl (b7 mB rfl) ?_ | refine a4 rfl T.i9 rfl (c5 mB (b4 (by omega) rfl)) ?_ | refine a4 rfl T.i9 rfl (b8 mB (rows_get (by omega) rfl)) ?_
    refine b3 ?_; exact i3 rfl
   refine j5 (fun w1 => a5 rfl (q_z rfl)) (j5 (fun w1 => r7 (α := Str) _ _ rfl T.u5 T.v8 rfl rfl rfl mB rfl (by omega) (by decide) (q_z rfl)) (j5 (fun w1 => a4 rfl T.j1 rfl (c5 mB (b4 (by omega) rfl)) (q_z rfl)) (j5 (fun w1 => t4 _ rfl rfl (fun _ => T.A5 ..) (q_z rfl)) ?_))); refine aA ⟨LstV, fun y => y.dat = behindP (diffP old page i (j + 1)) (1, (i : Int), page.getD j default), fun y => .agg #[int y.1, .slice y.2.a y.2.l.length y.2.c], fun y => [y.row]⟩ rfl rfl rfl ?_ ?_
   ·intro x hx; intro w1; refine d6 F.I9 rfl rfl (E6 x.2.2.2 (1, (i : Int), page.getD j default) (bdV hx.2 ho hpl).1 (bdV hx.2 ho hpl).2) n6 ⟨m0, trivial⟩ fun o1 ho1 => ?_; refine b3 ?_; exact I0 (_, ⟨o1.1, o1.2, _⟩) (by rw [← hx.2]; rfl) rfl ⟨m0, trivial⟩
   refine aA ⟨Nat × LstV, fun z => z.2.dat = behindP (diffP old page i (j + 1)) (1, (i : Int), page.getD j default), fun z => .slice (some ⟨z.1, 0, none⟩) 1 1, fun z => [Row (some ⟨z.1, 0, none⟩) (rows [z.2]), z.2.row]⟩ rfl rfl rfl ?_ ?_
   ·intro y hy; intro w1; refine j8 _ rfl rfl (fun _ => T.D7 ..) fun gS => ?_; refine b3 ?_; refine D5 (rows [y]) ⟨[], List.append_nil _⟩ ?_; exact I0 (gS, y) hy rfl ⟨m0, m1, trivial⟩
   refine v6 ⟨rfl, ?_⟩; intro x hx y1 hy1 z hz; refine w9 (cs.length + 1) (rows (cs ++ [z.2])) T.H1 rfl rfl rfl hG (pm8 _ _ _ _) (Src.row (news := rows [z.2]) (m := 1) m0 rfl (I7 _) (by decide)) rfl (t3 cs [z.2]).symm (by unfold maxLen; omega) (by omega) fun A' c' og' hG' => ?_; refine a8 rfl (b3 ?_); have hl0 : cs.length ≤ 1 := by have := congrArg List.length hcs; rw [List.length_map] at this; rw [this, cand0]; split <;> simp
   refine hB (Fs := z.2.row :: (x.2.2.1 ++ Fs)) (fun F hF => by
     rcases List.mem_cons.1 hF with rfl | hF
     · exact .inl m1
     rcases List.mem_append.1 hF with hF | hF
     · exact .inr ⟨_, m4, hF⟩
     exact .inr ⟨Fs, m5, hF⟩) ?_
   exact hT _ ⟨x.1, x.2.1, z.2.row :: (x.2.2.1 ++ Fs), cs ++ [z.2], (A', c'), og'⟩ ⟨hx.1.mono (fun F h => by simp [h]), by rw [List.map_append, hcs, cand1, if_pos hj3]; show _ ++ [z.2.dat] = _; rw [show z.2.dat = _ from hz], by rw [n8]; exact hG', fun y hy => by
     rcases List.mem_append.1 hy with h | h
     · simp [hrow y h]
     simp at h; subst h; simp, by rw [n8]; omega⟩ ⟨rfl, rfl, rfl, rfl, rfl, rfl, rfl, rfl, by rw [n8]; rfl, trivial⟩ (fun p => by simp only [int, T.K5, T.s7, diffCon, dSta, List.countP_append, List.countP_cons, List.countP_nil]; omega) ⟨m0, m7, m8, m9, m10, m11, m12, trivial⟩
  have hb3' := hb3; try simp at hb3'
  have hj3 : ¬ j < page.length := by omega
  refine c3 ?_; exact hT _ ⟨l, clk, Fs, cs, o, og⟩ ⟨hM, by rw [hcs, cand1, if_neg hj3, List.append_nil], hG, hrow, hlen⟩ mC (fun p => by simp only [int, T.K5, T.s7, diffCon, dSta, List.countP_append, List.countP_cons, List.countP_nil]; omega) ⟨m0, m1, m2, m3, m4, m5, m6, trivial⟩
 refine fun x hx => ?_; obtain ⟨l, clk, Fs, cs, o, og⟩ := x; obtain ⟨hM, hcs, hG, hrow, hlen⟩ := hx; simp only at hM hcs hG hrow hlen; refine aS (dSta gk gm go gp gf g8 g9 A B ca cb old page i j (cand2 old page i j)) ?_ ?_
 ·skip
  refine a9 (a5 rfl ?_)
  first | refine a4 rfl T.i9 rfl (b7 mB rfl) ?_ | refine a4 rfl T.i9 rfl (c8 mB rfl) ?_ | refine a4 rfl T.i9 rfl (c5 mB (b4 (by omega) rfl)) ?_ | refine a4 rfl T.i9 rfl (b8 mB (rows_get (by omega) rfl)) ?_
  refine j9 rfl T.u5 rfl ?_; refine r6 rfl rfl rfl (a7 ?_)
  first | refine i8 rfl (fun hb4 => ?_) (fun hb4 => ?_) | refine b9 rfl (fun hb4 => ?_) (fun hb4 => ?_)
  ·have hb4' := hb4; try simp at hb4'
   have hi4 : i < old.length := by omega
   refine c6 (a5 rfl ?_)
   first | refine a4 rfl T.j6 rfl (b7 mB rfl) ?_ | refine a4 rfl T.j6 rfl (c8 mB rfl) ?_ | refine a4 rfl T.j6 rfl (c5 mB (b4 (by omega) rfl)) ?_ | refine a4 rfl T.j6 rfl (b8 mB (rows_get (by omega) rfl)) ?_
   refine a5 rfl (p7 ((i + 1 : Nat) : Int) rfl rfl rfl (by omega) l9 (a5 rfl ?_)); refine J1 (vs := [int ((i + 1 : Nat) : Int), int j]) F.L6 rfl rfl rfl (ih (i + 1) j l clk Fs (by omega) (by omega) hj hM) n6 ⟨m0, m1, m2, m3, m4, m5, m6, trivial⟩ fun x hx => ?_; refine a5 rfl (t4 _ rfl rfl (fun _ => T.U9 ..) ?_); refine d6 F.I9 rfl rfl (E6 x.2.2.2 (3, (i : Int), []) (bdV hx.2 ho hpl).1 (bdV hx.2 ho hpl).2) n6 ⟨m0, trivial⟩ fun o1 ho1 => ?_; obtain ⟨z, hz⟩ : ∃ z : LstV, z = (x.2.2.2.1, ⟨o1.1, o1.2, (3, (i : Int), []) :: x.2.2.2.2.l⟩) := ⟨_, rfl⟩; have hzd : z.dat = behindP (diffP old page (i + 1) j) (3, (i : Int), []) := by rw [hz, ← hx.2]; rfl
   refine zY (F := z.row) (fun w hw => by rw [hz]; exact hw.fs _ m0) (fun k hk => ⟨_, m0, by rw [hz] at hk; exact hk⟩) ?_; refine j8 [(0, .agg #[int z.1, .slice z.2.a z.2.l.length z.2.c])] rfl (by rw [hz]; rfl) (fun _ => T.D7 ..) fun gS => ?_; refine w9 (cs.length + 1) (rows (cs ++ [z])) T.H1 rfl rfl rfl hG (pm9 _ _ _ _ _) (Src.own (cs := (El.cells z).toArray) (m := 1) (List.mem_append_right _ m0) rfl rfl) rfl (by rw [t3]; simp [rows]) (by unfold maxLen; omega) (by omega) fun A' c' og' hG' => ?_; refine a8 rfl (b3 ?_); have hl0 : cs.length ≤ 2 := by have := congrArg List.length hcs; rw [List.length_map] at this; rw [this, cand1, cand0, List.length_append]; split <;> split <;> simp
   refine hB (Fs := z.row :: (x.2.2.1 ++ Fs)) (fun F hF => by
     rcases List.mem_cons.1 hF with rfl | hF
     · exact .inl m0
     rcases List.mem_append.1 hF with hF | hF
     · exact .inr ⟨_, m3, hF⟩
     exact .inr ⟨Fs, m4, hF⟩) ?_
   exact hT _ ⟨x.1, x.2.1, z.row :: (x.2.2.1 ++ Fs), cs ++ [z], (A', c'), og'⟩ ⟨hx.1.mono (fun F h => by simp [h]), by rw [List.map_append, hcs, cand2, if_pos hi4]; show _ ++ [z.dat] = _; rw [hzd], by rw [n8]; exact hG', fun y hy => by
     rcases List.mem_append.1 hy with h | h
     · simp [hrow y h]
     simp at h; subst h; simp, by rw [n8]; omega⟩ ⟨rfl, rfl, rfl, rfl, rfl, rfl, rfl, rfl, by rw [n8]; rfl, trivial⟩ (fun p => by simp only [int, T.K5, T.s7, diffCon, dSta, List.countP_append, List.countP_cons, List.countP_nil]; omega) ⟨m0, m6, m7, m8, m9, m10, m11, trivial⟩
  have hb4' := hb4; try simp at hb4'
  have hi4 : ¬ i < old.length := by omega
  refine c3 ?_; exact hT _ ⟨l, clk, Fs, cs, o, og⟩ ⟨hM, by rw [hcs, cand2, if_neg hi4, List.append_nil], hG, hrow, hlen⟩ mC (fun p => by simp only [int, T.K5, T.s7, diffCon, dSta, List.countP_append, List.countP_cons, List.countP_nil]; omega) ⟨m0, m1, m2, m3, m4, m5, m6, trivial⟩
 refine fun x hx => ?_; obtain ⟨l, clk, Fs, cs, o, og⟩ := x; obtain ⟨hM, hcs, hG, hrow, hlen⟩ := hx; simp only at hM hcs hG hrow hlen; refine aS (dSta gk gm go gp gf g8 g9 A B ca cb old page i j (cand3 old page i j)) ?_ ?_
 ·skip
  refine a9 (a5 rfl ?_)
  first | refine a4 rfl T.i9 rfl (b7 mB rfl) ?_ | refine a4 rfl T.i9 rfl (c8 mB rfl) ?_ | refine a4 rfl T.i9 rfl (c5 mB (b4 (by omega) rfl)) ?_ | refine a4 rfl T.i9 rfl (b8 mB (rows_get (by omega) rfl)) ?_
  refine j9 rfl T.u5 rfl ?_; refine r6 rfl rfl rfl (a5 rfl ?_); refine l3 rfl rfl ?_ ?_
  ·intro hg2; have hg2' := hg2; try simp at hg2'
   refine c9 rfl rfl hg2 (a5 rfl (c9 rfl rfl hg2 ?_))
   first | refine a4 rfl T.i9 rfl (b7 mB rfl) ?_ | refine a4 rfl T.i9 rfl (c8 mB rfl) ?_ | refine a4 rfl T.i9 rfl (c5 mB (b4 (by omega) rfl)) ?_ | refine a4 rfl T.i9 rfl (b8 mB (rows_get (by omega) rfl)) ?_
   refine c9 rfl rfl hg2 (j9 rfl T.u5 rfl ?_); refine c9 rfl rfl hg2 (r6 rfl rfl rfl ?_); refine p_t rfl rfl (bt1 hg2) rfl ?_; refine a7 ?_
   first | refine i8 rfl (fun hb5 => ?_) (fun hb5 => ?_) | refine b9 rfl (fun hb5 => ?_) (fun hb5 => ?_)
   ·have hb5' := hb5; try simp at hb5'
    have hij : i < old.length ∧ j < page.length := by omega
    refine a9 ?_
    first | refine a4 rfl T.j6 rfl (b7 mB rfl) ?_ | refine a4 rfl T.j6 rfl (c8 mB rfl) ?_ | refine a4 rfl T.j6 rfl (c5 mB (b4 (by omega) rfl)) ?_ | refine a4 rfl T.j6 rfl (b8 mB (rows_get (by omega) rfl)) ?_
    refine a5 rfl (p7 ((i + 1 : Nat) : Int) rfl rfl rfl (by omega) l9 (a5 rfl (p7 ((j + 1 : Nat) : Int) rfl rfl rfl (by omega) l9 ?_))); refine J1 (vs := [int ((i + 1 : Nat) : Int), int ((j + 1 : Nat) : Int)]) F.L6 rfl rfl rfl (ih (i + 1) (j + 1) l clk Fs (by omega) (by omega) (by omega) hM) n6 ⟨m0, m1, m2, m3, m4, m5, m6, trivial⟩ fun x hx => ?_; refine r9 rfl (fun _ => T.E2 _) fun g13 => ?_; refine n1 rfl rfl (by first | exact .refl _ | exact perm2 _ _ _ | exact perm3 _ _ _ _ | exact perm4 _ _ _ _ _) T.i7 (by rfl) (by rfl) ?_; refine a7 (b5 ?_); refine J2 (og) ([_, _, _, _]) (pm9 _ _ _ _ _) 10 [] mixed (by decide) (by decide) (by decide) rfl rfl rfl (j5 (fun w1 => a5 rfl (q_z rfl)) ?_)
    apply k7 _ rfl rfl rfl
    ·intro w1
     first | refine w7 rfl T.j7 T.i7 rfl mB (by rfl) ?_ | refine z2 rfl T.j7 T.i7 rfl mB (by rfl) ?_ | refine r8 rfl T.j7 T.i7 rfl rfl (n3 mB (q8 (by omega))) ?_
     refine b3 ?_; exact i3 rfl
    refine j5 (fun w1 => a5 rfl (q_z rfl)) ?_
    apply k7 _ rfl rfl rfl
    ·intro w1
     first | refine a4 rfl T.i9 rfl (c8 mB rfl) ?_ | refine a4 rfl T.i9 rfl (b7 mB rfl) ?_ | refine a4 rfl T.i9 rfl (c5 mB (b4 (by omega) rfl)) ?_ | refine a4 rfl T.i9 rfl (b8 mB (rows_get (by omega) rfl)) ?_
     refine b3 ?_; exact i3 rfl
    refine j5 (fun w1 => a5 rfl (q_z rfl)) (j5 (fun w1 => r7 (α := Str) _ _ rfl T.u5 T.v8 rfl rfl rfl mB rfl (by omega) (by decide) (q_z rfl)) (j5 (fun w1 => a4 rfl T.j1 rfl (c5 mB (b4 (by omega) rfl)) (q_z rfl)) (j5 (fun w1 => t4 _ rfl rfl (fun _ => T.A5 ..) (q_z rfl)) ?_))); refine aA ⟨LstV, fun y => y.dat = behindP (diffP old page (i + 1) (j + 1)) (2, (i : Int), page.getD j default), fun y => .agg #[int y.1, .slice y.2.a y.2.l.length y.2.c], fun y => [y.row]⟩ rfl rfl rfl ?_ ?_
    ·intro w1; refine d6 F.I9 rfl rfl (E6 x.2.2.2 (2, (i : Int), page.getD j default) (bdV hx.2 ho hpl).1 (bdV hx.2 ho hpl).2) n6 ⟨m0, trivial⟩ fun o1 ho1 => ?_; refine b3 ?_; exact I0 (_, ⟨o1.1, o1.2, _⟩) (by rw [← hx.2]; rfl) rfl ⟨m0, trivial⟩
    refine aA ⟨Nat × LstV, fun z => z.2.dat = behindP (diffP old page (i + 1) (j + 1)) (2, (i : Int), page.getD j default), fun z => .slice (some ⟨z.1, 0, none⟩) 1 1, fun z => [Row (some ⟨z.1, 0, none⟩) (rows [z.2]), z.2.row]⟩ rfl rfl rfl ?_ ?_
    ·intro y hy; intro w1; refine j8 _ rfl rfl (fun _ => T.D7 ..) fun gS => ?_; refine b3 ?_; refine D5 (rows [y]) ⟨[], List.append_nil _⟩ ?_; exact I0 (gS, y) hy rfl ⟨m0, m1, trivial⟩
    refine v6 ⟨rfl, ?_⟩; intro y1 hy1 z hz; refine w9 (cs.length + 1) (rows (cs ++ [z.2])) T.H1 rfl rfl rfl hG n6 (Src.row (news := rows [z.2]) (m := 1) m0 rfl (I7 _) (by decide)) rfl (t3 cs [z.2]).symm (by unfold maxLen; omega) (by omega) fun A' c' og' hG' => ?_; refine a8 rfl (a7 (b5 ?_)); refine J2 (og') ([_, _, _, _]) n6 8 [] mixed (by decide) (by decide) (by decide) rfl rfl rfl ?_
    apply k7 _ rfl rfl rfl
    ·intro w1
     first | refine a4 rfl T.i9 rfl (c8 mB rfl) ?_ | refine a4 rfl T.i9 rfl (b7 mB rfl) ?_ | refine a4 rfl T.i9 rfl (c5 mB (b4 (by omega) rfl)) ?_ | refine a4 rfl T.i9 rfl (b8 mB (rows_get (by omega) rfl)) ?_
     refine b3 ?_; exact i3 rfl
    refine j5 (fun w1 => a5 rfl (q_z rfl)) (j5 (fun w1 => r7 (α := Str) _ _ rfl T.u5 T.v8 rfl rfl rfl mB rfl (by omega) (by decide) (q_z rfl)) (j5 (fun w1 => a4 rfl T.j1 rfl (c5 mB (b4 (by omega) rfl)) (q_z rfl)) ?_))
    apply k7 _ rfl rfl rfl
    ·intro w1
     first | refine a4 rfl T.i9 rfl (c8 mB rfl) ?_ | refine a4 rfl T.i9 rfl (b7 mB rfl) ?_ | refine a4 rfl T.i9 rfl (c5 mB (b4 (by omega) rfl)) ?_ | refine a4 rfl T.i9 rfl (b8 mB (rows_get (by omega) rfl)) ?_
     refine b3 ?_; exact i3 rfl
    refine j5 (fun w1 => a5 rfl (q_z rfl)) (j5 (fun w1 => r7 (α := Str) _ _ rfl T.u5 T.v8 rfl rfl rfl mB rfl (by omega) (by decide) (q_z rfl)) (j5 (fun w1 => a4 rfl T.j1 rfl (c5 mB (b4 (by omega) rfl)) (q_z rfl)) ?_)); refine v6 ⟨rfl, ?_⟩; refine aG rfl rfl rfl (a7 ?_)
    first | refine i8 rfl (fun hb6 => ?_) (fun hb6 => ?_) | refine b9 rfl (fun hb6 => ?_) (fun hb6 => ?_)
    ·have hb6' := hb6; try simp at hb6'
     refine J7 (pm10 _ _ _ _ _) ?_; refine c6 (a5 rfl ?_)
     first | refine w7 rfl T.j7 T.i7 rfl mB (by rfl) ?_ | refine z2 rfl T.j7 T.i7 rfl mB (by rfl) ?_ | refine r8 rfl T.j7 T.i7 rfl rfl (n3 mB (q8 (by omega))) ?_
     refine j8 _ rfl rfl (fun _ => T.D7 ..) fun gS => ?_; refine w9 (cs.length + 2) (rows (cs ++ [z.2] ++ [x.2.2.2])) T.H1 rfl rfl rfl hG' (pm11 _ _ _ _ _ _) (Src.own (cs := (El.cells (x.2.2.2 : LstV)).toArray) (m := 1) (List.mem_append_right _ m0) rfl rfl) rfl (by rw [t3 (cs ++ [z.2])]; simp [rows]) (by unfold maxLen; omega) (by omega) fun A2 c2 og2 hG2 => ?_; refine a8 rfl (b3 ?_); have hl0 : cs.length ≤ 3 := by have := congrArg List.length hcs; rw [List.length_map] at this; rw [this]; exact uO ..
     refine hB (Fs := z.2.row :: x.2.2.2.row :: (x.2.2.1 ++ Fs)) (fun F hF => by
       rcases List.mem_cons.1 hF with rfl | hF
       · exact .inl m1
       rcases List.mem_cons.1 hF with rfl | hF
       · exact .inl m3
       rcases List.mem_append.1 hF with hF | hF
       · exact .inr ⟨_, m4, hF⟩
       exact .inr ⟨Fs, m5, hF⟩) ?_
     exact hT _ ⟨x.1, x.2.1, z.2.row :: x.2.2.2.row :: (x.2.2.1 ++ Fs), cs ++ [z.2] ++ [x.2.2.2], (A2, c2), og2⟩ ⟨hx.1.mono (fun F h => by simp [h]), by rw [List.map_append, List.map_append, hcs, cand3, if_pos hij, if_pos hb6, List.append_assoc]; show _ ++ ([z.2.dat] ++ [LstV.dat x.2.2.2]) = _; rw [show z.2.dat = _ from hz, show LstV.dat x.2.2.2 = _ from hx.2]; rfl, by rw [n8, n8]; exact hG2, fun y hy => by
       simp only [List.mem_append, List.mem_singleton] at hy
       rcases hy with (h | h) | h
       · simp [hrow y h]
       · subst h; simp
       subst h; simp, by rw [n8, n8]; omega⟩ ⟨rfl, rfl, rfl, rfl, rfl, rfl, rfl, rfl, by rw [n8, n8]; rfl, trivial⟩ (fun p => by simp only [int, T.K5, T.s7, diffCon, dSta, List.countP_append, List.countP_cons, List.countP_nil]; omega) ⟨m0, m7, m8, m9, m10, m11, m12, trivial⟩
    have hb6' := hb6; try simp at hb6'
    refine c3 ?_; have hl0 : cs.length ≤ 3 := by have := congrArg List.length hcs; rw [List.length_map] at this; rw [this]; exact uO ..
    refine hB (Fs := z.2.row :: x.2.2.2.row :: (x.2.2.1 ++ Fs)) (fun F hF => by
      rcases List.mem_cons.1 hF with rfl | hF
      · exact .inl m1
      rcases List.mem_cons.1 hF with rfl | hF
      · exact .inl m3
      rcases List.mem_append.1 hF with hF | hF
      · exact .inr ⟨_, m4, hF⟩
      exact .inr ⟨Fs, m5, hF⟩) ?_
    exact hT _ ⟨x.1, x.2.1, z.2.row :: x.2.2.2.row :: (x.2.2.1 ++ Fs), cs ++ [z.2], (A', c'), og'⟩ ⟨hx.1.mono (fun F h => by simp [h]), by rw [List.map_append, hcs, cand3, if_pos hij, if_neg hb6]; show _ ++ [z.2.dat] = _; rw [show z.2.dat = _ from hz], by rw [n8]; exact hG', fun y hy => by
      simp only [List.mem_append, List.mem_singleton] at hy
      rcases hy with h | h
      · simp [hrow y h]
      subst h; simp, by rw [n8]; omega⟩ ⟨rfl, rfl, rfl, rfl, rfl, rfl, rfl, rfl, by rw [n8]; rfl, trivial⟩ (fun p => by simp only [int, T.K5, T.s7, diffCon, dSta, List.countP_append, List.countP_cons, List.countP_nil]; omega) ⟨m0, m7, m8, m9, m10, m11, m12, trivial⟩
   have hb5' := hb5; try simp at hb5'
   refine c3 ?_; exact hT _ ⟨l, clk, Fs, cs, o, og⟩ ⟨hM, by rw [hcs, cand3, if_neg (by omega), List.append_nil], hG, hrow, hlen⟩ mC (fun p => by simp only [int, T.K5, T.s7, diffCon, dSta, List.countP_append, List.countP_cons, List.countP_nil]; omega) ⟨m0, m1, m2, m3, m4, m5, m6, trivial⟩
  intro hg2; have hg2' := hg2; try simp at hg2'
  refine k5 rfl rfl rfl rfl rfl hg2 (k5 rfl rfl rfl rfl rfl hg2 (k5 rfl rfl rfl rfl rfl hg2 (k5 rfl rfl rfl rfl rfl hg2 ?_))); refine p_f rfl rfl (bf2 hg2) rfl ?_; refine a7 (c_f rfl rfl (c3 ?_)); exact hT _ ⟨l, clk, Fs, cs, o, og⟩ ⟨hM, by rw [hcs, cand3, if_neg (by omega), List.append_nil], hG, hrow, hlen⟩ mC (fun p => by simp only [int, T.K5, T.s7, diffCon, dSta, List.countP_append, List.countP_cons, List.countP_nil]; omega) ⟨m0, m1, m2, m3, m4, m5, m6, trivial⟩
 refine fun x hx => ?_; obtain ⟨l, clk, Fs, cs, o, og⟩ := x; obtain ⟨hM, hcs, hG, hrow, hlen⟩ := hx; simp only at hM hcs hG hrow hlen; refine b5 ?_; have hne : cand3 old page i j ≠ [] := cx2 hi hj; have hbd := cx3 (i := i) (j := j) ho hpl
 obtain ⟨f, r, rfl⟩ : ∃ f r, cs = f :: r := by
   cases cs with
   | nil => exact absurd (by rw [← hcs]; rfl) hne
   | cons f r => exact ⟨f, r, rfl⟩
 refine J7 (pm3 _ _ _ _) (xW hG (z6 8 mixed (by decide) (by decide) rfl rfl ?_))
 apply k7 _ rfl rfl rfl
 ·intro w1
  first | refine a4 rfl T.l7 rfl (c8 mB rfl) ?_ | refine a4 rfl T.l7 rfl (b7 mB rfl) ?_ | refine a4 rfl T.l7 rfl (c5 mB (b4 (by omega) rfl)) ?_ | refine a4 rfl T.l7 rfl (b8 mB (rows_get (by omega) rfl)) ?_
  refine b3 ?_; exact i3 rfl
 apply k7 _ rfl rfl rfl
 ·intro w1
  first | refine w7 rfl T.G3 T.H3 rfl mB (by rfl) ?_ | refine z2 rfl T.G3 T.H3 rfl mB (by rfl) ?_ | refine r8 rfl T.G3 T.H3 rfl rfl (n3 mB (q8 (by omega))) ?_
  refine b3 ?_; exact i3 rfl
 refine j5 (fun w1 => a5 rfl (q_z rfl)) ?_; refine j5 (fun w1 => r7 (α := LstV) (f :: r) 0 rfl T.M9 T.i7 rfl rfl rfl m3 rfl (by simp) (by decide) (q_z rfl)) ?_; refine j5 (fun w1 => r8 rfl T.j7 T.i7 rfl rfl (n3 (A := o.1) (cs := rows (f :: r)) (j := 0 * El.sz LstV) m3 (q8 (l := f :: r) (i := 0) (by simp))) (q_z rfl)) ?_; refine j5 (fun w1 => a5 rfl (q_z rfl)) ?_; refine j5 (fun w1 => rD 1 rfl T.M9 T.i7 rfl rfl rfl (by simp) (q_z rfl)) ?_; refine aA ⟨LstV, fun y => y.dat = diffP old page i j ∧ y.row ∈ Fs, fun y => .agg #[int y.1, .slice y.2.a y.2.l.length y.2.c], fun y => [y.row]⟩ rfl rfl rfl ?_ ?_
 ·intro w1; refine zA (p := f :: r) (ca := o.2) 1 (f :: r).length m0 hG.le ?_; rw [List.take_length]
  refine cj3 (Fs := (f :: r).map LstV.row) (fun F hF => by
    obtain ⟨y, hy, rfl⟩ := List.mem_map.1 hF
    exact .inr ⟨Fs, m2, hrow y hy⟩) ?_
  refine d6 (vs := [fnV F.w8, f.v, .slice (cutA o.1 o.2 1 2) r.length (o.2 - 1)]) F.rI rfl rfl (lE f r (by simp at hlen; omega) (fun y hy => hbd y.dat (by rw [← hcs]; exact List.mem_map_of_mem hy))) n6 ⟨m1, m0, trivial⟩ fun _ _ => ?_; refine wB (F := (leastV f r).row) m0 (List.mem_map_of_mem (jZ f r)) ?_; refine b3 ?_; exact I0 (leastV f r) ⟨by rw [cq6]; exact ax0 hcs, hrow _ (jZ f r)⟩ rfl ⟨m0, trivial⟩
 refine v6 ⟨rfl, ?_⟩; intro y2 hy2; refine kY (k := ((i : Int), (j : Int))) KP (.inl rfl) T.G1 rfl rfl rfl (.refl _) ?_; refine k9 ?_
 first | refine a4 rfl T.l7 rfl (b7 mB rfl) ?_ | refine a4 rfl T.l7 rfl (c8 mB rfl) ?_ | refine a4 rfl T.l7 rfl (c5 mB (b4 (by omega) rfl)) ?_ | refine a4 rfl T.l7 rfl (b8 mB (rows_get (by omega) rfl)) ?_
 first | refine w7 rfl T.G3 T.H3 rfl mB (by rfl) ?_ | refine z2 rfl T.G3 T.H3 rfl mB (by rfl) ?_ | refine r8 rfl T.G3 T.H3 rfl rfl (n3 mB (q8 (by omega))) ?_
 refine bx3 (k := ((i : Int), (j : Int))) (v := LstV.v y2) KP rfl T.G1 rfl rfl (vP m0) (by rw [cq0, if_pos rfl]; rfl) ?_; refine n1 rfl rfl (by first | exact .refl _ | exact perm2 _ _ _ | exact perm3 _ _ _ _ | exact perm4 _ _ _ _ _) T.i7 (by rfl) (by rfl) ?_; refine a7 (i6 ?_); exact Z4 (putM l ((i : Int), (j : Int)) (LstV.v y2) clk, clkM l ((i : Int), (j : Int)) clk, Fs, y2) rfl rfl T.j7 T.i7 rfl m0 rfl rfl ⟨hM.put hy2.2 hy2.1, hy2.1⟩ (.cons _ (.cons_cons _ i1)) ⟨m0, m2, trivial⟩
end Go.Proofs.YtegfgegnhjkcfaaGreatDoor
end
section
namespace Go.Proofs.YtegfgegnhjkcfaaGreatDoor
open Go Go.W
set_option maxRecDepth 20000
attribute [local irreducible] HL HC HQ HB Row Rows2 Blk Facts
def outV {α : Type} [El α] (l : List α) : Con OutC := { val := fun x => .slice x.1 l.length x.2, LO := fun x => [Row x.1 (rows l)] }
theorem bK {A B : Option Addr} {ca cb : Nat} (old page : List Str) (ho : old.length ≤ 1000) (hpl : page.length ≤ 1000) : Meets Tryz.prog F.jW [.slice A old.length ca, .slice B page.length cb] { outV (diffP old page 0 0).2 with LI := [Row A (rows old), Row B (rows page)] } := by
 refine c4 F.vH rfl l5 fun w0 => ?_; refine a9 ?_; refine J9 rfl rfl fun go => ?_; refine J9 rfl rfl fun gp => ?_; refine a8 rfl (k9 ?_); refine rE pair rfl fun gm => ?_; refine r9 rfl (fun _ => T.cC _) fun gk => ?_; refine n7 rfl rfl (by first | exact .refl _ | exact perm2 _ _ _ | exact perm3 _ _ _ _ | exact perm4 _ _ _ _ _) T.aX (by rfl) (by rfl) ?_; refine k9 ?_; refine r9 rfl (fun _ => T.Y8 _) fun gf => ?_; refine k9 (cQ rfl rfl rfl ?_); refine n7 rfl rfl (by first | exact .refl _ | exact perm2 _ _ _ | exact perm3 _ _ _ _ | exact perm4 _ _ _ _ _) T.X2 (by rfl) (by rfl) ?_; refine a7 (b5 (C9 (C9 ?_))); refine J7 (perm3 _ _ _ _) ?_; refine C9 ?_; refine J7 (.swap _ _ _) ?_; refine C9 ?_; refine cj8 (Fs := []) (fun F hF => by simp at hF) ?_; refine c6 ?_
 first | refine a4 rfl T.j6 rfl (b7 mB rfl) ?_ | refine a4 rfl T.j6 rfl (c8 mB rfl) ?_ | refine a4 rfl T.j6 rfl (c5 mB (b4 (by omega) rfl)) ?_ | refine a4 rfl T.j6 rfl (b8 mB (rows_get (by omega) rfl)) ?_
 refine J1 (vs := [int (0 : Nat), int (0 : Nat)]) F.L6 rfl rfl rfl (jV (gk := gk) (gm := gm) (go := go) (gp := gp) (gf := gf) (A := A) (B := B) (ca := ca) (cb := cb) ho hpl _ 0 0 [] 0 [] (Nat.lt_succ_self _) (Nat.zero_le _) (Nat.zero_le _) (by intro e he; simp at he)) n6 ⟨m0, m5, m6, m3, m2, m1, m4, trivial⟩ fun x hx => ?_; obtain ⟨l1, clk1, Fs1, x⟩ := x; have hx2 : x.2.l = (diffP old page 0 0).2 := by rw [← hx.2]; rfl
 refine r_field (v := .slice x.2.a x.2.l.length x.2.c) rfl rfl (fun _ => T.sL ..) ?_; refine a8 rfl (a7 (i6 ?_)); rw [← hx2]; exact ret1 (x.2.a, x.2.c) rfl rfl rfl trivial i1 ⟨m0, trivial⟩
def diffE (old page : List Str) (ms : List Mk) : List Mk × Int := if ¬ pageErr old = 0 then ([], pageErr old) else if ¬ pageErr page = 0 then ([], pageErr page) else (ms, 0)
def outE {α : Type} [El α] (r : List α × Int) : Con OutC := { val := fun x => .tuple #[.slice x.1 r.1.length x.2, int r.2], LO := fun x => [Row x.1 (rows r.1)] }
theorem O5 {p : List Str} (h : pageErr p = 0) : p.length ≤ 6 := by unfold pageErr at h; split at h <;> omega
theorem nE {A B : Option Addr} {ca cb : Nat} (old page : List Str) : Meets Tryz.prog F.cW [.slice A old.length ca, .slice B page.length cb] { outE (diffE old page (diffP old page 0 0).2) with LI := [Row A (rows old), Row B (rows page)] } := by
 refine c4 F.vJ rfl l5 fun w0 => ?_; refine a9 (a8 rfl (a8 rfl (a7 (b5 (a9 (a5 rfl ?_)))))); refine d6 F.E7 rfl rfl (A1 old) (.refl _) ⟨m0, trivial⟩ fun _ _ => ?_; refine a8 rfl (k9 (a5 rfl (u9 rfl rfl rfl (a7 ?_))))
 first | refine i8 rfl (fun hb1 => ?_) (fun hb1 => ?_) | refine b9 rfl (fun hb1 => ?_) (fun hb1 => ?_)
 ·have hb1' := hb1; try simp at hb1'
  have e : diffE old page (diffP old page 0 0).2 = ([], pageErr old) := by rw [diffE, if_pos hb1]
  rw [e]; refine a9 (a5 rfl (a8 rfl (a8 rfl (a7 (s6 (mE ?_)))))); exact ret2 (none, 0) rfl rfl rfl rfl rfl trivial (.refl _) ⟨m0, trivial⟩
 have hb1' := hb1; try simp at hb1'
 refine c3 (b6 (b5 (a9 (a5 rfl ?_)))); refine d6 F.E7 rfl rfl (A1 page) (.refl _) ⟨m1, trivial⟩ fun _ _ => ?_; refine a8 rfl (k9 (a5 rfl (u9 rfl rfl rfl (a7 ?_))))
 first | refine i8 rfl (fun hb2 => ?_) (fun hb2 => ?_) | refine b9 rfl (fun hb2 => ?_) (fun hb2 => ?_)
 ·have hb2' := hb2; try simp at hb2'
  have e : diffE old page (diffP old page 0 0).2 = ([], pageErr page) := by rw [diffE, if_neg hb1, if_pos hb2]
  rw [e]; refine a9 (a5 rfl (a8 rfl (a8 rfl (a7 (s6 (mE ?_)))))); exact ret2 (none, 0) rfl rfl rfl rfl rfl trivial (.refl _) ⟨m0, trivial⟩
 have hb2' := hb2; try simp at hb2'
 have e : diffE old page (diffP old page 0 0).2 = ((diffP old page 0 0).2, 0) := by rw [diffE, if_neg hb1, if_neg hb2]
 rw [e]; have h1 := O5 (Classical.not_not.1 hb1); have h2 := O5 (Classical.not_not.1 hb2); refine c3 (b6 (a9 (a5 rfl (a5 rfl ?_)))); refine d6 F.jD rfl rfl (bK old page (by omega) (by omega)) (.refl _) ⟨m0, m1, trivial⟩ fun x hx => ?_; refine a8 rfl (a8 rfl (a7 (i6 ?_))); exact ret2 x rfl rfl rfl rfl rfl trivial (.refl _) ⟨m0, trivial⟩
def beforeR (a b : Mk) : Bool := if ¬ a.2.1 = b.2.1 then decide (a.2.1 < b.2.1) else if ¬ a.1 = b.1 then decide (a.1 < b.1) else Op.bytesLess a.2.2 b.2.2
def lexR : List Mk → List Mk → Bool
  | a :: l, b :: l' => if ¬ a = b then beforeR a b else lexR l l'
  | _, _ => false
def betterR (a b : List Mk) : Bool := if ¬ (costM a : Int) = costM b then decide ((costM a : Int) < costM b) else if ¬ (a.length : Int) = b.length then decide ((a.length : Int) < b.length) else lexR a b
end Go.Proofs.YtegfgegnhjkcfaaGreatDoor
end
section
namespace Go.Proofs.YtegfgegnhjkcfaaGreatDoor
open Go Go.W
set_option maxRecDepth 20000
attribute [local irreducible] HL HC HQ HB Row Rows2 Blk Facts
def pickR (s : Option (List Mk)) (l : List Mk) : Option (List Mk) :=
  match s with
  | none => some l
  | some b => if betterR l b = true then some l else some b
def diffR (old page : List Str) (i k : Nat) : List Mk :=
  if i = old.length ∧ k = page.length then [] else
  (if h : i < old.length then pickR
    (if h : i < old.length ∧ k < page.length then pickR
      (if h : k < page.length then pickR
        (if h : i < old.length ∧ k < page.length ∧ old.getD i default = page.getD k default then some (diffR old page (i + 1) (k + 1)) else none)
        ((1, (i : Int), page.getD k default) :: diffR old page i (k + 1)) else
        (if h : i < old.length ∧ k < page.length ∧ old.getD i default = page.getD k default then some (diffR old page (i + 1) (k + 1)) else none))
      ((2, (i : Int), page.getD k default) :: diffR old page (i + 1) (k + 1)) else
      (if h : k < page.length then pickR
        (if h : i < old.length ∧ k < page.length ∧ old.getD i default = page.getD k default then some (diffR old page (i + 1) (k + 1)) else none)
        ((1, (i : Int), page.getD k default) :: diffR old page i (k + 1)) else
        (if h : i < old.length ∧ k < page.length ∧ old.getD i default = page.getD k default then some (diffR old page (i + 1) (k + 1)) else none)))
    ((3, (i : Int), []) :: diffR old page (i + 1) k) else
    (if h : i < old.length ∧ k < page.length then pickR
      (if h : k < page.length then pickR
        (if h : i < old.length ∧ k < page.length ∧ old.getD i default = page.getD k default then some (diffR old page (i + 1) (k + 1)) else none)
        ((1, (i : Int), page.getD k default) :: diffR old page i (k + 1)) else
        (if h : i < old.length ∧ k < page.length ∧ old.getD i default = page.getD k default then some (diffR old page (i + 1) (k + 1)) else none))
      ((2, (i : Int), page.getD k default) :: diffR old page (i + 1) (k + 1)) else
      (if h : k < page.length then pickR
        (if h : i < old.length ∧ k < page.length ∧ old.getD i default = page.getD k default then some (diffR old page (i + 1) (k + 1)) else none)
        ((1, (i : Int), page.getD k default) :: diffR old page i (k + 1)) else
        (if h : i < old.length ∧ k < page.length ∧ old.getD i default = page.getD k default then some (diffR old page (i + 1) (k + 1)) else none)))).getD []
termination_by (old.length - i) + (page.length - k)
decreasing_by all_goals omega
def dr0 (old page : List Str) (i k : Nat) : Option (List Mk) := if i < old.length ∧ k < page.length ∧ old.getD i default = page.getD k default then some (diffR old page (i + 1) (k + 1)) else none
def dr1 (old page : List Str) (i k : Nat) : Option (List Mk) := if k < page.length then pickR (dr0 old page i k) ((1, (i : Int), page.getD k default) :: diffR old page i (k + 1)) else dr0 old page i k
def dr2 (old page : List Str) (i k : Nat) : Option (List Mk) := if i < old.length ∧ k < page.length then pickR (dr1 old page i k) ((2, (i : Int), page.getD k default) :: diffR old page (i + 1) (k + 1)) else dr1 old page i k
def dr3 (old page : List Str) (i k : Nat) : Option (List Mk) := if i < old.length then pickR (dr2 old page i k) ((3, (i : Int), []) :: diffR old page (i + 1) k) else dr2 old page i k
theorem bx8 (s : Option (List Mk)) (l : List Mk) : pickR s l = some l ∨ (pickR s l = s) := by
  unfold pickR
  cases s with
  | none => exact .inl rfl
  | some b => simp only; split <;> simp
def Bd (N : Nat) (s : Option (List Mk)) : Prop := ∀ b, s = some b → b.length ≤ N
theorem Bd.pick {N : Nat} {s : Option (List Mk)} {l : List Mk} (h : Bd N s) (hl : l.length ≤ N) : Bd N (pickR s l) := by
  intro b hb
  rcases bx8 s l with h1 | h1
  · rw [h1] at hb; cases hb; exact hl
  rw [h1] at hb; exact h b hb
structure RSt where
  s : Option (List Mk)
  o : OutC
abbrev rSta (A B : Option Addr) (ca cb : Nat) (old page : List Str) (i k : Nat) (r : Option (List Mk)) : Sta RSt :=
  { inv := fun x => x.s = r
    fr := fun x => [(0, .slice A old.length ca), (1, .slice B page.length cb), (2, int i), (3, int k), (9, .slice x.o.1 (x.s.getD []).length x.o.2), (10, .bool x.s.isSome)]
    hp := fun _ => []
    L := fun x => [Row x.o.1 (rows (x.s.getD [])), Row A (rows old), Row B (rows page)] }
end Go.Proofs.YtegfgegnhjkcfaaGreatDoor
end
