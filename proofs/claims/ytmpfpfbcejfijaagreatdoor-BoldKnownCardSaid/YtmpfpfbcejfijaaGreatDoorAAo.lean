/- Texts of this claim, one behind another. -/

import Derived.Test.YtmpfpfbcejfijaaGreatDoorAAn
set_option linter.unusedVariables false
set_option linter.unusedSimpArgs false
section
namespace Go.Proofs.YtmpfpfbcejfijaaGreatDoor
open Go Go.W
set_option maxRecDepth 20000
attribute [local irreducible] HL HC HQ HB Row Rows2 Blk Facts
abbrev Cd := Int × Int
instance : El Cd where
  default := (0, 0)
  cells x := [int x.1, int x.2]
  sz := 2
  len _ := rfl
  one a u h := by simp at h; rcases h with h | h <;> subst h <;> rfl
abbrev Hv := Sl Int × Int × Int
instance : El Hv where
  default := (⟨none, 0, []⟩, 0, 0)
  cells x := [.slice x.1.a x.1.l.length x.1.c, int x.2.1, int x.2.2]
  sz := 3
  len _ := rfl
  one a u h := by simp at h; rcases h with h | h | h <;> subst h <;> rfl
abbrev Hn := List Int × Int × Int
def Hv.dat (x : Hv) : Hn := (x.1.l, x.2.1, x.2.2)
abbrev Hv.row (x : Hv) : Fact := Row x.1.a (rows x.1.l)
abbrev Hv.v (x : Hv) : Value := .agg #[.slice x.1.a x.1.l.length x.1.c, int x.2.1, int x.2.2]
theorem nbg {p : Prop} [Decidable p] (h : ((!decide p) == false) = true) : p := by simpa using h
theorem nbg2 {p : Prop} [Decidable p] (h : ((!decide p) == false) = false) : ¬ p := by simpa using h
def cdB (x : Cd) : Prop := (1 ≤ x.1 ∧ x.1 ≤ 20) ∧ (0 ≤ x.2 ∧ x.2 ≤ 999)
instance (x : Cd) : Decidable (cdB x) := by unfold cdB; infer_instance
def cardsE (l : List Cd) (room : Int) : Int := if 8 < l.length then 6 else if ¬ ∀ x ∈ l, cdB x then 1 else if ¬ (0 ≤ room ∧ room ≤ 60) then 1 else 0
def ordF (x y : Hn) : Int := orL [cmpI y.2.2 x.2.2, cmpI y.2.1 x.2.1, cmpIs x.1 y.1]
def ordX (x y : Hn) : Int := orL [cmpI x.1.length y.1.length, cmpIs x.1 y.1]
def ordP (x y : Hn) : Int := orL [cmpI x.2.2 y.2.2, cmpI x.1.length y.1.length, cmpIs x.1 y.1]
theorem V9 {A : Option Addr} {c : Nat} (l : List Cd) (room : Int) (hn : l.length ≤ 1000000) : Meets Tryz.prog F.aL [.slice A l.length c, int room] { LI := [Row A (rows l)], val := fun _ : Unit => int (cardsE l room) } := by
 refine j8 F.tB rfl t4 fun w0 => ?_; refine j3 (b9 rfl (d9 (j6 (j3 (b8 rfl ?_))))); refine l9 rfl T.M1 rfl ?_; refine V7 rfl rfl rfl (d9 ?_)
 first | refine m7 rfl (fun hb1 => ?_) (fun hb1 => ?_) | refine k4 rfl (fun hb1 => ?_) (fun hb1 => ?_)
 ·have hb1' := hb1; try simp at hb1'
  refine j3 (b9 rfl (d9 (J1 ?_))); exact ret1 () rfl (by show some _ = some (int (cardsE l room)); unfold cardsE; rw [if_pos (by omega)]) rfl trivial nil_sb trivial
 have hb1' := hb1; try simp at hb1'
 refine k7 (j9 (j6 (j3 (b8 rfl ?_)))); refine l9 rfl T.M1 rfl ?_; refine b8 rfl (d9 (l4 ?_)); refine v8 (β := Nat) ⟨fun k => k ≤ l.length ∧ ∀ j, j < k → cdB (l.getD j default), fun k => [(1, int room), (10, .slice A l.length c), (11, int l.length), (12, int k)], fun _ => [], fun _ => [Row A (rows l)]⟩ (fun k => l.length - k) 0 ⟨Nat.zero_le _, fun j hj => absurd hj (Nat.not_lt_zero j)⟩ mC nil_sb mC fun k hk => ?_; obtain ⟨hk, hq⟩ := hk; refine j3 (A7 rfl rfl rfl (d9 (j6 ?_)))
 first | refine m7 rfl (fun hb2 => ?_) (fun hb2 => ?_) | refine k4 rfl (fun hb2 => ?_) (fun hb2 => ?_)
 ·have hb2' := hb2; try simp at hb2'
  have hk2 : k < l.length := by omega
  refine k7 (j9 (j6 (l4 (j3 ?_)))); refine w3 (α := Cd) _ _ rfl T.M1 T.Z0 rfl rfl rfl mB rfl (by omega) (by decide) (r8 rfl T.bz4 T.Z0 rfl rfl (m9 mB (q8 (by omega))) ?_); refine z1 rfl (fun _ => T.gq8 _) fun gA => ?_; refine u3 rfl rfl (by first | exact .refl _ | exact perm2 _ _ _ | exact perm3 _ _ _ _ | exact perm4 _ _ _ _ _) T.Z0 (by rfl) (by rfl) ?_; refine k9 ?_
  first | refine a7 ⟨_, 0, none⟩ rfl rfl T.Y8 rfl ?_ | refine a7 _ rfl rfl T.Y8 rfl ?_
  first | refine a8 rfl T.a9 rfl (j0 mB rfl) ?_ | refine a8 rfl T.a9 rfl (i8 mB rfl) ?_ | refine a8 rfl T.a9 rfl (d8 mB (d4 (by omega) rfl)) ?_ | refine a8 rfl T.a9 rfl (d7 mB (rows_get (by omega) rfl)) ?_ | refine a8 rfl T.a9 rfl (g4 mB rfl) ?_
  refine i9 F.s8 rfl rfl (p7 _ _ _) l5 trivial fun _ _ => ?_; refine D5 rfl rfl (b8 rfl ?_); refine r5 rfl rfl ?_ ?_
  ·intro hg1; have hg1' := hg1; try simp at hg1'
   refine k5 rfl rfl hg1 ?_
   first | refine a7 ⟨_, 1, none⟩ rfl rfl T.Y7 rfl ?_ | refine a7 _ rfl rfl T.Y7 rfl ?_
   refine k5 rfl rfl hg1 ?_
   first | refine a8 rfl T.a9 rfl (j0 mB rfl) ?_ | refine a8 rfl T.a9 rfl (i8 mB rfl) ?_ | refine a8 rfl T.a9 rfl (d8 mB (d4 (by omega) rfl)) ?_ | refine a8 rfl T.a9 rfl (d7 mB (rows_get (by omega) rfl)) ?_ | refine a8 rfl T.a9 rfl (g4 mB rfl) ?_
   refine k5 rfl rfl hg1 ?_; refine i9 F.s8 rfl rfl (p7 _ _ _) l5 trivial fun _ _ => ?_; refine k5 rfl rfl hg1 (D5 rfl rfl ?_); refine p_f rfl rfl (bf1 hg1) rfl ?_; refine d9 ?_
   first | refine m7 rfl (fun hb3 => ?_) (fun hb3 => ?_) | refine k4 rfl (fun hb3 => ?_) (fun hb3 => ?_)
   ·have hb3' := hb3; try simp at hb3'
    refine j3 (b9 rfl (d9 (l7 (C2 (w6 (C2 ?_)))))); exact ret1 () rfl (by show some _ = some (int (cardsE l room)); unfold cardsE; rw [if_neg (by omega), if_pos (mU (p := cdB) hk2 fun e => nbt hb3 e.2)]) rfl trivial nil_sb trivial
   have hb3' := hb3; try simp at hb3'
   refine k7 (z2 (j9 (k8 ?_))); refine y2 _ rfl rfl rfl rfl s9 ?_; refine b8 rfl (d6 ?_); exact again _ (k + 1) ⟨by show k + 1 ≤ l.length; omega, fun j hj => (Nat.lt_succ_iff_lt_or_eq.1 hj).elim (hq j) fun e => by subst e; exact ⟨nbg hg1, nbf hb3⟩⟩ (A5 (by omega)) mC nil_sb mC
  intro hg1; have hg1' := hg1; try simp at hg1'
  refine u2 rfl rfl rfl rfl rfl hg1 (u2 rfl rfl rfl rfl rfl hg1 (u2 rfl rfl rfl rfl rfl hg1 (u2 rfl rfl rfl rfl rfl hg1 ?_))); refine p_t rfl rfl (bt2 hg1) rfl ?_; refine d9 (c_t rfl rfl (j3 (b9 rfl (d9 (l7 (C2 (w6 ?_))))))); refine C2 ?_; exact ret1 () rfl (by show some _ = some (int (cardsE l room)); unfold cardsE; rw [if_neg (by omega), if_pos (mU (p := cdB) hk2 fun e => nbg2 hg1 e.1)]) rfl trivial nil_sb trivial
 have hb2' := hb2; try simp at hb2'
 obtain rfl : k = l.length := by omega
 have hq := cL (l := l) (p := cdB) hq; refine v5 (C3 (u9 (j9 (j6 (j3 (b8 rfl ?_)))))); refine i9 F.s8 rfl rfl (p7 _ _ _) l5 trivial fun _ _ => ?_; refine D5 rfl rfl (d9 ?_)
 first | refine m7 rfl (fun hb4 => ?_) (fun hb4 => ?_) | refine k4 rfl (fun hb4 => ?_) (fun hb4 => ?_)
 ·have hb4' := hb4; try simp at hb4'
  refine j3 (b9 rfl (d9 (J1 ?_))); exact ret1 () rfl (by show some _ = some (int (cardsE l room)); unfold cardsE; rw [if_neg (by omega), if_neg (Classical.not_not.2 hq), if_pos (nbt hb4)]) rfl trivial nil_sb trivial
 have hb4' := hb4; try simp at hb4'
 refine k7 (j9 (j3 (b9 rfl (d9 (l7 ?_))))); exact ret1 () rfl (by show some _ = some (int (cardsE l room)); unfold cardsE; rw [if_neg (by omega), if_neg (Classical.not_not.2 hq), if_neg (Classical.not_not.2 (nbf hb4))]) rfl trivial nil_sb trivial
theorem tG (x y : Hv) (hx : x.1.l.length ≤ 1000000) (hy : y.1.l.length ≤ 1000000) : Meets Tryz.prog F.U0 [x.v, y.v] { LI := [x.row, y.row], val := fun _ : Unit => int (ordF x.dat y.dat) } := by
 refine j8 F.aj3 rfl t4 fun w0 => ?_; refine j3 ?_; refine C4 rfl rfl fun gT => ?_; refine C4 rfl rfl fun gB => ?_; refine b9 rfl (d9 (j6 ?_)); refine G8 14 mixed (by decide) (by decide) rfl rfl ?_
 apply n0 _ rfl rfl rfl
 ·intro w1
  first | refine a7 ⟨_, 2, none⟩ rfl rfl T.u4 rfl ?_ | refine a7 _ rfl rfl T.u4 rfl ?_
  refine d6 ?_; exact k6 rfl
 apply n0 _ rfl rfl rfl
 ·intro w1
  first | refine a8 rfl T.a9 rfl (i8 mB rfl) ?_ | refine a8 rfl T.a9 rfl (j0 mB rfl) ?_ | refine a8 rfl T.a9 rfl (d8 mB (d4 (by omega) rfl)) ?_ | refine a8 rfl T.a9 rfl (d7 mB (rows_get (by omega) rfl)) ?_ | refine a8 rfl T.a9 rfl (g4 mB rfl) ?_
  refine d6 ?_; exact k6 rfl
 apply n0 _ rfl rfl rfl
 ·intro w1
  first | refine a7 ⟨_, 2, none⟩ rfl rfl T.u4 rfl ?_ | refine a7 _ rfl rfl T.u4 rfl ?_
  refine d6 ?_; exact k6 rfl
 apply n0 _ rfl rfl rfl
 ·intro w1
  first | refine a8 rfl T.a9 rfl (i8 mB rfl) ?_ | refine a8 rfl T.a9 rfl (j0 mB rfl) ?_ | refine a8 rfl T.a9 rfl (d8 mB (d4 (by omega) rfl)) ?_ | refine a8 rfl T.a9 rfl (d7 mB (rows_get (by omega) rfl)) ?_ | refine a8 rfl T.a9 rfl (g4 mB rfl) ?_
  refine d6 ?_; exact k6 rfl
 refine s7 (fun w1 => i9 F.G5 rfl rfl (D2 _ _) l5 trivial fun _ _ => (q_z rfl)) ?_
 apply n0 _ rfl rfl rfl
 ·intro w1
  first | refine a7 ⟨_, 1, none⟩ rfl rfl T.B8 rfl ?_ | refine a7 _ rfl rfl T.B8 rfl ?_
  refine d6 ?_; exact k6 rfl
 apply n0 _ rfl rfl rfl
 ·intro w1
  first | refine a8 rfl T.a9 rfl (i8 mB rfl) ?_ | refine a8 rfl T.a9 rfl (j0 mB rfl) ?_ | refine a8 rfl T.a9 rfl (d8 mB (d4 (by omega) rfl)) ?_ | refine a8 rfl T.a9 rfl (d7 mB (rows_get (by omega) rfl)) ?_ | refine a8 rfl T.a9 rfl (g4 mB rfl) ?_
  refine d6 ?_; exact k6 rfl
 apply n0 _ rfl rfl rfl
 ·intro w1
  first | refine a7 ⟨_, 1, none⟩ rfl rfl T.B8 rfl ?_ | refine a7 _ rfl rfl T.B8 rfl ?_
  refine d6 ?_; exact k6 rfl
 apply n0 _ rfl rfl rfl
 ·intro w1
  first | refine a8 rfl T.a9 rfl (i8 mB rfl) ?_ | refine a8 rfl T.a9 rfl (j0 mB rfl) ?_ | refine a8 rfl T.a9 rfl (d8 mB (d4 (by omega) rfl)) ?_ | refine a8 rfl T.a9 rfl (d7 mB (rows_get (by omega) rfl)) ?_ | refine a8 rfl T.a9 rfl (g4 mB rfl) ?_
  refine d6 ?_; exact k6 rfl
 refine s7 (fun w1 => i9 F.G5 rfl rfl (D2 _ _) l5 trivial fun _ _ => (q_z rfl)) ?_
 apply n0 _ rfl rfl rfl
 ·intro w1
  first | refine a7 ⟨_, 0, none⟩ rfl rfl T.p8 rfl ?_ | refine a7 _ rfl rfl T.p8 rfl ?_
  refine d6 ?_; exact k6 rfl
 apply n0 _ rfl rfl rfl
 ·intro w1
  first | refine a8 rfl T.d5 rfl (i8 mB rfl) ?_ | refine a8 rfl T.d5 rfl (j0 mB rfl) ?_ | refine a8 rfl T.d5 rfl (d8 mB (d4 (by omega) rfl)) ?_ | refine a8 rfl T.d5 rfl (d7 mB (rows_get (by omega) rfl)) ?_ | refine a8 rfl T.d5 rfl (g4 mB rfl) ?_
  refine d6 ?_; exact k6 rfl
 apply n0 _ rfl rfl rfl
 ·intro w1
  first | refine a7 ⟨_, 0, none⟩ rfl rfl T.p8 rfl ?_ | refine a7 _ rfl rfl T.p8 rfl ?_
  refine d6 ?_; exact k6 rfl
 apply n0 _ rfl rfl rfl
 ·intro w1
  first | refine a8 rfl T.d5 rfl (i8 mB rfl) ?_ | refine a8 rfl T.d5 rfl (j0 mB rfl) ?_ | refine a8 rfl T.d5 rfl (d8 mB (d4 (by omega) rfl)) ?_ | refine a8 rfl T.d5 rfl (d7 mB (rows_get (by omega) rfl)) ?_ | refine a8 rfl T.d5 rfl (g4 mB rfl) ?_
  refine d6 ?_; exact k6 rfl
 refine D4 ⟨rfl, ?_⟩; refine i9 F.M2 rfl rfl (J6 x.1.l y.1.l hx) l5 mC fun _ _ => ?_; refine m6 _ rfl rfl (fun _ => T.M9 ..) fun gS => ?_; refine t8 (rows [cmpI y.2.2 x.2.2, cmpI y.2.1 x.2.1, cmpIs x.1.l y.1.l]) (List.prefix_refl _) ?_; refine i9 F.dS rfl rfl (X4 [cmpI y.2.2 x.2.2, cmpI y.2.1 x.2.1, cmpIs x.1.l y.1.l] (by simp)) l5 mC fun _ _ => ?_; refine b9 rfl (d9 (l7 ?_)); exact ret1 () rfl (by show some _ = some (int (ordF x.dat y.dat)); rfl) rfl trivial nil_sb trivial
theorem rG (x y : Hv) (hx : x.1.l.length ≤ 1000000) (hy : y.1.l.length ≤ 1000000) : Meets Tryz.prog F.Q0 [x.v, y.v] { LI := [x.row, y.row], val := fun _ : Unit => int (ordX x.dat y.dat) } := by
 refine j8 F.yW rfl t4 fun w0 => ?_; refine j3 ?_; refine C4 rfl rfl fun gT => ?_; refine C4 rfl rfl fun gB => ?_; refine b9 rfl (d9 (j6 ?_)); refine G8 11 mixed (by decide) (by decide) rfl rfl ?_
 apply n0 _ rfl rfl rfl
 ·intro w1
  first | refine a7 ⟨_, 0, none⟩ rfl rfl T.p8 rfl ?_ | refine a7 _ rfl rfl T.p8 rfl ?_
  refine d6 ?_; exact k6 rfl
 apply n0 _ rfl rfl rfl
 ·intro w1
  first | refine a8 rfl T.d5 rfl (i8 mB rfl) ?_ | refine a8 rfl T.d5 rfl (j0 mB rfl) ?_ | refine a8 rfl T.d5 rfl (d8 mB (d4 (by omega) rfl)) ?_ | refine a8 rfl T.d5 rfl (d7 mB (rows_get (by omega) rfl)) ?_ | refine a8 rfl T.d5 rfl (g4 mB rfl) ?_
  refine d6 ?_; exact k6 rfl
 refine s7 (fun w1 => l9 rfl T.q9 rfl (q_z rfl)) ?_
 apply n0 _ rfl rfl rfl
 ·intro w1
  first | refine a7 ⟨_, 0, none⟩ rfl rfl T.p8 rfl ?_ | refine a7 _ rfl rfl T.p8 rfl ?_
  refine d6 ?_; exact k6 rfl
 apply n0 _ rfl rfl rfl
 ·intro w1
  first | refine a8 rfl T.d5 rfl (i8 mB rfl) ?_ | refine a8 rfl T.d5 rfl (j0 mB rfl) ?_ | refine a8 rfl T.d5 rfl (d8 mB (d4 (by omega) rfl)) ?_ | refine a8 rfl T.d5 rfl (d7 mB (rows_get (by omega) rfl)) ?_ | refine a8 rfl T.d5 rfl (g4 mB rfl) ?_
  refine d6 ?_; exact k6 rfl
 refine s7 (fun w1 => l9 rfl T.q9 rfl (q_z rfl)) ?_; refine s7 (fun w1 => i9 F.G5 rfl rfl (D2 _ _) l5 trivial fun _ _ => (q_z rfl)) ?_
 apply n0 _ rfl rfl rfl
 ·intro w1
  first | refine a7 ⟨_, 0, none⟩ rfl rfl T.p8 rfl ?_ | refine a7 _ rfl rfl T.p8 rfl ?_
  refine d6 ?_; exact k6 rfl
 apply n0 _ rfl rfl rfl
 ·intro w1
  first | refine a8 rfl T.d5 rfl (i8 mB rfl) ?_ | refine a8 rfl T.d5 rfl (j0 mB rfl) ?_ | refine a8 rfl T.d5 rfl (d8 mB (d4 (by omega) rfl)) ?_ | refine a8 rfl T.d5 rfl (d7 mB (rows_get (by omega) rfl)) ?_ | refine a8 rfl T.d5 rfl (g4 mB rfl) ?_
  refine d6 ?_; exact k6 rfl
 apply n0 _ rfl rfl rfl
 ·intro w1
  first | refine a7 ⟨_, 0, none⟩ rfl rfl T.p8 rfl ?_ | refine a7 _ rfl rfl T.p8 rfl ?_
  refine d6 ?_; exact k6 rfl
 apply n0 _ rfl rfl rfl
 ·intro w1
  first | refine a8 rfl T.d5 rfl (i8 mB rfl) ?_ | refine a8 rfl T.d5 rfl (j0 mB rfl) ?_ | refine a8 rfl T.d5 rfl (d8 mB (d4 (by omega) rfl)) ?_ | refine a8 rfl T.d5 rfl (d7 mB (rows_get (by omega) rfl)) ?_ | refine a8 rfl T.d5 rfl (g4 mB rfl) ?_
  refine d6 ?_; exact k6 rfl
 refine D4 ⟨rfl, ?_⟩; refine i9 F.M2 rfl rfl (J6 x.1.l y.1.l hx) l5 mC fun _ _ => ?_; refine m6 _ rfl rfl (fun _ => T.S9 ..) fun gS => ?_; refine t8 (rows [cmpI x.1.l.length y.1.l.length, cmpIs x.1.l y.1.l]) (List.prefix_refl _) ?_; refine i9 F.dS rfl rfl (X4 [cmpI x.1.l.length y.1.l.length, cmpIs x.1.l y.1.l] (by simp)) l5 mC fun _ _ => ?_; refine b9 rfl (d9 (l7 ?_)); exact ret1 () rfl (by show some _ = some (int (ordX x.dat y.dat)); rfl) rfl trivial nil_sb trivial
theorem rF (x y : Hv) (hx : x.1.l.length ≤ 1000000) (hy : y.1.l.length ≤ 1000000) : Meets Tryz.prog F.K1 [x.v, y.v] { LI := [x.row, y.row], val := fun _ : Unit => int (ordP x.dat y.dat) } := by
 refine j8 F.yU rfl t4 fun w0 => ?_; refine j3 ?_; refine C4 rfl rfl fun gT => ?_; refine C4 rfl rfl fun gB => ?_; refine b9 rfl (d9 (j6 ?_)); refine G8 16 mixed (by decide) (by decide) rfl rfl ?_
 apply n0 _ rfl rfl rfl
 ·intro w1
  first | refine a7 ⟨_, 2, none⟩ rfl rfl T.u4 rfl ?_ | refine a7 _ rfl rfl T.u4 rfl ?_
  refine d6 ?_; exact k6 rfl
 apply n0 _ rfl rfl rfl
 ·intro w1
  first | refine a8 rfl T.a9 rfl (i8 mB rfl) ?_ | refine a8 rfl T.a9 rfl (j0 mB rfl) ?_ | refine a8 rfl T.a9 rfl (d8 mB (d4 (by omega) rfl)) ?_ | refine a8 rfl T.a9 rfl (d7 mB (rows_get (by omega) rfl)) ?_ | refine a8 rfl T.a9 rfl (g4 mB rfl) ?_
  refine d6 ?_; exact k6 rfl
 apply n0 _ rfl rfl rfl
 ·intro w1
  first | refine a7 ⟨_, 2, none⟩ rfl rfl T.u4 rfl ?_ | refine a7 _ rfl rfl T.u4 rfl ?_
  refine d6 ?_; exact k6 rfl
 apply n0 _ rfl rfl rfl
 ·intro w1
  first | refine a8 rfl T.a9 rfl (i8 mB rfl) ?_ | refine a8 rfl T.a9 rfl (j0 mB rfl) ?_ | refine a8 rfl T.a9 rfl (d8 mB (d4 (by omega) rfl)) ?_ | refine a8 rfl T.a9 rfl (d7 mB (rows_get (by omega) rfl)) ?_ | refine a8 rfl T.a9 rfl (g4 mB rfl) ?_
  refine d6 ?_; exact k6 rfl
 refine s7 (fun w1 => i9 F.G5 rfl rfl (D2 _ _) l5 trivial fun _ _ => (q_z rfl)) ?_
 apply n0 _ rfl rfl rfl
 ·intro w1
  first | refine a7 ⟨_, 0, none⟩ rfl rfl T.p8 rfl ?_ | refine a7 _ rfl rfl T.p8 rfl ?_
  refine d6 ?_; exact k6 rfl
 apply n0 _ rfl rfl rfl
 ·intro w1
  first | refine a8 rfl T.d5 rfl (i8 mB rfl) ?_ | refine a8 rfl T.d5 rfl (j0 mB rfl) ?_ | refine a8 rfl T.d5 rfl (d8 mB (d4 (by omega) rfl)) ?_ | refine a8 rfl T.d5 rfl (d7 mB (rows_get (by omega) rfl)) ?_ | refine a8 rfl T.d5 rfl (g4 mB rfl) ?_
  refine d6 ?_; exact k6 rfl
 refine s7 (fun w1 => l9 rfl T.q9 rfl (q_z rfl)) ?_
 apply n0 _ rfl rfl rfl
 ·intro w1
  first | refine a7 ⟨_, 0, none⟩ rfl rfl T.p8 rfl ?_ | refine a7 _ rfl rfl T.p8 rfl ?_
  refine d6 ?_; exact k6 rfl
 apply n0 _ rfl rfl rfl
 ·intro w1
  first | refine a8 rfl T.d5 rfl (i8 mB rfl) ?_ | refine a8 rfl T.d5 rfl (j0 mB rfl) ?_ | refine a8 rfl T.d5 rfl (d8 mB (d4 (by omega) rfl)) ?_ | refine a8 rfl T.d5 rfl (d7 mB (rows_get (by omega) rfl)) ?_ | refine a8 rfl T.d5 rfl (g4 mB rfl) ?_
  refine d6 ?_; exact k6 rfl
 refine s7 (fun w1 => l9 rfl T.q9 rfl (q_z rfl)) ?_; refine s7 (fun w1 => i9 F.G5 rfl rfl (D2 _ _) l5 trivial fun _ _ => (q_z rfl)) ?_
 apply n0 _ rfl rfl rfl
 ·intro w1
  first | refine a7 ⟨_, 0, none⟩ rfl rfl T.p8 rfl ?_ | refine a7 _ rfl rfl T.p8 rfl ?_
  refine d6 ?_; exact k6 rfl
 apply n0 _ rfl rfl rfl
 ·intro w1
  first | refine a8 rfl T.d5 rfl (i8 mB rfl) ?_ | refine a8 rfl T.d5 rfl (j0 mB rfl) ?_ | refine a8 rfl T.d5 rfl (d8 mB (d4 (by omega) rfl)) ?_ | refine a8 rfl T.d5 rfl (d7 mB (rows_get (by omega) rfl)) ?_ | refine a8 rfl T.d5 rfl (g4 mB rfl) ?_
  refine d6 ?_; exact k6 rfl
 apply n0 _ rfl rfl rfl
 ·intro w1
  first | refine a7 ⟨_, 0, none⟩ rfl rfl T.p8 rfl ?_ | refine a7 _ rfl rfl T.p8 rfl ?_
  refine d6 ?_; exact k6 rfl
 apply n0 _ rfl rfl rfl
 ·intro w1
  first | refine a8 rfl T.d5 rfl (i8 mB rfl) ?_ | refine a8 rfl T.d5 rfl (j0 mB rfl) ?_ | refine a8 rfl T.d5 rfl (d8 mB (d4 (by omega) rfl)) ?_ | refine a8 rfl T.d5 rfl (d7 mB (rows_get (by omega) rfl)) ?_ | refine a8 rfl T.d5 rfl (g4 mB rfl) ?_
  refine d6 ?_; exact k6 rfl
 refine D4 ⟨rfl, ?_⟩; refine i9 F.M2 rfl rfl (J6 x.1.l y.1.l hx) l5 mC fun _ _ => ?_; refine m6 _ rfl rfl (fun _ => T.M9 ..) fun gS => ?_; refine t8 (rows [cmpI x.2.2 y.2.2, cmpI x.1.l.length y.1.l.length, cmpIs x.1.l y.1.l]) (List.prefix_refl _) ?_; refine i9 F.dS rfl rfl (X4 [cmpI x.2.2 y.2.2, cmpI x.1.l.length y.1.l.length, cmpIs x.1.l y.1.l] (by simp)) l5 mC fun _ _ => ?_; refine b9 rfl (d9 (l7 ?_)); exact ret1 () rfl (by show some _ = some (int (ordP x.dat y.dat)); rfl) rfl trivial nil_sb trivial
end Go.Proofs.YtmpfpfbcejfijaaGreatDoor
end
section
namespace Go.Proofs.YtmpfpfbcejfijaaGreatDoor
open Go Go.W
set_option maxRecDepth 20000
attribute [local irreducible] HL HC HQ HB Row Rows2 Blk Facts
section
variable {c : Cx} {Q : Exit → Act → World → Prop} {fr : Fr} {hp : Hp} {L : List Fact} {ops : Array Oper} {rest : List Oper}
variable {d : Tmp} {ty : TypeId} {pos : String} {af : Array Edge}
theorem lq1 {t yt : TypeId} {x y : Operand} {ky : IntKind} {z : Int} (n N : Nat) (hN : N = 2 ^ n) (hd : Nat.blt d c.n = true) (hx : ev fr x = some (int 1)) (hy : ev fr y = some (.int ky z)) (hz : z = (n : Int)) (hn : n < 60) (k : HL c ops Q rest ((d, int (N : Int)) :: fr) hp L) :
    HL c ops Q (⟨some d, .binOp .shl t x y yt, ty, pos, af, none⟩ :: rest) fr hp L :=
  q7 _ hd hx hy (fun _ => rfl) (fun w => by
    subst hz; subst hN; show (Op.shift .shl .i64 1 ky (n : Int)).run c.P w = _; have hl : 2 ^ n < 2 ^ 60 := Nat.pow_lt_pow_right (by omega) hn; have hm : min ((n : Int).toNat) (IntKind.i64.bits) = n := by show min ((n : Int).toNat) 64 = n; omega
    have hw : IntKind.i64.wrap ((2 ^ n : Nat) : Int) = ((2 ^ n : Nat) : Int) := by
      generalize 2 ^ n = q at hl; simp only [IntKind.wrap, IntKind.bits, IntKind.signed]
      simp
      omega
    simp only [Op.shift]; rw [if_neg (by omega), hm, Int.one_mul, show ((2 : Int) ^ n) = ((2 ^ n : Nat) : Int) by simp, hw]
    rfl) k
end
def linL (cs : List Cd) (ks : List Int) : List Int := ks.map fun v => (cs.getD v.toNat default).1
def priL (cs : List Cd) (ks : List Int) : List Int := ks.map fun v => (cs.getD v.toNat default).2
def handK (cs : List Cd) (s : Nat) : Hn := (pickK s cs.length, (linL cs (pickK s cs.length)).sum, (priL cs (pickK s cs.length)).sum)
def handsK (cs : List Cd) (room : Int) (k : Nat) : List Hn := ((List.range k).map (handK cs)).filter fun x => decide (x.2.1 ≤ room)
theorem vC (cs : List Cd) (room : Int) (k : Nat) : handsK cs room (k + 1) = if (handK cs k).2.1 ≤ room then handsK cs room k ++ [handK cs k] else handsK cs room k := by
  unfold handsK; rw [List.range_succ, List.map_append, List.filter_append]
  by_cases e : (handK cs k).2.1 ≤ room
  · rw [if_pos e]; simp [e]
  rw [if_neg e]; simp [e]
theorem yD (cs : List Cd) (room : Int) (k : Nat) : (handsK cs room k).length ≤ k := Nat.le_trans (List.length_filter_le _ _) (by simp)
theorem lin_at {cs : List Cd} {ks : List Int} {j : Nat} (hj : j < ks.length) : (linL cs ks).getD j default = (cs.getD (ks.getD j default).toNat default).1 := by
  have h : j < (linL cs ks).length := by simpa [linL] using hj
  rw [w4 h, w4 hj]
  simp [linL]
theorem pri_at {cs : List Cd} {ks : List Int} {j : Nat} (hj : j < ks.length) : (priL cs ks).getD j default = (cs.getD (ks.getD j default).toNat default).2 := by
  have h : j < (priL cs ks).length := by simpa [priL] using hj
  rw [w4 h, w4 hj]
  simp [priL]
theorem lin_bd {cs : List Cd} (hc : ∀ x ∈ cs, cdB x) {ks : List Int} (hk : ∀ v ∈ ks, 0 ≤ v ∧ v < (cs.length : Int)) : ∀ v ∈ linL cs ks, 0 ≤ v ∧ v ≤ 1000000000 := by
  intro v hv; obtain ⟨w, hw, rfl⟩ := List.mem_map.1 hv; have h1 := hk w hw; have h2 := hc _ (u0 (l := cs) (k := w.toNat) (by omega)); have h3 := h2.1
  omega
theorem pri_bd {cs : List Cd} (hc : ∀ x ∈ cs, cdB x) {ks : List Int} (hk : ∀ v ∈ ks, 0 ≤ v ∧ v < (cs.length : Int)) : ∀ v ∈ priL cs ks, 0 ≤ v ∧ v ≤ 1000000000 := by
  intro v hv; obtain ⟨w, hw, rfl⟩ := List.mem_map.1 hv; have h1 := hk w hw; have h2 := hc _ (u0 (l := cs) (k := w.toNat) (by omega)); have h3 := h2.2
  omega
theorem ix2 (cs : List Cd) (ks : List Int) : (linL cs ks).length = ks.length := by simp [linL]
theorem iq8 (cs : List Cd) (ks : List Int) : (priL cs ks).length = ks.length := by simp [priL]
theorem iC {A : Option Addr} {ca : Nat} (cs : List Cd) (room : Int) (hn : cs.length ≤ 8) (hc : ∀ x ∈ cs, cdB x) : Meets Tryz.prog F.qW [.slice A cs.length ca, int room] { LI := [Row A (rows cs)], inv := fun x : List Hv × OutC × Hp => x.1.map Hv.dat = handsK cs room (2 ^ cs.length) ∧ Grow T.L9 3 x.2.1.1 x.1.length x.2.1.2 (rows x.1) x.2.2, val := fun x => .slice x.2.1.1 x.1.length x.2.1.2, hpO := fun x => x.2.2, LO := fun x => [innersF x.1 Hv.row] } := by
 refine j8 F.cq9 rfl t4 fun w0 => ?_; refine j3 (b9 rfl (k9 (b9 rfl (d9 (hq4 ?_))))); refine k8 (b8 rfl ?_); refine l9 rfl T.M1 rfl ?_; obtain ⟨N, hN⟩ : ∃ N, N = 2 ^ cs.length := ⟨_, rfl⟩; have hN2 : N ≤ 256 := by rw [hN]; exact Nat.pow_le_pow_right (n := 2) (by omega) hn
 refine lq1 cs.length N hN rfl rfl rfl rfl (by omega) ?_; refine b8 rfl (d9 (l4 ?_)); refine dz5 (Fs := ([] : List Hv).map Hv.row) (by intro F hF; cases hF) ?_; refine v8 (β := Nat × List Hv × OutC × Hp) ⟨fun x => x.1 ≤ N ∧ x.2.1.map Hv.dat = handsK cs room x.1 ∧ Grow T.L9 3 x.2.2.1.1 x.2.1.length x.2.2.1.2 (rows x.2.1) x.2.2.2, fun x => [(0, .slice A cs.length ca), (1, int room), (5, .slice x.2.2.1.1 x.2.1.length x.2.2.1.2), (12, int (N : Int)), (13, int x.1)], fun x => x.2.2.2, fun x => [innersF x.2.1 Hv.row, Row A (rows cs)]⟩ (fun x => N - x.1) (0, [], (none, 0), []) ⟨Nat.zero_le _, rfl, Grow.nil _ _⟩ mC (.refl _) mC fun x hx => ?_; obtain ⟨k, hs, ⟨na, nc⟩, og⟩ := x; obtain ⟨hk, hd, hG⟩ := hx; simp only at hk hd hG; have hpl := mR k cs.length; have hpi : ∀ v ∈ (pickK k cs.length), 0 ≤ v ∧ v < (cs.length : Int) := fun v hv => dx1 hv; have hll : hs.length ≤ k := by rw [← List.length_map (f := Hv.dat), hd]; exact yD ..
 refine j3 (A7 rfl rfl rfl (d9 (j6 ?_)))
 first | refine m7 rfl (fun hb1 => ?_) (fun hb1 => ?_) | refine k4 rfl (fun hb1 => ?_) (fun hb1 => ?_)
 ·have hb1' := hb1; try simp at hb1'
  have hk2 : k < N := by omega
  refine k7 (j9 (j6 (l4 (j3 (b8 rfl (b9 rfl (k9 ?_))))))); refine b8 rfl (xO (k : Int) rfl T.cz8 T.rL rfl (wrap64 (by omega)) (b8 rfl (l9 rfl T.M1 rfl ?_))); refine i9 F.cC rfl rfl (V8 k cs.length (by omega) (by omega)) l5 trivial fun gc _ => ?_; refine u7 _ rfl rfl (fun _ => T.mN ..) ?_; refine z1 rfl (fun _ => T.aV _) fun gh => ?_; refine u3 (cs := #[.slice (b4 gc) (pickK k cs.length).length (pickK k cs.length).length, int 0, int 0]) rfl rfl (.refl _) T.z7 (by rfl) (by rfl) ?_; refine d9 (j6 (j3 ?_))
  first | refine a7 ⟨_, 0, none⟩ rfl rfl T.p8 rfl ?_ | refine a7 _ rfl rfl T.p8 rfl ?_
  refine a8 (v := .slice (b4 gc) (pickK k cs.length).length (pickK k cs.length).length) rfl T.d5 rfl (j0 mB rfl) (l9 rfl T.q9 rfl ?_); refine b8 rfl (d9 (l4 ?_)); refine v8 (β := Nat × Int × Int) ⟨fun x => x.1 ≤ (pickK k cs.length).length ∧ x.2.1 = ((linL cs (pickK k cs.length)).take x.1).sum ∧ x.2.2 = ((priL cs (pickK k cs.length)).take x.1).sum, fun x => [(0, .slice A cs.length ca), (1, int room), (5, .slice na hs.length nc), (7, .pointer (b4 gh)), (12, int (N : Int)), (13, int k), (23, .slice (b4 gc) (pickK k cs.length).length (pickK k cs.length).length), (24, int (pickK k cs.length).length), (25, int x.1)], fun x => (gh, Obj.cells #[.slice (b4 gc) (pickK k cs.length).length (pickK k cs.length).length, int x.2.1, int x.2.2] T.L9 (0, 0)) :: og, fun _ => [Row (b4 gc) (rows (pickK k cs.length)), innersF hs Hv.row, Row A (rows cs)]⟩ (fun x => (pickK k cs.length).length - x.1) (0, 0, 0) ⟨Nat.zero_le _, rfl, rfl⟩ mC (.refl _) mC fun x hx => ?_; obtain ⟨j, a, b⟩ := x; obtain ⟨hj, ha, hb⟩ := hx; simp only at hj ha hb; have ha1 := pQ (lin_bd hc hpi) j; have hb1' := pQ (pri_bd hc hpi) j; rw [← ha] at ha1; rw [← hb] at hb1'; refine j3 (A7 rfl rfl rfl (d9 (j6 ?_)))
  first | refine m7 rfl (fun hb2 => ?_) (fun hb2 => ?_) | refine k4 rfl (fun hb2 => ?_) (fun hb2 => ?_)
  ·have hb2' := hb2; try simp at hb2'
   have hj2 : j < (pickK k cs.length).length := by omega
   have hvj := hpi _ (u0 hj2); obtain ⟨v, hv⟩ : ∃ v : Nat, ((pickK k cs.length).getD j default) = (v : Int) := ⟨_, (Int.toNat_of_nonneg hvj.1).symm⟩; have hv2 : v < cs.length := by omega
   have hcv := hc _ (u0 hv2); have hcl := hcv.1; have hcp := hcv.2; have ha2 := lG (l := linL cs (pickK k cs.length)) (k := j) (by rw [ix2]; exact hj2); rw [← ha, lin_at hj2, hv, Int.toNat_natCast] at ha2; have hb2' := lG (l := priL cs (pickK k cs.length)) (k := j) (by rw [iq8]; exact hj2); rw [← hb, pri_at hj2, hv, Int.toNat_natCast] at hb2'; refine k7 (j9 (j6 (l4 (j3 ?_)))); refine w3 (α := Int) _ _ rfl T.q9 T.v0 rfl rfl rfl mB rfl (by omega) (by decide) (a8 rfl T.a9 rfl (d8 mB (d4 (by omega) rfl)) ?_); refine b9 rfl (d9 ?_); refine R0 ([(gh, Obj.cells #[.slice (b4 gc) (pickK k cs.length).length (pickK k cs.length).length, int a, int b] T.L9 (0, 0))]) (og) l5 18 [17, 1000009, 1000001] mixed (by decide) (by decide) (by decide) rfl rfl rfl ?_
   apply n0 _ rfl rfl rfl
   ·intro w1
    first | refine a7 ⟨_, 1, none⟩ rfl rfl T.B8 rfl ?_ | refine a7 _ rfl rfl T.B8 rfl ?_
    refine d6 ?_; exact k6 rfl
   refine hb_rd (int a) rfl rfl rfl ?_ ?_
   ·intro w1; refine a8 (v := int a) rfl T.a9 rfl (i8 mB rfl) ?_; refine d6 ?_; exact k6 rfl
   refine s7 (fun w1 => b8 rfl (q_z rfl)) (s7 (fun w1 => b8 rfl (q_z rfl)) ?_); refine s7 (fun w1 => w3 (α := Cd) cs v rfl T.M1 T.Z0 rfl rfl hv (List.mem_append_right _ (by repeat constructor)) rfl hv2 (by decide) (q_z rfl)) ?_
   apply n0 _ rfl rfl rfl
   ·intro w1
    first | refine a7 ⟨_, 0, none⟩ rfl rfl T.Y8 rfl ?_ | refine a7 _ rfl rfl T.Y8 rfl ?_
    refine d6 ?_; exact k6 rfl
   refine s7 (fun w1 => a8 (v := int (cs.getD v default).1) rfl T.a9 rfl (d8 (List.mem_append_right _ (by repeat constructor)) (d4 hv2 rfl)) (q_z rfl)) ?_
   apply n0 _ rfl rfl rfl
   ·intro w1; intro _ _; refine y2 (a := a) (b := (cs.getD v default).1) (a + (cs.getD v default).1) rfl rfl rfl rfl s9 ?_; refine d6 ?_; exact k6 rfl
   apply n0 _ rfl rfl rfl
   ·intro w1
    first | refine a7 ⟨_, 2, none⟩ rfl rfl T.u4 rfl ?_ | refine a7 _ rfl rfl T.u4 rfl ?_
    refine d6 ?_; exact k6 rfl
   refine hb_rd (int b) rfl rfl rfl ?_ ?_
   ·intro w1; refine a8 (v := int b) rfl T.a9 rfl (i8 mB rfl) ?_; refine d6 ?_; exact k6 rfl
   refine s7 (fun w1 => b8 rfl (q_z rfl)) (s7 (fun w1 => b8 rfl (q_z rfl)) ?_); refine s7 (fun w1 => w3 (α := Cd) cs v rfl T.M1 T.Z0 rfl rfl hv (List.mem_append_right _ (by repeat constructor)) rfl hv2 (by decide) (q_z rfl)) ?_
   apply n0 _ rfl rfl rfl
   ·intro w1
    first | refine a7 ⟨_, 1, none⟩ rfl rfl T.Y7 rfl ?_ | refine a7 _ rfl rfl T.Y7 rfl ?_
    refine d6 ?_; exact k6 rfl
   refine s7 (fun w1 => a8 (v := int (cs.getD v default).2) rfl T.a9 rfl (d7 (List.mem_append_right _ (by repeat constructor)) (rows_get hv2 (j := 1) rfl)) (q_z rfl)) ?_
   apply n0 _ rfl rfl rfl
   ·intro w1; intro _ _; refine y2 (a := b) (b := (cs.getD v default).2) (b + (cs.getD v default).2) rfl rfl rfl rfl s9 ?_; refine d6 ?_; exact k6 rfl
   apply n0 _ rfl rfl rfl
   ·intro w1
    first | refine a7 ⟨_, 1, none⟩ rfl rfl T.B8 rfl ?_ | refine a7 _ rfl rfl T.B8 rfl ?_
    refine d6 ?_; exact k6 rfl
   refine mj8 ⟨Unit, fun _ => True, fun _ => undef, fun _ => [], fun _ => [(gh, Obj.cells ((#[.slice (b4 gc) (pickK k cs.length).length (pickK k cs.length).length, int a, int b]).setIfInBounds 1 (int (a + (cs.getD v default).1))) T.L9 (0, 0))]⟩ rfl rfl ?_ ?_
   ·skip; intro w1
    refine D7 rfl rfl (.refl _) T.v0 rfl rfl ?_; refine d6 ?_; exact Y4 () trivial (fun h => by cases h) (.refl _) trivial
   refine D4 ⟨rfl, ?_⟩; intro _ _ _ _ _ _
   first | refine a7 ⟨_, 2, none⟩ rfl rfl T.u4 rfl ?_ | refine a7 _ rfl rfl T.u4 rfl ?_
   refine D7 rfl rfl (.refl _) T.v0 rfl rfl ?_; refine d6 (z2 (j9 (k8 ?_))); refine y2 _ rfl rfl rfl rfl s9 ?_; refine b8 rfl (d6 ?_); exact again _ (j + 1, a + (cs.getD v default).1, b + (cs.getD v default).2) ⟨by show j + 1 ≤ _; omega, ha2.symm, hb2'.symm⟩ (A5 (by omega)) mC (.refl _) mC
  have hb2' := hb2; try simp at hb2'
  have hj2 : j = (pickK k cs.length).length := by omega
  rw [hj2, List.take_of_length_le (Nat.le_of_eq (ix2 ..))] at ha; rw [hj2, List.take_of_length_le (Nat.le_of_eq (iq8 ..))] at hb; have hX : Hv.dat ((⟨some ⟨gc, 0, none⟩, (pickK k cs.length).length, (pickK k cs.length)⟩, a, b) : Hv) = handK cs k := by show (_, a, b) = _; rw [ha, hb]; rfl
  refine v5 (C3 (u9 (j9 (j3 ?_))))
  first | refine a7 ⟨_, 1, none⟩ rfl rfl T.B8 rfl ?_ | refine a7 _ rfl rfl T.B8 rfl ?_
  refine a8 (v := int a) rfl T.a9 rfl (j0 mB rfl) ?_; refine b8 rfl (uV rfl rfl rfl (d9 ?_))
  first | refine m7 rfl (fun hb3 => ?_) (fun hb3 => ?_) | refine k4 rfl (fun hb3 => ?_) (fun hb3 => ?_)
  ·have hb3' := hb3; try simp at hb3'
   have hH : handsK cs room (k + 1) = handsK cs room k ++ [Hv.dat ((⟨some ⟨gc, 0, none⟩, (pickK k cs.length).length, (pickK k cs.length)⟩, a, b) : Hv)] := by rw [vC, hX, if_pos (by rw [← hX]; show a ≤ room; omega)]
   refine k8 (b8 rfl ?_); refine u1 (cs := #[.slice (b4 gc) (pickK k cs.length).length (pickK k cs.length).length, int a, int b]) rfl T.E0 T.z7 rfl mB rfl ?_; refine m6 _ rfl rfl (fun _ => T.uF ..) fun gS => ?_; refine t8 (rows [((⟨some ⟨gc, 0, none⟩, (pickK k cs.length).length, (pickK k cs.length)⟩, a, b) : Hv)]) (List.prefix_refl _) ?_; refine Z1 (hp' := [(gh, Obj.cells #[.slice (b4 gc) (pickK k cs.length).length (pickK k cs.length).length, int a, int b] T.L9 (0, 0))]) (hs.length + 1) (rows (hs ++ [((⟨some ⟨gc, 0, none⟩, (pickK k cs.length).length, (pickK k cs.length)⟩, a, b) : Hv)])) T.yK rfl rfl rfl hG (U7 fun q => by simp only [Option.toList_none, List.append_eq, List.cons_append, List.nil_append, List.countP_append, List.countP_cons, List.countP_nil]; omega) (Src.row (news := rows [((⟨some ⟨gc, 0, none⟩, (pickK k cs.length).length, (pickK k cs.length)⟩, a, b) : Hv)]) (m := 1) m0 rfl (Q8 _) (by decide)) rfl (E9 _ _).symm (by unfold maxLen; omega) (by omega) fun A' c' og' hG' => ?_; refine b9 rfl (d6 (z2 (j9 (k8 ?_)))); refine y2 _ rfl rfl rfl rfl s9 ?_; refine b8 rfl (d6 ?_); refine xZ (vB (p := ((⟨some ⟨gc, 0, none⟩, (pickK k cs.length).length, (pickK k cs.length)⟩, a, b) : Hv)) (ps := hs) (f := Hv.row) mB mB) ?_; exact again _ (k + 1, hs ++ [((⟨some ⟨gc, 0, none⟩, (pickK k cs.length).length, (pickK k cs.length)⟩, a, b) : Hv)], (A', c'), og') ⟨by show k + 1 ≤ N; omega, by show (hs ++ [((⟨some ⟨gc, 0, none⟩, (pickK k cs.length).length, (pickK k cs.length)⟩, a, b) : Hv)]).map Hv.dat = _; rw [hH, List.map_append, hd]; rfl, by show Grow T.L9 3 A' (hs ++ [((⟨some ⟨gc, 0, none⟩, (pickK k cs.length).length, (pickK k cs.length)⟩, a, b) : Hv)]).length c' _ og'; rw [List.length_append]; exact hG'⟩ (A5 (by omega)) ⟨rfl, rfl, by show some (Value.slice A' (hs.length + 1) c') = some (Value.slice A' (hs ++ [((⟨some ⟨gc, 0, none⟩, (pickK k cs.length).length, (pickK k cs.length)⟩, a, b) : Hv)]).length c'); rw [List.length_append]; rfl, rfl, rfl, trivial⟩ (List.sublist_append_left _ _) mC
  have hb3' := hb3; try simp at hb3'
  have hH : handsK cs room (k + 1) = handsK cs room k := by rw [vC, if_neg (by rw [← hX]; show ¬ a ≤ room; omega)]
  refine k7 (z2 (j9 (k8 ?_))); refine y2 _ rfl rfl rfl rfl s9 ?_; refine b8 rfl (d6 ?_); exact again _ (k + 1, hs, (na, nc), og) ⟨by show k + 1 ≤ N; omega, by show hs.map Hv.dat = _; rw [hH, hd], hG⟩ (A5 (by omega)) mC (.cons _ (.refl _)) mC
 have hb1' := hb1; try simp at hb1'
 have hk2 : k = N := by omega
 refine v5 (C3 (u9 (j9 (j3 (b8 rfl (b9 rfl (d9 (l7 ?_)))))))); exact ret1 (hs, (na, nc), og) rfl rfl rfl ⟨by show hs.map Hv.dat = _; rw [hd, hk2, hN], hG⟩ (.refl _) mC
end Go.Proofs.YtmpfpfbcejfijaaGreatDoor
end
section
namespace Go.Proofs.YtmpfpfbcejfijaaGreatDoor
open Go Go.W
set_option maxRecDepth 20000
attribute [local irreducible] HL HC HQ HB Row Rows2 Blk Facts
abbrev fnV (f : Nat) : Value := .func (.func f) #[] #[]
abbrev offA (y : Hv) (ok : Bool) (f : Nat) : Array Value := #[.slice y.1.a y.1.l.length y.1.c, int y.2.1, int y.2.2, .bool ok, fnV f]
theorem lx4 (a b c d e : Value) : ∀ (i : Nat) (u : Value), ([a, b, c] : List Value)[i]? = some u → (#[a, b, c, d, e] : Array Value)[0 + i]? = some u := by
  intro i u h
  rcases i with _ | _ | _ | i
  · exact h
  · exact h
  · exact h
  simp at h
def offS (o : Hn → Hn → Int) (s : Hn × Bool) (x : Hn) : Hn × Bool := if s.2 = false ∨ o x s.1 < 0 then (x, true) else s
structure OrdF (f : Nat) (o : Hn → Hn → Int) : Prop where
  cb : Callable Tryz.prog f
  m : ∀ x y : Hv, x.1.l.length ≤ 1000000 → y.1.l.length ≤ 1000000 → Meets Tryz.prog f [x.v, y.v] { LI := [x.row, y.row], val := fun _ : Unit => int (o x.dat y.dat) }
theorem lx2 : OrdF F.U0 ordF := ⟨F.yV, tG⟩
theorem jq3 : OrdF F.Q0 ordX := ⟨F.wI, rG⟩
theorem jq2 : OrdF F.K1 ordP := ⟨F.wH, rF⟩
theorem G1 {gB f : Nat} {o : Hn → Hn → Int} (hf : OrdF f o) (x y : Hv) (ok : Bool) (hx : x.1.l.length ≤ 1000000) (hy : y.1.l.length ≤ 1000000) : Meets Tryz.prog F.J7 [.pointer (b4 gB), x.v] { hpI := [(gB, Obj.cells (offA y ok f) T.v4 (0, 0))], LI := [x.row, y.row], inv := fun z : Hv × Bool => (z.1.dat, z.2) = offS o (y.dat, ok) x.dat ∧ (z.1 = x ∨ z.1 = y), val := fun _ => .tuple #[], hpO := fun z => [(gB, Obj.cells (offA z.1 z.2 f) T.v4 (0, 0))] } := by
 refine j8 F.aT rfl t4 fun w0 => ?_; refine j3 ?_; refine C4 rfl rfl fun gT => ?_; refine d9 (j6 (X3 ?_)); refine G8 15 mixed (by decide) (by decide) rfl rfl (s7 (fun w1 => b8 rfl (q_z rfl)) (s7 (fun w1 => z6 rfl rfl (q_z rfl)) ?_))
 apply n0 _ rfl rfl rfl
 ·intro w1
  first | refine a7 ⟨_, 3, none⟩ rfl rfl T.r7 rfl ?_ | refine a7 _ rfl rfl T.r7 rfl ?_
  refine d6 ?_; exact k6 rfl
 refine s7 (fun w1 => a8 (v := .bool ok) rfl T.hZ rfl (i8 (by repeat constructor) rfl) (q_z rfl)) ?_; refine s7 (fun w1 => D5 rfl rfl (q_z rfl)) (s7 (fun w1 => b8 rfl (q_z rfl)) ?_); refine dz6 (t := 9) (want := false) rfl ?_ ?_
 ·intro hg1; have hg1' := hg1; try simp at hg1'
  apply n0 _ rfl rfl rfl
  ·intro w1; refine k5 rfl rfl hg1 (b8 rfl (d6 ?_)); exact k6 rfl
  apply n0 _ rfl rfl rfl
  ·intro w1; refine k5 rfl rfl hg1 (z6 rfl rfl (d6 ?_)); exact k6 rfl
  apply n0 _ rfl rfl rfl
  ·intro w1; refine k5 rfl rfl hg1 ?_
   first | refine a7 ⟨_, 4, none⟩ rfl rfl T.J4 rfl ?_ | refine a7 _ rfl rfl T.J4 rfl ?_
   refine d6 ?_; exact k6 rfl
  apply n0 _ rfl rfl rfl
  ·intro w1; refine k5 rfl rfl hg1 ?_; refine a8 (v := fnV f) rfl T.U1 rfl (i8 (by repeat constructor) rfl) ?_; refine d6 ?_; exact k6 rfl
  apply n0 _ rfl rfl rfl
  ·intro w1; refine k5 rfl rfl hg1 ?_; refine t7 (cs := #[.slice x.1.a x.1.l.length x.1.c, int x.2.1, int x.2.2]) rfl T.E0 T.z7 rfl (by repeat constructor) rfl ?_; refine d6 ?_; exact k6 rfl
  apply n0 _ rfl rfl rfl
  ·intro w1; refine k5 rfl rfl hg1 (b8 rfl (d6 ?_)); exact k6 rfl
  apply n0 _ rfl rfl rfl
  ·intro w1; refine k5 rfl rfl hg1 (z6 rfl rfl (d6 ?_)); exact k6 rfl
  apply n0 _ rfl rfl rfl
  ·intro w1; refine k5 rfl rfl hg1 ?_
   first | refine a7 ⟨_, 0, none⟩ rfl rfl T.l8 rfl ?_ | refine a7 _ rfl rfl T.l8 rfl ?_
   refine d6 ?_; exact k6 rfl
  apply n0 _ rfl rfl rfl
  ·intro w1; refine k5 rfl rfl hg1 ?_; refine r8 (cs := [.slice y.1.a y.1.l.length y.1.c, int y.2.1, int y.2.2]) rfl T.E0 T.z7 rfl rfl (nD (by repeat constructor) (lx4 _ _ _ _ _)) ?_; refine d6 ?_; exact k6 rfl
  refine D4 ⟨rfl, ?_⟩; refine k5 rfl rfl hg1 ?_; refine O8 (vs := [x.v, y.v]) (cap := []) hf.cb rfl rfl rfl (hf.m x y hx hy) l5 ⟨(by repeat constructor), (by repeat constructor), trivial⟩ fun _ _ => ?_; refine k5 rfl rfl hg1 (A7 rfl rfl rfl ?_); refine p_f rfl rfl (bf1 hg1) rfl ?_; refine d9 ?_
  first | refine m7 rfl (fun hb1 => ?_) (fun hb1 => ?_) | refine k4 rfl (fun hb1 => ?_) (fun hb1 => ?_)
  ·have hb1' := hb1; try simp at hb1'
   refine k8 (b8 rfl (b8 rfl ?_)); refine t7 (cs := #[.slice x.1.a x.1.l.length x.1.c, int x.2.1, int x.2.2]) rfl T.E0 T.z7 rfl (by repeat constructor) rfl ?_; refine z6 rfl rfl ?_
   first | refine a7 ⟨_, 0, none⟩ rfl rfl T.l8 rfl ?_ | refine a7 _ rfl rfl T.l8 rfl ?_
   refine dq4 rfl rfl (.refl _) T.z7 (show 0 + 3 ≤ 5 by decide) (by rfl) (z6 rfl rfl ?_)
   first | refine a7 ⟨_, 3, none⟩ rfl rfl T.r7 rfl ?_ | refine a7 _ rfl rfl T.r7 rfl ?_
   refine D7 rfl rfl (.refl _) T.wO rfl rfl ?_; refine d6 ?_; exact ret0n (x, true) rfl rfl rfl ⟨by show (x.dat, true) = offS o (y.dat, ok) x.dat; rw [offS, if_pos (.inr hb1)], .inl rfl⟩ (.refl _) trivial
  have hb1' := hb1; try simp at hb1'
  refine k7 ?_; exact ret0n (y, ok) rfl rfl rfl ⟨by show (y.dat, ok) = offS o (y.dat, ok) x.dat; rw [offS, if_neg (fun h => h.elim (fun h => by rw [show ok = true from hg1'] at h; cases h) hb1)], .inr rfl⟩ (.refl _) trivial
 intro hg1; have hg1' := hg1; try simp at hg1'
 refine s7 (fun w1 => u2 rfl rfl rfl rfl rfl hg1 (q_z rfl)) (s7 (fun w1 => u2 rfl rfl rfl rfl rfl hg1 (q_z rfl)) (s7 (fun w1 => u2 rfl rfl rfl rfl rfl hg1 (q_z rfl)) (s7 (fun w1 => u2 rfl rfl rfl rfl rfl hg1 (q_z rfl)) (s7 (fun w1 => u2 rfl rfl rfl rfl rfl hg1 (q_z rfl)) (s7 (fun w1 => u2 rfl rfl rfl rfl rfl hg1 (q_z rfl)) (s7 (fun w1 => u2 rfl rfl rfl rfl rfl hg1 (q_z rfl)) (s7 (fun w1 => u2 rfl rfl rfl rfl rfl hg1 (q_z rfl)) ?_))))))); refine s7 (fun w1 => u2 rfl rfl rfl rfl rfl hg1 (q_z rfl)) ?_; refine D4 ⟨rfl, ?_⟩; refine u2 rfl rfl rfl rfl rfl hg1 (u2 rfl rfl rfl rfl rfl hg1 ?_); refine p_t rfl rfl (bt2 hg1) rfl ?_; refine d9 (c_t rfl rfl (k8 (b8 rfl (b8 rfl ?_)))); refine t7 (cs := #[.slice x.1.a x.1.l.length x.1.c, int x.2.1, int x.2.2]) rfl T.E0 T.z7 rfl (by repeat constructor) rfl ?_; refine z6 rfl rfl ?_
 first | refine a7 ⟨_, 0, none⟩ rfl rfl T.l8 rfl ?_ | refine a7 _ rfl rfl T.l8 rfl ?_
 refine dq4 rfl rfl (.refl _) T.z7 (show 0 + 3 ≤ 5 by decide) (by rfl) (z6 rfl rfl ?_)
 first | refine a7 ⟨_, 3, none⟩ rfl rfl T.r7 rfl ?_ | refine a7 _ rfl rfl T.r7 rfl ?_
 refine D7 rfl rfl (.refl _) T.wO rfl rfl ?_; refine d6 ?_; exact ret0n (x, true) rfl rfl rfl ⟨by show (x.dat, true) = offS o (y.dat, ok) x.dat; rw [offS, if_pos (.inl (show ok = false from hg1'))], .inl rfl⟩ (.refl _) trivial
end Go.Proofs.YtmpfpfbcejfijaaGreatDoor
end
section
namespace Go.Proofs.YtmpfpfbcejfijaaGreatDoor
open Go Go.W
set_option maxRecDepth 20000
attribute [local irreducible] HL HC HQ HB Row Rows2 Blk Facts
theorem gj9 {cs : List Cd} {room : Int} (h : cardsE cs room = 0) : cs.length ≤ 8 ∧ (∀ x ∈ cs, cdB x) ∧ 0 ≤ room ∧ room ≤ 60 := by
  unfold cardsE at h
  split at h
  · cases h
  split at h
  · cases h
  rename_i h1 h2
  split at h
  · cases h
  rename_i h3
  exact ⟨by omega, Classical.not_not.1 h2, (Classical.not_not.1 h3).1, (Classical.not_not.1 h3).2⟩
theorem dz7 {cs : List Cd} {room : Int} {k : Nat} {hs : List Hv} (hd : hs.map Hv.dat = handsK cs room k) (hn : cs.length ≤ 8) : ∀ x ∈ hs, x.1.l.length ≤ 8 := by
  intro x hx; have h : x.dat ∈ handsK cs room k := hd ▸ List.mem_map.2 ⟨x, hx, rfl⟩; obtain ⟨s, _, hs⟩ := List.mem_map.1 (List.mem_filter.1 h).1; have h2 := congrArg (fun y : Hn => y.1.length) hs; simp only [handK, Hv.dat] at h2; have := mR s cs.length
  omega
theorem az9 {cs : List Cd} {room : Int} {k : Nat} {hs : List Hv} (hd : hs.map Hv.dat = handsK cs room k) : hs.length ≤ k := by
  rw [← List.length_map (f := Hv.dat), hd]; exact yD ..
def noB : Hn × Bool := (([], 0, 0), false)
def bestL (o : Hn → Hn → Int) (l : List Hn) : Hn × Bool := l.foldl (offS o) noB
theorem bI (o : Hn → Hn → Int) (l : List Hn) (x : Hn) : bestL o (l ++ [x]) = offS o (bestL o l) x := by simp [bestL]
theorem Q7 {hs : List Hv} {k : Nat} (hk : k < hs.length) : (hs.take (k + 1)).map Hv.dat = (hs.take k).map Hv.dat ++ [Hv.dat (hs.getD k default)] := by
  rw [List.take_succ_eq_append_getElem hk, w4 hk, List.map_append]; rfl
def fillE (cs : List Cd) (room : Int) : Hn := if ¬ cardsE cs room = 0 then ([], 0, cardsE cs room) else ((bestL ordF (handsK cs room (2 ^ cs.length))).1.1, (bestL ordF (handsK cs room (2 ^ cs.length))).1.2.2, 0)
def exactL (cs : List Cd) (room : Int) : Hn × Bool := bestL ordX ((handsK cs room (2 ^ cs.length)).filter fun x => decide (x.2.1 = room))
def exactE (cs : List Cd) (room : Int) : List Int × Int := if ¬ cardsE cs room = 0 then ([], cardsE cs room) else if (exactL cs room).2 = false then ([], 11) else ((exactL cs room).1.1, 0)
theorem kB {A : Option Addr} {ca : Nat} (cs : List Cd) (room : Int) (hn : cs.length ≤ 1000000) : Meets Tryz.prog F.iG [.slice A cs.length ca, int room] { LI := [Row A (rows cs)], val := fun x : OutC => .tuple #[.slice x.1 (fillE cs room).1.length x.2, int (fillE cs room).2.1, int (fillE cs room).2.2], LO := fun x => [Row x.1 (rows (fillE cs room).1)] } := by
 refine j8 F.gq5 rfl t4 fun w0 => ?_; refine j3 (b9 rfl (b9 rfl (b9 rfl (d9 (j6 (j3 (b8 rfl (b8 rfl ?_)))))))); refine i9 F.cD rfl rfl (V9 cs room hn) l5 mC fun _ _ => ?_; refine b9 rfl (k9 (b8 rfl (C1 rfl rfl rfl (d9 ?_))))
 first | refine m7 rfl (fun hb1 => ?_) (fun hb1 => ?_) | refine k4 rfl (fun hb1 => ?_) (fun hb1 => ?_)
 ·have hb1' := hb1; try simp at hb1'
  refine j3 (b8 rfl (b9 rfl (b9 rfl (b9 rfl (d9 (J1 ?_)))))); refine A8 (α := Int) ?_; exact ret3 (none, 0) rfl rfl rfl rfl (by show Value.tuple #[.slice none (fillE cs room).1.length 0, int (fillE cs room).2.1, int (fillE cs room).2.2] = _; rw [fillE, if_pos hb1]; rfl) rfl trivial nil_sb (by show LSub _ [Row none (rows (fillE cs room).1)]; rw [fillE, if_pos hb1]; exact ⟨m0, trivial⟩)
 have hb1' := hb1; try simp at hb1'
 have h0 : cardsE cs room = 0 := Classical.not_not.1 hb1; obtain ⟨hn8, hcd, hr0, hr1⟩ := gj9 h0; refine k7 (j9 (j3 ?_)); refine u7 _ rfl rfl (fun _ => T.D6 ..) ?_; refine z1 rfl (fun _ => T.E6 _) fun gB => ?_; refine u3 (cs := offA ((⟨none, 0, []⟩, 0, 0) : Hv) false F.U0) rfl rfl (.refl _) T.E3 (by rfl) (by rfl) ?_; refine d9 (j6 (j3 (b8 rfl (b8 rfl ?_)))); refine i9 F.pD rfl rfl (iC cs room hn8 hcd) l5 mC fun x hx => ?_; obtain ⟨hs, ⟨na, nc⟩, og⟩ := x; obtain ⟨hd, hG⟩ := hx; simp only at hd hG; have hi8 := dz7 hd hn8; have hll := az9 hd; have hN2 : 2 ^ cs.length ≤ 256 := Nat.pow_le_pow_right (n := 2) (by omega) hn8; refine dz2 hG (gY (α := Int) (l9 rfl T.Y3 rfl ?_)); refine b8 rfl (d9 (l4 ?_)); refine v8 (β := Nat × Hv × Bool) ⟨fun x => x.1 ≤ hs.length ∧ (x.2.1.dat, x.2.2) = bestL ordF ((hs.take x.1).map Hv.dat) ∧ x.2.1.1.l.length ≤ 8, fun x => [(0, .slice A cs.length ca), (1, int room), (8, .pointer (b4 gB)), (20, .slice na hs.length nc), (21, int hs.length), (22, int x.1)], fun x => [(gB, Obj.cells (offA x.2.1 x.2.2 F.U0) T.v4 (0, 0))], fun x => [Row na (rows hs), innersF hs Hv.row, x.2.1.row]⟩ (fun x => hs.length - x.1) (0, ((⟨none, 0, []⟩, 0, 0) : Hv), false) ⟨Nat.zero_le _, rfl, Nat.zero_le _⟩ mC (.refl _) mC fun x hx => ?_; obtain ⟨k, y, ok⟩ := x; obtain ⟨hk, ha, hy⟩ := hx; simp only at hk ha hy; refine j3 (A7 rfl rfl rfl (d9 (j6 ?_)))
 first | refine m7 rfl (fun hb2 => ?_) (fun hb2 => ?_) | refine k4 rfl (fun hb2 => ?_) (fun hb2 => ?_)
 ·have hb2' := hb2; try simp at hb2'
  have hk2 : k < hs.length := by omega
  have hx8 := hi8 _ (u0 hk2); refine k7 (j9 (j6 (l4 (j3 ?_)))); refine w3 (α := _) _ _ rfl T.Y3 T.z7 rfl rfl rfl mB rfl (by omega) (by decide) (r8 rfl T.E0 T.z7 rfl rfl (m9 mB (q8 (by omega))) ?_); refine z1 rfl (fun _ => T.aV _) fun gA => ?_; refine u3 (cs := #[.slice (hs.getD k default).1.a (hs.getD k default).1.l.length (hs.getD k default).1.c, int (hs.getD k default).2.1, int (hs.getD k default).2.2]) rfl rfl (.refl _) T.z7 (by rfl) (by rfl) ?_; refine d9 (k8 ?_); refine u1 (cs := #[.slice (hs.getD k default).1.a (hs.getD k default).1.l.length (hs.getD k default).1.c, int (hs.getD k default).2.1, int (hs.getD k default).2.2]) rfl T.E0 T.z7 rfl mB rfl (wV (F := Hv.row (hs.getD k default)) (Fs := hs.map Hv.row) mB (List.mem_map.2 ⟨_, u0 hk2, rfl⟩) ?_); refine i9 F.H4 rfl rfl (G1 lx2 (hs.getD k default) y ok (by omega) (by omega)) (List.Perm.swap _ _ _) mC fun z hz => ?_; obtain ⟨z, zk⟩ := z; obtain ⟨hz, hzi⟩ := hz; refine d6 (z2 (j9 (k8 ?_))); refine y2 _ rfl rfl rfl rfl s9 ?_; refine b8 rfl (d6 ?_)
  rcases hzi with rfl | rfl
  · exact again _ (k + 1, (hs.getD k default), zk) ⟨by show k + 1 ≤ hs.length; omega, by show ((hs.getD k default).dat, zk) = bestL ordF ((hs.take (k + 1)).map Hv.dat); rw [Q7 hk2, bI, ← ha]; exact hz, by first | exact hy | exact Nat.le_trans hx8 (Nat.le_refl _)⟩ (A5 (by omega)) mC (by first | exact .cons_cons _ nil_sb | exact .cons _ (.refl _)) mC
  exact again _ (k + 1, z, zk) ⟨by show k + 1 ≤ hs.length; omega, by show (z.dat, zk) = bestL ordF ((hs.take (k + 1)).map Hv.dat); rw [Q7 hk2, bI, ← ha]; exact hz, by first | exact hy | exact Nat.le_trans hx8 (Nat.le_refl _)⟩ (A5 (by omega)) mC (by first | exact .cons_cons _ nil_sb | exact .cons _ (.refl _)) mC
 have hb2' := hb2; try simp at hb2'
 have hk2 : k = hs.length := by omega
 rw [hk2, List.take_length, hd] at ha; refine v5 (C3 (u9 (j9 (j6 ?_)))); refine G8 7 mixed (by decide) (by decide) rfl rfl ?_
 apply n0 _ rfl rfl rfl
 ·intro w1
  first | refine a7 ⟨_, 0, none⟩ rfl rfl T.l8 rfl ?_ | refine a7 _ rfl rfl T.l8 rfl ?_
  refine d6 ?_; exact k6 rfl
 apply n0 _ rfl rfl rfl
 ·intro w1
  first | refine a7 ⟨_, 0, none⟩ rfl rfl T.p8 rfl ?_ | refine a7 _ rfl rfl T.p8 rfl ?_
  refine d6 ?_; exact k6 rfl
 apply n0 _ rfl rfl rfl
 ·intro w1
  first | refine a8 rfl T.d5 rfl (i8 mB rfl) ?_ | refine a8 rfl T.d5 rfl (j0 mB rfl) ?_ | refine a8 rfl T.d5 rfl (d8 mB (d4 (by omega) rfl)) ?_ | refine a8 rfl T.d5 rfl (d7 mB (rows_get (by omega) rfl)) ?_ | refine a8 rfl T.d5 rfl (g4 mB rfl) ?_
  refine d6 ?_; exact k6 rfl
 apply n0 _ rfl rfl rfl
 ·intro w1
  first | refine a7 ⟨_, 0, none⟩ rfl rfl T.l8 rfl ?_ | refine a7 _ rfl rfl T.l8 rfl ?_
  refine d6 ?_; exact k6 rfl
 apply n0 _ rfl rfl rfl
 ·intro w1
  first | refine a7 ⟨_, 2, none⟩ rfl rfl T.u4 rfl ?_ | refine a7 _ rfl rfl T.u4 rfl ?_
  refine d6 ?_; exact k6 rfl
 apply n0 _ rfl rfl rfl
 ·intro w1
  first | refine a8 rfl T.a9 rfl (i8 mB rfl) ?_ | refine a8 rfl T.a9 rfl (j0 mB rfl) ?_ | refine a8 rfl T.a9 rfl (d8 mB (d4 (by omega) rfl)) ?_ | refine a8 rfl T.a9 rfl (d7 mB (rows_get (by omega) rfl)) ?_ | refine a8 rfl T.a9 rfl (g4 mB rfl) ?_
  refine d6 ?_; exact k6 rfl
 refine s7 (fun w1 => b9 rfl (q_z rfl)) ?_; refine D4 ⟨rfl, ?_⟩; refine b9 rfl (b9 rfl (d9 (l7 ?_))); have hE : fillE cs room = (y.1.l, y.2.2, 0) := by rw [fillE, if_neg (Classical.not_not.2 h0), ← ha]; rfl
 exact ret3 (y.1.a, y.1.c) rfl rfl rfl rfl (by show Value.tuple #[.slice y.1.a (fillE cs room).1.length y.1.c, int (fillE cs room).2.1, int (fillE cs room).2.2] = _; rw [hE] <;> rfl) rfl trivial nil_sb (by show LSub _ [Row y.1.a (rows (fillE cs room).1)]; rw [hE]; exact mC)
theorem iH {A : Option Addr} {ca : Nat} (cs : List Cd) (room : Int) (hn : cs.length ≤ 1000000) : Meets Tryz.prog F.cH [.slice A cs.length ca, int room] { LI := [Row A (rows cs)], val := fun x : OutC => .tuple #[.slice x.1 (exactE cs room).1.length x.2, int (exactE cs room).2], LO := fun x => [Row x.1 (rows (exactE cs room).1)] } := by
 refine j8 F.cx8 rfl t4 fun w0 => ?_; refine j3 (b9 rfl (b9 rfl (d9 (j6 (j3 (b8 rfl (b8 rfl ?_))))))); refine i9 F.cD rfl rfl (V9 cs room hn) l5 mC fun _ _ => ?_; refine b9 rfl (k9 (b8 rfl (C1 rfl rfl rfl (d9 ?_))))
 first | refine m7 rfl (fun hb1 => ?_) (fun hb1 => ?_) | refine k4 rfl (fun hb1 => ?_) (fun hb1 => ?_)
 ·have hb1' := hb1; try simp at hb1'
  refine j3 (b8 rfl (b9 rfl (b9 rfl (d9 (J1 ?_))))); refine A8 (α := Int) ?_; exact ret2 (none, 0) rfl rfl rfl (by show Value.tuple #[.slice none (exactE cs room).1.length 0, int (exactE cs room).2] = _; rw [exactE, if_pos hb1]; rfl) rfl trivial nil_sb (by show LSub _ [Row none (rows (exactE cs room).1)]; rw [exactE, if_pos hb1]; exact mC)
 have hb1' := hb1; try simp at hb1'
 have h0 : cardsE cs room = 0 := Classical.not_not.1 hb1; obtain ⟨hn8, hcd, hr0, hr1⟩ := gj9 h0; refine k7 (j9 (j3 ?_)); refine u7 _ rfl rfl (fun _ => T.D6 ..) ?_; refine z1 rfl (fun _ => T.E6 _) fun gB => ?_; refine u3 (cs := offA ((⟨none, 0, []⟩, 0, 0) : Hv) false F.Q0) rfl rfl (.refl _) T.E3 (by rfl) (by rfl) ?_; refine d9 (j6 (j3 (b8 rfl (b8 rfl ?_)))); refine i9 F.pD rfl rfl (iC cs room hn8 hcd) l5 mC fun x hx => ?_; obtain ⟨hs, ⟨na, nc⟩, og⟩ := x; obtain ⟨hd, hG⟩ := hx; simp only at hd hG; have hi8 := dz7 hd hn8; have hll := az9 hd; have hN2 : 2 ^ cs.length ≤ 256 := Nat.pow_le_pow_right (n := 2) (by omega) hn8; refine dz2 hG (gY (α := Int) (l9 rfl T.Y3 rfl ?_)); refine b8 rfl (d9 (l4 ?_)); refine v8 (β := Nat × Hv × Bool) ⟨fun x => x.1 ≤ hs.length ∧ (x.2.1.dat, x.2.2) = bestL ordX (((hs.take x.1).map Hv.dat).filter (fun x => decide (x.2.1 = room))) ∧ x.2.1.1.l.length ≤ 8, fun x => [(0, .slice A cs.length ca), (1, int room), (7, .pointer (b4 gB)), (19, .slice na hs.length nc), (20, int hs.length), (21, int x.1)], fun x => [(gB, Obj.cells (offA x.2.1 x.2.2 F.Q0) T.v4 (0, 0))], fun x => [Row na (rows hs), innersF hs Hv.row, x.2.1.row]⟩ (fun x => hs.length - x.1) (0, ((⟨none, 0, []⟩, 0, 0) : Hv), false) ⟨Nat.zero_le _, rfl, Nat.zero_le _⟩ mC (.refl _) mC fun x hx => ?_; obtain ⟨k, y, ok⟩ := x; obtain ⟨hk, ha, hy⟩ := hx; simp only at hk ha hy; refine j3 (A7 rfl rfl rfl (d9 (j6 ?_)))
 first | refine m7 rfl (fun hb2 => ?_) (fun hb2 => ?_) | refine k4 rfl (fun hb2 => ?_) (fun hb2 => ?_)
 ·have hb2' := hb2; try simp at hb2'
  have hk2 : k < hs.length := by omega
  have hx8 := hi8 _ (u0 hk2); refine k7 (j9 (j6 (l4 (j3 ?_)))); refine w3 (α := _) _ _ rfl T.Y3 T.z7 rfl rfl rfl mB rfl (by omega) (by decide) (r8 rfl T.E0 T.z7 rfl rfl (m9 mB (q8 (by omega))) ?_); refine z1 rfl (fun _ => T.aV _) fun gA => ?_; refine u3 (cs := #[.slice (hs.getD k default).1.a (hs.getD k default).1.l.length (hs.getD k default).1.c, int (hs.getD k default).2.1, int (hs.getD k default).2.2]) rfl rfl (.refl _) T.z7 (by rfl) (by rfl) ?_; refine k9 ?_
  first | refine a7 ⟨_, 1, none⟩ rfl rfl T.B8 rfl ?_ | refine a7 _ rfl rfl T.B8 rfl ?_
  refine a8 (v := int (hs.getD k default).2.1) rfl T.a9 rfl (j0 mB rfl) ?_; refine b8 rfl (D8 rfl rfl rfl (d9 ?_))
  first | refine m7 rfl (fun hb3 => ?_) (fun hb3 => ?_) | refine k4 rfl (fun hb3 => ?_) (fun hb3 => ?_)
  ·have hb3' := hb3; try simp at hb3'
   have hf3 : decide ((Hv.dat (hs.getD k default)).2.1 = room) = true := decide_eq_true hb3; refine k8 ?_; refine u1 (cs := #[.slice (hs.getD k default).1.a (hs.getD k default).1.l.length (hs.getD k default).1.c, int (hs.getD k default).2.1, int (hs.getD k default).2.2]) rfl T.E0 T.z7 rfl mB rfl (wV (F := Hv.row (hs.getD k default)) (Fs := hs.map Hv.row) mB (List.mem_map.2 ⟨_, u0 hk2, rfl⟩) ?_); refine i9 F.H4 rfl rfl (G1 jq3 (hs.getD k default) y ok (by omega) (by omega)) (List.Perm.swap _ _ _) mC fun z hz => ?_; obtain ⟨z, zk⟩ := z; obtain ⟨hz, hzi⟩ := hz; refine d6 (z2 (j9 (k8 ?_))); refine y2 _ rfl rfl rfl rfl s9 ?_; refine b8 rfl (d6 ?_)
   rcases hzi with rfl | rfl
   · exact again _ (k + 1, (hs.getD k default), zk) ⟨by show k + 1 ≤ hs.length; omega, by show ((hs.getD k default).dat, zk) = bestL ordX (((hs.take (k + 1)).map Hv.dat).filter (fun x => decide (x.2.1 = room))); rw [Q7 hk2, List.filter_append, List.filter_cons, if_pos hf3, List.filter_nil, bI, ← ha]; exact hz, by first | exact hy | exact Nat.le_trans hx8 (Nat.le_refl _)⟩ (A5 (by omega)) mC (by first | exact .cons_cons _ nil_sb | exact .cons _ (.refl _)) mC
   exact again _ (k + 1, z, zk) ⟨by show k + 1 ≤ hs.length; omega, by show (z.dat, zk) = bestL ordX (((hs.take (k + 1)).map Hv.dat).filter (fun x => decide (x.2.1 = room))); rw [Q7 hk2, List.filter_append, List.filter_cons, if_pos hf3, List.filter_nil, bI, ← ha]; exact hz, by first | exact hy | exact Nat.le_trans hx8 (Nat.le_refl _)⟩ (A5 (by omega)) mC (by first | exact .cons_cons _ nil_sb | exact .cons _ (.refl _)) mC
  have hb3' := hb3; try simp at hb3'
  have hf3 : ¬ decide ((Hv.dat (hs.getD k default)).2.1 = room) = true := fun h => hb3 (of_decide_eq_true h); refine k7 (z2 (j9 (k8 ?_))); refine y2 _ rfl rfl rfl rfl s9 ?_; refine b8 rfl (d6 ?_); exact again _ (k + 1, y, ok) ⟨by show k + 1 ≤ hs.length; omega, by show (y.dat, ok) = bestL ordX (((hs.take (k + 1)).map Hv.dat).filter (fun x => decide (x.2.1 = room))); rw [Q7 hk2, List.filter_append, List.filter_cons, if_neg hf3, List.filter_nil, List.append_nil]; exact ha, by first | exact hy | exact Nat.le_trans hx8 (Nat.le_refl _)⟩ (A5 (by omega)) mC (by first | exact .cons_cons _ nil_sb | exact .cons _ (.refl _)) mC
 have hb2' := hb2; try simp at hb2'
 have hk2 : k = hs.length := by omega
 rw [hk2, List.take_length, hd] at ha; have ha : (y.dat, ok) = exactL cs room := ha; refine v5 (C3 (u9 (j9 (j6 (j3 ?_)))))
 first | refine a7 ⟨_, 3, none⟩ rfl rfl T.r7 rfl ?_ | refine a7 _ rfl rfl T.r7 rfl ?_
 refine a8 (v := .bool ok) rfl T.hZ rfl (j0 mB rfl) ?_; refine D5 rfl rfl (d9 ?_)
 first | refine m7 rfl (fun hb4 => ?_) (fun hb4 => ?_) | refine k4 rfl (fun hb4 => ?_) (fun hb4 => ?_)
 ·have hb4' := hb4; try simp at hb4'
  refine j3 (b9 rfl (b9 rfl (d9 (J1 ?_)))); have hE : exactE cs room = ([], 11) := by rw [exactE, if_neg (Classical.not_not.2 h0), ← ha]; exact if_pos (by simpa using hb4)
  refine A8 (α := Int) ?_; exact ret2 (none, 0) rfl rfl rfl (by show Value.tuple #[.slice none (exactE cs room).1.length 0, int (exactE cs room).2] = _; rw [hE]; rfl) rfl trivial nil_sb (by show LSub _ [Row none (rows (exactE cs room).1)]; rw [hE]; exact mC)
 have hb4' := hb4; try simp at hb4'
 refine k7 (j9 (j3 ?_))
 first | refine a7 ⟨_, 0, none⟩ rfl rfl T.l8 rfl ?_ | refine a7 _ rfl rfl T.l8 rfl ?_
 first | refine a7 ⟨_, 0, none⟩ rfl rfl T.p8 rfl ?_ | refine a7 _ rfl rfl T.p8 rfl ?_
 refine a8 (v := .slice y.1.a y.1.l.length y.1.c) rfl T.d5 rfl (j0 mB rfl) ?_; refine b9 rfl (b9 rfl (d9 (l7 ?_))); have hE : exactE cs room = (y.1.l, 0) := by rw [exactE, if_neg (Classical.not_not.2 h0), ← ha]; exact if_neg (by simpa using hb4)
 exact ret2 (y.1.a, y.1.c) rfl rfl rfl (by show Value.tuple #[.slice y.1.a (exactE cs room).1.length y.1.c, int (exactE cs room).2] = _; rw [hE] <;> rfl) rfl trivial nil_sb (by show LSub _ [Row y.1.a (rows (exactE cs room).1)]; rw [hE]; exact mC)
end Go.Proofs.YtmpfpfbcejfijaaGreatDoor
end
section
namespace Go.Proofs.YtmpfpfbcejfijaaGreatDoor
open Go Go.W
set_option maxRecDepth 20000
attribute [local irreducible] HL HC HQ HB Row Rows2 Blk Facts
def streetsE (c : Ch) (ss : List Int) (xs : List Ad) : List Int × Int := if ¬ chkS c ss xs = 0 then ([], chkS c ss xs) else (discK c ss xs 10, 0)
def savedE (c : Ch) (ss : List Int) (xs : List Ad) : List Int × Int := if ¬ chkS c ss xs = 0 then ([], chkS c ss xs) else (numsN 30 c ss xs, 0)
def ctrC : Ch := (10, 25, 5, 40, 10, 2)
def ctrA : List Ad := [(0, 1, 1), (1, 2, 2), (2, 3, 3)]
def G3 : List Cd := [(2, 30), (3, 50), (4, 60)]
theorem rD (c : Ch) (ps : Sl Int) (qs : Sl Ad) (hn : ps.l.length ≤ 1000000) (hm : qs.l.length ≤ 1000000) : Meets Tryz.prog F.aU [saV c ps qs] { LI := saL ps qs, inv := fun x : OutC => (streetsE c ps.l qs.l).1.length ≤ x.2, val := fun x => .tuple #[.slice x.1 (streetsE c ps.l qs.l).1.length x.2, int (streetsE c ps.l qs.l).2], LO := fun x => [Row x.1 (rows (streetsE c ps.l qs.l).1)] } := by
 refine j8 F.yS rfl t4 fun w0 => ?_; refine j3 ?_; refine C4 rfl rfl fun gB => ?_; refine b9 rfl (b9 rfl (d9 (j6 (j3 ?_))))
 first | refine u1 rfl T.j5 T.j4 rfl mB (by rfl) ?_ | refine t7 rfl T.j5 T.j4 rfl mB (by rfl) ?_ | refine r8 rfl T.j5 T.j4 rfl rfl (m9 mB (q8 (by omega))) ?_
 refine i9 F.C9 rfl rfl (A4 c ps qs hn hm) l5 mC fun _ _ => ?_; refine b9 rfl (k9 (b8 rfl (C1 rfl rfl rfl (d9 ?_))))
 first | refine m7 rfl (fun hb1 => ?_) (fun hb1 => ?_) | refine k4 rfl (fun hb1 => ?_) (fun hb1 => ?_)
 ·have hb1' := hb1; try simp at hb1'
  have hE : streetsE c ps.l qs.l = ([], chkS c ps.l qs.l) := by rw [streetsE, if_pos hb1]
  refine j3 (b8 rfl (b9 rfl (b9 rfl (d9 (J1 ?_))))); refine A8 (α := Int) ?_; exact ret2 (none, 0) rfl rfl rfl (by show Value.tuple #[.slice none (streetsE c ps.l qs.l).1.length 0, int (streetsE c ps.l qs.l).2] = _; rw [hE]; rfl) rfl (by show (streetsE c ps.l qs.l).1.length ≤ 0; rw [hE]; exact Nat.le_refl _) nil_sb (by show LSub _ [Row none (rows (streetsE c ps.l qs.l).1)]; rw [hE]; exact ⟨m0, trivial⟩)
 have hb1' := hb1; try simp at hb1'
 have h0 : chkS c ps.l qs.l = 0 := Classical.not_not.1 hb1; have hE : streetsE c ps.l qs.l = (discK c ps.l qs.l 10, 0) := by rw [streetsE, if_neg hb1]
 have hsa := nW h0; refine k7 (j9 (j3 ?_))
 first | refine u1 rfl T.j5 T.j4 rfl mB (by rfl) ?_ | refine t7 rfl T.j5 T.j4 rfl mB (by rfl) ?_ | refine r8 rfl T.j5 T.j4 rfl rfl (m9 mB (q8 (by omega))) ?_
 refine i9 F.cX rfl rfl (Z4 c ps qs hsa) l5 mC fun x hx => ?_; obtain ⟨da, dc⟩ := x; refine b9 rfl (b9 rfl (d9 (l7 ?_))); exact ret2 (da, dc) rfl rfl rfl (by show Value.tuple #[.slice da (streetsE c ps.l qs.l).1.length dc, int (streetsE c ps.l qs.l).2] = _; rw [hE]) rfl (by show (streetsE c ps.l qs.l).1.length ≤ dc; rw [hE]; exact hx) nil_sb (by show LSub _ [Row da (rows (streetsE c ps.l qs.l).1)]; rw [hE]; exact mC)
theorem uL (c : Ch) (ps : Sl Int) (qs : Sl Ad) (hn : ps.l.length ≤ 1000000) (hm : qs.l.length ≤ 1000000) : Meets Tryz.prog F.jK [saV c ps qs] { LI := saL ps qs, inv := fun x : OutC => (savedE c ps.l qs.l).1.length ≤ x.2, val := fun x => .tuple #[.slice x.1 (savedE c ps.l qs.l).1.length x.2, int (savedE c ps.l qs.l).2], LO := fun x => [Row x.1 (rows (savedE c ps.l qs.l).1)] } := by
 refine j8 F.cx4 rfl t4 fun w0 => ?_; refine j3 ?_; refine C4 rfl rfl fun gB => ?_; refine b9 rfl (b9 rfl (d9 (j6 (j3 ?_))))
 first | refine u1 rfl T.j5 T.j4 rfl mB (by rfl) ?_ | refine t7 rfl T.j5 T.j4 rfl mB (by rfl) ?_ | refine r8 rfl T.j5 T.j4 rfl rfl (m9 mB (q8 (by omega))) ?_
 refine i9 F.C9 rfl rfl (A4 c ps qs hn hm) l5 mC fun _ _ => ?_; refine b9 rfl (k9 (b8 rfl (C1 rfl rfl rfl (d9 ?_))))
 first | refine m7 rfl (fun hb1 => ?_) (fun hb1 => ?_) | refine k4 rfl (fun hb1 => ?_) (fun hb1 => ?_)
 ·have hb1' := hb1; try simp at hb1'
  have hE : savedE c ps.l qs.l = ([], chkS c ps.l qs.l) := by rw [savedE, if_pos hb1]
  refine j3 (b8 rfl (b9 rfl (b9 rfl (d9 (J1 ?_))))); refine A8 (α := Int) ?_; exact ret2 (none, 0) rfl rfl rfl (by show Value.tuple #[.slice none (savedE c ps.l qs.l).1.length 0, int (savedE c ps.l qs.l).2] = _; rw [hE]; rfl) rfl (by show (savedE c ps.l qs.l).1.length ≤ 0; rw [hE]; exact Nat.le_refl _) nil_sb (by show LSub _ [Row none (rows (savedE c ps.l qs.l).1)]; rw [hE]; exact ⟨m0, trivial⟩)
 have hb1' := hb1; try simp at hb1'
 have h0 : chkS c ps.l qs.l = 0 := Classical.not_not.1 hb1; have hE : savedE c ps.l qs.l = (numsN 30 c ps.l qs.l, 0) := by rw [savedE, if_neg hb1]
 have hsa := nW h0; refine k7 (j9 (j3 ?_))
 first | refine u1 rfl T.j5 T.j4 rfl mB (by rfl) ?_ | refine t7 rfl T.j5 T.j4 rfl mB (by rfl) ?_ | refine r8 rfl T.j5 T.j4 rfl rfl (m9 mB (q8 (by omega))) ?_
 refine i9 F.mH rfl rfl (cW c ps qs 30 (.inl rfl) hsa) l5 mC fun g _ => ?_; refine b9 rfl (b9 rfl (d9 (l7 ?_))); refine G9 (rows (numsN 30 c ps.l qs.l)) (List.prefix_refl _) ?_; exact ret2 (some ⟨g, 0, none⟩, ps.l.length) rfl rfl rfl (by show Value.tuple #[.slice (b4 g) (savedE c ps.l qs.l).1.length ps.l.length, int (savedE c ps.l qs.l).2] = _; rw [hE]; show Value.tuple #[.slice (b4 g) (numsN 30 c ps.l qs.l).length ps.l.length, int 0] = _; rw [L5]) rfl (by show (savedE c ps.l qs.l).1.length ≤ ps.l.length; rw [hE]; exact Nat.le_of_eq (L5 ..)) nil_sb (by show LSub _ [Row (b4 g) (rows (savedE c ps.l qs.l).1)]; rw [hE]; exact ⟨m0, trivial⟩)
theorem N9 : Meets Tryz.prog F.lV [] { val := fun g : Nat => .slice (b4 g) 3 3, LO := fun g => [Row (b4 g) (rows G3)] } := by
 refine j8 F.zS rfl t4 fun w0 => ?_; refine j3 (b9 rfl (k9 ?_)); refine u7 _ rfl rfl (fun _ => T.aM ..) (u7 _ rfl rfl (fun _ => T.aM ..) (u7 _ rfl rfl (fun _ => T.aM ..) ?_)); refine m6 _ rfl rfl (fun _ => T.wA ..) fun gS => ?_; refine b9 rfl (d9 (l7 ?_)); refine G9 (rows G3) (List.prefix_refl _) ?_; exact ret1 gS rfl rfl rfl trivial nil_sb ⟨m0, trivial⟩
theorem U9 : Meets Tryz.prog F.lU [] { val := fun g : Nat => .slice (b4 g) 6 6, LO := fun g => [Row (b4 g) (rows ([5, 9, 4, 7, 6, 9] : List Int))] } := by
 refine j8 F.zR rfl t4 fun w0 => ?_; refine j3 (b9 rfl (k9 ?_)); refine m6 _ rfl rfl (fun _ => T.kq9 ..) fun gS => ?_; refine b9 rfl (d9 (l7 ?_)); refine G9 (rows ([5, 9, 4, 7, 6, 9] : List Int)) (List.prefix_refl _) ?_; exact ret1 gS rfl rfl rfl trivial nil_sb ⟨m0, trivial⟩
end Go.Proofs.YtmpfpfbcejfijaaGreatDoor
end
section
namespace Go.Proofs.YtmpfpfbcejfijaaGreatDoor
open Go Go.W
set_option maxRecDepth 20000
attribute [local irreducible] HL HC HQ HB Row Rows2 Blk Facts
abbrev ctrP (g : Nat) : Sl Int := ⟨some ⟨g, 0, none⟩, 3, [0, 0, 3]⟩
abbrev ctrQ (g : Nat) : Sl Ad := ⟨some ⟨g, 0, none⟩, 3, ctrA⟩
def someA : List Ad := [(0, 1, 1), (2, 3, 3)]
abbrev someQ (g : Nat) : Sl Ad := ⟨some ⟨g, 0, none⟩, 2, someA⟩
theorem v7 : Meets Tryz.prog F.Y5 [] { val := fun x : Nat × Nat => saV ctrC (ctrP x.1) (ctrQ x.2), LO := fun x => saL (ctrP x.1) (ctrQ x.2) } := by
 refine j8 F.jS rfl t4 fun w0 => ?_; refine j3 ?_; refine z1 rfl (fun _ => T.K3 _) fun g0 => ?_; refine k9 ?_; refine u7 _ rfl rfl (fun _ => T.P0 ..) ?_; refine m6 _ rfl rfl (fun _ => T.M9 ..) fun gp => ?_; refine t8 (rows ([0, 0, 3] : List Int)) (List.prefix_refl _) (u7 _ rfl rfl (fun _ => T.z3 ..) (u7 _ rfl rfl (fun _ => T.z3 ..) (u7 _ rfl rfl (fun _ => T.z3 ..) ?_))); refine m6 _ rfl rfl (fun _ => T.cV ..) fun gq => ?_; refine t8 (rows ctrA) (List.prefix_refl _) (u7 _ rfl rfl (fun _ => T.cJ ..) ?_); refine u3 rfl rfl (by first | exact .refl _ | exact perm2 _ _ _ | exact perm3 _ _ _ _ | exact perm4 _ _ _ _ _) T.j4 (by rfl) (by rfl) ?_; refine d9 (l7 ?_); exact rV (gp, gq) rfl rfl T.j5 T.j4 rfl m0 rfl rfl trivial nil_sb mC
theorem gW : Meets Tryz.prog F.qI [] { val := fun x : Nat × Nat => saV ctrC (ctrP x.1) (someQ x.2), LO := fun x => saL (ctrP x.1) (someQ x.2) } := by
 refine j8 F.cj4 rfl t4 fun w0 => ?_; refine j3 ?_; refine z1 rfl (fun _ => T.K3 _) fun g0 => ?_; refine k9 ?_; refine i9 F.w5 rfl rfl (v7) l5 trivial fun x _ => ?_; obtain ⟨gp, gq⟩ := x; refine z1 rfl (fun _ => T.K3 _) fun g1 => ?_; refine u3 (cs := #[int 10, int 25, int 5, int 40, int 10, int 2, .slice (b4 gp) 3 3, .slice (b4 gq) 3 3]) rfl rfl (.refl _) T.j4 (by rfl) (by rfl) ?_; refine d9 (j6 ?_); refine G8 8 mixed (by decide) (by decide) rfl rfl ?_
 apply n0 _ rfl rfl rfl
 ·intro w1
  first | refine a7 ⟨_, 7, none⟩ rfl rfl T.p9 rfl ?_ | refine a7 _ rfl rfl T.p9 rfl ?_
  refine d6 ?_; exact k6 rfl
 refine s7 (fun w1 => a8 (v := .slice (b4 gq) 3 3) rfl T.i7 rfl (i8 mB rfl) (q_z rfl)) (s7 (fun w1 => w3 (α := Ad) ctrA 0 rfl T.v9 T.j7 rfl rfl rfl mB rfl (by decide) (by decide) (q_z rfl)) (s7 (fun w1 => r8 (cs := [int 0, int 1, int 1]) rfl T.l3 T.j7 rfl rfl (m9 mB (q8 (l := ctrA) (i := 0) (by decide))) (q_z rfl)) ?_))
 apply n0 _ rfl rfl rfl
 ·intro w1
  first | refine a7 ⟨_, 7, none⟩ rfl rfl T.p9 rfl ?_ | refine a7 _ rfl rfl T.p9 rfl ?_
  refine d6 ?_; exact k6 rfl
 refine s7 (fun w1 => a8 (v := .slice (b4 gq) 3 3) rfl T.i7 rfl (i8 mB rfl) (q_z rfl)) (s7 (fun w1 => w3 (α := Ad) ctrA 2 rfl T.v9 T.j7 rfl rfl rfl mB rfl (by decide) (by decide) (q_z rfl)) (s7 (fun w1 => r8 (cs := [int 2, int 3, int 3]) rfl T.l3 T.j7 rfl rfl (m9 mB (q8 (l := ctrA) (i := 2) (by decide))) (q_z rfl)) ?_)); refine D4 ⟨rfl, ?_⟩; refine m6 _ rfl rfl (fun _ => T.sW ..) fun gr => ?_; refine t8 (rows someA) (List.prefix_refl _) ?_
 first | refine a7 ⟨_, 7, none⟩ rfl rfl T.p9 rfl ?_ | refine a7 _ rfl rfl T.p9 rfl ?_
 refine D7 rfl rfl (.refl _) T.jO rfl rfl ?_; refine k9 ?_; refine u1 (cs := #[int 10, int 25, int 5, int 40, int 10, int 2, .slice (b4 gp) 3 3, .slice (b4 gr) 2 2]) rfl T.j5 T.j4 rfl m0 rfl (u3 (cs := #[int 10, int 25, int 5, int 40, int 10, int 2, .slice (b4 gp) 3 3, .slice (b4 gr) 2 2]) rfl rfl (List.Perm.swap _ _ _) T.j4 (by rfl) (by rfl) ?_); refine d9 (l7 ?_); exact rV (gp, gr) rfl rfl T.j5 T.j4 rfl m0 rfl rfl trivial nil_sb mC
def shopsC : List Cl := [([102, 111, 111, 100], -1), ([98, 114, 101, 97, 100], 0), ([99, 108, 111, 116, 104], -1), ([104, 97, 116, 115], 2)]
def shopsH (g1 g2 : Nat) : List Hd := [([98, 97, 107, 101, 114], 1, -1, ⟨none, 0, []⟩), ([98, 111, 110, 110, 101, 116, 115], -1, 3, ⟨none, 0, []⟩), ([99, 111, 110, 102, 101, 99, 116, 105, 111, 110, 101, 114], 0, -1, ⟨some ⟨g1, 0, none⟩, 1, [0]⟩), ([104, 97, 116, 116, 101, 114], 3, -1, ⟨none, 0, []⟩), ([109, 101, 114, 99, 101, 114], 2, -1, ⟨some ⟨g2, 0, none⟩, 1, [3]⟩), ([109, 105, 108, 108, 105, 110, 101, 114], -1, 1, ⟨none, 0, []⟩)]
set_option maxHeartbeats 1000000 in
theorem K0 : Meets Tryz.prog F.lT [] { val := fun x : Nat × Nat × Nat × Nat => .agg #[.slice (some ⟨x.1, 0, none⟩) 4 4, .slice (some ⟨x.2.1, 0, none⟩) 6 6], LO := fun x => [Row (some ⟨x.1, 0, none⟩) (rows shopsC), RowsF (some ⟨x.2.1, 0, none⟩) (shopsH x.2.2.1 x.2.2.2) Hd.row] } := by
 refine j8 F.zQ rfl t4 fun w0 => ?_; refine j3 ?_; refine z1 rfl (fun _ => T.aj5 _) fun g0 => ?_; refine k9 ?_; refine u7 _ rfl rfl (fun _ => T.Y0 ..) ?_; refine u7 _ rfl rfl (fun _ => T.yX ..) ?_; refine u7 _ rfl rfl (fun _ => T.Y0 ..) ?_; refine u7 _ rfl rfl (fun _ => T.Y0 ..) ?_; refine m6 _ rfl rfl (fun _ => T.uG ..) fun gC => ?_; refine t8 (rows shopsC) (List.prefix_refl _) ?_; refine u7 _ rfl rfl (fun _ => T.O3 ..) ?_; refine u7 _ rfl rfl (fun _ => T.O3 ..) ?_; refine m6 _ rfl rfl (fun _ => T.N1 ..) fun g1 => ?_; refine t8 (rows [(0 : Int)]) (List.prefix_refl _) ?_; refine u7 _ rfl rfl (fun _ => T.tI ..) ?_; refine u7 _ rfl rfl (fun _ => T.O3 ..) ?_; refine m6 _ rfl rfl (fun _ => T.N1 ..) fun g2 => ?_; refine t8 (rows [(3 : Int)]) (List.prefix_refl _) ?_; refine u7 _ rfl rfl (fun _ => T.nS ..) ?_; refine u7 _ rfl rfl (fun _ => T.O3 ..) ?_; refine m6 _ rfl rfl (fun _ => T.vZ ..) fun gH => ?_; refine t8 (rows (shopsH g1 g2)) (List.prefix_refl _) ?_; refine u7 _ rfl rfl (fun _ => T.tH ..) ?_; refine u3 rfl rfl (by first | exact .refl _ | exact perm2 _ _ _ | exact perm3 _ _ _ _ | exact perm4 _ _ _ _ _) T.t5 (by rfl) (by rfl) ?_; refine d9 (l7 ?_); refine A8 (α := Int) ?_; refine xZ (Fs := (shopsH g1 g2).map Hd.row) (by intro F hF; left; simp only [shopsH, List.map_cons, List.map_nil, List.mem_cons, List.not_mem_nil, or_false] at hF; rcases hF with rfl | rfl | rfl | rfl | rfl | rfl <;> repeat constructor) ?_; refine mj2 (A := some ⟨gH, 0, none⟩) (ps := shopsH g1 g2) (f := Hd.row) mB m0 ?_; exact rV (gC, gH, g1, g2) rfl rfl T.t1 T.t5 rfl m0 rfl rfl trivial nil_sb ⟨mB, m0, trivial⟩
end Go.Proofs.YtmpfpfbcejfijaaGreatDoor
end
