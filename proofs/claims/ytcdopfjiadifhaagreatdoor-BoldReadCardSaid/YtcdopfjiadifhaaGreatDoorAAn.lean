/- Texts of this claim, one behind another. -/

import Derived.Test.YtcdopfjiadifhaaGreatDoorAAm
set_option linter.unusedVariables false
set_option linter.unusedSimpArgs false
section
namespace Go.Proofs.YtcdopfjiadifhaaGreatDoor
open Go Go.W
set_option maxRecDepth 20000
attribute [local irreducible] HL HC HQ HB Row Rows2 Blk Facts
def adErr (n : Nat) (x : Ad) : Int := if ¬ (0 ≤ x.1 ∧ x.1 ≤ (n : Int) - 1) then 3 else if ¬ (1 ≤ x.2.1 ∧ x.2.1 ≤ 3) then 8 else if ¬ (1 ≤ x.2.2 ∧ x.2.2 ≤ 6) ∨ (x.2.1 = 1 ∧ ¬ x.2.2 = 1) then 1 else 0
def firstE (n : Nat) : List Ad → Int
  | [] => 0
  | x :: r => if ¬ adErr n x = 0 then adErr n x else firstE n r
def chQ (c : Ch) : List Int := [c.1, c.2.1, c.2.2.1, c.2.2.2.1]
def chkS (c : Ch) (ss : List Int) (xs : List Ad) : Int :=
  if ¬ ∀ v ∈ chQ c, 0 ≤ v ∧ v ≤ 999 then 1 else if ¬ (0 ≤ c.2.2.2.2.1 ∧ c.2.2.2.2.1 ≤ 50) ∨ ¬ (1 ≤ c.2.2.2.2.2 ∧ c.2.2.2.2.2 ≤ 5) then 1 else if ss.length = 0 then 7 else if 5 < ss.length then 6
  else if ¬ ∀ s ∈ ss, 0 ≤ s ∧ s ≤ 9 then 1 else if 8 < xs.length then 6 else firstE ss.length xs
theorem az2 (n : Nat) {xs : List Ad} {k : Nat} (hk : k < xs.length) : firstE n (xs.drop k) = if ¬ adErr n (xs.getD k default) = 0 then adErr n (xs.getD k default) else firstE n (xs.drop (k + 1)) := by
  rw [List.drop_eq_getElem_cons hk, firstE, A7 hk]
theorem firstE_zero {n : Nat} : ∀ {xs : List Ad}, firstE n xs = 0 → ∀ x ∈ xs, adErr n x = 0
  | [], _, x, hx => by cases hx
  | y :: r, h, x, hx => by
    rw [firstE] at h
    split at h
    · rename_i e; exact absurd h e
    rename_i e
    rcases List.mem_cons.1 hx with rfl | hx
    · exact Classical.not_not.1 e
    exact firstE_zero h x hx
theorem ad_ok {n : Nat} {x : Ad} (h : adErr n x = 0) : (0 ≤ x.1 ∧ x.1 < (n : Int)) ∧ (1 ≤ x.2.1 ∧ x.2.1 ≤ 3) ∧ (1 ≤ x.2.2 ∧ x.2.2 ≤ 6) := by
  unfold adErr at h
  split at h
  · cases h
  split at h
  · cases h
  split at h
  · cases h
  omega
theorem ij5 {c : Ch} {ss : List Int} {xs : List Ad} (h : chkS c ss xs = 0) : SaOK c ss xs := by
  unfold chkS at h
  split at h
  · cases h
  rename_i h1
  split at h
  · cases h
  rename_i h2
  split at h
  · cases h
  rename_i h3
  split at h
  · cases h
  rename_i h4
  split at h
  · cases h
  rename_i h5
  split at h
  · cases h
  rename_i h6
  have h1 := Classical.not_not.1 h1; have h5 := Classical.not_not.1 h5; have q1 := h1 c.1 (by simp [chQ]); have q2 := h1 c.2.1 (by simp [chQ]); have q3 := h1 c.2.2.1 (by simp [chQ]); have q4 := h1 c.2.2.2.1 (by simp [chQ]); exact ⟨⟨q1, q2, q3, q4, by omega, by omega⟩, by omega, by omega, h5, by omega, fun x hx => ad_ok (firstE_zero h x hx)⟩
theorem nbt {p : Prop} [Decidable p] (h : (!decide p) = true) : ¬ p := by simpa using h
theorem nbf {p : Prop} [Decidable p] (h : (!decide p) = false) : p := by simpa using h
theorem iN {α : Type} [Inhabited α] {l : List α} {p : α → Prop} (h : ∀ j, j < l.length → p (l.getD j default)) : ∀ x ∈ l, p x := fun x hx => by
  obtain ⟨j, hj, rfl⟩ := List.getElem_of_mem hx; rw [← A7 hj]; exact h j hj
theorem sJ {α : Type} [Inhabited α] {l : List α} {p : α → Prop} {k : Nat} (hk : k < l.length) (h : ¬ p (l.getD k default)) : ¬ ∀ x ∈ l, p x := fun ha => h (ha _ (w7 hk))
theorem aY (c : Ch) (ps : Sl Int) (qs : Sl Ad) (x : Ad) (hn : ps.l.length ≤ 1000000) : Meets Tryz.prog F.bW [saV c ps qs, adV x] { LI := saL ps qs, val := fun _ : Unit => int (adErr ps.l.length x) } := by
 refine i9 F.vR rfl r6 fun w0 => ?_; refine i8 ?_; refine H6 rfl rfl fun gB => ?_; refine H6 rfl rfl fun gB => ?_; refine d5 rfl (d8 (j4 (k9 (i8 ?_))))
 first | refine a9 ⟨_, 0, none⟩ rfl rfl T.G4 rfl ?_ | refine a9 _ rfl rfl T.G4 rfl ?_
 first | refine b8 rfl T.b9 rfl (j0 mB rfl) ?_ | refine b8 rfl T.b9 rfl (j3 mB rfl) ?_ | refine b8 rfl T.b9 rfl (d6 mB (c9 (by omega) rfl)) ?_ | refine b8 rfl T.b9 rfl (d7 mB (rows_get (by omega) rfl)) ?_ | refine b8 rfl T.b9 rfl (j5 mB rfl) ?_
 first | refine a9 ⟨_, 6, none⟩ rfl rfl T.q9 rfl ?_ | refine a9 _ rfl rfl T.q9 rfl ?_
 first | refine b8 rfl T.i7 rfl (j0 mB rfl) ?_ | refine b8 rfl T.i7 rfl (j3 mB rfl) ?_ | refine b8 rfl T.i7 rfl (d6 mB (c9 (by omega) rfl)) ?_ | refine b8 rfl T.i7 rfl (d7 mB (rows_get (by omega) rfl)) ?_ | refine b8 rfl T.i7 rfl (j5 mB rfl) ?_
 refine l7 rfl T.t7 rfl (S1 _ rfl rfl rfl rfl r5 ?_); refine k5 F.y8 rfl rfl (u3 _ _ _) p6 trivial fun _ _ => ?_; refine M7 rfl rfl (d5 rfl (d8 ?_))
 first | refine m3 rfl (fun hb1 => ?_) (fun hb1 => ?_) | refine j7 rfl (fun hb1 => ?_) (fun hb1 => ?_)
 ·have hb1' := hb1; try simp at hb1'
  refine i8 (d5 rfl (d8 (l5 (G8 ?_)))); exact ret1 () rfl (by show some _ = some (int (adErr ps.l.length x)); unfold adErr; rw [if_pos (by omega)]) rfl trivial nil_sb trivial
 have hb1' := hb1; try simp at hb1'
 refine i8 ?_
 first | refine a9 ⟨_, 1, none⟩ rfl rfl T.I8 rfl ?_ | refine a9 _ rfl rfl T.I8 rfl ?_
 first | refine b8 rfl T.b9 rfl (j0 mB rfl) ?_ | refine b8 rfl T.b9 rfl (j3 mB rfl) ?_ | refine b8 rfl T.b9 rfl (d6 mB (c9 (by omega) rfl)) ?_ | refine b8 rfl T.b9 rfl (d7 mB (rows_get (by omega) rfl)) ?_ | refine b8 rfl T.b9 rfl (j5 mB rfl) ?_
 refine k5 F.y8 rfl rfl (u3 _ _ _) p6 trivial fun _ _ => ?_; refine M7 rfl rfl (d5 rfl (d8 ?_))
 first | refine m3 rfl (fun hb2 => ?_) (fun hb2 => ?_) | refine j7 rfl (fun hb2 => ?_) (fun hb2 => ?_)
 ·have hb2' := hb2; try simp at hb2'
  refine i8 (d5 rfl (d8 (l5 (G8 ?_)))); exact ret1 () rfl (by show some _ = some (int (adErr ps.l.length x)); unfold adErr; rw [if_neg (by omega), if_pos (by omega)]) rfl trivial nil_sb trivial
 have hb2' := hb2; try simp at hb2'
 refine i8 ?_
 first | refine a9 ⟨_, 2, none⟩ rfl rfl T.G3 rfl ?_ | refine a9 _ rfl rfl T.G3 rfl ?_
 first | refine b8 rfl T.b9 rfl (j0 mB rfl) ?_ | refine b8 rfl T.b9 rfl (j3 mB rfl) ?_ | refine b8 rfl T.b9 rfl (d6 mB (c9 (by omega) rfl)) ?_ | refine b8 rfl T.b9 rfl (d7 mB (rows_get (by omega) rfl)) ?_ | refine b8 rfl T.b9 rfl (j5 mB rfl) ?_
 refine k5 F.y8 rfl rfl (u3 _ _ _) p6 trivial fun _ _ => ?_; refine M7 rfl rfl (c7 rfl ?_); refine u6 rfl rfl ?_ ?_
 ·intro hg1; have hg1' := hg1; try simp at hg1'
  refine l3 rfl rfl hg1 ?_
  first | refine a9 ⟨_, 1, none⟩ rfl rfl T.I8 rfl ?_ | refine a9 _ rfl rfl T.I8 rfl ?_
  refine l3 rfl rfl hg1 ?_
  first | refine b8 rfl T.b9 rfl (j0 mB rfl) ?_ | refine b8 rfl T.b9 rfl (j3 mB rfl) ?_ | refine b8 rfl T.b9 rfl (d6 mB (c9 (by omega) rfl)) ?_ | refine b8 rfl T.b9 rfl (d7 mB (rows_get (by omega) rfl)) ?_ | refine b8 rfl T.b9 rfl (j5 mB rfl) ?_
  refine l3 rfl rfl hg1 (H0 rfl rfl rfl (l3 rfl rfl hg1 (c7 rfl ?_))); refine u6 rfl rfl ?_ ?_
  ·intro hg2; have hg2' := hg2; try simp at hg2'
   refine l3 rfl rfl hg2 ?_
   first | refine a9 ⟨_, 2, none⟩ rfl rfl T.G3 rfl ?_ | refine a9 _ rfl rfl T.G3 rfl ?_
   refine l3 rfl rfl hg2 ?_
   first | refine b8 rfl T.b9 rfl (j0 mB rfl) ?_ | refine b8 rfl T.b9 rfl (j3 mB rfl) ?_ | refine b8 rfl T.b9 rfl (d6 mB (c9 (by omega) rfl)) ?_ | refine b8 rfl T.b9 rfl (d7 mB (rows_get (by omega) rfl)) ?_ | refine b8 rfl T.b9 rfl (j5 mB rfl) ?_
   refine l3 rfl rfl hg2 (N5 rfl rfl rfl (l3 rfl rfl hg1 ?_)); refine p_t rfl rfl (bt1 hg2) rfl (p_f rfl rfl (bf1 hg1) rfl ?_); refine d5 rfl (d8 ?_)
   first | refine m3 rfl (fun hb3 => ?_) (fun hb3 => ?_) | refine j7 rfl (fun hb3 => ?_) (fun hb3 => ?_)
   ·have hb3' := hb3; try simp at hb3'
    refine i8 (d5 rfl (d8 (l5 (G8 ?_)))); exact ret1 () rfl (by show some _ = some (int (adErr ps.l.length x)); unfold adErr; rw [if_neg (by omega), if_neg (by omega), if_pos (by omega)]) rfl trivial nil_sb trivial
   have hb3' := hb3; try simp at hb3'
   refine k6 (y6 (j6 (i8 (d5 rfl (d8 (l5 ?_)))))); exact ret1 () rfl (by show some _ = some (int (adErr ps.l.length x)); unfold adErr; rw [if_neg (by omega), if_neg (by omega), if_neg (by omega)]) rfl trivial nil_sb trivial
  intro hg2; have hg2' := hg2; try simp at hg2'
  refine t4 rfl rfl rfl rfl rfl hg2 (t4 rfl rfl rfl rfl rfl hg2 (t4 rfl rfl rfl rfl rfl hg2 (l3 rfl rfl hg1 ?_))); refine p_f rfl rfl (bf2 hg2) rfl (p_f rfl rfl (bf1 hg1) rfl ?_); refine d5 rfl (d8 (c_f rfl rfl (k6 (y6 (j6 (i8 (d5 rfl (d8 ?_)))))))); refine l5 ?_; exact ret1 () rfl (by show some _ = some (int (adErr ps.l.length x)); unfold adErr; rw [if_neg (by omega), if_neg (by omega), if_neg (by omega)]) rfl trivial nil_sb trivial
 intro hg1; have hg1' := hg1; try simp at hg1'
 refine t4 rfl rfl rfl rfl rfl hg1 (t4 rfl rfl rfl rfl rfl hg1 (t4 rfl rfl rfl rfl rfl hg1 (t4 rfl rfl rfl rfl rfl hg1 (P0 rfl rfl rfl rfl rfl rfl (P0 rfl rfl rfl rfl rfl rfl (P0 rfl rfl rfl rfl rfl rfl (t4 rfl rfl rfl rfl rfl hg1 ?_))))))); refine p_t rfl rfl (bt2 hg1) rfl ?_; refine d5 rfl (d8 (c_t rfl rfl (i8 (d5 rfl (d8 (l5 (G8 ?_))))))); exact ret1 () rfl (by show some _ = some (int (adErr ps.l.length x)); unfold adErr; rw [if_neg (by omega), if_neg (by omega), if_pos (by omega)]) rfl trivial nil_sb trivial
theorem X0 (c : Ch) (ps : Sl Int) (qs : Sl Ad) (hn : ps.l.length ≤ 1000000) (hm : qs.l.length ≤ 1000000) : Meets Tryz.prog F.vX [saV c ps qs] { LI := saL ps qs, val := fun _ : Unit => int (chkS c ps.l qs.l) } := by
 refine i9 F.kx1 rfl r6 fun w0 => ?_; refine i8 ?_; refine H6 rfl rfl fun gB => ?_; refine d5 rfl (k8 ?_)
 first | refine a9 ⟨_, 0, none⟩ rfl rfl T.B9 rfl ?_ | refine a9 _ rfl rfl T.B9 rfl ?_
 refine u7 (cs := [int c.1, int c.2.1, int c.2.2.1, int c.2.2.2.1, int c.2.2.2.2.1, int c.2.2.2.2.2]) rfl T.H3 T.E2 rfl rfl (bS (o := 0) mB (dZ rfl)) ?_; refine y9 rfl (fun _ => T.rT _) fun gA => ?_; refine w4 rfl rfl (by first | exact .refl _ | exact perm2 _ _ _ | exact perm3 _ _ _ _ | exact perm4 _ _ _ _ _) T.E2 (by rfl) (by rfl) ?_; refine d8 (j4 (i8 ?_))
 first | refine a9 ⟨_, 0, none⟩ rfl rfl T.M2 rfl ?_ | refine a9 _ rfl rfl T.M2 rfl ?_
 first | refine b8 rfl T.b9 rfl (j0 mB rfl) ?_ | refine b8 rfl T.b9 rfl (j3 mB rfl) ?_ | refine b8 rfl T.b9 rfl (d6 mB (c9 (by omega) rfl)) ?_ | refine b8 rfl T.b9 rfl (d7 mB (rows_get (by omega) rfl)) ?_ | refine b8 rfl T.b9 rfl (j5 mB rfl) ?_
 first | refine a9 ⟨_, 1, none⟩ rfl rfl T.M1 rfl ?_ | refine a9 _ rfl rfl T.M1 rfl ?_
 first | refine b8 rfl T.b9 rfl (j0 mB rfl) ?_ | refine b8 rfl T.b9 rfl (j3 mB rfl) ?_ | refine b8 rfl T.b9 rfl (d6 mB (c9 (by omega) rfl)) ?_ | refine b8 rfl T.b9 rfl (d7 mB (rows_get (by omega) rfl)) ?_ | refine b8 rfl T.b9 rfl (j5 mB rfl) ?_
 first | refine a9 ⟨_, 2, none⟩ rfl rfl T.M0 rfl ?_ | refine a9 _ rfl rfl T.M0 rfl ?_
 first | refine b8 rfl T.b9 rfl (j0 mB rfl) ?_ | refine b8 rfl T.b9 rfl (j3 mB rfl) ?_ | refine b8 rfl T.b9 rfl (d6 mB (c9 (by omega) rfl)) ?_ | refine b8 rfl T.b9 rfl (d7 mB (rows_get (by omega) rfl)) ?_ | refine b8 rfl T.b9 rfl (j5 mB rfl) ?_
 first | refine a9 ⟨_, 3, none⟩ rfl rfl T.L9 rfl ?_ | refine a9 _ rfl rfl T.L9 rfl ?_
 first | refine b8 rfl T.b9 rfl (j0 mB rfl) ?_ | refine b8 rfl T.b9 rfl (j3 mB rfl) ?_ | refine b8 rfl T.b9 rfl (d6 mB (c9 (by omega) rfl)) ?_ | refine b8 rfl T.b9 rfl (d7 mB (rows_get (by omega) rfl)) ?_ | refine b8 rfl T.b9 rfl (j5 mB rfl) ?_
 refine q7 _ rfl rfl (fun _ => T.iz7 ..) fun gS => ?_; refine C6 (rows (chQ c)) (List.prefix_refl _) (l7 rfl T.t7 rfl ?_); refine c7 rfl (d8 (k9 ?_)); refine w3 (β := Nat) ⟨fun k => k ≤ 4 ∧ ∀ j, j < k → (fun v : Int => 0 ≤ v ∧ v ≤ 999) ((chQ c).getD j default), fun k => [(1, .pointer (c8 gB)), (3, .pointer (c8 gA)), (21, .slice (c8 gS) 4 4), (22, int 4), (23, int k)], fun _ => [(gA, Obj.cells #[int c.1, int c.2.1, int c.2.2.1, int c.2.2.2.1, int c.2.2.2.2.1, int c.2.2.2.2.2] T.cP (0, 0)), (gB, Obj.cells (saC c ps qs) T.A3 (0, 0))], fun _ => Row (c8 gS) (rows (chQ c)) :: saL ps qs⟩ (fun k => 4 - k) 0 ⟨Nat.zero_le _, fun j hj => absurd hj (Nat.not_lt_zero j)⟩ mC (.refl _) mC fun k hk => ?_; obtain ⟨hk, hq⟩ := hk; refine i8 (B6 rfl rfl rfl (d8 (j4 ?_)))
 first | refine m3 rfl (fun hb1 => ?_) (fun hb1 => ?_) | refine j7 rfl (fun hb1 => ?_) (fun hb1 => ?_)
 ·have hb1' := hb1; try simp at hb1'
  have hk2 : k < (chQ c).length := by show k < 4; omega
  refine k6 (j6 (j4 (k9 (i8 ?_)))); refine v6 (α := Int) (chQ c) k rfl T.t7 T.w9 rfl rfl rfl mB rfl hk2 (by decide) (b8 (v := int ((chQ c).getD k default)) rfl T.b9 rfl (d6 mB (c9 hk2 rfl)) ?_); refine d5 rfl (k8 (c7 rfl ?_)); refine k5 F.y8 rfl rfl (u3 _ _ _) p6 trivial fun _ _ => ?_; refine M7 rfl rfl (d8 ?_)
  first | refine m3 rfl (fun hb2 => ?_) (fun hb2 => ?_) | refine j7 rfl (fun hb2 => ?_) (fun hb2 => ?_)
  ·have hb2' := hb2; try simp at hb2'
   refine i8 (d5 rfl (d8 (l5 (G8 (C4 (G8 ?_)))))); exact ret1 () rfl (by show some _ = some (int (chkS c ps.l qs.l)); unfold chkS; rw [if_pos (sJ (p := fun v : Int => 0 ≤ v ∧ v ≤ 999) hk2 (nbt hb2))]) rfl trivial nil_sb trivial
  have hb2' := hb2; try simp at hb2'
  refine k6 (y6 (j6 (j8 ?_))); refine v4 _ rfl rfl rfl rfl r5 ?_; refine c7 rfl (d4 ?_); exact again _ (k + 1) ⟨by show k + 1 ≤ 4; omega, fun j hj => (Nat.lt_succ_iff_lt_or_eq.1 hj).elim (hq j) fun e => by subst e; exact nbf hb2⟩ (D5 (by omega)) mC (.refl _) mC
 have hb1' := hb1; try simp at hb1'
 obtain rfl : k = 4 := by omega
 have hq := iN (l := chQ c) (p := fun v : Int => 0 ≤ v ∧ v ≤ 999) hq; refine u9 (D6 (u5 (j6 (j4 (k9 (i8 ?_))))))
 first | refine a9 ⟨_, 4, none⟩ rfl rfl T.Q7 rfl ?_ | refine a9 _ rfl rfl T.Q7 rfl ?_
 first | refine b8 rfl T.b9 rfl (j0 mB rfl) ?_ | refine b8 rfl T.b9 rfl (j3 mB rfl) ?_ | refine b8 rfl T.b9 rfl (d6 mB (c9 (by omega) rfl)) ?_ | refine b8 rfl T.b9 rfl (d7 mB (rows_get (by omega) rfl)) ?_ | refine b8 rfl T.b9 rfl (j5 mB rfl) ?_
 refine k5 F.y8 rfl rfl (u3 _ _ _) p6 trivial fun _ _ => ?_; refine M7 rfl rfl (c7 rfl ?_); refine u6 rfl rfl ?_ ?_
 ·intro hg1; have hg1' := hg1; try simp at hg1'
  refine l3 rfl rfl hg1 ?_
  first | refine a9 ⟨_, 5, none⟩ rfl rfl T.L8 rfl ?_ | refine a9 _ rfl rfl T.L8 rfl ?_
  refine l3 rfl rfl hg1 ?_
  first | refine b8 rfl T.b9 rfl (j0 mB rfl) ?_ | refine b8 rfl T.b9 rfl (j3 mB rfl) ?_ | refine b8 rfl T.b9 rfl (d6 mB (c9 (by omega) rfl)) ?_ | refine b8 rfl T.b9 rfl (d7 mB (rows_get (by omega) rfl)) ?_ | refine b8 rfl T.b9 rfl (j5 mB rfl) ?_
  refine l3 rfl rfl hg1 ?_; refine k5 F.y8 rfl rfl (u3 _ _ _) p6 trivial fun _ _ => ?_; refine l3 rfl rfl hg1 (M7 rfl rfl ?_); refine p_f rfl rfl (bf1 hg1) rfl ?_; refine d5 rfl (d8 ?_)
  first | refine m3 rfl (fun hb3 => ?_) (fun hb3 => ?_) | refine j7 rfl (fun hb3 => ?_) (fun hb3 => ?_)
  ·have hb3' := hb3; try simp at hb3'
   refine i8 (d5 rfl (d8 (l5 (G8 ?_)))); exact ret1 () rfl (by show some _ = some (int (chkS c ps.l qs.l)); unfold chkS; rw [if_neg (Classical.not_not.2 hq), if_pos (.inr (nbt hb3))]) rfl trivial nil_sb trivial
  have hb3' := hb3; try simp at hb3'
  have hq2 : ¬ (¬ (0 ≤ c.2.2.2.2.1 ∧ c.2.2.2.2.1 ≤ 50) ∨ ¬ (1 ≤ c.2.2.2.2.2 ∧ c.2.2.2.2.2 ≤ 5)) := fun e => e.elim (fun e => e hg1') (fun e => e (nbf hb3)); refine i8 ?_
  first | refine a9 ⟨_, 6, none⟩ rfl rfl T.q9 rfl ?_ | refine a9 _ rfl rfl T.q9 rfl ?_
  first | refine b8 rfl T.i7 rfl (j0 mB rfl) ?_ | refine b8 rfl T.i7 rfl (j3 mB rfl) ?_ | refine b8 rfl T.i7 rfl (d6 mB (c9 (by omega) rfl)) ?_ | refine b8 rfl T.i7 rfl (d7 mB (rows_get (by omega) rfl)) ?_ | refine b8 rfl T.i7 rfl (j5 mB rfl) ?_
  refine l7 rfl T.t7 rfl ?_; refine H0 rfl rfl rfl (d5 rfl (d8 ?_))
  first | refine m3 rfl (fun hb4 => ?_) (fun hb4 => ?_) | refine j7 rfl (fun hb4 => ?_) (fun hb4 => ?_)
  ·have hb4' := hb4; try simp at hb4'
   refine i8 (d5 rfl (d8 (l5 (G8 ?_)))); exact ret1 () rfl (by show some _ = some (int (chkS c ps.l qs.l)); unfold chkS; rw [if_neg (Classical.not_not.2 hq), if_neg hq2, if_pos (by omega)]) rfl trivial nil_sb trivial
  have hb4' := hb4; try simp at hb4'
  refine i8 ?_
  first | refine a9 ⟨_, 6, none⟩ rfl rfl T.q9 rfl ?_ | refine a9 _ rfl rfl T.q9 rfl ?_
  first | refine b8 rfl T.i7 rfl (j0 mB rfl) ?_ | refine b8 rfl T.i7 rfl (j3 mB rfl) ?_ | refine b8 rfl T.i7 rfl (d6 mB (c9 (by omega) rfl)) ?_ | refine b8 rfl T.i7 rfl (d7 mB (rows_get (by omega) rfl)) ?_ | refine b8 rfl T.i7 rfl (j5 mB rfl) ?_
  refine l7 rfl T.t7 rfl ?_; refine R0 rfl rfl rfl (d5 rfl (d8 ?_))
  first | refine m3 rfl (fun hb5 => ?_) (fun hb5 => ?_) | refine j7 rfl (fun hb5 => ?_) (fun hb5 => ?_)
  ·have hb5' := hb5; try simp at hb5'
   refine i8 (d5 rfl (d8 (l5 (G8 ?_)))); exact ret1 () rfl (by show some _ = some (int (chkS c ps.l qs.l)); unfold chkS; rw [if_neg (Classical.not_not.2 hq), if_neg hq2, if_neg (by omega), if_pos (by omega)]) rfl trivial nil_sb trivial
  have hb5' := hb5; try simp at hb5'
  refine k6 (y6 (j6 (j4 (i8 ?_))))
  first | refine a9 ⟨_, 6, none⟩ rfl rfl T.q9 rfl ?_ | refine a9 _ rfl rfl T.q9 rfl ?_
  first | refine b8 rfl T.i7 rfl (j0 mB rfl) ?_ | refine b8 rfl T.i7 rfl (j3 mB rfl) ?_ | refine b8 rfl T.i7 rfl (d6 mB (c9 (by omega) rfl)) ?_ | refine b8 rfl T.i7 rfl (d7 mB (rows_get (by omega) rfl)) ?_ | refine b8 rfl T.i7 rfl (j5 mB rfl) ?_
  refine l7 rfl T.t7 rfl ?_; refine c7 rfl (d8 (k9 ?_)); refine w3 (β := Nat) ⟨fun k => k ≤ ps.l.length ∧ ∀ j, j < k → (fun v : Int => 0 ≤ v ∧ v ≤ 9) (ps.l.getD j default), fun k => [(1, .pointer (c8 gB)), (53, .slice ps.a ps.l.length ps.c), (54, int ps.l.length), (55, int k)], fun _ => [(gB, Obj.cells (saC c ps qs) T.A3 (0, 0))], fun _ => saL ps qs⟩ (fun k => ps.l.length - k) 0 ⟨Nat.zero_le _, fun j hj => absurd hj (Nat.not_lt_zero j)⟩ mC (.cons _ (.refl _)) mC fun k hk => ?_; obtain ⟨hk, hq3⟩ := hk; refine i8 (B6 rfl rfl rfl (d8 (j4 ?_)))
  first | refine m3 rfl (fun hb6 => ?_) (fun hb6 => ?_) | refine j7 rfl (fun hb6 => ?_) (fun hb6 => ?_)
  ·have hb6' := hb6; try simp at hb6'
   have hk6 : k < ps.l.length := by omega
   refine k6 (j6 (j4 (k9 (i8 ?_)))); refine v6 (α := Int) _ _ rfl T.t7 T.w9 rfl rfl rfl mB rfl (by omega) (by decide) (b8 rfl T.b9 rfl (d6 mB (c9 (by omega) rfl)) ?_); refine d5 rfl (k8 (c7 rfl ?_)); refine k5 F.y8 rfl rfl (u3 _ _ _) p6 trivial fun _ _ => ?_; refine M7 rfl rfl (d8 ?_)
   first | refine m3 rfl (fun hb7 => ?_) (fun hb7 => ?_) | refine j7 rfl (fun hb7 => ?_) (fun hb7 => ?_)
   ·have hb7' := hb7; try simp at hb7'
    refine i8 (d5 rfl (d8 (l5 (G8 (C4 (G8 ?_)))))); exact ret1 () rfl (by show some _ = some (int (chkS c ps.l qs.l)); unfold chkS; rw [if_neg (Classical.not_not.2 hq), if_neg hq2, if_neg (by omega), if_neg (by omega), if_pos (sJ (p := fun v : Int => 0 ≤ v ∧ v ≤ 9) hk6 (nbt hb7))]) rfl trivial nil_sb trivial
   have hb7' := hb7; try simp at hb7'
   refine k6 (y6 (j6 (j8 ?_))); refine v4 _ rfl rfl rfl rfl r5 ?_; refine c7 rfl (d4 ?_); exact again _ (k + 1) ⟨by show k + 1 ≤ ps.l.length; omega, fun j hj => (Nat.lt_succ_iff_lt_or_eq.1 hj).elim (hq3 j) fun e => by subst e; exact nbf hb7⟩ (D5 (by omega)) mC (.refl _) mC
  have hb6' := hb6; try simp at hb6'
  obtain rfl : k = ps.l.length := by omega
  have hq3 := iN (l := ps.l) (p := fun v : Int => 0 ≤ v ∧ v ≤ 9) hq3; refine u9 (D6 (u5 (j6 (j4 (i8 ?_)))))
  first | refine a9 ⟨_, 7, none⟩ rfl rfl T.l4 rfl ?_ | refine a9 _ rfl rfl T.l4 rfl ?_
  first | refine b8 rfl T.d9 rfl (j0 mB rfl) ?_ | refine b8 rfl T.d9 rfl (j3 mB rfl) ?_ | refine b8 rfl T.d9 rfl (d6 mB (c9 (by omega) rfl)) ?_ | refine b8 rfl T.d9 rfl (d7 mB (rows_get (by omega) rfl)) ?_ | refine b8 rfl T.d9 rfl (j5 mB rfl) ?_
  refine l7 rfl T.w8 rfl ?_; refine R0 rfl rfl rfl (d8 ?_)
  first | refine m3 rfl (fun hb8 => ?_) (fun hb8 => ?_) | refine j7 rfl (fun hb8 => ?_) (fun hb8 => ?_)
  ·have hb8' := hb8; try simp at hb8'
   refine i8 (d5 rfl (d8 (N4 ?_))); exact ret1 () rfl (by show some _ = some (int (chkS c ps.l qs.l)); unfold chkS; rw [if_neg (Classical.not_not.2 hq), if_neg hq2, if_neg (by omega), if_neg (by omega), if_neg (Classical.not_not.2 hq3), if_pos (by omega)]) rfl trivial nil_sb trivial
  have hb8' := hb8; try simp at hb8'
  refine k6 (j6 (j4 (i8 ?_)))
  first | refine a9 ⟨_, 7, none⟩ rfl rfl T.l4 rfl ?_ | refine a9 _ rfl rfl T.l4 rfl ?_
  first | refine b8 rfl T.d9 rfl (j0 mB rfl) ?_ | refine b8 rfl T.d9 rfl (j3 mB rfl) ?_ | refine b8 rfl T.d9 rfl (d6 mB (c9 (by omega) rfl)) ?_ | refine b8 rfl T.d9 rfl (d7 mB (rows_get (by omega) rfl)) ?_ | refine b8 rfl T.d9 rfl (j5 mB rfl) ?_
  refine l7 rfl T.w8 rfl ?_; refine c7 rfl (d8 (k9 ?_)); refine w3 (β := Nat) ⟨fun k => k ≤ qs.l.length ∧ firstE ps.l.length qs.l = firstE ps.l.length (qs.l.drop k), fun k => [(1, .pointer (c8 gB)), (68, .slice qs.a qs.l.length qs.c), (69, int qs.l.length), (70, int k)], fun _ => [(gB, Obj.cells (saC c ps qs) T.A3 (0, 0))], fun _ => saL ps qs⟩ (fun k => qs.l.length - k) 0 ⟨Nat.zero_le _, rfl⟩ mC (.refl _) mC fun k hk => ?_; obtain ⟨hk, hfe⟩ := hk; refine i8 (B6 rfl rfl rfl (d8 (j4 ?_)))
  first | refine m3 rfl (fun hb9 => ?_) (fun hb9 => ?_) | refine j7 rfl (fun hb9 => ?_) (fun hb9 => ?_)
  ·have hb9' := hb9; try simp at hb9'
   have hk9 : k < qs.l.length := by omega
   refine k6 (j6 (j4 (k9 (i8 ?_)))); refine v6 (α := Ad) _ _ rfl T.w8 T.m4 rfl rfl rfl mB rfl (by omega) (by decide) (u7 rfl T.r8 T.m4 rfl rfl (t5 mB (t9 (by omega))) ?_); refine y9 rfl (fun _ => T.U5 _) fun gA => ?_; refine w4 rfl rfl (by first | exact .refl _ | exact perm2 _ _ _ | exact perm3 _ _ _ _ | exact perm4 _ _ _ _ _) T.m4 (by rfl) (by rfl) ?_; refine k8 ?_
   first | refine B5 rfl T.k7 T.j9 rfl mB (by rfl) ?_ | refine C1 rfl T.k7 T.j9 rfl mB (by rfl) ?_ | refine u7 rfl T.k7 T.j9 rfl rfl (t5 mB (t9 (by omega))) ?_
   first | refine B5 rfl T.r8 T.m4 rfl mB (by rfl) ?_ | refine C1 rfl T.r8 T.m4 rfl mB (by rfl) ?_ | refine u7 rfl T.r8 T.m4 rfl rfl (t5 mB (t9 (by omega))) ?_
   refine k5 F.dG rfl rfl (aY c ps qs (qs.l.getD k default) hn) p6 mC fun _ _ => ?_; refine d5 rfl (k8 (c7 rfl (N5 rfl rfl rfl (d8 ?_))))
   first | refine m3 rfl (fun hb10 => ?_) (fun hb10 => ?_) | refine j7 rfl (fun hb10 => ?_) (fun hb10 => ?_)
   ·have hb10' := hb10; try simp at hb10'
    refine i8 (c7 rfl (d5 rfl (d8 (l5 (G8 (C4 (G8 ?_))))))); exact ret1 () rfl (by show some _ = some (int (chkS c ps.l qs.l)); unfold chkS; rw [if_neg (Classical.not_not.2 hq), if_neg hq2, if_neg (by omega), if_neg (by omega), if_neg (Classical.not_not.2 hq3), if_neg (by omega), hfe, az2 _ hk9, if_pos hb10]) rfl trivial nil_sb trivial
   have hb10' := hb10; try simp at hb10'
   refine k6 (y6 (j6 (j8 ?_))); refine v4 _ rfl rfl rfl rfl r5 ?_; refine c7 rfl (d4 ?_); exact again _ (k + 1) ⟨by show k + 1 ≤ qs.l.length; omega, by rw [hfe, az2 _ hk9, if_neg hb10]⟩ (D5 (by omega)) mC (.cons _ (.refl _)) mC
  have hb9' := hb9; try simp at hb9'
  obtain rfl : k = qs.l.length := by omega
  refine u9 (D6 (u5 (j6 (i8 (d5 rfl (d8 (l5 ?_))))))); exact ret1 () rfl (by show some _ = some (int (chkS c ps.l qs.l)); unfold chkS; rw [if_neg (Classical.not_not.2 hq), if_neg hq2, if_neg (by omega), if_neg (by omega), if_neg (Classical.not_not.2 hq3), if_neg (by omega), hfe, List.drop_length]; rfl) rfl trivial nil_sb trivial
 intro hg1; have hg1' := hg1; try simp at hg1'
 refine t4 rfl rfl rfl rfl rfl hg1 (t4 rfl rfl rfl rfl rfl hg1 (t4 rfl rfl rfl rfl rfl hg1 (t4 rfl rfl rfl rfl rfl hg1 ?_))); refine p_t rfl rfl (bt2 hg1) rfl ?_; refine d5 rfl (d8 (c_t rfl rfl (i8 (d5 rfl (d8 (l5 (G8 ?_))))))); exact ret1 () rfl (by show some _ = some (int (chkS c ps.l qs.l)); unfold chkS; rw [if_neg (Classical.not_not.2 hq), if_pos (.inl (by omega))]) rfl trivial nil_sb trivial
theorem bV (c : Ch) (ps : Sl Int) (qs : Sl Ad) (h : SaOK c ps.l qs.l) : Meets Tryz.prog F.vQ [saV c ps qs] (reckCon 70 c ps qs) := by
 refine i9 F.kq6 rfl r6 fun w0 => ?_; refine i8 ?_; refine H6 rfl rfl fun gB => ?_; refine d5 rfl (k8 ?_)
 first | refine B5 rfl T.k7 T.j9 rfl mB (by rfl) ?_ | refine C1 rfl T.k7 T.j9 rfl mB (by rfl) ?_ | refine u7 rfl T.k7 T.j9 rfl rfl (t5 mB (t9 (by omega))) ?_
 refine k5 F.dz7 rfl rfl (yF c ps qs 70 (.inr rfl) h) p6 mC fun g _ => ?_; refine d5 rfl (d8 (l5 ?_)); exact ret1 g rfl rfl rfl trivial (.cons_cons _ nil_sb) trivial
end Go.Proofs.YtcdopfjiadifhaaGreatDoor
end
section
namespace Go.Proofs.YtcdopfjiadifhaaGreatDoor
open Go Go.W
set_option maxRecDepth 20000
attribute [local irreducible] HL HC HQ HB Row Rows2 Blk Facts
theorem qD {l : List Int} {k : Nat} (hk : k < l.length) : (l.take (k + 1)).sum = (l.take k).sum + l.getD k default := by
  rw [List.take_succ_eq_append_getElem hk, List.sum_append, A7 hk]; simp
theorem uG {l : List Int} (h : ∀ v ∈ l, 0 ≤ v ∧ v ≤ 1000000000) : ∀ k, 0 ≤ (l.take k).sum ∧ (l.take k).sum ≤ 1000000000 * (k : Int)
  | 0 => by simp
  | k + 1 => by
    have ih := uG h k
    rcases Nat.lt_or_ge k l.length with hk | hk
    · rw [qD hk]
      have := h _ (w7 hk)
      omega
    rw [List.take_of_length_le (by omega)]; rw [List.take_of_length_le hk] at ih
    omega
theorem dz6 {A : Option Addr} {c : Nat} (l : List Int) (h : ∀ v ∈ l, 0 ≤ v ∧ v ≤ 1000000000) (hn : l.length ≤ 1000000) : Meets Tryz.prog F.yE [.slice A l.length c] { LI := [Row A (rows l)], val := fun _ : Unit => int l.sum } := by
 refine i9 F.pj6 rfl r6 fun w0 => ?_; refine i8 (d5 rfl (k8 (d5 rfl (d8 (dq1 ?_))))); refine j8 (c7 rfl ?_); refine l7 rfl T.t7 rfl ?_; refine c7 rfl (d8 (k9 ?_)); refine w3 (β := Nat) ⟨fun k => k ≤ l.length, fun k => [(6, .slice A l.length c), (7, int l.length), (3, int (l.take k).sum), (8, int k)], fun _ => [], fun _ => [Row A (rows l)]⟩ (fun k => l.length - k) 0 (Nat.zero_le _) mC (.refl _) mC fun k hk => ?_; simp only at hk; have hb0 := uG h k; refine i8 (B6 rfl rfl rfl (d8 (j4 ?_)))
 first | refine m3 rfl (fun hb1 => ?_) (fun hb1 => ?_) | refine j7 rfl (fun hb1 => ?_) (fun hb1 => ?_)
 ·have hb1' := hb1; try simp at hb1'
  have hk2 : k < l.length := by omega
  have hv := h _ (w7 hk2); refine k6 (j6 (j4 (k9 (i8 ?_)))); refine v6 (α := Int) _ _ rfl T.t7 T.w9 rfl rfl rfl mB rfl (by omega) (by decide) (b8 rfl T.b9 rfl (d6 mB (c9 (by omega) rfl)) ?_); refine d5 rfl (d8 (j8 (c7 rfl (c7 rfl ?_)))); refine v4 _ rfl rfl rfl rfl r5 ?_; refine d5 rfl (d4 (y6 (j6 (j8 ?_)))); refine v4 _ rfl rfl rfl rfl r5 ?_; refine c7 rfl (d4 ?_); exact again _ (k + 1) (by show k + 1 ≤ l.length; omega) (D5 (by omega)) ⟨rfl, rfl, by show some (int ((l.take k).sum + l.getD k default)) = some (int (l.take (k + 1)).sum); rw [qD hk2], rfl, trivial⟩ (.refl _) mC
 have hb1' := hb1; try simp at hb1'
 obtain rfl : k = l.length := by omega
 refine u9 (D6 (u5 (j6 (i8 (c7 rfl (d5 rfl (d8 (l5 ?_)))))))); exact ret1 () rfl (by show some _ = some (int l.sum); rw [List.take_length]) rfl trivial nil_sb trivial
theorem bx3 (c : Ch) (ps : Sl Int) (qs : Sl Ad) (x : Ad) (hl : qs.l.length ≤ 1000) (hc : qs.l.length ≤ qs.c) : Meets Tryz.prog F.aj1 [saV c ps qs, adV x] { LI := saL ps qs, inv := fun q : Sl Ad => q.l = qs.l ++ [x] ∧ q.l.length ≤ q.c, val := fun q => saV c ps q, LO := fun q => [Row q.a (rows q.l)] } := by
 refine i9 F.mq9 rfl r6 fun w0 => ?_; refine i8 ?_; refine H6 rfl rfl fun gT => ?_; refine H6 rfl rfl fun gB => ?_; refine y9 rfl (fun _ => T.H5 _) fun gA => ?_; refine k8 ?_
 first | refine a9 ⟨_, 7, none⟩ rfl rfl T.l4 rfl ?_ | refine a9 _ rfl rfl T.l4 rfl ?_
 first | refine b8 rfl T.d9 rfl (j0 mB rfl) ?_ | refine b8 rfl T.d9 rfl (j3 mB rfl) ?_ | refine b8 rfl T.d9 rfl (d6 mB (c9 (by omega) rfl)) ?_ | refine b8 rfl T.d9 rfl (d7 mB (rows_get (by omega) rfl)) ?_ | refine b8 rfl T.d9 rfl (j5 mB rfl) ?_
 refine l7 rfl T.w8 rfl ?_; refine d5 rfl (d8 (j4 ?_)); refine I5 7 mixed (by decide) (by decide) rfl rfl ?_
 apply m8 _ rfl rfl rfl
 ·intro w1
  first | refine a9 ⟨_, 7, none⟩ rfl rfl T.l4 rfl ?_ | refine a9 _ rfl rfl T.l4 rfl ?_
  refine d4 ?_; exact k4 rfl
 apply m8 _ rfl rfl rfl
 ·intro w1
  first | refine b8 rfl T.d9 rfl (j3 mB rfl) ?_ | refine b8 rfl T.d9 rfl (j0 mB rfl) ?_ | refine b8 rfl T.d9 rfl (d6 mB (c9 (by omega) rfl)) ?_ | refine b8 rfl T.d9 rfl (d7 mB (rows_get (by omega) rfl)) ?_ | refine b8 rfl T.d9 rfl (j5 mB rfl) ?_
  refine d4 ?_; exact k4 rfl
 refine l9 (fun w1 => c7 rfl (q_z rfl)) (l9 (fun w1 => c7 rfl (q_z rfl)) (l9 (fun w1 => nq6 qs.l.length qs.l.length rfl T.w8 T.m4 rfl rfl rfl rfl rfl (Nat.le_refl _) hc (q_z rfl)) ?_))
 apply m8 _ rfl rfl rfl
 ·intro w1
  first | refine B5 rfl T.r8 T.m4 rfl mB (by rfl) ?_ | refine C1 rfl T.r8 T.m4 rfl mB (by rfl) ?_ | refine u7 rfl T.r8 T.m4 rfl rfl (t5 mB (t9 (by omega))) ?_
  refine d4 ?_; exact k4 rfl
 refine X9 ⟨Nat, fun _ => True, fun g1 => .slice (c8 g1) 1 1, fun g1 => [Row (c8 g1) (rows [x])]⟩ rfl rfl rfl ?_ ?_
 ·intro w1; refine q7 _ rfl rfl (fun _ => T.K1 ..) fun gS => ?_; refine d4 ?_; refine E5 (rows [x]) (List.prefix_refl _) ?_; exact J4 gS trivial rfl ⟨m0, trivial⟩
 refine D1 ⟨rfl, ?_⟩; intro g1 _; refine gx2 (qs.l ++ [x]).length (rows (qs.l ++ [x])) T.O4 rfl rfl rfl mB (V8 qs.l) (Src.row (news := rows [x]) (m := 1) mB rfl (K5 _) (by decide)) (by simp) (D2 qs.l [x]).symm (by simp; unfold maxLen; omega) (by simp; omega) fun A1 c1 hc1 => ?_
 first | refine a9 ⟨_, 7, none⟩ rfl rfl T.l4 rfl ?_ | refine a9 _ rfl rfl T.l4 rfl ?_
 refine z9 rfl rfl (by first | exact .refl _ | exact perm2 _ _ _ | exact perm3 _ _ _ _ | exact perm4 _ _ _ _ _) T.K2 (by rfl) (by rfl) ?_; refine k8 ?_
 first | refine B5 rfl T.k7 T.j9 rfl mB (by rfl) ?_ | refine C1 rfl T.k7 T.j9 rfl mB (by rfl) ?_ | refine u7 rfl T.k7 T.j9 rfl rfl (t5 mB (t9 (by omega))) ?_
 refine w4 rfl rfl (by first | exact .refl _ | exact perm2 _ _ _ | exact perm3 _ _ _ _ | exact perm4 _ _ _ _ _) T.j9 (by rfl) (by rfl) ?_; refine d8 (l5 ?_); exact rY (⟨A1, c1, qs.l ++ [x]⟩ : Sl Ad) rfl rfl T.k7 T.j9 rfl m0 rfl rfl ⟨rfl, hc1⟩ nil_sb mC
end Go.Proofs.YtcdopfjiadifhaaGreatDoor
end
section
namespace Go.Proofs.YtcdopfjiadifhaaGreatDoor
open Go Go.W
set_option maxRecDepth 20000
attribute [local irreducible] HL HC HQ HB Row Rows2 Blk Facts
theorem iA (how : Nat) (c : Ch) (ss : List Int) (xs : List Ad) : (numsN how c ss xs).length = ss.length := by simp [numsN]
theorem bil_bd {c : Ch} {ss : List Int} {xs : List Ad} (h : SaOK c ss xs) (i : Nat) : 0 ≤ bilN c ss xs i ∧ bilN c ss xs i ≤ sumN c xs i ∧ sumN c xs i ≤ 48000 := by
  have h1 := bz4 h i xs.length (Nat.le_refl _); have h2 := h.ch.2.2.2.2.1; have h8 := h.x8; have hs : sumN c xs i = sumK c xs xs.length i := rfl; rw [← hs] at h1; unfold bilN; generalize sumN c xs i = s at *
  split
  · have m1 : 0 ≤ s * (100 - c.2.2.2.2.1) := Int.mul_nonneg h1.1 (by omega)
    have m2 : s * (100 - c.2.2.2.2.1) ≤ s * 100 := Int.mul_le_mul_of_nonneg_left (by omega) h1.1; unfold offN; rw [Int.tdiv_eq_ediv_of_nonneg (by omega)]
    omega
  omega
theorem bz8 {c : Ch} {ss : List Int} {xs : List Ad} (h : SaOK c ss xs) : ∀ v ∈ numsN 70 c ss xs, 0 ≤ v ∧ v ≤ 1000000000 := fun v hv => by
  obtain ⟨i, _, rfl⟩ := List.mem_map.1 hv; rw [if_pos rfl]; have := bil_bd h i
  omega
theorem lJ {A : Option Addr} {c n : Nat} (l : List Int) (h : ∀ v ∈ l, 0 ≤ v ∧ v ≤ 1000000000) (hn : l.length ≤ 1000000) (e : l.length = n) : Meets Tryz.prog F.yE [.slice A n c] { LI := [Row A (rows l)], val := fun _ : Unit => int l.sum } := by
  subst e; exact dz6 l h hn
theorem sa_snoc {c : Ch} {ss : List Int} {xs : List Ad} {x : Ad} (h : SaOK c ss xs) (hx : adErr ss.length x = 0) (hl : xs.length < 8) : SaOK c ss (xs ++ [x]) :=
  ⟨h.ch, h.n1, h.n5, h.st, by rw [List.length_append, List.length_singleton]; omega, fun y hy => (List.mem_append.1 hy).elim (h.ad y) fun hy => by rw [List.mem_singleton.1 hy]; exact ad_ok hx⟩
theorem mul_1 {a b A B : Int} (ha : 1 ≤ a ∧ a ≤ A) (hb : 1 ≤ b ∧ b ≤ B) : 1 ≤ a * b ∧ a * b ≤ A * B := by
  have h1 : 0 < a * b := Int.mul_pos (by omega) (by omega); exact ⟨by omega, Int.mul_le_mul ha.2 hb.2 (by omega) (by omega)⟩
theorem sx3 {l s : Int} (hl : 0 ≤ l) (hs : 1 ≤ s) : (0 ≤ (l + s - 1).tdiv s ∧ (l + s - 1).tdiv s ≤ l + s) ∧ 0 ≤ (l + s - 1).tdiv s * s ∧ (l + s - 1).tdiv s * s ≤ l + s - 1 := by
  rw [Int.tdiv_eq_ediv_of_nonneg (by omega)]; have h1 : 0 ≤ (l + s - 1) / s := Int.ediv_nonneg (by omega) (by omega); have h2 := Int.ediv_mul_le (l + s - 1) (show s ≠ 0 by omega)
  have h3 : (l + s - 1) / s ≤ (l + s - 1) / s * s := by
    have := Int.mul_le_mul_of_nonneg_left hs h1
    omega
  have h4 : 0 ≤ (l + s - 1) / s * s := Int.mul_nonneg h1 (by omega)
  omega
def billsE (c : Ch) (ss : List Int) (xs : List Ad) : List Int × Int := if ¬ chkS c ss xs = 0 then ([], chkS c ss xs) else (numsN 70 c ss xs, 0)
def allN (c : Ch) (ss : List Int) (xs : List Ad) : Int := (numsN 70 c ss xs).sum
def worthE (c : Ch) (ss : List Int) (xs : List Ad) (x : Ad) : Int × Int := if ¬ chkS c ss xs = 0 then (0, chkS c ss xs) else if ¬ adErr ss.length x = 0 then (0, adErr ss.length x) else if 8 ≤ xs.length then (0, 6) else (allN c ss (xs ++ [x]) - allN c ss xs, 0)
def sheetsE (lines page pages : Int) : Int × Int × Int := if ¬ (0 ≤ lines ∧ lines ≤ 100000) ∨ ¬ (1 ≤ page ∧ page ≤ 200) ∨ ¬ (1 ≤ pages ∧ pages ≤ 64) then (0, 0, 1) else ((lines + page * pages - 1).tdiv (page * pages), (lines + page * pages - 1).tdiv (page * pages) * (page * pages) - lines, 0)
theorem aq1 (c : Ch) (ps : Sl Int) (qs : Sl Ad) (hn : ps.l.length ≤ 1000000) (hm : qs.l.length ≤ 1000000) : Meets Tryz.prog F.nG [saV c ps qs] { LI := saL ps qs, inv := fun x : OutC => (billsE c ps.l qs.l).1.length ≤ x.2, val := fun x => .tuple #[.slice x.1 (billsE c ps.l qs.l).1.length x.2, int (billsE c ps.l qs.l).2], LO := fun x => [Row x.1 (rows (billsE c ps.l qs.l).1)] } := by
 refine i9 F.kx2 rfl r6 fun w0 => ?_; refine i8 ?_; refine H6 rfl rfl fun gB => ?_; refine d5 rfl (d5 rfl (d8 (j4 (i8 ?_))))
 first | refine B5 rfl T.k7 T.j9 rfl mB (by rfl) ?_ | refine C1 rfl T.k7 T.j9 rfl mB (by rfl) ?_ | refine u7 rfl T.k7 T.j9 rfl rfl (t5 mB (t9 (by omega))) ?_
 refine k5 F.cD rfl rfl (X0 c ps qs hn hm) p6 mC fun _ _ => ?_; refine d5 rfl (k8 (c7 rfl (N5 rfl rfl rfl (d8 ?_))))
 first | refine m3 rfl (fun hb1 => ?_) (fun hb1 => ?_) | refine j7 rfl (fun hb1 => ?_) (fun hb1 => ?_)
 ·have hb1' := hb1; try simp at hb1'
  have hE : billsE c ps.l qs.l = ([], chkS c ps.l qs.l) := by rw [billsE, if_pos hb1]
  refine i8 (c7 rfl (d5 rfl (d5 rfl (d8 (N4 ?_))))); refine C3 (α := Int) ?_; exact ret2 (none, 0) rfl rfl rfl (by show Value.tuple #[.slice none (billsE c ps.l qs.l).1.length 0, int (billsE c ps.l qs.l).2] = _; rw [hE]; rfl) rfl (by show (billsE c ps.l qs.l).1.length ≤ 0; rw [hE]; exact Nat.le_refl _) nil_sb (by show LSub _ [Row none (rows (billsE c ps.l qs.l).1)]; rw [hE]; exact ⟨m0, trivial⟩)
 have hb1' := hb1; try simp at hb1'
 have h0 : chkS c ps.l qs.l = 0 := Classical.not_not.1 hb1; have hE : billsE c ps.l qs.l = (numsN 70 c ps.l qs.l, 0) := by rw [billsE, if_neg hb1]
 have hsa := ij5 h0; refine k6 (j6 (i8 ?_))
 first | refine B5 rfl T.k7 T.j9 rfl mB (by rfl) ?_ | refine C1 rfl T.k7 T.j9 rfl mB (by rfl) ?_ | refine u7 rfl T.k7 T.j9 rfl rfl (t5 mB (t9 (by omega))) ?_
 refine k5 F.kB rfl rfl (bV c ps qs hsa) p6 mC fun g _ => ?_; refine d5 rfl (d5 rfl (d8 (l5 ?_))); refine E5 (rows (numsN 70 c ps.l qs.l)) (List.prefix_refl _) ?_; exact ret2 (some ⟨g, 0, none⟩, ps.l.length) rfl rfl rfl (by show Value.tuple #[.slice (c8 g) (billsE c ps.l qs.l).1.length ps.l.length, int (billsE c ps.l qs.l).2] = _; rw [hE]; show Value.tuple #[.slice (c8 g) (numsN 70 c ps.l qs.l).length ps.l.length, int 0] = _; rw [iA]) rfl (by show (billsE c ps.l qs.l).1.length ≤ ps.l.length; rw [hE]; exact Nat.le_of_eq (iA ..)) nil_sb (by show LSub _ [Row (c8 g) (rows (billsE c ps.l qs.l).1)]; rw [hE]; exact ⟨m0, trivial⟩)
theorem aj8 (c : Ch) (ps : Sl Int) (qs : Sl Ad) (x : Ad) (hn : ps.l.length ≤ 1000000) (hm : qs.l.length ≤ 1000000) (hc : qs.l.length ≤ qs.c) : Meets Tryz.prog F.nD [saV c ps qs, adV x] { LI := saL ps qs, val := fun _ : Unit => .tuple #[int (worthE c ps.l qs.l x).1, int (worthE c ps.l qs.l x).2] } := by
 refine i9 F.kq8 rfl r6 fun w0 => ?_; refine i8 ?_; refine H6 rfl rfl fun gT => ?_; refine H6 rfl rfl fun gB => ?_; refine d5 rfl (d5 rfl (d8 (j4 (i8 ?_))))
 first | refine B5 rfl T.k7 T.j9 rfl mB (by rfl) ?_ | refine C1 rfl T.k7 T.j9 rfl mB (by rfl) ?_ | refine u7 rfl T.k7 T.j9 rfl rfl (t5 mB (t9 (by omega))) ?_
 refine k5 F.cD rfl rfl (X0 c ps qs hn hm) p6 mC fun _ _ => ?_; refine d5 rfl (k8 (c7 rfl (N5 rfl rfl rfl (d8 ?_))))
 first | refine m3 rfl (fun hb1 => ?_) (fun hb1 => ?_) | refine j7 rfl (fun hb1 => ?_) (fun hb1 => ?_)
 ·have hb1' := hb1; try simp at hb1'
  refine i8 (c7 rfl (d5 rfl (d5 rfl (d8 (N4 ?_))))); exact ret2 () rfl rfl rfl (by show Value.tuple #[int (worthE c ps.l qs.l x).1, int (worthE c ps.l qs.l x).2] = _; unfold worthE; rw [if_pos hb1]) rfl trivial nil_sb trivial
 have hb1' := hb1; try simp at hb1'
 refine k6 (j6 (j4 (i8 ?_)))
 first | refine B5 rfl T.k7 T.j9 rfl mB (by rfl) ?_ | refine C1 rfl T.k7 T.j9 rfl mB (by rfl) ?_ | refine u7 rfl T.k7 T.j9 rfl rfl (t5 mB (t9 (by omega))) ?_
 first | refine B5 rfl T.r8 T.m4 rfl mB (by rfl) ?_ | refine C1 rfl T.r8 T.m4 rfl mB (by rfl) ?_ | refine u7 rfl T.r8 T.m4 rfl rfl (t5 mB (t9 (by omega))) ?_
 refine k5 F.dG rfl rfl (aY c ps qs x hn) p6 mC fun _ _ => ?_; refine d5 rfl (k8 (c7 rfl (N5 rfl rfl rfl (d8 ?_))))
 first | refine m3 rfl (fun hb2 => ?_) (fun hb2 => ?_) | refine j7 rfl (fun hb2 => ?_) (fun hb2 => ?_)
 ·have hb2' := hb2; try simp at hb2'
  refine i8 (c7 rfl (d5 rfl (d5 rfl (d8 (N4 ?_))))); exact ret2 () rfl rfl rfl (by show Value.tuple #[int (worthE c ps.l qs.l x).1, int (worthE c ps.l qs.l x).2] = _; unfold worthE; rw [if_neg hb1, if_pos hb2]) rfl trivial nil_sb trivial
 have hb2' := hb2; try simp at hb2'
 refine k6 (j6 (j4 (i8 ?_)))
 first | refine a9 ⟨_, 7, none⟩ rfl rfl T.l4 rfl ?_ | refine a9 _ rfl rfl T.l4 rfl ?_
 first | refine b8 rfl T.d9 rfl (j0 mB rfl) ?_ | refine b8 rfl T.d9 rfl (j3 mB rfl) ?_ | refine b8 rfl T.d9 rfl (d6 mB (c9 (by omega) rfl)) ?_ | refine b8 rfl T.d9 rfl (d7 mB (rows_get (by omega) rfl)) ?_ | refine b8 rfl T.d9 rfl (j5 mB rfl) ?_
 refine l7 rfl T.w8 rfl ?_; refine X2 rfl rfl rfl (d8 ?_)
 first | refine m3 rfl (fun hb3 => ?_) (fun hb3 => ?_) | refine j7 rfl (fun hb3 => ?_) (fun hb3 => ?_)
 ·have hb3' := hb3; try simp at hb3'
  refine i8 (d5 rfl (d5 rfl (d8 (N4 ?_)))); exact ret2 () rfl rfl rfl (by show Value.tuple #[int (worthE c ps.l qs.l x).1, int (worthE c ps.l qs.l x).2] = _; unfold worthE; rw [if_neg hb1, if_neg hb2, if_pos (by omega)]) rfl trivial nil_sb trivial
 have hb3' := hb3; try simp at hb3'
 have h0 : chkS c ps.l qs.l = 0 := Classical.not_not.1 hb1; have h1 : adErr ps.l.length x = 0 := Classical.not_not.1 hb2; have hsa := ij5 h0; have hsb := sa_snoc hsa h1 (by omega); have hs1 := uG (bz8 hsa) 5; have hs2 := uG (bz8 hsb) 5; have hn5 := hsa.n5; rw [List.take_of_length_le (by rw [iA]; exact hn5)] at hs1 hs2; refine k6 (j6 (j4 ?_)); refine I5 6 mixed (by decide) (by decide) rfl rfl ?_
 apply m8 _ rfl rfl rfl
 ·intro w1
  first | refine B5 rfl T.k7 T.j9 rfl mB (by rfl) ?_ | refine C1 rfl T.k7 T.j9 rfl mB (by rfl) ?_ | refine u7 rfl T.k7 T.j9 rfl rfl (t5 mB (t9 (by omega))) ?_
  refine d4 ?_; exact k4 rfl
 apply m8 _ rfl rfl rfl
 ·intro w1
  first | refine B5 rfl T.r8 T.m4 rfl mB (by rfl) ?_ | refine C1 rfl T.r8 T.m4 rfl mB (by rfl) ?_ | refine u7 rfl T.r8 T.m4 rfl rfl (t5 mB (t9 (by omega))) ?_
  refine d4 ?_; exact k4 rfl
 refine X9 ⟨Sl Ad, fun q => q.l = qs.l ++ [x] ∧ q.l.length ≤ q.c, fun q => saV c ps q, fun q => [Row q.a (rows q.l)]⟩ rfl rfl rfl ?_ ?_
 ·intro w1; refine k5 F.kq3 rfl rfl (bx3 c ps qs x (by omega) hc) p6 mC fun q hq => ?_; refine d4 ?_; exact J4 q hq rfl ⟨m0, trivial⟩
 refine X9 ⟨Nat, fun _ => True, fun g => .slice (c8 g) ps.l.length ps.l.length, fun g => [Row (c8 g) (rows (numsN 70 c ps.l (qs.l ++ [x])))]⟩ rfl rfl rfl ?_ ?_
 ·rintro ⟨qa, qc, ql⟩ hq; obtain rfl : ql = qs.l ++ [x] := hq.1; intro w1; refine k5 F.kB rfl rfl (bV c ps ⟨qa, qc, qs.l ++ [x]⟩ hsb) p6 mC fun g _ => ?_; refine d4 ?_; refine E5 (rows (numsN 70 c ps.l (qs.l ++ [x]))) (List.prefix_refl _) ?_; exact J4 g trivial rfl ⟨m0, trivial⟩
 refine X9 ⟨Unit, fun _ => True, fun _ => int (allN c ps.l (qs.l ++ [x])), fun _ => []⟩ rfl rfl rfl ?_ ?_
 ·intro g _; intro w1; refine k5 F.az7 rfl rfl (lJ (numsN 70 c ps.l (qs.l ++ [x])) (bz8 hsb) (by rw [iA]; omega) (iA ..)) p6 mC fun _ _ => ?_; refine d4 ?_; exact J4 () trivial rfl trivial
 apply m8 _ rfl rfl rfl
 ·intro w1
  first | refine B5 rfl T.k7 T.j9 rfl mB (by rfl) ?_ | refine C1 rfl T.k7 T.j9 rfl mB (by rfl) ?_ | refine u7 rfl T.k7 T.j9 rfl rfl (t5 mB (t9 (by omega))) ?_
  refine d4 ?_; exact k4 rfl
 refine D1 ⟨rfl, ?_⟩; intro _ _ _ _ _ _; refine k5 F.kB rfl rfl (bV c ps qs hsa) p6 mC fun g _ => ?_; refine C6 (rows (numsN 70 c ps.l qs.l)) (List.prefix_refl _) ?_; refine k5 F.az7 rfl rfl (lJ (numsN 70 c ps.l qs.l) (bz8 hsa) (by rw [iA]; omega) (iA ..)) p6 mC fun _ _ => ?_; refine S1 (allN c ps.l (qs.l ++ [x]) - allN c ps.l qs.l) rfl rfl rfl rfl (by unfold allN I64; omega) ?_; refine d5 rfl (d5 rfl (d8 (l5 ?_))); exact ret2 () rfl rfl rfl (by show Value.tuple #[int (worthE c ps.l qs.l x).1, int (worthE c ps.l qs.l x).2] = _; unfold worthE; rw [if_neg hb1, if_neg hb2, if_neg (by omega)]) rfl trivial nil_sb trivial
theorem yL (l p q : Int) : Meets Tryz.prog F.jC [int l, int p, int q] { val := fun _ : Unit => .tuple #[int (sheetsE l p q).1, int (sheetsE l p q).2.1, int (sheetsE l p q).2.2] } := by
 refine i9 F.hq8 rfl r6 fun w0 => ?_; refine i8 (d5 rfl (d5 rfl (d5 rfl (d8 (j4 (i8 (c7 rfl ?_))))))); refine k5 F.y8 rfl rfl (u3 _ _ _) p6 trivial fun _ _ => ?_; refine M7 rfl rfl (c7 rfl ?_); refine u6 rfl rfl ?_ ?_
 ·intro hg1; have hg1' := hg1; try simp at hg1'
  refine l3 rfl rfl hg1 (c7 rfl (l3 rfl rfl hg1 ?_)); refine k5 F.y8 rfl rfl (u3 _ _ _) p6 trivial fun _ _ => ?_; refine l3 rfl rfl hg1 (M7 rfl rfl ?_); refine p_f rfl rfl (bf1 hg1) rfl (c7 rfl ?_); refine u6 rfl rfl ?_ ?_
  ·intro hg2; have hg2' := hg2; try simp at hg2'
   refine l3 rfl rfl hg2 (c7 rfl (l3 rfl rfl hg2 ?_)); refine k5 F.y8 rfl rfl (u3 _ _ _) p6 trivial fun _ _ => ?_; refine l3 rfl rfl hg2 (M7 rfl rfl ?_); refine p_f rfl rfl (bf1 hg2) rfl ?_; refine d8 ?_
   first | refine m3 rfl (fun hb1 => ?_) (fun hb1 => ?_) | refine j7 rfl (fun hb1 => ?_) (fun hb1 => ?_)
   ·have hb1' := hb1; try simp at hb1'
    refine i8 (d5 rfl (d5 rfl (d5 rfl (d8 (N4 ?_))))); exact ret3 () rfl rfl rfl rfl (by show Value.tuple #[int (sheetsE l p q).1, int (sheetsE l p q).2.1, int (sheetsE l p q).2.2] = _; unfold sheetsE; rw [if_pos (by omega)]) rfl trivial nil_sb trivial
   have hb1' := hb1; try simp at hb1'
   have hq2 := nbf hb1; have hm := mul_1 hg2' hq2; have hs := sx3 hg1'.1 hm.1; refine k6 (j6 (i8 (c7 rfl (c7 rfl ?_)))); refine cx9 _ rfl rfl rfl rfl r5 ?_; refine d5 rfl (k8 (c7 rfl (c7 rfl ?_))); refine v4 _ rfl rfl rfl rfl r5 (S1 _ rfl rfl rfl rfl r5 (c7 rfl (r_quo ((l + p * q - 1).tdiv (p * q)) rfl rfl rfl (by omega) (IntWalk.i64_in _ (by omega)) ?_))); refine d5 rfl (k8 (c7 rfl (c7 rfl (c7 rfl ?_)))); refine cx9 _ rfl rfl rfl rfl r5 (c7 rfl (S1 _ rfl rfl rfl rfl r5 ?_)); refine d5 rfl (d5 rfl (d5 rfl (d8 (l5 ?_)))); exact ret3 () rfl rfl rfl rfl (by show Value.tuple #[int (sheetsE l p q).1, int (sheetsE l p q).2.1, int (sheetsE l p q).2.2] = _; unfold sheetsE; rw [if_neg (by omega)]) rfl trivial nil_sb trivial
  intro hg2; have hg2' := hg2; try simp at hg2'
  refine t4 rfl rfl rfl rfl rfl hg2 (t4 rfl rfl rfl rfl rfl hg2 (t4 rfl rfl rfl rfl rfl hg2 ?_)); refine p_t rfl rfl (bt2 hg2) rfl ?_; refine d8 (c_t rfl rfl (i8 (d5 rfl (d5 rfl (d5 rfl (d8 (N4 ?_))))))); exact ret3 () rfl rfl rfl rfl (by show Value.tuple #[int (sheetsE l p q).1, int (sheetsE l p q).2.1, int (sheetsE l p q).2.2] = _; unfold sheetsE; rw [if_pos (by omega)]) rfl trivial nil_sb trivial
 intro hg1; have hg1' := hg1; try simp at hg1'
 refine t4 rfl rfl rfl rfl rfl hg1 (t4 rfl rfl rfl rfl rfl hg1 (t4 rfl rfl rfl rfl rfl hg1 ?_)); refine p_t rfl rfl (bt2 hg1) rfl ?_; refine c7 rfl (t4 rfl rfl rfl rfl rfl rfl (t4 rfl rfl rfl rfl rfl rfl (t4 rfl rfl rfl rfl rfl rfl (p_t rfl rfl rfl rfl (d8 (c_t rfl rfl (i8 (d5 rfl (d5 rfl ?_))))))))); refine d5 rfl (d8 (N4 ?_)); exact ret3 () rfl rfl rfl rfl (by show Value.tuple #[int (sheetsE l p q).1, int (sheetsE l p q).2.1, int (sheetsE l p q).2.2] = _; unfold sheetsE; rw [if_pos (by omega)]) rfl trivial nil_sb trivial
end Go.Proofs.YtcdopfjiadifhaaGreatDoor
end
section
namespace Go.Proofs.YtcdopfjiadifhaaGreatDoor
open Go Go.W
set_option maxRecDepth 20000
attribute [local irreducible] HL HC HQ HB Row Rows2 Blk Facts
def cmpI (a b : Int) : Int := if a < b then -1 else if b < a then 1 else 0
def orL : List Int → Int
  | [] => 0
  | a :: l => if ¬ a = 0 then a else orL l
def cmpIs : List Int → List Int → Int
  | [], [] => 0
  | [], _ :: _ => -1
  | _ :: _, [] => 1
  | a :: l, b :: l' => if ¬ cmpI a b = 0 then cmpI a b else cmpIs l l'
theorem zV {α : Type} [Inhabited α] {l : List α} {k : Nat} (hk : k < l.length) : l.drop k = l.getD k default :: l.drop (k + 1) := by rw [List.drop_eq_getElem_cons hk, A7 hk]
theorem dF (a : Int) : Meets Tryz.prog F.kA [int a] { val := fun _ : Unit => .bool false } := by
 refine i9 F.bq9 rfl r6 fun w0 => ?_; refine i8 (d5 rfl (k8 (c7 rfl (c7 rfl (N5 rfl rfl rfl (d5 rfl (d4 ?_))))))); refine j6 (l5 ?_); exact ret1 () rfl (congrArg (fun b => some (Value.bool b)) (by simp)) rfl trivial (.refl _) trivial
theorem J0 (a b : Int) : Meets Tryz.prog F.cY [int a, int b] { val := fun _ : Unit => int (cmpI a b) } := by
 refine i9 F.xZ rfl r6 fun w0 => ?_; refine i8 (d5 rfl (k8 (c7 rfl ?_))); refine k5 F.lG rfl rfl (dF _) (.refl _) trivial fun _ _ => ?_; refine d5 rfl (k8 (c7 rfl ?_)); refine k5 F.lG rfl rfl (dF _) (.refl _) trivial fun _ _ => ?_; refine d5 rfl (d8 (j4 (i8 (c7 rfl (d8 ?_))))); refine c_f rfl (by first | rfl | assumption | exact bf1 (by assumption) | exact bf2 (by assumption)) ?_; refine k6 (j6 (j4 (i8 (c7 rfl (d8 ?_))))); refine c_f rfl (by first | rfl | assumption | exact bf1 (by assumption) | exact bf2 (by assumption)) ?_; refine k6 (j6 (j4 (i8 (c7 rfl (c7 rfl (B6 rfl rfl rfl (d8 ?_)))))))
 first | refine m3 rfl (fun hb4 => ?_) (fun hb4 => ?_) | refine j7 rfl (fun hb4 => ?_) (fun hb4 => ?_)
 ·have hb4' := hb4; try simp at hb4'
  refine i8 (d5 rfl (d8 (N4 ?_))); exact ret1 () rfl (congrArg (fun n => some (int n)) (by rw [cmpI, if_pos hb4])) rfl trivial nil_sb trivial
 have hb4' := hb4; try simp at hb4'
 refine k6 (j6 (j4 (i8 (c7 rfl (c7 rfl (R0 rfl rfl rfl (d8 ?_)))))))
 first | refine m3 rfl (fun hb5 => ?_) (fun hb5 => ?_) | refine j7 rfl (fun hb5 => ?_) (fun hb5 => ?_)
 ·have hb5' := hb5; try simp at hb5'
  refine i8 (d5 rfl (d8 (N4 ?_))); exact ret1 () rfl (congrArg (fun n => some (int n)) (by rw [cmpI, if_neg hb4, if_pos hb5])) rfl trivial nil_sb trivial
 have hb5' := hb5; try simp at hb5'
 refine k6 (j6 (i8 (d5 rfl (d8 (l5 ?_))))); exact ret1 () rfl (congrArg (fun n => some (int n)) (by rw [cmpI, if_neg hb4, if_neg hb5])) rfl trivial nil_sb trivial
theorem tj8 {l : List Int} {k : Nat} (hk : k < l.length) : orL (l.drop k) = if ¬ l.getD k default = 0 then l.getD k default else orL (l.drop (k + 1)) := by
  rw [List.drop_eq_getElem_cons hk, orL, A7 hk]
theorem lH {A : Option Addr} {c : Nat} (l : List Int) (hl : l.length ≤ 1000000) : Meets Tryz.prog F.vH [.slice A l.length c] { LI := [Row A (rows l)], val := fun _ : Unit => int (orL l) } := by
 refine i9 F.kq2 rfl r6 fun w0 => ?_; refine i8 (d5 rfl (k8 (d5 rfl (d8 (dq1 ?_))))); refine j8 (c7 rfl ?_); refine l7 rfl T.t7 rfl ?_; refine c7 rfl (d8 (k9 ?_)); refine w3 (β := Nat) ⟨fun k => k ≤ l.length ∧ orL l = orL (l.drop k), fun k => [(3, int 0), (6, .slice A l.length c), (7, int l.length), (8, int k)], fun _ => [], fun _ => [Row A (rows l)]⟩ (fun k => l.length - k) 0 ⟨Nat.zero_le _, rfl⟩ mC (.refl _) ⟨m0, trivial⟩ fun k hk => ?_; obtain ⟨hk, ht⟩ := hk; refine i8 (B6 rfl rfl rfl (d8 (j4 ?_)))
 first | refine m3 rfl (fun hb1 => ?_) (fun hb1 => ?_) | refine j7 rfl (fun hb1 => ?_) (fun hb1 => ?_)
 ·have hb1' := hb1; try simp at hb1'
  have hk2 : k < l.length := by omega
  rw [tj8 hk2] at ht; refine k6 (j6 (j4 (k9 (i8 ?_)))); refine v6 (α := Int) _ _ rfl T.t7 T.w9 rfl rfl rfl mB rfl (by omega) (by decide) (b8 rfl T.b9 rfl (d6 mB (c9 (by omega) rfl)) ?_); refine d5 rfl (k8 (c7 rfl (c7 rfl (N5 rfl rfl rfl (d8 ?_)))))
  first | refine m3 rfl (fun hb2 => ?_) (fun hb2 => ?_) | refine j7 rfl (fun hb2 => ?_) (fun hb2 => ?_)
  ·have hb2' := hb2; try simp at hb2'
   rw [if_pos hb2] at ht; refine i8 (c7 rfl (d5 rfl (d8 (l5 (G8 (C4 (G8 ?_))))))); exact ret1 () rfl (congrArg (fun n => some (int n)) (by rw [ht])) rfl trivial nil_sb trivial
  have hb2' := hb2; try simp at hb2'
  rw [if_neg hb2] at ht; refine k6 (y6 (j6 (j8 ?_))); refine v4 _ rfl rfl rfl rfl r5 ?_; refine c7 rfl (d4 ?_); exact again _ (k + 1) ⟨by omega, ht⟩ (D5 (by omega)) mC (.refl _) ⟨m0, trivial⟩
 have hb1' := hb1; try simp at hb1'
 have hk2 : k = l.length := by omega
 refine u9 (D6 (u5 (j6 (i8 (c7 rfl (d5 rfl (d8 (l5 ?_)))))))); exact ret1 () rfl (congrArg (fun n => some (int n)) (by rw [ht, hk2, List.drop_length]; rfl)) rfl trivial nil_sb trivial
theorem X1 {A B : Option Addr} {ca cb : Nat} (a b : List Int) (ha : a.length ≤ 1000000) : Meets Tryz.prog F.X4 [.slice A a.length ca, .slice B b.length cb] { LI := [Row A (rows a), Row B (rows b)], val := fun _ : Unit => int (cmpIs a b) } := by
 refine i9 F.pH rfl r6 fun w0 => ?_; refine i8 (d5 rfl (d8 (j4 (i8 (c7 rfl ?_))))); refine l7 rfl T.t7 rfl ?_; refine c7 rfl (d8 (k9 ?_)); refine w3 (β := Nat) ⟨fun k => k ≤ a.length ∧ k ≤ b.length ∧ cmpIs a b = cmpIs (a.drop k) (b.drop k), fun k => [(0, .slice A a.length ca), (1, .slice B b.length cb), (9, .slice A a.length ca), (10, int a.length), (11, int k)], fun _ => [], fun _ => [Row A (rows a), Row B (rows b)]⟩ (fun k => a.length - k) 0 ⟨Nat.zero_le _, Nat.zero_le _, rfl⟩ mC (.refl _) ⟨m0, m1, trivial⟩ fun k hk => ?_; obtain ⟨hka, hkb, ht⟩ := hk; refine i8 (B6 rfl rfl rfl (d8 (j4 ?_)))
 first | refine m3 rfl (fun hb1 => ?_) (fun hb1 => ?_) | refine j7 rfl (fun hb1 => ?_) (fun hb1 => ?_)
 ·have hb1' := hb1; try simp at hb1'
  have hk2 : k < a.length := by omega
  rw [zV hk2] at ht; refine k6 (j6 (j4 (k9 (i8 (c7 rfl ?_))))); refine v6 (α := Int) _ _ rfl T.t7 T.w9 rfl rfl rfl mB rfl (by omega) (by decide) (b8 rfl T.b9 rfl (d6 mB (c9 (by omega) rfl)) ?_); refine d5 rfl (d5 rfl (d8 (j4 (i8 (c7 rfl (c7 rfl ?_)))))); refine l7 rfl T.t7 rfl ?_; refine X2 rfl rfl rfl (d8 ?_)
  first | refine m3 rfl (fun hb2 => ?_) (fun hb2 => ?_) | refine j7 rfl (fun hb2 => ?_) (fun hb2 => ?_)
  ·have hb2' := hb2; try simp at hb2'
   have hk3 : k = b.length := by omega
   refine i8 (d5 rfl (d8 (N4 (G8 (C4 (G8 ?_)))))); exact ret1 () rfl (congrArg (fun n => some (int n)) (by rw [ht, hk3, List.drop_length]; rfl)) rfl trivial nil_sb trivial
  have hb2' := hb2; try simp at hb2'
  have hk3 : k < b.length := by omega
  rw [zV hk3, cmpIs] at ht; refine k6 (j6 (i8 (c7 rfl (c7 rfl ?_)))); refine v6 (α := Int) _ _ rfl T.t7 T.w9 rfl rfl rfl mB rfl (by omega) (by decide) (b8 rfl T.b9 rfl (d6 mB (c9 (by omega) rfl)) ?_); refine d5 rfl (k8 (c7 rfl (c7 rfl ?_))); refine k5 F.N1 rfl rfl (J0 _ _) (.refl _) trivial fun _ _ => ?_; refine d5 rfl (k8 (c7 rfl (N5 rfl rfl rfl (d8 ?_))))
  first | refine m3 rfl (fun hb3 => ?_) (fun hb3 => ?_) | refine j7 rfl (fun hb3 => ?_) (fun hb3 => ?_)
  ·have hb3' := hb3; try simp at hb3'
   rw [if_pos hb3] at ht; refine i8 (c7 rfl (d5 rfl (d8 (l5 (G8 (C4 (G8 ?_))))))); exact ret1 () rfl (congrArg (fun n => some (int n)) (by rw [ht])) rfl trivial nil_sb trivial
  have hb3' := hb3; try simp at hb3'
  rw [if_neg hb3] at ht; refine k6 (y6 (j6 (j8 ?_))); refine v4 _ rfl rfl rfl rfl r5 ?_; refine c7 rfl (d4 ?_); exact again _ (k + 1) ⟨by omega, by omega, ht⟩ (D5 (by omega)) mC nil_sb ⟨m0, m1, trivial⟩
 have hb1' := hb1; try simp at hb1'
 have hk2 : k = a.length := by omega
 refine u9 (D6 (u5 (j6 (j4 (i8 (c7 rfl ?_)))))); refine l7 rfl T.t7 rfl (c7 rfl (l7 rfl T.t7 rfl ?_)); refine B6 rfl rfl rfl (d8 ?_)
 first | refine m3 rfl (fun hb4 => ?_) (fun hb4 => ?_) | refine j7 rfl (fun hb4 => ?_) (fun hb4 => ?_)
 ·have hb4' := hb4; try simp at hb4'
  have h4 : k < b.length := by omega
  rw [hk2, List.drop_length, zV (by omega)] at ht; refine i8 (d5 rfl (d8 (N4 ?_))); exact ret1 () rfl (congrArg (fun n => some (int n)) (by rw [ht]; rfl)) rfl trivial nil_sb trivial
 have hb4' := hb4; try simp at hb4'
 have h4 : k = b.length := by omega
 rw [hk2, List.drop_length, ← hk2, h4, List.drop_length] at ht; refine k6 (j6 (i8 (d5 rfl (d8 (l5 ?_))))); exact ret1 () rfl (congrArg (fun n => some (int n)) (by rw [ht]; rfl)) rfl trivial nil_sb trivial
theorem wrap64 {m : Nat} (h : m < 18446744073709551616) : IntKind.u64.wrap (m : Int) = (m : Int) := by
  simp only [IntKind.wrap, IntKind.bits, IntKind.signed]
  simp
  omega
theorem bv64 {m : Nat} (h : m < 18446744073709551616) : (BitVec.ofInt 64 (m : Int)).toNat = m := by
  simp [BitVec.toNat_ofInt]
  omega
section
variable {c : Cx} {Q : Exit → Act → World → Prop} {fr : Fr} {hp : Hp} {L : List Fact} {ops : Array Oper} {rest : List Oper}
variable {d : Tmp} {ty : TypeId} {pos : String} {af : Array Edge}
theorem r_and64 {t yt : TypeId} {x y : Operand} {a b : Nat} (hd : Nat.blt d c.n = true) (hx : ev fr x = some (.int .u64 a)) (hy : ev fr y = some (.int .u64 b)) (ha : a < 18446744073709551616) (hb : b < 18446744073709551616) (k : HL c ops Q rest ((d, .int .u64 (a &&& b : Nat)) :: fr) hp L) :
    HL c ops Q (⟨some d, .binOp .and t x y yt, ty, pos, af, none⟩ :: rest) fr hp L :=
  m7 _ hd hx hy (fun _ => rfl) (fun w => by
    show (Op.intBits .and .u64 (a : Int) (b : Int)).run c.P w = _; have h : (BitVec.ofInt 64 (a : Int) &&& BitVec.ofInt 64 (b : Int)).toNat = a &&& b := by rw [BitVec.toNat_and, bv64 ha, bv64 hb]
    have hl : a &&& b < 18446744073709551616 := Nat.lt_of_le_of_lt Nat.and_le_left ha; show Result.ok (Value.int .u64 (IntKind.u64.wrap ((BitVec.ofInt 64 (a : Int) &&& BitVec.ofInt 64 (b : Int)).toNat : Nat))) w = _
    rw [h, wrap64 hl]) k
theorem r_shr64 {t yt : TypeId} {x y : Operand} {ky : IntKind} {z : Int} {a : Nat} (n : Nat) (hd : Nat.blt d c.n = true) (hx : ev fr x = some (.int .u64 a)) (hy : ev fr y = some (.int ky z)) (hz : z = (n : Int)) (hn : n < 64) (k : HL c ops Q rest ((d, .int .u64 (a / 2 ^ n : Nat)) :: fr) hp L) :
    HL c ops Q (⟨some d, .binOp .shr t x y yt, ty, pos, af, none⟩ :: rest) fr hp L :=
  m7 _ hd hx hy (fun _ => rfl) (fun w => by
    subst hz; show (Op.shift .shr .u64 (a : Int) ky (n : Int)).run c.P w = _; have hm : min ((n : Int).toNat) (IntKind.u64.bits) = n := by show min ((n : Int).toNat) 64 = n; omega
    simp only [Op.shift]; rw [if_neg (by omega), hm, Int.fdiv_eq_ediv_of_nonneg _ (by exact_mod_cast Nat.zero_le (2 ^ n))]
    rfl) k
end
def pickK (s k : Nat) : List Int := ((List.range k).filter fun i => s.testBit i).map fun i : Nat => (i : Int)
theorem mI (s k : Nat) : pickK s (k + 1) = if s.testBit k = true then pickK s k ++ [(k : Int)] else pickK s k := by
  unfold pickK; rw [List.range_succ, List.filter_append, List.map_append, List.filter_cons, List.filter_nil]
  by_cases e : s.testBit k = true
  · rw [if_pos e, if_pos e]; rfl
  rw [if_neg e, if_neg e]; simp
theorem sD (s k : Nat) : (pickK s k).length ≤ k := by
  unfold pickK; rw [List.length_map]; exact Nat.le_trans (List.length_filter_le _ _) (by simp)
theorem lx6 {s k : Nat} {v : Int} (h : v ∈ pickK s k) : 0 ≤ v ∧ v < (k : Int) := by
  obtain ⟨i, hi, rfl⟩ := List.mem_map.1 h; have := (List.mem_filter.1 hi).1; rw [List.mem_range] at this
  omega
theorem qx6 {cur : Array Value} {k : Nat} {v : Value} (hk : k < cur.size) : (cur.setIfInBounds k v).toList.take (k + 1) = cur.toList.take k ++ [v] := by
  rw [Array.toList_setIfInBounds, List.take_succ_eq_append_getElem (by simpa using hk), List.take_set_of_le (Nat.le_refl _)]
  simp
theorem bB (s n : Nat) (hs : s < 18446744073709551616) (hn : n ≤ 60) : Meets Tryz.prog F.cZ [.int .u64 (s : Int), int n] { inv := fun _ : Nat => True, val := fun g => .slice (c8 g) (pickK s n).length (pickK s n).length, LO := fun g => [Row (c8 g) (rows (pickK s n))] } := by
 refine i9 F.yH rfl r6 fun w0 => ?_; refine i8 (d5 rfl (k8 (c7 rfl ?_))); refine jx6 (n := n) (bytes := 8) (z := int 0) rfl T.t7 (by kernel_rfl) rfl rfl rfl rfl (by omega) (by omega) fun ga => ?_; refine d5 rfl (k8 (d5 rfl (d8 (j4 (i8 (c7 rfl ?_)))))); refine c7 rfl (d8 (k9 ?_)); refine w3 (β := Nat × Array Value) ⟨fun x => x.1 ≤ n ∧ x.2.size = n ∧ x.2.toList.take (pickK s x.1).length = rows (pickK s x.1), fun x => [(0, .int .u64 (s : Int)), (5, .slice (c8 ga) n n), (6, int (pickK s x.1).length), (11, int n), (12, int x.1)], fun x => [(ga, .cells x.2 T.int (0, 0))], fun _ => []⟩ (fun x => n - x.1) (0, (List.replicate n (int 0)).toArray) ⟨Nat.zero_le _, by simp, by simp [pickK]; rfl⟩ mC (.refl _) trivial fun x hx => ?_; obtain ⟨i, cur⟩ := x; obtain ⟨hi, hcs, hct⟩ := hx; simp only at hi hcs hct; have hpl := sD s i; refine i8 (B6 rfl rfl rfl (d8 (j4 ?_)))
 first | refine m3 rfl (fun hb1 => ?_) (fun hb1 => ?_) | refine j7 rfl (fun hb1 => ?_) (fun hb1 => ?_)
 ·have hb1' := hb1; try simp at hb1'
  have hi2 : i < n := by omega
  refine k6 (j6 (j4 (k9 (i8 (c7 rfl (d5 rfl (k8 ?_))))))); refine c7 rfl (c7 rfl ?_); refine r_shr64 i rfl rfl rfl rfl (by omega) (r_and64 (b := 1) rfl rfl rfl (Nat.lt_of_le_of_lt (Nat.div_le_self _ _) hs) (by omega) ?_); refine H0 rfl rfl rfl (d8 ?_)
  first | refine m3 rfl (fun hb2 => ?_) (fun hb2 => ?_) | refine j7 rfl (fun hb2 => ?_) (fun hb2 => ?_)
  ·have hb2' := hb2; try simp at hb2'
   have hbt : s.testBit i = true := by rw [← uq4]; exact decide_eq_true hb2
   have hlt : (pickK s i).length < cur.size := by omega
   refine i8 (c7 rfl (c7 rfl (c7 rfl ?_))); refine y0 (pickK s i).length (pickK s i).length rfl T.t7 T.w9 rfl rfl rfl (by omega) (by omega) ?_; refine z9 (u := cur[(pickK s i).length]'hlt) rfl rfl (.refl _) T.w9 (Array.getElem?_eq_getElem hlt) rfl ?_; refine d8 (j8 (c7 rfl ?_)); refine v4 (((pickK s i).length : Int) + 1) rfl rfl rfl rfl r5 ?_; refine d5 rfl (d4 (y6 (j6 (j8 ?_)))); refine v4 _ rfl rfl rfl rfl r5 ?_; refine c7 rfl (d4 ?_); exact again _ (i + 1, cur.setIfInBounds (pickK s i).length (int i)) ⟨by show i + 1 ≤ n; omega, by show (cur.setIfInBounds _ _).size = n; rw [Array.size_setIfInBounds]; exact hcs, by show (cur.setIfInBounds (pickK s i).length (int i)).toList.take (pickK s (i + 1)).length = rows (pickK s (i + 1)); rw [mI, if_pos hbt, List.length_append, List.length_singleton, qx6 (by omega), hct, D2]; rfl⟩ (D5 (by omega)) ⟨rfl, rfl, by show some (int (((pickK s i).length : Int) + 1)) = some (int ((pickK s (i + 1)).length : Int)); rw [mI, if_pos hbt, List.length_append]; rfl, rfl, rfl, trivial⟩ (.refl _) trivial
  have hb2' := hb2; try simp at hb2'
  have hbt : ¬ s.testBit i = true := by rw [← uq4, decide_eq_true_eq]; exact hb2
  refine k6 (y6 (j6 (j8 ?_))); refine v4 _ rfl rfl rfl rfl r5 ?_; refine c7 rfl (d4 ?_); exact again _ (i + 1, cur) ⟨by show i + 1 ≤ n; omega, hcs, by show cur.toList.take (pickK s (i + 1)).length = rows (pickK s (i + 1)); rw [mI, if_neg hbt]; exact hct⟩ (D5 (by omega)) ⟨rfl, rfl, by show some (int ((pickK s i).length : Int)) = some (int ((pickK s (i + 1)).length : Int)); rw [mI, if_neg hbt], rfl, rfl, trivial⟩ (.refl _) trivial
 have hb1' := hb1; try simp at hb1'
 obtain rfl : i = n := by omega
 refine u9 (D6 (u5 (j6 (i8 (c7 rfl ?_))))); refine jx6 (n := (pickK s i).length) (bytes := 8) (z := int 0) rfl T.t7 (by kernel_rfl) rfl rfl rfl rfl (by omega) (by omega) fun gb => ?_; refine d5 rfl (k8 (c7 rfl (c7 rfl ?_))); refine nx0 (cs := rows (pickK s i)) rfl T.t7 T.w9 rfl rfl (.refl _) (by rw [V8]; show _ * 1 = min _ _; omega) (bS (by repeat constructor) fun j u hu => ?_) (by rw [V8]; simp; exact Nat.le_of_eq (Nat.mul_one _)) (K5 _) ?_
 · rw [← hct, List.getElem?_take] at hu
   split at hu
   · rw [Nat.zero_add]; simpa using hu
   cases hu
 refine k8 (c7 rfl (d5 rfl (d8 (l5 ?_)))); refine E5 (rows (pickK s i)) (by simp) ?_; exact ret1 gb rfl rfl rfl trivial nil_sb ⟨m0, trivial⟩
end Go.Proofs.YtcdopfjiadifhaaGreatDoor
end
section
namespace Go.Proofs.YtcdopfjiadifhaaGreatDoor
open Go Go.W
set_option maxRecDepth 20000
attribute [local irreducible] HL HC HQ HB Row Rows2 Blk Facts
abbrev Cd := Int × Int
instance : El Cd where
  default := (0, 0)
  cells x := [int x.1, int x.2]
  sz := 2
  len _ := rfl
  one a u h := by simp at h; rcases h with h | h <;> subst h <;> rfl
abbrev Hv := Sl Int × Int × Int
instance : El Hv where
  default := (⟨none, 0, []⟩, 0, 0)
  cells x := [.slice x.1.a x.1.l.length x.1.c, int x.2.1, int x.2.2]
  sz := 3
  len _ := rfl
  one a u h := by simp at h; rcases h with h | h | h <;> subst h <;> rfl
abbrev Hn := List Int × Int × Int
def Hv.dat (x : Hv) : Hn := (x.1.l, x.2.1, x.2.2)
abbrev Hv.row (x : Hv) : Fact := Row x.1.a (rows x.1.l)
abbrev Hv.v (x : Hv) : Value := .agg #[.slice x.1.a x.1.l.length x.1.c, int x.2.1, int x.2.2]
theorem nbg {p : Prop} [Decidable p] (h : ((!decide p) == false) = true) : p := by simpa using h
theorem nbg2 {p : Prop} [Decidable p] (h : ((!decide p) == false) = false) : ¬ p := by simpa using h
def cdB (x : Cd) : Prop := (1 ≤ x.1 ∧ x.1 ≤ 20) ∧ (0 ≤ x.2 ∧ x.2 ≤ 999)
instance (x : Cd) : Decidable (cdB x) := by unfold cdB; infer_instance
def cardsE (l : List Cd) (room : Int) : Int := if 8 < l.length then 6 else if ¬ ∀ x ∈ l, cdB x then 1 else if ¬ (0 ≤ room ∧ room ≤ 60) then 1 else 0
def ordF (x y : Hn) : Int := orL [cmpI y.2.2 x.2.2, cmpI y.2.1 x.2.1, cmpIs x.1 y.1]
def ordX (x y : Hn) : Int := orL [cmpI x.1.length y.1.length, cmpIs x.1 y.1]
def ordP (x y : Hn) : Int := orL [cmpI x.2.2 y.2.2, cmpI x.1.length y.1.length, cmpIs x.1 y.1]
theorem pK {A : Option Addr} {c : Nat} (l : List Cd) (room : Int) (hn : l.length ≤ 1000000) : Meets Tryz.prog F.dA [.slice A l.length c, int room] { LI := [Row A (rows l)], val := fun _ : Unit => int (cardsE l room) } := by
 refine i9 F.yI rfl r6 fun w0 => ?_; refine i8 (d5 rfl (d8 (j4 (i8 (c7 rfl ?_))))); refine l7 rfl T.R3 rfl ?_; refine R0 rfl rfl rfl (d8 ?_)
 first | refine m3 rfl (fun hb1 => ?_) (fun hb1 => ?_) | refine j7 rfl (fun hb1 => ?_) (fun hb1 => ?_)
 ·have hb1' := hb1; try simp at hb1'
  refine i8 (d5 rfl (d8 (N4 ?_))); exact ret1 () rfl (by show some _ = some (int (cardsE l room)); unfold cardsE; rw [if_pos (by omega)]) rfl trivial nil_sb trivial
 have hb1' := hb1; try simp at hb1'
 refine k6 (j6 (j4 (i8 (c7 rfl ?_)))); refine l7 rfl T.R3 rfl ?_; refine c7 rfl (d8 (k9 ?_)); refine w3 (β := Nat) ⟨fun k => k ≤ l.length ∧ ∀ j, j < k → cdB (l.getD j default), fun k => [(1, int room), (10, .slice A l.length c), (11, int l.length), (12, int k)], fun _ => [], fun _ => [Row A (rows l)]⟩ (fun k => l.length - k) 0 ⟨Nat.zero_le _, fun j hj => absurd hj (Nat.not_lt_zero j)⟩ mC nil_sb mC fun k hk => ?_; obtain ⟨hk, hq⟩ := hk; refine i8 (B6 rfl rfl rfl (d8 (j4 ?_)))
 first | refine m3 rfl (fun hb2 => ?_) (fun hb2 => ?_) | refine j7 rfl (fun hb2 => ?_) (fun hb2 => ?_)
 ·have hb2' := hb2; try simp at hb2'
  have hk2 : k < l.length := by omega
  refine k6 (j6 (j4 (k9 (i8 ?_)))); refine v6 (α := Cd) _ _ rfl T.R3 T.cF rfl rfl rfl mB rfl (by omega) (by decide) (u7 rfl T.jx4 T.cF rfl rfl (t5 mB (t9 (by omega))) ?_); refine y9 rfl (fun _ => T.mx9 _) fun gA => ?_; refine w4 rfl rfl (by first | exact .refl _ | exact perm2 _ _ _ | exact perm3 _ _ _ _ | exact perm4 _ _ _ _ _) T.cF (by rfl) (by rfl) ?_; refine k8 ?_
  first | refine a9 ⟨_, 0, none⟩ rfl rfl T.cC rfl ?_ | refine a9 _ rfl rfl T.cC rfl ?_
  first | refine b8 rfl T.b9 rfl (j0 mB rfl) ?_ | refine b8 rfl T.b9 rfl (j3 mB rfl) ?_ | refine b8 rfl T.b9 rfl (d6 mB (c9 (by omega) rfl)) ?_ | refine b8 rfl T.b9 rfl (d7 mB (rows_get (by omega) rfl)) ?_ | refine b8 rfl T.b9 rfl (j5 mB rfl) ?_
  refine k5 F.y8 rfl rfl (u3 _ _ _) p6 trivial fun _ _ => ?_; refine M7 rfl rfl (c7 rfl ?_); refine u6 rfl rfl ?_ ?_
  ·intro hg1; have hg1' := hg1; try simp at hg1'
   refine l3 rfl rfl hg1 ?_
   first | refine a9 ⟨_, 1, none⟩ rfl rfl T.cB rfl ?_ | refine a9 _ rfl rfl T.cB rfl ?_
   refine l3 rfl rfl hg1 ?_
   first | refine b8 rfl T.b9 rfl (j0 mB rfl) ?_ | refine b8 rfl T.b9 rfl (j3 mB rfl) ?_ | refine b8 rfl T.b9 rfl (d6 mB (c9 (by omega) rfl)) ?_ | refine b8 rfl T.b9 rfl (d7 mB (rows_get (by omega) rfl)) ?_ | refine b8 rfl T.b9 rfl (j5 mB rfl) ?_
   refine l3 rfl rfl hg1 ?_; refine k5 F.y8 rfl rfl (u3 _ _ _) p6 trivial fun _ _ => ?_; refine l3 rfl rfl hg1 (M7 rfl rfl ?_); refine p_f rfl rfl (bf1 hg1) rfl ?_; refine d8 ?_
   first | refine m3 rfl (fun hb3 => ?_) (fun hb3 => ?_) | refine j7 rfl (fun hb3 => ?_) (fun hb3 => ?_)
   ·have hb3' := hb3; try simp at hb3'
    refine i8 (d5 rfl (d8 (l5 (G8 (C4 (G8 ?_)))))); exact ret1 () rfl (by show some _ = some (int (cardsE l room)); unfold cardsE; rw [if_neg (by omega), if_pos (sJ (p := cdB) hk2 fun e => nbt hb3 e.2)]) rfl trivial nil_sb trivial
   have hb3' := hb3; try simp at hb3'
   refine k6 (y6 (j6 (j8 ?_))); refine v4 _ rfl rfl rfl rfl r5 ?_; refine c7 rfl (d4 ?_); exact again _ (k + 1) ⟨by show k + 1 ≤ l.length; omega, fun j hj => (Nat.lt_succ_iff_lt_or_eq.1 hj).elim (hq j) fun e => by subst e; exact ⟨nbg hg1, nbf hb3⟩⟩ (D5 (by omega)) mC nil_sb mC
  intro hg1; have hg1' := hg1; try simp at hg1'
  refine t4 rfl rfl rfl rfl rfl hg1 (t4 rfl rfl rfl rfl rfl hg1 (t4 rfl rfl rfl rfl rfl hg1 (t4 rfl rfl rfl rfl rfl hg1 ?_))); refine p_t rfl rfl (bt2 hg1) rfl ?_; refine d8 (c_t rfl rfl (i8 (d5 rfl (d8 (l5 (G8 (C4 ?_))))))); refine G8 ?_; exact ret1 () rfl (by show some _ = some (int (cardsE l room)); unfold cardsE; rw [if_neg (by omega), if_pos (sJ (p := cdB) hk2 fun e => nbg2 hg1 e.1)]) rfl trivial nil_sb trivial
 have hb2' := hb2; try simp at hb2'
 obtain rfl : k = l.length := by omega
 have hq := iN (l := l) (p := cdB) hq; refine u9 (D6 (u5 (j6 (j4 (i8 (c7 rfl ?_)))))); refine k5 F.y8 rfl rfl (u3 _ _ _) p6 trivial fun _ _ => ?_; refine M7 rfl rfl (d8 ?_)
 first | refine m3 rfl (fun hb4 => ?_) (fun hb4 => ?_) | refine j7 rfl (fun hb4 => ?_) (fun hb4 => ?_)
 ·have hb4' := hb4; try simp at hb4'
  refine i8 (d5 rfl (d8 (N4 ?_))); exact ret1 () rfl (by show some _ = some (int (cardsE l room)); unfold cardsE; rw [if_neg (by omega), if_neg (Classical.not_not.2 hq), if_pos (nbt hb4)]) rfl trivial nil_sb trivial
 have hb4' := hb4; try simp at hb4'
 refine k6 (j6 (i8 (d5 rfl (d8 (l5 ?_))))); exact ret1 () rfl (by show some _ = some (int (cardsE l room)); unfold cardsE; rw [if_neg (by omega), if_neg (Classical.not_not.2 hq), if_neg (Classical.not_not.2 (nbf hb4))]) rfl trivial nil_sb trivial
theorem yN (x y : Hv) (hx : x.1.l.length ≤ 1000000) (hy : y.1.l.length ≤ 1000000) : Meets Tryz.prog F.Z8 [x.v, y.v] { LI := [x.row, y.row], val := fun _ : Unit => int (ordF x.dat y.dat) } := by
 refine i9 F.hx3 rfl r6 fun w0 => ?_; refine i8 ?_; refine H6 rfl rfl fun gT => ?_; refine H6 rfl rfl fun gB => ?_; refine d5 rfl (d8 (j4 ?_)); refine I5 14 mixed (by decide) (by decide) rfl rfl ?_
 apply m8 _ rfl rfl rfl
 ·intro w1
  first | refine a9 ⟨_, 2, none⟩ rfl rfl T.w5 rfl ?_ | refine a9 _ rfl rfl T.w5 rfl ?_
  refine d4 ?_; exact k4 rfl
 apply m8 _ rfl rfl rfl
 ·intro w1
  first | refine b8 rfl T.b9 rfl (j3 mB rfl) ?_ | refine b8 rfl T.b9 rfl (j0 mB rfl) ?_ | refine b8 rfl T.b9 rfl (d6 mB (c9 (by omega) rfl)) ?_ | refine b8 rfl T.b9 rfl (d7 mB (rows_get (by omega) rfl)) ?_ | refine b8 rfl T.b9 rfl (j5 mB rfl) ?_
  refine d4 ?_; exact k4 rfl
 apply m8 _ rfl rfl rfl
 ·intro w1
  first | refine a9 ⟨_, 2, none⟩ rfl rfl T.w5 rfl ?_ | refine a9 _ rfl rfl T.w5 rfl ?_
  refine d4 ?_; exact k4 rfl
 apply m8 _ rfl rfl rfl
 ·intro w1
  first | refine b8 rfl T.b9 rfl (j3 mB rfl) ?_ | refine b8 rfl T.b9 rfl (j0 mB rfl) ?_ | refine b8 rfl T.b9 rfl (d6 mB (c9 (by omega) rfl)) ?_ | refine b8 rfl T.b9 rfl (d7 mB (rows_get (by omega) rfl)) ?_ | refine b8 rfl T.b9 rfl (j5 mB rfl) ?_
  refine d4 ?_; exact k4 rfl
 refine l9 (fun w1 => k5 F.N1 rfl rfl (J0 _ _) p6 trivial fun _ _ => (q_z rfl)) ?_
 apply m8 _ rfl rfl rfl
 ·intro w1
  first | refine a9 ⟨_, 1, none⟩ rfl rfl T.H1 rfl ?_ | refine a9 _ rfl rfl T.H1 rfl ?_
  refine d4 ?_; exact k4 rfl
 apply m8 _ rfl rfl rfl
 ·intro w1
  first | refine b8 rfl T.b9 rfl (j3 mB rfl) ?_ | refine b8 rfl T.b9 rfl (j0 mB rfl) ?_ | refine b8 rfl T.b9 rfl (d6 mB (c9 (by omega) rfl)) ?_ | refine b8 rfl T.b9 rfl (d7 mB (rows_get (by omega) rfl)) ?_ | refine b8 rfl T.b9 rfl (j5 mB rfl) ?_
  refine d4 ?_; exact k4 rfl
 apply m8 _ rfl rfl rfl
 ·intro w1
  first | refine a9 ⟨_, 1, none⟩ rfl rfl T.H1 rfl ?_ | refine a9 _ rfl rfl T.H1 rfl ?_
  refine d4 ?_; exact k4 rfl
 apply m8 _ rfl rfl rfl
 ·intro w1
  first | refine b8 rfl T.b9 rfl (j3 mB rfl) ?_ | refine b8 rfl T.b9 rfl (j0 mB rfl) ?_ | refine b8 rfl T.b9 rfl (d6 mB (c9 (by omega) rfl)) ?_ | refine b8 rfl T.b9 rfl (d7 mB (rows_get (by omega) rfl)) ?_ | refine b8 rfl T.b9 rfl (j5 mB rfl) ?_
  refine d4 ?_; exact k4 rfl
 refine l9 (fun w1 => k5 F.N1 rfl rfl (J0 _ _) p6 trivial fun _ _ => (q_z rfl)) ?_
 apply m8 _ rfl rfl rfl
 ·intro w1
  first | refine a9 ⟨_, 0, none⟩ rfl rfl T.v7 rfl ?_ | refine a9 _ rfl rfl T.v7 rfl ?_
  refine d4 ?_; exact k4 rfl
 apply m8 _ rfl rfl rfl
 ·intro w1
  first | refine b8 rfl T.i7 rfl (j3 mB rfl) ?_ | refine b8 rfl T.i7 rfl (j0 mB rfl) ?_ | refine b8 rfl T.i7 rfl (d6 mB (c9 (by omega) rfl)) ?_ | refine b8 rfl T.i7 rfl (d7 mB (rows_get (by omega) rfl)) ?_ | refine b8 rfl T.i7 rfl (j5 mB rfl) ?_
  refine d4 ?_; exact k4 rfl
 apply m8 _ rfl rfl rfl
 ·intro w1
  first | refine a9 ⟨_, 0, none⟩ rfl rfl T.v7 rfl ?_ | refine a9 _ rfl rfl T.v7 rfl ?_
  refine d4 ?_; exact k4 rfl
 apply m8 _ rfl rfl rfl
 ·intro w1
  first | refine b8 rfl T.i7 rfl (j3 mB rfl) ?_ | refine b8 rfl T.i7 rfl (j0 mB rfl) ?_ | refine b8 rfl T.i7 rfl (d6 mB (c9 (by omega) rfl)) ?_ | refine b8 rfl T.i7 rfl (d7 mB (rows_get (by omega) rfl)) ?_ | refine b8 rfl T.i7 rfl (j5 mB rfl) ?_
  refine d4 ?_; exact k4 rfl
 refine D1 ⟨rfl, ?_⟩; refine k5 F.aJ rfl rfl (X1 x.1.l y.1.l hx) p6 mC fun _ _ => ?_; refine q7 _ rfl rfl (fun _ => T.gE ..) fun gS => ?_; refine C6 (rows [cmpI y.2.2 x.2.2, cmpI y.2.1 x.2.1, cmpIs x.1.l y.1.l]) (List.prefix_refl _) ?_; refine k5 F.tV rfl rfl (lH [cmpI y.2.2 x.2.2, cmpI y.2.1 x.2.1, cmpIs x.1.l y.1.l] (by simp)) p6 mC fun _ _ => ?_; refine d5 rfl (d8 (l5 ?_)); exact ret1 () rfl (by show some _ = some (int (ordF x.dat y.dat)); rfl) rfl trivial nil_sb trivial
theorem vW (x y : Hv) (hx : x.1.l.length ≤ 1000000) (hy : y.1.l.length ≤ 1000000) : Meets Tryz.prog F.P3 [x.v, y.v] { LI := [x.row, y.row], val := fun _ : Unit => int (ordP x.dat y.dat) } := by
 refine i9 F.gj3 rfl r6 fun w0 => ?_; refine i8 ?_; refine H6 rfl rfl fun gT => ?_; refine H6 rfl rfl fun gB => ?_; refine d5 rfl (d8 (j4 ?_)); refine I5 16 mixed (by decide) (by decide) rfl rfl ?_
 apply m8 _ rfl rfl rfl
 ·intro w1
  first | refine a9 ⟨_, 2, none⟩ rfl rfl T.w5 rfl ?_ | refine a9 _ rfl rfl T.w5 rfl ?_
  refine d4 ?_; exact k4 rfl
 apply m8 _ rfl rfl rfl
 ·intro w1
  first | refine b8 rfl T.b9 rfl (j3 mB rfl) ?_ | refine b8 rfl T.b9 rfl (j0 mB rfl) ?_ | refine b8 rfl T.b9 rfl (d6 mB (c9 (by omega) rfl)) ?_ | refine b8 rfl T.b9 rfl (d7 mB (rows_get (by omega) rfl)) ?_ | refine b8 rfl T.b9 rfl (j5 mB rfl) ?_
  refine d4 ?_; exact k4 rfl
 apply m8 _ rfl rfl rfl
 ·intro w1
  first | refine a9 ⟨_, 2, none⟩ rfl rfl T.w5 rfl ?_ | refine a9 _ rfl rfl T.w5 rfl ?_
  refine d4 ?_; exact k4 rfl
 apply m8 _ rfl rfl rfl
 ·intro w1
  first | refine b8 rfl T.b9 rfl (j3 mB rfl) ?_ | refine b8 rfl T.b9 rfl (j0 mB rfl) ?_ | refine b8 rfl T.b9 rfl (d6 mB (c9 (by omega) rfl)) ?_ | refine b8 rfl T.b9 rfl (d7 mB (rows_get (by omega) rfl)) ?_ | refine b8 rfl T.b9 rfl (j5 mB rfl) ?_
  refine d4 ?_; exact k4 rfl
 refine l9 (fun w1 => k5 F.N1 rfl rfl (J0 _ _) p6 trivial fun _ _ => (q_z rfl)) ?_
 apply m8 _ rfl rfl rfl
 ·intro w1
  first | refine a9 ⟨_, 0, none⟩ rfl rfl T.v7 rfl ?_ | refine a9 _ rfl rfl T.v7 rfl ?_
  refine d4 ?_; exact k4 rfl
 apply m8 _ rfl rfl rfl
 ·intro w1
  first | refine b8 rfl T.i7 rfl (j3 mB rfl) ?_ | refine b8 rfl T.i7 rfl (j0 mB rfl) ?_ | refine b8 rfl T.i7 rfl (d6 mB (c9 (by omega) rfl)) ?_ | refine b8 rfl T.i7 rfl (d7 mB (rows_get (by omega) rfl)) ?_ | refine b8 rfl T.i7 rfl (j5 mB rfl) ?_
  refine d4 ?_; exact k4 rfl
 refine l9 (fun w1 => l7 rfl T.t7 rfl (q_z rfl)) ?_
 apply m8 _ rfl rfl rfl
 ·intro w1
  first | refine a9 ⟨_, 0, none⟩ rfl rfl T.v7 rfl ?_ | refine a9 _ rfl rfl T.v7 rfl ?_
  refine d4 ?_; exact k4 rfl
 apply m8 _ rfl rfl rfl
 ·intro w1
  first | refine b8 rfl T.i7 rfl (j3 mB rfl) ?_ | refine b8 rfl T.i7 rfl (j0 mB rfl) ?_ | refine b8 rfl T.i7 rfl (d6 mB (c9 (by omega) rfl)) ?_ | refine b8 rfl T.i7 rfl (d7 mB (rows_get (by omega) rfl)) ?_ | refine b8 rfl T.i7 rfl (j5 mB rfl) ?_
  refine d4 ?_; exact k4 rfl
 refine l9 (fun w1 => l7 rfl T.t7 rfl (q_z rfl)) ?_; refine l9 (fun w1 => k5 F.N1 rfl rfl (J0 _ _) p6 trivial fun _ _ => (q_z rfl)) ?_
 apply m8 _ rfl rfl rfl
 ·intro w1
  first | refine a9 ⟨_, 0, none⟩ rfl rfl T.v7 rfl ?_ | refine a9 _ rfl rfl T.v7 rfl ?_
  refine d4 ?_; exact k4 rfl
 apply m8 _ rfl rfl rfl
 ·intro w1
  first | refine b8 rfl T.i7 rfl (j3 mB rfl) ?_ | refine b8 rfl T.i7 rfl (j0 mB rfl) ?_ | refine b8 rfl T.i7 rfl (d6 mB (c9 (by omega) rfl)) ?_ | refine b8 rfl T.i7 rfl (d7 mB (rows_get (by omega) rfl)) ?_ | refine b8 rfl T.i7 rfl (j5 mB rfl) ?_
  refine d4 ?_; exact k4 rfl
 apply m8 _ rfl rfl rfl
 ·intro w1
  first | refine a9 ⟨_, 0, none⟩ rfl rfl T.v7 rfl ?_ | refine a9 _ rfl rfl T.v7 rfl ?_
  refine d4 ?_; exact k4 rfl
 apply m8 _ rfl rfl rfl
 ·intro w1
  first | refine b8 rfl T.i7 rfl (j3 mB rfl) ?_ | refine b8 rfl T.i7 rfl (j0 mB rfl) ?_ | refine b8 rfl T.i7 rfl (d6 mB (c9 (by omega) rfl)) ?_ | refine b8 rfl T.i7 rfl (d7 mB (rows_get (by omega) rfl)) ?_ | refine b8 rfl T.i7 rfl (j5 mB rfl) ?_
  refine d4 ?_; exact k4 rfl
 refine D1 ⟨rfl, ?_⟩; refine k5 F.aJ rfl rfl (X1 x.1.l y.1.l hx) p6 mC fun _ _ => ?_; refine q7 _ rfl rfl (fun _ => T.gE ..) fun gS => ?_; refine C6 (rows [cmpI x.2.2 y.2.2, cmpI x.1.l.length y.1.l.length, cmpIs x.1.l y.1.l]) (List.prefix_refl _) ?_; refine k5 F.tV rfl rfl (lH [cmpI x.2.2 y.2.2, cmpI x.1.l.length y.1.l.length, cmpIs x.1.l y.1.l] (by simp)) p6 mC fun _ _ => ?_; refine d5 rfl (d8 (l5 ?_)); exact ret1 () rfl (by show some _ = some (int (ordP x.dat y.dat)); rfl) rfl trivial nil_sb trivial
end Go.Proofs.YtcdopfjiadifhaaGreatDoor
end
