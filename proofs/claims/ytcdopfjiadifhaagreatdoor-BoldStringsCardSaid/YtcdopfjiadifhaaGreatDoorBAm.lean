/- Texts. -/

import Derived.Test.YtcdopfjiadifhaaGreatDoorBAl
set_option linter.unusedVariables false
set_option linter.unusedSimpArgs false
section
namespace Go.Proofs.YtcdopfjiadifhaaGreatDoor
open Go Go.W Tryz T F
set_option maxRecDepth 20000
attribute [local irreducible] HL HC HQ HB Row Rows2 Blk Facts
def adErr (n : Nat) (x : Ad) : Int := if ¬ (0 ≤ x.1 ∧ x.1 ≤ (n : Int) - 1) then 3 else if ¬ (1 ≤ x.2.1 ∧ x.2.1 ≤ 3) then 8 else if ¬ (1 ≤ x.2.2 ∧ x.2.2 ≤ 6) ∨ (x.2.1 = 1 ∧ ¬ x.2.2 = 1) then 1 else 0
def firstE (n : Nat) : List Ad → Int
  | [] => 0
  | x :: r => if ¬ adErr n x = 0 then adErr n x else firstE n r
def chQ (c : Ch) : List Int := [c.1, c.2.1, c.2.2.1, c.2.2.2.1]
def chkS (c : Ch) (ss : List Int) (xs : List Ad) : Int :=
  if ¬ ∀ v ∈ chQ c, 0 ≤ v ∧ v ≤ 999 then 1 else if ¬ (0 ≤ c.2.2.2.2.1 ∧ c.2.2.2.2.1 ≤ 50) ∨ ¬ (1 ≤ c.2.2.2.2.2 ∧ c.2.2.2.2.2 ≤ 5) then 1 else if ss.length = 0 then 7 else if 5 < ss.length then 6
  else if ¬ ∀ s ∈ ss, 0 ≤ s ∧ s ≤ 9 then 1 else if 8 < xs.length then 6 else firstE ss.length xs
theorem qH (n : Nat) {xs : List Ad} {k : Nat} (hk : k < xs.length) : firstE n (xs.drop k) = if ¬ adErr n (xs.getD k default) = 0 then adErr n (xs.getD k default) else firstE n (xs.drop (k + 1)) := by
  rw [List.drop_eq_getElem_cons hk, firstE, D7 hk]
theorem firstE_zero {n : Nat} : ∀ {xs : List Ad}, firstE n xs = 0 → ∀ x ∈ xs, adErr n x = 0
  | [], _, x, hx => by cases hx
  | y :: r, h, x, hx => by
    rw [firstE] at h
    split at h
    · rename_i e; exact absurd h e
    rename_i e
    rcases List.mem_cons.1 hx with rfl | hx
    · exact Classical.not_not.1 e
    exact firstE_zero h x hx
theorem ad_ok {n : Nat} {x : Ad} (h : adErr n x = 0) : (0 ≤ x.1 ∧ x.1 < (n : Int)) ∧ (1 ≤ x.2.1 ∧ x.2.1 ≤ 3) ∧ (1 ≤ x.2.2 ∧ x.2.2 ≤ 6) := by
  unfold adErr at h
  split at h
  · cases h
  split at h
  · cases h
  split at h
  · cases h
  omega
theorem pz7 {c : Ch} {ss : List Int} {xs : List Ad} (h : chkS c ss xs = 0) : SaOK c ss xs := by
  unfold chkS at h
  split at h
  · cases h
  rename_i h1
  split at h
  · cases h
  rename_i h2
  split at h
  · cases h
  rename_i h3
  split at h
  · cases h
  rename_i h4
  split at h
  · cases h
  rename_i h5
  split at h
  · cases h
  rename_i h6
  have h1 := Classical.not_not.1 h1; have h5 := Classical.not_not.1 h5; have q1 := h1 c.1 (by simp [chQ]); have q2 := h1 c.2.1 (by simp [chQ]); have q3 := h1 c.2.2.1 (by simp [chQ]); have q4 := h1 c.2.2.2.1 (by simp [chQ]); exact ⟨⟨q1, q2, q3, q4, by omega, by omega⟩, by omega, by omega, h5, by omega, fun x hx => ad_ok (firstE_zero h x hx)⟩
theorem nbt {p : Prop} [Decidable p] (h : (!decide p) = true) : ¬ p := by simpa using h
theorem nbf {p : Prop} [Decidable p] (h : (!decide p) = false) : p := by simpa using h
theorem jZ {α : Type} [Inhabited α] {l : List α} {p : α → Prop} (h : ∀ j, j < l.length → p (l.getD j default)) : ∀ x ∈ l, p x := fun x hx => by
  obtain ⟨j, hj, rfl⟩ := List.getElem_of_mem hx; rw [← D7 hj]; exact h j hj
theorem uE {α : Type} [Inhabited α] {l : List α} {p : α → Prop} {k : Nat} (hk : k < l.length) (h : ¬ p (l.getD k default)) : ¬ ∀ x ∈ l, p x := fun ha => h (ha _ (A3 hk))
theorem hZ (c : Ch) (ps : Sl Int) (qs : Sl Ad) (x : Ad) (hn : ps.l.length ≤ 1000000) : Meets prog cF [saV c ps qs, adV x] { LI := saL ps qs, val := fun _ : Unit => int (adErr ps.l.length x) } := by
 refine j3 wN rfl t8 fun w0 => d9 (J5 rfl rfl fun gB => J5 rfl rfl fun gB => ?_); refine c7 rfl (d8 (i7 (j8 (d9 ?_)))); refine a9 ⟨_, 0, none⟩ rfl rfl I6 rfl (c8 rfl b9 rfl (m3 mB rfl) (a9 ⟨_, 6, none⟩ rfl rfl q9 rfl (c8 rfl k8 rfl (m3 mB rfl) (l7 rfl l8 rfl (W9 _ rfl rfl rfl rfl r6 (j5 A5 rfl rfl (A7 _ _ _) p6 tK fun _ _ => ?_)))))); refine K6 rfl rfl (c7 rfl (d8 ?_)); refine D0 rfl (fun hb1 => ?_) (fun hb1 => ?_)
 ·have hb1' := hb1; try simp at hb1'
  refine d9 (c7 rfl (d8 (k5 (G6 ?_)))); exact ret1 () rfl (by show some _ = some (int (adErr ps.l.length x)); unfold adErr; rw [if_pos (by omega)]) rfl tK nK tK
 have hb1' := hb1; try simp at hb1'
 refine d9 (a9 ⟨_, 1, none⟩ rfl rfl A9 rfl (c8 rfl b9 rfl (m3 mB rfl) (j5 A5 rfl rfl (A7 _ _ _) p6 tK fun _ _ => ?_))); refine K6 rfl rfl (c7 rfl (d8 ?_)); refine D0 rfl (fun hb2 => ?_) (fun hb2 => ?_)
 ·have hb2' := hb2; try simp at hb2'
  refine d9 (c7 rfl (d8 (k5 (G6 ?_)))); exact ret1 () rfl (by show some _ = some (int (adErr ps.l.length x)); unfold adErr; rw [if_neg (by omega), if_pos (by omega)]) rfl tK nK tK
 have hb2' := hb2; try simp at hb2'
 refine d9 (a9 ⟨_, 2, none⟩ rfl rfl z9 rfl (c8 rfl b9 rfl (m3 mB rfl) (j5 A5 rfl rfl (A7 _ _ _) p6 tK fun _ _ => ?_))); refine K6 rfl rfl (b8 rfl ?_); refine t7 rfl rfl ?_ ?_
 ·intro hg1; have hg1' := hg1; try simp at hg1'
  refine l9 hg1 (a9 ⟨_, 1, none⟩ rfl rfl A9 rfl (l9 hg1 (c8 rfl b9 rfl (m3 mB rfl) ?_))); refine l9 hg1 (G2 rfl rfl rfl (l9 hg1 (b8 rfl ?_))); refine t7 rfl rfl ?_ ?_
  ·intro hg2; have hg2' := hg2; try simp at hg2'
   refine l9 hg2 (a9 ⟨_, 2, none⟩ rfl rfl z9 rfl (l9 hg2 (c8 rfl b9 rfl (m3 mB rfl) ?_))); refine l9 hg2 (P9 rfl rfl rfl (l9 hg1 ?_)); refine p_t rfl rfl (bt1 hg2) rfl (p_f rfl rfl (bf1 hg1) rfl ?_); refine c7 rfl (d8 ?_); refine m6 rfl (fun hb3 => ?_) (fun hb3 => ?_)
   ·have hb3' := hb3; try simp at hb3'
    refine d9 (c7 rfl (d8 (k5 (G6 ?_)))); exact ret1 () rfl (by show some _ = some (int (adErr ps.l.length x)); unfold adErr; rw [if_neg (by omega), if_neg (by omega), if_pos (by omega)]) rfl tK nK tK
   have hb3' := hb3; try simp at hb3'
   refine j6 (w9 (i8 (d9 (c7 rfl (d8 (k5 ?_)))))); exact ret1 () rfl (by show some _ = some (int (adErr ps.l.length x)); unfold adErr; rw [if_neg (by omega), if_neg (by omega), if_neg (by omega)]) rfl tK nK tK
  intro hg2; have hg2' := hg2; try simp at hg2'
  refine q7 hg2 (q7 hg2 (q7 hg2 (l9 hg1 ?_))); refine p_f rfl rfl (bf2 hg2) rfl (p_f rfl rfl (bf1 hg1) rfl ?_); refine c7 rfl (d8 (c_f rfl rfl (j6 (w9 (i8 (d9 (c7 rfl (d8 ?_)))))))); refine k5 ?_; exact ret1 () rfl (by show some _ = some (int (adErr ps.l.length x)); unfold adErr; rw [if_neg (by omega), if_neg (by omega), if_neg (by omega)]) rfl tK nK tK
 intro hg1; have hg1' := hg1; try simp at hg1'
 refine q7 hg1 (q7 hg1 (q7 hg1 (q7 hg1 (M4 rfl rfl rfl rfl rfl rfl (M4 rfl rfl rfl rfl rfl rfl (M4 rfl rfl rfl rfl rfl rfl (q7 hg1 ?_))))))); refine p_t rfl rfl (bt2 hg1) rfl ?_; refine c7 rfl (d8 (c_t rfl rfl (d9 (c7 rfl (d8 (k5 (G6 ?_))))))); exact ret1 () rfl (by show some _ = some (int (adErr ps.l.length x)); unfold adErr; rw [if_neg (by omega), if_neg (by omega), if_pos (by omega)]) rfl tK nK tK
theorem bU (c : Ch) (ps : Sl Int) (qs : Sl Ad) (hn : ps.l.length ≤ 1000000) (hm : qs.l.length ≤ 1000000) : Meets prog rP [saV c ps qs] { LI := saL ps qs, val := fun _ : Unit => int (chkS c ps.l qs.l) } := by
 refine j3 jx8 rfl t8 fun w0 => d9 (J5 rfl rfl fun gB => ?_); refine c7 rfl (k6 ?_); refine a9 ⟨_, 0, none⟩ rfl rfl E9 rfl (I0 (cs := [int c.1, int c.2.1, int c.2.2.1, int c.2.2.2.1, int c.2.2.2.2.1, int c.2.2.2.2.2]) rfl C2 u3 rfl rfl (dV (o := 0) mB (jH rfl)) (B3 rfl (fun _ => aO _) fun gA => t6 rfl rfl gP u3 (by rfl) (by rfl) ?_)); refine d8 (i7 (d9 ?_)); refine a9 ⟨_, 0, none⟩ rfl rfl N7 rfl (c8 rfl b9 rfl (m3 mB rfl) (a9 ⟨_, 1, none⟩ rfl rfl N6 rfl (c8 rfl b9 rfl (m3 mB rfl) (a9 ⟨_, 2, none⟩ rfl rfl N5 rfl (c8 rfl b9 rfl (m3 mB rfl) (a9 ⟨_, 3, none⟩ rfl rfl N4 rfl (c8 rfl b9 rfl (m3 mB rfl) (p7 _ rfl rfl (fun _ => cj9 ..) fun gS => E0 (rows (chQ c)) (List.prefix_refl _) (l7 rfl l8 rfl ?_))))))))); refine b8 rfl (d8 (j8 ?_)); refine y8 (β := Nat) ⟨fun k => k ≤ 4 ∧ ∀ j, j < k → (fun v : Int => 0 ≤ v ∧ v ≤ 999) ((chQ c).getD j default), fun k => [(1, .pointer (d6 gB)), (3, .pointer (d6 gA)), (21, .slice (d6 gS) 4 4), (22, int 4), (23, int k)], fun _ => [(gA, Obj.cells #[int c.1, int c.2.1, int c.2.2.1, int c.2.2.2.1, int c.2.2.2.2.1, int c.2.2.2.2.2] Y0 (0, 0)), (gB, Obj.cells (saC c ps qs) r7 (0, 0))], fun _ => Row (d6 gS) (rows (chQ c)) :: saL ps qs⟩ (fun k => 4 - k) 0 ⟨Nat.zero_le _, fun j hj => absurd hj (Nat.not_lt_zero j)⟩ mC (.refl _) mC fun k hk => ?_; obtain ⟨hk, hq⟩ := hk; refine d9 (C4 rfl rfl rfl (d8 (i7 ?_))); refine m6 rfl (fun hb1 => ?_) (fun hb1 => ?_)
 ·have hk2 : k < (chQ c).length := by show k < 4; omega
  refine j6 (i8 (i7 (j8 (d9 ?_)))); refine r8 (α := Int) (chQ c) k rfl l8 m9 rfl rfl rfl mB rfl hk2 (by decide) (c8 (v := int ((chQ c).getD k default)) rfl b9 rfl (k9 mB (j9 hk2 rfl)) ?_); refine c7 rfl (k6 (b8 rfl ?_)); refine j5 A5 rfl rfl (A7 _ _ _) p6 tK fun _ _ => ?_; refine K6 rfl rfl (d8 ?_); refine D0 rfl (fun hb2 => ?_) (fun hb2 => ?_)
  ·refine d9 (c7 rfl (d8 (k5 (G6 (C5 (G6 ?_)))))); exact ret1 () rfl (by show some _ = some (int (chkS c ps.l qs.l)); unfold chkS; rw [if_pos (uE (p := fun v : Int => 0 ≤ v ∧ v ≤ 999) hk2 (nbt hb2))]) rfl tK nK tK
  refine j6 (w9 (i8 (j0 ?_))); refine v8 _ rfl rfl rfl rfl r6 ?_; refine b8 rfl (j4 ?_); exact again _ (k + 1) ⟨by show k + 1 ≤ 4; omega, fun j hj => (Nat.lt_succ_iff_lt_or_eq.1 hj).elim (hq j) fun e => by subst e; exact nbf hb2⟩ (C8 (by omega)) mC (.refl _) mC
 have hb1' := hb1; try simp at hb1'
 obtain rfl : k = 4 := by omega
 have hq := jZ (l := chQ c) (p := fun v : Int => 0 ≤ v ∧ v ≤ 999) hq; refine w8 (E4 (w6 (i8 (i7 (j8 (d9 ?_)))))); refine a9 ⟨_, 4, none⟩ rfl rfl N3 rfl (c8 rfl b9 rfl (m3 mB rfl) (j5 A5 rfl rfl (A7 _ _ _) p6 tK fun _ _ => ?_)); refine K6 rfl rfl (b8 rfl ?_); refine t7 rfl rfl ?_ ?_
 ·intro hg1; have hg1' := hg1; try simp at hg1'
  refine l9 hg1 (a9 ⟨_, 5, none⟩ rfl rfl N2 rfl (l9 hg1 (c8 rfl b9 rfl (m3 mB rfl) (l9 hg1 (j5 A5 rfl rfl (A7 _ _ _) p6 tK fun _ _ => ?_))))); refine l9 hg1 (K6 rfl rfl ?_); refine p_f rfl rfl (bf1 hg1) rfl ?_; refine c7 rfl (d8 ?_); refine D0 rfl (fun hb3 => ?_) (fun hb3 => ?_)
  ·refine d9 (c7 rfl (d8 (k5 (G6 ?_)))); exact ret1 () rfl (by show some _ = some (int (chkS c ps.l qs.l)); unfold chkS; rw [if_neg (Classical.not_not.2 hq), if_pos (.inr (nbt hb3))]) rfl tK nK tK
  have hb3' := hb3; try simp at hb3'
  have hq2 : ¬ (¬ (0 ≤ c.2.2.2.2.1 ∧ c.2.2.2.2.1 ≤ 50) ∨ ¬ (1 ≤ c.2.2.2.2.2 ∧ c.2.2.2.2.2 ≤ 5)) := fun e => e.elim (fun e => e hg1') (fun e => e (nbf hb3)); refine d9 (a9 ⟨_, 6, none⟩ rfl rfl q9 rfl (c8 rfl k8 rfl (m3 mB rfl) (l7 rfl l8 rfl ?_))); refine G2 rfl rfl rfl (c7 rfl (d8 ?_)); refine m6 rfl (fun hb4 => ?_) (fun hb4 => ?_)
  ·refine d9 (c7 rfl (d8 (k5 (G6 ?_)))); exact ret1 () rfl (by show some _ = some (int (chkS c ps.l qs.l)); unfold chkS; rw [if_neg (Classical.not_not.2 hq), if_neg hq2, if_pos (by omega)]) rfl tK nK tK
  refine d9 (a9 ⟨_, 6, none⟩ rfl rfl q9 rfl (c8 rfl k8 rfl (m3 mB rfl) (l7 rfl l8 rfl ?_))); refine P4 rfl rfl rfl (c7 rfl (d8 ?_)); refine m6 rfl (fun hb5 => ?_) (fun hb5 => ?_)
  ·refine d9 (c7 rfl (d8 (k5 (G6 ?_)))); exact ret1 () rfl (by show some _ = some (int (chkS c ps.l qs.l)); unfold chkS; rw [if_neg (Classical.not_not.2 hq), if_neg hq2, if_neg (by omega), if_pos (by omega)]) rfl tK nK tK
  refine j6 (w9 (i8 (i7 (d9 ?_)))); refine a9 ⟨_, 6, none⟩ rfl rfl q9 rfl (c8 rfl k8 rfl (m3 mB rfl) (l7 rfl l8 rfl ?_)); refine b8 rfl (d8 (j8 ?_)); refine y8 (β := Nat) ⟨fun k => k ≤ ps.l.length ∧ ∀ j, j < k → (fun v : Int => 0 ≤ v ∧ v ≤ 9) (ps.l.getD j default), fun k => [(1, .pointer (d6 gB)), (53, .slice ps.a ps.l.length ps.c), (54, int ps.l.length), (55, int k)], fun _ => [(gB, Obj.cells (saC c ps qs) r7 (0, 0))], fun _ => saL ps qs⟩ (fun k => ps.l.length - k) 0 ⟨Nat.zero_le _, fun j hj => absurd hj (Nat.not_lt_zero j)⟩ mC (.cons _ (.refl _)) mC fun k hk => ?_; obtain ⟨hk, hq3⟩ := hk; refine d9 (C4 rfl rfl rfl (d8 (i7 ?_))); refine m6 rfl (fun hb6 => ?_) (fun hb6 => ?_)
  ·have hk6 : k < ps.l.length := by omega
   refine j6 (i8 (i7 (j8 (d9 ?_)))); refine r8 (α := Int) _ _ rfl l8 m9 rfl rfl rfl mB rfl (by omega) (by decide) (c8 rfl b9 rfl (k9 mB (j9 (by omega) rfl)) ?_); refine c7 rfl (k6 (b8 rfl ?_)); refine j5 A5 rfl rfl (A7 _ _ _) p6 tK fun _ _ => ?_; refine K6 rfl rfl (d8 ?_); refine D0 rfl (fun hb7 => ?_) (fun hb7 => ?_)
   ·refine d9 (c7 rfl (d8 (k5 (G6 (C5 (G6 ?_)))))); exact ret1 () rfl (by show some _ = some (int (chkS c ps.l qs.l)); unfold chkS; rw [if_neg (Classical.not_not.2 hq), if_neg hq2, if_neg (by omega), if_neg (by omega), if_pos (uE (p := fun v : Int => 0 ≤ v ∧ v ≤ 9) hk6 (nbt hb7))]) rfl tK nK tK
   refine j6 (w9 (i8 (j0 ?_))); refine v8 _ rfl rfl rfl rfl r6 ?_; refine b8 rfl (j4 ?_); exact again _ (k + 1) ⟨by show k + 1 ≤ ps.l.length; omega, fun j hj => (Nat.lt_succ_iff_lt_or_eq.1 hj).elim (hq3 j) fun e => by subst e; exact nbf hb7⟩ (C8 (by omega)) mC (.refl _) mC
  obtain rfl : k = ps.l.length := by omega
  have hq3 := jZ (l := ps.l) (p := fun v : Int => 0 ≤ v ∧ v ≤ 9) hq3; refine w8 (E4 (w6 (i8 (i7 (d9 ?_))))); refine a9 ⟨_, 7, none⟩ rfl rfl m5 rfl (c8 rfl k4 rfl (m3 mB rfl) (l7 rfl u0 rfl ?_)); refine P4 rfl rfl rfl (d8 ?_); refine m6 rfl (fun hb8 => ?_) (fun hb8 => ?_)
  ·refine d9 (c7 rfl (d8 (J4 ?_))); exact ret1 () rfl (by show some _ = some (int (chkS c ps.l qs.l)); unfold chkS; rw [if_neg (Classical.not_not.2 hq), if_neg hq2, if_neg (by omega), if_neg (by omega), if_neg (Classical.not_not.2 hq3), if_pos (by omega)]) rfl tK nK tK
  refine j6 (i8 (i7 (d9 ?_))); refine a9 ⟨_, 7, none⟩ rfl rfl m5 rfl (c8 rfl k4 rfl (m3 mB rfl) (l7 rfl u0 rfl ?_)); refine b8 rfl (d8 (j8 ?_)); refine y8 (β := Nat) ⟨fun k => k ≤ qs.l.length ∧ firstE ps.l.length qs.l = firstE ps.l.length (qs.l.drop k), fun k => [(1, .pointer (d6 gB)), (68, .slice qs.a qs.l.length qs.c), (69, int qs.l.length), (70, int k)], fun _ => [(gB, Obj.cells (saC c ps qs) r7 (0, 0))], fun _ => saL ps qs⟩ (fun k => qs.l.length - k) 0 ⟨Nat.zero_le _, rfl⟩ mC (.refl _) mC fun k hk => ?_; obtain ⟨hk, hfe⟩ := hk; refine d9 (C4 rfl rfl rfl (d8 (i7 ?_))); refine m6 rfl (fun hb9 => ?_) (fun hb9 => ?_)
  ·have hk9 : k < qs.l.length := by omega
   refine j6 (i8 (i7 (j8 (d9 ?_)))); refine r8 (α := Ad) _ _ rfl u0 d7 rfl rfl rfl mB rfl (by omega) (by decide) (I0 rfl i9 d7 rfl rfl (H5 mB (K2 (by omega))) (B3 rfl (fun _ => J2 _) fun gA => t6 rfl rfl gP d7 (by rfl) (by rfl) (k6 (B8 rfl l6 j7 rfl mB (by rfl) ?_)))); refine B8 rfl i9 d7 rfl mB (by rfl) ?_; refine j5 hU rfl rfl (hZ c ps qs (qs.l.getD k default) hn) p6 mC fun _ _ => ?_; refine c7 rfl (k6 (b8 rfl (P9 rfl rfl rfl (d8 ?_)))); refine m6 rfl (fun hb10 => ?_) (fun hb10 => ?_)
   ·refine d9 (b8 rfl (c7 rfl (d8 (k5 (G6 (C5 (G6 ?_))))))); exact ret1 () rfl (by show some _ = some (int (chkS c ps.l qs.l)); unfold chkS; rw [if_neg (Classical.not_not.2 hq), if_neg hq2, if_neg (by omega), if_neg (by omega), if_neg (Classical.not_not.2 hq3), if_neg (by omega), hfe, qH _ hk9, if_pos hb10]) rfl tK nK tK
   refine j6 (w9 (i8 (j0 ?_))); refine v8 _ rfl rfl rfl rfl r6 ?_; refine b8 rfl (j4 ?_); exact again _ (k + 1) ⟨by show k + 1 ≤ qs.l.length; omega, by rw [hfe, qH _ hk9, if_neg hb10]⟩ (C8 (by omega)) mC (.cons _ (.refl _)) mC
  obtain rfl : k = qs.l.length := by omega
  refine w8 (E4 (w6 (i8 (d9 (c7 rfl (d8 (k5 ?_))))))); exact ret1 () rfl (by show some _ = some (int (chkS c ps.l qs.l)); unfold chkS; rw [if_neg (Classical.not_not.2 hq), if_neg hq2, if_neg (by omega), if_neg (by omega), if_neg (Classical.not_not.2 hq3), if_neg (by omega), hfe, List.drop_length]; rfl) rfl tK nK tK
 intro hg1; have hg1' := hg1; try simp at hg1'
 refine q7 hg1 (q7 hg1 (q7 hg1 (q7 hg1 ?_))); refine p_t rfl rfl (bt2 hg1) rfl ?_; refine c7 rfl (d8 (c_t rfl rfl (d9 (c7 rfl (d8 (k5 (G6 ?_))))))); exact ret1 () rfl (by show some _ = some (int (chkS c ps.l qs.l)); unfold chkS; rw [if_neg (Classical.not_not.2 hq), if_pos (.inl (by omega))]) rfl tK nK tK
theorem jJ (c : Ch) (ps : Sl Int) (qs : Sl Ad) (h : SaOK c ps.l qs.l) : Meets prog rN [saV c ps qs] (reckCon 70 c ps qs) := by
 refine j3 jx2 rfl t8 fun w0 => d9 (J5 rfl rfl fun gB => ?_); refine c7 rfl (k6 ?_); refine B8 rfl l6 j7 rfl mB (by rfl) ?_; refine j5 dz5 rfl rfl (gj7 c ps qs 70 (.inr rfl) h) p6 mC fun g _ => ?_; refine c7 rfl (d8 (k5 ?_)); exact ret1 g rfl rfl rfl tK (.cons_cons _ nK) tK
theorem xO {l : List Int} {k : Nat} (hk : k < l.length) : (l.take (k + 1)).sum = (l.take k).sum + l.getD k default := by
  rw [List.take_succ_eq_append_getElem hk, List.sum_append, D7 hk]; simp
theorem ax1 {l : List Int} (h : ∀ v ∈ l, 0 ≤ v ∧ v ≤ 1000000000) : ∀ k, 0 ≤ (l.take k).sum ∧ (l.take k).sum ≤ 1000000000 * (k : Int)
  | 0 => by simp
  | k + 1 => by
    have ih := ax1 h k
    rcases Nat.lt_or_ge k l.length with hk | hk
    · rw [xO hk]
      have := h _ (A3 hk)
      omega
    rw [List.take_of_length_le (by omega)]; rw [List.take_of_length_le hk] at ih
    omega
theorem lx2 {A : Option Addr} {c : Nat} (l : List Int) (h : ∀ v ∈ l, 0 ≤ v ∧ v ≤ 1000000000) (hn : l.length ≤ 1000000) : Meets prog qF [.slice A l.length c] { LI := [Row A (rows l)], val := fun _ : Unit => int l.sum } := by
 refine j3 mj0 rfl t8 fun w0 => ?_; refine d9 (c7 rfl (k6 (c7 rfl (d8 (dj7 ?_))))); refine j0 (b8 rfl ?_); refine l7 rfl l8 rfl ?_; refine b8 rfl (d8 (j8 ?_)); refine y8 (β := Nat) ⟨fun k => k ≤ l.length, fun k => [(6, .slice A l.length c), (7, int l.length), (3, int (l.take k).sum), (8, int k)], fun _ => [], fun _ => [Row A (rows l)]⟩ (fun k => l.length - k) 0 (Nat.zero_le _) mC (.refl _) mC fun k hk => ?_; simp only at hk; have hb0 := ax1 h k; refine d9 (C4 rfl rfl rfl (d8 (i7 ?_))); refine m6 rfl (fun hb1 => ?_) (fun hb1 => ?_)
 ·have hk2 : k < l.length := by omega
  have hv := h _ (A3 hk2); refine j6 (i8 (i7 (j8 (d9 ?_)))); refine r8 (α := Int) _ _ rfl l8 m9 rfl rfl rfl mB rfl (by omega) (by decide) (c8 rfl b9 rfl (k9 mB (j9 (by omega) rfl)) ?_); refine c7 rfl (d8 (j0 (b8 rfl (b8 rfl ?_)))); refine v8 _ rfl rfl rfl rfl r6 ?_; refine c7 rfl (j4 (w9 (i8 (j0 ?_)))); refine v8 _ rfl rfl rfl rfl r6 ?_; refine b8 rfl (j4 ?_); exact again _ (k + 1) (by show k + 1 ≤ l.length; omega) (C8 (by omega)) ⟨rfl, rfl, by show some (int ((l.take k).sum + l.getD k default)) = some (int (l.take (k + 1)).sum); rw [xO hk2], rfl, tK⟩ (.refl _) mC
 obtain rfl : k = l.length := by omega
 refine w8 (E4 (w6 (i8 (d9 (b8 rfl (c7 rfl (d8 (k5 ?_)))))))); exact ret1 () rfl (by show some _ = some (int l.sum); rw [List.take_length]) rfl tK nK tK
theorem jz2 (c : Ch) (ps : Sl Int) (qs : Sl Ad) (x : Ad) (hl : qs.l.length ≤ 1000) (hc : qs.l.length ≤ qs.c) : Meets prog uV [saV c ps qs, adV x] { LI := saL ps qs, inv := fun q : Sl Ad => q.l = qs.l ++ [x] ∧ q.l.length ≤ q.c, val := fun q => saV c ps q, LO := fun q => [Row q.a (rows q.l)] } := by
 refine j3 lj3 rfl t8 fun w0 => d9 (J5 rfl rfl fun gT => J5 rfl rfl fun gB => B3 rfl (fun _ => G5 _) fun gA => k6 (a9 ⟨_, 7, none⟩ rfl rfl m5 rfl (c8 rfl k4 rfl (m3 mB rfl) (l7 rfl u0 rfl ?_)))); refine c7 rfl (d8 (i7 ?_)); refine J0 7 mixed (by decide) (by decide) rfl rfl (k7 (fun w1 => a9 ⟨_, 7, none⟩ rfl rfl m5 rfl (q_z rfl)) (k7 (fun w1 => c8 rfl k4 rfl (l4 mB rfl) (q_z rfl)) (u4 rfl (u4 rfl (k7 (fun w1 => rq7 qs.l.length qs.l.length rfl u0 d7 rfl rfl rfl rfl rfl (Nat.le_refl _) hc (q_z rfl)) (k7 (fun w1 => R9 rfl i9 d7 rfl mB (by rfl) (q_z rfl)) ?_)))))); refine U5 ⟨Nat, fun _ => True, fun g1 => .slice (d6 g1) 1 1, fun g1 => [Row (d6 g1) (rows [x])]⟩ rfl rfl rfl ?_ ?_
 ·intro w1; refine p7 _ rfl rfl (fun _ => K0 ..) fun gS => j4 (H6 (rows [x]) (List.prefix_refl _) ?_); exact I9 gS tK rfl ⟨m0, tK⟩
 refine E1 ⟨rfl, ?_⟩; intro g1 _; refine lz3 (qs.l ++ [x]).length (rows (qs.l ++ [x])) L8 rfl rfl rfl mB (Z7 qs.l) (Src.row (news := rows [x]) (m := 1) mB rfl (M1 _) (by decide)) (by simp) (C9 qs.l [x]).symm (by simp; unfold maxLen; omega) (by simp; omega) fun A1 c1 hc1 => ?_; refine a9 ⟨_, 7, none⟩ rfl rfl m5 rfl (z8 rfl rfl gP J9 (by rfl) (by rfl) (k6 (B8 rfl l6 j7 rfl mB (by rfl) ?_))); refine t6 rfl rfl gP j7 (by rfl) (by rfl) ?_; refine d8 (k5 ?_); exact yU (⟨A1, c1, qs.l ++ [x]⟩ : Sl Ad) rfl rfl l6 j7 rfl m0 rfl rfl ⟨rfl, hc1⟩ nK mC
theorem mR (how : Nat) (c : Ch) (ss : List Int) (xs : List Ad) : (numsN how c ss xs).length = ss.length := by simp [numsN]
theorem bil_bd {c : Ch} {ss : List Int} {xs : List Ad} (h : SaOK c ss xs) (i : Nat) : 0 ≤ bilN c ss xs i ∧ bilN c ss xs i ≤ sumN c xs i ∧ sumN c xs i ≤ 48000 := by
  have h1 := jz7 h i xs.length (Nat.le_refl _); have h2 := h.ch.2.2.2.2.1; have h8 := h.x8; have hs : sumN c xs i = sumK c xs xs.length i := rfl; rw [← hs] at h1; unfold bilN; generalize sumN c xs i = s at *
  split
  · have m1 : 0 ≤ s * (100 - c.2.2.2.2.1) := Int.mul_nonneg h1.1 (by omega)
    have m2 : s * (100 - c.2.2.2.2.1) ≤ s * 100 := Int.mul_le_mul_of_nonneg_left (by omega) h1.1; unfold offN; rw [Int.tdiv_eq_ediv_of_nonneg (by omega)]
    omega
  omega
theorem kj2 {c : Ch} {ss : List Int} {xs : List Ad} (h : SaOK c ss xs) : ∀ v ∈ numsN 70 c ss xs, 0 ≤ v ∧ v ≤ 1000000000 := fun v hv => by
  obtain ⟨i, _, rfl⟩ := List.mem_map.1 hv; rw [if_pos rfl]; have := bil_bd h i
  omega
theorem tN {A : Option Addr} {c n : Nat} (l : List Int) (h : ∀ v ∈ l, 0 ≤ v ∧ v ≤ 1000000000) (hn : l.length ≤ 1000000) (e : l.length = n) : Meets prog qF [.slice A n c] { LI := [Row A (rows l)], val := fun _ : Unit => int l.sum } := by
  subst e; exact lx2 l h hn
theorem sa_snoc {c : Ch} {ss : List Int} {xs : List Ad} {x : Ad} (h : SaOK c ss xs) (hx : adErr ss.length x = 0) (hl : xs.length < 8) : SaOK c ss (xs ++ [x]) :=
  ⟨h.ch, h.n1, h.n5, h.st, by rw [List.length_append, List.length_singleton]; omega, fun y hy => (List.mem_append.1 hy).elim (h.ad y) fun hy => by rw [List.mem_singleton.1 hy]; exact ad_ok hx⟩
theorem mul_1 {a b A B : Int} (ha : 1 ≤ a ∧ a ≤ A) (hb : 1 ≤ b ∧ b ≤ B) : 1 ≤ a * b ∧ a * b ≤ A * B := by
  have h1 : 0 < a * b := Int.mul_pos (by omega) (by omega); exact ⟨by omega, Int.mul_le_mul ha.2 hb.2 (by omega) (by omega)⟩
theorem vq7 {l s : Int} (hl : 0 ≤ l) (hs : 1 ≤ s) : (0 ≤ (l + s - 1).tdiv s ∧ (l + s - 1).tdiv s ≤ l + s) ∧ 0 ≤ (l + s - 1).tdiv s * s ∧ (l + s - 1).tdiv s * s ≤ l + s - 1 := by
  rw [Int.tdiv_eq_ediv_of_nonneg (by omega)]; have h1 : 0 ≤ (l + s - 1) / s := Int.ediv_nonneg (by omega) (by omega); have h2 := Int.ediv_mul_le (l + s - 1) (show s ≠ 0 by omega)
  have h3 : (l + s - 1) / s ≤ (l + s - 1) / s * s := by
    have := Int.mul_le_mul_of_nonneg_left hs h1
    omega
  have h4 : 0 ≤ (l + s - 1) / s * s := Int.mul_nonneg h1 (by omega)
  omega
def billsE (c : Ch) (ss : List Int) (xs : List Ad) : List Int × Int := if ¬ chkS c ss xs = 0 then ([], chkS c ss xs) else (numsN 70 c ss xs, 0)
def allN (c : Ch) (ss : List Int) (xs : List Ad) : Int := (numsN 70 c ss xs).sum
def worthE (c : Ch) (ss : List Int) (xs : List Ad) (x : Ad) : Int × Int := if ¬ chkS c ss xs = 0 then (0, chkS c ss xs) else if ¬ adErr ss.length x = 0 then (0, adErr ss.length x) else if 8 ≤ xs.length then (0, 6) else (allN c ss (xs ++ [x]) - allN c ss xs, 0)
def sheetsE (lines page pages : Int) : Int × Int × Int := if ¬ (0 ≤ lines ∧ lines ≤ 100000) ∨ ¬ (1 ≤ page ∧ page ≤ 200) ∨ ¬ (1 ≤ pages ∧ pages ≤ 64) then (0, 0, 1) else ((lines + page * pages - 1).tdiv (page * pages), (lines + page * pages - 1).tdiv (page * pages) * (page * pages) - lines, 0)
theorem iq9 (c : Ch) (ps : Sl Int) (qs : Sl Ad) (hn : ps.l.length ≤ 1000000) (hm : qs.l.length ≤ 1000000) : Meets prog jO [saV c ps qs] { LI := saL ps qs, inv := fun x : OutC => (billsE c ps.l qs.l).1.length ≤ x.2, val := fun x => .tuple #[.slice x.1 (billsE c ps.l qs.l).1.length x.2, int (billsE c ps.l qs.l).2], LO := fun x => [Row x.1 (rows (billsE c ps.l qs.l).1)] } := by
 refine j3 jx9 rfl t8 fun w0 => d9 (J5 rfl rfl fun gB => ?_); refine c7 rfl (c7 rfl (d8 (i7 (d9 ?_)))); refine B8 rfl l6 j7 rfl mB (by rfl) ?_; refine j5 bS rfl rfl (bU c ps qs hn hm) p6 mC fun _ _ => ?_; refine c7 rfl (k6 (b8 rfl (P9 rfl rfl rfl (d8 ?_)))); refine m6 rfl (fun hb1 => ?_) (fun hb1 => ?_)
 ·have hE : billsE c ps.l qs.l = ([], chkS c ps.l qs.l) := by rw [billsE, if_pos hb1]
  refine d9 (b8 rfl (c7 rfl (c7 rfl (d8 (J4 ?_))))); refine B5 (α := Int) ?_; exact ret2 (none, 0) rfl rfl rfl (by show Value.tuple #[.slice none (billsE c ps.l qs.l).1.length 0, int (billsE c ps.l qs.l).2] = _; rw [hE]; rfl) rfl (by show (billsE c ps.l qs.l).1.length ≤ 0; rw [hE]; exact Nat.le_refl _) nK (by show LSub _ [Row none (rows (billsE c ps.l qs.l).1)]; rw [hE]; exact ⟨m0, tK⟩)
 have h0 : chkS c ps.l qs.l = 0 := Classical.not_not.1 hb1; have hE : billsE c ps.l qs.l = (numsN 70 c ps.l qs.l, 0) := by rw [billsE, if_neg hb1]
 have hsa := pz7 h0; refine j6 (i8 (d9 ?_)); refine B8 rfl l6 j7 rfl mB (by rfl) ?_; refine j5 jE rfl rfl (jJ c ps qs hsa) p6 mC fun g _ => ?_; refine c7 rfl (c7 rfl (d8 (k5 ?_))); refine H6 (rows (numsN 70 c ps.l qs.l)) (List.prefix_refl _) ?_; exact ret2 (some ⟨g, 0, none⟩, ps.l.length) rfl rfl rfl (by show Value.tuple #[.slice (d6 g) (billsE c ps.l qs.l).1.length ps.l.length, int (billsE c ps.l qs.l).2] = _; rw [hE]; show Value.tuple #[.slice (d6 g) (numsN 70 c ps.l qs.l).length ps.l.length, int 0] = _; rw [mR]) rfl (by show (billsE c ps.l qs.l).1.length ≤ ps.l.length; rw [hE]; exact Nat.le_of_eq (mR ..)) nK (by show LSub _ [Row (d6 g) (rows (billsE c ps.l qs.l).1)]; rw [hE]; exact ⟨m0, tK⟩)
theorem iq7 (c : Ch) (ps : Sl Int) (qs : Sl Ad) (x : Ad) (hn : ps.l.length ≤ 1000000) (hm : qs.l.length ≤ 1000000) (hc : qs.l.length ≤ qs.c) : Meets prog jM [saV c ps qs, adV x] { LI := saL ps qs, val := fun _ : Unit => .tuple #[int (worthE c ps.l qs.l x).1, int (worthE c ps.l qs.l x).2] } := by
 refine j3 jx4 rfl t8 fun w0 => d9 (J5 rfl rfl fun gT => J5 rfl rfl fun gB => ?_); refine c7 rfl (c7 rfl (d8 (i7 (d9 ?_)))); refine B8 rfl l6 j7 rfl mB (by rfl) ?_; refine j5 bS rfl rfl (bU c ps qs hn hm) p6 mC fun _ _ => ?_; refine c7 rfl (k6 (b8 rfl (P9 rfl rfl rfl (d8 ?_)))); refine m6 rfl (fun hb1 => ?_) (fun hb1 => ?_)
 ·refine d9 (b8 rfl (c7 rfl (c7 rfl (d8 (J4 ?_))))); exact ret2 () rfl rfl rfl (by show Value.tuple #[int (worthE c ps.l qs.l x).1, int (worthE c ps.l qs.l x).2] = _; unfold worthE; rw [if_pos hb1]) rfl tK nK tK
 refine j6 (i8 (i7 (d9 ?_))); refine B8 rfl l6 j7 rfl mB (by rfl) ?_; refine B8 rfl i9 d7 rfl mB (by rfl) ?_; refine j5 hU rfl rfl (hZ c ps qs x hn) p6 mC fun _ _ => ?_; refine c7 rfl (k6 (b8 rfl (P9 rfl rfl rfl (d8 ?_)))); refine m6 rfl (fun hb2 => ?_) (fun hb2 => ?_)
 ·refine d9 (b8 rfl (c7 rfl (c7 rfl (d8 (J4 ?_))))); exact ret2 () rfl rfl rfl (by show Value.tuple #[int (worthE c ps.l qs.l x).1, int (worthE c ps.l qs.l x).2] = _; unfold worthE; rw [if_neg hb1, if_pos hb2]) rfl tK nK tK
 refine j6 (i8 (i7 (d9 ?_))); refine a9 ⟨_, 7, none⟩ rfl rfl m5 rfl (c8 rfl k4 rfl (m3 mB rfl) (l7 rfl u0 rfl ?_)); refine aX rfl rfl rfl (d8 ?_); refine m6 rfl (fun hb3 => ?_) (fun hb3 => ?_)
 ·refine d9 (c7 rfl (c7 rfl (d8 (J4 ?_)))); exact ret2 () rfl rfl rfl (by show Value.tuple #[int (worthE c ps.l qs.l x).1, int (worthE c ps.l qs.l x).2] = _; unfold worthE; rw [if_neg hb1, if_neg hb2, if_pos (by omega)]) rfl tK nK tK
 have h0 : chkS c ps.l qs.l = 0 := Classical.not_not.1 hb1; have h1 : adErr ps.l.length x = 0 := Classical.not_not.1 hb2; have hsa := pz7 h0; have hsb := sa_snoc hsa h1 (by omega); have hs1 := ax1 (kj2 hsa) 5; have hs2 := ax1 (kj2 hsb) 5; have hn5 := hsa.n5; rw [List.take_of_length_le (by rw [mR]; exact hn5)] at hs1 hs2; refine j6 (i8 (i7 ?_)); refine J0 6 mixed (by decide) (by decide) rfl rfl (k7 (fun w1 => R9 rfl l6 j7 rfl mB (by rfl) (q_z rfl)) (k7 (fun w1 => R9 rfl i9 d7 rfl mB (by rfl) (q_z rfl)) ?_)); refine U5 ⟨Sl Ad, fun q => q.l = qs.l ++ [x] ∧ q.l.length ≤ q.c, fun q => saV c ps q, fun q => [Row q.a (rows q.l)]⟩ rfl rfl rfl ?_ ?_
 ·intro w1; refine j5 jx0 rfl rfl (jz2 c ps qs x (by omega) hc) p6 mC fun q hq => j4 ?_; exact I9 q hq rfl ⟨m0, tK⟩
 refine U5 ⟨Nat, fun _ => True, fun g => .slice (d6 g) ps.l.length ps.l.length, fun g => [Row (d6 g) (rows (numsN 70 c ps.l (qs.l ++ [x])))]⟩ rfl rfl rfl ?_ ?_
 ·rintro ⟨qa, qc, ql⟩ hq; obtain rfl : ql = qs.l ++ [x] := hq.1; intro w1; refine j5 jE rfl rfl (jJ c ps ⟨qa, qc, qs.l ++ [x]⟩ hsb) p6 mC fun g _ => j4 (H6 (rows (numsN 70 c ps.l (qs.l ++ [x]))) (List.prefix_refl _) ?_); exact I9 g tK rfl ⟨m0, tK⟩
 refine U5 ⟨Unit, fun _ => True, fun _ => int (allN c ps.l (qs.l ++ [x])), fun _ => []⟩ rfl rfl rfl ?_ ?_
 ·intro g _; intro w1; refine j5 yG rfl rfl (tN (numsN 70 c ps.l (qs.l ++ [x])) (kj2 hsb) (by rw [mR]; omega) (mR ..)) p6 mC fun _ _ => ?_; refine j4 ?_; exact I9 () tK rfl tK
 refine k7 (fun w1 => R9 rfl l6 j7 rfl mB (by rfl) (q_z rfl)) ?_; refine E1 ⟨rfl, ?_⟩; intro _ _ _ _ _ _; refine j5 jE rfl rfl (jJ c ps qs hsa) p6 mC fun g _ => E0 (rows (numsN 70 c ps.l qs.l)) (List.prefix_refl _) ?_; refine j5 yG rfl rfl (tN (numsN 70 c ps.l qs.l) (kj2 hsa) (by rw [mR]; omega) (mR ..)) p6 mC fun _ _ => ?_; refine W9 (allN c ps.l (qs.l ++ [x]) - allN c ps.l qs.l) rfl rfl rfl rfl (by unfold allN I64; omega) ?_; refine c7 rfl (c7 rfl (d8 (k5 ?_))); exact ret2 () rfl rfl rfl (by show Value.tuple #[int (worthE c ps.l qs.l x).1, int (worthE c ps.l qs.l x).2] = _; unfold worthE; rw [if_neg hb1, if_neg hb2, if_neg (by omega)]) rfl tK nK tK
theorem gj8 (l p q : Int) : Meets prog hY [int l, int p, int q] { val := fun _ : Unit => .tuple #[int (sheetsE l p q).1, int (sheetsE l p q).2.1, int (sheetsE l p q).2.2] } := by
 refine j3 ij5 rfl t8 fun w0 => ?_; refine d9 (c7 rfl (c7 rfl (c7 rfl (d8 (i7 (d9 (b8 rfl ?_))))))); refine j5 A5 rfl rfl (A7 _ _ _) p6 tK fun _ _ => ?_; refine K6 rfl rfl (b8 rfl ?_); refine t7 rfl rfl ?_ ?_
 ·intro hg1; have hg1' := hg1; try simp at hg1'
  refine l9 hg1 (b8 rfl (l9 hg1 ?_)); refine j5 A5 rfl rfl (A7 _ _ _) p6 tK fun _ _ => ?_; refine l9 hg1 (K6 rfl rfl ?_); refine p_f rfl rfl (bf1 hg1) rfl (b8 rfl ?_); refine t7 rfl rfl ?_ ?_
  ·intro hg2; have hg2' := hg2; try simp at hg2'
   refine l9 hg2 (b8 rfl (l9 hg2 ?_)); refine j5 A5 rfl rfl (A7 _ _ _) p6 tK fun _ _ => ?_; refine l9 hg2 (K6 rfl rfl ?_); refine p_f rfl rfl (bf1 hg2) rfl (d8 ?_); refine D0 rfl (fun hb1 => ?_) (fun hb1 => ?_)
   ·have hb1' := hb1; try simp at hb1'
    refine d9 (c7 rfl (c7 rfl (c7 rfl (d8 (J4 ?_))))); exact ret3 () rfl rfl rfl rfl (by show Value.tuple #[int (sheetsE l p q).1, int (sheetsE l p q).2.1, int (sheetsE l p q).2.2] = _; unfold sheetsE; rw [if_pos (by omega)]) rfl tK nK tK
   have hb1' := hb1; try simp at hb1'
   have hq2 := nbf hb1; have hm := mul_1 hg2' hq2; have hs := vq7 hg1'.1 hm.1; refine j6 (i8 (d9 (b8 rfl (b8 rfl ?_)))); refine cx2 _ rfl rfl rfl rfl r6 ?_; refine c7 rfl (k6 (b8 rfl (b8 rfl ?_))); refine v8 _ rfl rfl rfl rfl r6 (W9 _ rfl rfl rfl rfl r6 (b8 rfl (r_quo ((l + p * q - 1).tdiv (p * q)) rfl rfl rfl (by omega) (IntWalk.i64_in _ (by omega)) ?_))); refine c7 rfl (k6 (b8 rfl (b8 rfl (b8 rfl ?_)))); refine cx2 _ rfl rfl rfl rfl r6 (b8 rfl (W9 _ rfl rfl rfl rfl r6 ?_)); refine c7 rfl (c7 rfl (c7 rfl (d8 (k5 ?_)))); exact ret3 () rfl rfl rfl rfl (by show Value.tuple #[int (sheetsE l p q).1, int (sheetsE l p q).2.1, int (sheetsE l p q).2.2] = _; unfold sheetsE; rw [if_neg (by omega)]) rfl tK nK tK
  intro hg2; have hg2' := hg2; try simp at hg2'
  refine q7 hg2 (q7 hg2 (q7 hg2 ?_)); refine p_t rfl rfl (bt2 hg2) rfl ?_; refine d8 (c_t rfl rfl (d9 (c7 rfl (c7 rfl (c7 rfl (d8 (J4 ?_))))))); exact ret3 () rfl rfl rfl rfl (by show Value.tuple #[int (sheetsE l p q).1, int (sheetsE l p q).2.1, int (sheetsE l p q).2.2] = _; unfold sheetsE; rw [if_pos (by omega)]) rfl tK nK tK
 intro hg1; have hg1' := hg1; try simp at hg1'
 refine q7 hg1 (q7 hg1 (q7 hg1 ?_)); refine p_t rfl rfl (bt2 hg1) rfl ?_; refine b8 rfl (E2 rfl rfl rfl rfl rfl rfl (E2 rfl rfl rfl rfl rfl rfl (E2 rfl rfl rfl rfl rfl rfl (p_t rfl rfl rfl rfl (d8 (c_t rfl rfl (d9 (c7 rfl (c7 rfl ?_))))))))); refine c7 rfl (d8 (J4 ?_)); exact ret3 () rfl rfl rfl rfl (by show Value.tuple #[int (sheetsE l p q).1, int (sheetsE l p q).2.1, int (sheetsE l p q).2.2] = _; unfold sheetsE; rw [if_pos (by omega)]) rfl tK nK tK
def cmpI (a b : Int) : Int := if a < b then -1 else if b < a then 1 else 0
def orL : List Int → Int
  | [] => 0
  | a :: l => if ¬ a = 0 then a else orL l
def cmpIs : List Int → List Int → Int
  | [], [] => 0
  | [], _ :: _ => -1
  | _ :: _, [] => 1
  | a :: l, b :: l' => if ¬ cmpI a b = 0 then cmpI a b else cmpIs l l'
theorem iq1 {α : Type} [Inhabited α] {l : List α} {k : Nat} (hk : k < l.length) : l.drop k = l.getD k default :: l.drop (k + 1) := by rw [List.drop_eq_getElem_cons hk, D7 hk]
theorem lC (a : Int) : Meets prog jD [int a] { val := fun _ : Unit => .bool false } := by
 refine j3 bq5 rfl t8 fun w0 => ?_; refine d9 (c7 rfl (k6 (b8 rfl (b8 rfl (P9 rfl rfl rfl (c7 rfl (j4 ?_))))))); refine i8 (k5 ?_); exact ret1 () rfl (congrArg (fun b => some (Value.bool b)) (by simp)) rfl tK (.refl _) tK
theorem O7 (a b : Int) : Meets prog dL [int a, int b] { val := fun _ : Unit => int (cmpI a b) } := by
 refine j3 yF rfl t8 fun w0 => ?_; refine d9 (c7 rfl (k6 (b8 rfl ?_))); refine j5 lB rfl rfl (lC _) (.refl _) tK fun _ _ => ?_; refine c7 rfl (k6 (b8 rfl ?_)); refine j5 lB rfl rfl (lC _) (.refl _) tK fun _ _ => ?_; refine c7 rfl (d8 (i7 (d9 (b8 rfl (d8 ?_))))); refine c_f rfl lx3 ?_; refine j6 (i8 (i7 (d9 (b8 rfl (d8 ?_))))); refine c_f rfl lx3 ?_; refine j6 (i8 (i7 (d9 (b8 rfl (b8 rfl (C4 rfl rfl rfl (d8 ?_))))))); refine m6 rfl (fun hb4 => ?_) (fun hb4 => ?_)
 ·refine d9 (c7 rfl (d8 (J4 ?_))); exact ret1 () rfl (congrArg (fun n => some (int n)) (by rw [cmpI, if_pos hb4])) rfl tK nK tK
 refine j6 (i8 (i7 (d9 (b8 rfl (b8 rfl (P4 rfl rfl rfl (d8 ?_))))))); refine m6 rfl (fun hb5 => ?_) (fun hb5 => ?_)
 ·refine d9 (c7 rfl (d8 (J4 ?_))); exact ret1 () rfl (congrArg (fun n => some (int n)) (by rw [cmpI, if_neg hb4, if_pos hb5])) rfl tK nK tK
 refine j6 (i8 (d9 (c7 rfl (d8 (k5 ?_))))); exact ret1 () rfl (congrArg (fun n => some (int n)) (by rw [cmpI, if_neg hb4, if_neg hb5])) rfl tK nK tK
theorem wj5 {l : List Int} {k : Nat} (hk : k < l.length) : orL (l.drop k) = if ¬ l.getD k default = 0 then l.getD k default else orL (l.drop (k + 1)) := by
  rw [List.drop_eq_getElem_cons hk, orL, D7 hk]
theorem tM {A : Option Addr} {c : Nat} (l : List Int) (hl : l.length ≤ 1000000) : Meets prog rK [.slice A l.length c] { LI := [Row A (rows l)], val := fun _ : Unit => int (orL l) } := by
 refine j3 jq9 rfl t8 fun w0 => ?_; refine d9 (c7 rfl (k6 (c7 rfl (d8 (dj7 ?_))))); refine j0 (b8 rfl ?_); refine l7 rfl l8 rfl ?_; refine b8 rfl (d8 (j8 ?_)); refine y8 (β := Nat) ⟨fun k => k ≤ l.length ∧ orL l = orL (l.drop k), fun k => [(3, int 0), (6, .slice A l.length c), (7, int l.length), (8, int k)], fun _ => [], fun _ => [Row A (rows l)]⟩ (fun k => l.length - k) 0 ⟨Nat.zero_le _, rfl⟩ mC (.refl _) ⟨m0, tK⟩ fun k hk => ?_; obtain ⟨hk, ht⟩ := hk; refine d9 (C4 rfl rfl rfl (d8 (i7 ?_))); refine m6 rfl (fun hb1 => ?_) (fun hb1 => ?_)
 ·have hk2 : k < l.length := by omega
  rw [wj5 hk2] at ht; refine j6 (i8 (i7 (j8 (d9 ?_)))); refine r8 (α := Int) _ _ rfl l8 m9 rfl rfl rfl mB rfl (by omega) (by decide) (c8 rfl b9 rfl (k9 mB (j9 (by omega) rfl)) ?_); refine c7 rfl (k6 (b8 rfl (b8 rfl (P9 rfl rfl rfl (d8 ?_))))); refine m6 rfl (fun hb2 => ?_) (fun hb2 => ?_)
  ·rw [if_pos hb2] at ht; refine d9 (b8 rfl (c7 rfl (d8 (k5 (G6 (C5 (G6 ?_))))))); exact ret1 () rfl (congrArg (fun n => some (int n)) (by rw [ht])) rfl tK nK tK
  rw [if_neg hb2] at ht; refine j6 (w9 (i8 (j0 ?_))); refine v8 _ rfl rfl rfl rfl r6 ?_; refine b8 rfl (j4 ?_); exact again _ (k + 1) ⟨by omega, ht⟩ (C8 (by omega)) mC (.refl _) ⟨m0, tK⟩
 have hk2 : k = l.length := by omega
 refine w8 (E4 (w6 (i8 (d9 (b8 rfl (c7 rfl (d8 (k5 ?_)))))))); exact ret1 () rfl (congrArg (fun n => some (int n)) (by rw [ht, hk2, List.drop_length]; rfl)) rfl tK nK tK
theorem bW {A B : Option Addr} {ca cb : Nat} (a b : List Int) (ha : a.length ≤ 1000000) : Meets prog Z5 [.slice A a.length ca, .slice B b.length cb] { LI := [Row A (rows a), Row B (rows b)], val := fun _ : Unit => int (cmpIs a b) } := by
 refine j3 rF rfl t8 fun w0 => ?_; refine d9 (c7 rfl (d8 (i7 (d9 (b8 rfl ?_))))); refine l7 rfl l8 rfl ?_; refine b8 rfl (d8 (j8 ?_)); refine y8 (β := Nat) ⟨fun k => k ≤ a.length ∧ k ≤ b.length ∧ cmpIs a b = cmpIs (a.drop k) (b.drop k), fun k => [(0, .slice A a.length ca), (1, .slice B b.length cb), (9, .slice A a.length ca), (10, int a.length), (11, int k)], fun _ => [], fun _ => [Row A (rows a), Row B (rows b)]⟩ (fun k => a.length - k) 0 ⟨Nat.zero_le _, Nat.zero_le _, rfl⟩ mC (.refl _) ⟨m0, m1, tK⟩ fun k hk => ?_; obtain ⟨hka, hkb, ht⟩ := hk; refine d9 (C4 rfl rfl rfl (d8 (i7 ?_))); refine m6 rfl (fun hb1 => ?_) (fun hb1 => ?_)
 ·have hk2 : k < a.length := by omega
  rw [iq1 hk2] at ht; refine j6 (i8 (i7 (j8 (d9 (b8 rfl ?_))))); refine r8 (α := Int) _ _ rfl l8 m9 rfl rfl rfl mB rfl (by omega) (by decide) (c8 rfl b9 rfl (k9 mB (j9 (by omega) rfl)) ?_); refine c7 rfl (c7 rfl (d8 (i7 (d9 (b8 rfl (b8 rfl ?_)))))); refine l7 rfl l8 rfl ?_; refine aX rfl rfl rfl (d8 ?_); refine m6 rfl (fun hb2 => ?_) (fun hb2 => ?_)
  ·have hk3 : k = b.length := by omega
   refine d9 (c7 rfl (d8 (J4 (G6 (C5 (G6 ?_)))))); exact ret1 () rfl (congrArg (fun n => some (int n)) (by rw [ht, hk3, List.drop_length]; rfl)) rfl tK nK tK
  have hk3 : k < b.length := by omega
  rw [iq1 hk3, cmpIs] at ht; refine j6 (i8 (d9 (b8 rfl (b8 rfl ?_)))); refine r8 (α := Int) _ _ rfl l8 m9 rfl rfl rfl mB rfl (by omega) (by decide) (c8 rfl b9 rfl (k9 mB (j9 (by omega) rfl)) ?_); refine c7 rfl (k6 (b8 rfl (b8 rfl ?_))); refine j5 O6 rfl rfl (O7 _ _) (.refl _) tK fun _ _ => ?_; refine c7 rfl (k6 (b8 rfl (P9 rfl rfl rfl (d8 ?_)))); refine m6 rfl (fun hb3 => ?_) (fun hb3 => ?_)
  ·rw [if_pos hb3] at ht; refine d9 (b8 rfl (c7 rfl (d8 (k5 (G6 (C5 (G6 ?_))))))); exact ret1 () rfl (congrArg (fun n => some (int n)) (by rw [ht])) rfl tK nK tK
  rw [if_neg hb3] at ht; refine j6 (w9 (i8 (j0 ?_))); refine v8 _ rfl rfl rfl rfl r6 ?_; refine b8 rfl (j4 ?_); exact again _ (k + 1) ⟨by omega, by omega, ht⟩ (C8 (by omega)) mC nK ⟨m0, m1, tK⟩
 have hk2 : k = a.length := by omega
 refine w8 (E4 (w6 (i8 (i7 (d9 (b8 rfl ?_)))))); refine l7 rfl l8 rfl (b8 rfl (l7 rfl l8 rfl ?_)); refine C4 rfl rfl rfl (d8 ?_); refine m6 rfl (fun hb4 => ?_) (fun hb4 => ?_)
 ·have h4 : k < b.length := by omega
  rw [hk2, List.drop_length, iq1 (by omega)] at ht; refine d9 (c7 rfl (d8 (J4 ?_))); exact ret1 () rfl (congrArg (fun n => some (int n)) (by rw [ht]; rfl)) rfl tK nK tK
 have h4 : k = b.length := by omega
 rw [hk2, List.drop_length, ← hk2, h4, List.drop_length] at ht; refine j6 (i8 (d9 (c7 rfl (d8 (k5 ?_))))); exact ret1 () rfl (congrArg (fun n => some (int n)) (by rw [ht]; rfl)) rfl tK nK tK
theorem wrap64 {m : Nat} (h : m < 18446744073709551616) : IntKind.u64.wrap (m : Int) = (m : Int) := by
  simp only [IntKind.wrap, IntKind.bits, IntKind.signed]
  simp
  omega
theorem bv64 {m : Nat} (h : m < 18446744073709551616) : (BitVec.ofInt 64 (m : Int)).toNat = m := by
  simp [BitVec.toNat_ofInt]
  omega
section
variable {c : Cx} {Q : Exit → Act → World → Prop} {fr : Fr} {hp : Hp} {L : List Fact} {ops : Array Oper} {rest : List Oper}
variable {d : Tmp} {ty : TypeId} {pos : String} {af : Array Edge}
theorem r_and64 {t yt : TypeId} {x y : Operand} {a b : Nat} (hd : Nat.blt d c.n = true) (hx : ev fr x = some (.int .u64 a)) (hy : ev fr y = some (.int .u64 b)) (ha : a < 18446744073709551616) (hb : b < 18446744073709551616) (k : HL c ops Q rest ((d, .int .u64 (a &&& b : Nat)) :: fr) hp L) :
    HL c ops Q (⟨some d, .binOp .and t x y yt, ty, pos, af, none⟩ :: rest) fr hp L :=
  q8 _ hd hx hy (fun _ => rfl) (fun w => by
    show (Op.intBits .and .u64 (a : Int) (b : Int)).run c.P w = _; have h : (BitVec.ofInt 64 (a : Int) &&& BitVec.ofInt 64 (b : Int)).toNat = a &&& b := by rw [BitVec.toNat_and, bv64 ha, bv64 hb]
    have hl : a &&& b < 18446744073709551616 := Nat.lt_of_le_of_lt Nat.and_le_left ha; show Result.ok (Value.int .u64 (IntKind.u64.wrap ((BitVec.ofInt 64 (a : Int) &&& BitVec.ofInt 64 (b : Int)).toNat : Nat))) w = _
    rw [h, wrap64 hl]) k
theorem r_shr64 {t yt : TypeId} {x y : Operand} {ky : IntKind} {z : Int} {a : Nat} (n : Nat) (hd : Nat.blt d c.n = true) (hx : ev fr x = some (.int .u64 a)) (hy : ev fr y = some (.int ky z)) (hz : z = (n : Int)) (hn : n < 64) (k : HL c ops Q rest ((d, .int .u64 (a / 2 ^ n : Nat)) :: fr) hp L) :
    HL c ops Q (⟨some d, .binOp .shr t x y yt, ty, pos, af, none⟩ :: rest) fr hp L :=
  q8 _ hd hx hy (fun _ => rfl) (fun w => by
    subst hz; show (Op.shift .shr .u64 (a : Int) ky (n : Int)).run c.P w = _; have hm : min ((n : Int).toNat) (IntKind.u64.bits) = n := by show min ((n : Int).toNat) 64 = n; omega
    simp only [Op.shift]; rw [if_neg (by omega), hm, Int.fdiv_eq_ediv_of_nonneg _ (by exact_mod_cast Nat.zero_le (2 ^ n))]
    rfl) k
end
def pickK (s k : Nat) : List Int := ((List.range k).filter fun i => s.testBit i).map fun i : Nat => (i : Int)
theorem uD (s k : Nat) : pickK s (k + 1) = if s.testBit k = true then pickK s k ++ [(k : Int)] else pickK s k := by
  unfold pickK; rw [List.range_succ, List.filter_append, List.map_append, List.filter_cons, List.filter_nil]
  by_cases e : s.testBit k = true
  · rw [if_pos e, if_pos e]; rfl
  rw [if_neg e, if_neg e]; simp
theorem yX (s k : Nat) : (pickK s k).length ≤ k := by
  unfold pickK; rw [List.length_map]; exact Nat.le_trans (List.length_filter_le _ _) (by simp)
theorem qj8 {s k : Nat} {v : Int} (h : v ∈ pickK s k) : 0 ≤ v ∧ v < (k : Int) := by
  obtain ⟨i, hi, rfl⟩ := List.mem_map.1 h; have := (List.mem_filter.1 hi).1; rw [List.mem_range] at this
  omega
theorem tx2 {cur : Array Value} {k : Nat} {v : Value} (hk : k < cur.size) : (cur.setIfInBounds k v).toList.take (k + 1) = cur.toList.take k ++ [v] := by
  rw [Array.toList_setIfInBounds, List.take_succ_eq_append_getElem (by simpa using hk), List.take_set_of_le (Nat.le_refl _)]
  simp
theorem iH (s n : Nat) (hs : s < 18446744073709551616) (hn : n ≤ 60) : Meets prog dM [.int .u64 (s : Int), int n] { inv := fun _ : Nat => True, val := fun g => .slice (d6 g) (pickK s n).length (pickK s n).length, LO := fun g => [Row (d6 g) (rows (pickK s n))] } := by
 refine j3 yI rfl t8 fun w0 => ?_; refine d9 (c7 rfl (k6 (b8 rfl ?_))); refine nx8 (n := n) (bytes := 8) (z := int 0) rfl l8 p9 rfl rfl rfl rfl (by omega) (by omega) fun ga => ?_; refine c7 rfl (k6 (c7 rfl (d8 (i7 (d9 (b8 rfl ?_)))))); refine b8 rfl (d8 (j8 ?_)); refine y8 (β := Nat × Array Value) ⟨fun x => x.1 ≤ n ∧ x.2.size = n ∧ x.2.toList.take (pickK s x.1).length = rows (pickK s x.1), fun x => [(0, .int .u64 (s : Int)), (5, .slice (d6 ga) n n), (6, int (pickK s x.1).length), (11, int n), (12, int x.1)], fun x => [(ga, .cells x.2 H8 (0, 0))], fun _ => []⟩ (fun x => n - x.1) (0, (List.replicate n (int 0)).toArray) ⟨Nat.zero_le _, by simp, by simp [pickK]; rfl⟩ mC (.refl _) tK fun x hx => ?_; obtain ⟨i, cur⟩ := x; obtain ⟨hi, hcs, hct⟩ := hx; simp only at hi hcs hct; have hpl := yX s i; refine d9 (C4 rfl rfl rfl (d8 (i7 ?_))); refine m6 rfl (fun hb1 => ?_) (fun hb1 => ?_)
 ·have hi2 : i < n := by omega
  refine j6 (i8 (i7 (j8 (d9 (b8 rfl (c7 rfl (k6 ?_))))))); refine b8 rfl (b8 rfl ?_); refine r_shr64 i rfl rfl rfl rfl (by omega) (r_and64 (b := 1) rfl rfl rfl (Nat.lt_of_le_of_lt (Nat.div_le_self _ _) hs) (by omega) ?_); refine G2 rfl rfl rfl (d8 ?_); refine m6 rfl (fun hb2 => ?_) (fun hb2 => ?_)
  ·have hbt : s.testBit i = true := by rw [← xq7]; exact decide_eq_true hb2
   have hlt : (pickK s i).length < cur.size := by omega
   refine d9 (b8 rfl (b8 rfl (b8 rfl ?_))); refine B9 (pickK s i).length (pickK s i).length rfl l8 m9 rfl rfl rfl (by omega) (by omega) ?_; refine z8 (u := cur[(pickK s i).length]'hlt) rfl rfl (.refl _) m9 (Array.getElem?_eq_getElem hlt) rfl ?_; refine d8 (j0 (b8 rfl ?_)); refine v8 (((pickK s i).length : Int) + 1) rfl rfl rfl rfl r6 ?_; refine c7 rfl (j4 (w9 (i8 (j0 ?_)))); refine v8 _ rfl rfl rfl rfl r6 ?_; refine b8 rfl (j4 ?_); exact again _ (i + 1, cur.setIfInBounds (pickK s i).length (int i)) ⟨by show i + 1 ≤ n; omega, by show (cur.setIfInBounds _ _).size = n; rw [Array.size_setIfInBounds]; exact hcs, by show (cur.setIfInBounds (pickK s i).length (int i)).toList.take (pickK s (i + 1)).length = rows (pickK s (i + 1)); rw [uD, if_pos hbt, List.length_append, List.length_singleton, tx2 (by omega), hct, C9]; rfl⟩ (C8 (by omega)) ⟨rfl, rfl, by show some (int (((pickK s i).length : Int) + 1)) = some (int ((pickK s (i + 1)).length : Int)); rw [uD, if_pos hbt, List.length_append]; rfl, rfl, rfl, tK⟩ (.refl _) tK
  have hbt : ¬ s.testBit i = true := by rw [← xq7, decide_eq_true_eq]; exact hb2
  refine j6 (w9 (i8 (j0 ?_))); refine v8 _ rfl rfl rfl rfl r6 ?_; refine b8 rfl (j4 ?_); exact again _ (i + 1, cur) ⟨by show i + 1 ≤ n; omega, hcs, by show cur.toList.take (pickK s (i + 1)).length = rows (pickK s (i + 1)); rw [uD, if_neg hbt]; exact hct⟩ (C8 (by omega)) ⟨rfl, rfl, by show some (int ((pickK s i).length : Int)) = some (int ((pickK s (i + 1)).length : Int)); rw [uD, if_neg hbt], rfl, rfl, tK⟩ (.refl _) tK
 obtain rfl : i = n := by omega
 refine w8 (E4 (w6 (i8 (d9 (b8 rfl ?_))))); refine nx8 (n := (pickK s i).length) (bytes := 8) (z := int 0) rfl l8 p9 rfl rfl rfl rfl (by omega) (by omega) fun gb => ?_; refine c7 rfl (k6 (b8 rfl (b8 rfl ?_))); refine rx1 (cs := rows (pickK s i)) rfl l8 m9 rfl rfl (.refl _) (by rw [Z7]; show _ * 1 = min _ _; omega) (dV mC fun j u hu => ?_) (by rw [Z7]; simp; exact Nat.le_of_eq (Nat.mul_one _)) (M1 _) ?_
 · rw [← hct, List.getElem?_take] at hu
   split at hu
   · rw [Nat.zero_add]; simpa using hu
   cases hu
 refine k6 (b8 rfl (c7 rfl (d8 (k5 ?_)))); refine H6 (rows (pickK s i)) (by simp) ?_; exact ret1 gb rfl rfl rfl tK nK ⟨m0, tK⟩
abbrev Cd := Int × Int
instance : El Cd where
  default := (0, 0)
  cells x := [int x.1, int x.2]
  sz := 2
  len _ := rfl
  one a u h := by simp at h; rcases h with h | h <;> subst h <;> rfl
abbrev Hv := Sl Int × Int × Int
instance : El Hv where
  default := (⟨none, 0, []⟩, 0, 0)
  cells x := [.slice x.1.a x.1.l.length x.1.c, int x.2.1, int x.2.2]
  sz := 3
  len _ := rfl
  one a u h := by simp at h; rcases h with h | h | h <;> subst h <;> rfl
abbrev Hn := List Int × Int × Int
def Hv.dat (x : Hv) : Hn := (x.1.l, x.2.1, x.2.2)
abbrev Hv.row (x : Hv) : Fact := Row x.1.a (rows x.1.l)
abbrev Hv.v (x : Hv) : Value := .agg #[.slice x.1.a x.1.l.length x.1.c, int x.2.1, int x.2.2]
theorem nbg {p : Prop} [Decidable p] (h : ((!decide p) == false) = true) : p := by simpa using h
theorem nbg2 {p : Prop} [Decidable p] (h : ((!decide p) == false) = false) : ¬ p := by simpa using h
def cdB (x : Cd) : Prop := (1 ≤ x.1 ∧ x.1 ≤ 20) ∧ (0 ≤ x.2 ∧ x.2 ≤ 999)
instance (x : Cd) : Decidable (cdB x) := by unfold cdB; infer_instance
def cardsE (l : List Cd) (room : Int) : Int := if 8 < l.length then 6 else if ¬ ∀ x ∈ l, cdB x then 1 else if ¬ (0 ≤ room ∧ room ≤ 60) then 1 else 0
def ordF (x y : Hn) : Int := orL [cmpI y.2.2 x.2.2, cmpI y.2.1 x.2.1, cmpIs x.1 y.1]
def ordX (x y : Hn) : Int := orL [cmpI x.1.length y.1.length, cmpIs x.1 y.1]
def ordP (x y : Hn) : Int := orL [cmpI x.2.2 y.2.2, cmpI x.1.length y.1.length, cmpIs x.1 y.1]
theorem wQ {A : Option Addr} {c : Nat} (l : List Cd) (room : Int) (hn : l.length ≤ 1000000) : Meets prog dN [.slice A l.length c, int room] { LI := [Row A (rows l)], val := fun _ : Unit => int (cardsE l room) } := by
 refine j3 yJ rfl t8 fun w0 => ?_; refine d9 (c7 rfl (d8 (i7 (d9 (b8 rfl ?_))))); refine l7 rfl Q5 rfl ?_; refine P4 rfl rfl rfl (d8 ?_); refine m6 rfl (fun hb1 => ?_) (fun hb1 => ?_)
 ·refine d9 (c7 rfl (d8 (J4 ?_))); exact ret1 () rfl (by show some _ = some (int (cardsE l room)); unfold cardsE; rw [if_pos (by omega)]) rfl tK nK tK
 refine j6 (i8 (i7 (d9 (b8 rfl ?_)))); refine l7 rfl Q5 rfl ?_; refine b8 rfl (d8 (j8 ?_)); refine y8 (β := Nat) ⟨fun k => k ≤ l.length ∧ ∀ j, j < k → cdB (l.getD j default), fun k => [(1, int room), (10, .slice A l.length c), (11, int l.length), (12, int k)], fun _ => [], fun _ => [Row A (rows l)]⟩ (fun k => l.length - k) 0 ⟨Nat.zero_le _, fun j hj => absurd hj (Nat.not_lt_zero j)⟩ mC nK mC fun k hk => ?_; obtain ⟨hk, hq⟩ := hk; refine d9 (C4 rfl rfl rfl (d8 (i7 ?_))); refine m6 rfl (fun hb2 => ?_) (fun hb2 => ?_)
 ·have hk2 : k < l.length := by omega
  refine j6 (i8 (i7 (j8 (d9 ?_)))); refine r8 (α := Cd) _ _ rfl Q5 aS rfl rfl rfl mB rfl (by omega) (by decide) (I0 rfl jj3 aS rfl rfl (H5 mB (K2 (by omega))) (B3 rfl (fun _ => kq9 _) fun gA => t6 rfl rfl gP aS (by rfl) (by rfl) (k6 (a9 ⟨_, 0, none⟩ rfl rfl rW rfl (c8 rfl b9 rfl (m3 mB rfl) (j5 A5 rfl rfl (A7 _ _ _) p6 tK fun _ _ => ?_)))))); refine K6 rfl rfl (b8 rfl ?_); refine t7 rfl rfl ?_ ?_
  ·intro hg1; refine l9 hg1 (a9 ⟨_, 1, none⟩ rfl rfl rV rfl (l9 hg1 (c8 rfl b9 rfl (m3 mB rfl) (l9 hg1 (j5 A5 rfl rfl (A7 _ _ _) p6 tK fun _ _ => ?_))))); refine l9 hg1 (K6 rfl rfl ?_); refine p_f rfl rfl (bf1 hg1) rfl (d8 ?_); refine D0 rfl (fun hb3 => ?_) (fun hb3 => ?_)
   ·refine d9 (c7 rfl (d8 (k5 (G6 (C5 (G6 ?_)))))); exact ret1 () rfl (by show some _ = some (int (cardsE l room)); unfold cardsE; rw [if_neg (by omega), if_pos (uE (p := cdB) hk2 fun e => nbt hb3 e.2)]) rfl tK nK tK
   refine j6 (w9 (i8 (j0 ?_))); refine v8 _ rfl rfl rfl rfl r6 ?_; refine b8 rfl (j4 ?_); exact again _ (k + 1) ⟨by show k + 1 ≤ l.length; omega, fun j hj => (Nat.lt_succ_iff_lt_or_eq.1 hj).elim (hq j) fun e => by subst e; exact ⟨nbg hg1, nbf hb3⟩⟩ (C8 (by omega)) mC nK mC
  intro hg1; refine q7 hg1 (q7 hg1 (q7 hg1 (q7 hg1 ?_))); refine p_t rfl rfl (bt2 hg1) rfl ?_; refine d8 (c_t rfl rfl (d9 (c7 rfl (d8 (k5 (G6 (C5 ?_))))))); refine G6 ?_; exact ret1 () rfl (by show some _ = some (int (cardsE l room)); unfold cardsE; rw [if_neg (by omega), if_pos (uE (p := cdB) hk2 fun e => nbg2 hg1 e.1)]) rfl tK nK tK
 obtain rfl : k = l.length := by omega
 have hq := jZ (l := l) (p := cdB) hq; refine w8 (E4 (w6 (i8 (i7 (d9 (b8 rfl ?_)))))); refine j5 A5 rfl rfl (A7 _ _ _) p6 tK fun _ _ => ?_; refine K6 rfl rfl (d8 ?_); refine D0 rfl (fun hb4 => ?_) (fun hb4 => ?_)
 ·refine d9 (c7 rfl (d8 (J4 ?_))); exact ret1 () rfl (by show some _ = some (int (cardsE l room)); unfold cardsE; rw [if_neg (by omega), if_neg (Classical.not_not.2 hq), if_pos (nbt hb4)]) rfl tK nK tK
 refine j6 (i8 (d9 (c7 rfl (d8 (k5 ?_))))); exact ret1 () rfl (by show some _ = some (int (cardsE l room)); unfold cardsE; rw [if_neg (by omega), if_neg (Classical.not_not.2 hq), if_neg (Classical.not_not.2 (nbf hb4))]) rfl tK nK tK
theorem gj9 (x y : Hv) (hx : x.1.l.length ≤ 1000000) (hy : y.1.l.length ≤ 1000000) : Meets prog Y8 [x.v, y.v] { LI := [x.row, y.row], val := fun _ : Unit => int (ordF x.dat y.dat) } := by
 refine j3 ij7 rfl t8 fun w0 => d9 (J5 rfl rfl fun gT => J5 rfl rfl fun gB => ?_); refine c7 rfl (d8 (i7 ?_)); refine J0 14 mixed (by decide) (by decide) rfl rfl (k7 (fun w1 => a9 ⟨_, 2, none⟩ rfl rfl H9 rfl (q_z rfl)) (k7 (fun w1 => c8 rfl b9 rfl (l4 mB rfl) (q_z rfl)) (k7 (fun w1 => a9 ⟨_, 2, none⟩ rfl rfl H9 rfl (q_z rfl)) (k7 (fun w1 => c8 rfl b9 rfl (l4 mB rfl) (q_z rfl)) ?_)))); refine k7 (fun w1 => j5 O6 rfl rfl (O7 _ _) p6 tK fun _ _ => (q_z rfl)) ?_; refine k7 (fun w1 => a9 ⟨_, 1, none⟩ rfl rfl V3 rfl (q_z rfl)) (k7 (fun w1 => c8 rfl b9 rfl (l4 mB rfl) (q_z rfl)) (k7 (fun w1 => a9 ⟨_, 1, none⟩ rfl rfl V3 rfl (q_z rfl)) (k7 (fun w1 => c8 rfl b9 rfl (l4 mB rfl) (q_z rfl)) ?_))); refine k7 (fun w1 => j5 O6 rfl rfl (O7 _ _) p6 tK fun _ _ => (q_z rfl)) ?_; refine k7 (fun w1 => a9 ⟨_, 0, none⟩ rfl rfl G7 rfl (q_z rfl)) (k7 (fun w1 => c8 rfl k8 rfl (l4 mB rfl) (q_z rfl)) (k7 (fun w1 => a9 ⟨_, 0, none⟩ rfl rfl G7 rfl (q_z rfl)) (k7 (fun w1 => c8 rfl k8 rfl (l4 mB rfl) (q_z rfl)) ?_))); refine E1 ⟨rfl, ?_⟩; refine j5 bX rfl rfl (bW x.1.l y.1.l hx) p6 mC fun _ _ => p7 _ rfl rfl (fun _ => bM ..) fun gS => E0 (rows [cmpI y.2.2 x.2.2, cmpI y.2.1 x.2.1, cmpIs x.1.l y.1.l]) (List.prefix_refl _) ?_; refine j5 tI rfl rfl (tM [cmpI y.2.2 x.2.2, cmpI y.2.1 x.2.1, cmpIs x.1.l y.1.l] (by simp)) p6 mC fun _ _ => ?_; refine c7 rfl (d8 (k5 ?_)); exact ret1 () rfl (by show some _ = some (int (ordF x.dat y.dat)); rfl) rfl tK nK tK
theorem bx8 (x y : Hv) (hx : x.1.l.length ≤ 1000000) (hy : y.1.l.length ≤ 1000000) : Meets prog N9 [x.v, y.v] { LI := [x.row, y.row], val := fun _ : Unit => int (ordP x.dat y.dat) } := by
 refine j3 gj0 rfl t8 fun w0 => d9 (J5 rfl rfl fun gT => J5 rfl rfl fun gB => ?_); refine c7 rfl (d8 (i7 ?_)); refine J0 16 mixed (by decide) (by decide) rfl rfl (k7 (fun w1 => a9 ⟨_, 2, none⟩ rfl rfl H9 rfl (q_z rfl)) (k7 (fun w1 => c8 rfl b9 rfl (l4 mB rfl) (q_z rfl)) (k7 (fun w1 => a9 ⟨_, 2, none⟩ rfl rfl H9 rfl (q_z rfl)) (k7 (fun w1 => c8 rfl b9 rfl (l4 mB rfl) (q_z rfl)) ?_)))); refine k7 (fun w1 => j5 O6 rfl rfl (O7 _ _) p6 tK fun _ _ => (q_z rfl)) ?_; refine k7 (fun w1 => a9 ⟨_, 0, none⟩ rfl rfl G7 rfl (q_z rfl)) (k7 (fun w1 => c8 rfl k8 rfl (l4 mB rfl) (q_z rfl)) (k7 (fun w1 => l7 rfl l8 rfl (q_z rfl)) (k7 (fun w1 => a9 ⟨_, 0, none⟩ rfl rfl G7 rfl (q_z rfl)) (k7 (fun w1 => c8 rfl k8 rfl (l4 mB rfl) (q_z rfl)) (k7 (fun w1 => l7 rfl l8 rfl (q_z rfl)) ?_))))); refine k7 (fun w1 => j5 O6 rfl rfl (O7 _ _) p6 tK fun _ _ => (q_z rfl)) ?_; refine k7 (fun w1 => a9 ⟨_, 0, none⟩ rfl rfl G7 rfl (q_z rfl)) (k7 (fun w1 => c8 rfl k8 rfl (l4 mB rfl) (q_z rfl)) (k7 (fun w1 => a9 ⟨_, 0, none⟩ rfl rfl G7 rfl (q_z rfl)) (k7 (fun w1 => c8 rfl k8 rfl (l4 mB rfl) (q_z rfl)) ?_))); refine E1 ⟨rfl, ?_⟩; refine j5 bX rfl rfl (bW x.1.l y.1.l hx) p6 mC fun _ _ => p7 _ rfl rfl (fun _ => bM ..) fun gS => E0 (rows [cmpI x.2.2 y.2.2, cmpI x.1.l.length y.1.l.length, cmpIs x.1.l y.1.l]) (List.prefix_refl _) ?_; refine j5 tI rfl rfl (tM [cmpI x.2.2 y.2.2, cmpI x.1.l.length y.1.l.length, cmpIs x.1.l y.1.l] (by simp)) p6 mC fun _ _ => ?_; refine c7 rfl (d8 (k5 ?_)); exact ret1 () rfl (by show some _ = some (int (ordP x.dat y.dat)); rfl) rfl tK nK tK
section
variable {c : Cx} {Q : Exit → Act → World → Prop} {fr : Fr} {hp : Hp} {L : List Fact} {ops : Array Oper} {rest : List Oper}
variable {d : Tmp} {ty : TypeId} {pos : String} {af : Array Edge}
theorem vx8 {t yt : TypeId} {x y : Operand} {ky : IntKind} {z : Int} (n N : Nat) (hN : N = 2 ^ n) (hd : Nat.blt d c.n = true) (hx : ev fr x = some (int 1)) (hy : ev fr y = some (.int ky z)) (hz : z = (n : Int)) (hn : n < 60) (k : HL c ops Q rest ((d, int (N : Int)) :: fr) hp L) :
    HL c ops Q (⟨some d, .binOp .shl t x y yt, ty, pos, af, none⟩ :: rest) fr hp L :=
  q8 _ hd hx hy (fun _ => rfl) (fun w => by
    subst hz; subst hN; show (Op.shift .shl .i64 1 ky (n : Int)).run c.P w = _; have hl : 2 ^ n < 2 ^ 60 := Nat.pow_lt_pow_right (by omega) hn; have hm : min ((n : Int).toNat) (IntKind.i64.bits) = n := by show min ((n : Int).toNat) 64 = n; omega
    have hw : IntKind.i64.wrap ((2 ^ n : Nat) : Int) = ((2 ^ n : Nat) : Int) := by
      generalize 2 ^ n = q at hl; simp only [IntKind.wrap, IntKind.bits, IntKind.signed]
      simp
      omega
    simp only [Op.shift]; rw [if_neg (by omega), hm, Int.one_mul, show ((2 : Int) ^ n) = ((2 ^ n : Nat) : Int) by simp, hw]
    rfl) k
end
def linL (cs : List Cd) (ks : List Int) : List Int := ks.map fun v => (cs.getD v.toNat default).1
def priL (cs : List Cd) (ks : List Int) : List Int := ks.map fun v => (cs.getD v.toNat default).2
def handK (cs : List Cd) (s : Nat) : Hn := (pickK s cs.length, (linL cs (pickK s cs.length)).sum, (priL cs (pickK s cs.length)).sum)
def handsK (cs : List Cd) (room : Int) (k : Nat) : List Hn := ((List.range k).map (handK cs)).filter fun x => decide (x.2.1 ≤ room)
theorem iz0 (cs : List Cd) (room : Int) (k : Nat) : handsK cs room (k + 1) = if (handK cs k).2.1 ≤ room then handsK cs room k ++ [handK cs k] else handsK cs room k := by
  unfold handsK; rw [List.range_succ, List.map_append, List.filter_append]
  by_cases e : (handK cs k).2.1 ≤ room
  · rw [if_pos e]; simp [e]
  rw [if_neg e]; simp [e]
theorem kz8 (cs : List Cd) (room : Int) (k : Nat) : (handsK cs room k).length ≤ k := Nat.le_trans (List.length_filter_le _ _) (by simp)
theorem lin_at {cs : List Cd} {ks : List Int} {j : Nat} (hj : j < ks.length) : (linL cs ks).getD j default = (cs.getD (ks.getD j default).toNat default).1 := by
  have h : j < (linL cs ks).length := by simpa [linL] using hj
  rw [D7 h, D7 hj]
  simp [linL]
theorem pri_at {cs : List Cd} {ks : List Int} {j : Nat} (hj : j < ks.length) : (priL cs ks).getD j default = (cs.getD (ks.getD j default).toNat default).2 := by
  have h : j < (priL cs ks).length := by simpa [priL] using hj
  rw [D7 h, D7 hj]
  simp [priL]
theorem lin_bd {cs : List Cd} (hc : ∀ x ∈ cs, cdB x) {ks : List Int} (hk : ∀ v ∈ ks, 0 ≤ v ∧ v < (cs.length : Int)) : ∀ v ∈ linL cs ks, 0 ≤ v ∧ v ≤ 1000000000 := by
  intro v hv; obtain ⟨w, hw, rfl⟩ := List.mem_map.1 hv; have h1 := hk w hw; have h2 := hc _ (A3 (l := cs) (k := w.toNat) (by omega)); have h3 := h2.1
  omega
theorem pri_bd {cs : List Cd} (hc : ∀ x ∈ cs, cdB x) {ks : List Int} (hk : ∀ v ∈ ks, 0 ≤ v ∧ v < (cs.length : Int)) : ∀ v ∈ priL cs ks, 0 ≤ v ∧ v ≤ 1000000000 := by
  intro v hv; obtain ⟨w, hw, rfl⟩ := List.mem_map.1 hv; have h1 := hk w hw; have h2 := hc _ (A3 (l := cs) (k := w.toNat) (by omega)); have h3 := h2.2
  omega
theorem sx8 (cs : List Cd) (ks : List Int) : (linL cs ks).length = ks.length := by simp [linL]
theorem sx3 (cs : List Cd) (ks : List Int) : (priL cs ks).length = ks.length := by simp [priL]
theorem iq5 {A : Option Addr} {ca : Nat} (cs : List Cd) (room : Int) (hn : cs.length ≤ 8) (hc : ∀ x ∈ cs, cdB x) : Meets prog rM [.slice A cs.length ca, int room] { LI := [Row A (rows cs)], inv := fun x : List Hv × OutC × Hp => x.1.map Hv.dat = handsK cs room (2 ^ cs.length) ∧ Grow M7 3 x.2.1.1 x.1.length x.2.1.2 (rows x.1) x.2.2, val := fun x => .slice x.2.1.1 x.1.length x.2.1.2, hpO := fun x => x.2.2, LO := fun x => [innersF x.1 Hv.row] } := by
 refine j3 jx1 rfl t8 fun w0 => ?_; refine d9 (c7 rfl (k6 (c7 rfl (d8 (dj7 ?_))))); refine j0 (b8 rfl ?_); refine l7 rfl Q5 rfl ?_; obtain ⟨N, hN⟩ : ∃ N, N = 2 ^ cs.length := ⟨_, rfl⟩; have hN2 : N ≤ 256 := by rw [hN]; exact Nat.pow_le_pow_right (n := 2) (by omega) hn
 refine vx8 cs.length N hN rfl rfl rfl rfl (by omega) ?_; refine b8 rfl (d8 (j8 ?_)); refine yB (Fs := ([] : List Hv).map Hv.row) (by intro F hF; cases hF) ?_; refine y8 (β := Nat × List Hv × OutC × Hp) ⟨fun x => x.1 ≤ N ∧ x.2.1.map Hv.dat = handsK cs room x.1 ∧ Grow M7 3 x.2.2.1.1 x.2.1.length x.2.2.1.2 (rows x.2.1) x.2.2.2, fun x => [(0, .slice A cs.length ca), (1, int room), (5, .slice x.2.2.1.1 x.2.1.length x.2.2.1.2), (12, int (N : Int)), (13, int x.1)], fun x => x.2.2.2, fun x => [innersF x.2.1 Hv.row, Row A (rows cs)]⟩ (fun x => N - x.1) (0, [], (none, 0), []) ⟨Nat.zero_le _, rfl, Grow.nil _ _⟩ mC (.refl _) mC fun x hx => ?_; obtain ⟨k, hs, ⟨na, nc⟩, og⟩ := x; obtain ⟨hk, hd, hG⟩ := hx; simp only at hk hd hG; have hpl := yX k cs.length; have hpi : ∀ v ∈ (pickK k cs.length), 0 ≤ v ∧ v < (cs.length : Int) := fun v hv => qj8 hv; have hll : hs.length ≤ k := by rw [← List.length_map (f := Hv.dat), hd]; exact kz8 ..
 refine d9 (C4 rfl rfl rfl (d8 (i7 ?_))); refine m6 rfl (fun hb1 => ?_) (fun hb1 => ?_)
 ·have hk2 : k < N := by omega
  refine j6 (i8 (i7 (j8 (d9 (b8 rfl (c7 rfl (k6 ?_))))))); refine b8 rfl (aH (k : Int) rfl X8 vG rfl (wrap64 (by omega)) (b8 rfl (l7 rfl Q5 rfl (j5 iF rfl rfl (iH k cs.length (by omega) (by omega)) p6 tK fun gc _ => v9 _ rfl rfl (fun _ => pS ..) (B3 rfl (fun _ => kC _) fun gh => t6 (cs := #[.slice (d6 gc) (pickK k cs.length).length (pickK k cs.length).length, int 0, int 0]) rfl rfl (.refl _) E7 (by rfl) (by rfl) ?_))))); refine d8 (i7 (d9 ?_)); refine a9 ⟨_, 0, none⟩ rfl rfl G7 rfl (c8 (v := .slice (d6 gc) (pickK k cs.length).length (pickK k cs.length).length) rfl k8 rfl (m3 mB rfl) (l7 rfl l8 rfl ?_)); refine b8 rfl (d8 (j8 ?_)); refine y8 (β := Nat × Int × Int) ⟨fun x => x.1 ≤ (pickK k cs.length).length ∧ x.2.1 = ((linL cs (pickK k cs.length)).take x.1).sum ∧ x.2.2 = ((priL cs (pickK k cs.length)).take x.1).sum, fun x => [(0, .slice A cs.length ca), (1, int room), (5, .slice na hs.length nc), (7, .pointer (d6 gh)), (12, int (N : Int)), (13, int k), (23, .slice (d6 gc) (pickK k cs.length).length (pickK k cs.length).length), (24, int (pickK k cs.length).length), (25, int x.1)], fun x => (gh, Obj.cells #[.slice (d6 gc) (pickK k cs.length).length (pickK k cs.length).length, int x.2.1, int x.2.2] M7 (0, 0)) :: og, fun _ => [Row (d6 gc) (rows (pickK k cs.length)), innersF hs Hv.row, Row A (rows cs)]⟩ (fun x => (pickK k cs.length).length - x.1) (0, 0, 0) ⟨Nat.zero_le _, rfl, rfl⟩ mC (.refl _) mC fun x hx => ?_; obtain ⟨j, a, b⟩ := x; obtain ⟨hj, ha, hb⟩ := hx; simp only at hj ha hb; have ha1 := ax1 (lin_bd hc hpi) j; have hb1' := ax1 (pri_bd hc hpi) j; rw [← ha] at ha1; rw [← hb] at hb1'; refine d9 (C4 rfl rfl rfl (d8 (i7 ?_))); refine m6 rfl (fun hb2 => ?_) (fun hb2 => ?_)
  ·have hj2 : j < (pickK k cs.length).length := by omega
   have hvj := hpi _ (A3 hj2); obtain ⟨v, hv⟩ : ∃ v : Nat, ((pickK k cs.length).getD j default) = (v : Int) := ⟨_, (Int.toNat_of_nonneg hvj.1).symm⟩; have hv2 : v < cs.length := by omega
   have hcv := hc _ (A3 hv2); have hcl := hcv.1; have hcp := hcv.2; have ha2 := xO (l := linL cs (pickK k cs.length)) (k := j) (by rw [sx8]; exact hj2); rw [← ha, lin_at hj2, hv, Int.toNat_natCast] at ha2; have hb2' := xO (l := priL cs (pickK k cs.length)) (k := j) (by rw [sx3]; exact hj2); rw [← hb, pri_at hj2, hv, Int.toNat_natCast] at hb2'; refine j6 (i8 (i7 (j8 (d9 ?_)))); refine r8 (α := Int) _ _ rfl l8 m9 rfl rfl rfl mB rfl (by omega) (by decide) (c8 rfl b9 rfl (k9 mB (j9 (by omega) rfl)) ?_); refine c7 rfl (d8 ?_); refine Y4 ([(gh, Obj.cells #[.slice (d6 gc) (pickK k cs.length).length (pickK k cs.length).length, int a, int b] M7 (0, 0))]) (og) p6 18 [17, 1000009, 1000001] mixed (by decide) (by decide) (by decide) rfl rfl rfl (k7 (fun w1 => a9 ⟨_, 1, none⟩ rfl rfl V3 rfl (q_z rfl)) ?_); refine hb_rd (int a) rfl rfl rfl ?_ ?_
   ·intro w1; refine c8 (v := int a) rfl b9 rfl (l4 mB rfl) (j4 ?_); exact I7 rfl
   refine u4 rfl (u4 rfl (k7 (fun w1 => r8 (α := Cd) cs v rfl Q5 aS rfl rfl hv (List.mem_append_right _ mC) rfl hv2 (by decide) (q_z rfl)) (k7 (fun w1 => a9 _ rfl rfl rW rfl (q_z rfl)) (k7 (fun w1 => c8 (v := int (cs.getD v default).1) rfl b9 rfl (k9 (List.mem_append_right _ mC) (j9 hv2 rfl)) (q_z rfl)) ?_))))
   apply V6 _ rfl rfl rfl
   ·intro w1; intro _ _; refine v8 (a := a) (b := (cs.getD v default).1) (a + (cs.getD v default).1) rfl rfl rfl rfl r6 (j4 ?_); exact I7 rfl
   refine k7 (fun w1 => a9 ⟨_, 2, none⟩ rfl rfl H9 rfl (q_z rfl)) ?_; refine hb_rd (int b) rfl rfl rfl ?_ ?_
   ·intro w1; refine c8 (v := int b) rfl b9 rfl (l4 mB rfl) (j4 ?_); exact I7 rfl
   refine u4 rfl (u4 rfl (k7 (fun w1 => r8 (α := Cd) cs v rfl Q5 aS rfl rfl hv (List.mem_append_right _ mC) rfl hv2 (by decide) (q_z rfl)) (k7 (fun w1 => a9 _ rfl rfl rV rfl (q_z rfl)) (k7 (fun w1 => c8 (v := int (cs.getD v default).2) rfl b9 rfl (G1 (List.mem_append_right _ mC) (rows_get hv2 (j := 1) rfl)) (q_z rfl)) ?_))))
   apply V6 _ rfl rfl rfl
   ·intro w1; intro _ _; refine v8 (a := b) (b := (cs.getD v default).2) (b + (cs.getD v default).2) rfl rfl rfl rfl r6 (j4 ?_); exact I7 rfl
   refine k7 (fun w1 => a9 ⟨_, 1, none⟩ rfl rfl V3 rfl (q_z rfl)) ?_; refine hb_st ⟨Unit, fun _ => True, fun _ => undef, fun _ => [], fun _ => [(gh, Obj.cells ((#[.slice (d6 gc) (pickK k cs.length).length (pickK k cs.length).length, int a, int b]).setIfInBounds 1 (int (a + (cs.getD v default).1))) M7 (0, 0))]⟩ rfl rfl ?_ ?_
   ·skip; intro w1
    refine z8 rfl rfl (.refl _) m9 rfl rfl (j4 ?_); exact Q3 () tK (fun h => by cases h) (.refl _) tK
   refine E1 ⟨rfl, ?_⟩; intro _ _ _ _ _ _; refine a9 ⟨_, 2, none⟩ rfl rfl H9 rfl (z8 rfl rfl (.refl _) m9 rfl rfl ?_); refine j4 (w9 (i8 (j0 ?_))); refine v8 _ rfl rfl rfl rfl r6 ?_; refine b8 rfl (j4 ?_); exact again _ (j + 1, a + (cs.getD v default).1, b + (cs.getD v default).2) ⟨by show j + 1 ≤ _; omega, ha2.symm, hb2'.symm⟩ (C8 (by omega)) mC (.refl _) mC
  have hj2 : j = (pickK k cs.length).length := by omega
  rw [hj2, List.take_of_length_le (Nat.le_of_eq (sx8 ..))] at ha; rw [hj2, List.take_of_length_le (Nat.le_of_eq (sx3 ..))] at hb; have hX : Hv.dat ((⟨some ⟨gc, 0, none⟩, (pickK k cs.length).length, (pickK k cs.length)⟩, a, b) : Hv) = handK cs k := by show (_, a, b) = _; rw [ha, hb]; rfl
  refine w8 (E4 (w6 (i8 (d9 ?_)))); refine a9 ⟨_, 1, none⟩ rfl rfl V3 rfl (c8 (v := int a) rfl b9 rfl (m3 mB rfl) ?_); refine b8 rfl (xT rfl rfl rfl (d8 ?_)); refine m6 rfl (fun hb3 => ?_) (fun hb3 => ?_)
  ·have hH : handsK cs room (k + 1) = handsK cs room k ++ [Hv.dat ((⟨some ⟨gc, 0, none⟩, (pickK k cs.length).length, (pickK k cs.length)⟩, a, b) : Hv)] := by rw [iz0, hX, if_pos (by rw [← hX]; show a ≤ room; omega)]
   refine j0 (b8 rfl ?_); refine B8 (cs := #[.slice (d6 gc) (pickK k cs.length).length (pickK k cs.length).length, int a, int b]) rfl L9 E7 rfl mB rfl ?_; refine p7 _ rfl rfl (fun _ => zJ ..) fun gS => E0 (rows [((⟨some ⟨gc, 0, none⟩, (pickK k cs.length).length, (pickK k cs.length)⟩, a, b) : Hv)]) (List.prefix_refl _) ?_; refine M2 (hp' := [(gh, Obj.cells #[.slice (d6 gc) (pickK k cs.length).length (pickK k cs.length).length, int a, int b] M7 (0, 0))]) (hs.length + 1) (rows (hs ++ [((⟨some ⟨gc, 0, none⟩, (pickK k cs.length).length, (pickK k cs.length)⟩, a, b) : Hv)])) cj5 rfl rfl rfl hG (Z2 fun q => by simp only [Option.toList_none, List.append_eq, List.cons_append, List.nil_append, List.countP_append, List.countP_cons, List.countP_nil]; omega) (Src.row (news := rows [((⟨some ⟨gc, 0, none⟩, (pickK k cs.length).length, (pickK k cs.length)⟩, a, b) : Hv)]) (m := 1) m0 rfl (M1 _) (by decide)) rfl (C9 _ _).symm (by unfold maxLen; omega) (by omega) fun A' c' og' hG' => ?_; refine c7 rfl (j4 (w9 (i8 (j0 ?_)))); refine v8 _ rfl rfl rfl rfl r6 ?_; refine b8 rfl (j4 ?_); refine kz1 (ix9 (p := ((⟨some ⟨gc, 0, none⟩, (pickK k cs.length).length, (pickK k cs.length)⟩, a, b) : Hv)) (ps := hs) (f := Hv.row) mB mB) ?_; exact again _ (k + 1, hs ++ [((⟨some ⟨gc, 0, none⟩, (pickK k cs.length).length, (pickK k cs.length)⟩, a, b) : Hv)], (A', c'), og') ⟨by show k + 1 ≤ N; omega, by show (hs ++ [((⟨some ⟨gc, 0, none⟩, (pickK k cs.length).length, (pickK k cs.length)⟩, a, b) : Hv)]).map Hv.dat = _; rw [hH, List.map_append, hd]; rfl, by show Grow M7 3 A' (hs ++ [((⟨some ⟨gc, 0, none⟩, (pickK k cs.length).length, (pickK k cs.length)⟩, a, b) : Hv)]).length c' _ og'; rw [List.length_append]; exact hG'⟩ (C8 (by omega)) ⟨rfl, rfl, by show some (Value.slice A' (hs.length + 1) c') = some (Value.slice A' (hs ++ [((⟨some ⟨gc, 0, none⟩, (pickK k cs.length).length, (pickK k cs.length)⟩, a, b) : Hv)]).length c'); rw [List.length_append]; rfl, rfl, rfl, tK⟩ (List.sublist_append_left _ _) mC
  have hH : handsK cs room (k + 1) = handsK cs room k := by rw [iz0, if_neg (by rw [← hX]; show ¬ a ≤ room; omega)]
  refine j6 (w9 (i8 (j0 ?_))); refine v8 _ rfl rfl rfl rfl r6 ?_; refine b8 rfl (j4 ?_); exact again _ (k + 1, hs, (na, nc), og) ⟨by show k + 1 ≤ N; omega, by show hs.map Hv.dat = _; rw [hH, hd], hG⟩ (C8 (by omega)) mC (.cons _ (.refl _)) mC
 have hk2 : k = N := by omega
 refine w8 (E4 (w6 (i8 (d9 (b8 rfl (c7 rfl (d8 (k5 ?_)))))))); exact ret1 (hs, (na, nc), og) rfl rfl rfl ⟨by show hs.map Hv.dat = _; rw [hd, hk2, hN], hG⟩ (.refl _) mC
end Go.Proofs.YtcdopfjiadifhaaGreatDoor
end
