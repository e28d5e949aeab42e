/- Texts. -/

import Derived.Test.YtpihanmcnmlodaaGreatDoorAAg
set_option linter.unusedVariables false
set_option linter.unusedSimpArgs false
section
namespace Go.Proofs.YtpihanmcnmlodaaGreatDoor
open Go Go.W Tryz T F
set_option maxRecDepth 20000
attribute [local irreducible] HL HC HQ HB Row Rows2 Blk Facts
set_option maxHeartbeats 1000000 in
theorem K6 {A : Option Addr} {cap g : Nat} {cp : List Value} {L0 : List Fact} {cf : Int → Int → Int} (hcb : Callable prog g) (ws : List Int) (hm : ∀ x ∈ ws, ∀ y ∈ ws, Meets prog g ([int x, int y] ++ cp) { LI := L0, val := fun _ : Unit => int (cf x y) }) (og : Hp) (hG : Grow E2 1 A ws.length cap (rows ws) og) (hn : ws.length ≤ 1000000) :
    Meets prog A3 [.slice A ws.length cap, int (0 : Nat), int ws.length, .func (.func g) #[] cp.toArray] { hpI := og, LI := L0, inv := fun x : List Int × Hp => Srtd cf ws x.1 ∧ Grow E2 1 A x.1.length cap (rows x.1) x.2, val := fun _ => .tuple #[], hpO := fun x => x.2 } := by
 refine d5 L9 rfl r4 fun w0 => ?_; refine c5 (b3 rfl ?_); refine w5 ((1 : Nat) : Int) rfl rfl rfl (by rfl) q8 ?_; refine b7 rfl (b5 (i5 ?_)); refine v6 (β := Nat × List Int × Hp) ⟨fun x => 1 ≤ x.1 ∧ x.2.1.Perm ws ∧ (Pre cf → sortTo cf x.2.1 x.1) ∧ Grow E2 1 A x.2.1.length cap (rows x.2.1) x.2.2, fun x => [(0, .slice A ws.length cap), (1, int (0 : Nat)), (2, int ws.length), (3, .func (.func g) #[] cp.toArray), (8, int x.1)], fun x => x.2.2, fun _ => L0⟩ (fun x => ws.length - x.1) (1, ws, og) ⟨Nat.le_refl _, .refl _, fun _ p q h1 h2 => by omega, hG⟩ mC (by first | (rw [List.append_nil]; exact List.Sublist.refl _) | exact List.Sublist.refl _) (LSub.of_mem fun F hF => by first | exact hF | exact List.mem_cons_of_mem _ hF | exact List.mem_append_right _ hF | simp [hF]) fun x hx => ?_; clear hG; obtain ⟨i, l, og⟩ := x; obtain ⟨hi0, hP, hS, hG⟩ := hx; simp only at hi0 hP hS hG; have hll : l.length = ws.length := hP.length_eq; refine c6 (c5 (b3 rfl (b3 rfl (y5 rfl rfl rfl (b5 ?_)))))
 first | refine i6 rfl (fun hb1 => ?_) (fun hb1 => ?_) | refine c8 rfl (fun hb1 => ?_) (fun hb1 => ?_)
 ·have hb1' := hb1; try simp at hb1'
  have hi : i < ws.length := by omega
  obtain ⟨gd, cur, e1, e2, hnc, hcm, hcs, hct, _⟩ := hG.open_ (by omega); subst e1; subst e2; rw [hll] at hnc; refine c4 (c3 (c6 (i5 (c5 (b3 rfl (b7 rfl (b5 (i5 ?_)))))))); refine v6 (β := Nat × List Int × Array Value) ⟨fun x => x.1 ≤ i ∧ x.2.1.Perm ws ∧ (Pre cf → InsO cf x.2.1 i x.1) ∧ x.2.2.size = cap * 1 ∧ x.2.2.toList.take (x.2.1.length * 1) = rows x.2.1, fun x => [(0, .slice (n9 gd) ws.length cap), (1, int (0 : Nat)), (2, int ws.length), (3, .func (.func g) #[] cp.toArray), (8, int i), (9, int x.1)], fun x => [(gd, Obj.cells x.2.2 E2 (0, 0))], fun _ => L0⟩ (fun x => x.1) (i, l, cur) ⟨Nat.le_refl _, hP, fun hp => .start (hS hp), hcs, hct⟩ mC (List.Sublist.refl _) (LSub.of_mem fun F hF => by first | exact hF | exact List.mem_cons_of_mem _ hF | exact List.mem_append_right _ hF | simp [hF]) fun x hx => ?_; clear hG hS hcs hct hP hll; obtain ⟨j, l, cur⟩ := x; obtain ⟨hj, hP, hS, hcs, hct⟩ := hx; simp only at hj hP hS hcs hct; have hll : l.length = ws.length := hP.length_eq; have hin : ∀ k, k < l.length → l.getD k default ∈ ws := fun k hk => hP.subset (r7 hk); refine cH (G4 14 mixed (by decide) (by decide) rfl rfl (p8 rfl (p8 rfl (s7 (fun w1 => G6 rfl rfl rfl (q_z rfl)) (p8 rfl ?_))))); refine vQ (t := 21) (want := true) rfl ?_ ?_
  ·intro hg1; have hg1' := hg1; try simp at hg1'
   obtain ⟨k, rfl⟩ : ∃ k, j = k + 1 := ⟨j - 1, by simp at hg1; omega⟩
   apply k9 _ rfl rfl rfl
   ·intro w1; refine j0 hg1 (b3 rfl (b6 ?_)); exact h9 rfl
   apply k9 _ rfl rfl rfl
   ·intro w1; refine j0 hg1 (b3 rfl (b6 ?_)); exact h9 rfl
   apply k9 _ rfl rfl rfl
   ·intro w1; refine j0 hg1 (b3 rfl (b6 ?_)); exact h9 rfl
   apply k9 _ rfl rfl rfl
   ·intro w1; refine j0 hg1 (D3 (k + 1) (k + 1) rfl r5 w6 rfl rfl rfl (by omega) (by omega) (b6 ?_)); exact h9 rfl
   apply k9 _ rfl rfl rfl
   ·intro w1; refine j0 hg1 (a7 (v := int (l.getD (k + 1) default)) rfl a6 rfl (d4 mB (qS rfl hct (by omega) rfl rfl)) (b6 ?_)); exact h9 rfl
   apply k9 _ rfl rfl rfl
   ·intro w1; refine j0 hg1 (b3 rfl (b6 ?_)); exact h9 rfl
   apply k9 _ rfl rfl rfl
   ·intro w1; refine j0 hg1 (b3 rfl (b6 ?_)); exact h9 rfl
   apply k9 _ rfl rfl rfl
   ·intro w1; refine j0 hg1 (J4 (k : Int) rfl rfl rfl (by omega) q8 (b6 ?_)); exact h9 rfl
   apply k9 _ rfl rfl rfl
   ·intro w1; refine j0 hg1 (D3 (k) (k) rfl r5 w6 rfl rfl rfl (by omega) (by omega) (b6 ?_)); exact h9 rfl
   apply k9 _ rfl rfl rfl
   ·intro w1; refine j0 hg1 (a7 (v := int (l.getD (k) default)) rfl a6 rfl (d4 mB (qS rfl hct (by omega) rfl rfl)) (b6 ?_)); exact h9 rfl
   refine A9 ⟨rfl, ?_⟩; refine j0 hg1 ?_; refine G3 (vs := [int (l.getD (k + 1) default), int (l.getD (k) default)]) (cap := cp) hcb rfl rfl rfl (hm _ (hin (k + 1) (by omega)) _ (hin k (by omega))) p9 (LSub.of_mem fun F hF => by first | exact hF | exact List.mem_cons_of_mem _ hF | exact List.mem_append_right _ hF | simp [hF]) fun _ _ => ?_; refine j0 hg1 (y5 rfl rfl rfl ?_); refine p_t rfl rfl (bt1 hg1) rfl (b5 ?_)
   first | refine i6 rfl (fun hb2 => ?_) (fun hb2 => ?_) | refine c8 rfl (fun hb2 => ?_) (fun hb2 => ?_)
   ·have hb2' := hb2; try simp at hb2'
    refine c4 (c3 (c6 (i5 ?_))); refine J6 ([(gd, Obj.cells cur E2 (0, 0))]) ([]) p9 16 [15, 1000013, 1000009] mixed (by decide) (by decide) (by decide) rfl rfl rfl (p8 rfl (p8 rfl (p8 rfl (p8 rfl (s7 (fun w1 => J4 (k : Int) rfl rfl rfl (by omega) q8 (q_z rfl)) (p8 rfl (p8 rfl (s7 (fun w1 => J4 (k : Int) rfl rfl rfl (by omega) q8 (q_z rfl)) (s7 (fun w1 => D3 (k) (k) rfl r5 w6 rfl rfl rfl (by omega) (by omega) (q_z rfl)) ?_))))))))); refine hb_rd (int (l.getD (k) default)) rfl rfl rfl ?_ ?_
    ·intro w1; refine a7 (v := int (l.getD (k) default)) rfl a6 rfl (d4 mB (qS rfl hct (by omega) rfl rfl)) (b6 ?_); exact h9 rfl
    refine p8 rfl (p8 rfl (s7 (fun w1 => D3 (k + 1) (k + 1) rfl r5 w6 rfl rfl rfl (by omega) (by omega) (q_z rfl)) ?_)); refine hb_rd (int (l.getD (k + 1) default)) rfl rfl rfl ?_ ?_
    ·intro w1; refine a7 (v := int (l.getD (k + 1) default)) rfl a6 rfl (d4 mB (qS rfl hct (by omega) rfl rfl)) (b6 ?_); exact h9 rfl
    refine s7 (fun w1 => D3 (k + 1) (k + 1) rfl r5 w6 rfl rfl rfl (by omega) (by omega) (q_z rfl)) ?_; refine hb_st ⟨Unit, fun _ => True, fun _ => undef, fun _ => [], fun _ => [(gd, Obj.cells (cur.setIfInBounds (k + 1) (int (l.getD (k) default))) E2 (0, 0))]⟩ rfl rfl ?_ ?_
    ·intro _ _; intro w1; refine D4 rfl rfl (.refl _) w6 (qS rfl hct (show k + 1 < l.length by omega) rfl rfl) (by rfl) (b6 ?_); exact W6 () tK (fun h => by cases h) (.refl _) tK
    refine A9 ⟨rfl, ?_⟩; intro _ _ _ _ _ _; have hct1 := put_1 (α := Int) (k := k + 1) (a := (l.getD (k) default)) rfl rfl hct; refine D3 (k) (k) rfl r5 w6 rfl rfl rfl (by omega) (by omega) ?_; refine D4 rfl rfl (.refl _) w6 (qS rfl hct1 (show k < _ by simp; omega) rfl rfl) (by rfl) ?_; have hct2 := put_1 (α := Int) (k := k) (a := (l.getD (k + 1) default)) rfl rfl hct1; refine b6 (u4 (c3 (c7 (b3 rfl ?_)))); refine J4 (k : Int) rfl rfl rfl (by omega) q8 ?_; refine b7 rfl (b6 ?_); exact again _ (k, exc l k, (cur.setIfInBounds (k + 1) (int (l.getD (k) default))).setIfInBounds k (int (l.getD (k + 1) default))) ⟨by show k ≤ i; omega, (dx8 (by omega)).trans hP, fun hp => (hS hp).swap hp (by omega) hj (by simpa using hb2), by show (Array.setIfInBounds _ _ _).size = _; rw [Array.size_setIfInBounds, Array.size_setIfInBounds]; exact hcs, hct2⟩ (by show k < k + 1; omega) mC (List.Sublist.refl _) (LSub.of_mem fun F hF => by first | exact hF | exact List.mem_cons_of_mem _ hF | exact List.mem_append_right _ hF | simp [hF])
   have hb2' := hb2; try simp at hb2'
   refine r9 (B2 (r8 (u4 (c3 (c7 (b3 rfl ?_)))))); refine w5 _ rfl rfl rfl rfl q8 ?_; refine b7 rfl (b6 ?_); exact again _ (i + 1, l, [(gd, Obj.cells cur E2 (0, 0))]) ⟨by show 1 ≤ i + 1; omega, hP, fun hp => (hS hp).done hp hj (fun q hq hlt => by obtain rfl : k = q := (by omega); exact hb2 (by simpa using hlt)), dq4 rfl (by show l.length ≤ cap; omega) hcm hcs hct⟩ (C5 (by omega)) mC (List.Sublist.refl _) (LSub.of_mem fun F hF => by first | exact hF | exact List.mem_cons_of_mem _ hF | exact List.mem_append_right _ hF | simp [hF])
  intro hg1; have hg1' := hg1; try simp at hg1'
  have hj0 : j = 0 := by simp at hg1; omega
  subst hj0; refine s7 (fun w1 => p6 hg1 (q_z rfl)) (s7 (fun w1 => p6 hg1 (q_z rfl)) (s7 (fun w1 => p6 hg1 (q_z rfl)) (s7 (fun w1 => p6 hg1 (q_z rfl)) (s7 (fun w1 => p6 hg1 (q_z rfl)) (s7 (fun w1 => p6 hg1 (q_z rfl)) (s7 (fun w1 => p6 hg1 (q_z rfl)) (s7 (fun w1 => p6 hg1 (q_z rfl)) (s7 (fun w1 => p6 hg1 (q_z rfl)) (s7 (fun w1 => p6 hg1 (q_z rfl)) ?_))))))))); refine A9 ⟨rfl, ?_⟩; refine p6 hg1 (p6 hg1 ?_); refine p_f rfl rfl (bf2 hg1) rfl ?_; refine b5 (c_f rfl rfl (r9 (B2 (r8 (u4 (c3 (c7 (b3 rfl ?_)))))))); refine w5 _ rfl rfl rfl rfl q8 ?_; refine b7 rfl (b6 ?_); exact again _ (i + 1, l, [(gd, Obj.cells cur E2 (0, 0))]) ⟨by show 1 ≤ i + 1; omega, hP, fun hp => (hS hp).done hp hj (fun q hq => by omega), dq4 rfl (by show l.length ≤ cap; omega) hcm hcs hct⟩ (C5 (by omega)) mC (List.Sublist.refl _) (LSub.of_mem fun F hF => by first | exact hF | exact List.mem_cons_of_mem _ hF | exact List.mem_append_right _ hF | simp [hF])
 have hb1' := hb1; try simp at hb1'
 refine r9 (B2 (r8 ?_)); exact ret0n (l, og) rfl rfl rfl ⟨⟨hP, fun hp p q h1 h2 => hS hp p q h1 (by have h3 : q < l.length := h2; omega)⟩, hG⟩ (List.Sublist.refl _) tK
theorem Q6 {A : Option Addr} {cap g : Nat} {cp : List Value} {L0 : List Fact} {cf : Int → Int → Int} (hcb : Callable prog g) (ws : List Int) (hm : ∀ x ∈ ws, ∀ y ∈ ws, Meets prog g ([int x, int y] ++ cp) { LI := L0, val := fun _ : Unit => int (cf x y) }) (og : Hp) (hG : Grow E2 1 A ws.length cap (rows ws) og) (hn : ws.length < 20) : Meets prog D7 [.slice A ws.length cap, int ws.length, .func (.func g) #[] cp.toArray] { hpI := og, LI := L0, inv := fun x : List Int × Hp => Srtd cf ws x.1 ∧ Grow E2 1 A x.1.length cap (rows x.1) x.2, val := fun _ => .tuple #[], hpO := fun x => x.2 } := by
 refine d5 U8 rfl r4 fun w0 => ?_; refine c5 (b7 rfl (l7 (b3 rfl (b7 rfl (b7 rfl (b5 ?_)))))); refine c6 (i5 ?_); refine v6 (β := Unit) ⟨fun _ => True, fun _ => [(0, .slice A ws.length cap), (1, int ws.length), (2, .func (.func g) #[] cp.toArray), (6, int 20), (7, int (0 : Nat)), (8, int 20)], fun _ => og, fun _ => L0⟩ (fun _ => 0) () tK mC (by first | (rw [List.append_nil]; exact List.Sublist.refl _) | exact List.Sublist.refl _) (LSub.of_mem fun F hF => by first | exact hF | exact List.mem_cons_of_mem _ hF | exact List.mem_append_right _ hF | simp [hF]) fun _ _ => ?_; refine c6 (c5 (b3 rfl (b3 rfl (zQ rfl rfl rfl (b5 ?_)))))
 first | refine i6 rfl (fun hb1 => ?_) (fun hb1 => ?_) | refine c8 rfl (fun hb1 => ?_) (fun hb1 => ?_)
 ·exact absurd hb1 (by omega)
 have hb1' := hb1; try simp at hb1'
 refine r9 (B2 (r8 (c3 (c5 (b3 rfl (b3 rfl (b3 rfl (b3 rfl ?_)))))))); refine h8 (hpR := []) K8 rfl rfl (K6 hcb ws hm og hG (by omega)) (by first | (rw [List.append_nil]; done) | (rw [List.append_nil]; exact List.Perm.refl _) | exact List.Perm.refl _) (LSub.of_mem fun F hF => by first | exact hF | exact List.mem_cons_of_mem _ hF | exact List.mem_append_right _ hF | simp [hF]) fun x hx => ?_; refine b5 (i5 ?_); refine v6 (β := Unit) ⟨fun _ => True, fun _ => [(0, .slice A ws.length cap), (1, int ws.length), (6, int 20)], fun _ => x.2, fun _ => []⟩ (fun _ => 0) () tK mC (by first | (rw [List.append_nil]; exact List.Sublist.refl _) | exact List.sublist_append_left _ _) tK fun _ _ => ?_; refine c6 (c5 (b3 rfl (b3 rfl (y5 rfl rfl rfl (b5 ?_)))))
 first | refine i6 rfl (fun hb2 => ?_) (fun hb2 => ?_) | refine c8 rfl (fun hb2 => ?_) (fun hb2 => ?_)
 ·exact absurd hb2 (by omega)
 have hb2' := hb2; try simp at hb2'
 refine r9 (B2 (r8 ?_)); exact ret0n x rfl rfl rfl hx (List.Sublist.refl _) tK
theorem O6 {A : Option Addr} {cap g : Nat} {cp : List Value} {L0 : List Fact} {cf : Int → Int → Int} (hcb : Callable prog g) (ws : List Int) (hm : ∀ x ∈ ws, ∀ y ∈ ws, Meets prog g ([int x, int y] ++ cp) { LI := L0, val := fun _ : Unit => int (cf x y) }) (og : Hp) (hG : Grow E2 1 A ws.length cap (rows ws) og) (hn : ws.length < 20) : Meets prog C4 [.slice A ws.length cap, .func (.func g) #[] cp.toArray] { hpI := og, LI := L0, inv := fun x : List Int × Hp => Srtd cf ws x.1 ∧ Grow E2 1 A x.1.length cap (rows x.1) x.2, val := fun _ => .tuple #[], hpO := fun x => x.2 } := by
 refine d5 P9 rfl r4 fun w0 => ?_; refine c7 (b3 rfl (b3 rfl ?_)); refine i7 rfl r5 rfl (b3 rfl ?_); refine h8 (hpR := []) R4 rfl rfl (Q6 hcb ws hm og hG hn) (by first | (rw [List.append_nil]; done) | (rw [List.append_nil]; exact List.Perm.refl _) | exact List.Perm.refl _) (LSub.of_mem fun F hF => by first | exact hF | exact List.mem_cons_of_mem _ hF | exact List.mem_append_right _ hF | simp [hF]) fun x hx => ?_; refine b6 ?_; exact ret0n x rfl rfl rfl hx (List.sublist_append_left _ _) tK
def behindP (x : Lst) (m : Mk) : Lst := (if m.1 = 3 then x.1 else x.1 + 1, m :: x.2)
def leastP (f : Lst) (l : List Lst) : Lst := l.foldl (fun f x => if cmpL x f < 0 then x else f) f
def leastOf : List Lst → Lst
  | [] => (0, [])
  | f :: l => leastP f l
def diffP (old page : List Str) (i j : Nat) : Lst :=
  leastOf ((if i = old.length ∧ j = page.length then [(0, [])] else []) ++
    (if h : j < page.length then [behindP (diffP old page i (j + 1)) (1, (i : Int), page.getD j default)] else []) ++
    (if h : i < old.length then [behindP (diffP old page (i + 1) j) (3, (i : Int), [])] else []) ++
    (if h : i < old.length ∧ j < page.length then behindP (diffP old page (i + 1) (j + 1)) (2, (i : Int), page.getD j default) :: (if old.getD i default = page.getD j default then [diffP old page (i + 1) (j + 1)] else []) else []))
termination_by (old.length - i) + (page.length - j)
decreasing_by all_goals omega
theorem yH (f : Lst) (l : List Lst) : leastP f l ∈ f :: l := by
  unfold leastP
  induction l generalizing f with
  | nil => simp
  | cons x l ih =>
    rw [List.foldl_cons]; have := ih (if cmpL x f < 0 then x else f)
    rcases List.mem_cons.1 this with h | h
    · rw [h]; split <;> simp
    simp [h]
theorem aA {l : List Lst} (h : l ≠ []) : leastOf l ∈ l := by
  cases l with
  | nil => exact absurd rfl h
  | cons f l => exact yH f l
theorem yG (f : LstV) (l : List LstV) : (leastV f l).dat = leastP f.dat (l.map LstV.dat) := by
  unfold leastV leastP
  induction l generalizing f with
  | nil => rfl
  | cons x l ih =>
    rw [List.foldl_cons, ih, List.map_cons, List.foldl_cons]
    congr 1
    split <;> rfl
theorem az2 {f : LstV} {l : List LstV} {c : List Lst} (h : (f :: l).map LstV.dat = c) : (leastV f l).dat = leastOf c := by
  rw [← h, yG]; rfl
theorem dY (old page : List Str) : ∀ (d i j : Nat), (old.length - i) + (page.length - j) ≤ d → 0 ≤ (diffP old page i j).1 ∧ (diffP old page i j).1 ≤ (old.length - i : Nat) + (page.length - j : Nat) ∧ (diffP old page i j).2.length ≤ (old.length - i) + (page.length - j) := by
  intro d
  induction d with
  | zero =>
    intro i j h; unfold diffP; rw [dif_neg (by omega), dif_neg (by omega), dif_neg (by omega)]
    split <;> simp [leastOf, leastP] <;> omega
  | succ d ih =>
    intro i j h
    have key : ∀ c : List Lst, (∀ x ∈ c, 0 ≤ x.1 ∧ x.1 ≤ (old.length - i : Nat) + (page.length - j : Nat) ∧ x.2.length ≤ (old.length - i) + (page.length - j)) → 0 ≤ (leastOf c).1 ∧ (leastOf c).1 ≤ (old.length - i : Nat) + (page.length - j : Nat) ∧ (leastOf c).2.length ≤ (old.length - i) + (page.length - j) := by
      intro c hc
      by_cases hn : c = []
      · subst hn; simp [leastOf]; omega
      exact hc _ (aA hn)
    have bh : ∀ (x : Lst) (m : Mk) (N : Nat), 0 ≤ x.1 ∧ x.1 ≤ (N : Int) ∧ x.2.length ≤ N → 0 ≤ (behindP x m).1 ∧ (behindP x m).1 ≤ ((N + 1 : Nat) : Int) ∧ (behindP x m).2.length ≤ N + 1 := by
      intro x m N hx; unfold behindP; refine ⟨?_, ?_, ?_⟩
      · simp only; split <;> omega
      · simp only; split <;> omega
      simp only [List.length_cons]; omega
    unfold diffP; refine key _ fun x hx => ?_; simp only [List.mem_append] at hx
    rcases hx with ((hx | hx) | hx) | hx
    · split at hx
      · simp at hx; subst hx; simp; omega
      simp at hx
    · split at hx
      · rename_i hj
        simp at hx; subst hx
        have := bh (diffP old page i (j + 1)) (1, (i : Int), page.getD j default) ((old.length - i) + (page.length - (j + 1))) (by have := ih i (j + 1) (by omega); omega); have e : page.length - j = page.length - (j + 1) + 1 := by omega
        simp only [List.getD_eq_getElem?_getD] at this
        omega
      simp at hx
    · split at hx
      · rename_i hj
        simp at hx; subst hx
        have := bh (diffP old page (i + 1) j) (3, (i : Int), ([] : Str)) ((old.length - (i + 1)) + (page.length - j)) (by have := ih (i + 1) j (by omega); omega)
        omega
      simp at hx
    split at hx
    · rename_i hj
      have h2 := ih (i + 1) (j + 1) (by omega)
      rcases List.mem_cons.1 hx with hx | hx
      · subst hx
        have := bh (diffP old page (i + 1) (j + 1)) (2, (i : Int), page.getD j default) ((old.length - (i + 1)) + (page.length - (j + 1))) (by omega)
        omega
      split at hx
      · simp at hx; subst hx; omega
      simp at hx
    simp at hx
abbrev Memo := List (Ment (Int × Int))
def MI (old page : List Str) (l : Memo) (Fs : List Fact) : Prop := ∀ e ∈ l, ∃ (x : LstV) (i j : Nat), e.2.1 = x.v ∧ x.row ∈ Fs ∧ e.1 = ((i : Int), (j : Int)) ∧ x.dat = diffP old page i j
theorem MI.mono {old page : List Str} {l : Memo} {Fs Gs : List Fact} (h : MI old page l Fs) (hs : ∀ F ∈ Fs, F ∈ Gs) : MI old page l Gs := fun e he => by
  obtain ⟨x, i, j, h1, h2, h3⟩ := h e he; exact ⟨x, i, j, h1, hs _ h2, h3⟩
theorem MI.get {old page : List Str} {l : Memo} {Fs : List Fact} (h : MI old page l Fs) {i j : Nat} {v : Value} (hv : getM l ((i : Int), (j : Int)) = some v) : ∃ x : LstV, v = x.v ∧ x.row ∈ Fs ∧ x.dat = diffP old page i j := by
  obtain ⟨e, he, h1, h2⟩ := vS hv; obtain ⟨x, i', j', h3, h4, h5, h6⟩ := h e he; rw [h1] at h5; simp only [Prod.mk.injEq, Int.natCast_inj] at h5; obtain ⟨rfl, rfl⟩ := h5; exact ⟨x, h2 ▸ h3, h4, h6⟩
theorem MI.put {old page : List Str} {l : Memo} {Fs : List Fact} (h : MI old page l Fs) {i j clk : Nat} {x : LstV} (hx : x.row ∈ Fs) (hd : x.dat = diffP old page i j) : MI old page (putM l ((i : Int), (j : Int)) x.v clk) Fs := fun e he => by
  rcases cz3 he with ⟨h1, h2⟩ | he
  · exact ⟨x, i, j, h2, hx, h1, hd⟩
  exact h e he
theorem zv_list (w : World) : (zeroValue p7).run prog w = .ok (.agg #[int 0, .slice none 0 0]) w := u3
abbrev KP : KeyC prog B1 pair := KeyC.pair uU dH w6
def capV (gk go gp gf : Nat) : Value := .func (.func N3) #[] #[.pointer (n9 gk), .pointer (n9 go), .pointer (n9 gp), .pointer (n9 gf)]
def cellsD (gk gm go gp gf : Nat) (A B : Option Addr) (n ca m cb : Nat) : List Fact :=
  [Blk gk (.cells #[.map (some gm)] C7 (0, 0)), Blk go (.cells #[.slice A n ca] H5 (0, 0)), Blk gp (.cells #[.slice B m cb] H5 (0, 0)), Blk gf (.cells #[capV gk go gp gf] E3 (0, 0))]
def diffCon (gk gm go gp gf : Nat) (A B : Option Addr) (ca cb : Nat) (old page : List Str) (l : Memo) (clk : Nat) (Fs : List Fact) (i j : Nat) : Con (Memo × Nat × List Fact × LstV) :=
  { hpI := [(gm, mapO pair l clk)], LI := Facts Fs :: Row A (rows old) :: Row B (rows page) :: cellsD gk gm go gp gf A B old.length ca page.length cb,
    inv := fun x => MI old page x.1 x.2.2.1 ∧ x.2.2.2.dat = diffP old page i j, val := fun x => x.2.2.2.v, hpO := fun x => [(gm, mapO pair x.1 x.2.1)], LO := fun x => [x.2.2.2.row, Facts x.2.2.1] }
def argD (gk go gp gf : Nat) (i j : Nat) : List Value := [int i, int j, .pointer (n9 gk), .pointer (n9 go), .pointer (n9 gp), .pointer (n9 gf)]
def cand0 (old page : List Str) (i j : Nat) : List Lst := if i = old.length ∧ j = page.length then [(0, [])] else []
def cand1 (old page : List Str) (i j : Nat) : List Lst := cand0 old page i j ++ (if j < page.length then [behindP (diffP old page i (j + 1)) (1, (i : Int), page.getD j default)] else [])
def cand2 (old page : List Str) (i j : Nat) : List Lst := cand1 old page i j ++ (if i < old.length then [behindP (diffP old page (i + 1) j) (3, (i : Int), [])] else [])
def cand3 (old page : List Str) (i j : Nat) : List Lst := cand2 old page i j ++ (if i < old.length ∧ j < page.length then behindP (diffP old page (i + 1) (j + 1)) (2, (i : Int), page.getD j default) :: (if old.getD i default = page.getD j default then [diffP old page (i + 1) (j + 1)] else []) else [])
theorem dz3 (old page : List Str) (i j : Nat) : diffP old page i j = leastOf (cand3 old page i j) := by
  rw [diffP]; simp only [dite_eq_ite, cand3, cand2, cand1, cand0]
theorem bdV {old page : List Str} {x : LstV} {i j : Nat} (h : x.dat = diffP old page i j) (ho : old.length ≤ 1000) (hp : page.length ≤ 1000) : (0 ≤ x.1 ∧ x.1 ≤ 1000000) ∧ x.2.l.length ≤ 1000000 := by
  have := dY old page _ i j (Nat.le_refl _); rw [← h] at this; obtain ⟨h1, h2, h3⟩ := this; simp only [LstV.dat] at h1 h2 h3; exact ⟨⟨h1, by omega⟩, by omega⟩
theorem pm8 {α : Type} (l : List α) (a b c : α) : ((a :: l) ++ [b, c]).Perm (l ++ [a, b, c]) := E7 fun p => by simp only [List.countP_append, List.countP_cons, List.countP_nil]; omega
theorem pm9 {α : Type} (l : List α) (s a b c : α) : (s :: a :: (l ++ [b, c])).Perm (l ++ [s, a, b, c]) := E7 fun p => by simp only [List.countP_append, List.countP_cons, List.countP_nil]; omega
theorem pm10 {α : Type} (l : List α) (a b c d : α) : (l ++ [a, b, c, d]).Perm (a :: (l ++ [b, c, d])) := E7 fun p => by simp only [List.countP_append, List.countP_cons, List.countP_nil]; omega
theorem pm11 {α : Type} (l : List α) (s a b c d : α) : (s :: a :: (l ++ [b, c, d])).Perm (l ++ [s, a, b, c, d]) := E7 fun p => by simp only [List.countP_append, List.countP_cons, List.countP_nil]; omega
theorem gj0 {old page : List Str} {i j : Nat} (hi : i ≤ old.length) (hj : j ≤ page.length) : cand3 old page i j ≠ [] := by
  unfold cand3 cand2 cand1 cand0
  by_cases h1 : j < page.length
  · simp [h1]
  by_cases h2 : i < old.length
  · simp [h2]
  have e1 : i = old.length := by omega
  have e2 : j = page.length := by omega
  simp [e1, e2]
theorem gj1 {old page : List Str} {i j : Nat} (ho : old.length ≤ 1000) (hp : page.length ≤ 1000) : ∀ x ∈ cand3 old page i j, x.2.length ≤ 1000000 := by
  have b : ∀ a b, (diffP old page a b).2.length ≤ 2000 := fun a b => by have := (dY old page _ a b (Nat.le_refl _)).2.2; omega
  intro x hx; unfold cand3 cand2 cand1 cand0 at hx; simp only [List.mem_append] at hx
  rcases hx with ((hx | hx) | hx) | hx
  · split at hx <;> simp at hx
    subst hx; simp
  · split at hx <;> simp at hx
    subst hx; have := b i (j + 1); simp only [behindP, List.length_cons]; omega
  · split at hx <;> simp at hx
    subst hx; have := b (i + 1) j; simp only [behindP, List.length_cons]; omega
  split at hx
  · rcases List.mem_cons.1 hx with hx | hx
    · subst hx; have := b (i + 1) (j + 1); simp only [behindP, List.length_cons]; omega
    split at hx <;> simp at hx
    subst hx; have := b (i + 1) (j + 1); omega
  simp at hx
theorem sU (old page : List Str) (i j : Nat) : (cand2 old page i j).length ≤ 3 := by
  have h1 : ∀ (p : Prop) [Decidable p] (x : Lst), (if p then [x] else []).length ≤ 1 := by intro p _ x; split <;> simp
  unfold cand2 cand1 cand0; rw [List.length_append, List.length_append]; have a := h1 (i = old.length ∧ j = page.length) (0, []); have b := h1 (j < page.length) (behindP (diffP old page i (j + 1)) (1, (i : Int), page.getD j default)); have c := h1 (i < old.length) (behindP (diffP old page (i + 1) j) (3, (i : Int), []))
  omega
structure DSt where
  l : Memo
  clk : Nat
  Fs : List Fact
  cs : List LstV
  o : OutC
  og : Hp
def dInv (old page : List Str) (c : List Lst) (x : DSt) : Prop := MI old page x.l x.Fs ∧ x.cs.map LstV.dat = c ∧ Grow p7 2 x.o.1 x.cs.length x.o.2 (rows x.cs) x.og ∧ (∀ y ∈ x.cs, y.row ∈ x.Fs) ∧ x.cs.length ≤ 10
abbrev dSta (gk gm go gp gf g8 g9 : Nat) (A B : Option Addr) (ca cb : Nat) (old page : List Str) (i j : Nat) (c : List Lst) : Sta DSt :=
  { inv := dInv old page c
    fr := fun x => [(0, int i), (1, int j), (2, .pointer (n9 gk)), (3, .pointer (n9 go)), (4, .pointer (n9 gp)), (5, .pointer (n9 gf)), (8, .pointer (n9 g8)), (9, .pointer (n9 g9)), (12, .slice x.o.1 x.cs.length x.o.2)]
    hp := fun x => (gm, mapO pair x.l x.clk) :: (x.og ++ [(g8, .cells #[int 0, .slice none 0 0] p7 (0, 0)), (g9, .cells #[int i, int j] B1 (0, 0))])
    L := fun x => Facts x.Fs :: Row A (rows old) :: Row B (rows page) :: cellsD gk gm go gp gf A B old.length ca page.length cb }
theorem iB {gk gm go gp gf : Nat} {A B : Option Addr} {ca cb : Nat} {old page : List Str} (ho : old.length ≤ 1000) (hpl : page.length ≤ 1000) (d : Nat) : ∀ (i j : Nat) (l : Memo) (clk : Nat) (Fs : List Fact), (old.length - i) + (page.length - j) < d → i ≤ old.length → j ≤ page.length → MI old page l Fs →
    Meets prog N3 (argD gk go gp gf i j) (diffCon gk gm go gp gf A B ca cb old page l clk Fs i j) := by
 induction d
 case zero => intro i j l clk Fs hd; omega
 rename_i d ih
 intro i j l clk Fs hd hi hj hM; refine d5 kN rfl r4 fun w0 => c5 (A5 rfl (fun _ => B7 _) fun g8 => ?_); refine l7 (b3 rfl (b3 rfl ?_)); refine C9 _ rfl rfl (fun _ => lL ..) (A5 rfl (fun _ => tF _) fun g9 => u2 rfl rfl J0 C0 (by rfl) (by rfl) ?_); refine b5 (cH ?_)
 obtain ⟨y, b, hv, hb, hy⟩ : ∃ (y : LstV) (b : Bool), (getM l ((i : Int), (j : Int))).getD (.agg #[int 0, .slice none 0 0]) = y.v ∧ (getM l ((i : Int), (j : Int))).isSome = b ∧ (b = true → y.row ∈ Fs ∧ y.dat = diffP old page i j) := by
   cases hg : getM l ((i : Int), (j : Int)) with
   | none => exact ⟨(0, ⟨none, 0, []⟩), false, rfl, rfl, by intro h; cases h⟩
   | some v =>
     obtain ⟨y, rfl, h1, h2⟩ := hM.get hg; exact ⟨y, true, rfl, rfl, fun _ => ⟨h1, h2⟩⟩
 refine c7 ?_
 first | refine a7 rfl j9 rfl (d9 mB rfl) ?_ | refine a7 rfl j9 rfl (d4 mB rfl) ?_ | refine a7 rfl j9 rfl (b9 mB (b4 (by omega) rfl)) ?_ | refine a7 rfl j9 rfl (b8 mB (rows_get (by omega) rfl)) ?_
 first | refine D6 rfl C1 C0 rfl mB (by rfl) ?_ | refine D5 rfl C1 C0 rfl mB (by rfl) ?_ | refine v8 rfl C1 C0 rfl rfl (q9 mB (u1 (by omega))) ?_
 refine ax4 (k := ((i : Int), (j : Int))) _ _ b KP rfl E8 rfl rfl (P1 m2) zv_list hv hb ?_; refine b3 rfl (l4 rfl rfl rfl (l4 rfl rfl rfl ?_)); refine A5 rfl (fun _ => B7 _) fun g10 => u2 rfl rfl J0 d3 (by rfl) (by rfl) ?_; refine b7 rfl (l7 (b3 rfl (b5 ?_)))
 first | refine i6 rfl (fun hb1 => ?_) (fun hb1 => ?_) | refine c8 rfl (fun hb1 => ?_) (fun hb1 => ?_)
 ·have hb1' := hb1; try simp at hb1'
  obtain ⟨hy1, hy2⟩ := hy hb1; refine c5 ?_
  first | refine D6 rfl i3 d3 rfl mB (by rfl) ?_ | refine D5 rfl i3 d3 rfl mB (by rfl) ?_ | refine v8 rfl i3 d3 rfl rfl (q9 mB (u1 (by omega))) ?_
  refine u2 rfl rfl J0 d3 (by rfl) (by rfl) ?_; refine b5 (C6 ?_); refine hq_pick (F := y.row) m0 hy1 ?_; exact jO (l, clk, Fs, y) rfl rfl i3 d3 rfl m0 rfl rfl ⟨hM, hy2⟩ (.cons _ (.cons _ (.cons _ (.refl _)))) ⟨m0, m1, tK⟩
 have hb1' := hb1; try simp at hb1'
 refine c4 (c3 (c5 (b7 rfl (b5 ?_)))); refine X4 (dSta gk gm go gp gf g8 g9 A B ca cb old page i j (cand0 old page i j)) ?_ ?_
 ·skip
  refine c5 (b3 rfl ?_)
  first | refine a7 rfl c9 rfl (d9 mB rfl) ?_ | refine a7 rfl c9 rfl (d4 mB rfl) ?_ | refine a7 rfl c9 rfl (b9 mB (b4 (by omega) rfl)) ?_ | refine a7 rfl c9 rfl (b8 mB (rows_get (by omega) rfl)) ?_
  refine i7 rfl j7 rfl ?_; refine D9 rfl rfl rfl (b3 rfl ?_); refine l8 rfl rfl ?_ ?_
  ·intro hg1; have hg1' := hg1; try simp at hg1'
   refine j0 hg1 (b3 rfl (j0 hg1 ?_))
   first | refine a7 rfl c9 rfl (d9 mB rfl) ?_ | refine a7 rfl c9 rfl (d4 mB rfl) ?_ | refine a7 rfl c9 rfl (b9 mB (b4 (by omega) rfl)) ?_ | refine a7 rfl c9 rfl (b8 mB (rows_get (by omega) rfl)) ?_
   refine j0 hg1 (i7 rfl j7 rfl ?_); refine j0 hg1 (D9 rfl rfl rfl ?_); refine p_t rfl rfl (bt1 hg1) rfl (b5 ?_)
   first | refine i6 rfl (fun hb2 => ?_) (fun hb2 => ?_) | refine c8 rfl (fun hb2 => ?_) (fun hb2 => ?_)
   ·have hb2' := hb2; try simp at hb2'
    refine c7 (b3 rfl ?_); refine C9 _ rfl rfl (fun _ => jM ..) (j8 _ rfl rfl (fun _ => C2 ..) fun gS => ?_); refine E6 1 (rows [((0, ⟨none, 0, []⟩) : LstV)]) E4 rfl rfl rfl (Grow.nil _ _) (.refl _) (Src.own (m := 1) m0 rfl rfl) rfl rfl (by decide) (by decide) fun A' c' og' hG' => ?_; refine b7 rfl (b6 ?_); refine sI (α := Mk) ?_
    refine dP (Fs := Row none (rows ([] : List Mk)) :: Fs) (fun F hF => by
      rcases List.mem_cons.1 hF with rfl | hF
      · exact .inl m0
      exact .inr ⟨Fs, m1, hF⟩) ?_
    exact dZ _ ⟨l, clk, _, [(0, ⟨none, 0, []⟩)], (A', c'), og'⟩ ⟨hM.mono (fun _ h => List.mem_cons_of_mem _ h), by rw [cand0, if_pos (by omega)]; rfl, hG', by simp [LstV.row], by simp⟩ mC (fun p => by simp only [int, B1, p7, diffCon, dSta, List.countP_append, List.countP_cons, List.countP_nil]; omega) ⟨m0, m3, m4, m5, m6, m7, m8, tK⟩
   have hb2' := hb2; try simp at hb2'
   refine c4 ?_; exact dZ _ ⟨l, clk, Fs, [], (none, 0), []⟩ ⟨hM, by rw [cand0, if_neg (by omega)]; rfl, Grow.nil _ _, by simp, by simp⟩ mC (fun p => by simp only [int, B1, p7, diffCon, dSta, List.countP_append, List.countP_cons, List.countP_nil]; omega) ⟨m0, m1, m2, m3, m4, m5, m6, tK⟩
  intro hg1; have hg1' := hg1; try simp at hg1'
  refine p6 hg1 (p6 hg1 (p6 hg1 (p6 hg1 ?_))); refine p_f rfl rfl (bf2 hg1) rfl ?_; refine b5 (c_f rfl rfl (c4 ?_)); exact dZ _ ⟨l, clk, Fs, [], (none, 0), []⟩ ⟨hM, by rw [cand0, if_neg (by omega)]; rfl, Grow.nil _ _, by simp, by simp⟩ mC (fun p => by simp only [int, B1, p7, diffCon, dSta, List.countP_append, List.countP_cons, List.countP_nil]; omega) ⟨m0, m1, m2, m3, m4, m5, m6, tK⟩
 refine fun x hx => ?_; obtain ⟨l, clk, Fs, cs, o, og⟩ := x; obtain ⟨hM, hcs, hG, hrow, hlen⟩ := hx; simp only at hM hcs hG hrow hlen; refine X4 (dSta gk gm go gp gf g8 g9 A B ca cb old page i j (cand1 old page i j)) ?_ ?_
 ·skip
  refine c5 (b3 rfl ?_)
  first | refine a7 rfl c9 rfl (d9 mB rfl) ?_ | refine a7 rfl c9 rfl (d4 mB rfl) ?_ | refine a7 rfl c9 rfl (b9 mB (b4 (by omega) rfl)) ?_ | refine a7 rfl c9 rfl (b8 mB (rows_get (by omega) rfl)) ?_
  refine i7 rfl j7 rfl ?_; refine y5 rfl rfl rfl (b5 ?_)
  first | refine i6 rfl (fun hb3 => ?_) (fun hb3 => ?_) | refine c8 rfl (fun hb3 => ?_) (fun hb3 => ?_)
  ·have hb3' := hb3; try simp at hb3'
   have hj3 : j < page.length := by omega
   refine J6 ((gm, mapO pair l clk) :: og) ([_, _]) p9 14 [5] mixed (by decide) (by decide) (by decide) rfl rfl rfl (p8 rfl ?_)
   apply k9 _ rfl rfl rfl
   ·intro w1
    first | refine a7 rfl i4 rfl (d4 mB rfl) ?_ | refine a7 rfl i4 rfl (d9 mB rfl) ?_ | refine a7 rfl i4 rfl (b9 mB (b4 (by omega) rfl)) ?_ | refine a7 rfl i4 rfl (b8 mB (rows_get (by omega) rfl)) ?_
    refine b6 ?_; exact h9 rfl
   refine p8 rfl (p8 rfl (s7 (fun w1 => w5 ((j + 1 : Nat) : Int) rfl rfl rfl (by omega) q8 (q_z rfl)) ?_)); refine rB ⟨Memo × Nat × List Fact × LstV, fun x => MI old page x.1 x.2.2.1 ∧ x.2.2.2.dat = diffP old page i (j + 1), fun x => x.2.2.2.v, fun x => [x.2.2.2.row, Facts x.2.2.1], fun x => (gm, mapO pair x.1 x.2.1) :: og⟩ rfl rfl rfl ?_ ?_
   ·intro w1; refine G3 (vs := [int i, int ((j + 1 : Nat) : Int)]) H8 rfl rfl rfl (ih i (j + 1) l clk Fs (by omega) hi (by omega) hM) p9 ⟨m0, m1, m2, m3, m4, m5, m6, tK⟩ fun x hx => b6 ?_; exact W6 x hx (fun _ => rfl) (.refl _) ⟨m0, m1, tK⟩
   refine p8 rfl ?_
   apply k9 _ rfl rfl rfl
   ·intro w1
    first | refine a7 rfl c9 rfl (d4 mB rfl) ?_ | refine a7 rfl c9 rfl (d9 mB rfl) ?_ | refine a7 rfl c9 rfl (b9 mB (b4 (by omega) rfl)) ?_ | refine a7 rfl c9 rfl (b8 mB (rows_get (by omega) rfl)) ?_
    refine b6 ?_; exact h9 rfl
   refine p8 rfl (s7 (fun w1 => u6 (α := Str) _ _ rfl j7 q7 rfl rfl rfl mB rfl (by omega) (by decide) (q_z rfl)) (s7 (fun w1 => a7 rfl d6 rfl (b9 mB (b4 (by omega) rfl)) (q_z rfl)) (s7 (fun w1 => C9 _ rfl rfl (fun _ => U3 ..) (q_z rfl)) ?_))); refine V7 ⟨LstV, fun y => y.dat = behindP (diffP old page i (j + 1)) (1, (i : Int), page.getD j default), fun y => .agg #[int y.1, .slice y.2.a y.2.l.length y.2.c], fun y => [y.row]⟩ rfl rfl rfl ?_ ?_
   ·intro x hx; intro w1; refine h8 G9 rfl rfl (G7 x.2.2.2 (1, (i : Int), page.getD j default) (bdV hx.2 ho hpl).1 (bdV hx.2 ho hpl).2) p9 ⟨m0, tK⟩ fun o1 ho1 => b6 ?_; exact G5 (_, ⟨o1.1, o1.2, _⟩) (by rw [← hx.2]; rfl) rfl ⟨m0, tK⟩
   refine V7 ⟨Nat × LstV, fun z => z.2.dat = behindP (diffP old page i (j + 1)) (1, (i : Int), page.getD j default), fun z => .slice (some ⟨z.1, 0, none⟩) 1 1, fun z => [Row (some ⟨z.1, 0, none⟩) (rows [z.2]), z.2.row]⟩ rfl rfl rfl ?_ ?_
   ·intro y hy; intro w1; refine j8 _ rfl rfl (fun _ => C2 ..) fun gS => b6 (bM (rows [y]) ⟨[], List.append_nil _⟩ ?_); exact G5 (gS, y) hy rfl ⟨m0, m1, tK⟩
   refine A9 ⟨rfl, ?_⟩; intro x hx y1 hy1 z hz; refine E6 (cs.length + 1) (rows (cs ++ [z.2])) E4 rfl rfl rfl hG (pm8 _ _ _ _) (Src.row (news := rows [z.2]) (m := 1) m0 rfl (U5 _) (by decide)) rfl (y4 cs [z.2]).symm (by unfold maxLen; omega) (by omega) fun A' c' og' hG' => ?_; refine b7 rfl (b6 ?_); have hl0 : cs.length ≤ 1 := by have := congrArg List.length hcs; rw [List.length_map] at this; rw [this, cand0]; split <;> simp
   refine dP (Fs := z.2.row :: (x.2.2.1 ++ Fs)) (fun F hF => by
     rcases List.mem_cons.1 hF with rfl | hF
     · exact .inl m1
     rcases List.mem_append.1 hF with hF | hF
     · exact .inr ⟨_, m4, hF⟩
     exact .inr ⟨Fs, m5, hF⟩) ?_
   exact dZ _ ⟨x.1, x.2.1, z.2.row :: (x.2.2.1 ++ Fs), cs ++ [z.2], (A', c'), og'⟩ ⟨hx.1.mono (fun F h => by simp [h]), by rw [List.map_append, hcs, cand1, if_pos hj3]; show _ ++ [z.2.dat] = _; rw [show z.2.dat = _ from hz], by rw [w8]; exact hG', fun y hy => by
     rcases List.mem_append.1 hy with h | h
     · simp [hrow y h]
     simp at h; subst h; simp, by rw [w8]; omega⟩ ⟨rfl, rfl, rfl, rfl, rfl, rfl, rfl, rfl, by rw [w8]; rfl, tK⟩ (fun p => by simp only [int, B1, p7, diffCon, dSta, List.countP_append, List.countP_cons, List.countP_nil]; omega) ⟨m0, m7, m8, m9, m10, m11, m12, tK⟩
  have hb3' := hb3; try simp at hb3'
  have hj3 : ¬ j < page.length := by omega
  refine c4 ?_; exact dZ _ ⟨l, clk, Fs, cs, o, og⟩ ⟨hM, by rw [hcs, cand1, if_neg hj3, List.append_nil], hG, hrow, hlen⟩ mC (fun p => by simp only [int, B1, p7, diffCon, dSta, List.countP_append, List.countP_cons, List.countP_nil]; omega) ⟨m0, m1, m2, m3, m4, m5, m6, tK⟩
 refine fun x hx => ?_; obtain ⟨l, clk, Fs, cs, o, og⟩ := x; obtain ⟨hM, hcs, hG, hrow, hlen⟩ := hx; simp only at hM hcs hG hrow hlen; refine X4 (dSta gk gm go gp gf g8 g9 A B ca cb old page i j (cand2 old page i j)) ?_ ?_
 ·skip
  refine c5 (b3 rfl ?_)
  first | refine a7 rfl c9 rfl (d9 mB rfl) ?_ | refine a7 rfl c9 rfl (d4 mB rfl) ?_ | refine a7 rfl c9 rfl (b9 mB (b4 (by omega) rfl)) ?_ | refine a7 rfl c9 rfl (b8 mB (rows_get (by omega) rfl)) ?_
  refine i7 rfl j7 rfl ?_; refine y5 rfl rfl rfl (b5 ?_)
  first | refine i6 rfl (fun hb4 => ?_) (fun hb4 => ?_) | refine c8 rfl (fun hb4 => ?_) (fun hb4 => ?_)
  ·have hb4' := hb4; try simp at hb4'
   have hi4 : i < old.length := by omega
   refine c7 (b3 rfl ?_)
   first | refine a7 rfl i4 rfl (d9 mB rfl) ?_ | refine a7 rfl i4 rfl (d4 mB rfl) ?_ | refine a7 rfl i4 rfl (b9 mB (b4 (by omega) rfl)) ?_ | refine a7 rfl i4 rfl (b8 mB (rows_get (by omega) rfl)) ?_
   refine b3 rfl (w5 ((i + 1 : Nat) : Int) rfl rfl rfl (by omega) q8 (b3 rfl (G3 (vs := [int ((i + 1 : Nat) : Int), int j]) H8 rfl rfl rfl (ih (i + 1) j l clk Fs (by omega) (by omega) hj hM) p9 ⟨m0, m1, m2, m3, m4, m5, m6, tK⟩ fun x hx => b3 rfl (C9 _ rfl rfl (fun _ => X0 ..) (h8 G9 rfl rfl (G7 x.2.2.2 (3, (i : Int), []) (bdV hx.2 ho hpl).1 (bdV hx.2 ho hpl).2) p9 ⟨m0, tK⟩ fun o1 ho1 => ?_))))); obtain ⟨z, hz⟩ : ∃ z : LstV, z = (x.2.2.2.1, ⟨o1.1, o1.2, (3, (i : Int), []) :: x.2.2.2.2.l⟩) := ⟨_, rfl⟩; have hzd : z.dat = behindP (diffP old page (i + 1) j) (3, (i : Int), []) := by rw [hz, ← hx.2]; rfl
   refine zY (F := z.row) (fun w hw => by rw [hz]; exact hw.fs _ m0) (fun k hk => ⟨_, m0, by rw [hz] at hk; exact hk⟩) ?_; refine j8 [(0, .agg #[int z.1, .slice z.2.a z.2.l.length z.2.c])] rfl (by rw [hz]; rfl) (fun _ => C2 ..) fun gS => ?_; refine E6 (cs.length + 1) (rows (cs ++ [z])) E4 rfl rfl rfl hG (pm9 _ _ _ _ _) (Src.own (cs := (El.cells z).toArray) (m := 1) (List.mem_append_right _ m0) rfl rfl) rfl (by rw [y4]; simp [rows]) (by unfold maxLen; omega) (by omega) fun A' c' og' hG' => ?_; refine b7 rfl (b6 ?_); have hl0 : cs.length ≤ 2 := by have := congrArg List.length hcs; rw [List.length_map] at this; rw [this, cand1, cand0, List.length_append]; split <;> split <;> simp
   refine dP (Fs := z.row :: (x.2.2.1 ++ Fs)) (fun F hF => by
     rcases List.mem_cons.1 hF with rfl | hF
     · exact .inl m0
     rcases List.mem_append.1 hF with hF | hF
     · exact .inr ⟨_, m3, hF⟩
     exact .inr ⟨Fs, m4, hF⟩) ?_
   exact dZ _ ⟨x.1, x.2.1, z.row :: (x.2.2.1 ++ Fs), cs ++ [z], (A', c'), og'⟩ ⟨hx.1.mono (fun F h => by simp [h]), by rw [List.map_append, hcs, cand2, if_pos hi4]; show _ ++ [z.dat] = _; rw [hzd], by rw [w8]; exact hG', fun y hy => by
     rcases List.mem_append.1 hy with h | h
     · simp [hrow y h]
     simp at h; subst h; simp, by rw [w8]; omega⟩ ⟨rfl, rfl, rfl, rfl, rfl, rfl, rfl, rfl, by rw [w8]; rfl, tK⟩ (fun p => by simp only [int, B1, p7, diffCon, dSta, List.countP_append, List.countP_cons, List.countP_nil]; omega) ⟨m0, m6, m7, m8, m9, m10, m11, tK⟩
  have hb4' := hb4; try simp at hb4'
  have hi4 : ¬ i < old.length := by omega
  refine c4 ?_; exact dZ _ ⟨l, clk, Fs, cs, o, og⟩ ⟨hM, by rw [hcs, cand2, if_neg hi4, List.append_nil], hG, hrow, hlen⟩ mC (fun p => by simp only [int, B1, p7, diffCon, dSta, List.countP_append, List.countP_cons, List.countP_nil]; omega) ⟨m0, m1, m2, m3, m4, m5, m6, tK⟩
 refine fun x hx => ?_; obtain ⟨l, clk, Fs, cs, o, og⟩ := x; obtain ⟨hM, hcs, hG, hrow, hlen⟩ := hx; simp only at hM hcs hG hrow hlen; refine X4 (dSta gk gm go gp gf g8 g9 A B ca cb old page i j (cand3 old page i j)) ?_ ?_
 ·skip
  refine c5 (b3 rfl ?_)
  first | refine a7 rfl c9 rfl (d9 mB rfl) ?_ | refine a7 rfl c9 rfl (d4 mB rfl) ?_ | refine a7 rfl c9 rfl (b9 mB (b4 (by omega) rfl)) ?_ | refine a7 rfl c9 rfl (b8 mB (rows_get (by omega) rfl)) ?_
  refine i7 rfl j7 rfl ?_; refine y5 rfl rfl rfl (b3 rfl ?_); refine l8 rfl rfl ?_ ?_
  ·intro hg2; have hg2' := hg2; try simp at hg2'
   refine j0 hg2 (b3 rfl (j0 hg2 ?_))
   first | refine a7 rfl c9 rfl (d9 mB rfl) ?_ | refine a7 rfl c9 rfl (d4 mB rfl) ?_ | refine a7 rfl c9 rfl (b9 mB (b4 (by omega) rfl)) ?_ | refine a7 rfl c9 rfl (b8 mB (rows_get (by omega) rfl)) ?_
   refine j0 hg2 (i7 rfl j7 rfl ?_); refine j0 hg2 (y5 rfl rfl rfl ?_); refine p_t rfl rfl (bt1 hg2) rfl (b5 ?_)
   first | refine i6 rfl (fun hb5 => ?_) (fun hb5 => ?_) | refine c8 rfl (fun hb5 => ?_) (fun hb5 => ?_)
   ·have hb5' := hb5; try simp at hb5'
    have hij : i < old.length ∧ j < page.length := by omega
    refine c5 ?_
    first | refine a7 rfl i4 rfl (d9 mB rfl) ?_ | refine a7 rfl i4 rfl (d4 mB rfl) ?_ | refine a7 rfl i4 rfl (b9 mB (b4 (by omega) rfl)) ?_ | refine a7 rfl i4 rfl (b8 mB (rows_get (by omega) rfl)) ?_
    refine b3 rfl (w5 ((i + 1 : Nat) : Int) rfl rfl rfl (by omega) q8 (b3 rfl (w5 ((j + 1 : Nat) : Int) rfl rfl rfl (by omega) q8 (G3 (vs := [int ((i + 1 : Nat) : Int), int ((j + 1 : Nat) : Int)]) H8 rfl rfl rfl (ih (i + 1) (j + 1) l clk Fs (by omega) (by omega) (by omega) hM) p9 ⟨m0, m1, m2, m3, m4, m5, m6, tK⟩ fun x hx => A5 rfl (fun _ => B7 _) fun g13 => u2 rfl rfl J0 d3 (by rfl) (by rfl) ?_)))); refine b5 (c6 ?_); refine J6 (og) ([_, _, _, _]) (pm9 _ _ _ _ _) 10 [] mixed (by decide) (by decide) (by decide) rfl rfl rfl (p8 rfl ?_)
    apply k9 _ rfl rfl rfl
    ·intro w1
     first | refine D6 rfl i3 d3 rfl mB (by rfl) ?_ | refine D5 rfl i3 d3 rfl mB (by rfl) ?_ | refine v8 rfl i3 d3 rfl rfl (q9 mB (u1 (by omega))) ?_
     refine b6 ?_; exact h9 rfl
    refine p8 rfl ?_
    apply k9 _ rfl rfl rfl
    ·intro w1
     first | refine a7 rfl c9 rfl (d4 mB rfl) ?_ | refine a7 rfl c9 rfl (d9 mB rfl) ?_ | refine a7 rfl c9 rfl (b9 mB (b4 (by omega) rfl)) ?_ | refine a7 rfl c9 rfl (b8 mB (rows_get (by omega) rfl)) ?_
     refine b6 ?_; exact h9 rfl
    refine p8 rfl (s7 (fun w1 => u6 (α := Str) _ _ rfl j7 q7 rfl rfl rfl mB rfl (by omega) (by decide) (q_z rfl)) (s7 (fun w1 => a7 rfl d6 rfl (b9 mB (b4 (by omega) rfl)) (q_z rfl)) (s7 (fun w1 => C9 _ rfl rfl (fun _ => U3 ..) (q_z rfl)) ?_))); refine V7 ⟨LstV, fun y => y.dat = behindP (diffP old page (i + 1) (j + 1)) (2, (i : Int), page.getD j default), fun y => .agg #[int y.1, .slice y.2.a y.2.l.length y.2.c], fun y => [y.row]⟩ rfl rfl rfl ?_ ?_
    ·intro w1; refine h8 G9 rfl rfl (G7 x.2.2.2 (2, (i : Int), page.getD j default) (bdV hx.2 ho hpl).1 (bdV hx.2 ho hpl).2) p9 ⟨m0, tK⟩ fun o1 ho1 => b6 ?_; exact G5 (_, ⟨o1.1, o1.2, _⟩) (by rw [← hx.2]; rfl) rfl ⟨m0, tK⟩
    refine V7 ⟨Nat × LstV, fun z => z.2.dat = behindP (diffP old page (i + 1) (j + 1)) (2, (i : Int), page.getD j default), fun z => .slice (some ⟨z.1, 0, none⟩) 1 1, fun z => [Row (some ⟨z.1, 0, none⟩) (rows [z.2]), z.2.row]⟩ rfl rfl rfl ?_ ?_
    ·intro y hy; intro w1; refine j8 _ rfl rfl (fun _ => C2 ..) fun gS => b6 (bM (rows [y]) ⟨[], List.append_nil _⟩ ?_); exact G5 (gS, y) hy rfl ⟨m0, m1, tK⟩
    refine A9 ⟨rfl, ?_⟩; intro y1 hy1 z hz; refine E6 (cs.length + 1) (rows (cs ++ [z.2])) E4 rfl rfl rfl hG p9 (Src.row (news := rows [z.2]) (m := 1) m0 rfl (U5 _) (by decide)) rfl (y4 cs [z.2]).symm (by unfold maxLen; omega) (by omega) fun A' c' og' hG' => ?_; refine b7 rfl (b5 (c6 ?_)); refine J6 (og') ([_, _, _, _]) p9 8 [] mixed (by decide) (by decide) (by decide) rfl rfl rfl ?_
    apply k9 _ rfl rfl rfl
    ·intro w1
     first | refine a7 rfl c9 rfl (d4 mB rfl) ?_ | refine a7 rfl c9 rfl (d9 mB rfl) ?_ | refine a7 rfl c9 rfl (b9 mB (b4 (by omega) rfl)) ?_ | refine a7 rfl c9 rfl (b8 mB (rows_get (by omega) rfl)) ?_
     refine b6 ?_; exact h9 rfl
    refine p8 rfl (s7 (fun w1 => u6 (α := Str) _ _ rfl j7 q7 rfl rfl rfl mB rfl (by omega) (by decide) (q_z rfl)) (s7 (fun w1 => a7 rfl d6 rfl (b9 mB (b4 (by omega) rfl)) (q_z rfl)) ?_))
    apply k9 _ rfl rfl rfl
    ·intro w1
     first | refine a7 rfl c9 rfl (d4 mB rfl) ?_ | refine a7 rfl c9 rfl (d9 mB rfl) ?_ | refine a7 rfl c9 rfl (b9 mB (b4 (by omega) rfl)) ?_ | refine a7 rfl c9 rfl (b8 mB (rows_get (by omega) rfl)) ?_
     refine b6 ?_; exact h9 rfl
    refine p8 rfl (s7 (fun w1 => u6 (α := Str) _ _ rfl j7 q7 rfl rfl rfl mB rfl (by omega) (by decide) (q_z rfl)) (s7 (fun w1 => a7 rfl d6 rfl (b9 mB (b4 (by omega) rfl)) (q_z rfl)) ?_)); refine A9 ⟨rfl, ?_⟩; refine lQ rfl rfl rfl (b5 ?_)
    first | refine i6 rfl (fun hb6 => ?_) (fun hb6 => ?_) | refine c8 rfl (fun hb6 => ?_) (fun hb6 => ?_)
    ·have hb6' := hb6; try simp at hb6'
     refine P2 (pm10 _ _ _ _ _) ?_; refine c7 (b3 rfl ?_)
     first | refine D6 rfl i3 d3 rfl mB (by rfl) ?_ | refine D5 rfl i3 d3 rfl mB (by rfl) ?_ | refine v8 rfl i3 d3 rfl rfl (q9 mB (u1 (by omega))) ?_
     refine j8 _ rfl rfl (fun _ => C2 ..) fun gS => ?_; refine E6 (cs.length + 2) (rows (cs ++ [z.2] ++ [x.2.2.2])) E4 rfl rfl rfl hG' (pm11 _ _ _ _ _ _) (Src.own (cs := (El.cells (x.2.2.2 : LstV)).toArray) (m := 1) (List.mem_append_right _ m0) rfl rfl) rfl (by rw [y4 (cs ++ [z.2])]; simp [rows]) (by unfold maxLen; omega) (by omega) fun A2 c2 og2 hG2 => ?_; refine b7 rfl (b6 ?_); have hl0 : cs.length ≤ 3 := by have := congrArg List.length hcs; rw [List.length_map] at this; rw [this]; exact sU ..
     refine dP (Fs := z.2.row :: x.2.2.2.row :: (x.2.2.1 ++ Fs)) (fun F hF => by
       rcases List.mem_cons.1 hF with rfl | hF
       · exact .inl m1
       rcases List.mem_cons.1 hF with rfl | hF
       · exact .inl m3
       rcases List.mem_append.1 hF with hF | hF
       · exact .inr ⟨_, m4, hF⟩
       exact .inr ⟨Fs, m5, hF⟩) ?_
     exact dZ _ ⟨x.1, x.2.1, z.2.row :: x.2.2.2.row :: (x.2.2.1 ++ Fs), cs ++ [z.2] ++ [x.2.2.2], (A2, c2), og2⟩ ⟨hx.1.mono (fun F h => by simp [h]), by rw [List.map_append, List.map_append, hcs, cand3, if_pos hij, if_pos hb6, List.append_assoc]; show _ ++ ([z.2.dat] ++ [LstV.dat x.2.2.2]) = _; rw [show z.2.dat = _ from hz, show LstV.dat x.2.2.2 = _ from hx.2]; rfl, by rw [w8, w8]; exact hG2, fun y hy => by
       simp only [List.mem_append, List.mem_singleton] at hy
       rcases hy with (h | h) | h
       · simp [hrow y h]
       · subst h; simp
       subst h; simp, by rw [w8, w8]; omega⟩ ⟨rfl, rfl, rfl, rfl, rfl, rfl, rfl, rfl, by rw [w8, w8]; rfl, tK⟩ (fun p => by simp only [int, B1, p7, diffCon, dSta, List.countP_append, List.countP_cons, List.countP_nil]; omega) ⟨m0, m7, m8, m9, m10, m11, m12, tK⟩
    have hb6' := hb6; try simp at hb6'
    refine c4 ?_; have hl0 : cs.length ≤ 3 := by have := congrArg List.length hcs; rw [List.length_map] at this; rw [this]; exact sU ..
    refine dP (Fs := z.2.row :: x.2.2.2.row :: (x.2.2.1 ++ Fs)) (fun F hF => by
      rcases List.mem_cons.1 hF with rfl | hF
      · exact .inl m1
      rcases List.mem_cons.1 hF with rfl | hF
      · exact .inl m3
      rcases List.mem_append.1 hF with hF | hF
      · exact .inr ⟨_, m4, hF⟩
      exact .inr ⟨Fs, m5, hF⟩) ?_
    exact dZ _ ⟨x.1, x.2.1, z.2.row :: x.2.2.2.row :: (x.2.2.1 ++ Fs), cs ++ [z.2], (A', c'), og'⟩ ⟨hx.1.mono (fun F h => by simp [h]), by rw [List.map_append, hcs, cand3, if_pos hij, if_neg hb6]; show _ ++ [z.2.dat] = _; rw [show z.2.dat = _ from hz], by rw [w8]; exact hG', fun y hy => by
      simp only [List.mem_append, List.mem_singleton] at hy
      rcases hy with h | h
      · simp [hrow y h]
      subst h; simp, by rw [w8]; omega⟩ ⟨rfl, rfl, rfl, rfl, rfl, rfl, rfl, rfl, by rw [w8]; rfl, tK⟩ (fun p => by simp only [int, B1, p7, diffCon, dSta, List.countP_append, List.countP_cons, List.countP_nil]; omega) ⟨m0, m7, m8, m9, m10, m11, m12, tK⟩
   have hb5' := hb5; try simp at hb5'
   refine c4 ?_; exact dZ _ ⟨l, clk, Fs, cs, o, og⟩ ⟨hM, by rw [hcs, cand3, if_neg (by omega), List.append_nil], hG, hrow, hlen⟩ mC (fun p => by simp only [int, B1, p7, diffCon, dSta, List.countP_append, List.countP_cons, List.countP_nil]; omega) ⟨m0, m1, m2, m3, m4, m5, m6, tK⟩
  intro hg2; have hg2' := hg2; try simp at hg2'
  refine p6 hg2 (p6 hg2 (p6 hg2 (p6 hg2 ?_))); refine p_f rfl rfl (bf2 hg2) rfl ?_; refine b5 (c_f rfl rfl (c4 ?_)); exact dZ _ ⟨l, clk, Fs, cs, o, og⟩ ⟨hM, by rw [hcs, cand3, if_neg (by omega), List.append_nil], hG, hrow, hlen⟩ mC (fun p => by simp only [int, B1, p7, diffCon, dSta, List.countP_append, List.countP_cons, List.countP_nil]; omega) ⟨m0, m1, m2, m3, m4, m5, m6, tK⟩
 refine fun x hx => ?_; obtain ⟨l, clk, Fs, cs, o, og⟩ := x; obtain ⟨hM, hcs, hG, hrow, hlen⟩ := hx; simp only at hM hcs hG hrow hlen; refine c6 ?_; have hne : cand3 old page i j ≠ [] := gj0 hi hj; have hbd := gj1 (i := i) (j := j) ho hpl
 obtain ⟨f, r, rfl⟩ : ∃ f r, cs = f :: r := by
   cases cs with
   | nil => exact absurd (by rw [← hcs]; rfl) hne
   | cons f r => exact ⟨f, r, rfl⟩
 refine P2 (pm3 _ _ _ _) (rA hG (G4 8 mixed (by decide) (by decide) rfl rfl ?_))
 apply k9 _ rfl rfl rfl
 ·intro w1
  first | refine a7 rfl j9 rfl (d4 mB rfl) ?_ | refine a7 rfl j9 rfl (d9 mB rfl) ?_ | refine a7 rfl j9 rfl (b9 mB (b4 (by omega) rfl)) ?_ | refine a7 rfl j9 rfl (b8 mB (rows_get (by omega) rfl)) ?_
  refine b6 ?_; exact h9 rfl
 apply k9 _ rfl rfl rfl
 ·intro w1
  first | refine D6 rfl C1 C0 rfl mB (by rfl) ?_ | refine D5 rfl C1 C0 rfl mB (by rfl) ?_ | refine v8 rfl C1 C0 rfl rfl (q9 mB (u1 (by omega))) ?_
  refine b6 ?_; exact h9 rfl
 refine p8 rfl ?_; refine s7 (fun w1 => u6 (α := LstV) (f :: r) 0 rfl I8 d3 rfl rfl rfl m3 rfl (by simp) (by decide) (q_z rfl)) ?_; refine s7 (fun w1 => v8 rfl i3 d3 rfl rfl (q9 (A := o.1) (cs := rows (f :: r)) (j := 0 * El.sz LstV) m3 (u1 (l := f :: r) (i := 0) (by simp))) (q_z rfl)) ?_; refine p8 rfl ?_; refine s7 (fun w1 => qM 1 rfl I8 d3 rfl rfl rfl (by simp) (q_z rfl)) ?_; refine V7 ⟨LstV, fun y => y.dat = diffP old page i j ∧ y.row ∈ Fs, fun y => .agg #[int y.1, .slice y.2.a y.2.l.length y.2.c], fun y => [y.row]⟩ rfl rfl rfl ?_ ?_
 ·intro w1; refine yK (p := f :: r) (ca := o.2) 1 (f :: r).length m0 hG.le ?_; rw [List.take_length]
  refine dq2 (Fs := (f :: r).map LstV.row) (fun F hF => by
    obtain ⟨y, hy, rfl⟩ := List.mem_map.1 hF
    exact .inr ⟨Fs, m2, hrow y hy⟩) ?_
  refine h8 (vs := [fnV w9, f.v, .slice (cutA o.1 o.2 1 2) r.length (o.2 - 1)]) kM rfl rfl (jQ f r (by simp at hlen; omega) (fun y hy => hbd y.dat (by rw [← hcs]; exact List.mem_map_of_mem hy))) p9 ⟨m1, m0, tK⟩ fun _ _ => ?_; refine tV (F := (leastV f r).row) m0 (List.mem_map_of_mem (iF f r)) (b6 ?_); exact G5 (leastV f r) ⟨by rw [dz3]; exact az2 hcs, hrow _ (iF f r)⟩ rfl ⟨m0, tK⟩
 refine A9 ⟨rfl, ?_⟩; intro y2 hy2; refine X2 (k := ((i : Int), (j : Int))) KP (.inl rfl) E8 rfl rfl rfl (.refl _) (l7 ?_)
 first | refine a7 rfl j9 rfl (d9 mB rfl) ?_ | refine a7 rfl j9 rfl (d4 mB rfl) ?_ | refine a7 rfl j9 rfl (b9 mB (b4 (by omega) rfl)) ?_ | refine a7 rfl j9 rfl (b8 mB (rows_get (by omega) rfl)) ?_
 first | refine D6 rfl C1 C0 rfl mB (by rfl) ?_ | refine D5 rfl C1 C0 rfl mB (by rfl) ?_ | refine v8 rfl C1 C0 rfl rfl (q9 mB (u1 (by omega))) ?_
 refine xY (k := ((i : Int), (j : Int))) (v := LstV.v y2) KP rfl E8 rfl rfl (P1 m0) (by rw [dq5, if_pos rfl]; rfl) ?_; refine u2 rfl rfl J0 d3 (by rfl) (by rfl) ?_; refine b5 (i8 ?_); exact jO (putM l ((i : Int), (j : Int)) (LstV.v y2) clk, clkM l ((i : Int), (j : Int)) clk, Fs, y2) rfl rfl i3 d3 rfl m0 rfl rfl ⟨hM.put hy2.2 hy2.1, hy2.1⟩ (.cons _ (.cons_cons _ nK)) ⟨m0, m2, tK⟩
def outV {α : Type} [El α] (l : List α) : Con OutC := { val := fun x => .slice x.1 l.length x.2, LO := fun x => [Row x.1 (rows l)] }
theorem bG {A B : Option Addr} {ca cb : Nat} (old page : List Str) (ho : old.length ≤ 1000) (hpl : page.length ≤ 1000) : Meets prog aP [.slice A old.length ca, .slice B page.length cb] { outV (diffP old page 0 0).2 with LI := [Row A (rows old), Row B (rows page)] } := by
 refine d5 pG rfl r4 fun w0 => c5 (Q0 rfl rfl fun go => Q0 rfl rfl fun gp => ?_); refine b7 rfl (l7 ?_); refine cD pair rfl fun gm => A5 rfl (fun _ => X1 _) fun gk => D4 rfl rfl J0 W9 (by rfl) (by rfl) (l7 (A5 rfl (fun _ => U4 _) fun gf => ?_)); refine l7 (hZ rfl rfl rfl ?_); refine D4 rfl rfl J0 U2 (by rfl) (by rfl) ?_; refine b5 (c6 (R3 (R3 ?_))); refine P2 (perm3 _ _ _ _) (R3 (P2 (.swap _ _ _) (R3 ?_))); refine dq3 (Fs := []) (fun F hF => by simp at hF) ?_; refine c7 ?_
 first | refine a7 rfl i4 rfl (d9 mB rfl) ?_ | refine a7 rfl i4 rfl (d4 mB rfl) ?_ | refine a7 rfl i4 rfl (b9 mB (b4 (by omega) rfl)) ?_ | refine a7 rfl i4 rfl (b8 mB (rows_get (by omega) rfl)) ?_
 refine G3 (vs := [int (0 : Nat), int (0 : Nat)]) H8 rfl rfl rfl (iB (gk := gk) (gm := gm) (go := go) (gp := gp) (gf := gf) (A := A) (B := B) (ca := ca) (cb := cb) ho hpl _ 0 0 [] 0 [] (Nat.lt_succ_self _) (Nat.zero_le _) (Nat.zero_le _) (by intro e he; simp at he)) p9 ⟨m0, m5, m6, m3, m2, m1, m4, tK⟩ fun x hx => ?_; obtain ⟨l1, clk1, Fs1, x⟩ := x; have hx2 : x.2.l = (diffP old page 0 0).2 := by rw [← hx.2]; rfl
 refine r_field (v := .slice x.2.a x.2.l.length x.2.c) rfl rfl (fun _ => jG ..) ?_; refine b7 rfl (b5 (i8 ?_)); rw [← hx2]; exact ret1 (x.2.a, x.2.c) rfl rfl rfl tK nK ⟨m0, tK⟩
def diffE (old page : List Str) (ms : List Mk) : List Mk × Int := if ¬ pageErr old = 0 then ([], pageErr old) else if ¬ pageErr page = 0 then ([], pageErr page) else (ms, 0)
def outE {α : Type} [El α] (r : List α × Int) : Con OutC := { val := fun x => .tuple #[.slice x.1 r.1.length x.2, int r.2], LO := fun x => [Row x.1 (rows r.1)] }
theorem G1 {p : List Str} (h : pageErr p = 0) : p.length ≤ 6 := by unfold pageErr at h; split at h <;> omega
theorem Q8 {A B : Option Addr} {ca cb : Nat} (old page : List Str) : Meets prog U0 [.slice A old.length ca, .slice B page.length cb] { outE (diffE old page (diffP old page 0 0).2) with LI := [Row A (rows old), Row B (rows page)] } := by
 refine d5 pI rfl r4 fun w0 => ?_; refine c5 (b7 rfl (b7 rfl (b5 (c6 (c5 (b3 rfl ?_)))))); refine h8 D2 rfl rfl (D0 old) (.refl _) ⟨m0, tK⟩ fun _ _ => ?_; refine b7 rfl (l7 (b3 rfl (w7 rfl rfl rfl (b5 ?_))))
 first | refine i6 rfl (fun hb1 => ?_) (fun hb1 => ?_) | refine c8 rfl (fun hb1 => ?_) (fun hb1 => ?_)
 ·have hb1' := hb1; try simp at hb1'
  have e : diffE old page (diffP old page 0 0).2 = ([], pageErr old) := by rw [diffE, if_pos hb1]
  rw [e]; refine c5 (b3 rfl (b7 rfl (b7 rfl (b5 (C6 (pV ?_)))))); exact ret2 (none, 0) rfl rfl rfl rfl rfl tK (.refl _) ⟨m0, tK⟩
 have hb1' := hb1; try simp at hb1'
 refine c4 (c3 (c6 (c5 (b3 rfl ?_)))); refine h8 D2 rfl rfl (D0 page) (.refl _) ⟨m1, tK⟩ fun _ _ => ?_; refine b7 rfl (l7 (b3 rfl (w7 rfl rfl rfl (b5 ?_))))
 first | refine i6 rfl (fun hb2 => ?_) (fun hb2 => ?_) | refine c8 rfl (fun hb2 => ?_) (fun hb2 => ?_)
 ·have hb2' := hb2; try simp at hb2'
  have e : diffE old page (diffP old page 0 0).2 = ([], pageErr page) := by rw [diffE, if_neg hb1, if_pos hb2]
  rw [e]; refine c5 (b3 rfl (b7 rfl (b7 rfl (b5 (C6 (pV ?_)))))); exact ret2 (none, 0) rfl rfl rfl rfl rfl tK (.refl _) ⟨m0, tK⟩
 have hb2' := hb2; try simp at hb2'
 have e : diffE old page (diffP old page 0 0).2 = ((diffP old page 0 0).2, 0) := by rw [diffE, if_neg hb1, if_neg hb2]
 rw [e]; have h1 := G1 (Classical.not_not.1 hb1); have h2 := G1 (Classical.not_not.1 hb2); refine c4 (c3 (c5 (b3 rfl (b3 rfl ?_)))); refine h8 bS rfl rfl (bG old page (by omega) (by omega)) (.refl _) ⟨m0, m1, tK⟩ fun x hx => ?_; refine b7 rfl (b7 rfl (b5 (i8 ?_))); exact ret2 x rfl rfl rfl rfl rfl tK (.refl _) ⟨m0, tK⟩
def beforeR (a b : Mk) : Bool := if ¬ a.2.1 = b.2.1 then decide (a.2.1 < b.2.1) else if ¬ a.1 = b.1 then decide (a.1 < b.1) else Op.bytesLess a.2.2 b.2.2
def lexR : List Mk → List Mk → Bool
  | a :: l, b :: l' => if ¬ a = b then beforeR a b else lexR l l'
  | _, _ => false
def betterR (a b : List Mk) : Bool := if ¬ (costM a : Int) = costM b then decide ((costM a : Int) < costM b) else if ¬ (a.length : Int) = b.length then decide ((a.length : Int) < b.length) else lexR a b
def pickR (s : Option (List Mk)) (l : List Mk) : Option (List Mk) :=
  match s with
  | none => some l
  | some b => if betterR l b = true then some l else some b
def diffR (old page : List Str) (i k : Nat) : List Mk :=
  if i = old.length ∧ k = page.length then [] else
  (if h : i < old.length then pickR
    (if h : i < old.length ∧ k < page.length then pickR
      (if h : k < page.length then pickR
        (if h : i < old.length ∧ k < page.length ∧ old.getD i default = page.getD k default then some (diffR old page (i + 1) (k + 1)) else none)
        ((1, (i : Int), page.getD k default) :: diffR old page i (k + 1)) else
        (if h : i < old.length ∧ k < page.length ∧ old.getD i default = page.getD k default then some (diffR old page (i + 1) (k + 1)) else none))
      ((2, (i : Int), page.getD k default) :: diffR old page (i + 1) (k + 1)) else
      (if h : k < page.length then pickR
        (if h : i < old.length ∧ k < page.length ∧ old.getD i default = page.getD k default then some (diffR old page (i + 1) (k + 1)) else none)
        ((1, (i : Int), page.getD k default) :: diffR old page i (k + 1)) else
        (if h : i < old.length ∧ k < page.length ∧ old.getD i default = page.getD k default then some (diffR old page (i + 1) (k + 1)) else none)))
    ((3, (i : Int), []) :: diffR old page (i + 1) k) else
    (if h : i < old.length ∧ k < page.length then pickR
      (if h : k < page.length then pickR
        (if h : i < old.length ∧ k < page.length ∧ old.getD i default = page.getD k default then some (diffR old page (i + 1) (k + 1)) else none)
        ((1, (i : Int), page.getD k default) :: diffR old page i (k + 1)) else
        (if h : i < old.length ∧ k < page.length ∧ old.getD i default = page.getD k default then some (diffR old page (i + 1) (k + 1)) else none))
      ((2, (i : Int), page.getD k default) :: diffR old page (i + 1) (k + 1)) else
      (if h : k < page.length then pickR
        (if h : i < old.length ∧ k < page.length ∧ old.getD i default = page.getD k default then some (diffR old page (i + 1) (k + 1)) else none)
        ((1, (i : Int), page.getD k default) :: diffR old page i (k + 1)) else
        (if h : i < old.length ∧ k < page.length ∧ old.getD i default = page.getD k default then some (diffR old page (i + 1) (k + 1)) else none)))).getD []
termination_by (old.length - i) + (page.length - k)
decreasing_by all_goals omega
def dr0 (old page : List Str) (i k : Nat) : Option (List Mk) := if i < old.length ∧ k < page.length ∧ old.getD i default = page.getD k default then some (diffR old page (i + 1) (k + 1)) else none
def dr1 (old page : List Str) (i k : Nat) : Option (List Mk) := if k < page.length then pickR (dr0 old page i k) ((1, (i : Int), page.getD k default) :: diffR old page i (k + 1)) else dr0 old page i k
def dr2 (old page : List Str) (i k : Nat) : Option (List Mk) := if i < old.length ∧ k < page.length then pickR (dr1 old page i k) ((2, (i : Int), page.getD k default) :: diffR old page (i + 1) (k + 1)) else dr1 old page i k
def dr3 (old page : List Str) (i k : Nat) : Option (List Mk) := if i < old.length then pickR (dr2 old page i k) ((3, (i : Int), []) :: diffR old page (i + 1) k) else dr2 old page i k
theorem cz5 (s : Option (List Mk)) (l : List Mk) : pickR s l = some l ∨ (pickR s l = s) := by
  unfold pickR
  cases s with
  | none => exact .inl rfl
  | some b => simp only; split <;> simp
def Bd (N : Nat) (s : Option (List Mk)) : Prop := ∀ b, s = some b → b.length ≤ N
theorem Bd.pick {N : Nat} {s : Option (List Mk)} {l : List Mk} (h : Bd N s) (hl : l.length ≤ N) : Bd N (pickR s l) := by
  intro b hb
  rcases cz5 s l with h1 | h1
  · rw [h1] at hb; cases hb; exact hl
  rw [h1] at hb; exact h b hb
structure RSt where
  s : Option (List Mk)
  o : OutC
abbrev rSta (A B : Option Addr) (ca cb : Nat) (old page : List Str) (i k : Nat) (r : Option (List Mk)) : Sta RSt :=
  { inv := fun x => x.s = r
    fr := fun x => [(0, .slice A old.length ca), (1, .slice B page.length cb), (2, int i), (3, int k), (9, .slice x.o.1 (x.s.getD []).length x.o.2), (10, .bool x.s.isSome)]
    hp := fun _ => []
    L := fun x => [Row x.o.1 (rows (x.s.getD [])), Row A (rows old), Row B (rows page)] }
theorem tR {α : Type} [Inhabited α] {l : List α} {k : Nat} {s : α} (hk : k < l.length) (h : s ∉ l.take k) (h1 : ¬ s = l.getD k default) : s ∉ l.take (k + 1) := by
  rw [s9 l k hk]; simp only [List.mem_append, List.mem_singleton, not_or]; exact ⟨h, h1⟩
theorem bF {A : Option Addr} {c : Nat} (l : List Str) (s : Str) (hl : l.length ≤ 1000000) : Meets prog K0 [.slice A l.length c, str s] { LI := [Row A (rows l)], inv := fun z : Int => (0 ≤ z ↔ s ∈ l), val := fun z => int z } := by
 refine d5 cN rfl r4 fun w0 => ?_; refine c5 (b7 rfl (b5 (c6 (c5 (b3 rfl ?_))))); refine i7 rfl j7 rfl ?_; refine b3 rfl (b5 (i5 ?_)); refine v6 (β := Nat) ⟨fun k => k ≤ l.length ∧ s ∉ l.take k, fun k => [(0, .slice A l.length c), (1, str s), (7, int l.length), (8, int k)], fun _ => [], fun _ => [Row A (rows l)]⟩ (fun k => l.length - k) 0 ⟨Nat.zero_le _, by simp⟩ mC (.refl _) ⟨m0, tK⟩ fun k hk => ?_; obtain ⟨hk, ht⟩ := hk; refine c5 (y5 rfl rfl rfl (b5 (c6 ?_)))
 first | refine i6 rfl (fun hb1 => ?_) (fun hb1 => ?_) | refine c8 rfl (fun hb1 => ?_) (fun hb1 => ?_)
 ·have hb1' := hb1; try simp at hb1'
  have hk2 : k < l.length := by omega
  refine c4 (c3 (c6 (i5 (c5 (b3 rfl (b7 rfl (l7 ?_))))))); refine b3 rfl (b3 rfl (b3 rfl ?_)); refine u6 (α := Str) _ _ rfl j7 q7 rfl rfl rfl mB rfl (by omega) (by decide) (a7 rfl d6 rfl (b9 mB (b4 (by omega) rfl)) ?_); refine lQ rfl rfl rfl (b5 ?_)
  first | refine i6 rfl (fun hb2 => ?_) (fun hb2 => ?_) | refine c8 rfl (fun hb2 => ?_) (fun hb2 => ?_)
  ·have hb2' := hb2; try simp at hb2'
   refine c5 (b3 rfl (b7 rfl (b5 (i8 (y8 (r6 (y8 ?_))))))); exact ret1 (k : Int) rfl rfl rfl ⟨fun _ => by rw [hb2]; exact r7 hk2, fun _ => by omega⟩ (.refl _) tK
  have hb2' := hb2; try simp at hb2'
  refine c4 (u4 (c3 (c7 ?_))); refine w5 _ rfl rfl rfl rfl q8 ?_; refine b3 rfl (b6 ?_); exact again _ (k + 1) ⟨by omega, tR hk2 ht hb2⟩ (C5 (by omega)) mC (.refl _) ⟨m0, tK⟩
 have hb1' := hb1; try simp at hb1'
 have hk2 : k = l.length := by omega
 subst hk2; rw [List.take_length] at ht; refine r9 (B2 (r8 (c3 (c5 (b7 rfl (b5 (i8 ?_))))))); exact ret1 (-1) rfl rfl rfl ⟨fun h => by omega, fun h => absurd h ht⟩ (.refl _) tK
theorem J3 {A : Option Addr} {c : Nat} (l : List Str) (s : Str) (hl : l.length ≤ 1000000) : Meets prog G8 [.slice A l.length c, str s] { LI := [Row A (rows l)], val := fun _ : Unit => .bool (decide (s ∈ l)) } := by
 refine d5 Z5 rfl r4 fun w0 => ?_; refine c5 (b7 rfl (l7 (b3 rfl (b3 rfl ?_)))); refine h8 bQ rfl rfl (bF l s hl) (.refl _) ⟨m0, tK⟩ fun z hz => ?_; refine cV rfl rfl rfl (b7 rfl (b5 (i8 ?_))); exact ret1 () rfl (congrArg (fun b => some (Value.bool b)) (decide_eq_decide.2 hz)) rfl tK (.refl _) tK
theorem lC {α β : Type} (f : β → Int) (g : α → β) : ∀ l : List α, firstErr f (l.map g) = firstErr (fun a => f (g a)) l
  | [] => rfl
  | a :: l => by simp only [List.map_cons, firstErr, lC f g l]
abbrev years (ps : List (Sl Str)) : List (List Str) := ps.map (·.l)
def yearsErr (ys : List (List Str)) : Int := if 4 < ys.length then 6 else firstErr pageErr ys
theorem Z8 (ps : List (Sl Str)) : yearsErr (years ps) = if 4 < ps.length then 6 else firstErr (fun p : Sl Str => pageErr p.l) ps := by rw [yearsErr, lC, List.length_map]
def askedErr (ys : List (List Str)) (p : List Str) : Int := if yearsErr ys = 0 then pageErr p else yearsErr ys
theorem O9 {A : Option Addr} {c : Nat} (ps : List (Sl Str)) : Meets prog M0 [.slice A ps.length c] { LI := [Rows2 A ps], val := fun _ : Unit => int (yearsErr (years ps)) } := by
 refine d5 dD rfl r4 fun w0 => ?_; refine c5 (b7 rfl (b5 (c6 (c5 (b3 rfl ?_))))); refine i7 rfl E1 rfl ?_; refine G6 rfl rfl rfl (b5 ?_)
 first | refine i6 rfl (fun hb1 => ?_) (fun hb1 => ?_) | refine c8 rfl (fun hb1 => ?_) (fun hb1 => ?_)
 ·have hb1' := hb1; try simp at hb1'
  have hb1 : 4 < ps.length := by omega
  refine c5 (b7 rfl (b5 (C6 ?_))); exact ret1 () rfl (congrArg (fun b => some (int b)) (by rw [Z8, if_pos hb1])) rfl tK nK tK
 have hb1' := hb1; try simp at hb1'
 have hb1 : ¬ 4 < ps.length := by omega
 refine kJ m0 (c4 (c3 (c6 (c5 (b3 rfl ?_))))); refine i7 rfl E1 rfl ?_; refine b3 rfl (b5 (i5 ?_)); refine v6 (β := Nat) ⟨fun k => k ≤ ps.length ∧ firstErr (fun p : Sl Str => pageErr p.l) (ps.take k) = 0, fun k => [(9, .slice A ps.length c), (10, int ps.length), (11, int k)], fun _ => [], fun _ => [Row A (rows ps), Rows2 A ps]⟩ (fun k => ps.length - k) 0 ⟨Nat.zero_le _, rfl⟩ mC (.refl _) ⟨m0, m1, tK⟩ fun k hk => ?_; obtain ⟨hk, ht⟩ := hk; refine c5 (y5 rfl rfl rfl (b5 (c6 ?_)))
 first | refine i6 rfl (fun hb2 => ?_) (fun hb2 => ?_) | refine c8 rfl (fun hb2 => ?_) (fun hb2 => ?_)
 ·have hb2' := hb2; try simp at hb2'
  have hk2 : k < ps.length := by omega
  refine c4 (c3 (c6 (i5 (c5 ?_)))); refine u6 (α := (Sl Str)) _ _ rfl E1 J1 rfl rfl rfl mB rfl (by omega) (by decide) (a7 rfl c9 rfl (b9 mB (b4 (by omega) rfl)) ?_); refine b7 rfl (l7 (b3 rfl ?_)); refine kI (p := ps.getD k default) m1 (r7 hk2) (h8 D2 rfl rfl (D0 (ps.getD k default).l) (.refl _) ⟨m0, tK⟩ fun _ _ => ?_); refine b7 rfl (l7 (b3 rfl (w7 rfl rfl rfl (b5 ?_))))
  first | refine i6 rfl (fun hb3 => ?_) (fun hb3 => ?_) | refine c8 rfl (fun hb3 => ?_) (fun hb3 => ?_)
  ·have hb3' := hb3; try simp at hb3'
   refine c5 (b3 rfl (b7 rfl (b5 (i8 (y8 (r6 (y8 ?_))))))); exact ret1 () rfl (congrArg (fun b => some (int b)) (by rw [Z8, if_neg hb1]; exact (cS hk2 ht hb3).symm)) rfl tK nK tK
  have hb3' := hb3; try simp at hb3'
  refine c4 (u4 (c3 (c7 ?_))); refine w5 _ rfl rfl rfl rfl q8 ?_; refine b3 rfl (b6 ?_); exact again _ (k + 1) ⟨by omega, by rw [Z0 hk2 ht]; exact Classical.not_not.1 hb3⟩ (C5 (by omega)) mC (.refl _) ⟨m1, m2, tK⟩
 have hb2' := hb2; try simp at hb2'
 have hk2 : k = ps.length := by omega
 subst hk2; rw [List.take_length] at ht; refine r9 (B2 (r8 (c3 (c5 (b7 rfl (b5 (i8 ?_))))))); exact ret1 () rfl (congrArg (fun b => some (int b)) (by rw [Z8, if_neg hb1, ht])) rfl tK nK tK
theorem jS {A B : Option Addr} {ca cb : Nat} (ps : List (Sl Str)) (p : List Str) :
    Meets prog X9 [.slice A ps.length ca, .slice B p.length cb] { LI := [Rows2 A ps, Row B (rows p)], val := fun _ : Unit => int (askedErr (years ps) p) } := by
 refine d5 mL rfl r4 fun w0 => ?_; refine c5 (b7 rfl (b5 (c6 (c5 (b3 rfl ?_))))); refine h8 P4 rfl rfl (O9 ps) (.refl _) ⟨m0, tK⟩ fun _ _ => ?_; refine b7 rfl (l7 (b3 rfl (w7 rfl rfl rfl (b5 ?_))))
 first | refine i6 rfl (fun hb1 => ?_) (fun hb1 => ?_) | refine c8 rfl (fun hb1 => ?_) (fun hb1 => ?_)
 ·have hb1' := hb1; try simp at hb1'
  refine c5 (b3 rfl (b7 rfl (b5 (C6 ?_)))); exact ret1 () rfl (congrArg (fun b => some (int b)) (by rw [askedErr, if_neg hb1])) rfl tK nK tK
 have hb1' := hb1; try simp at hb1'
 refine c4 (c3 (c5 (b3 rfl ?_))); refine h8 D2 rfl rfl (D0 p) (.refl _) ⟨m1, tK⟩ fun _ _ => ?_; refine b7 rfl (b5 (i8 ?_)); exact ret1 () rfl (congrArg (fun b => some (int b)) (by rw [askedErr, if_pos (Classical.not_not.1 hb1)])) rfl tK nK tK
def originN (ps : List (Sl Str)) (s : Str) : Nat → Int
  | 0 => -1
  | k + 1 => if s ∈ (ps.getD k default).l then (k : Int) else originN ps s k
theorem nN {ps : List (Sl Str)} {s : Str} {k : Nat} (h : 0 < k) : originN ps s k = if s ∈ (ps.getD (k - 1) default).l then ((k - 1 : Nat) : Int) else originN ps s (k - 1) := by
  cases k with
  | zero => omega
  | succ k => rfl
theorem iA {A : Option Addr} {c : Nat} (ps : List (Sl Str)) (s : Str) (hl : ps.length ≤ 1000000) (hp : ∀ p ∈ ps, p.l.length ≤ 1000000) : Meets prog N2 [.slice A ps.length c, str s] { LI := [Rows2 A ps], val := fun _ : Unit => int (originN ps s ps.length) } := by
 refine d5 kL rfl r4 fun w0 => ?_; refine c5 (b7 rfl (b5 (cH (kJ m0 (c7 (b3 rfl ?_)))))); refine i7 rfl E1 rfl (J4 _ rfl rfl rfl rfl q8 ?_); refine b7 rfl (b5 (i5 ?_)); refine v6 (β := Nat) ⟨fun k => k ≤ ps.length ∧ originN ps s ps.length = originN ps s k, fun k => [(0, .slice A ps.length c), (1, str s), (5, int ((k : Int) - 1))], fun _ => [], fun _ => [Row A (rows ps), Rows2 A ps]⟩ (fun k => k) ps.length ⟨Nat.le_refl _, rfl⟩ mC (.refl _) ⟨m0, m1, tK⟩ fun k hk => ?_; obtain ⟨hk, ht⟩ := hk; refine c6 (c5 (b3 rfl (cV rfl rfl rfl (b5 ?_))))
 first | refine i6 rfl (fun hb1 => ?_) (fun hb1 => ?_) | refine c8 rfl (fun hb1 => ?_) (fun hb1 => ?_)
 ·have hb1' := hb1; try simp at hb1'
  have hk2 : 0 < k := by omega
  rw [nN hk2] at ht; have hmem := r7 (l := ps) (k := k - 1) (by omega); refine c4 (c3 (c6 (i5 (c5 (b3 rfl (b3 rfl ?_)))))); refine u6 (α := Sl Str) _ (k - 1) rfl E1 J1 rfl rfl (by omega) m0 rfl (by omega) (by decide) (a7 rfl c9 rfl (b9 mB (b4 (by omega) rfl)) (b3 rfl (kI (p := ps.getD (k - 1) default) m1 hmem (h8 K1 rfl rfl (J3 (ps.getD (k - 1) default).l s (hp _ hmem)) p9 ⟨m0, tK⟩ fun _ _ => b5 ?_))))
  first | refine i6 rfl (fun hb2 => ?_) (fun hb2 => ?_) | refine c8 rfl (fun hb2 => ?_) (fun hb2 => ?_)
  ·have hb2' := hb2; try simp at hb2'
   rw [if_pos hb2] at ht; refine c5 (b3 rfl (b7 rfl (b5 (i8 (y8 (r6 (y8 ?_))))))); exact ret1 () rfl (congrArg (fun n => some (int n)) (by rw [ht]; omega)) rfl tK (.refl _) tK
  have hb2' := hb2; try simp at hb2'
  rw [if_neg hb2] at ht; refine c4 (u4 (c3 (c7 (b3 rfl ?_)))); refine J4 _ rfl rfl rfl rfl q8 ?_; refine b7 rfl (b6 ?_); refine again _ (k - 1) ⟨by omega, ht⟩ (by show k - 1 < k; omega) ⟨rfl, rfl, congrArg (fun n => some (int n)) (by omega), tK⟩ (.refl _) ⟨m1, m2, tK⟩
 have hb1' := hb1; try simp at hb1'
 have hk2 : k = 0 := by omega
 refine r9 (B2 (r8 (c3 (c5 (b7 rfl (b5 (i8 ?_))))))); exact ret1 () rfl (congrArg (fun n => some (int n)) (by rw [ht, hk2]; rfl)) rfl tK (.refl _) tK
def originE (ps : List (Sl Str)) (p : List Str) : List Int × Int := if ¬ askedErr (years ps) p = 0 then ([], askedErr (years ps) p) else (p.map fun s => originN ps s ps.length, 0)
theorem hB {ps : List (Sl Str)} (h : yearsErr (years ps) = 0) : ps.length ≤ 4 ∧ ∀ p ∈ ps, p.l.length ≤ 6 := by
  rw [Z8] at h
  split at h
  · omega
  exact ⟨by omega, fun p hp => G1 (I3 h p hp)⟩
theorem rW {ps : List (Sl Str)} {p : List Str} (h : askedErr (years ps) p = 0) : yearsErr (years ps) = 0 ∧ pageErr p = 0 := by
  unfold askedErr at h
  split at h
  · rename_i h1; exact ⟨h1, h⟩
  rename_i h1; exact absurd h h1
def countN (l : List Str) (s : Str) : Nat := (l.filter fun x => decide (x = s)).length
theorem gC {l : List Str} {s : Str} {k : Nat} (h : k < l.length) : countN (l.take (k + 1)) s = countN (l.take k) s + (if l.getD k default = s then 1 else 0) := by
  rw [s9 l k h]; unfold countN; rw [List.filter_append, List.length_append]
  congr 1
  by_cases h3 : l.getD k default = s
  · rw [if_pos h3, List.filter_cons_of_pos (by simpa using h3)]; rfl
  rw [if_neg h3, List.filter_cons_of_neg (by simpa using h3)]; rfl
theorem nA (l : List Str) (s : Str) : countN l s ≤ l.length := List.length_filter_le _ _
def growsM (m : Mk) : Int := if m.1 = 1 then 1 else if m.1 = 3 then -1 else 0
end Go.Proofs.YtpihanmcnmlodaaGreatDoor
end
