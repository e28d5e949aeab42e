/- Texts of this claim, one behind another. -/

import Derived.Test.YtegfgegnhjkcfaaGreatDoorBAh
import Derived.Test.YtegfgegnhjkcfaaGreatDoorBAf
set_option linter.unusedVariables false
set_option linter.unusedSimpArgs false
section
namespace Go.Proofs.YtegfgegnhjkcfaaGreatDoor
open Go Go.W
set_option maxRecDepth 20000
attribute [local irreducible] HL HC HQ HB Row Rows2 Blk Facts
theorem lS {α : Type} [Inhabited α] {l : List α} {k : Nat} {s : α} (hk : k < l.length) (h : s ∉ l.take k) (h1 : ¬ s = l.getD k default) : s ∉ l.take (k + 1) := by
  rw [u0 l k hk]; simp only [List.mem_append, List.mem_singleton, not_or]; exact ⟨h, h1⟩
theorem bD {A : Option Addr} {c : Nat} (l : List Str) (s : Str) (hl : l.length ≤ 1000000) : Meets Tryz.prog F.N4 [.slice A l.length c, str s] { LI := [Row A (rows l)], inv := fun z : Int => (0 ≤ z ↔ s ∈ l), val := fun z => int z } := by
 refine c4 F.iK rfl l5 fun w0 => ?_; refine a9 (a8 rfl (a7 (b5 (a9 (a5 rfl ?_))))); refine j9 rfl T.u5 rfl ?_; refine a5 rfl (a7 (j0 ?_)); refine s9 (β := Nat) ⟨fun k => k ≤ l.length ∧ s ∉ l.take k, fun k => [(0, .slice A l.length c), (1, str s), (7, int l.length), (8, int k)], fun _ => [], fun _ => [Row A (rows l)]⟩ (fun k => l.length - k) 0 ⟨Nat.zero_le _, by simp⟩ mC (.refl _) ⟨m0, trivial⟩ fun k hk => ?_; obtain ⟨hk, ht⟩ := hk; refine a9 (r6 rfl rfl rfl (a7 (b5 ?_)))
 first | refine i8 rfl (fun hb1 => ?_) (fun hb1 => ?_) | refine b9 rfl (fun hb1 => ?_) (fun hb1 => ?_)
 ·have hb1' := hb1; try simp at hb1'
  have hk2 : k < l.length := by omega
  refine c3 (b6 (b5 (j0 (a9 (a5 rfl (a8 rfl (k9 ?_))))))); refine a5 rfl (a5 rfl (a5 rfl ?_)); refine r7 (α := Str) _ _ rfl T.u5 T.v8 rfl rfl rfl mB rfl (by omega) (by decide) (a4 rfl T.j1 rfl (c5 mB (b4 (by omega) rfl)) ?_); refine aG rfl rfl rfl (a7 ?_)
  first | refine i8 rfl (fun hb2 => ?_) (fun hb2 => ?_) | refine b9 rfl (fun hb2 => ?_) (fun hb2 => ?_)
  ·have hb2' := hb2; try simp at hb2'
   refine a9 (a5 rfl (a8 rfl (a7 (i6 (t5 (l6 (t5 ?_))))))); exact ret1 (k : Int) rfl rfl rfl ⟨fun _ => by rw [hb2]; exact L3 hk2, fun _ => by omega⟩ (.refl _) trivial
  have hb2' := hb2; try simp at hb2'
  refine c3 (q9 (b6 (c6 ?_))); refine p7 _ rfl rfl rfl rfl l9 ?_; refine a5 rfl (b3 ?_); exact again _ (k + 1) ⟨by omega, lS hk2 ht hb2⟩ (y5 (by omega)) mC (.refl _) ⟨m0, trivial⟩
 have hb1' := hb1; try simp at hb1'
 have hk2 : k = l.length := by omega
 subst hk2; rw [List.take_length] at ht; refine n5 (y6 (n4 (b6 (a9 (a8 rfl (a7 (i6 ?_))))))); exact ret1 (-1) rfl rfl rfl ⟨fun h => by omega, fun h => absurd h ht⟩ (.refl _) trivial
theorem I4 {A : Option Addr} {c : Nat} (l : List Str) (s : Str) (hl : l.length ≤ 1000000) : Meets Tryz.prog F.I5 [.slice A l.length c, str s] { LI := [Row A (rows l)], val := fun _ : Unit => .bool (decide (s ∈ l)) } := by
 refine c4 F.cJ rfl l5 fun w0 => ?_; refine a9 (a8 rfl (k9 (a5 rfl (a5 rfl ?_)))); refine d6 F.dW rfl rfl (bD l s hl) (.refl _) ⟨m0, trivial⟩ fun z hz => ?_; refine jC rfl rfl rfl (a8 rfl (a7 (i6 ?_))); exact ret1 () rfl (congrArg (fun b => some (Value.bool b)) (decide_eq_decide.2 hz)) rfl trivial (.refl _) trivial
theorem bE {A : Option Addr} {c : Nat} (l : List Int) (s : Int) (hl : l.length ≤ 1000000) : Meets Tryz.prog F.N5 [.slice A l.length c, int s] { LI := [Row A (rows l)], inv := fun z : Int => (0 ≤ z ↔ s ∈ l), val := fun z => int z } := by
 refine c4 F.iL rfl l5 fun w0 => ?_; refine a9 (a8 rfl (a7 (b5 (a9 (a5 rfl ?_))))); refine j9 rfl T.L8 rfl ?_; refine a5 rfl (a7 (j0 ?_)); refine s9 (β := Nat) ⟨fun k => k ≤ l.length ∧ s ∉ l.take k, fun k => [(0, .slice A l.length c), (1, int s), (7, int l.length), (8, int k)], fun _ => [], fun _ => [Row A (rows l)]⟩ (fun k => l.length - k) 0 ⟨Nat.zero_le _, by simp⟩ mC (.refl _) ⟨m0, trivial⟩ fun k hk => ?_; obtain ⟨hk, ht⟩ := hk; refine a9 (r6 rfl rfl rfl (a7 (b5 ?_)))
 first | refine i8 rfl (fun hb1 => ?_) (fun hb1 => ?_) | refine b9 rfl (fun hb1 => ?_) (fun hb1 => ?_)
 ·have hb1' := hb1; try simp at hb1'
  have hk2 : k < l.length := by omega
  refine c3 (b6 (b5 (j0 (a9 (a5 rfl (a8 rfl (k9 ?_))))))); refine a5 rfl (a5 rfl (a5 rfl ?_)); refine r7 (α := Int) _ _ rfl T.L8 T.D8 rfl rfl rfl mB rfl (by omega) (by decide) (a4 rfl T.a6 rfl (c5 mB (b4 (by omega) rfl)) ?_); refine t8 rfl rfl rfl (a7 ?_)
  first | refine i8 rfl (fun hb2 => ?_) (fun hb2 => ?_) | refine b9 rfl (fun hb2 => ?_) (fun hb2 => ?_)
  ·have hb2' := hb2; try simp at hb2'
   refine a9 (a5 rfl (a8 rfl (a7 (i6 (t5 (l6 (t5 ?_))))))); exact ret1 (k : Int) rfl rfl rfl ⟨fun _ => by rw [hb2]; exact L3 hk2, fun _ => by omega⟩ (.refl _) trivial
  have hb2' := hb2; try simp at hb2'
  refine c3 (q9 (b6 (c6 ?_))); refine p7 _ rfl rfl rfl rfl l9 ?_; refine a5 rfl (b3 ?_); exact again _ (k + 1) ⟨by omega, lS hk2 ht hb2⟩ (y5 (by omega)) mC (.refl _) ⟨m0, trivial⟩
 have hb1' := hb1; try simp at hb1'
 have hk2 : k = l.length := by omega
 subst hk2; rw [List.take_length] at ht; refine n5 (y6 (n4 (b6 (a9 (a8 rfl (a7 (i6 ?_))))))); exact ret1 (-1) rfl rfl rfl ⟨fun h => by omega, fun h => absurd h ht⟩ (.refl _) trivial
theorem X5 {A : Option Addr} {c : Nat} (l : List Int) (s : Int) (hl : l.length ≤ 1000000) : Meets Tryz.prog F.I6 [.slice A l.length c, int s] { LI := [Row A (rows l)], val := fun _ : Unit => .bool (decide (s ∈ l)) } := by
 refine c4 F.cK rfl l5 fun w0 => ?_; refine a9 (a8 rfl (k9 (a5 rfl (a5 rfl ?_)))); refine d6 F.dX rfl rfl (bE l s hl) (.refl _) ⟨m0, trivial⟩ fun z hz => ?_; refine jC rfl rfl rfl (a8 rfl (a7 (i6 ?_))); exact ret1 () rfl (congrArg (fun b => some (Value.bool b)) (decide_eq_decide.2 hz)) rfl trivial (.refl _) trivial
theorem mI {α β : Type} (f : β → Int) (g : α → β) : ∀ l : List α, firstErr f (l.map g) = firstErr (fun a => f (g a)) l
  | [] => rfl
  | a :: l => by simp only [List.map_cons, firstErr, mI f g l]
abbrev years (ps : List (Sl Str)) : List (List Str) := ps.map (·.l)
def yearsErr (ys : List (List Str)) : Int := if 4 < ys.length then 6 else firstErr pageErr ys
theorem Z2 (ps : List (Sl Str)) : yearsErr (years ps) = if 4 < ps.length then 6 else firstErr (fun p : Sl Str => pageErr p.l) ps := by rw [yearsErr, mI, List.length_map]
def askedErr (ys : List (List Str)) (p : List Str) : Int := if yearsErr ys = 0 then pageErr p else yearsErr ys
theorem N7 {A : Option Addr} {c : Nat} (ps : List (Sl Str)) : Meets Tryz.prog F.Q1 [.slice A ps.length c] { LI := [Rows2 A ps], val := fun _ : Unit => int (yearsErr (years ps)) } := by
 refine c4 F.jP rfl l5 fun w0 => ?_; refine a9 (a8 rfl (a7 (b5 (a9 (a5 rfl ?_))))); refine j9 rfl T.V6 rfl ?_; refine v9 rfl rfl rfl (a7 ?_)
 first | refine i8 rfl (fun hb1 => ?_) (fun hb1 => ?_) | refine b9 rfl (fun hb1 => ?_) (fun hb1 => ?_)
 ·have hb1' := hb1; try simp at hb1'
  have hb1 : 4 < ps.length := by omega
  refine a9 (a8 rfl (a7 (s6 ?_))); exact ret1 () rfl (congrArg (fun b => some (int b)) (by rw [Z2, if_pos hb1])) rfl trivial i1 trivial
 have hb1' := hb1; try simp at hb1'
 have hb1 : ¬ 4 < ps.length := by omega
 refine sG m0 (c3 (b6 (b5 (a9 (a5 rfl ?_))))); refine j9 rfl T.V6 rfl ?_; refine a5 rfl (a7 (j0 ?_)); refine s9 (β := Nat) ⟨fun k => k ≤ ps.length ∧ firstErr (fun p : Sl Str => pageErr p.l) (ps.take k) = 0, fun k => [(9, .slice A ps.length c), (10, int ps.length), (11, int k)], fun _ => [], fun _ => [Row A (rows ps), Rows2 A ps]⟩ (fun k => ps.length - k) 0 ⟨Nat.zero_le _, rfl⟩ mC (.refl _) ⟨m0, m1, trivial⟩ fun k hk => ?_; obtain ⟨hk, ht⟩ := hk; refine a9 (r6 rfl rfl rfl (a7 (b5 ?_)))
 first | refine i8 rfl (fun hb2 => ?_) (fun hb2 => ?_) | refine b9 rfl (fun hb2 => ?_) (fun hb2 => ?_)
 ·have hb2' := hb2; try simp at hb2'
  have hk2 : k < ps.length := by omega
  refine c3 (b6 (b5 (j0 (a9 ?_)))); refine r7 (α := (Sl Str)) _ _ rfl T.V6 T.cE rfl rfl rfl mB rfl (by omega) (by decide) (a4 rfl T.i9 rfl (c5 mB (b4 (by omega) rfl)) ?_); refine a8 rfl (k9 (a5 rfl ?_)); refine bW (p := ps.getD k default) m1 (L3 hk2) ?_; refine d6 F.E7 rfl rfl (A1 (ps.getD k default).l) (.refl _) ⟨m0, trivial⟩ fun _ _ => ?_; refine a8 rfl (k9 (a5 rfl (u9 rfl rfl rfl (a7 ?_))))
  first | refine i8 rfl (fun hb3 => ?_) (fun hb3 => ?_) | refine b9 rfl (fun hb3 => ?_) (fun hb3 => ?_)
  ·have hb3' := hb3; try simp at hb3'
   refine a9 (a5 rfl (a8 rfl (a7 (i6 (t5 (l6 (t5 ?_))))))); exact ret1 () rfl (congrArg (fun b => some (int b)) (by rw [Z2, if_neg hb1]; exact (mJ hk2 ht hb3).symm)) rfl trivial i1 trivial
  have hb3' := hb3; try simp at hb3'
  refine c3 (q9 (b6 (c6 ?_))); refine p7 _ rfl rfl rfl rfl l9 ?_; refine a5 rfl (b3 ?_); exact again _ (k + 1) ⟨by omega, by rw [hO hk2 ht]; exact Classical.not_not.1 hb3⟩ (y5 (by omega)) mC (.refl _) ⟨m1, m2, trivial⟩
 have hb2' := hb2; try simp at hb2'
 have hk2 : k = ps.length := by omega
 subst hk2; rw [List.take_length] at ht; refine n5 (y6 (n4 (b6 (a9 (a8 rfl (a7 (i6 ?_))))))); exact ret1 () rfl (congrArg (fun b => some (int b)) (by rw [Z2, if_neg hb1, ht])) rfl trivial i1 trivial
theorem lG {A B : Option Addr} {ca cb : Nat} (ps : List (Sl Str)) (p : List Str) :
    Meets Tryz.prog F.gN [.slice A ps.length ca, .slice B p.length cb] { LI := [Rows2 A ps, Row B (rows p)], val := fun _ : Unit => int (askedErr (years ps) p) } := by
 refine c4 F.tF rfl l5 fun w0 => ?_; refine a9 (a8 rfl (a7 (b5 (a9 (a5 rfl ?_))))); refine d6 F.V0 rfl rfl (N7 ps) (.refl _) ⟨m0, trivial⟩ fun _ _ => ?_; refine a8 rfl (k9 (a5 rfl (u9 rfl rfl rfl (a7 ?_))))
 first | refine i8 rfl (fun hb1 => ?_) (fun hb1 => ?_) | refine b9 rfl (fun hb1 => ?_) (fun hb1 => ?_)
 ·have hb1' := hb1; try simp at hb1'
  refine a9 (a5 rfl (a8 rfl (a7 (s6 ?_)))); exact ret1 () rfl (congrArg (fun b => some (int b)) (by rw [askedErr, if_neg hb1])) rfl trivial i1 trivial
 have hb1' := hb1; try simp at hb1'
 refine c3 (b6 (a9 (a5 rfl ?_))); refine d6 F.E7 rfl rfl (A1 p) (.refl _) ⟨m1, trivial⟩ fun _ _ => ?_; refine a8 rfl (a7 (i6 ?_)); exact ret1 () rfl (congrArg (fun b => some (int b)) (by rw [askedErr, if_pos (Classical.not_not.1 hb1)])) rfl trivial i1 trivial
def originN (ps : List (Sl Str)) (s : Str) : Nat → Int
  | 0 => -1
  | k + 1 => if s ∈ (ps.getD k default).l then (k : Int) else originN ps s k
theorem xL {ps : List (Sl Str)} {s : Str} {k : Nat} (h : 0 < k) : originN ps s k = if s ∈ (ps.getD (k - 1) default).l then ((k - 1 : Nat) : Int) else originN ps s (k - 1) := by
  cases k with
  | zero => omega
  | succ k => rfl
theorem Y1 {A : Option Addr} {c : Nat} (ps : List (Sl Str)) (s : Str) (hl : ps.length ≤ 1000000) (hp : ∀ p ∈ ps, p.l.length ≤ 1000000) : Meets Tryz.prog F.W0 [.slice A ps.length c, str s] { LI := [Rows2 A ps], val := fun _ : Unit => int (originN ps s ps.length) } := by
 refine c4 F.rG rfl l5 fun w0 => ?_; refine a9 (a8 rfl (a7 (kK (sG m0 (c6 (a5 rfl ?_)))))); refine j9 rfl T.V6 rfl (Z5 _ rfl rfl rfl rfl l9 ?_); refine a8 rfl (a7 (j0 ?_)); refine s9 (β := Nat) ⟨fun k => k ≤ ps.length ∧ originN ps s ps.length = originN ps s k, fun k => [(0, .slice A ps.length c), (1, str s), (5, int ((k : Int) - 1))], fun _ => [], fun _ => [Row A (rows ps), Rows2 A ps]⟩ (fun k => k) ps.length ⟨Nat.le_refl _, rfl⟩ mC (.refl _) ⟨m0, m1, trivial⟩ fun k hk => ?_; obtain ⟨hk, ht⟩ := hk; refine b5 (a9 (a5 rfl (jC rfl rfl rfl (a7 ?_))))
 first | refine i8 rfl (fun hb1 => ?_) (fun hb1 => ?_) | refine b9 rfl (fun hb1 => ?_) (fun hb1 => ?_)
 ·have hb1' := hb1; try simp at hb1'
  have hk2 : 0 < k := by omega
  rw [xL hk2] at ht; have hmem := L3 (l := ps) (k := k - 1) (by omega); refine c3 (b6 (b5 (j0 (a9 (a5 rfl (a5 rfl ?_)))))); refine r7 (α := Sl Str) _ (k - 1) rfl T.V6 T.cE rfl rfl (by omega) m0 rfl (by omega) (by decide) (a4 rfl T.i9 rfl (c5 mB (b4 (by omega) rfl)) (a5 rfl (bW (p := ps.getD (k - 1) default) m1 hmem ?_))); refine d6 F.M5 rfl rfl (I4 (ps.getD (k - 1) default).l s (hp _ hmem)) n6 ⟨m0, trivial⟩ fun _ _ => ?_; refine a7 ?_
  first | refine i8 rfl (fun hb2 => ?_) (fun hb2 => ?_) | refine b9 rfl (fun hb2 => ?_) (fun hb2 => ?_)
  ·have hb2' := hb2; try simp at hb2'
   rw [if_pos hb2] at ht; refine a9 (a5 rfl (a8 rfl (a7 (i6 (t5 (l6 (t5 ?_))))))); exact ret1 () rfl (congrArg (fun n => some (int n)) (by rw [ht]; omega)) rfl trivial (.refl _) trivial
  have hb2' := hb2; try simp at hb2'
  rw [if_neg hb2] at ht; refine c3 (q9 (b6 (c6 (a5 rfl ?_)))); refine Z5 _ rfl rfl rfl rfl l9 ?_; refine a8 rfl (b3 ?_); refine again _ (k - 1) ⟨by omega, ht⟩ (by show k - 1 < k; omega) ⟨rfl, rfl, congrArg (fun n => some (int n)) (by omega), trivial⟩ (.refl _) ⟨m1, m2, trivial⟩
 have hb1' := hb1; try simp at hb1'
 have hk2 : k = 0 := by omega
 refine n5 (y6 (n4 (b6 (a9 (a8 rfl (a7 (i6 ?_))))))); exact ret1 () rfl (congrArg (fun n => some (int n)) (by rw [ht, hk2]; rfl)) rfl trivial (.refl _) trivial
def originE (ps : List (Sl Str)) (p : List Str) : List Int × Int := if ¬ askedErr (years ps) p = 0 then ([], askedErr (years ps) p) else (p.map fun s => originN ps s ps.length, 0)
theorem iY {ps : List (Sl Str)} (h : yearsErr (years ps) = 0) : ps.length ≤ 4 ∧ ∀ p ∈ ps, p.l.length ≤ 6 := by
  rw [Z2] at h
  split at h
  · omega
  exact ⟨by omega, fun p hp => O5 (R7 h p hp)⟩
theorem tZ {ps : List (Sl Str)} {p : List Str} (h : askedErr (years ps) p = 0) : yearsErr (years ps) = 0 ∧ pageErr p = 0 := by
  unfold askedErr at h
  split at h
  · rename_i h1; exact ⟨h1, h⟩
  rename_i h1; exact absurd h h1
theorem jX {A B : Option Addr} {ca cb : Nat} (ps : List (Sl Str)) (p : List Str) : Meets Tryz.prog F.W3 [.slice A ps.length ca, .slice B p.length cb] { outErr (originE ps p) with LI := [Rows2 A ps, Row B (rows p)] } := by
 refine c4 F.rO rfl l5 fun w0 => ?_; refine a9 (a8 rfl (a8 rfl (a7 (b5 (a9 (a5 rfl (a5 rfl ?_))))))); refine d6 F.rL rfl rfl (lG ps p) (.refl _) ⟨m0, m1, trivial⟩ fun _ _ => ?_; refine a8 rfl (k9 (a5 rfl (u9 rfl rfl rfl (a7 ?_))))
 first | refine i8 rfl (fun hb1 => ?_) (fun hb1 => ?_) | refine b9 rfl (fun hb1 => ?_) (fun hb1 => ?_)
 ·have hb1' := hb1; try simp at hb1'
  have e : originE ps p = ([], askedErr (years ps) p) := by rw [originE, if_pos hb1]
  rw [e]; refine a9 (a5 rfl (a8 rfl (a8 rfl (a7 (s6 (mE ?_)))))); exact ret2 (none, 0) rfl rfl rfl rfl rfl (Nat.le_refl _) i1 ⟨m0, trivial⟩
 have hb1' := hb1; try simp at hb1'
 have e : originE ps p = (p.map fun s => originN ps s ps.length, 0) := by rw [originE, if_neg hb1]
 rw [e]; obtain ⟨h1, h2⟩ := tZ (Classical.not_not.1 hb1); obtain ⟨h3, h4⟩ := iY h1; have h5 := O5 h2; refine c3 (b6 (a9 (a8 rfl (a7 (b5 (a9 (a5 rfl ?_))))))); refine j9 rfl T.u5 rfl ?_; refine a5 rfl (a7 (j0 ?_)); refine s9 (β := Nat × OutC × Hp) ⟨fun ⟨k, o, og⟩ => k ≤ p.length ∧ Grow T.int 1 o.1 k o.2 (rows ((p.take k).map fun s => originN ps s ps.length)) og, fun ⟨k, o, og⟩ => [(0, .slice A ps.length ca), (7, .slice o.1 k o.2), (16, .slice B p.length cb), (17, int p.length), (18, int k)], fun ⟨k, o, og⟩ => og, fun _ => [Rows2 A ps, Row B (rows p)]⟩ (fun x => p.length - x.1) (0, (none, 0), []) ⟨Nat.zero_le _, Grow.nil _ _⟩ mC (.refl _) ⟨m0, m1, trivial⟩ fun x hx => ?_; obtain ⟨k, o, og⟩ := x; obtain ⟨hk, hG⟩ := hx; refine a9 (r6 rfl rfl rfl (a7 (b5 ?_)))
 first | refine i8 rfl (fun hb2 => ?_) (fun hb2 => ?_) | refine b9 rfl (fun hb2 => ?_) (fun hb2 => ?_)
 ·have hb2' := hb2; try simp at hb2'
  have hk2 : k < p.length := by omega
  refine c3 (b6 (b5 (j0 (a9 ?_)))); refine r7 (α := Str) _ _ rfl T.u5 T.v8 rfl rfl rfl mB rfl (by omega) (by decide) (a4 rfl T.j1 rfl (c5 mB (b4 (by omega) rfl)) ?_); refine a8 rfl (a7 ?_); have hst : (p.take (k + 1)).map (fun s => originN ps s ps.length) = (p.take k).map (fun s => originN ps s ps.length) ++ [originN ps (p.getD k default) ps.length] := by rw [u0 p k hk2, List.map_append]; rfl
  refine c6 (a5 rfl (a5 rfl (a5 rfl ?_))); refine d6 F.dH rfl rfl (Y1 ps (p.getD k default) (by omega) (fun q hq => by have := h4 q hq; omega)) n6 ⟨m0, trivial⟩ fun _ _ => ?_; refine j8 _ rfl rfl (fun _ => T.uQ ..) fun gS => ?_; refine w9 (k + 1) (rows ((p.take (k + 1)).map fun s => originN ps s ps.length)) T.wK rfl rfl rfl hG (List.perm_append_comm (l₁ := [_])) (Src.own (cs := #[int (originN ps (p.getD k default) ps.length)]) (m := 1) (List.mem_append_right _ m0) rfl rfl) rfl (by rw [hst, t3]; rfl) (by unfold maxLen; omega) (by omega) fun A' c' og' hG' => ?_; refine a8 rfl (b3 (q9 (b6 (c6 ?_)))); refine p7 _ rfl rfl rfl rfl l9 ?_; refine a5 rfl (b3 ?_); exact again _ (k + 1, (A', c'), og') ⟨by omega, hG'⟩ (y5 (by omega)) mC (List.sublist_append_left _ _) ⟨m0, m1, trivial⟩
 have hb2' := hb2; try simp at hb2'
 have hk2 : k = p.length := by omega
 subst hk2; rw [List.take_length] at hG; refine n5 (y6 (n4 (b6 (a9 (a5 rfl (a8 rfl (a8 rfl (a7 ?_)))))))); refine i6 (ax4 hG ?_); exact ret2 o rfl rfl rfl (by show Value.tuple #[.slice o.1 (p.map _).length o.2, int 0] = _; rw [List.length_map]) rfl (by show (p.map _).length ≤ o.2; rw [List.length_map]; exact hG.le) (.refl _) ⟨m0, trivial⟩
def countN (l : List Str) (s : Str) : Nat := (l.filter fun x => decide (x = s)).length
def growsM (m : Mk) : Int := if m.1 = 1 then 1 else if m.1 = 3 then -1 else 0
end Go.Proofs.YtegfgegnhjkcfaaGreatDoor
end
section
namespace Go.Proofs.YtegfgegnhjkcfaaGreatDoor
open Go Go.W
set_option maxRecDepth 20000
attribute [local irreducible] HL HC HQ HB Row Rows2 Blk Facts
def stockN (ps : List (Sl Str)) (s : Str) : Nat := ps.foldl (fun n p => max n (countN p.l s)) 0
theorem lN {ps : List (Sl Str)} {s : Str} {n : Nat} : ∀ k, k ≤ n → n ≤ ps.length → originN (ps.take n) s k = originN ps s k
  | 0, _, _ => rfl
  | k + 1, h, h2 => by
    have : (ps.take n).getD k default = ps.getD k default := by
      rw [B1 (by rw [List.length_take]; omega), B1 (by omega), List.getElem_take]
    rw [originN, originN, this, lN k (by omega) h2]
theorem lM {A : Option Addr} {c : Nat} {ps : List (Sl Str)} (s : Str) {n : Nat} (hn : n ≤ ps.length) (hl : ps.length ≤ 1000000) (hp : ∀ p ∈ ps, p.l.length ≤ 1000000) : Meets Tryz.prog F.W0 [.slice A n c, str s] { LI := [Rows2 A (ps.take n)], val := fun _ : Unit => int (originN ps s n) } := by
  have h := Y1 (A := A) (c := c) (ps.take n) s (by rw [List.length_take]; omega) (fun q hq => hp q (List.mem_of_mem_take hq)); rw [List.length_take, Nat.min_eq_left hn, lN _ (Nat.le_refl _) hn] at h; exact h
theorem zJ (p : List Str) (l : List Mk) : (applyP p l).1.length ≤ 6 := by
  unfold applyP
  split
  · simp
  split
  · simp
  simp only; omega
def lastP (ps : List (Sl Str)) : Sl Str := ps.getD (ps.length - 1) default
def flawP (ps : List (Sl Str)) (r : List Str) (m : Mk) : Int × Int := (if m.1 = 3 then 1 else if ¬ m.2.2 ∈ r ∧ 0 ≤ originN ps m.2.2 (ps.length - 1) then 2 else 3, m.2.1)
def flawR (ps : List (Sl Str)) (r : List Str) (m : Mk) : Int × Int := (if m.1 = 3 then 1 else if countN r m.2.2 = 0 ∧ 0 < stockN (ps.take (ps.length - 1)) m.2.2 then 2 else 3, m.2.1)
def lookP (ps : List (Sl Str)) (l : List Mk) (p : List Str) : (Int × Int) × Int :=
  if ¬ yearsErr (years ps) = 0 then ((0, 0), yearsErr (years ps)) else if ps.length = 0 then ((0, 0), 7)
  else if ¬ (applyP (lastP ps).l l).2 = 0 then ((0, 0), (applyP (lastP ps).l l).2) else if ¬ pageErr p = 0 then ((0, 0), pageErr p)
  else if (diffP (applyP (lastP ps).l l).1 p 0 0).2.length = 0 then ((0, 0), 0)
  else (flawP ps (applyP (lastP ps).l l).1 ((diffP (applyP (lastP ps).l l).1 p 0 0).2.getD 0 default), 0)
def lookR (ps : List (Sl Str)) (l : List Mk) (p : List Str) : (Int × Int) × Int :=
  if ¬ yearsErr (years ps) = 0 then ((0, 0), yearsErr (years ps)) else if ps.length = 0 then ((0, 0), 7)
  else if ¬ (applyR (lastP ps).l l).2 = 0 then ((0, 0), (applyR (lastP ps).l l).2)
  else if ¬ (diffE (applyR (lastP ps).l l).1 p (diffR (applyR (lastP ps).l l).1 p 0 0)).2 = 0 then ((0, 0), (diffE (applyR (lastP ps).l l).1 p (diffR (applyR (lastP ps).l l).1 p 0 0)).2)
  else if (diffE (applyR (lastP ps).l l).1 p (diffR (applyR (lastP ps).l l).1 p 0 0)).1.length = 0 then ((0, 0), 0)
  else (flawR ps (applyR (lastP ps).l l).1 ((diffE (applyR (lastP ps).l l).1 p (diffR (applyR (lastP ps).l l).1 p 0 0)).1.getD 0 default), 0)
def lookV (r : (Int × Int) × Int) : Value := .tuple #[.agg #[int r.1.1, int r.1.2], int r.2]
theorem nD {A B C : Option Addr} {ca cb cc : Nat} (ps : List (Sl Str)) (l : List Mk) (p : List Str) (hca : ps.length ≤ ca) (hcap : ∀ q ∈ ps, q.l.length ≤ q.c) : Meets Tryz.prog F.cV [.slice A ps.length ca, .slice B l.length cb, .slice C p.length cc] { LI := [Rows2 A ps, Row B (rows l), Row C (rows p)], val := fun _ : Unit => lookV (lookP ps l p) } := by
 refine c4 F.vI rfl l5 fun w0 => ?_; refine a9 ?_; refine r9 rfl (fun _ => T.pG _) fun gA => ?_; refine a8 rfl (a7 (b5 (a9 (a5 rfl ?_)))); refine d6 F.V0 rfl rfl (N7 ps) n6 ⟨m0, trivial⟩ fun _ _ => ?_; refine a8 rfl (k9 (a5 rfl (u9 rfl rfl rfl (a7 ?_))))
 first | refine i8 rfl (fun hb1 => ?_) (fun hb1 => ?_) | refine b9 rfl (fun hb1 => ?_) (fun hb1 => ?_)
 ·have hb1' := hb1; try simp at hb1'
  have e : lookP ps l p = ((0, 0), yearsErr (years ps)) := by rw [lookP, if_pos hb1]
  rw [e]; refine a9 ?_; refine t4 _ rfl rfl (fun _ => T.P5 ..) (a5 rfl ?_); refine n1 rfl rfl (by first | exact .refl _ | exact perm2 _ _ _ | exact perm3 _ _ _ _ | exact perm4 _ _ _ _ _) T.q6 (by rfl) (by rfl) ?_; refine a8 rfl (a7 (s6 ?_)); exact t6 () rfl rfl rfl T.w6 T.q6 rfl m0 rfl rfl trivial i1 trivial
 have hb1' := hb1; try simp at hb1'
 obtain ⟨h3, h4⟩ := iY (Classical.not_not.1 hb1); refine c3 (b6 (b5 (a9 (a5 rfl ?_)))); refine j9 rfl T.V6 rfl ?_; refine t8 rfl rfl rfl (a7 ?_)
 first | refine i8 rfl (fun hb2 => ?_) (fun hb2 => ?_) | refine b9 rfl (fun hb2 => ?_) (fun hb2 => ?_)
 ·have hb2' := hb2; try simp at hb2'
  have e : lookP ps l p = ((0, 0), 7) := by rw [lookP, if_neg hb1, if_pos (by omega)]
  rw [e]; refine a9 ?_; refine t4 _ rfl rfl (fun _ => T.P5 ..) ?_; refine n1 rfl rfl (by first | exact .refl _ | exact perm2 _ _ _ | exact perm3 _ _ _ _ | exact perm4 _ _ _ _ _) T.q6 (by rfl) (by rfl) ?_; refine a8 rfl (a7 (s6 ?_)); exact t6 () rfl rfl rfl T.w6 T.q6 rfl m0 rfl rfl trivial i1 trivial
 have hb2' := hb2; try simp at hb2'
 have hb2 : ¬ ps.length = 0 := by omega
 have hmem : lastP ps ∈ ps := L3 (by omega); refine c3 (b6 (a9 (a5 rfl ?_))); refine j9 rfl T.V6 rfl (Z5 ((ps.length - 1 : Nat) : Int) rfl rfl rfl (by omega) l9 ?_); refine a8 rfl (a7 (b5 (sG m0 (c6 (a5 rfl (a5 rfl ?_)))))); refine r7 (α := Sl Str) ps (ps.length - 1) rfl T.V6 T.cE rfl rfl rfl m0 rfl (by omega) (by decide) (a4 rfl T.i9 rfl (c5 mB (b4 (by omega) rfl)) (a5 rfl (bW (p := lastP ps) m1 hmem ?_))); refine d6 F.gQ rfl rfl (Z8 (lastP ps).l l (hcap _ hmem)) n6 ⟨m0, m3, trivial⟩ fun x hx => ?_; have hx : (applyP (lastP ps).l l).1.length ≤ x.2 := hx; have hal := zJ (lastP ps).l l; refine a5 rfl (k4 rfl rfl rfl (k4 rfl rfl rfl (a8 rfl (a8 rfl (a7 (b5 (a9 (a5 rfl (u9 rfl rfl rfl ?_))))))))); refine a7 ?_
 first | refine i8 rfl (fun hb3 => ?_) (fun hb3 => ?_) | refine b9 rfl (fun hb3 => ?_) (fun hb3 => ?_)
 ·have hb3' := hb3; try simp at hb3'
  have e : lookP ps l p = ((0, 0), (applyP (lastP ps).l l).2) := by rw [lookP, if_neg hb1, if_neg hb2, if_pos hb3]
  rw [e]; refine a9 ?_; refine t4 _ rfl rfl (fun _ => T.P5 ..) (a5 rfl ?_); refine n1 rfl rfl (by first | exact .refl _ | exact perm2 _ _ _ | exact perm3 _ _ _ _ | exact perm4 _ _ _ _ _) T.q6 (by rfl) (by rfl) ?_; refine a8 rfl (a7 (s6 ?_)); exact t6 () rfl rfl rfl T.w6 T.q6 rfl m0 rfl rfl trivial i1 trivial
 have hb3' := hb3; try simp at hb3'
 refine c3 (b6 (b5 (a9 (a5 rfl ?_)))); refine d6 F.E7 rfl rfl (A1 p) n6 ⟨m5, trivial⟩ fun _ _ => ?_; refine a8 rfl (k9 (a5 rfl (u9 rfl rfl rfl (a7 ?_))))
 first | refine i8 rfl (fun hb4 => ?_) (fun hb4 => ?_) | refine b9 rfl (fun hb4 => ?_) (fun hb4 => ?_)
 ·have hb4' := hb4; try simp at hb4'
  have e : lookP ps l p = ((0, 0), pageErr p) := by rw [lookP, if_neg hb1, if_neg hb2, if_neg hb3, if_pos hb4]
  rw [e]; refine a9 ?_; refine t4 _ rfl rfl (fun _ => T.P5 ..) (a5 rfl ?_); refine n1 rfl rfl (by first | exact .refl _ | exact perm2 _ _ _ | exact perm3 _ _ _ _ | exact perm4 _ _ _ _ _) T.q6 (by rfl) (by rfl) ?_; refine a8 rfl (a7 (s6 ?_)); exact t6 () rfl rfl rfl T.w6 T.q6 rfl m0 rfl rfl trivial i1 trivial
 have hb4' := hb4; try simp at hb4'
 have hp6 := O5 (Classical.not_not.1 hb4); refine c3 (b6 (a9 (a5 rfl (a5 rfl ?_)))); refine d6 F.jD rfl rfl (bK (applyP (lastP ps).l l).1 p (by omega) (by omega)) n6 ⟨m0, m5, trivial⟩ fun y _ => ?_; refine a8 rfl (a7 (b5 (a9 (a5 rfl ?_)))); refine j9 rfl T.j3 rfl ?_; refine t8 rfl rfl rfl (a7 ?_)
 first | refine i8 rfl (fun hb5 => ?_) (fun hb5 => ?_) | refine b9 rfl (fun hb5 => ?_) (fun hb5 => ?_)
 ·have hb5' := hb5; try simp at hb5'
  have e : lookP ps l p = ((0, 0), 0) := by rw [lookP, if_neg hb1, if_neg hb2, if_neg hb3, if_neg hb4, if_pos (by omega)]
  rw [e]; refine a9 ?_; refine t4 _ rfl rfl (fun _ => T.P5 ..) ?_; refine n1 rfl rfl (by first | exact .refl _ | exact perm2 _ _ _ | exact perm3 _ _ _ _ | exact perm4 _ _ _ _ _) T.q6 (by rfl) (by rfl) ?_; refine a8 rfl (a7 (s6 ?_)); exact t6 () rfl rfl rfl T.w6 T.q6 rfl m0 rfl rfl trivial i1 trivial
 have hb5' := hb5; try simp at hb5'
 have hb5 : ¬ (diffP (applyP (lastP ps).l l).1 p 0 0).2.length = 0 := by omega
 have e : lookP ps l p = (flawP ps (applyP (lastP ps).l l).1 ((diffP (applyP (lastP ps).l l).1 p 0 0).2.getD 0 default), 0) := by rw [lookP, if_neg hb1, if_neg hb2, if_neg hb3, if_neg hb4, if_neg hb5]
 rw [e]; refine c3 (b6 (a9 (a5 rfl ?_))); refine r7 (α := Mk) (diffP (applyP (lastP ps).l l).1 p 0 0).2 0 rfl T.j3 T.c7 rfl rfl rfl m0 rfl (by omega) (by decide) (r8 rfl T.j2 T.c7 rfl rfl (n3 m0 (q8 (l := (diffP (applyP (lastP ps).l l).1 p 0 0).2) (i := 0) (by omega))) ?_); refine r9 rfl (fun _ => T.u1 _) fun gA => ?_; refine n1 rfl rfl (by first | exact .refl _ | exact perm2 _ _ _ | exact perm3 _ _ _ _ | exact perm4 _ _ _ _ _) T.c7 (by rfl) (by rfl) ?_; refine k9 (a8 rfl (a7 (b5 (j0 (b5 ?_))))); generalize ((diffP (applyP (lastP ps).l l).1 p 0 0).2.getD 0 default) = m at *; generalize (applyP (lastP ps).l l) = r at *; obtain ⟨mk, ma, mt⟩ := m; refine c6 ?_
 first | refine a3 ⟨_, 0, none⟩ rfl rfl T.d9 rfl ?_ | refine a3 _ rfl rfl T.d9 rfl ?_
 first | refine a4 rfl T.a6 rfl (b7 mB rfl) ?_ | refine a4 rfl T.a6 rfl (c8 mB rfl) ?_ | refine a4 rfl T.a6 rfl (c5 mB (b4 (by omega) rfl)) ?_ | refine a4 rfl T.a6 rfl (b8 mB (rows_get (by omega) rfl)) ?_
 refine t8 rfl rfl rfl (a8 rfl (a7 ?_))
 first | refine i8 rfl (fun hb6 => ?_) (fun hb6 => ?_) | refine b9 rfl (fun hb6 => ?_) (fun hb6 => ?_)
 ·have hb6' := hb6; try simp at hb6'
  simp only at hb6; refine c6 (a8 rfl (b3 (q9 (b6 (a9 (a5 rfl ?_))))))
  first | refine a3 ⟨_, 1, none⟩ rfl rfl T.d8 rfl ?_ | refine a3 _ rfl rfl T.d8 rfl ?_
  first | refine a4 rfl T.a6 rfl (b7 mB rfl) ?_ | refine a4 rfl T.a6 rfl (c8 mB rfl) ?_ | refine a4 rfl T.a6 rfl (c5 mB (b4 (by omega) rfl)) ?_ | refine a4 rfl T.a6 rfl (b8 mB (rows_get (by omega) rfl)) ?_
  refine t4 _ rfl rfl (fun _ => T.H2 ..) ?_; refine n1 rfl rfl (by first | exact .refl _ | exact perm2 _ _ _ | exact perm3 _ _ _ _ | exact perm4 _ _ _ _ _) T.q6 (by rfl) (by rfl) ?_; refine a8 rfl (a7 (i6 ?_)); exact t6 () rfl rfl rfl T.w6 T.q6 rfl m0 (by rw [lookV, flawP, if_pos hb6]) rfl trivial i1 trivial
 have hb6' := hb6; try simp at hb6'
 refine b5 ?_; refine z6 11 mixed (by decide) (by decide) rfl rfl (j5 (fun w1 => a5 rfl (q_z rfl)) ?_)
 apply k7 _ rfl rfl rfl
 ·intro w1
  first | refine a3 ⟨_, 2, none⟩ rfl rfl T.k6 rfl ?_ | refine a3 _ rfl rfl T.k6 rfl ?_
  refine b3 ?_; exact i3 rfl
 apply k7 _ rfl rfl rfl
 ·intro w1
  first | refine a4 rfl T.j1 rfl (c8 mB rfl) ?_ | refine a4 rfl T.j1 rfl (b7 mB rfl) ?_ | refine a4 rfl T.j1 rfl (c5 mB (b4 (by omega) rfl)) ?_ | refine a4 rfl T.j1 rfl (b8 mB (rows_get (by omega) rfl)) ?_
  refine b3 ?_; exact i3 rfl
 refine j5 (fun w1 => d6 F.M5 rfl rfl (I4 r.1 mt (by omega)) n6 ⟨m3, trivial⟩ fun _ _ => (q_z rfl)) ?_; refine j5 (fun w1 => bH rfl rfl (q_z rfl)) (j5 (fun w1 => a5 rfl (q_z rfl)) ?_); refine xX (t := 68) (want := true) rfl ?_ ?_
 ·intro hg1; have hg1' := hg1; try simp at hg1'
  apply k7 _ rfl rfl rfl
  ·intro w1; refine c9 rfl rfl hg1 (a5 rfl (b3 ?_)); exact i3 rfl
  apply k7 _ rfl rfl rfl
  ·intro w1; refine c9 rfl rfl hg1 (a5 rfl (b3 ?_)); exact i3 rfl
  apply k7 _ rfl rfl rfl
  ·intro w1; refine c9 rfl rfl hg1 (yU (ps.length - 1) rfl T.V6 T.cE rfl rfl rfl (by omega) ?_); refine b3 ?_; exact i3 rfl
  apply k7 _ rfl rfl rfl
  ·intro w1; refine c9 rfl rfl hg1 ?_
   first | refine a3 ⟨_, 2, none⟩ rfl rfl T.k6 rfl ?_ | refine a3 _ rfl rfl T.k6 rfl ?_
   refine b3 ?_; exact i3 rfl
  apply k7 _ rfl rfl rfl
  ·intro w1; refine c9 rfl rfl hg1 ?_
   first | refine a4 rfl T.j1 rfl (c8 mB rfl) ?_ | refine a4 rfl T.j1 rfl (b7 mB rfl) ?_ | refine a4 rfl T.j1 rfl (c5 mB (b4 (by omega) rfl)) ?_ | refine a4 rfl T.j1 rfl (b8 mB (rows_get (by omega) rfl)) ?_
   refine b3 ?_; exact i3 rfl
  refine v6 ⟨rfl, ?_⟩; refine c9 rfl rfl hg1 (cj2 (A := A) (ps := ps) (ps.length - 1) m4 ?_); refine d6 (vs := [.slice A (ps.length - 1) ca, str mt]) F.dH rfl rfl (lM mt (by omega) (by omega) (fun q hq => by have := h4 q hq; omega)) n6 ⟨m0, trivial⟩ fun _ _ => ?_; refine c9 rfl rfl hg1 (jC rfl rfl rfl ?_); refine p_t rfl rfl (bt1 hg1) rfl ?_; refine a8 rfl (a7 ?_)
  first | refine i8 rfl (fun hb7 => ?_) (fun hb7 => ?_) | refine b9 rfl (fun hb7 => ?_) (fun hb7 => ?_)
  ·have hb7' := hb7; try simp at hb7'
   refine c6 (a8 rfl (b3 (q9 (b6 (a9 (a5 rfl ?_))))))
   first | refine a3 ⟨_, 1, none⟩ rfl rfl T.d8 rfl ?_ | refine a3 _ rfl rfl T.d8 rfl ?_
   first | refine a4 rfl T.a6 rfl (b7 mB rfl) ?_ | refine a4 rfl T.a6 rfl (c8 mB rfl) ?_ | refine a4 rfl T.a6 rfl (c5 mB (b4 (by omega) rfl)) ?_ | refine a4 rfl T.a6 rfl (b8 mB (rows_get (by omega) rfl)) ?_
   refine t4 _ rfl rfl (fun _ => T.H2 ..) ?_; refine n1 rfl rfl (by first | exact .refl _ | exact perm2 _ _ _ | exact perm3 _ _ _ _ | exact perm4 _ _ _ _ _) T.q6 (by rfl) (by rfl) ?_; refine a8 rfl (a7 (i6 ?_)); exact t6 () rfl rfl rfl T.w6 T.q6 rfl m0 (by rw [lookV, flawP, if_neg hb6, if_pos (by simpa using ⟨hg1', hb7⟩)]) rfl trivial i1 trivial
  have hb7' := hb7; try simp at hb7'
  refine c3 (q9 (b6 (a9 (a5 rfl ?_))))
  first | refine a3 ⟨_, 1, none⟩ rfl rfl T.d8 rfl ?_ | refine a3 _ rfl rfl T.d8 rfl ?_
  first | refine a4 rfl T.a6 rfl (b7 mB rfl) ?_ | refine a4 rfl T.a6 rfl (c8 mB rfl) ?_ | refine a4 rfl T.a6 rfl (c5 mB (b4 (by omega) rfl)) ?_ | refine a4 rfl T.a6 rfl (b8 mB (rows_get (by omega) rfl)) ?_
  refine t4 _ rfl rfl (fun _ => T.H2 ..) ?_; refine n1 rfl rfl (by first | exact .refl _ | exact perm2 _ _ _ | exact perm3 _ _ _ _ | exact perm4 _ _ _ _ _) T.q6 (by rfl) (by rfl) ?_; refine a8 rfl (a7 (i6 ?_)); exact t6 () rfl rfl rfl T.w6 T.q6 rfl m0 (by rw [lookV, flawP, if_neg hb6, if_neg (by simp_all)]) rfl trivial i1 trivial
 intro hg1; have hg1' := hg1; try simp at hg1'
 refine j5 (fun w1 => k5 rfl rfl rfl rfl rfl hg1 (q_z rfl)) (j5 (fun w1 => k5 rfl rfl rfl rfl rfl hg1 (q_z rfl)) (j5 (fun w1 => k5 rfl rfl rfl rfl rfl hg1 (q_z rfl)) (j5 (fun w1 => k5 rfl rfl rfl rfl rfl hg1 (q_z rfl)) (j5 (fun w1 => k5 rfl rfl rfl rfl rfl hg1 (q_z rfl)) ?_)))); refine v6 ⟨rfl, ?_⟩; refine k5 rfl rfl rfl rfl rfl hg1 (k5 rfl rfl rfl rfl rfl hg1 ?_); refine p_f rfl rfl (bf2 hg1) rfl ?_; refine a8 rfl (a7 (c_f rfl rfl (c3 (q9 (b6 (a9 (a5 rfl ?_)))))))
 first | refine a3 ⟨_, 1, none⟩ rfl rfl T.d8 rfl ?_ | refine a3 _ rfl rfl T.d8 rfl ?_
 first | refine a4 rfl T.a6 rfl (b7 mB rfl) ?_ | refine a4 rfl T.a6 rfl (c8 mB rfl) ?_ | refine a4 rfl T.a6 rfl (c5 mB (b4 (by omega) rfl)) ?_ | refine a4 rfl T.a6 rfl (b8 mB (rows_get (by omega) rfl)) ?_
 refine t4 _ rfl rfl (fun _ => T.H2 ..) ?_; refine n1 rfl rfl (by first | exact .refl _ | exact perm2 _ _ _ | exact perm3 _ _ _ _ | exact perm4 _ _ _ _ _) T.q6 (by rfl) (by rfl) ?_; refine a8 rfl (a7 (i6 ?_)); exact t6 () rfl rfl rfl T.w6 T.q6 rfl m0 (by rw [lookV, flawP, if_neg hb6, if_neg (by simp_all)]) rfl trivial i1 trivial
end Go.Proofs.YtegfgegnhjkcfaaGreatDoor
end
section
namespace Go.Proofs.YtegfgegnhjkcfaaGreatDoor
open Go Go.W
set_option maxRecDepth 20000
attribute [local irreducible] HL HC HQ HB Row Rows2 Blk Facts
theorem uM {α : Type} {f : Nat → Option α} {k : Nat} (h : (List.range k).findSome? f = none) (h1 : f k = none) : (List.range (k + 1)).findSome? f = none := by
  rw [List.range_succ, List.findSome?_append, h]; simp [h1]
theorem find_at {α : Type} {f : Nat → Option α} {k n : Nat} {x : α} (hk : k < n) (h : (List.range k).findSome? f = none) (h1 : f k = some x) : (List.range n).findSome? f = some x := by
  have e : List.range n = List.range (k + 1) ++ (List.range (n - (k + 1))).map (fun i => (k + 1) + i) := by
    have := List.range_add (n := k + 1) (m := n - (k + 1)); rw [← this]
    congr 1
    omega
  rw [e, List.range_succ, List.findSome?_append, List.findSome?_append, h]
  simp [h1]
def growF (n : Nat) (p : List Int → Bool) : Nat → List Int → Option (List Int)
  | 0, l => if p l = true then some l else none
  | d + 1, l => (List.range n).findSome? fun i : Nat => if (i : Int) ∈ l then none else growF n p d (l ++ [(i : Int)])
def InR (n : Nat) (l : List Int) : Prop := ∀ i ∈ l, 0 ≤ i ∧ i < (n : Int)
theorem InR.snoc {n : Nat} {l : List Int} {i : Nat} (h : InR n l) (hi : i < n) : InR n (l ++ [(i : Int)]) := by
  intro x hx
  rcases List.mem_append.1 hx with hx | hx
  · exact h x hx
  simp at hx; omega
abbrev GrowI (o : OutC) (l : List Int) (og : Hp) : Prop := Grow T.int 1 o.1 l.length o.2 (rows l) og
theorem bG {A : Option Addr} {c : Nat} (l : List Int) (hl : l.length ≤ 1000000) : Meets Tryz.prog F.N6 [.slice A l.length c] { LI := [Row A (rows l)], inv := fun x : OutC × Hp => GrowI x.1 l x.2, val := fun x => .slice x.1.1 l.length x.1.2, hpO := fun x => x.2 } := by
 refine c4 F.iM rfl l5 fun w0 => ?_; refine a9 (a8 rfl (a7 (b5 (a9 (a5 rfl (bx4 rfl T.L8 rfl rfl (a7 ?_))))))); refine b9 rfl (fun hb1 => ?_) (fun hb1 => ?_)
 ·have hb1' := hb1; try simp at hb1'
  have hA : A = none := by cases A with | none => rfl | some a => cases hb1
  subst hA; refine hc_pure (φ := l = []) (fun w hw => bq8 (by decide) (hw.fs (Row none (rows l)) m0)) fun hl0 => ?_; subst hl0; refine a9 (a8 rfl (a7 (s6 ?_))); exact ret1 ((none, 0), []) rfl rfl rfl (Grow.nil _ _) (.refl _) trivial
 have hb1' := hb1; try simp at hb1'
 refine c3 (b6 (a9 ?_)); refine j8 _ rfl rfl (fun _ => T.az7 ..) fun gS => ?_; refine a5 rfl ?_; refine w9 l.length (rows l) T.wK rfl rfl rfl (Grow.new (cs := #[]) (n := 0) rfl (Nat.zero_le _)) (.refl _) (Src.row m0 (E5 l) (I7 l) (by decide)) (by omega) rfl (by unfold maxLen; omega) (by omega) fun A' c' og' hG => ?_; refine a8 rfl (a7 (i6 ?_)); exact ret1 ((A', c'), og') rfl rfl rfl hG (List.sublist_append_left _ _) trivial
section
variable (lb : Nat) (rc : Option Code → Loop) (R0 : Hp) (R1 : List Int → OutC → Hp) (LI0 : List Fact) (p : List Int → Bool)
def yCon (o : List Int) (A : Option Addr) (c : Nat) : Con Unit :=
  { hpI := (lb, .loop (rc none)) :: R0, LI := Row A (rows o) :: LI0, val := fun _ => .bool (!(p o)), hpO := fun _ => if p o = true then (lb, .loop (rc (some .ret))) :: R1 o (A, c) else (lb, .loop (rc none)) :: R0 }
abbrev OrdO := Option (List Int × OutC)
def ordR (x : OrdO) : Hp := match x with | none => R0 | some y => R1 y.1 y.2
def ordL (x : OrdO) : List Fact := match x with | none => [] | some y => [Row y.2.1 (rows y.1)]
def ordJ (x : OrdO) : Option Code := match x with | none => none | some _ => some .ret
def ordCon (LI : List Fact) (q : Option (List Int)) (val : OrdO → Value) : Con OrdO :=
  { hpI := (lb, .loop (rc none)) :: R0, LI := LI ++ LI0, inv := fun x => q = x.map (·.1), val := val, hpO := fun x => (lb, .loop (rc (ordJ x))) :: ordR R0 R1 x, LO := ordL }
end
def boxN (g : Nat) (n : Int) : Fact := Blk g (.cells #[int n] T.int (0, 0))
def boxF (g : Nat) (v : Value) : Fact := Blk g (.cells #[v] T.U7 (0, 0))
def ptr (g : Nat) : Value := .pointer (j4 g)
def growV (gn gy gg : Nat) : Value := .func (.func F.J6) #[] [ptr gn, ptr gy, ptr gg].toArray
theorem cS {lb : Nat} {rc : Option Code → Loop} {R0 : Hp} {R1 : List Int → OutC → Hp} {LI0 : List Fact} {p : List Int → Bool} {n : Nat} {gn gy gg : Nat} (hn : n ≤ 1000) (hY : ∀ (o : List Int) (A : Option Addr) (c : Nat), o.length = n → InR n o → MeetsY Tryz.prog lb [.slice A o.length c] (yCon lb rc R0 R1 LI0 p o A c)) :
    ∀ (d : Nat) (l : List Int) (A : Option Addr) (c : Nat), l.length + d = n → InR n l → Meets Tryz.prog F.J6 [.slice A l.length c, ptr gn, ptr gy, ptr gg] (ordCon lb rc R0 R1 LI0 [Row A (rows l), boxN gn n, boxF gy (yieldV lb), boxF gg (growV gn gy gg)] (growF n p d l) (fun x => .bool x.isNone)) := by
 intro d
 induction d using Nat.strongRecOn
 rename_i d ih
 intro l A c hd hR; refine c4 F.jS rfl l5 fun w0 => ?_; refine a9 (a8 rfl (a7 (b5 (a9 (a5 rfl ?_))))); refine j9 rfl T.L8 rfl ?_
 first | refine a4 rfl T.a6 rfl (b7 mB rfl) ?_ | refine a4 rfl T.a6 rfl (c8 mB rfl) ?_ | refine a4 rfl T.a6 rfl (c5 mB (b4 (by omega) rfl)) ?_ | refine a4 rfl T.a6 rfl (b8 mB (rows_get (by omega) rfl)) ?_
 refine t8 rfl rfl rfl (a7 ?_)
 first | refine i8 rfl (fun hb1 => ?_) (fun hb1 => ?_) | refine b9 rfl (fun hb1 => ?_) (fun hb1 => ?_)
 ·have hb1' := hb1; try simp at hb1'
  have h0 : d = 0 := by omega
  subst h0; have hlen : l.length = n := by omega
  refine a9 ?_
  first | refine a4 rfl T.s5 rfl (b7 mB rfl) ?_ | refine a4 rfl T.s5 rfl (c8 mB rfl) ?_ | refine a4 rfl T.s5 rfl (c5 mB (b4 (by omega) rfl)) ?_ | refine a4 rfl T.s5 rfl (b8 mB (rows_get (by omega) rfl)) ?_
  refine a5 rfl ?_; refine cj1 (k := yCon lb rc R0 R1 LI0 p l A c) rfl rfl rfl (hY l A c hlen hR) (hpR := []) (by rw [List.append_nil]; exact .refl _) ⟨m0, (LSub.of_mem fun F hF => by repeat (first | exact hF | apply List.Mem.tail))⟩ fun _ _ => ?_; refine a8 rfl (a7 (s6 ?_))
  by_cases hp : p l = true
  · exact ret1 (some (l, (A, c))) rfl (by show some (Value.bool (!(p l))) = some (Value.bool false); rw [hp]; rfl) rfl (by show growF n p 0 l = some l; rw [growF, if_pos hp]) (by show List.Sublist _ ((if p l = true then _ else _) ++ []); rw [if_pos hp, List.append_nil]; exact .refl _) ⟨m0, trivial⟩
  exact ret1 none rfl (by show some (Value.bool (!(p l))) = some (Value.bool true); rw [Bool.eq_false_iff.2 hp]; rfl) rfl (by show growF n p 0 l = none; rw [growF, if_neg hp]) (by show List.Sublist _ ((if p l = true then _ else _) ++ []); rw [if_neg hp, List.append_nil]; exact .refl _) trivial
 have hb1' := hb1; try simp at hb1'
 obtain ⟨d0, rfl⟩ : ∃ d0, d = d0 + 1 := ⟨d - 1, by omega⟩; refine c3 (b6 (b5 (a9 ?_)))
 first | refine a4 rfl T.a6 rfl (b7 mB rfl) ?_ | refine a4 rfl T.a6 rfl (c8 mB rfl) ?_ | refine a4 rfl T.a6 rfl (c5 mB (b4 (by omega) rfl)) ?_ | refine a4 rfl T.a6 rfl (b8 mB (rows_get (by omega) rfl)) ?_
 refine a5 rfl (a7 (j0 ?_)); refine s9 (β := Nat) ⟨fun k => k ≤ n ∧ (List.range k).findSome? (fun i : Nat => if (i : Int) ∈ l then none else growF n p d0 (l ++ [(i : Int)])) = none, fun k => [(0, .slice A l.length c), (1, ptr gn), (2, ptr gy), (3, ptr gg), (14, int n), (15, int k)], fun _ => (lb, .loop (rc none)) :: R0, fun _ => [Row A (rows l), boxN gn n, boxF gy (yieldV lb), boxF gg (growV gn gy gg)] ++ LI0⟩ (fun k => n - k) 0 ⟨Nat.zero_le _, rfl⟩ mC (.refl _) ⟨m0, m1, m2, m3, (LSub.of_mem fun F hF => by repeat (first | exact hF | apply List.Mem.tail))⟩ fun k hk => ?_; obtain ⟨hk, ht⟩ := hk; refine a9 (r6 rfl rfl rfl (a7 (b5 ?_)))
 first | refine i8 rfl (fun hb2 => ?_) (fun hb2 => ?_) | refine b9 rfl (fun hb2 => ?_) (fun hb2 => ?_)
 ·have hb2' := hb2; try simp at hb2'
  have hk2 : k < n := by omega
  refine c3 (b6 (b5 (j0 (a9 (a5 rfl (a8 rfl (a7 (b5 ?_)))))))); refine J2 ([]) (_) (.refl _) 11 [10, 7] mixed (by decide) (by decide) (by decide) rfl rfl rfl (j5 (fun w1 => a5 rfl (q_z rfl)) (j5 (fun w1 => a5 rfl (q_z rfl)) ?_)); refine j5 (fun w1 => d6 F.bF rfl rfl (X5 l (k : Int) (by omega)) (.refl _) ⟨.tail _ (List.mem_append_right _ m0), trivial⟩ fun _ _ => (q_z rfl)) ?_; refine j5 (fun w1 => bH rfl rfl (q_z rfl)) (j5 (fun w1 => a5 rfl (q_z rfl)) ?_); refine xX (t := 22) (want := true) rfl ?_ ?_
  ·intro hg1; have hg1' := hg1; try simp at hg1'
   have hni : ¬ (k : Int) ∈ l := by simpa using hg1
   apply k7 _ rfl rfl rfl
   ·intro w1; refine c9 rfl rfl hg1 (a4 rfl T.s5 rfl (c8 (.tail _ (List.mem_append_right _ m3)) rfl) ?_); refine b3 ?_; exact i3 rfl
   apply k7 _ rfl rfl rfl
   ·intro w1; refine c9 rfl rfl hg1 (a5 rfl (b3 ?_)); exact i3 rfl
   refine hH ⟨OutC × Hp, fun x => GrowI x.1 l x.2, fun x => .slice x.1.1 l.length x.1.2, fun _ => [], fun x => x.2⟩ rfl rfl rfl ?_ ?_
   ·intro w1; refine c9 rfl rfl hg1 ?_; refine d6 F.dZ rfl rfl (bG l (by omega)) (.refl _) ⟨m0, trivial⟩ fun x hx => ?_; refine b3 ?_; exact L5 x hx (fun _ => rfl) (by rw [List.append_nil]; exact .refl _) trivial
   apply k7 _ rfl rfl rfl
   ·intro w1; refine c9 rfl rfl hg1 (a5 rfl (b3 ?_)); exact i3 rfl
   refine aA ⟨Nat, fun _ => True, fun g1 => .slice (j4 g1) 1 1, fun g1 => [Row (j4 g1) (rows [(k : Int)])]⟩ rfl rfl rfl ?_ ?_
   ·intro w1; refine c9 rfl rfl hg1 ?_; refine j8 _ rfl rfl (fun _ => T.uQ ..) fun gS => ?_; refine b3 ?_; refine D5 (rows [(k : Int)]) (List.prefix_refl _) ?_; exact I0 gS trivial rfl ⟨m0, trivial⟩
   refine hH ⟨OutC × Hp, fun x => Grow T.int 1 x.1.1 (l.length + 1) x.1.2 (rows (l ++ [(k : Int)])) x.2, fun x => .slice x.1.1 (l.length + 1) x.1.2, fun _ => [], fun x => x.2⟩ rfl rfl rfl ?_ ?_
   ·intro x7 hx7 g9 _; intro w1; refine c9 rfl rfl hg1 ?_; refine w9 (l.length + 1) (rows (l ++ [(k : Int)])) T.wK rfl rfl rfl hx7 (hp' := []) (by rw [List.append_nil]) (Src.row (news := rows [(k : Int)]) (m := 1) m0 rfl (I7 _) (by decide)) rfl (t3 l [(k : Int)]).symm (by unfold maxLen; omega) (by omega) fun A' c' og' hG' => ?_; refine b3 ?_; exact L5 ((A', c'), og') hG' (fun _ => rfl) (by rw [List.append_nil]; exact .refl _) trivial
   refine v6 ⟨rfl, ?_⟩; intro x7 hx7 g9 _ x10 hx10; refine c9 rfl rfl hg1 ?_; have ihk := ih d0 (by omega) (l ++ [(k : Int)]) x10.1.1 x10.1.2 (by rw [n8]; omega) (hR.snoc hk2); rw [n8] at ihk; refine xV hx10 ?_; refine J1 (vs := [.slice x10.1.1 (l.length + 1) x10.1.2]) (cap := [ptr gn, ptr gy, ptr gg]) F.V1 rfl rfl rfl ihk (hpR := []) (by rw [List.append_nil]; exact .refl _) ⟨m0, m3, m4, m5, (LSub.of_mem fun F hF => by repeat (first | exact hF | apply List.Mem.tail))⟩ fun y hy => ?_; have hy : growF n p d0 (l ++ [(k : Int)]) = y.map (·.1) := hy; refine c9 rfl rfl hg1 (bH rfl rfl ?_); refine p_t rfl rfl (bt1 hg1) rfl ?_; refine a7 ?_
   first | refine i8 rfl (fun hb3 => ?_) (fun hb3 => ?_) | refine b9 rfl (fun hb3 => ?_) (fun hb3 => ?_)
   ·have hb3' := hb3; try simp at hb3'
    obtain ⟨z, rfl⟩ : ∃ z, y = some z := by cases y with | none => cases hb3 | some z => exact ⟨z, rfl⟩
    refine a9 (a8 rfl (a7 (i6 (t5 (l6 (t5 ?_)))))); exact ret1 (some z) rfl rfl rfl (find_at hk2 ht (by rw [if_neg hni, hy]; rfl)) (by rw [List.append_nil]; exact .refl _) ⟨m0, trivial⟩
   have hb3' := hb3; try simp at hb3'
   have hyn : y = none := by cases y with | none => rfl | some z => cases hb3
   subst hyn; refine c3 (q9 (b6 (c6 ?_))); refine p7 _ rfl rfl rfl rfl l9 ?_; refine a5 rfl (b3 ?_); exact again _ (k + 1) ⟨by omega, uM ht (by rw [if_neg hni, hy]; rfl)⟩ (y5 (by omega)) mC (by rw [List.append_nil]; exact .refl _) ⟨mB, mB, mB, mB, (LSub.of_mem fun F hF => by repeat (first | exact hF | apply List.Mem.tail))⟩
  intro hg1; have hg1' := hg1; try simp at hg1'
  have hin : (k : Int) ∈ l := by simpa using hg1
  refine j5 (fun w1 => k5 rfl rfl rfl rfl rfl hg1 (q_z rfl)) (j5 (fun w1 => k5 rfl rfl rfl rfl rfl hg1 (q_z rfl)) ?_); refine hH ⟨Unit, fun _ => True, fun _ => undef, fun _ => [], fun _ => []⟩ rfl rfl rfl ?_ ?_
  ·intro w1; refine k5 rfl rfl rfl rfl rfl hg1 (b3 ?_); exact L5 () trivial (fun _ => rfl) (.refl _) trivial
  refine j5 (fun w1 => k5 rfl rfl rfl rfl rfl hg1 (q_z rfl)) (j5 (fun w1 => k5 rfl rfl rfl rfl rfl hg1 (q_z rfl)) ?_); refine hH ⟨Unit, fun _ => True, fun _ => undef, fun _ => [], fun _ => []⟩ rfl rfl rfl ?_ ?_
  ·intro _ _; intro w1; refine k5 rfl rfl rfl rfl rfl hg1 (b3 ?_); exact L5 () trivial (fun _ => rfl) (.refl _) trivial
  refine v6 ⟨rfl, ?_⟩; intro _ _ _ _; refine k5 rfl rfl rfl rfl rfl hg1 (k5 rfl rfl rfl rfl rfl hg1 ?_); refine p_f rfl rfl (bf2 hg1) rfl ?_; refine a7 (c_f rfl rfl (c3 (q9 (b6 (c6 ?_))))); refine p7 _ rfl rfl rfl rfl l9 ?_; refine a5 rfl (b3 ?_); exact again _ (k + 1) ⟨by omega, uM ht (by rw [if_pos hin])⟩ (y5 (by omega)) mC (.refl _) ⟨mB, mB, mB, mB, (LSub.of_mem fun F hF => by repeat (first | exact hF | apply List.Mem.tail))⟩
 have hb2' := hb2; try simp at hb2'
 have hk2 : k = n := by omega
 subst hk2; refine n5 (y6 (n4 (b6 (a9 (a8 rfl (a7 (i6 ?_))))))); exact ret1 none rfl rfl rfl ht (.refl _) trivial
theorem gH {lb : Nat} {rc : Option Code → Loop} {R0 : Hp} {R1 : List Int → OutC → Hp} {LI0 : List Fact} {p : List Int → Bool} {n : Nat} {gn : Nat} (hn : n ≤ 1000) (hY : ∀ (o : List Int) (A : Option Addr) (c : Nat), o.length = n → InR n o → MeetsY Tryz.prog lb [.slice A o.length c] (yCon lb rc R0 R1 LI0 p o A c)) : Meets Tryz.prog F.O1 [yieldV lb, ptr gn] (ordCon lb rc R0 R1 LI0 [boxN gn n] (growF n p n []) (fun _ => .tuple #[])) := by
 refine c4 F.mX rfl l5 fun w0 => ?_; refine a9 ?_; refine J9 rfl rfl fun gy => ?_; refine k9 ?_; refine r9 rfl (fun _ => T.kQ _) fun gg => ?_; refine k9 (cQ rfl rfl rfl ?_); refine n7 rfl rfl (.refl _) T.jL (by rfl) (by rfl) ?_; refine a7 (C9 (C9 (c6 ?_)))
 first | refine a4 rfl T.s5 rfl (b7 mB rfl) ?_ | refine a4 rfl T.s5 rfl (c8 mB rfl) ?_ | refine a4 rfl T.s5 rfl (c5 mB (b4 (by omega) rfl)) ?_ | refine a4 rfl T.s5 rfl (b8 mB (rows_get (by omega) rfl)) ?_
 refine ax5 (α := Int) ?_; refine J1 (vs := [.slice none 0 0]) (cap := [ptr gn, ptr gy, ptr gg]) F.V1 rfl rfl rfl (cS hn hY n [] none 0 (by simp) (by intro x hx; simp at hx)) (hpR := []) (by rw [List.append_nil]; exact .refl _) ⟨m0, m3, m1, m2, (LSub.of_mem fun F hF => by repeat (first | exact hF | apply List.Mem.tail))⟩ fun y hy => ?_; refine b3 ?_; exact ret0n y rfl rfl rfl hy (by rw [List.append_nil]; exact .refl _) (LSub.of_mem fun F hF => List.mem_append_left _ hF)
theorem jR (n : Int) : Meets Tryz.prog F.cT [int n] { val := fun g : Nat => .func (.func F.O1) #[] [ptr g].toArray, LO := fun g => [boxN g n] } := by
 refine c4 F.rH rfl l5 fun w0 => ?_; refine a9 ?_; refine J9 rfl rfl fun gn => ?_; refine a8 rfl (k9 (cQ rfl rfl rfl (a8 rfl (a7 (i6 (ax3 ?_)))))); exact ret1 gn rfl rfl rfl trivial (.refl _) ⟨m0, trivial⟩
def orderOK (l : List Mk) (most : Int) : Int → List Int → Bool
  | _, [] => true
  | n, i :: r => if most < n + growsM (l.getD i.toNat default) then false else orderOK l most (n + growsM (l.getD i.toNat default)) r
def stepsP (p : List Str) (l : List Mk) (most : Int) : List Int × Int :=
  if ¬ checkErr p l = 0 then ([], checkErr p l) else if 5 < l.length then ([], 6) else if most < 0 then ([], 1) else if most < p.length then ([], 12)
  else ((growF l.length (orderOK l most p.length) l.length []).getD [], if (growF l.length (orderOK l most p.length) l.length []).isSome then 0 else 11)
theorem Q4 {l : List Mk} {most m : Int} {o : List Int} {k : Nat} (hk : k < o.length) : orderOK l most m (o.drop k) = if most < m + growsM (l.getD (o.getD k default).toNat default) then false else orderOK l most (m + growsM (l.getD (o.getD k default).toNat default)) (o.drop (k + 1)) := by
  rw [List.drop_eq_getElem_cons hk, orderOK, B1 hk]
def cellI (g : Nat) (v : Value) : Nat × Obj := (g, .cells #[v] T.ints (0, 0))
def cellE (g : Nat) (e : Int) : Nat × Obj := (g, .cells #[int e] T.nW (0, 0))
theorem lI {A B : Option Addr} {ca cb : Nat} (p : List Str) (l : List Mk) (most : Int) : Meets Tryz.prog F.Z7 [.slice A p.length ca, .slice B l.length cb, int most] { outE (stepsP p l most) with LI := [Row A (rows p), Row B (rows l)] } := by
 refine vN F.tH rfl l5 fun w0 => ?_; refine a9 ?_; refine J9 rfl rfl fun g3 => ?_; refine J9 rfl rfl fun g4 => ?_; refine J9 rfl rfl fun g5 => ?_; refine r9 rfl (fun _ => T.al_ints _) fun g6 => ?_; refine r9 rfl (fun _ => T.wT _) fun g7 => ?_; refine a7 (cj4 (kK ?_)); refine J7 (List.reverse_perm _).symm ?_; refine C9 (C9 (C9 (c6 ?_)))
 first | refine a4 rfl T.i9 rfl (b7 mB rfl) ?_ | refine a4 rfl T.i9 rfl (c8 mB rfl) ?_ | refine a4 rfl T.i9 rfl (c5 mB (b4 (by omega) rfl)) ?_ | refine a4 rfl T.i9 rfl (b8 mB (rows_get (by omega) rfl)) ?_
 first | refine a4 rfl T.d7 rfl (b7 mB rfl) ?_ | refine a4 rfl T.d7 rfl (c8 mB rfl) ?_ | refine a4 rfl T.d7 rfl (c5 mB (b4 (by omega) rfl)) ?_ | refine a4 rfl T.d7 rfl (b8 mB (rows_get (by omega) rfl)) ?_
 refine d6 F.bM rfl rfl (V2 p l) n6 ⟨m3, m4, trivial⟩ fun _ _ => ?_; refine a8 rfl (k9 (a5 rfl (u9 rfl rfl rfl (a7 ?_))))
 first | refine i8 rfl (fun hb1 => ?_) (fun hb1 => ?_) | refine b9 rfl (fun hb1 => ?_) (fun hb1 => ?_)
 ·have hb1' := hb1; try simp at hb1'
  have e : stepsP p l most = ([], checkErr p l) := by rw [stepsP, if_pos hb1]
  rw [e]; refine a9 (a5 rfl ?_); refine n7 rfl rfl (by first | exact .refl _ | exact perm2 _ _ _ | exact perm3 _ _ _ _ | exact perm4 _ _ _ _ _) T.hX (by rfl) (by rfl) ?_; refine n7 rfl rfl (by first | exact .refl _ | exact perm2 _ _ _ | exact perm3 _ _ _ _ | exact perm4 _ _ _ _ _) T.J5 (by rfl) (by rfl) ?_; refine a7 (s6 (nG ?_)); refine A3 (α := Int) ?_; exact W7 [] (none, 0) rfl (.refl _) (D9 rfl rfl rfl T.A4 T.E9 (b7 mB rfl) (b7 mB rfl)) rfl trivial i1 ⟨m0, trivial⟩
 have hb1' := hb1; try simp at hb1'
 obtain ⟨hp6, hl12, hV⟩ := jJ (Classical.not_not.1 hb1); refine c3 (b6 (b5 (j0 (a9 ?_))))
 first | refine a4 rfl T.d7 rfl (b7 mB rfl) ?_ | refine a4 rfl T.d7 rfl (c8 mB rfl) ?_ | refine a4 rfl T.d7 rfl (c5 mB (b4 (by omega) rfl)) ?_ | refine a4 rfl T.d7 rfl (b8 mB (rows_get (by omega) rfl)) ?_
 refine j9 rfl T.j3 rfl ?_; refine v9 rfl rfl rfl (a8 rfl (a7 ?_))
 first | refine i8 rfl (fun hb2 => ?_) (fun hb2 => ?_) | refine b9 rfl (fun hb2 => ?_) (fun hb2 => ?_)
 ·have hb2' := hb2; try simp at hb2'
  have e : stepsP p l most = ([], 6) := by rw [stepsP, if_neg hb1, if_pos (by omega)]
  rw [e]; refine a9 ?_; refine n7 rfl rfl (by first | exact .refl _ | exact perm2 _ _ _ | exact perm3 _ _ _ _ | exact perm4 _ _ _ _ _) T.hX (by rfl) (by rfl) ?_; refine n7 rfl rfl (by first | exact .refl _ | exact perm2 _ _ _ | exact perm3 _ _ _ _ | exact perm4 _ _ _ _ _) T.J5 (by rfl) (by rfl) ?_; refine a7 (i6 (t5 (nG ?_))); refine A3 (α := Int) ?_; exact W7 [] (none, 0) rfl (.refl _) (D9 rfl rfl rfl T.A4 T.E9 (b7 mB rfl) (b7 mB rfl)) rfl trivial i1 ⟨m0, trivial⟩
 have hb2' := hb2; try simp at hb2'
 have hb2 : ¬ 5 < l.length := by omega
 refine a9 ?_
 first | refine a4 rfl T.a6 rfl (b7 mB rfl) ?_ | refine a4 rfl T.a6 rfl (c8 mB rfl) ?_ | refine a4 rfl T.a6 rfl (c5 mB (b4 (by omega) rfl)) ?_ | refine a4 rfl T.a6 rfl (b8 mB (rows_get (by omega) rfl)) ?_
 refine r6 rfl rfl rfl (a8 rfl (a7 ?_))
 first | refine i8 rfl (fun hb3 => ?_) (fun hb3 => ?_) | refine b9 rfl (fun hb3 => ?_) (fun hb3 => ?_)
 ·have hb3' := hb3; try simp at hb3'
  have e : stepsP p l most = ([], 1) := by rw [stepsP, if_neg hb1, if_neg hb2, if_pos hb3]
  rw [e]; refine a9 ?_; refine n7 rfl rfl (by first | exact .refl _ | exact perm2 _ _ _ | exact perm3 _ _ _ _ | exact perm4 _ _ _ _ _) T.hX (by rfl) (by rfl) ?_; refine n7 rfl rfl (by first | exact .refl _ | exact perm2 _ _ _ | exact perm3 _ _ _ _ | exact perm4 _ _ _ _ _) T.J5 (by rfl) (by rfl) ?_; refine a7 (i6 (t5 (nG ?_))); refine A3 (α := Int) ?_; exact W7 [] (none, 0) rfl (.refl _) (D9 rfl rfl rfl T.A4 T.E9 (b7 mB rfl) (b7 mB rfl)) rfl trivial i1 ⟨m0, trivial⟩
 have hb3' := hb3; try simp at hb3'
 refine a9 ?_
 first | refine a4 rfl T.i9 rfl (b7 mB rfl) ?_ | refine a4 rfl T.i9 rfl (c8 mB rfl) ?_ | refine a4 rfl T.i9 rfl (c5 mB (b4 (by omega) rfl)) ?_ | refine a4 rfl T.i9 rfl (b8 mB (rows_get (by omega) rfl)) ?_
 refine j9 rfl T.u5 rfl ?_
 first | refine a4 rfl T.a6 rfl (b7 mB rfl) ?_ | refine a4 rfl T.a6 rfl (c8 mB rfl) ?_ | refine a4 rfl T.a6 rfl (c5 mB (b4 (by omega) rfl)) ?_ | refine a4 rfl T.a6 rfl (b8 mB (rows_get (by omega) rfl)) ?_
 refine v9 rfl rfl rfl (a8 rfl (a7 ?_))
 first | refine i8 rfl (fun hb4 => ?_) (fun hb4 => ?_) | refine b9 rfl (fun hb4 => ?_) (fun hb4 => ?_)
 ·have hb4' := hb4; try simp at hb4'
  have e : stepsP p l most = ([], 12) := by rw [stepsP, if_neg hb1, if_neg hb2, if_neg hb3, if_pos hb4]
  rw [e]; refine a9 ?_; refine n7 rfl rfl (by first | exact .refl _ | exact perm2 _ _ _ | exact perm3 _ _ _ _ | exact perm4 _ _ _ _ _) T.hX (by rfl) (by rfl) ?_; refine n7 rfl rfl (by first | exact .refl _ | exact perm2 _ _ _ | exact perm3 _ _ _ _ | exact perm4 _ _ _ _ _) T.J5 (by rfl) (by rfl) ?_; refine a7 (i6 (t5 (nG ?_))); refine A3 (α := Int) ?_; exact W7 [] (none, 0) rfl (.refl _) (D9 rfl rfl rfl T.A4 T.E9 (b7 mB rfl) (b7 mB rfl)) rfl trivial i1 ⟨m0, trivial⟩
 have hb4' := hb4; try simp at hb4'
 have e : stepsP p l most = ((growF l.length (orderOK l most p.length) l.length []).getD [], if (growF l.length (orderOK l most p.length) l.length []).isSome then 0 else 11) := by rw [stepsP, if_neg hb1, if_neg hb2, if_neg hb3, if_neg hb4]
 rw [e]; refine c3 (q9 (b6 (b5 (cj7 (b6 (b5 (a9 ?_)))))))
 first | refine a4 rfl T.d7 rfl (b7 mB rfl) ?_ | refine a4 rfl T.d7 rfl (c8 mB rfl) ?_ | refine a4 rfl T.d7 rfl (c5 mB (b4 (by omega) rfl)) ?_ | refine a4 rfl T.d7 rfl (b8 mB (rows_get (by omega) rfl)) ?_
 refine j9 rfl T.j3 rfl ?_; refine d6 F.pN rfl rfl (jR l.length) n6 trivial fun gn _ => ?_; refine a7 (j0 ?_); refine wC (β := OrdO) (cap := [ptr gn]) (hpR := []) [cellI g6 (.slice none 0 0), cellE g7 0] ([boxN gn l.length] ++ [Row A (rows p), Row B (rows l), Blk g3 (.cells #[.slice A p.length ca] T.strs (0, 0)), Blk g4 (.cells #[.slice B l.length cb] T.M3 (0, 0)), Blk g5 (.cells #[int most] T.int (0, 0))]) (fun x => growF l.length (orderOK l most p.length) l.length [] = x.map (·.1)) (fun _ => .tuple #[]) ordJ (ordR [cellI g6 (.slice none 0 0), cellE g7 0] (fun o out => [cellI g6 (.slice out.1 o.length out.2), cellE g7 0])) ordL rfl F.lC (.refl _) ⟨m0, m4, m5, m3, m2, m1, trivial⟩ ?_ ?_ ?_
 ·intro lb d fn tmps hsz hfr; refine gH (lb := lb) (rc := recL fn tmps #[34] _ _ d) (R0 := [cellI g6 (.slice none 0 0), cellE g7 0]) (R1 := (fun o out => [cellI g6 (.slice out.1 o.length out.2), cellE g7 0])) (LI0 := [Row A (rows p), Row B (rows l), Blk g3 (.cells #[.slice A p.length ca] T.strs (0, 0)), Blk g4 (.cells #[.slice B l.length cb] T.M3 (0, 0)), Blk g5 (.cells #[int most] T.int (0, 0))]) (p := (orderOK l most p.length)) (n := l.length) (by omega) (fun o A2 c2 hlo hio => ?_); refine vM m0 hsz hfr rfl (by intro t ht; simp at ht; subst ht; exact Nat.lt_of_lt_of_le (show 34 < 61 by decide) (Nat.le_refl _)) fun w => ?_; refine t7 rfl (a8 rfl (b3 ?_)); refine yN (.refl _) ?_; refine j0 (b5 (t7 rfl ?_))
  first | refine a4 rfl T.i9 rfl (b7 mB rfl) ?_ | refine a4 rfl T.i9 rfl (c8 mB rfl) ?_ | refine a4 rfl T.i9 rfl (c5 mB (b4 (by omega) rfl)) ?_ | refine a4 rfl T.i9 rfl (b8 mB (rows_get (by omega) rfl)) ?_
  refine j9 rfl T.u5 rfl ?_; refine a8 rfl (a7 (kK (t7 rfl (a5 rfl ?_)))); refine j9 rfl T.L8 rfl ?_; refine a5 rfl (a7 (j0 ?_)); refine s9 (β := Nat × Int) ⟨fun ⟨k, m⟩ => k ≤ o.length ∧ orderOK l most p.length o = orderOK l most m (o.drop k) ∧ -(k : Int) ≤ m ∧ m ≤ 6 + k, fun ⟨k, m⟩ => [(3, ptr g3), (4, ptr g4), (5, ptr g5), (6, ptr g6), (7, ptr g7), (9, .slice A2 o.length c2), (10, int m), (37, .slice A2 o.length c2), (38, int o.length), (39, int k)], fun _ => (lb, .loop (recB fn tmps #[34] _ _ d)) :: [cellI g6 (.slice none 0 0), cellE g7 0], fun _ => [Row A2 (rows o), Row A (rows p), Row B (rows l), Blk g3 (.cells #[.slice A p.length ca] T.strs (0, 0)), Blk g4 (.cells #[.slice B l.length cb] T.M3 (0, 0)), Blk g5 (.cells #[int most] T.int (0, 0))]⟩ (fun x => o.length - x.1) (0, (p.length : Int)) ⟨Nat.zero_le _, rfl, by omega, by omega⟩ mC (.refl _) ⟨m0, m1, m2, m3, m4, m5, trivial⟩ fun x hx => ?_; obtain ⟨k, m⟩ := x; obtain ⟨hk, hq, hm1, hm2⟩ := hx; refine b5 (t7 rfl (r6 rfl rfl rfl (a7 (b5 ?_))))
  first | refine i8 rfl (fun hb5 => ?_) (fun hb5 => ?_) | refine b9 rfl (fun hb5 => ?_) (fun hb5 => ?_)
  ·have hb5' := hb5; try simp at hb5'
   have hk2 : k < o.length := by omega
   have hio2 := hio _ (L3 hk2); have e2 : m + -1 = m - 1 := rfl; refine c3 (b6 (b5 (j0 (b5 (t7 rfl ?_))))); refine r7 (α := Int) _ _ rfl T.L8 T.D8 rfl rfl rfl mB rfl (by omega) (by decide) (a4 rfl T.a6 rfl (c5 mB (b4 (by omega) rfl)) ?_); refine a8 rfl (a7 (kK (t7 rfl ?_)))
   first | refine a4 rfl T.d7 rfl (b7 mB rfl) ?_ | refine a4 rfl T.d7 rfl (c8 mB rfl) ?_ | refine a4 rfl T.d7 rfl (c5 mB (b4 (by omega) rfl)) ?_ | refine a4 rfl T.d7 rfl (b8 mB (rows_get (by omega) rfl)) ?_
   refine a5 rfl (r7 (α := Mk) l (o.getD k default).toNat rfl T.j3 T.c7 rfl rfl (by omega) m2 rfl (by omega) (by decide) ?_)
   first | refine a3 ⟨_, 0, none⟩ rfl rfl T.d9 rfl ?_ | refine a3 _ rfl rfl T.d9 rfl ?_
   refine a4 rfl T.a6 rfl (c5 mB (b4 (by omega) rfl)) ?_; refine a7 (j0 (b5 (t7 rfl (t8 rfl rfl rfl (a8 rfl (a7 ?_))))))
   first | refine i8 rfl (fun hb6 => ?_) (fun hb6 => ?_) | refine b9 rfl (fun hb6 => ?_) (fun hb6 => ?_)
   ·have hb6' := hb6; try simp at hb6'
    have hgr : growsM (l.getD (o.getD k default).toNat default) = 1 := by rw [growsM, if_pos hb6]
    refine t7 rfl (a5 rfl ?_); refine p7 _ rfl rfl rfl rfl l9 ?_; refine a8 rfl (b3 (q9 (b6 (b5 (t7 rfl (a5 rfl ?_))))))
    first | refine a4 rfl T.a6 rfl (b7 mB rfl) ?_ | refine a4 rfl T.a6 rfl (c8 mB rfl) ?_ | refine a4 rfl T.a6 rfl (c5 mB (b4 (by omega) rfl)) ?_ | refine a4 rfl T.a6 rfl (b8 mB (rows_get (by omega) rfl)) ?_
    refine v9 rfl rfl rfl (a7 ?_)
    first | refine i8 rfl (fun hb8 => ?_) (fun hb8 => ?_) | refine b9 rfl (fun hb8 => ?_) (fun hb8 => ?_)
    ·have hb8' := hb8; try simp at hb8'
     refine n5 (S7 rfl (y6 (S7 rfl (z7 (n4 ?_))))); have hf : orderOK l most p.length o = false := by rw [hq, Q4 hk2, hgr, if_pos hb8]
     exact rp_n () (.refl _) rfl (by show Value.bool (!(orderOK l most p.length o)) = _; rw [hf]; rfl) trivial (by show List.Sublist (if orderOK l most p.length o = true then _ else _) _; rw [if_neg (by rw [hf]; decide)]; exact .refl _) trivial
    have hb8' := hb8; try simp at hb8'
    refine c3 (q9 (b6 (t7 rfl ?_))); refine p7 _ rfl rfl rfl rfl l9 ?_; refine a5 rfl (b3 ?_); exact again _ (k + 1, m + 1) ⟨by omega, by rw [hq, Q4 hk2]; rw [hgr, if_neg hb8], by omega, by omega⟩ (y5 (by omega)) mC (.refl _) ⟨m0, m1, m2, m3, m4, m5, trivial⟩
   have hb6' := hb6; try simp at hb6'
   refine b5 (t7 rfl (t8 rfl rfl rfl (a8 rfl (a7 ?_))))
   first | refine i8 rfl (fun hb7 => ?_) (fun hb7 => ?_) | refine b9 rfl (fun hb7 => ?_) (fun hb7 => ?_)
   ·have hb7' := hb7; try simp at hb7'
    have hgr : growsM (l.getD (o.getD k default).toNat default) = -1 := by rw [growsM, if_neg hb6, if_pos hb7]
    refine t7 rfl (a5 rfl ?_); refine Z5 _ rfl rfl rfl rfl l9 ?_; refine a8 rfl (b3 (q9 (b6 (b5 (t7 rfl (a5 rfl ?_))))))
    first | refine a4 rfl T.a6 rfl (b7 mB rfl) ?_ | refine a4 rfl T.a6 rfl (c8 mB rfl) ?_ | refine a4 rfl T.a6 rfl (c5 mB (b4 (by omega) rfl)) ?_ | refine a4 rfl T.a6 rfl (b8 mB (rows_get (by omega) rfl)) ?_
    refine v9 rfl rfl rfl (a7 ?_)
    first | refine i8 rfl (fun hb8 => ?_) (fun hb8 => ?_) | refine b9 rfl (fun hb8 => ?_) (fun hb8 => ?_)
    ·have hb8' := hb8; try simp at hb8'
     refine n5 (S7 rfl (y6 (S7 rfl (z7 (n4 ?_))))); have hf : orderOK l most p.length o = false := by rw [hq, Q4 hk2, hgr, e2, if_pos hb8]
     exact rp_n () (.refl _) rfl (by show Value.bool (!(orderOK l most p.length o)) = _; rw [hf]; rfl) trivial (by show List.Sublist (if orderOK l most p.length o = true then _ else _) _; rw [if_neg (by rw [hf]; decide)]; exact .refl _) trivial
    have hb8' := hb8; try simp at hb8'
    refine c3 (q9 (b6 (t7 rfl ?_))); refine p7 _ rfl rfl rfl rfl l9 ?_; refine a5 rfl (b3 ?_); exact again _ (k + 1, m - 1) ⟨by omega, by rw [hq, Q4 hk2]; rw [hgr, e2, if_neg hb8], by omega, by omega⟩ (y5 (by omega)) mC (.refl _) ⟨m0, m1, m2, m3, m4, m5, trivial⟩
   have hb7' := hb7; try simp at hb7'
   have hgr : growsM (l.getD (o.getD k default).toNat default) = 0 := by rw [growsM, if_neg hb6, if_neg hb7]
   refine c3 (q9 (b6 (b5 (t7 rfl (a5 rfl ?_)))))
   first | refine a4 rfl T.a6 rfl (b7 mB rfl) ?_ | refine a4 rfl T.a6 rfl (c8 mB rfl) ?_ | refine a4 rfl T.a6 rfl (c5 mB (b4 (by omega) rfl)) ?_ | refine a4 rfl T.a6 rfl (b8 mB (rows_get (by omega) rfl)) ?_
   refine v9 rfl rfl rfl (a7 ?_)
   first | refine i8 rfl (fun hb8 => ?_) (fun hb8 => ?_) | refine b9 rfl (fun hb8 => ?_) (fun hb8 => ?_)
   ·have hb8' := hb8; try simp at hb8'
    refine n5 (S7 rfl (y6 (S7 rfl (z7 (n4 ?_))))); have hf : orderOK l most p.length o = false := by rw [hq, Q4 hk2, hgr, Int.add_zero, if_pos hb8]
    exact rp_n () (.refl _) rfl (by show Value.bool (!(orderOK l most p.length o)) = _; rw [hf]; rfl) trivial (by show List.Sublist (if orderOK l most p.length o = true then _ else _) _; rw [if_neg (by rw [hf]; decide)]; exact .refl _) trivial
   have hb8' := hb8; try simp at hb8'
   refine c3 (q9 (b6 (t7 rfl ?_))); refine p7 _ rfl rfl rfl rfl l9 ?_; refine a5 rfl (b3 ?_); exact again _ (k + 1, m) ⟨by omega, by rw [hq, Q4 hk2]; rw [hgr, Int.add_zero, if_neg hb8], by omega, by omega⟩ (y5 (by omega)) mC (.refl _) ⟨m0, m1, m2, m3, m4, m5, trivial⟩
  have hb5' := hb5; try simp at hb5'
  have hk2 : k = o.length := by omega
  refine n5 (y6 (n4 (b6 (b5 (t7 rfl (a5 rfl ?_)))))); refine n7 rfl rfl (by first | exact .refl _ | exact perm2 _ _ _ | exact perm3 _ _ _ _ | exact perm4 _ _ _ _ _) T.hX (by rfl) (by rfl) ?_; refine n7 rfl rfl (by first | exact .refl _ | exact perm2 _ _ _ | exact perm3 _ _ _ _ | exact perm4 _ _ _ _ _) T.J5 (by rfl) (by rfl) ?_; refine a7 (i6 (C3 ?_)); have ht : orderOK l most p.length o = true := by rw [hq, hk2, List.drop_length]; rfl
  refine rp_ret (hp' := [cellI g6 (.slice A2 o.length c2), cellE g7 0]) () (List.reverse_perm _).symm rfl (by show Value.bool (!(orderOK l most p.length o)) = _; rw [ht]; rfl) trivial (by show List.Sublist (if orderOK l most p.length o = true then _ else _) _; rw [if_pos ht]; exact .refl _) trivial
 ·intro x d hx hp; obtain rfl : x = none := by cases x with | none => rfl | some y => cases hp
  refine q9 (b6 (a9 ?_)); refine n7 rfl rfl (by first | exact .refl _ | exact perm2 _ _ _ | exact perm3 _ _ _ _ | exact perm4 _ _ _ _ _) T.hX (by rfl) (by rfl) ?_; refine n7 rfl rfl (by first | exact .refl _ | exact perm2 _ _ _ | exact perm3 _ _ _ _ | exact perm4 _ _ _ _ _) T.J5 (by rfl) (by rfl) ?_; refine a7 (i6 (nG ?_)); have hx : growF l.length (orderOK l most p.length) l.length [] = none := hx; rw [hx]; refine A3 (α := Int) ?_; exact W7 [d] (none, 0) rfl (List.reverse_perm _).symm (D9 rfl rfl rfl T.A4 T.E9 (b7 mB rfl) (b7 mB rfl)) rfl trivial i1 ⟨m0, trivial⟩
 intro x d j hx hp; obtain ⟨y, rfl⟩ : ∃ y, x = some y := by cases x with | none => cases hp | some y => exact ⟨y, rfl⟩
 cases hp
 refine i6 (t5 (nG ?_)); have hx : growF l.length (orderOK l most p.length) l.length [] = some y.1 := hx; rw [hx]; exact W7 [d] y.2 rfl (.refl _) (D9 rfl rfl rfl T.A4 T.E9 (b7 mB rfl) (b7 mB rfl)) rfl trivial i1 ⟨m0, trivial⟩
def stepsF (l : List Mk) (most : Int) : Nat → List Int → Int → Option (List Int)
  | 0, done, _ => some done
  | d + 1, done, lines => (List.range l.length).findSome? fun i : Nat => if (i : Int) ∈ done ∨ most < lines + growsM (l.getD i default) then none else stepsF l most d (done ++ [(i : Int)]) (lines + growsM (l.getD i default))
def outB (r : Option (List Int)) : Con OutC := { val := fun x => .tuple #[.slice x.1 (r.getD []).length x.2, .bool r.isSome], LO := fun x => [Row x.1 (rows (r.getD []))] }
def stepsR (p : List Str) (l : List Mk) (most : Int) : List Int × Int :=
  if ¬ checkErr p l = 0 then ([], checkErr p l) else if 5 < l.length then ([], 6) else if most < 0 then ([], 1) else if most < p.length then ([], 12)
  else if (stepsF l most l.length [] p.length).isSome then ((stepsF l most l.length [] p.length).getD [], 0) else ([], 11)
end Go.Proofs.YtegfgegnhjkcfaaGreatDoor
end
section
namespace Go.Proofs.YtegfgegnhjkcfaaGreatDoor
open Go Go.W
set_option maxRecDepth 20000
attribute [local irreducible] HL HC HQ HB Row Rows2 Blk Facts
abbrev sAnna : Str := [97, 110, 110, 97]
abbrev sBea : Str := [98, 101, 97]
abbrev sBen : Str := [98, 101, 110]
abbrev sCid : Str := [99, 105, 100]
abbrev sCyd : Str := [99, 121, 100]
abbrev sAbe : Str := [97, 98, 101]
abbrev sDan : Str := [100, 97, 110]
abbrev folkL : List Str := [sAnna, sBen, sCyd]
abbrev slipL : List Mk := [(1, 1, sBea), (2, 2, sCid)]
abbrev newL : List Str := [sAnna, sBea, sBen, sCid]
def diffN (old page : List Str) : Nat → Nat → Nat → Lst
  | 0, _, _ => (0, [])
  | d + 1, i, j => leastOf ((if i = old.length ∧ j = page.length then [(0, [])] else []) ++
    (if j < page.length then [behindP (diffN old page d i (j + 1)) (1, (i : Int), page.getD j default)] else []) ++
    (if i < old.length then [behindP (diffN old page d (i + 1) j) (3, (i : Int), [])] else []) ++
    (if i < old.length ∧ j < page.length then behindP (diffN old page d (i + 1) (j + 1)) (2, (i : Int), page.getD j default) :: (if old.getD i default = page.getD j default then [diffN old page d (i + 1) (j + 1)] else []) else []))
theorem yB (old page : List Str) : ∀ (d i j : Nat), (old.length - i) + (page.length - j) < d → diffN old page d i j = diffP old page i j := by
  intro d
  induction d with
  | zero => intro i j h; omega
  | succ d ih =>
    intro i j h; unfold diffN diffP
    congr 1
    congr 1
    · congr 1
      · congr 1
        by_cases hj : j < page.length
        · rw [if_pos hj, dif_pos hj, ih i (j + 1) (by omega)]
        rw [if_neg hj, dif_neg hj]
      by_cases hi : i < old.length
      · rw [if_pos hi, dif_pos hi, ih (i + 1) j (by omega)]
      rw [if_neg hi, dif_neg hi]
    by_cases hi : i < old.length ∧ j < page.length
    · rw [if_pos hi, dif_pos hi, ih (i + 1) (j + 1) (by omega)]
    rw [if_neg hi, dif_neg hi]
theorem cq3 : applyP folkL slipL = (newL, 0) := by decide +kernel
theorem ex_diff : diffE folkL newL (diffP folkL newL 0 0).2 = (slipL, 0) := by rw [← yB folkL newL 10 0 0 (by decide)]; decide +kernel
theorem cq2 : stepsP folkL [(1, 0, sAbe), (3, 1, []), (3, 2, [])] 3 = ([1, 0, 2], 0) := by decide +kernel
theorem az2 (a b : Option Addr) : originE [⟨a, 2, [sAnna, sBen]⟩, ⟨b, 2, [sAnna, sCyd]⟩] [sAnna, sBen, sDan] = ([1, 0, -1], 0) := by rfl
theorem ex_look (a b : Option Addr) : lookP [⟨a, 2, [sAnna, sBen]⟩, ⟨b, 2, [sAnna, sCyd]⟩] [(1, 2, sDan)] [sAnna, sCyd, sBen, sDan] = ((2, 2), 0) := by
  have e1 : yearsErr (years [⟨a, 2, [sAnna, sBen]⟩, ⟨b, 2, [sAnna, sCyd]⟩]) = 0 := by show yearsErr [[sAnna, sBen], [sAnna, sCyd]] = 0; decide +kernel
  have e2 : (lastP [⟨a, 2, [sAnna, sBen]⟩, ⟨b, 2, [sAnna, sCyd]⟩]).l = [sAnna, sCyd] := rfl; have e3 : applyP [sAnna, sCyd] [(1, 2, sDan)] = ([sAnna, sCyd, sDan], 0) := by decide +kernel
  have e4 : pageErr [sAnna, sCyd, sBen, sDan] = 0 := by decide +kernel
  have e5 : (diffP [sAnna, sCyd, sDan] [sAnna, sCyd, sBen, sDan] 0 0).2 = [(1, 2, sBen)] := by rw [← yB _ _ 10 0 0 (by decide)]; decide +kernel
  unfold lookP; rw [e1, e2, e3, e4, e5]
  rfl
theorem Q6 : Meets Tryz.prog F.kC [] (outSl folkL) := by
 refine c4 F.vT rfl l5 fun w0 => ?_; refine a9 (a8 rfl (k9 ?_)); refine j8 _ rfl rfl (fun _ => T.uP ..) fun gS => ?_; refine a8 rfl (a7 (i6 ?_)); refine D5 (rows folkL) (List.prefix_refl _) ?_; exact ret1 (some ⟨gS, 0, none⟩, 3) rfl rfl rfl (Nat.le_refl _) (.refl _) ⟨m0, trivial⟩
theorem Y4 (n : Int) (s : Str) : Meets Tryz.prog F.rS [int n, str s] { val := fun _ : Unit => .agg #[int 1, int n, str s] } := by
 refine c4 F.yZ rfl l5 fun w0 => ?_; refine a9 ?_; refine r9 rfl (fun _ => T.u1 _) fun gA => ?_; refine k9 (a5 rfl (a5 rfl ?_)); refine t4 _ rfl rfl (fun _ => T.A5 ..) ?_; refine n1 rfl rfl (by first | exact .refl _ | exact perm2 _ _ _ | exact perm3 _ _ _ _ | exact perm4 _ _ _ _ _) T.c7 (by rfl) (by rfl) ?_; refine a7 (i6 ?_); exact Z4 () rfl rfl T.j2 T.c7 rfl m0 rfl rfl trivial i1 trivial
theorem pT (n : Int) (s : Str) : Meets Tryz.prog F.nH [int n, str s] { val := fun _ : Unit => .agg #[int 2, int n, str s] } := by
 refine c4 F.xS rfl l5 fun w0 => ?_; refine a9 ?_; refine r9 rfl (fun _ => T.u1 _) fun gA => ?_; refine k9 (a5 rfl (a5 rfl ?_)); refine t4 _ rfl rfl (fun _ => T.A5 ..) ?_; refine n1 rfl rfl (by first | exact .refl _ | exact perm2 _ _ _ | exact perm3 _ _ _ _ | exact perm4 _ _ _ _ _) T.c7 (by rfl) (by rfl) ?_; refine a7 (i6 ?_); exact Z4 () rfl rfl T.j2 T.c7 rfl m0 rfl rfl trivial i1 trivial
theorem dI (n : Int) : Meets Tryz.prog F.nI [int n] { val := fun _ : Unit => .agg #[int 3, int n, str []] } := by
 refine c4 F.xT rfl l5 fun w0 => ?_; refine a9 ?_; refine r9 rfl (fun _ => T.u1 _) fun gA => ?_; refine k9 (a5 rfl ?_); refine t4 _ rfl rfl (fun _ => T.U9 ..) ?_; refine n1 rfl rfl (by first | exact .refl _ | exact perm2 _ _ _ | exact perm3 _ _ _ _ | exact perm4 _ _ _ _ _) T.c7 (by rfl) (by rfl) ?_; refine a7 (i6 ?_); exact Z4 () rfl rfl T.j2 T.c7 rfl m0 rfl rfl trivial i1 trivial
theorem bP : Meets Tryz.prog F.kA [] (outSl slipL) := by
 refine c4 F.vQ rfl l5 fun w0 => ?_; refine a9 (a8 rfl (k9 ?_)); refine d6 F.gR rfl rfl (Y4 1 sBea) n6 trivial fun _ _ => ?_; refine d6 F.vR rfl rfl (pT 2 sCid) n6 trivial fun _ _ => ?_; refine j8 _ rfl rfl (fun _ => T.qD ..) fun gS => ?_; refine a8 rfl (a7 (i6 ?_)); refine D5 (rows slipL) (List.prefix_refl _) ?_; exact ret1 (some ⟨gS, 0, none⟩, 2) rfl rfl rfl (Nat.le_refl _) (.refl _) ⟨m0, trivial⟩
def agesP (x : OutC × Option Addr × Option Addr) : List (Sl Str) := [⟨x.2.1, 2, [sAnna, sBen]⟩, ⟨x.2.2, 2, [sAnna, sCyd]⟩]
theorem bQ : Meets Tryz.prog F.kE [] { inv := fun x : OutC × Option Addr × Option Addr => 2 ≤ x.1.2, val := fun x => .slice x.1.1 2 x.1.2, LO := fun x => [Rows2 x.1.1 (agesP x)] } := by
 refine c4 F.vU rfl l5 fun w0 => ?_; refine a9 (a8 rfl (k9 ?_)); refine j8 _ rfl rfl (fun _ => T.iF ..) fun ga => ?_; refine j8 _ rfl rfl (fun _ => T.iF ..) fun gb => ?_; refine j8 _ rfl rfl (fun _ => T.zI ..) fun gS => ?_; refine a8 rfl (a7 (i6 ?_)); refine D5 (rows [(⟨some ⟨ga, 0, none⟩, 2, [sAnna, sBen]⟩ : Sl Str), ⟨some ⟨gb, 0, none⟩, 2, [sAnna, sCyd]⟩]) (List.prefix_refl _) (D5 (rows [sAnna, sCyd]) (List.prefix_refl _) (D5 (rows [sAnna, sBen]) (List.prefix_refl _) ?_)); refine cj0 (A := some ⟨gS, 0, none⟩) (ps := [(⟨some ⟨ga, 0, none⟩, 2, [sAnna, sBen]⟩ : Sl Str), ⟨some ⟨gb, 0, none⟩, 2, [sAnna, sCyd]⟩]) m2 (by intro p hp; simp at hp; rcases hp with rfl | rfl; exact m0; exact m1) ?_; exact ret1 ((some ⟨gS, 0, none⟩, 2), some ⟨ga, 0, none⟩, some ⟨gb, 0, none⟩) rfl rfl rfl (Nat.le_refl _) (.refl _) ⟨m0, trivial⟩
abbrev orderM : List Mk := [(1, 0, sAbe), (3, 1, []), (3, 2, [])]
theorem sO {A B : Option Addr} {ca cb : Nat} (hc : 3 ≤ ca) : Meets Tryz.prog F.Z9 [.slice A 3 ca, .slice B 2 cb] { outErr (newL, (0 : Int)) with LI := [Row A (rows folkL), Row B (rows slipL)] } := by
  have h := Z8 (A := A) (B := B) (ca := ca) (cb := cb) folkL slipL hc; rw [cq3] at h; exact h
theorem tW {A B : Option Addr} {ca cb : Nat} : Meets Tryz.prog F.cW [.slice A 3 ca, .slice B 4 cb] { outE (slipL, (0 : Int)) with LI := [Row A (rows folkL), Row B (rows newL)] } := by
  have h := nE (A := A) (B := B) (ca := ca) (cb := cb) folkL newL; rw [ex_diff] at h; exact h
theorem sN {A B : Option Addr} {ca cb : Nat} : Meets Tryz.prog F.Z7 [.slice A 3 ca, .slice B 3 cb, int 3] { outE (([1, 0, 2] : List Int), (0 : Int)) with LI := [Row A (rows folkL), Row B (rows orderM)] } := by
  have h := lI (A := A) (B := B) (ca := ca) (cb := cb) folkL orderM 3; rw [cq2] at h; exact h
theorem pZ {B : Option Addr} {cb : Nat} (y : OutC × Option Addr × Option Addr) : Meets Tryz.prog F.W3 [.slice y.1.1 2 y.1.2, .slice B 3 cb] { outErr (([1, 0, -1] : List Int), (0 : Int)) with LI := [Rows2 y.1.1 (agesP y), Row B (rows [sAnna, sBen, sDan])] } := by
  have h := jX (A := y.1.1) (B := B) (ca := y.1.2) (cb := cb) (agesP y) [sAnna, sBen, sDan]; rw [agesP, az2] at h; exact h
theorem tV {B C : Option Addr} {cb cc : Nat} (y : OutC × Option Addr × Option Addr) (hy : 2 ≤ y.1.2) : Meets Tryz.prog F.cV [.slice y.1.1 2 y.1.2, .slice B 1 cb, .slice C 4 cc] { LI := [Rows2 y.1.1 (agesP y), Row B (rows [((1, 2, sDan) : Mk)]), Row C (rows [sAnna, sCyd, sBen, sDan])], val := fun _ : Unit => .tuple #[.agg #[int 2, int 2], int 0] } := by
  have h := nD (A := y.1.1) (B := B) (C := C) (ca := y.1.2) (cb := cb) (cc := cc) (agesP y) [(1, 2, sDan)] [sAnna, sCyd, sBen, sDan] hy (by intro q hq; simp [agesP] at hq; rcases hq with rfl | rfl <;> simp); rw [agesP, ex_look] at h; exact h
set_option maxHeartbeats 1000000 in
theorem G6 : Meets Tryz.prog F.Q7 [] { val := fun _ : Unit => .bool true } := by
 refine c4 F.kD rfl l5 fun w0 => ?_; refine a9 (a8 rfl (k9 ?_)); refine d6 F.aK rfl rfl (Q6) n6 trivial fun x1 hx1 => ?_; refine d6 F.jE rfl rfl (bP) n6 trivial fun x2 hx2 => ?_; refine d6 F.gQ rfl rfl (sO hx1) n6 ⟨m1, m0, trivial⟩ fun x3 hx3 => ?_; refine a5 rfl (k4 rfl rfl rfl (k4 rfl rfl rfl (a8 rfl (a8 rfl (k9 ?_))))); refine d6 F.aK rfl rfl (Q6) n6 trivial fun x4 hx4 => ?_; refine j8 _ rfl rfl (fun _ => T.nS ..) fun gS => ?_; refine J0 (rows newL) (List.prefix_refl _) ?_; refine d6 F.tK rfl rfl (tW) n6 ⟨m1, m0, trivial⟩ fun x5 _ => ?_; refine a5 rfl (k4 rfl rfl rfl (k4 rfl rfl rfl (a8 rfl (a8 rfl (k9 ?_))))); refine d6 F.aK rfl rfl (Q6) n6 trivial fun x6 hx6 => ?_; refine d6 F.gR rfl rfl (Y4 0 sAbe) n6 trivial fun _ _ => ?_; refine d6 F.lY rfl rfl (dI 1) n6 trivial fun _ _ => ?_; refine d6 F.lY rfl rfl (dI 2) n6 trivial fun _ _ => ?_; refine j8 _ rfl rfl (fun _ => T.qC ..) fun gS => ?_; refine J0 (rows orderM) (List.prefix_refl _) ?_; refine d6 F.rN rfl rfl (sN) n6 ⟨m1, m0, trivial⟩ fun x7 _ => ?_; refine a5 rfl (k4 rfl rfl rfl (k4 rfl rfl rfl (a8 rfl (a8 rfl (k9 ?_))))); refine d6 F.jF rfl rfl (bQ) n6 trivial fun y1 hy1 => ?_; refine j8 _ rfl rfl (fun _ => T.uP ..) fun gS => ?_; refine J0 (rows [sAnna, sBen, sDan]) (List.prefix_refl _) ?_; refine d6 F.pS rfl rfl (pZ y1) n6 ⟨m1, m0, trivial⟩ fun x8 _ => ?_; refine a5 rfl (k4 rfl rfl rfl (k4 rfl rfl rfl (a8 rfl (a8 rfl (k9 ?_))))); refine d6 F.jF rfl rfl (bQ) n6 trivial fun y2 hy2 => ?_; refine d6 F.gR rfl rfl (Y4 2 sDan) n6 trivial fun _ _ => ?_; refine j8 _ rfl rfl (fun _ => T.A6 ..) fun gS => ?_; refine J0 (rows [((1, 2, sDan) : Mk)]) (List.prefix_refl _) ?_; refine j8 _ rfl rfl (fun _ => T.nS ..) fun gS => ?_; refine J0 (rows [sAnna, sCyd, sBen, sDan]) (List.prefix_refl _) ?_; refine d6 F.tJ rfl rfl (tV y2 hy2) n6 ⟨m2, m1, m0, trivial⟩ fun _ _ => ?_; refine a5 rfl (k4 rfl rfl rfl (k4 rfl rfl rfl ?_)); refine r9 rfl (fun _ => T.pG _) fun gA => ?_; refine n1 rfl rfl (by first | exact .refl _ | exact perm2 _ _ _ | exact perm3 _ _ _ _ | exact perm4 _ _ _ _ _) T.q6 (by rfl) (by rfl) ?_; refine a8 rfl (k9 (a5 rfl (t8 rfl rfl rfl (a5 rfl ?_)))); refine l3 rfl rfl ?_ ?_
 ·intro hg1; have hg1' := hg1; try simp at hg1'
  refine c9 rfl rfl hg1 (a5 rfl (c9 rfl rfl hg1 (t8 rfl rfl rfl ?_))); refine p_t rfl rfl (bt1 hg1) rfl (a5 rfl ?_); refine l3 rfl rfl ?_ ?_
  ·intro hg2; have hg2' := hg2; try simp at hg2'
   refine c9 rfl rfl hg2 (a5 rfl (c9 rfl rfl hg2 (t8 rfl rfl rfl ?_))); refine p_t rfl rfl (bt1 hg2) rfl (a5 rfl ?_); refine l3 rfl rfl ?_ ?_
   ·intro hg3; have hg3' := hg3; try simp at hg3'
    refine c9 rfl rfl hg3 (a5 rfl (c9 rfl rfl hg3 (t8 rfl rfl rfl ?_))); refine p_t rfl rfl (bt1 hg3) rfl (a5 rfl ?_); refine l3 rfl rfl ?_ ?_
    ·intro hg4; have hg4' := hg4; try simp at hg4'
     refine c9 rfl rfl hg4 (a5 rfl (c9 rfl rfl hg4 (t8 rfl rfl rfl ?_))); refine p_t rfl rfl (bt1 hg4) rfl (a5 rfl ?_); refine l3 rfl rfl ?_ ?_
     ·intro hg5; have hg5' := hg5; try simp at hg5'
      refine c9 rfl rfl hg5 ?_
      first | refine w7 rfl T.w6 T.q6 rfl mB (by rfl) ?_ | refine z2 rfl T.w6 T.q6 rfl mB (by rfl) ?_ | refine r8 rfl T.w6 T.q6 rfl rfl (n3 mB (q8 (by omega))) ?_
      refine c9 rfl rfl hg5 (t4 _ rfl rfl (fun _ => T.H2 ..) (c9 rfl rfl hg5 (D2 _ rfl rfl rfl (fun _ => T.wJ ..) (fun _ => T.wF ..) (p_t rfl rfl (bt1 hg5) rfl (a5 rfl ?_))))); refine l3 rfl rfl ?_ ?_
      ·intro hg6; have hg6' := hg6; try simp at hg6'
       refine c9 rfl rfl hg6 (a5 rfl (c9 rfl rfl hg6 ?_)); refine j8 _ rfl rfl (fun _ => T.nS ..) fun gS => ?_; refine c9 rfl rfl hg6 (J0 (rows newL) (List.prefix_refl _) ?_); refine d6 F.nK rfl rfl (iV newL newL (by decide)) n6 mC fun _ _ => ?_; refine p_t rfl rfl (bt1 hg6) rfl (a5 rfl ?_); refine l3 rfl rfl ?_ ?_
       ·intro hg7; have hg7' := hg7; try simp at hg7'
        refine c9 rfl rfl hg7 (a5 rfl (c9 rfl rfl hg7 ?_)); refine d6 F.jE rfl rfl (bP) n6 trivial fun x9 _ => ?_; refine c9 rfl rfl hg7 ?_; refine d6 F.Y5 rfl rfl (O7 slipL slipL (by decide)) n6 mC fun _ _ => ?_; refine p_t rfl rfl (bt1 hg7) rfl (a5 rfl ?_); refine l3 rfl rfl ?_ ?_
        ·intro hg8; have hg8' := hg8; try simp at hg8'
         refine c9 rfl rfl hg8 (a5 rfl (c9 rfl rfl hg8 ?_)); refine j8 _ rfl rfl (fun _ => T.iG ..) fun gS => ?_; refine c9 rfl rfl hg8 (J0 (rows ([1, 0, 2] : List Int)) (List.prefix_refl _) ?_); refine d6 F.jH rfl rfl (bT [1, 0, 2] [1, 0, 2] (by decide)) n6 mC fun _ _ => ?_; refine p_t rfl rfl (bt1 hg8) rfl (a5 rfl ?_); refine l3 rfl rfl ?_ ?_
         ·intro hg9; have hg9' := hg9; try simp at hg9'
          refine c9 rfl rfl hg9 (a5 rfl (c9 rfl rfl hg9 ?_)); refine j8 _ rfl rfl (fun _ => T.iG ..) fun gS => ?_; refine c9 rfl rfl hg9 (J0 (rows ([1, 0, -1] : List Int)) (List.prefix_refl _) ?_); refine d6 F.jH rfl rfl (bT [1, 0, -1] [1, 0, -1] (by decide)) n6 mC fun _ _ => ?_; refine p_t rfl rfl (bt1 hg9) rfl ?_; refine a8 rfl (a7 (i6 ?_)); exact ret1 () rfl rfl rfl trivial i1 trivial
         intro hg9; have hg9' := hg9; try simp at hg9'
        intro hg8; have hg8' := hg8; try simp at hg8'
       intro hg7; have hg7' := hg7; try simp at hg7'
      intro hg6; have hg6' := hg6; try simp at hg6'
     intro hg5; have hg5' := hg5; try simp at hg5'
    intro hg4; have hg4' := hg4; try simp at hg4'
   intro hg3; have hg3' := hg3; try simp at hg3'
  intro hg2; have hg2' := hg2; try simp at hg2'
 intro hg1; have hg1' := hg1; try simp at hg1'
end Go.Proofs.YtegfgegnhjkcfaaGreatDoor
end
