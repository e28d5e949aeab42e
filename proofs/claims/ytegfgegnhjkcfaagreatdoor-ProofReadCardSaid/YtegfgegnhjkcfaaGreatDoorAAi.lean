/- Texts of this claim, one behind another. -/

import Derived.Test.YtegfgegnhjkcfaaGreatDoorAAh
import Derived.Test.YtegfgegnhjkcfaaGreatDoorAAf
set_option linter.unusedVariables false
set_option linter.unusedSimpArgs false
section
namespace Go.Proofs.YtegfgegnhjkcfaaGreatDoor
open Go Go.W
set_option maxRecDepth 20000
attribute [local irreducible] HL HC HQ HB Row Rows2 Blk Facts
theorem jH {α : Type} [Inhabited α] {l : List α} {k : Nat} {s : α} (hk : k < l.length) (h : s ∉ l.take k) (h1 : ¬ s = l.getD k default) : s ∉ l.take (k + 1) := by
  rw [s6 l k hk]; simp only [List.mem_append, List.mem_singleton, not_or]; exact ⟨h, h1⟩
theorem Y7 {A : Option Addr} {c : Nat} (l : List Str) (s : Str) (hl : l.length ≤ 1000000) : Meets Tryz.prog F.K1 [.slice A l.length c, str s] { LI := [Row A (rows l)], inv := fun z : Int => (0 ≤ z ↔ s ∈ l), val := fun z => int z } := by
 refine c1 F.dP rfl j9 fun w0 => ?_; refine b7 (b4 rfl (a8 (b8 (b7 (a6 rfl ?_))))); refine j0 rfl T.t4 rfl ?_; refine a6 rfl (a8 (i8 ?_)); refine s9 (β := Nat) ⟨fun k => k ≤ l.length ∧ s ∉ l.take k, fun k => [(0, .slice A l.length c), (1, str s), (7, int l.length), (8, int k)], fun _ => [], fun _ => [Row A (rows l)]⟩ (fun k => l.length - k) 0 ⟨Nat.zero_le _, by simp⟩ mC (.refl _) ⟨m0, trivial⟩ fun k hk => ?_; obtain ⟨hk, ht⟩ := hk; refine b7 (r9 rfl rfl rfl (a8 (b8 ?_)))
 first | refine i4 rfl (fun hb1 => ?_) (fun hb1 => ?_) | refine c5 rfl (fun hb1 => ?_) (fun hb1 => ?_)
 ·have hb1' := hb1; try simp at hb1'
  have hk2 : k < l.length := by omega
  refine c4 (c3 (b8 (i8 (b7 (a6 rfl (b4 rfl (j6 ?_))))))); refine a6 rfl (a6 rfl (a6 rfl ?_)); refine r6 (α := Str) _ _ rfl T.t4 T.u6 rfl rfl rfl mB rfl (by omega) (by decide) (a4 rfl T.i3 rfl (b6 mB (a7 (by omega) rfl)) ?_); refine W5 rfl rfl rfl (a8 ?_)
  first | refine i4 rfl (fun hb2 => ?_) (fun hb2 => ?_) | refine c5 rfl (fun hb2 => ?_) (fun hb2 => ?_)
  ·have hb2' := hb2; try simp at hb2'
   refine b7 (a6 rfl (b4 rfl (a8 (g2 (s8 (k5 (s8 ?_))))))); exact ret1 (k : Int) rfl rfl rfl ⟨fun _ => by rw [hb2]; exact P1 hk2, fun _ => by omega⟩ (.refl _) trivial
  have hb2' := hb2; try simp at hb2'
  refine c4 (q6 (c3 (c7 ?_))); refine p9 _ rfl rfl rfl rfl n3 ?_; refine a6 rfl (b5 ?_); exact again _ (k + 1) ⟨by omega, jH hk2 ht hb2⟩ (z4 (by omega)) mC (.refl _) ⟨m0, trivial⟩
 have hb1' := hb1; try simp at hb1'
 have hk2 : k = l.length := by omega
 subst hk2; rw [List.take_length] at ht; refine n5 (A3 (n4 (c3 (b7 (b4 rfl (a8 (g2 ?_))))))); exact ret1 (-1) rfl rfl rfl ⟨fun h => by omega, fun h => absurd h ht⟩ (.refl _) trivial
theorem E5 {A : Option Addr} {c : Nat} (l : List Str) (s : Str) (hl : l.length ≤ 1000000) : Meets Tryz.prog F.E6 [.slice A l.length c, str s] { LI := [Row A (rows l)], val := fun _ : Unit => .bool (decide (s ∈ l)) } := by
 refine c1 F.aR rfl j9 fun w0 => ?_; refine b7 (b4 rfl (j6 (a6 rfl (a6 rfl ?_)))); refine c8 F.bW rfl rfl (Y7 l s hl) (.refl _) ⟨m0, trivial⟩ fun z hz => ?_; refine iT rfl rfl rfl (b4 rfl (a8 (g2 ?_))); exact ret1 () rfl (congrArg (fun b => some (Value.bool b)) (decide_eq_decide.2 hz)) rfl trivial (.refl _) trivial
theorem Y8 {A : Option Addr} {c : Nat} (l : List Int) (s : Int) (hl : l.length ≤ 1000000) : Meets Tryz.prog F.K2 [.slice A l.length c, int s] { LI := [Row A (rows l)], inv := fun z : Int => (0 ≤ z ↔ s ∈ l), val := fun z => int z } := by
 refine c1 F.dQ rfl j9 fun w0 => ?_; refine b7 (b4 rfl (a8 (b8 (b7 (a6 rfl ?_))))); refine j0 rfl T.I6 rfl ?_; refine a6 rfl (a8 (i8 ?_)); refine s9 (β := Nat) ⟨fun k => k ≤ l.length ∧ s ∉ l.take k, fun k => [(0, .slice A l.length c), (1, int s), (7, int l.length), (8, int k)], fun _ => [], fun _ => [Row A (rows l)]⟩ (fun k => l.length - k) 0 ⟨Nat.zero_le _, by simp⟩ mC (.refl _) ⟨m0, trivial⟩ fun k hk => ?_; obtain ⟨hk, ht⟩ := hk; refine b7 (r9 rfl rfl rfl (a8 (b8 ?_)))
 first | refine i4 rfl (fun hb1 => ?_) (fun hb1 => ?_) | refine c5 rfl (fun hb1 => ?_) (fun hb1 => ?_)
 ·have hb1' := hb1; try simp at hb1'
  have hk2 : k < l.length := by omega
  refine c4 (c3 (b8 (i8 (b7 (a6 rfl (b4 rfl (j6 ?_))))))); refine a6 rfl (a6 rfl (a6 rfl ?_)); refine r6 (α := Int) _ _ rfl T.I6 T.G8 rfl rfl rfl mB rfl (by omega) (by decide) (a4 rfl T.a5 rfl (b6 mB (a7 (by omega) rfl)) ?_); refine t7 rfl rfl rfl (a8 ?_)
  first | refine i4 rfl (fun hb2 => ?_) (fun hb2 => ?_) | refine c5 rfl (fun hb2 => ?_) (fun hb2 => ?_)
  ·have hb2' := hb2; try simp at hb2'
   refine b7 (a6 rfl (b4 rfl (a8 (g2 (s8 (k5 (s8 ?_))))))); exact ret1 (k : Int) rfl rfl rfl ⟨fun _ => by rw [hb2]; exact P1 hk2, fun _ => by omega⟩ (.refl _) trivial
  have hb2' := hb2; try simp at hb2'
  refine c4 (q6 (c3 (c7 ?_))); refine p9 _ rfl rfl rfl rfl n3 ?_; refine a6 rfl (b5 ?_); exact again _ (k + 1) ⟨by omega, jH hk2 ht hb2⟩ (z4 (by omega)) mC (.refl _) ⟨m0, trivial⟩
 have hb1' := hb1; try simp at hb1'
 have hk2 : k = l.length := by omega
 subst hk2; rw [List.take_length] at ht; refine n5 (A3 (n4 (c3 (b7 (b4 rfl (a8 (g2 ?_))))))); exact ret1 (-1) rfl rfl rfl ⟨fun h => by omega, fun h => absurd h ht⟩ (.refl _) trivial
theorem S8 {A : Option Addr} {c : Nat} (l : List Int) (s : Int) (hl : l.length ≤ 1000000) : Meets Tryz.prog F.E7 [.slice A l.length c, int s] { LI := [Row A (rows l)], val := fun _ : Unit => .bool (decide (s ∈ l)) } := by
 refine c1 F.aS rfl j9 fun w0 => ?_; refine b7 (b4 rfl (j6 (a6 rfl (a6 rfl ?_)))); refine c8 F.bX rfl rfl (Y8 l s hl) (.refl _) ⟨m0, trivial⟩ fun z hz => ?_; refine iT rfl rfl rfl (b4 rfl (a8 (g2 ?_))); exact ret1 () rfl (congrArg (fun b => some (Value.bool b)) (decide_eq_decide.2 hz)) rfl trivial (.refl _) trivial
theorem jV {α β : Type} (f : β → Int) (g : α → β) : ∀ l : List α, firstErr f (l.map g) = firstErr (fun a => f (g a)) l
  | [] => rfl
  | a :: l => by simp only [List.map_cons, firstErr, jV f g l]
abbrev years (ps : List (Sl Str)) : List (List Str) := ps.map (·.l)
def yearsErr (ys : List (List Str)) : Int := if 4 < ys.length then 6 else firstErr pageErr ys
theorem V0 (ps : List (Sl Str)) : yearsErr (years ps) = if 4 < ps.length then 6 else firstErr (fun p : Sl Str => pageErr p.l) ps := by rw [yearsErr, jV, List.length_map]
def askedErr (ys : List (List Str)) (p : List Str) : Int := if yearsErr ys = 0 then pageErr p else yearsErr ys
theorem K7 {A : Option Addr} {c : Nat} (ps : List (Sl Str)) : Meets Tryz.prog F.M9 [.slice A ps.length c] { LI := [Rows2 A ps], val := fun _ : Unit => int (yearsErr (years ps)) } := by
 refine c1 F.gW rfl j9 fun w0 => ?_; refine b7 (b4 rfl (a8 (b8 (b7 (a6 rfl ?_))))); refine j0 rfl T.Q9 rfl ?_; refine A5 rfl rfl rfl (a8 ?_)
 first | refine i4 rfl (fun hb1 => ?_) (fun hb1 => ?_) | refine c5 rfl (fun hb1 => ?_) (fun hb1 => ?_)
 ·have hb1' := hb1; try simp at hb1'
  have hb1 : 4 < ps.length := by omega
  refine b7 (b4 rfl (a8 (t5 ?_))); exact ret1 () rfl (congrArg (fun b => some (int b)) (by rw [V0, if_pos hb1])) rfl trivial i2 trivial
 have hb1' := hb1; try simp at hb1'
 have hb1 : ¬ 4 < ps.length := by omega
 refine pD m0 (c4 (c3 (b8 (b7 (a6 rfl ?_))))); refine j0 rfl T.Q9 rfl ?_; refine a6 rfl (a8 (i8 ?_)); refine s9 (β := Nat) ⟨fun k => k ≤ ps.length ∧ firstErr (fun p : Sl Str => pageErr p.l) (ps.take k) = 0, fun k => [(9, .slice A ps.length c), (10, int ps.length), (11, int k)], fun _ => [], fun _ => [Row A (rows ps), Rows2 A ps]⟩ (fun k => ps.length - k) 0 ⟨Nat.zero_le _, rfl⟩ mC (.refl _) ⟨m0, m1, trivial⟩ fun k hk => ?_; obtain ⟨hk, ht⟩ := hk; refine b7 (r9 rfl rfl rfl (a8 (b8 ?_)))
 first | refine i4 rfl (fun hb2 => ?_) (fun hb2 => ?_) | refine c5 rfl (fun hb2 => ?_) (fun hb2 => ?_)
 ·have hb2' := hb2; try simp at hb2'
  have hk2 : k < ps.length := by omega
  refine c4 (c3 (b8 (i8 (b7 ?_)))); refine r6 (α := (Sl Str)) _ _ rfl T.Q9 T.aM rfl rfl rfl mB rfl (by omega) (by decide) (a4 rfl T.d9 rfl (b6 mB (a7 (by omega) rfl)) ?_); refine b4 rfl (j6 (a6 rfl ?_)); refine pC (p := ps.getD k default) m1 (P1 hk2) ?_; refine c8 F.B8 rfl rfl (u7 (ps.getD k default).l) (.refl _) ⟨m0, trivial⟩ fun _ _ => ?_; refine b4 rfl (j6 (a6 rfl (u5 rfl rfl rfl (a8 ?_))))
  first | refine i4 rfl (fun hb3 => ?_) (fun hb3 => ?_) | refine c5 rfl (fun hb3 => ?_) (fun hb3 => ?_)
  ·have hb3' := hb3; try simp at hb3'
   refine b7 (a6 rfl (b4 rfl (a8 (g2 (s8 (k5 (s8 ?_))))))); exact ret1 () rfl (congrArg (fun b => some (int b)) (by rw [V0, if_neg hb1]; exact (jW hk2 ht hb3).symm)) rfl trivial i2 trivial
  have hb3' := hb3; try simp at hb3'
  refine c4 (q6 (c3 (c7 ?_))); refine p9 _ rfl rfl rfl rfl n3 ?_; refine a6 rfl (b5 ?_); exact again _ (k + 1) ⟨by omega, by rw [cZ hk2 ht]; exact Classical.not_not.1 hb3⟩ (z4 (by omega)) mC (.refl _) ⟨m1, m2, trivial⟩
 have hb2' := hb2; try simp at hb2'
 have hk2 : k = ps.length := by omega
 subst hk2; rw [List.take_length] at ht; refine n5 (A3 (n4 (c3 (b7 (b4 rfl (a8 (g2 ?_))))))); exact ret1 () rfl (congrArg (fun b => some (int b)) (by rw [V0, if_neg hb1, ht])) rfl trivial i2 trivial
theorem jB {A B : Option Addr} {ca cb : Nat} (ps : List (Sl Str)) (p : List Str) :
    Meets Tryz.prog F.cK [.slice A ps.length ca, .slice B p.length cb] { LI := [Rows2 A ps, Row B (rows p)], val := fun _ : Unit => int (askedErr (years ps) p) } := by
 refine c1 F.pY rfl j9 fun w0 => ?_; refine b7 (b4 rfl (a8 (b8 (b7 (a6 rfl ?_))))); refine c8 F.Q3 rfl rfl (K7 ps) (.refl _) ⟨m0, trivial⟩ fun _ _ => ?_; refine b4 rfl (j6 (a6 rfl (u5 rfl rfl rfl (a8 ?_))))
 first | refine i4 rfl (fun hb1 => ?_) (fun hb1 => ?_) | refine c5 rfl (fun hb1 => ?_) (fun hb1 => ?_)
 ·have hb1' := hb1; try simp at hb1'
  refine b7 (a6 rfl (b4 rfl (a8 (t5 ?_)))); exact ret1 () rfl (congrArg (fun b => some (int b)) (by rw [askedErr, if_neg hb1])) rfl trivial i2 trivial
 have hb1' := hb1; try simp at hb1'
 refine c4 (c3 (b7 (a6 rfl ?_))); refine c8 F.B8 rfl rfl (u7 p) (.refl _) ⟨m1, trivial⟩ fun _ _ => ?_; refine b4 rfl (a8 (g2 ?_)); exact ret1 () rfl (congrArg (fun b => some (int b)) (by rw [askedErr, if_pos (Classical.not_not.1 hb1)])) rfl trivial i2 trivial
def originN (ps : List (Sl Str)) (s : Str) : Nat → Int
  | 0 => -1
  | k + 1 => if s ∈ (ps.getD k default).l then (k : Int) else originN ps s k
theorem uA {ps : List (Sl Str)} {s : Str} {k : Nat} (h : 0 < k) : originN ps s k = if s ∈ (ps.getD (k - 1) default).l then ((k - 1 : Nat) : Int) else originN ps s (k - 1) := by
  cases k with
  | zero => omega
  | succ k => rfl
theorem U1 {A : Option Addr} {c : Nat} (ps : List (Sl Str)) (s : Str) (hl : ps.length ≤ 1000000) (hp : ∀ p ∈ ps, p.l.length ≤ 1000000) : Meets Tryz.prog F.R5 [.slice A ps.length c, str s] { LI := [Rows2 A ps], val := fun _ : Unit => int (originN ps s ps.length) } := by
 refine c1 F.nH rfl j9 fun w0 => ?_; refine b7 (b4 rfl (a8 (mF (pD m0 (c7 (a6 rfl ?_)))))); refine j0 rfl T.Q9 rfl (bE _ rfl rfl rfl rfl n3 ?_); refine b4 rfl (a8 (i8 ?_)); refine s9 (β := Nat) ⟨fun k => k ≤ ps.length ∧ originN ps s ps.length = originN ps s k, fun k => [(0, .slice A ps.length c), (1, str s), (5, int ((k : Int) - 1))], fun _ => [], fun _ => [Row A (rows ps), Rows2 A ps]⟩ (fun k => k) ps.length ⟨Nat.le_refl _, rfl⟩ mC (.refl _) ⟨m0, m1, trivial⟩ fun k hk => ?_; obtain ⟨hk, ht⟩ := hk; refine b8 (b7 (a6 rfl (iT rfl rfl rfl (a8 ?_))))
 first | refine i4 rfl (fun hb1 => ?_) (fun hb1 => ?_) | refine c5 rfl (fun hb1 => ?_) (fun hb1 => ?_)
 ·have hb1' := hb1; try simp at hb1'
  have hk2 : 0 < k := by omega
  rw [uA hk2] at ht; have hmem := P1 (l := ps) (k := k - 1) (by omega); refine c4 (c3 (b8 (i8 (b7 (a6 rfl (a6 rfl ?_)))))); refine r6 (α := Sl Str) _ (k - 1) rfl T.Q9 T.aM rfl rfl (by omega) m0 rfl (by omega) (by decide) (a4 rfl T.d9 rfl (b6 mB (a7 (by omega) rfl)) (a6 rfl (pC (p := ps.getD (k - 1) default) m1 hmem ?_))); refine c8 F.J3 rfl rfl (E5 (ps.getD (k - 1) default).l s (hp _ hmem)) k6 ⟨m0, trivial⟩ fun _ _ => ?_; refine a8 ?_
  first | refine i4 rfl (fun hb2 => ?_) (fun hb2 => ?_) | refine c5 rfl (fun hb2 => ?_) (fun hb2 => ?_)
  ·have hb2' := hb2; try simp at hb2'
   rw [if_pos hb2] at ht; refine b7 (a6 rfl (b4 rfl (a8 (g2 (s8 (k5 (s8 ?_))))))); exact ret1 () rfl (congrArg (fun n => some (int n)) (by rw [ht]; omega)) rfl trivial (.refl _) trivial
  have hb2' := hb2; try simp at hb2'
  rw [if_neg hb2] at ht; refine c4 (q6 (c3 (c7 (a6 rfl ?_)))); refine bE _ rfl rfl rfl rfl n3 ?_; refine b4 rfl (b5 ?_); refine again _ (k - 1) ⟨by omega, ht⟩ (by show k - 1 < k; omega) ⟨rfl, rfl, congrArg (fun n => some (int n)) (by omega), trivial⟩ (.refl _) ⟨m1, m2, trivial⟩
 have hb1' := hb1; try simp at hb1'
 have hk2 : k = 0 := by omega
 refine n5 (A3 (n4 (c3 (b7 (b4 rfl (a8 (g2 ?_))))))); exact ret1 () rfl (congrArg (fun n => some (int n)) (by rw [ht, hk2]; rfl)) rfl trivial (.refl _) trivial
def originE (ps : List (Sl Str)) (p : List Str) : List Int × Int := if ¬ askedErr (years ps) p = 0 then ([], askedErr (years ps) p) else (p.map fun s => originN ps s ps.length, 0)
theorem gF {ps : List (Sl Str)} (h : yearsErr (years ps) = 0) : ps.length ≤ 4 ∧ ∀ p ∈ ps, p.l.length ≤ 6 := by
  rw [V0] at h
  split at h
  · omega
  exact ⟨by omega, fun p hp => L5 (O4 h p hp)⟩
theorem qQ {ps : List (Sl Str)} {p : List Str} (h : askedErr (years ps) p = 0) : yearsErr (years ps) = 0 ∧ pageErr p = 0 := by
  unfold askedErr at h
  split at h
  · rename_i h1; exact ⟨h1, h⟩
  rename_i h1; exact absurd h h1
theorem hT {A B : Option Addr} {ca cb : Nat} (ps : List (Sl Str)) (p : List Str) : Meets Tryz.prog F.R7 [.slice A ps.length ca, .slice B p.length cb] { outErr (originE ps p) with LI := [Rows2 A ps, Row B (rows p)] } := by
 refine c1 F.nO rfl j9 fun w0 => ?_; refine b7 (b4 rfl (b4 rfl (a8 (b8 (b7 (a6 rfl (a6 rfl ?_))))))); refine c8 F.nM rfl rfl (jB ps p) (.refl _) ⟨m0, m1, trivial⟩ fun _ _ => ?_; refine b4 rfl (j6 (a6 rfl (u5 rfl rfl rfl (a8 ?_))))
 first | refine i4 rfl (fun hb1 => ?_) (fun hb1 => ?_) | refine c5 rfl (fun hb1 => ?_) (fun hb1 => ?_)
 ·have hb1' := hb1; try simp at hb1'
  have e : originE ps p = ([], askedErr (years ps) p) := by rw [originE, if_pos hb1]
  rw [e]; refine b7 (a6 rfl (b4 rfl (b4 rfl (a8 (t5 (jS ?_)))))); exact ret2 (none, 0) rfl rfl rfl rfl rfl (Nat.le_refl _) i2 ⟨m0, trivial⟩
 have hb1' := hb1; try simp at hb1'
 have e : originE ps p = (p.map fun s => originN ps s ps.length, 0) := by rw [originE, if_neg hb1]
 rw [e]; obtain ⟨h1, h2⟩ := qQ (Classical.not_not.1 hb1); obtain ⟨h3, h4⟩ := gF h1; have h5 := L5 h2; refine c4 (c3 (b7 (b4 rfl (a8 (b8 (b7 (a6 rfl ?_))))))); refine j0 rfl T.t4 rfl ?_; refine a6 rfl (a8 (i8 ?_)); refine s9 (β := Nat × OutC × Hp) ⟨fun ⟨k, o, og⟩ => k ≤ p.length ∧ Grow T.int 1 o.1 k o.2 (rows ((p.take k).map fun s => originN ps s ps.length)) og, fun ⟨k, o, og⟩ => [(0, .slice A ps.length ca), (7, .slice o.1 k o.2), (16, .slice B p.length cb), (17, int p.length), (18, int k)], fun ⟨k, o, og⟩ => og, fun _ => [Rows2 A ps, Row B (rows p)]⟩ (fun x => p.length - x.1) (0, (none, 0), []) ⟨Nat.zero_le _, Grow.nil _ _⟩ mC (.refl _) ⟨m0, m1, trivial⟩ fun x hx => ?_; obtain ⟨k, o, og⟩ := x; obtain ⟨hk, hG⟩ := hx; refine b7 (r9 rfl rfl rfl (a8 (b8 ?_)))
 first | refine i4 rfl (fun hb2 => ?_) (fun hb2 => ?_) | refine c5 rfl (fun hb2 => ?_) (fun hb2 => ?_)
 ·have hb2' := hb2; try simp at hb2'
  have hk2 : k < p.length := by omega
  refine c4 (c3 (b8 (i8 (b7 ?_)))); refine r6 (α := Str) _ _ rfl T.t4 T.u6 rfl rfl rfl mB rfl (by omega) (by decide) (a4 rfl T.i3 rfl (b6 mB (a7 (by omega) rfl)) ?_); refine b4 rfl (a8 ?_); have hst : (p.take (k + 1)).map (fun s => originN ps s ps.length) = (p.take k).map (fun s => originN ps s ps.length) ++ [originN ps (p.getD k default) ps.length] := by rw [s6 p k hk2, List.map_append]; rfl
  refine c7 (a6 rfl (a6 rfl (a6 rfl ?_))); refine c8 F.bF rfl rfl (U1 ps (p.getD k default) (by omega) (fun q hq => by have := h4 q hq; omega)) k6 ⟨m0, trivial⟩ fun _ _ => ?_; refine j3 _ rfl rfl (fun _ => T.rH ..) fun gS => ?_; refine v5 (k + 1) (rows ((p.take (k + 1)).map fun s => originN ps s ps.length)) T.sZ rfl rfl rfl hG (List.perm_append_comm (l₁ := [_])) (Src.own (cs := #[int (originN ps (p.getD k default) ps.length)]) (m := 1) (List.mem_append_right _ m0) rfl rfl) rfl (by rw [hst, s4]; rfl) (by unfold maxLen; omega) (by omega) fun A' c' og' hG' => ?_; refine b4 rfl (b5 (q6 (c3 (c7 ?_)))); refine p9 _ rfl rfl rfl rfl n3 ?_; refine a6 rfl (b5 ?_); exact again _ (k + 1, (A', c'), og') ⟨by omega, hG'⟩ (z4 (by omega)) mC (List.sublist_append_left _ _) ⟨m0, m1, trivial⟩
 have hb2' := hb2; try simp at hb2'
 have hk2 : k = p.length := by omega
 subst hk2; rw [List.take_length] at hG; refine n5 (A3 (n4 (c3 (b7 (a6 rfl (b4 rfl (b4 rfl (a8 ?_)))))))); refine g2 (xU hG ?_); exact ret2 o rfl rfl rfl (by show Value.tuple #[.slice o.1 (p.map _).length o.2, int 0] = _; rw [List.length_map]) rfl (by show (p.map _).length ≤ o.2; rw [List.length_map]; exact hG.le) (.refl _) ⟨m0, trivial⟩
def countN (l : List Str) (s : Str) : Nat := (l.filter fun x => decide (x = s)).length
def growsM (m : Mk) : Int := if m.1 = 1 then 1 else if m.1 = 3 then -1 else 0
end Go.Proofs.YtegfgegnhjkcfaaGreatDoor
end
section
namespace Go.Proofs.YtegfgegnhjkcfaaGreatDoor
open Go Go.W
set_option maxRecDepth 20000
attribute [local irreducible] HL HC HQ HB Row Rows2 Blk Facts
def stockN (ps : List (Sl Str)) (s : Str) : Nat := ps.foldl (fun n p => max n (countN p.l s)) 0
theorem jE {ps : List (Sl Str)} {s : Str} {n : Nat} : ∀ k, k ≤ n → n ≤ ps.length → originN (ps.take n) s k = originN ps s k
  | 0, _, _ => rfl
  | k + 1, h, h2 => by
    have : (ps.take n).getD k default = ps.getD k default := by
      rw [y8 (by rw [List.length_take]; omega), y8 (by omega), List.getElem_take]
    rw [originN, originN, this, jE k (by omega) h2]
theorem jD {A : Option Addr} {c : Nat} {ps : List (Sl Str)} (s : Str) {n : Nat} (hn : n ≤ ps.length) (hl : ps.length ≤ 1000000) (hp : ∀ p ∈ ps, p.l.length ≤ 1000000) : Meets Tryz.prog F.R5 [.slice A n c, str s] { LI := [Rows2 A (ps.take n)], val := fun _ : Unit => int (originN ps s n) } := by
  have h := U1 (A := A) (c := c) (ps.take n) s (by rw [List.length_take]; omega) (fun q hq => hp q (List.mem_of_mem_take hq)); rw [List.length_take, Nat.min_eq_left hn, jE _ (Nat.le_refl _) hn] at h; exact h
theorem wG (p : List Str) (l : List Mk) : (applyP p l).1.length ≤ 6 := by
  unfold applyP
  split
  · simp
  split
  · simp
  simp only; omega
def lastP (ps : List (Sl Str)) : Sl Str := ps.getD (ps.length - 1) default
def flawP (ps : List (Sl Str)) (r : List Str) (m : Mk) : Int × Int := (if m.1 = 3 then 1 else if ¬ m.2.2 ∈ r ∧ 0 ≤ originN ps m.2.2 (ps.length - 1) then 2 else 3, m.2.1)
def flawR (ps : List (Sl Str)) (r : List Str) (m : Mk) : Int × Int := (if m.1 = 3 then 1 else if countN r m.2.2 = 0 ∧ 0 < stockN (ps.take (ps.length - 1)) m.2.2 then 2 else 3, m.2.1)
def lookP (ps : List (Sl Str)) (l : List Mk) (p : List Str) : (Int × Int) × Int :=
  if ¬ yearsErr (years ps) = 0 then ((0, 0), yearsErr (years ps)) else if ps.length = 0 then ((0, 0), 7)
  else if ¬ (applyP (lastP ps).l l).2 = 0 then ((0, 0), (applyP (lastP ps).l l).2) else if ¬ pageErr p = 0 then ((0, 0), pageErr p)
  else if (diffP (applyP (lastP ps).l l).1 p 0 0).2.length = 0 then ((0, 0), 0)
  else (flawP ps (applyP (lastP ps).l l).1 ((diffP (applyP (lastP ps).l l).1 p 0 0).2.getD 0 default), 0)
def lookR (ps : List (Sl Str)) (l : List Mk) (p : List Str) : (Int × Int) × Int :=
  if ¬ yearsErr (years ps) = 0 then ((0, 0), yearsErr (years ps)) else if ps.length = 0 then ((0, 0), 7)
  else if ¬ (applyR (lastP ps).l l).2 = 0 then ((0, 0), (applyR (lastP ps).l l).2)
  else if ¬ (diffE (applyR (lastP ps).l l).1 p (diffR (applyR (lastP ps).l l).1 p 0 0)).2 = 0 then ((0, 0), (diffE (applyR (lastP ps).l l).1 p (diffR (applyR (lastP ps).l l).1 p 0 0)).2)
  else if (diffE (applyR (lastP ps).l l).1 p (diffR (applyR (lastP ps).l l).1 p 0 0)).1.length = 0 then ((0, 0), 0)
  else (flawR ps (applyR (lastP ps).l l).1 ((diffE (applyR (lastP ps).l l).1 p (diffR (applyR (lastP ps).l l).1 p 0 0)).1.getD 0 default), 0)
def lookV (r : (Int × Int) × Int) : Value := .tuple #[.agg #[int r.1.1, int r.1.2], int r.2]
theorem kN {A B C : Option Addr} {ca cb cc : Nat} (ps : List (Sl Str)) (l : List Mk) (p : List Str) (hca : ps.length ≤ ca) (hcap : ∀ q ∈ ps, q.l.length ≤ q.c) : Meets Tryz.prog F.aY [.slice A ps.length ca, .slice B l.length cb, .slice C p.length cc] { LI := [Rows2 A ps, Row B (rows l), Row C (rows p)], val := fun _ : Unit => lookV (lookP ps l p) } := by
 refine c1 F.rZ rfl j9 fun w0 => ?_; refine b7 ?_; refine p8 rfl (fun _ => T.lM _) fun gA => ?_; refine b4 rfl (a8 (b8 (b7 (a6 rfl ?_)))); refine c8 F.Q3 rfl rfl (K7 ps) k6 ⟨m0, trivial⟩ fun _ _ => ?_; refine b4 rfl (j6 (a6 rfl (u5 rfl rfl rfl (a8 ?_))))
 first | refine i4 rfl (fun hb1 => ?_) (fun hb1 => ?_) | refine c5 rfl (fun hb1 => ?_) (fun hb1 => ?_)
 ·have hb1' := hb1; try simp at hb1'
  have e : lookP ps l p = ((0, 0), yearsErr (years ps)) := by rw [lookP, if_pos hb1]
  rw [e]; refine b7 ?_; refine r7 _ rfl rfl (fun _ => T.M5 ..) (a6 rfl ?_); refine l5 rfl rfl (by first | exact .refl _ | exact perm2 _ _ _ | exact perm3 _ _ _ _ | exact perm4 _ _ _ _ _) T.l9 (by rfl) (by rfl) ?_; refine b4 rfl (a8 (t5 ?_)); exact w5 () rfl rfl rfl T.s7 T.l9 rfl m0 rfl rfl trivial i2 trivial
 have hb1' := hb1; try simp at hb1'
 obtain ⟨h3, h4⟩ := gF (Classical.not_not.1 hb1); refine c4 (c3 (b8 (b7 (a6 rfl ?_)))); refine j0 rfl T.Q9 rfl ?_; refine t7 rfl rfl rfl (a8 ?_)
 first | refine i4 rfl (fun hb2 => ?_) (fun hb2 => ?_) | refine c5 rfl (fun hb2 => ?_) (fun hb2 => ?_)
 ·have hb2' := hb2; try simp at hb2'
  have e : lookP ps l p = ((0, 0), 7) := by rw [lookP, if_neg hb1, if_pos (by omega)]
  rw [e]; refine b7 ?_; refine r7 _ rfl rfl (fun _ => T.M5 ..) ?_; refine l5 rfl rfl (by first | exact .refl _ | exact perm2 _ _ _ | exact perm3 _ _ _ _ | exact perm4 _ _ _ _ _) T.l9 (by rfl) (by rfl) ?_; refine b4 rfl (a8 (t5 ?_)); exact w5 () rfl rfl rfl T.s7 T.l9 rfl m0 rfl rfl trivial i2 trivial
 have hb2' := hb2; try simp at hb2'
 have hb2 : ¬ ps.length = 0 := by omega
 have hmem : lastP ps ∈ ps := P1 (by omega); refine c4 (c3 (b7 (a6 rfl ?_))); refine j0 rfl T.Q9 rfl (bE ((ps.length - 1 : Nat) : Int) rfl rfl rfl (by omega) n3 ?_); refine b4 rfl (a8 (b8 (pD m0 (c7 (a6 rfl (a6 rfl ?_)))))); refine r6 (α := Sl Str) ps (ps.length - 1) rfl T.Q9 T.aM rfl rfl rfl m0 rfl (by omega) (by decide) (a4 rfl T.d9 rfl (b6 mB (a7 (by omega) rfl)) (a6 rfl (pC (p := lastP ps) m1 hmem ?_))); refine c8 F.cO rfl rfl (V7 (lastP ps).l l (hcap _ hmem)) k6 ⟨m0, m3, trivial⟩ fun x hx => ?_; have hx : (applyP (lastP ps).l l).1.length ≤ x.2 := hx; have hal := wG (lastP ps).l l; refine a6 rfl (i9 rfl rfl rfl (i9 rfl rfl rfl (b4 rfl (b4 rfl (a8 (b8 (b7 (a6 rfl (u5 rfl rfl rfl ?_))))))))); refine a8 ?_
 first | refine i4 rfl (fun hb3 => ?_) (fun hb3 => ?_) | refine c5 rfl (fun hb3 => ?_) (fun hb3 => ?_)
 ·have hb3' := hb3; try simp at hb3'
  have e : lookP ps l p = ((0, 0), (applyP (lastP ps).l l).2) := by rw [lookP, if_neg hb1, if_neg hb2, if_pos hb3]
  rw [e]; refine b7 ?_; refine r7 _ rfl rfl (fun _ => T.M5 ..) (a6 rfl ?_); refine l5 rfl rfl (by first | exact .refl _ | exact perm2 _ _ _ | exact perm3 _ _ _ _ | exact perm4 _ _ _ _ _) T.l9 (by rfl) (by rfl) ?_; refine b4 rfl (a8 (t5 ?_)); exact w5 () rfl rfl rfl T.s7 T.l9 rfl m0 rfl rfl trivial i2 trivial
 have hb3' := hb3; try simp at hb3'
 refine c4 (c3 (b8 (b7 (a6 rfl ?_)))); refine c8 F.B8 rfl rfl (u7 p) k6 ⟨m5, trivial⟩ fun _ _ => ?_; refine b4 rfl (j6 (a6 rfl (u5 rfl rfl rfl (a8 ?_))))
 first | refine i4 rfl (fun hb4 => ?_) (fun hb4 => ?_) | refine c5 rfl (fun hb4 => ?_) (fun hb4 => ?_)
 ·have hb4' := hb4; try simp at hb4'
  have e : lookP ps l p = ((0, 0), pageErr p) := by rw [lookP, if_neg hb1, if_neg hb2, if_neg hb3, if_pos hb4]
  rw [e]; refine b7 ?_; refine r7 _ rfl rfl (fun _ => T.M5 ..) (a6 rfl ?_); refine l5 rfl rfl (by first | exact .refl _ | exact perm2 _ _ _ | exact perm3 _ _ _ _ | exact perm4 _ _ _ _ _) T.l9 (by rfl) (by rfl) ?_; refine b4 rfl (a8 (t5 ?_)); exact w5 () rfl rfl rfl T.s7 T.l9 rfl m0 rfl rfl trivial i2 trivial
 have hb4' := hb4; try simp at hb4'
 have hp6 := L5 (Classical.not_not.1 hb4); refine c4 (c3 (b7 (a6 rfl (a6 rfl ?_)))); refine c8 F.gJ rfl rfl (Z3 (applyP (lastP ps).l l).1 p (by omega) (by omega)) k6 ⟨m0, m5, trivial⟩ fun y _ => ?_; refine b4 rfl (a8 (b8 (b7 (a6 rfl ?_)))); refine j0 rfl T.j2 rfl ?_; refine t7 rfl rfl rfl (a8 ?_)
 first | refine i4 rfl (fun hb5 => ?_) (fun hb5 => ?_) | refine c5 rfl (fun hb5 => ?_) (fun hb5 => ?_)
 ·have hb5' := hb5; try simp at hb5'
  have e : lookP ps l p = ((0, 0), 0) := by rw [lookP, if_neg hb1, if_neg hb2, if_neg hb3, if_neg hb4, if_pos (by omega)]
  rw [e]; refine b7 ?_; refine r7 _ rfl rfl (fun _ => T.M5 ..) ?_; refine l5 rfl rfl (by first | exact .refl _ | exact perm2 _ _ _ | exact perm3 _ _ _ _ | exact perm4 _ _ _ _ _) T.l9 (by rfl) (by rfl) ?_; refine b4 rfl (a8 (t5 ?_)); exact w5 () rfl rfl rfl T.s7 T.l9 rfl m0 rfl rfl trivial i2 trivial
 have hb5' := hb5; try simp at hb5'
 have hb5 : ¬ (diffP (applyP (lastP ps).l l).1 p 0 0).2.length = 0 := by omega
 have e : lookP ps l p = (flawP ps (applyP (lastP ps).l l).1 ((diffP (applyP (lastP ps).l l).1 p 0 0).2.getD 0 default), 0) := by rw [lookP, if_neg hb1, if_neg hb2, if_neg hb3, if_neg hb4, if_neg hb5]
 rw [e]; refine c4 (c3 (b7 (a6 rfl ?_))); refine r6 (α := Mk) (diffP (applyP (lastP ps).l l).1 p 0 0).2 0 rfl T.j2 T.d3 rfl rfl rfl m0 rfl (by omega) (by decide) (p6 rfl T.i6 T.d3 rfl rfl (k8 m0 (n2 (l := (diffP (applyP (lastP ps).l l).1 p 0 0).2) (i := 0) (by omega))) ?_); refine p8 rfl (fun _ => T.t8 _) fun gA => ?_; refine l5 rfl rfl (by first | exact .refl _ | exact perm2 _ _ _ | exact perm3 _ _ _ _ | exact perm4 _ _ _ _ _) T.d3 (by rfl) (by rfl) ?_; refine j6 (b4 rfl (a8 (b8 (i8 (b8 ?_))))); generalize ((diffP (applyP (lastP ps).l l).1 p 0 0).2.getD 0 default) = m at *; generalize (applyP (lastP ps).l l) = r at *; obtain ⟨mk, ma, mt⟩ := m; refine c7 ?_
 first | refine a3 ⟨_, 0, none⟩ rfl rfl T.g0 rfl ?_ | refine a3 _ rfl rfl T.g0 rfl ?_
 first | refine a4 rfl T.a5 rfl (a9 mB rfl) ?_ | refine a4 rfl T.a5 rfl (b9 mB rfl) ?_ | refine a4 rfl T.a5 rfl (b6 mB (a7 (by omega) rfl)) ?_ | refine a4 rfl T.a5 rfl (b3 mB (rows_get (by omega) rfl)) ?_
 refine t7 rfl rfl rfl (b4 rfl (a8 ?_))
 first | refine i4 rfl (fun hb6 => ?_) (fun hb6 => ?_) | refine c5 rfl (fun hb6 => ?_) (fun hb6 => ?_)
 ·have hb6' := hb6; try simp at hb6'
  simp only at hb6; refine c7 (b4 rfl (b5 (q6 (c3 (b7 (a6 rfl ?_))))))
  first | refine a3 ⟨_, 1, none⟩ rfl rfl T.c9 rfl ?_ | refine a3 _ rfl rfl T.c9 rfl ?_
  first | refine a4 rfl T.a5 rfl (a9 mB rfl) ?_ | refine a4 rfl T.a5 rfl (b9 mB rfl) ?_ | refine a4 rfl T.a5 rfl (b6 mB (a7 (by omega) rfl)) ?_ | refine a4 rfl T.a5 rfl (b3 mB (rows_get (by omega) rfl)) ?_
  refine r7 _ rfl rfl (fun _ => T.D3 ..) ?_; refine l5 rfl rfl (by first | exact .refl _ | exact perm2 _ _ _ | exact perm3 _ _ _ _ | exact perm4 _ _ _ _ _) T.l9 (by rfl) (by rfl) ?_; refine b4 rfl (a8 (g2 ?_)); exact w5 () rfl rfl rfl T.s7 T.l9 rfl m0 (by rw [lookV, flawP, if_pos hb6]) rfl trivial i2 trivial
 have hb6' := hb6; try simp at hb6'
 refine b8 ?_; refine A8 11 mixed (by decide) (by decide) rfl rfl (i7 (fun w1 => a6 rfl (q_z rfl)) ?_)
 apply j4 _ rfl rfl rfl
 ·intro w1
  first | refine a3 ⟨_, 2, none⟩ rfl rfl T.k7 rfl ?_ | refine a3 _ rfl rfl T.k7 rfl ?_
  refine b5 ?_; exact d8 rfl
 apply j4 _ rfl rfl rfl
 ·intro w1
  first | refine a4 rfl T.i3 rfl (b9 mB rfl) ?_ | refine a4 rfl T.i3 rfl (a9 mB rfl) ?_ | refine a4 rfl T.i3 rfl (b6 mB (a7 (by omega) rfl)) ?_ | refine a4 rfl T.i3 rfl (b3 mB (rows_get (by omega) rfl)) ?_
  refine b5 ?_; exact d8 rfl
 refine i7 (fun w1 => c8 F.J3 rfl rfl (E5 r.1 mt (by omega)) k6 ⟨m3, trivial⟩ fun _ _ => (q_z rfl)) ?_; refine i7 (fun w1 => iR rfl rfl (q_z rfl)) (i7 (fun w1 => a6 rfl (q_z rfl)) ?_); refine uP (t := 68) (want := true) rfl ?_ ?_
 ·intro hg1; have hg1' := hg1; try simp at hg1'
  apply j4 _ rfl rfl rfl
  ·intro w1; refine d7 rfl rfl hg1 (a6 rfl (b5 ?_)); exact d8 rfl
  apply j4 _ rfl rfl rfl
  ·intro w1; refine d7 rfl rfl hg1 (a6 rfl (b5 ?_)); exact d8 rfl
  apply j4 _ rfl rfl rfl
  ·intro w1; refine d7 rfl rfl hg1 (vP (ps.length - 1) rfl T.Q9 T.aM rfl rfl rfl (by omega) ?_); refine b5 ?_; exact d8 rfl
  apply j4 _ rfl rfl rfl
  ·intro w1; refine d7 rfl rfl hg1 ?_
   first | refine a3 ⟨_, 2, none⟩ rfl rfl T.k7 rfl ?_ | refine a3 _ rfl rfl T.k7 rfl ?_
   refine b5 ?_; exact d8 rfl
  apply j4 _ rfl rfl rfl
  ·intro w1; refine d7 rfl rfl hg1 ?_
   first | refine a4 rfl T.i3 rfl (b9 mB rfl) ?_ | refine a4 rfl T.i3 rfl (a9 mB rfl) ?_ | refine a4 rfl T.i3 rfl (b6 mB (a7 (by omega) rfl)) ?_ | refine a4 rfl T.i3 rfl (b3 mB (rows_get (by omega) rfl)) ?_
   refine b5 ?_; exact d8 rfl
  refine t6 ⟨rfl, ?_⟩; refine d7 rfl rfl hg1 (aj3 (A := A) (ps := ps) (ps.length - 1) m4 ?_); refine c8 (vs := [.slice A (ps.length - 1) ca, str mt]) F.bF rfl rfl (jD mt (by omega) (by omega) (fun q hq => by have := h4 q hq; omega)) k6 ⟨m0, trivial⟩ fun _ _ => ?_; refine d7 rfl rfl hg1 (iT rfl rfl rfl ?_); refine p_t rfl rfl (bt1 hg1) rfl ?_; refine b4 rfl (a8 ?_)
  first | refine i4 rfl (fun hb7 => ?_) (fun hb7 => ?_) | refine c5 rfl (fun hb7 => ?_) (fun hb7 => ?_)
  ·have hb7' := hb7; try simp at hb7'
   refine c7 (b4 rfl (b5 (q6 (c3 (b7 (a6 rfl ?_))))))
   first | refine a3 ⟨_, 1, none⟩ rfl rfl T.c9 rfl ?_ | refine a3 _ rfl rfl T.c9 rfl ?_
   first | refine a4 rfl T.a5 rfl (a9 mB rfl) ?_ | refine a4 rfl T.a5 rfl (b9 mB rfl) ?_ | refine a4 rfl T.a5 rfl (b6 mB (a7 (by omega) rfl)) ?_ | refine a4 rfl T.a5 rfl (b3 mB (rows_get (by omega) rfl)) ?_
   refine r7 _ rfl rfl (fun _ => T.D3 ..) ?_; refine l5 rfl rfl (by first | exact .refl _ | exact perm2 _ _ _ | exact perm3 _ _ _ _ | exact perm4 _ _ _ _ _) T.l9 (by rfl) (by rfl) ?_; refine b4 rfl (a8 (g2 ?_)); exact w5 () rfl rfl rfl T.s7 T.l9 rfl m0 (by rw [lookV, flawP, if_neg hb6, if_pos (by simpa using ⟨hg1', hb7⟩)]) rfl trivial i2 trivial
  have hb7' := hb7; try simp at hb7'
  refine c4 (q6 (c3 (b7 (a6 rfl ?_))))
  first | refine a3 ⟨_, 1, none⟩ rfl rfl T.c9 rfl ?_ | refine a3 _ rfl rfl T.c9 rfl ?_
  first | refine a4 rfl T.a5 rfl (a9 mB rfl) ?_ | refine a4 rfl T.a5 rfl (b9 mB rfl) ?_ | refine a4 rfl T.a5 rfl (b6 mB (a7 (by omega) rfl)) ?_ | refine a4 rfl T.a5 rfl (b3 mB (rows_get (by omega) rfl)) ?_
  refine r7 _ rfl rfl (fun _ => T.D3 ..) ?_; refine l5 rfl rfl (by first | exact .refl _ | exact perm2 _ _ _ | exact perm3 _ _ _ _ | exact perm4 _ _ _ _ _) T.l9 (by rfl) (by rfl) ?_; refine b4 rfl (a8 (g2 ?_)); exact w5 () rfl rfl rfl T.s7 T.l9 rfl m0 (by rw [lookV, flawP, if_neg hb6, if_neg (by simp_all)]) rfl trivial i2 trivial
 intro hg1; have hg1' := hg1; try simp at hg1'
 refine i7 (fun w1 => k4 rfl rfl rfl rfl rfl hg1 (q_z rfl)) (i7 (fun w1 => k4 rfl rfl rfl rfl rfl hg1 (q_z rfl)) (i7 (fun w1 => k4 rfl rfl rfl rfl rfl hg1 (q_z rfl)) (i7 (fun w1 => k4 rfl rfl rfl rfl rfl hg1 (q_z rfl)) (i7 (fun w1 => k4 rfl rfl rfl rfl rfl hg1 (q_z rfl)) ?_)))); refine t6 ⟨rfl, ?_⟩; refine k4 rfl rfl rfl rfl rfl hg1 (k4 rfl rfl rfl rfl rfl hg1 ?_); refine p_f rfl rfl (bf2 hg1) rfl ?_; refine b4 rfl (a8 (c_f rfl rfl (c4 (q6 (c3 (b7 (a6 rfl ?_)))))))
 first | refine a3 ⟨_, 1, none⟩ rfl rfl T.c9 rfl ?_ | refine a3 _ rfl rfl T.c9 rfl ?_
 first | refine a4 rfl T.a5 rfl (a9 mB rfl) ?_ | refine a4 rfl T.a5 rfl (b9 mB rfl) ?_ | refine a4 rfl T.a5 rfl (b6 mB (a7 (by omega) rfl)) ?_ | refine a4 rfl T.a5 rfl (b3 mB (rows_get (by omega) rfl)) ?_
 refine r7 _ rfl rfl (fun _ => T.D3 ..) ?_; refine l5 rfl rfl (by first | exact .refl _ | exact perm2 _ _ _ | exact perm3 _ _ _ _ | exact perm4 _ _ _ _ _) T.l9 (by rfl) (by rfl) ?_; refine b4 rfl (a8 (g2 ?_)); exact w5 () rfl rfl rfl T.s7 T.l9 rfl m0 (by rw [lookV, flawP, if_neg hb6, if_neg (by simp_all)]) rfl trivial i2 trivial
end Go.Proofs.YtegfgegnhjkcfaaGreatDoor
end
section
namespace Go.Proofs.YtegfgegnhjkcfaaGreatDoor
open Go Go.W
set_option maxRecDepth 20000
attribute [local irreducible] HL HC HQ HB Row Rows2 Blk Facts
theorem rC {α : Type} {f : Nat → Option α} {k : Nat} (h : (List.range k).findSome? f = none) (h1 : f k = none) : (List.range (k + 1)).findSome? f = none := by
  rw [List.range_succ, List.findSome?_append, h]; simp [h1]
theorem find_at {α : Type} {f : Nat → Option α} {k n : Nat} {x : α} (hk : k < n) (h : (List.range k).findSome? f = none) (h1 : f k = some x) : (List.range n).findSome? f = some x := by
  have e : List.range n = List.range (k + 1) ++ (List.range (n - (k + 1))).map (fun i => (k + 1) + i) := by
    have := List.range_add (n := k + 1) (m := n - (k + 1)); rw [← this]
    congr 1
    omega
  rw [e, List.range_succ, List.findSome?_append, List.findSome?_append, h]
  simp [h1]
def growF (n : Nat) (p : List Int → Bool) : Nat → List Int → Option (List Int)
  | 0, l => if p l = true then some l else none
  | d + 1, l => (List.range n).findSome? fun i : Nat => if (i : Int) ∈ l then none else growF n p d (l ++ [(i : Int)])
def InR (n : Nat) (l : List Int) : Prop := ∀ i ∈ l, 0 ≤ i ∧ i < (n : Int)
theorem InR.snoc {n : Nat} {l : List Int} {i : Nat} (h : InR n l) (hi : i < n) : InR n (l ++ [(i : Int)]) := by
  intro x hx
  rcases List.mem_append.1 hx with hx | hx
  · exact h x hx
  simp at hx; omega
abbrev GrowI (o : OutC) (l : List Int) (og : Hp) : Prop := Grow T.int 1 o.1 l.length o.2 (rows l) og
theorem Z0 {A : Option Addr} {c : Nat} (l : List Int) (hl : l.length ≤ 1000000) : Meets Tryz.prog F.K5 [.slice A l.length c] { LI := [Row A (rows l)], inv := fun x : OutC × Hp => GrowI x.1 l x.2, val := fun x => .slice x.1.1 l.length x.1.2, hpO := fun x => x.2 } := by
 refine c1 F.dR rfl j9 fun w0 => ?_; refine b7 (b4 rfl (a8 (b8 (b7 (a6 rfl (zN rfl T.I6 rfl rfl (a8 ?_))))))); refine c5 rfl (fun hb1 => ?_) (fun hb1 => ?_)
 ·have hb1' := hb1; try simp at hb1'
  have hA : A = none := by cases A with | none => rfl | some a => cases hb1
  subst hA; refine hc_pure (φ := l = []) (fun w hw => zF (by decide) (hw.fs (Row none (rows l)) m0)) fun hl0 => ?_; subst hl0; refine b7 (b4 rfl (a8 (t5 ?_))); exact ret1 ((none, 0), []) rfl rfl rfl (Grow.nil _ _) (.refl _) trivial
 have hb1' := hb1; try simp at hb1'
 refine c4 (c3 (b7 ?_)); refine j3 _ rfl rfl (fun _ => T.yI ..) fun gS => ?_; refine a6 rfl ?_; refine v5 l.length (rows l) T.sZ rfl rfl rfl (Grow.new (cs := #[]) (n := 0) rfl (Nat.zero_le _)) (.refl _) (Src.row m0 (K6 l) (H4 l) (by decide)) (by omega) rfl (by unfold maxLen; omega) (by omega) fun A' c' og' hG => ?_; refine b4 rfl (a8 (g2 ?_)); exact ret1 ((A', c'), og') rfl rfl rfl hG (List.sublist_append_left _ _) trivial
section
variable (lb : Nat) (rc : Option Code → Loop) (R0 : Hp) (R1 : List Int → OutC → Hp) (LI0 : List Fact) (p : List Int → Bool)
def yCon (o : List Int) (A : Option Addr) (c : Nat) : Con Unit :=
  { hpI := (lb, .loop (rc none)) :: R0, LI := Row A (rows o) :: LI0, val := fun _ => .bool (!(p o)), hpO := fun _ => if p o = true then (lb, .loop (rc (some .ret))) :: R1 o (A, c) else (lb, .loop (rc none)) :: R0 }
abbrev OrdO := Option (List Int × OutC)
def ordR (x : OrdO) : Hp := match x with | none => R0 | some y => R1 y.1 y.2
def ordL (x : OrdO) : List Fact := match x with | none => [] | some y => [Row y.2.1 (rows y.1)]
def ordJ (x : OrdO) : Option Code := match x with | none => none | some _ => some .ret
def ordCon (LI : List Fact) (q : Option (List Int)) (val : OrdO → Value) : Con OrdO :=
  { hpI := (lb, .loop (rc none)) :: R0, LI := LI ++ LI0, inv := fun x => q = x.map (·.1), val := val, hpO := fun x => (lb, .loop (rc (ordJ x))) :: ordR R0 R1 x, LO := ordL }
end
def boxN (g : Nat) (n : Int) : Fact := Blk g (.cells #[int n] T.int (0, 0))
def boxF (g : Nat) (v : Value) : Fact := Blk g (.cells #[v] T.Q0 (0, 0))
def ptr (g : Nat) : Value := .pointer (i5 g)
def growV (gn gy gg : Nat) : Value := .func (.func F.G5) #[] [ptr gn, ptr gy, ptr gg].toArray
theorem aV {lb : Nat} {rc : Option Code → Loop} {R0 : Hp} {R1 : List Int → OutC → Hp} {LI0 : List Fact} {p : List Int → Bool} {n : Nat} {gn gy gg : Nat} (hn : n ≤ 1000) (hY : ∀ (o : List Int) (A : Option Addr) (c : Nat), o.length = n → InR n o → MeetsY Tryz.prog lb [.slice A o.length c] (yCon lb rc R0 R1 LI0 p o A c)) :
    ∀ (d : Nat) (l : List Int) (A : Option Addr) (c : Nat), l.length + d = n → InR n l → Meets Tryz.prog F.G5 [.slice A l.length c, ptr gn, ptr gy, ptr gg] (ordCon lb rc R0 R1 LI0 [Row A (rows l), boxN gn n, boxF gy (yieldV lb), boxF gg (growV gn gy gg)] (growF n p d l) (fun x => .bool x.isNone)) := by
 intro d
 induction d using Nat.strongRecOn
 rename_i d ih
 intro l A c hd hR; refine c1 F.gZ rfl j9 fun w0 => ?_; refine b7 (b4 rfl (a8 (b8 (b7 (a6 rfl ?_))))); refine j0 rfl T.I6 rfl ?_
 first | refine a4 rfl T.a5 rfl (a9 mB rfl) ?_ | refine a4 rfl T.a5 rfl (b9 mB rfl) ?_ | refine a4 rfl T.a5 rfl (b6 mB (a7 (by omega) rfl)) ?_ | refine a4 rfl T.a5 rfl (b3 mB (rows_get (by omega) rfl)) ?_
 refine t7 rfl rfl rfl (a8 ?_)
 first | refine i4 rfl (fun hb1 => ?_) (fun hb1 => ?_) | refine c5 rfl (fun hb1 => ?_) (fun hb1 => ?_)
 ·have hb1' := hb1; try simp at hb1'
  have h0 : d = 0 := by omega
  subst h0; have hlen : l.length = n := by omega
  refine b7 ?_
  first | refine a4 rfl T.n7 rfl (a9 mB rfl) ?_ | refine a4 rfl T.n7 rfl (b9 mB rfl) ?_ | refine a4 rfl T.n7 rfl (b6 mB (a7 (by omega) rfl)) ?_ | refine a4 rfl T.n7 rfl (b3 mB (rows_get (by omega) rfl)) ?_
  refine a6 rfl ?_; refine aj2 (k := yCon lb rc R0 R1 LI0 p l A c) rfl rfl rfl (hY l A c hlen hR) (hpR := []) (by rw [List.append_nil]; exact .refl _) ⟨m0, (LSub.of_mem fun F hF => by repeat (first | exact hF | apply List.Mem.tail))⟩ fun _ _ => ?_; refine b4 rfl (a8 (t5 ?_))
  by_cases hp : p l = true
  · exact ret1 (some (l, (A, c))) rfl (by show some (Value.bool (!(p l))) = some (Value.bool false); rw [hp]; rfl) rfl (by show growF n p 0 l = some l; rw [growF, if_pos hp]) (by show List.Sublist _ ((if p l = true then _ else _) ++ []); rw [if_pos hp, List.append_nil]; exact .refl _) ⟨m0, trivial⟩
  exact ret1 none rfl (by show some (Value.bool (!(p l))) = some (Value.bool true); rw [Bool.eq_false_iff.2 hp]; rfl) rfl (by show growF n p 0 l = none; rw [growF, if_neg hp]) (by show List.Sublist _ ((if p l = true then _ else _) ++ []); rw [if_neg hp, List.append_nil]; exact .refl _) trivial
 have hb1' := hb1; try simp at hb1'
 obtain ⟨d0, rfl⟩ : ∃ d0, d = d0 + 1 := ⟨d - 1, by omega⟩; refine c4 (c3 (b8 (b7 ?_)))
 first | refine a4 rfl T.a5 rfl (a9 mB rfl) ?_ | refine a4 rfl T.a5 rfl (b9 mB rfl) ?_ | refine a4 rfl T.a5 rfl (b6 mB (a7 (by omega) rfl)) ?_ | refine a4 rfl T.a5 rfl (b3 mB (rows_get (by omega) rfl)) ?_
 refine a6 rfl (a8 (i8 ?_)); refine s9 (β := Nat) ⟨fun k => k ≤ n ∧ (List.range k).findSome? (fun i : Nat => if (i : Int) ∈ l then none else growF n p d0 (l ++ [(i : Int)])) = none, fun k => [(0, .slice A l.length c), (1, ptr gn), (2, ptr gy), (3, ptr gg), (14, int n), (15, int k)], fun _ => (lb, .loop (rc none)) :: R0, fun _ => [Row A (rows l), boxN gn n, boxF gy (yieldV lb), boxF gg (growV gn gy gg)] ++ LI0⟩ (fun k => n - k) 0 ⟨Nat.zero_le _, rfl⟩ mC (.refl _) ⟨m0, m1, m2, m3, (LSub.of_mem fun F hF => by repeat (first | exact hF | apply List.Mem.tail))⟩ fun k hk => ?_; obtain ⟨hk, ht⟩ := hk; refine b7 (r9 rfl rfl rfl (a8 (b8 ?_)))
 first | refine i4 rfl (fun hb2 => ?_) (fun hb2 => ?_) | refine c5 rfl (fun hb2 => ?_) (fun hb2 => ?_)
 ·have hb2' := hb2; try simp at hb2'
  have hk2 : k < n := by omega
  refine c4 (c3 (b8 (i8 (b7 (a6 rfl (b4 rfl (a8 (b8 ?_)))))))); refine G1 ([]) (_) (.refl _) 11 [10, 7] mixed (by decide) (by decide) (by decide) rfl rfl rfl (i7 (fun w1 => a6 rfl (q_z rfl)) (i7 (fun w1 => a6 rfl (q_z rfl)) ?_)); refine i7 (fun w1 => c8 F.Y9 rfl rfl (S8 l (k : Int) (by omega)) (.refl _) ⟨.tail _ (List.mem_append_right _ m0), trivial⟩ fun _ _ => (q_z rfl)) ?_; refine i7 (fun w1 => iR rfl rfl (q_z rfl)) (i7 (fun w1 => a6 rfl (q_z rfl)) ?_); refine uP (t := 22) (want := true) rfl ?_ ?_
  ·intro hg1; have hg1' := hg1; try simp at hg1'
   have hni : ¬ (k : Int) ∈ l := by simpa using hg1
   apply j4 _ rfl rfl rfl
   ·intro w1; refine d7 rfl rfl hg1 (a4 rfl T.n7 rfl (b9 (.tail _ (List.mem_append_right _ m3)) rfl) ?_); refine b5 ?_; exact d8 rfl
   apply j4 _ rfl rfl rfl
   ·intro w1; refine d7 rfl rfl hg1 (a6 rfl (b5 ?_)); exact d8 rfl
   refine cX ⟨OutC × Hp, fun x => GrowI x.1 l x.2, fun x => .slice x.1.1 l.length x.1.2, fun _ => [], fun x => x.2⟩ rfl rfl rfl ?_ ?_
   ·intro w1; refine d7 rfl rfl hg1 ?_; refine c8 F.bZ rfl rfl (Z0 l (by omega)) (.refl _) ⟨m0, trivial⟩ fun x hx => ?_; refine b5 ?_; exact I1 x hx (fun _ => rfl) (by rw [List.append_nil]; exact .refl _) trivial
   apply j4 _ rfl rfl rfl
   ·intro w1; refine d7 rfl rfl hg1 (a6 rfl (b5 ?_)); exact d8 rfl
   refine bI ⟨Nat, fun _ => True, fun g1 => .slice (i5 g1) 1 1, fun g1 => [Row (i5 g1) (rows [(k : Int)])]⟩ rfl rfl rfl ?_ ?_
   ·intro w1; refine d7 rfl rfl hg1 ?_; refine j3 _ rfl rfl (fun _ => T.rH ..) fun gS => ?_; refine b5 ?_; refine D1 (rows [(k : Int)]) (List.prefix_refl _) ?_; exact I2 gS trivial rfl ⟨m0, trivial⟩
   refine cX ⟨OutC × Hp, fun x => Grow T.int 1 x.1.1 (l.length + 1) x.1.2 (rows (l ++ [(k : Int)])) x.2, fun x => .slice x.1.1 (l.length + 1) x.1.2, fun _ => [], fun x => x.2⟩ rfl rfl rfl ?_ ?_
   ·intro x7 hx7 g9 _; intro w1; refine d7 rfl rfl hg1 ?_; refine v5 (l.length + 1) (rows (l ++ [(k : Int)])) T.sZ rfl rfl rfl hx7 (hp' := []) (by rw [List.append_nil]) (Src.row (news := rows [(k : Int)]) (m := 1) m0 rfl (H4 _) (by decide)) rfl (s4 l [(k : Int)]).symm (by unfold maxLen; omega) (by omega) fun A' c' og' hG' => ?_; refine b5 ?_; exact I1 ((A', c'), og') hG' (fun _ => rfl) (by rw [List.append_nil]; exact .refl _) trivial
   refine t6 ⟨rfl, ?_⟩; intro x7 hx7 g9 _ x10 hx10; refine d7 rfl rfl hg1 ?_; have ihk := ih d0 (by omega) (l ++ [(k : Int)]) x10.1.1 x10.1.2 (by rw [l6]; omega) (hR.snoc hk2); rw [l6] at ihk; refine aj4 hx10 ?_; refine G0 (vs := [.slice x10.1.1 (l.length + 1) x10.1.2]) (cap := [ptr gn, ptr gy, ptr gg]) F.Q4 rfl rfl rfl ihk (hpR := []) (by rw [List.append_nil]; exact .refl _) ⟨m0, m3, m4, m5, (LSub.of_mem fun F hF => by repeat (first | exact hF | apply List.Mem.tail))⟩ fun y hy => ?_; have hy : growF n p d0 (l ++ [(k : Int)]) = y.map (·.1) := hy; refine d7 rfl rfl hg1 (iR rfl rfl ?_); refine p_t rfl rfl (bt1 hg1) rfl ?_; refine a8 ?_
   first | refine i4 rfl (fun hb3 => ?_) (fun hb3 => ?_) | refine c5 rfl (fun hb3 => ?_) (fun hb3 => ?_)
   ·have hb3' := hb3; try simp at hb3'
    obtain ⟨z, rfl⟩ : ∃ z, y = some z := by cases y with | none => cases hb3 | some z => exact ⟨z, rfl⟩
    refine b7 (b4 rfl (a8 (g2 (s8 (k5 (s8 ?_)))))); exact ret1 (some z) rfl rfl rfl (find_at hk2 ht (by rw [if_neg hni, hy]; rfl)) (by rw [List.append_nil]; exact .refl _) ⟨m0, trivial⟩
   have hb3' := hb3; try simp at hb3'
   have hyn : y = none := by cases y with | none => rfl | some z => cases hb3
   subst hyn; refine c4 (q6 (c3 (c7 ?_))); refine p9 _ rfl rfl rfl rfl n3 ?_; refine a6 rfl (b5 ?_); exact again _ (k + 1) ⟨by omega, rC ht (by rw [if_neg hni, hy]; rfl)⟩ (z4 (by omega)) mC (by rw [List.append_nil]; exact .refl _) ⟨mB, mB, mB, mB, (LSub.of_mem fun F hF => by repeat (first | exact hF | apply List.Mem.tail))⟩
  intro hg1; have hg1' := hg1; try simp at hg1'
  have hin : (k : Int) ∈ l := by simpa using hg1
  refine i7 (fun w1 => k4 rfl rfl rfl rfl rfl hg1 (q_z rfl)) (i7 (fun w1 => k4 rfl rfl rfl rfl rfl hg1 (q_z rfl)) ?_); refine cX ⟨Unit, fun _ => True, fun _ => undef, fun _ => [], fun _ => []⟩ rfl rfl rfl ?_ ?_
  ·intro w1; refine k4 rfl rfl rfl rfl rfl hg1 (b5 ?_); exact I1 () trivial (fun _ => rfl) (.refl _) trivial
  refine i7 (fun w1 => k4 rfl rfl rfl rfl rfl hg1 (q_z rfl)) (i7 (fun w1 => k4 rfl rfl rfl rfl rfl hg1 (q_z rfl)) ?_); refine cX ⟨Unit, fun _ => True, fun _ => undef, fun _ => [], fun _ => []⟩ rfl rfl rfl ?_ ?_
  ·intro _ _; intro w1; refine k4 rfl rfl rfl rfl rfl hg1 (b5 ?_); exact I1 () trivial (fun _ => rfl) (.refl _) trivial
  refine t6 ⟨rfl, ?_⟩; intro _ _ _ _; refine k4 rfl rfl rfl rfl rfl hg1 (k4 rfl rfl rfl rfl rfl hg1 ?_); refine p_f rfl rfl (bf2 hg1) rfl ?_; refine a8 (c_f rfl rfl (c4 (q6 (c3 (c7 ?_))))); refine p9 _ rfl rfl rfl rfl n3 ?_; refine a6 rfl (b5 ?_); exact again _ (k + 1) ⟨by omega, rC ht (by rw [if_pos hin])⟩ (z4 (by omega)) mC (.refl _) ⟨mB, mB, mB, mB, (LSub.of_mem fun F hF => by repeat (first | exact hF | apply List.Mem.tail))⟩
 have hb2' := hb2; try simp at hb2'
 have hk2 : k = n := by omega
 subst hk2; refine n5 (A3 (n4 (c3 (b7 (b4 rfl (a8 (g2 ?_))))))); exact ret1 none rfl rfl rfl ht (.refl _) trivial
theorem cF {lb : Nat} {rc : Option Code → Loop} {R0 : Hp} {R1 : List Int → OutC → Hp} {LI0 : List Fact} {p : List Int → Bool} {n : Nat} {gn : Nat} (hn : n ≤ 1000) (hY : ∀ (o : List Int) (A : Option Addr) (c : Nat), o.length = n → InR n o → MeetsY Tryz.prog lb [.slice A o.length c] (yCon lb rc R0 R1 LI0 p o A c)) : Meets Tryz.prog F.L0 [yieldV lb, ptr gn] (ordCon lb rc R0 R1 LI0 [boxN gn n] (growF n p n []) (fun _ => .tuple #[])) := by
 refine c1 F.kI rfl j9 fun w0 => ?_; refine b7 ?_; refine H5 rfl rfl fun gy => ?_; refine j6 ?_; refine p8 rfl (fun _ => T.iL _) fun gg => ?_; refine j6 (aT rfl rfl rfl ?_); refine n1 rfl rfl (.refl _) T.gU (by rfl) (by rfl) ?_; refine a8 (z7 (z7 (c7 ?_)))
 first | refine a4 rfl T.n7 rfl (a9 mB rfl) ?_ | refine a4 rfl T.n7 rfl (b9 mB rfl) ?_ | refine a4 rfl T.n7 rfl (b6 mB (a7 (by omega) rfl)) ?_ | refine a4 rfl T.n7 rfl (b3 mB (rows_get (by omega) rfl)) ?_
 refine xV (α := Int) ?_; refine G0 (vs := [.slice none 0 0]) (cap := [ptr gn, ptr gy, ptr gg]) F.Q4 rfl rfl rfl (aV hn hY n [] none 0 (by simp) (by intro x hx; simp at hx)) (hpR := []) (by rw [List.append_nil]; exact .refl _) ⟨m0, m3, m1, m2, (LSub.of_mem fun F hF => by repeat (first | exact hF | apply List.Mem.tail))⟩ fun y hy => ?_; refine b5 ?_; exact ret0n y rfl rfl rfl hy (by rw [List.append_nil]; exact .refl _) (LSub.of_mem fun F hF => List.mem_append_left _ hF)
theorem gY (n : Int) : Meets Tryz.prog F.aW [int n] { val := fun g : Nat => .func (.func F.L0) #[] [ptr g].toArray, LO := fun g => [boxN g n] } := by
 refine c1 F.nI rfl j9 fun w0 => ?_; refine b7 ?_; refine H5 rfl rfl fun gn => ?_; refine b4 rfl (j6 (aT rfl rfl rfl (b4 rfl (a8 (g2 (xT ?_)))))); exact ret1 gn rfl rfl rfl trivial (.refl _) ⟨m0, trivial⟩
def orderOK (l : List Mk) (most : Int) : Int → List Int → Bool
  | _, [] => true
  | n, i :: r => if most < n + growsM (l.getD i.toNat default) then false else orderOK l most (n + growsM (l.getD i.toNat default)) r
def stepsP (p : List Str) (l : List Mk) (most : Int) : List Int × Int :=
  if ¬ checkErr p l = 0 then ([], checkErr p l) else if 5 < l.length then ([], 6) else if most < 0 then ([], 1) else if most < p.length then ([], 12)
  else ((growF l.length (orderOK l most p.length) l.length []).getD [], if (growF l.length (orderOK l most p.length) l.length []).isSome then 0 else 11)
theorem N2 {l : List Mk} {most m : Int} {o : List Int} {k : Nat} (hk : k < o.length) : orderOK l most m (o.drop k) = if most < m + growsM (l.getD (o.getD k default).toNat default) then false else orderOK l most (m + growsM (l.getD (o.getD k default).toNat default)) (o.drop (k + 1)) := by
  rw [List.drop_eq_getElem_cons hk, orderOK, y8 hk]
def cellI (g : Nat) (v : Value) : Nat × Obj := (g, .cells #[v] T.ints (0, 0))
def cellE (g : Nat) (e : Int) : Nat × Obj := (g, .cells #[int e] T.lE (0, 0))
theorem jC {A B : Option Addr} {ca cb : Nat} (p : List Str) (l : List Mk) (most : Int) : Meets Tryz.prog F.V6 [.slice A p.length ca, .slice B l.length cb, int most] { outE (stepsP p l most) with LI := [Row A (rows p), Row B (rows l)] } := by
 refine sF F.qA rfl j9 fun w0 => ?_; refine b7 ?_; refine H5 rfl rfl fun g3 => ?_; refine H5 rfl rfl fun g4 => ?_; refine H5 rfl rfl fun g5 => ?_; refine p8 rfl (fun _ => T.al_ints _) fun g6 => ?_; refine p8 rfl (fun _ => T.tH _) fun g7 => ?_; refine a8 (aj6 (mF ?_)); refine I5 (List.reverse_perm _).symm ?_; refine z7 (z7 (z7 (c7 ?_)))
 first | refine a4 rfl T.d9 rfl (a9 mB rfl) ?_ | refine a4 rfl T.d9 rfl (b9 mB rfl) ?_ | refine a4 rfl T.d9 rfl (b6 mB (a7 (by omega) rfl)) ?_ | refine a4 rfl T.d9 rfl (b3 mB (rows_get (by omega) rfl)) ?_
 first | refine a4 rfl T.c6 rfl (a9 mB rfl) ?_ | refine a4 rfl T.c6 rfl (b9 mB rfl) ?_ | refine a4 rfl T.c6 rfl (b6 mB (a7 (by omega) rfl)) ?_ | refine a4 rfl T.c6 rfl (b3 mB (rows_get (by omega) rfl)) ?_
 refine c8 F.Z4 rfl rfl (Q5 p l) k6 ⟨m3, m4, trivial⟩ fun _ _ => ?_; refine b4 rfl (j6 (a6 rfl (u5 rfl rfl rfl (a8 ?_))))
 first | refine i4 rfl (fun hb1 => ?_) (fun hb1 => ?_) | refine c5 rfl (fun hb1 => ?_) (fun hb1 => ?_)
 ·have hb1' := hb1; try simp at hb1'
  have e : stepsP p l most = ([], checkErr p l) := by rw [stepsP, if_pos hb1]
  rw [e]; refine b7 (a6 rfl ?_); refine n1 rfl rfl (by first | exact .refl _ | exact perm2 _ _ _ | exact perm3 _ _ _ _ | exact perm4 _ _ _ _ _) T.dG (by rfl) (by rfl) ?_; refine n1 rfl rfl (by first | exact .refl _ | exact perm2 _ _ _ | exact perm3 _ _ _ _ | exact perm4 _ _ _ _ _) T.G4 (by rfl) (by rfl) ?_; refine a8 (t5 (kP ?_)); refine G6 (α := Int) ?_; exact S1 [] (none, 0) rfl (.refl _) (B1 rfl rfl rfl T.u9 T.C0 (a9 mB rfl) (a9 mB rfl)) rfl trivial i2 ⟨m0, trivial⟩
 have hb1' := hb1; try simp at hb1'
 obtain ⟨hp6, hl12, hV⟩ := gT (Classical.not_not.1 hb1); refine c4 (c3 (b8 (i8 (b7 ?_))))
 first | refine a4 rfl T.c6 rfl (a9 mB rfl) ?_ | refine a4 rfl T.c6 rfl (b9 mB rfl) ?_ | refine a4 rfl T.c6 rfl (b6 mB (a7 (by omega) rfl)) ?_ | refine a4 rfl T.c6 rfl (b3 mB (rows_get (by omega) rfl)) ?_
 refine j0 rfl T.j2 rfl ?_; refine A5 rfl rfl rfl (b4 rfl (a8 ?_))
 first | refine i4 rfl (fun hb2 => ?_) (fun hb2 => ?_) | refine c5 rfl (fun hb2 => ?_) (fun hb2 => ?_)
 ·have hb2' := hb2; try simp at hb2'
  have e : stepsP p l most = ([], 6) := by rw [stepsP, if_neg hb1, if_pos (by omega)]
  rw [e]; refine b7 ?_; refine n1 rfl rfl (by first | exact .refl _ | exact perm2 _ _ _ | exact perm3 _ _ _ _ | exact perm4 _ _ _ _ _) T.dG (by rfl) (by rfl) ?_; refine n1 rfl rfl (by first | exact .refl _ | exact perm2 _ _ _ | exact perm3 _ _ _ _ | exact perm4 _ _ _ _ _) T.G4 (by rfl) (by rfl) ?_; refine a8 (g2 (s8 (kP ?_))); refine G6 (α := Int) ?_; exact S1 [] (none, 0) rfl (.refl _) (B1 rfl rfl rfl T.u9 T.C0 (a9 mB rfl) (a9 mB rfl)) rfl trivial i2 ⟨m0, trivial⟩
 have hb2' := hb2; try simp at hb2'
 have hb2 : ¬ 5 < l.length := by omega
 refine b7 ?_
 first | refine a4 rfl T.a5 rfl (a9 mB rfl) ?_ | refine a4 rfl T.a5 rfl (b9 mB rfl) ?_ | refine a4 rfl T.a5 rfl (b6 mB (a7 (by omega) rfl)) ?_ | refine a4 rfl T.a5 rfl (b3 mB (rows_get (by omega) rfl)) ?_
 refine r9 rfl rfl rfl (b4 rfl (a8 ?_))
 first | refine i4 rfl (fun hb3 => ?_) (fun hb3 => ?_) | refine c5 rfl (fun hb3 => ?_) (fun hb3 => ?_)
 ·have hb3' := hb3; try simp at hb3'
  have e : stepsP p l most = ([], 1) := by rw [stepsP, if_neg hb1, if_neg hb2, if_pos hb3]
  rw [e]; refine b7 ?_; refine n1 rfl rfl (by first | exact .refl _ | exact perm2 _ _ _ | exact perm3 _ _ _ _ | exact perm4 _ _ _ _ _) T.dG (by rfl) (by rfl) ?_; refine n1 rfl rfl (by first | exact .refl _ | exact perm2 _ _ _ | exact perm3 _ _ _ _ | exact perm4 _ _ _ _ _) T.G4 (by rfl) (by rfl) ?_; refine a8 (g2 (s8 (kP ?_))); refine G6 (α := Int) ?_; exact S1 [] (none, 0) rfl (.refl _) (B1 rfl rfl rfl T.u9 T.C0 (a9 mB rfl) (a9 mB rfl)) rfl trivial i2 ⟨m0, trivial⟩
 have hb3' := hb3; try simp at hb3'
 refine b7 ?_
 first | refine a4 rfl T.d9 rfl (a9 mB rfl) ?_ | refine a4 rfl T.d9 rfl (b9 mB rfl) ?_ | refine a4 rfl T.d9 rfl (b6 mB (a7 (by omega) rfl)) ?_ | refine a4 rfl T.d9 rfl (b3 mB (rows_get (by omega) rfl)) ?_
 refine j0 rfl T.t4 rfl ?_
 first | refine a4 rfl T.a5 rfl (a9 mB rfl) ?_ | refine a4 rfl T.a5 rfl (b9 mB rfl) ?_ | refine a4 rfl T.a5 rfl (b6 mB (a7 (by omega) rfl)) ?_ | refine a4 rfl T.a5 rfl (b3 mB (rows_get (by omega) rfl)) ?_
 refine A5 rfl rfl rfl (b4 rfl (a8 ?_))
 first | refine i4 rfl (fun hb4 => ?_) (fun hb4 => ?_) | refine c5 rfl (fun hb4 => ?_) (fun hb4 => ?_)
 ·have hb4' := hb4; try simp at hb4'
  have e : stepsP p l most = ([], 12) := by rw [stepsP, if_neg hb1, if_neg hb2, if_neg hb3, if_pos hb4]
  rw [e]; refine b7 ?_; refine n1 rfl rfl (by first | exact .refl _ | exact perm2 _ _ _ | exact perm3 _ _ _ _ | exact perm4 _ _ _ _ _) T.dG (by rfl) (by rfl) ?_; refine n1 rfl rfl (by first | exact .refl _ | exact perm2 _ _ _ | exact perm3 _ _ _ _ | exact perm4 _ _ _ _ _) T.G4 (by rfl) (by rfl) ?_; refine a8 (g2 (s8 (kP ?_))); refine G6 (α := Int) ?_; exact S1 [] (none, 0) rfl (.refl _) (B1 rfl rfl rfl T.u9 T.C0 (a9 mB rfl) (a9 mB rfl)) rfl trivial i2 ⟨m0, trivial⟩
 have hb4' := hb4; try simp at hb4'
 have e : stepsP p l most = ((growF l.length (orderOK l most p.length) l.length []).getD [], if (growF l.length (orderOK l most p.length) l.length []).isSome then 0 else 11) := by rw [stepsP, if_neg hb1, if_neg hb2, if_neg hb3, if_neg hb4]
 rw [e]; refine c4 (q6 (c3 (b8 (aj7 (c3 (b8 (b7 ?_)))))))
 first | refine a4 rfl T.c6 rfl (a9 mB rfl) ?_ | refine a4 rfl T.c6 rfl (b9 mB rfl) ?_ | refine a4 rfl T.c6 rfl (b6 mB (a7 (by omega) rfl)) ?_ | refine a4 rfl T.c6 rfl (b3 mB (rows_get (by omega) rfl)) ?_
 refine j0 rfl T.j2 rfl ?_; refine c8 F.lS rfl rfl (gY l.length) k6 trivial fun gn _ => ?_; refine a8 (i8 ?_); refine sT (β := OrdO) (cap := [ptr gn]) (hpR := []) [cellI g6 (.slice none 0 0), cellE g7 0] ([boxN gn l.length] ++ [Row A (rows p), Row B (rows l), Blk g3 (.cells #[.slice A p.length ca] T.strs (0, 0)), Blk g4 (.cells #[.slice B l.length cb] T.J0 (0, 0)), Blk g5 (.cells #[int most] T.int (0, 0))]) (fun x => growF l.length (orderOK l most p.length) l.length [] = x.map (·.1)) (fun _ => .tuple #[]) ordJ (ordR [cellI g6 (.slice none 0 0), cellE g7 0] (fun o out => [cellI g6 (.slice out.1 o.length out.2), cellE g7 0])) ordL rfl F.iX (.refl _) ⟨m0, m4, m5, m3, m2, m1, trivial⟩ ?_ ?_ ?_
 ·intro lb d fn tmps hsz hfr; refine cF (lb := lb) (rc := recL fn tmps #[34] _ _ d) (R0 := [cellI g6 (.slice none 0 0), cellE g7 0]) (R1 := (fun o out => [cellI g6 (.slice out.1 o.length out.2), cellE g7 0])) (LI0 := [Row A (rows p), Row B (rows l), Blk g3 (.cells #[.slice A p.length ca] T.strs (0, 0)), Blk g4 (.cells #[.slice B l.length cb] T.J0 (0, 0)), Blk g5 (.cells #[int most] T.int (0, 0))]) (p := (orderOK l most p.length)) (n := l.length) (by omega) (fun o A2 c2 hlo hio => ?_); refine sE m0 hsz hfr rfl (by intro t ht; simp at ht; subst ht; exact Nat.lt_of_lt_of_le (show 34 < 61 by decide) (Nat.le_refl _)) fun w => ?_; refine q7 rfl (b4 rfl (b5 ?_)); refine vG (.refl _) ?_; refine i8 (b8 (q7 rfl ?_))
  first | refine a4 rfl T.d9 rfl (a9 mB rfl) ?_ | refine a4 rfl T.d9 rfl (b9 mB rfl) ?_ | refine a4 rfl T.d9 rfl (b6 mB (a7 (by omega) rfl)) ?_ | refine a4 rfl T.d9 rfl (b3 mB (rows_get (by omega) rfl)) ?_
  refine j0 rfl T.t4 rfl ?_; refine b4 rfl (a8 (mF (q7 rfl (a6 rfl ?_)))); refine j0 rfl T.I6 rfl ?_; refine a6 rfl (a8 (i8 ?_)); refine s9 (β := Nat × Int) ⟨fun ⟨k, m⟩ => k ≤ o.length ∧ orderOK l most p.length o = orderOK l most m (o.drop k) ∧ -(k : Int) ≤ m ∧ m ≤ 6 + k, fun ⟨k, m⟩ => [(3, ptr g3), (4, ptr g4), (5, ptr g5), (6, ptr g6), (7, ptr g7), (9, .slice A2 o.length c2), (10, int m), (37, .slice A2 o.length c2), (38, int o.length), (39, int k)], fun _ => (lb, .loop (recB fn tmps #[34] _ _ d)) :: [cellI g6 (.slice none 0 0), cellE g7 0], fun _ => [Row A2 (rows o), Row A (rows p), Row B (rows l), Blk g3 (.cells #[.slice A p.length ca] T.strs (0, 0)), Blk g4 (.cells #[.slice B l.length cb] T.J0 (0, 0)), Blk g5 (.cells #[int most] T.int (0, 0))]⟩ (fun x => o.length - x.1) (0, (p.length : Int)) ⟨Nat.zero_le _, rfl, by omega, by omega⟩ mC (.refl _) ⟨m0, m1, m2, m3, m4, m5, trivial⟩ fun x hx => ?_; obtain ⟨k, m⟩ := x; obtain ⟨hk, hq, hm1, hm2⟩ := hx; refine b8 (q7 rfl (r9 rfl rfl rfl (a8 (b8 ?_))))
  first | refine i4 rfl (fun hb5 => ?_) (fun hb5 => ?_) | refine c5 rfl (fun hb5 => ?_) (fun hb5 => ?_)
  ·have hb5' := hb5; try simp at hb5'
   have hk2 : k < o.length := by omega
   have hio2 := hio _ (P1 hk2); have e2 : m + -1 = m - 1 := rfl; refine c4 (c3 (b8 (i8 (b8 (q7 rfl ?_))))); refine r6 (α := Int) _ _ rfl T.I6 T.G8 rfl rfl rfl mB rfl (by omega) (by decide) (a4 rfl T.a5 rfl (b6 mB (a7 (by omega) rfl)) ?_); refine b4 rfl (a8 (mF (q7 rfl ?_)))
   first | refine a4 rfl T.c6 rfl (a9 mB rfl) ?_ | refine a4 rfl T.c6 rfl (b9 mB rfl) ?_ | refine a4 rfl T.c6 rfl (b6 mB (a7 (by omega) rfl)) ?_ | refine a4 rfl T.c6 rfl (b3 mB (rows_get (by omega) rfl)) ?_
   refine a6 rfl (r6 (α := Mk) l (o.getD k default).toNat rfl T.j2 T.d3 rfl rfl (by omega) m2 rfl (by omega) (by decide) ?_)
   first | refine a3 ⟨_, 0, none⟩ rfl rfl T.g0 rfl ?_ | refine a3 _ rfl rfl T.g0 rfl ?_
   refine a4 rfl T.a5 rfl (b6 mB (a7 (by omega) rfl)) ?_; refine a8 (i8 (b8 (q7 rfl (t7 rfl rfl rfl (b4 rfl (a8 ?_))))))
   first | refine i4 rfl (fun hb6 => ?_) (fun hb6 => ?_) | refine c5 rfl (fun hb6 => ?_) (fun hb6 => ?_)
   ·have hb6' := hb6; try simp at hb6'
    have hgr : growsM (l.getD (o.getD k default).toNat default) = 1 := by rw [growsM, if_pos hb6]
    refine q7 rfl (a6 rfl ?_); refine p9 _ rfl rfl rfl rfl n3 ?_; refine b4 rfl (b5 (q6 (c3 (b8 (q7 rfl (a6 rfl ?_))))))
    first | refine a4 rfl T.a5 rfl (a9 mB rfl) ?_ | refine a4 rfl T.a5 rfl (b9 mB rfl) ?_ | refine a4 rfl T.a5 rfl (b6 mB (a7 (by omega) rfl)) ?_ | refine a4 rfl T.a5 rfl (b3 mB (rows_get (by omega) rfl)) ?_
    refine A5 rfl rfl rfl (a8 ?_)
    first | refine i4 rfl (fun hb8 => ?_) (fun hb8 => ?_) | refine c5 rfl (fun hb8 => ?_) (fun hb8 => ?_)
    ·have hb8' := hb8; try simp at hb8'
     refine n5 (P0 rfl (A3 (P0 rfl (w7 (n4 ?_))))); have hf : orderOK l most p.length o = false := by rw [hq, N2 hk2, hgr, if_pos hb8]
     exact rp_n () (.refl _) rfl (by show Value.bool (!(orderOK l most p.length o)) = _; rw [hf]; rfl) trivial (by show List.Sublist (if orderOK l most p.length o = true then _ else _) _; rw [if_neg (by rw [hf]; decide)]; exact .refl _) trivial
    have hb8' := hb8; try simp at hb8'
    refine c4 (q6 (c3 (q7 rfl ?_))); refine p9 _ rfl rfl rfl rfl n3 ?_; refine a6 rfl (b5 ?_); exact again _ (k + 1, m + 1) ⟨by omega, by rw [hq, N2 hk2]; rw [hgr, if_neg hb8], by omega, by omega⟩ (z4 (by omega)) mC (.refl _) ⟨m0, m1, m2, m3, m4, m5, trivial⟩
   have hb6' := hb6; try simp at hb6'
   refine b8 (q7 rfl (t7 rfl rfl rfl (b4 rfl (a8 ?_))))
   first | refine i4 rfl (fun hb7 => ?_) (fun hb7 => ?_) | refine c5 rfl (fun hb7 => ?_) (fun hb7 => ?_)
   ·have hb7' := hb7; try simp at hb7'
    have hgr : growsM (l.getD (o.getD k default).toNat default) = -1 := by rw [growsM, if_neg hb6, if_pos hb7]
    refine q7 rfl (a6 rfl ?_); refine bE _ rfl rfl rfl rfl n3 ?_; refine b4 rfl (b5 (q6 (c3 (b8 (q7 rfl (a6 rfl ?_))))))
    first | refine a4 rfl T.a5 rfl (a9 mB rfl) ?_ | refine a4 rfl T.a5 rfl (b9 mB rfl) ?_ | refine a4 rfl T.a5 rfl (b6 mB (a7 (by omega) rfl)) ?_ | refine a4 rfl T.a5 rfl (b3 mB (rows_get (by omega) rfl)) ?_
    refine A5 rfl rfl rfl (a8 ?_)
    first | refine i4 rfl (fun hb8 => ?_) (fun hb8 => ?_) | refine c5 rfl (fun hb8 => ?_) (fun hb8 => ?_)
    ·have hb8' := hb8; try simp at hb8'
     refine n5 (P0 rfl (A3 (P0 rfl (w7 (n4 ?_))))); have hf : orderOK l most p.length o = false := by rw [hq, N2 hk2, hgr, e2, if_pos hb8]
     exact rp_n () (.refl _) rfl (by show Value.bool (!(orderOK l most p.length o)) = _; rw [hf]; rfl) trivial (by show List.Sublist (if orderOK l most p.length o = true then _ else _) _; rw [if_neg (by rw [hf]; decide)]; exact .refl _) trivial
    have hb8' := hb8; try simp at hb8'
    refine c4 (q6 (c3 (q7 rfl ?_))); refine p9 _ rfl rfl rfl rfl n3 ?_; refine a6 rfl (b5 ?_); exact again _ (k + 1, m - 1) ⟨by omega, by rw [hq, N2 hk2]; rw [hgr, e2, if_neg hb8], by omega, by omega⟩ (z4 (by omega)) mC (.refl _) ⟨m0, m1, m2, m3, m4, m5, trivial⟩
   have hb7' := hb7; try simp at hb7'
   have hgr : growsM (l.getD (o.getD k default).toNat default) = 0 := by rw [growsM, if_neg hb6, if_neg hb7]
   refine c4 (q6 (c3 (b8 (q7 rfl (a6 rfl ?_)))))
   first | refine a4 rfl T.a5 rfl (a9 mB rfl) ?_ | refine a4 rfl T.a5 rfl (b9 mB rfl) ?_ | refine a4 rfl T.a5 rfl (b6 mB (a7 (by omega) rfl)) ?_ | refine a4 rfl T.a5 rfl (b3 mB (rows_get (by omega) rfl)) ?_
   refine A5 rfl rfl rfl (a8 ?_)
   first | refine i4 rfl (fun hb8 => ?_) (fun hb8 => ?_) | refine c5 rfl (fun hb8 => ?_) (fun hb8 => ?_)
   ·have hb8' := hb8; try simp at hb8'
    refine n5 (P0 rfl (A3 (P0 rfl (w7 (n4 ?_))))); have hf : orderOK l most p.length o = false := by rw [hq, N2 hk2, hgr, Int.add_zero, if_pos hb8]
    exact rp_n () (.refl _) rfl (by show Value.bool (!(orderOK l most p.length o)) = _; rw [hf]; rfl) trivial (by show List.Sublist (if orderOK l most p.length o = true then _ else _) _; rw [if_neg (by rw [hf]; decide)]; exact .refl _) trivial
   have hb8' := hb8; try simp at hb8'
   refine c4 (q6 (c3 (q7 rfl ?_))); refine p9 _ rfl rfl rfl rfl n3 ?_; refine a6 rfl (b5 ?_); exact again _ (k + 1, m) ⟨by omega, by rw [hq, N2 hk2]; rw [hgr, Int.add_zero, if_neg hb8], by omega, by omega⟩ (z4 (by omega)) mC (.refl _) ⟨m0, m1, m2, m3, m4, m5, trivial⟩
  have hb5' := hb5; try simp at hb5'
  have hk2 : k = o.length := by omega
  refine n5 (A3 (n4 (c3 (b8 (q7 rfl (a6 rfl ?_)))))); refine n1 rfl rfl (by first | exact .refl _ | exact perm2 _ _ _ | exact perm3 _ _ _ _ | exact perm4 _ _ _ _ _) T.dG (by rfl) (by rfl) ?_; refine n1 rfl rfl (by first | exact .refl _ | exact perm2 _ _ _ | exact perm3 _ _ _ _ | exact perm4 _ _ _ _ _) T.G4 (by rfl) (by rfl) ?_; refine a8 (g2 (E1 ?_)); have ht : orderOK l most p.length o = true := by rw [hq, hk2, List.drop_length]; rfl
  refine rp_ret (hp' := [cellI g6 (.slice A2 o.length c2), cellE g7 0]) () (List.reverse_perm _).symm rfl (by show Value.bool (!(orderOK l most p.length o)) = _; rw [ht]; rfl) trivial (by show List.Sublist (if orderOK l most p.length o = true then _ else _) _; rw [if_pos ht]; exact .refl _) trivial
 ·intro x d hx hp; obtain rfl : x = none := by cases x with | none => rfl | some y => cases hp
  refine q6 (c3 (b7 ?_)); refine n1 rfl rfl (by first | exact .refl _ | exact perm2 _ _ _ | exact perm3 _ _ _ _ | exact perm4 _ _ _ _ _) T.dG (by rfl) (by rfl) ?_; refine n1 rfl rfl (by first | exact .refl _ | exact perm2 _ _ _ | exact perm3 _ _ _ _ | exact perm4 _ _ _ _ _) T.G4 (by rfl) (by rfl) ?_; refine a8 (g2 (kP ?_)); have hx : growF l.length (orderOK l most p.length) l.length [] = none := hx; rw [hx]; refine G6 (α := Int) ?_; exact S1 [d] (none, 0) rfl (List.reverse_perm _).symm (B1 rfl rfl rfl T.u9 T.C0 (a9 mB rfl) (a9 mB rfl)) rfl trivial i2 ⟨m0, trivial⟩
 intro x d j hx hp; obtain ⟨y, rfl⟩ : ∃ y, x = some y := by cases x with | none => cases hp | some y => exact ⟨y, rfl⟩
 cases hp
 refine g2 (s8 (kP ?_)); have hx : growF l.length (orderOK l most p.length) l.length [] = some y.1 := hx; rw [hx]; exact S1 [d] y.2 rfl (.refl _) (B1 rfl rfl rfl T.u9 T.C0 (a9 mB rfl) (a9 mB rfl)) rfl trivial i2 ⟨m0, trivial⟩
def stepsF (l : List Mk) (most : Int) : Nat → List Int → Int → Option (List Int)
  | 0, done, _ => some done
  | d + 1, done, lines => (List.range l.length).findSome? fun i : Nat => if (i : Int) ∈ done ∨ most < lines + growsM (l.getD i default) then none else stepsF l most d (done ++ [(i : Int)]) (lines + growsM (l.getD i default))
def outB (r : Option (List Int)) : Con OutC := { val := fun x => .tuple #[.slice x.1 (r.getD []).length x.2, .bool r.isSome], LO := fun x => [Row x.1 (rows (r.getD []))] }
def stepsR (p : List Str) (l : List Mk) (most : Int) : List Int × Int :=
  if ¬ checkErr p l = 0 then ([], checkErr p l) else if 5 < l.length then ([], 6) else if most < 0 then ([], 1) else if most < p.length then ([], 12)
  else if (stepsF l most l.length [] p.length).isSome then ((stepsF l most l.length [] p.length).getD [], 0) else ([], 11)
end Go.Proofs.YtegfgegnhjkcfaaGreatDoor
end
section
namespace Go.Proofs.YtegfgegnhjkcfaaGreatDoor
open Go Go.W
set_option maxRecDepth 20000
attribute [local irreducible] HL HC HQ HB Row Rows2 Blk Facts
abbrev sAnna : Str := [97, 110, 110, 97]
abbrev sBea : Str := [98, 101, 97]
abbrev sBen : Str := [98, 101, 110]
abbrev sCid : Str := [99, 105, 100]
abbrev sCyd : Str := [99, 121, 100]
abbrev sAbe : Str := [97, 98, 101]
abbrev sDan : Str := [100, 97, 110]
abbrev folkL : List Str := [sAnna, sBen, sCyd]
abbrev slipL : List Mk := [(1, 1, sBea), (2, 2, sCid)]
abbrev newL : List Str := [sAnna, sBea, sBen, sCid]
def diffN (old page : List Str) : Nat → Nat → Nat → Lst
  | 0, _, _ => (0, [])
  | d + 1, i, j => leastOf ((if i = old.length ∧ j = page.length then [(0, [])] else []) ++
    (if j < page.length then [behindP (diffN old page d i (j + 1)) (1, (i : Int), page.getD j default)] else []) ++
    (if i < old.length then [behindP (diffN old page d (i + 1) j) (3, (i : Int), [])] else []) ++
    (if i < old.length ∧ j < page.length then behindP (diffN old page d (i + 1) (j + 1)) (2, (i : Int), page.getD j default) :: (if old.getD i default = page.getD j default then [diffN old page d (i + 1) (j + 1)] else []) else []))
theorem uT (old page : List Str) : ∀ (d i j : Nat), (old.length - i) + (page.length - j) < d → diffN old page d i j = diffP old page i j := by
  intro d
  induction d with
  | zero => intro i j h; omega
  | succ d ih =>
    intro i j h; unfold diffN diffP
    congr 1
    congr 1
    · congr 1
      · congr 1
        by_cases hj : j < page.length
        · rw [if_pos hj, dif_pos hj, ih i (j + 1) (by omega)]
        rw [if_neg hj, dif_neg hj]
      by_cases hi : i < old.length
      · rw [if_pos hi, dif_pos hi, ih (i + 1) j (by omega)]
      rw [if_neg hi, dif_neg hi]
    by_cases hi : i < old.length ∧ j < page.length
    · rw [if_pos hi, dif_pos hi, ih (i + 1) (j + 1) (by omega)]
    rw [if_neg hi, dif_neg hi]
theorem aq4 : applyP folkL slipL = (newL, 0) := by decide +kernel
theorem ex_diff : diffE folkL newL (diffP folkL newL 0 0).2 = (slipL, 0) := by rw [← uT folkL newL 10 0 0 (by decide)]; decide +kernel
theorem aq3 : stepsP folkL [(1, 0, sAbe), (3, 1, []), (3, 2, [])] 3 = ([1, 0, 2], 0) := by decide +kernel
theorem yC (a b : Option Addr) : originE [⟨a, 2, [sAnna, sBen]⟩, ⟨b, 2, [sAnna, sCyd]⟩] [sAnna, sBen, sDan] = ([1, 0, -1], 0) := by rfl
theorem ex_look (a b : Option Addr) : lookP [⟨a, 2, [sAnna, sBen]⟩, ⟨b, 2, [sAnna, sCyd]⟩] [(1, 2, sDan)] [sAnna, sCyd, sBen, sDan] = ((2, 2), 0) := by
  have e1 : yearsErr (years [⟨a, 2, [sAnna, sBen]⟩, ⟨b, 2, [sAnna, sCyd]⟩]) = 0 := by show yearsErr [[sAnna, sBen], [sAnna, sCyd]] = 0; decide +kernel
  have e2 : (lastP [⟨a, 2, [sAnna, sBen]⟩, ⟨b, 2, [sAnna, sCyd]⟩]).l = [sAnna, sCyd] := rfl; have e3 : applyP [sAnna, sCyd] [(1, 2, sDan)] = ([sAnna, sCyd, sDan], 0) := by decide +kernel
  have e4 : pageErr [sAnna, sCyd, sBen, sDan] = 0 := by decide +kernel
  have e5 : (diffP [sAnna, sCyd, sDan] [sAnna, sCyd, sBen, sDan] 0 0).2 = [(1, 2, sBen)] := by rw [← uT _ _ 10 0 0 (by decide)]; decide +kernel
  unfold lookP; rw [e1, e2, e3, e4, e5]
  rfl
theorem N4 : Meets Tryz.prog F.iA [] (outSl folkL) := by
 refine c1 F.sK rfl j9 fun w0 => ?_; refine b7 (b4 rfl (j6 ?_)); refine j3 _ rfl rfl (fun _ => T.rE ..) fun gS => ?_; refine b4 rfl (a8 (g2 ?_)); refine D1 (rows folkL) (List.prefix_refl _) ?_; exact ret1 (some ⟨gS, 0, none⟩, 3) rfl rfl rfl (Nat.le_refl _) (.refl _) ⟨m0, trivial⟩
theorem U3 (n : Int) (s : Str) : Meets Tryz.prog F.nS [int n, str s] { val := fun _ : Unit => .agg #[int 1, int n, str s] } := by
 refine c1 F.vU rfl j9 fun w0 => ?_; refine b7 ?_; refine p8 rfl (fun _ => T.t8 _) fun gA => ?_; refine j6 (a6 rfl (a6 rfl ?_)); refine r7 _ rfl rfl (fun _ => T.v4 ..) ?_; refine l5 rfl rfl (by first | exact .refl _ | exact perm2 _ _ _ | exact perm3 _ _ _ _ | exact perm4 _ _ _ _ _) T.d3 (by rfl) (by rfl) ?_; refine a8 (g2 ?_); exact V2 () rfl rfl T.i6 T.d3 rfl m0 rfl rfl trivial i2 trivial
theorem lY (n : Int) (s : Str) : Meets Tryz.prog F.kQ [int n, str s] { val := fun _ : Unit => .agg #[int 2, int n, str s] } := by
 refine c1 F.uI rfl j9 fun w0 => ?_; refine b7 ?_; refine p8 rfl (fun _ => T.t8 _) fun gA => ?_; refine j6 (a6 rfl (a6 rfl ?_)); refine r7 _ rfl rfl (fun _ => T.v4 ..) ?_; refine l5 rfl rfl (by first | exact .refl _ | exact perm2 _ _ _ | exact perm3 _ _ _ _ | exact perm4 _ _ _ _ _) T.d3 (by rfl) (by rfl) ?_; refine a8 (g2 ?_); exact V2 () rfl rfl T.i6 T.d3 rfl m0 rfl rfl trivial i2 trivial
theorem bG (n : Int) : Meets Tryz.prog F.kR [int n] { val := fun _ : Unit => .agg #[int 3, int n, str []] } := by
 refine c1 F.uJ rfl j9 fun w0 => ?_; refine b7 ?_; refine p8 rfl (fun _ => T.t8 _) fun gA => ?_; refine j6 (a6 rfl ?_); refine r7 _ rfl rfl (fun _ => T.Q2 ..) ?_; refine l5 rfl rfl (by first | exact .refl _ | exact perm2 _ _ _ | exact perm3 _ _ _ _ | exact perm4 _ _ _ _ _) T.d3 (by rfl) (by rfl) ?_; refine a8 (g2 ?_); exact V2 () rfl rfl T.i6 T.d3 rfl m0 rfl rfl trivial i2 trivial
theorem aA : Meets Tryz.prog F.hZ [] (outSl slipL) := by
 refine c1 F.sI rfl j9 fun w0 => ?_; refine b7 (b4 rfl (j6 ?_)); refine c8 F.cP rfl rfl (U3 1 sBea) k6 trivial fun _ _ => ?_; refine c8 F.sJ rfl rfl (lY 2 sCid) k6 trivial fun _ _ => ?_; refine j3 _ rfl rfl (fun _ => T.mL ..) fun gS => ?_; refine b4 rfl (a8 (g2 ?_)); refine D1 (rows slipL) (List.prefix_refl _) ?_; exact ret1 (some ⟨gS, 0, none⟩, 2) rfl rfl rfl (Nat.le_refl _) (.refl _) ⟨m0, trivial⟩
def agesP (x : OutC × Option Addr × Option Addr) : List (Sl Str) := [⟨x.2.1, 2, [sAnna, sBen]⟩, ⟨x.2.2, 2, [sAnna, sCyd]⟩]
theorem aB : Meets Tryz.prog F.iC [] { inv := fun x : OutC × Option Addr × Option Addr => 2 ≤ x.1.2, val := fun x => .slice x.1.1 2 x.1.2, LO := fun x => [Rows2 x.1.1 (agesP x)] } := by
 refine c1 F.sL rfl j9 fun w0 => ?_; refine b7 (b4 rfl (j6 ?_)); refine j3 _ rfl rfl (fun _ => T.rF ..) fun ga => ?_; refine j3 _ rfl rfl (fun _ => T.rF ..) fun gb => ?_; refine j3 _ rfl rfl (fun _ => T.wF ..) fun gS => ?_; refine b4 rfl (a8 (g2 ?_)); refine D1 (rows [(⟨some ⟨ga, 0, none⟩, 2, [sAnna, sBen]⟩ : Sl Str), ⟨some ⟨gb, 0, none⟩, 2, [sAnna, sCyd]⟩]) (List.prefix_refl _) (D1 (rows [sAnna, sCyd]) (List.prefix_refl _) (D1 (rows [sAnna, sBen]) (List.prefix_refl _) ?_)); refine aj1 (A := some ⟨gS, 0, none⟩) (ps := [(⟨some ⟨ga, 0, none⟩, 2, [sAnna, sBen]⟩ : Sl Str), ⟨some ⟨gb, 0, none⟩, 2, [sAnna, sCyd]⟩]) m2 (by intro p hp; simp at hp; rcases hp with rfl | rfl; exact m0; exact m1) ?_; exact ret1 ((some ⟨gS, 0, none⟩, 2), some ⟨ga, 0, none⟩, some ⟨gb, 0, none⟩) rfl rfl rfl (Nat.le_refl _) (.refl _) ⟨m0, trivial⟩
abbrev orderM : List Mk := [(1, 0, sAbe), (3, 1, []), (3, 2, [])]
theorem pL {A B : Option Addr} {ca cb : Nat} (hc : 3 ≤ ca) : Meets Tryz.prog F.V8 [.slice A 3 ca, .slice B 2 cb] { outErr (newL, (0 : Int)) with LI := [Row A (rows folkL), Row B (rows slipL)] } := by
  have h := V7 (A := A) (B := B) (ca := ca) (cb := cb) folkL slipL hc; rw [aq4] at h; exact h
theorem qM {A B : Option Addr} {ca cb : Nat} : Meets Tryz.prog F.aZ [.slice A 3 ca, .slice B 4 cb] { outE (slipL, (0 : Int)) with LI := [Row A (rows folkL), Row B (rows newL)] } := by
  have h := kO (A := A) (B := B) (ca := ca) (cb := cb) folkL newL; rw [ex_diff] at h; exact h
theorem pK {A B : Option Addr} {ca cb : Nat} : Meets Tryz.prog F.V6 [.slice A 3 ca, .slice B 3 cb, int 3] { outE (([1, 0, 2] : List Int), (0 : Int)) with LI := [Row A (rows folkL), Row B (rows orderM)] } := by
  have h := jC (A := A) (B := B) (ca := ca) (cb := cb) folkL orderM 3; rw [aq3] at h; exact h
theorem mH {B : Option Addr} {cb : Nat} (y : OutC × Option Addr × Option Addr) : Meets Tryz.prog F.R7 [.slice y.1.1 2 y.1.2, .slice B 3 cb] { outErr (([1, 0, -1] : List Int), (0 : Int)) with LI := [Rows2 y.1.1 (agesP y), Row B (rows [sAnna, sBen, sDan])] } := by
  have h := hT (A := y.1.1) (B := B) (ca := y.1.2) (cb := cb) (agesP y) [sAnna, sBen, sDan]; rw [agesP, yC] at h; exact h
theorem qL {B C : Option Addr} {cb cc : Nat} (y : OutC × Option Addr × Option Addr) (hy : 2 ≤ y.1.2) : Meets Tryz.prog F.aY [.slice y.1.1 2 y.1.2, .slice B 1 cb, .slice C 4 cc] { LI := [Rows2 y.1.1 (agesP y), Row B (rows [((1, 2, sDan) : Mk)]), Row C (rows [sAnna, sCyd, sBen, sDan])], val := fun _ : Unit => .tuple #[.agg #[int 2, int 2], int 0] } := by
  have h := kN (A := y.1.1) (B := B) (C := C) (ca := y.1.2) (cb := cb) (cc := cc) (agesP y) [(1, 2, sDan)] [sAnna, sCyd, sBen, sDan] hy (by intro q hq; simp [agesP] at hq; rcases hq with rfl | rfl <;> simp); rw [agesP, ex_look] at h; exact h
set_option maxHeartbeats 1000000 in
theorem C6 : Meets Tryz.prog F.N5 [] { val := fun _ : Unit => .bool true } := by
 refine c1 F.iB rfl j9 fun w0 => ?_; refine b7 (b4 rfl (j6 ?_)); refine c8 F.W9 rfl rfl (N4) k6 trivial fun x1 hx1 => ?_; refine c8 F.gL rfl rfl (aA) k6 trivial fun x2 hx2 => ?_; refine c8 F.cO rfl rfl (pL hx1) k6 ⟨m1, m0, trivial⟩ fun x3 hx3 => ?_; refine a6 rfl (i9 rfl rfl rfl (i9 rfl rfl rfl (b4 rfl (b4 rfl (j6 ?_))))); refine c8 F.W9 rfl rfl (N4) k6 trivial fun x4 hx4 => ?_; refine j3 _ rfl rfl (fun _ => T.lB ..) fun gS => ?_; refine E9 (rows newL) (List.prefix_refl _) ?_; refine c8 F.qC rfl rfl (qM) k6 ⟨m1, m0, trivial⟩ fun x5 _ => ?_; refine a6 rfl (i9 rfl rfl rfl (i9 rfl rfl rfl (b4 rfl (b4 rfl (j6 ?_))))); refine c8 F.W9 rfl rfl (N4) k6 trivial fun x6 hx6 => ?_; refine c8 F.cP rfl rfl (U3 0 sAbe) k6 trivial fun _ _ => ?_; refine c8 F.jN rfl rfl (bG 1) k6 trivial fun _ _ => ?_; refine c8 F.jN rfl rfl (bG 2) k6 trivial fun _ _ => ?_; refine j3 _ rfl rfl (fun _ => T.mK ..) fun gS => ?_; refine E9 (rows orderM) (List.prefix_refl _) ?_; refine c8 F.nN rfl rfl (pK) k6 ⟨m1, m0, trivial⟩ fun x7 _ => ?_; refine a6 rfl (i9 rfl rfl rfl (i9 rfl rfl rfl (b4 rfl (b4 rfl (j6 ?_))))); refine c8 F.gN rfl rfl (aB) k6 trivial fun y1 hy1 => ?_; refine j3 _ rfl rfl (fun _ => T.rE ..) fun gS => ?_; refine E9 (rows [sAnna, sBen, sDan]) (List.prefix_refl _) ?_; refine c8 F.lX rfl rfl (mH y1) k6 ⟨m1, m0, trivial⟩ fun x8 _ => ?_; refine a6 rfl (i9 rfl rfl rfl (i9 rfl rfl rfl (b4 rfl (b4 rfl (j6 ?_))))); refine c8 F.gN rfl rfl (aB) k6 trivial fun y2 hy2 => ?_; refine c8 F.cP rfl rfl (U3 2 sDan) k6 trivial fun _ _ => ?_; refine j3 _ rfl rfl (fun _ => T.z9 ..) fun gS => ?_; refine E9 (rows [((1, 2, sDan) : Mk)]) (List.prefix_refl _) ?_; refine j3 _ rfl rfl (fun _ => T.lB ..) fun gS => ?_; refine E9 (rows [sAnna, sCyd, sBen, sDan]) (List.prefix_refl _) ?_; refine c8 F.qB rfl rfl (qL y2 hy2) k6 ⟨m2, m1, m0, trivial⟩ fun _ _ => ?_; refine a6 rfl (i9 rfl rfl rfl (i9 rfl rfl rfl ?_)); refine p8 rfl (fun _ => T.lM _) fun gA => ?_; refine l5 rfl rfl (by first | exact .refl _ | exact perm2 _ _ _ | exact perm3 _ _ _ _ | exact perm4 _ _ _ _ _) T.l9 (by rfl) (by rfl) ?_; refine b4 rfl (j6 (a6 rfl (t7 rfl rfl rfl (a6 rfl ?_)))); refine k9 rfl rfl ?_ ?_
 ·intro hg1; have hg1' := hg1; try simp at hg1'
  refine d7 rfl rfl hg1 (a6 rfl (d7 rfl rfl hg1 (t7 rfl rfl rfl ?_))); refine p_t rfl rfl (bt1 hg1) rfl (a6 rfl ?_); refine k9 rfl rfl ?_ ?_
  ·intro hg2; have hg2' := hg2; try simp at hg2'
   refine d7 rfl rfl hg2 (a6 rfl (d7 rfl rfl hg2 (t7 rfl rfl rfl ?_))); refine p_t rfl rfl (bt1 hg2) rfl (a6 rfl ?_); refine k9 rfl rfl ?_ ?_
   ·intro hg3; have hg3' := hg3; try simp at hg3'
    refine d7 rfl rfl hg3 (a6 rfl (d7 rfl rfl hg3 (t7 rfl rfl rfl ?_))); refine p_t rfl rfl (bt1 hg3) rfl (a6 rfl ?_); refine k9 rfl rfl ?_ ?_
    ·intro hg4; have hg4' := hg4; try simp at hg4'
     refine d7 rfl rfl hg4 (a6 rfl (d7 rfl rfl hg4 (t7 rfl rfl rfl ?_))); refine p_t rfl rfl (bt1 hg4) rfl (a6 rfl ?_); refine k9 rfl rfl ?_ ?_
     ·intro hg5; have hg5' := hg5; try simp at hg5'
      refine d7 rfl rfl hg5 ?_
      first | refine t9 rfl T.s7 T.l9 rfl mB (by rfl) ?_ | refine u4 rfl T.s7 T.l9 rfl mB (by rfl) ?_ | refine p6 rfl T.s7 T.l9 rfl rfl (k8 mB (n2 (by omega))) ?_
      refine d7 rfl rfl hg5 (r7 _ rfl rfl (fun _ => T.D3 ..) (d7 rfl rfl hg5 (B6 _ rfl rfl rfl (fun _ => T.sY ..) (fun _ => T.sU ..) (p_t rfl rfl (bt1 hg5) rfl (a6 rfl ?_))))); refine k9 rfl rfl ?_ ?_
      ·intro hg6; have hg6' := hg6; try simp at hg6'
       refine d7 rfl rfl hg6 (a6 rfl (d7 rfl rfl hg6 ?_)); refine j3 _ rfl rfl (fun _ => T.lB ..) fun gS => ?_; refine d7 rfl rfl hg6 (E9 (rows newL) (List.prefix_refl _) ?_); refine c8 F.kS rfl rfl (gC newL newL (by decide)) k6 mC fun _ _ => ?_; refine p_t rfl rfl (bt1 hg6) rfl (a6 rfl ?_); refine k9 rfl rfl ?_ ?_
       ·intro hg7; have hg7' := hg7; try simp at hg7'
        refine d7 rfl rfl hg7 (a6 rfl (d7 rfl rfl hg7 ?_)); refine c8 F.gL rfl rfl (aA) k6 trivial fun x9 _ => ?_; refine d7 rfl rfl hg7 ?_; refine c8 F.cS rfl rfl (V9 slipL slipL (by decide)) k6 mC fun _ _ => ?_; refine p_t rfl rfl (bt1 hg7) rfl (a6 rfl ?_); refine k9 rfl rfl ?_ ?_
        ·intro hg8; have hg8' := hg8; try simp at hg8'
         refine d7 rfl rfl hg8 (a6 rfl (d7 rfl rfl hg8 ?_)); refine j3 _ rfl rfl (fun _ => T.dL ..) fun gS => ?_; refine d7 rfl rfl hg8 (E9 (rows ([1, 0, 2] : List Int)) (List.prefix_refl _) ?_); refine c8 F.gP rfl rfl (aD [1, 0, 2] [1, 0, 2] (by decide)) k6 mC fun _ _ => ?_; refine p_t rfl rfl (bt1 hg8) rfl (a6 rfl ?_); refine k9 rfl rfl ?_ ?_
         ·intro hg9; have hg9' := hg9; try simp at hg9'
          refine d7 rfl rfl hg9 (a6 rfl (d7 rfl rfl hg9 ?_)); refine j3 _ rfl rfl (fun _ => T.dL ..) fun gS => ?_; refine d7 rfl rfl hg9 (E9 (rows ([1, 0, -1] : List Int)) (List.prefix_refl _) ?_); refine c8 F.gP rfl rfl (aD [1, 0, -1] [1, 0, -1] (by decide)) k6 mC fun _ _ => ?_; refine p_t rfl rfl (bt1 hg9) rfl ?_; refine b4 rfl (a8 (g2 ?_)); exact ret1 () rfl rfl rfl trivial i2 trivial
         intro hg9; have hg9' := hg9; try simp at hg9'
        intro hg8; have hg8' := hg8; try simp at hg8'
       intro hg7; have hg7' := hg7; try simp at hg7'
      intro hg6; have hg6' := hg6; try simp at hg6'
     intro hg5; have hg5' := hg5; try simp at hg5'
    intro hg4; have hg4' := hg4; try simp at hg4'
   intro hg3; have hg3' := hg3; try simp at hg3'
  intro hg2; have hg2' := hg2; try simp at hg2'
 intro hg1; have hg1' := hg1; try simp at hg1'
end Go.Proofs.YtegfgegnhjkcfaaGreatDoor
end
