/- Texts. -/
import Derived.RangeFuncLeaves
import Derived.RangeFuncRecord
import Derived.Scope
import Derived.Laws.Cover3
import Derived.Laws.Runes
import Derived.Shelf.Strings.OnBuilder
import Derived.Shelf.Strings.Runes
import Derived.Test.YtpihanmcnmlodaaGreatDoorAAd
set_option linter.unusedVariables false
set_option linter.unusedSimpArgs false
section
namespace Go.Proofs.YtpihanmcnmlodaaGreatDoor
open Go Go.W Tryz T F
set_option maxRecDepth 20000
attribute [local irreducible] HL HC HQ HB Row Rows2 Blk Facts
theorem s9 {α : Type} [Inhabited α] (l : List α) (k : Nat) (h : k < l.length) : l.take (k + 1) = l.take k ++ [l.getD k default] := by
  rw [List.take_succ_eq_append_getElem h]
  simp [List.getD_eq_getElem?_getD, h]
theorem nT {α : Type} {a b : List α} {k : Nat} (h : a.take k = b.take k) (ha : a.length ≤ k) (hb : b.length ≤ k) : a = b := by
  rwa [List.take_of_length_le ha, List.take_of_length_le hb] at h
theorem ne_at {α : Type} [Inhabited α] {a b : List α} {k : Nat} (h : ¬ a.getD k default = b.getD k default) : ¬ a = b := fun e => h (by rw [e])
theorem lW {A B : Option Addr} {ca cb : Nat} (a b : List Int) (ha : a.length ≤ 9223372036854775806) :
    Meets prog aY [.slice A a.length ca, .slice B b.length cb] { LI := [Row A (rows a), Row B (rows b)], val := fun _ : Unit => .bool (decide (a = b)) } := by
 refine d5 pO rfl r4 fun w0 => ?_; refine c5 (b7 rfl (b5 (c6 (c5 (b3 rfl ?_))))); refine i7 rfl r5 rfl (b3 rfl (i7 rfl r5 rfl ?_)); refine w7 rfl rfl rfl (b5 ?_)
 first | refine i6 rfl (fun hb1 => ?_) (fun hb1 => ?_) | refine c8 rfl (fun hb1 => ?_) (fun hb1 => ?_)
 ·have hb1' := hb1; try simp at hb1'
  have hb1 : ¬ a = b := fun e => by subst e; exact hb1 rfl
  refine c5 (b7 rfl (b5 (C6 ?_))); exact ret1 () rfl (by rw [decide_eq_false hb1]; rfl) rfl tK (.refl _) tK
 have hb1' := hb1; try simp at hb1'
 have hb1 : a.length = b.length := by omega
 refine c4 (c3 (c6 (c5 (b7 rfl (b5 (i5 ?_)))))); refine v6 (β := Nat) ⟨fun k => k ≤ a.length ∧ a.take k = b.take k, fun k => [(0, .slice A a.length ca), (1, .slice B b.length cb), (5, int k)], fun _ => [], fun _ => [Row A (rows a), Row B (rows b)]⟩ (fun k => a.length - k) 0 ⟨Nat.zero_le _, rfl⟩ mC (.refl _) ⟨m0, m1, tK⟩ fun k hk => ?_; obtain ⟨hk, ht⟩ := hk; refine c6 (c5 (b3 rfl (b3 rfl ?_))); refine i7 rfl r5 rfl ?_; refine y5 rfl rfl rfl (b5 ?_)
 first | refine i6 rfl (fun hb2 => ?_) (fun hb2 => ?_) | refine c8 rfl (fun hb2 => ?_) (fun hb2 => ?_)
 ·have hb2' := hb2; try simp at hb2'
  have hb2 : k < a.length := by omega
  refine c4 (c3 (c6 (i5 (c6 ?_)))); refine G4 8 mixed (by decide) (by decide) rfl rfl (p8 rfl (p8 rfl (s7 (fun w1 => u6 (α := Int) _ _ rfl r5 w6 rfl rfl rfl mB rfl (by omega) (by decide) (q_z rfl)) (s7 (fun w1 => a7 rfl a6 rfl (b9 mB (b4 (by omega) rfl)) (q_z rfl)) (p8 rfl (p8 rfl (s7 (fun w1 => u6 (α := Int) _ _ rfl r5 w6 rfl rfl rfl mB rfl (by omega) (by decide) (q_z rfl)) (s7 (fun w1 => a7 rfl a6 rfl (b9 mB (b4 (by omega) rfl)) (q_z rfl)) ?_)))))))); refine A9 ⟨rfl, ?_⟩; refine w7 rfl rfl rfl (b5 ?_)
  first | refine i6 rfl (fun hb3 => ?_) (fun hb3 => ?_) | refine c8 rfl (fun hb3 => ?_) (fun hb3 => ?_)
  ·have hb3' := hb3; try simp at hb3'
   have hb3 : ¬ a = b := ne_at (a := a) (b := b) (k := k) hb3; refine c5 (b7 rfl (b5 (i8 (y8 (r6 (y8 ?_)))))); exact ret1 () rfl (by rw [decide_eq_false hb3]; rfl) rfl tK (.refl _) tK
  have hb3' := hb3; try simp at hb3'
  have hb3 : a.getD k default = b.getD k default := Classical.not_not.1 hb3; refine c4 (u4 (c3 (c7 (b3 rfl ?_)))); refine w5 _ rfl rfl rfl rfl q8 ?_; refine b7 rfl (b6 ?_); exact again _ (k + 1) ⟨by omega, by rw [s9 a k hb2, s9 b k (by omega), ht, hb3]⟩ (by first | omega | (simp only; omega)) mC (.refl _) ⟨m0, m1, tK⟩
 have hb2' := hb2; try simp at hb2'
 have hb2 : k = a.length := by omega
 refine r9 (B2 (r8 (c3 (c5 (b7 rfl (b5 (i8 ?_))))))); exact ret1 () rfl (by rw [decide_eq_true (nT ht (by omega) (by omega))]; rfl) rfl tK (.refl _) tK
theorem kF {A B : Option Addr} {ca cb : Nat} (a b : List Mk) (ha : a.length ≤ 9223372036854775806) :
    Meets prog Y7 [.slice A a.length ca, .slice B b.length cb] { LI := [Row A (rows a), Row B (rows b)], val := fun _ : Unit => .bool (decide (a = b)) } := by
 refine d5 mV rfl r4 fun w0 => ?_; refine c5 (b7 rfl (b5 (c6 (c5 (b3 rfl ?_))))); refine i7 rfl j6 rfl (b3 rfl (i7 rfl j6 rfl ?_)); refine w7 rfl rfl rfl (b5 ?_)
 first | refine i6 rfl (fun hb1 => ?_) (fun hb1 => ?_) | refine c8 rfl (fun hb1 => ?_) (fun hb1 => ?_)
 ·have hb1' := hb1; try simp at hb1'
  have hb1 : ¬ a = b := fun e => by subst e; exact hb1 rfl
  refine c5 (b7 rfl (b5 (C6 ?_))); exact ret1 () rfl (by rw [decide_eq_false hb1]; rfl) rfl tK (.refl _) tK
 have hb1' := hb1; try simp at hb1'
 have hb1 : a.length = b.length := by omega
 refine c4 (c3 (c6 (c5 (b7 rfl (b5 (i5 ?_)))))); refine v6 (β := Nat) ⟨fun k => k ≤ a.length ∧ a.take k = b.take k, fun k => [(0, .slice A a.length ca), (1, .slice B b.length cb), (5, int k)], fun _ => [], fun _ => [Row A (rows a), Row B (rows b)]⟩ (fun k => a.length - k) 0 ⟨Nat.zero_le _, rfl⟩ mC (.refl _) ⟨m0, m1, tK⟩ fun k hk => ?_; obtain ⟨hk, ht⟩ := hk; refine c6 (c5 (b3 rfl (b3 rfl ?_))); refine i7 rfl j6 rfl ?_; refine y5 rfl rfl rfl (b5 ?_)
 first | refine i6 rfl (fun hb2 => ?_) (fun hb2 => ?_) | refine c8 rfl (fun hb2 => ?_) (fun hb2 => ?_)
 ·have hb2' := hb2; try simp at hb2'
  have hb2 : k < a.length := by omega
  refine c4 (c3 (c6 (i5 (c6 ?_)))); refine G4 8 mixed (by decide) (by decide) rfl rfl (p8 rfl (p8 rfl (s7 (fun w1 => u6 (α := Mk) _ _ rfl j6 g0 rfl rfl rfl mB rfl (by omega) (by decide) (q_z rfl)) (s7 (fun w1 => v8 rfl j5 g0 rfl rfl (q9 mB (u1 (by omega))) (q_z rfl)) (p8 rfl (p8 rfl (s7 (fun w1 => u6 (α := Mk) _ _ rfl j6 g0 rfl rfl rfl mB rfl (by omega) (by decide) (q_z rfl)) (s7 (fun w1 => v8 rfl j5 g0 rfl rfl (q9 mB (u1 (by omega))) (q_z rfl)) ?_)))))))); refine A9 ⟨rfl, ?_⟩; refine I0 _ rfl rfl rfl (fun _ => nZ ..) (fun _ => nV ..) (b5 ?_)
  first | refine i6 rfl (fun hb3 => ?_) (fun hb3 => ?_) | refine c8 rfl (fun hb3 => ?_) (fun hb3 => ?_)
  ·have hb3' := hb3; try simp at hb3'
   have hb3 : ¬ a = b := ne_at (a := a) (b := b) (k := k) hb3; refine c5 (b7 rfl (b5 (i8 (y8 (r6 (y8 ?_)))))); exact ret1 () rfl (by rw [decide_eq_false hb3]; rfl) rfl tK (.refl _) tK
  have hb3' := hb3; try simp at hb3'
  have hb3 : a.getD k default = b.getD k default := Classical.not_not.1 hb3; refine c4 (u4 (c3 (c7 (b3 rfl ?_)))); refine w5 _ rfl rfl rfl rfl q8 ?_; refine b7 rfl (b6 ?_); exact again _ (k + 1) ⟨by omega, by rw [s9 a k hb2, s9 b k (by omega), ht, hb3]⟩ (by first | omega | (simp only; omega)) mC (.refl _) ⟨m0, m1, tK⟩
 have hb2' := hb2; try simp at hb2'
 have hb2 : k = a.length := by omega
 refine r9 (B2 (r8 (c3 (c5 (b7 rfl (b5 (i8 ?_))))))); exact ret1 () rfl (by rw [decide_eq_true (nT ht (by omega) (by omega))]; rfl) rfl tK (.refl _) tK
abbrev OutC := Option Addr × Nat
def outSl {α : Type} [El α] (l : List α) : Con OutC := { inv := fun x => l.length ≤ x.2, val := fun x => .slice x.1 l.length x.2, LO := fun x => [Row x.1 (rows l)] }
def dice (g : Nat) (A : Option Addr) (c : Nat) (nums : List Int) (s : Int × Int) : Nat × Obj := (g, .cells #[.slice A nums.length c, int s.1, .int .u64 s.2] dG (0, 0))
def DOK (nums : List Int) (s : Int × Int) : Prop := 0 ≤ s.1 ∧ s.1 ≤ nums.length ∧ 0 ≤ s.2 ∧ s.2 < 18446744073709551616
def diceCon {β : Type} (g : Nat) (A : Option Addr) (c : Nat) (nums : List Int) (s : Int × Int) (inv : β → Prop) (val : β → Value) (LO : β → List Fact) : Con ((Int × Int) × β) :=
  { hpI := [dice g A c nums s], LI := [Row A (rows nums)], inv := fun x => DOK nums x.1 ∧ inv x.2, val := fun x => val x.2, hpO := fun x => [dice g A c nums x.1], LO := fun x => LO x.2 }
theorem iH {g : Nat} {A : Option Addr} {c : Nat} {nums : List Int} {s : Int × Int} (hn : nums.length ≤ 9223372036854775807) (hs : DOK nums s) :
    Meets prog V4 [.pointer (n9 g)] (diceCon g A c nums s (fun z : Int => 0 ≤ z ∧ z < 18446744073709551616) (fun z => .int .u64 z) (fun _ => [])) := by
 obtain ⟨p, q⟩ := s; obtain ⟨h1, h2, h3, h4⟩ := hs; simp only at h1 h2 h3 h4; obtain ⟨pn, rfl⟩ := Int.eq_ofNat_of_zero_le h1; refine d5 lB rfl r4 fun w0 => ?_; refine c5 (b7 rfl (b5 (c6 ?_))); refine G4 11 mixed (by decide) (by decide) rfl rfl (p8 rfl (p8 rfl (s7 (fun w1 => l9 rfl rfl (q_z rfl)) ?_)))
 apply k9 _ rfl rfl rfl
 ·intro w1
  first | refine a8 ⟨_, 2, none⟩ rfl rfl d8 rfl ?_ | refine a8 _ rfl rfl d8 rfl ?_
  refine b6 ?_; exact h9 rfl
 apply k9 _ rfl rfl rfl
 ·intro w1
  first | refine a7 rfl k8 rfl (d4 mB rfl) ?_ | refine a7 rfl k8 rfl (d9 mB rfl) ?_ | refine a7 rfl k8 rfl (b9 mB (b4 (by omega) rfl)) ?_ | refine a7 rfl k8 rfl (b8 mB (rows_get (by omega) rfl)) ?_
  refine b6 ?_; exact h9 rfl
 refine p8 rfl (s7 (fun w1 => l9 rfl rfl (q_z rfl)) ?_)
 apply k9 _ rfl rfl rfl
 ·intro w1
  first | refine a8 ⟨_, 2, none⟩ rfl rfl d8 rfl ?_ | refine a8 _ rfl rfl d8 rfl ?_
  refine b6 ?_; exact h9 rfl
 apply k9 _ rfl rfl rfl
 ·intro w1
  first | refine a7 rfl k8 rfl (d4 mB rfl) ?_ | refine a7 rfl k8 rfl (d9 mB rfl) ?_ | refine a7 rfl k8 rfl (b9 mB (b4 (by omega) rfl)) ?_ | refine a7 rfl k8 rfl (b8 mB (rows_get (by omega) rfl)) ?_
  refine b6 ?_; exact h9 rfl
 refine s7 (fun w1 => I0 _ rfl rfl rfl (fun _ => rfl) (fun _ => rfl) (q_z rfl)) (s7 (fun w1 => I0 _ rfl rfl rfl (fun _ => rfl) (fun _ => rfl) (q_z rfl)) ?_); refine A9 ⟨rfl, ?_⟩; refine l9 rfl rfl ?_
 first | refine a8 ⟨_, 2, none⟩ rfl rfl d8 rfl ?_ | refine a8 _ rfl rfl d8 rfl ?_
 refine D4 rfl rfl J0 gE (by rfl) (by rfl) ?_; refine b5 (c6 ?_); refine G4 11 mixed (by decide) (by decide) rfl rfl (p8 rfl (p8 rfl (s7 (fun w1 => l9 rfl rfl (q_z rfl)) ?_)))
 apply k9 _ rfl rfl rfl
 ·intro w1
  first | refine a8 ⟨_, 2, none⟩ rfl rfl d8 rfl ?_ | refine a8 _ rfl rfl d8 rfl ?_
  refine b6 ?_; exact h9 rfl
 apply k9 _ rfl rfl rfl
 ·intro w1
  first | refine a7 rfl k8 rfl (d4 mB rfl) ?_ | refine a7 rfl k8 rfl (d9 mB rfl) ?_ | refine a7 rfl k8 rfl (b9 mB (b4 (by omega) rfl)) ?_ | refine a7 rfl k8 rfl (b8 mB (rows_get (by omega) rfl)) ?_
  refine b6 ?_; exact h9 rfl
 refine p8 rfl (s7 (fun w1 => l9 rfl rfl (q_z rfl)) ?_)
 apply k9 _ rfl rfl rfl
 ·intro w1
  first | refine a8 ⟨_, 2, none⟩ rfl rfl d8 rfl ?_ | refine a8 _ rfl rfl d8 rfl ?_
  refine b6 ?_; exact h9 rfl
 apply k9 _ rfl rfl rfl
 ·intro w1
  first | refine a7 rfl k8 rfl (d4 mB rfl) ?_ | refine a7 rfl k8 rfl (d9 mB rfl) ?_ | refine a7 rfl k8 rfl (b9 mB (b4 (by omega) rfl)) ?_ | refine a7 rfl k8 rfl (b8 mB (rows_get (by omega) rfl)) ?_
  refine b6 ?_; exact h9 rfl
 refine s7 (fun w1 => I0 _ rfl rfl rfl (fun _ => rfl) (fun _ => rfl) (q_z rfl)) (s7 (fun w1 => I0 _ rfl rfl rfl (fun _ => rfl) (fun _ => rfl) (q_z rfl)) ?_); refine A9 ⟨rfl, ?_⟩; refine l9 rfl rfl ?_
 first | refine a8 ⟨_, 2, none⟩ rfl rfl d8 rfl ?_ | refine a8 _ rfl rfl d8 rfl ?_
 refine D4 rfl rfl J0 gE (by rfl) (by rfl) ?_; refine b5 (c6 ?_); refine G4 11 mixed (by decide) (by decide) rfl rfl (p8 rfl (p8 rfl (s7 (fun w1 => l9 rfl rfl (q_z rfl)) ?_)))
 apply k9 _ rfl rfl rfl
 ·intro w1
  first | refine a8 ⟨_, 2, none⟩ rfl rfl d8 rfl ?_ | refine a8 _ rfl rfl d8 rfl ?_
  refine b6 ?_; exact h9 rfl
 apply k9 _ rfl rfl rfl
 ·intro w1
  first | refine a7 rfl k8 rfl (d4 mB rfl) ?_ | refine a7 rfl k8 rfl (d9 mB rfl) ?_ | refine a7 rfl k8 rfl (b9 mB (b4 (by omega) rfl)) ?_ | refine a7 rfl k8 rfl (b8 mB (rows_get (by omega) rfl)) ?_
  refine b6 ?_; exact h9 rfl
 refine p8 rfl (s7 (fun w1 => l9 rfl rfl (q_z rfl)) ?_)
 apply k9 _ rfl rfl rfl
 ·intro w1
  first | refine a8 ⟨_, 2, none⟩ rfl rfl d8 rfl ?_ | refine a8 _ rfl rfl d8 rfl ?_
  refine b6 ?_; exact h9 rfl
 apply k9 _ rfl rfl rfl
 ·intro w1
  first | refine a7 rfl k8 rfl (d4 mB rfl) ?_ | refine a7 rfl k8 rfl (d9 mB rfl) ?_ | refine a7 rfl k8 rfl (b9 mB (b4 (by omega) rfl)) ?_ | refine a7 rfl k8 rfl (b8 mB (rows_get (by omega) rfl)) ?_
  refine b6 ?_; exact h9 rfl
 refine s7 (fun w1 => I0 _ rfl rfl rfl (fun _ => rfl) (fun _ => rfl) (q_z rfl)) (s7 (fun w1 => I0 _ rfl rfl rfl (fun _ => rfl) (fun _ => rfl) (q_z rfl)) ?_); refine A9 ⟨rfl, ?_⟩; refine l9 rfl rfl ?_
 first | refine a8 ⟨_, 2, none⟩ rfl rfl d8 rfl ?_ | refine a8 _ rfl rfl d8 rfl ?_
 refine D4 rfl rfl J0 gE (by rfl) (by rfl) ?_; refine b5 (cH ?_); refine G4 9 mixed (by decide) (by decide) rfl rfl (p8 rfl (s7 (fun w1 => l9 rfl rfl (q_z rfl)) ?_))
 apply k9 _ rfl rfl rfl
 ·intro w1
  first | refine a8 ⟨_, 1, none⟩ rfl rfl s8 rfl ?_ | refine a8 _ rfl rfl s8 rfl ?_
  refine b6 ?_; exact h9 rfl
 apply k9 _ rfl rfl rfl
 ·intro w1
  first | refine a7 rfl a6 rfl (d4 mB rfl) ?_ | refine a7 rfl a6 rfl (d9 mB rfl) ?_ | refine a7 rfl a6 rfl (b9 mB (b4 (by omega) rfl)) ?_ | refine a7 rfl a6 rfl (b8 mB (rows_get (by omega) rfl)) ?_
  refine b6 ?_; exact h9 rfl
 refine p8 rfl (s7 (fun w1 => l9 rfl rfl (q_z rfl)) ?_)
 apply k9 _ rfl rfl rfl
 ·intro w1
  first | refine a8 ⟨_, 0, none⟩ rfl rfl B4 rfl ?_ | refine a8 _ rfl rfl B4 rfl ?_
  refine b6 ?_; exact h9 rfl
 apply k9 _ rfl rfl rfl
 ·intro w1
  first | refine a7 rfl y7 rfl (d4 mB rfl) ?_ | refine a7 rfl y7 rfl (d9 mB rfl) ?_ | refine a7 rfl y7 rfl (b9 mB (b4 (by omega) rfl)) ?_ | refine a7 rfl y7 rfl (b8 mB (rows_get (by omega) rfl)) ?_
  refine b6 ?_; exact h9 rfl
 refine s7 (fun w1 => i7 rfl r5 rfl (q_z rfl)) ?_; refine A9 ⟨rfl, ?_⟩; refine y5 rfl rfl rfl (b5 ?_)
 first | refine i6 rfl (fun hb1 => ?_) (fun hb1 => ?_) | refine c8 rfl (fun hb1 => ?_) (fun hb1 => ?_)
 ·have hb1' := hb1; try simp at hb1'
  refine c6 (G4 18 mixed (by decide) (by decide) rfl rfl (p8 rfl (p8 rfl (s7 (fun w1 => l9 rfl rfl (q_z rfl)) ?_))))
  apply k9 _ rfl rfl rfl
  ·intro w1
   first | refine a8 ⟨_, 2, none⟩ rfl rfl d8 rfl ?_ | refine a8 _ rfl rfl d8 rfl ?_
   refine b6 ?_; exact h9 rfl
  apply k9 _ rfl rfl rfl
  ·intro w1
   first | refine a7 rfl k8 rfl (d4 mB rfl) ?_ | refine a7 rfl k8 rfl (d9 mB rfl) ?_ | refine a7 rfl k8 rfl (b9 mB (b4 (by omega) rfl)) ?_ | refine a7 rfl k8 rfl (b8 mB (rows_get (by omega) rfl)) ?_
   refine b6 ?_; exact h9 rfl
  refine p8 rfl (s7 (fun w1 => l9 rfl rfl (q_z rfl)) ?_)
  apply k9 _ rfl rfl rfl
  ·intro w1
   first | refine a8 ⟨_, 0, none⟩ rfl rfl B4 rfl ?_ | refine a8 _ rfl rfl B4 rfl ?_
   refine b6 ?_; exact h9 rfl
  apply k9 _ rfl rfl rfl
  ·intro w1
   first | refine a7 rfl y7 rfl (d4 mB rfl) ?_ | refine a7 rfl y7 rfl (d9 mB rfl) ?_ | refine a7 rfl y7 rfl (b9 mB (b4 (by omega) rfl)) ?_ | refine a7 rfl y7 rfl (b8 mB (rows_get (by omega) rfl)) ?_
   refine b6 ?_; exact h9 rfl
  refine p8 rfl (s7 (fun w1 => l9 rfl rfl (q_z rfl)) ?_)
  apply k9 _ rfl rfl rfl
  ·intro w1
   first | refine a8 ⟨_, 1, none⟩ rfl rfl s8 rfl ?_ | refine a8 _ rfl rfl s8 rfl ?_
   refine b6 ?_; exact h9 rfl
  apply k9 _ rfl rfl rfl
  ·intro w1
   first | refine a7 rfl a6 rfl (d4 mB rfl) ?_ | refine a7 rfl a6 rfl (d9 mB rfl) ?_ | refine a7 rfl a6 rfl (b9 mB (b4 (by omega) rfl)) ?_ | refine a7 rfl a6 rfl (b8 mB (rows_get (by omega) rfl)) ?_
   refine b6 ?_; exact h9 rfl
  refine s7 (fun w1 => u6 (α := Int) _ pn rfl r5 w6 rfl rfl rfl m1 rfl (by omega) (by decide) (q_z rfl)) (s7 (fun w1 => a7 rfl a6 rfl (b9 mB (b4 (by omega) rfl)) (q_z rfl)) (s7 (fun w1 => tP _ rfl dH qE rfl rfl (q_z rfl)) (s7 (fun w1 => I0 _ rfl rfl rfl (fun _ => rfl) (fun _ => rfl) (q_z rfl)) (s7 (fun w1 => I0 _ rfl rfl rfl (fun _ => rfl) (fun _ => rfl) (q_z rfl)) ?_)))); refine A9 ⟨rfl, ?_⟩; refine l9 rfl rfl ?_
  first | refine a8 ⟨_, 2, none⟩ rfl rfl d8 rfl ?_ | refine a8 _ rfl rfl d8 rfl ?_
  refine D4 rfl rfl J0 gE (by rfl) (by rfl) ?_; refine b5 (c7 (b3 rfl (l9 rfl rfl ?_)))
  first | refine a8 ⟨_, 1, none⟩ rfl rfl s8 rfl ?_ | refine a8 _ rfl rfl s8 rfl ?_
  first | refine a7 rfl a6 rfl (d9 mB rfl) ?_ | refine a7 rfl a6 rfl (d4 mB rfl) ?_ | refine a7 rfl a6 rfl (b9 mB (b4 (by omega) rfl)) ?_ | refine a7 rfl a6 rfl (b8 mB (rows_get (by omega) rfl)) ?_
  refine w5 _ rfl rfl rfl rfl q8 (l9 rfl rfl ?_)
  first | refine a8 ⟨_, 1, none⟩ rfl rfl s8 rfl ?_ | refine a8 _ rfl rfl s8 rfl ?_
  refine D4 rfl rfl J0 w6 (by rfl) (by rfl) ?_; refine l7 (b3 rfl (l9 rfl rfl ?_))
  first | refine a8 ⟨_, 2, none⟩ rfl rfl d8 rfl ?_ | refine a8 _ rfl rfl d8 rfl ?_
  first | refine a7 rfl k8 rfl (d9 mB rfl) ?_ | refine a7 rfl k8 rfl (d4 mB rfl) ?_ | refine a7 rfl k8 rfl (b9 mB (b4 (by omega) rfl)) ?_ | refine a7 rfl k8 rfl (b8 mB (rows_get (by omega) rfl)) ?_
  refine b7 rfl (l7 (b3 rfl (b3 rfl ?_))); refine I0 _ rfl rfl rfl (fun _ => rfl) (fun _ => rfl) (I0 _ rfl rfl rfl (fun _ => rfl) (fun _ => rfl) (I0 _ rfl rfl rfl (fun _ => rfl) (fun _ => rfl) ?_)); refine b7 rfl (l7 (b3 rfl (b3 rfl ?_))); refine I0 _ rfl rfl rfl (fun _ => rfl) (fun _ => rfl) (I0 _ rfl rfl rfl (fun _ => rfl) (fun _ => rfl) ?_); refine b7 rfl (b5 (i8 ?_)); exact ret1 ((_, _), _) rfl rfl rfl ⟨⟨by simp only; omega, by simp only; omega, (wrapU _).1, (wrapU _).2⟩, wrapU _⟩ (.refl _) tK
 have hb1' := hb1; try simp at hb1'
 refine c4 (c3 (c5 (b3 rfl (l9 rfl rfl ?_))))
 first | refine a8 ⟨_, 2, none⟩ rfl rfl d8 rfl ?_ | refine a8 _ rfl rfl d8 rfl ?_
 first | refine a7 rfl k8 rfl (d9 mB rfl) ?_ | refine a7 rfl k8 rfl (d4 mB rfl) ?_ | refine a7 rfl k8 rfl (b9 mB (b4 (by omega) rfl)) ?_ | refine a7 rfl k8 rfl (b8 mB (rows_get (by omega) rfl)) ?_
 refine b7 rfl (l7 (b3 rfl (b3 rfl ?_))); refine I0 _ rfl rfl rfl (fun _ => rfl) (fun _ => rfl) (I0 _ rfl rfl rfl (fun _ => rfl) (fun _ => rfl) (I0 _ rfl rfl rfl (fun _ => rfl) (fun _ => rfl) ?_)); refine b7 rfl (l7 (b3 rfl (b3 rfl ?_))); refine I0 _ rfl rfl rfl (fun _ => rfl) (fun _ => rfl) (I0 _ rfl rfl rfl (fun _ => rfl) (fun _ => rfl) ?_); refine b7 rfl (b5 (i8 ?_)); exact ret1 ((_, _), _) rfl rfl rfl ⟨⟨by simp only; omega, by simp only; omega, (wrapU _).1, (wrapU _).2⟩, wrapU _⟩ (.refl _) tK
theorem ax7 {z n : Int} (hz : 0 ≤ z) (hn : 0 ≤ n) : 0 ≤ z.tmod (n + 1) ∧ z.tmod (n + 1) ≤ n := by
  have h1 := Int.tmod_nonneg (n + 1) hz; have h2 := Int.tmod_lt_of_pos z (show 0 < n + 1 by omega)
  omega
def ToInv (n z : Int) : Prop := 0 ≤ z ∧ (1 ≤ n → z ≤ n) ∧ (n < 1 → z = 0)
theorem A8 {g : Nat} {A : Option Addr} {c : Nat} {nums : List Int} {s : Int × Int} (n : Int) (hn : nums.length ≤ 9223372036854775807) (hs : DOK nums s) (hI : n ≤ 9223372036854775806) :
    Meets prog Y8 [.pointer (n9 g), int n] (diceCon g A c nums s (ToInv n) (fun z => int z) (fun _ => [])) := by
 refine d5 mX rfl r4 fun w0 => ?_; refine c5 (b7 rfl (b5 (c6 (c5 (b3 rfl (y5 rfl rfl rfl (b5 ?_)))))))
 first | refine i6 rfl (fun hb1 => ?_) (fun hb1 => ?_) | refine c8 rfl (fun hb1 => ?_) (fun hb1 => ?_)
 ·have hb1' := hb1; try simp at hb1'
  refine c5 (b7 rfl (b5 (C6 ?_))); exact ret1 (s, 0) rfl rfl rfl ⟨hs, by omega, by intro; omega, by intro; rfl⟩ (.refl _) tK
 have hb1' := hb1; try simp at hb1'
 refine c4 (c3 (c5 (b3 rfl ?_))); refine h8 iW rfl rfl (iH hn hs) (.refl _) ⟨m0, tK⟩ fun x hx => ?_; obtain ⟨s1, z⟩ := x; obtain ⟨hs1, hz⟩ := hx; simp only at hz; refine I0 _ rfl rfl rfl (fun _ => rfl) (fun _ => rfl) (b3 rfl (w5 _ rfl rfl rfl rfl q8 (tP (n + 1) rfl dH qE rfl (IntWalk.u64_in _ (by omega)) (r_rem rfl rfl rfl (by omega) ?_)))); have hm := ax7 (z := z.fdiv (2 ^ min (Int.toNat 16) IntKind.u64.bits)) (n := n) (Int.fdiv_nonneg hz.1 (by decide)) (by omega); refine tP ((z.fdiv (2 ^ min (Int.toNat 16) IntKind.u64.bits)).tmod (n + 1)) rfl qE dH rfl (IntWalk.i64_in ((z.fdiv (2 ^ min (Int.toNat 16) IntKind.u64.bits)).tmod (n + 1)) (by omega)) ?_; refine b7 rfl (b5 (i8 ?_)); exact ret1 (s1, _) rfl rfl rfl ⟨hs1, hm.1, fun _ => hm.2, fun h => by omega⟩ (.refl _) tK
theorem L6 {g : Nat} {A : Option Addr} {c : Nat} {nums : List Int} {s : Int × Int} (n : Int) (hn : nums.length ≤ 9223372036854775807) (hs : DOK nums s) (hI : 0 ≤ n ∧ n ≤ 9223372036854775806) :
    Meets prog S2 [.pointer (n9 g), int n] (diceCon g A c nums s (fun _ : Bool => True) (fun z => .bool z) (fun _ => [])) := by
 refine d5 iY rfl r4 fun w0 => ?_; refine c5 (b7 rfl (l7 (b3 rfl (b3 rfl ?_)))); refine J4 _ rfl rfl rfl rfl q8 (h8 B0 rfl rfl (A8 (n - 1) hn hs (by omega)) (.refl _) ⟨m0, tK⟩ fun x hx => ?_); obtain ⟨s1, z⟩ := x; obtain ⟨hs1, hz⟩ := hx; simp only [ToInv] at hz; refine D9 rfl rfl rfl (b7 rfl (b5 (i8 ?_))); exact ret1 (s1, _) rfl rfl rfl ⟨hs1, tK⟩ (.refl _) tK
theorem V6 {g : Nat} {A B : Option Addr} {c cb : Nat} {nums : List Int} {s : Int × Int} (l : List Str) (hn : nums.length ≤ 9223372036854775807) (hs : DOK nums s) (hl : 0 < l.length) (hl2 : l.length ≤ 1000) :
    Meets prog S1 [.pointer (n9 g), .slice B l.length cb] { diceCon g A c nums s (fun x : Str => x ∈ l) (fun z => str z) (fun _ => []) with LI := [Row A (rows nums), Row B (rows l)] } := by
 refine d5 iX rfl r4 fun w0 => ?_; refine c5 (b7 rfl (l7 (b3 rfl (b3 rfl (b3 rfl ?_))))); refine i7 rfl j7 rfl (J4 _ rfl rfl rfl rfl q8 (h8 B0 rfl rfl (A8 ((l.length : Int) - 1) hn hs (by omega)) (.refl _) ⟨m0, tK⟩ fun x hx => ?_)); obtain ⟨s1, z⟩ := x; obtain ⟨hs1, hz⟩ := hx; simp only [ToInv] at hz; obtain ⟨zn, rfl⟩ := Int.eq_ofNat_of_zero_le hz.1
 have hzl : zn < l.length := by
   by_cases h1 : 1 ≤ (l.length : Int) - 1
   · have := hz.2.1 h1; omega
   have := hz.2.2 (by omega); omega
 refine u6 (α := Str) _ _ rfl j7 q7 rfl rfl rfl mB rfl (by omega) (by decide) (a7 rfl d6 rfl (b9 mB (b4 (by omega) rfl)) ?_); refine b7 rfl (b5 (i8 ?_)); exact ret1 (s1, l.getD zn default) rfl rfl rfl ⟨hs1, by simp [List.getD_eq_getElem?_getD, hzl]⟩ (.refl _) tK
def lineWords : List Str := [[97], [98], [99], [97, 110, 32, 49], [98, 101, 110], [99, 121, 100, 32, 49, 50]]
def PageOK (l : List Str) : Prop := ∀ s ∈ l, s ∈ lineWords
end Go.Proofs.YtpihanmcnmlodaaGreatDoor
end
section
namespace Go.W
open Go Go.RowKit
/-! ### The first of a list of slices -/
theorem xR {α : Type} [El α] {b : Bx} {hp : Hp} {L : List Fact} {w : World} {A : Option Addr} {ps : List (Sl α)} (n : Nat) (h : Rows2 A ps ∈ L) (hw : WI b w hp L) : WI b w hp (Rows2 A (ps.take n) :: L) := by
  have h1 := hw.fs _ h; refine S6 hw ⟨fun j u hu => ?_, fun p hp => h1.2 p (List.mem_of_mem_take hp)⟩ (fun k hk => ⟨_, h, ?_⟩)
  · refine h1.1 j u ?_
    rw [← gG] at hu; rw [List.getElem?_take] at hu
    split at hu
    · exact hu
    cases hu
  rcases hk with ⟨ad, e, hb, hne⟩ | ⟨p, hp, hk⟩
  · exact .inl ⟨ad, e, hb, fun e => hne (by rw [← gG, e]; simp)⟩
  exact .inr ⟨p, List.mem_of_mem_take hp, hk⟩
theorem dq0 {α : Type} [El α] {c : Cx} {Q : Exit → Act → World → Prop} {fr : Fr} {hp : Hp} {L : List Fact} {ops : Array Oper} {rest : List Oper} {A : Option Addr} {ps : List (Sl α)} (n : Nat) (h : Rows2 A ps ∈ L) (k : HL c ops Q rest fr hp (Rows2 A (ps.take n) :: L)) : HL c ops Q rest fr hp L := fun a w ha hw => k a w ha (xR n h hw)
theorem bz9 {α : Type} [El α] {b : Bx} {hp : Hp} {L : List Fact} {w : World} {A : Option Addr} {ps : List (Sl α)} (h : Row A (rows ps) ∈ L) (h2 : ∀ p ∈ ps, Row p.a (rows p.l) ∈ L) (hw : WI b w hp L) : WI b w hp (Rows2 A ps :: L) :=
  S6 hw ⟨hw.fs _ h, fun p hp => hw.fs _ (h2 p hp)⟩ (fun k hk => by
    rcases hk with hk | ⟨p, hp, hk⟩
    · exact ⟨_, h, hk⟩
    exact ⟨_, h2 p hp, hk⟩)
section
variable {α : Type} [El α] {c : Cx} {Q : Exit → Act → World → Prop} {fr : Fr} {hp : Hp} {L : List Fact} {ops : Array Oper} {rest : List Oper} {A : Option Addr} {ps : List (Sl α)}
theorem kH (h : Row A (rows ps) ∈ L) (h2 : ∀ p ∈ ps, Row p.a (rows p.l) ∈ L) (k : HL c ops Q rest fr hp (Rows2 A ps :: L)) : HL c ops Q rest fr hp L := fun a w ha hw => k a w ha (bz9 h h2 hw)
end
/-! ### Facts that follow from the world; nil -/
section
variable {c : Cx} {Q : Exit → Act → World → Prop} {fr : Fr} {hp : Hp} {L : List Fact} {ops : Array Oper} {rest : List Oper}
variable {d : Tmp} {ty : TypeId} {pos : String} {af : Array Edge}
end
/-! ### A store into a slice of the call's own -/
theorem Grow.open_ {e : TypeId} {sz n cap : Nat} {A : Option Addr} {xs : List Value} {og : Hp} (h : Grow e sz A n cap xs og) (hn : 0 < n) : ∃ g cur, A = some ⟨g, 0, none⟩ ∧ og = [(g, Obj.cells cur e (0, 0))] ∧ n ≤ cap ∧ cap ≤ maxLen ∧ cur.size = cap * sz ∧ cur.toList.take (n * sz) = xs ∧ xs.length = n * sz := by
  rcases h with ⟨hl, ⟨_, h, _⟩ | ⟨g, cur, h1, h2, h3, h4, h5, h6⟩⟩
  · omega
  exact ⟨g, cur, h1, h2, h3, h4, h5, h6, hl⟩
theorem lO {α : Type} [El α] (h1 : El.sz α = 1) (v : Value) (a : α) (hv : El.cells a = [v]) : ∀ (l : List α) (k : Nat), (rows l).set k v = rows (l.set k a)
  | [], k => by simp [dM]
  | b :: l, 0 => by
    have hb : ∃ u, El.cells b = [u] := by
      have := El.len b; rw [h1] at this; exact List.length_eq_one_iff.1 this
    obtain ⟨u, hu⟩ := hb; rw [List.set_cons_zero, I2, I2, hu, hv]
    rfl
  | b :: l, k + 1 => by
    have hb : ∃ u, El.cells b = [u] := by
      have := El.len b; rw [h1] at this; exact List.length_eq_one_iff.1 this
    obtain ⟨u, hu⟩ := hb; rw [List.set_cons_succ, I2, I2, hu, ← lO h1 v a hv l k]
    rfl
theorem Grow.set {α : Type} [El α] {e : TypeId} {cap g k : Nat} {cur : Array Value} {l : List α} {v : Value} {a : α} (h1 : El.sz α = 1) (hv : El.cells a = [v]) (h3 : l.length ≤ cap) (h4 : cap ≤ maxLen) (h5 : cur.size = cap * 1) (h6 : cur.toList.take (l.length * 1) = rows l) :
    Grow e 1 (n9 g) l.length cap (rows (l.set k a)) [(g, Obj.cells (cur.setIfInBounds k v) e (0, 0))] := by
  refine ⟨by rw [O8, h1, List.length_set], .inr ⟨g, _, rfl, rfl, h3, h4, by simpa using h5, ?_⟩⟩; rw [← lO h1 v a hv, ← h6, Array.toList_setIfInBounds, List.take_set]
/-! ### make -/
/-! ### Scopes and labels -/
section
variable {Q : Exit → Act → World → Prop} {fr : Fr} {hp : Hp} {L : List Fact}
end
/-! ### A loop's yield -/
def recL (fn : FuncId) (tmps : Array Value) (ps : Array Tmp) (assign body : Code) (d : Nat) (j : Option Code) : Loop := { state := if j.isNone then .ready else .done, pending := j, fn, tmps, params := ps, assign, body, defers := d }
def recB (fn : FuncId) (tmps : Array Value) (ps : Array Tmp) (assign body : Code) (d : Nat) : Loop := { state := .busy, pending := none, fn, tmps, params := ps, assign, body, defers := d }
def yieldV (l : Nat) : Value := .func (.yield l) #[] #[]
def MeetsY (P : Program) (l : Nat) (args : List Value) {β : Type} (k : Con β) : Prop :=
  ∀ w, WI (k.entry w) w k.hpI k.LI → ∃ f tmps assign body, (Instr.yield l args.toArray).run P w = .ok (.round l f tmps assign body) w ∧ RoundIn Fence.wide 0 P l f tmps assign body w (k.post w)
theorem evals {n : Cx} {a : Act} {fr : Fr} (ha : Ok n a fr) : ∀ (xs : List Operand) (vs : List Value), xs.mapM (ev fr) = some vs → xs.map a.eval = vs := by
  intro xs
  induction xs with
  | nil => intro vs h; simpa using h
  | cons x xs ih =>
    intro vs h; simp only [List.mapM_cons, Option.bind_eq_bind, Option.bind_eq_some_iff, Option.pure_def, Option.some.injEq] at h; obtain ⟨v, hv, us, hus, rfl⟩ := h; rw [List.map_cons, ha.ev hv, ih us hus]
section
variable {c : Cx} {Q : Exit → Act → World → Prop} {fr : Fr} {hp : Hp} {L : List Fact} {ops : Array Oper} {rest : List Oper}
variable {d : Tmp} {ty : TypeId} {pos : String} {af : Array Edge}
theorem dj9 {l : Nat} {x : Operand} {aS9 : Array Operand} {ats : Array TypeId} {vs : List Value} {β : Type} {k : Con β} {hpR : Hp} (hd : Nat.blt d c.n = true) (hf : ev fr x = some (yieldV l)) (hx : aS9.toList.mapM (ev fr) = some vs)
    (hm : MeetsY c.P l vs k) (h1 : hp.Perm (k.hpI ++ hpR)) (h2 : LSub L k.LI) (kk : ∀ x, k.inv x → HL c ops Q rest ((d, k.val x) :: fr) (k.hpO x ++ hpR) (k.LO x ++ L)) :
    HL c ops Q (⟨some d, .call ⟨.value x, aS9, ats⟩, ty, pos, af, none⟩ :: rest) fr hp L := by
  intro a w ha hw; refine xD rfl (.inr ⟨rfl, ?_⟩); have e1 : aS9.map a.eval = vs.toArray := by apply Array.ext'; simpa using evals ha _ _ hx
  obtain ⟨f, tmps, assign, body, h3, h4⟩ := hm w (hw.entry h1 h2.mem); refine ⟨l, f, tmps, assign, body, ?_, h4.mono fun e w' hp => ?_⟩
  · show ((do let dd ← resolve a.eval ⟨.value x, aS9, ats⟩ ty; invoke dd.target dd.args) : Sem Next).run c.P w = _
    simp only [resolve, ha.ev hf, yieldV, e1, Deferred.ofValue, Sem.run_bind, Sem.run_pure, Result.andThen_ok, invoke]
    simpa using h3
  obtain ⟨x, rfl, hi, hwi⟩ := hp; exact ⟨_, rfl, kk x hi _ _ (ha.put (by simpa using hd) _) (hw.back h1 h2.mem hwi)⟩
end
def setAll (ps : List (Tmp × Value)) (fr : Fr) : Fr := ps.foldl (fun fr p => p :: fr) fr
theorem sD : ∀ (ps : List (Tmp × Value)) (tmps : Array Value) (fr : Fr), (∀ p ∈ ps, p.1 < tmps.size) → (∀ t v, lk fr t = some v → tmps.getD t undef = v) →
    (ps.foldl (fun tmps p => tmps.setIfInBounds p.1 p.2) tmps).size = tmps.size ∧ ∀ t v, lk (setAll ps fr) t = some v → (ps.foldl (fun tmps p => tmps.setIfInBounds p.1 p.2) tmps).getD t undef = v
  | [], tmps, fr, _, h => ⟨rfl, h⟩
  | (p, u) :: ps, tmps, fr, hlt, h => by
    have h1 := sD ps (tmps.setIfInBounds p u) ((p, u) :: fr) (fun q hq => by simpa using hlt q (by simp [hq])) (fun t v hv => by
      rw [y0] at hv; have hp : p < tmps.size := hlt (p, u) (by simp)
      by_cases e : p = t
      · subst e
        simp at hv
        subst hv
        simp [hp]
      rw [if_neg e] at hv; have := h t v hv
      simpa [Array.getElem?_setIfInBounds_ne e] using this)
    exact ⟨by simpa using h1.1, h1.2⟩
def BeginQ (c : Cx) (l : Nat) (body : Code) (Q : Exit → Act → World → Prop) (a : Act) (w : World) : Prop :=
  ∃ w2, (Instr.beginRound l).run c.P w = .ok () w2 ∧ body.wpIn (FF c.rd) 0 c.P Q a w2
theorem WI.putObj {b : Bx} {w : World} {hp : Hp} {L : List Fact} {g : Nat} {o : Obj} (o' : Obj) (h : WI b w ((g, o) :: hp) L) : WI b (w.putObj g o') ((g, o') :: hp) L :=
  h.write ⟨rfl, rfl, rfl, by simp, fun k _ hn => World.putObj_heap_other (by simpa using hn), Nat.le_refl _⟩ (World.putObj_heap_same (D1 (h.own (g, o) (by simp))))
section
variable {c : Cx} {fr : Fr} {hp : Hp} {L : List Fact} {fn : FuncId} {tmps : Array Value} {ps : Array Tmp} {assign body : Code} {d l : Nat} {β : Type} {k : Con β} {w0 : World}
theorem xO {Q : Exit → Act → World → Prop} {hp' : Hp} (hpp : hp.Perm ((l, .loop (recL fn tmps ps assign body d none)) :: hp')) (h : HC c body Q fr ((l, .loop (recB fn tmps ps assign body d)) :: hp') L) : HQ c (Exit.then (BeginQ c l body Q) (fun _ _ _ => False)) .normal fr hp L := by
  intro a w ha hw; have hw' := hw.perm hpp; have hl := hw'.own (l, .loop (recL fn tmps ps assign body d none)) (by simp); exact ⟨_, run_beginRound hl rfl, h a _ ha (hw'.putObj _)⟩
theorem rp_end {hp' : Hp} (x : β) (j : Option Code) (hpp : hp.Perm ((l, .loop (recB fn tmps ps assign body d)) :: hp')) (hb : c.b = k.entry w0) (hv : k.val x = .bool j.isNone) (hi : k.inv x) (h2 : (k.hpO x).Sublist ((l, .loop (recL fn tmps ps assign body d j)) :: hp')) (h3 : LSub L (k.LO x)) {a : Act} {w : World} (hw : WI c.b w hp L) :
    ∃ v w', (Instr.endRound l j).run c.P w = .ok v w' ∧ (k.post w0) (.returned v) w' := by
  have hw' := hw.perm hpp; have hl := hw'.own (l, .loop (recB fn tmps ps assign body d)) (by simp); exact ⟨_, _, run_endRound j hl, x, by rw [hv], hi, hb ▸ (hw'.putObj _).weak h2 h3.mem⟩
theorem rp_n {hp' : Hp} (x : β) (hpp : hp.Perm ((l, .loop (recB fn tmps ps assign body d)) :: hp')) (hb : c.b = k.entry w0) (hv : k.val x = .bool true) (hi : k.inv x) (h2 : (k.hpO x).Sublist ((l, .loop (recL fn tmps ps assign body d none)) :: hp')) (h3 : LSub L (k.LO x)) : HQ c (roundPost c.P l (k.post w0)) .normal fr hp L :=
  fun a w _ hw => rp_end (a := a) x none hpp hb hv hi h2 h3 hw
end
theorem tS {β : Type} {P : Program} {l n d : Nat} {args : List Value} {k : Con β} {fn : FuncId} {tmps : Array Value} {ps : Array Tmp} {assign body : Code} {fr : Fr} (hI : (l, Obj.loop (recL fn tmps ps assign body d none)) ∈ k.hpI)
    (hsz : tmps.size = n) (hfr : ∀ t v, lk fr t = some v → tmps.getD t undef = v) (hlen : args.length = ps.size) (hps : ∀ t ∈ ps, t < n)
    (h : ∀ w, HC ⟨P, n, k.entry w, [], some l⟩ assign (Exit.then (BeginQ ⟨P, n, k.entry w, [], some l⟩ l body (roundPost P l (k.post w))) (fun _ _ _ => False)) (setAll (ps.toList.zip args) fr) k.hpI k.LI) : MeetsY P l args k := by
  intro w hw; have hl := hw.own _ hI; refine ⟨_, _, _, _, run_yield hl (by simpa [recL] using hlen), ?_⟩
  have h1 := sD (ps.toList.zip args) tmps fr (fun p hp => by
    have := List.of_mem_zip hp; rw [hsz]
    exact hps _ (by simpa using this.1)) hfr
  have e : ((ps.zip args.toArray).foldl (fun tmps (x : Tmp × Value) => tmps.setIfInBounds x.1 x.2) tmps) = (ps.toList.zip args).foldl (fun tmps p => tmps.setIfInBounds p.1 p.2) tmps := by
    rw [← Array.foldl_toList]
    simp
  refine roundIn_of_wpIn tK ?_; refine h w _ w ⟨rfl, ?_, fun t v hv => ?_⟩ hw
  · exact (congrArg Array.size e).trans (h1.1.trans hsz)
  have := h1.2 t v hv; rw [← e] at this; exact this
/-! ### The statement -/
def markOf (d : Nat) : Deferred := { target := .collected d, args := #[] }
theorem tW {P : Program} {n : Nat} {b : Bx} {D : List Deferred} {Q : Exit → Act → World → Prop} {fr : Fr} {hp hpR : Hp} {L : List Fact} {g : Operand} {ps : Array Tmp} {assign body : Code} {f : Nat} {cap : List Value} {β : Type}
    (R : Hp) (LI : List Fact) (inv : β → Prop) (val : β → Value) (pend : β → Option Code) (RO : β → Hp) (LO : β → List Fact)
    (hg : ev fr g = some (.func (.func f) #[] cap.toArray)) (hcb : Callable P f) (hpp : hp.Perm (R ++ hpR)) (hL : LSub L LI)
    (hm : ∀ l d fn tmps, tmps.size = n → (∀ t v, lk fr t = some v → tmps.getD t undef = v) →
      Meets P f (yieldV l :: cap) ({ hpI := (l, .loop (recL fn tmps ps assign body d none)) :: R, LI := LI, inv := inv, val := val, hpO := fun x => (l, .loop (recL fn tmps ps assign body d (pend x))) :: RO x, LO := LO } : Con β))
    (k1 : ∀ x d, inv x → pend x = none → HQ ⟨P, n, b, markOf d :: D, none⟩ Q .normal fr ((d, .deferred (some [])) :: (RO x ++ hpR)) (LO x ++ L))
    (k2 : ∀ x d j, inv x → pend x = some j → HC ⟨P, n, b, markOf d :: D, none⟩ j Q fr ((d, .deferred (some [])) :: (RO x ++ hpR)) (LO x ++ L)) :
    HC ⟨P, n, b, D, none⟩ (.rangeFunc g ps assign body) Q fr hp L := by
  intro a w ha hw; have hsz : a.tmps.size = n := ha.sz; have hwa := (hw.perm hpp).alloc (.deferred (some [])); refine wpIn_rangeFunc fun fn _ => ?_; have hwb := hwa.alloc (.loop (recL fn a.tmps ps assign body w.heap.size none)); have hs1 : (w.alloc (.deferred (some []))).heap.size = w.heap.size + 1 := by simp
  rw [hs1] at hwb; have hno : (FF none).depth.isSome = true → 1 ≤ 0 := fun h => by cases h
  let W2 := (w.alloc (.deferred (some []))).alloc (.loop (recL fn a.tmps ps assign body w.heap.size none))
  refine ⟨w.heap.size + 1, [markOf w.heap.size], W2, ⟨.fn (.func f) cap.toArray, #[] ++ #[yieldV (w.heap.size + 1)]⟩, W2, f, #[yieldV (w.heap.size + 1)] ++ cap.toArray, W2, run_enterLoop_outer fn a.tmps ps assign body, ?_, fun _ _ => trivial, ?_, hno, ?_⟩
  · have e1 := ha.ev hg
    have e2 : a.eval (.const (.func (.yield (w.heap.size + 1)) #[] #[])) = yieldV (w.heap.size + 1) := rfl; simp only [rangeCall, resolve, e1, e2, Deferred.ofValue, List.map_toArray, List.map_cons, List.map_nil, Sem.run_pure]
  · have e3 : (#[] ++ #[yieldV (w.heap.size + 1)] ++ cap.toArray : Array Value) = #[yieldV (w.heap.size + 1)] ++ cap.toArray := by simp
    simp only [invoke, e3]; exact hcb.run _ _
  have hmm := hm (w.heap.size + 1) w.heap.size fn a.tmps hsz ha.at_
  let kk : Con β := { hpI := (w.heap.size + 1, .loop (recL fn a.tmps ps assign body w.heap.size none)) :: R, LI := LI, inv := inv, val := val, hpO := fun x => (w.heap.size + 1, .loop (recL fn a.tmps ps assign body w.heap.size (pend x))) :: RO x, LO := LO }
  have hperm : ((w.heap.size + 1, Obj.loop (recL fn a.tmps ps assign body w.heap.size none)) :: (w.heap.size, Obj.deferred (some [])) :: (R ++ hpR)).Perm (kk.hpI ++ ((w.heap.size, Obj.deferred (some [])) :: hpR)) := by
    refine E7 fun p => ?_; simp only [kk, List.cons_append, List.countP_cons, List.countP_append]
    omega
  have hc := hmm _ (WI.entry (k := kk) hwb hperm hL.mem); have e4 : (#[yieldV (w.heap.size + 1)] ++ cap.toArray : Array Value) = (yieldV (w.heap.size + 1) :: cap).toArray := by simp
  rw [e4]; refine wO (hc.mono fun e w3 hpo => ?_); obtain ⟨x, rfl, hi, hwi⟩ := hpo; have hwi2 := WI.back (k := kk) (x := x) hwb hperm hL.mem hwi; have hl := hwi2.own (w.heap.size + 1, .loop (recL fn a.tmps ps assign body w.heap.size (pend x))) (by simp [kk])
  have hwi3 : WI b (w3.putObj (w.heap.size + 1) (.loop { recL fn a.tmps ps assign body w.heap.size (pend x) with state := .exhausted })) ((w.heap.size, .deferred (some [])) :: (RO x ++ hpR)) (LO x ++ L) := by
    have h5 := WI.putObj (.loop { recL fn a.tmps ps assign body w.heap.size (pend x) with state := .exhausted }) (by simpa [kk] using hwi2); refine (h5.weak (List.sublist_cons_self _ _) (fun _ h => h)).perm (E7 fun p => ?_); simp only [List.countP_cons, List.countP_append]
    omega
  have hend : (Instr.endLoop (w.heap.size + 1)).run P w3 = .ok (pend x) _ := run_endLoop hl (by show (if (pend x).isNone = true then LoopState.ready else LoopState.done) ≠ .busy; split <;> simp); refine ⟨pend x, _, hend, ?_⟩; have hok : Ok ⟨P, n, b, markOf w.heap.size :: D, none⟩ { a with defers := [markOf w.heap.size] ++ a.defers } fr := ⟨by show markOf w.heap.size :: a.defers = _; rw [ha.d], ha.sz, ha.at_⟩
  cases hpx : pend x with
  | none =>
    rw [hpx] at hwi3; exact k1 x w.heap.size hi hpx _ _ hok hwi3
  | some j =>
    rw [hpx] at hwi3; exact k2 x w.heap.size j hi hpx _ _ hok hwi3
/-! ### Functions that leave with marks -/
theorem tT {β : Type} {P : Program} {f : Nat} {args : List Value} {k : Con β} {fn : Func} {code : Code} (hf : P.funcs[f]? = some fn) (hb : fn.body = some code) (hn : args.length ≤ fn.ntmps)
    (h : ∀ w, HC ⟨P, fn.ntmps, k.entry w, [], none⟩ code (bodyPostM Fence.wide 0 P fn (k.post w)) (argFr 0 args) k.hpI k.LI) : Meets P f args k := by
  intro w hw; refine callsIn_wide.1 (callsIn_of_wp_marks (n := 0) hf hb tK (h w _ w ⟨rfl, by simp; omega, fun t v hv => ?_⟩ hw)); obtain ⟨_, h2⟩ := qX args 0 t v hv; simp only [Nat.sub_zero] at h2
  have hlt : t < args.length := by
    rcases Nat.lt_or_ge t args.length with h' | h'
    · exact h'
    rw [List.getElem?_eq_none h'] at h2; cases h2
  rw [List.getElem?_eq_getElem hlt] at h2
  injection h2 with h2
  simp [Array.getElem?_append, hlt, h2]
def shutM (ds : List Nat) : Hp := ds.map fun d => (d, Obj.deferred (some []))
theorem kC {c : Cx} {β : Type} {k : Con β} {fn : Func} {w0 : World} {tmps : Array Value} {hp' : Hp} {L : List Fact} (x : β)
    (hr : ∀ w, WI c.b w hp' L → (results fn tmps).run c.P w = .ok (k.val x) w) (hb : c.b = k.entry w0) (hi : k.inv x) (h2 : (k.hpO x).Sublist hp') (h3 : LSub L (k.LO x)) :
    ∀ (ds : List Nat) (w : World), WI c.b w (shutM ds ++ hp') L → LeavesInM Fence.wide 0 c.P fn tmps (k.post w0) (ds.map markOf) .returning w
  | [], w, hw => ⟨k.val x, hr w hw, x, rfl, hi, hb ▸ hw.weak h2 h3.mem⟩
  | d :: ds, w, hw => by
    have hw' : WI c.b w ((d, Obj.deferred (some [])) :: (shutM ds ++ hp')) L := hw; have ho := hw'.own (d, Obj.deferred (some [])) (by simp); refine ⟨by simp, .inl ⟨d, _, rfl, run_takeDeferred ho, ?_⟩⟩; exact kC x hr hb hi h2 h3 ds _ ((hw'.putObj _).weak (List.sublist_cons_self _ _) fun _ h => h)
theorem ax1 {c : Cx} {fr : Fr} {hp hp' : Hp} {L : List Fact} {β : Type} {k : Con β} {fn : Func} {w0 : World} (ds : List Nat) (x : β) (hD : c.D = ds.map markOf) (hpp : hp.Perm (shutM ds ++ hp'))
    (hr : ∀ (a : Act) w, a.tmps.size = c.n → (∀ t v, lk fr t = some v → a.tmps.getD t undef = v) → WI c.b w hp' L → (results fn a.tmps).run c.P w = .ok (k.val x) w) (hb : c.b = k.entry w0) (hi : k.inv x) (h2 : (k.hpO x).Sublist hp') (h3 : LSub L (k.LO x)) :
    HQ c (bodyPostM Fence.wide 0 c.P fn (k.post w0)) .ret fr hp L := fun a w ha hw => by
  show LeavesInM Fence.wide 0 c.P fn a.tmps (k.post w0) a.defers .returning w; rw [ha.d, hD]; exact kC x (fun w hw => hr a w ha.sz ha.at_ hw) hb hi h2 h3 ds w (hw.perm hpp)
end Go.W
end
section
namespace Go.W
open Go Go.RowKit
section
variable {c : Cx} {Q : Exit → Act → World → Prop} {fr : Fr} {hp : Hp} {L : List Fact} {ops : Array Oper} {rest : List Oper}
variable {α : Type} [El α]
abbrev innerF (ps : List (Sl α)) : Fact := Facts (ps.map fun p => Row p.a (rows p.l))
end
end Go.W
end
section
namespace Go.W
open Go Go.RowKit
def notI (dd : TypeDesc) : Bool := match dd with | .interface _ => false | _ => true
def NoI (P : Program) (t : TypeId) : Prop := ∃ dd, P.underlying t = some dd ∧ notI dd = true
section
variable {c : Cx} {Q : Exit → Act → World → Prop} {fr : Fr} {hp : Hp} {L : List Fact} {ops : Array Oper} {rest : List Oper}
variable {d : Tmp} {ty : TypeId} {pos : String} {af : Array Edge}
/-! ### Interfaces -/
/-! ### Three results -/
/-! ### Strings that are ranged over -/
abbrev iter (s : Str) (p : Nat) : Obj := .stringIter ⟨s.toArray⟩ p
theorem vD {t : TypeId} {x : Operand} {s : Str} (hd : Nat.blt d c.n = true) (ht : c.P.underlying t = some .string) (hx : ev fr x = some (str s)) (k : ∀ g, HL c ops Q rest ((d, .pointer (n9 g)) :: fr) ((g, iter s 0) :: hp) L) : HL c ops Q (⟨some d, .range t x, ty, pos, af, none⟩ :: rest) fr hp L :=
  mA (iter s 0) (fun g => .pointer (n9 g)) rfl rfl hd (fun a w ha _ => by
    simp only [execOp, ha.ev hx, Instr.range, Sem.run_bind, run_underlying ht, Result.andThen_ok, str]
    simp [run_newObj_alloc]) k
theorem sE {P : Program} {w : World} {g : Nat} {s : ByteArray} {p : Nat} (h : w.heap[g]? = some (.stringIter s p)) : (getObj g).run P w = .ok (.stringIter s p) w := by simp [getObj, Sem.run, h]
theorem aq9 {P : Program} {w : World} {g : Nat} {s : ByteArray} {p : Nat} (h : w.heap[g]? = some (.stringIter s p)) (o : Obj) : (setObj g o).run P w = .ok () { w with heap := w.heap.setIfInBounds g o } := by
  have hlt : g < w.heap.size := D1 h
  simp [setObj, Sem.run, h]
theorem vB (s : Str) : (ByteArray.mk s.toArray).size = s.length := rfl
theorem xW {x : Operand} {s : Str} {g p : Nat} (hd : Nat.blt d c.n = true) (hx : ev fr x = some (.pointer (n9 g))) (hm : (g, iter s p) ∈ hp) (hp1 : s.length ≤ p) (k : HL c ops Q rest ((d, .tuple #[.bool false]) :: fr) hp L) : HL c ops Q (⟨some d, .next x true, ty, pos, af, none⟩ :: rest) fr hp L :=
  u0 _ rfl rfl hd (fun a w ha hw => by
    have h := hw.own _ hm; simp only at h; simp only [execOp, ha.ev hx, Instr.next, Sem.run_bind, sE h, Result.andThen_ok, vB]; rw [if_neg (by omega)]
    rfl) k
def nextV (s : Str) (p : Nat) : Value := if p < s.length then .tuple #[.bool true, int p, .int .i32 ((Utf8.decode ⟨s.toArray⟩ p).1 : Nat)] else .tuple #[.bool false]
def nextP (s : Str) (p : Nat) : Nat := if p < s.length then p + (Utf8.decode ⟨s.toArray⟩ p).2 else p
theorem xX {x : Operand} {s : Str} {g p : Nat} {hp' : Hp} {r wd : Nat} (hd : Nat.blt d c.n = true) (hx : ev fr x = some (.pointer (n9 g))) (hpp : hp.Perm ((g, iter s p) :: hp')) (hp1 : p < s.length) (hdec : Utf8.decode ⟨s.toArray⟩ p = (r, wd)) (k : HL c ops Q rest ((d, .tuple #[.bool true, int p, .int .i32 r]) :: fr) ((g, iter s (p + wd)) :: hp') L) : HL c ops Q (⟨some d, .next x true, ty, pos, af, none⟩ :: rest) fr hp L :=
  iJ rfl rfl hd fun a w ha hw => by
    have hw' := hw.perm hpp; have h := hw'.own (g, iter s p) (by simp); simp only at h; refine ⟨_, _, _, L, ?_, hw'.write (o' := iter s (p + wd)) (w' := { w with heap := w.heap.setIfInBounds g (iter s (p + wd)) }) ⟨rfl, rfl, rfl, by simp, fun q _ hn => ?_, Nat.le_refl _⟩ ?_, k⟩
    · simp only [execOp, ha.ev hx, Instr.next, Sem.run_bind, sE h, Result.andThen_ok, vB]
      rw [if_pos hp1]
      simp [hdec, aq9 h, goInt]
    · simp only [List.mem_singleton] at hn
      simp [Array.getElem?_setIfInBounds_ne (fun e => hn e.symm)]
    have hlt := D1 h
    simp [Array.getElem?_setIfInBounds, hlt]
theorem zP {x : Operand} {s : Str} {g p : Nat} {hp' : Hp} (hd : Nat.blt d c.n = true) (hx : ev fr x = some (.pointer (n9 g))) (hpp : hp.Perm ((g, iter s p) :: hp')) (k : HL c ops Q rest ((d, nextV s p) :: fr) ((g, iter s (nextP s p)) :: hp') L) : HL c ops Q (⟨some d, .next x true, ty, pos, af, none⟩ :: rest) fr hp L := by
  by_cases h : p < s.length
  · simp only [nextV, nextP, if_pos h] at k
    exact xX hd hx hpp h rfl k
  simp only [nextV, nextP, if_neg h] at k; refine xW hd hx (hpp.mem_iff.2 m0) (by omega) fun a w ha hw => k a w ha (hw.perm hpp)
theorem cx8 {x : Operand} {s : Str} {p : Nat} (hd : Nat.blt d c.n = true) (hx : ev fr x = some (nextV s p)) (k : HL c ops Q rest ((d, .bool (decide (p < s.length))) :: fr) hp L) : HL c ops Q (⟨some d, .extract x 0, ty, pos, af, none⟩ :: rest) fr hp L := by
  by_cases h : p < s.length
  · simp only [nextV, if_pos h] at hx
    rw [decide_eq_true h] at k; exact l4 hd hx rfl k
  simp only [nextV, if_neg h] at hx; rw [decide_eq_false h] at k; exact l4 hd hx rfl k
theorem r_ext2 {x : Operand} {s : Str} {p : Nat} (hd : Nat.blt d c.n = true) (hx : ev fr x = some (nextV s p)) (h : p < s.length) (k : HL c ops Q rest ((d, .int .i32 ((Utf8.decode ⟨s.toArray⟩ p).1 : Nat)) :: fr) hp L) : HL c ops Q (⟨some d, .extract x 2, ty, pos, af, none⟩ :: rest) fr hp L := by
  simp only [nextV, if_pos h] at hx; exact l4 hd hx rfl k
end
theorem bq3 {s : Str} {p : Nat} {b : UInt8} (h : s[p]? = some b) (hb : b.toNat < 128) : Utf8.decode ⟨s.toArray⟩ p = (b.toNat, 1) := by
  have hlt : p < s.length := (List.getElem?_eq_some_iff.1 h).1
  have hg : (ByteArray.mk s.toArray).get! (p + 0) = b := by
    rw [Nat.add_zero]; show s.toArray[p]! = b; rw [List.getElem?_eq_getElem hlt] at h
    injection h with h
    simp [h, hlt]
  unfold Utf8.decode; simp only [hg]; rw [if_pos hb]
/-! ### Small sets of bits -/
def u8 (m : Nat) : Value := .int .u8 (m : Int)
section
variable {c : Cx} {Q : Exit → Act → World → Prop} {fr : Fr} {hp : Hp} {L : List Fact} {ops : Array Oper} {rest : List Oper}
variable {d : Tmp} {ty : TypeId} {pos : String} {af : Array Edge}
def diff8 (a b : Nat) : Nat := a &&& (255 - b)
end
/-! ### Rows whose elements have facts of their own -/
def RowsF {α : Type} [El α] (A : Option Addr) (ps : List α) (f : α → Fact) : Fact where
  P w := (Row A (rows ps)).P w ∧ ∀ p ∈ ps, (f p).P w
  fp k := (Row A (rows ps)).fp k ∨ ∃ p ∈ ps, (f p).fp k
  st w w' h hP := ⟨(Row A (rows ps)).st w w' (fun k hk => h k (.inl hk)) hP.1, fun p hp => (f p).st w w' (fun k hk => h k (.inr ⟨p, hp, hk⟩)) (hP.2 p hp)⟩
  lt w hP k hk := by
    rcases hk with hk | ⟨p, hp, hk⟩
    · exact (Row A (rows ps)).lt w hP.1 k hk
    exact (f p).lt w (hP.2 p hp) k hk
section
variable {c : Cx} {Q : Exit → Act → World → Prop} {fr : Fr} {hp : Hp} {L : List Fact} {ops : Array Oper} {rest : List Oper}
variable {α : Type} [El α] {A : Option Addr} {ps : List α} {f : α → Fact}
abbrev innersF (ps : List α) (f : α → Fact) : Fact := Facts (ps.map f)
end
end Go.W
end
section
namespace Go.W
open Go Go.RowKit
theorem sS {s : Str} {q : Nat} (hq : q < s.length) (hs : ∀ b ∈ s, b.toNat < 128) : Utf8.decode ⟨s.toArray⟩ q = ((s.getD q default).toNat, 1) := by
  have e : s.getD q default = s[q] := by rw [List.getD_eq_getElem?_getD, List.getElem?_eq_getElem hq]; rfl
  rw [e]; exact bq3 (List.getElem?_eq_getElem hq) (hs _ (List.getElem_mem hq))
theorem vI {s : Str} {q : Nat} (hq : q < s.length) (hs : ∀ b ∈ s, b.toNat < 128) : nextP s q = q + 1 := by
  simp only [nextP, if_pos hq, sS hq hs]
theorem uY {s : Str} {q g : Nat} {hp : Hp} (hq : q < s.length) (hs : ∀ b ∈ s, b.toNat < 128) : List.Sublist ((g, iter s (q + 1)) :: hp) ((g, iter s (nextP s q)) :: hp) := by rw [vI hq hs]; exact .refl _
section
variable {c : Cx} {Q : Exit → Act → World → Prop} {fr : Fr} {hp : Hp} {L : List Fact} {ops : Array Oper} {rest : List Oper} {d : Tmp} {ty : TypeId} {pos : String} {af : Array Edge}
theorem tO {t : TypeId} {x lo hi : Operand} {s : Str} {kd kd' : IntKind} {z z' : Int} (l h : Nat) (hd : Nat.blt d c.n = true) (ht : c.P.underlying t = some .string)
    (hx : ev fr x = some (str s)) (hl : ev fr lo = some (.int kd z)) (hlz : z = (l : Int)) (hh : ev fr hi = some (.int kd' z')) (hhz : z' = (h : Int)) (hle : l ≤ h) (hle' : h ≤ s.length)
    (k : HL c ops Q rest ((d, str ((s.drop l).take (h - l))) :: fr) hp L) : HL c ops Q (⟨some d, .slice t x (some lo) (some hi) none, ty, pos, af, none⟩ :: rest) fr hp L :=
  u0 _ rfl rfl hd (fun a w ha _ => by
    have e1 : (ByteArray.mk s.toArray).size = s.length := rfl; simp only [execOp, ha.ev hx, Option.map_some, Option.map_none, ha.ev hl, ha.ev hh, Sem.run_bind, Instr.sliceAt, run_underlying ht]; simp only [Result.andThen_ok]
    simp [Instr.slice, Instr.sliceBounds, run_underlying ht, str, e1, N1 hlz hle, N1 hhz hle', dL]) k
theorem cq9 {t yt : TypeId} {x y : Operand} {ky : IntKind} {z : Int} (n N : Nat) (hN : N = 2 ^ n) (hd : Nat.blt d c.n = true) (hx : ev fr x = some (int 1)) (hy : ev fr y = some (.int ky z)) (hz : z = (n : Int)) (hn : n < 60) (k : HL c ops Q rest ((d, int (N : Int)) :: fr) hp L) :
    HL c ops Q (⟨some d, .binOp .shl t x y yt, ty, pos, af, none⟩ :: rest) fr hp L :=
  I0 _ hd hx hy (fun _ => rfl) (fun w => by
    subst hz; subst hN; show (Op.shift .shl .i64 1 ky (n : Int)).run c.P w = _; have hl : 2 ^ n < 2 ^ 60 := Nat.pow_lt_pow_right (by omega) hn; have hm : min ((n : Int).toNat) (IntKind.i64.bits) = n := by show min ((n : Int).toNat) 64 = n; omega
    have hw : IntKind.i64.wrap ((2 ^ n : Nat) : Int) = ((2 ^ n : Nat) : Int) := by
      generalize 2 ^ n = q at hl; simp only [IntKind.wrap, IntKind.bits, IntKind.signed]
      simp
      omega
    simp only [Op.shift]; rw [if_neg (by omega), hm, Int.one_mul, show ((2 : Int) ^ n) = ((2 ^ n : Nat) : Int) by simp, hw]
    rfl) k
def shrI (a : Int) (n : Nat) : Int := a.fdiv (2 ^ min ((n : Int).toNat) IntKind.i64.bits)
theorem r_shrI {t yt : TypeId} {x y : Operand} {ky : IntKind} {z a : Int} (n : Nat) (hd : Nat.blt d c.n = true) (hx : ev fr x = some (int a)) (hy : ev fr y = some (.int ky z)) (hz : z = (n : Int)) (k : HL c ops Q rest ((d, int (shrI a n)) :: fr) hp L) :
    HL c ops Q (⟨some d, .binOp .shr t x y yt, ty, pos, af, none⟩ :: rest) fr hp L :=
  I0 _ hd hx hy (fun _ => rfl) (fun w => by
    subst hz; show (Op.shift .shr .i64 a ky (n : Int)).run c.P w = _; simp only [Op.shift]; rw [if_neg (by omega)]
    rfl) k
def andOne (a : Int) : Int := IntKind.i64.wrap ((BitVec.ofInt IntKind.i64.bits a &&& BitVec.ofInt IntKind.i64.bits 1).toNat : Int)
theorem cz1 {t yt : TypeId} {x y : Operand} {a : Int} (hd : Nat.blt d c.n = true) (hx : ev fr x = some (int a)) (hy : ev fr y = some (int 1)) (k : HL c ops Q rest ((d, int (andOne a)) :: fr) hp L) :
    HL c ops Q (⟨some d, .binOp .and t x y yt, ty, pos, af, none⟩ :: rest) fr hp L :=
  I0 _ hd hx hy (fun _ => rfl) (fun w => by
    show (Op.intBits .and .i64 a 1).run c.P w = _
    rfl) k
theorem wT (n : Nat) : ¬ andOne (shrI 0 n) = 1 := by
  have : shrI 0 n = 0 := by unfold shrI; exact Int.zero_fdiv _
  rw [this]
  decide
theorem zR {x : Operand} {s : Str} {p : Nat} (hs : ∀ b ∈ s, b.toNat < 128) (hd : Nat.blt d c.n = true) (hx : ev fr x = some (nextV s p)) (h : p < s.length) (k : HL c ops Q rest ((d, .int .i32 ((s.getD p default).toNat : Int)) :: fr) hp L) : HL c ops Q (⟨some d, .extract x 2, ty, pos, af, none⟩ :: rest) fr hp L := by
  refine r_ext2 hd hx h ?_; rw [sS h hs]; exact k
theorem zG (b : UInt8) (hb : b.toNat < 128) : Utf8.encode (b.toNat : Int) = ⟨#[b]⟩ := by
  have hv : Utf8.valid (b.toNat : Int) = true := by
    unfold Utf8.valid; have h1 : (0 : Int) ≤ b.toNat := by omega
    have h2 : (b.toNat : Int) < 0xD800 := by omega
    simp [h1, h2]
  unfold Utf8.encode; simp only [hv, if_true]; rw [if_pos (by simpa using hb)]
  simp
theorem ax2 {t u : TypeId} {x : Operand} {b : UInt8} (hd : Nat.blt d c.n = true) (hb : b.toNat < 128) (ht : (c.P.underlying t).isSome = true) (hu : c.P.underlying u = some .string) (hx : ev fr x = some (.int .i32 (b.toNat : Int))) (k : HL c ops Q rest ((d, str [b]) :: fr) hp L) :
    HL c ops Q (⟨some d, .convert t u x, ty, pos, af, none⟩ :: rest) fr hp L :=
  u0 _ rfl rfl hd (fun a w ha _ => by
    simp only [execOp, ha.ev hx, Sem.run_bind, run_convert_int_string w t u .i32 _ ht hu, Result.andThen_ok, Sem.run_pure, zG b hb]
    rfl) k
end
end Go.W
end
section
namespace Go.Proofs.YtpihanmcnmlodaaGreatDoor
open Go Go.W Tryz T F
set_option maxRecDepth 20000
attribute [local irreducible] HL HC HQ HB Row Rows2 Blk Facts
def Layed.lo_ren : Go.Shelf.Ren := ⟨fun | 159 => 125 | 165 => 141 | 166 => 142 | 167 => 143 | 169 => 144 | 230 => 145 | 204 => 146 | 240 => 158 | 241 => 159 | 197 => 160 | 118 => 161 | 168 => 162 | 270 => 163 | 262 => 164 | 276 => 172 | 277 => 173 | 260 => 174 | 242 => 175 | 313 => 176 | 278 => 184 | 274 => 185 | 275 => 186 | n => n, fun | 9 => 9 | 4 => 4 | 3 => 3 | 5 => 5 | 72 => 218 | 0 => 0 | 76 => 222 | 75 => 221 | 107 => 227 | 70 => 216 | 20 => 20 | 37 => 179 | 127 => 236 | 21 => 21 | 105 => 237 | 164 => 255 | 162 => 261 | 203 => 259 | 119 => 270 | 46 => 114 | 139 => 273 | 138 => 272 | 51 => 242 | 160 => 274 | 208 => 284 | 206 => 282 | 80 => 225 | n => n, fun | 13 => 1 | 3 => 2 | 4 => 3 | n => n⟩
theorem Layed.lo : Go.Proofs.Lays.n159 prog Layed.lo_ren where
  mixed := u3
  f118 := func161.trans (congrArg some u3)
  f159 := func125.trans (congrArg some u3)
  f165 := func141.trans (congrArg some u3)
  f166 := func142.trans (congrArg some u3)
  f167 := func143.trans (congrArg some u3)
  f168 := func162.trans (congrArg some u3)
  f169 := func144.trans (congrArg some u3)
  f197 := func160.trans (congrArg some u3)
  f204 := func146.trans (congrArg some u3)
  f230 := func145.trans (congrArg some u3)
  f240 := func158.trans (congrArg some u3)
  f241 := func159.trans (congrArg some u3)
  f242 := func175.trans (congrArg some u3)
  f260 := func174.trans (congrArg some u3)
  f262 := func164.trans (congrArg some u3)
  f270 := func163.trans (congrArg some u3)
  f274 := func185.trans (congrArg some u3)
  f275 := func186.trans (congrArg some u3)
  f276 := func172.trans (congrArg some u3)
  f277 := func173.trans (congrArg some u3)
  f278 := func184.trans (congrArg some u3)
  f313 := func176.trans (congrArg some u3)
  t0 := underlying0
  a0 := isAgg0
  z0 := sizeOf0
  v0 := zeroValue0
  t3 := underlying3
  a3 := isAgg3
  z3 := sizeOf3
  v3 := zeroValue3
  t4 := underlying4
  a4 := isAgg4
  z4 := sizeOf4
  v4 := zeroValue4
  t5 := underlying5
  a5 := isAgg5
  z5 := sizeOf5
  v5 := zeroValue5
  t9 := underlying9
  a9 := isAgg9
  z9 := sizeOf9
  v9 := zeroValue9
  t20 := underlying20
  a20 := isAgg20
  z20 := sizeOf20
  v20 := zeroValue20
  t21 := underlying21
  a21 := isAgg21
  z21 := sizeOf21
  v21 := zeroValue21
  t37 := underlying179
  a37 := isAgg179
  z37 := sizeOf179
  v37 := zeroValue179
  t46 := underlying114
  a46 := isAgg114
  z46 := sizeOf114
  v46 := zeroValue114
  t51 := underlying242
  a51 := isAgg242
  z51 := sizeOf242
  v51 := zeroValue242
  t70 := underlying216
  a70 := isAgg216
  z70 := sizeOf216
  v70 := zeroValue216
  t72 := underlying218
  a72 := isAgg218
  z72 := sizeOf218
  v72 := zeroValue218
  t75 := underlying221
  a75 := isAgg221
  z75 := sizeOf221
  v75 := zeroValue221
  t76 := underlying222
  a76 := isAgg222
  z76 := sizeOf222
  v76 := zeroValue222
  t105 := underlying237
  a105 := isAgg237
  z105 := sizeOf237
  v105 := zeroValue237
  t107 := underlying227
  a107 := isAgg227
  z107 := sizeOf227
  v107 := zeroValue227
  t119 := underlying270
  a119 := isAgg270
  z119 := sizeOf270
  t127 := underlying236
  a127 := isAgg236
  z127 := sizeOf236
  v127 := zeroValue236
  t138 := underlying272
  a138 := isAgg272
  z138 := sizeOf272
  v138 := zeroValue272
  t139 := underlying273
  a139 := isAgg273
  z139 := sizeOf273
  v139 := zeroValue273
  t160 := underlying274
  a160 := isAgg274
  z160 := sizeOf274
  v160 := zeroValue274
  t162 := underlying261
  a162 := isAgg261
  z162 := sizeOf261
  v162 := zeroValue261
  t164 := underlying255
  a164 := isAgg255
  z164 := sizeOf255
  v164 := zeroValue255
  t203 := underlying259
  a203 := isAgg259
  z203 := sizeOf259
  v203 := zeroValue259
  t206 := underlying282
  a206 := isAgg282
  z206 := sizeOf282
  v206 := zeroValue282
  t208 := underlying284
  a208 := isAgg284
  z208 := sizeOf284
  v208 := zeroValue284
  g3 := u3
  g4 := u3
  g13 := u3
def Layed.cr_ren : Go.Shelf.Ren := ⟨fun | 151 => 110 | 152 => 129 | 137 => 148 | 119 => 149 | 224 => 150 | 225 => 151 | 217 => 165 | 266 => 177 | n => n, fun | 9 => 9 | 21 => 21 | 4 => 4 | 3 => 3 | 5 => 5 | 0 => 0 | 46 => 114 | n => n, fun | n => n⟩
theorem Layed.cr : Go.Proofs.Lays.n151 prog Layed.cr_ren where
  mixed := u3
  f119 := func149.trans (congrArg some u3)
  f137 := func148.trans (congrArg some u3)
  f151 := func110.trans (congrArg some u3)
  f152 := func129.trans (congrArg some u3)
  f217 := func165.trans (congrArg some u3)
  f224 := func150.trans (congrArg some u3)
  f225 := func151.trans (congrArg some u3)
  f266 := func177.trans (congrArg some u3)
  t0 := underlying0
  a0 := isAgg0
  z0 := sizeOf0
  v0 := zeroValue0
  t3 := underlying3
  a3 := isAgg3
  z3 := sizeOf3
  v3 := zeroValue3
  t4 := underlying4
  a4 := isAgg4
  z4 := sizeOf4
  v4 := zeroValue4
  t5 := underlying5
  a5 := isAgg5
  z5 := sizeOf5
  v5 := zeroValue5
  t9 := underlying9
  a9 := isAgg9
  z9 := sizeOf9
  v9 := zeroValue9
  t21 := underlying21
  a21 := isAgg21
  z21 := sizeOf21
  v21 := zeroValue21
  t46 := underlying114
  a46 := isAgg114
  z46 := sizeOf114
  v46 := zeroValue114
theorem Layed.bx : Go.Proofs.Builder.Extra prog Layed.lo_ren where
  sizeBuilder := u3
  liesBuilder := u3
  t5 := underlying5
  a5 := isAgg5
  z5 := sizeOf5
  v5 := zeroValue5
  infoByte := u3
  cellsByte := u3
  sizeByte := u3
  neB5 := by decide
theorem bq0 {w w' : World} (h : RowKit.Below w.heap.size w w') : Ext [] w w' := ⟨h.os, h.tape, h.output, h.size, fun k hk _ => h.block k hk, Nat.le_refl _⟩
theorem rS (s : Str) (hs : s.length ≤ 1000000) (ha : ∀ b ∈ s, b.toNat < 128) : Meets prog X5 [str s] { val := fun _ : Unit => str (Lib.toLowerA s) } := by
  intro w hw; refine Calls.mono (Any.strings_ToLower_ascii Layed.lo Layed.bx ⟨s.toArray⟩ w (by show s.toArray.size ≤ _; simp; omega) (fun j b h => ha b (List.mem_of_getElem? (by simpa using h)))) fun e w' hp => ?_; obtain ⟨rfl, hb⟩ := hp; exact ⟨(), rfl, tK, hw.quiet (bq0 hb)⟩
theorem Z2 (s : Str) (b : UInt8) (hb : b.toNat < 128) : Meets prog O1 [str s, .int .i32 (b.toNat : Int)] { val := fun _ : Unit => .bool (decide (0 ≤ Lib.indexByte s b)) } := by
  intro w hw; refine Calls.mono (Any.strings_ContainsRune_ascii Layed.cr ⟨s.toArray⟩ (b.toNat : Int) w (by omega) (by omega)) fun e w' hp => ?_; obtain ⟨rfl, rfl⟩ := hp; exact ⟨(), by simp, tK, hw⟩
theorem dj8 (b : UInt8) : ∀ s : Str, -1 ≤ Lib.indexByte s b
  | [] => by simp [Lib.indexByte]
  | x :: r => by
    have ih := dj8 b r; unfold Lib.indexByte
    split
    · omega
    split
    · omega
    omega
theorem lY (b : UInt8) : ∀ s : Str, decide (0 ≤ Lib.indexByte s b) = decide (b ∈ s)
  | [] => by simp [Lib.indexByte]
  | x :: r => by
    have ih := lY b r; have lo := dj8 b r; unfold Lib.indexByte
    by_cases h : x = b
    · subst h; simp
    have hb : (x == b) = false := by simp [h]
    have hn : ¬ b = x := fun e => h e.symm; simp only [hb, Bool.false_eq_true, if_false, List.mem_cons, hn, false_or]; rw [← ih]; refine decide_eq_decide.2 ?_
    split
    · rename_i h1
      have h1 : Lib.indexByte r b = -1 := by simpa using h1
      omega
    rename_i h1
    have h1 : ¬ Lib.indexByte r b = -1 := by simpa using h1
    omega
end Go.Proofs.YtpihanmcnmlodaaGreatDoor
end
