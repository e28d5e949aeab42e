/- Texts. -/

import Derived.Test.YtdgmfagfpbdbhaaGreatDoorAAe
set_option linter.unusedVariables false
set_option linter.unusedSimpArgs false
section
namespace Go.Proofs.YtdgmfagfpbdbhaaGreatDoor
open Go Go.W Tryz T F
set_option maxRecDepth 20000
attribute [local irreducible] HL HC HQ HB Row Rows2 Blk Facts
def dice (g : Nat) (A : Option Addr) (c : Nat) (nums : List Int) (s : Int × Int) : Nat × Obj := (g, .cells #[.slice A nums.length c, int s.1, .int .u64 s.2] tJ (0, 0))
def DOK (nums : List Int) (s : Int × Int) : Prop := 0 ≤ s.1 ∧ s.1 ≤ nums.length ∧ 0 ≤ s.2 ∧ s.2 < 18446744073709551616
def diceCon {β : Type} (g : Nat) (A : Option Addr) (c : Nat) (nums : List Int) (s : Int × Int) (inv : β → Prop) (val : β → Value) (LO : β → List Fact) : Con ((Int × Int) × β) :=
  { hpI := [dice g A c nums s], LI := [Row A (rows nums)], inv := fun x => DOK nums x.1 ∧ inv x.2, val := fun x => val x.2, hpO := fun x => [dice g A c nums x.1], LO := fun x => LO x.2 }
theorem wT {g : Nat} {A : Option Addr} {c : Nat} {nums : List Int} {s : Int × Int} (hn : nums.length ≤ 9223372036854775807) (hs : DOK nums s) :
    Meets prog kA [.pointer (d9 g)] (diceCon g A c nums s (fun z : Int => 0 ≤ z ∧ z < 18446744073709551616) (fun z => .int .u64 z) (fun _ => [])) := by
 obtain ⟨p, q⟩ := s; obtain ⟨h1, h2, h3, h4⟩ := hs; simp only at h1 h2 h3 h4; obtain ⟨pn, rfl⟩ := Int.eq_ofNat_of_zero_le h1; refine j3 aj2 rfl v8 fun w0 => ?_; refine i4 (c5 rfl (c8 (d6 ?_))); refine C0 11 mixed (by decide) (by decide) rfl rfl (r7 rfl (r7 rfl (k8 (fun w1 => r8 rfl rfl (q_z rfl)) ?_)))
 apply k7 _ rfl rfl rfl
 ·intro w1
  first | refine a6 ⟨_, 2, none⟩ rfl rfl n0 rfl ?_ | refine a6 _ rfl rfl n0 rfl ?_
  refine b5 ?_; exact i5 rfl
 apply k7 _ rfl rfl rfl
 ·intro w1
  first | refine a7 rfl z9 rfl (d8 mB rfl) ?_ | refine a7 rfl z9 rfl (i2 mB rfl) ?_ | refine a7 rfl z9 rfl (b7 mB (b4 (by omega) rfl)) ?_ | refine a7 rfl z9 rfl (b8 mB (rows_get (by omega) rfl)) ?_
  refine b5 ?_; exact i5 rfl
 refine r7 rfl (k8 (fun w1 => r8 rfl rfl (q_z rfl)) ?_)
 apply k7 _ rfl rfl rfl
 ·intro w1
  first | refine a6 ⟨_, 2, none⟩ rfl rfl n0 rfl ?_ | refine a6 _ rfl rfl n0 rfl ?_
  refine b5 ?_; exact i5 rfl
 apply k7 _ rfl rfl rfl
 ·intro w1
  first | refine a7 rfl z9 rfl (d8 mB rfl) ?_ | refine a7 rfl z9 rfl (i2 mB rfl) ?_ | refine a7 rfl z9 rfl (b7 mB (b4 (by omega) rfl)) ?_ | refine a7 rfl z9 rfl (b8 mB (rows_get (by omega) rfl)) ?_
  refine b5 ?_; exact i5 rfl
 refine k8 (fun w1 => R7 _ rfl rfl rfl (fun _ => rfl) (fun _ => rfl) (q_z rfl)) (k8 (fun w1 => R7 _ rfl rfl rfl (fun _ => rfl) (fun _ => rfl) (q_z rfl)) ?_); refine v7 ⟨rfl, ?_⟩; refine r8 rfl rfl ?_
 first | refine a6 ⟨_, 2, none⟩ rfl rfl n0 rfl ?_ | refine a6 _ rfl rfl n0 rfl ?_
 refine C8 rfl rfl X2 uR (by rfl) (by rfl) ?_; refine c8 (d6 ?_); refine C0 11 mixed (by decide) (by decide) rfl rfl (r7 rfl (r7 rfl (k8 (fun w1 => r8 rfl rfl (q_z rfl)) ?_)))
 apply k7 _ rfl rfl rfl
 ·intro w1
  first | refine a6 ⟨_, 2, none⟩ rfl rfl n0 rfl ?_ | refine a6 _ rfl rfl n0 rfl ?_
  refine b5 ?_; exact i5 rfl
 apply k7 _ rfl rfl rfl
 ·intro w1
  first | refine a7 rfl z9 rfl (d8 mB rfl) ?_ | refine a7 rfl z9 rfl (i2 mB rfl) ?_ | refine a7 rfl z9 rfl (b7 mB (b4 (by omega) rfl)) ?_ | refine a7 rfl z9 rfl (b8 mB (rows_get (by omega) rfl)) ?_
  refine b5 ?_; exact i5 rfl
 refine r7 rfl (k8 (fun w1 => r8 rfl rfl (q_z rfl)) ?_)
 apply k7 _ rfl rfl rfl
 ·intro w1
  first | refine a6 ⟨_, 2, none⟩ rfl rfl n0 rfl ?_ | refine a6 _ rfl rfl n0 rfl ?_
  refine b5 ?_; exact i5 rfl
 apply k7 _ rfl rfl rfl
 ·intro w1
  first | refine a7 rfl z9 rfl (d8 mB rfl) ?_ | refine a7 rfl z9 rfl (i2 mB rfl) ?_ | refine a7 rfl z9 rfl (b7 mB (b4 (by omega) rfl)) ?_ | refine a7 rfl z9 rfl (b8 mB (rows_get (by omega) rfl)) ?_
  refine b5 ?_; exact i5 rfl
 refine k8 (fun w1 => R7 _ rfl rfl rfl (fun _ => rfl) (fun _ => rfl) (q_z rfl)) (k8 (fun w1 => R7 _ rfl rfl rfl (fun _ => rfl) (fun _ => rfl) (q_z rfl)) ?_); refine v7 ⟨rfl, ?_⟩; refine r8 rfl rfl ?_
 first | refine a6 ⟨_, 2, none⟩ rfl rfl n0 rfl ?_ | refine a6 _ rfl rfl n0 rfl ?_
 refine C8 rfl rfl X2 uR (by rfl) (by rfl) ?_; refine c8 (d6 ?_); refine C0 11 mixed (by decide) (by decide) rfl rfl (r7 rfl (r7 rfl (k8 (fun w1 => r8 rfl rfl (q_z rfl)) ?_)))
 apply k7 _ rfl rfl rfl
 ·intro w1
  first | refine a6 ⟨_, 2, none⟩ rfl rfl n0 rfl ?_ | refine a6 _ rfl rfl n0 rfl ?_
  refine b5 ?_; exact i5 rfl
 apply k7 _ rfl rfl rfl
 ·intro w1
  first | refine a7 rfl z9 rfl (d8 mB rfl) ?_ | refine a7 rfl z9 rfl (i2 mB rfl) ?_ | refine a7 rfl z9 rfl (b7 mB (b4 (by omega) rfl)) ?_ | refine a7 rfl z9 rfl (b8 mB (rows_get (by omega) rfl)) ?_
  refine b5 ?_; exact i5 rfl
 refine r7 rfl (k8 (fun w1 => r8 rfl rfl (q_z rfl)) ?_)
 apply k7 _ rfl rfl rfl
 ·intro w1
  first | refine a6 ⟨_, 2, none⟩ rfl rfl n0 rfl ?_ | refine a6 _ rfl rfl n0 rfl ?_
  refine b5 ?_; exact i5 rfl
 apply k7 _ rfl rfl rfl
 ·intro w1
  first | refine a7 rfl z9 rfl (d8 mB rfl) ?_ | refine a7 rfl z9 rfl (i2 mB rfl) ?_ | refine a7 rfl z9 rfl (b7 mB (b4 (by omega) rfl)) ?_ | refine a7 rfl z9 rfl (b8 mB (rows_get (by omega) rfl)) ?_
  refine b5 ?_; exact i5 rfl
 refine k8 (fun w1 => R7 _ rfl rfl rfl (fun _ => rfl) (fun _ => rfl) (q_z rfl)) (k8 (fun w1 => R7 _ rfl rfl rfl (fun _ => rfl) (fun _ => rfl) (q_z rfl)) ?_); refine v7 ⟨rfl, ?_⟩; refine r8 rfl rfl ?_
 first | refine a6 ⟨_, 2, none⟩ rfl rfl n0 rfl ?_ | refine a6 _ rfl rfl n0 rfl ?_
 refine C8 rfl rfl X2 uR (by rfl) (by rfl) ?_; refine c8 (Y7 ?_); refine C0 9 mixed (by decide) (by decide) rfl rfl (r7 rfl (k8 (fun w1 => r8 rfl rfl (q_z rfl)) ?_))
 apply k7 _ rfl rfl rfl
 ·intro w1
  first | refine a6 ⟨_, 1, none⟩ rfl rfl E7 rfl ?_ | refine a6 _ rfl rfl E7 rfl ?_
  refine b5 ?_; exact i5 rfl
 apply k7 _ rfl rfl rfl
 ·intro w1
  first | refine a7 rfl a8 rfl (d8 mB rfl) ?_ | refine a7 rfl a8 rfl (i2 mB rfl) ?_ | refine a7 rfl a8 rfl (b7 mB (b4 (by omega) rfl)) ?_ | refine a7 rfl a8 rfl (b8 mB (rows_get (by omega) rfl)) ?_
  refine b5 ?_; exact i5 rfl
 refine r7 rfl (k8 (fun w1 => r8 rfl rfl (q_z rfl)) ?_)
 apply k7 _ rfl rfl rfl
 ·intro w1
  first | refine a6 ⟨_, 0, none⟩ rfl rfl N1 rfl ?_ | refine a6 _ rfl rfl N1 rfl ?_
  refine b5 ?_; exact i5 rfl
 apply k7 _ rfl rfl rfl
 ·intro w1
  first | refine a7 rfl k4 rfl (d8 mB rfl) ?_ | refine a7 rfl k4 rfl (i2 mB rfl) ?_ | refine a7 rfl k4 rfl (b7 mB (b4 (by omega) rfl)) ?_ | refine a7 rfl k4 rfl (b8 mB (rows_get (by omega) rfl)) ?_
  refine b5 ?_; exact i5 rfl
 refine k8 (fun w1 => k6 rfl A8 rfl (q_z rfl)) ?_; refine v7 ⟨rfl, ?_⟩; refine B5 rfl rfl rfl (c8 ?_)
 first | refine k9 rfl (fun hb1 => ?_) (fun hb1 => ?_) | refine j0 rfl (fun hb1 => ?_) (fun hb1 => ?_)
 ·have hb1' := hb1; try simp at hb1'
  refine d6 (C0 18 mixed (by decide) (by decide) rfl rfl (r7 rfl (r7 rfl (k8 (fun w1 => r8 rfl rfl (q_z rfl)) ?_))))
  apply k7 _ rfl rfl rfl
  ·intro w1
   first | refine a6 ⟨_, 2, none⟩ rfl rfl n0 rfl ?_ | refine a6 _ rfl rfl n0 rfl ?_
   refine b5 ?_; exact i5 rfl
  apply k7 _ rfl rfl rfl
  ·intro w1
   first | refine a7 rfl z9 rfl (d8 mB rfl) ?_ | refine a7 rfl z9 rfl (i2 mB rfl) ?_ | refine a7 rfl z9 rfl (b7 mB (b4 (by omega) rfl)) ?_ | refine a7 rfl z9 rfl (b8 mB (rows_get (by omega) rfl)) ?_
   refine b5 ?_; exact i5 rfl
  refine r7 rfl (k8 (fun w1 => r8 rfl rfl (q_z rfl)) ?_)
  apply k7 _ rfl rfl rfl
  ·intro w1
   first | refine a6 ⟨_, 0, none⟩ rfl rfl N1 rfl ?_ | refine a6 _ rfl rfl N1 rfl ?_
   refine b5 ?_; exact i5 rfl
  apply k7 _ rfl rfl rfl
  ·intro w1
   first | refine a7 rfl k4 rfl (d8 mB rfl) ?_ | refine a7 rfl k4 rfl (i2 mB rfl) ?_ | refine a7 rfl k4 rfl (b7 mB (b4 (by omega) rfl)) ?_ | refine a7 rfl k4 rfl (b8 mB (rows_get (by omega) rfl)) ?_
   refine b5 ?_; exact i5 rfl
  refine r7 rfl (k8 (fun w1 => r8 rfl rfl (q_z rfl)) ?_)
  apply k7 _ rfl rfl rfl
  ·intro w1
   first | refine a6 ⟨_, 1, none⟩ rfl rfl E7 rfl ?_ | refine a6 _ rfl rfl E7 rfl ?_
   refine b5 ?_; exact i5 rfl
  apply k7 _ rfl rfl rfl
  ·intro w1
   first | refine a7 rfl a8 rfl (d8 mB rfl) ?_ | refine a7 rfl a8 rfl (i2 mB rfl) ?_ | refine a7 rfl a8 rfl (b7 mB (b4 (by omega) rfl)) ?_ | refine a7 rfl a8 rfl (b8 mB (rows_get (by omega) rfl)) ?_
   refine b5 ?_; exact i5 rfl
  refine k8 (fun w1 => m7 (α := Int) _ pn rfl A8 E1 rfl rfl rfl m1 rfl (by omega) (by decide) (q_z rfl)) (k8 (fun w1 => a7 rfl a8 rfl (b7 mB (b4 (by omega) rfl)) (q_z rfl)) (k8 (fun w1 => ax3 _ rfl tL yM rfl rfl (q_z rfl)) (k8 (fun w1 => R7 _ rfl rfl rfl (fun _ => rfl) (fun _ => rfl) (q_z rfl)) (k8 (fun w1 => R7 _ rfl rfl rfl (fun _ => rfl) (fun _ => rfl) (q_z rfl)) ?_)))); refine v7 ⟨rfl, ?_⟩; refine r8 rfl rfl ?_
  first | refine a6 ⟨_, 2, none⟩ rfl rfl n0 rfl ?_ | refine a6 _ rfl rfl n0 rfl ?_
  refine C8 rfl rfl X2 uR (by rfl) (by rfl) ?_; refine c8 (c9 (b6 rfl (r8 rfl rfl ?_)))
  first | refine a6 ⟨_, 1, none⟩ rfl rfl E7 rfl ?_ | refine a6 _ rfl rfl E7 rfl ?_
  first | refine a7 rfl a8 rfl (i2 mB rfl) ?_ | refine a7 rfl a8 rfl (d8 mB rfl) ?_ | refine a7 rfl a8 rfl (b7 mB (b4 (by omega) rfl)) ?_ | refine a7 rfl a8 rfl (b8 mB (rows_get (by omega) rfl)) ?_
  refine t5 _ rfl rfl rfl rfl q6 (r8 rfl rfl ?_)
  first | refine a6 ⟨_, 1, none⟩ rfl rfl E7 rfl ?_ | refine a6 _ rfl rfl E7 rfl ?_
  refine C8 rfl rfl X2 E1 (by rfl) (by rfl) ?_; refine t6 (b6 rfl (r8 rfl rfl ?_))
  first | refine a6 ⟨_, 2, none⟩ rfl rfl n0 rfl ?_ | refine a6 _ rfl rfl n0 rfl ?_
  first | refine a7 rfl z9 rfl (i2 mB rfl) ?_ | refine a7 rfl z9 rfl (d8 mB rfl) ?_ | refine a7 rfl z9 rfl (b7 mB (b4 (by omega) rfl)) ?_ | refine a7 rfl z9 rfl (b8 mB (rows_get (by omega) rfl)) ?_
  refine c5 rfl (t6 (b6 rfl (b6 rfl ?_))); refine R7 _ rfl rfl rfl (fun _ => rfl) (fun _ => rfl) (R7 _ rfl rfl rfl (fun _ => rfl) (fun _ => rfl) (R7 _ rfl rfl rfl (fun _ => rfl) (fun _ => rfl) ?_)); refine c5 rfl (t6 (b6 rfl (b6 rfl ?_))); refine R7 _ rfl rfl rfl (fun _ => rfl) (fun _ => rfl) (R7 _ rfl rfl rfl (fun _ => rfl) (fun _ => rfl) ?_); refine c5 rfl (c8 (l4 ?_)); exact ret1 ((_, _), _) rfl rfl rfl ⟨⟨by simp only; omega, by simp only; omega, (wrapU _).1, (wrapU _).2⟩, wrapU _⟩ (.refl _) tK
 have hb1' := hb1; try simp at hb1'
 refine i8 (i1 (i4 (b6 rfl (r8 rfl rfl ?_))))
 first | refine a6 ⟨_, 2, none⟩ rfl rfl n0 rfl ?_ | refine a6 _ rfl rfl n0 rfl ?_
 first | refine a7 rfl z9 rfl (i2 mB rfl) ?_ | refine a7 rfl z9 rfl (d8 mB rfl) ?_ | refine a7 rfl z9 rfl (b7 mB (b4 (by omega) rfl)) ?_ | refine a7 rfl z9 rfl (b8 mB (rows_get (by omega) rfl)) ?_
 refine c5 rfl (t6 (b6 rfl (b6 rfl ?_))); refine R7 _ rfl rfl rfl (fun _ => rfl) (fun _ => rfl) (R7 _ rfl rfl rfl (fun _ => rfl) (fun _ => rfl) (R7 _ rfl rfl rfl (fun _ => rfl) (fun _ => rfl) ?_)); refine c5 rfl (t6 (b6 rfl (b6 rfl ?_))); refine R7 _ rfl rfl rfl (fun _ => rfl) (fun _ => rfl) (R7 _ rfl rfl rfl (fun _ => rfl) (fun _ => rfl) ?_); refine c5 rfl (c8 (l4 ?_)); exact ret1 ((_, _), _) rfl rfl rfl ⟨⟨by simp only; omega, by simp only; omega, (wrapU _).1, (wrapU _).2⟩, wrapU _⟩ (.refl _) tK
theorem mj9 {z n : Int} (hz : 0 ≤ z) (hn : 0 ≤ n) : 0 ≤ z.tmod (n + 1) ∧ z.tmod (n + 1) ≤ n := by
  have h1 := Int.tmod_nonneg (n + 1) hz; have h2 := Int.tmod_lt_of_pos z (show 0 < n + 1 by omega)
  omega
def ToInv (n z : Int) : Prop := 0 ≤ z ∧ (1 ≤ n → z ≤ n) ∧ (n < 1 → z = 0)
theorem P3 {g : Nat} {A : Option Addr} {c : Nat} {nums : List Int} {s : Int × Int} (n : Int) (hn : nums.length ≤ 9223372036854775807) (hs : DOK nums s) (hI : n ≤ 9223372036854775806) :
    Meets prog mN [.pointer (d9 g), int n] (diceCon g A c nums s (ToInv n) (fun z => int z) (fun _ => [])) := by
 refine j3 bq8 rfl v8 fun w0 => ?_; refine i4 (c5 rfl (c8 (d6 (i4 (b6 rfl (B5 rfl rfl rfl (c8 ?_)))))))
 first | refine k9 rfl (fun hb1 => ?_) (fun hb1 => ?_) | refine j0 rfl (fun hb1 => ?_) (fun hb1 => ?_)
 ·have hb1' := hb1; try simp at hb1'
  refine i4 (c5 rfl (c8 (E9 ?_))); exact ret1 (s, 0) rfl rfl rfl ⟨hs, by omega, by intro; omega, by intro; rfl⟩ (.refl _) tK
 have hb1' := hb1; try simp at hb1'
 refine i8 (i1 (i4 (b6 rfl ?_))); refine j4 xQ rfl rfl (wT hn hs) (.refl _) ⟨m0, tK⟩ fun x hx => ?_; obtain ⟨s1, z⟩ := x; obtain ⟨hs1, hz⟩ := hx; simp only at hz; refine R7 _ rfl rfl rfl (fun _ => rfl) (fun _ => rfl) (b6 rfl (t5 _ rfl rfl rfl rfl q6 (ax3 (n + 1) rfl tL yM rfl (IntWalk.u64_in _ (by omega)) (nq5 rfl rfl rfl (by omega) ?_)))); have hm := mj9 (z := z.fdiv (2 ^ min (Int.toNat 16) IntKind.u64.bits)) (n := n) (Int.fdiv_nonneg hz.1 (by decide)) (by omega); refine ax3 ((z.fdiv (2 ^ min (Int.toNat 16) IntKind.u64.bits)).tmod (n + 1)) rfl yM tL rfl (IntWalk.i64_in ((z.fdiv (2 ^ min (Int.toNat 16) IntKind.u64.bits)).tmod (n + 1)) (by omega)) ?_; refine c5 rfl (c8 (l4 ?_)); exact ret1 (s1, _) rfl rfl rfl ⟨hs1, hm.1, fun _ => hm.2, fun h => by omega⟩ (.refl _) tK
theorem aY {g : Nat} {A : Option Addr} {c : Nat} {nums : List Int} {s : Int × Int} (n : Int) (hn : nums.length ≤ 9223372036854775807) (hs : DOK nums s) (hI : 0 ≤ n ∧ n ≤ 9223372036854775806) :
    Meets prog jB [.pointer (d9 g), int n] (diceCon g A c nums s (fun _ : Bool => True) (fun z => .bool z) (fun _ => [])) := by
 refine j3 xR rfl v8 fun w0 => ?_; refine i4 (c5 rfl (t6 (b6 rfl (b6 rfl ?_)))); refine P9 _ rfl rfl rfl rfl q6 (j4 P5 rfl rfl (P3 (n - 1) hn hs (by omega)) (.refl _) ⟨m0, tK⟩ fun x hx => ?_); obtain ⟨s1, z⟩ := x; obtain ⟨hs1, hz⟩ := hx; simp only [ToInv] at hz; refine J0 rfl rfl rfl (c5 rfl (c8 (l4 ?_))); exact ret1 (s1, _) rfl rfl rfl ⟨hs1, tK⟩ (.refl _) tK
def lineWords : List Str := [[97], [98], [99], [97, 110, 32, 49], [98, 101, 110], [99, 121, 100, 32, 49, 50]]
def PageOK (l : List Str) : Prop := ∀ s ∈ l, s ∈ lineWords
end Go.Proofs.YtdgmfagfpbdbhaaGreatDoor
end
