/- Texts. -/

import Derived.Test.YtdgmfagfpbdbhaaGreatDoorAAe
set_option linter.unusedVariables false
set_option linter.unusedSimpArgs false
section
namespace Go.Proofs.YtdgmfagfpbdbhaaGreatDoor
open Go Go.W Tryz T F
set_option maxRecDepth 20000
attribute [local irreducible] HL HC HQ HB Row Rows2 Blk Facts
def dice (g : Nat) (A : Option Addr) (c : Nat) (nums : List Int) (s : Int × Int) : Nat × Obj := (g, .cells #[.slice A nums.length c, int s.1, .int .u64 s.2] qG (0, 0))
def DOK (nums : List Int) (s : Int × Int) : Prop := 0 ≤ s.1 ∧ s.1 ≤ nums.length ∧ 0 ≤ s.2 ∧ s.2 < 18446744073709551616
def diceCon {β : Type} (g : Nat) (A : Option Addr) (c : Nat) (nums : List Int) (s : Int × Int) (inv : β → Prop) (val : β → Value) (LO : β → List Fact) : Con ((Int × Int) × β) :=
  { hpI := [dice g A c nums s], LI := [Row A (rows nums)], inv := fun x => DOK nums x.1 ∧ inv x.2, val := fun x => val x.2, hpO := fun x => [dice g A c nums x.1], LO := fun x => LO x.2 }
theorem tM {g : Nat} {A : Option Addr} {c : Nat} {nums : List Int} {s : Int × Int} (hn : nums.length ≤ 9223372036854775807) (hs : DOK nums s) :
    Meets prog gW [.pointer (c5 g)] (diceCon g A c nums s (fun z : Int => 0 ≤ z ∧ z < 18446744073709551616) (fun z => .int .u64 z) (fun _ => [])) := by
 obtain ⟨p, q⟩ := s; obtain ⟨h1, h2, h3, h4⟩ := hs; simp only at h1 h2 h3 h4; obtain ⟨pn, rfl⟩ := Int.eq_ofNat_of_zero_le h1; refine i5 wM rfl t3 fun w0 => ?_; refine i3 (c8 rfl (c9 (d7 ?_))); refine A7 11 mixed (by decide) (by decide) rfl rfl (p6 rfl (p6 rfl (k7 (fun w1 => l5 rfl rfl (q_z rfl)) ?_)))
 apply j8 _ rfl rfl rfl
 ·intro w1
  first | refine a6 ⟨_, 2, none⟩ rfl rfl k5 rfl ?_ | refine a6 _ rfl rfl k5 rfl ?_
  refine b5 ?_; exact i1 rfl
 apply j8 _ rfl rfl rfl
 ·intro w1
  first | refine a7 rfl t0 rfl (d3 mB rfl) ?_ | refine a7 rfl t0 rfl (d5 mB rfl) ?_ | refine a7 rfl t0 rfl (b7 mB (b2 (by omega) rfl)) ?_ | refine a7 rfl t0 rfl (b8 mB (rows_get (by omega) rfl)) ?_
  refine b5 ?_; exact i1 rfl
 refine p6 rfl (k7 (fun w1 => l5 rfl rfl (q_z rfl)) ?_)
 apply j8 _ rfl rfl rfl
 ·intro w1
  first | refine a6 ⟨_, 2, none⟩ rfl rfl k5 rfl ?_ | refine a6 _ rfl rfl k5 rfl ?_
  refine b5 ?_; exact i1 rfl
 apply j8 _ rfl rfl rfl
 ·intro w1
  first | refine a7 rfl t0 rfl (d3 mB rfl) ?_ | refine a7 rfl t0 rfl (d5 mB rfl) ?_ | refine a7 rfl t0 rfl (b7 mB (b2 (by omega) rfl)) ?_ | refine a7 rfl t0 rfl (b8 mB (rows_get (by omega) rfl)) ?_
  refine b5 ?_; exact i1 rfl
 refine k7 (fun w1 => N3 _ rfl rfl rfl (fun _ => rfl) (fun _ => rfl) (q_z rfl)) (k7 (fun w1 => N3 _ rfl rfl rfl (fun _ => rfl) (fun _ => rfl) (q_z rfl)) ?_); refine u4 ⟨rfl, ?_⟩; refine l5 rfl rfl ?_
 first | refine a6 ⟨_, 2, none⟩ rfl rfl k5 rfl ?_ | refine a6 _ rfl rfl k5 rfl ?_
 refine B0 rfl rfl aJ rM (by rfl) (by rfl) ?_; refine c9 (d7 ?_); refine A7 11 mixed (by decide) (by decide) rfl rfl (p6 rfl (p6 rfl (k7 (fun w1 => l5 rfl rfl (q_z rfl)) ?_)))
 apply j8 _ rfl rfl rfl
 ·intro w1
  first | refine a6 ⟨_, 2, none⟩ rfl rfl k5 rfl ?_ | refine a6 _ rfl rfl k5 rfl ?_
  refine b5 ?_; exact i1 rfl
 apply j8 _ rfl rfl rfl
 ·intro w1
  first | refine a7 rfl t0 rfl (d3 mB rfl) ?_ | refine a7 rfl t0 rfl (d5 mB rfl) ?_ | refine a7 rfl t0 rfl (b7 mB (b2 (by omega) rfl)) ?_ | refine a7 rfl t0 rfl (b8 mB (rows_get (by omega) rfl)) ?_
  refine b5 ?_; exact i1 rfl
 refine p6 rfl (k7 (fun w1 => l5 rfl rfl (q_z rfl)) ?_)
 apply j8 _ rfl rfl rfl
 ·intro w1
  first | refine a6 ⟨_, 2, none⟩ rfl rfl k5 rfl ?_ | refine a6 _ rfl rfl k5 rfl ?_
  refine b5 ?_; exact i1 rfl
 apply j8 _ rfl rfl rfl
 ·intro w1
  first | refine a7 rfl t0 rfl (d3 mB rfl) ?_ | refine a7 rfl t0 rfl (d5 mB rfl) ?_ | refine a7 rfl t0 rfl (b7 mB (b2 (by omega) rfl)) ?_ | refine a7 rfl t0 rfl (b8 mB (rows_get (by omega) rfl)) ?_
  refine b5 ?_; exact i1 rfl
 refine k7 (fun w1 => N3 _ rfl rfl rfl (fun _ => rfl) (fun _ => rfl) (q_z rfl)) (k7 (fun w1 => N3 _ rfl rfl rfl (fun _ => rfl) (fun _ => rfl) (q_z rfl)) ?_); refine u4 ⟨rfl, ?_⟩; refine l5 rfl rfl ?_
 first | refine a6 ⟨_, 2, none⟩ rfl rfl k5 rfl ?_ | refine a6 _ rfl rfl k5 rfl ?_
 refine B0 rfl rfl aJ rM (by rfl) (by rfl) ?_; refine c9 (d7 ?_); refine A7 11 mixed (by decide) (by decide) rfl rfl (p6 rfl (p6 rfl (k7 (fun w1 => l5 rfl rfl (q_z rfl)) ?_)))
 apply j8 _ rfl rfl rfl
 ·intro w1
  first | refine a6 ⟨_, 2, none⟩ rfl rfl k5 rfl ?_ | refine a6 _ rfl rfl k5 rfl ?_
  refine b5 ?_; exact i1 rfl
 apply j8 _ rfl rfl rfl
 ·intro w1
  first | refine a7 rfl t0 rfl (d3 mB rfl) ?_ | refine a7 rfl t0 rfl (d5 mB rfl) ?_ | refine a7 rfl t0 rfl (b7 mB (b2 (by omega) rfl)) ?_ | refine a7 rfl t0 rfl (b8 mB (rows_get (by omega) rfl)) ?_
  refine b5 ?_; exact i1 rfl
 refine p6 rfl (k7 (fun w1 => l5 rfl rfl (q_z rfl)) ?_)
 apply j8 _ rfl rfl rfl
 ·intro w1
  first | refine a6 ⟨_, 2, none⟩ rfl rfl k5 rfl ?_ | refine a6 _ rfl rfl k5 rfl ?_
  refine b5 ?_; exact i1 rfl
 apply j8 _ rfl rfl rfl
 ·intro w1
  first | refine a7 rfl t0 rfl (d3 mB rfl) ?_ | refine a7 rfl t0 rfl (d5 mB rfl) ?_ | refine a7 rfl t0 rfl (b7 mB (b2 (by omega) rfl)) ?_ | refine a7 rfl t0 rfl (b8 mB (rows_get (by omega) rfl)) ?_
  refine b5 ?_; exact i1 rfl
 refine k7 (fun w1 => N3 _ rfl rfl rfl (fun _ => rfl) (fun _ => rfl) (q_z rfl)) (k7 (fun w1 => N3 _ rfl rfl rfl (fun _ => rfl) (fun _ => rfl) (q_z rfl)) ?_); refine u4 ⟨rfl, ?_⟩; refine l5 rfl rfl ?_
 first | refine a6 ⟨_, 2, none⟩ rfl rfl k5 rfl ?_ | refine a6 _ rfl rfl k5 rfl ?_
 refine B0 rfl rfl aJ rM (by rfl) (by rfl) ?_; refine c9 (bT ?_); refine A7 9 mixed (by decide) (by decide) rfl rfl (p6 rfl (k7 (fun w1 => l5 rfl rfl (q_z rfl)) ?_))
 apply j8 _ rfl rfl rfl
 ·intro w1
  first | refine a6 ⟨_, 1, none⟩ rfl rfl B8 rfl ?_ | refine a6 _ rfl rfl B8 rfl ?_
  refine b5 ?_; exact i1 rfl
 apply j8 _ rfl rfl rfl
 ·intro w1
  first | refine a7 rfl a8 rfl (d3 mB rfl) ?_ | refine a7 rfl a8 rfl (d5 mB rfl) ?_ | refine a7 rfl a8 rfl (b7 mB (b2 (by omega) rfl)) ?_ | refine a7 rfl a8 rfl (b8 mB (rows_get (by omega) rfl)) ?_
  refine b5 ?_; exact i1 rfl
 refine p6 rfl (k7 (fun w1 => l5 rfl rfl (q_z rfl)) ?_)
 apply j8 _ rfl rfl rfl
 ·intro w1
  first | refine a6 ⟨_, 0, none⟩ rfl rfl J2 rfl ?_ | refine a6 _ rfl rfl J2 rfl ?_
  refine b5 ?_; exact i1 rfl
 apply j8 _ rfl rfl rfl
 ·intro w1
  first | refine a7 rfl j2 rfl (d3 mB rfl) ?_ | refine a7 rfl j2 rfl (d5 mB rfl) ?_ | refine a7 rfl j2 rfl (b7 mB (b2 (by omega) rfl)) ?_ | refine a7 rfl j2 rfl (b8 mB (rows_get (by omega) rfl)) ?_
  refine b5 ?_; exact i1 rfl
 refine k7 (fun w1 => j9 rfl v9 rfl (q_z rfl)) ?_; refine u4 ⟨rfl, ?_⟩; refine z6 rfl rfl rfl (c9 ?_)
 first | refine k6 rfl (fun hb1 => ?_) (fun hb1 => ?_) | refine i6 rfl (fun hb1 => ?_) (fun hb1 => ?_)
 ·have hb1' := hb1; try simp at hb1'
  refine d7 (A7 18 mixed (by decide) (by decide) rfl rfl (p6 rfl (p6 rfl (k7 (fun w1 => l5 rfl rfl (q_z rfl)) ?_))))
  apply j8 _ rfl rfl rfl
  ·intro w1
   first | refine a6 ⟨_, 2, none⟩ rfl rfl k5 rfl ?_ | refine a6 _ rfl rfl k5 rfl ?_
   refine b5 ?_; exact i1 rfl
  apply j8 _ rfl rfl rfl
  ·intro w1
   first | refine a7 rfl t0 rfl (d3 mB rfl) ?_ | refine a7 rfl t0 rfl (d5 mB rfl) ?_ | refine a7 rfl t0 rfl (b7 mB (b2 (by omega) rfl)) ?_ | refine a7 rfl t0 rfl (b8 mB (rows_get (by omega) rfl)) ?_
   refine b5 ?_; exact i1 rfl
  refine p6 rfl (k7 (fun w1 => l5 rfl rfl (q_z rfl)) ?_)
  apply j8 _ rfl rfl rfl
  ·intro w1
   first | refine a6 ⟨_, 0, none⟩ rfl rfl J2 rfl ?_ | refine a6 _ rfl rfl J2 rfl ?_
   refine b5 ?_; exact i1 rfl
  apply j8 _ rfl rfl rfl
  ·intro w1
   first | refine a7 rfl j2 rfl (d3 mB rfl) ?_ | refine a7 rfl j2 rfl (d5 mB rfl) ?_ | refine a7 rfl j2 rfl (b7 mB (b2 (by omega) rfl)) ?_ | refine a7 rfl j2 rfl (b8 mB (rows_get (by omega) rfl)) ?_
   refine b5 ?_; exact i1 rfl
  refine p6 rfl (k7 (fun w1 => l5 rfl rfl (q_z rfl)) ?_)
  apply j8 _ rfl rfl rfl
  ·intro w1
   first | refine a6 ⟨_, 1, none⟩ rfl rfl B8 rfl ?_ | refine a6 _ rfl rfl B8 rfl ?_
   refine b5 ?_; exact i1 rfl
  apply j8 _ rfl rfl rfl
  ·intro w1
   first | refine a7 rfl a8 rfl (d3 mB rfl) ?_ | refine a7 rfl a8 rfl (d5 mB rfl) ?_ | refine a7 rfl a8 rfl (b7 mB (b2 (by omega) rfl)) ?_ | refine a7 rfl a8 rfl (b8 mB (rows_get (by omega) rfl)) ?_
   refine b5 ?_; exact i1 rfl
  refine k7 (fun w1 => q8 (α := Int) _ pn rfl v9 D3 rfl rfl rfl m1 rfl (by omega) (by decide) (q_z rfl)) (k7 (fun w1 => a7 rfl a8 rfl (b7 mB (b2 (by omega) rfl)) (q_z rfl)) (k7 (fun w1 => xF _ rfl qH uX rfl rfl (q_z rfl)) (k7 (fun w1 => N3 _ rfl rfl rfl (fun _ => rfl) (fun _ => rfl) (q_z rfl)) (k7 (fun w1 => N3 _ rfl rfl rfl (fun _ => rfl) (fun _ => rfl) (q_z rfl)) ?_)))); refine u4 ⟨rfl, ?_⟩; refine l5 rfl rfl ?_
  first | refine a6 ⟨_, 2, none⟩ rfl rfl k5 rfl ?_ | refine a6 _ rfl rfl k5 rfl ?_
  refine B0 rfl rfl aJ rM (by rfl) (by rfl) ?_; refine c9 (d4 (b6 rfl (l5 rfl rfl ?_)))
  first | refine a6 ⟨_, 1, none⟩ rfl rfl B8 rfl ?_ | refine a6 _ rfl rfl B8 rfl ?_
  first | refine a7 rfl a8 rfl (d5 mB rfl) ?_ | refine a7 rfl a8 rfl (d3 mB rfl) ?_ | refine a7 rfl a8 rfl (b7 mB (b2 (by omega) rfl)) ?_ | refine a7 rfl a8 rfl (b8 mB (rows_get (by omega) rfl)) ?_
  refine t7 _ rfl rfl rfl rfl p8 (l5 rfl rfl ?_)
  first | refine a6 ⟨_, 1, none⟩ rfl rfl B8 rfl ?_ | refine a6 _ rfl rfl B8 rfl ?_
  refine B0 rfl rfl aJ D3 (by rfl) (by rfl) ?_; refine n9 (b6 rfl (l5 rfl rfl ?_))
  first | refine a6 ⟨_, 2, none⟩ rfl rfl k5 rfl ?_ | refine a6 _ rfl rfl k5 rfl ?_
  first | refine a7 rfl t0 rfl (d5 mB rfl) ?_ | refine a7 rfl t0 rfl (d3 mB rfl) ?_ | refine a7 rfl t0 rfl (b7 mB (b2 (by omega) rfl)) ?_ | refine a7 rfl t0 rfl (b8 mB (rows_get (by omega) rfl)) ?_
  refine c8 rfl (n9 (b6 rfl (b6 rfl ?_))); refine N3 _ rfl rfl rfl (fun _ => rfl) (fun _ => rfl) (N3 _ rfl rfl rfl (fun _ => rfl) (fun _ => rfl) (N3 _ rfl rfl rfl (fun _ => rfl) (fun _ => rfl) ?_)); refine c8 rfl (n9 (b6 rfl (b6 rfl ?_))); refine N3 _ rfl rfl rfl (fun _ => rfl) (fun _ => rfl) (N3 _ rfl rfl rfl (fun _ => rfl) (fun _ => rfl) ?_); refine c8 rfl (c9 (k8 ?_)); exact ret1 ((_, _), _) rfl rfl rfl ⟨⟨by simp only; omega, by simp only; omega, (wrapU _).1, (wrapU _).2⟩, wrapU _⟩ (.refl _) tK
 have hb1' := hb1; try simp at hb1'
 refine i9 (i2 (i3 (b6 rfl (l5 rfl rfl ?_))))
 first | refine a6 ⟨_, 2, none⟩ rfl rfl k5 rfl ?_ | refine a6 _ rfl rfl k5 rfl ?_
 first | refine a7 rfl t0 rfl (d5 mB rfl) ?_ | refine a7 rfl t0 rfl (d3 mB rfl) ?_ | refine a7 rfl t0 rfl (b7 mB (b2 (by omega) rfl)) ?_ | refine a7 rfl t0 rfl (b8 mB (rows_get (by omega) rfl)) ?_
 refine c8 rfl (n9 (b6 rfl (b6 rfl ?_))); refine N3 _ rfl rfl rfl (fun _ => rfl) (fun _ => rfl) (N3 _ rfl rfl rfl (fun _ => rfl) (fun _ => rfl) (N3 _ rfl rfl rfl (fun _ => rfl) (fun _ => rfl) ?_)); refine c8 rfl (n9 (b6 rfl (b6 rfl ?_))); refine N3 _ rfl rfl rfl (fun _ => rfl) (fun _ => rfl) (N3 _ rfl rfl rfl (fun _ => rfl) (fun _ => rfl) ?_); refine c8 rfl (c9 (k8 ?_)); exact ret1 ((_, _), _) rfl rfl rfl ⟨⟨by simp only; omega, by simp only; omega, (wrapU _).1, (wrapU _).2⟩, wrapU _⟩ (.refl _) tK
theorem jq7 {z n : Int} (hz : 0 ≤ z) (hn : 0 ≤ n) : 0 ≤ z.tmod (n + 1) ∧ z.tmod (n + 1) ≤ n := by
  have h1 := Int.tmod_nonneg (n + 1) hz; have h2 := Int.tmod_lt_of_pos z (show 0 < n + 1 by omega)
  omega
def ToInv (n z : Int) : Prop := 0 ≤ z ∧ (1 ≤ n → z ≤ n) ∧ (n < 1 → z = 0)
theorem L7 {g : Nat} {A : Option Addr} {c : Nat} {nums : List Int} {s : Int × Int} (n : Int) (hn : nums.length ≤ 9223372036854775807) (hs : DOK nums s) (hI : n ≤ 9223372036854775806) :
    Meets prog jM [.pointer (c5 g), int n] (diceCon g A c nums s (ToInv n) (fun z => int z) (fun _ => [])) := by
 refine i5 yK rfl t3 fun w0 => ?_; refine i3 (c8 rfl (c9 (d7 (i3 (b6 rfl (z6 rfl rfl rfl (c9 ?_)))))))
 first | refine k6 rfl (fun hb1 => ?_) (fun hb1 => ?_) | refine i6 rfl (fun hb1 => ?_) (fun hb1 => ?_)
 ·have hb1' := hb1; try simp at hb1'
  refine i3 (c8 rfl (c9 (J0 ?_))); exact ret1 (s, 0) rfl rfl rfl ⟨hs, by omega, by intro; omega, by intro; rfl⟩ (.refl _) tK
 have hb1' := hb1; try simp at hb1'
 refine i9 (i2 (i3 (b6 rfl ?_))); refine i8 uI rfl rfl (tM hn hs) (.refl _) ⟨m0, tK⟩ fun x hx => ?_; obtain ⟨s1, z⟩ := x; obtain ⟨hs1, hz⟩ := hx; simp only at hz; refine N3 _ rfl rfl rfl (fun _ => rfl) (fun _ => rfl) (b6 rfl (t7 _ rfl rfl rfl rfl p8 (xF (n + 1) rfl qH uX rfl (IntWalk.u64_in _ (by omega)) (r_rem rfl rfl rfl (by omega) ?_)))); have hm := jq7 (z := z.fdiv (2 ^ min (Int.toNat 16) IntKind.u64.bits)) (n := n) (Int.fdiv_nonneg hz.1 (by decide)) (by omega); refine xF ((z.fdiv (2 ^ min (Int.toNat 16) IntKind.u64.bits)).tmod (n + 1)) rfl uX qH rfl (IntWalk.i64_in ((z.fdiv (2 ^ min (Int.toNat 16) IntKind.u64.bits)).tmod (n + 1)) (by omega)) ?_; refine c8 rfl (c9 (k8 ?_)); exact ret1 (s1, _) rfl rfl rfl ⟨hs1, hm.1, fun _ => hm.2, fun h => by omega⟩ (.refl _) tK
theorem W7 {g : Nat} {A : Option Addr} {c : Nat} {nums : List Int} {s : Int × Int} (n : Int) (hn : nums.length ≤ 9223372036854775807) (hs : DOK nums s) (hI : 0 ≤ n ∧ n ≤ 9223372036854775806) :
    Meets prog dP [.pointer (c5 g), int n] (diceCon g A c nums s (fun _ : Bool => True) (fun z => .bool z) (fun _ => [])) := by
 refine i5 uJ rfl t3 fun w0 => ?_; refine i3 (c8 rfl (n9 (b6 rfl (b6 rfl ?_)))); refine O7 _ rfl rfl rfl rfl p8 (i8 M0 rfl rfl (L7 (n - 1) hn hs (by omega)) (.refl _) ⟨m0, tK⟩ fun x hx => ?_); obtain ⟨s1, z⟩ := x; obtain ⟨hs1, hz⟩ := hx; simp only [ToInv] at hz; refine H5 rfl rfl rfl (c8 rfl (c9 (k8 ?_))); exact ret1 (s1, _) rfl rfl rfl ⟨hs1, tK⟩ (.refl _) tK
def lineWords : List Str := [[97], [98], [99], [97, 110, 32, 49], [98, 101, 110], [99, 121, 100, 32, 49, 50]]
def PageOK (l : List Str) : Prop := ∀ s ∈ l, s ∈ lineWords
end Go.Proofs.YtdgmfagfpbdbhaaGreatDoor
end
