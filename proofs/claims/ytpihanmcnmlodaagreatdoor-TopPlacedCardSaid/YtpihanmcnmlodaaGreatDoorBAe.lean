/- Texts. -/
import Derived.RangeFuncLeaves
import Derived.RangeFuncRecord
import Derived.Scope
import Derived.Laws.Cover3
import Derived.Laws.Runes
import Derived.Shelf.Strings.OnBuilder
import Derived.Shelf.Strings.Runes
import Derived.Test.YtpihanmcnmlodaaGreatDoorBAd
set_option linter.unusedVariables false
set_option linter.unusedSimpArgs false
section
namespace Go.Proofs.YtpihanmcnmlodaaGreatDoor
open Go Go.W Tryz T F
set_option maxRecDepth 20000
attribute [local irreducible] HL HC HQ HB Row Rows2 Blk Facts
def dice (g : Nat) (A : Option Addr) (c : Nat) (nums : List Int) (s : Int × Int) : Nat × Obj := (g, .cells #[.slice A nums.length c, int s.1, .int .u64 s.2] nR (0, 0))
def DOK (nums : List Int) (s : Int × Int) : Prop := 0 ≤ s.1 ∧ s.1 ≤ nums.length ∧ 0 ≤ s.2 ∧ s.2 < 18446744073709551616
def diceCon {β : Type} (g : Nat) (A : Option Addr) (c : Nat) (nums : List Int) (s : Int × Int) (inv : β → Prop) (val : β → Value) (LO : β → List Fact) : Con ((Int × Int) × β) :=
  { hpI := [dice g A c nums s], LI := [Row A (rows nums)], inv := fun x => DOK nums x.1 ∧ inv x.2, val := fun x => val x.2, hpO := fun x => [dice g A c nums x.1], LO := fun x => LO x.2 }
theorem rQ {g : Nat} {A : Option Addr} {c : Nat} {nums : List Int} {s : Int × Int} (hn : nums.length ≤ 9223372036854775807) (hs : DOK nums s) :
    Meets prog bG [.pointer (i7 g)] (diceCon g A c nums s (fun z : Int => 0 ≤ z ∧ z < 18446744073709551616) (fun z => .int .u64 z) (fun _ => [])) := by
 obtain ⟨p, q⟩ := s; obtain ⟨h1, h2, h3, h4⟩ := hs; simp only at h1 h2 h3 h4; obtain ⟨pn, rfl⟩ := Int.eq_ofNat_of_zero_le h1; refine d3 uP rfl n2 fun w0 => ?_; refine d4 (b6 rfl (c3 (d1 ?_))); refine G9 11 mixed (by decide) (by decide) rfl rfl (p9 rfl (p9 rfl (m6 (fun w1 => l7 rfl rfl (q_z rfl)) ?_)))
 apply k9 _ rfl rfl rfl
 ·intro w1
  first | refine b2 ⟨_, 2, none⟩ rfl rfl j5 rfl ?_ | refine b2 _ rfl rfl j5 rfl ?_
  refine b7 ?_; exact i6 rfl
 apply k9 _ rfl rfl rfl
 ·intro w1
  first | refine b3 rfl n3 rfl (d5 mB rfl) ?_ | refine b3 rfl n3 rfl (j3 mB rfl) ?_ | refine b3 rfl n3 rfl (i1 mB (c5 (by omega) rfl)) ?_ | refine b3 rfl n3 rfl (i3 mB (rows_get (by omega) rfl)) ?_
  refine b7 ?_; exact i6 rfl
 refine p9 rfl (m6 (fun w1 => l7 rfl rfl (q_z rfl)) ?_)
 apply k9 _ rfl rfl rfl
 ·intro w1
  first | refine b2 ⟨_, 2, none⟩ rfl rfl j5 rfl ?_ | refine b2 _ rfl rfl j5 rfl ?_
  refine b7 ?_; exact i6 rfl
 apply k9 _ rfl rfl rfl
 ·intro w1
  first | refine b3 rfl n3 rfl (d5 mB rfl) ?_ | refine b3 rfl n3 rfl (j3 mB rfl) ?_ | refine b3 rfl n3 rfl (i1 mB (c5 (by omega) rfl)) ?_ | refine b3 rfl n3 rfl (i3 mB (rows_get (by omega) rfl)) ?_
  refine b7 ?_; exact i6 rfl
 refine m6 (fun w1 => l1 _ rfl rfl rfl (fun _ => rfl) (fun _ => rfl) (q_z rfl)) (m6 (fun w1 => l1 _ rfl rfl rfl (fun _ => rfl) (fun _ => rfl) (q_z rfl)) ?_); refine y8 ⟨rfl, ?_⟩; refine l7 rfl rfl ?_
 first | refine b2 ⟨_, 2, none⟩ rfl rfl j5 rfl ?_ | refine b2 _ rfl rfl j5 rfl ?_
 refine u9 rfl rfl vP pU (by rfl) (by rfl) ?_; refine c3 (d1 ?_); refine G9 11 mixed (by decide) (by decide) rfl rfl (p9 rfl (p9 rfl (m6 (fun w1 => l7 rfl rfl (q_z rfl)) ?_)))
 apply k9 _ rfl rfl rfl
 ·intro w1
  first | refine b2 ⟨_, 2, none⟩ rfl rfl j5 rfl ?_ | refine b2 _ rfl rfl j5 rfl ?_
  refine b7 ?_; exact i6 rfl
 apply k9 _ rfl rfl rfl
 ·intro w1
  first | refine b3 rfl n3 rfl (d5 mB rfl) ?_ | refine b3 rfl n3 rfl (j3 mB rfl) ?_ | refine b3 rfl n3 rfl (i1 mB (c5 (by omega) rfl)) ?_ | refine b3 rfl n3 rfl (i3 mB (rows_get (by omega) rfl)) ?_
  refine b7 ?_; exact i6 rfl
 refine p9 rfl (m6 (fun w1 => l7 rfl rfl (q_z rfl)) ?_)
 apply k9 _ rfl rfl rfl
 ·intro w1
  first | refine b2 ⟨_, 2, none⟩ rfl rfl j5 rfl ?_ | refine b2 _ rfl rfl j5 rfl ?_
  refine b7 ?_; exact i6 rfl
 apply k9 _ rfl rfl rfl
 ·intro w1
  first | refine b3 rfl n3 rfl (d5 mB rfl) ?_ | refine b3 rfl n3 rfl (j3 mB rfl) ?_ | refine b3 rfl n3 rfl (i1 mB (c5 (by omega) rfl)) ?_ | refine b3 rfl n3 rfl (i3 mB (rows_get (by omega) rfl)) ?_
  refine b7 ?_; exact i6 rfl
 refine m6 (fun w1 => l1 _ rfl rfl rfl (fun _ => rfl) (fun _ => rfl) (q_z rfl)) (m6 (fun w1 => l1 _ rfl rfl rfl (fun _ => rfl) (fun _ => rfl) (q_z rfl)) ?_); refine y8 ⟨rfl, ?_⟩; refine l7 rfl rfl ?_
 first | refine b2 ⟨_, 2, none⟩ rfl rfl j5 rfl ?_ | refine b2 _ rfl rfl j5 rfl ?_
 refine u9 rfl rfl vP pU (by rfl) (by rfl) ?_; refine c3 (d1 ?_); refine G9 11 mixed (by decide) (by decide) rfl rfl (p9 rfl (p9 rfl (m6 (fun w1 => l7 rfl rfl (q_z rfl)) ?_)))
 apply k9 _ rfl rfl rfl
 ·intro w1
  first | refine b2 ⟨_, 2, none⟩ rfl rfl j5 rfl ?_ | refine b2 _ rfl rfl j5 rfl ?_
  refine b7 ?_; exact i6 rfl
 apply k9 _ rfl rfl rfl
 ·intro w1
  first | refine b3 rfl n3 rfl (d5 mB rfl) ?_ | refine b3 rfl n3 rfl (j3 mB rfl) ?_ | refine b3 rfl n3 rfl (i1 mB (c5 (by omega) rfl)) ?_ | refine b3 rfl n3 rfl (i3 mB (rows_get (by omega) rfl)) ?_
  refine b7 ?_; exact i6 rfl
 refine p9 rfl (m6 (fun w1 => l7 rfl rfl (q_z rfl)) ?_)
 apply k9 _ rfl rfl rfl
 ·intro w1
  first | refine b2 ⟨_, 2, none⟩ rfl rfl j5 rfl ?_ | refine b2 _ rfl rfl j5 rfl ?_
  refine b7 ?_; exact i6 rfl
 apply k9 _ rfl rfl rfl
 ·intro w1
  first | refine b3 rfl n3 rfl (d5 mB rfl) ?_ | refine b3 rfl n3 rfl (j3 mB rfl) ?_ | refine b3 rfl n3 rfl (i1 mB (c5 (by omega) rfl)) ?_ | refine b3 rfl n3 rfl (i3 mB (rows_get (by omega) rfl)) ?_
  refine b7 ?_; exact i6 rfl
 refine m6 (fun w1 => l1 _ rfl rfl rfl (fun _ => rfl) (fun _ => rfl) (q_z rfl)) (m6 (fun w1 => l1 _ rfl rfl rfl (fun _ => rfl) (fun _ => rfl) (q_z rfl)) ?_); refine y8 ⟨rfl, ?_⟩; refine l7 rfl rfl ?_
 first | refine b2 ⟨_, 2, none⟩ rfl rfl j5 rfl ?_ | refine b2 _ rfl rfl j5 rfl ?_
 refine u9 rfl rfl vP pU (by rfl) (by rfl) ?_; refine c3 (cW ?_); refine G9 9 mixed (by decide) (by decide) rfl rfl (p9 rfl (m6 (fun w1 => l7 rfl rfl (q_z rfl)) ?_))
 apply k9 _ rfl rfl rfl
 ·intro w1
  first | refine b2 ⟨_, 1, none⟩ rfl rfl u6 rfl ?_ | refine b2 _ rfl rfl u6 rfl ?_
  refine b7 ?_; exact i6 rfl
 apply k9 _ rfl rfl rfl
 ·intro w1
  first | refine b3 rfl b5 rfl (d5 mB rfl) ?_ | refine b3 rfl b5 rfl (j3 mB rfl) ?_ | refine b3 rfl b5 rfl (i1 mB (c5 (by omega) rfl)) ?_ | refine b3 rfl b5 rfl (i3 mB (rows_get (by omega) rfl)) ?_
  refine b7 ?_; exact i6 rfl
 refine p9 rfl (m6 (fun w1 => l7 rfl rfl (q_z rfl)) ?_)
 apply k9 _ rfl rfl rfl
 ·intro w1
  first | refine b2 ⟨_, 0, none⟩ rfl rfl D9 rfl ?_ | refine b2 _ rfl rfl D9 rfl ?_
  refine b7 ?_; exact i6 rfl
 apply k9 _ rfl rfl rfl
 ·intro w1
  first | refine b3 rfl d9 rfl (d5 mB rfl) ?_ | refine b3 rfl d9 rfl (j3 mB rfl) ?_ | refine b3 rfl d9 rfl (i1 mB (c5 (by omega) rfl)) ?_ | refine b3 rfl d9 rfl (i3 mB (rows_get (by omega) rfl)) ?_
  refine b7 ?_; exact i6 rfl
 refine m6 (fun w1 => k5 rfl j2 rfl (q_z rfl)) ?_; refine y8 ⟨rfl, ?_⟩; refine u7 rfl rfl rfl (c3 ?_)
 first | refine j9 rfl (fun hb1 => ?_) (fun hb1 => ?_) | refine d6 rfl (fun hb1 => ?_) (fun hb1 => ?_)
 ·have hb1' := hb1; try simp at hb1'
  refine d1 (G9 18 mixed (by decide) (by decide) rfl rfl (p9 rfl (p9 rfl (m6 (fun w1 => l7 rfl rfl (q_z rfl)) ?_))))
  apply k9 _ rfl rfl rfl
  ·intro w1
   first | refine b2 ⟨_, 2, none⟩ rfl rfl j5 rfl ?_ | refine b2 _ rfl rfl j5 rfl ?_
   refine b7 ?_; exact i6 rfl
  apply k9 _ rfl rfl rfl
  ·intro w1
   first | refine b3 rfl n3 rfl (d5 mB rfl) ?_ | refine b3 rfl n3 rfl (j3 mB rfl) ?_ | refine b3 rfl n3 rfl (i1 mB (c5 (by omega) rfl)) ?_ | refine b3 rfl n3 rfl (i3 mB (rows_get (by omega) rfl)) ?_
   refine b7 ?_; exact i6 rfl
  refine p9 rfl (m6 (fun w1 => l7 rfl rfl (q_z rfl)) ?_)
  apply k9 _ rfl rfl rfl
  ·intro w1
   first | refine b2 ⟨_, 0, none⟩ rfl rfl D9 rfl ?_ | refine b2 _ rfl rfl D9 rfl ?_
   refine b7 ?_; exact i6 rfl
  apply k9 _ rfl rfl rfl
  ·intro w1
   first | refine b3 rfl d9 rfl (d5 mB rfl) ?_ | refine b3 rfl d9 rfl (j3 mB rfl) ?_ | refine b3 rfl d9 rfl (i1 mB (c5 (by omega) rfl)) ?_ | refine b3 rfl d9 rfl (i3 mB (rows_get (by omega) rfl)) ?_
   refine b7 ?_; exact i6 rfl
  refine p9 rfl (m6 (fun w1 => l7 rfl rfl (q_z rfl)) ?_)
  apply k9 _ rfl rfl rfl
  ·intro w1
   first | refine b2 ⟨_, 1, none⟩ rfl rfl u6 rfl ?_ | refine b2 _ rfl rfl u6 rfl ?_
   refine b7 ?_; exact i6 rfl
  apply k9 _ rfl rfl rfl
  ·intro w1
   first | refine b3 rfl b5 rfl (d5 mB rfl) ?_ | refine b3 rfl b5 rfl (j3 mB rfl) ?_ | refine b3 rfl b5 rfl (i1 mB (c5 (by omega) rfl)) ?_ | refine b3 rfl b5 rfl (i3 mB (rows_get (by omega) rfl)) ?_
   refine b7 ?_; exact i6 rfl
  refine m6 (fun w1 => p8 (α := Int) _ pn rfl j2 k6 rfl rfl rfl m1 rfl (by omega) (by decide) (q_z rfl)) (m6 (fun w1 => b3 rfl b5 rfl (i1 mB (c5 (by omega) rfl)) (q_z rfl)) (m6 (fun w1 => nZ _ rfl cI yY rfl rfl (q_z rfl)) (m6 (fun w1 => l1 _ rfl rfl rfl (fun _ => rfl) (fun _ => rfl) (q_z rfl)) (m6 (fun w1 => l1 _ rfl rfl rfl (fun _ => rfl) (fun _ => rfl) (q_z rfl)) ?_)))); refine y8 ⟨rfl, ?_⟩; refine l7 rfl rfl ?_
  first | refine b2 ⟨_, 2, none⟩ rfl rfl j5 rfl ?_ | refine b2 _ rfl rfl j5 rfl ?_
  refine u9 rfl rfl vP pU (by rfl) (by rfl) ?_; refine c3 (c9 (b4 rfl (l7 rfl rfl ?_)))
  first | refine b2 ⟨_, 1, none⟩ rfl rfl u6 rfl ?_ | refine b2 _ rfl rfl u6 rfl ?_
  first | refine b3 rfl b5 rfl (j3 mB rfl) ?_ | refine b3 rfl b5 rfl (d5 mB rfl) ?_ | refine b3 rfl b5 rfl (i1 mB (c5 (by omega) rfl)) ?_ | refine b3 rfl b5 rfl (i3 mB (rows_get (by omega) rfl)) ?_
  refine r4 _ rfl rfl rfl rfl m7 (l7 rfl rfl ?_)
  first | refine b2 ⟨_, 1, none⟩ rfl rfl u6 rfl ?_ | refine b2 _ rfl rfl u6 rfl ?_
  refine u9 rfl rfl vP k6 (by rfl) (by rfl) ?_; refine j4 (b4 rfl (l7 rfl rfl ?_))
  first | refine b2 ⟨_, 2, none⟩ rfl rfl j5 rfl ?_ | refine b2 _ rfl rfl j5 rfl ?_
  first | refine b3 rfl n3 rfl (j3 mB rfl) ?_ | refine b3 rfl n3 rfl (d5 mB rfl) ?_ | refine b3 rfl n3 rfl (i1 mB (c5 (by omega) rfl)) ?_ | refine b3 rfl n3 rfl (i3 mB (rows_get (by omega) rfl)) ?_
  refine b6 rfl (j4 (b4 rfl (b4 rfl ?_))); refine l1 _ rfl rfl rfl (fun _ => rfl) (fun _ => rfl) (l1 _ rfl rfl rfl (fun _ => rfl) (fun _ => rfl) (l1 _ rfl rfl rfl (fun _ => rfl) (fun _ => rfl) ?_)); refine b6 rfl (j4 (b4 rfl (b4 rfl ?_))); refine l1 _ rfl rfl rfl (fun _ => rfl) (fun _ => rfl) (l1 _ rfl rfl rfl (fun _ => rfl) (fun _ => rfl) ?_); refine b6 rfl (c3 (j6 ?_)); exact ret1 ((_, _), _) rfl rfl rfl ⟨⟨by simp only; omega, by simp only; omega, (wrapU _).1, (wrapU _).2⟩, wrapU _⟩ (.refl _) tK
 have hb1' := hb1; try simp at hb1'
 refine i4 (c7 (d4 (b4 rfl (l7 rfl rfl ?_))))
 first | refine b2 ⟨_, 2, none⟩ rfl rfl j5 rfl ?_ | refine b2 _ rfl rfl j5 rfl ?_
 first | refine b3 rfl n3 rfl (j3 mB rfl) ?_ | refine b3 rfl n3 rfl (d5 mB rfl) ?_ | refine b3 rfl n3 rfl (i1 mB (c5 (by omega) rfl)) ?_ | refine b3 rfl n3 rfl (i3 mB (rows_get (by omega) rfl)) ?_
 refine b6 rfl (j4 (b4 rfl (b4 rfl ?_))); refine l1 _ rfl rfl rfl (fun _ => rfl) (fun _ => rfl) (l1 _ rfl rfl rfl (fun _ => rfl) (fun _ => rfl) (l1 _ rfl rfl rfl (fun _ => rfl) (fun _ => rfl) ?_)); refine b6 rfl (j4 (b4 rfl (b4 rfl ?_))); refine l1 _ rfl rfl rfl (fun _ => rfl) (fun _ => rfl) (l1 _ rfl rfl rfl (fun _ => rfl) (fun _ => rfl) ?_); refine b6 rfl (c3 (j6 ?_)); exact ret1 ((_, _), _) rfl rfl rfl ⟨⟨by simp only; omega, by simp only; omega, (wrapU _).1, (wrapU _).2⟩, wrapU _⟩ (.refl _) tK
theorem jq3 {z n : Int} (hz : 0 ≤ z) (hn : 0 ≤ n) : 0 ≤ z.tmod (n + 1) ∧ z.tmod (n + 1) ≤ n := by
  have h1 := Int.tmod_nonneg (n + 1) hz; have h2 := Int.tmod_lt_of_pos z (show 0 < n + 1 by omega)
  omega
def ToInv (n z : Int) : Prop := 0 ≤ z ∧ (1 ≤ n → z ≤ n) ∧ (n < 1 → z = 0)
theorem w8 {g : Nat} {A : Option Addr} {c : Nat} {nums : List Int} {s : Int × Int} (n : Int) (hn : nums.length ≤ 9223372036854775807) (hs : DOK nums s) (hI : n ≤ 9223372036854775806) :
    Meets prog dO [.pointer (i7 g), int n] (diceCon g A c nums s (ToInv n) (fun z => int z) (fun _ => [])) := by
 refine d3 wS rfl n2 fun w0 => ?_; refine d4 (b6 rfl (c3 (d1 (d4 (b4 rfl (u7 rfl rfl rfl (c3 ?_)))))))
 first | refine j9 rfl (fun hb1 => ?_) (fun hb1 => ?_) | refine d6 rfl (fun hb1 => ?_) (fun hb1 => ?_)
 ·have hb1' := hb1; try simp at hb1'
  refine d4 (b6 rfl (c3 (M2 ?_))); exact ret1 (s, 0) rfl rfl rfl ⟨hs, by omega, by intro; omega, by intro; rfl⟩ (.refl _) tK
 have hb1' := hb1; try simp at hb1'
 refine i4 (c7 (d4 (b4 rfl ?_))); refine i5 sG rfl rfl (rQ hn hs) (.refl _) ⟨m0, tK⟩ fun x hx => ?_; obtain ⟨s1, z⟩ := x; obtain ⟨hs1, hz⟩ := hx; simp only at hz; refine l1 _ rfl rfl rfl (fun _ => rfl) (fun _ => rfl) (b4 rfl (r4 _ rfl rfl rfl rfl m7 (nZ (n + 1) rfl cI yY rfl (IntWalk.u64_in _ (by omega)) (r_rem rfl rfl rfl (by omega) ?_)))); have hm := jq3 (z := z.fdiv (2 ^ min (Int.toNat 16) IntKind.u64.bits)) (n := n) (Int.fdiv_nonneg hz.1 (by decide)) (by omega); refine nZ ((z.fdiv (2 ^ min (Int.toNat 16) IntKind.u64.bits)).tmod (n + 1)) rfl yY cI rfl (IntWalk.i64_in ((z.fdiv (2 ^ min (Int.toNat 16) IntKind.u64.bits)).tmod (n + 1)) (by omega)) ?_; refine b6 rfl (c3 (j6 ?_)); exact ret1 (s1, _) rfl rfl rfl ⟨hs1, hm.1, fun _ => hm.2, fun h => by omega⟩ (.refl _) tK
theorem Q2 {g : Nat} {A : Option Addr} {c : Nat} {nums : List Int} {s : Int × Int} (n : Int) (hn : nums.length ≤ 9223372036854775807) (hs : DOK nums s) (hI : 0 ≤ n ∧ n ≤ 9223372036854775806) :
    Meets prog Z8 [.pointer (i7 g), int n] (diceCon g A c nums s (fun _ : Bool => True) (fun z => .bool z) (fun _ => [])) := by
 refine d3 sI rfl n2 fun w0 => ?_; refine d4 (b6 rfl (j4 (b4 rfl (b4 rfl ?_)))); refine H3 _ rfl rfl rfl rfl m7 (i5 w9 rfl rfl (w8 (n - 1) hn hs (by omega)) (.refl _) ⟨m0, tK⟩ fun x hx => ?_); obtain ⟨s1, z⟩ := x; obtain ⟨hs1, hz⟩ := hx; simp only [ToInv] at hz; refine I2 rfl rfl rfl (b6 rfl (c3 (j6 ?_))); exact ret1 (s1, _) rfl rfl rfl ⟨hs1, tK⟩ (.refl _) tK
def lineWords : List Str := [[97], [98], [99], [97, 110, 32, 49], [98, 101, 110], [99, 121, 100, 32, 49, 50]]
def PageOK (l : List Str) : Prop := ∀ s ∈ l, s ∈ lineWords
end Go.Proofs.YtpihanmcnmlodaaGreatDoor
end
section
namespace Go.W
open Go Go.RowKit
/-! ### The first of a list of slices -/
section
variable {α : Type} [El α] {c : Cx} {Q : Exit → Act → World → Prop} {fr : Fr} {hp : Hp} {L : List Fact} {ops : Array Oper} {rest : List Oper} {A : Option Addr} {ps : List (Sl α)}
end
/-! ### Facts that follow from the world; nil -/
section
variable {c : Cx} {Q : Exit → Act → World → Prop} {fr : Fr} {hp : Hp} {L : List Fact} {ops : Array Oper} {rest : List Oper}
theorem jx1 {g : Nat} {o : Obj} {e : Exit} (k : HQ c Q e fr hp (Blk g o :: L)) : HQ c Q e fr ((g, o) :: hp) L := fun a w ha hw => k a w ha (vF hw)
variable {d : Tmp} {ty : TypeId} {pos : String} {af : Array Edge}
theorem lj0 {t e yt : TypeId} {x y : Operand} {A : Option Addr} {n cp : Nat} (hd : Nat.blt d c.n = true) (ht : c.P.underlying t = some (.slice e)) (hx : ev fr x = some (.slice A n cp)) (hy : ev fr y = some (.slice none 0 0)) (k : HL c ops Q rest ((d, .bool A.isNone) :: fr) hp L) :
    HL c ops Q (⟨some d, .binOp .eql t x y yt, ty, pos, af, none⟩ :: rest) fr hp L :=
  l1 _ hd hx hy (fun _ => rfl) (fun w => by
    show ((do pure (Value.bool (← Op.equal t (.slice A n cp) (.slice none 0 0)))) : Sem Value).run c.P w = _
    simp only [Sem.run_bind, run_equal_slice_nil w t e A n cp ht, Result.andThen_ok, Sem.run_pure]) k
end
/-! ### A store into a slice of the call's own -/
theorem Grow.open_ {e : TypeId} {sz n cap : Nat} {A : Option Addr} {xs : List Value} {og : Hp} (h : Grow e sz A n cap xs og) (hn : 0 < n) : ∃ g cur, A = some ⟨g, 0, none⟩ ∧ og = [(g, Obj.cells cur e (0, 0))] ∧ n ≤ cap ∧ cap ≤ maxLen ∧ cur.size = cap * sz ∧ cur.toList.take (n * sz) = xs ∧ xs.length = n * sz := by
  rcases h with ⟨hl, ⟨_, h, _⟩ | ⟨g, cur, h1, h2, h3, h4, h5, h6⟩⟩
  · omega
  exact ⟨g, cur, h1, h2, h3, h4, h5, h6, hl⟩
theorem pV {α : Type} [El α] (h1 : El.sz α = 1) (v : Value) (a : α) (hv : El.cells a = [v]) : ∀ (l : List α) (k : Nat), (rows l).set k v = rows (l.set k a)
  | [], k => by simp [zJ]
  | b :: l, 0 => by
    have hb : ∃ u, El.cells b = [u] := by
      have := El.len b; rw [h1] at this; exact List.length_eq_one_iff.1 this
    obtain ⟨u, hu⟩ := hb; rw [List.set_cons_zero, Z0, Z0, hu, hv]
    rfl
  | b :: l, k + 1 => by
    have hb : ∃ u, El.cells b = [u] := by
      have := El.len b; rw [h1] at this; exact List.length_eq_one_iff.1 this
    obtain ⟨u, hu⟩ := hb; rw [List.set_cons_succ, Z0, Z0, hu, ← pV h1 v a hv l k]
    rfl
theorem Grow.set {α : Type} [El α] {e : TypeId} {cap g k : Nat} {cur : Array Value} {l : List α} {v : Value} {a : α} (h1 : El.sz α = 1) (hv : El.cells a = [v]) (h3 : l.length ≤ cap) (h4 : cap ≤ maxLen) (h5 : cur.size = cap * 1) (h6 : cur.toList.take (l.length * 1) = rows l) :
    Grow e 1 (i7 g) l.length cap (rows (l.set k a)) [(g, Obj.cells (cur.setIfInBounds k v) e (0, 0))] := by
  refine ⟨by rw [S1, h1, List.length_set], .inr ⟨g, _, rfl, rfl, h3, h4, by simpa using h5, ?_⟩⟩; rw [← pV h1 v a hv, ← h6, Array.toList_setIfInBounds, List.take_set]
/-! ### make -/
theorem made1 (z : Value) (n : Nat) : madeCells #[z] n = (List.replicate n z).toArray := by
  apply Array.ext
  · simp [madeCells]
  intro i h1 h2
  simp [madeCells, Nat.mod_one]
theorem iq0 {c : Cx} {Q : Exit → Act → World → Prop} {fr : Fr} {hp : Hp} {L : List Fact} {ops : Array Oper} {rest : List Oper} {d : Tmp} {ty : TypeId} {pos : String} {af : Array Edge}
    {t e : TypeId} {x y : Operand} {n bytes : Nat} {z : Value} {m : Int} (hd : Nat.blt d c.n = true) (ht : c.P.underlying t = some (.slice e)) (hi : (c.P.info? e).map (fun i => (i.zero, i.size, i.bytes)) = some (some z, 1, bytes)) (hz : z.cells = #[z])
    (hx : ev fr x = some (int m)) (hy : ev fr y = some (int m)) (hm : m = (n : Int)) (hb : bytes * n ≤ 140737488355328) (hn : n ≤ 140737488355328)
    (k : ∀ g, HL c ops Q rest ((d, .slice (i7 g) n n) :: fr) ((g, .cells (List.replicate n z).toArray e (0, 0)) :: hp) L) : HL c ops Q (⟨some d, .makeSlice t x y, ty, pos, af, none⟩ :: rest) fr hp L :=
  rT (.cells (List.replicate n z).toArray e (0, 0)) (fun g => .slice (i7 g) n n) rfl rfl hd (fun a w ha _ => by
    subst hm; obtain ⟨i, h1, h2, h3, h4⟩ := info_parts hi
    have hb' : (i.bytes : Int) * (n : Int) ≤ 281474976710656 := by
      have h : ((i.bytes * n : Nat) : Int) ≤ 281474976710656 := by rw [h4]; omega
      rwa [Int.natCast_mul] at h
    have hr := run_make (P := c.P) w t e i z ht h1 h2 .i64 .i64 n n (by omega) (Int.le_refl _) hb' (by omega); simp only [Int.toNat_natCast, h3, Nat.mul_one, hz, made1] at hr
    simp only [execOp, ha.ev hx, ha.ev hy, Sem.run_bind, hr, Result.andThen_ok, Sem.run_pure]) k
/-! ### Scopes and labels -/
section
variable {Q : Exit → Act → World → Prop} {fr : Fr} {hp : Hp} {L : List Fact}
theorem lz2 {P : Program} {n : Nat} {b : Bx} {D : List Deferred} {x : Code} (h : HC ⟨P, n, b, D, none⟩ x (Exit.noGoto Q) fr hp L) : HC ⟨P, n, b, D, none⟩ (.scope x) Q fr hp L :=
  fun a w ha hw => wpIn_wide.2 (wp_scope_straight (wpIn_wide.1 (h a w ha hw)))
theorem pB {c : Cx} (h : HQ c Q .ret fr hp L) : HQ c (Exit.noGoto Q) .ret fr hp L := fun a w ha hw => h a w ha hw
theorem lz4 {c : Cx} {l : Nat} (h : HQ c Q .normal fr hp L) : HC c (.label l) Q fr hp L := fun a w ha hw => wpIn_label (h a w ha hw)
end
/-! ### A loop's yield -/
def recL (fn : FuncId) (tmps : Array Value) (ps : Array Tmp) (assign body : Code) (d : Nat) (j : Option Code) : Loop := { state := if j.isNone then .ready else .done, pending := j, fn, tmps, params := ps, assign, body, defers := d }
def recB (fn : FuncId) (tmps : Array Value) (ps : Array Tmp) (assign body : Code) (d : Nat) : Loop := { state := .busy, pending := none, fn, tmps, params := ps, assign, body, defers := d }
def yieldV (l : Nat) : Value := .func (.yield l) #[] #[]
def MeetsY (P : Program) (l : Nat) (args : List Value) {β : Type} (k : Con β) : Prop :=
  ∀ w, WI (k.entry w) w k.hpI k.LI → ∃ f tmps assign body, (Instr.yield l args.toArray).run P w = .ok (.round l f tmps assign body) w ∧ RoundIn Fence.wide 0 P l f tmps assign body w (k.post w)
theorem evals {n : Cx} {a : Act} {fr : Fr} (ha : Ok n a fr) : ∀ (xs : List Operand) (vs : List Value), xs.mapM (ev fr) = some vs → xs.map a.eval = vs := by
  intro xs
  induction xs with
  | nil => intro vs h; simpa using h
  | cons x xs ih =>
    intro vs h; simp only [List.mapM_cons, Option.bind_eq_bind, Option.bind_eq_some_iff, Option.pure_def, Option.some.injEq] at h; obtain ⟨v, hv, us, hus, rfl⟩ := h; rw [List.map_cons, ha.ev hv, ih us hus]
section
variable {c : Cx} {Q : Exit → Act → World → Prop} {fr : Fr} {hp : Hp} {L : List Fact} {ops : Array Oper} {rest : List Oper}
variable {d : Tmp} {ty : TypeId} {pos : String} {af : Array Edge}
theorem lx8 {l : Nat} {x : Operand} {aS9 : Array Operand} {ats : Array TypeId} {vs : List Value} {β : Type} {k : Con β} {hpR : Hp} (hd : Nat.blt d c.n = true) (hf : ev fr x = some (yieldV l)) (hx : aS9.toList.mapM (ev fr) = some vs)
    (hm : MeetsY c.P l vs k) (h1 : hp.Perm (k.hpI ++ hpR)) (h2 : LSub L k.LI) (kk : ∀ x, k.inv x → HL c ops Q rest ((d, k.val x) :: fr) (k.hpO x ++ hpR) (k.LO x ++ L)) :
    HL c ops Q (⟨some d, .call ⟨.value x, aS9, ats⟩, ty, pos, af, none⟩ :: rest) fr hp L := by
  intro a w ha hw; refine gx2 rfl (.inr ⟨rfl, ?_⟩); have e1 : aS9.map a.eval = vs.toArray := by apply Array.ext'; simpa using evals ha _ _ hx
  obtain ⟨f, tmps, assign, body, h3, h4⟩ := hm w (hw.entry h1 h2.mem); refine ⟨l, f, tmps, assign, body, ?_, h4.mono fun e w' hp => ?_⟩
  · show ((do let dd ← resolve a.eval ⟨.value x, aS9, ats⟩ ty; invoke dd.target dd.args) : Sem Next).run c.P w = _
    simp only [resolve, ha.ev hf, yieldV, e1, Deferred.ofValue, Sem.run_bind, Sem.run_pure, Result.andThen_ok, invoke]
    simpa using h3
  obtain ⟨x, rfl, hi, hwi⟩ := hp; exact ⟨_, rfl, kk x hi _ _ (ha.put (by simpa using hd) _) (hw.back h1 h2.mem hwi)⟩
end
def setAll (ps : List (Tmp × Value)) (fr : Fr) : Fr := ps.foldl (fun fr p => p :: fr) fr
theorem az2 : ∀ (ps : List (Tmp × Value)) (tmps : Array Value) (fr : Fr), (∀ p ∈ ps, p.1 < tmps.size) → (∀ t v, lk fr t = some v → tmps.getD t undef = v) →
    (ps.foldl (fun tmps p => tmps.setIfInBounds p.1 p.2) tmps).size = tmps.size ∧ ∀ t v, lk (setAll ps fr) t = some v → (ps.foldl (fun tmps p => tmps.setIfInBounds p.1 p.2) tmps).getD t undef = v
  | [], tmps, fr, _, h => ⟨rfl, h⟩
  | (p, u) :: ps, tmps, fr, hlt, h => by
    have h1 := az2 ps (tmps.setIfInBounds p u) ((p, u) :: fr) (fun q hq => by simpa using hlt q (by simp [hq])) (fun t v hv => by
      rw [z8] at hv; have hp : p < tmps.size := hlt (p, u) (by simp)
      by_cases e : p = t
      · subst e
        simp at hv
        subst hv
        simp [hp]
      rw [if_neg e] at hv; have := h t v hv
      simpa [Array.getElem?_setIfInBounds_ne e] using this)
    exact ⟨by simpa using h1.1, h1.2⟩
def BeginQ (c : Cx) (l : Nat) (body : Code) (Q : Exit → Act → World → Prop) (a : Act) (w : World) : Prop :=
  ∃ w2, (Instr.beginRound l).run c.P w = .ok () w2 ∧ body.wpIn (FF c.rd) 0 c.P Q a w2
theorem WI.putObj {b : Bx} {w : World} {hp : Hp} {L : List Fact} {g : Nat} {o : Obj} (o' : Obj) (h : WI b w ((g, o) :: hp) L) : WI b (w.putObj g o') ((g, o') :: hp) L :=
  h.write ⟨rfl, rfl, rfl, by simp, fun k _ hn => World.putObj_heap_other (by simpa using hn), Nat.le_refl _⟩ (World.putObj_heap_same (J4 (h.own (g, o) (by simp))))
section
variable {c : Cx} {fr : Fr} {hp : Hp} {L : List Fact} {fn : FuncId} {tmps : Array Value} {ps : Array Tmp} {assign body : Code} {d l : Nat} {β : Type} {k : Con β} {w0 : World}
theorem gz1 {Q : Exit → Act → World → Prop} {hp' : Hp} (hpp : hp.Perm ((l, .loop (recL fn tmps ps assign body d none)) :: hp')) (h : HC c body Q fr ((l, .loop (recB fn tmps ps assign body d)) :: hp') L) : HQ c (Exit.then (BeginQ c l body Q) (fun _ _ _ => False)) .normal fr hp L := by
  intro a w ha hw; have hw' := hw.perm hpp; have hl := hw'.own (l, .loop (recL fn tmps ps assign body d none)) (by simp); exact ⟨_, run_beginRound hl rfl, h a _ ha (hw'.putObj _)⟩
theorem rp_end {hp' : Hp} (x : β) (j : Option Code) (hpp : hp.Perm ((l, .loop (recB fn tmps ps assign body d)) :: hp')) (hb : c.b = k.entry w0) (hv : k.val x = .bool j.isNone) (hi : k.inv x) (h2 : (k.hpO x).Sublist ((l, .loop (recL fn tmps ps assign body d j)) :: hp')) (h3 : LSub L (k.LO x)) {a : Act} {w : World} (hw : WI c.b w hp L) :
    ∃ v w', (Instr.endRound l j).run c.P w = .ok v w' ∧ (k.post w0) (.returned v) w' := by
  have hw' := hw.perm hpp; have hl := hw'.own (l, .loop (recB fn tmps ps assign body d)) (by simp); exact ⟨_, _, run_endRound j hl, x, by rw [hv], hi, hb ▸ (hw'.putObj _).weak h2 h3.mem⟩
theorem rp_n {hp' : Hp} (x : β) (hpp : hp.Perm ((l, .loop (recB fn tmps ps assign body d)) :: hp')) (hb : c.b = k.entry w0) (hv : k.val x = .bool true) (hi : k.inv x) (h2 : (k.hpO x).Sublist ((l, .loop (recL fn tmps ps assign body d none)) :: hp')) (h3 : LSub L (k.LO x)) : HQ c (roundPost c.P l (k.post w0)) .normal fr hp L :=
  fun a w _ hw => rp_end (a := a) x none hpp hb hv hi h2 h3 hw
end
theorem cj3 {β : Type} {P : Program} {l n d : Nat} {args : List Value} {k : Con β} {fn : FuncId} {tmps : Array Value} {ps : Array Tmp} {assign body : Code} {fr : Fr} (hI : (l, Obj.loop (recL fn tmps ps assign body d none)) ∈ k.hpI)
    (hsz : tmps.size = n) (hfr : ∀ t v, lk fr t = some v → tmps.getD t undef = v) (hlen : args.length = ps.size) (hps : ∀ t ∈ ps, t < n)
    (h : ∀ w, HC ⟨P, n, k.entry w, [], some l⟩ assign (Exit.then (BeginQ ⟨P, n, k.entry w, [], some l⟩ l body (roundPost P l (k.post w))) (fun _ _ _ => False)) (setAll (ps.toList.zip args) fr) k.hpI k.LI) : MeetsY P l args k := by
  intro w hw; have hl := hw.own _ hI; refine ⟨_, _, _, _, run_yield hl (by simpa [recL] using hlen), ?_⟩
  have h1 := az2 (ps.toList.zip args) tmps fr (fun p hp => by
    have := List.of_mem_zip hp; rw [hsz]
    exact hps _ (by simpa using this.1)) hfr
  have e : ((ps.zip args.toArray).foldl (fun tmps (x : Tmp × Value) => tmps.setIfInBounds x.1 x.2) tmps) = (ps.toList.zip args).foldl (fun tmps p => tmps.setIfInBounds p.1 p.2) tmps := by
    rw [← Array.foldl_toList]
    simp
  refine roundIn_of_wpIn tK ?_; refine h w _ w ⟨rfl, ?_, fun t v hv => ?_⟩ hw
  · exact (congrArg Array.size e).trans (h1.1.trans hsz)
  have := h1.2 t v hv; rw [← e] at this; exact this
/-! ### The statement -/
def markOf (d : Nat) : Deferred := { target := .collected d, args := #[] }
theorem cj9 {P : Program} {n : Nat} {b : Bx} {D : List Deferred} {Q : Exit → Act → World → Prop} {fr : Fr} {hp hpR : Hp} {L : List Fact} {g : Operand} {ps : Array Tmp} {assign body : Code} {f : Nat} {cap : List Value} {β : Type}
    (R : Hp) (LI : List Fact) (inv : β → Prop) (val : β → Value) (pend : β → Option Code) (RO : β → Hp) (LO : β → List Fact)
    (hg : ev fr g = some (.func (.func f) #[] cap.toArray)) (hcb : Callable P f) (hpp : hp.Perm (R ++ hpR)) (hL : LSub L LI)
    (hm : ∀ l d fn tmps, tmps.size = n → (∀ t v, lk fr t = some v → tmps.getD t undef = v) →
      Meets P f (yieldV l :: cap) ({ hpI := (l, .loop (recL fn tmps ps assign body d none)) :: R, LI := LI, inv := inv, val := val, hpO := fun x => (l, .loop (recL fn tmps ps assign body d (pend x))) :: RO x, LO := LO } : Con β))
    (k1 : ∀ x d, inv x → pend x = none → HQ ⟨P, n, b, markOf d :: D, none⟩ Q .normal fr ((d, .deferred (some [])) :: (RO x ++ hpR)) (LO x ++ L))
    (k2 : ∀ x d j, inv x → pend x = some j → HC ⟨P, n, b, markOf d :: D, none⟩ j Q fr ((d, .deferred (some [])) :: (RO x ++ hpR)) (LO x ++ L)) :
    HC ⟨P, n, b, D, none⟩ (.rangeFunc g ps assign body) Q fr hp L := by
  intro a w ha hw; have hsz : a.tmps.size = n := ha.sz; have hwa := (hw.perm hpp).alloc (.deferred (some [])); refine wpIn_rangeFunc fun fn _ => ?_; have hwb := hwa.alloc (.loop (recL fn a.tmps ps assign body w.heap.size none)); have hs1 : (w.alloc (.deferred (some []))).heap.size = w.heap.size + 1 := by simp
  rw [hs1] at hwb; have hno : (FF none).depth.isSome = true → 1 ≤ 0 := fun h => by cases h
  let W2 := (w.alloc (.deferred (some []))).alloc (.loop (recL fn a.tmps ps assign body w.heap.size none))
  refine ⟨w.heap.size + 1, [markOf w.heap.size], W2, ⟨.fn (.func f) cap.toArray, #[] ++ #[yieldV (w.heap.size + 1)]⟩, W2, f, #[yieldV (w.heap.size + 1)] ++ cap.toArray, W2, run_enterLoop_outer fn a.tmps ps assign body, ?_, fun _ _ => trivial, ?_, hno, ?_⟩
  · have e1 := ha.ev hg
    have e2 : a.eval (.const (.func (.yield (w.heap.size + 1)) #[] #[])) = yieldV (w.heap.size + 1) := rfl; simp only [rangeCall, resolve, e1, e2, Deferred.ofValue, List.map_toArray, List.map_cons, List.map_nil, Sem.run_pure]
  · have e3 : (#[] ++ #[yieldV (w.heap.size + 1)] ++ cap.toArray : Array Value) = #[yieldV (w.heap.size + 1)] ++ cap.toArray := by simp
    simp only [invoke, e3]; exact hcb.run _ _
  have hmm := hm (w.heap.size + 1) w.heap.size fn a.tmps hsz ha.at_
  let kk : Con β := { hpI := (w.heap.size + 1, .loop (recL fn a.tmps ps assign body w.heap.size none)) :: R, LI := LI, inv := inv, val := val, hpO := fun x => (w.heap.size + 1, .loop (recL fn a.tmps ps assign body w.heap.size (pend x))) :: RO x, LO := LO }
  have hperm : ((w.heap.size + 1, Obj.loop (recL fn a.tmps ps assign body w.heap.size none)) :: (w.heap.size, Obj.deferred (some [])) :: (R ++ hpR)).Perm (kk.hpI ++ ((w.heap.size, Obj.deferred (some [])) :: hpR)) := by
    refine C6 fun p => ?_; simp only [kk, List.cons_append, List.countP_cons, List.countP_append]
    omega
  have hc := hmm _ (WI.entry (k := kk) hwb hperm hL.mem); have e4 : (#[yieldV (w.heap.size + 1)] ++ cap.toArray : Array Value) = (yieldV (w.heap.size + 1) :: cap).toArray := by simp
  rw [e4]; refine gj9 (hc.mono fun e w3 hpo => ?_); obtain ⟨x, rfl, hi, hwi⟩ := hpo; have hwi2 := WI.back (k := kk) (x := x) hwb hperm hL.mem hwi; have hl := hwi2.own (w.heap.size + 1, .loop (recL fn a.tmps ps assign body w.heap.size (pend x))) (by simp [kk])
  have hwi3 : WI b (w3.putObj (w.heap.size + 1) (.loop { recL fn a.tmps ps assign body w.heap.size (pend x) with state := .exhausted })) ((w.heap.size, .deferred (some [])) :: (RO x ++ hpR)) (LO x ++ L) := by
    have h5 := WI.putObj (.loop { recL fn a.tmps ps assign body w.heap.size (pend x) with state := .exhausted }) (by simpa [kk] using hwi2); refine (h5.weak (List.sublist_cons_self _ _) (fun _ h => h)).perm (C6 fun p => ?_); simp only [List.countP_cons, List.countP_append]
    omega
  have hend : (Instr.endLoop (w.heap.size + 1)).run P w3 = .ok (pend x) _ := run_endLoop hl (by show (if (pend x).isNone = true then LoopState.ready else LoopState.done) ≠ .busy; split <;> simp); refine ⟨pend x, _, hend, ?_⟩; have hok : Ok ⟨P, n, b, markOf w.heap.size :: D, none⟩ { a with defers := [markOf w.heap.size] ++ a.defers } fr := ⟨by show markOf w.heap.size :: a.defers = _; rw [ha.d], ha.sz, ha.at_⟩
  cases hpx : pend x with
  | none =>
    rw [hpx] at hwi3; exact k1 x w.heap.size hi hpx _ _ hok hwi3
  | some j =>
    rw [hpx] at hwi3; exact k2 x w.heap.size j hi hpx _ _ hok hwi3
/-! ### Functions that leave with marks -/
theorem cj4 {β : Type} {P : Program} {f : Nat} {args : List Value} {k : Con β} {fn : Func} {code : Code} (hf : P.funcs[f]? = some fn) (hb : fn.body = some code) (hn : args.length ≤ fn.ntmps)
    (h : ∀ w, HC ⟨P, fn.ntmps, k.entry w, [], none⟩ code (bodyPostM Fence.wide 0 P fn (k.post w)) (argFr 0 args) k.hpI k.LI) : Meets P f args k := by
  intro w hw; refine callsIn_wide.1 (callsIn_of_wp_marks (n := 0) hf hb tK (h w _ w ⟨rfl, by simp; omega, fun t v hv => ?_⟩ hw)); obtain ⟨_, h2⟩ := tQ args 0 t v hv; simp only [Nat.sub_zero] at h2
  have hlt : t < args.length := by
    rcases Nat.lt_or_ge t args.length with h' | h'
    · exact h'
    rw [List.getElem?_eq_none h'] at h2; cases h2
  rw [List.getElem?_eq_getElem hlt] at h2
  injection h2 with h2
  simp [Array.getElem?_append, hlt, h2]
def shutM (ds : List Nat) : Hp := ds.map fun d => (d, Obj.deferred (some []))
theorem tT {c : Cx} {β : Type} {k : Con β} {fn : Func} {w0 : World} {tmps : Array Value} {hp' : Hp} {L : List Fact} (x : β)
    (hr : ∀ w, WI c.b w hp' L → (results fn tmps).run c.P w = .ok (k.val x) w) (hb : c.b = k.entry w0) (hi : k.inv x) (h2 : (k.hpO x).Sublist hp') (h3 : LSub L (k.LO x)) :
    ∀ (ds : List Nat) (w : World), WI c.b w (shutM ds ++ hp') L → LeavesInM Fence.wide 0 c.P fn tmps (k.post w0) (ds.map markOf) .returning w
  | [], w, hw => ⟨k.val x, hr w hw, x, rfl, hi, hb ▸ hw.weak h2 h3.mem⟩
  | d :: ds, w, hw => by
    have hw' : WI c.b w ((d, Obj.deferred (some [])) :: (shutM ds ++ hp')) L := hw; have ho := hw'.own (d, Obj.deferred (some [])) (by simp); refine ⟨by simp, .inl ⟨d, _, rfl, run_takeDeferred ho, ?_⟩⟩; exact tT x hr hb hi h2 h3 ds _ ((hw'.putObj _).weak (List.sublist_cons_self _ _) fun _ h => h)
theorem jj5 {c : Cx} {fr : Fr} {hp hp' : Hp} {L : List Fact} {β : Type} {k : Con β} {fn : Func} {w0 : World} (ds : List Nat) (x : β) (hD : c.D = ds.map markOf) (hpp : hp.Perm (shutM ds ++ hp'))
    (hr : ∀ (a : Act) w, a.tmps.size = c.n → (∀ t v, lk fr t = some v → a.tmps.getD t undef = v) → WI c.b w hp' L → (results fn a.tmps).run c.P w = .ok (k.val x) w) (hb : c.b = k.entry w0) (hi : k.inv x) (h2 : (k.hpO x).Sublist hp') (h3 : LSub L (k.LO x)) :
    HQ c (bodyPostM Fence.wide 0 c.P fn (k.post w0)) .ret fr hp L := fun a w ha hw => by
  show LeavesInM Fence.wide 0 c.P fn a.tmps (k.post w0) a.defers .returning w; rw [ha.d, hD]; exact tT x (fun w hw => hr a w ha.sz ha.at_ hw) hb hi h2 h3 ds w (hw.perm hpp)
end Go.W
end
section
namespace Go.W
open Go Go.RowKit
section
variable {c : Cx} {Q : Exit → Act → World → Prop} {fr : Fr} {hp : Hp} {L : List Fact} {ops : Array Oper} {rest : List Oper}
variable {α : Type} [El α]
abbrev innerF (ps : List (Sl α)) : Fact := Facts (ps.map fun p => Row p.a (rows p.l))
end
end Go.W
end
section
namespace Go.W
open Go Go.RowKit
def notI (dd : TypeDesc) : Bool := match dd with | .interface _ => false | _ => true
def NoI (P : Program) (t : TypeId) : Prop := ∃ dd, P.underlying t = some dd ∧ notI dd = true
section
variable {c : Cx} {Q : Exit → Act → World → Prop} {fr : Fr} {hp : Hp} {L : List Fact} {ops : Array Oper} {rest : List Oper}
variable {d : Tmp} {ty : TypeId} {pos : String} {af : Array Edge}
/-! ### Interfaces -/
theorem ij8 {t : TypeId} {x : Operand} {v : Value} (hd : Nat.blt d c.n = true) (ht : NoI c.P t) (hx : ev fr x = some v) (k : HL c ops Q rest ((d, .iface t v) :: fr) hp L) : HL c ops Q (⟨some d, .makeInterface t x, ty, pos, af, none⟩ :: rest) fr hp L :=
  y3 _ rfl rfl hd (fun a w ha _ => by
    obtain ⟨dd, h1, h2⟩ := ht; simp only [execOp, ha.ev hx, Instr.makeInterface, Sem.run_bind, run_underlying h1, Result.andThen_ok]
    cases dd <;> first | rfl | cases h2) k
theorem az8 {t xt : TypeId} {x : Operand} {v : Value} (hd : Nat.blt d c.n = true) (ht : NoI c.P t) (hx : ev fr x = some (.iface t v)) (k : HL c ops Q rest ((d, .tuple #[v, .bool true]) :: fr) hp L) : HL c ops Q (⟨some d, .typeAssert x xt t true, ty, pos, af, none⟩ :: rest) fr hp L :=
  y3 _ rfl rfl hd (fun a w ha _ => by
    obtain ⟨dd, h1, h2⟩ := ht; simp only [execOp, ha.ev hx, Instr.typeAssert, Sem.run_bind, run_underlying h1, Result.andThen_ok]
    cases dd <;> first | (cases h2; done) | simp) k
theorem pX {t t' xt : TypeId} {x : Operand} {v z : Value} (hd : Nat.blt d c.n = true) (ht : NoI c.P t) (hx : ev fr x = some (.iface t' v)) (hne : Nat.beq t' t = false) (hz : ∀ w, (zeroValue t).run c.P w = .ok z w) (k : HL c ops Q rest ((d, .tuple #[z, .bool false]) :: fr) hp L) : HL c ops Q (⟨some d, .typeAssert x xt t true, ty, pos, af, none⟩ :: rest) fr hp L :=
  y3 _ rfl rfl hd (fun a w ha _ => by
    obtain ⟨dd, h1, h2⟩ := ht; have hn : ¬ t' = t := fun e => by subst e; simp [Nat.beq_refl] at hne
    simp only [execOp, ha.ev hx, Instr.typeAssert, Sem.run_bind, run_underlying h1, Result.andThen_ok]
    cases dd <;> first | (cases h2; done) | simp [hn, hz]) k
/-! ### Three results -/
theorem results3 {fn : Func} {t u v : Tmp} (h : fn.results = #[.tmp t, .tmp u, .tmp v]) (tmps : Array Value) (P : Program) (w : World) : (results fn tmps).run P w = .ok (.tuple #[tmps.getD t undef, tmps.getD u undef, tmps.getD v undef]) w := by
  simp [results, h]
theorem ret3 {β : Type} {k : Con β} {fn : Func} {w0 : World} (x : β) {t u v : Tmp} {v1 v2 v3 : Value} (hres : fn.results = #[.tmp t, .tmp u, .tmp v]) (hv1 : lk fr t = some v1) (hv2 : lk fr u = some v2) (hv3 : lk fr v = some v3) (hk : k.val x = .tuple #[v1, v2, v3]) (hb : c.b = k.entry w0) (hi : k.inv x) (h2 : (k.hpO x).Sublist hp) (h3 : LSub L (k.LO x)) (hD : c.D = [] := by exact rfl) :
    HQ c (bodyPost c.P fn (k.post w0)) .ret fr hp L :=
  tJ x (fun a w ha _ => by rw [results3 hres, ha.at_ _ _ hv1, ha.at_ _ _ hv2, ha.at_ _ _ hv3, hk]) hb hi h2 h3 hD
/-! ### Strings that are ranged over -/
abbrev iter (s : Str) (p : Nat) : Obj := .stringIter ⟨s.toArray⟩ p
theorem zK {t : TypeId} {x : Operand} {s : Str} (hd : Nat.blt d c.n = true) (ht : c.P.underlying t = some .string) (hx : ev fr x = some (str s)) (k : ∀ g, HL c ops Q rest ((d, .pointer (i7 g)) :: fr) ((g, iter s 0) :: hp) L) : HL c ops Q (⟨some d, .range t x, ty, pos, af, none⟩ :: rest) fr hp L :=
  rT (iter s 0) (fun g => .pointer (i7 g)) rfl rfl hd (fun a w ha _ => by
    simp only [execOp, ha.ev hx, Instr.range, Sem.run_bind, run_underlying ht, Result.andThen_ok, str]
    simp [run_newObj_alloc]) k
theorem az3 {P : Program} {w : World} {g : Nat} {s : ByteArray} {p : Nat} (h : w.heap[g]? = some (.stringIter s p)) : (getObj g).run P w = .ok (.stringIter s p) w := by simp [getObj, Sem.run, h]
theorem jj2 {P : Program} {w : World} {g : Nat} {s : ByteArray} {p : Nat} (h : w.heap[g]? = some (.stringIter s p)) (o : Obj) : (setObj g o).run P w = .ok () { w with heap := w.heap.setIfInBounds g o } := by
  have hlt : g < w.heap.size := J4 h
  simp [setObj, Sem.run, h]
theorem dj8 (s : Str) : (ByteArray.mk s.toArray).size = s.length := rfl
theorem gz8 {x : Operand} {s : Str} {g p : Nat} (hd : Nat.blt d c.n = true) (hx : ev fr x = some (.pointer (i7 g))) (hm : (g, iter s p) ∈ hp) (hp1 : s.length ≤ p) (k : HL c ops Q rest ((d, .tuple #[.bool false]) :: fr) hp L) : HL c ops Q (⟨some d, .next x true, ty, pos, af, none⟩ :: rest) fr hp L :=
  y3 _ rfl rfl hd (fun a w ha hw => by
    have h := hw.own _ hm; simp only at h; simp only [execOp, ha.ev hx, Instr.next, Sem.run_bind, az3 h, Result.andThen_ok, dj8]; rw [if_neg (by omega)]
    rfl) k
def nextV (s : Str) (p : Nat) : Value := if p < s.length then .tuple #[.bool true, int p, .int .i32 ((Utf8.decode ⟨s.toArray⟩ p).1 : Nat)] else .tuple #[.bool false]
def nextP (s : Str) (p : Nat) : Nat := if p < s.length then p + (Utf8.decode ⟨s.toArray⟩ p).2 else p
theorem gz9 {x : Operand} {s : Str} {g p : Nat} {hp' : Hp} {r wd : Nat} (hd : Nat.blt d c.n = true) (hx : ev fr x = some (.pointer (i7 g))) (hpp : hp.Perm ((g, iter s p) :: hp')) (hp1 : p < s.length) (hdec : Utf8.decode ⟨s.toArray⟩ p = (r, wd)) (k : HL c ops Q rest ((d, .tuple #[.bool true, int p, .int .i32 r]) :: fr) ((g, iter s (p + wd)) :: hp') L) : HL c ops Q (⟨some d, .next x true, ty, pos, af, none⟩ :: rest) fr hp L :=
  vZ rfl rfl hd fun a w ha hw => by
    have hw' := hw.perm hpp; have h := hw'.own (g, iter s p) (by simp); simp only at h; refine ⟨_, _, _, L, ?_, hw'.write (o' := iter s (p + wd)) (w' := { w with heap := w.heap.setIfInBounds g (iter s (p + wd)) }) ⟨rfl, rfl, rfl, by simp, fun q _ hn => ?_, Nat.le_refl _⟩ ?_, k⟩
    · simp only [execOp, ha.ev hx, Instr.next, Sem.run_bind, az3 h, Result.andThen_ok, dj8]
      rw [if_pos hp1]
      simp [hdec, jj2 h, goInt]
    · simp only [List.mem_singleton] at hn
      simp [Array.getElem?_setIfInBounds_ne (fun e => hn e.symm)]
    have hlt := J4 h
    simp [Array.getElem?_setIfInBounds, hlt]
theorem bz8 {x : Operand} {s : Str} {g p : Nat} {hp' : Hp} (hd : Nat.blt d c.n = true) (hx : ev fr x = some (.pointer (i7 g))) (hpp : hp.Perm ((g, iter s p) :: hp')) (k : HL c ops Q rest ((d, nextV s p) :: fr) ((g, iter s (nextP s p)) :: hp') L) : HL c ops Q (⟨some d, .next x true, ty, pos, af, none⟩ :: rest) fr hp L := by
  by_cases h : p < s.length
  · simp only [nextV, nextP, if_pos h] at k
    exact gz9 hd hx hpp h rfl k
  simp only [nextV, nextP, if_neg h] at k; refine gz8 hd hx (hpp.mem_iff.2 m0) (by omega) fun a w ha hw => k a w ha (hw.perm hpp)
theorem hj3 {x : Operand} {s : Str} {p : Nat} (hd : Nat.blt d c.n = true) (hx : ev fr x = some (nextV s p)) (k : HL c ops Q rest ((d, .bool (decide (p < s.length))) :: fr) hp L) : HL c ops Q (⟨some d, .extract x 0, ty, pos, af, none⟩ :: rest) fr hp L := by
  by_cases h : p < s.length
  · simp only [nextV, if_pos h] at hx
    rw [decide_eq_true h] at k; exact k4 hd hx rfl k
  simp only [nextV, if_neg h] at hx; rw [decide_eq_false h] at k; exact k4 hd hx rfl k
theorem kz9 {x : Operand} {s : Str} {p : Nat} (hd : Nat.blt d c.n = true) (hx : ev fr x = some (nextV s p)) (h : p < s.length) (k : HL c ops Q rest ((d, .int .i32 ((Utf8.decode ⟨s.toArray⟩ p).1 : Nat)) :: fr) hp L) : HL c ops Q (⟨some d, .extract x 2, ty, pos, af, none⟩ :: rest) fr hp L := by
  simp only [nextV, if_pos h] at hx; exact k4 hd hx rfl k
end
theorem j8 {b : Bx} {hp : Hp} {L : List Fact} {g o : Nat} {cs : List Value} {v : Value} (h : Row (i7 g) cs ∈ L) (hv : cs[o]? = some v) : Cell b hp L ⟨g, o, none⟩ v := fun w hw => by
  have := Row.cell (hw.fs _ h) hv
  simpa [adr, sR] using this
theorem wV {s : Str} {p : Nat} {b : UInt8} (h : s[p]? = some b) (hb : b.toNat < 128) : Utf8.decode ⟨s.toArray⟩ p = (b.toNat, 1) := by
  have hlt : p < s.length := (List.getElem?_eq_some_iff.1 h).1
  have hg : (ByteArray.mk s.toArray).get! (p + 0) = b := by
    rw [Nat.add_zero]; show s.toArray[p]! = b; rw [List.getElem?_eq_getElem hlt] at h
    injection h with h
    simp [h, hlt]
  unfold Utf8.decode; simp only [hg]; rw [if_pos hb]
theorem dec_big {s : Str} {p : Nat} {b : UInt8} (h : s[p]? = some b) (hb : 128 ≤ b.toNat) : 128 ≤ (Utf8.decode ⟨s.toArray⟩ p).1 := by
  have hlt : p < s.length := (List.getElem?_eq_some_iff.1 h).1
  have hg : (ByteArray.mk s.toArray).get! (p + 0) = b := by
    rw [Nat.add_zero]; show s.toArray[p]! = b; rw [List.getElem?_eq_getElem hlt] at h
    injection h with h
    simp [h, hlt]
  unfold Utf8.decode; simp only [hg]; rw [if_neg (by omega)]; unfold Utf8.runeError
  repeat' split
  all_goals first | (simp only; omega) | (rename_i h1; simp only [Bool.and_eq_true, decide_eq_true_eq, ge_iff_le] at h1; simp only; omega)
theorem dec_in {s : Str} {p : Nat} (hp : p < s.length) {lo hi : Nat} (h2 : hi < 128) (h : lo ≤ (Utf8.decode ⟨s.toArray⟩ p).1 ∧ (Utf8.decode ⟨s.toArray⟩ p).1 ≤ hi) : lo ≤ s[p].toNat ∧ s[p].toNat ≤ hi ∧ nextP s p = p + 1 := by
  have hs : s[p]? = some s[p] := List.getElem?_eq_getElem hp
  rcases Nat.lt_or_ge s[p].toNat 128 with hb | hb
  · have := wV hs hb
    rw [nextP, if_pos hp]; rw [this] at h ⊢; exact ⟨h.1, h.2, rfl⟩
  have := dec_big hs hb; omega
theorem ix5 {s : Str} {p : Nat} (hp : p < s.length) {lo hi : Nat} (h2 : hi < 128) (h : (Utf8.decode ⟨s.toArray⟩ p).1 < lo ∨ hi < (Utf8.decode ⟨s.toArray⟩ p).1) : s[p].toNat < lo ∨ hi < s[p].toNat := by
  have hs : s[p]? = some s[p] := List.getElem?_eq_getElem hp
  rcases Nat.lt_or_ge s[p].toNat 128 with hb | hb
  · have := wV hs hb
    rw [this] at h; exact h
  right; omega
/-! ### Small sets of bits -/
def u8 (m : Nat) : Value := .int .u8 (m : Int)
theorem wrap8 {m : Nat} (h : m < 256) : IntKind.u8.wrap (m : Int) = (m : Int) := by
  have h1 : 0 ≤ (m : Int) := by omega
  have h2 : (m : Int) < 256 := by omega
  simp only [IntKind.wrap, IntKind.bits, IntKind.signed]
  simp
  omega
theorem bv8 {m : Nat} (h : m < 256) : (BitVec.ofInt 8 (m : Int)).toNat = m := by
  simp [BitVec.toNat_ofInt]
  omega
section
variable {c : Cx} {Q : Exit → Act → World → Prop} {fr : Fr} {hp : Hp} {L : List Fact} {ops : Array Oper} {rest : List Oper}
variable {d : Tmp} {ty : TypeId} {pos : String} {af : Array Edge}
theorem kz8 {t yt : TypeId} {x y : Operand} {a b : Nat} (hd : Nat.blt d c.n = true) (hx : ev fr x = some (u8 a)) (hy : ev fr y = some (u8 b)) (ha : a < 256) (hb : b < 256) (k : HL c ops Q rest ((d, u8 (a ||| b)) :: fr) hp L) :
    HL c ops Q (⟨some d, .binOp .or t x y yt, ty, pos, af, none⟩ :: rest) fr hp L :=
  l1 _ hd hx hy (fun _ => rfl) (fun w => by
    show (Op.intBits .or .u8 (a : Int) (b : Int)).run c.P w = _; have h : (BitVec.ofInt 8 (a : Int) ||| BitVec.ofInt 8 (b : Int)).toNat = a ||| b := by rw [BitVec.toNat_or, bv8 ha, bv8 hb]
    have hl : a ||| b < 256 := Nat.or_lt_two_pow (n := 8) ha hb
    show Result.ok (Value.int .u8 (IntKind.u8.wrap ((BitVec.ofInt 8 (a : Int) ||| BitVec.ofInt 8 (b : Int)).toNat : Nat))) w = _; rw [h, wrap8 hl]
    rfl) k
theorem lj2 {t yt : TypeId} {x y : Operand} {a b : Nat} (hd : Nat.blt d c.n = true) (hx : ev fr x = some (u8 a)) (hy : ev fr y = some (u8 b)) (ha : a < 256) (hb : b < 256) (k : HL c ops Q rest ((d, u8 (a &&& b)) :: fr) hp L) :
    HL c ops Q (⟨some d, .binOp .and t x y yt, ty, pos, af, none⟩ :: rest) fr hp L :=
  l1 _ hd hx hy (fun _ => rfl) (fun w => by
    show (Op.intBits .and .u8 (a : Int) (b : Int)).run c.P w = _; have h : (BitVec.ofInt 8 (a : Int) &&& BitVec.ofInt 8 (b : Int)).toNat = a &&& b := by rw [BitVec.toNat_and, bv8 ha, bv8 hb]
    have hl : a &&& b < 256 := Nat.lt_of_le_of_lt Nat.and_le_left ha; show Result.ok (Value.int .u8 (IntKind.u8.wrap ((BitVec.ofInt 8 (a : Int) &&& BitVec.ofInt 8 (b : Int)).toNat : Nat))) w = _; rw [h, wrap8 hl]
    rfl) k
def diff8 (a b : Nat) : Nat := a &&& (255 - b)
theorem kz5 {t yt : TypeId} {x y : Operand} {ky : IntKind} {z : Int} (n : Nat) (hd : Nat.blt d c.n = true) (hx : ev fr x = some (.int .u8 1)) (hy : ev fr y = some (.int ky z)) (hz : z = (n : Int)) (hn : n < 8) (k : HL c ops Q rest ((d, u8 (2 ^ n)) :: fr) hp L) :
    HL c ops Q (⟨some d, .binOp .shl t x y yt, ty, pos, af, none⟩ :: rest) fr hp L :=
  l1 _ hd hx hy (fun _ => rfl) (fun w => by
    subst hz; show (Op.shift .shl .u8 1 ky (n : Int)).run c.P w = _; have hl : 2 ^ n < 256 := Nat.pow_lt_pow_right (by omega) hn; have hm : min ((n : Int).toNat) (IntKind.u8.bits) = n := by show min ((n : Int).toNat) 8 = n; omega
    simp only [Op.shift]; rw [if_neg (by omega), hm, Int.one_mul, show ((2 : Int) ^ n) = ((2 ^ n : Nat) : Int) by simp, wrap8 hl]
    rfl) k
theorem kz4 {t yt : TypeId} {x y : Operand} {ky : IntKind} {z : Int} {a : Nat} (n : Nat) (hd : Nat.blt d c.n = true) (hx : ev fr x = some (u8 a)) (hy : ev fr y = some (.int ky z)) (hz : z = (n : Int)) (hn : n < 8) (k : HL c ops Q rest ((d, u8 (a / 2 ^ n)) :: fr) hp L) :
    HL c ops Q (⟨some d, .binOp .shr t x y yt, ty, pos, af, none⟩ :: rest) fr hp L :=
  l1 _ hd hx hy (fun _ => rfl) (fun w => by
    subst hz; show (Op.shift .shr .u8 (a : Int) ky (n : Int)).run c.P w = _; have hm : min ((n : Int).toNat) (IntKind.u8.bits) = n := by show min ((n : Int).toNat) 8 = n; omega
    simp only [Op.shift]; rw [if_neg (by omega), hm, Int.fdiv_eq_ediv_of_nonneg _ (by exact_mod_cast Nat.zero_le (2 ^ n))]
    rfl) k
end
theorem cx2 (a n : Nat) : (decide (((a / 2 ^ n &&& 1 : Nat) : Int) = 1)) = a.testBit n := by
  rw [Nat.and_one_is_mod, Nat.testBit_eq_decide_div_mod_eq]; exact decide_eq_decide.2 (by omega)
/-! ### Rows whose elements have facts of their own -/
def RowsF {α : Type} [El α] (A : Option Addr) (ps : List α) (f : α → Fact) : Fact where
  P w := (Row A (rows ps)).P w ∧ ∀ p ∈ ps, (f p).P w
  fp k := (Row A (rows ps)).fp k ∨ ∃ p ∈ ps, (f p).fp k
  st w w' h hP := ⟨(Row A (rows ps)).st w w' (fun k hk => h k (.inl hk)) hP.1, fun p hp => (f p).st w w' (fun k hk => h k (.inr ⟨p, hp, hk⟩)) (hP.2 p hp)⟩
  lt w hP k hk := by
    rcases hk with hk | ⟨p, hp, hk⟩
    · exact (Row A (rows ps)).lt w hP.1 k hk
    exact (f p).lt w (hP.2 p hp) k hk
section
variable {c : Cx} {Q : Exit → Act → World → Prop} {fr : Fr} {hp : Hp} {L : List Fact} {ops : Array Oper} {rest : List Oper}
variable {α : Type} [El α] {A : Option Addr} {ps : List α} {f : α → Fact}
theorem ax6 {b : Bx} {w : World} (h : RowsF A ps f ∈ L) (hw : WI b w hp L) : WI b w hp (Row A (rows ps) :: L) := bU hw (hw.fs _ h).1 (fun k hk => ⟨_, h, .inl hk⟩)
theorem ax7 {b : Bx} {w : World} {p : α} (h : RowsF A ps f ∈ L) (hp' : p ∈ ps) (hw : WI b w hp L) : WI b w hp (f p :: L) := bU hw ((hw.fs _ h).2 p hp') (fun k hk => ⟨_, h, .inr ⟨p, hp', hk⟩⟩)
theorem P9 (h : RowsF A ps f ∈ L) (k : HL c ops Q rest fr hp (Row A (rows ps) :: L)) : HL c ops Q rest fr hp L := fun a w ha hw => k a w ha (ax6 h hw)
theorem wB {x : Code} (h : RowsF A ps f ∈ L) (k : HC c x Q fr hp (Row A (rows ps) :: L)) : HC c x Q fr hp L := fun a w ha hw => k a w ha (ax6 h hw)
theorem jx2 {p : α} (h : RowsF A ps f ∈ L) (hp' : p ∈ ps) (k : HL c ops Q rest fr hp (f p :: L)) : HL c ops Q rest fr hp L := fun a w ha hw => k a w ha (ax7 h hp' hw)
theorem jx3 {p : α} {x : Code} (h : RowsF A ps f ∈ L) (hp' : p ∈ ps) (k : HC c x Q fr hp (f p :: L)) : HC c x Q fr hp L := fun a w ha hw => k a w ha (ax7 h hp' hw)
abbrev innersF (ps : List α) (f : α → Fact) : Fact := Facts (ps.map f)
theorem cz5 {b : Bx} {w : World} (h : Row A (rows ps) ∈ L) (h2 : innersF ps f ∈ L) (hw : WI b w hp L) : WI b w hp (RowsF A ps f :: L) := by
  have : ∀ p ∈ ps, (f p).P w := fun p hp => hw.fs _ h2 _ (List.mem_map.2 ⟨p, hp, rfl⟩); refine bU hw ⟨hw.fs _ h, this⟩ (fun k hk => ?_)
  rcases hk with hk | ⟨p, hp, hk⟩
  · exact ⟨_, h, hk⟩
  exact ⟨_, h2, _, List.mem_map.2 ⟨p, hp, rfl⟩, hk⟩
theorem lz3 {x : Code} (h : Row A (rows ps) ∈ L) (h2 : innersF ps f ∈ L) (k : HC c x Q fr hp (RowsF A ps f :: L)) : HC c x Q fr hp L := fun a w ha hw => k a w ha (cz5 h h2 hw)
theorem lx7 {e : Exit} (h : Row A (rows ps) ∈ L) (h2 : innersF ps f ∈ L) (k : HQ c Q e fr hp (RowsF A ps f :: L)) : HQ c Q e fr hp L := fun a w ha hw => k a w ha (cz5 h h2 hw)
end
theorem gx4 {α : Type} [El α] {A : Option Addr} {ps : List α} {hp : Hp} {L : List Fact} {b : Bx} {w : World} (n : Nat) (h : Row A (rows ps) ∈ L) (hw : WI b w hp L) : WI b w hp (Row A (rows (ps.take n)) :: L) := by
  have h0 := hw.fs _ h; obtain ⟨r, hr⟩ : ∃ r, rows ps = rows (ps.take n) ++ r := ⟨rows (ps.drop n), by rw [← r8, List.take_append_drop]⟩; refine bU hw (fun j u hj => h0 j u ?_) (fun k hk => ⟨_, h, ?_⟩)
  · rw [hr, List.getElem?_append, if_pos (List.getElem?_eq_some_iff.1 hj).1]; exact hj
  obtain ⟨ad, e, h1, h2⟩ := hk; exact ⟨ad, e, h1, fun h3 => h2 (by rw [h3] at hr; exact (List.append_eq_nil_iff.1 hr.symm).1)⟩
theorem zS {α : Type} [El α] {A : Option Addr} {ps : List α} {hp : Hp} {L : List Fact} {c : Cx} {Q : Exit → Act → World → Prop} {fr : Fr} {ops : Array Oper} {rest : List Oper} (n : Nat) (h : Row A (rows ps) ∈ L) (k : HL c ops Q rest fr hp (Row A (rows (ps.take n)) :: L)) : HL c ops Q rest fr hp L := fun a w ha hw => k a w ha (gx4 n h hw)
theorem pD {α : Type} {ps : List α} {f : α → Fact} {L : List Fact} {p : α} (h : innersF ps f ∈ L) (h2 : f p ∈ L) : ∀ F ∈ (ps ++ [p]).map f, F ∈ L ∨ ∃ Gs, Facts Gs ∈ L ∧ F ∈ Gs := by
  intro F hF; rw [List.map_append] at hF
  rcases List.mem_append.1 hF with hF | hF
  · exact .inr ⟨_, h, hF⟩
  simp at hF; subst hF; exact .inl h2
end Go.W
end
section
namespace Go.W
open Go Go.RowKit
theorem bq6 {s : Str} {q : Nat} (hq : q < s.length) (hs : ∀ b ∈ s, b.toNat < 128) : Utf8.decode ⟨s.toArray⟩ q = ((s.getD q default).toNat, 1) := by
  have e : s.getD q default = s[q] := by rw [List.getD_eq_getElem?_getD, List.getElem?_eq_getElem hq]; rfl
  rw [e]; exact wV (List.getElem?_eq_getElem hq) (hs _ (List.getElem_mem hq))
theorem dx6 {s : Str} {q : Nat} (hq : q < s.length) (hs : ∀ b ∈ s, b.toNat < 128) : nextP s q = q + 1 := by
  simp only [nextP, if_pos hq, bq6 hq hs]
theorem dj5 {s : Str} {q g : Nat} {hp : Hp} (hq : q < s.length) (hs : ∀ b ∈ s, b.toNat < 128) : List.Sublist ((g, iter s (q + 1)) :: hp) ((g, iter s (nextP s q)) :: hp) := by rw [dx6 hq hs]; exact .refl _
section
variable {c : Cx} {Q : Exit → Act → World → Prop} {fr : Fr} {hp : Hp} {L : List Fact} {ops : Array Oper} {rest : List Oper} {d : Tmp} {ty : TypeId} {pos : String} {af : Array Edge}
def shrI (a : Int) (n : Nat) : Int := a.fdiv (2 ^ min ((n : Int).toNat) IntKind.i64.bits)
def andOne (a : Int) : Int := IntKind.i64.wrap ((BitVec.ofInt IntKind.i64.bits a &&& BitVec.ofInt IntKind.i64.bits 1).toNat : Int)
theorem iq1 {x : Operand} {s : Str} {p : Nat} (hs : ∀ b ∈ s, b.toNat < 128) (hd : Nat.blt d c.n = true) (hx : ev fr x = some (nextV s p)) (h : p < s.length) (k : HL c ops Q rest ((d, .int .i32 ((s.getD p default).toNat : Int)) :: fr) hp L) : HL c ops Q (⟨some d, .extract x 2, ty, pos, af, none⟩ :: rest) fr hp L := by
  refine kz9 hd hx h ?_; rw [bq6 h hs]; exact k
theorem hz8 (b : UInt8) (hb : b.toNat < 128) : Utf8.encode (b.toNat : Int) = ⟨#[b]⟩ := by
  have hv : Utf8.valid (b.toNat : Int) = true := by
    unfold Utf8.valid; have h1 : (0 : Int) ≤ b.toNat := by omega
    have h2 : (b.toNat : Int) < 0xD800 := by omega
    simp [h1, h2]
  unfold Utf8.encode; simp only [hv, if_true]; rw [if_pos (by simpa using hb)]
  simp
theorem jj7 {t u : TypeId} {x : Operand} {b : UInt8} (hd : Nat.blt d c.n = true) (hb : b.toNat < 128) (ht : (c.P.underlying t).isSome = true) (hu : c.P.underlying u = some .string) (hx : ev fr x = some (.int .i32 (b.toNat : Int))) (k : HL c ops Q rest ((d, str [b]) :: fr) hp L) :
    HL c ops Q (⟨some d, .convert t u x, ty, pos, af, none⟩ :: rest) fr hp L :=
  y3 _ rfl rfl hd (fun a w ha _ => by
    simp only [execOp, ha.ev hx, Sem.run_bind, run_convert_int_string w t u .i32 _ ht hu, Result.andThen_ok, Sem.run_pure, hz8 b hb]
    rfl) k
end
end Go.W
end
section
namespace Go.Proofs.YtpihanmcnmlodaaGreatDoor
open Go Go.W Tryz T F
set_option maxRecDepth 20000
attribute [local irreducible] HL HC HQ HB Row Rows2 Blk Facts
def Layed.lo_ren : Go.Shelf.Ren := ⟨fun | 159 => 125 | 165 => 141 | 166 => 142 | 167 => 143 | 169 => 144 | 230 => 145 | 204 => 146 | 240 => 158 | 241 => 159 | 197 => 160 | 118 => 161 | 168 => 162 | 270 => 163 | 262 => 164 | 276 => 172 | 277 => 173 | 260 => 174 | 242 => 175 | 313 => 176 | 278 => 184 | 274 => 185 | 275 => 186 | n => n, fun | 9 => 9 | 4 => 4 | 3 => 3 | 5 => 5 | 72 => 218 | 0 => 0 | 76 => 222 | 75 => 221 | 107 => 227 | 70 => 216 | 20 => 20 | 37 => 179 | 127 => 236 | 21 => 21 | 105 => 237 | 164 => 255 | 162 => 261 | 203 => 259 | 119 => 270 | 46 => 114 | 139 => 273 | 138 => 272 | 51 => 242 | 160 => 274 | 208 => 284 | 206 => 282 | 80 => 225 | n => n, fun | 13 => 1 | 3 => 2 | 4 => 3 | n => n⟩
theorem Layed.lo : Go.Proofs.Lays.n159 prog Layed.lo_ren where
  mixed := n9
  f118 := func161.trans (congrArg some n9)
  f159 := func125.trans (congrArg some n9)
  f165 := func141.trans (congrArg some n9)
  f166 := func142.trans (congrArg some n9)
  f167 := func143.trans (congrArg some n9)
  f168 := func162.trans (congrArg some n9)
  f169 := func144.trans (congrArg some n9)
  f197 := func160.trans (congrArg some n9)
  f204 := func146.trans (congrArg some n9)
  f230 := func145.trans (congrArg some n9)
  f240 := func158.trans (congrArg some n9)
  f241 := func159.trans (congrArg some n9)
  f242 := func175.trans (congrArg some n9)
  f260 := func174.trans (congrArg some n9)
  f262 := func164.trans (congrArg some n9)
  f270 := func163.trans (congrArg some n9)
  f274 := func185.trans (congrArg some n9)
  f275 := func186.trans (congrArg some n9)
  f276 := func172.trans (congrArg some n9)
  f277 := func173.trans (congrArg some n9)
  f278 := func184.trans (congrArg some n9)
  f313 := func176.trans (congrArg some n9)
  t0 := underlying0
  a0 := isAgg0
  z0 := sizeOf0
  v0 := zeroValue0
  t3 := underlying3
  a3 := isAgg3
  z3 := sizeOf3
  v3 := zeroValue3
  t4 := underlying4
  a4 := isAgg4
  z4 := sizeOf4
  v4 := zeroValue4
  t5 := underlying5
  a5 := isAgg5
  z5 := sizeOf5
  v5 := zeroValue5
  t9 := underlying9
  a9 := isAgg9
  z9 := sizeOf9
  v9 := zeroValue9
  t20 := underlying20
  a20 := isAgg20
  z20 := sizeOf20
  v20 := zeroValue20
  t21 := underlying21
  a21 := isAgg21
  z21 := sizeOf21
  v21 := zeroValue21
  t37 := underlying179
  a37 := isAgg179
  z37 := sizeOf179
  v37 := zeroValue179
  t46 := underlying114
  a46 := isAgg114
  z46 := sizeOf114
  v46 := zeroValue114
  t51 := underlying242
  a51 := isAgg242
  z51 := sizeOf242
  v51 := zeroValue242
  t70 := underlying216
  a70 := isAgg216
  z70 := sizeOf216
  v70 := zeroValue216
  t72 := underlying218
  a72 := isAgg218
  z72 := sizeOf218
  v72 := zeroValue218
  t75 := underlying221
  a75 := isAgg221
  z75 := sizeOf221
  v75 := zeroValue221
  t76 := underlying222
  a76 := isAgg222
  z76 := sizeOf222
  v76 := zeroValue222
  t105 := underlying237
  a105 := isAgg237
  z105 := sizeOf237
  v105 := zeroValue237
  t107 := underlying227
  a107 := isAgg227
  z107 := sizeOf227
  v107 := zeroValue227
  t119 := underlying270
  a119 := isAgg270
  z119 := sizeOf270
  t127 := underlying236
  a127 := isAgg236
  z127 := sizeOf236
  v127 := zeroValue236
  t138 := underlying272
  a138 := isAgg272
  z138 := sizeOf272
  v138 := zeroValue272
  t139 := underlying273
  a139 := isAgg273
  z139 := sizeOf273
  v139 := zeroValue273
  t160 := underlying274
  a160 := isAgg274
  z160 := sizeOf274
  v160 := zeroValue274
  t162 := underlying261
  a162 := isAgg261
  z162 := sizeOf261
  v162 := zeroValue261
  t164 := underlying255
  a164 := isAgg255
  z164 := sizeOf255
  v164 := zeroValue255
  t203 := underlying259
  a203 := isAgg259
  z203 := sizeOf259
  v203 := zeroValue259
  t206 := underlying282
  a206 := isAgg282
  z206 := sizeOf282
  v206 := zeroValue282
  t208 := underlying284
  a208 := isAgg284
  z208 := sizeOf284
  v208 := zeroValue284
  g3 := n9
  g4 := n9
  g13 := n9
def Layed.cr_ren : Go.Shelf.Ren := ⟨fun | 151 => 110 | 152 => 129 | 137 => 148 | 119 => 149 | 224 => 150 | 225 => 151 | 217 => 165 | 266 => 177 | n => n, fun | 9 => 9 | 21 => 21 | 4 => 4 | 3 => 3 | 5 => 5 | 0 => 0 | 46 => 114 | n => n, fun | n => n⟩
theorem Layed.cr : Go.Proofs.Lays.n151 prog Layed.cr_ren where
  mixed := n9
  f119 := func149.trans (congrArg some n9)
  f137 := func148.trans (congrArg some n9)
  f151 := func110.trans (congrArg some n9)
  f152 := func129.trans (congrArg some n9)
  f217 := func165.trans (congrArg some n9)
  f224 := func150.trans (congrArg some n9)
  f225 := func151.trans (congrArg some n9)
  f266 := func177.trans (congrArg some n9)
  t0 := underlying0
  a0 := isAgg0
  z0 := sizeOf0
  v0 := zeroValue0
  t3 := underlying3
  a3 := isAgg3
  z3 := sizeOf3
  v3 := zeroValue3
  t4 := underlying4
  a4 := isAgg4
  z4 := sizeOf4
  v4 := zeroValue4
  t5 := underlying5
  a5 := isAgg5
  z5 := sizeOf5
  v5 := zeroValue5
  t9 := underlying9
  a9 := isAgg9
  z9 := sizeOf9
  v9 := zeroValue9
  t21 := underlying21
  a21 := isAgg21
  z21 := sizeOf21
  v21 := zeroValue21
  t46 := underlying114
  a46 := isAgg114
  z46 := sizeOf114
  v46 := zeroValue114
theorem Layed.bx : Go.Proofs.Builder.Extra prog Layed.lo_ren where
  sizeBuilder := n9
  liesBuilder := n9
  t5 := underlying5
  a5 := isAgg5
  z5 := sizeOf5
  v5 := zeroValue5
  infoByte := n9
  cellsByte := n9
  sizeByte := n9
  neB5 := by decide
theorem kj3 {w w' : World} (h : RowKit.Below w.heap.size w w') : Ext [] w w' := ⟨h.os, h.tape, h.output, h.size, fun k hk _ => h.block k hk, Nat.le_refl _⟩
theorem aq8 (s : Str) (hs : s.length ≤ 1000000) (ha : ∀ b ∈ s, b.toNat < 128) : Meets prog dE [str s] { val := fun _ : Unit => str (Lib.toLowerA s) } := by
  intro w hw; refine Calls.mono (Any.strings_ToLower_ascii Layed.lo Layed.bx ⟨s.toArray⟩ w (by show s.toArray.size ≤ _; simp; omega) (fun j b h => ha b (List.mem_of_getElem? (by simpa using h)))) fun e w' hp => ?_; obtain ⟨rfl, hb⟩ := hp; exact ⟨(), rfl, tK, hw.quiet (kj3 hb)⟩
theorem dR (s : Str) (b : UInt8) (hb : b.toNat < 128) : Meets prog V2 [str s, .int .i32 (b.toNat : Int)] { val := fun _ : Unit => .bool (decide (0 ≤ Lib.indexByte s b)) } := by
  intro w hw; refine Calls.mono (Any.strings_ContainsRune_ascii Layed.cr ⟨s.toArray⟩ (b.toNat : Int) w (by omega) (by omega)) fun e w' hp => ?_; obtain ⟨rfl, rfl⟩ := hp; exact ⟨(), by simp, tK, hw⟩
theorem lx6 (b : UInt8) : ∀ s : Str, -1 ≤ Lib.indexByte s b
  | [] => by simp [Lib.indexByte]
  | x :: r => by
    have ih := lx6 b r; unfold Lib.indexByte
    split
    · omega
    split
    · omega
    omega
theorem vX (b : UInt8) : ∀ s : Str, decide (0 ≤ Lib.indexByte s b) = decide (b ∈ s)
  | [] => by simp [Lib.indexByte]
  | x :: r => by
    have ih := vX b r; have lo := lx6 b r; unfold Lib.indexByte
    by_cases h : x = b
    · subst h; simp
    have hb : (x == b) = false := by simp [h]
    have hn : ¬ b = x := fun e => h e.symm; simp only [hb, Bool.false_eq_true, if_false, List.mem_cons, hn, false_or]; rw [← ih]; refine decide_eq_decide.2 ?_
    split
    · rename_i h1
      have h1 : Lib.indexByte r b = -1 := by simpa using h1
      omega
    rename_i h1
    have h1 : ¬ Lib.indexByte r b = -1 := by simpa using h1
    omega
end Go.Proofs.YtpihanmcnmlodaaGreatDoor
end
section
open Go Go.W
set_option maxRecDepth 20000
attribute [local irreducible] HL HC HQ HB Row Rows2 Blk Facts
namespace Go.W
abbrev Cl := Str × Int
abbrev PH := Str × Int × Int × List Int
structure Tr where
  cs : List Cl
  hs : List PH
deriving DecidableEq
def wd (s : String) : Str := s.toUTF8.toList
def azB (c : UInt8) : Bool := decide (97 ≤ c.toNat) && decide (c.toNat ≤ 122)
def wClass : Str := [99, 108, 97, 115, 115]
def wFinis : Str := [102, 105, 110, 105, 115]
def wordB (s : Str) : Bool := decide (0 < s.length) && (decide (s.length ≤ 12) && (decide (¬ s = wClass) && (decide (¬ s = wFinis) && s.all azB)))
def clsErr (cs : List Cl) (i : Nat) : Int :=
  if wordB (cs.getD i default).1 = false then 2
  else if (cs.getD i default).1 ∈ (cs.take i).map (·.1) then 4
  else if (cs.getD i default).2 < -1 ∨ (cs.length : Int) ≤ (cs.getD i default).2 then 3
  else if (i : Int) ≤ (cs.getD i default).2 then 5 else 0
def alsoErr (n i : Nat) (l : List Int) (k : Nat) : Int :=
  if l.getD k default < 0 ∨ (n : Int) ≤ l.getD k default then 3
  else if l.getD k default = (i : Int) then 9
  else if 0 < k ∧ l.getD k default ≤ l.getD (k - 1) default then 5 else 0
def firstE (f : Nat → Int) : Nat → Int
  | 0 => 0
  | n + 1 => if firstE f n = 0 then f n else firstE f n
def kindBad (h : PH) : Bool := (decide (¬ h.2.2.1 = -1) && (decide (¬ h.2.1 = -1) || decide (0 < h.2.2.2.length))) || (decide (h.2.2.1 = -1) && (decide (h.2.1 = -1) && decide (h.2.2.2.length = 0)))
def headErr (t : Tr) (i : Nat) : Int :=
  if wordB (t.hs.getD i default).1 = false then 2
  else if (t.hs.getD i default).1 ∈ (t.hs.take i).map (·.1) then 4
  else if 0 < i ∧ (t.hs.getD i default).1 < (t.hs.getD (i - 1) default).1 then 5
  else if (t.hs.getD i default).2.1 < -1 ∨ (t.cs.length : Int) ≤ (t.hs.getD i default).2.1 ∨ (t.hs.getD i default).2.2.1 < -1 ∨ (t.hs.length : Int) ≤ (t.hs.getD i default).2.2.1 then 3
  else if (t.hs.getD i default).2.2.1 = (i : Int) then 9
  else if ¬ firstE (alsoErr t.hs.length i (t.hs.getD i default).2.2.2) (t.hs.getD i default).2.2.2.length = 0 then firstE (alsoErr t.hs.length i (t.hs.getD i default).2.2.2) (t.hs.getD i default).2.2.2.length
  else if kindBad (t.hs.getD i default) = true then 8 else 0
def checkT (t : Tr) : Int :=
  if 6 < t.cs.length ∨ 6 < t.hs.length then 6
  else if ¬ firstE (clsErr t.cs) t.cs.length = 0 then firstE (clsErr t.cs) t.cs.length
  else firstE (headErr t) t.hs.length
def pathL (cs : List Cl) : Nat → Int → List Int
  | 0, _ => []
  | d + 1, c => if c < 0 then [] else pathL cs d (cs.getD c.toNat default).2 ++ [c]
def pathT (cs : List Cl) (c : Int) : List Int := pathL cs (c.toNat + 1) c
def leastN (p q : List Int) : Nat → Int
  | 0 => -1
  | k + 1 => if (k : Int) ∈ p ∧ (k : Int) ∈ q then (k : Int) else leastN p q k
def leastT (t : Tr) (a b : Int) : Int := leastN (pathT t.cs a) (pathT t.cs b) t.cs.length
def underT (t : Tr) (c : Int) : List Int := ((List.range t.hs.length).filter fun i => decide (¬ (t.hs.getD i default).2.1 = -1) && decide (c ∈ pathT t.cs (t.hs.getD i default).2.1)).map fun i : Nat => (i : Int)
def followN (hs : List PH) : Nat → Int → Int → Option (Int × Int)
  | 0, _, _ => none
  | d + 1, h, n => if (hs.getD h.toNat default).2.2.1 = -1 then some (h, n) else followN hs d (hs.getD h.toNat default).2.2.1 (n + 1)
def followT (t : Tr) (h : Int) : Option (Int × Int) := followN t.hs (t.hs.length + 1) h 0
def isTrB (t : Tr) (h : Int) : Bool := decide ((t.hs.getD h.toNat default).2.2.1 = -1) && decide (¬ (t.hs.getD h.toNat default).2.1 = -1)
def leadsB (t : Tr) (b : Str) (h i : Nat) : Bool := decide (b <+: (t.hs.getD h default).1) && (match followT t h with | some (e, _) => decide (e = (i : Int)) && isTrB t e | none => false)
def mayT (t : Tr) (b : Str) : List Int := ((List.range t.hs.length).filter fun i => (List.range t.hs.length).any fun h => leadsB t b h i).map fun i : Nat => (i : Int)
def shortN (t : Tr) (w : Str) : Nat → Nat → Option Str
  | 0, n => none
  | d + 1, n => if (mayT t (w.take n)).length = 1 then some (w.take n) else shortN t w d (n + 1)
def shortT (t : Tr) (h : Int) : Option Str := shortN t (t.hs.getD h.toNat default).1 ((t.hs.getD h.toNat default).1.length + 1) 0
theorem gQ {f : Nat → Int} : ∀ {n : Nat}, firstE f n = 0 → ∀ i, i < n → f i = 0
  | 0, _, i, h => by omega
  | n + 1, h, i, hi => by
    rw [firstE] at h
    by_cases h1 : firstE f n = 0
    · rw [if_pos h1] at h
      by_cases h2 : i = n
      · rw [h2]; exact h
      exact gQ h1 i (by omega)
    rw [if_neg h1] at h; exact absurd h h1
theorem pS {f : Nat → Int} {n : Nat} (h : firstE f n = 0) : firstE f (n + 1) = f n := by rw [firstE, if_pos h]
theorem V4 {f : Nat → Int} {k : Nat} (h0 : firstE f k = 0) (h1 : ¬ f k = 0) : ∀ n, k < n → firstE f n = f k
  | 0, h => by omega
  | n + 1, h => by
    rw [firstE]
    by_cases hk : k = n
    · subst hk; rw [if_pos h0]
    rw [V4 h0 h1 n (by omega), if_neg h1]
structure ClsOK (cs : List Cl) (i : Nat) : Prop where
  w : wordB (cs.getD i default).1 = true
  n : (cs.getD i default).1 ∉ (cs.take i).map (·.1)
  lo : -1 ≤ (cs.getD i default).2
  hi : (cs.getD i default).2 < (i : Int)
structure HeadOK (t : Tr) (i : Nat) : Prop where
  w : wordB (t.hs.getD i default).1 = true
  n : (t.hs.getD i default).1 ∉ (t.hs.take i).map (·.1)
  o : ¬ (0 < i ∧ (t.hs.getD i default).1 < (t.hs.getD (i - 1) default).1)
  c : -1 ≤ (t.hs.getD i default).2.1 ∧ (t.hs.getD i default).2.1 < (t.cs.length : Int)
  s : -1 ≤ (t.hs.getD i default).2.2.1 ∧ (t.hs.getD i default).2.2.1 < (t.hs.length : Int) ∧ ¬ (t.hs.getD i default).2.2.1 = (i : Int)
  a : ∀ k, k < (t.hs.getD i default).2.2.2.length → alsoErr t.hs.length i (t.hs.getD i default).2.2.2 k = 0
  k : kindBad (t.hs.getD i default) = false
structure TrOK (t : Tr) : Prop where
  c6 : t.cs.length ≤ 6
  h6 : t.hs.length ≤ 6
  c : ∀ i, i < t.cs.length → ClsOK t.cs i
  h : ∀ i, i < t.hs.length → HeadOK t i
theorem cls_ok {cs : List Cl} {i : Nat} (h : clsErr cs i = 0) : ClsOK cs i := by
  unfold clsErr at h
  split at h
  · omega
  rename_i h1
  split at h
  · omega
  rename_i h2
  split at h
  · omega
  rename_i h3
  split at h
  · omega
  rename_i h4
  exact ⟨by simpa using h1, h2, by omega, by omega⟩
theorem head_ok {t : Tr} {i : Nat} (h : headErr t i = 0) : HeadOK t i := by
  unfold headErr at h
  split at h
  · omega
  rename_i h1
  split at h
  · omega
  rename_i h2
  split at h
  · omega
  rename_i h3
  split at h
  · omega
  rename_i h4
  split at h
  · omega
  rename_i h5
  split at h
  · rename_i h6; exact absurd h h6
  rename_i h6
  split at h
  · omega
  rename_i h7
  exact ⟨by simpa using h1, h2, h3, by omega, by omega, gQ (Classical.not_not.1 h6), by simpa using h7⟩
theorem gL {t : Tr} (h : checkT t = 0) : TrOK t := by
  unfold checkT at h
  split at h
  · omega
  rename_i h1
  split at h
  · rename_i h2; exact absurd h h2
  rename_i h2
  exact ⟨by omega, by omega, fun i hi => cls_ok (gQ (Classical.not_not.1 h2) i hi), fun i hi => head_ok (gQ h i hi)⟩
theorem mF {n i : Nat} {l : List Int} {k : Nat} (h : alsoErr n i l k = 0) : 0 ≤ l.getD k default ∧ l.getD k default < (n : Int) ∧ ¬ l.getD k default = (i : Int) ∧ (0 < k → l.getD (k - 1) default < l.getD k default) := by
  unfold alsoErr at h
  split at h
  · omega
  split at h
  · omega
  split at h
  · omega
  exact ⟨by omega, by omega, by omega, by omega⟩
theorem HeadOK.kinds {t : Tr} {i : Nat} (h : HeadOK t i) : (0 ≤ (t.hs.getD i default).2.2.1 ∧ (t.hs.getD i default).2.1 = -1 ∧ (t.hs.getD i default).2.2.2 = []) ∨ ((t.hs.getD i default).2.2.1 = -1 ∧ 0 ≤ (t.hs.getD i default).2.1) ∨ ((t.hs.getD i default).2.2.1 = -1 ∧ (t.hs.getD i default).2.1 = -1 ∧ (t.hs.getD i default).2.2.2 ≠ []) := by
  have hk := h.k; have hs := h.s; have hc := h.c; unfold kindBad at hk; generalize t.hs.getD i default = x at *; simp only [Bool.or_eq_false_iff, Bool.and_eq_false_iff, decide_eq_false_iff_not] at hk; have hl : x.2.2.2.length = 0 ↔ x.2.2.2 = [] := List.length_eq_zero_iff
  by_cases h1 : x.2.2.1 = -1
  · by_cases h2 : x.2.1 = -1
    · right; right
      refine ⟨h1, h2, fun e => ?_⟩
      rcases hk.2 with h3 | h3 | h3
      · exact h3 h1
      · exact h3 h2
      exact h3 (hl.2 e)
    right; left
    exact ⟨h1, by omega⟩
  left
  rcases hk.1 with h3 | ⟨h3, h4⟩
  · exact absurd h1 h3
  exact ⟨by omega, Classical.not_not.1 h3, hl.1 (by omega)⟩
theorem bj0 (cs : List Cl) (d : Nat) {u : Int} (h : u < 0) : pathL cs d u = [] := by
  cases d with
  | zero => rfl
  | succ d => rw [pathL, if_pos h]
theorem vR (cs : List Cl) (hc : ∀ i, i < cs.length → ClsOK cs i) : ∀ (d : Nat) (c : Int), c < (cs.length : Int) → c.toNat + 1 ≤ d → pathL cs d c = pathT cs c
  | 0, c, _, h => by omega
  | d + 1, c, hl, h => by
    unfold pathT; rw [pathL, pathL]
    by_cases h0 : c < 0
    · rw [if_pos h0, if_pos h0]
    rw [if_neg h0, if_neg h0]; have hcl := hc c.toNat (by omega); have h1 := hcl.lo; have h2 := hcl.hi
    congr 1
    generalize (cs.getD c.toNat default).2 = u at *
    by_cases hu : u < 0
    · rw [bj0 cs d hu, bj0 cs c.toNat hu]
    rw [vR cs hc d u (by omega) (by omega), vR cs hc c.toNat u (by omega) (by omega)]
theorem tL (cs : List Cl) {c : Int} (h : c < 0) : pathT cs c = [] := by unfold pathT; rw [pathL, if_pos h]
theorem vQ (cs : List Cl) (hc : ∀ i, i < cs.length → ClsOK cs i) {c : Int} (h0 : 0 ≤ c) (hl : c < (cs.length : Int)) : pathT cs c = pathT cs (cs.getD c.toNat default).2 ++ [c] := by
  have hcl := hc c.toNat (by omega); have h1 := hcl.lo; have h2 := hcl.hi
  conv => lhs; unfold pathT
  rw [pathL, if_neg (by omega)]
  congr 1
  by_cases hu : (cs.getD c.toNat default).2 < 0
  · rw [tL cs hu]
    cases hn : c.toNat with
    | zero => rfl
    | succ m => rw [pathL, if_pos (by rw [← hn]; exact hu)]
  exact vR cs hc c.toNat _ (by omega) (by omega)
theorem zM (cs : List Cl) (hc : ∀ i, i < cs.length → ClsOK cs i) : ∀ (n : Nat) (c : Int), c.toNat ≤ n → c < (cs.length : Int) → (pathT cs c).Pairwise (· < ·) ∧ ∀ x ∈ pathT cs c, 0 ≤ x ∧ x ≤ c
  | n, c, hn, hl => by
    by_cases h0 : c < 0
    · rw [tL cs h0]; simp
    have hcl := hc c.toNat (by omega); have h1 := hcl.lo; have h2 := hcl.hi; rw [vQ cs hc (by omega) hl]; generalize (cs.getD c.toNat default).2 = u at *
    have ih : (pathT cs u).Pairwise (· < ·) ∧ ∀ x ∈ pathT cs u, 0 ≤ x ∧ x ≤ u := by
      by_cases hu : u < 0
      · rw [tL cs hu]; simp
      cases n with
      | zero => omega
      | succ n => exact zM cs hc n u (by omega) (by omega)
    refine ⟨List.pairwise_append.2 ⟨ih.1, by simp, fun a ha b hb => ?_⟩, fun x hx => ?_⟩
    · rw [List.mem_singleton] at hb; have := (ih.2 a ha).2; omega
    rcases List.mem_append.1 hx with hx | hx
    · have := ih.2 x hx; omega
    rw [List.mem_singleton] at hx; omega
end Go.W
namespace Go.W
theorem jj8 (cs : List Cl) (hc : ∀ i, i < cs.length → ClsOK cs i) {a : Int} (h0 : 0 ≤ a) (hl : a < (cs.length : Int)) : a ∈ pathT cs a := by
  rw [vQ cs hc h0 hl]; simp
structure LeastOK (p q : List Int) (n : Nat) (m : Int) : Prop where
  lo : -1 ≤ m
  hi : m < n
  mem : 0 ≤ m → m ∈ p ∧ m ∈ q
  no : ∀ c : Int, m < c → c < n → c ∈ p → c ∈ q → False
/-! ### Following -/
theorem mA (hs : List PH) : ∀ (d : Nat) (h n e m : Int), followN hs d h n = some (e, m) → (hs.getD e.toNat default).2.2.1 = -1 ∧ n ≤ m ∧ m < n + d
  | 0, h, n, e, m, hf => by cases hf
  | d + 1, h, n, e, m, hf => by
    rw [followN] at hf
    split at hf
    · rename_i h1
      cases hf
      exact ⟨h1, by omega, by omega⟩
    have := mA hs d _ _ e m hf; exact ⟨this.1, by omega, by omega⟩
theorem cH {t : Tr} (h : TrOK t) : ∀ (d : Nat) (x n e m : Int), 0 ≤ x → x < (t.hs.length : Int) → followN t.hs d x n = some (e, m) → 0 ≤ e ∧ e < (t.hs.length : Int)
  | 0, x, n, e, m, _, _, hf => by cases hf
  | d + 1, x, n, e, m, h0, hl, hf => by
    rw [followN] at hf
    split at hf
    · cases hf; exact ⟨h0, hl⟩
    rename_i h1
    have hh := (h.h x.toNat (by omega)).s; exact cH h d _ _ e m (by omega) (by omega) hf
/-! ### What a beginning means -/
theorem may_mem (t : Tr) (b : Str) (x : Int) : x ∈ mayT t b ↔ ∃ i : Nat, x = i ∧ i < t.hs.length ∧ ∃ h, h < t.hs.length ∧ leadsB t b h i = true := by
  unfold mayT; simp only [List.mem_map, List.mem_filter, List.mem_range, List.any_eq_true]
  constructor
  · rintro ⟨i, ⟨h1, h, h2, h3⟩, rfl⟩; exact ⟨i, rfl, h1, h, h2, h3⟩
  rintro ⟨i, rfl, h1, h, h2, h3⟩; exact ⟨i, ⟨h1, h, h2, h3⟩, rfl⟩
end Go.W
namespace Go.W
/-! ### A heading dropped -/
def fallsB (t : Tr) (g : List Bool) (i : Nat) : Bool :=
  if ¬ (t.hs.getD i default).2.2.1 = -1 then g.getD (t.hs.getD i default).2.2.1.toNat default
  else if ¬ (t.hs.getD i default).2.1 = -1 then false
  else (t.hs.getD i default).2.2.2.all fun n => g.getD n.toNat default
def fallStep (t : Tr) (g : List Bool) (i : Nat) : List Bool := g.set i (g.getD i default || fallsB t g i)
def fallRound (t : Tr) (g : List Bool) : List Bool := (List.range t.hs.length).foldl (fallStep t) g
def goneL (t : Tr) (h : Int) : List Bool := (List.range t.hs.length).foldl (fun g _ => fallRound t g) ((List.replicate t.hs.length false).set h.toNat true)
def numB (g : List Bool) (i : Nat) : Int := (((List.range i).filter fun k => !g.getD k default).length : Nat)
def dropH (g : List Bool) (x : PH) : PH := (x.1, x.2.1, (if 0 ≤ x.2.2.1 then numB g x.2.2.1.toNat else x.2.2.1), (x.2.2.2.filter fun a => !g.getD a.toNat default).map fun a => numB g a.toNat)
def dropT (t : Tr) (h : Int) : Tr := ⟨t.cs, ((List.range t.hs.length).filter fun i => !(goneL t h).getD i default).map fun i => dropH (goneL t h) (t.hs.getD i default)⟩
/-! ### Editions compared -/
def insU (s : Str) : List Str → List Str
  | [] => [s]
  | x :: l => if s < x then s :: x :: l else if s = x then x :: l else x :: insU s l
def sortU (ws : List Str) : List Str := ws.foldr insU []
def wordsT (t : Tr) : List Str := t.hs.map (·.1)
def namesN (t : Tr) (s : Str) : Option (List Str) := (t.hs.find? fun h => decide (h.1 = s) && decide (¬ h.2.1 = -1)).map fun h => (pathT t.cs h.2.1).map fun c => (t.cs.getD c.toNat default).1
def moveN (a b : Tr) (s : Str) : Option (Str × Int) :=
  match namesN a s, namesN b s with
  | some _, none => some (s, 1)
  | none, some _ => some (s, 2)
  | some p, some q => if p = q then none else some (s, 3)
  | none, none => none
def compareT (a b : Tr) : List (Str × Int) := (sortU (wordsT a ++ wordsT b)).filterMap (moveN a b)
/-! ### The fewest references -/
def nextB (t : Tr) (h k : Nat) : Bool := decide ((t.hs.getD h default).2.2.1 = (k : Int)) || decide ((k : Int) ∈ (t.hs.getD h default).2.2.2)
abbrev Edges := Nat → Nat → Bool
def reachB (n : Nat) (e : Edges) (h : Nat) : Nat → Nat → Bool
  | 0, i => decide (i = h)
  | s + 1, i => reachB n e h s i || (List.range n).any fun k => reachB n e h s k && e k i
def freeT (t : Tr) : List (Int × Int) := (List.range t.hs.length).flatMap fun i => if (t.hs.getD i default).2.2.1 = -1 then ((List.range t.hs.length).filter fun k => decide (¬ k = i) && !nextB t i k).map fun k : Nat => ((i : Int), (k : Int)) else []
def withE (t : Tr) (r : List (Int × Int)) : Edges := fun h k => nextB t h k || decide (((h : Int), (k : Int)) ∈ r)
def fineB (t : Tr) (h : Int) (s : Int) (r : List (Int × Int)) : Bool := (List.range t.hs.length).all fun i => !isTrB t i || reachB t.hs.length (withE t r) h.toNat s.toNat i
def combos {α : Type} : Nat → List α → List (List α)
  | 0, _ => [[]]
  | k + 1, [] => []
  | k + 1, x :: l => (combos k l).map (x :: ·) ++ combos (k + 1) l
def joinT (t : Tr) (h s : Int) : Option (List (Int × Int)) :=
  if fineB t h s (freeT t) = false then none else ((List.range ((freeT t).length + 1)).flatMap fun m => combos m (freeT t)).find? (fineB t h s)
end Go.W
open Go.W
def shopsT : Tr := ⟨[(wd "food", -1), (wd "bread", 0), (wd "cloth", -1), (wd "hats", 2)], [(wd "baker", 1, -1, []), (wd "bonnets", -1, 3, []), (wd "confectioner", 0, -1, [0]), (wd "hatter", 3, -1, []), (wd "mercer", 2, -1, [3]), (wd "milliner", -1, 1, [])]⟩
def laterT : Tr := ⟨shopsT.cs, [(wd "baker", 1, -1, []), (wd "bonnets", -1, 2, []), (wd "hatter", 2, -1, []), (wd "ironmonger", 0, -1, []), (wd "mercer", 2, -1, [2]), (wd "milliner", -1, 1, [])]⟩
namespace Go.W
theorem Z2 {n : Nat} {e : Edges} {h : Nat} {i : Nat} : ∀ {s t : Nat}, s ≤ t → reachB n e h s i = true → reachB n e h t i = true := by
  intro s t hst
  induction t with
  | zero => intro hr; obtain rfl : s = 0 := (by omega); exact hr
  | succ t ih =>
    intro hr
    by_cases hs : s = t + 1
    · subst hs; exact hr
    rw [reachB, ih (by omega) hr, Bool.true_or]
theorem Z1 {n : Nat} {e : Edges} {h s i : Nat} : reachB n e h (s + 1) i = true ↔ reachB n e h s i = true ∨ ∃ k, k < n ∧ reachB n e h s k = true ∧ e k i = true := by
  rw [reachB, Bool.or_eq_true, List.any_eq_true]
  constructor
  · rintro (h1 | ⟨k, h1, h2⟩)
    · exact .inl h1
    rw [Bool.and_eq_true] at h2; exact .inr ⟨k, List.mem_range.1 h1, h2⟩
  rintro (h1 | ⟨k, h1, h2⟩)
  · exact .inl h1
  exact .inr ⟨k, List.mem_range.2 h1, by rw [Bool.and_eq_true]; exact h2⟩
theorem nX {n : Nat} {e : Edges} {h s : Nat} (hs : ∀ i, i < n → reachB n e h (s + 1) i = true → reachB n e h s i = true) : ∀ (d i : Nat), i < n → reachB n e h (s + d) i = true → reachB n e h s i = true
  | 0, i, _, hr => hr
  | d + 1, i, hi, hr => by
    rw [show s + (d + 1) = (s + d) + 1 by omega, Z1] at hr
    rcases hr with hr | ⟨k, h1, h2, h3⟩
    · exact nX hs d i hi hr
    exact hs i hi (Z1.2 (.inr ⟨k, h1, nX hs d k h1 h2, h3⟩))
theorem gj8 {p q : Nat → Bool} : ∀ {n : Nat}, (∀ i, i < n → p i = true → q i = true) → (∃ i, i < n ∧ q i = true ∧ p i = false) → (List.range n).countP p < (List.range n).countP q
  | 0, _, ⟨i, h, _⟩ => by omega
  | n + 1, h, ⟨i, h1, h2, h3⟩ => by
    rw [List.range_succ, List.countP_append, List.countP_append]; have hle : (List.range n).countP p ≤ (List.range n).countP q := List.countP_mono_left fun x hx hp => h x (by have := List.mem_range.1 hx; omega) hp; simp only [List.countP_cons, List.countP_nil]
    by_cases hi : i = n
    · subst hi
      rw [h2, h3]
      simp; omega
    have := gj8 (n := n) (fun x hx hp => h x (by omega) hp) ⟨i, by omega, h2, h3⟩; have hn := h n (by omega)
    cases hp : p n
    · simp; split <;> omega
    rw [hn hp]; simp; omega
theorem az7 {n : Nat} {e : Edges} {h : Nat} (hh : h < n) : ∀ (s : Nat), (∃ k, k ≤ s ∧ ∀ i, i < n → reachB n e h (k + 1) i = true → reachB n e h k i = true) ∨ s < (List.range n).countP (reachB n e h s)
  | 0 => by
    right
    rw [List.countP_pos_iff]; exact ⟨h, List.mem_range.2 hh, by rw [reachB]; simp⟩
  | s + 1 => by
    rcases az7 hh s with ⟨k, h1, h2⟩ | h1
    · exact .inl ⟨k, by omega, h2⟩
    by_cases hs : ∀ i, i < n → reachB n e h (s + 1) i = true → reachB n e h s i = true
    · exact .inl ⟨s, by omega, hs⟩
    right
    simp only [Classical.not_forall] at hs; obtain ⟨i, hi, hr, hn⟩ := hs; have := gj8 (p := reachB n e h s) (q := reachB n e h (s + 1)) (n := n) (fun x _ hp => Z2 (by omega) hp) ⟨i, hi, hr, by simpa using hn⟩
    omega
theorem vL {n : Nat} {e : Edges} {h : Nat} (hh : h < n) {s i : Nat} (hi : i < n) (hr : reachB n e h s i = true) : reachB n e h n i = true := by
  by_cases hs : s ≤ n
  · exact Z2 hs hr
  rcases az7 (e := e) hh n with ⟨k, h1, h2⟩ | h1
  · exact Z2 h1 (nX h2 (s - k) i hi (by rw [show k + (s - k) = s by omega]; exact hr))
  have : (List.range n).countP (reachB n e h n) ≤ (List.range n).length := List.countP_le_length; rw [List.length_range] at this
  omega
def distB (n : Nat) (e : Edges) (h i : Nat) : Option Nat := (List.range (n + 1)).find? fun s => reachB n e h s i
theorem aj6 {p : Nat → Bool} : ∀ {m s : Nat}, (List.range m).find? p = some s ↔ s < m ∧ p s = true ∧ ∀ k, k < s → p k = false
  | 0, s => by simp
  | m + 1, s => by
    rw [List.range_succ, List.find?_append]
    cases hf : (List.range m).find? p with
    | some r =>
      have hr := (aj6 (m := m)).1 hf; simp only [Option.some_or, Option.some.injEq]
      constructor
      · rintro rfl; exact ⟨by omega, hr.2⟩
      rintro ⟨h1, h2, h3⟩
      rcases Nat.lt_trichotomy r s with h | h | h
      · have := h3 r h; rw [hr.2.1] at this; cases this
      · exact h
      have := hr.2.2 s h; rw [h2] at this; cases this
    | none =>
      have hn : ∀ k, k < m → p k = false := by
        intro k hk; have := List.find?_eq_none.1 hf k (List.mem_range.2 hk)
        simpa using this
      simp only [Option.none_or, List.find?_singleton]
      constructor
      · intro h
        split at h
        · rename_i hp; cases h; exact ⟨by omega, hp, hn⟩
        cases h
      rintro ⟨h1, h2, h3⟩
      by_cases hs : s = m
      · subst hs; rw [if_pos h2]
      have := hn s (by omega); rw [h2] at this; cases this
theorem bq4 {n : Nat} {e : Edges} {h i s : Nat} : distB n e h i = some s ↔ s < n + 1 ∧ reachB n e h s i = true ∧ ∀ k, k < s → reachB n e h k i = false := aj6
theorem bq5 {n : Nat} {e : Edges} {h i : Nat} : distB n e h i = none ↔ ∀ s, s ≤ n → reachB n e h s i = false := by
  unfold distB; rw [List.find?_eq_none]
  constructor
  · intro h s hs; simpa using h s (List.mem_range.2 (by omega))
  intro h s hs; simp [h s (by have := List.mem_range.1 hs; omega)]
def distI (n : Nat) (e : Edges) (h i : Nat) : Int := match distB n e h i with | some s => (s : Int) | none => -1
def stepsT (t : Tr) (h : Int) : List Int := (List.range t.hs.length).map fun i => distI t.hs.length (nextB t) h.toNat i
theorem dist_le {n : Nat} {e : Edges} {h i : Nat} (hh : h < n) (hi : i < n) (s : Nat) : (0 ≤ distI n e h i ∧ distI n e h i ≤ (s : Int)) ↔ reachB n e h s i = true := by
  unfold distI
  cases hd : distB n e h i with
  | some r =>
    have hr := bq4.1 hd
    simp only
    constructor
    · rintro ⟨_, h2⟩; exact Z2 (by omega) hr.2.1
    intro h2; refine ⟨by omega, ?_⟩
    apply Classical.byContradiction
    intro hn; have := hr.2.2 s (by omega); rw [h2] at this; cases this
  | none =>
    have hr := bq5.1 hd
    simp only
    constructor
    · rintro ⟨h1, _⟩; omega
    intro h2; have := hr n (Nat.le_refl _); rw [vL hh hi h2] at this; cases this
end Go.W
namespace Go.W
theorem bz5 (a : Str) : ¬ a < a := List.lt_irrefl a
theorem ij5 {a b : Str} (h1 : ¬ a < b) (h2 : ¬ b < a) : a = b := List.le_antisymm (List.not_lt.1 h2) (List.not_lt.1 h1)
def flipK (m : Str × Int) : Str × Int := (m.1, if m.2 = 1 then 2 else if m.2 = 2 then 1 else m.2)
structure MoveOK (a b : Tr) (m : Str × Int) : Prop where
  k1 : m.2 = 1 → (namesN a m.1).isSome = true ∧ (namesN b m.1).isSome = false
  k2 : m.2 = 2 → (namesN a m.1).isSome = false ∧ (namesN b m.1).isSome = true
  k3 : m.2 = 3 → (namesN a m.1).isSome = true ∧ (namesN b m.1).isSome = true
  k : m.2 = 1 ∨ m.2 = 2 ∨ m.2 = 3
end Go.W
end
