/- Texts of this claim, one behind another. -/

import Derived.Test.YtcdopfjiadifhaaGreatDoorAAi
import Derived.Test.YtcdopfjiadifhaaGreatDoorAAl
import Derived.Test.YtcdopfjiadifhaaGreatDoorAAf
set_option linter.unusedVariables false
set_option linter.unusedSimpArgs false
section
namespace Go.Proofs.YtcdopfjiadifhaaGreatDoor
open Go Go.W
set_option maxRecDepth 20000
attribute [local irreducible] HL HC HQ HB Row Rows2 Blk Facts
abbrev Ch := Int × Int × Int × Int × Int × Int
abbrev chV (c : Ch) : Value := .agg #[int c.1, int c.2.1, int c.2.2.1, int c.2.2.2.1, int c.2.2.2.2.1, int c.2.2.2.2.2]
abbrev Ad := Int × Int × Int
instance : El Ad where
  default := (0, 0, 0)
  cells x := [int x.1, int x.2.1, int x.2.2]
  sz := 3
  len _ := rfl
  one a u h := by simp at h; rcases h with h | h | h <;> subst h <;> rfl
abbrev adV (x : Ad) : Value := .agg #[int x.1, int x.2.1, int x.2.2]
def priceN (c : Ch) (x : Ad) : Int := if x.2.1 = 1 then c.1 else if x.2.1 = 2 then c.2.1 + (x.2.2 - 1) * c.2.2.1 else x.2.2 * c.2.2.2.1
def adI (g : Nat) (x : Ad) : Value := if x.2.1 = 1 then .iface T.iJ (.agg #[.pointer (c8 g)]) else if x.2.1 = 2 then .iface T.lK (.agg #[.pointer (c8 g), int x.2.2]) else .iface T.sQ (.agg #[.pointer (c8 g), int x.2.2])
abbrev tarL (g : Nat) (c : Ch) : Fact := Row (c8 g) [int c.1, int c.2.1, int c.2.2.1, int c.2.2.2.1]
def ChOK (c : Ch) : Prop := (0 ≤ c.1 ∧ c.1 ≤ 999) ∧ (0 ≤ c.2.1 ∧ c.2.1 ≤ 999) ∧ (0 ≤ c.2.2.1 ∧ c.2.2.1 ≤ 999) ∧ (0 ≤ c.2.2.2.1 ∧ c.2.2.2.1 ≤ 999) ∧ (0 ≤ c.2.2.2.2.1 ∧ c.2.2.2.2.1 ≤ 50) ∧ (1 ≤ c.2.2.2.2.2 ∧ c.2.2.2.2.2 ≤ 5)
theorem jz3 {a b A B : Int} (ha : 0 ≤ a ∧ a ≤ A) (hb : 0 ≤ b ∧ b ≤ B) : 0 ≤ a * b ∧ a * b ≤ A * B := ⟨Int.mul_nonneg ha.1 hb.1, Int.mul_le_mul ha.2 hb.2 hb.1 (by omega)⟩
theorem u3 (n lo hi : Int) : Meets Tryz.prog F.nC [int n, int lo, int hi] { val := fun _ : Unit => .bool (decide (lo ≤ n ∧ n ≤ hi)) } := by
 refine i9 F.gj0 rfl r6 fun w0 => ?_; refine i8 (d5 rfl (k8 (c7 rfl (c7 rfl (ax0 rfl rfl rfl (c7 rfl ?_)))))); refine u6 rfl rfl ?_ ?_
 ·intro hg1; have hg1' := hg1; try simp at hg1'
  refine l3 rfl rfl hg1 (c7 rfl (l3 rfl rfl hg1 (c7 rfl (l3 rfl rfl hg1 (ax0 rfl rfl rfl ?_))))); refine p_t rfl rfl (bt1 hg1) rfl ?_; refine d5 rfl (d8 (l5 ?_)); exact ret1 () rfl (congrArg (fun b => some (Value.bool b)) (by simp [hg1'])) rfl trivial nil_sb trivial
 intro hg1; have hg1' := hg1; try simp at hg1'
 refine t4 rfl rfl rfl rfl rfl hg1 (t4 rfl rfl rfl rfl rfl hg1 (t4 rfl rfl rfl rfl rfl hg1 ?_)); refine p_f rfl rfl (bf2 hg1) rfl ?_; refine d5 rfl (d8 (l5 ?_)); exact ret1 () rfl (congrArg (fun b => some (Value.bool b)) (by simp [Int.not_le.2 hg1'])) rfl trivial nil_sb trivial
theorem tW (c : Ch) : Meets Tryz.prog F.kq4 [chV c] { inv := fun _ : Nat => True, val := fun g => .pointer (c8 g), LO := fun g => [tarL g c] } := by
 refine i9 F.rz9 rfl r6 fun w0 => ?_; refine i8 ?_; refine H6 rfl rfl fun gB => ?_; refine d5 rfl (k8 ?_)
 first | refine a9 ⟨_, 0, none⟩ rfl rfl T.M2 rfl ?_ | refine a9 _ rfl rfl T.M2 rfl ?_
 first | refine b8 rfl T.b9 rfl (j0 mB rfl) ?_ | refine b8 rfl T.b9 rfl (j3 mB rfl) ?_ | refine b8 rfl T.b9 rfl (d6 mB (c9 (by omega) rfl)) ?_ | refine b8 rfl T.b9 rfl (d7 mB (rows_get (by omega) rfl)) ?_ | refine b8 rfl T.b9 rfl (j5 mB rfl) ?_
 first | refine a9 ⟨_, 1, none⟩ rfl rfl T.M1 rfl ?_ | refine a9 _ rfl rfl T.M1 rfl ?_
 first | refine b8 rfl T.b9 rfl (j0 mB rfl) ?_ | refine b8 rfl T.b9 rfl (j3 mB rfl) ?_ | refine b8 rfl T.b9 rfl (d6 mB (c9 (by omega) rfl)) ?_ | refine b8 rfl T.b9 rfl (d7 mB (rows_get (by omega) rfl)) ?_ | refine b8 rfl T.b9 rfl (j5 mB rfl) ?_
 first | refine a9 ⟨_, 2, none⟩ rfl rfl T.M0 rfl ?_ | refine a9 _ rfl rfl T.M0 rfl ?_
 first | refine b8 rfl T.b9 rfl (j0 mB rfl) ?_ | refine b8 rfl T.b9 rfl (j3 mB rfl) ?_ | refine b8 rfl T.b9 rfl (d6 mB (c9 (by omega) rfl)) ?_ | refine b8 rfl T.b9 rfl (d7 mB (rows_get (by omega) rfl)) ?_ | refine b8 rfl T.b9 rfl (j5 mB rfl) ?_
 first | refine a9 ⟨_, 3, none⟩ rfl rfl T.L9 rfl ?_ | refine a9 _ rfl rfl T.L9 rfl ?_
 first | refine b8 rfl T.b9 rfl (j0 mB rfl) ?_ | refine b8 rfl T.b9 rfl (j3 mB rfl) ?_ | refine b8 rfl T.b9 rfl (d6 mB (c9 (by omega) rfl)) ?_ | refine b8 rfl T.b9 rfl (d7 mB (rows_get (by omega) rfl)) ?_ | refine b8 rfl T.b9 rfl (j5 mB rfl) ?_
 refine u4 _ rfl rfl (fun _ => T.nH ..) ?_; refine H6 rfl rfl fun gB => ?_; refine C6 [int c.1, int c.2.1, int c.2.2.1, int c.2.2.2.1] (List.prefix_refl _) ?_; refine d5 rfl (d8 (l5 ?_)); exact ret1 gB rfl rfl rfl trivial nil_sb ⟨by repeat constructor, trivial⟩
theorem Y2 (g : Nat) (x : Ad) : Meets Tryz.prog F.Z3 [.pointer (c8 g), adV x] { val := fun _ : Unit => adI g x } := by
 refine i9 F.rM rfl r6 fun w0 => ?_; refine i8 ?_; refine H6 rfl rfl fun gB => ?_; refine d5 rfl (d8 (j4 (i8 ?_)))
 first | refine a9 ⟨_, 1, none⟩ rfl rfl T.I8 rfl ?_ | refine a9 _ rfl rfl T.I8 rfl ?_
 first | refine b8 rfl T.b9 rfl (j0 mB rfl) ?_ | refine b8 rfl T.b9 rfl (j3 mB rfl) ?_ | refine b8 rfl T.b9 rfl (d6 mB (c9 (by omega) rfl)) ?_ | refine b8 rfl T.b9 rfl (d7 mB (rows_get (by omega) rfl)) ?_ | refine b8 rfl T.b9 rfl (j5 mB rfl) ?_
 refine d8 (k9 (i8 (H0 rfl rfl rfl (d5 rfl (d8 ?_)))))
 first | refine m3 rfl (fun hb1 => ?_) (fun hb1 => ?_) | refine j7 rfl (fun hb1 => ?_) (fun hb1 => ?_)
 ·have hb1' := hb1; try simp at hb1'
  refine i8 (c7 rfl ?_); refine u4 _ rfl rfl (fun _ => T.bz0 ..) (cH rfl ⟨_, Tryz.underlying124, rfl⟩ rfl ?_); refine d5 rfl (d8 (l5 (G8 ?_))); exact ret1 () rfl (by show some _ = some (adI g x); unfold adI; rw [if_pos hb1]) rfl trivial nil_sb trivial
 have hb1' := hb1; try simp at hb1'
 refine i8 (H0 rfl rfl rfl (d5 rfl (d8 ?_)))
 first | refine m3 rfl (fun hb2 => ?_) (fun hb2 => ?_) | refine j7 rfl (fun hb2 => ?_) (fun hb2 => ?_)
 ·have hb2' := hb2; try simp at hb2'
  refine i8 (c7 rfl ?_)
  first | refine a9 ⟨_, 2, none⟩ rfl rfl T.G3 rfl ?_ | refine a9 _ rfl rfl T.G3 rfl ?_
  first | refine b8 rfl T.b9 rfl (j0 mB rfl) ?_ | refine b8 rfl T.b9 rfl (j3 mB rfl) ?_ | refine b8 rfl T.b9 rfl (d6 mB (c9 (by omega) rfl)) ?_ | refine b8 rfl T.b9 rfl (d7 mB (rows_get (by omega) rfl)) ?_ | refine b8 rfl T.b9 rfl (j5 mB rfl) ?_
  refine u4 _ rfl rfl (fun _ => T.aq4 ..) (cH rfl ⟨_, Tryz.underlying126, rfl⟩ rfl ?_); refine d5 rfl (d8 (l5 (G8 ?_))); exact ret1 () rfl (by show some _ = some (adI g x); unfold adI; rw [if_neg hb1, if_pos hb2]) rfl trivial nil_sb trivial
 have hb2' := hb2; try simp at hb2'
 refine k6 (y6 (j6 (i8 (c7 rfl ?_))))
 first | refine a9 ⟨_, 2, none⟩ rfl rfl T.G3 rfl ?_ | refine a9 _ rfl rfl T.G3 rfl ?_
 first | refine b8 rfl T.b9 rfl (j0 mB rfl) ?_ | refine b8 rfl T.b9 rfl (j3 mB rfl) ?_ | refine b8 rfl T.b9 rfl (d6 mB (c9 (by omega) rfl)) ?_ | refine b8 rfl T.b9 rfl (d7 mB (rows_get (by omega) rfl)) ?_ | refine b8 rfl T.b9 rfl (j5 mB rfl) ?_
 refine u4 _ rfl rfl (fun _ => T.aq3 ..) (cH rfl ⟨_, Tryz.underlying127, rfl⟩ rfl ?_); refine d5 rfl (d8 (l5 ?_)); exact ret1 () rfl (by show some _ = some (adI g x); unfold adI; rw [if_neg hb1, if_neg hb2]) rfl trivial nil_sb trivial
theorem nB (g : Nat) (c : Ch) : Meets Tryz.prog F.Q8 [.agg #[.pointer (c8 g)]] { LI := [tarL g c], val := fun _ : Unit => int c.1 } := by
 refine i9 F.vK rfl r6 fun w0 => ?_; refine i8 ?_; refine H6 rfl rfl fun gB => ?_; refine d5 rfl (k8 ?_)
 first | refine a9 ⟨_, 0, none⟩ rfl rfl T.nQ rfl ?_ | refine a9 _ rfl rfl T.nQ rfl ?_
 first | refine b8 rfl T.t6 rfl (j0 mB rfl) ?_ | refine b8 rfl T.t6 rfl (j3 mB rfl) ?_ | refine b8 rfl T.t6 rfl (d6 mB (c9 (by omega) rfl)) ?_ | refine b8 rfl T.t6 rfl (d7 mB (rows_get (by omega) rfl)) ?_ | refine b8 rfl T.t6 rfl (j5 mB rfl) ?_
 refine p9 rfl rfl (V9 0 0 rfl Tryz.underlying122 T.w9 rfl rfl rfl (by decide) rfl (b8 (v := int c.1) rfl T.b9 rfl (d6 (A := some ⟨g, 0, none⟩) (j := 0) mB rfl) ?_)); refine d5 rfl (d8 (l5 ?_)); exact ret1 () rfl (by show some _ = some (int c.1); rfl) rfl trivial nil_sb trivial
theorem pM (g : Nat) (c : Ch) (l : Int) (hc : ChOK c) (hl : 1 ≤ l ∧ l ≤ 6) : Meets Tryz.prog F.S9 [.agg #[.pointer (c8 g), int l]] { LI := [tarL g c], val := fun _ : Unit => int (c.2.1 + (l - 1) * c.2.2.1) } := by
 have hcl := hc.2.2.1; have hcb := hc.2.1; have hm := jz3 (a := l - 1) (A := 5) ⟨by omega, by omega⟩ hcl; refine i9 F.yK rfl r6 fun w0 => ?_; refine i8 ?_; refine H6 rfl rfl fun gB => ?_; refine d5 rfl (d8 (j4 ?_)); refine I5 14 mixed (by decide) (by decide) rfl rfl ?_
 apply m8 _ rfl rfl rfl
 ·intro w1
  first | refine a9 ⟨_, 0, none⟩ rfl rfl T.aT rfl ?_ | refine a9 _ rfl rfl T.aT rfl ?_
  refine d4 ?_; exact k4 rfl
 apply m8 _ rfl rfl rfl
 ·intro w1
  first | refine b8 rfl T.t6 rfl (j3 mB rfl) ?_ | refine b8 rfl T.t6 rfl (j0 mB rfl) ?_ | refine b8 rfl T.t6 rfl (d6 mB (c9 (by omega) rfl)) ?_ | refine b8 rfl T.t6 rfl (d7 mB (rows_get (by omega) rfl)) ?_ | refine b8 rfl T.t6 rfl (j5 mB rfl) ?_
  refine d4 ?_; exact k4 rfl
 refine l9 (fun w1 => p9 rfl rfl (q_z rfl)) (l9 (fun w1 => V9 1 1 rfl Tryz.underlying122 T.w9 rfl rfl rfl (by decide) rfl (q_z rfl)) (l9 (fun w1 => b8 (v := int c.2.1) rfl T.b9 rfl (d6 (A := some ⟨g, 0, none⟩) (j := 1) mB rfl) (q_z rfl)) ?_))
 apply m8 _ rfl rfl rfl
 ·intro w1
  first | refine a9 ⟨_, 1, none⟩ rfl rfl T.aS rfl ?_ | refine a9 _ rfl rfl T.aS rfl ?_
  refine d4 ?_; exact k4 rfl
 apply m8 _ rfl rfl rfl
 ·intro w1
  first | refine b8 rfl T.b9 rfl (j3 mB rfl) ?_ | refine b8 rfl T.b9 rfl (j0 mB rfl) ?_ | refine b8 rfl T.b9 rfl (d6 mB (c9 (by omega) rfl)) ?_ | refine b8 rfl T.b9 rfl (d7 mB (rows_get (by omega) rfl)) ?_ | refine b8 rfl T.b9 rfl (j5 mB rfl) ?_
  refine d4 ?_; exact k4 rfl
 refine l9 (fun w1 => S1 _ rfl rfl rfl rfl r5 (q_z rfl)) ?_
 apply m8 _ rfl rfl rfl
 ·intro w1
  first | refine a9 ⟨_, 0, none⟩ rfl rfl T.aT rfl ?_ | refine a9 _ rfl rfl T.aT rfl ?_
  refine d4 ?_; exact k4 rfl
 apply m8 _ rfl rfl rfl
 ·intro w1
  first | refine b8 rfl T.t6 rfl (j3 mB rfl) ?_ | refine b8 rfl T.t6 rfl (j0 mB rfl) ?_ | refine b8 rfl T.t6 rfl (d6 mB (c9 (by omega) rfl)) ?_ | refine b8 rfl T.t6 rfl (d7 mB (rows_get (by omega) rfl)) ?_ | refine b8 rfl T.t6 rfl (j5 mB rfl) ?_
  refine d4 ?_; exact k4 rfl
 refine l9 (fun w1 => p9 rfl rfl (q_z rfl)) (l9 (fun w1 => V9 2 2 rfl Tryz.underlying122 T.w9 rfl rfl rfl (by decide) rfl (q_z rfl)) (l9 (fun w1 => b8 (v := int c.2.2.1) rfl T.b9 rfl (d6 (A := some ⟨g, 0, none⟩) (j := 2) mB rfl) (q_z rfl)) (l9 (fun w1 => cx9 _ rfl rfl rfl rfl r5 (q_z rfl)) ?_))); refine D1 ⟨rfl, ?_⟩; refine v4 _ rfl rfl rfl rfl r5 ?_; refine d5 rfl (d8 (l5 ?_)); exact ret1 () rfl (by show some _ = some (int (c.2.1 + (l - 1) * c.2.2.1)); rfl) rfl trivial nil_sb trivial
theorem pL (g : Nat) (c : Ch) (l : Int) (hc : ChOK c) (hl : 1 ≤ l ∧ l ≤ 6) : Meets Tryz.prog F.S8 [.agg #[.pointer (c8 g), int l]] { LI := [tarL g c], val := fun _ : Unit => int (l * c.2.2.2.1) } := by
 have hm := jz3 (a := l) (A := 6) ⟨by omega, by omega⟩ hc.2.2.2.1; refine i9 F.yJ rfl r6 fun w0 => ?_; refine i8 ?_; refine H6 rfl rfl fun gB => ?_; refine d5 rfl (d8 (j4 ?_)); refine I5 7 mixed (by decide) (by decide) rfl rfl ?_
 apply m8 _ rfl rfl rfl
 ·intro w1
  first | refine a9 ⟨_, 1, none⟩ rfl rfl T.aR rfl ?_ | refine a9 _ rfl rfl T.aR rfl ?_
  refine d4 ?_; exact k4 rfl
 apply m8 _ rfl rfl rfl
 ·intro w1
  first | refine b8 rfl T.b9 rfl (j3 mB rfl) ?_ | refine b8 rfl T.b9 rfl (j0 mB rfl) ?_ | refine b8 rfl T.b9 rfl (d6 mB (c9 (by omega) rfl)) ?_ | refine b8 rfl T.b9 rfl (d7 mB (rows_get (by omega) rfl)) ?_ | refine b8 rfl T.b9 rfl (j5 mB rfl) ?_
  refine d4 ?_; exact k4 rfl
 apply m8 _ rfl rfl rfl
 ·intro w1
  first | refine a9 ⟨_, 0, none⟩ rfl rfl T.rJ rfl ?_ | refine a9 _ rfl rfl T.rJ rfl ?_
  refine d4 ?_; exact k4 rfl
 apply m8 _ rfl rfl rfl
 ·intro w1
  first | refine b8 rfl T.t6 rfl (j3 mB rfl) ?_ | refine b8 rfl T.t6 rfl (j0 mB rfl) ?_ | refine b8 rfl T.t6 rfl (d6 mB (c9 (by omega) rfl)) ?_ | refine b8 rfl T.t6 rfl (d7 mB (rows_get (by omega) rfl)) ?_ | refine b8 rfl T.t6 rfl (j5 mB rfl) ?_
  refine d4 ?_; exact k4 rfl
 refine l9 (fun w1 => p9 rfl rfl (q_z rfl)) (l9 (fun w1 => V9 3 3 rfl Tryz.underlying122 T.w9 rfl rfl rfl (by decide) rfl (q_z rfl)) (l9 (fun w1 => b8 (v := int c.2.2.2.1) rfl T.b9 rfl (d6 (A := some ⟨g, 0, none⟩) (j := 3) mB rfl) (q_z rfl)) ?_)); refine D1 ⟨rfl, ?_⟩; refine cx9 _ rfl rfl rfl rfl r5 ?_; refine d5 rfl (d8 (l5 ?_)); exact ret1 () rfl (by show some _ = some (int (l * c.2.2.2.1)); rfl) rfl trivial nil_sb trivial
end Go.Proofs.YtcdopfjiadifhaaGreatDoor
end
section
namespace Go.W
open Go Go.RowKit
section
variable {κ : Type} [DecidableEq κ] {enc : κ → Value} {kt e : TypeId}
structure SetM (l : List (Ment κ)) (clk : Nat) (S : κ → Prop) : Prop where
  bs : (l.map (·.2.2)).Pairwise (· < ·)
  lt : ∀ p ∈ l, p.2.2 < clk
  nd : (l.map (·.1)).Nodup
  al : ∀ k, k ∈ l.map (·.1) ↔ S k
omit [DecidableEq κ] in
theorem SetM.nil (clk : Nat) : SetM ([] : List (Ment κ)) clk (fun _ => False) := ⟨.nil, by simp, by simp, by simp⟩
omit [DecidableEq κ] in
theorem SetM.congr {l : List (Ment κ)} {clk : Nat} {S S' : κ → Prop} (h : SetM l clk S) (e : ∀ k, S k ↔ S' k) : SetM l clk S' := ⟨h.bs, h.lt, h.nd, fun k => (h.al k).trans (e k)⟩
theorem SetM.put {l : List (Ment κ)} {clk : Nat} {S : κ → Prop} (h : SetM l clk S) (k : κ) (v : Value) : SetM (putM l k v clk) (clkM l k clk) (fun x => S x ∨ x = k) := by
  have hk := zL l k v clk; have hb := uM l k v clk; have hc := qj8 l k clk
  by_cases hm : k ∈ l.map (·.1)
  · rw [if_pos hm] at hk hb hc
    refine ⟨by rw [hb]; exact h.bs, fun p hp => ?_, by rw [hk]; exact h.nd, fun x => ?_⟩
    · have : p.2.2 ∈ (putM l k v clk).map (·.2.2) := List.mem_map.2 ⟨p, hp, rfl⟩
      rw [hb] at this; obtain ⟨q, hq, e⟩ := List.mem_map.1 this; rw [hc, ← e]; exact h.lt q hq
    rw [hk, h.al]; exact ⟨.inl, fun hx => hx.elim id fun e => by subst e; exact (h.al x).1 hm⟩
  rw [if_neg hm] at hk hb hc; refine ⟨?_, fun p hp => ?_, ?_, fun x => ?_⟩
  · rw [hb, List.pairwise_append]
    refine ⟨h.bs, List.pairwise_singleton _ _, fun a ha b hb' => ?_⟩; obtain ⟨q, hq, rfl⟩ := List.mem_map.1 ha; rw [List.mem_singleton] at hb'; subst hb'; exact h.lt q hq
  · have : p.2.2 ∈ (putM l k v clk).map (·.2.2) := List.mem_map.2 ⟨p, hp, rfl⟩
    rw [hb] at this; rw [hc]
    rcases List.mem_append.1 this with h1 | h1
    · obtain ⟨q, hq, e⟩ := List.mem_map.1 h1
      have := h.lt q hq
      omega
    rw [List.mem_singleton] at h1; omega
  · rw [hk, List.nodup_append]
    refine ⟨h.nd, by simp, fun a ha b hb' => ?_⟩; rw [List.mem_singleton] at hb'; subst hb'; exact fun e => hm (e ▸ ha)
  rw [hk, List.mem_append, List.mem_singleton, h.al]
theorem SetM.count {l vis : List (Ment κ)} {clk : Nat} {S : κ → Prop} (h : SetM l clk S) (hv : Vis l vis) (ha : ∀ p ∈ l, p.2.2 ∈ vis.map (·.2.2)) {K : List κ} (hK : K.Nodup) (hS : ∀ k, S k ↔ k ∈ K) : vis.length = K.length := by
  have h1 : vis.length = l.length := by
    refine Nat.le_antisymm hv.len ?_; have hb : (l.map (·.2.2)).Nodup := h.bs.imp (fun h => Nat.ne_of_lt h); have := bO hb (K := vis.map (·.2.2)) (fun x hx => by obtain ⟨p, hp, rfl⟩ := List.mem_map.1 hx; exact ha p hp)
    simpa using this
  have h2 := bO h.nd (K := K) (fun x hx => (hS x).1 ((h.al x).1 hx)); have h3 := bO hK (K := l.map (·.1)) (fun x hx => (h.al x).2 ((hS x).2 hx))
  simp at h2 h3
  omega
variable {c : Cx} {Q : Exit → Act → World → Prop} {fr : Fr} {hp : Hp} {L : List Fact} {ops : Array Oper} {rest : List Oper}
variable {d : Tmp} {ty : TypeId} {pos : String} {af : Array Edge}
omit [DecidableEq κ] in
theorem tj0 {t : TypeId} {x : Operand} {g : Nat} {l : List (Ment κ)} {clk : Nat} {hp' : Hp} (ht : c.P.underlying t = some (.map kt e)) (hx : ev fr x = some (.map (some g))) (hpp : hp.Perm ((g, mapO enc l clk) :: hp'))
    (k : HL c ops Q rest fr ((g, mapO enc ([] : List (Ment κ)) clk) :: hp') L) : HL c ops Q (⟨none, .call ⟨.builtin .clear, #[x], #[t]⟩, ty, pos, af, none⟩ :: rest) fr hp L :=
  hl_eff rfl rfl fun a w ha hw => by
    have hw' := hw.perm hpp; have hg := hw'.own (g, mapO enc l clk) (by simp); have hg' : w.heap[g]? = some (.map (l.map (entOf enc)).toArray clk) := hg; refine ⟨.tuple #[], { w with heap := w.heap.setIfInBounds g (mapO enc ([] : List (Ment κ)) clk) }, _, L, ?_, hw'.write (o' := mapO enc ([] : List (Ment κ)) clk) ⟨rfl, rfl, rfl, by simp, fun j hj hn => by simp only [List.mem_singleton] at hn; simp [Array.getElem?_setIfInBounds_ne (Ne.symm hn)], Nat.le_refl _⟩ ?_, k⟩
    · simp [execOp, resolve, invoke, builtin, Builtin.clear_, ha.ev hx, run_underlying ht, MapKept.run_getObj_map hg', MapKept.run_setObj_map _ hg', mapO]
    have := E1 hg; simp only at this
    simp [this]
end
end Go.W
end
section
namespace Go.Proofs.YtcdopfjiadifhaaGreatDoor
open Go Go.W
set_option maxRecDepth 20000
attribute [local irreducible] HL HC HQ HB Row Rows2 Blk Facts
abbrev saC (c : Ch) (ps : Sl Int) (qs : Sl Ad) : Array Value := #[int c.1, int c.2.1, int c.2.2.1, int c.2.2.2.1, int c.2.2.2.2.1, int c.2.2.2.2.2, .slice ps.a ps.l.length ps.c, .slice qs.a qs.l.length qs.c]
abbrev saV (c : Ch) (ps : Sl Int) (qs : Sl Ad) : Value := .agg (saC c ps qs)
abbrev saL (ps : Sl Int) (qs : Sl Ad) : List Fact := [Row ps.a (rows ps.l), Row qs.a (rows qs.l)]
structure SaOK (c : Ch) (ss : List Int) (xs : List Ad) : Prop where
  ch : ChOK c
  n1 : 1 ≤ ss.length
  n5 : ss.length ≤ 5
  st : ∀ s ∈ ss, 0 ≤ s ∧ s ≤ 9
  x8 : xs.length ≤ 8
  ad : ∀ x ∈ xs, (0 ≤ x.1 ∧ x.1 < (ss.length : Int)) ∧ (1 ≤ x.2.1 ∧ x.2.1 ≤ 3) ∧ (1 ≤ x.2.2 ∧ x.2.2 ≤ 6)
def hereB (ss : List Int) (xs : List Ad) (s : Int) (i : Nat) : Bool := xs.any (fun x => decide (x.1 = (i : Int))) && decide (ss.getD i default = s)
def offCnt (ss : List Int) (xs : List Ad) (s : Int) : Nat := ((List.range ss.length).filter (hereB ss xs s)).length
def offB (c : Ch) (ss : List Int) (xs : List Ad) (s : Int) : Bool := decide (c.2.2.2.2.2 ≤ (offCnt ss xs s : Int))
def discK (c : Ch) (ss : List Int) (xs : List Ad) (k : Nat) : List Int := ((List.range k).filter fun i : Nat => offB c ss xs (i : Int)).map fun i : Nat => (i : Int)
theorem mV (c : Ch) (ss : List Int) (xs : List Ad) (k : Nat) : discK c ss xs (k + 1) = if offB c ss xs (k : Int) = true then discK c ss xs k ++ [(k : Int)] else discK c ss xs k := by
  unfold discK; rw [List.range_succ, List.filter_append, List.map_append, List.filter_cons, List.filter_nil]
  by_cases e : offB c ss xs (k : Int) = true
  · rw [if_pos e, if_pos e]; rfl
  rw [if_neg e, if_neg e]; simp
theorem iz0 (c : Ch) (ss : List Int) (xs : List Ad) (k : Nat) : (discK c ss xs k).length ≤ k := by
  unfold discK; rw [List.length_map]; exact Nat.le_trans (List.length_filter_le _ _) (by simp)
def hereS (ss : List Int) (xs : List Ad) (s : Int) (k : Nat) (v : Int) : Prop := ∃ x ∈ xs.take k, x.1 = v ∧ ss.getD v.toNat default = s
theorem nz0 (ss : List Int) (xs : List Ad) (s v : Int) : False ↔ hereS ss xs s 0 v := by simp [hereS]
theorem rq4 {ss : List Int} {xs : List Ad} {s : Int} {k : Nat} (hk : k < xs.length) (h : ss.getD (xs.getD k default).1.toNat default = s) (v : Int) : (hereS ss xs s k v ∨ v = (xs.getD k default).1) ↔ hereS ss xs s (k + 1) v := by
  unfold hereS; rw [List.take_succ_eq_append_getElem hk]; have e : xs.getD k default = xs[k] := A7 hk; rw [e] at h ⊢; simp only [List.mem_append, List.mem_singleton]
  constructor
  · rintro (⟨x, hx, h1⟩ | rfl)
    · exact ⟨x, .inl hx, h1⟩
    exact ⟨xs[k], .inr rfl, rfl, h⟩
  rintro ⟨x, hx | rfl, h1, h2⟩
  · exact .inl ⟨x, hx, h1, h2⟩
  exact .inr h1.symm
theorem tx7 {ss : List Int} {xs : List Ad} {s : Int} {k : Nat} (hk : k < xs.length) (h : ¬ ss.getD (xs.getD k default).1.toNat default = s) (v : Int) : hereS ss xs s k v ↔ hereS ss xs s (k + 1) v := by
  unfold hereS; rw [List.take_succ_eq_append_getElem hk]; have e : xs.getD k default = xs[k] := A7 hk; rw [e] at h; simp only [List.mem_append, List.mem_singleton]
  constructor
  · rintro ⟨x, hx, h1⟩
    exact ⟨x, .inl hx, h1⟩
  rintro ⟨x, hx | rfl, h1, h2⟩
  · exact ⟨x, hx, h1, h2⟩
  rw [h1] at h; exact absurd h2 h
theorem ix5 {c : Ch} {ss : List Int} {xs : List Ad} (h : SaOK c ss xs) (s v : Int) : hereS ss xs s xs.length v ↔ v ∈ ((List.range ss.length).filter (hereB ss xs s)).map (fun i : Nat => (i : Int)) := by
  unfold hereS; rw [List.take_length]; simp only [List.mem_map, List.mem_filter, List.mem_range, hereB, Bool.and_eq_true, List.any_eq_true, decide_eq_true_eq]
  constructor
  · rintro ⟨x, hx, rfl, h2⟩
    have := (h.ad x hx).1; exact ⟨x.1.toNat, ⟨by omega, ⟨x, hx, by omega⟩, h2⟩, by omega⟩
  rintro ⟨i, ⟨_, ⟨x, hx, h1⟩, h2⟩, rfl⟩; exact ⟨x, hx, h1, by simpa using h2⟩
theorem lz3 {l : List Nat} (h : l.Nodup) : (l.map fun i : Nat => (i : Int)).Nodup := by
  rw [List.nodup_iff_pairwise_ne, List.pairwise_map]; exact h.imp fun hab e => hab (by omega)
theorem mj6 {ss : List Int} {v : Int} (h0 : 0 ≤ v) (h1 : v < (ss.length : Int)) : v.toNat < ss.length := by omega
theorem sx4 {c : Ch} {ss : List Int} {xs : List Ad} (h : SaOK c ss xs) {s : Int} {l : List (Ment Int)} {clk : Nat} (hM : SetM l clk (hereS ss xs s xs.length)) : l.length ≤ 5 := by
  have h1 := bO hM.nd (fun x hx => (ix5 h s x).1 ((hM.al x).1 hx)); rw [List.length_map, List.length_map] at h1; have h2 := List.length_filter_le (hereB ss xs s) (List.range ss.length); rw [List.length_range] at h2; have := h.n5
  omega
abbrev KI : KeyC Tryz.prog T.int int := KeyC.int Tryz.underlying3
theorem rQ (c : Ch) (ps : Sl Int) (qs : Sl Ad) (h : SaOK c ps.l qs.l) : Meets Tryz.prog F.iK [saV c ps qs] { LI := saL ps qs, inv := fun x : OutC => (discK c ps.l qs.l 10).length ≤ x.2, val := fun x => .slice x.1 (discK c ps.l qs.l 10).length x.2, LO := fun x => [Row x.1 (rows (discK c ps.l qs.l 10))] } := by
 have hx8 := h.x8; refine i9 F.aj6 rfl r6 fun w0 => ?_; refine i8 ?_; refine H6 rfl rfl fun gB => ?_; refine d5 rfl (k8 (d5 rfl (k8 ?_))); refine nq9 int rfl fun gm => ?_; refine d5 rfl (d8 (j4 (i8 (c7 rfl (d8 (k9 ?_)))))); refine w3 (β := Nat × OutC × Hp × List (Ment Int) × Nat) ⟨fun x => x.1 ≤ 10 ∧ Grow T.int 1 x.2.1.1 (discK c ps.l qs.l x.1).length x.2.1.2 (rows (discK c ps.l qs.l x.1)) x.2.2.1, fun x => [(1, .pointer (c8 gB)), (3, .slice x.2.1.1 (discK c ps.l qs.l x.1).length x.2.1.2), (4, .map (some gm)), (10, int x.1)], fun x => [(gm, mapO int x.2.2.2.1 x.2.2.2.2), (gB, .cells (saC c ps qs) T.A3 (0, 0))] ++ x.2.2.1, fun _ => saL ps qs⟩ (fun x => 10 - x.1) (0, (none, 0), [], [], 0) ⟨Nat.zero_le _, Grow.nil _ _⟩ mC (.refl _) mC fun x hx => ?_; obtain ⟨i, ⟨na, nc⟩, og, l0, clk0⟩ := x; obtain ⟨hi, hG⟩ := hx; simp only at hi hG; have hdl := iz0 c ps.l qs.l i; refine i8 (B6 rfl rfl rfl (d8 (j4 ?_)))
 first | refine m3 rfl (fun hb1 => ?_) (fun hb1 => ?_) | refine j7 rfl (fun hb1 => ?_) (fun hb1 => ?_)
 ·have hb1' := hb1; try simp at hb1'
  have hi2 : i < 10 := by omega
  refine k6 (j6 (j4 (k9 (i8 (c7 rfl (d5 rfl (k8 ?_))))))); refine c7 rfl (tj0 (enc := int) (l := l0) (clk := clk0) T.gJ rfl (.refl _) ?_); refine d8 (j4 (i8 ?_))
  first | refine a9 ⟨_, 7, none⟩ rfl rfl T.l4 rfl ?_ | refine a9 _ rfl rfl T.l4 rfl ?_
  first | refine b8 rfl T.d9 rfl (j0 mB rfl) ?_ | refine b8 rfl T.d9 rfl (j3 mB rfl) ?_ | refine b8 rfl T.d9 rfl (d6 mB (c9 (by omega) rfl)) ?_ | refine b8 rfl T.d9 rfl (d7 mB (rows_get (by omega) rfl)) ?_ | refine b8 rfl T.d9 rfl (j5 mB rfl) ?_
  refine l7 rfl T.w8 rfl ?_; refine c7 rfl (d8 (k9 ?_)); refine w3 (β := Nat × List (Ment Int) × Nat) ⟨fun x => x.1 ≤ qs.l.length ∧ SetM x.2.1 x.2.2 (hereS ps.l qs.l (i : Int) x.1), fun x => [(1, .pointer (c8 gB)), (3, .slice (na, nc).1 (discK c ps.l qs.l i).length (na, nc).2), (4, .map (some gm)), (10, int i), (5, int i), (15, .slice qs.a qs.l.length qs.c), (16, int qs.l.length), (17, int x.1)], fun x => [(gm, mapO int x.2.1 x.2.2), (gB, .cells (saC c ps qs) T.A3 (0, 0))] ++ og, fun _ => saL ps qs⟩ (fun x => qs.l.length - x.1) (0, [], clk0) ⟨Nat.zero_le _, (SetM.nil clk0).congr fun v => nz0 _ _ _ v⟩ mC (.refl _) mC fun x hx => ?_; obtain ⟨k, l, clk⟩ := x; obtain ⟨hk, hM⟩ := hx; simp only at hk hM; refine i8 (B6 rfl rfl rfl (d8 (j4 ?_)))
  first | refine m3 rfl (fun hb2 => ?_) (fun hb2 => ?_) | refine j7 rfl (fun hb2 => ?_) (fun hb2 => ?_)
  ·have hb2' := hb2; try simp at hb2'
   have hk2 : k < qs.l.length := by omega
   have hxk := (h.ad _ (w7 hk2)).1; have hsk := mj6 hxk.1 hxk.2; refine k6 (j6 (j4 (k9 (i8 ?_)))); refine v6 (α := Ad) _ _ rfl T.w8 T.m4 rfl rfl rfl mB rfl (by omega) (by decide) (u7 rfl T.r8 T.m4 rfl rfl (t5 mB (t9 (by omega))) ?_); refine y9 rfl (fun _ => T.U5 _) fun gA => ?_; refine w4 rfl rfl (by first | exact .refl _ | exact perm2 _ _ _ | exact perm3 _ _ _ _ | exact perm4 _ _ _ _ _) T.m4 (by rfl) (by rfl) ?_; refine k8 ?_
   first | refine a9 ⟨_, 6, none⟩ rfl rfl T.q9 rfl ?_ | refine a9 _ rfl rfl T.q9 rfl ?_
   first | refine b8 rfl T.i7 rfl (j0 mB rfl) ?_ | refine b8 rfl T.i7 rfl (j3 mB rfl) ?_ | refine b8 rfl T.i7 rfl (d6 mB (c9 (by omega) rfl)) ?_ | refine b8 rfl T.i7 rfl (d7 mB (rows_get (by omega) rfl)) ?_ | refine b8 rfl T.i7 rfl (j5 mB rfl) ?_
   first | refine a9 ⟨_, 0, none⟩ rfl rfl T.G4 rfl ?_ | refine a9 _ rfl rfl T.G4 rfl ?_
   first | refine b8 rfl T.b9 rfl (j0 mB rfl) ?_ | refine b8 rfl T.b9 rfl (j3 mB rfl) ?_ | refine b8 rfl T.b9 rfl (d6 mB (c9 (by omega) rfl)) ?_ | refine b8 rfl T.b9 rfl (d7 mB (rows_get (by omega) rfl)) ?_ | refine b8 rfl T.b9 rfl (j5 mB rfl) ?_
   refine v6 (α := Int) ps.l (qs.l.getD k default).1.toNat rfl T.t7 T.w9 rfl rfl (Int.toNat_of_nonneg hxk.1).symm mB rfl (by omega) (by decide) (b8 rfl T.b9 rfl (d6 mB (c9 (by omega) rfl)) ?_); refine c7 rfl (H0 rfl rfl rfl (d8 ?_))
   first | refine m3 rfl (fun hb3 => ?_) (fun hb3 => ?_) | refine j7 rfl (fun hb3 => ?_) (fun hb3 => ?_)
   ·have hb3' := hb3; try simp at hb3'
    refine j8 (c7 rfl ?_)
    first | refine a9 ⟨_, 0, none⟩ rfl rfl T.G4 rfl ?_ | refine a9 _ rfl rfl T.G4 rfl ?_
    first | refine b8 rfl T.b9 rfl (j0 mB rfl) ?_ | refine b8 rfl T.b9 rfl (j3 mB rfl) ?_ | refine b8 rfl T.b9 rfl (d6 mB (c9 (by omega) rfl)) ?_ | refine b8 rfl T.b9 rfl (d7 mB (rows_get (by omega) rfl)) ?_ | refine b8 rfl T.b9 rfl (j5 mB rfl) ?_
    refine sz9 (k := (qs.l.getD k default).1) (v := .bool true) KI (.inl rfl) T.gJ rfl rfl rfl (l := l) (clk := clk) (hp' := (gA, _) :: (gB, .cells (saC c ps qs) T.A3 (0, 0)) :: og) (.swap _ _ _) ?_; refine d4 (y6 (j6 (j8 ?_))); refine v4 _ rfl rfl rfl rfl r5 ?_; refine c7 rfl (d4 ?_); exact again _ (k + 1, putM l (qs.l.getD k default).1 (.bool true) clk, clkM l (qs.l.getD k default).1 clk) ⟨by show k + 1 ≤ qs.l.length; omega, (hM.put _ _).congr fun v => rq4 hk2 hb3 v⟩ (D5 (by omega)) mC (.cons_cons _ (.cons _ (.refl _))) mC
   have hb3' := hb3; try simp at hb3'
   refine k6 (y6 (j6 (j8 ?_))); refine v4 _ rfl rfl rfl rfl r5 ?_; refine c7 rfl (d4 ?_); exact again _ (k + 1, l, clk) ⟨by show k + 1 ≤ qs.l.length; omega, hM.congr fun v => tx7 hk2 hb3 v⟩ (D5 (by omega)) mC (.cons _ (.refl _)) mC
  have hb2' := hb2; try simp at hb2'
  have hk2 : k = qs.l.length := by omega
  subst hk2; have hl5 := sx4 h hM; refine u9 (D6 (u5 (j6 (i8 (d5 rfl (d8 (dq1 ?_))))))); refine j8 (c7 rfl ?_); refine sz6 rfl T.gJ rfl (pz1 m0) fun gi => ?_; refine d8 (k9 ?_); refine w3 (β := List (Ment Int)) ⟨fun vis => Vis l vis, fun vis => [(1, .pointer (c8 gB)), (3, .slice (na, nc).1 (discK c ps.l qs.l i).length (na, nc).2), (4, .map (some gm)), (10, int i), (5, int i), (34, .pointer (c8 gi)), (8, int vis.length)], fun vis => [(gi, iterM gm clk vis), (gm, mapO int l clk), (gB, .cells (saC c ps qs) T.A3 (0, 0))] ++ og, fun _ => saL ps qs⟩ (fun vis => l.length - vis.length) [] (Vis.nil _) mC (.refl _) mC fun vis hV => ?_; simp only at hV; refine i8 ?_; refine r_nextM (enc := int) rfl rfl (pz1 m1) hM.lt p6 fun x hx0 hx1 => ?_; refine r_mext0 (enc := int) rfl rfl ?_; refine d8 (j4 ?_)
  first | refine m3 rfl (fun hb4 => ?_) (fun hb4 => ?_) | refine j7 rfl (fun hb4 => ?_) (fun hb4 => ?_)
  ·have hb4' := hb4; try simp at hb4'
   obtain ⟨q, rfl⟩ := Option.isSome_iff_exists.1 hb4; obtain ⟨hq1, hq2⟩ := hx1 q rfl; have hlt := hV.lt hq1 hq2; refine k6 (j6 (k9 (j8 (c7 rfl ?_)))); refine v4 _ rfl rfl rfl rfl r5 ?_; refine d5 rfl (d4 (y6 ?_)); exact again _ (vis ++ [q]) (hV.snoc hq1 hq2) (by show l.length - (vis ++ [q]).length < l.length - vis.length; rw [List.length_append, List.length_singleton]; omega) ⟨rfl, rfl, rfl, rfl, rfl, rfl, by show some (int ((vis.length : Int) + 1)) = some (int ((vis ++ [q]).length : Int)); rw [List.length_append]; rfl, trivial⟩ (.refl _) mC
  have hb4' := hb4; try simp at hb4'
  have hx : x = none := by cases x with | none => rfl | some q => simp at hb4
  subst hx
  have hcn : vis.length = offCnt ps.l qs.l (i : Int) := by
    rw [hM.count hV (hx0 rfl) (lz3 (List.nodup_range.filter _)) (ix5 h (i : Int)), List.length_map]; rfl
  refine u9 (D6 (u5 (j6 (i8 (c7 rfl ?_)))))
  first | refine a9 ⟨_, 0, none⟩ rfl rfl T.B9 rfl ?_ | refine a9 _ rfl rfl T.B9 rfl ?_
  first | refine a9 ⟨_, 5, none⟩ rfl rfl T.L8 rfl ?_ | refine a9 _ rfl rfl T.L8 rfl ?_
  first | refine b8 rfl T.b9 rfl (j0 mB rfl) ?_ | refine b8 rfl T.b9 rfl (j3 mB rfl) ?_ | refine b8 rfl T.b9 rfl (d6 mB (c9 (by omega) rfl)) ?_ | refine b8 rfl T.b9 rfl (d7 mB (rows_get (by omega) rfl)) ?_ | refine b8 rfl T.b9 rfl (j5 mB rfl) ?_
  refine X2 rfl rfl rfl (d8 ?_)
  first | refine m3 rfl (fun hb5 => ?_) (fun hb5 => ?_) | refine j7 rfl (fun hb5 => ?_) (fun hb5 => ?_)
  ·have hb5' := hb5; try simp at hb5'
   have hof : offB c ps.l qs.l (i : Int) = true := by unfold offB; rw [← hcn]; exact decide_eq_true hb5
   refine j8 (c7 rfl (c7 rfl ?_)); refine q7 _ rfl rfl (fun _ => T.Z7 ..) fun gS => ?_; refine C6 (rows [(i : Int)]) (List.prefix_refl _) ?_; refine O7 (hp' := [(gi, iterM gm clk (vis ++ [])), (gm, mapO int l clk), (gB, .cells (saC c ps qs) T.A3 (0, 0))]) ((discK c ps.l qs.l i).length + 1) (rows (discK c ps.l qs.l i ++ [(i : Int)])) T.cj3 rfl rfl rfl hG (R6 fun q => by simp only [Option.toList_none, List.append_eq, List.cons_append, List.nil_append, List.countP_append, List.countP_cons, List.countP_nil]; omega) (Src.row (news := rows [(i : Int)]) (m := 1) m0 rfl (K5 _) (by decide)) rfl (D2 _ _).symm (by unfold maxLen; omega) (by omega) fun A' c' og' hG' => ?_; refine d5 rfl (d4 (y6 (j6 (j8 ?_)))); refine v4 _ rfl rfl rfl rfl r5 ?_; refine c7 rfl (d4 ?_); refine R8 (hp' := (gi, iterM gm clk (vis ++ [])) :: (gm, mapO int l clk) :: (gB, .cells (saC c ps qs) T.A3 (0, 0)) :: og') (R6 fun q => by simp only [List.append_eq, List.cons_append, List.nil_append, List.countP_append, List.countP_cons, List.countP_nil]; omega) ?_; exact again _ (i + 1, (A', c'), og', l, clk) ⟨by show i + 1 ≤ 10; omega, by show Grow T.int 1 A' (discK c ps.l qs.l (i + 1)).length c' (rows (discK c ps.l qs.l (i + 1))) og'; rw [mV, if_pos hof, List.length_append]; exact hG'⟩ (D5 (by omega)) ⟨rfl, by show some (Value.slice A' ((discK c ps.l qs.l i).length + 1) c') = some (Value.slice A' (discK c ps.l qs.l (i + 1)).length c'); rw [mV, if_pos hof, List.length_append]; rfl, rfl, rfl, trivial⟩ (.cons _ (.refl _)) mC
  have hb5' := hb5; try simp at hb5'
  have hof : ¬ offB c ps.l qs.l (i : Int) = true := by unfold offB; rw [← hcn, decide_eq_true_eq]; omega
  refine k6 (y6 (j6 (j8 ?_))); refine v4 _ rfl rfl rfl rfl r5 ?_; refine c7 rfl (d4 ?_); exact again _ (i + 1, (na, nc), og, l, clk) ⟨by show i + 1 ≤ 10; omega, by show Grow T.int 1 na (discK c ps.l qs.l (i + 1)).length nc (rows (discK c ps.l qs.l (i + 1))) og; rw [mV, if_neg hof]; exact hG⟩ (D5 (by omega)) ⟨rfl, by show some (Value.slice na (discK c ps.l qs.l i).length nc) = some (Value.slice na (discK c ps.l qs.l (i + 1)).length nc); rw [mV, if_neg hof], rfl, rfl, trivial⟩ (.cons _ (.refl _)) mC
 have hb1' := hb1; try simp at hb1'
 have hi2 : i = 10 := by omega
 subst hi2; refine u9 (D6 (u5 (j6 (i8 (c7 rfl (d5 rfl (d8 (l5 ?_)))))))); refine R8 (hp' := og ++ [(gm, mapO int l0 clk0), (gB, .cells (saC c ps qs) T.A3 (0, 0))]) (R6 fun q => by simp only [List.append_eq, List.cons_append, List.nil_append, List.countP_append, List.countP_cons, List.countP_nil]; omega) ?_; refine xR hG ?_; exact ret1 (na, nc) rfl rfl rfl hG.le nil_sb mC
end Go.Proofs.YtcdopfjiadifhaaGreatDoor
end
section
namespace Go.W
open Go Go.RowKit
theorem madeR {α : Type} [El α] (a0 : α) {zc : Array Value} (hz : zc.toList = El.cells a0) (n : Nat) : madeCells zc (n * El.sz α) = (rows (List.replicate n a0)).toArray := by
  have hsz : zc.size = El.sz α := by rw [← El.len a0, ← hz, Array.length_toList]
  apply Array.ext
  · simp [madeCells, V8]
  intro i h1 h2; have hi : i < n * El.sz α := by simpa [madeCells] using h1
  have hs0 : 0 < El.sz α := Nat.pos_of_ne_zero fun h => by rw [h] at hi; omega
  have hq : i / El.sz α < n := Nat.div_lt_of_lt_mul (by rw [Nat.mul_comm]; exact hi); have hm : i % El.sz α < El.sz α := Nat.mod_lt _ hs0; have e : i = i / El.sz α * El.sz α + i % El.sz α := by rw [Nat.mul_comm]; exact (Nat.div_add_mod _ _).symm
  have h3 := rows_get' (List.replicate n a0) (i / El.sz α) (i % El.sz α) (by simpa using hq) hm; rw [← e] at h3; have h4 : (List.replicate n a0).getD (i / El.sz α) default = a0 := by simp [List.getD_eq_getElem?_getD, hq]
  rw [h4, ← hz] at h3; have h5 : i < (rows (List.replicate n a0)).length := by rw [V8, List.length_replicate]; exact hi
  rw [List.getElem?_eq_getElem h5, List.getElem?_eq_getElem (by rw [Array.length_toList, hsz]; exact hm)] at h3; have h6 := Option.some.inj h3; have h7 : (rows (List.replicate n a0)).toArray[i] = (rows (List.replicate n a0))[i] := by simp
  have hm' : i % zc.size < zc.size := by rw [hsz]; exact hm
  have h8 : (madeCells zc (n * El.sz α))[i] = zc[i % zc.size] := by
    simp only [madeCells, Array.getElem_map, Array.getElem_range]; exact getElem!_pos zc _ hm'
  rw [h7, h6, h8]
  simp [hsz]
theorem jx5 {α : Type} [El α] (a0 : α) {c : Cx} {Q : Exit → Act → World → Prop} {fr : Fr} {hp : Hp} {L : List Fact} {ops : Array Oper} {rest : List Oper} {d : Tmp} {ty : TypeId} {pos : String} {af : Array Edge}
    {t e : TypeId} {x y : Operand} {n bytes : Nat} {z : Value} {m : Int} (hd : Nat.blt d c.n = true) (ht : c.P.underlying t = some (.slice e)) (hi : (c.P.info? e).map (fun i => (i.zero, i.size, i.bytes)) = some (some z, El.sz α, bytes)) (hz : z.cells.toList = El.cells a0)
    (hx : ev fr x = some (int m)) (hy : ev fr y = some (int m)) (hm : m = (n : Int)) (hb : bytes * n ≤ 140737488355328) (hn : n ≤ 140737488355328)
    (k : ∀ g, HL c ops Q rest ((d, .slice (c8 g) n n) :: fr) ((g, .cells (rows (List.replicate n a0)).toArray e (0, 0)) :: hp) L) : HL c ops Q (⟨some d, .makeSlice t x y, ty, pos, af, none⟩ :: rest) fr hp L :=
  mQ (.cells (rows (List.replicate n a0)).toArray e (0, 0)) (fun g => .slice (c8 g) n n) rfl rfl hd (fun a w ha _ => by
    subst hm; obtain ⟨i, h1, h2, h3, h4⟩ := info_parts hi
    have hb' : (i.bytes : Int) * (n : Int) ≤ 281474976710656 := by
      have h : ((i.bytes * n : Nat) : Int) ≤ 281474976710656 := by rw [h4]; omega
      rwa [Int.natCast_mul] at h
    have hr := run_make (P := c.P) w t e i z ht h1 h2 .i64 .i64 n n (by omega) (Int.le_refl _) hb' (by omega); simp only [Int.toNat_natCast, h3, madeR a0 hz] at hr
    simp only [execOp, ha.ev hx, ha.ev hy, Sem.run_bind, hr, Result.andThen_ok, Sem.run_pure]) k
theorem kR {α : Type} [El α] (a : α) {c : Cx} {Q : Exit → Act → World → Prop} {fr : Fr} {hp : Hp} {L : List Fact} {ops : Array Oper} {rest : List Oper} {ty : TypeId} {pos : String} {af : Array Edge}
    {t e : TypeId} {x y : Operand} {g q k f : Nat} {l : List α} {v : Value} {hp' : Hp} (hx : ev fr x = some (.pointer (some ⟨g, q, none⟩))) (hq : q = k * El.sz α + f) (hy : ev fr y = some v) (hpp : hp.Perm ((g, .cells (rows l).toArray e (0, 0)) :: hp'))
    (hz : Sz c.P t 1) (hk : k < l.length) (hf : f < El.sz α) (hc : El.cells a = (El.cells (l.getD k default)).set f v) (h1 : v.oneCell' = true)
    (kk : HL c ops Q rest fr ((g, .cells (rows (l.set k a)).toArray e (0, 0)) :: hp') L) : HL c ops Q (⟨none, .store t x y, ty, pos, af, none⟩ :: rest) fr hp L := by
  subst hq
  have hlt : k * El.sz α + f < (rows l).length := by
    rw [V8]; have : (k + 1) * El.sz α ≤ l.length * El.sz α := Nat.mul_le_mul_right _ hk; rw [Nat.add_mul, Nat.one_mul] at this
    omega
  refine z9 (u := (rows l)[k * El.sz α + f]) hx hy hpp hz (by rw [List.getElem?_toArray, List.getElem?_eq_getElem hlt]) h1 ?_
  have e : (rows l).toArray.setIfInBounds (k * El.sz α + f) v = (rows (l.set k a)).toArray := by
    rw [← iq1 hf hk hc]
    simp
  rw [e]; exact kk
theorem iz5 {α : Type} [El α] {b : Bx} {hp : Hp} {L : List Fact} {g q k f : Nat} {l : List α} {t : TypeId} {fz : Nat × Nat} {v : Value} (h : Blk g (Obj.cells (rows l).toArray t fz) ∈ L) (hq : q = k * El.sz α + f) (hk : k < l.length) (hv : (El.cells (l.getD k default))[f]? = some v) : Cell b hp L ⟨g, q, none⟩ v := by
  subst hq; exact j3 h (by rw [List.getElem?_toArray]; exact rows_get hk hv)
end Go.W
end
section
namespace Go.Proofs.YtcdopfjiadifhaaGreatDoor
open Go Go.W
set_option maxRecDepth 20000
attribute [local irreducible] HL HC HQ HB Row Rows2 Blk Facts
theorem kK {A : Option Addr} {c : Nat} (l : List Int) (s : Int) (hl : l.length ≤ 1000000) : Meets Tryz.prog F.aH [.slice A l.length c, int s] { LI := [Row A (rows l)], inv := fun z : Int => AtInv l s z, val := fun z => int z } := by
 refine i9 F.tD rfl r6 fun w0 => ?_; refine i8 (d5 rfl (d8 (j4 (i8 (c7 rfl ?_))))); refine l7 rfl T.t7 rfl ?_; refine c7 rfl (d8 (k9 ?_)); refine w3 (β := Nat) ⟨fun k => k ≤ l.length ∧ s ∉ l.take k, fun k => [(0, .slice A l.length c), (1, int s), (7, int l.length), (8, int k)], fun _ => [], fun _ => [Row A (rows l)]⟩ (fun k => l.length - k) 0 ⟨Nat.zero_le _, by simp⟩ mC nil_sb mC fun k hk => ?_; obtain ⟨hk, ht⟩ := hk; refine i8 (B6 rfl rfl rfl (d8 (j4 ?_)))
 first | refine m3 rfl (fun hb1 => ?_) (fun hb1 => ?_) | refine j7 rfl (fun hb1 => ?_) (fun hb1 => ?_)
 ·have hb1' := hb1; try simp at hb1'
  have hk2 : k < l.length := by omega
  refine k6 (j6 (j4 (k9 (i8 (c7 rfl (d5 rfl (k8 ?_))))))); refine c7 rfl (c7 rfl (c7 rfl ?_)); refine v6 (α := Int) _ _ rfl T.t7 T.w9 rfl rfl rfl mB rfl (by omega) (by decide) (b8 rfl T.b9 rfl (d6 mB (c9 (by omega) rfl)) ?_); refine H0 rfl rfl rfl (d8 ?_)
  first | refine m3 rfl (fun hb2 => ?_) (fun hb2 => ?_) | refine j7 rfl (fun hb2 => ?_) (fun hb2 => ?_)
  ·have hb2' := hb2; try simp at hb2'
   refine i8 (c7 rfl (d5 rfl (d8 (l5 (G8 (C4 (G8 ?_))))))); exact ret1 (k : Int) rfl rfl rfl (uq9 hk2 hb2.symm ht) nil_sb trivial
  have hb2' := hb2; try simp at hb2'
  refine k6 (y6 (j6 (j8 ?_))); refine v4 _ rfl rfl rfl rfl r5 ?_; refine c7 rfl (d4 ?_); exact again _ (k + 1) ⟨by omega, by rw [M5 l k hk2]; simp only [List.mem_append, List.mem_singleton, not_or]; exact ⟨ht, hb2⟩⟩ (D5 (by omega)) mC nil_sb mC
 have hb1' := hb1; try simp at hb1'
 obtain rfl : k = l.length := by omega
 rw [List.take_length] at ht; refine u9 (D6 (u5 (j6 (i8 (d5 rfl (d8 (l5 ?_))))))); exact ret1 (-1) rfl rfl rfl (at_none ht) nil_sb trivial
theorem gV {A : Option Addr} {c : Nat} (l : List Int) (s : Int) (hl : l.length ≤ 1000000) : Meets Tryz.prog F.V6 [.slice A l.length c, int s] { LI := [Row A (rows l)], val := fun _ : Unit => .bool (decide (s ∈ l)) } := by
 refine i9 F.lX rfl r6 fun w0 => ?_; refine i8 (d5 rfl (k8 (c7 rfl (c7 rfl ?_)))); refine k5 F.qI rfl rfl (kK l s hl) p6 mC fun z hz => ?_; refine X2 rfl rfl rfl (d5 rfl (d8 (l5 ?_))); exact ret1 () rfl (congrArg (fun b => some (Value.bool b)) (decide_eq_decide.2 hz.1)) rfl trivial nil_sb trivial
abbrev Ac2 := Int × Option (Option Nat)
def ruleV2 : Option (Option Nat) → Value
  | none => .nilFunc
  | some r => ruleV r
instance : El Ac2 where
  default := (0, none)
  cells x := [int x.1, ruleV2 x.2]
  sz := 2
  len _ := rfl
  one a u h := by
    simp at h
    rcases h with h | h <;> subst h
    · rfl
    cases a.2 with
    | none => rfl
    | some r => cases r <;> rfl
def ruleN (c : Ch) (ss : List Int) (xs : List Ad) (g i : Nat) : Option Nat := if offB c ss xs (ss.getD i default) = true then some g else none
def sumK (c : Ch) (xs : List Ad) (k i : Nat) : Int := (((xs.take k).filter fun x => decide (x.1 = (i : Int))).map (priceN c)).sum
def acA (c : Ch) (ss : List Int) (xs : List Ad) (g k i : Nat) : Ac2 := (0, if i < k then some (ruleN c ss xs g i) else none)
def acS (c : Ch) (ss : List Int) (xs : List Ad) (g k i : Nat) : Ac2 := (sumK c xs k i, some (ruleN c ss xs g i))
def accs (c : Ch) (ss : List Int) (xs : List Ad) (g : Nat) : List Ac := (List.range ss.length).map fun i => (sumK c xs xs.length i, ruleN c ss xs g i)
theorem zI {α : Type} {n k : Nat} (f : Nat → α) (v : α) (hk : k < n) : ((List.range n).map f).set k v = (List.range n).map fun i => if i = k then v else f i := by
  apply List.ext_getElem?
  intro j
  by_cases hj : j < n
  · rw [List.getElem?_map, List.getElem?_range hj, List.getElem?_set]
    by_cases e : k = j
    · subst e; simp [hk]
    rw [if_neg e, List.getElem?_map, List.getElem?_range hj]
    simp [Ne.symm e]
  rw [List.getElem?_eq_none (by simp; omega), List.getElem?_eq_none (by simp; omega)]
theorem hJ {α : Type} [Inhabited α] {n k : Nat} (f : Nat → α) (hk : k < n) : ((List.range n).map f).getD k default = f k := by
  rw [List.getD_eq_getElem?_getD, List.getElem?_map, List.getElem?_range hk]; rfl
theorem rZ {α : Type} (n : Nat) (f : Nat → α) : ((List.range n).map f).length = n := by simp
theorem uz0 (c : Ch) (ss : List Int) (xs : List Ad) (g n : Nat) : List.replicate n ((0, none) : Ac2) = (List.range n).map (acA c ss xs g 0) := by
  apply List.ext_getElem?
  intro j
  by_cases hj : j < n
  · rw [List.getElem?_map, List.getElem?_range hj, List.getElem?_replicate, if_pos hj]; simp [acA]
  rw [List.getElem?_eq_none (by simp; omega), List.getElem?_eq_none (by simp; omega)]
theorem mz4 (c : Ch) (ss : List Int) (xs : List Ad) (g k : Nat) : (fun i => if i = k then ((0, some (ruleN c ss xs g k)) : Ac2) else acA c ss xs g k i) = acA c ss xs g (k + 1) := by
  funext i
  unfold acA
  by_cases e : i = k
  · subst e; simp
  rw [if_neg e]
  by_cases h : i < k
  · rw [if_pos h, if_pos (by omega)]
  rw [if_neg h, if_neg (by omega)]
theorem acA_at (c : Ch) (ss : List Int) (xs : List Ad) (g k : Nat) : acA c ss xs g k k = (0, none) := by simp [acA]
theorem uz1 {c : Ch} {ss : List Int} {xs : List Ad} {g : Nat} : (List.range ss.length).map (acA c ss xs g ss.length) = (List.range ss.length).map (acS c ss xs g 0) := by
  refine List.map_congr_left fun i hi => ?_; rw [List.mem_range] at hi
  simp [acA, acS, hi, sumK]
theorem ij1 (c : Ch) {xs : List Ad} {k : Nat} (hk : k < xs.length) (i : Nat) : sumK c xs (k + 1) i = if (xs.getD k default).1 = (i : Int) then sumK c xs k i + priceN c (xs.getD k default) else sumK c xs k i := by
  unfold sumK; rw [List.take_succ_eq_append_getElem hk, ← A7 hk, List.filter_append, List.map_append, List.sum_append]
  by_cases e : (xs.getD k default).1 = (i : Int)
  · rw [if_pos e, List.filter_cons, if_pos (decide_eq_true e)]; simp
  rw [if_neg e, List.filter_cons, if_neg (by simpa using e)]; simp
theorem ux8 (c : Ch) (ss : List Int) {xs : List Ad} (g : Nat) {k m : Nat} (hk : k < xs.length) (hm : (xs.getD k default).1 = (m : Int)) : (fun i => if i = m then ((sumK c xs k m + priceN c (xs.getD k default), some (ruleN c ss xs g m)) : Ac2) else acS c ss xs g k i) = acS c ss xs g (k + 1) := by
  funext i
  unfold acS; rw [ij1 c hk]
  by_cases e : i = m
  · subst e; rw [if_pos rfl, if_pos hm]
  rw [if_neg e, if_neg (by omega)]
theorem nq2 {α β γ : Type} [El α] [El β] {l : List γ} {f : γ → α} {g : γ → β} (h : ∀ x ∈ l, El.cells (f x) = El.cells (g x)) : rows (l.map f) = rows (l.map g) := by
  induction l with
  | nil => rfl
  | cons x l ih => rw [List.map_cons, List.map_cons, O1, O1, h x (by simp), ih fun y hy => h y (by simp [hy])]
theorem sj2 (c : Ch) (ss : List Int) (xs : List Ad) (g : Nat) : rows ((List.range ss.length).map (acS c ss xs g xs.length)) = rows (accs c ss xs g) := nq2 fun _ _ => rfl
theorem lx4 {c : Ch} {x : Ad} (hc : ChOK c) (hl : 1 ≤ x.2.2 ∧ x.2.2 ≤ 6) : 0 ≤ priceN c x ∧ priceN c x ≤ 6000 := by
  have h1 := hc.1; have h2 := hc.2.1; have m1 := jz3 (a := x.2.2 - 1) (A := 5) ⟨by omega, by omega⟩ hc.2.2.1; have m2 := jz3 (a := x.2.2) (A := 6) ⟨by omega, by omega⟩ hc.2.2.2.1; unfold priceN
  split
  · omega
  split <;> omega
theorem bz4 {c : Ch} {ss : List Int} {xs : List Ad} (h : SaOK c ss xs) (i : Nat) : ∀ k, k ≤ xs.length → 0 ≤ sumK c xs k i ∧ sumK c xs k i ≤ 6000 * (k : Int)
  | 0, _ => by simp [sumK]
  | k + 1, hk => by
    have ih := bz4 h i k (by omega); have hp := lx4 h.ch (h.ad _ (w7 (show k < xs.length by omega))).2.2; rw [ij1 c (by omega)]
    split <;> omega
theorem mq3 {c : Ch} {ss : List Int} {xs : List Ad} (h : SaOK c ss xs) {i : Nat} (hi : i < ss.length) : ss.getD i default ∈ discK c ss xs 10 ↔ offB c ss xs (ss.getD i default) = true := by
  have hs := h.st _ (w7 hi); generalize ss.getD i default = s at *; unfold discK; simp only [List.mem_map, List.mem_filter, List.mem_range]
  constructor
  · rintro ⟨j, ⟨_, h1⟩, rfl⟩; exact h1
  intro h1; exact ⟨s.toNat, ⟨by omega, by rwa [Int.toNat_of_nonneg hs.1]⟩, by omega⟩
theorem acA_yes {c : Ch} {ss : List Int} {xs : List Ad} {g k : Nat} (h : offB c ss xs (ss.getD k default) = true) : (fun i => if i = k then ((0, some (some g)) : Ac2) else if i = k then ((0, some none) : Ac2) else acA c ss xs g k i) = acA c ss xs g (k + 1) := by
  rw [← mz4]
  funext i
  by_cases e : i = k
  · rw [if_pos e, if_pos e, ruleN, if_pos h]
  rw [if_neg e, if_neg e, if_neg e]
theorem acA_no {c : Ch} {ss : List Int} {xs : List Ad} {g k : Nat} (h : ¬ offB c ss xs (ss.getD k default) = true) : (fun i => if i = k then ((0, some none) : Ac2) else acA c ss xs g k i) = acA c ss xs g (k + 1) := by
  rw [← mz4]
  funext i
  by_cases e : i = k
  · rw [if_pos e, if_pos e, ruleN, if_neg h]
  rw [if_neg e, if_neg e]
theorem dZ {us rest : List Value} {cs : Array Value} (h : cs.toList = us ++ rest) : ∀ i u, us[i]? = some u → cs[0 + i]? = some u := fun i u hu => by
  rw [Nat.zero_add, ← Array.getElem?_toList, h, List.getElem?_append_left (List.getElem?_eq_some_iff.1 hu).1]; exact hu
theorem tq1 (v : Value) (w : World) : (method (Tryz.prog.types.size + Made.depth) T.iJ v "wayzgoose/bold.price").run Tryz.prog w = .ok (F.Q8, v) w := by kernel_rfl
theorem mt_bold (v : Value) (w : World) : (method (Tryz.prog.types.size + Made.depth) T.lK v "wayzgoose/bold.price").run Tryz.prog w = .ok (F.S9, v) w := by kernel_rfl
theorem mt_card (v : Value) (w : World) : (method (Tryz.prog.types.size + Made.depth) T.sQ v "wayzgoose/bold.price").run Tryz.prog w = .ok (F.S8, v) w := by kernel_rfl
theorem r_price {cx : Cx} {Q : Exit → Act → World → Prop} {fr : Fr} {hp : Hp} {L : List Fact} {ops : Array Oper} {rest : List Oper} {d : Tmp} {ty : TypeId} {pos : String} {af : Array Edge} {ats : Array TypeId}
    {x : Operand} {g : Nat} {a : Ad} {c : Ch} (hd : Nat.blt d cx.n = true) (hP : cx.P = Tryz.prog) (hx : ev fr x = some (adI g a)) (hc : ChOK c) (hl : 1 ≤ a.2.2 ∧ a.2.2 ≤ 6) (hL : tarL g c ∈ L)
    (k : HL cx ops Q rest ((d, int (priceN c a)) :: fr) hp L) : HL cx ops Q (⟨some d, .call ⟨.invoke x "wayzgoose/bold.price", #[], ats⟩, ty, pos, af, none⟩ :: rest) fr hp L := by
  unfold adI at hx; unfold priceN at k
  split at hx
  · rename_i e
    rw [if_pos e] at k; have hm := nB g c; rw [← hP] at hm; exact dX (f := F.Q8) (hpR := hp) (by rw [hP]; exact F.tH) hd hx (by rw [hP]; exact tq1 _) hm p6 ⟨hL, trivial⟩ fun _ _ => k
  rename_i e
  rw [if_neg e] at k
  split at hx
  · rename_i e2
    rw [if_pos e2] at k; have hm := pM g c a.2.2 hc hl; rw [← hP] at hm; exact dX (f := F.S9) (hpR := hp) (by rw [hP]; exact F.vP) hd hx (by rw [hP]; exact mt_bold _) hm p6 ⟨hL, trivial⟩ fun _ _ => k
  rename_i e2
  rw [if_neg e2] at k; have hm := pL g c a.2.2 hc hl; rw [← hP] at hm; exact dX (f := F.S8) (hpR := hp) (by rw [hP]; exact F.vO) hd hx (by rw [hP]; exact mt_card _) hm p6 ⟨hL, trivial⟩ fun _ _ => k
theorem tI (c : Ch) (ps : Sl Int) (qs : Sl Ad) (h : SaOK c ps.l qs.l) : Meets Tryz.prog F.kC [saV c ps qs] { LI := saL ps qs, inv := fun _ : Nat × Nat => True, val := fun x => .slice (some ⟨x.1, 0, none⟩) ps.l.length ps.l.length, LO := fun x => [Blk x.2 (.cells (saC c ps qs) T.A3 (0, 0)), Row (some ⟨x.1, 0, none⟩) (rows (accs c ps.l qs.l x.2))] } := by
 have hx8 := h.x8; have hn5 := h.n5; have hn1 := h.n1; have hd10 := iz0 c ps.l qs.l 10; refine i9 F.bx5 rfl r6 fun w0 => ?_; refine i8 ?_; refine H6 rfl rfl fun gB => ?_; refine d5 rfl (k8 ?_)
 first | refine a9 ⟨_, 6, none⟩ rfl rfl T.q9 rfl ?_ | refine a9 _ rfl rfl T.q9 rfl ?_
 first | refine b8 rfl T.i7 rfl (j0 mB rfl) ?_ | refine b8 rfl T.i7 rfl (j3 mB rfl) ?_ | refine b8 rfl T.i7 rfl (d6 mB (c9 (by omega) rfl)) ?_ | refine b8 rfl T.i7 rfl (d7 mB (rows_get (by omega) rfl)) ?_ | refine b8 rfl T.i7 rfl (j5 mB rfl) ?_
 refine l7 rfl T.t7 rfl ?_; refine jx5 (α := Ac2) (n := ps.l.length) (bytes := 16) (z := .agg #[.int .i64 0, .nilFunc]) ((0, none) : Ac2) rfl Tryz.underlying151 (by kernel_rfl) rfl rfl rfl rfl (by omega) (by omega) fun go => ?_; rw [uz0 c ps.l qs.l gB]; refine d5 rfl (k8 ?_)
 first | refine B5 rfl T.k7 T.j9 rfl mB (by rfl) ?_ | refine C1 rfl T.k7 T.j9 rfl mB (by rfl) ?_ | refine u7 rfl T.k7 T.j9 rfl rfl (t5 mB (t9 (by omega))) ?_
 refine k5 F.yG rfl rfl (rQ c ps qs h) p6 mC fun x hx => ?_; obtain ⟨da, dc⟩ := x
 simp only
 refine d5 rfl (d8 (j4 (i8 ?_)))
 first | refine a9 ⟨_, 6, none⟩ rfl rfl T.q9 rfl ?_ | refine a9 _ rfl rfl T.q9 rfl ?_
 first | refine b8 rfl T.i7 rfl (j0 mB rfl) ?_ | refine b8 rfl T.i7 rfl (j3 mB rfl) ?_ | refine b8 rfl T.i7 rfl (d6 mB (c9 (by omega) rfl)) ?_ | refine b8 rfl T.i7 rfl (d7 mB (rows_get (by omega) rfl)) ?_ | refine b8 rfl T.i7 rfl (j5 mB rfl) ?_
 refine l7 rfl T.t7 rfl ?_; refine c7 rfl (d8 (k9 ?_)); refine w3 (β := Nat) ⟨fun k => k ≤ ps.l.length, fun k => [(1, .pointer (c8 gB)), (3, .slice (c8 go) ps.l.length ps.l.length), (4, .slice da (discK c ps.l qs.l 10).length dc), (17, .slice ps.a ps.l.length ps.c), (18, int ps.l.length), (19, int k)], fun k => [(go, Obj.cells (rows ((List.range ps.l.length).map (acA c ps.l qs.l gB k))).toArray T.L4 (0, 0)), (gB, Obj.cells (saC c ps qs) T.A3 (0, 0))], fun _ => Row da (rows (discK c ps.l qs.l 10)) :: saL ps qs⟩ (fun k => ps.l.length - k) 0 (Nat.zero_le _) mC (.refl _) mC fun k hk => ?_; simp only at hk; refine i8 (B6 rfl rfl rfl (d8 (j4 ?_)))
 first | refine m3 rfl (fun hb1 => ?_) (fun hb1 => ?_) | refine j7 rfl (fun hb1 => ?_) (fun hb1 => ?_)
 ·have hb1' := hb1; try simp at hb1'
  have hk2 : k < ps.l.length := by omega
  refine k6 (j6 (j4 (k9 (i8 (c7 rfl ?_))))); refine v6 (α := Int) _ _ rfl T.t7 T.w9 rfl rfl rfl mB rfl (by omega) (by decide) (b8 rfl T.b9 rfl (d6 mB (c9 (by omega) rfl)) ?_); refine d5 rfl (d5 rfl (k8 (c7 rfl (c7 rfl ?_)))); refine y0 k (k * 2) rfl T.Q1 T.A9 rfl rfl rfl hk2 (by omega) (a9 ⟨go, k * 2 + 1, none⟩ rfl rfl T.aU (X8 ..) ?_); refine kR (α := Ac2) (k := k) (f := 1) ((0, some none) : Ac2) rfl rfl rfl (.refl _) T.nJ (by rw [rZ]; exact hk2) (by decide) (by rw [hJ _ hk2, acA_at]; rfl) rfl ?_; rw [zI _ _ hk2]; refine k8 (c7 rfl (c7 rfl ?_)); refine k5 F.kN rfl rfl (gV (discK c ps.l qs.l 10) (ps.l.getD k default) (by omega)) p6 mC fun _ _ => ?_; refine d8 ?_
  first | refine m3 rfl (fun hb2 => ?_) (fun hb2 => ?_) | refine j7 rfl (fun hb2 => ?_) (fun hb2 => ?_)
  ·have hb2' := hb2; try simp at hb2'
   have hof := (mq3 h hk2).1 hb2; refine j8 (c7 rfl (c7 rfl (hY rfl rfl rfl ?_))); refine y0 k (k * 2) rfl T.Q1 T.A9 rfl rfl rfl hk2 (by omega) (a9 ⟨go, k * 2 + 1, none⟩ rfl rfl T.aU (X8 ..) ?_); refine kR (α := Ac2) (k := k) (f := 1) ((0, some (some gB)) : Ac2) rfl rfl rfl (.refl _) T.nJ (by rw [rZ]; exact hk2) (by decide) (by rw [hJ _ hk2, if_pos rfl]; rfl) rfl ?_; rw [zI _ _ hk2, acA_yes hof]; refine d4 (y6 (j6 (j8 ?_))); refine v4 _ rfl rfl rfl rfl r5 ?_; refine c7 rfl (d4 ?_); exact again _ (k + 1) (by show k + 1 ≤ ps.l.length; omega) (D5 (by omega)) mC (.refl _) mC
  have hb2' := hb2; try simp at hb2'
  have hof := mt (mq3 h hk2).2 hb2; rw [acA_no hof]; refine k6 (y6 (j6 (j8 ?_))); refine v4 _ rfl rfl rfl rfl r5 ?_; refine c7 rfl (d4 ?_); exact again _ (k + 1) (by show k + 1 ≤ ps.l.length; omega) (D5 (by omega)) mC (.refl _) mC
 have hb1' := hb1; try simp at hb1'
 obtain rfl : k = ps.l.length := by omega
 refine mS (hp' := [(go, Obj.cells (rows ((List.range ps.l.length).map (acS c ps.l qs.l gB 0))).toArray T.L4 (0, 0)), (gB, Obj.cells (saC c ps qs) T.A3 (0, 0))]) (by show List.Perm [(go, Obj.cells (rows ((List.range ps.l.length).map (acA c ps.l qs.l gB ps.l.length))).toArray T.L4 (0, 0)), (gB, Obj.cells (saC c ps qs) T.A3 (0, 0))] _; rw [uz1]) ?_; refine u9 (D6 (u5 (j6 (i8 ?_))))
 first | refine a9 ⟨_, 0, none⟩ rfl rfl T.B9 rfl ?_ | refine a9 _ rfl rfl T.B9 rfl ?_
 refine u7 (cs := [int c.1, int c.2.1, int c.2.2.1, int c.2.2.2.1, int c.2.2.2.2.1, int c.2.2.2.2.2]) rfl T.H3 T.E2 rfl rfl (bS (o := 0) mB (dZ rfl)) ?_; refine k5 F.dz9 rfl rfl (tW c) p6 trivial fun tg _ => ?_; refine d5 rfl (d8 (j4 (i8 ?_)))
 first | refine a9 ⟨_, 7, none⟩ rfl rfl T.l4 rfl ?_ | refine a9 _ rfl rfl T.l4 rfl ?_
 first | refine b8 rfl T.d9 rfl (j0 mB rfl) ?_ | refine b8 rfl T.d9 rfl (j3 mB rfl) ?_ | refine b8 rfl T.d9 rfl (d6 mB (c9 (by omega) rfl)) ?_ | refine b8 rfl T.d9 rfl (d7 mB (rows_get (by omega) rfl)) ?_ | refine b8 rfl T.d9 rfl (j5 mB rfl) ?_
 refine l7 rfl T.w8 rfl ?_; refine c7 rfl (d8 (k9 ?_)); refine w3 (β := Nat) ⟨fun k => k ≤ qs.l.length, fun k => [(1, .pointer (c8 gB)), (3, .slice (c8 go) ps.l.length ps.l.length), (4, .slice da (discK c ps.l qs.l 10).length dc), (7, .pointer (c8 tg)), (41, .slice qs.a qs.l.length qs.c), (42, int qs.l.length), (43, int k)], fun k => [(go, Obj.cells (rows ((List.range ps.l.length).map (acS c ps.l qs.l gB k))).toArray T.L4 (0, 0)), (gB, Obj.cells (saC c ps qs) T.A3 (0, 0))], fun _ => tarL tg c :: saL ps qs⟩ (fun k => qs.l.length - k) 0 (Nat.zero_le _) mC (.refl _) mC fun k hk => ?_; simp only at hk; refine i8 (B6 rfl rfl rfl (d8 (j4 ?_)))
 first | refine m3 rfl (fun hb3 => ?_) (fun hb3 => ?_) | refine j7 rfl (fun hb3 => ?_) (fun hb3 => ?_)
 ·have hb3' := hb3; try simp at hb3'
  have hk3 : k < qs.l.length := by omega
  have hxk := h.ad _ (w7 hk3); obtain ⟨m, hxm⟩ := Int.eq_ofNat_of_zero_le hxk.1.1; have hm2 : m < ps.l.length := by omega
  have hsb := bz4 h m k (by omega); have hpb := lx4 h.ch hxk.2.2; refine k6 (j6 (j4 (k9 (i8 ?_)))); refine v6 (α := Ad) _ _ rfl T.w8 T.m4 rfl rfl rfl mB rfl (by omega) (by decide) (u7 rfl T.r8 T.m4 rfl rfl (t5 mB (t9 (by omega))) ?_); refine y9 rfl (fun _ => T.U5 _) fun gA => ?_; refine w4 rfl rfl (by first | exact .refl _ | exact perm2 _ _ _ | exact perm3 _ _ _ _ | exact perm4 _ _ _ _ _) T.m4 (by rfl) (by rfl) ?_; refine d8 ?_; refine I5 10 mixed (by decide) (by decide) rfl rfl (l9 (fun w1 => c7 rfl (q_z rfl)) ?_)
  apply m8 _ rfl rfl rfl
  ·intro w1
   first | refine a9 ⟨_, 0, none⟩ rfl rfl T.G4 rfl ?_ | refine a9 _ rfl rfl T.G4 rfl ?_
   refine d4 ?_; exact k4 rfl
  apply m8 _ rfl rfl rfl
  ·intro w1
   first | refine b8 rfl T.b9 rfl (j3 mB rfl) ?_ | refine b8 rfl T.b9 rfl (j0 mB rfl) ?_ | refine b8 rfl T.b9 rfl (d6 mB (c9 (by omega) rfl)) ?_ | refine b8 rfl T.b9 rfl (d7 mB (rows_get (by omega) rfl)) ?_ | refine b8 rfl T.b9 rfl (j5 mB rfl) ?_
   refine d4 ?_; exact k4 rfl
  refine l9 (fun w1 => y0 m (m * 2) rfl T.Q1 T.A9 rfl rfl hxm hm2 (by omega) (q_z rfl)) (l9 (fun w1 => a9 ⟨go, m * 2, none⟩ rfl rfl T.aV rfl (q_z rfl)) ?_); refine l9 (fun w1 => b8 (v := int (sumK c qs.l k m)) rfl T.b9 rfl (iz5 (α := Ac2) (k := m) (f := 0) (l := (List.range ps.l.length).map (acS c ps.l qs.l gB k)) (t := T.L4) (fz := (0, 0)) (by repeat constructor) rfl (by rw [rZ]; exact hm2) (by rw [hJ _ hm2]; rfl)) (q_z rfl)) ?_; refine l9 (fun w1 => c7 rfl (q_z rfl)) ?_
  apply m8 _ rfl rfl rfl
  ·intro w1
   first | refine B5 rfl T.r8 T.m4 rfl mB (by rfl) ?_ | refine C1 rfl T.r8 T.m4 rfl mB (by rfl) ?_ | refine u7 rfl T.r8 T.m4 rfl rfl (t5 mB (t9 (by omega))) ?_
   refine d4 ?_; exact k4 rfl
  refine l9 (fun w1 => k5 F.bA rfl rfl (Y2 tg (qs.l.getD k default)) p6 trivial fun _ _ => (q_z rfl)) ?_; refine l9 (fun w1 => r_price (c := c) rfl rfl rfl h.ch hxk.2.2 mB (q_z rfl)) ?_; refine D1 ⟨rfl, ?_⟩; refine v4 _ rfl rfl rfl rfl r5 (y0 m (m * 2) rfl T.Q1 T.A9 rfl rfl hxm hm2 (by omega) (a9 ⟨go, m * 2, none⟩ rfl rfl T.aV rfl ?_)); refine kR (α := Ac2) (k := m) (f := 0) ((sumK c qs.l k m + priceN c (qs.l.getD k default), some (ruleN c ps.l qs.l gB m)) : Ac2) rfl rfl rfl (.swap _ _ _) T.w9 (by rw [rZ]; exact hm2) (by decide) (by rw [hJ _ hm2]; rfl) rfl ?_; rw [zI _ _ hm2, ux8 c ps.l gB hk3 hxm]; refine d4 (y6 (j6 (j8 ?_))); refine v4 _ rfl rfl rfl rfl r5 ?_; refine c7 rfl (d4 ?_); exact again _ (k + 1) (by show k + 1 ≤ qs.l.length; omega) (D5 (by omega)) mC (.cons_cons _ (.cons _ (.refl _))) mC
 have hb3' := hb3; try simp at hb3'
 obtain rfl : k = qs.l.length := by omega
 refine u9 (D6 (u5 (j6 (i8 (c7 rfl (d5 rfl (d8 (l5 ?_)))))))); refine R8 (hp' := [(go, Obj.cells (rows (accs c ps.l qs.l gB)).toArray T.L4 (0, 0)), (gB, Obj.cells (saC c ps qs) T.A3 (0, 0))]) (by show List.Perm [(go, Obj.cells (rows ((List.range ps.l.length).map (acS c ps.l qs.l gB qs.l.length))).toArray T.L4 (0, 0)), (gB, Obj.cells (saC c ps qs) T.A3 (0, 0))] _; rw [sj2]) ?_; refine E5 (rows (accs c ps.l qs.l gB)) (List.prefix_refl _) ?_; refine rq0 ?_; exact ret1 (go, gB) rfl rfl rfl trivial nil_sb mC
end Go.Proofs.YtcdopfjiadifhaaGreatDoor
end
section
namespace Go.Proofs.YtcdopfjiadifhaaGreatDoor
open Go Go.W
set_option maxRecDepth 20000
attribute [local irreducible] HL HC HQ HB Row Rows2 Blk Facts
open Go.Conc
def sumN (c : Ch) (xs : List Ad) (i : Nat) : Int := sumK c xs xs.length i
def bilN (c : Ch) (ss : List Int) (xs : List Ad) (i : Nat) : Int := if offB c ss xs (ss.getD i default) = true then offN c.2.2.2.2.1 (sumN c xs i) else sumN c xs i
def numsN (how : Nat) (c : Ch) (ss : List Int) (xs : List Ad) : List Int := (List.range ss.length).map fun i => if how = 70 then bilN c ss xs i else sumN c xs i - bilN c ss xs i
theorem mz1 (c : Ch) (ss : List Int) (xs : List Ad) (g : Nat) : (accs c ss xs g).length = ss.length := by simp [accs]
theorem ux9 (how : Nat) (c : Ch) (ss : List Int) (xs : List Ad) (g : Nat) : acOut how c.2.2.2.2.1 (accs c ss xs g) = numsN how c ss xs := by
  unfold acOut numsN; rw [mz1]; refine List.map_congr_left fun i hi => ?_; rw [List.mem_range] at hi; unfold acN accs numN billN bilN sumN; rw [hJ _ hi]
  by_cases e : offB c ss xs (ss.getD i default) = true
  · simp only [ruleN, if_pos e, Option.isSome_some, if_true]
  simp only [ruleN, if_neg e, Option.isSome_none, Bool.false_eq_true, if_false]
theorem tx3 : ∃ i, Tryz.prog.info? 154 = some i ∧ i.bytes = 16 := by
  have h : (Tryz.prog.info? 154).map (·.bytes) = some 16 := by kernel_rfl
  obtain ⟨i, hi, hb⟩ := Option.map_eq_some_iff.1 h; exact ⟨i, hi, hb⟩
theorem rj9 : ∃ i, Tryz.prog.info? 4 = some i ∧ i.bytes = 1 := by
  have h : (Tryz.prog.info? 4).map (·.bytes) = some 1 := by kernel_rfl
  obtain ⟨i, hi, hb⟩ := Option.map_eq_some_iff.1 h; exact ⟨i, hi, hb⟩
abbrev reckCon (how : Nat) (c : Ch) (ps : Sl Int) (qs : Sl Ad) : Con Nat := { LI := saL ps qs, inv := fun _ : Nat => True, val := fun g => .slice (c8 g) ps.l.length ps.l.length, hpO := fun g => [(g, .cells (rows (numsN how c ps.l qs.l)).toArray T.int (0, 0))] }
set_option maxHeartbeats 1000000 in
theorem yF (c : Ch) (ps : Sl Int) (qs : Sl Ad) (how : Nat) (hw : how = 70 ∨ how = 70) (h : SaOK c ps.l qs.l) : Meets Tryz.prog F.rN [saV c ps qs, .func (.func how) #[] #[]] (reckCon how c ps qs) := by
  have hx8 := h.x8; have hn5 := h.n5; have hn1 := h.n1; refine i9 F.gz9 rfl r6 fun w0 => ?_; refine i8 ?_; refine H6 rfl rfl fun gs => ?_; refine H6 rfl rfl fun g3 => ?_; refine d5 rfl (k8 ?_); refine a9 ⟨gs, 6, none⟩ rfl rfl T.q9 rfl ?_; refine b8 (v := .slice ps.a ps.l.length ps.c) rfl T.i7 rfl (j0 (by repeat constructor) rfl) ?_; refine l7 rfl T.t7 rfl ?_; refine jx6 (n := ps.l.length) (bytes := 8) (z := int 0) rfl T.t7 (by kernel_rfl) rfl rfl rfl rfl (by omega) (by omega) fun go => ?_; refine y9 rfl (fun _ => T.al_ints _) fun g5 => ?_; refine z9 rfl rfl (.refl _) T.jq3 (by rfl) (by rfl) ?_; refine k8 ?_; obtain ⟨i1, hi1, hby1⟩ := tx3; refine uK (n := 0) rfl Tryz.underlying149 hi1 rfl (by omega) (by rw [hby1]; omega) fun gF => ?_; refine y9 rfl (fun _ => T.pN _) fun g6 => ?_; refine z9 rfl rfl (.refl _) T.pE (by rfl) (by rfl) ?_; refine k8 ?_; refine b8 (v := .slice (c8 go) ps.l.length ps.l.length) rfl T.i7 rfl (j0 (by repeat constructor) rfl) ?_; refine l7 rfl T.t7 rfl ?_; obtain ⟨i2, hi2, hby2⟩ := rj9; refine uK (n := ps.l.length) rfl Tryz.underlying150 hi2 rfl (by omega) (by rw [hby2]; omega) fun gL => ?_; refine y9 rfl (fun _ => T.kx7 _) fun g7 => ?_; refine z9 rfl rfl (.refl _) T.jq4 (by rfl) (by rfl) ?_; refine d8 ?_; refine mS (hp' := [(g7, Obj.cells #[.chan (some gL)] 150 (0, 0)), (gL, chanO ps.l.length [] 0 0), (g6, .cells #[.chan (some gF)] 149 (0, 0)), (gF, chanO 0 [] 0 0), (g5, .cells #[.slice (c8 go) ps.l.length ps.l.length] 24 (0, 0)), (go, .cells (List.replicate ps.l.length (int 0)).toArray 3 (0, 0)), (g3, .cells #[.func (.func how) #[] #[]] 138 (0, 0)), (gs, .cells (saC c ps qs) 27 (0, 0))]) (.refl _) ?_; refine hc_sub (fr' := fr0 gs g3 g5 g6 g7) (by repeat constructor) (.refl _) (by repeat constructor : LSub _ (saL ps qs)) ?_; refine hc_co fun a w ha hw1 b k cs Goal hk hc => ?_; refine H2 rfl (fun _ => stepG_seq) (H2 rfl (fun _ => stepG_seq) ?_)
  let Q4 : Exit → Act → World → Prop := fun e a w => e = .normal ∧ ∃ x : Nat × Nat, Ok ⟨Tryz.prog, Tryz.f69.ntmps, (reckCon how c ps qs).entry w0, [], none⟩ a ((22, int 0) :: (20, .slice (some ⟨x.1, 0, none⟩) ps.l.length ps.l.length) :: (21, int ps.l.length) :: fr0 gs g3 g5 g6 g7) ∧
    WI ((reckCon how c ps qs).entry w0) w [(g7, Obj.cells #[.chan (some gL)] 150 (0, 0)), (gL, chanO ps.l.length [] 0 0), (g6, .cells #[.chan (some gF)] 149 (0, 0)), (gF, chanO 0 [] 0 0), (g5, .cells #[.slice (c8 go) ps.l.length ps.l.length] 24 (0, 0)), (go, .cells (List.replicate ps.l.length (int 0)).toArray 3 (0, 0)), (g3, .cells #[.func (.func how) #[] #[]] 138 (0, 0)), (gs, .cells (saC c ps qs) 27 (0, 0))] (Blk x.2 (.cells (saC c ps qs) T.A3 (0, 0)) :: Row (some ⟨x.1, 0, none⟩) (rows (accs c ps.l qs.l x.2)) :: saL ps qs)
  refine co_hc (Q := Q4) (fr := fr0 gs g3 g5 g6 g7) ?_ ha hw1 hk fun e a' w' hq => ?_
  · refine j8 ?_
    refine B5 rfl T.k7 T.j9 rfl (by repeat constructor) (by rfl) ?_; refine k5 F.aj7 rfl rfl (tI c ps qs h) p6 ⟨(by repeat constructor), (by repeat constructor), trivial⟩ fun x _ => ?_; refine l7 rfl T.Q1 rfl ?_; refine c7 rfl (d4 ?_); exact hq_of fun a w ha hw => ⟨rfl, x, ha.sub (by repeat constructor), hw⟩
  obtain ⟨rfl, ⟨gA, gB⟩, hok, hwi⟩ := hq; have nd := hwi.nd; simp only [List.map_cons, List.map_nil, List.nodup_cons, List.mem_cons, List.not_mem_nil, or_false, not_or] at nd; obtain ⟨⟨n71, n72, n73, n74, n75, n76, n77⟩, ⟨nL2, nL3, nL4, nL5, nL6, nL7⟩, ⟨n63, n64, n65, n66, n67⟩, ⟨nF4, nF5, nF6, nF7⟩, ⟨n55, n56, n57⟩, ⟨no6, no7⟩, n37, _⟩ := nd; have o7 := hwi.own (g7, .cells #[.chan (some gL)] 150 (0, 0)) (by simp); have oL := hwi.own (gL, chanO ps.l.length [] 0 0) (by simp); have o6 := hwi.own (g6, .cells #[.chan (some gF)] 149 (0, 0)) (by simp); have oF := hwi.own (gF, chanO 0 [] 0 0) (by simp); have o5 := hwi.own (g5, .cells #[.slice (c8 go) ps.l.length ps.l.length] 24 (0, 0)) (by simp); have oo := hwi.own (go, .cells (List.replicate ps.l.length (int 0)).toArray 3 (0, 0)) (by simp); have o3 := hwi.own (g3, .cells #[.func (.func how) #[] #[]] 138 (0, 0)) (by simp); have fB := blk_P (hwi.fs (Blk gB (.cells (saC c ps qs) T.A3 (0, 0))) (by simp)); have fA := hwi.fs (Row (c8 gA) (rows (accs c ps.l qs.l gB))) (by simp); have hal := mz1 c ps.l qs.l gB
  have hne : rows (accs c ps.l qs.l gB) ≠ [] := fun e => by
    have := V8 (accs c ps.l qs.l gB); rw [e, hal] at this; have h2 : El.sz Ac = 2 := rfl; rw [h2] at this
    simp at this
    omega
  have aB := blk_ne (g := gB) (o := .cells (saC c ps qs) T.A3 (0, 0)) hwi (by simp); have aA := row_ne (ad := ⟨gA, 0, none⟩) (us := rows (accs c ps.l qs.l gB)) hwi (by simp) hne
  have hM : Main0 w' gF gL go how g3 g5 g6 g7 ⟨gA, 0, none⟩ c.2.2.2.2.1 (accs c ps.l qs.l gB) :=
    ⟨⟨o3, ⟨fun e => nF6 e.symm, fun e => nL6 e.symm, fun e => no6 e.symm⟩, o6, ⟨n63, fun e => nL2 e.symm, n65⟩, o7, ⟨n73, n71, n75⟩⟩, hw, (by rw [hal]; exact o5), ⟨fun e => nF4 e.symm, fun e => nL4 e.symm, n55⟩, fA,
      ⟨fun e => aA (gF, chanO 0 [] 0 0) (by simp) e.symm, fun e => aA (gL, chanO ps.l.length [] 0 0) (by simp) e.symm, fun e => aA (go, .cells (List.replicate ps.l.length (int 0)).toArray 3 (0, 0)) (by simp) e.symm⟩,
      (by rw [hal]; omega), (by have := h.ch.2.2.2.2.1; omega), (fun x hx => by
        obtain ⟨i, hi, rfl⟩ := List.mem_map.1 hx; have hs := bz4 h i qs.l.length (Nat.le_refl _); refine ⟨by simp only; omega, ?_⟩; simp only [ruleN]
        split
        · exact ⟨fun e => aB (gF, chanO 0 [] 0 0) (by simp) e.symm, fun e => aB (gL, chanO ps.l.length [] 0 0) (by simp) e.symm, fun e => aB (go, .cells (List.replicate ps.l.length (int 0)).toArray 3 (0, 0)) (by simp) e.symm, _, _, _, fB, rfl⟩
        trivial)⟩
  refine phase (p := ph w' gF gL go (accs c ps.l qs.l gB).length (acV how c.2.2.2.2.1 (accs c ps.l qs.l gB))) (B := 2000) (hp := [(go, .cells (List.replicate ps.l.length (int 0)).toArray 3 (0, 0))]) ⟨fun e => nL3 e.symm, E1 oF, E1 oL, nF5, nL5⟩ oF (by show w'.heap[gL]? = some (.chan (accs c ps.l qs.l gB).length #[] false 0 0 false); rw [hal]; exact oL) ?_ (fun q hq => by simp at hq; subst hq; exact oo) (fun q hq => by simp at hq; subst hq; rfl); have hk' : b.kind ≠ .early := hk; have hrl : (List.range (accs c ps.l qs.l gB).length).length = (accs c ps.l qs.l gB).length := List.length_range; refine folM_of (c := ⟨Tryz.prog, Tryz.f69.ntmps, (reckCon how c ps qs).entry w0, [], none⟩) (fr := (22, int 0) :: (20, .slice (c8 gA) ps.l.length ps.l.length) :: (21, int ps.l.length) :: fr0 gs g3 g5 g6 g7) ?_ hok; refine kG (jq2 ?_); refine aE (m := (40 * (accs c ps.l qs.l gB).length + 20 + 40) + 10 + 40 * (accs c ps.l qs.l gB).length) (by omega) ?_; refine A8 (by rw [← hal]; repeat constructor) (spawns (b2 := gs) (cap := ps.l.length) rfl rfl hk hM _ ?_ (accs c ps.l qs.l gB).length 0 (by omega)); refine J2 (C9 ?_); refine aq8 rfl rfl hk' rfl rfl ?_; refine at_go (f := 82) (cap := [ptrB g5, ptrB g7, ptrB g6]) (h1 := []) (h2 := [(go, .cells (List.replicate ps.l.length (int 0)).toArray 3 (0, 0))]) rfl hk' rfl (by simp) (fun q hq => hq) (by rintro k ⟨q, hq, _⟩; cases hq) (by simp) (.inr ⟨rfl, fol_c (by omega) hM.hB hM.h5 hM.n5, ?_⟩); refine N7 (J2 (J2 (C9 ?_))); refine B3 (v := .chan (some gF)) rfl rfl hk' T.t8 rfl (E0 hM.hB.h6 hM.hB.n6.1 hM.hB.n6.2.1 hM.hB.n6.2.2 rfl) ?_; refine N7 (kG (jq2 ?_)); refine aE (m := 40 * (accs c ps.l qs.l gB).length + 20) (by omega) ?_; refine A8 (by repeat constructor) (gets (b2 := gs) rfl rfl rfl hk hM (fun w he ho a ha => ?_) (accs c ps.l qs.l gB).length (List.range (accs c ps.l qs.l gB).length) _ hrl List.nodup_range (fun j hj => List.mem_range.1 hj) (by simp [hal]) (fun j hj hn => absurd (List.mem_range.2 hj) hn)); rw [ux9] at ho; refine co_hc (fr := fr0 gs g3 g5 g6 g7) ?_ ha (sq1 (p := ph w' gF gL go (accs c ps.l qs.l gB).length (acV how c.2.2.2.2.1 (accs c ps.l qs.l gB))) hwi (f := chanO 0 [] 0 0) (l := chanO ps.l.length [] 0 0) (o := .cells (List.replicate ps.l.length (int 0)).toArray 3 (0, 0)) (rest := [(g7, Obj.cells #[.chan (some gL)] 150 (0, 0)), (g6, .cells #[.chan (some gF)] 149 (0, 0)), (g5, .cells #[.slice (c8 go) ps.l.length ps.l.length] 24 (0, 0)), (g3, .cells #[.func (.func how) #[] #[]] 138 (0, 0)), (gs, .cells (saC c ps qs) 27 (0, 0))]) (R6 fun q => by simp only [List.countP_cons, List.countP_nil]; omega) he ho) hk hc; refine i8 ?_; refine b8 (v := .slice (c8 go) ps.l.length ps.l.length) rfl T.i7 rfl (j0 (by repeat constructor) rfl) ?_; refine d5 rfl (d8 (l5 ?_)); exact ret1 go rfl rfl rfl trivial (.cons_cons _ nil_sb) trivial
end Go.Proofs.YtcdopfjiadifhaaGreatDoor
end
