/- Texts of this claim, one behind another. -/

import Derived.Test.YtmpfpfbcejfijaaGreatDoorAAi
import Derived.Test.YtmpfpfbcejfijaaGreatDoorAAl
import Derived.Test.YtmpfpfbcejfijaaGreatDoorAAh
import Derived.Test.YtmpfpfbcejfijaaGreatDoorAAf
set_option linter.unusedVariables false
set_option linter.unusedSimpArgs false
section
namespace Go.Proofs.YtmpfpfbcejfijaaGreatDoor
open Go Go.W
set_option maxRecDepth 20000
attribute [local irreducible] HL HC HQ HB Row Rows2 Blk Facts
abbrev Ch := Int × Int × Int × Int × Int × Int
abbrev chV (c : Ch) : Value := .agg #[int c.1, int c.2.1, int c.2.2.1, int c.2.2.2.1, int c.2.2.2.2.1, int c.2.2.2.2.2]
abbrev Ad := Int × Int × Int
instance : El Ad where
  default := (0, 0, 0)
  cells x := [int x.1, int x.2.1, int x.2.2]
  sz := 3
  len _ := rfl
  one a u h := by simp at h; rcases h with h | h | h <;> subst h <;> rfl
abbrev adV (x : Ad) : Value := .agg #[int x.1, int x.2.1, int x.2.2]
def priceN (c : Ch) (x : Ad) : Int := if x.2.1 = 1 then c.1 else if x.2.1 = 2 then c.2.1 + (x.2.2 - 1) * c.2.2.1 else x.2.2 * c.2.2.2.1
def adI (g : Nat) (x : Ad) : Value := if x.2.1 = 1 then .iface T.cA (.agg #[.pointer (b4 g)]) else if x.2.1 = 2 then .iface T.iD (.agg #[.pointer (b4 g), int x.2.2]) else .iface T.nE (.agg #[.pointer (b4 g), int x.2.2])
abbrev tarL (g : Nat) (c : Ch) : Fact := Row (b4 g) [int c.1, int c.2.1, int c.2.2.1, int c.2.2.2.1]
def ChOK (c : Ch) : Prop := (0 ≤ c.1 ∧ c.1 ≤ 999) ∧ (0 ≤ c.2.1 ∧ c.2.1 ≤ 999) ∧ (0 ≤ c.2.2.1 ∧ c.2.2.1 ≤ 999) ∧ (0 ≤ c.2.2.2.1 ∧ c.2.2.2.1 ≤ 999) ∧ (0 ≤ c.2.2.2.2.1 ∧ c.2.2.2.2.1 ≤ 50) ∧ (1 ≤ c.2.2.2.2.2 ∧ c.2.2.2.2.2 ≤ 5)
theorem cj1 {a b A B : Int} (ha : 0 ≤ a ∧ a ≤ A) (hb : 0 ≤ b ∧ b ≤ B) : 0 ≤ a * b ∧ a * b ≤ A * B := ⟨Int.mul_nonneg ha.1 hb.1, Int.mul_le_mul ha.2 hb.2 hb.1 (by omega)⟩
theorem p7 (n lo hi : Int) : Meets Tryz.prog F.jI [int n, int lo, int hi] { val := fun _ : Unit => .bool (decide (lo ≤ n ∧ n ≤ hi)) } := by
 refine j8 F.yR rfl t4 fun w0 => ?_; refine j3 (b9 rfl (k9 (b8 rfl (b8 rfl (uV rfl rfl rfl (b8 rfl ?_)))))); refine r5 rfl rfl ?_ ?_
 ·intro hg1; have hg1' := hg1; try simp at hg1'
  refine k5 rfl rfl hg1 (b8 rfl (k5 rfl rfl hg1 (b8 rfl (k5 rfl rfl hg1 (uV rfl rfl rfl ?_))))); refine p_t rfl rfl (bt1 hg1) rfl ?_; refine b9 rfl (d9 (l7 ?_)); exact ret1 () rfl (congrArg (fun b => some (Value.bool b)) (by simp [hg1'])) rfl trivial nil_sb trivial
 intro hg1; have hg1' := hg1; try simp at hg1'
 refine u2 rfl rfl rfl rfl rfl hg1 (u2 rfl rfl rfl rfl rfl hg1 (u2 rfl rfl rfl rfl rfl hg1 ?_)); refine p_f rfl rfl (bf2 hg1) rfl ?_; refine b9 rfl (d9 (l7 ?_)); exact ret1 () rfl (congrArg (fun b => some (Value.bool b)) (by simp [Int.not_le.2 hg1'])) rfl trivial nil_sb trivial
theorem dU (c : Ch) : Meets Tryz.prog F.cq8 [chV c] { inv := fun _ : Nat => True, val := fun g => .pointer (b4 g), LO := fun g => [tarL g c] } := by
 refine j8 F.kx2 rfl t4 fun w0 => ?_; refine j3 ?_; refine C4 rfl rfl fun gB => ?_; refine b9 rfl (k9 ?_)
 first | refine a7 ⟨_, 0, none⟩ rfl rfl T.I8 rfl ?_ | refine a7 _ rfl rfl T.I8 rfl ?_
 first | refine a8 rfl T.a9 rfl (j0 mB rfl) ?_ | refine a8 rfl T.a9 rfl (i8 mB rfl) ?_ | refine a8 rfl T.a9 rfl (d8 mB (d4 (by omega) rfl)) ?_ | refine a8 rfl T.a9 rfl (d7 mB (rows_get (by omega) rfl)) ?_ | refine a8 rfl T.a9 rfl (g4 mB rfl) ?_
 first | refine a7 ⟨_, 1, none⟩ rfl rfl T.I7 rfl ?_ | refine a7 _ rfl rfl T.I7 rfl ?_
 first | refine a8 rfl T.a9 rfl (j0 mB rfl) ?_ | refine a8 rfl T.a9 rfl (i8 mB rfl) ?_ | refine a8 rfl T.a9 rfl (d8 mB (d4 (by omega) rfl)) ?_ | refine a8 rfl T.a9 rfl (d7 mB (rows_get (by omega) rfl)) ?_ | refine a8 rfl T.a9 rfl (g4 mB rfl) ?_
 first | refine a7 ⟨_, 2, none⟩ rfl rfl T.I6 rfl ?_ | refine a7 _ rfl rfl T.I6 rfl ?_
 first | refine a8 rfl T.a9 rfl (j0 mB rfl) ?_ | refine a8 rfl T.a9 rfl (i8 mB rfl) ?_ | refine a8 rfl T.a9 rfl (d8 mB (d4 (by omega) rfl)) ?_ | refine a8 rfl T.a9 rfl (d7 mB (rows_get (by omega) rfl)) ?_ | refine a8 rfl T.a9 rfl (g4 mB rfl) ?_
 first | refine a7 ⟨_, 3, none⟩ rfl rfl T.I5 rfl ?_ | refine a7 _ rfl rfl T.I5 rfl ?_
 first | refine a8 rfl T.a9 rfl (j0 mB rfl) ?_ | refine a8 rfl T.a9 rfl (i8 mB rfl) ?_ | refine a8 rfl T.a9 rfl (d8 mB (d4 (by omega) rfl)) ?_ | refine a8 rfl T.a9 rfl (d7 mB (rows_get (by omega) rfl)) ?_ | refine a8 rfl T.a9 rfl (g4 mB rfl) ?_
 refine u7 _ rfl rfl (fun _ => T.jM ..) ?_; refine C4 rfl rfl fun gB => ?_; refine t8 [int c.1, int c.2.1, int c.2.2.1, int c.2.2.2.1] (List.prefix_refl _) ?_; refine b9 rfl (d9 (l7 ?_)); exact ret1 gB rfl rfl rfl trivial nil_sb ⟨by repeat constructor, trivial⟩
theorem K6 (g : Nat) (x : Ad) : Meets Tryz.prog F.S4 [.pointer (b4 g), adV x] { val := fun _ : Unit => adI g x } := by
 refine j8 F.mG rfl t4 fun w0 => ?_; refine j3 ?_; refine C4 rfl rfl fun gB => ?_; refine b9 rfl (d9 (j6 (j3 ?_)))
 first | refine a7 ⟨_, 1, none⟩ rfl rfl T.J9 rfl ?_ | refine a7 _ rfl rfl T.J9 rfl ?_
 first | refine a8 rfl T.a9 rfl (j0 mB rfl) ?_ | refine a8 rfl T.a9 rfl (i8 mB rfl) ?_ | refine a8 rfl T.a9 rfl (d8 mB (d4 (by omega) rfl)) ?_ | refine a8 rfl T.a9 rfl (d7 mB (rows_get (by omega) rfl)) ?_ | refine a8 rfl T.a9 rfl (g4 mB rfl) ?_
 refine d9 (l4 (j3 (D8 rfl rfl rfl (b9 rfl (d9 ?_)))))
 first | refine m7 rfl (fun hb1 => ?_) (fun hb1 => ?_) | refine k4 rfl (fun hb1 => ?_) (fun hb1 => ?_)
 ·have hb1' := hb1; try simp at hb1'
  refine j3 (b8 rfl ?_); refine u7 _ rfl rfl (fun _ => T.wL ..) (ax6 rfl ⟨_, Tryz.underlying112, rfl⟩ rfl ?_); refine b9 rfl (d9 (l7 (C2 ?_))); exact ret1 () rfl (by show some _ = some (adI g x); unfold adI; rw [if_pos hb1]) rfl trivial nil_sb trivial
 have hb1' := hb1; try simp at hb1'
 refine j3 (D8 rfl rfl rfl (b9 rfl (d9 ?_)))
 first | refine m7 rfl (fun hb2 => ?_) (fun hb2 => ?_) | refine k4 rfl (fun hb2 => ?_) (fun hb2 => ?_)
 ·have hb2' := hb2; try simp at hb2'
  refine j3 (b8 rfl ?_)
  first | refine a7 ⟨_, 2, none⟩ rfl rfl T.C7 rfl ?_ | refine a7 _ rfl rfl T.C7 rfl ?_
  first | refine a8 rfl T.a9 rfl (j0 mB rfl) ?_ | refine a8 rfl T.a9 rfl (i8 mB rfl) ?_ | refine a8 rfl T.a9 rfl (d8 mB (d4 (by omega) rfl)) ?_ | refine a8 rfl T.a9 rfl (d7 mB (rows_get (by omega) rfl)) ?_ | refine a8 rfl T.a9 rfl (g4 mB rfl) ?_
  refine u7 _ rfl rfl (fun _ => T.uP ..) (ax6 rfl ⟨_, Tryz.underlying114, rfl⟩ rfl ?_); refine b9 rfl (d9 (l7 (C2 ?_))); exact ret1 () rfl (by show some _ = some (adI g x); unfold adI; rw [if_neg hb1, if_pos hb2]) rfl trivial nil_sb trivial
 have hb2' := hb2; try simp at hb2'
 refine k7 (z2 (j9 (j3 (b8 rfl ?_))))
 first | refine a7 ⟨_, 2, none⟩ rfl rfl T.C7 rfl ?_ | refine a7 _ rfl rfl T.C7 rfl ?_
 first | refine a8 rfl T.a9 rfl (j0 mB rfl) ?_ | refine a8 rfl T.a9 rfl (i8 mB rfl) ?_ | refine a8 rfl T.a9 rfl (d8 mB (d4 (by omega) rfl)) ?_ | refine a8 rfl T.a9 rfl (d7 mB (rows_get (by omega) rfl)) ?_ | refine a8 rfl T.a9 rfl (g4 mB rfl) ?_
 refine u7 _ rfl rfl (fun _ => T.uO ..) (ax6 rfl ⟨_, Tryz.underlying115, rfl⟩ rfl ?_); refine b9 rfl (d9 (l7 ?_)); exact ret1 () rfl (by show some _ = some (adI g x); unfold adI; rw [if_neg hb1, if_neg hb2]) rfl trivial nil_sb trivial
theorem jH (g : Nat) (c : Ch) : Meets Tryz.prog F.L8 [.agg #[.pointer (b4 g)]] { LI := [tarL g c], val := fun _ : Unit => int c.1 } := by
 refine j8 F.qU rfl t4 fun w0 => ?_; refine j3 ?_; refine C4 rfl rfl fun gB => ?_; refine b9 rfl (k9 ?_)
 first | refine a7 ⟨_, 0, none⟩ rfl rfl T.jU rfl ?_ | refine a7 _ rfl rfl T.jU rfl ?_
 first | refine a8 rfl T.s5 rfl (j0 mB rfl) ?_ | refine a8 rfl T.s5 rfl (i8 mB rfl) ?_ | refine a8 rfl T.s5 rfl (d8 mB (d4 (by omega) rfl)) ?_ | refine a8 rfl T.s5 rfl (d7 mB (rows_get (by omega) rfl)) ?_ | refine a8 rfl T.s5 rfl (g4 mB rfl) ?_
 refine z6 rfl rfl (iW 0 0 rfl Tryz.underlying110 T.v0 rfl rfl rfl (by decide) rfl (a8 (v := int c.1) rfl T.a9 rfl (d8 (A := some ⟨g, 0, none⟩) (j := 0) mB rfl) ?_)); refine b9 rfl (d9 (l7 ?_)); exact ret1 () rfl (by show some _ = some (int c.1); rfl) rfl trivial nil_sb trivial
theorem kP (g : Nat) (c : Ch) (l : Int) (hc : ChOK c) (hl : 1 ≤ l ∧ l ≤ 6) : Meets Tryz.prog F.M8 [.agg #[.pointer (b4 g), int l]] { LI := [tarL g c], val := fun _ : Unit => int (c.2.1 + (l - 1) * c.2.2.1) } := by
 have hcl := hc.2.2.1; have hcb := hc.2.1; have hm := cj1 (a := l - 1) (A := 5) ⟨by omega, by omega⟩ hcl; refine j8 F.tD rfl t4 fun w0 => ?_; refine j3 ?_; refine C4 rfl rfl fun gB => ?_; refine b9 rfl (d9 (j6 ?_)); refine G8 14 mixed (by decide) (by decide) rfl rfl ?_
 apply n0 _ rfl rfl rfl
 ·intro w1
  first | refine a7 ⟨_, 0, none⟩ rfl rfl T.V3 rfl ?_ | refine a7 _ rfl rfl T.V3 rfl ?_
  refine d6 ?_; exact k6 rfl
 apply n0 _ rfl rfl rfl
 ·intro w1
  first | refine a8 rfl T.s5 rfl (i8 mB rfl) ?_ | refine a8 rfl T.s5 rfl (j0 mB rfl) ?_ | refine a8 rfl T.s5 rfl (d8 mB (d4 (by omega) rfl)) ?_ | refine a8 rfl T.s5 rfl (d7 mB (rows_get (by omega) rfl)) ?_ | refine a8 rfl T.s5 rfl (g4 mB rfl) ?_
  refine d6 ?_; exact k6 rfl
 refine s7 (fun w1 => z6 rfl rfl (q_z rfl)) (s7 (fun w1 => iW 1 1 rfl Tryz.underlying110 T.v0 rfl rfl rfl (by decide) rfl (q_z rfl)) (s7 (fun w1 => a8 (v := int c.2.1) rfl T.a9 rfl (d8 (A := some ⟨g, 0, none⟩) (j := 1) mB rfl) (q_z rfl)) ?_))
 apply n0 _ rfl rfl rfl
 ·intro w1
  first | refine a7 ⟨_, 1, none⟩ rfl rfl T.V2 rfl ?_ | refine a7 _ rfl rfl T.V2 rfl ?_
  refine d6 ?_; exact k6 rfl
 apply n0 _ rfl rfl rfl
 ·intro w1
  first | refine a8 rfl T.a9 rfl (i8 mB rfl) ?_ | refine a8 rfl T.a9 rfl (j0 mB rfl) ?_ | refine a8 rfl T.a9 rfl (d8 mB (d4 (by omega) rfl)) ?_ | refine a8 rfl T.a9 rfl (d7 mB (rows_get (by omega) rfl)) ?_ | refine a8 rfl T.a9 rfl (g4 mB rfl) ?_
  refine d6 ?_; exact k6 rfl
 refine s7 (fun w1 => U6 _ rfl rfl rfl rfl s9 (q_z rfl)) ?_
 apply n0 _ rfl rfl rfl
 ·intro w1
  first | refine a7 ⟨_, 0, none⟩ rfl rfl T.V3 rfl ?_ | refine a7 _ rfl rfl T.V3 rfl ?_
  refine d6 ?_; exact k6 rfl
 apply n0 _ rfl rfl rfl
 ·intro w1
  first | refine a8 rfl T.s5 rfl (i8 mB rfl) ?_ | refine a8 rfl T.s5 rfl (j0 mB rfl) ?_ | refine a8 rfl T.s5 rfl (d8 mB (d4 (by omega) rfl)) ?_ | refine a8 rfl T.s5 rfl (d7 mB (rows_get (by omega) rfl)) ?_ | refine a8 rfl T.s5 rfl (g4 mB rfl) ?_
  refine d6 ?_; exact k6 rfl
 refine s7 (fun w1 => z6 rfl rfl (q_z rfl)) (s7 (fun w1 => iW 2 2 rfl Tryz.underlying110 T.v0 rfl rfl rfl (by decide) rfl (q_z rfl)) (s7 (fun w1 => a8 (v := int c.2.2.1) rfl T.a9 rfl (d8 (A := some ⟨g, 0, none⟩) (j := 2) mB rfl) (q_z rfl)) (s7 (fun w1 => ax5 _ rfl rfl rfl rfl s9 (q_z rfl)) ?_))); refine D4 ⟨rfl, ?_⟩; refine y2 _ rfl rfl rfl rfl s9 ?_; refine b9 rfl (d9 (l7 ?_)); exact ret1 () rfl (by show some _ = some (int (c.2.1 + (l - 1) * c.2.2.1)); rfl) rfl trivial nil_sb trivial
theorem kO (g : Nat) (c : Ch) (l : Int) (hc : ChOK c) (hl : 1 ≤ l ∧ l ≤ 6) : Meets Tryz.prog F.M7 [.agg #[.pointer (b4 g), int l]] { LI := [tarL g c], val := fun _ : Unit => int (l * c.2.2.2.1) } := by
 have hm := cj1 (a := l) (A := 6) ⟨by omega, by omega⟩ hc.2.2.2.1; refine j8 F.tC rfl t4 fun w0 => ?_; refine j3 ?_; refine C4 rfl rfl fun gB => ?_; refine b9 rfl (d9 (j6 ?_)); refine G8 7 mixed (by decide) (by decide) rfl rfl ?_
 apply n0 _ rfl rfl rfl
 ·intro w1
  first | refine a7 ⟨_, 1, none⟩ rfl rfl T.V1 rfl ?_ | refine a7 _ rfl rfl T.V1 rfl ?_
  refine d6 ?_; exact k6 rfl
 apply n0 _ rfl rfl rfl
 ·intro w1
  first | refine a8 rfl T.a9 rfl (i8 mB rfl) ?_ | refine a8 rfl T.a9 rfl (j0 mB rfl) ?_ | refine a8 rfl T.a9 rfl (d8 mB (d4 (by omega) rfl)) ?_ | refine a8 rfl T.a9 rfl (d7 mB (rows_get (by omega) rfl)) ?_ | refine a8 rfl T.a9 rfl (g4 mB rfl) ?_
  refine d6 ?_; exact k6 rfl
 apply n0 _ rfl rfl rfl
 ·intro w1
  first | refine a7 ⟨_, 0, none⟩ rfl rfl T.mA rfl ?_ | refine a7 _ rfl rfl T.mA rfl ?_
  refine d6 ?_; exact k6 rfl
 apply n0 _ rfl rfl rfl
 ·intro w1
  first | refine a8 rfl T.s5 rfl (i8 mB rfl) ?_ | refine a8 rfl T.s5 rfl (j0 mB rfl) ?_ | refine a8 rfl T.s5 rfl (d8 mB (d4 (by omega) rfl)) ?_ | refine a8 rfl T.s5 rfl (d7 mB (rows_get (by omega) rfl)) ?_ | refine a8 rfl T.s5 rfl (g4 mB rfl) ?_
  refine d6 ?_; exact k6 rfl
 refine s7 (fun w1 => z6 rfl rfl (q_z rfl)) (s7 (fun w1 => iW 3 3 rfl Tryz.underlying110 T.v0 rfl rfl rfl (by decide) rfl (q_z rfl)) (s7 (fun w1 => a8 (v := int c.2.2.2.1) rfl T.a9 rfl (d8 (A := some ⟨g, 0, none⟩) (j := 3) mB rfl) (q_z rfl)) ?_)); refine D4 ⟨rfl, ?_⟩; refine ax5 _ rfl rfl rfl rfl s9 ?_; refine b9 rfl (d9 (l7 ?_)); exact ret1 () rfl (by show some _ = some (int (l * c.2.2.2.1)); rfl) rfl trivial nil_sb trivial
end Go.Proofs.YtmpfpfbcejfijaaGreatDoor
end
section
namespace Go.W
open Go Go.RowKit
section
variable {κ : Type} [DecidableEq κ] {enc : κ → Value} {kt e : TypeId}
structure SetM (l : List (Ment κ)) (clk : Nat) (S : κ → Prop) : Prop where
  bs : (l.map (·.2.2)).Pairwise (· < ·)
  lt : ∀ p ∈ l, p.2.2 < clk
  nd : (l.map (·.1)).Nodup
  al : ∀ k, k ∈ l.map (·.1) ↔ S k
omit [DecidableEq κ] in
theorem SetM.nil (clk : Nat) : SetM ([] : List (Ment κ)) clk (fun _ => False) := ⟨.nil, by simp, by simp, by simp⟩
omit [DecidableEq κ] in
theorem SetM.congr {l : List (Ment κ)} {clk : Nat} {S S' : κ → Prop} (h : SetM l clk S) (e : ∀ k, S k ↔ S' k) : SetM l clk S' := ⟨h.bs, h.lt, h.nd, fun k => (h.al k).trans (e k)⟩
theorem SetM.put {l : List (Ment κ)} {clk : Nat} {S : κ → Prop} (h : SetM l clk S) (k : κ) (v : Value) : SetM (putM l k v clk) (clkM l k clk) (fun x => S x ∨ x = k) := by
  have hk := tV l k v clk; have hb := pX l k v clk; have hc := iz2 l k clk
  by_cases hm : k ∈ l.map (·.1)
  · rw [if_pos hm] at hk hb hc
    refine ⟨by rw [hb]; exact h.bs, fun p hp => ?_, by rw [hk]; exact h.nd, fun x => ?_⟩
    · have : p.2.2 ∈ (putM l k v clk).map (·.2.2) := List.mem_map.2 ⟨p, hp, rfl⟩
      rw [hb] at this; obtain ⟨q, hq, e⟩ := List.mem_map.1 this; rw [hc, ← e]; exact h.lt q hq
    rw [hk, h.al]; exact ⟨.inl, fun hx => hx.elim id fun e => by subst e; exact (h.al x).1 hm⟩
  rw [if_neg hm] at hk hb hc; refine ⟨?_, fun p hp => ?_, ?_, fun x => ?_⟩
  · rw [hb, List.pairwise_append]
    refine ⟨h.bs, List.pairwise_singleton _ _, fun a ha b hb' => ?_⟩; obtain ⟨q, hq, rfl⟩ := List.mem_map.1 ha; rw [List.mem_singleton] at hb'; subst hb'; exact h.lt q hq
  · have : p.2.2 ∈ (putM l k v clk).map (·.2.2) := List.mem_map.2 ⟨p, hp, rfl⟩
    rw [hb] at this; rw [hc]
    rcases List.mem_append.1 this with h1 | h1
    · obtain ⟨q, hq, e⟩ := List.mem_map.1 h1
      have := h.lt q hq
      omega
    rw [List.mem_singleton] at h1; omega
  · rw [hk, List.nodup_append]
    refine ⟨h.nd, by simp, fun a ha b hb' => ?_⟩; rw [List.mem_singleton] at hb'; subst hb'; exact fun e => hm (e ▸ ha)
  rw [hk, List.mem_append, List.mem_singleton, h.al]
theorem SetM.count {l vis : List (Ment κ)} {clk : Nat} {S : κ → Prop} (h : SetM l clk S) (hv : Vis l vis) (ha : ∀ p ∈ l, p.2.2 ∈ vis.map (·.2.2)) {K : List κ} (hK : K.Nodup) (hS : ∀ k, S k ↔ k ∈ K) : vis.length = K.length := by
  have h1 : vis.length = l.length := by
    refine Nat.le_antisymm hv.len ?_; have hb : (l.map (·.2.2)).Nodup := h.bs.imp (fun h => Nat.ne_of_lt h); have := W9 hb (K := vis.map (·.2.2)) (fun x hx => by obtain ⟨p, hp, rfl⟩ := List.mem_map.1 hx; exact ha p hp)
    simpa using this
  have h2 := W9 h.nd (K := K) (fun x hx => (hS x).1 ((h.al x).1 hx)); have h3 := W9 hK (K := l.map (·.1)) (fun x hx => (h.al x).2 ((hS x).2 hx))
  simp at h2 h3
  omega
variable {c : Cx} {Q : Exit → Act → World → Prop} {fr : Fr} {hp : Hp} {L : List Fact} {ops : Array Oper} {rest : List Oper}
variable {d : Tmp} {ty : TypeId} {pos : String} {af : Array Edge}
omit [DecidableEq κ] in
theorem lq7 {t : TypeId} {x : Operand} {g : Nat} {l : List (Ment κ)} {clk : Nat} {hp' : Hp} (ht : c.P.underlying t = some (.map kt e)) (hx : ev fr x = some (.map (some g))) (hpp : hp.Perm ((g, mapO enc l clk) :: hp'))
    (k : HL c ops Q rest fr ((g, mapO enc ([] : List (Ment κ)) clk) :: hp') L) : HL c ops Q (⟨none, .call ⟨.builtin .clear, #[x], #[t]⟩, ty, pos, af, none⟩ :: rest) fr hp L :=
  hl_eff rfl rfl fun a w ha hw => by
    have hw' := hw.perm hpp; have hg := hw'.own (g, mapO enc l clk) (by simp); have hg' : w.heap[g]? = some (.map (l.map (entOf enc)).toArray clk) := hg; refine ⟨.tuple #[], { w with heap := w.heap.setIfInBounds g (mapO enc ([] : List (Ment κ)) clk) }, _, L, ?_, hw'.write (o' := mapO enc ([] : List (Ment κ)) clk) ⟨rfl, rfl, rfl, by simp, fun j hj hn => by simp only [List.mem_singleton] at hn; simp [Array.getElem?_setIfInBounds_ne (Ne.symm hn)], Nat.le_refl _⟩ ?_, k⟩
    · simp [execOp, resolve, invoke, builtin, Builtin.clear_, ha.ev hx, run_underlying ht, MapKept.run_getObj_map hg', MapKept.run_setObj_map _ hg', mapO]
    have := C0 hg; simp only at this
    simp [this]
end
end Go.W
end
section
namespace Go.Proofs.YtmpfpfbcejfijaaGreatDoor
open Go Go.W
set_option maxRecDepth 20000
attribute [local irreducible] HL HC HQ HB Row Rows2 Blk Facts
abbrev saC (c : Ch) (ps : Sl Int) (qs : Sl Ad) : Array Value := #[int c.1, int c.2.1, int c.2.2.1, int c.2.2.2.1, int c.2.2.2.2.1, int c.2.2.2.2.2, .slice ps.a ps.l.length ps.c, .slice qs.a qs.l.length qs.c]
abbrev saV (c : Ch) (ps : Sl Int) (qs : Sl Ad) : Value := .agg (saC c ps qs)
abbrev saL (ps : Sl Int) (qs : Sl Ad) : List Fact := [Row ps.a (rows ps.l), Row qs.a (rows qs.l)]
structure SaOK (c : Ch) (ss : List Int) (xs : List Ad) : Prop where
  ch : ChOK c
  n1 : 1 ≤ ss.length
  n5 : ss.length ≤ 5
  st : ∀ s ∈ ss, 0 ≤ s ∧ s ≤ 9
  x8 : xs.length ≤ 8
  ad : ∀ x ∈ xs, (0 ≤ x.1 ∧ x.1 < (ss.length : Int)) ∧ (1 ≤ x.2.1 ∧ x.2.1 ≤ 3) ∧ (1 ≤ x.2.2 ∧ x.2.2 ≤ 6)
def hereB (ss : List Int) (xs : List Ad) (s : Int) (i : Nat) : Bool := xs.any (fun x => decide (x.1 = (i : Int))) && decide (ss.getD i default = s)
def offCnt (ss : List Int) (xs : List Ad) (s : Int) : Nat := ((List.range ss.length).filter (hereB ss xs s)).length
def offB (c : Ch) (ss : List Int) (xs : List Ad) (s : Int) : Bool := decide (c.2.2.2.2.2 ≤ (offCnt ss xs s : Int))
def discK (c : Ch) (ss : List Int) (xs : List Ad) (k : Nat) : List Int := ((List.range k).filter fun i : Nat => offB c ss xs (i : Int)).map fun i : Nat => (i : Int)
theorem jD (c : Ch) (ss : List Int) (xs : List Ad) (k : Nat) : discK c ss xs (k + 1) = if offB c ss xs (k : Int) = true then discK c ss xs k ++ [(k : Int)] else discK c ss xs k := by
  unfold discK; rw [List.range_succ, List.filter_append, List.map_append, List.filter_cons, List.filter_nil]
  by_cases e : offB c ss xs (k : Int) = true
  · rw [if_pos e, if_pos e]; rfl
  rw [if_neg e, if_neg e]; simp
theorem bj3 (c : Ch) (ss : List Int) (xs : List Ad) (k : Nat) : (discK c ss xs k).length ≤ k := by
  unfold discK; rw [List.length_map]; exact Nat.le_trans (List.length_filter_le _ _) (by simp)
def hereS (ss : List Int) (xs : List Ad) (s : Int) (k : Nat) (v : Int) : Prop := ∃ x ∈ xs.take k, x.1 = v ∧ ss.getD v.toNat default = s
theorem hq5 (ss : List Int) (xs : List Ad) (s v : Int) : False ↔ hereS ss xs s 0 v := by simp [hereS]
theorem jz1 {ss : List Int} {xs : List Ad} {s : Int} {k : Nat} (hk : k < xs.length) (h : ss.getD (xs.getD k default).1.toNat default = s) (v : Int) : (hereS ss xs s k v ∨ v = (xs.getD k default).1) ↔ hereS ss xs s (k + 1) v := by
  unfold hereS; rw [List.take_succ_eq_append_getElem hk]; have e : xs.getD k default = xs[k] := w4 hk; rw [e] at h ⊢; simp only [List.mem_append, List.mem_singleton]
  constructor
  · rintro (⟨x, hx, h1⟩ | rfl)
    · exact ⟨x, .inl hx, h1⟩
    exact ⟨xs[k], .inr rfl, rfl, h⟩
  rintro ⟨x, hx | rfl, h1, h2⟩
  · exact .inl ⟨x, hx, h1, h2⟩
  exact .inr h1.symm
theorem mj4 {ss : List Int} {xs : List Ad} {s : Int} {k : Nat} (hk : k < xs.length) (h : ¬ ss.getD (xs.getD k default).1.toNat default = s) (v : Int) : hereS ss xs s k v ↔ hereS ss xs s (k + 1) v := by
  unfold hereS; rw [List.take_succ_eq_append_getElem hk]; have e : xs.getD k default = xs[k] := w4 hk; rw [e] at h; simp only [List.mem_append, List.mem_singleton]
  constructor
  · rintro ⟨x, hx, h1⟩
    exact ⟨x, .inl hx, h1⟩
  rintro ⟨x, hx | rfl, h1, h2⟩
  · exact ⟨x, hx, h1, h2⟩
  rw [h1] at h; exact absurd h2 h
theorem az6 {c : Ch} {ss : List Int} {xs : List Ad} (h : SaOK c ss xs) (s v : Int) : hereS ss xs s xs.length v ↔ v ∈ ((List.range ss.length).filter (hereB ss xs s)).map (fun i : Nat => (i : Int)) := by
  unfold hereS; rw [List.take_length]; simp only [List.mem_map, List.mem_filter, List.mem_range, hereB, Bool.and_eq_true, List.any_eq_true, decide_eq_true_eq]
  constructor
  · rintro ⟨x, hx, rfl, h2⟩
    have := (h.ad x hx).1; exact ⟨x.1.toNat, ⟨by omega, ⟨x, hx, by omega⟩, h2⟩, by omega⟩
  rintro ⟨i, ⟨_, ⟨x, hx, h1⟩, h2⟩, rfl⟩; exact ⟨x, hx, h1, by simpa using h2⟩
theorem dx4 {l : List Nat} (h : l.Nodup) : (l.map fun i : Nat => (i : Int)).Nodup := by
  rw [List.nodup_iff_pairwise_ne, List.pairwise_map]; exact h.imp fun hab e => hab (by omega)
theorem dz8 {ss : List Int} {v : Int} (h0 : 0 ≤ v) (h1 : v < (ss.length : Int)) : v.toNat < ss.length := by omega
theorem lj2 {c : Ch} {ss : List Int} {xs : List Ad} (h : SaOK c ss xs) {s : Int} {l : List (Ment Int)} {clk : Nat} (hM : SetM l clk (hereS ss xs s xs.length)) : l.length ≤ 5 := by
  have h1 := W9 hM.nd (fun x hx => (az6 h s x).1 ((hM.al x).1 hx)); rw [List.length_map, List.length_map] at h1; have h2 := List.length_filter_le (hereB ss xs s) (List.range ss.length); rw [List.length_range] at h2; have := h.n5
  omega
abbrev KI : KeyC Tryz.prog T.int int := KeyC.int Tryz.underlying3
theorem Z4 (c : Ch) (ps : Sl Int) (qs : Sl Ad) (h : SaOK c ps.l qs.l) : Meets Tryz.prog F.cB [saV c ps qs] { LI := saL ps qs, inv := fun x : OutC => (discK c ps.l qs.l 10).length ≤ x.2, val := fun x => .slice x.1 (discK c ps.l qs.l 10).length x.2, LO := fun x => [Row x.1 (rows (discK c ps.l qs.l 10))] } := by
 have hx8 := h.x8; refine j8 F.uI rfl t4 fun w0 => ?_; refine j3 ?_; refine C4 rfl rfl fun gB => ?_; refine b9 rfl (k9 (b9 rfl (k9 ?_))); refine gz6 int rfl fun gm => ?_; refine b9 rfl (d9 (j6 (j3 (b8 rfl (d9 (l4 ?_)))))); refine v8 (β := Nat × OutC × Hp × List (Ment Int) × Nat) ⟨fun x => x.1 ≤ 10 ∧ Grow T.int 1 x.2.1.1 (discK c ps.l qs.l x.1).length x.2.1.2 (rows (discK c ps.l qs.l x.1)) x.2.2.1, fun x => [(1, .pointer (b4 gB)), (3, .slice x.2.1.1 (discK c ps.l qs.l x.1).length x.2.1.2), (4, .map (some gm)), (10, int x.1)], fun x => [(gm, mapO int x.2.2.2.1 x.2.2.2.2), (gB, .cells (saC c ps qs) T.m8 (0, 0))] ++ x.2.2.1, fun _ => saL ps qs⟩ (fun x => 10 - x.1) (0, (none, 0), [], [], 0) ⟨Nat.zero_le _, Grow.nil _ _⟩ mC (.refl _) mC fun x hx => ?_; obtain ⟨i, ⟨na, nc⟩, og, l0, clk0⟩ := x; obtain ⟨hi, hG⟩ := hx; simp only at hi hG; have hdl := bj3 c ps.l qs.l i; refine j3 (A7 rfl rfl rfl (d9 (j6 ?_)))
 first | refine m7 rfl (fun hb1 => ?_) (fun hb1 => ?_) | refine k4 rfl (fun hb1 => ?_) (fun hb1 => ?_)
 ·have hb1' := hb1; try simp at hb1'
  have hi2 : i < 10 := by omega
  refine k7 (j9 (j6 (l4 (j3 (b8 rfl (b9 rfl (k9 ?_))))))); refine b8 rfl (lq7 (enc := int) (l := l0) (clk := clk0) T.bJ rfl (.refl _) ?_); refine d9 (j6 (j3 ?_))
  first | refine a7 ⟨_, 7, none⟩ rfl rfl T.p9 rfl ?_ | refine a7 _ rfl rfl T.p9 rfl ?_
  first | refine a8 rfl T.i7 rfl (j0 mB rfl) ?_ | refine a8 rfl T.i7 rfl (i8 mB rfl) ?_ | refine a8 rfl T.i7 rfl (d8 mB (d4 (by omega) rfl)) ?_ | refine a8 rfl T.i7 rfl (d7 mB (rows_get (by omega) rfl)) ?_ | refine a8 rfl T.i7 rfl (g4 mB rfl) ?_
  refine l9 rfl T.v9 rfl ?_; refine b8 rfl (d9 (l4 ?_)); refine v8 (β := Nat × List (Ment Int) × Nat) ⟨fun x => x.1 ≤ qs.l.length ∧ SetM x.2.1 x.2.2 (hereS ps.l qs.l (i : Int) x.1), fun x => [(1, .pointer (b4 gB)), (3, .slice (na, nc).1 (discK c ps.l qs.l i).length (na, nc).2), (4, .map (some gm)), (10, int i), (5, int i), (15, .slice qs.a qs.l.length qs.c), (16, int qs.l.length), (17, int x.1)], fun x => [(gm, mapO int x.2.1 x.2.2), (gB, .cells (saC c ps qs) T.m8 (0, 0))] ++ og, fun _ => saL ps qs⟩ (fun x => qs.l.length - x.1) (0, [], clk0) ⟨Nat.zero_le _, (SetM.nil clk0).congr fun v => hq5 _ _ _ v⟩ mC (.refl _) mC fun x hx => ?_; obtain ⟨k, l, clk⟩ := x; obtain ⟨hk, hM⟩ := hx; simp only at hk hM; refine j3 (A7 rfl rfl rfl (d9 (j6 ?_)))
  first | refine m7 rfl (fun hb2 => ?_) (fun hb2 => ?_) | refine k4 rfl (fun hb2 => ?_) (fun hb2 => ?_)
  ·have hb2' := hb2; try simp at hb2'
   have hk2 : k < qs.l.length := by omega
   have hxk := (h.ad _ (u0 hk2)).1; have hsk := dz8 hxk.1 hxk.2; refine k7 (j9 (j6 (l4 (j3 ?_)))); refine w3 (α := Ad) _ _ rfl T.v9 T.j7 rfl rfl rfl mB rfl (by omega) (by decide) (r8 rfl T.l3 T.j7 rfl rfl (m9 mB (q8 (by omega))) ?_); refine z1 rfl (fun _ => T.I2 _) fun gA => ?_; refine u3 rfl rfl (by first | exact .refl _ | exact perm2 _ _ _ | exact perm3 _ _ _ _ | exact perm4 _ _ _ _ _) T.j7 (by rfl) (by rfl) ?_; refine k9 ?_
   first | refine a7 ⟨_, 6, none⟩ rfl rfl T.t9 rfl ?_ | refine a7 _ rfl rfl T.t9 rfl ?_
   first | refine a8 rfl T.d5 rfl (j0 mB rfl) ?_ | refine a8 rfl T.d5 rfl (i8 mB rfl) ?_ | refine a8 rfl T.d5 rfl (d8 mB (d4 (by omega) rfl)) ?_ | refine a8 rfl T.d5 rfl (d7 mB (rows_get (by omega) rfl)) ?_ | refine a8 rfl T.d5 rfl (g4 mB rfl) ?_
   first | refine a7 ⟨_, 0, none⟩ rfl rfl T.C8 rfl ?_ | refine a7 _ rfl rfl T.C8 rfl ?_
   first | refine a8 rfl T.a9 rfl (j0 mB rfl) ?_ | refine a8 rfl T.a9 rfl (i8 mB rfl) ?_ | refine a8 rfl T.a9 rfl (d8 mB (d4 (by omega) rfl)) ?_ | refine a8 rfl T.a9 rfl (d7 mB (rows_get (by omega) rfl)) ?_ | refine a8 rfl T.a9 rfl (g4 mB rfl) ?_
   refine w3 (α := Int) ps.l (qs.l.getD k default).1.toNat rfl T.q9 T.v0 rfl rfl (Int.toNat_of_nonneg hxk.1).symm mB rfl (by omega) (by decide) (a8 rfl T.a9 rfl (d8 mB (d4 (by omega) rfl)) ?_); refine b8 rfl (D8 rfl rfl rfl (d9 ?_))
   first | refine m7 rfl (fun hb3 => ?_) (fun hb3 => ?_) | refine k4 rfl (fun hb3 => ?_) (fun hb3 => ?_)
   ·have hb3' := hb3; try simp at hb3'
    refine k8 (b8 rfl ?_)
    first | refine a7 ⟨_, 0, none⟩ rfl rfl T.C8 rfl ?_ | refine a7 _ rfl rfl T.C8 rfl ?_
    first | refine a8 rfl T.a9 rfl (j0 mB rfl) ?_ | refine a8 rfl T.a9 rfl (i8 mB rfl) ?_ | refine a8 rfl T.a9 rfl (d8 mB (d4 (by omega) rfl)) ?_ | refine a8 rfl T.a9 rfl (d7 mB (rows_get (by omega) rfl)) ?_ | refine a8 rfl T.a9 rfl (g4 mB rfl) ?_
    refine lq6 (k := (qs.l.getD k default).1) (v := .bool true) KI (.inl rfl) T.bJ rfl rfl rfl (l := l) (clk := clk) (hp' := (gA, _) :: (gB, .cells (saC c ps qs) T.m8 (0, 0)) :: og) (.swap _ _ _) ?_; refine d6 (z2 (j9 (k8 ?_))); refine y2 _ rfl rfl rfl rfl s9 ?_; refine b8 rfl (d6 ?_); exact again _ (k + 1, putM l (qs.l.getD k default).1 (.bool true) clk, clkM l (qs.l.getD k default).1 clk) ⟨by show k + 1 ≤ qs.l.length; omega, (hM.put _ _).congr fun v => jz1 hk2 hb3 v⟩ (A5 (by omega)) mC (.cons_cons _ (.cons _ (.refl _))) mC
   have hb3' := hb3; try simp at hb3'
   refine k7 (z2 (j9 (k8 ?_))); refine y2 _ rfl rfl rfl rfl s9 ?_; refine b8 rfl (d6 ?_); exact again _ (k + 1, l, clk) ⟨by show k + 1 ≤ qs.l.length; omega, hM.congr fun v => mj4 hk2 hb3 v⟩ (A5 (by omega)) mC (.cons _ (.refl _)) mC
  have hb2' := hb2; try simp at hb2'
  have hk2 : k = qs.l.length := by omega
  subst hk2; have hl5 := lj2 h hM; refine v5 (C3 (u9 (j9 (j3 (b9 rfl (d9 (hq4 ?_))))))); refine k8 (b8 rfl ?_); refine lq3 rfl T.bJ rfl (ix0 m0) fun gi => ?_; refine d9 (l4 ?_); refine v8 (β := List (Ment Int)) ⟨fun vis => Vis l vis, fun vis => [(1, .pointer (b4 gB)), (3, .slice (na, nc).1 (discK c ps.l qs.l i).length (na, nc).2), (4, .map (some gm)), (10, int i), (5, int i), (34, .pointer (b4 gi)), (8, int vis.length)], fun vis => [(gi, iterM gm clk vis), (gm, mapO int l clk), (gB, .cells (saC c ps qs) T.m8 (0, 0))] ++ og, fun _ => saL ps qs⟩ (fun vis => l.length - vis.length) [] (Vis.nil _) mC (.refl _) mC fun vis hV => ?_; simp only at hV; refine j3 ?_; refine r_nextM (enc := int) rfl rfl (ix0 m1) hM.lt l5 fun x hx0 hx1 => ?_; refine r_mext0 (enc := int) rfl rfl ?_; refine d9 (j6 ?_)
  first | refine m7 rfl (fun hb4 => ?_) (fun hb4 => ?_) | refine k4 rfl (fun hb4 => ?_) (fun hb4 => ?_)
  ·have hb4' := hb4; try simp at hb4'
   obtain ⟨q, rfl⟩ := Option.isSome_iff_exists.1 hb4; obtain ⟨hq1, hq2⟩ := hx1 q rfl; have hlt := hV.lt hq1 hq2; refine k7 (j9 (l4 (k8 (b8 rfl ?_)))); refine y2 _ rfl rfl rfl rfl s9 ?_; refine b9 rfl (d6 (z2 ?_)); exact again _ (vis ++ [q]) (hV.snoc hq1 hq2) (by show l.length - (vis ++ [q]).length < l.length - vis.length; rw [List.length_append, List.length_singleton]; omega) ⟨rfl, rfl, rfl, rfl, rfl, rfl, by show some (int ((vis.length : Int) + 1)) = some (int ((vis ++ [q]).length : Int)); rw [List.length_append]; rfl, trivial⟩ (.refl _) mC
  have hb4' := hb4; try simp at hb4'
  have hx : x = none := by cases x with | none => rfl | some q => simp at hb4
  subst hx
  have hcn : vis.length = offCnt ps.l qs.l (i : Int) := by
    rw [hM.count hV (hx0 rfl) (dx4 (List.nodup_range.filter _)) (az6 h (i : Int)), List.length_map]; rfl
  refine v5 (C3 (u9 (j9 (j3 (b8 rfl ?_)))))
  first | refine a7 ⟨_, 0, none⟩ rfl rfl T.A9 rfl ?_ | refine a7 _ rfl rfl T.A9 rfl ?_
  first | refine a7 ⟨_, 5, none⟩ rfl rfl T.I4 rfl ?_ | refine a7 _ rfl rfl T.I4 rfl ?_
  first | refine a8 rfl T.a9 rfl (j0 mB rfl) ?_ | refine a8 rfl T.a9 rfl (i8 mB rfl) ?_ | refine a8 rfl T.a9 rfl (d8 mB (d4 (by omega) rfl)) ?_ | refine a8 rfl T.a9 rfl (d7 mB (rows_get (by omega) rfl)) ?_ | refine a8 rfl T.a9 rfl (g4 mB rfl) ?_
  refine nX rfl rfl rfl (d9 ?_)
  first | refine m7 rfl (fun hb5 => ?_) (fun hb5 => ?_) | refine k4 rfl (fun hb5 => ?_) (fun hb5 => ?_)
  ·have hb5' := hb5; try simp at hb5'
   have hof : offB c ps.l qs.l (i : Int) = true := by unfold offB; rw [← hcn]; exact decide_eq_true hb5
   refine k8 (b8 rfl (b8 rfl ?_)); refine m6 _ rfl rfl (fun _ => T.N1 ..) fun gS => ?_; refine t8 (rows [(i : Int)]) (List.prefix_refl _) ?_; refine Z1 (hp' := [(gi, iterM gm clk (vis ++ [])), (gm, mapO int l clk), (gB, .cells (saC c ps qs) T.m8 (0, 0))]) ((discK c ps.l qs.l i).length + 1) (rows (discK c ps.l qs.l i ++ [(i : Int)])) T.cq2 rfl rfl rfl hG (U7 fun q => by simp only [Option.toList_none, List.append_eq, List.cons_append, List.nil_append, List.countP_append, List.countP_cons, List.countP_nil]; omega) (Src.row (news := rows [(i : Int)]) (m := 1) m0 rfl (Q8 _) (by decide)) rfl (E9 _ _).symm (by unfold maxLen; omega) (by omega) fun A' c' og' hG' => ?_; refine b9 rfl (d6 (z2 (j9 (k8 ?_)))); refine y2 _ rfl rfl rfl rfl s9 ?_; refine b8 rfl (d6 ?_); refine mX (hp' := (gi, iterM gm clk (vis ++ [])) :: (gm, mapO int l clk) :: (gB, .cells (saC c ps qs) T.m8 (0, 0)) :: og') (U7 fun q => by simp only [List.append_eq, List.cons_append, List.nil_append, List.countP_append, List.countP_cons, List.countP_nil]; omega) ?_; exact again _ (i + 1, (A', c'), og', l, clk) ⟨by show i + 1 ≤ 10; omega, by show Grow T.int 1 A' (discK c ps.l qs.l (i + 1)).length c' (rows (discK c ps.l qs.l (i + 1))) og'; rw [jD, if_pos hof, List.length_append]; exact hG'⟩ (A5 (by omega)) ⟨rfl, by show some (Value.slice A' ((discK c ps.l qs.l i).length + 1) c') = some (Value.slice A' (discK c ps.l qs.l (i + 1)).length c'); rw [jD, if_pos hof, List.length_append]; rfl, rfl, rfl, trivial⟩ (.cons _ (.refl _)) mC
  have hb5' := hb5; try simp at hb5'
  have hof : ¬ offB c ps.l qs.l (i : Int) = true := by unfold offB; rw [← hcn, decide_eq_true_eq]; omega
  refine k7 (z2 (j9 (k8 ?_))); refine y2 _ rfl rfl rfl rfl s9 ?_; refine b8 rfl (d6 ?_); exact again _ (i + 1, (na, nc), og, l, clk) ⟨by show i + 1 ≤ 10; omega, by show Grow T.int 1 na (discK c ps.l qs.l (i + 1)).length nc (rows (discK c ps.l qs.l (i + 1))) og; rw [jD, if_neg hof]; exact hG⟩ (A5 (by omega)) ⟨rfl, by show some (Value.slice na (discK c ps.l qs.l i).length nc) = some (Value.slice na (discK c ps.l qs.l (i + 1)).length nc); rw [jD, if_neg hof], rfl, rfl, trivial⟩ (.cons _ (.refl _)) mC
 have hb1' := hb1; try simp at hb1'
 have hi2 : i = 10 := by omega
 subst hi2; refine v5 (C3 (u9 (j9 (j3 (b8 rfl (b9 rfl (d9 (l7 ?_)))))))); refine mX (hp' := og ++ [(gm, mapO int l0 clk0), (gB, .cells (saC c ps qs) T.m8 (0, 0))]) (U7 fun q => by simp only [List.append_eq, List.cons_append, List.nil_append, List.countP_append, List.countP_cons, List.countP_nil]; omega) ?_; refine dz1 hG ?_; exact ret1 (na, nc) rfl rfl rfl hG.le nil_sb mC
end Go.Proofs.YtmpfpfbcejfijaaGreatDoor
end
section
namespace Go.W
open Go Go.RowKit
theorem madeR {α : Type} [El α] (a0 : α) {zc : Array Value} (hz : zc.toList = El.cells a0) (n : Nat) : madeCells zc (n * El.sz α) = (rows (List.replicate n a0)).toArray := by
  have hsz : zc.size = El.sz α := by rw [← El.len a0, ← hz, Array.length_toList]
  apply Array.ext
  · simp [madeCells, Q9]
  intro i h1 h2; have hi : i < n * El.sz α := by simpa [madeCells] using h1
  have hs0 : 0 < El.sz α := Nat.pos_of_ne_zero fun h => by rw [h] at hi; omega
  have hq : i / El.sz α < n := Nat.div_lt_of_lt_mul (by rw [Nat.mul_comm]; exact hi); have hm : i % El.sz α < El.sz α := Nat.mod_lt _ hs0; have e : i = i / El.sz α * El.sz α + i % El.sz α := by rw [Nat.mul_comm]; exact (Nat.div_add_mod _ _).symm
  have h3 := rows_get' (List.replicate n a0) (i / El.sz α) (i % El.sz α) (by simpa using hq) hm; rw [← e] at h3; have h4 : (List.replicate n a0).getD (i / El.sz α) default = a0 := by simp [List.getD_eq_getElem?_getD, hq]
  rw [h4, ← hz] at h3; have h5 : i < (rows (List.replicate n a0)).length := by rw [Q9, List.length_replicate]; exact hi
  rw [List.getElem?_eq_getElem h5, List.getElem?_eq_getElem (by rw [Array.length_toList, hsz]; exact hm)] at h3; have h6 := Option.some.inj h3; have h7 : (rows (List.replicate n a0)).toArray[i] = (rows (List.replicate n a0))[i] := by simp
  have hm' : i % zc.size < zc.size := by rw [hsz]; exact hm
  have h8 : (madeCells zc (n * El.sz α))[i] = zc[i % zc.size] := by
    simp only [madeCells, Array.getElem_map, Array.getElem_range]; exact getElem!_pos zc _ hm'
  rw [h7, h6, h8]
  simp [hsz]
theorem iq7 {α : Type} [El α] (a0 : α) {c : Cx} {Q : Exit → Act → World → Prop} {fr : Fr} {hp : Hp} {L : List Fact} {ops : Array Oper} {rest : List Oper} {d : Tmp} {ty : TypeId} {pos : String} {af : Array Edge}
    {t e : TypeId} {x y : Operand} {n bytes : Nat} {z : Value} {m : Int} (hd : Nat.blt d c.n = true) (ht : c.P.underlying t = some (.slice e)) (hi : (c.P.info? e).map (fun i => (i.zero, i.size, i.bytes)) = some (some z, El.sz α, bytes)) (hz : z.cells.toList = El.cells a0)
    (hx : ev fr x = some (int m)) (hy : ev fr y = some (int m)) (hm : m = (n : Int)) (hb : bytes * n ≤ 140737488355328) (hn : n ≤ 140737488355328)
    (k : ∀ g, HL c ops Q rest ((d, .slice (b4 g) n n) :: fr) ((g, .cells (rows (List.replicate n a0)).toArray e (0, 0)) :: hp) L) : HL c ops Q (⟨some d, .makeSlice t x y, ty, pos, af, none⟩ :: rest) fr hp L :=
  jA (.cells (rows (List.replicate n a0)).toArray e (0, 0)) (fun g => .slice (b4 g) n n) rfl rfl hd (fun a w ha _ => by
    subst hm; obtain ⟨i, h1, h2, h3, h4⟩ := info_parts hi
    have hb' : (i.bytes : Int) * (n : Int) ≤ 281474976710656 := by
      have h : ((i.bytes * n : Nat) : Int) ≤ 281474976710656 := by rw [h4]; omega
      rwa [Int.natCast_mul] at h
    have hr := run_make (P := c.P) w t e i z ht h1 h2 .i64 .i64 n n (by omega) (Int.le_refl _) hb' (by omega); simp only [Int.toNat_natCast, h3, madeR a0 hz] at hr
    simp only [execOp, ha.ev hx, ha.ev hy, Sem.run_bind, hr, Result.andThen_ok, Sem.run_pure]) k
theorem lM {α : Type} [El α] (a : α) {c : Cx} {Q : Exit → Act → World → Prop} {fr : Fr} {hp : Hp} {L : List Fact} {ops : Array Oper} {rest : List Oper} {ty : TypeId} {pos : String} {af : Array Edge}
    {t e : TypeId} {x y : Operand} {g q k f : Nat} {l : List α} {v : Value} {hp' : Hp} (hx : ev fr x = some (.pointer (some ⟨g, q, none⟩))) (hq : q = k * El.sz α + f) (hy : ev fr y = some v) (hpp : hp.Perm ((g, .cells (rows l).toArray e (0, 0)) :: hp'))
    (hz : Sz c.P t 1) (hk : k < l.length) (hf : f < El.sz α) (hc : El.cells a = (El.cells (l.getD k default)).set f v) (h1 : v.oneCell' = true)
    (kk : HL c ops Q rest fr ((g, .cells (rows (l.set k a)).toArray e (0, 0)) :: hp') L) : HL c ops Q (⟨none, .store t x y, ty, pos, af, none⟩ :: rest) fr hp L := by
  subst hq
  have hlt : k * El.sz α + f < (rows l).length := by
    rw [Q9]; have : (k + 1) * El.sz α ≤ l.length * El.sz α := Nat.mul_le_mul_right _ hk; rw [Nat.add_mul, Nat.one_mul] at this
    omega
  refine D7 (u := (rows l)[k * El.sz α + f]) hx hy hpp hz (by rw [List.getElem?_toArray, List.getElem?_eq_getElem hlt]) h1 ?_
  have e : (rows l).toArray.setIfInBounds (k * El.sz α + f) v = (rows (l.set k a)).toArray := by
    rw [← ax1 hf hk hc]
    simp
  rw [e]; exact kk
theorem uD {α : Type} [El α] {b : Bx} {hp : Hp} {L : List Fact} {g q k f : Nat} {l : List α} {t : TypeId} {fz : Nat × Nat} {v : Value} (h : Blk g (Obj.cells (rows l).toArray t fz) ∈ L) (hq : q = k * El.sz α + f) (hk : k < l.length) (hv : (El.cells (l.getD k default))[f]? = some v) : Cell b hp L ⟨g, q, none⟩ v := by
  subst hq; exact i8 h (by rw [List.getElem?_toArray]; exact rows_get hk hv)
end Go.W
end
section
namespace Go.Proofs.YtmpfpfbcejfijaaGreatDoor
open Go Go.W
set_option maxRecDepth 20000
attribute [local irreducible] HL HC HQ HB Row Rows2 Blk Facts
theorem gG {A : Option Addr} {c : Nat} (l : List Int) (s : Int) (hl : l.length ≤ 1000000) : Meets Tryz.prog F.U3 [.slice A l.length c, int s] { LI := [Row A (rows l)], inv := fun z : Int => AtInv l s z, val := fun z => int z } := by
 refine j8 F.nL rfl t4 fun w0 => ?_; refine j3 (b9 rfl (d9 (j6 (j3 (b8 rfl ?_))))); refine l9 rfl T.q9 rfl ?_; refine b8 rfl (d9 (l4 ?_)); refine v8 (β := Nat) ⟨fun k => k ≤ l.length ∧ s ∉ l.take k, fun k => [(0, .slice A l.length c), (1, int s), (7, int l.length), (8, int k)], fun _ => [], fun _ => [Row A (rows l)]⟩ (fun k => l.length - k) 0 ⟨Nat.zero_le _, by simp⟩ mC nil_sb mC fun k hk => ?_; obtain ⟨hk, ht⟩ := hk; refine j3 (A7 rfl rfl rfl (d9 (j6 ?_)))
 first | refine m7 rfl (fun hb1 => ?_) (fun hb1 => ?_) | refine k4 rfl (fun hb1 => ?_) (fun hb1 => ?_)
 ·have hb1' := hb1; try simp at hb1'
  have hk2 : k < l.length := by omega
  refine k7 (j9 (j6 (l4 (j3 (b8 rfl (b9 rfl (k9 ?_))))))); refine b8 rfl (b8 rfl (b8 rfl ?_)); refine w3 (α := Int) _ _ rfl T.q9 T.v0 rfl rfl rfl mB rfl (by omega) (by decide) (a8 rfl T.a9 rfl (d8 mB (d4 (by omega) rfl)) ?_); refine D8 rfl rfl rfl (d9 ?_)
  first | refine m7 rfl (fun hb2 => ?_) (fun hb2 => ?_) | refine k4 rfl (fun hb2 => ?_) (fun hb2 => ?_)
  ·have hb2' := hb2; try simp at hb2'
   refine j3 (b8 rfl (b9 rfl (d9 (l7 (C2 (w6 (C2 ?_))))))); exact ret1 (k : Int) rfl rfl rfl (nj1 hk2 hb2.symm ht) nil_sb trivial
  have hb2' := hb2; try simp at hb2'
  refine k7 (z2 (j9 (k8 ?_))); refine y2 _ rfl rfl rfl rfl s9 ?_; refine b8 rfl (d6 ?_); exact again _ (k + 1) ⟨by omega, by rw [L3 l k hk2]; simp only [List.mem_append, List.mem_singleton, not_or]; exact ⟨ht, hb2⟩⟩ (A5 (by omega)) mC nil_sb mC
 have hb1' := hb1; try simp at hb1'
 obtain rfl : k = l.length := by omega
 rw [List.take_length] at ht; refine v5 (C3 (u9 (j9 (j3 (b9 rfl (d9 (l7 ?_))))))); exact ret1 (-1) rfl rfl rfl (at_none ht) nil_sb trivial
theorem bO {A : Option Addr} {c : Nat} (l : List Int) (s : Int) (hl : l.length ≤ 1000000) : Meets Tryz.prog F.O4 [.slice A l.length c, int s] { LI := [Row A (rows l)], val := fun _ : Unit => .bool (decide (s ∈ l)) } := by
 refine j8 F.iR rfl t4 fun w0 => ?_; refine j3 (b9 rfl (k9 (b8 rfl (b8 rfl ?_)))); refine i9 F.lI rfl rfl (gG l s hl) l5 mC fun z hz => ?_; refine nX rfl rfl rfl (b9 rfl (d9 (l7 ?_))); exact ret1 () rfl (congrArg (fun b => some (Value.bool b)) (decide_eq_decide.2 hz.1)) rfl trivial nil_sb trivial
abbrev Ac2 := Int × Option (Option Nat)
def ruleV2 : Option (Option Nat) → Value
  | none => .nilFunc
  | some r => ruleV r
instance : El Ac2 where
  default := (0, none)
  cells x := [int x.1, ruleV2 x.2]
  sz := 2
  len _ := rfl
  one a u h := by
    simp at h
    rcases h with h | h <;> subst h
    · rfl
    cases a.2 with
    | none => rfl
    | some r => cases r <;> rfl
def ruleN (c : Ch) (ss : List Int) (xs : List Ad) (g i : Nat) : Option Nat := if offB c ss xs (ss.getD i default) = true then some g else none
def sumK (c : Ch) (xs : List Ad) (k i : Nat) : Int := (((xs.take k).filter fun x => decide (x.1 = (i : Int))).map (priceN c)).sum
def acA (c : Ch) (ss : List Int) (xs : List Ad) (g k i : Nat) : Ac2 := (0, if i < k then some (ruleN c ss xs g i) else none)
def acS (c : Ch) (ss : List Int) (xs : List Ad) (g k i : Nat) : Ac2 := (sumK c xs k i, some (ruleN c ss xs g i))
def accs (c : Ch) (ss : List Int) (xs : List Ad) (g : Nat) : List Ac := (List.range ss.length).map fun i => (sumK c xs xs.length i, ruleN c ss xs g i)
theorem tR {α : Type} {n k : Nat} (f : Nat → α) (v : α) (hk : k < n) : ((List.range n).map f).set k v = (List.range n).map fun i => if i = k then v else f i := by
  apply List.ext_getElem?
  intro j
  by_cases hj : j < n
  · rw [List.getElem?_map, List.getElem?_range hj, List.getElem?_set]
    by_cases e : k = j
    · subst e; simp [hk]
    rw [if_neg e, List.getElem?_map, List.getElem?_range hj]
    simp [Ne.symm e]
  rw [List.getElem?_eq_none (by simp; omega), List.getElem?_eq_none (by simp; omega)]
theorem W4 {α : Type} [Inhabited α] {n k : Nat} (f : Nat → α) (hk : k < n) : ((List.range n).map f).getD k default = f k := by
  rw [List.getD_eq_getElem?_getD, List.getElem?_map, List.getElem?_range hk]; rfl
theorem mQ {α : Type} (n : Nat) (f : Nat → α) : ((List.range n).map f).length = n := by simp
theorem nq3 (c : Ch) (ss : List Int) (xs : List Ad) (g n : Nat) : List.replicate n ((0, none) : Ac2) = (List.range n).map (acA c ss xs g 0) := by
  apply List.ext_getElem?
  intro j
  by_cases hj : j < n
  · rw [List.getElem?_map, List.getElem?_range hj, List.getElem?_replicate, if_pos hj]; simp [acA]
  rw [List.getElem?_eq_none (by simp; omega), List.getElem?_eq_none (by simp; omega)]
theorem gx1 (c : Ch) (ss : List Int) (xs : List Ad) (g k : Nat) : (fun i => if i = k then ((0, some (ruleN c ss xs g k)) : Ac2) else acA c ss xs g k i) = acA c ss xs g (k + 1) := by
  funext i
  unfold acA
  by_cases e : i = k
  · subst e; simp
  rw [if_neg e]
  by_cases h : i < k
  · rw [if_pos h, if_pos (by omega)]
  rw [if_neg h, if_neg (by omega)]
theorem acA_at (c : Ch) (ss : List Int) (xs : List Ad) (g k : Nat) : acA c ss xs g k k = (0, none) := by simp [acA]
theorem nq4 {c : Ch} {ss : List Int} {xs : List Ad} {g : Nat} : (List.range ss.length).map (acA c ss xs g ss.length) = (List.range ss.length).map (acS c ss xs g 0) := by
  refine List.map_congr_left fun i hi => ?_; rw [List.mem_range] at hi
  simp [acA, acS, hi, sumK]
theorem aq5 (c : Ch) {xs : List Ad} {k : Nat} (hk : k < xs.length) (i : Nat) : sumK c xs (k + 1) i = if (xs.getD k default).1 = (i : Int) then sumK c xs k i + priceN c (xs.getD k default) else sumK c xs k i := by
  unfold sumK; rw [List.take_succ_eq_append_getElem hk, ← w4 hk, List.filter_append, List.map_append, List.sum_append]
  by_cases e : (xs.getD k default).1 = (i : Int)
  · rw [if_pos e, List.filter_cons, if_pos (decide_eq_true e)]; simp
  rw [if_neg e, List.filter_cons, if_neg (by simpa using e)]; simp
theorem nq1 (c : Ch) (ss : List Int) {xs : List Ad} (g : Nat) {k m : Nat} (hk : k < xs.length) (hm : (xs.getD k default).1 = (m : Int)) : (fun i => if i = m then ((sumK c xs k m + priceN c (xs.getD k default), some (ruleN c ss xs g m)) : Ac2) else acS c ss xs g k i) = acS c ss xs g (k + 1) := by
  funext i
  unfold acS; rw [aq5 c hk]
  by_cases e : i = m
  · subst e; rw [if_pos rfl, if_pos hm]
  rw [if_neg e, if_neg (by omega)]
theorem gz1 {α β γ : Type} [El α] [El β] {l : List γ} {f : γ → α} {g : γ → β} (h : ∀ x ∈ l, El.cells (f x) = El.cells (g x)) : rows (l.map f) = rows (l.map g) := by
  induction l with
  | nil => rfl
  | cons x l ih => rw [List.map_cons, List.map_cons, P5, P5, h x (by simp), ih fun y hy => h y (by simp [hy])]
theorem kx6 (c : Ch) (ss : List Int) (xs : List Ad) (g : Nat) : rows ((List.range ss.length).map (acS c ss xs g xs.length)) = rows (accs c ss xs g) := gz1 fun _ _ => rfl
theorem dq7 {c : Ch} {x : Ad} (hc : ChOK c) (hl : 1 ≤ x.2.2 ∧ x.2.2 ≤ 6) : 0 ≤ priceN c x ∧ priceN c x ≤ 6000 := by
  have h1 := hc.1; have h2 := hc.2.1; have m1 := cj1 (a := x.2.2 - 1) (A := 5) ⟨by omega, by omega⟩ hc.2.2.1; have m2 := cj1 (a := x.2.2) (A := 6) ⟨by omega, by omega⟩ hc.2.2.2.1; unfold priceN
  split
  · omega
  split <;> omega
theorem wP {c : Ch} {ss : List Int} {xs : List Ad} (h : SaOK c ss xs) (i : Nat) : ∀ k, k ≤ xs.length → 0 ≤ sumK c xs k i ∧ sumK c xs k i ≤ 6000 * (k : Int)
  | 0, _ => by simp [sumK]
  | k + 1, hk => by
    have ih := wP h i k (by omega); have hp := dq7 h.ch (h.ad _ (u0 (show k < xs.length by omega))).2.2; rw [aq5 c (by omega)]
    split <;> omega
theorem gj7 {c : Ch} {ss : List Int} {xs : List Ad} (h : SaOK c ss xs) {i : Nat} (hi : i < ss.length) : ss.getD i default ∈ discK c ss xs 10 ↔ offB c ss xs (ss.getD i default) = true := by
  have hs := h.st _ (u0 hi); generalize ss.getD i default = s at *; unfold discK; simp only [List.mem_map, List.mem_filter, List.mem_range]
  constructor
  · rintro ⟨j, ⟨_, h1⟩, rfl⟩; exact h1
  intro h1; exact ⟨s.toNat, ⟨by omega, by rwa [Int.toNat_of_nonneg hs.1]⟩, by omega⟩
theorem acA_yes {c : Ch} {ss : List Int} {xs : List Ad} {g k : Nat} (h : offB c ss xs (ss.getD k default) = true) : (fun i => if i = k then ((0, some (some g)) : Ac2) else if i = k then ((0, some none) : Ac2) else acA c ss xs g k i) = acA c ss xs g (k + 1) := by
  rw [← gx1]
  funext i
  by_cases e : i = k
  · rw [if_pos e, if_pos e, ruleN, if_pos h]
  rw [if_neg e, if_neg e, if_neg e]
theorem acA_no {c : Ch} {ss : List Int} {xs : List Ad} {g k : Nat} (h : ¬ offB c ss xs (ss.getD k default) = true) : (fun i => if i = k then ((0, some none) : Ac2) else acA c ss xs g k i) = acA c ss xs g (k + 1) := by
  rw [← gx1]
  funext i
  by_cases e : i = k
  · rw [if_pos e, if_pos e, ruleN, if_neg h]
  rw [if_neg e, if_neg e]
theorem hY {us rest : List Value} {cs : Array Value} (h : cs.toList = us ++ rest) : ∀ i u, us[i]? = some u → cs[0 + i]? = some u := fun i u hu => by
  rw [Nat.zero_add, ← Array.getElem?_toList, h, List.getElem?_append_left (List.getElem?_eq_some_iff.1 hu).1]; exact hu
theorem lx6 (v : Value) (w : World) : (method (Tryz.prog.types.size + Made.depth) T.cA v "wayzgoose/bold.price").run Tryz.prog w = .ok (F.L8, v) w := by kernel_rfl
theorem mt_bold (v : Value) (w : World) : (method (Tryz.prog.types.size + Made.depth) T.iD v "wayzgoose/bold.price").run Tryz.prog w = .ok (F.M8, v) w := by kernel_rfl
theorem mt_card (v : Value) (w : World) : (method (Tryz.prog.types.size + Made.depth) T.nE v "wayzgoose/bold.price").run Tryz.prog w = .ok (F.M7, v) w := by kernel_rfl
theorem iq6 {cx : Cx} {Q : Exit → Act → World → Prop} {fr : Fr} {hp : Hp} {L : List Fact} {ops : Array Oper} {rest : List Oper} {d : Tmp} {ty : TypeId} {pos : String} {af : Array Edge} {ats : Array TypeId}
    {x : Operand} {g : Nat} {a : Ad} {c : Ch} (hd : Nat.blt d cx.n = true) (hP : cx.P = Tryz.prog) (hx : ev fr x = some (adI g a)) (hc : ChOK c) (hl : 1 ≤ a.2.2 ∧ a.2.2 ≤ 6) (hL : tarL g c ∈ L)
    (k : HL cx ops Q rest ((d, int (priceN c a)) :: fr) hp L) : HL cx ops Q (⟨some d, .call ⟨.invoke x "wayzgoose/bold.price", #[], ats⟩, ty, pos, af, none⟩ :: rest) fr hp L := by
  unfold adI at hx; unfold priceN at k
  split at hx
  · rename_i e
    rw [if_pos e] at k; have hm := jH g c; rw [← hP] at hm; exact bE (f := F.L8) (hpR := hp) (by rw [hP]; exact F.nP) hd hx (by rw [hP]; exact lx6 _) hm l5 ⟨hL, trivial⟩ fun _ _ => k
  rename_i e
  rw [if_neg e] at k
  split at hx
  · rename_i e2
    rw [if_pos e2] at k; have hm := kP g c a.2.2 hc hl; rw [← hP] at hm; exact bE (f := F.M8) (hpR := hp) (by rw [hP]; exact F.qY) hd hx (by rw [hP]; exact mt_bold _) hm l5 ⟨hL, trivial⟩ fun _ _ => k
  rename_i e2
  rw [if_neg e2] at k; have hm := kO g c a.2.2 hc hl; rw [← hP] at hm; exact bE (f := F.M7) (hpR := hp) (by rw [hP]; exact F.qX) hd hx (by rw [hP]; exact mt_card _) hm l5 ⟨hL, trivial⟩ fun _ _ => k
theorem nQ (c : Ch) (ps : Sl Int) (qs : Sl Ad) (h : SaOK c ps.l qs.l) : Meets Tryz.prog F.dV [saV c ps qs] { LI := saL ps qs, inv := fun _ : Nat × Nat => True, val := fun x => .slice (some ⟨x.1, 0, none⟩) ps.l.length ps.l.length, LO := fun x => [Blk x.2 (.cells (saC c ps qs) T.m8 (0, 0)), Row (some ⟨x.1, 0, none⟩) (rows (accs c ps.l qs.l x.2))] } := by
 have hx8 := h.x8; have hn5 := h.n5; have hn1 := h.n1; have hd10 := bj3 c ps.l qs.l 10; refine j8 F.wB rfl t4 fun w0 => ?_; refine j3 ?_; refine C4 rfl rfl fun gB => ?_; refine b9 rfl (k9 ?_)
 first | refine a7 ⟨_, 6, none⟩ rfl rfl T.t9 rfl ?_ | refine a7 _ rfl rfl T.t9 rfl ?_
 first | refine a8 rfl T.d5 rfl (j0 mB rfl) ?_ | refine a8 rfl T.d5 rfl (i8 mB rfl) ?_ | refine a8 rfl T.d5 rfl (d8 mB (d4 (by omega) rfl)) ?_ | refine a8 rfl T.d5 rfl (d7 mB (rows_get (by omega) rfl)) ?_ | refine a8 rfl T.d5 rfl (g4 mB rfl) ?_
 refine l9 rfl T.q9 rfl ?_; refine iq7 (α := Ac2) (n := ps.l.length) (bytes := 16) (z := .agg #[.int .i64 0, .nilFunc]) ((0, none) : Ac2) rfl Tryz.underlying118 (by kernel_rfl) rfl rfl rfl rfl (by omega) (by omega) fun go => ?_; rw [nq3 c ps.l qs.l gB]; refine b9 rfl (k9 ?_)
 first | refine u1 rfl T.j5 T.j4 rfl mB (by rfl) ?_ | refine t7 rfl T.j5 T.j4 rfl mB (by rfl) ?_ | refine r8 rfl T.j5 T.j4 rfl rfl (m9 mB (q8 (by omega))) ?_
 refine i9 F.cX rfl rfl (Z4 c ps qs h) l5 mC fun x hx => ?_; obtain ⟨da, dc⟩ := x
 simp only
 refine b9 rfl (d9 (j6 (j3 ?_)))
 first | refine a7 ⟨_, 6, none⟩ rfl rfl T.t9 rfl ?_ | refine a7 _ rfl rfl T.t9 rfl ?_
 first | refine a8 rfl T.d5 rfl (j0 mB rfl) ?_ | refine a8 rfl T.d5 rfl (i8 mB rfl) ?_ | refine a8 rfl T.d5 rfl (d8 mB (d4 (by omega) rfl)) ?_ | refine a8 rfl T.d5 rfl (d7 mB (rows_get (by omega) rfl)) ?_ | refine a8 rfl T.d5 rfl (g4 mB rfl) ?_
 refine l9 rfl T.q9 rfl ?_; refine b8 rfl (d9 (l4 ?_)); refine v8 (β := Nat) ⟨fun k => k ≤ ps.l.length, fun k => [(1, .pointer (b4 gB)), (3, .slice (b4 go) ps.l.length ps.l.length), (4, .slice da (discK c ps.l qs.l 10).length dc), (17, .slice ps.a ps.l.length ps.c), (18, int ps.l.length), (19, int k)], fun k => [(go, Obj.cells (rows ((List.range ps.l.length).map (acA c ps.l qs.l gB k))).toArray T.I0 (0, 0)), (gB, Obj.cells (saC c ps qs) T.m8 (0, 0))], fun _ => Row da (rows (discK c ps.l qs.l 10)) :: saL ps qs⟩ (fun k => ps.l.length - k) 0 (Nat.zero_le _) mC (.refl _) mC fun k hk => ?_; simp only at hk; refine j3 (A7 rfl rfl rfl (d9 (j6 ?_)))
 first | refine m7 rfl (fun hb1 => ?_) (fun hb1 => ?_) | refine k4 rfl (fun hb1 => ?_) (fun hb1 => ?_)
 ·have hb1' := hb1; try simp at hb1'
  have hk2 : k < ps.l.length := by omega
  refine k7 (j9 (j6 (l4 (j3 (b8 rfl ?_))))); refine w3 (α := Int) _ _ rfl T.q9 T.v0 rfl rfl rfl mB rfl (by omega) (by decide) (a8 rfl T.a9 rfl (d8 mB (d4 (by omega) rfl)) ?_); refine b9 rfl (b9 rfl (k9 (b8 rfl (b8 rfl ?_)))); refine w7 k (k * 2) rfl T.K7 T.u5 rfl rfl rfl hk2 (by omega) (a7 ⟨go, k * 2 + 1, none⟩ rfl rfl T.V4 (Y1 ..) ?_); refine lM (α := Ac2) (k := k) (f := 1) ((0, some none) : Ac2) rfl rfl rfl (.refl _) T.jN (by rw [mQ]; exact hk2) (by decide) (by rw [W4 _ hk2, acA_at]; rfl) rfl ?_; rw [tR _ _ hk2]; refine k9 (b8 rfl (b8 rfl ?_)); refine i9 F.gN rfl rfl (bO (discK c ps.l qs.l 10) (ps.l.getD k default) (by omega)) l5 mC fun _ _ => ?_; refine d9 ?_
  first | refine m7 rfl (fun hb2 => ?_) (fun hb2 => ?_) | refine k4 rfl (fun hb2 => ?_) (fun hb2 => ?_)
  ·have hb2' := hb2; try simp at hb2'
   have hof := (gj7 h hk2).1 hb2; refine k8 (b8 rfl (b8 rfl (bS rfl rfl rfl ?_))); refine w7 k (k * 2) rfl T.K7 T.u5 rfl rfl rfl hk2 (by omega) (a7 ⟨go, k * 2 + 1, none⟩ rfl rfl T.V4 (Y1 ..) ?_); refine lM (α := Ac2) (k := k) (f := 1) ((0, some (some gB)) : Ac2) rfl rfl rfl (.refl _) T.jN (by rw [mQ]; exact hk2) (by decide) (by rw [W4 _ hk2, if_pos rfl]; rfl) rfl ?_; rw [tR _ _ hk2, acA_yes hof]; refine d6 (z2 (j9 (k8 ?_))); refine y2 _ rfl rfl rfl rfl s9 ?_; refine b8 rfl (d6 ?_); exact again _ (k + 1) (by show k + 1 ≤ ps.l.length; omega) (A5 (by omega)) mC (.refl _) mC
  have hb2' := hb2; try simp at hb2'
  have hof := mt (gj7 h hk2).2 hb2; rw [acA_no hof]; refine k7 (z2 (j9 (k8 ?_))); refine y2 _ rfl rfl rfl rfl s9 ?_; refine b8 rfl (d6 ?_); exact again _ (k + 1) (by show k + 1 ≤ ps.l.length; omega) (A5 (by omega)) mC (.refl _) mC
 have hb1' := hb1; try simp at hb1'
 obtain rfl : k = ps.l.length := by omega
 refine mZ (hp' := [(go, Obj.cells (rows ((List.range ps.l.length).map (acS c ps.l qs.l gB 0))).toArray T.I0 (0, 0)), (gB, Obj.cells (saC c ps qs) T.m8 (0, 0))]) (by show List.Perm [(go, Obj.cells (rows ((List.range ps.l.length).map (acA c ps.l qs.l gB ps.l.length))).toArray T.I0 (0, 0)), (gB, Obj.cells (saC c ps qs) T.m8 (0, 0))] _; rw [nq4]) ?_; refine v5 (C3 (u9 (j9 (j3 ?_))))
 first | refine a7 ⟨_, 0, none⟩ rfl rfl T.A9 rfl ?_ | refine a7 _ rfl rfl T.A9 rfl ?_
 refine r8 (cs := [int c.1, int c.2.1, int c.2.2.1, int c.2.2.2.1, int c.2.2.2.2.1, int c.2.2.2.2.2]) rfl T.G0 T.D3 rfl rfl (bG (o := 0) mB (hY rfl)) ?_; refine i9 F.qV rfl rfl (dU c) l5 trivial fun tg _ => ?_; refine b9 rfl (d9 (j6 (j3 ?_)))
 first | refine a7 ⟨_, 7, none⟩ rfl rfl T.p9 rfl ?_ | refine a7 _ rfl rfl T.p9 rfl ?_
 first | refine a8 rfl T.i7 rfl (j0 mB rfl) ?_ | refine a8 rfl T.i7 rfl (i8 mB rfl) ?_ | refine a8 rfl T.i7 rfl (d8 mB (d4 (by omega) rfl)) ?_ | refine a8 rfl T.i7 rfl (d7 mB (rows_get (by omega) rfl)) ?_ | refine a8 rfl T.i7 rfl (g4 mB rfl) ?_
 refine l9 rfl T.v9 rfl ?_; refine b8 rfl (d9 (l4 ?_)); refine v8 (β := Nat) ⟨fun k => k ≤ qs.l.length, fun k => [(1, .pointer (b4 gB)), (3, .slice (b4 go) ps.l.length ps.l.length), (4, .slice da (discK c ps.l qs.l 10).length dc), (7, .pointer (b4 tg)), (41, .slice qs.a qs.l.length qs.c), (42, int qs.l.length), (43, int k)], fun k => [(go, Obj.cells (rows ((List.range ps.l.length).map (acS c ps.l qs.l gB k))).toArray T.I0 (0, 0)), (gB, Obj.cells (saC c ps qs) T.m8 (0, 0))], fun _ => tarL tg c :: saL ps qs⟩ (fun k => qs.l.length - k) 0 (Nat.zero_le _) mC (.refl _) mC fun k hk => ?_; simp only at hk; refine j3 (A7 rfl rfl rfl (d9 (j6 ?_)))
 first | refine m7 rfl (fun hb3 => ?_) (fun hb3 => ?_) | refine k4 rfl (fun hb3 => ?_) (fun hb3 => ?_)
 ·have hb3' := hb3; try simp at hb3'
  have hk3 : k < qs.l.length := by omega
  have hxk := h.ad _ (u0 hk3); obtain ⟨m, hxm⟩ := Int.eq_ofNat_of_zero_le hxk.1.1; have hm2 : m < ps.l.length := by omega
  have hsb := wP h m k (by omega); have hpb := dq7 h.ch hxk.2.2; refine k7 (j9 (j6 (l4 (j3 ?_)))); refine w3 (α := Ad) _ _ rfl T.v9 T.j7 rfl rfl rfl mB rfl (by omega) (by decide) (r8 rfl T.l3 T.j7 rfl rfl (m9 mB (q8 (by omega))) ?_); refine z1 rfl (fun _ => T.I2 _) fun gA => ?_; refine u3 rfl rfl (by first | exact .refl _ | exact perm2 _ _ _ | exact perm3 _ _ _ _ | exact perm4 _ _ _ _ _) T.j7 (by rfl) (by rfl) ?_; refine d9 ?_; refine G8 10 mixed (by decide) (by decide) rfl rfl (s7 (fun w1 => b8 rfl (q_z rfl)) ?_)
  apply n0 _ rfl rfl rfl
  ·intro w1
   first | refine a7 ⟨_, 0, none⟩ rfl rfl T.C8 rfl ?_ | refine a7 _ rfl rfl T.C8 rfl ?_
   refine d6 ?_; exact k6 rfl
  apply n0 _ rfl rfl rfl
  ·intro w1
   first | refine a8 rfl T.a9 rfl (i8 mB rfl) ?_ | refine a8 rfl T.a9 rfl (j0 mB rfl) ?_ | refine a8 rfl T.a9 rfl (d8 mB (d4 (by omega) rfl)) ?_ | refine a8 rfl T.a9 rfl (d7 mB (rows_get (by omega) rfl)) ?_ | refine a8 rfl T.a9 rfl (g4 mB rfl) ?_
   refine d6 ?_; exact k6 rfl
  refine s7 (fun w1 => w7 m (m * 2) rfl T.K7 T.u5 rfl rfl hxm hm2 (by omega) (q_z rfl)) (s7 (fun w1 => a7 ⟨go, m * 2, none⟩ rfl rfl T.H2 rfl (q_z rfl)) ?_); refine s7 (fun w1 => a8 (v := int (sumK c qs.l k m)) rfl T.a9 rfl (uD (α := Ac2) (k := m) (f := 0) (l := (List.range ps.l.length).map (acS c ps.l qs.l gB k)) (t := T.I0) (fz := (0, 0)) (by repeat constructor) rfl (by rw [mQ]; exact hm2) (by rw [W4 _ hm2]; rfl)) (q_z rfl)) ?_; refine s7 (fun w1 => b8 rfl (q_z rfl)) ?_
  apply n0 _ rfl rfl rfl
  ·intro w1
   first | refine u1 rfl T.l3 T.j7 rfl mB (by rfl) ?_ | refine t7 rfl T.l3 T.j7 rfl mB (by rfl) ?_ | refine r8 rfl T.l3 T.j7 rfl rfl (m9 mB (q8 (by omega))) ?_
   refine d6 ?_; exact k6 rfl
  refine s7 (fun w1 => i9 F.N5 rfl rfl (K6 tg (qs.l.getD k default)) l5 trivial fun _ _ => (q_z rfl)) ?_; refine s7 (fun w1 => iq6 (c := c) rfl rfl rfl h.ch hxk.2.2 mB (q_z rfl)) ?_; refine D4 ⟨rfl, ?_⟩; refine y2 _ rfl rfl rfl rfl s9 (w7 m (m * 2) rfl T.K7 T.u5 rfl rfl hxm hm2 (by omega) (a7 ⟨go, m * 2, none⟩ rfl rfl T.H2 rfl ?_)); refine lM (α := Ac2) (k := m) (f := 0) ((sumK c qs.l k m + priceN c (qs.l.getD k default), some (ruleN c ps.l qs.l gB m)) : Ac2) rfl rfl rfl (.swap _ _ _) T.v0 (by rw [mQ]; exact hm2) (by decide) (by rw [W4 _ hm2]; rfl) rfl ?_; rw [tR _ _ hm2, nq1 c ps.l gB hk3 hxm]; refine d6 (z2 (j9 (k8 ?_))); refine y2 _ rfl rfl rfl rfl s9 ?_; refine b8 rfl (d6 ?_); exact again _ (k + 1) (by show k + 1 ≤ qs.l.length; omega) (A5 (by omega)) mC (.cons_cons _ (.cons _ (.refl _))) mC
 have hb3' := hb3; try simp at hb3'
 obtain rfl : k = qs.l.length := by omega
 refine v5 (C3 (u9 (j9 (j3 (b8 rfl (b9 rfl (d9 (l7 ?_)))))))); refine mX (hp' := [(go, Obj.cells (rows (accs c ps.l qs.l gB)).toArray T.I0 (0, 0)), (gB, Obj.cells (saC c ps qs) T.m8 (0, 0))]) (by show List.Perm [(go, Obj.cells (rows ((List.range ps.l.length).map (acS c ps.l qs.l gB qs.l.length))).toArray T.I0 (0, 0)), (gB, Obj.cells (saC c ps qs) T.m8 (0, 0))] _; rw [kx6]) ?_; refine G9 (rows (accs c ps.l qs.l gB)) (List.prefix_refl _) ?_; refine jx9 ?_; exact ret1 (go, gB) rfl rfl rfl trivial nil_sb mC
end Go.Proofs.YtmpfpfbcejfijaaGreatDoor
end
section
namespace Go.Proofs.YtmpfpfbcejfijaaGreatDoor
open Go Go.W
set_option maxRecDepth 20000
attribute [local irreducible] HL HC HQ HB Row Rows2 Blk Facts
open Go.Conc
def sumN (c : Ch) (xs : List Ad) (i : Nat) : Int := sumK c xs xs.length i
def bilN (c : Ch) (ss : List Int) (xs : List Ad) (i : Nat) : Int := if offB c ss xs (ss.getD i default) = true then offN c.2.2.2.2.1 (sumN c xs i) else sumN c xs i
def numsN (how : Nat) (c : Ch) (ss : List Int) (xs : List Ad) : List Int := (List.range ss.length).map fun i => if how = 31 then bilN c ss xs i else sumN c xs i - bilN c ss xs i
theorem gx0 (c : Ch) (ss : List Int) (xs : List Ad) (g : Nat) : (accs c ss xs g).length = ss.length := by simp [accs]
theorem nq2 (how : Nat) (c : Ch) (ss : List Int) (xs : List Ad) (g : Nat) : acOut how c.2.2.2.2.1 (accs c ss xs g) = numsN how c ss xs := by
  unfold acOut numsN; rw [gx0]; refine List.map_congr_left fun i hi => ?_; rw [List.mem_range] at hi; unfold acN accs numN billN bilN sumN; rw [W4 _ hi]
  by_cases e : offB c ss xs (ss.getD i default) = true
  · simp only [ruleN, if_pos e, Option.isSome_some, if_true]
  simp only [ruleN, if_neg e, Option.isSome_none, Bool.false_eq_true, if_false]
theorem mj1 : ∃ i, Tryz.prog.info? 121 = some i ∧ i.bytes = 16 := by
  have h : (Tryz.prog.info? 121).map (·.bytes) = some 16 := by kernel_rfl
  obtain ⟨i, hi, hb⟩ := Option.map_eq_some_iff.1 h; exact ⟨i, hi, hb⟩
theorem jx8 : ∃ i, Tryz.prog.info? 4 = some i ∧ i.bytes = 1 := by
  have h : (Tryz.prog.info? 4).map (·.bytes) = some 1 := by kernel_rfl
  obtain ⟨i, hi, hb⟩ := Option.map_eq_some_iff.1 h; exact ⟨i, hi, hb⟩
abbrev reckCon (how : Nat) (c : Ch) (ps : Sl Int) (qs : Sl Ad) : Con Nat := { LI := saL ps qs, inv := fun _ : Nat => True, val := fun g => .slice (b4 g) ps.l.length ps.l.length, hpO := fun g => [(g, .cells (rows (numsN how c ps.l qs.l)).toArray T.int (0, 0))] }
set_option maxHeartbeats 1000000 in
theorem cW (c : Ch) (ps : Sl Int) (qs : Sl Ad) (how : Nat) (hw : how = 30 ∨ how = 31) (h : SaOK c ps.l qs.l) : Meets Tryz.prog F.mI [saV c ps qs, .func (.func how) #[] #[]] (reckCon how c ps qs) := by
  have hx8 := h.x8; have hn5 := h.n5; have hn1 := h.n1; refine j8 F.zV rfl t4 fun w0 => ?_; refine j3 ?_; refine C4 rfl rfl fun gs => ?_; refine C4 rfl rfl fun g3 => ?_; refine b9 rfl (k9 ?_); refine a7 ⟨gs, 6, none⟩ rfl rfl T.t9 rfl ?_; refine a8 (v := .slice ps.a ps.l.length ps.c) rfl T.d5 rfl (j0 (by repeat constructor) rfl) ?_; refine l9 rfl T.q9 rfl ?_; refine bz6 (n := ps.l.length) (bytes := 8) (z := int 0) rfl T.q9 (by kernel_rfl) rfl rfl rfl rfl (by omega) (by omega) fun go => ?_; refine z1 rfl (fun _ => T.al_ints _) fun g5 => ?_; refine D7 rfl rfl (.refl _) T.ij7 (by rfl) (by rfl) ?_; refine k9 ?_; obtain ⟨i1, hi1, hby1⟩ := mj1; refine pU (n := 0) rfl Tryz.underlying116 hi1 rfl (by omega) (by rw [hby1]; omega) fun gF => ?_; refine z1 rfl (fun _ => T.kQ _) fun g6 => ?_; refine D7 rfl rfl (.refl _) T.kH (by rfl) (by rfl) ?_; refine k9 ?_; refine a8 (v := .slice (b4 go) ps.l.length ps.l.length) rfl T.d5 rfl (j0 (by repeat constructor) rfl) ?_; refine l9 rfl T.q9 rfl ?_; obtain ⟨i2, hi2, hby2⟩ := jx8; refine pU (n := ps.l.length) rfl Tryz.underlying117 hi2 rfl (by omega) (by rw [hby2]; omega) fun gL => ?_; refine z1 rfl (fun _ => T.cz2 _) fun g7 => ?_; refine D7 rfl rfl (.refl _) T.bx3 (by rfl) (by rfl) ?_; refine d9 ?_; refine mZ (hp' := [(g7, Obj.cells #[.chan (some gL)] 117 (0, 0)), (gL, chanO ps.l.length [] 0 0), (g6, .cells #[.chan (some gF)] 116 (0, 0)), (gF, chanO 0 [] 0 0), (g5, .cells #[.slice (b4 go) ps.l.length ps.l.length] 24 (0, 0)), (go, .cells (List.replicate ps.l.length (int 0)).toArray 3 (0, 0)), (g3, .cells #[.func (.func how) #[] #[]] 76 (0, 0)), (gs, .cells (saC c ps qs) 27 (0, 0))]) (.refl _) ?_; refine mj5 (fr' := fr0 gs g3 g5 g6 g7) (by repeat constructor) (.refl _) (by repeat constructor : LSub _ (saL ps qs)) ?_; refine hc_co fun a w ha hw1 b k cs Goal hk hc => ?_; refine E5 rfl (fun _ => stepG_seq) (E5 rfl (fun _ => stepG_seq) ?_)
  let Q4 : Exit → Act → World → Prop := fun e a w => e = .normal ∧ ∃ x : Nat × Nat, Ok ⟨Tryz.prog, Tryz.f29.ntmps, (reckCon how c ps qs).entry w0, [], none⟩ a ((22, int 0) :: (20, .slice (some ⟨x.1, 0, none⟩) ps.l.length ps.l.length) :: (21, int ps.l.length) :: fr0 gs g3 g5 g6 g7) ∧
    WI ((reckCon how c ps qs).entry w0) w [(g7, Obj.cells #[.chan (some gL)] 117 (0, 0)), (gL, chanO ps.l.length [] 0 0), (g6, .cells #[.chan (some gF)] 116 (0, 0)), (gF, chanO 0 [] 0 0), (g5, .cells #[.slice (b4 go) ps.l.length ps.l.length] 24 (0, 0)), (go, .cells (List.replicate ps.l.length (int 0)).toArray 3 (0, 0)), (g3, .cells #[.func (.func how) #[] #[]] 76 (0, 0)), (gs, .cells (saC c ps qs) 27 (0, 0))] (Blk x.2 (.cells (saC c ps qs) T.m8 (0, 0)) :: Row (some ⟨x.1, 0, none⟩) (rows (accs c ps.l qs.l x.2)) :: saL ps qs)
  refine co_hc (Q := Q4) (fr := fr0 gs g3 g5 g6 g7) ?_ ha hw1 hk fun e a' w' hq => ?_
  · refine k8 ?_
    refine u1 rfl T.j5 T.j4 rfl (by repeat constructor) (by rfl) ?_; refine i9 F.uJ rfl rfl (nQ c ps qs h) l5 ⟨(by repeat constructor), (by repeat constructor), trivial⟩ fun x _ => ?_; refine l9 rfl T.K7 rfl ?_; refine b8 rfl (d6 ?_); exact hq_of fun a w ha hw => ⟨rfl, x, ha.sub (by repeat constructor), hw⟩
  obtain ⟨rfl, ⟨gA, gB⟩, hok, hwi⟩ := hq; have nd := hwi.nd; simp only [List.map_cons, List.map_nil, List.nodup_cons, List.mem_cons, List.not_mem_nil, or_false, not_or] at nd; obtain ⟨⟨n71, n72, n73, n74, n75, n76, n77⟩, ⟨nL2, nL3, nL4, nL5, nL6, nL7⟩, ⟨n63, n64, n65, n66, n67⟩, ⟨nF4, nF5, nF6, nF7⟩, ⟨n55, n56, n57⟩, ⟨no6, no7⟩, n37, _⟩ := nd; have o7 := hwi.own (g7, .cells #[.chan (some gL)] 117 (0, 0)) (by simp); have oL := hwi.own (gL, chanO ps.l.length [] 0 0) (by simp); have o6 := hwi.own (g6, .cells #[.chan (some gF)] 116 (0, 0)) (by simp); have oF := hwi.own (gF, chanO 0 [] 0 0) (by simp); have o5 := hwi.own (g5, .cells #[.slice (b4 go) ps.l.length ps.l.length] 24 (0, 0)) (by simp); have oo := hwi.own (go, .cells (List.replicate ps.l.length (int 0)).toArray 3 (0, 0)) (by simp); have o3 := hwi.own (g3, .cells #[.func (.func how) #[] #[]] 76 (0, 0)) (by simp); have fB := blk_P (hwi.fs (Blk gB (.cells (saC c ps qs) T.m8 (0, 0))) (by simp)); have fA := hwi.fs (Row (b4 gA) (rows (accs c ps.l qs.l gB))) (by simp); have hal := gx0 c ps.l qs.l gB
  have hne : rows (accs c ps.l qs.l gB) ≠ [] := fun e => by
    have := Q9 (accs c ps.l qs.l gB); rw [e, hal] at this; have h2 : El.sz Ac = 2 := rfl; rw [h2] at this
    simp at this
    omega
  have aB := blk_ne (g := gB) (o := .cells (saC c ps qs) T.m8 (0, 0)) hwi (by simp); have aA := row_ne (ad := ⟨gA, 0, none⟩) (us := rows (accs c ps.l qs.l gB)) hwi (by simp) hne
  have hM : Main0 w' gF gL go how g3 g5 g6 g7 ⟨gA, 0, none⟩ c.2.2.2.2.1 (accs c ps.l qs.l gB) :=
    ⟨⟨o3, ⟨fun e => nF6 e.symm, fun e => nL6 e.symm, fun e => no6 e.symm⟩, o6, ⟨n63, fun e => nL2 e.symm, n65⟩, o7, ⟨n73, n71, n75⟩⟩, hw, (by rw [hal]; exact o5), ⟨fun e => nF4 e.symm, fun e => nL4 e.symm, n55⟩, fA,
      ⟨fun e => aA (gF, chanO 0 [] 0 0) (by simp) e.symm, fun e => aA (gL, chanO ps.l.length [] 0 0) (by simp) e.symm, fun e => aA (go, .cells (List.replicate ps.l.length (int 0)).toArray 3 (0, 0)) (by simp) e.symm⟩,
      (by rw [hal]; omega), (by have := h.ch.2.2.2.2.1; omega), (fun x hx => by
        obtain ⟨i, hi, rfl⟩ := List.mem_map.1 hx; have hs := wP h i qs.l.length (Nat.le_refl _); refine ⟨by simp only; omega, ?_⟩; simp only [ruleN]
        split
        · exact ⟨fun e => aB (gF, chanO 0 [] 0 0) (by simp) e.symm, fun e => aB (gL, chanO ps.l.length [] 0 0) (by simp) e.symm, fun e => aB (go, .cells (List.replicate ps.l.length (int 0)).toArray 3 (0, 0)) (by simp) e.symm, _, _, _, fB, rfl⟩
        trivial)⟩
  refine phase (p := ph w' gF gL go (accs c ps.l qs.l gB).length (acV how c.2.2.2.2.1 (accs c ps.l qs.l gB))) (B := 2000) (hp := [(go, .cells (List.replicate ps.l.length (int 0)).toArray 3 (0, 0))]) ⟨fun e => nL3 e.symm, C0 oF, C0 oL, nF5, nL5⟩ oF (by show w'.heap[gL]? = some (.chan (accs c ps.l qs.l gB).length #[] false 0 0 false); rw [hal]; exact oL) ?_ (fun q hq => by simp at hq; subst hq; exact oo) (fun q hq => by simp at hq; subst hq; rfl); have hk' : b.kind ≠ .early := by rw [hk]; exact fun h => by cases h
  have hrl : (List.range (accs c ps.l qs.l gB).length).length = (accs c ps.l qs.l gB).length := List.length_range; refine folM_of (c := ⟨Tryz.prog, Tryz.f29.ntmps, (reckCon how c ps qs).entry w0, [], none⟩) (fr := (22, int 0) :: (20, .slice (b4 gA) ps.l.length ps.l.length) :: (21, int ps.l.length) :: fr0 gs g3 g5 g6 g7) ?_ hok; refine gE (bx2 ?_); refine R4 (m := (40 * (accs c ps.l qs.l gB).length + 20 + 40) + 10 + 40 * (accs c ps.l qs.l gB).length) (by omega) ?_; refine t6 (by rw [← hal]; repeat constructor) (spawns (b2 := gs) (cap := ps.l.length) rfl rfl hk hM _ ?_ (accs c ps.l qs.l gB).length 0 (by omega)); refine E2 (z9 ?_); refine uS rfl rfl hk' rfl rfl ?_; refine at_go (f := 55) (cap := [ptrB g5, ptrB g7, ptrB g6]) (h1 := []) (h2 := [(go, .cells (List.replicate ps.l.length (int 0)).toArray 3 (0, 0))]) rfl hk' rfl (by simp) (fun q hq => hq) (by rintro k ⟨q, hq, _⟩; cases hq) (by simp) (.inr ⟨rfl, fol_c (by omega) hM.hB hM.h5 hM.n5, ?_⟩); refine H8 (E2 (E2 (z9 ?_))); refine w9 (v := .chan (some gF)) rfl rfl hk' T.t3 rfl (B6 hM.hB.h6 hM.hB.n6.1 hM.hB.n6.2.1 hM.hB.n6.2.2 rfl) ?_; refine H8 (gE (bx2 ?_)); refine R4 (m := 40 * (accs c ps.l qs.l gB).length + 20) (by omega) ?_; refine t6 (by repeat constructor) (gets (b2 := gs) rfl rfl rfl hk hM (fun w he ho a ha => ?_) (accs c ps.l qs.l gB).length (List.range (accs c ps.l qs.l gB).length) _ hrl List.nodup_range (fun j hj => List.mem_range.1 hj) (by simp [hal]) (fun j hj hn => absurd (List.mem_range.2 hj) hn)); rw [nq2] at ho; refine co_hc (fr := fr0 gs g3 g5 g6 g7) ?_ ha (kz3 (p := ph w' gF gL go (accs c ps.l qs.l gB).length (acV how c.2.2.2.2.1 (accs c ps.l qs.l gB))) hwi (f := chanO 0 [] 0 0) (l := chanO ps.l.length [] 0 0) (o := .cells (List.replicate ps.l.length (int 0)).toArray 3 (0, 0)) (rest := [(g7, Obj.cells #[.chan (some gL)] 117 (0, 0)), (g6, .cells #[.chan (some gF)] 116 (0, 0)), (g5, .cells #[.slice (b4 go) ps.l.length ps.l.length] 24 (0, 0)), (g3, .cells #[.func (.func how) #[] #[]] 76 (0, 0)), (gs, .cells (saC c ps qs) 27 (0, 0))]) (U7 fun q => by simp only [List.countP_cons, List.countP_nil]; omega) he ho) hk hc; refine j3 ?_; refine a8 (v := .slice (b4 go) ps.l.length ps.l.length) rfl T.d5 rfl (j0 (by repeat constructor) rfl) ?_; refine b9 rfl (d9 (l7 ?_)); exact ret1 go rfl rfl rfl trivial (.cons_cons _ nil_sb) trivial
end Go.Proofs.YtmpfpfbcejfijaaGreatDoor
end
