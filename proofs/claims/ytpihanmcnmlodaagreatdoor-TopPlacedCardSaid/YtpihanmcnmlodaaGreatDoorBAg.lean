/- Texts. -/

import Derived.Test.YtpihanmcnmlodaaGreatDoorBAf
import Derived.Test.YtpihanmcnmlodaaGreatDoorBAe
set_option linter.unusedVariables false
set_option linter.unusedSimpArgs false
section
namespace Go.Proofs.YtpihanmcnmlodaaGreatDoor
open Go Go.W Tryz T F
set_option maxRecDepth 20000
attribute [local irreducible] HL HC HQ HB Row Rows2 Blk Facts
instance : El Nat where
  default := 0
  cells m := [u8 m]
  sz := 1
  len _ := rfl
  one a u h := by simp at h; subst h; rfl
inductive Kd where
  | art (c : Int) (al : Sl Int)
  | ptr (s : Int)
  | idx (al : Sl Int)
def Kd.v : Kd → Value
  | .art c al => .iface E5 (.agg #[int c, .slice al.a al.l.length al.c])
  | .ptr s => .iface E4 (.agg #[int s])
  | .idx al => .iface nS (.agg #[.slice al.a al.l.length al.c])
instance : El Kd where
  default := .ptr 0
  cells m := [m.v]
  sz := 1
  len _ := rfl
  one a u h := by simp at h; subst h; cases a <;> rfl
def kindOf (h : Hd) : Kd := if ¬ h.2.2.1 = -1 then .ptr h.2.2.1 else if ¬ h.2.1 = -1 then .art h.2.1 h.2.2.2 else .idx h.2.2.2
def kindsN (hs : List Hd) (k : Nat) : List Kd := (hs.take k).map kindOf
theorem I4 {hs : List Hd} {k : Nat} (h : k ≤ hs.length) : (kindsN hs k).length = k := by simp [kindsN, h]
theorem rS {hs : List Hd} {k : Nat} (h : k < hs.length) : kindsN hs (k + 1) = kindsN hs k ++ [kindOf (hs.getD k default)] := by
  unfold kindsN; rw [A6 hs k h, List.map_append]
  rfl
def maskOf (l : List Int) : Nat := l.foldl (fun m x => m ||| 2 ^ x.toNat) 0
theorem jq6 (l : List Int) (x : Int) : maskOf (l ++ [x]) = maskOf l ||| 2 ^ x.toNat := by unfold maskOf; rw [List.foldl_append]; rfl
theorem dx9 : ∀ (l : List Int) (m : Nat), m < 256 → (∀ x ∈ l, x.toNat < 8) → l.foldl (fun m x => m ||| 2 ^ x.toNat) m < 256
  | [], m, hm, _ => hm
  | x :: l, m, hm, h => by
    rw [List.foldl_cons]; refine dx9 l _ (Nat.or_lt_two_pow (n := 8) hm ?_) (fun y hy => h y (List.mem_cons_of_mem _ hy)); exact Nat.pow_lt_pow_right (by omega) (h x (List.mem_cons_self ..))
theorem mask_lt {l : List Int} (h : ∀ x ∈ l, x.toNat < 8) : maskOf l < 256 := dx9 l 0 (by decide) h
theorem zR : ∀ (l : List Int) (m j : Nat), (l.foldl (fun m x => m ||| 2 ^ x.toNat) m).testBit j = (m.testBit j || l.any fun x => x.toNat = j)
  | [], m, j => by simp
  | x :: l, m, j => by
    rw [List.foldl_cons, zR l, Nat.testBit_or, Nat.testBit_two_pow, List.any_cons, Bool.or_assoc]
theorem jq5 {l : List Int} (h : ∀ x ∈ l, 0 ≤ x) (j : Nat) : (maskOf l).testBit j = decide ((j : Int) ∈ l) := by
  unfold maskOf; rw [zR, Nat.zero_testBit, Bool.false_or, Bool.eq_iff_iff, List.any_eq_true, decide_eq_true_eq]
  constructor
  · rintro ⟨x, hx, e⟩
    rw [decide_eq_true_eq] at e; have := h x hx
    rwa [show (j : Int) = x by omega]
  intro hj; exact ⟨_, hj, by simp⟩
def masksN (cs : List Cl) (k : Nat) : List Nat := (List.range k).map fun i : Nat => maskOf (pathT cs (i : Int))
theorem jL (cs : List Cl) (k : Nat) : (masksN cs k).length = k := by simp [masksN]
theorem hq4 (cs : List Cl) (k : Nat) : masksN cs (k + 1) = masksN cs k ++ [maskOf (pathT cs (k : Int))] := by unfold masksN; rw [List.range_succ, List.map_append]; rfl
theorem bj3 {cs : List Cl} {k i : Nat} (h : i < k) : (masksN cs k).getD i default = maskOf (pathT cs (i : Int)) := by
  rw [q7 (by rw [jL]; exact h)]
  simp [masksN]
theorem hj7 {cs : List Cl} (h6 : cs.length ≤ 6) (hc : ∀ i, i < cs.length → ClsOK cs i) {c : Int} (hl : c < (cs.length : Int)) : ∀ x ∈ pathT cs c, 0 ≤ x ∧ x < 6 := fun x hx => by
  have := (zM cs hc c.toNat c (Nat.le_refl _) hl).2 x hx
  omega
theorem bj5 {cs : List Cl} (h6 : cs.length ≤ 6) (hc : ∀ i, i < cs.length → ClsOK cs i) {c : Int} (hl : c < (cs.length : Int)) : maskOf (pathT cs c) < 256 := mask_lt fun x hx => by have := hj7 h6 hc hl x hx; omega
theorem bj4 {cs : List Cl} (h6 : cs.length ≤ 6) (hc : ∀ i, i < cs.length → ClsOK cs i) {k : Nat} (hk : k < cs.length) : maskOf (pathT cs (k : Int)) = 2 ^ k ||| maskOf (pathT cs (cs.getD k default).2) := by
  rw [vQ cs hc (by omega) (by omega), jq6, Nat.or_comm]
  rfl
theorem lq9 {cs : List Cl} {c : Int} (h : c < 0) : maskOf (pathT cs c) = 0 := by rw [tL cs h]; rfl
theorem pmA {α : Type} (l : List α) (a b : α) : (l ++ [a, b]).Perm (a :: (l ++ [b])) := C6 fun p => by simp only [List.countP_append, List.countP_cons, List.countP_nil]; omega
theorem pmB {α : Type} (l : List α) (a b : α) : (a :: (l ++ [b])).Perm (l ++ [a, b]) := (pmA l a b).symm
theorem pmC {α : Type} (l : List α) (a : α) : (l ++ [a]).Perm (a :: l) := List.perm_append_comm (l₂ := [a])
def beginL (cs : List Cl) (hs : List Hd) (A : Option Addr) (ca : Nat) (B : Option Addr) (cb : Nat) (x : Nat × OutC × OutC) : List Fact := [Row (some ⟨x.1, 0, none⟩) [.slice A cs.length ca, .slice B hs.length cb, .slice x.2.1.1 cs.length x.2.1.2, .slice x.2.2.1 hs.length x.2.2.2], Row x.2.1.1 (rows (masksN cs cs.length)), Row x.2.2.1 (rows (kindsN hs hs.length))]
theorem gW (m i : Nat) (hm : m < 256) (hi : i < 8) : Meets prog M8 [u8 m, int i] { val := fun _ : Unit => u8 (m ||| 2 ^ i) } := by
 refine d3 jS rfl n2 fun w0 => ?_; refine d4 (b6 rfl (j4 (b4 rfl (b4 rfl (kz5 i rfl rfl rfl rfl hi ?_))))); refine kz8 rfl rfl rfl hm (Nat.pow_lt_pow_right (by omega) hi : 2 ^ i < 2 ^ 8) ?_; refine b6 rfl (c3 (j6 ?_)); exact ret1 () rfl rfl rfl tK nK tK
theorem iW (m i : Nat) (hm : m < 256) (hi : i < 8) : Meets prog N8 [u8 m, int i] { val := fun _ : Unit => .bool (m.testBit i) } := by
 refine d3 lG rfl n2 fun w0 => ?_; refine d4 (b6 rfl (j4 (b4 rfl (b4 rfl (kz4 i rfl rfl rfl rfl hi ?_))))); refine lj2 (b := 1) rfl rfl rfl (Nat.lt_of_le_of_lt (Nat.div_le_self _ _) hm) (by decide) ?_; refine I2 rfl rfl rfl (b6 rfl (c3 (j6 ?_))); exact ret1 () rfl (congrArg (fun b => some (Value.bool b)) (by exact cx2 m i)) rfl tK nK tK
set_option maxHeartbeats 1000000 in
theorem V7 {A B : Option Addr} {ca cb : Nat} (cs : List Cl) (hs : List Hd) (hca : cs.length ≤ ca) (hcb : hs.length ≤ cb) (ha : ∀ h ∈ hs, h.2.2.2.l.length ≤ 1000000) : Meets prog dA [.agg #[.slice A cs.length ca, .slice B hs.length cb]] { LI := [Row A (rows cs), RowsF B hs Hd.row], val := fun x : Nat × OutC × OutC => .tuple #[if checkT (trOf cs hs) = 0 then .pointer (some ⟨x.1, 0, none⟩) else .pointer none, int (checkT (trOf cs hs))], LO := fun x => if checkT (trOf cs hs) = 0 then beginL cs hs A ca B cb x else [] } := by
 refine d3 wE rfl n2 fun w0 => d4 (B7 rfl rfl fun gB => ?_); refine b6 rfl (b6 rfl (c3 (d1 (d4 ?_))))
 first | refine J5 rfl i9 j0 rfl mB (by rfl) ?_ | refine w7 rfl i9 j0 rfl mB (by rfl) ?_ | refine y9 rfl i9 j0 rfl rfl (w5 mB (z6 (by omega))) ?_
 refine i5 gO rfl rfl (gK cs hs hca hcb ha) k8 mC fun _ _ => ?_; refine b6 rfl (j4 (b4 rfl (B9 rfl rfl rfl (c3 ?_))))
 first | refine j9 rfl (fun hb1 => ?_) (fun hb1 => ?_) | refine d6 rfl (fun hb1 => ?_) (fun hb1 => ?_)
 ·have hb1' := hb1; try simp at hb1'
  refine d4 (b4 rfl (b6 rfl (b6 rfl (c3 (M2 ?_))))); exact ret2 (0, (none, 0), (none, 0)) rfl rfl rfl (by show Value.tuple #[if checkT (trOf cs hs) = 0 then _ else _, _] = _; rw [if_neg hb1]) rfl tK nK (by show LSub _ (if checkT (trOf cs hs) = 0 then _ else []); rw [if_neg hb1]; trivial)
 have hb1' := hb1; try simp at hb1'
 have hok := gL (Classical.not_not.1 hb1); have h6 : cs.length ≤ 6 := hok.c6; have h6h := hok.h6; rw [y6] at h6h; have hcl : ∀ i, i < cs.length → ClsOK cs i := hok.c; refine i4 (c7 (d4 ?_))
 first | refine J5 rfl i9 j0 rfl mB (by rfl) ?_ | refine w7 rfl i9 j0 rfl mB (by rfl) ?_ | refine y9 rfl i9 j0 rfl rfl (w5 mB (z6 (by omega))) ?_
 refine H6 _ rfl rfl (fun _ => rA ..) (B7 rfl rfl fun gB_1 => ?_); refine b6 rfl (c3 (d1 (d4 ?_)))
 first | refine b2 ⟨_, 0, none⟩ rfl rfl m3 rfl ?_ | refine b2 _ rfl rfl m3 rfl ?_
 first | refine b3 rfl i2 rfl (j3 mB rfl) ?_ | refine b3 rfl i2 rfl (d5 mB rfl) ?_ | refine b3 rfl i2 rfl (i1 mB (c5 (by omega) rfl)) ?_ | refine b3 rfl i2 rfl (i3 mB (rows_get (by omega) rfl)) ?_ | refine b3 rfl i2 rfl (j8 mB rfl) ?_
 refine k5 rfl u1 rfl ?_; refine b4 rfl (c3 (i8 ?_)); refine p6 (β := Nat × OutC × Hp) ⟨fun x => x.1 ≤ cs.length ∧ Grow Y7 1 x.2.1.1 x.1 x.2.1.2 (rows (masksN cs x.1)) x.2.2, fun x => [(1, .pointer (i7 gB)), (5, .pointer (i7 gB_1)), (20, .slice A cs.length ca), (21, int cs.length), (22, int x.1)], fun x => (gB_1, .cells #[.slice A cs.length ca, .slice B hs.length cb, .slice x.2.1.1 x.1 x.2.1.2, .slice none 0 0] gZ (0, 0)) :: (x.2.2 ++ [(gB, .cells #[.slice A cs.length ca, .slice B hs.length cb] m5 (0, 0))]), fun _ => [Row A (rows cs), RowsF B hs Hd.row]⟩ (fun x => cs.length - x.1) (0, (none, 0), []) ⟨Nat.zero_le _, Grow.nil _ _⟩ mC (List.Sublist.refl _) mC fun x hx => ?_; obtain ⟨k, ⟨oa, oc⟩, og⟩ := x; obtain ⟨hk, hG⟩ := hx; simp only at hk hG; refine d4 (u7 rfl rfl rfl (c3 (d1 ?_)))
 first | refine j9 rfl (fun hb2 => ?_) (fun hb2 => ?_) | refine d6 rfl (fun hb2 => ?_) (fun hb2 => ?_)
 ·have hb2' := hb2; try simp at hb2'
  have hk2 : k < cs.length := by omega
  have hck := hcl k hk2; have hlo := hck.lo; have hhi := hck.hi; refine i4 (c7 (d1 (i8 (d4 (b4 rfl ?_))))); refine p8 (α := Cl) cs k rfl u1 C1 rfl rfl rfl mB rfl hk2 (by decide) (y9 rfl Y8 C1 rfl rfl (w5 mB (z6 (by omega))) (B2 rfl (fun _ => mI _) fun gA => b6 rfl (E0 rfl rfl vP C1 (by rfl) (by rfl) ?_))); refine j4 (b4 rfl ?_); refine i5 iD rfl rfl (gW 0 k (by decide) (by omega)) k8 tK fun _ _ => ?_; refine b6 rfl (c3 ?_); refine M6 ⟨fun _ : Unit => True, fun _ => [(1, .pointer (i7 gB)), (5, .pointer (i7 gB_1)), (20, .slice A cs.length ca), (21, int cs.length), (22, int k), (8, u8 (maskOf (pathT cs (k : Int))))], fun _ => (gB_1, .cells #[.slice A cs.length ca, .slice B hs.length cb, .slice oa k oc, .slice none 0 0] gZ (0, 0)) :: (og ++ [(gB, .cells #[.slice A cs.length ca, .slice B hs.length cb] m5 (0, 0))]), fun _ => [Row A (rows cs), RowsF B hs Hd.row]⟩ ?_ ?_
  ·skip
   refine d4 ?_
   first | refine b2 ⟨_, 1, none⟩ rfl rfl B6 rfl ?_ | refine b2 _ rfl rfl B6 rfl ?_
   first | refine b3 rfl b5 rfl (j3 mB rfl) ?_ | refine b3 rfl b5 rfl (d5 mB rfl) ?_ | refine b3 rfl b5 rfl (i1 mB (c5 (by omega) rfl)) ?_ | refine b3 rfl b5 rfl (i3 mB (rows_get (by omega) rfl)) ?_ | refine b3 rfl b5 rfl (j8 mB rfl) ?_
   refine cT rfl rfl rfl (c3 ?_)
   first | refine j9 rfl (fun hb3 => ?_) (fun hb3 => ?_) | refine d6 rfl (fun hb3 => ?_) (fun hb3 => ?_)
   ·have hb3' := hb3; try simp at hb3'
    obtain ⟨gC, cur, e1, e2, hnc, hcm, hcs, hct, _⟩ := hG.open_ (by omega); subst e1; subst e2
    have hcell : cur[0 + (cs.getD k default).2.toNat * 1]? = some (u8 (maskOf (pathT cs (cs.getD k default).2))) := by
      have h1 : (rows (masksN cs k))[(cs.getD k default).2.toNat * 1]? = some (u8 (maskOf (pathT cs (cs.getD k default).2))) := c5 (by rw [jL]; omega) (by rw [bj3 (by omega), Int.toNat_of_nonneg hb3]; rfl); rw [← hct, List.getElem?_take, if_pos (by omega)] at h1; rw [Nat.zero_add, ← Array.getElem?_toList]; exact h1
    refine G9 9 mixed (by decide) (by decide) rfl rfl (p9 rfl (p9 rfl (m6 (fun w1 => l7 rfl rfl (q_z rfl)) ?_)))
    apply k9 _ rfl rfl rfl
    ·intro w1
     first | refine b2 ⟨_, 2, none⟩ rfl rfl A3 rfl ?_ | refine b2 _ rfl rfl A3 rfl ?_
     refine b7 ?_; exact i6 rfl
    apply k9 _ rfl rfl rfl
    ·intro w1
     first | refine b3 rfl m9 rfl (d5 mB rfl) ?_ | refine b3 rfl m9 rfl (j3 mB rfl) ?_ | refine b3 rfl m9 rfl (i1 mB (c5 (by omega) rfl)) ?_ | refine b3 rfl m9 rfl (i3 mB (rows_get (by omega) rfl)) ?_ | refine b3 rfl m9 rfl (j8 mB rfl) ?_
     refine b7 ?_; exact i6 rfl
    apply k9 _ rfl rfl rfl
    ·intro w1
     first | refine b2 ⟨_, 1, none⟩ rfl rfl B6 rfl ?_ | refine b2 _ rfl rfl B6 rfl ?_
     refine b7 ?_; exact i6 rfl
    apply k9 _ rfl rfl rfl
    ·intro w1
     first | refine b3 rfl b5 rfl (d5 mB rfl) ?_ | refine b3 rfl b5 rfl (j3 mB rfl) ?_ | refine b3 rfl b5 rfl (i1 mB (c5 (by omega) rfl)) ?_ | refine b3 rfl b5 rfl (i3 mB (rows_get (by omega) rfl)) ?_ | refine b3 rfl b5 rfl (j8 mB rfl) ?_
     refine b7 ?_; exact i6 rfl
    refine m6 (fun w1 => p7 (cs.getD k default).2.toNat _ rfl aI bM rfl rfl (Int.toNat_of_nonneg hb3).symm (by omega) rfl (q_z rfl)) (m6 (fun w1 => b3 rfl Y3 rfl (d5 mB hcell) (q_z rfl)) ?_); refine y8 ⟨rfl, ?_⟩; refine kz8 rfl rfl rfl (by rw [Nat.zero_or]; exact (Nat.pow_lt_pow_right (by omega) (by omega) : 2 ^ k < 2 ^ 8)) (bj5 h6 hcl (by omega)) ?_; refine b6 rfl (b7 ?_); exact E3 _ () tK ⟨rfl, rfl, rfl, rfl, rfl, congrArg (fun b => some (u8 b)) (by rw [Nat.zero_or]; exact (bj4 h6 hcl hk2).symm), tK⟩ (List.sublist_cons_self _ _) mC
   have hb3' := hb3; try simp at hb3'
   refine i4 ?_; exact E3 _ () tK ⟨rfl, rfl, rfl, rfl, rfl, congrArg (fun b => some (u8 b)) (by rw [bj4 h6 hcl hk2, lq9 (by omega), Nat.or_zero, Nat.zero_or]), tK⟩ (List.sublist_cons_self _ _) mC
  refine fun _ _ => ?_; refine c9 (b4 rfl (b4 rfl (l7 rfl rfl ?_)))
  first | refine b2 ⟨_, 2, none⟩ rfl rfl A3 rfl ?_ | refine b2 _ rfl rfl A3 rfl ?_
  first | refine b3 rfl m9 rfl (j3 mB rfl) ?_ | refine b3 rfl m9 rfl (d5 mB rfl) ?_ | refine b3 rfl m9 rfl (i1 mB (c5 (by omega) rfl)) ?_ | refine b3 rfl m9 rfl (i3 mB (rows_get (by omega) rfl)) ?_ | refine b3 rfl m9 rfl (j8 mB rfl) ?_
  refine b4 rfl (l5 _ rfl rfl (fun _ => jB ..) fun gS => v8 (rows [maskOf (pathT cs (k : Int))]) (List.prefix_refl _) ?_); refine C0 (k + 1) (rows (masksN cs k ++ [maskOf (pathT cs (k : Int))])) mV rfl rfl rfl hG (pmB _ _ _) (Src.row (news := rows [maskOf (pathT cs (k : Int))]) (m := 1) m0 rfl (D0 _) (by decide)) rfl (r8 _ _).symm (by unfold maxLen; omega) (by omega) fun A' c' og' hG' => ?_; refine l7 rfl rfl ?_
  first | refine b2 ⟨_, 2, none⟩ rfl rfl A3 rfl ?_ | refine b2 _ rfl rfl A3 rfl ?_
  refine u9 rfl rfl (pmA _ _ _) mU (by rfl) (by rfl) ?_; refine b7 (q8 (c7 (c9 ?_))); refine r4 _ rfl rfl rfl rfl m7 ?_; refine b4 rfl (b7 ?_); exact again _ (k + 1, (A', c'), og') ⟨by show k + 1 ≤ cs.length; omega, by show Grow _ _ _ _ _ (rows (masksN cs (k + 1))) _; rw [hq4]; exact hG'⟩ (r9 (by omega)) mC (List.Sublist.refl _) mC
 have hb2' := hb2; try simp at hb2'
 have hk2 : k = cs.length := by omega
 subst hk2; refine m4 (v6 (l9 (c7 (cW ?_)))); refine gN (pmB _ _ _) (pE hG ?_); clear hG; refine c9 ?_
 first | refine b2 ⟨_, 1, none⟩ rfl rfl d8 rfl ?_ | refine b2 _ rfl rfl d8 rfl ?_
 first | refine b3 rfl b8 rfl (j3 mB rfl) ?_ | refine b3 rfl b8 rfl (d5 mB rfl) ?_ | refine b3 rfl b8 rfl (i1 mB (c5 (by omega) rfl)) ?_ | refine b3 rfl b8 rfl (i3 mB (rows_get (by omega) rfl)) ?_ | refine b3 rfl b8 rfl (j8 mB rfl) ?_
 refine k5 rfl l4 rfl ?_; refine b4 rfl (c3 (i8 (wB mB ?_))); refine p6 (β := Nat × OutC × Hp) ⟨fun x => x.1 ≤ hs.length ∧ Grow M5 1 x.2.1.1 x.1 x.2.1.2 (rows (kindsN hs x.1)) x.2.2, fun x => [(5, .pointer (i7 gB_1)), (54, .slice B hs.length cb), (55, int hs.length), (56, int x.1)], fun x => (gB_1, .cells #[.slice A cs.length ca, .slice B hs.length cb, .slice oa cs.length oc, .slice x.2.1.1 x.1 x.2.1.2] gZ (0, 0)) :: x.2.2, fun _ => [Row oa (rows (masksN cs cs.length)), Row A (rows cs), RowsF B hs Hd.row, Row B (rows hs)]⟩ (fun x => hs.length - x.1) (0, (none, 0), []) ⟨Nat.zero_le _, Grow.nil _ _⟩ mC (nK.cons_cons _) mC fun x hx => ?_; obtain ⟨k, ⟨ka, kc⟩, og2⟩ := x; obtain ⟨hk, hG⟩ := hx; simp only at hk hG; refine d4 (u7 rfl rfl rfl (c3 (d1 ?_)))
 first | refine j9 rfl (fun hb4 => ?_) (fun hb4 => ?_) | refine d6 rfl (fun hb4 => ?_) (fun hb4 => ?_)
 ·have hb4' := hb4; try simp at hb4'
  have hk2 : k < hs.length := by omega
  refine i4 (c7 (d1 (i8 (d4 ?_)))); refine p8 (α := Hd) hs k rfl l4 m8 rfl rfl rfl mB rfl hk2 (by decide) (y9 rfl A9 m8 rfl rfl (w5 mB (z6 (by omega))) (B2 rfl (fun _ => W1 _) fun gA => E0 rfl rfl vP m8 (by rfl) (by rfl) ?_)); refine c3 (i8 (d1 ?_)); refine tZ (rows [hs.getD k default]) ⟨[], List.append_nil _⟩ (c9 ?_)
  first | refine b2 ⟨_, 2, none⟩ rfl rfl r6 rfl ?_ | refine b2 _ rfl rfl r6 rfl ?_
  first | refine b3 rfl b5 rfl (j3 mB rfl) ?_ | refine b3 rfl b5 rfl (d5 mB rfl) ?_ | refine b3 rfl b5 rfl (i1 mB (c5 (by omega) rfl)) ?_ | refine b3 rfl b5 rfl (i3 mB (rows_get (by omega) rfl)) ?_ | refine b3 rfl b5 rfl (j8 mB rfl) ?_
  refine B9 rfl rfl rfl (b6 rfl (c3 ?_))
  first | refine j9 rfl (fun hb5 => ?_) (fun hb5 => ?_) | refine d6 rfl (fun hb5 => ?_) (fun hb5 => ?_)
  ·have hb5' := hb5; try simp at hb5'
   refine I7 (og2) ([_]) (List.perm_append_comm (l₁ := [_])) 11 [10] mixed (by decide) (by decide) (by decide) rfl rfl rfl (p9 rfl (p9 rfl (m6 (fun w1 => l7 rfl rfl (q_z rfl)) ?_)))
   apply k9 _ rfl rfl rfl
   ·intro w1
    first | refine b2 ⟨_, 3, none⟩ rfl rfl l3 rfl ?_ | refine b2 _ rfl rfl l3 rfl ?_
    refine b7 ?_; exact i6 rfl
   apply k9 _ rfl rfl rfl
   ·intro w1
    first | refine b3 rfl d7 rfl (d5 mB rfl) ?_ | refine b3 rfl d7 rfl (j3 mB rfl) ?_ | refine b3 rfl d7 rfl (i1 mB (c5 (by omega) rfl)) ?_ | refine b3 rfl d7 rfl (i3 mB (rows_get (by omega) rfl)) ?_ | refine b3 rfl d7 rfl (j8 mB rfl) ?_
    refine b7 ?_; exact i6 rfl
   apply k9 _ rfl rfl rfl
   ·intro w1
    first | refine b2 ⟨_, 2, none⟩ rfl rfl r6 rfl ?_ | refine b2 _ rfl rfl r6 rfl ?_
    refine b7 ?_; exact i6 rfl
   apply k9 _ rfl rfl rfl
   ·intro w1
    first | refine b3 rfl b5 rfl (d5 mB rfl) ?_ | refine b3 rfl b5 rfl (j3 mB rfl) ?_ | refine b3 rfl b5 rfl (i1 mB (c5 (by omega) rfl)) ?_ | refine b3 rfl b5 rfl (i3 mB (rows_get (by omega) rfl)) ?_ | refine b3 rfl b5 rfl (j8 mB rfl) ?_
    refine b7 ?_; exact i6 rfl
   refine m6 (fun w1 => H6 _ rfl rfl (fun _ => mW ..) (q_z rfl)) (m6 (fun w1 => ij8 rfl ⟨_, underlying163, rfl⟩ rfl (q_z rfl)) ?_); refine N6 ⟨Nat, fun _ => True, fun g => .slice (i7 g) 1 1, fun g => [Row (i7 g) (rows [Kd.ptr (hs.getD k default).2.2.1])]⟩ rfl rfl rfl ?_ ?_
   ·intro w1; refine l5 _ rfl rfl (fun _ => N3 ..) fun gS => b7 (J7 (rows [Kd.ptr (hs.getD k default).2.2.1]) (List.prefix_refl _) ?_); exact D1 gS tK rfl ⟨m0, tK⟩
   refine qU ⟨OutC × Hp, fun x => Grow M5 1 x.1.1 (k + 1) x.1.2 (rows (kindsN hs k ++ [Kd.ptr (hs.getD k default).2.2.1])) x.2, fun x => .slice x.1.1 (k + 1) x.1.2, fun _ => [], fun x => x.2⟩ rfl rfl rfl ?_ ?_
   ·intro g9 _; intro w1; refine C0 (k + 1) (rows (kindsN hs k ++ [Kd.ptr (hs.getD k default).2.2.1])) S9 rfl rfl rfl hG (hp' := []) (by rw [List.append_nil]) (Src.row (news := rows [Kd.ptr (hs.getD k default).2.2.1]) (m := 1) m0 rfl (D0 _) (by decide)) rfl (r8 _ _).symm (by unfold maxLen; omega) (by omega) fun A' c' og' hG' => ?_; refine b7 ?_; exact P5 ((A', c'), og') hG' (fun _ => rfl) (by rw [List.append_nil]; exact .refl _) tK
   refine y8 ⟨rfl, ?_⟩; intro g9 _ x hx; obtain ⟨⟨xa, xc⟩, xo⟩ := x; simp only at hx; refine l7 rfl rfl ?_
   first | refine b2 ⟨_, 3, none⟩ rfl rfl l3 rfl ?_ | refine b2 _ rfl rfl l3 rfl ?_
   refine u9 rfl rfl (pmC _ _) S8 (by rfl) (by rfl) ?_; refine b7 (q8 (q8 (c7 (c9 ?_)))); refine r4 _ rfl rfl rfl rfl m7 ?_; refine b4 rfl (b7 ?_); exact again _ (k + 1, (xa, xc), xo) ⟨by show k + 1 ≤ hs.length; omega, by show Grow _ _ _ _ _ (rows (kindsN hs (k + 1))) _; rw [rS hk2, kindOf, if_pos hb5]; exact hx⟩ (r9 (by omega)) mC (List.Sublist.refl _) mC
  have hb5' := hb5; try simp at hb5'
  refine d4 ?_
  first | refine b2 ⟨_, 1, none⟩ rfl rfl l6 rfl ?_ | refine b2 _ rfl rfl l6 rfl ?_
  first | refine b3 rfl b5 rfl (j3 mB rfl) ?_ | refine b3 rfl b5 rfl (d5 mB rfl) ?_ | refine b3 rfl b5 rfl (i1 mB (c5 (by omega) rfl)) ?_ | refine b3 rfl b5 rfl (i3 mB (rows_get (by omega) rfl)) ?_ | refine b3 rfl b5 rfl (j8 mB rfl) ?_
  refine B9 rfl rfl rfl (b6 rfl (c3 ?_))
  first | refine j9 rfl (fun hb6 => ?_) (fun hb6 => ?_) | refine d6 rfl (fun hb6 => ?_) (fun hb6 => ?_)
  ·have hb6' := hb6; try simp at hb6'
   refine I7 (og2) ([_]) (List.perm_append_comm (l₁ := [_])) 13 [12] mixed (by decide) (by decide) (by decide) rfl rfl rfl (p9 rfl (p9 rfl (m6 (fun w1 => l7 rfl rfl (q_z rfl)) ?_)))
   apply k9 _ rfl rfl rfl
   ·intro w1
    first | refine b2 ⟨_, 3, none⟩ rfl rfl l3 rfl ?_ | refine b2 _ rfl rfl l3 rfl ?_
    refine b7 ?_; exact i6 rfl
   apply k9 _ rfl rfl rfl
   ·intro w1
    first | refine b3 rfl d7 rfl (d5 mB rfl) ?_ | refine b3 rfl d7 rfl (j3 mB rfl) ?_ | refine b3 rfl d7 rfl (i1 mB (c5 (by omega) rfl)) ?_ | refine b3 rfl d7 rfl (i3 mB (rows_get (by omega) rfl)) ?_ | refine b3 rfl d7 rfl (j8 mB rfl) ?_
    refine b7 ?_; exact i6 rfl
   apply k9 _ rfl rfl rfl
   ·intro w1
    first | refine b2 ⟨_, 1, none⟩ rfl rfl l6 rfl ?_ | refine b2 _ rfl rfl l6 rfl ?_
    refine b7 ?_; exact i6 rfl
   apply k9 _ rfl rfl rfl
   ·intro w1
    first | refine b3 rfl b5 rfl (d5 mB rfl) ?_ | refine b3 rfl b5 rfl (j3 mB rfl) ?_ | refine b3 rfl b5 rfl (i1 mB (c5 (by omega) rfl)) ?_ | refine b3 rfl b5 rfl (i3 mB (rows_get (by omega) rfl)) ?_ | refine b3 rfl b5 rfl (j8 mB rfl) ?_
    refine b7 ?_; exact i6 rfl
   apply k9 _ rfl rfl rfl
   ·intro w1
    first | refine b2 ⟨_, 3, none⟩ rfl rfl n8 rfl ?_ | refine b2 _ rfl rfl n8 rfl ?_
    refine b7 ?_; exact i6 rfl
   apply k9 _ rfl rfl rfl
   ·intro w1
    first | refine b3 rfl d9 rfl (d5 mB rfl) ?_ | refine b3 rfl d9 rfl (j3 mB rfl) ?_ | refine b3 rfl d9 rfl (i1 mB (c5 (by omega) rfl)) ?_ | refine b3 rfl d9 rfl (i3 mB (rows_get (by omega) rfl)) ?_ | refine b3 rfl d9 rfl (j8 mB rfl) ?_
    refine b7 ?_; exact i6 rfl
   refine m6 (fun w1 => H6 _ rfl rfl (fun _ => jC ..) (q_z rfl)) (m6 (fun w1 => ij8 rfl ⟨_, underlying174, rfl⟩ rfl (q_z rfl)) ?_); refine N6 ⟨Nat, fun _ => True, fun g => .slice (i7 g) 1 1, fun g => [Row (i7 g) (rows [Kd.art (hs.getD k default).2.1 (hs.getD k default).2.2.2])]⟩ rfl rfl rfl ?_ ?_
   ·intro w1; refine l5 _ rfl rfl (fun _ => N3 ..) fun gS => b7 (J7 (rows [Kd.art (hs.getD k default).2.1 (hs.getD k default).2.2.2]) (List.prefix_refl _) ?_); exact D1 gS tK rfl ⟨m0, tK⟩
   refine qU ⟨OutC × Hp, fun x => Grow M5 1 x.1.1 (k + 1) x.1.2 (rows (kindsN hs k ++ [Kd.art (hs.getD k default).2.1 (hs.getD k default).2.2.2])) x.2, fun x => .slice x.1.1 (k + 1) x.1.2, fun _ => [], fun x => x.2⟩ rfl rfl rfl ?_ ?_
   ·intro g9 _; intro w1; refine C0 (k + 1) (rows (kindsN hs k ++ [Kd.art (hs.getD k default).2.1 (hs.getD k default).2.2.2])) S9 rfl rfl rfl hG (hp' := []) (by rw [List.append_nil]) (Src.row (news := rows [Kd.art (hs.getD k default).2.1 (hs.getD k default).2.2.2]) (m := 1) m0 rfl (D0 _) (by decide)) rfl (r8 _ _).symm (by unfold maxLen; omega) (by omega) fun A' c' og' hG' => ?_; refine b7 ?_; exact P5 ((A', c'), og') hG' (fun _ => rfl) (by rw [List.append_nil]; exact .refl _) tK
   refine y8 ⟨rfl, ?_⟩; intro g9 _ x hx; obtain ⟨⟨xa, xc⟩, xo⟩ := x; simp only at hx; refine l7 rfl rfl ?_
   first | refine b2 ⟨_, 3, none⟩ rfl rfl l3 rfl ?_ | refine b2 _ rfl rfl l3 rfl ?_
   refine u9 rfl rfl (pmC _ _) S8 (by rfl) (by rfl) ?_; refine b7 (q8 (q8 (c7 (c9 ?_)))); refine r4 _ rfl rfl rfl rfl m7 ?_; refine b4 rfl (b7 ?_); exact again _ (k + 1, (xa, xc), xo) ⟨by show k + 1 ≤ hs.length; omega, by show Grow _ _ _ _ _ (rows (kindsN hs (k + 1))) _; rw [rS hk2, kindOf, if_neg hb5, if_pos hb6]; exact hx⟩ (r9 (by omega)) mC (List.Sublist.refl _) mC
  have hb6' := hb6; try simp at hb6'
  refine I7 (og2) ([_]) (List.perm_append_comm (l₁ := [_])) 11 [10] mixed (by decide) (by decide) (by decide) rfl rfl rfl (p9 rfl (p9 rfl (m6 (fun w1 => l7 rfl rfl (q_z rfl)) ?_)))
  apply k9 _ rfl rfl rfl
  ·intro w1
   first | refine b2 ⟨_, 3, none⟩ rfl rfl l3 rfl ?_ | refine b2 _ rfl rfl l3 rfl ?_
   refine b7 ?_; exact i6 rfl
  apply k9 _ rfl rfl rfl
  ·intro w1
   first | refine b3 rfl d7 rfl (d5 mB rfl) ?_ | refine b3 rfl d7 rfl (j3 mB rfl) ?_ | refine b3 rfl d7 rfl (i1 mB (c5 (by omega) rfl)) ?_ | refine b3 rfl d7 rfl (i3 mB (rows_get (by omega) rfl)) ?_ | refine b3 rfl d7 rfl (j8 mB rfl) ?_
   refine b7 ?_; exact i6 rfl
  apply k9 _ rfl rfl rfl
  ·intro w1
   first | refine b2 ⟨_, 3, none⟩ rfl rfl n8 rfl ?_ | refine b2 _ rfl rfl n8 rfl ?_
   refine b7 ?_; exact i6 rfl
  apply k9 _ rfl rfl rfl
  ·intro w1
   first | refine b3 rfl d9 rfl (d5 mB rfl) ?_ | refine b3 rfl d9 rfl (j3 mB rfl) ?_ | refine b3 rfl d9 rfl (i1 mB (c5 (by omega) rfl)) ?_ | refine b3 rfl d9 rfl (i3 mB (rows_get (by omega) rfl)) ?_ | refine b3 rfl d9 rfl (j8 mB rfl) ?_
   refine b7 ?_; exact i6 rfl
  refine m6 (fun w1 => H6 _ rfl rfl (fun _ => qF ..) (q_z rfl)) (m6 (fun w1 => ij8 rfl ⟨_, underlying196, rfl⟩ rfl (q_z rfl)) ?_); refine N6 ⟨Nat, fun _ => True, fun g => .slice (i7 g) 1 1, fun g => [Row (i7 g) (rows [Kd.idx (hs.getD k default).2.2.2])]⟩ rfl rfl rfl ?_ ?_
  ·intro w1; refine l5 _ rfl rfl (fun _ => N3 ..) fun gS => b7 (J7 (rows [Kd.idx (hs.getD k default).2.2.2]) (List.prefix_refl _) ?_); exact D1 gS tK rfl ⟨m0, tK⟩
  refine qU ⟨OutC × Hp, fun x => Grow M5 1 x.1.1 (k + 1) x.1.2 (rows (kindsN hs k ++ [Kd.idx (hs.getD k default).2.2.2])) x.2, fun x => .slice x.1.1 (k + 1) x.1.2, fun _ => [], fun x => x.2⟩ rfl rfl rfl ?_ ?_
  ·intro g9 _; intro w1; refine C0 (k + 1) (rows (kindsN hs k ++ [Kd.idx (hs.getD k default).2.2.2])) S9 rfl rfl rfl hG (hp' := []) (by rw [List.append_nil]) (Src.row (news := rows [Kd.idx (hs.getD k default).2.2.2]) (m := 1) m0 rfl (D0 _) (by decide)) rfl (r8 _ _).symm (by unfold maxLen; omega) (by omega) fun A' c' og' hG' => ?_; refine b7 ?_; exact P5 ((A', c'), og') hG' (fun _ => rfl) (by rw [List.append_nil]; exact .refl _) tK
  refine y8 ⟨rfl, ?_⟩; intro g9 _ x hx; obtain ⟨⟨xa, xc⟩, xo⟩ := x; simp only at hx; refine l7 rfl rfl ?_
  first | refine b2 ⟨_, 3, none⟩ rfl rfl l3 rfl ?_ | refine b2 _ rfl rfl l3 rfl ?_
  refine u9 rfl rfl (pmC _ _) S8 (by rfl) (by rfl) ?_; refine b7 (q8 (q8 (c7 (c9 ?_)))); refine r4 _ rfl rfl rfl rfl m7 ?_; refine b4 rfl (b7 ?_); exact again _ (k + 1, (xa, xc), xo) ⟨by show k + 1 ≤ hs.length; omega, by show Grow _ _ _ _ _ (rows (kindsN hs (k + 1))) _; rw [rS hk2, kindOf, if_neg hb5, if_neg hb6]; exact hx⟩ (r9 (by omega)) mC (List.Sublist.refl _) mC
 have hb4' := hb4; try simp at hb4'
 have hk2 : k = hs.length := by omega
 subst hk2; refine m4 (v6 (l9 (c7 (d4 (b4 rfl (b6 rfl (b6 rfl (c3 ?_)))))))); refine j6 ?_; have h0 := Classical.not_not.1 hb1; refine J7 [.slice A cs.length ca, .slice B hs.length cb, .slice oa cs.length oc, .slice ka hs.length kc] (List.prefix_refl _) (jN hG ?_); exact ret2 (gB_1, (oa, oc), (ka, kc)) rfl rfl rfl (by show Value.tuple #[if checkT (trOf cs hs) = 0 then _ else _, int (checkT (trOf cs hs))] = _; rw [if_pos h0, h0]) rfl tK nK (by show LSub _ (if checkT (trOf cs hs) = 0 then _ else []); rw [if_pos h0]; exact mC)
def leastE (t : Tr) (a b : Int) : Int × Int := if ¬ checkT t = 0 then (0, checkT t) else if ¬ ((0 ≤ a ∧ a ≤ (t.cs.length : Int) - 1) ∧ (0 ≤ b ∧ b ≤ (t.cs.length : Int) - 1)) then (0, 3) else (leastT t a b, 0)
theorem zv_ptr (w : World) : (zeroValue E4).run prog w = .ok (.agg #[int 0]) w := n9
theorem zv_art (w : World) : (zeroValue E5).run prog w = .ok (.agg #[int 0, .slice none 0 0]) w := n9
def Kd.isP : Kd → Bool | .ptr _ => true | _ => false
def Kd.isA : Kd → Bool | .art _ _ => true | _ => false
def Kd.see : Kd → Int | .ptr s => s | _ => 0
def Kd.cls : Kd → Int | .art c _ => c | _ => 0
def Kd.als : Kd → Sl Int | .art _ a => a | _ => ⟨none, 0, []⟩
section
variable {c : Cx} {Q : Exit → Act → World → Prop} {fr : Fr} {hp : Hp} {L : List Fact} {ops : Array Oper} {rest : List Oper} {d : Tmp} {ty : TypeId} {pos : String} {af : Array Edge}
theorem r_asP {xt : TypeId} {x : Operand} {kd : Kd} (hd : Nat.blt d c.n = true) (hP : c.P = prog) (hx : ev fr x = some kd.v) (k : HL c ops Q rest ((d, .tuple #[.agg #[int kd.see], .bool kd.isP]) :: fr) hp L) : HL c ops Q (⟨some d, .typeAssert x xt E4 true, ty, pos, af, none⟩ :: rest) fr hp L := by
  have ht : NoI c.P E4 := by rw [hP]; exact ⟨_, underlying163, rfl⟩
  have hz : ∀ w, (zeroValue E4).run c.P w = .ok (.agg #[int 0]) w := by rw [hP]; exact zv_ptr
  cases kd with
  | ptr s => exact az8 hd ht hx k
  | art a b => exact pX hd ht hx rfl hz k
  | idx b => exact pX hd ht hx rfl hz k
theorem r_asA {xt : TypeId} {x : Operand} {kd : Kd} (hd : Nat.blt d c.n = true) (hP : c.P = prog) (hx : ev fr x = some kd.v) (k : HL c ops Q rest ((d, .tuple #[.agg #[int kd.cls, .slice kd.als.a kd.als.l.length kd.als.c], .bool kd.isA]) :: fr) hp L) : HL c ops Q (⟨some d, .typeAssert x xt E5 true, ty, pos, af, none⟩ :: rest) fr hp L := by
  have ht : NoI c.P E5 := by rw [hP]; exact ⟨_, underlying174, rfl⟩
  have hz : ∀ w, (zeroValue E5).run c.P w = .ok (.agg #[int 0, .slice none 0 0]) w := by rw [hP]; exact zv_art
  cases kd with
  | art a b => exact az8 hd ht hx k
  | ptr s => exact pX hd ht hx rfl hz k
  | idx b => exact pX hd ht hx rfl hz k
end
theorem tX {hs : List Hd} {i : Nat} (h : i < hs.length) : (kindsN hs hs.length).getD i default = kindOf (hs.getD i default) := by
  rw [q7 (by rw [I4 (Nat.le_refl _)]; exact h), q7 h]
  simp [kindsN]
theorem lx5 (h : Hd) : (kindOf h).isP = decide (¬ h.2.2.1 = -1) := by
  unfold kindOf
  split
  · rename_i e; simp [Kd.isP, e]
  rename_i e; split <;> simp [Kd.isP, Classical.not_not.1 e]
theorem see_of {h : Hd} (e : ¬ h.2.2.1 = -1) : (kindOf h).see = h.2.2.1 := by unfold kindOf; rw [if_pos e]; rfl
theorem hq9 (h : Hd) : (kindOf h).isA = (decide (h.2.2.1 = -1) && decide (¬ h.2.1 = -1)) := by
  unfold kindOf
  split
  · rename_i e; simp [Kd.isA, e]
  rename_i e
  split
  · rename_i e2; simp [Kd.isA, Classical.not_not.1 e, e2]
  rename_i e2; simp [Kd.isA, Classical.not_not.1 e2]
theorem isTr_at (cs : List Cl) {hs : List Hd} {i : Int} (h0 : 0 ≤ i) (h : i < (hs.length : Int)) : (kindOf (hs.getD i.toNat default)).isA = isTrB (trOf cs hs) i := by
  rw [hq9, isTrB]; simp only [trOf, Q5 (show i.toNat < hs.length by omega)]
  rfl
abbrev folR (o : Option (Int × Int)) : Value := .tuple #[int (o.getD (0, 0)).1, int (o.getD (0, 0)).2, .bool o.isSome]
def SeesOK (hs : List Hd) : Prop := ∀ i, i < hs.length → -1 ≤ (hs.getD i default).2.2.1 ∧ (hs.getD i default).2.2.1 < (hs.length : Int)
theorem ij6 {cs : List Cl} {hs : List Hd} (h : TrOK (trOf cs hs)) : SeesOK hs := fun i hi => by
  have h1 := (h.h i (by rw [y6]; exact hi)).s; simp only [trOf, Q5 hi] at h1; have h2 := h1.2.1; rw [List.length_map] at h2; exact ⟨h1.1, h2⟩
theorem p_see (h : Hd) : h.p.2.2.1 = h.2.2.1 := rfl
theorem gU {A B oa ka : Option Addr} {ca cb oc kc gl : Nat} (cs : List Cl) (hs : List Hd) (i : Int) (h0 : 0 ≤ i) (h : i < (hs.length : Int)) (hl : hs.length ≤ 6) : Meets prog M7 [.pointer (i7 gl), int i] { LI := [Row (i7 gl) [.slice A cs.length ca, .slice B hs.length cb, .slice oa cs.length oc, .slice ka hs.length kc], Row ka (rows (kindsN hs hs.length))], val := fun _ : Unit => .bool (isTrB (trOf cs hs) i) } := by
 refine d3 jR rfl n2 fun w0 => ?_; refine d4 (b6 rfl (j4 (b4 rfl (l7 rfl rfl ?_))))
 first | refine b2 ⟨_, 3, none⟩ rfl rfl l3 rfl ?_ | refine b2 _ rfl rfl l3 rfl ?_
 first | refine b3 rfl d7 rfl (j3 mB rfl) ?_ | refine b3 rfl d7 rfl (d5 mB rfl) ?_ | refine b3 rfl d7 rfl (i1 mB (c5 (by omega) rfl)) ?_ | refine b3 rfl d7 rfl (i3 mB (rows_get (by omega) rfl)) ?_ | refine b3 rfl d7 rfl (j8 mB rfl) ?_
 refine b4 rfl ?_; refine p8 (α := Kd) (kindsN hs hs.length) i.toNat rfl B4 P0 rfl rfl (Int.toNat_of_nonneg h0).symm mB (I4 (Nat.le_refl _)).symm (by rw [I4 (Nat.le_refl _)]; omega) (by decide) ?_; refine b3 (v := Kd.v (kindOf (hs.getD i.toNat default))) rfl L7 rfl (i1 mB (c5 (by rw [I4 (Nat.le_refl _)]; omega) (by rw [tX (by omega)]; rfl))) ?_; refine r_asA rfl rfl rfl (b4 rfl (k4 rfl rfl rfl (k4 rfl rfl rfl ?_))); refine B2 rfl (fun _ => bR _) fun gA => E0 rfl rfl vP bN (by rfl) (by rfl) ?_; refine b6 rfl (j4 (b4 rfl (b6 rfl (c3 (j6 ?_))))); exact ret1 () rfl (congrArg (fun b => some (Value.bool b)) (by exact isTr_at cs h0 h)) rfl tK nK tK
theorem U9 {A B oa ka : Option Addr} {ca cb oc kc gl : Nat} (cs : List Cl) (hs : List Hd) (h : Int) (h0 : 0 ≤ h) (hh : h < (hs.length : Int)) (hl : hs.length ≤ 6) (hS : SeesOK hs) : Meets prog N7 [.pointer (i7 gl), int h] { LI := [Row (i7 gl) [.slice A cs.length ca, .slice B hs.length cb, .slice oa cs.length oc, .slice ka hs.length kc], Row ka (rows (kindsN hs hs.length))], val := fun _ : Unit => folR (followT (trOf cs hs) h) } := by
 refine d3 lD rfl n2 fun w0 => ?_; refine d4 (b6 rfl (b6 rfl (b6 rfl (c3 (d1 (d4 (b4 rfl (l7 rfl rfl ?_))))))))
 first | refine b2 ⟨_, 3, none⟩ rfl rfl l3 rfl ?_ | refine b2 _ rfl rfl l3 rfl ?_
 first | refine b3 rfl d7 rfl (j3 mB rfl) ?_ | refine b3 rfl d7 rfl (d5 mB rfl) ?_ | refine b3 rfl d7 rfl (i1 mB (c5 (by omega) rfl)) ?_ | refine b3 rfl d7 rfl (i3 mB (rows_get (by omega) rfl)) ?_ | refine b3 rfl d7 rfl (j8 mB rfl) ?_
 refine k5 rfl B4 rfl (r4 _ rfl rfl rfl rfl m7 ?_); refine b4 rfl (c3 (i8 ?_)); refine p6 (β := Nat × Int) ⟨fun x => x.1 ≤ hs.length + 1 ∧ 0 ≤ x.2 ∧ x.2 < (hs.length : Int) ∧ followT (trOf cs hs) h = followN (hs.map Hd.p) (hs.length + 1 - x.1) x.2 (x.1 : Int), fun x => [(0, .pointer (i7 gl)), (1, int x.2), (15, int ((hs.length : Int) + 1)), (16, int x.1)], fun _ => [], fun _ => [Row (i7 gl) [.slice A cs.length ca, .slice B hs.length cb, .slice oa cs.length oc, .slice ka hs.length kc], Row ka (rows (kindsN hs hs.length))]⟩ (fun x => hs.length + 1 - x.1) (0, h) ⟨Nat.zero_le _, h0, hh, by rw [followT, y6]; rfl⟩ mC (List.Sublist.refl _) mC fun x hx => ?_; obtain ⟨k, y⟩ := x; obtain ⟨hk, h0, hy, ht⟩ := hx; simp only at hk h0 hy ht; refine d4 (u7 rfl rfl rfl (c3 (d1 ?_)))
 first | refine j9 rfl (fun hb1 => ?_) (fun hb1 => ?_) | refine d6 rfl (fun hb1 => ?_) (fun hb1 => ?_)
 ·have hb1' := hb1; try simp at hb1'
  have hk2 : k < hs.length + 1 := by omega
  rw [show hs.length + 1 - k = (hs.length - k) + 1 by omega, followN, Q5 (show y.toNat < hs.length by omega), p_see] at ht; have hsy := hS y.toNat (by omega); refine i4 (c7 (d1 (i8 (d4 (b4 rfl (b6 rfl (j4 ?_))))))); refine b4 rfl (l7 rfl rfl ?_)
  first | refine b2 ⟨_, 3, none⟩ rfl rfl l3 rfl ?_ | refine b2 _ rfl rfl l3 rfl ?_
  first | refine b3 rfl d7 rfl (j3 mB rfl) ?_ | refine b3 rfl d7 rfl (d5 mB rfl) ?_ | refine b3 rfl d7 rfl (i1 mB (c5 (by omega) rfl)) ?_ | refine b3 rfl d7 rfl (i3 mB (rows_get (by omega) rfl)) ?_ | refine b3 rfl d7 rfl (j8 mB rfl) ?_
  refine b4 rfl ?_; refine p8 (α := Kd) (kindsN hs hs.length) y.toNat rfl B4 P0 rfl rfl (Int.toNat_of_nonneg h0).symm mB (I4 (Nat.le_refl _)).symm (by rw [I4 (Nat.le_refl _)]; omega) (by decide) ?_; refine b3 (v := Kd.v (kindOf (hs.getD y.toNat default))) rfl L7 rfl (i1 mB (c5 (by rw [I4 (Nat.le_refl _)]; omega) (by rw [tX (by omega)]; rfl))) ?_; refine c3 (i8 (d4 (r_asP rfl rfl rfl (k4 rfl rfl rfl (k4 rfl rfl rfl (c3 ?_))))))
  first | refine j9 rfl (fun hb2 => ?_) (fun hb2 => ?_) | refine d6 rfl (fun hb2 => ?_) (fun hb2 => ?_)
  ·have hb2' := hb2; try simp at hb2'
   rw [lx5, decide_eq_true_eq] at hb2; rw [see_of hb2]; rw [if_neg (by exact hb2)] at ht; refine d4 (B2 rfl (fun _ => qI _) fun gA => E0 rfl rfl vP qE (by rfl) (by rfl) ?_); refine c3 (c9 ?_)
   first | refine b2 ⟨_, 0, none⟩ rfl rfl I8 rfl ?_ | refine b2 _ rfl rfl I8 rfl ?_
   first | refine b3 rfl b5 rfl (j3 mB rfl) ?_ | refine b3 rfl b5 rfl (d5 mB rfl) ?_ | refine b3 rfl b5 rfl (i1 mB (c5 (by omega) rfl)) ?_ | refine b3 rfl b5 rfl (i3 mB (rows_get (by omega) rfl)) ?_ | refine b3 rfl b5 rfl (j8 mB rfl) ?_
   refine b6 rfl (b7 (q8 (q8 (c7 (c9 ?_))))); refine r4 _ rfl rfl rfl rfl m7 ?_; refine b4 rfl (b7 ?_); exact again _ (k + 1, (hs.getD y.toNat default).2.2.1) ⟨by show k + 1 ≤ hs.length + 1; omega, by show 0 ≤ (hs.getD y.toNat default).2.2.1; omega, hsy.2, by show _ = followN _ (hs.length + 1 - (k + 1)) _ _; rw [ht, Nat.add_sub_add_right]; rfl⟩ (r9 (by omega)) mC nK mC
  have hb2' := hb2; try simp at hb2'
  rw [lx5, decide_eq_false_iff_not] at hb2; rw [if_pos (Classical.not_not.1 hb2)] at ht; refine d4 (b6 rfl (j4 (b4 rfl (b4 rfl (b6 rfl (b6 rfl (b6 rfl ?_))))))); refine c3 (j6 (W6 (A1 (u4 (A1 ?_))))); exact ret3 () rfl rfl rfl rfl (by show folR (followT (trOf cs hs) h) = _; rw [ht]; rfl) rfl tK nK tK
 have hb1' := hb1; try simp at hb1'
 have hk2 : k = hs.length + 1 := by omega
 rw [hk2, Nat.sub_self, followN] at ht; refine m4 (v6 (l9 (c7 (d4 (b6 rfl (b6 rfl (b6 rfl (c3 ?_)))))))); refine j6 ?_; exact ret3 () rfl rfl rfl rfl (by show folR (followT (trOf cs hs) h) = _; rw [ht]; rfl) rfl tK nK tK
def askE (t : Tr) (l : List Int) : Int := if ¬ checkT t = 0 then checkT t else if l.all (fun x => decide (0 ≤ x ∧ x ≤ (t.hs.length : Int) - 1)) then 0 else 3
theorem ask_bad {t : Tr} {l : List Int} {k : Nat} (h0 : checkT t = 0) (hk : k < l.length) (h : ¬ (0 ≤ l.getD k default ∧ l.getD k default ≤ (t.hs.length : Int) - 1)) : askE t l = 3 := by
  rw [askE, if_neg (not_not_intro h0), if_neg]; intro e; exact h (of_decide_eq_true (List.all_eq_true.1 e _ (n7 hk)))
theorem ask_ok {t : Tr} {l : List Int} (h0 : checkT t = 0) (h : ∀ i, i < l.length → 0 ≤ l.getD i default ∧ l.getD i default ≤ (t.hs.length : Int) - 1) : askE t l = 0 := by
  rw [askE, if_neg (not_not_intro h0), if_pos]; rw [List.all_eq_true]; intro x hx; obtain ⟨i, hi, rfl⟩ := List.getElem_of_mem hx; rw [decide_eq_true_eq, ← q7 hi]; exact h i hi
theorem wY {t : Tr} {l : List Int} (h : askE t l = 0) : checkT t = 0 := by
  unfold askE at h
  split at h
  · exact h
  rename_i h1; exact Classical.not_not.1 h1
theorem mx2 {t : Tr} {l : List Int} (h : askE t l = 0) {x : Int} (hx : x ∈ l) : 0 ≤ x ∧ x ≤ (t.hs.length : Int) - 1 := by
  have h0 := wY h; rw [askE, if_neg (not_not_intro h0)] at h
  split at h
  · rename_i h1; exact of_decide_eq_true (List.all_eq_true.1 h1 x hx)
  omega
set_option maxHeartbeats 1000000 in
theorem mG {C : Option Addr} {cc : Nat} {A B : Option Addr} {ca cb : Nat} (cs : List Cl) (hs : List Hd) (l : List Int) (hca : cs.length ≤ ca) (hcb : hs.length ≤ cb) (ha : ∀ h ∈ hs, h.2.2.2.l.length ≤ 1000000) (hl : l.length ≤ 1000000) : Meets prog lJ [.agg #[.slice A cs.length ca, .slice B hs.length cb], .slice C l.length cc] { LI := [Row A (rows cs), RowsF B hs Hd.row, Row C (rows l)], val := fun x : Nat × OutC × OutC => .tuple #[if askE (trOf cs hs) l = 0 then .pointer (some ⟨x.1, 0, none⟩) else .pointer none, int (askE (trOf cs hs) l)], LO := fun x => if askE (trOf cs hs) l = 0 then beginL cs hs A ca B cb x else [] } := by
 refine d3 zW rfl n2 fun w0 => d4 (B7 rfl rfl fun gB => ?_); refine b6 rfl (b6 rfl (c3 ?_)); refine M6 ⟨fun _ : Nat × OutC × OutC => True, fun x => [(1, .slice C l.length cc), (2, .pointer (i7 gB)), (6, if checkT (trOf cs hs) = 0 then .pointer (some ⟨x.1, 0, none⟩) else .pointer none), (7, int (checkT (trOf cs hs)))], fun _ => [(gB, .cells #[.slice A cs.length ca, .slice B hs.length cb] m5 (0, 0))], fun x => (if checkT (trOf cs hs) = 0 then beginL cs hs A ca B cb x else []) ++ [Row A (rows cs), RowsF B hs Hd.row, Row C (rows l)]⟩ ?_ ?_
 ·skip
  refine c9 ?_
  first | refine J5 rfl i9 j0 rfl mB (by rfl) ?_ | refine w7 rfl i9 j0 rfl mB (by rfl) ?_ | refine y9 rfl i9 j0 rfl rfl (w5 mB (z6 (by omega))) ?_
  refine i5 W8 rfl rfl (V7 cs hs hca hcb ha) k8 mC fun x _ => ?_; refine b4 rfl (k4 rfl rfl rfl (k4 rfl rfl rfl (b6 rfl (b6 rfl (b7 ?_))))); exact E3 _ x tK mC (List.Sublist.refl _) (LSub.of_mem fun F h => h)
 refine fun x _ => ?_
 dsimp only
 refine d1 (d4 (b4 rfl (B9 rfl rfl rfl (c3 ?_))))
 first | refine j9 rfl (fun hb1 => ?_) (fun hb1 => ?_) | refine d6 rfl (fun hb1 => ?_) (fun hb1 => ?_)
 ·have hb1' := hb1; try simp at hb1'
  have hE : askE (trOf cs hs) l = checkT (trOf cs hs) := by rw [askE, if_pos hb1]
  have hnz : ¬ askE (trOf cs hs) l = 0 := by rw [hE]; exact hb1
  refine d4 (b4 rfl (b6 rfl (b6 rfl (c3 (M2 ?_))))); exact ret2 (0, (none, 0), (none, 0)) rfl rfl rfl (by show Value.tuple #[if askE (trOf cs hs) l = 0 then _ else _, int (askE (trOf cs hs) l)] = _; rw [if_neg hnz, hE]) rfl tK nK (by show LSub _ (if askE (trOf cs hs) l = 0 then _ else []); rw [if_neg hnz]; trivial)
 have hb1' := hb1; try simp at hb1'
 have h0 := Classical.not_not.1 hb1; rw [if_pos h0, if_pos h0]; have hln := y6 cs hs; have hok := gL h0; have h6 : cs.length ≤ 6 := hok.c6; have h6h := hok.h6; rw [y6] at h6h; have hcl : ∀ i, i < cs.length → ClsOK cs i := hok.c; obtain ⟨gl, ⟨oa, oc⟩, ⟨ka, kc⟩⟩ := x; show HC _ _ _ _ _ [Row (i7 gl) [.slice A cs.length ca, .slice B hs.length cb, .slice oa cs.length oc, .slice ka hs.length kc], Row oa (rows (masksN cs cs.length)), Row ka (rows (kindsN hs hs.length)), Row A (rows cs), RowsF B hs Hd.row, Row C (rows l)]; refine i4 (c7 (d1 (d4 (b4 rfl ?_)))); refine k5 rfl j2 rfl ?_; refine b4 rfl (c3 (i8 ?_)); refine p6 (β := Nat) ⟨fun k => k ≤ l.length ∧ ∀ i, i < k → 0 ≤ l.getD i default ∧ l.getD i default ≤ (hs.length : Int) - 1, fun k => [(2, .pointer (i7 gB)), (6, .pointer (i7 gl)), (18, .slice C l.length cc), (19, int l.length), (20, int k)], fun _ => [(gB, .cells #[.slice A cs.length ca, .slice B hs.length cb] m5 (0, 0))], fun _ => [Row (i7 gl) [.slice A cs.length ca, .slice B hs.length cb, .slice oa cs.length oc, .slice ka hs.length kc], Row oa (rows (masksN cs cs.length)), Row ka (rows (kindsN hs hs.length)), Row A (rows cs), RowsF B hs Hd.row, Row C (rows l)]⟩ (fun k => l.length - k) 0 ⟨Nat.zero_le _, fun i hi => by omega⟩ mC (List.Sublist.refl _) mC fun k hk => ?_; obtain ⟨hk, ht⟩ := hk; refine d4 (u7 rfl rfl rfl (c3 (d1 ?_)))
 first | refine j9 rfl (fun hb2 => ?_) (fun hb2 => ?_) | refine d6 rfl (fun hb2 => ?_) (fun hb2 => ?_)
 ·have hb2' := hb2; try simp at hb2'
  have hk2 : k < l.length := by omega
  refine i4 (c7 (d1 (i8 (d4 ?_)))); refine p8 (α := Int) _ _ rfl j2 k6 rfl rfl rfl mB rfl (by omega) (by decide) (b3 rfl b5 rfl (i1 mB (c5 (by omega) rfl)) ?_); refine b6 rfl (j4 (b4 rfl ?_))
  first | refine b2 ⟨_, 1, none⟩ rfl rfl d8 rfl ?_ | refine b2 _ rfl rfl d8 rfl ?_
  first | refine b3 rfl b8 rfl (j3 mB rfl) ?_ | refine b3 rfl b8 rfl (d5 mB rfl) ?_ | refine b3 rfl b8 rfl (i1 mB (c5 (by omega) rfl)) ?_ | refine b3 rfl b8 rfl (i3 mB (rows_get (by omega) rfl)) ?_ | refine b3 rfl b8 rfl (j8 mB rfl) ?_
  refine k5 rfl l4 rfl (H3 _ rfl rfl rfl rfl m7 (i5 D5 rfl rfl (D2 _ _ _) k8 tK fun _ _ => ?_)); refine I6 rfl rfl (c3 ?_)
  first | refine j9 rfl (fun hb3 => ?_) (fun hb3 => ?_) | refine d6 rfl (fun hb3 => ?_) (fun hb3 => ?_)
  ·have hb3' := hb3; try simp at hb3'
   have hE : askE (trOf cs hs) l = 3 := ask_bad h0 hk2 (by rw [hln]; exact nbw hb3); have hnz : ¬ askE (trOf cs hs) l = 0 := by rw [hE]; decide
   refine d4 (b6 rfl (b6 rfl (c3 (j6 (A1 (u4 (A1 ?_))))))); exact ret2 (0, (none, 0), (none, 0)) rfl rfl rfl (by show Value.tuple #[if askE (trOf cs hs) l = 0 then _ else _, int (askE (trOf cs hs) l)] = _; rw [if_neg hnz, hE]) rfl tK nK (by show LSub _ (if askE (trOf cs hs) l = 0 then _ else []); rw [if_neg hnz]; trivial)
  have hb3' := hb3; try simp at hb3'
  refine i4 (q8 (c7 (c9 ?_))); refine r4 _ rfl rfl rfl rfl m7 ?_; refine b4 rfl (b7 ?_); have hin := bw hb3; exact again _ (k + 1) ⟨by omega, fun i hi => by rcases Nat.lt_or_ge i k with h | h; exact ht i h; rw [show i = k by omega]; exact hin⟩ (r9 (by omega)) mC (List.Sublist.refl _) mC
 have hb2' := hb2; try simp at hb2'
 have hk2 : k = l.length := by omega
 subst hk2; have hE : askE (trOf cs hs) l = 0 := ask_ok h0 (by rw [hln]; exact ht); refine m4 (v6 (l9 (c7 (d4 (b4 rfl (b6 rfl (b6 rfl (c3 ?_)))))))); refine j6 ?_; exact ret2 (gl, (oa, oc), (ka, kc)) rfl rfl rfl (by show Value.tuple #[if askE (trOf cs hs) l = 0 then _ else _, int (askE (trOf cs hs) l)] = _; rw [if_pos hE, hE]) rfl tK nK (by show LSub _ (if askE (trOf cs hs) l = 0 then _ else []); rw [if_pos hE]; exact mC)
def followE (t : Tr) (h : Int) : Int × Int × Int := if ¬ askE t [h] = 0 then (0, 0, askE t [h]) else if (followT t h).isSome = false then (0, 0, 9) else (((followT t h).getD (0, 0)).1, ((followT t h).getD (0, 0)).2, 0)
theorem S7 {A B : Option Addr} {ca cb : Nat} (cs : List Cl) (hs : List Hd) (h : Int) (hca : cs.length ≤ ca) (hcb : hs.length ≤ cb) (ha : ∀ h ∈ hs, h.2.2.2.l.length ≤ 1000000) : Meets prog aX [.agg #[.slice A cs.length ca, .slice B hs.length cb], int h] { LI := [Row A (rows cs), RowsF B hs Hd.row], val := fun _ : Unit => .tuple #[int (followE (trOf cs hs) h).1, int (followE (trOf cs hs) h).2.1, int (followE (trOf cs hs) h).2.2] } := by
 refine d3 uD rfl n2 fun w0 => d4 (B7 rfl rfl fun gB => ?_); refine b6 rfl (b6 rfl (b6 rfl (c3 ?_))); refine M6 ⟨fun _ : Nat × OutC × OutC => True, fun x => [(1, int h), (2, .pointer (i7 gB)), (7, if askE (trOf cs hs) [h] = 0 then .pointer (some ⟨x.1, 0, none⟩) else .pointer none), (6, int (askE (trOf cs hs) [h]))], fun _ => [(gB, .cells #[.slice A cs.length ca, .slice B hs.length cb] m5 (0, 0))], fun x => (if askE (trOf cs hs) [h] = 0 then beginL cs hs A ca B cb x else []) ++ [Row A (rows cs), RowsF B hs Hd.row]⟩ ?_ ?_
 ·skip
  refine c9 ?_
  first | refine J5 rfl i9 j0 rfl mB (by rfl) ?_ | refine w7 rfl i9 j0 rfl mB (by rfl) ?_ | refine y9 rfl i9 j0 rfl rfl (w5 mB (z6 (by omega))) ?_
  refine b4 rfl (l5 _ rfl rfl (fun _ => w6 ..) fun gS => v8 (rows [h]) (List.prefix_refl _) ?_); refine i5 mN rfl rfl (mG cs hs [h] hca hcb ha (by simp)) k8 mC fun x _ => ?_; refine b4 rfl (k4 rfl rfl rfl (k4 rfl rfl rfl (b6 rfl (b6 rfl (b7 ?_))))); exact E3 _ x tK mC (List.Sublist.refl _) (LSub.of_mem fun F hF => (List.mem_append.1 hF).elim (fun h1 => List.mem_append_left _ h1) (fun h2 => List.mem_append_right _ (List.mem_cons_of_mem _ h2)))
 refine fun x _ => ?_
 dsimp only
 refine d1 (d4 (b4 rfl (B9 rfl rfl rfl (c3 ?_))))
 first | refine j9 rfl (fun hb1 => ?_) (fun hb1 => ?_) | refine d6 rfl (fun hb1 => ?_) (fun hb1 => ?_)
 ·have hb1' := hb1; try simp at hb1'
  refine d4 (b4 rfl (b6 rfl (b6 rfl (b6 rfl (c3 (M2 ?_)))))); exact ret3 () rfl rfl rfl rfl (by show Value.tuple #[int (followE (trOf cs hs) h).1, int (followE (trOf cs hs) h).2.1, int (followE (trOf cs hs) h).2.2] = _; rw [followE, if_pos hb1]) rfl tK nK tK
 have hb1' := hb1; try simp at hb1'
 have h0 := Classical.not_not.1 hb1; rw [if_pos h0, if_pos h0]; have hch := wY h0; have hin := mx2 h0 (List.mem_singleton.2 rfl); rw [y6] at hin; have hok := gL hch; have h6 : cs.length ≤ 6 := hok.c6; have h6h := hok.h6; rw [y6] at h6h; have hcl : ∀ i, i < cs.length → ClsOK cs i := hok.c; obtain ⟨gl, ⟨oa, oc⟩, ⟨ka, kc⟩⟩ := x; have hS := ij6 hok; show HC _ _ _ _ _ [Row (i7 gl) [.slice A cs.length ca, .slice B hs.length cb, .slice oa cs.length oc, .slice ka hs.length kc], Row oa (rows (masksN cs cs.length)), Row ka (rows (kindsN hs hs.length)), Row A (rows cs), RowsF B hs Hd.row]; refine i4 (c7 (d4 (b4 rfl (b4 rfl ?_)))); refine i5 V1 rfl rfl (U9 (oa := oa) (oc := oc) (ka := ka) (kc := kc) (gl := gl) cs hs h hin.1 (by omega) (by omega) hS) k8 mC fun _ _ => b4 rfl (k4 (vs := #[int ((followT (trOf cs hs) h).getD (0, 0)).1, int ((followT (trOf cs hs) h).getD (0, 0)).2, .bool (followT (trOf cs hs) h).isSome]) rfl rfl rfl (k4 (vs := #[int ((followT (trOf cs hs) h).getD (0, 0)).1, int ((followT (trOf cs hs) h).getD (0, 0)).2, .bool (followT (trOf cs hs) h).isSome]) rfl rfl rfl (k4 (vs := #[int ((followT (trOf cs hs) h).getD (0, 0)).1, int ((followT (trOf cs hs) h).getD (0, 0)).2, .bool (followT (trOf cs hs) h).isSome]) rfl rfl rfl ?_))); refine b6 rfl (b6 rfl (b6 rfl (c3 (d1 (d4 (b4 rfl (I6 rfl rfl (c3 ?_))))))))
 first | refine j9 rfl (fun hb2 => ?_) (fun hb2 => ?_) | refine d6 rfl (fun hb2 => ?_) (fun hb2 => ?_)
 ·have hb2' := hb2; try simp at hb2'
  have h2 : (followT (trOf cs hs) h).isSome = false := by simpa using hb2
  refine d4 (b6 rfl (b6 rfl (b6 rfl (c3 (M2 ?_))))); exact ret3 () rfl rfl rfl rfl (by show Value.tuple #[int (followE (trOf cs hs) h).1, int (followE (trOf cs hs) h).2.1, int (followE (trOf cs hs) h).2.2] = _; rw [followE, if_neg hb1, if_pos h2]) rfl tK nK tK
 have hb2' := hb2; try simp at hb2'
 have h2 : ¬ (followT (trOf cs hs) h).isSome = false := fun e => by rw [e] at hb2; cases hb2
 refine i4 (c7 (d4 (b4 rfl (b4 rfl (b6 rfl (b6 rfl (b6 rfl (c3 (j6 ?_))))))))); exact ret3 () rfl rfl rfl rfl (by show Value.tuple #[int (followE (trOf cs hs) h).1, int (followE (trOf cs hs) h).2.1, int (followE (trOf cs hs) h).2.2] = _; rw [followE, if_neg hb1, if_neg h2]; rfl) rfl tK nK tK
theorem kS (m i : Nat) (hm : m < 256) (hi : i < 8) : Meets prog Q7 [u8 m, int i] { val := fun _ : Unit => u8 (m ||| 2 ^ i) } := by
 refine d3 nB rfl n2 fun w0 => ?_; refine d4 (b6 rfl (j4 (b4 rfl (b4 rfl (kz5 i rfl rfl rfl rfl hi ?_))))); refine kz8 rfl rfl rfl hm (Nat.pow_lt_pow_right (by omega) hi : 2 ^ i < 2 ^ 8) ?_; refine b6 rfl (c3 (j6 ?_)); exact ret1 () rfl rfl rfl tK nK tK
theorem mS (m i : Nat) (hm : m < 256) (hi : i < 8) : Meets prog U1 [u8 m, int i] { val := fun _ : Unit => .bool (m.testBit i) } := by
 refine d3 pI rfl n2 fun w0 => ?_; refine d4 (b6 rfl (j4 (b4 rfl (b4 rfl (kz4 i rfl rfl rfl rfl hi ?_))))); refine lj2 (b := 1) rfl rfl rfl (Nat.lt_of_le_of_lt (Nat.div_le_self _ _) hm) (by decide) ?_; refine I2 rfl rfl rfl (b6 rfl (c3 (j6 ?_))); exact ret1 () rfl (congrArg (fun b => some (Value.bool b)) (by exact cx2 m i)) rfl tK nK tK
theorem Q4 (s p : Str) :
    Meets prog C7 [str s, str p] { val := fun _ : Unit => .bool (decide (p.length ≤ s.length ∧ s.take p.length = p)) } := by
 refine d3 S2 rfl n2 fun w0 => ?_; refine d4 (b6 rfl (j4 (b4 rfl ?_))); refine Z3 rfl C4 rfl (b4 rfl (Z3 rfl C4 rfl ?_)); refine cT rfl rfl rfl (b4 rfl ?_); refine q6 rfl rfl ?_ ?_
 ·intro hg1; have hg1' := hg1; try simp at hg1'
  have hle : p.length ≤ s.length := by simpa using hg1
  refine k7 hg1 (b4 rfl (k7 hg1 (b4 rfl (k7 hg1 ?_)))); refine Z3 rfl C4 rfl (k7 hg1 (dq4 p.length rfl C4 rfl rfl rfl (by omega) ?_)); refine k7 hg1 (b4 rfl (k7 hg1 (vM rfl rfl rfl ?_))); refine p_t rfl rfl (bt1 hg1) rfl ?_; refine b6 rfl (c3 (j6 ?_)); exact ret1 () rfl (congrArg (fun b => some (Value.bool b)) (by simp [hle])) rfl tK nK tK
 intro hg1; have hg1' := hg1; try simp at hg1'
 have hle : ¬ p.length ≤ s.length := by simpa using hg1
 refine n4 hg1 (n4 hg1 (n4 hg1 (n4 hg1 (n4 hg1 (n4 hg1 ?_))))); refine p_f rfl rfl (bf2 hg1) rfl ?_; refine b6 rfl (c3 (j6 ?_)); exact ret1 () rfl (congrArg (fun b => some (Value.bool b)) (by simp [hle])) rfl tK nK tK
theorem jF (s p : Str) :
    Meets prog N9 [str s, str p] { val := fun _ : Unit => .bool (decide (p.length ≤ s.length ∧ s.take p.length = p)) } := by
 refine d3 lK rfl n2 fun w0 => ?_; refine d4 (b6 rfl (j4 (b4 rfl (b4 rfl ?_)))); refine i5 R6 rfl rfl (Q4 s p) (.refl _) tK fun _ _ => ?_; refine b6 rfl (c3 (j6 ?_)); exact ret1 () rfl rfl rfl tK (.refl _) tK
theorem iq2 {s p : Str} : (p.length ≤ s.length ∧ s.take p.length = p) ↔ p <+: s := by
  rw [List.prefix_iff_eq_take]
  constructor
  · exact fun e => e.2.symm
  intro e; refine ⟨?_, e.symm⟩; have := congrArg List.length e; rw [List.length_take] at this
  omega
theorem lx0 {t : Tr} {b : Str} {h i : Nat} (hn : ¬ b <+: (t.hs.getD h default).1) : leadsB t b h i = false := by rw [leadsB, decide_eq_false hn, Bool.false_and]
theorem hq6 {t : Tr} {b : Str} {h i : Nat} (hn : (followT t h).isSome = false) : leadsB t b h i = false := by
  rw [leadsB]
  cases e : followT t h with
  | none => simp
  | some x => rw [e] at hn; cases hn
theorem lx1 {t : Tr} {b : Str} {h i : Nat} (hp : b <+: (t.hs.getD h default).1) (hn : (followT t h).isSome = true) : leadsB t b h i = (decide (((followT t h).getD (0, 0)).1 = (i : Int)) && isTrB t ((followT t h).getD (0, 0)).1) := by
  rw [leadsB, decide_eq_true hp, Bool.true_and]
  cases e : followT t h with
  | none => rw [e] at hn; cases hn
  | some x => rfl
theorem kj2 {t : Tr} (hok : TrOK t) {h : Nat} (hh : h < t.hs.length) (hn : (followT t h).isSome = true) : 0 ≤ ((followT t h).getD (0, 0)).1 ∧ ((followT t h).getD (0, 0)).1 < (t.hs.length : Int) := by
  cases e : followT t h with
  | none => rw [e] at hn; cases hn
  | some x => exact cH hok _ (h : Int) 0 x.1 x.2 (by omega) (by omega) e
theorem gq3 (f : Nat → Bool) (k : Nat) : (List.range (k + 1)).any f = ((List.range k).any f || f k) := by rw [List.range_succ, List.any_append]; simp
def MaySet (t : Tr) (b : Str) (k m : Nat) : Prop := m < 256 ∧ ∀ j, m.testBit j = (List.range k).any fun h => leadsB t b h j
theorem zQ {t : Tr} {b : Str} {k m : Nat} (h : MaySet t b k m) (hn : ∀ j, leadsB t b k j = false) : MaySet t b (k + 1) m := ⟨h.1, fun j => by rw [gq3, hn j, Bool.or_false]; exact h.2 j⟩
theorem lq5 {t : Tr} {b : Str} {k m e : Nat} (h : MaySet t b k m) (he : e < 8) (hn : ∀ j, leadsB t b k j = decide (e = j)) : MaySet t b (k + 1) (m ||| 2 ^ e) := ⟨Nat.or_lt_two_pow (n := 8) h.1 (Nat.pow_lt_pow_right (by omega) he), fun j => by rw [gq3, hn j, Nat.testBit_or, Nat.testBit_two_pow, h.2 j]⟩
def mayK (m k : Nat) : List Int := ((List.range k).filter fun i => m.testBit i).map fun i : Nat => (i : Int)
theorem qB (m k : Nat) : mayK m (k + 1) = if m.testBit k = true then mayK m k ++ [(k : Int)] else mayK m k := by
  unfold mayK; rw [List.range_succ, List.filter_append, List.map_append]
  by_cases h : m.testBit k = true <;> simp [h]
theorem lq7 (m k : Nat) : (mayK m k).length ≤ k := by
  unfold mayK; rw [List.length_map]; exact Nat.le_trans (List.length_filter_le _ _) (by simp)
theorem lq8 {t : Tr} {b : Str} {m : Nat} (h : MaySet t b t.hs.length m) : mayK m t.hs.length = mayT t b := by
  unfold mayK mayT
  congr 1
  exact List.filter_congr fun i _ => h.2 i
set_option maxHeartbeats 1000000 in
theorem nQ {A B oa ka : Option Addr} {ca cb oc kc gl : Nat} (cs : List Cl) (hs : List Hd) (b : Str) (hok : TrOK (trOf cs hs)) : Meets prog W7 [.pointer (i7 gl), str b] { LI := [Row (i7 gl) [.slice A cs.length ca, .slice B hs.length cb, .slice oa cs.length oc, .slice ka hs.length kc], Row ka (rows (kindsN hs hs.length)), Row B (rows hs)], inv := fun x : OutC => (mayT (trOf cs hs) b).length ≤ x.2, val := fun x => .slice x.1 (mayT (trOf cs hs) b).length x.2, LO := fun x => [Row x.1 (rows (mayT (trOf cs hs) b))] } := by
 refine d3 qL rfl n2 fun w0 => ?_; refine d4 (b6 rfl (c3 (d1 ?_))); have h6h := hok.h6; have hln := y6 cs hs; rw [hln] at h6h; have hS := ij6 hok; refine c9 (b6 rfl (c3 (d1 (d4 (b4 rfl (l7 rfl rfl ?_))))))
 first | refine b2 ⟨_, 0, none⟩ rfl rfl L5 rfl ?_ | refine b2 _ rfl rfl L5 rfl ?_
 first | refine b2 ⟨_, 1, none⟩ rfl rfl d8 rfl ?_ | refine b2 _ rfl rfl d8 rfl ?_
 first | refine b3 rfl b8 rfl (j3 mB rfl) ?_ | refine b3 rfl b8 rfl (d5 mB rfl) ?_ | refine b3 rfl b8 rfl (i1 mB (c5 (by omega) rfl)) ?_ | refine b3 rfl b8 rfl (i3 mB (rows_get (by omega) rfl)) ?_ | refine b3 rfl b8 rfl (j8 mB rfl) ?_
 refine k5 rfl l4 rfl ?_; refine b4 rfl (c3 (i8 ?_)); refine p6 (β := Nat × Nat) ⟨fun x => x.1 ≤ hs.length ∧ MaySet (trOf cs hs) b x.1 x.2, fun x => [(0, .pointer (i7 gl)), (1, str b), (5, u8 x.2), (18, int hs.length), (17, .slice B hs.length cb), (19, int x.1)], fun _ => [], fun _ => [Row (i7 gl) [.slice A cs.length ca, .slice B hs.length cb, .slice oa cs.length oc, .slice ka hs.length kc], Row ka (rows (kindsN hs hs.length)), Row B (rows hs)]⟩ (fun x => hs.length - x.1) (0, 0) ⟨Nat.zero_le _, by decide, fun j => by simp⟩ mC nK mC fun x hx => ?_; obtain ⟨k, m⟩ := x; obtain ⟨hk, hM⟩ := hx; simp only at hk hM; refine d4 (u7 rfl rfl rfl (c3 (d1 ?_)))
 first | refine j9 rfl (fun hb1 => ?_) (fun hb1 => ?_) | refine d6 rfl (fun hb1 => ?_) (fun hb1 => ?_)
 ·have hb1' := hb1; try simp at hb1'
  have hk2 : k < hs.length := by omega
  have hgd : ((trOf cs hs).hs.getD k default).1 = (hs.getD k default).1 := by show ((hs.map Hd.p).getD k default).1 = _; rw [Q5 hk2]; rfl
  refine i4 (c7 (d1 (i8 (d4 (b4 rfl ?_))))); refine p8 (α := Hd) hs k rfl l4 m8 rfl rfl rfl mB rfl hk2 (by decide) (y9 rfl A9 m8 rfl rfl (w5 mB (z6 (by omega))) (B2 rfl (fun _ => W1 _) fun gA => b6 rfl (E0 rfl rfl vP m8 (by rfl) (by rfl) ?_))); refine c3 (cW ?_); refine tZ (rows [hs.getD k default]) ⟨[], List.append_nil _⟩ (c9 ?_)
  first | refine b2 ⟨_, 0, none⟩ rfl rfl u2 rfl ?_ | refine b2 _ rfl rfl u2 rfl ?_
  first | refine b3 rfl j7 rfl (j3 mB rfl) ?_ | refine b3 rfl j7 rfl (d5 mB rfl) ?_ | refine b3 rfl j7 rfl (i1 mB (c5 (by omega) rfl)) ?_ | refine b3 rfl j7 rfl (i3 mB (rows_get (by omega) rfl)) ?_ | refine b3 rfl j7 rfl (j8 mB rfl) ?_
  refine b4 rfl (i5 jY rfl rfl (jF (hs.getD k default).1 b) k8 tK fun _ _ => ?_); refine I6 rfl rfl (c3 ?_)
  first | refine j9 rfl (fun hb2 => ?_) (fun hb2 => ?_) | refine d6 rfl (fun hb2 => ?_) (fun hb2 => ?_)
  ·have hb2' := hb2; try simp at hb2'
   have hp : ¬ b <+: ((trOf cs hs).hs.getD k default).1 := by rw [hgd]; exact fun e => by rw [decide_eq_true (iq2.2 e)] at hb2; cases hb2
   refine m4 (w4 (l9 (c7 (c9 ?_)))); refine r4 _ rfl rfl rfl rfl m7 ?_; refine b4 rfl (b7 ?_); exact again _ (k + 1, m) ⟨by show k + 1 ≤ hs.length; omega, by exact zQ hM fun j => lx0 hp⟩ (r9 (by omega)) mC nK mC
  have hb2' := hb2; try simp at hb2'
  have hp : b <+: ((trOf cs hs).hs.getD k default).1 := by rw [hgd]; exact Classical.byContradiction fun e => by rw [decide_eq_false (fun f => e (iq2.1 f))] at hb2; cases hb2
  refine i4 (c7 (d4 (b4 rfl (b4 rfl ?_)))); refine i5 V1 rfl rfl (U9 (oa := oa) (oc := oc) (ka := ka) (kc := kc) (gl := gl) cs hs (k : Int) (by omega) (by omega) (by omega) hS) k8 mC fun _ _ => b4 rfl (k4 (vs := #[int ((followT (trOf cs hs) (k : Int)).getD (0, 0)).1, int ((followT (trOf cs hs) (k : Int)).getD (0, 0)).2, .bool (followT (trOf cs hs) (k : Int)).isSome]) rfl rfl rfl (k4 (vs := #[int ((followT (trOf cs hs) (k : Int)).getD (0, 0)).1, int ((followT (trOf cs hs) (k : Int)).getD (0, 0)).2, .bool (followT (trOf cs hs) (k : Int)).isSome]) rfl rfl rfl (k4 (vs := #[int ((followT (trOf cs hs) (k : Int)).getD (0, 0)).1, int ((followT (trOf cs hs) (k : Int)).getD (0, 0)).2, .bool (followT (trOf cs hs) (k : Int)).isSome]) rfl rfl rfl ?_))); refine b6 rfl (b6 rfl (b6 rfl (j4 (b4 rfl (b4 rfl ?_))))); refine q6 rfl rfl ?_ ?_
  ·intro hg1; have hg1' := hg1; try simp at hg1'
   have hs1 : (followT (trOf cs hs) (k : Int)).isSome = true := bt1 hg1; have hat := kj2 hok (by rw [hln]; exact hk2) hs1; rw [hln] at hat; have hL := fun i => lx1 (i := i) hp hs1; refine k7 hg1 (b4 rfl (k7 hg1 (b4 rfl (k7 hg1 ?_)))); refine i5 iC rfl rfl (gU (oa := oa) (oc := oc) (ka := ka) (kc := kc) (gl := gl) (A := A) (B := B) (ca := ca) (cb := cb) cs hs ((followT (trOf cs hs) (k : Int)).getD (0, 0)).1 hat.1 hat.2 (by omega)) k8 mC fun _ _ => p_t rfl rfl (bt1 hg1) rfl (c3 ?_)
   first | refine j9 rfl (fun hb3 => ?_) (fun hb3 => ?_) | refine d6 rfl (fun hb3 => ?_) (fun hb3 => ?_)
   ·have hb3' := hb3; try simp at hb3'
    obtain ⟨en, hen⟩ := Int.eq_ofNat_of_zero_le hat.1; refine c9 (b4 rfl ?_); refine rE (v := int (en : Int)) rfl (congrArg (fun z => some (int z)) hen) ?_; refine i5 lF rfl rfl (kS m en hM.1 (by omega)) k8 tK fun _ _ => ?_; refine b6 rfl (b7 (q8 (c7 (c9 ?_)))); refine r4 _ rfl rfl rfl rfl m7 ?_; refine b4 rfl (b7 ?_); exact again _ (k + 1, m ||| 2 ^ en) ⟨by show k + 1 ≤ hs.length; omega, by exact lq5 hM (by omega) fun j => by rw [hL j, hb3, Bool.and_true]; exact decide_eq_decide.2 (by omega)⟩ (r9 (by omega)) mC nK mC
   have hb3' := hb3; try simp at hb3'
   refine i4 (q8 (c7 (c9 ?_))); refine r4 _ rfl rfl rfl rfl m7 ?_; refine b4 rfl (b7 ?_); exact again _ (k + 1, m) ⟨by show k + 1 ≤ hs.length; omega, by exact zQ hM fun j => by rw [hL j, hb3, Bool.and_false]⟩ (r9 (by omega)) mC nK mC
  intro hg1; have hg1' := hg1; try simp at hg1'
  have hs1 : (followT (trOf cs hs) (k : Int)).isSome = false := bf2 hg1; refine n4 hg1 (n4 hg1 (n4 hg1 ?_)); refine p_f rfl rfl (bf2 hg1) rfl ?_; refine c3 (c_f rfl rfl (i4 (q8 (c7 (c9 ?_))))); refine r4 _ rfl rfl rfl rfl m7 ?_; refine b4 rfl (b7 ?_); exact again _ (k + 1, m) ⟨by show k + 1 ≤ hs.length; omega, by exact zQ hM fun j => hq6 hs1⟩ (r9 (by omega)) mC nK mC
 have hb1' := hb1; try simp at hb1'
 have hk2 : k = hs.length := by omega
 subst hk2; rw [← hln] at hM; have hA := lq8 hM; rw [hln] at hA; refine m4 (v6 (l9 (c7 (d4 (b6 rfl (c3 (cW ?_))))))); refine c9 (b4 rfl (l7 rfl rfl ?_))
 first | refine b2 ⟨_, 0, none⟩ rfl rfl L5 rfl ?_ | refine b2 _ rfl rfl L5 rfl ?_
 first | refine b2 ⟨_, 1, none⟩ rfl rfl d8 rfl ?_ | refine b2 _ rfl rfl d8 rfl ?_
 first | refine b3 rfl b8 rfl (j3 mB rfl) ?_ | refine b3 rfl b8 rfl (d5 mB rfl) ?_ | refine b3 rfl b8 rfl (i1 mB (c5 (by omega) rfl)) ?_ | refine b3 rfl b8 rfl (i3 mB (rows_get (by omega) rfl)) ?_ | refine b3 rfl b8 rfl (j8 mB rfl) ?_
 refine k5 rfl l4 rfl ?_; refine b4 rfl (c3 (i8 ?_)); refine p6 (β := Nat × OutC × Hp) ⟨fun x => x.1 ≤ hs.length ∧ Grow y2 1 x.2.1.1 (mayK m x.1).length x.2.1.2 (rows (mayK m x.1)) x.2.2, fun x => [(5, u8 m), (11, .slice x.2.1.1 (mayK m x.1).length x.2.1.2), (51, int hs.length), (52, int x.1)], fun x => x.2.2, fun _ => []⟩ (fun x => hs.length - x.1) (0, (none, 0), []) ⟨Nat.zero_le _, Grow.nil _ _⟩ mC nK tK fun x hx => ?_; obtain ⟨k, ⟨na, nc⟩, og⟩ := x; obtain ⟨hk, hG⟩ := hx; simp only at hk hG; refine d4 (u7 rfl rfl rfl (c3 (d1 ?_)))
 first | refine j9 rfl (fun hb4 => ?_) (fun hb4 => ?_) | refine d6 rfl (fun hb4 => ?_) (fun hb4 => ?_)
 ·have hb4' := hb4; try simp at hb4'
  have hk2 : k < hs.length := by omega
  have hml := lq7 m k; refine i4 (c7 (d1 (i8 (d4 (b4 rfl (b6 rfl (j4 ?_))))))); refine b4 rfl (b4 rfl ?_); refine i5 nD rfl rfl (mS m k hM.1 (by omega)) k8 tK fun _ _ => c3 ?_
  first | refine j9 rfl (fun hb5 => ?_) (fun hb5 => ?_) | refine d6 rfl (fun hb5 => ?_) (fun hb5 => ?_)
  ·have hb5' := hb5; try simp at hb5'
   refine c9 (b4 rfl (b4 rfl ?_)); refine l5 _ rfl rfl (fun _ => w6 ..) fun gS => v8 (rows [(k : Int)]) (List.prefix_refl _) ?_; refine C0 ((mayK m k).length + 1) (rows (mayK m k ++ [(k : Int)])) I5 rfl rfl rfl hG (hp' := []) (by rw [List.append_nil]; exact List.Perm.refl _) (Src.row (news := rows [(k : Int)]) (m := 1) m0 rfl (D0 _) (by decide)) rfl (r8 _ _).symm (by unfold maxLen; omega) (by omega) fun A' c' og' hG' => ?_; refine b6 rfl (b7 (q8 (c7 (c9 ?_)))); refine r4 _ rfl rfl rfl rfl m7 ?_; refine b4 rfl (b7 ?_); exact again _ (k + 1, (A', c'), og') ⟨by show k + 1 ≤ hs.length; omega, by show Grow _ _ _ (mayK m (k + 1)).length _ (rows (mayK m (k + 1))) _; rw [qB, if_pos hb5, List.length_append]; exact hG'⟩ (r9 (by omega)) ⟨rfl, by show some (Value.slice A' ((mayK m k).length + 1) c') = some (Value.slice A' (mayK m (k + 1)).length c'); rw [qB, if_pos hb5, List.length_append]; rfl, rfl, rfl, tK⟩ (List.sublist_append_left _ _) tK
  have hb5' := hb5; try simp at hb5'
  refine i4 (q8 (c7 (c9 ?_))); refine r4 _ rfl rfl rfl rfl m7 ?_; refine b4 rfl (b7 ?_); exact again _ (k + 1, (na, nc), og) ⟨by show k + 1 ≤ hs.length; omega, by show Grow _ _ _ (mayK m (k + 1)).length _ (rows (mayK m (k + 1))) _; rw [qB, if_neg (by rw [hb5]; decide)]; exact hG⟩ (r9 (by omega)) ⟨rfl, by show some (Value.slice na (mayK m k).length nc) = some (Value.slice na (mayK m (k + 1)).length nc); rw [qB, if_neg (by rw [hb5]; decide)], rfl, rfl, tK⟩ (List.Sublist.refl _) tK
 have hb4' := hb4; try simp at hb4'
 have hk2 : k = hs.length := by omega
 subst hk2; have hG2 := hG; rw [hA] at hG2; refine m4 (v6 (l9 (c7 (d4 (b4 rfl (b6 rfl (c3 (j6 ?_)))))))); refine jN hG2 ?_; exact ret1 (na, nc) rfl (by show some (Value.slice na (mayK m hs.length).length nc) = some (Value.slice na (mayT (trOf cs hs) b).length nc); rw [hA]) rfl hG2.le nK ⟨m0, tK⟩
def mayE (t : Tr) (b : Str) : List Int × Int := if ¬ checkT t = 0 then ([], checkT t) else (mayT t b, 0)
theorem xJ {A B : Option Addr} {ca cb : Nat} (cs : List Cl) (hs : List Hd) (b : Str) (hca : cs.length ≤ ca) (hcb : hs.length ≤ cb) (ha : ∀ h ∈ hs, h.2.2.2.l.length ≤ 1000000) : Meets prog bZ [.agg #[.slice A cs.length ca, .slice B hs.length cb], str b] { LI := [Row A (rows cs), RowsF B hs Hd.row], inv := fun x : OutC => (mayE (trOf cs hs) b).1.length ≤ x.2, val := fun x => .tuple #[.slice x.1 (mayE (trOf cs hs) b).1.length x.2, int (mayE (trOf cs hs) b).2], LO := fun x => [Row x.1 (rows (mayE (trOf cs hs) b).1)] } := by
 refine d3 zX rfl n2 fun w0 => d4 (B7 rfl rfl fun gB => ?_); refine b6 rfl (b6 rfl (c3 ?_)); refine M6 ⟨fun _ : Nat × OutC × OutC => True, fun x => [(1, str b), (2, .pointer (i7 gB)), (6, if checkT (trOf cs hs) = 0 then .pointer (some ⟨x.1, 0, none⟩) else .pointer none), (7, int (checkT (trOf cs hs)))], fun _ => [(gB, .cells #[.slice A cs.length ca, .slice B hs.length cb] m5 (0, 0))], fun x => (if checkT (trOf cs hs) = 0 then beginL cs hs A ca B cb x else []) ++ [Row A (rows cs), RowsF B hs Hd.row]⟩ ?_ ?_
 ·skip
  refine c9 ?_
  first | refine J5 rfl i9 j0 rfl mB (by rfl) ?_ | refine w7 rfl i9 j0 rfl mB (by rfl) ?_ | refine y9 rfl i9 j0 rfl rfl (w5 mB (z6 (by omega))) ?_
  refine i5 W8 rfl rfl (V7 cs hs hca hcb ha) k8 mC fun x _ => ?_; refine b4 rfl (k4 rfl rfl rfl (k4 rfl rfl rfl (b6 rfl (b6 rfl (b7 ?_))))); exact E3 _ x tK mC (List.Sublist.refl _) (LSub.of_mem fun F h => h)
 refine fun x _ => ?_
 dsimp only
 refine d1 (d4 (b4 rfl (B9 rfl rfl rfl (c3 ?_))))
 first | refine j9 rfl (fun hb1 => ?_) (fun hb1 => ?_) | refine d6 rfl (fun hb1 => ?_) (fun hb1 => ?_)
 ·have hb1' := hb1; try simp at hb1'
  have hE : mayE (trOf cs hs) b = ([], checkT (trOf cs hs)) := by rw [mayE, if_pos hb1]
  refine d4 (b4 rfl (b6 rfl (b6 rfl (c3 (M2 ?_))))); refine D4 (α := Int) ?_; exact ret2 (none, 0) rfl rfl rfl (by show Value.tuple #[.slice none (mayE (trOf cs hs) b).1.length 0, int (mayE (trOf cs hs) b).2] = _; rw [hE]; rfl) rfl (by show (mayE (trOf cs hs) b).1.length ≤ 0; rw [hE]; exact Nat.le_refl _) nK (by show LSub _ [Row none (rows (mayE (trOf cs hs) b).1)]; rw [hE]; exact ⟨m0, tK⟩)
 have hb1' := hb1; try simp at hb1'
 have h0 := Classical.not_not.1 hb1; rw [if_pos h0, if_pos h0]; have hok := gL h0; have h6 : cs.length ≤ 6 := hok.c6; have h6h := hok.h6; rw [y6] at h6h; have hcl : ∀ i, i < cs.length → ClsOK cs i := hok.c; obtain ⟨gl, ⟨oa, oc⟩, ⟨ka, kc⟩⟩ := x; have hE : mayE (trOf cs hs) b = (mayT (trOf cs hs) b, 0) := by rw [mayE, if_neg hb1]
 show HC _ _ _ _ _ [Row (i7 gl) [.slice A cs.length ca, .slice B hs.length cb, .slice oa cs.length oc, .slice ka hs.length kc], Row oa (rows (masksN cs cs.length)), Row ka (rows (kindsN hs hs.length)), Row A (rows cs), RowsF B hs Hd.row]; refine wB mB (i4 (c7 (d4 (b4 rfl (b4 rfl ?_))))); refine i5 pH rfl rfl (nQ (A := A) (B := B) (oa := oa) (oc := oc) (ka := ka) (kc := kc) (gl := gl) (ca := ca) (cb := cb) cs hs (b) hok) k8 mC fun y hy => ?_; refine b6 rfl (b6 rfl (c3 (j6 ?_))); exact ret2 y rfl rfl rfl (by show Value.tuple #[.slice y.1 (mayE (trOf cs hs) b).1.length y.2, int (mayE (trOf cs hs) b).2] = _; rw [hE]) rfl (by show (mayE (trOf cs hs) b).1.length ≤ y.2; rw [hE]; exact hy) nK (by show LSub _ [Row y.1 (rows (mayE (trOf cs hs) b).1)]; rw [hE]; exact ⟨m0, tK⟩)
def shortE (t : Tr) (h : Int) : Str × Int := if ¬ askE t [h] = 0 then ([], askE t [h]) else match shortT t h with | none => ([], 11) | some s => (s, 0)
def hitB (s : Str) (h : Hd) : Bool := decide (h.1 = s) && decide (¬ h.2.1 = -1)
def nameOf (cs : List Cl) (c : Int) : Str := (cs.getD c.toNat default).1
def FromInv (lo hi z : Int) : Prop := lo ≤ z ∧ (lo < hi → z ≤ hi) ∧ (hi ≤ lo → z = lo)
def sortsL : List Str := [[102, 111, 111, 100], [98, 114, 101, 97, 100], [99, 108, 111, 116, 104], [104, 97, 116, 115], [119, 111, 111, 100], [105, 114, 111, 110], [98, 101, 101, 114], [105, 110], [115, 101, 101]]
def callingsL : List Str := [[98, 97, 107, 101, 114], [98, 97, 107, 101, 114, 115], [98, 111, 110, 110, 101, 116, 115], [98, 114, 101, 119, 101, 114], [98, 114, 117, 115, 104, 101, 115], [98, 117, 116, 99, 104, 101, 114], [99, 97, 110, 100, 108, 101, 115], [99, 111, 111, 112, 101, 114], [99, 111, 111, 112, 101, 114, 115], [99, 117, 116, 108, 101, 114], [104, 97, 116, 116, 101, 114], [104, 111, 115, 105, 101, 114], [109, 101, 114, 99, 101, 114], [109, 105, 108, 108, 105, 110, 101, 114], [116, 97, 105, 108, 111, 114], [116, 97, 110, 110, 101, 114]]
theorem tV {A : Option Addr} {c : Nat} (nums : List Int) : Meets prog dM [.slice A nums.length c] { LI := [Row A (rows nums)], val := fun g : Nat => .pointer (i7 g), hpO := fun g => [dice g A c nums (0, 11400714819323198485)] } := by
 refine d3 wQ rfl n2 fun w0 => ?_; refine d4 (b6 rfl (j4 (b4 rfl ?_))); refine H6 _ rfl rfl (fun _ => bW ..) (B7 rfl rfl fun gB => ?_); refine b6 rfl (c3 (j6 ?_)); exact ret1 gB rfl rfl rfl tK (.refl _) tK
theorem Q3 {g : Nat} {A : Option Addr} {c : Nat} {nums : List Int} {s : Int × Int} (lo hi : Int) (hn : nums.length ≤ 9223372036854775807) (hs : DOK nums s) (hI : -1000 ≤ lo ∧ lo ≤ 1000 ∧ -1000 ≤ hi ∧ hi ≤ 1000) :
    Meets prog Z9 [.pointer (i7 g), int lo, int hi] (diceCon g A c nums s (FromInv lo hi) (fun z => int z) (fun _ => [])) := by
 refine d3 sJ rfl n2 fun w0 => ?_; refine d4 (b6 rfl (j4 (b4 rfl (b4 rfl (b4 rfl (b4 rfl ?_)))))); refine H3 _ rfl rfl rfl rfl m7 (i5 w9 rfl rfl (w8 (hi - lo) hn hs (by omega)) (.refl _) ⟨m0, tK⟩ fun x hx => ?_); obtain ⟨s1, z⟩ := x; obtain ⟨hs1, hz⟩ := hx; simp only [ToInv] at hz
 have hz1 : 0 ≤ z ∧ z ≤ 2000 := by
   refine ⟨hz.1, ?_⟩
   by_cases h1 : 1 ≤ hi - lo
   · have := hz.2.1 h1; omega
   have := hz.2.2 (by omega); omega
 refine r4 (lo + z) rfl rfl rfl rfl m7 ?_; refine b6 rfl (c3 (j6 ?_)); exact ret1 (s1, lo + z) rfl rfl rfl ⟨hs1, by simp only; omega, fun h => by have := hz.2.1 (by omega); simp only; omega, fun h => by have := hz.2.2 (by omega); simp only; omega⟩ (.refl _) tK
theorem mM : Meets prog lY [] { val := fun g : Nat => .slice (i7 g) 9 9, LO := fun g => [Row (i7 g) (rows sortsL)] } := by
 refine d3 aj3 rfl n2 fun w0 => ?_; refine d4 (b6 rfl (j4 ?_)); refine l5 _ rfl rfl (fun _ => bx5 ..) fun gS => ?_; refine b6 rfl (c3 (j6 ?_)); refine J7 (rows sortsL) (List.prefix_refl _) ?_; exact ret1 gS rfl rfl rfl tK nK ⟨m0, tK⟩
theorem cV : Meets prog bD [] { val := fun g : Nat => .slice (i7 g) 16 16, LO := fun g => [Row (i7 g) (rows callingsL)] } := by
 refine d3 uK rfl n2 fun w0 => ?_; refine d4 (b6 rfl (j4 ?_)); refine l5 _ rfl rfl (fun _ => aq6 ..) fun gS => ?_; refine b6 rfl (c3 (j6 ?_)); refine J7 (rows callingsL) (List.prefix_refl _) ?_; exact ret1 gS rfl rfl rfl tK nK ⟨m0, tK⟩
end Go.Proofs.YtpihanmcnmlodaaGreatDoor
end
