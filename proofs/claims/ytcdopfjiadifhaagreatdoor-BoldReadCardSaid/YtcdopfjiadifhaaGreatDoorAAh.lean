/- Texts of this claim, one behind another. -/
import Derived.Lib.SliceRun
import Derived.Laws.AppendOwn
import Derived.Laws.MakeOwn
import Derived.Test.YtcdopfjiadifhaaGreatDoorAAg
import Derived.Test.YtcdopfjiadifhaaGreatDoorAAf
set_option linter.unusedVariables false
set_option linter.unusedSimpArgs false
section
namespace Go.Proofs.YtcdopfjiadifhaaGreatDoor
open Go Go.W
set_option maxRecDepth 20000
attribute [local irreducible] HL HC HQ HB Row Rows2 Blk Facts
instance : El Nat where
  default := 0
  cells m := [u8 m]
  sz := 1
  len _ := rfl
  one a u h := by simp at h; subst h; rfl
inductive Kd where
  | art (c : Int) (al : Sl Int)
  | ptr (s : Int)
  | idx (al : Sl Int)
def Kd.v : Kd → Value
  | .art c al => .iface T.tP (.agg #[int c, .slice al.a al.l.length al.c])
  | .ptr s => .iface T.tO (.agg #[int s])
  | .idx al => .iface T.aq7 (.agg #[.slice al.a al.l.length al.c])
instance : El Kd where
  default := .ptr 0
  cells m := [m.v]
  sz := 1
  len _ := rfl
  one a u h := by simp at h; subst h; cases a <;> rfl
def kindOf (h : Hd) : Kd := if ¬ h.2.2.1 = -1 then .ptr h.2.2.1 else if ¬ h.2.1 = -1 then .art h.2.1 h.2.2.2 else .idx h.2.2.2
def kindsN (hs : List Hd) (k : Nat) : List Kd := (hs.take k).map kindOf
theorem sL {hs : List Hd} {k : Nat} (h : k ≤ hs.length) : (kindsN hs k).length = k := by simp [kindsN, h]
theorem uZ {hs : List Hd} {k : Nat} (h : k < hs.length) : kindsN hs (k + 1) = kindsN hs k ++ [kindOf (hs.getD k default)] := by
  unfold kindsN; rw [M5 hs k h, List.map_append]
  rfl
def maskOf (l : List Int) : Nat := l.foldl (fun m x => m ||| 2 ^ x.toNat) 0
theorem rj4 (l : List Int) (x : Int) : maskOf (l ++ [x]) = maskOf l ||| 2 ^ x.toNat := by unfold maskOf; rw [List.foldl_append]; rfl
theorem lz7 : ∀ (l : List Int) (m : Nat), m < 256 → (∀ x ∈ l, x.toNat < 8) → l.foldl (fun m x => m ||| 2 ^ x.toNat) m < 256
  | [], m, hm, _ => hm
  | x :: l, m, hm, h => by
    rw [List.foldl_cons]; refine lz7 l _ (Nat.or_lt_two_pow (n := 8) hm ?_) (fun y hy => h y (List.mem_cons_of_mem _ hy)); exact Nat.pow_lt_pow_right (by omega) (h x (List.mem_cons_self ..))
theorem mask_lt {l : List Int} (h : ∀ x ∈ l, x.toNat < 8) : maskOf l < 256 := lz7 l 0 (by decide) h
def masksN (cs : List Cl) (k : Nat) : List Nat := (List.range k).map fun i : Nat => maskOf (pathT cs (i : Int))
theorem ix0 (cs : List Cl) (k : Nat) : (masksN cs k).length = k := by simp [masksN]
theorem nx7 (cs : List Cl) (k : Nat) : masksN cs (k + 1) = masksN cs k ++ [maskOf (pathT cs (k : Int))] := by unfold masksN; rw [List.range_succ, List.map_append]; rfl
theorem rj3 {cs : List Cl} {k i : Nat} (h : i < k) : (masksN cs k).getD i default = maskOf (pathT cs (i : Int)) := by
  rw [A7 (by rw [ix0]; exact h)]
  simp [masksN]
theorem nx4 {cs : List Cl} (h6 : cs.length ≤ 6) (hc : ∀ i, i < cs.length → ClsOK cs i) {c : Int} (hl : c < (cs.length : Int)) : ∀ x ∈ pathT cs c, 0 ≤ x ∧ x < 6 := fun x hx => by
  have := (lx7 cs hc c.toNat c (Nat.le_refl _) hl).2 x hx
  omega
theorem rj5 {cs : List Cl} (h6 : cs.length ≤ 6) (hc : ∀ i, i < cs.length → ClsOK cs i) {c : Int} (hl : c < (cs.length : Int)) : maskOf (pathT cs c) < 256 := mask_lt fun x hx => by have := nx4 h6 hc hl x hx; omega
theorem ix1 {cs : List Cl} (h6 : cs.length ≤ 6) (hc : ∀ i, i < cs.length → ClsOK cs i) {k : Nat} (hk : k < cs.length) : maskOf (pathT cs (k : Int)) = 2 ^ k ||| maskOf (pathT cs (cs.getD k default).2) := by
  rw [iq4 cs hc (by omega) (by omega), rj4, Nat.or_comm]
  rfl
theorem tq2 {cs : List Cl} {c : Int} (h : c < 0) : maskOf (pathT cs c) = 0 := by rw [wY cs h]; rfl
theorem pmA {α : Type} (l : List α) (a b : α) : (l ++ [a, b]).Perm (a :: (l ++ [b])) := R6 fun p => by simp only [List.countP_append, List.countP_cons, List.countP_nil]; omega
theorem pmB {α : Type} (l : List α) (a b : α) : (a :: (l ++ [b])).Perm (l ++ [a, b]) := (pmA l a b).symm
theorem pmC {α : Type} (l : List α) (a : α) : (l ++ [a]).Perm (a :: l) := List.perm_append_comm (l₂ := [a])
def beginL (cs : List Cl) (hs : List Hd) (A : Option Addr) (ca : Nat) (B : Option Addr) (cb : Nat) (x : Nat × OutC × OutC) : List Fact := [Row (some ⟨x.1, 0, none⟩) [.slice A cs.length ca, .slice B hs.length cb, .slice x.2.1.1 cs.length x.2.1.2, .slice x.2.2.1 hs.length x.2.2.2], Row x.2.1.1 (rows (masksN cs cs.length)), Row x.2.2.1 (rows (kindsN hs hs.length))]
theorem jE (m i : Nat) (hm : m < 256) (hi : i < 8) : Meets Tryz.prog F.Y6 [u8 m, int i] { val := fun _ : Unit => u8 (m ||| 2 ^ i) } := by
 refine i9 F.pR rfl r6 fun w0 => ?_; refine i8 (d5 rfl (k8 (c7 rfl (c7 rfl (r_shl8 i rfl rfl rfl rfl hi ?_))))); refine r_or8 rfl rfl rfl hm (Nat.pow_lt_pow_right (by omega) hi : 2 ^ i < 2 ^ 8) ?_; refine d5 rfl (d8 (l5 ?_)); exact ret1 () rfl rfl rfl trivial nil_sb trivial
set_option maxHeartbeats 1000000 in
theorem wM {A B : Option Addr} {ca cb : Nat} (cs : List Cl) (hs : List Hd) (hca : cs.length ≤ ca) (hcb : hs.length ≤ cb) (ha : ∀ h ∈ hs, h.2.2.2.l.length ≤ 1000000) : Meets Tryz.prog F.pW [.agg #[.slice A cs.length ca, .slice B hs.length cb]] { LI := [Row A (rows cs), RowsF B hs Hd.row], val := fun x : Nat × OutC × OutC => .tuple #[if checkT (trOf cs hs) = 0 then .pointer (some ⟨x.1, 0, none⟩) else .pointer none, int (checkT (trOf cs hs))], LO := fun x => if checkT (trOf cs hs) = 0 then beginL cs hs A ca B cb x else [] } := by
 refine i9 F.gq5 rfl r6 fun w0 => ?_; refine i8 ?_; refine H6 rfl rfl fun gB => ?_; refine d5 rfl (d5 rfl (d8 (j4 (i8 ?_))))
 first | refine B5 rfl T.v5 T.v9 rfl mB (by rfl) ?_ | refine C1 rfl T.v5 T.v9 rfl mB (by rfl) ?_ | refine u7 rfl T.v5 T.v9 rfl rfl (t5 mB (t9 (by omega))) ?_
 refine k5 F.pS rfl rfl (iU cs hs hca hcb ha) p6 mC fun _ _ => ?_; refine d5 rfl (k8 (c7 rfl (N5 rfl rfl rfl (d8 ?_))))
 first | refine m3 rfl (fun hb1 => ?_) (fun hb1 => ?_) | refine j7 rfl (fun hb1 => ?_) (fun hb1 => ?_)
 ·have hb1' := hb1; try simp at hb1'
  refine i8 (c7 rfl (d5 rfl (d5 rfl (d8 (N4 ?_))))); exact ret2 (0, (none, 0), (none, 0)) rfl rfl rfl (by show Value.tuple #[if checkT (trOf cs hs) = 0 then _ else _, _] = _; rw [if_neg hb1]) rfl trivial nil_sb (by show LSub _ (if checkT (trOf cs hs) = 0 then _ else []); rw [if_neg hb1]; trivial)
 have hb1' := hb1; try simp at hb1'
 have hok := pq5 (Classical.not_not.1 hb1); have h6 : cs.length ≤ 6 := hok.c6; have h6h := hok.h6; rw [W1] at h6h; have hcl : ∀ i, i < cs.length → ClsOK cs i := hok.c; refine k6 (j6 (i8 ?_))
 first | refine B5 rfl T.v5 T.v9 rfl mB (by rfl) ?_ | refine C1 rfl T.v5 T.v9 rfl mB (by rfl) ?_ | refine u7 rfl T.v5 T.v9 rfl rfl (t5 mB (t9 (by omega))) ?_
 refine u4 _ rfl rfl (fun _ => T.bx9 ..) ?_; refine H6 rfl rfl fun gB_1 => ?_; refine d5 rfl (d8 (j4 (i8 ?_)))
 first | refine a9 ⟨_, 0, none⟩ rfl rfl T.G2 rfl ?_ | refine a9 _ rfl rfl T.G2 rfl ?_
 first | refine b8 rfl T.r9 rfl (j0 mB rfl) ?_ | refine b8 rfl T.r9 rfl (j3 mB rfl) ?_ | refine b8 rfl T.r9 rfl (d6 mB (c9 (by omega) rfl)) ?_ | refine b8 rfl T.r9 rfl (d7 mB (rows_get (by omega) rfl)) ?_ | refine b8 rfl T.r9 rfl (j5 mB rfl) ?_
 refine l7 rfl T.I0 rfl ?_; refine c7 rfl (d8 (k9 ?_)); refine w3 (β := Nat × OutC × Hp) ⟨fun x => x.1 ≤ cs.length ∧ Grow T.jF 1 x.2.1.1 x.1 x.2.1.2 (rows (masksN cs x.1)) x.2.2, fun x => [(1, .pointer (c8 gB)), (5, .pointer (c8 gB_1)), (20, .slice A cs.length ca), (21, int cs.length), (22, int x.1)], fun x => (gB_1, .cells #[.slice A cs.length ca, .slice B hs.length cb, .slice x.2.1.1 x.1 x.2.1.2, .slice none 0 0] T.uA (0, 0)) :: (x.2.2 ++ [(gB, .cells #[.slice A cs.length ca, .slice B hs.length cb] T.C2 (0, 0))]), fun _ => [Row A (rows cs), RowsF B hs Hd.row]⟩ (fun x => cs.length - x.1) (0, (none, 0), []) ⟨Nat.zero_le _, Grow.nil _ _⟩ mC (List.Sublist.refl _) mC fun x hx => ?_; obtain ⟨k, ⟨oa, oc⟩, og⟩ := x; obtain ⟨hk, hG⟩ := hx; simp only at hk hG; refine i8 (B6 rfl rfl rfl (d8 (j4 ?_)))
 first | refine m3 rfl (fun hb2 => ?_) (fun hb2 => ?_) | refine j7 rfl (fun hb2 => ?_) (fun hb2 => ?_)
 ·have hb2' := hb2; try simp at hb2'
  have hk2 : k < cs.length := by omega
  have hck := hcl k hk2; have hlo := hck.lo; have hhi := hck.hi; refine k6 (j6 (j4 (k9 (i8 (c7 rfl ?_))))); refine v6 (α := Cl) cs k rfl T.I0 T.K8 rfl rfl rfl mB rfl hk2 (by decide) (u7 rfl T.jQ T.K8 rfl rfl (t5 mB (t9 (by omega))) ?_); refine y9 rfl (fun _ => T.yS _) fun gA => ?_; refine d5 rfl ?_; refine w4 rfl rfl (by first | exact .refl _ | exact perm2 _ _ _ | exact perm3 _ _ _ _ | exact perm4 _ _ _ _ _) T.K8 (by rfl) (by rfl) ?_; refine k8 (c7 rfl ?_); refine k5 F.nY rfl rfl (jE 0 k (by decide) (by omega)) p6 trivial fun _ _ => ?_; refine d5 rfl (d8 ?_); refine mT ⟨fun _ : Unit => True, fun _ => [(1, .pointer (c8 gB)), (5, .pointer (c8 gB_1)), (20, .slice A cs.length ca), (21, int cs.length), (22, int k), (8, u8 (maskOf (pathT cs (k : Int))))], fun _ => (gB_1, .cells #[.slice A cs.length ca, .slice B hs.length cb, .slice oa k oc, .slice none 0 0] T.uA (0, 0)) :: (og ++ [(gB, .cells #[.slice A cs.length ca, .slice B hs.length cb] T.C2 (0, 0))]), fun _ => [Row A (rows cs), RowsF B hs Hd.row]⟩ ?_ ?_
  ·skip
   refine i8 ?_
   first | refine a9 ⟨_, 1, none⟩ rfl rfl T.J8 rfl ?_ | refine a9 _ rfl rfl T.J8 rfl ?_
   first | refine b8 rfl T.b9 rfl (j0 mB rfl) ?_ | refine b8 rfl T.b9 rfl (j3 mB rfl) ?_ | refine b8 rfl T.b9 rfl (d6 mB (c9 (by omega) rfl)) ?_ | refine b8 rfl T.b9 rfl (d7 mB (rows_get (by omega) rfl)) ?_ | refine b8 rfl T.b9 rfl (j5 mB rfl) ?_
   refine X2 rfl rfl rfl (d8 ?_)
   first | refine m3 rfl (fun hb3 => ?_) (fun hb3 => ?_) | refine j7 rfl (fun hb3 => ?_) (fun hb3 => ?_)
   ·have hb3' := hb3; try simp at hb3'
    obtain ⟨gC, cur, e1, e2, hnc, hcm, hcs, hct, _⟩ := hG.open_ (by omega); subst e1; subst e2
    have hcell : cur[0 + (cs.getD k default).2.toNat * 1]? = some (u8 (maskOf (pathT cs (cs.getD k default).2))) := by
      have h1 : (rows (masksN cs k))[(cs.getD k default).2.toNat * 1]? = some (u8 (maskOf (pathT cs (cs.getD k default).2))) := c9 (by rw [ix0]; omega) (by rw [rj3 (by omega), Int.toNat_of_nonneg hb3]; rfl); rw [← hct, List.getElem?_take, if_pos (by omega)] at h1; rw [Nat.zero_add, ← Array.getElem?_toList]; exact h1
    refine I5 9 mixed (by decide) (by decide) rfl rfl (l9 (fun w1 => c7 rfl (q_z rfl)) (l9 (fun w1 => c7 rfl (q_z rfl)) (l9 (fun w1 => p9 rfl rfl (q_z rfl)) ?_)))
    apply m8 _ rfl rfl rfl
    ·intro w1
     first | refine a9 ⟨_, 2, none⟩ rfl rfl T.O3 rfl ?_ | refine a9 _ rfl rfl T.O3 rfl ?_
     refine d4 ?_; exact k4 rfl
    apply m8 _ rfl rfl rfl
    ·intro w1
     first | refine b8 rfl T.B7 rfl (j3 mB rfl) ?_ | refine b8 rfl T.B7 rfl (j0 mB rfl) ?_ | refine b8 rfl T.B7 rfl (d6 mB (c9 (by omega) rfl)) ?_ | refine b8 rfl T.B7 rfl (d7 mB (rows_get (by omega) rfl)) ?_ | refine b8 rfl T.B7 rfl (j5 mB rfl) ?_
     refine d4 ?_; exact k4 rfl
    apply m8 _ rfl rfl rfl
    ·intro w1
     first | refine a9 ⟨_, 1, none⟩ rfl rfl T.J8 rfl ?_ | refine a9 _ rfl rfl T.J8 rfl ?_
     refine d4 ?_; exact k4 rfl
    apply m8 _ rfl rfl rfl
    ·intro w1
     first | refine b8 rfl T.b9 rfl (j3 mB rfl) ?_ | refine b8 rfl T.b9 rfl (j0 mB rfl) ?_ | refine b8 rfl T.b9 rfl (d6 mB (c9 (by omega) rfl)) ?_ | refine b8 rfl T.b9 rfl (d7 mB (rows_get (by omega) rfl)) ?_ | refine b8 rfl T.b9 rfl (j5 mB rfl) ?_
     refine d4 ?_; exact k4 rfl
    refine l9 (fun w1 => y0 (cs.getD k default).2.toNat _ rfl T.wI T.zB rfl rfl (Int.toNat_of_nonneg hb3).symm (by omega) rfl (q_z rfl)) (l9 (fun w1 => b8 rfl T.vI rfl (j3 mB hcell) (q_z rfl)) ?_); refine D1 ⟨rfl, ?_⟩; refine r_or8 rfl rfl rfl (by rw [Nat.zero_or]; exact (Nat.pow_lt_pow_right (by omega) (by omega) : 2 ^ k < 2 ^ 8)) (rj5 h6 hcl (by omega)) ?_; refine d5 rfl (d4 ?_); exact Y0 _ () trivial ⟨rfl, rfl, rfl, rfl, rfl, congrArg (fun b => some (u8 b)) (by rw [Nat.zero_or]; exact (ix1 h6 hcl hk2).symm), trivial⟩ (List.sublist_cons_self _ _) mC
   have hb3' := hb3; try simp at hb3'
   refine k6 ?_; exact Y0 _ () trivial ⟨rfl, rfl, rfl, rfl, rfl, congrArg (fun b => some (u8 b)) (by rw [ix1 h6 hcl hk2, tq2 (by omega), Nat.or_zero, Nat.zero_or]), trivial⟩ (List.sublist_cons_self _ _) mC
  refine fun _ _ => ?_; refine j8 (c7 rfl (c7 rfl (p9 rfl rfl ?_)))
  first | refine a9 ⟨_, 2, none⟩ rfl rfl T.O3 rfl ?_ | refine a9 _ rfl rfl T.O3 rfl ?_
  first | refine b8 rfl T.B7 rfl (j0 mB rfl) ?_ | refine b8 rfl T.B7 rfl (j3 mB rfl) ?_ | refine b8 rfl T.B7 rfl (d6 mB (c9 (by omega) rfl)) ?_ | refine b8 rfl T.B7 rfl (d7 mB (rows_get (by omega) rfl)) ?_ | refine b8 rfl T.B7 rfl (j5 mB rfl) ?_
  refine c7 rfl ?_; refine q7 _ rfl rfl (fun _ => T.rL ..) fun gS => ?_; refine C6 (rows [maskOf (pathT cs (k : Int))]) (List.prefix_refl _) ?_; refine O7 (k + 1) (rows (masksN cs k ++ [maskOf (pathT cs (k : Int))])) T.vF rfl rfl rfl hG (pmB _ _ _) (Src.row (news := rows [maskOf (pathT cs (k : Int))]) (m := 1) m0 rfl (K5 _) (by decide)) rfl (D2 _ _).symm (by unfold maxLen; omega) (by omega) fun A' c' og' hG' => ?_; refine p9 rfl rfl ?_
  first | refine a9 ⟨_, 2, none⟩ rfl rfl T.O3 rfl ?_ | refine a9 _ rfl rfl T.O3 rfl ?_
  refine z9 rfl rfl (pmA _ _ _) T.uF (by rfl) (by rfl) ?_; refine d4 (y6 (j6 (j8 ?_))); refine v4 _ rfl rfl rfl rfl r5 ?_; refine c7 rfl (d4 ?_); exact again _ (k + 1, (A', c'), og') ⟨by show k + 1 ≤ cs.length; omega, by show Grow _ _ _ _ _ (rows (masksN cs (k + 1))) _; rw [nx7]; exact hG'⟩ (D5 (by omega)) mC (List.Sublist.refl _) mC
 have hb2' := hb2; try simp at hb2'
 have hk2 : k = cs.length := by omega
 subst hk2; refine u9 (D6 (u5 (j6 (dq1 ?_)))); refine mS (pmB _ _ _) (dq8 hG ?_); clear hG; refine j8 ?_
 first | refine a9 ⟨_, 1, none⟩ rfl rfl T.t3 rfl ?_ | refine a9 _ rfl rfl T.t3 rfl ?_
 first | refine b8 rfl T.m6 rfl (j0 mB rfl) ?_ | refine b8 rfl T.m6 rfl (j3 mB rfl) ?_ | refine b8 rfl T.m6 rfl (d6 mB (c9 (by omega) rfl)) ?_ | refine b8 rfl T.m6 rfl (d7 mB (rows_get (by omega) rfl)) ?_ | refine b8 rfl T.m6 rfl (j5 mB rfl) ?_
 refine l7 rfl T.B4 rfl ?_; refine c7 rfl (d8 (k9 (ix6 mB ?_))); refine w3 (β := Nat × OutC × Hp) ⟨fun x => x.1 ≤ hs.length ∧ Grow T.bE 1 x.2.1.1 x.1 x.2.1.2 (rows (kindsN hs x.1)) x.2.2, fun x => [(5, .pointer (c8 gB_1)), (54, .slice B hs.length cb), (55, int hs.length), (56, int x.1)], fun x => (gB_1, .cells #[.slice A cs.length ca, .slice B hs.length cb, .slice oa cs.length oc, .slice x.2.1.1 x.1 x.2.1.2] T.uA (0, 0)) :: x.2.2, fun _ => [Row oa (rows (masksN cs cs.length)), Row A (rows cs), RowsF B hs Hd.row, Row B (rows hs)]⟩ (fun x => hs.length - x.1) (0, (none, 0), []) ⟨Nat.zero_le _, Grow.nil _ _⟩ mC (nil_sb.cons_cons _) mC fun x hx => ?_; obtain ⟨k, ⟨ka, kc⟩, og2⟩ := x; obtain ⟨hk, hG⟩ := hx; simp only at hk hG; refine i8 (B6 rfl rfl rfl (d8 (j4 ?_)))
 first | refine m3 rfl (fun hb4 => ?_) (fun hb4 => ?_) | refine j7 rfl (fun hb4 => ?_) (fun hb4 => ?_)
 ·have hb4' := hb4; try simp at hb4'
  have hk2 : k < hs.length := by omega
  refine k6 (j6 (j4 (k9 (i8 ?_)))); refine v6 (α := Hd) hs k rfl T.B4 T.J6 rfl rfl rfl mB rfl hk2 (by decide) (u7 rfl T.mD T.J6 rfl rfl (t5 mB (t9 (by omega))) ?_); refine y9 rfl (fun _ => T.az9 _) fun gA => ?_; refine w4 rfl rfl (by first | exact .refl _ | exact perm2 _ _ _ | exact perm3 _ _ _ _ | exact perm4 _ _ _ _ _) T.J6 (by rfl) (by rfl) ?_; refine d8 (k9 (j4 ?_)); refine dq7 (rows [hs.getD k default]) ⟨[], List.append_nil _⟩ ?_; refine j8 ?_
  first | refine a9 ⟨_, 2, none⟩ rfl rfl T.D8 rfl ?_ | refine a9 _ rfl rfl T.D8 rfl ?_
  first | refine b8 rfl T.b9 rfl (j0 mB rfl) ?_ | refine b8 rfl T.b9 rfl (j3 mB rfl) ?_ | refine b8 rfl T.b9 rfl (d6 mB (c9 (by omega) rfl)) ?_ | refine b8 rfl T.b9 rfl (d7 mB (rows_get (by omega) rfl)) ?_ | refine b8 rfl T.b9 rfl (j5 mB rfl) ?_
  refine N5 rfl rfl rfl (d5 rfl (d8 ?_))
  first | refine m3 rfl (fun hb5 => ?_) (fun hb5 => ?_) | refine j7 rfl (fun hb5 => ?_) (fun hb5 => ?_)
  ·have hb5' := hb5; try simp at hb5'
   refine S6 (og2) ([_]) (List.perm_append_comm (l₁ := [_])) 11 [10] mixed (by decide) (by decide) (by decide) rfl rfl rfl (l9 (fun w1 => c7 rfl (q_z rfl)) (l9 (fun w1 => c7 rfl (q_z rfl)) (l9 (fun w1 => p9 rfl rfl (q_z rfl)) ?_)))
   apply m8 _ rfl rfl rfl
   ·intro w1
    first | refine a9 ⟨_, 3, none⟩ rfl rfl T.w6 rfl ?_ | refine a9 _ rfl rfl T.w6 rfl ?_
    refine d4 ?_; exact k4 rfl
   apply m8 _ rfl rfl rfl
   ·intro w1
    first | refine b8 rfl T.p7 rfl (j3 mB rfl) ?_ | refine b8 rfl T.p7 rfl (j0 mB rfl) ?_ | refine b8 rfl T.p7 rfl (d6 mB (c9 (by omega) rfl)) ?_ | refine b8 rfl T.p7 rfl (d7 mB (rows_get (by omega) rfl)) ?_ | refine b8 rfl T.p7 rfl (j5 mB rfl) ?_
    refine d4 ?_; exact k4 rfl
   apply m8 _ rfl rfl rfl
   ·intro w1
    first | refine a9 ⟨_, 2, none⟩ rfl rfl T.D8 rfl ?_ | refine a9 _ rfl rfl T.D8 rfl ?_
    refine d4 ?_; exact k4 rfl
   apply m8 _ rfl rfl rfl
   ·intro w1
    first | refine b8 rfl T.b9 rfl (j3 mB rfl) ?_ | refine b8 rfl T.b9 rfl (j0 mB rfl) ?_ | refine b8 rfl T.b9 rfl (d6 mB (c9 (by omega) rfl)) ?_ | refine b8 rfl T.b9 rfl (d7 mB (rows_get (by omega) rfl)) ?_ | refine b8 rfl T.b9 rfl (j5 mB rfl) ?_
    refine d4 ?_; exact k4 rfl
   refine l9 (fun w1 => u4 _ rfl rfl (fun _ => T.vZ ..) (q_z rfl)) (l9 (fun w1 => cH rfl ⟨_, Tryz.underlying208, rfl⟩ rfl (q_z rfl)) ?_); refine X9 ⟨Nat, fun _ => True, fun g => .slice (c8 g) 1 1, fun g => [Row (c8 g) (rows [Kd.ptr (hs.getD k default).2.2.1])]⟩ rfl rfl rfl ?_ ?_
   ·intro w1; refine q7 _ rfl rfl (fun _ => T.aX ..) fun gS => ?_; refine d4 ?_; refine E5 (rows [Kd.ptr (hs.getD k default).2.2.1]) (List.prefix_refl _) ?_; exact J4 gS trivial rfl ⟨m0, trivial⟩
   refine iZ ⟨OutC × Hp, fun x => Grow T.bE 1 x.1.1 (k + 1) x.1.2 (rows (kindsN hs k ++ [Kd.ptr (hs.getD k default).2.2.1])) x.2, fun x => .slice x.1.1 (k + 1) x.1.2, fun _ => [], fun x => x.2⟩ rfl rfl rfl ?_ ?_
   ·intro g9 _; intro w1; refine O7 (k + 1) (rows (kindsN hs k ++ [Kd.ptr (hs.getD k default).2.2.1])) T.cX rfl rfl rfl hG (hp' := []) (by rw [List.append_nil]) (Src.row (news := rows [Kd.ptr (hs.getD k default).2.2.1]) (m := 1) m0 rfl (K5 _) (by decide)) rfl (D2 _ _).symm (by unfold maxLen; omega) (by omega) fun A' c' og' hG' => ?_; refine d4 ?_; exact O8 ((A', c'), og') hG' (fun _ => rfl) (by rw [List.append_nil]; exact .refl _) trivial
   refine D1 ⟨rfl, ?_⟩; intro g9 _ x hx; obtain ⟨⟨xa, xc⟩, xo⟩ := x; simp only at hx; refine p9 rfl rfl ?_
   first | refine a9 ⟨_, 3, none⟩ rfl rfl T.w6 rfl ?_ | refine a9 _ rfl rfl T.w6 rfl ?_
   refine z9 rfl rfl (pmC _ _) T.cR (by rfl) (by rfl) ?_; refine d4 (y6 (y6 (j6 (j8 ?_)))); refine v4 _ rfl rfl rfl rfl r5 ?_; refine c7 rfl (d4 ?_); exact again _ (k + 1, (xa, xc), xo) ⟨by show k + 1 ≤ hs.length; omega, by show Grow _ _ _ _ _ (rows (kindsN hs (k + 1))) _; rw [uZ hk2, kindOf, if_pos hb5]; exact hx⟩ (D5 (by omega)) mC (List.Sublist.refl _) mC
  have hb5' := hb5; try simp at hb5'
  refine i8 ?_
  first | refine a9 ⟨_, 1, none⟩ rfl rfl T.D9 rfl ?_ | refine a9 _ rfl rfl T.D9 rfl ?_
  first | refine b8 rfl T.b9 rfl (j0 mB rfl) ?_ | refine b8 rfl T.b9 rfl (j3 mB rfl) ?_ | refine b8 rfl T.b9 rfl (d6 mB (c9 (by omega) rfl)) ?_ | refine b8 rfl T.b9 rfl (d7 mB (rows_get (by omega) rfl)) ?_ | refine b8 rfl T.b9 rfl (j5 mB rfl) ?_
  refine N5 rfl rfl rfl (d5 rfl (d8 ?_))
  first | refine m3 rfl (fun hb6 => ?_) (fun hb6 => ?_) | refine j7 rfl (fun hb6 => ?_) (fun hb6 => ?_)
  ·have hb6' := hb6; try simp at hb6'
   refine S6 (og2) ([_]) (List.perm_append_comm (l₁ := [_])) 13 [12] mixed (by decide) (by decide) (by decide) rfl rfl rfl (l9 (fun w1 => c7 rfl (q_z rfl)) (l9 (fun w1 => c7 rfl (q_z rfl)) (l9 (fun w1 => p9 rfl rfl (q_z rfl)) ?_)))
   apply m8 _ rfl rfl rfl
   ·intro w1
    first | refine a9 ⟨_, 3, none⟩ rfl rfl T.w6 rfl ?_ | refine a9 _ rfl rfl T.w6 rfl ?_
    refine d4 ?_; exact k4 rfl
   apply m8 _ rfl rfl rfl
   ·intro w1
    first | refine b8 rfl T.p7 rfl (j3 mB rfl) ?_ | refine b8 rfl T.p7 rfl (j0 mB rfl) ?_ | refine b8 rfl T.p7 rfl (d6 mB (c9 (by omega) rfl)) ?_ | refine b8 rfl T.p7 rfl (d7 mB (rows_get (by omega) rfl)) ?_ | refine b8 rfl T.p7 rfl (j5 mB rfl) ?_
    refine d4 ?_; exact k4 rfl
   apply m8 _ rfl rfl rfl
   ·intro w1
    first | refine a9 ⟨_, 1, none⟩ rfl rfl T.D9 rfl ?_ | refine a9 _ rfl rfl T.D9 rfl ?_
    refine d4 ?_; exact k4 rfl
   apply m8 _ rfl rfl rfl
   ·intro w1
    first | refine b8 rfl T.b9 rfl (j3 mB rfl) ?_ | refine b8 rfl T.b9 rfl (j0 mB rfl) ?_ | refine b8 rfl T.b9 rfl (d6 mB (c9 (by omega) rfl)) ?_ | refine b8 rfl T.b9 rfl (d7 mB (rows_get (by omega) rfl)) ?_ | refine b8 rfl T.b9 rfl (j5 mB rfl) ?_
    refine d4 ?_; exact k4 rfl
   apply m8 _ rfl rfl rfl
   ·intro w1
    first | refine a9 ⟨_, 3, none⟩ rfl rfl T.D7 rfl ?_ | refine a9 _ rfl rfl T.D7 rfl ?_
    refine d4 ?_; exact k4 rfl
   apply m8 _ rfl rfl rfl
   ·intro w1
    first | refine b8 rfl T.i7 rfl (j3 mB rfl) ?_ | refine b8 rfl T.i7 rfl (j0 mB rfl) ?_ | refine b8 rfl T.i7 rfl (d6 mB (c9 (by omega) rfl)) ?_ | refine b8 rfl T.i7 rfl (d7 mB (rows_get (by omega) rfl)) ?_ | refine b8 rfl T.i7 rfl (j5 mB rfl) ?_
    refine d4 ?_; exact k4 rfl
   refine l9 (fun w1 => u4 _ rfl rfl (fun _ => T.rR ..) (q_z rfl)) (l9 (fun w1 => cH rfl ⟨_, Tryz.underlying210, rfl⟩ rfl (q_z rfl)) ?_); refine X9 ⟨Nat, fun _ => True, fun g => .slice (c8 g) 1 1, fun g => [Row (c8 g) (rows [Kd.art (hs.getD k default).2.1 (hs.getD k default).2.2.2])]⟩ rfl rfl rfl ?_ ?_
   ·intro w1; refine q7 _ rfl rfl (fun _ => T.aX ..) fun gS => ?_; refine d4 ?_; refine E5 (rows [Kd.art (hs.getD k default).2.1 (hs.getD k default).2.2.2]) (List.prefix_refl _) ?_; exact J4 gS trivial rfl ⟨m0, trivial⟩
   refine iZ ⟨OutC × Hp, fun x => Grow T.bE 1 x.1.1 (k + 1) x.1.2 (rows (kindsN hs k ++ [Kd.art (hs.getD k default).2.1 (hs.getD k default).2.2.2])) x.2, fun x => .slice x.1.1 (k + 1) x.1.2, fun _ => [], fun x => x.2⟩ rfl rfl rfl ?_ ?_
   ·intro g9 _; intro w1; refine O7 (k + 1) (rows (kindsN hs k ++ [Kd.art (hs.getD k default).2.1 (hs.getD k default).2.2.2])) T.cX rfl rfl rfl hG (hp' := []) (by rw [List.append_nil]) (Src.row (news := rows [Kd.art (hs.getD k default).2.1 (hs.getD k default).2.2.2]) (m := 1) m0 rfl (K5 _) (by decide)) rfl (D2 _ _).symm (by unfold maxLen; omega) (by omega) fun A' c' og' hG' => ?_; refine d4 ?_; exact O8 ((A', c'), og') hG' (fun _ => rfl) (by rw [List.append_nil]; exact .refl _) trivial
   refine D1 ⟨rfl, ?_⟩; intro g9 _ x hx; obtain ⟨⟨xa, xc⟩, xo⟩ := x; simp only at hx; refine p9 rfl rfl ?_
   first | refine a9 ⟨_, 3, none⟩ rfl rfl T.w6 rfl ?_ | refine a9 _ rfl rfl T.w6 rfl ?_
   refine z9 rfl rfl (pmC _ _) T.cR (by rfl) (by rfl) ?_; refine d4 (y6 (y6 (j6 (j8 ?_)))); refine v4 _ rfl rfl rfl rfl r5 ?_; refine c7 rfl (d4 ?_); exact again _ (k + 1, (xa, xc), xo) ⟨by show k + 1 ≤ hs.length; omega, by show Grow _ _ _ _ _ (rows (kindsN hs (k + 1))) _; rw [uZ hk2, kindOf, if_neg hb5, if_pos hb6]; exact hx⟩ (D5 (by omega)) mC (List.Sublist.refl _) mC
  have hb6' := hb6; try simp at hb6'
  refine S6 (og2) ([_]) (List.perm_append_comm (l₁ := [_])) 11 [10] mixed (by decide) (by decide) (by decide) rfl rfl rfl (l9 (fun w1 => c7 rfl (q_z rfl)) (l9 (fun w1 => c7 rfl (q_z rfl)) (l9 (fun w1 => p9 rfl rfl (q_z rfl)) ?_)))
  apply m8 _ rfl rfl rfl
  ·intro w1
   first | refine a9 ⟨_, 3, none⟩ rfl rfl T.w6 rfl ?_ | refine a9 _ rfl rfl T.w6 rfl ?_
   refine d4 ?_; exact k4 rfl
  apply m8 _ rfl rfl rfl
  ·intro w1
   first | refine b8 rfl T.p7 rfl (j3 mB rfl) ?_ | refine b8 rfl T.p7 rfl (j0 mB rfl) ?_ | refine b8 rfl T.p7 rfl (d6 mB (c9 (by omega) rfl)) ?_ | refine b8 rfl T.p7 rfl (d7 mB (rows_get (by omega) rfl)) ?_ | refine b8 rfl T.p7 rfl (j5 mB rfl) ?_
   refine d4 ?_; exact k4 rfl
  apply m8 _ rfl rfl rfl
  ·intro w1
   first | refine a9 ⟨_, 3, none⟩ rfl rfl T.D7 rfl ?_ | refine a9 _ rfl rfl T.D7 rfl ?_
   refine d4 ?_; exact k4 rfl
  apply m8 _ rfl rfl rfl
  ·intro w1
   first | refine b8 rfl T.i7 rfl (j3 mB rfl) ?_ | refine b8 rfl T.i7 rfl (j0 mB rfl) ?_ | refine b8 rfl T.i7 rfl (d6 mB (c9 (by omega) rfl)) ?_ | refine b8 rfl T.i7 rfl (d7 mB (rows_get (by omega) rfl)) ?_ | refine b8 rfl T.i7 rfl (j5 mB rfl) ?_
   refine d4 ?_; exact k4 rfl
  refine l9 (fun w1 => u4 _ rfl rfl (fun _ => T.aq2 ..) (q_z rfl)) (l9 (fun w1 => cH rfl ⟨_, Tryz.underlying212, rfl⟩ rfl (q_z rfl)) ?_); refine X9 ⟨Nat, fun _ => True, fun g => .slice (c8 g) 1 1, fun g => [Row (c8 g) (rows [Kd.idx (hs.getD k default).2.2.2])]⟩ rfl rfl rfl ?_ ?_
  ·intro w1; refine q7 _ rfl rfl (fun _ => T.aX ..) fun gS => ?_; refine d4 ?_; refine E5 (rows [Kd.idx (hs.getD k default).2.2.2]) (List.prefix_refl _) ?_; exact J4 gS trivial rfl ⟨m0, trivial⟩
  refine iZ ⟨OutC × Hp, fun x => Grow T.bE 1 x.1.1 (k + 1) x.1.2 (rows (kindsN hs k ++ [Kd.idx (hs.getD k default).2.2.2])) x.2, fun x => .slice x.1.1 (k + 1) x.1.2, fun _ => [], fun x => x.2⟩ rfl rfl rfl ?_ ?_
  ·intro g9 _; intro w1; refine O7 (k + 1) (rows (kindsN hs k ++ [Kd.idx (hs.getD k default).2.2.2])) T.cX rfl rfl rfl hG (hp' := []) (by rw [List.append_nil]) (Src.row (news := rows [Kd.idx (hs.getD k default).2.2.2]) (m := 1) m0 rfl (K5 _) (by decide)) rfl (D2 _ _).symm (by unfold maxLen; omega) (by omega) fun A' c' og' hG' => ?_; refine d4 ?_; exact O8 ((A', c'), og') hG' (fun _ => rfl) (by rw [List.append_nil]; exact .refl _) trivial
  refine D1 ⟨rfl, ?_⟩; intro g9 _ x hx; obtain ⟨⟨xa, xc⟩, xo⟩ := x; simp only at hx; refine p9 rfl rfl ?_
  first | refine a9 ⟨_, 3, none⟩ rfl rfl T.w6 rfl ?_ | refine a9 _ rfl rfl T.w6 rfl ?_
  refine z9 rfl rfl (pmC _ _) T.cR (by rfl) (by rfl) ?_; refine d4 (y6 (y6 (j6 (j8 ?_)))); refine v4 _ rfl rfl rfl rfl r5 ?_; refine c7 rfl (d4 ?_); exact again _ (k + 1, (xa, xc), xo) ⟨by show k + 1 ≤ hs.length; omega, by show Grow _ _ _ _ _ (rows (kindsN hs (k + 1))) _; rw [uZ hk2, kindOf, if_neg hb5, if_neg hb6]; exact hx⟩ (D5 (by omega)) mC (List.Sublist.refl _) mC
 have hb4' := hb4; try simp at hb4'
 have hk2 : k = hs.length := by omega
 subst hk2; refine u9 (D6 (u5 (j6 (i8 (c7 rfl (d5 rfl (d5 rfl (d8 ?_)))))))); refine l5 ?_; have h0 := Classical.not_not.1 hb1; refine E5 [.slice A cs.length ca, .slice B hs.length cb, .slice oa cs.length oc, .slice ka hs.length kc] (List.prefix_refl _) (rq1 hG ?_); exact ret2 (gB_1, (oa, oc), (ka, kc)) rfl rfl rfl (by show Value.tuple #[if checkT (trOf cs hs) = 0 then _ else _, int (checkT (trOf cs hs))] = _; rw [if_pos h0, h0]) rfl trivial nil_sb (by show LSub _ (if checkT (trOf cs hs) = 0 then _ else []); rw [if_pos h0]; exact mC)
end Go.Proofs.YtcdopfjiadifhaaGreatDoor
end
section
namespace Go.Proofs.YtcdopfjiadifhaaGreatDoor
open Go Go.W
set_option maxRecDepth 20000
attribute [local irreducible] HL HC HQ HB Row Rows2 Blk Facts
def leastE (t : Tr) (a b : Int) : Int × Int := if ¬ checkT t = 0 then (0, checkT t) else if ¬ ((0 ≤ a ∧ a ≤ (t.cs.length : Int) - 1) ∧ (0 ≤ b ∧ b ≤ (t.cs.length : Int) - 1)) then (0, 3) else (leastT t a b, 0)
end Go.Proofs.YtcdopfjiadifhaaGreatDoor
end
section
namespace Go.Proofs.YtcdopfjiadifhaaGreatDoor
open Go Go.W
set_option maxRecDepth 20000
attribute [local irreducible] HL HC HQ HB Row Rows2 Blk Facts
def Kd.isP : Kd → Bool | .ptr _ => true | _ => false
def Kd.isA : Kd → Bool | .art _ _ => true | _ => false
def Kd.see : Kd → Int | .ptr s => s | _ => 0
def Kd.cls : Kd → Int | .art c _ => c | _ => 0
def Kd.als : Kd → Sl Int | .art _ a => a | _ => ⟨none, 0, []⟩
section
variable {c : Cx} {Q : Exit → Act → World → Prop} {fr : Fr} {hp : Hp} {L : List Fact} {ops : Array Oper} {rest : List Oper} {d : Tmp} {ty : TypeId} {pos : String} {af : Array Edge}
end
theorem tq9 {hs : List Hd} {i : Nat} (h : i < hs.length) : (kindsN hs hs.length).getD i default = kindOf (hs.getD i default) := by
  rw [A7 (by rw [sL (Nat.le_refl _)]; exact h), A7 h]
  simp [kindsN]
abbrev folR (o : Option (Int × Int)) : Value := .tuple #[int (o.getD (0, 0)).1, int (o.getD (0, 0)).2, .bool o.isSome]
def SeesOK (hs : List Hd) : Prop := ∀ i, i < hs.length → -1 ≤ (hs.getD i default).2.2.1 ∧ (hs.getD i default).2.2.1 < (hs.length : Int)
def askE (t : Tr) (l : List Int) : Int := if ¬ checkT t = 0 then checkT t else if l.all (fun x => decide (0 ≤ x ∧ x ≤ (t.hs.length : Int) - 1)) then 0 else 3
theorem ask_bad {t : Tr} {l : List Int} {k : Nat} (h0 : checkT t = 0) (hk : k < l.length) (h : ¬ (0 ≤ l.getD k default ∧ l.getD k default ≤ (t.hs.length : Int) - 1)) : askE t l = 3 := by
  rw [askE, if_neg (not_not_intro h0), if_neg]; intro e; exact h (of_decide_eq_true (List.all_eq_true.1 e _ (w7 hk)))
theorem ask_ok {t : Tr} {l : List Int} (h0 : checkT t = 0) (h : ∀ i, i < l.length → 0 ≤ l.getD i default ∧ l.getD i default ≤ (t.hs.length : Int) - 1) : askE t l = 0 := by
  rw [askE, if_neg (not_not_intro h0), if_pos]; rw [List.all_eq_true]; intro x hx; obtain ⟨i, hi, rfl⟩ := List.getElem_of_mem hx; rw [decide_eq_true_eq, ← A7 hi]; exact h i hi
theorem iz8 {t : Tr} {l : List Int} (h : askE t l = 0) : checkT t = 0 := by
  unfold askE at h
  split at h
  · exact h
  rename_i h1; exact Classical.not_not.1 h1
theorem ask_in {t : Tr} {l : List Int} (h : askE t l = 0) {x : Int} (hx : x ∈ l) : 0 ≤ x ∧ x ≤ (t.hs.length : Int) - 1 := by
  have h0 := iz8 h; rw [askE, if_neg (not_not_intro h0)] at h
  split at h
  · rename_i h1; exact of_decide_eq_true (List.all_eq_true.1 h1 x hx)
  omega
set_option maxHeartbeats 1000000 in
theorem bj3 {C : Option Addr} {cc : Nat} {A B : Option Addr} {ca cb : Nat} (cs : List Cl) (hs : List Hd) (l : List Int) (hca : cs.length ≤ ca) (hcb : hs.length ≤ cb) (ha : ∀ h ∈ hs, h.2.2.2.l.length ≤ 1000000) (hl : l.length ≤ 1000000) : Meets Tryz.prog F.yZ [.agg #[.slice A cs.length ca, .slice B hs.length cb], .slice C l.length cc] { LI := [Row A (rows cs), RowsF B hs Hd.row, Row C (rows l)], val := fun x : Nat × OutC × OutC => .tuple #[if askE (trOf cs hs) l = 0 then .pointer (some ⟨x.1, 0, none⟩) else .pointer none, int (askE (trOf cs hs) l)], LO := fun x => if askE (trOf cs hs) l = 0 then beginL cs hs A ca B cb x else [] } := by
 refine i9 F.lj3 rfl r6 fun w0 => ?_; refine i8 ?_; refine H6 rfl rfl fun gB => ?_; refine d5 rfl (d5 rfl (d8 ?_)); refine mT ⟨fun _ : Nat × OutC × OutC => True, fun x => [(1, .slice C l.length cc), (2, .pointer (c8 gB)), (6, if checkT (trOf cs hs) = 0 then .pointer (some ⟨x.1, 0, none⟩) else .pointer none), (7, int (checkT (trOf cs hs)))], fun _ => [(gB, .cells #[.slice A cs.length ca, .slice B hs.length cb] T.C2 (0, 0))], fun x => (if checkT (trOf cs hs) = 0 then beginL cs hs A ca B cb x else []) ++ [Row A (rows cs), RowsF B hs Hd.row, Row C (rows l)]⟩ ?_ ?_
 ·skip
  refine j8 ?_
  first | refine B5 rfl T.v5 T.v9 rfl mB (by rfl) ?_ | refine C1 rfl T.v5 T.v9 rfl mB (by rfl) ?_ | refine u7 rfl T.v5 T.v9 rfl rfl (t5 mB (t9 (by omega))) ?_
  refine k5 F.cq0 rfl rfl (wM cs hs hca hcb ha) p6 mC fun x _ => ?_; refine c7 rfl (p8 rfl rfl rfl (p8 rfl rfl rfl (d5 rfl (d5 rfl (d4 ?_))))); exact Y0 _ x trivial mC (List.Sublist.refl _) (LSub.of_mem fun F h => h)
 refine fun x _ => ?_
 dsimp only
 refine j4 (i8 (c7 rfl (N5 rfl rfl rfl (d8 ?_))))
 first | refine m3 rfl (fun hb1 => ?_) (fun hb1 => ?_) | refine j7 rfl (fun hb1 => ?_) (fun hb1 => ?_)
 ·have hb1' := hb1; try simp at hb1'
  have hE : askE (trOf cs hs) l = checkT (trOf cs hs) := by rw [askE, if_pos hb1]
  have hnz : ¬ askE (trOf cs hs) l = 0 := by rw [hE]; exact hb1
  refine i8 (c7 rfl (d5 rfl (d5 rfl (d8 (N4 ?_))))); exact ret2 (0, (none, 0), (none, 0)) rfl rfl rfl (by show Value.tuple #[if askE (trOf cs hs) l = 0 then _ else _, int (askE (trOf cs hs) l)] = _; rw [if_neg hnz, hE]) rfl trivial nil_sb (by show LSub _ (if askE (trOf cs hs) l = 0 then _ else []); rw [if_neg hnz]; trivial)
 have hb1' := hb1; try simp at hb1'
 have h0 := Classical.not_not.1 hb1; rw [if_pos h0, if_pos h0]; have hln := W1 cs hs; have hok := pq5 h0; have h6 : cs.length ≤ 6 := hok.c6; have h6h := hok.h6; rw [W1] at h6h; have hcl : ∀ i, i < cs.length → ClsOK cs i := hok.c; obtain ⟨gl, ⟨oa, oc⟩, ⟨ka, kc⟩⟩ := x; show HC _ _ _ _ _ [Row (c8 gl) [.slice A cs.length ca, .slice B hs.length cb, .slice oa cs.length oc, .slice ka hs.length kc], Row oa (rows (masksN cs cs.length)), Row ka (rows (kindsN hs hs.length)), Row A (rows cs), RowsF B hs Hd.row, Row C (rows l)]; refine k6 (j6 (j4 (i8 (c7 rfl ?_)))); refine l7 rfl T.t7 rfl ?_; refine c7 rfl (d8 (k9 ?_)); refine w3 (β := Nat) ⟨fun k => k ≤ l.length ∧ ∀ i, i < k → 0 ≤ l.getD i default ∧ l.getD i default ≤ (hs.length : Int) - 1, fun k => [(2, .pointer (c8 gB)), (6, .pointer (c8 gl)), (18, .slice C l.length cc), (19, int l.length), (20, int k)], fun _ => [(gB, .cells #[.slice A cs.length ca, .slice B hs.length cb] T.C2 (0, 0))], fun _ => [Row (c8 gl) [.slice A cs.length ca, .slice B hs.length cb, .slice oa cs.length oc, .slice ka hs.length kc], Row oa (rows (masksN cs cs.length)), Row ka (rows (kindsN hs hs.length)), Row A (rows cs), RowsF B hs Hd.row, Row C (rows l)]⟩ (fun k => l.length - k) 0 ⟨Nat.zero_le _, fun i hi => by omega⟩ mC (List.Sublist.refl _) mC fun k hk => ?_; obtain ⟨hk, ht⟩ := hk; refine i8 (B6 rfl rfl rfl (d8 (j4 ?_)))
 first | refine m3 rfl (fun hb2 => ?_) (fun hb2 => ?_) | refine j7 rfl (fun hb2 => ?_) (fun hb2 => ?_)
 ·have hb2' := hb2; try simp at hb2'
  have hk2 : k < l.length := by omega
  refine k6 (j6 (j4 (k9 (i8 ?_)))); refine v6 (α := Int) _ _ rfl T.t7 T.w9 rfl rfl rfl mB rfl (by omega) (by decide) (b8 rfl T.b9 rfl (d6 mB (c9 (by omega) rfl)) ?_); refine d5 rfl (k8 (c7 rfl ?_))
  first | refine a9 ⟨_, 1, none⟩ rfl rfl T.t3 rfl ?_ | refine a9 _ rfl rfl T.t3 rfl ?_
  first | refine b8 rfl T.m6 rfl (j0 mB rfl) ?_ | refine b8 rfl T.m6 rfl (j3 mB rfl) ?_ | refine b8 rfl T.m6 rfl (d6 mB (c9 (by omega) rfl)) ?_ | refine b8 rfl T.m6 rfl (d7 mB (rows_get (by omega) rfl)) ?_ | refine b8 rfl T.m6 rfl (j5 mB rfl) ?_
  refine l7 rfl T.B4 rfl (S1 _ rfl rfl rfl rfl r5 ?_); refine k5 F.Q3 rfl rfl (K4 _ _ _) p6 trivial fun _ _ => ?_; refine M7 rfl rfl (d8 ?_)
  first | refine m3 rfl (fun hb3 => ?_) (fun hb3 => ?_) | refine j7 rfl (fun hb3 => ?_) (fun hb3 => ?_)
  ·have hb3' := hb3; try simp at hb3'
   have hE : askE (trOf cs hs) l = 3 := ask_bad h0 hk2 (by rw [hln]; exact nbw hb3); have hnz : ¬ askE (trOf cs hs) l = 0 := by rw [hE]; decide
   refine i8 (d5 rfl (d5 rfl (d8 (l5 (G8 (C4 (G8 ?_))))))); exact ret2 (0, (none, 0), (none, 0)) rfl rfl rfl (by show Value.tuple #[if askE (trOf cs hs) l = 0 then _ else _, int (askE (trOf cs hs) l)] = _; rw [if_neg hnz, hE]) rfl trivial nil_sb (by show LSub _ (if askE (trOf cs hs) l = 0 then _ else []); rw [if_neg hnz]; trivial)
  have hb3' := hb3; try simp at hb3'
  refine k6 (y6 (j6 (j8 ?_))); refine v4 _ rfl rfl rfl rfl r5 ?_; refine c7 rfl (d4 ?_); have hin := bw hb3; exact again _ (k + 1) ⟨by omega, fun i hi => by rcases Nat.lt_or_ge i k with h | h; exact ht i h; rw [show i = k by omega]; exact hin⟩ (D5 (by omega)) mC (List.Sublist.refl _) mC
 have hb2' := hb2; try simp at hb2'
 have hk2 : k = l.length := by omega
 subst hk2; have hE : askE (trOf cs hs) l = 0 := ask_ok h0 (by rw [hln]; exact ht); refine u9 (D6 (u5 (j6 (i8 (c7 rfl (d5 rfl (d5 rfl (d8 ?_)))))))); refine l5 ?_; exact ret2 (gl, (oa, oc), (ka, kc)) rfl rfl rfl (by show Value.tuple #[if askE (trOf cs hs) l = 0 then _ else _, int (askE (trOf cs hs) l)] = _; rw [if_pos hE, hE]) rfl trivial nil_sb (by show LSub _ (if askE (trOf cs hs) l = 0 then _ else []); rw [if_pos hE]; exact mC)
end Go.Proofs.YtcdopfjiadifhaaGreatDoor
end
section
namespace Go.Proofs.YtcdopfjiadifhaaGreatDoor
open Go Go.W
set_option maxRecDepth 20000
attribute [local irreducible] HL HC HQ HB Row Rows2 Blk Facts
def followE (t : Tr) (h : Int) : Int × Int × Int := if ¬ askE t [h] = 0 then (0, 0, askE t [h]) else if (followT t h).isSome = false then (0, 0, 9) else (((followT t h).getD (0, 0)).1, ((followT t h).getD (0, 0)).2, 0)
def MaySet (t : Tr) (b : Str) (k m : Nat) : Prop := m < 256 ∧ ∀ j, m.testBit j = (List.range k).any fun h => leadsB t b h j
def mayK (m k : Nat) : List Int := ((List.range k).filter fun i => m.testBit i).map fun i : Nat => (i : Int)
end Go.Proofs.YtcdopfjiadifhaaGreatDoor
end
section
namespace Go.Proofs.YtcdopfjiadifhaaGreatDoor
open Go Go.W
set_option maxRecDepth 20000
attribute [local irreducible] HL HC HQ HB Row Rows2 Blk Facts
def mayE (t : Tr) (b : Str) : List Int × Int := if ¬ checkT t = 0 then ([], checkT t) else (mayT t b, 0)
def shortE (t : Tr) (h : Int) : Str × Int := if ¬ askE t [h] = 0 then ([], askE t [h]) else match shortT t h with | none => ([], 11) | some s => (s, 0)
end Go.Proofs.YtcdopfjiadifhaaGreatDoor
end
section
namespace Go.Proofs.YtcdopfjiadifhaaGreatDoor
open Go Go.W
set_option maxRecDepth 20000
attribute [local irreducible] HL HC HQ HB Row Rows2 Blk Facts
end Go.Proofs.YtcdopfjiadifhaaGreatDoor
end
section
namespace Go.Proofs.YtcdopfjiadifhaaGreatDoor
open Go Go.W
set_option maxRecDepth 20000
attribute [local irreducible] HL HC HQ HB Row Rows2 Blk Facts
def hitB (s : Str) (h : Hd) : Bool := decide (h.1 = s) && decide (¬ h.2.1 = -1)
def nameOf (cs : List Cl) (c : Int) : Str := (cs.getD c.toNat default).1
end Go.Proofs.YtcdopfjiadifhaaGreatDoor
end
section
namespace Go.Proofs.YtcdopfjiadifhaaGreatDoor
open Go Go.W
set_option maxRecDepth 20000
attribute [local irreducible] HL HC HQ HB Row Rows2 Blk Facts
def dice (g : Nat) (A : Option Addr) (c : Nat) (nums : List Int) (s : Int × Int) : Nat × Obj := (g, .cells #[.slice A nums.length c, int s.1, .int .u64 s.2] T.wD (0, 0))
def DOK (nums : List Int) (s : Int × Int) : Prop := 0 ≤ s.1 ∧ s.1 ≤ nums.length ∧ 0 ≤ s.2 ∧ s.2 < 18446744073709551616
def diceCon {β : Type} (g : Nat) (A : Option Addr) (c : Nat) (nums : List Int) (s : Int × Int) (inv : β → Prop) (val : β → Value) (LO : β → List Fact) : Con ((Int × Int) × β) :=
  { hpI := [dice g A c nums s], LI := [Row A (rows nums)], inv := fun x => DOK nums x.1 ∧ inv x.2, val := fun x => val x.2, hpO := fun x => [dice g A c nums x.1], LO := fun x => LO x.2 }
theorem uX {g : Nat} {A : Option Addr} {c : Nat} {nums : List Int} {s : Int × Int} (hn : nums.length ≤ 9223372036854775807) (hs : DOK nums s) :
    Meets Tryz.prog F.mL [.pointer (c8 g)] (diceCon g A c nums s (fun z : Int => 0 ≤ z ∧ z < 18446744073709551616) (fun z => .int .u64 z) (fun _ => [])) := by
 obtain ⟨p, q⟩ := s; obtain ⟨h1, h2, h3, h4⟩ := hs; simp only at h1 h2 h3 h4; obtain ⟨pn, rfl⟩ := Int.eq_ofNat_of_zero_le h1; refine i9 F.dj5 rfl r6 fun w0 => ?_; refine i8 (d5 rfl (d8 (j4 ?_))); refine I5 11 mixed (by decide) (by decide) rfl rfl (l9 (fun w1 => c7 rfl (q_z rfl)) (l9 (fun w1 => c7 rfl (q_z rfl)) (l9 (fun w1 => p9 rfl rfl (q_z rfl)) ?_)))
 apply m8 _ rfl rfl rfl
 ·intro w1
  first | refine a9 ⟨_, 2, none⟩ rfl rfl T.l8 rfl ?_ | refine a9 _ rfl rfl T.l8 rfl ?_
  refine d4 ?_; exact k4 rfl
 apply m8 _ rfl rfl rfl
 ·intro w1
  first | refine b8 rfl T.y7 rfl (j3 mB rfl) ?_ | refine b8 rfl T.y7 rfl (j0 mB rfl) ?_ | refine b8 rfl T.y7 rfl (d6 mB (c9 (by omega) rfl)) ?_ | refine b8 rfl T.y7 rfl (d7 mB (rows_get (by omega) rfl)) ?_
  refine d4 ?_; exact k4 rfl
 refine l9 (fun w1 => c7 rfl (q_z rfl)) (l9 (fun w1 => p9 rfl rfl (q_z rfl)) ?_)
 apply m8 _ rfl rfl rfl
 ·intro w1
  first | refine a9 ⟨_, 2, none⟩ rfl rfl T.l8 rfl ?_ | refine a9 _ rfl rfl T.l8 rfl ?_
  refine d4 ?_; exact k4 rfl
 apply m8 _ rfl rfl rfl
 ·intro w1
  first | refine b8 rfl T.y7 rfl (j3 mB rfl) ?_ | refine b8 rfl T.y7 rfl (j0 mB rfl) ?_ | refine b8 rfl T.y7 rfl (d6 mB (c9 (by omega) rfl)) ?_ | refine b8 rfl T.y7 rfl (d7 mB (rows_get (by omega) rfl)) ?_
  refine d4 ?_; exact k4 rfl
 refine l9 (fun w1 => m7 _ rfl rfl rfl (fun _ => rfl) (fun _ => rfl) (q_z rfl)) (l9 (fun w1 => m7 _ rfl rfl rfl (fun _ => rfl) (fun _ => rfl) (q_z rfl)) ?_); refine D1 ⟨rfl, ?_⟩; refine p9 rfl rfl ?_
 first | refine a9 ⟨_, 2, none⟩ rfl rfl T.l8 rfl ?_ | refine a9 _ rfl rfl T.l8 rfl ?_
 refine z9 rfl rfl (by first | exact .refl _ | exact perm2 _ _ _ | exact perm3 _ _ _ _ | exact perm4 _ _ _ _ _) T.zA (by rfl) (by rfl) ?_; refine d8 (j4 ?_); refine I5 11 mixed (by decide) (by decide) rfl rfl (l9 (fun w1 => c7 rfl (q_z rfl)) (l9 (fun w1 => c7 rfl (q_z rfl)) (l9 (fun w1 => p9 rfl rfl (q_z rfl)) ?_)))
 apply m8 _ rfl rfl rfl
 ·intro w1
  first | refine a9 ⟨_, 2, none⟩ rfl rfl T.l8 rfl ?_ | refine a9 _ rfl rfl T.l8 rfl ?_
  refine d4 ?_; exact k4 rfl
 apply m8 _ rfl rfl rfl
 ·intro w1
  first | refine b8 rfl T.y7 rfl (j3 mB rfl) ?_ | refine b8 rfl T.y7 rfl (j0 mB rfl) ?_ | refine b8 rfl T.y7 rfl (d6 mB (c9 (by omega) rfl)) ?_ | refine b8 rfl T.y7 rfl (d7 mB (rows_get (by omega) rfl)) ?_
  refine d4 ?_; exact k4 rfl
 refine l9 (fun w1 => c7 rfl (q_z rfl)) (l9 (fun w1 => p9 rfl rfl (q_z rfl)) ?_)
 apply m8 _ rfl rfl rfl
 ·intro w1
  first | refine a9 ⟨_, 2, none⟩ rfl rfl T.l8 rfl ?_ | refine a9 _ rfl rfl T.l8 rfl ?_
  refine d4 ?_; exact k4 rfl
 apply m8 _ rfl rfl rfl
 ·intro w1
  first | refine b8 rfl T.y7 rfl (j3 mB rfl) ?_ | refine b8 rfl T.y7 rfl (j0 mB rfl) ?_ | refine b8 rfl T.y7 rfl (d6 mB (c9 (by omega) rfl)) ?_ | refine b8 rfl T.y7 rfl (d7 mB (rows_get (by omega) rfl)) ?_
  refine d4 ?_; exact k4 rfl
 refine l9 (fun w1 => m7 _ rfl rfl rfl (fun _ => rfl) (fun _ => rfl) (q_z rfl)) (l9 (fun w1 => m7 _ rfl rfl rfl (fun _ => rfl) (fun _ => rfl) (q_z rfl)) ?_); refine D1 ⟨rfl, ?_⟩; refine p9 rfl rfl ?_
 first | refine a9 ⟨_, 2, none⟩ rfl rfl T.l8 rfl ?_ | refine a9 _ rfl rfl T.l8 rfl ?_
 refine z9 rfl rfl (by first | exact .refl _ | exact perm2 _ _ _ | exact perm3 _ _ _ _ | exact perm4 _ _ _ _ _) T.zA (by rfl) (by rfl) ?_; refine d8 (j4 ?_); refine I5 11 mixed (by decide) (by decide) rfl rfl (l9 (fun w1 => c7 rfl (q_z rfl)) (l9 (fun w1 => c7 rfl (q_z rfl)) (l9 (fun w1 => p9 rfl rfl (q_z rfl)) ?_)))
 apply m8 _ rfl rfl rfl
 ·intro w1
  first | refine a9 ⟨_, 2, none⟩ rfl rfl T.l8 rfl ?_ | refine a9 _ rfl rfl T.l8 rfl ?_
  refine d4 ?_; exact k4 rfl
 apply m8 _ rfl rfl rfl
 ·intro w1
  first | refine b8 rfl T.y7 rfl (j3 mB rfl) ?_ | refine b8 rfl T.y7 rfl (j0 mB rfl) ?_ | refine b8 rfl T.y7 rfl (d6 mB (c9 (by omega) rfl)) ?_ | refine b8 rfl T.y7 rfl (d7 mB (rows_get (by omega) rfl)) ?_
  refine d4 ?_; exact k4 rfl
 refine l9 (fun w1 => c7 rfl (q_z rfl)) (l9 (fun w1 => p9 rfl rfl (q_z rfl)) ?_)
 apply m8 _ rfl rfl rfl
 ·intro w1
  first | refine a9 ⟨_, 2, none⟩ rfl rfl T.l8 rfl ?_ | refine a9 _ rfl rfl T.l8 rfl ?_
  refine d4 ?_; exact k4 rfl
 apply m8 _ rfl rfl rfl
 ·intro w1
  first | refine b8 rfl T.y7 rfl (j3 mB rfl) ?_ | refine b8 rfl T.y7 rfl (j0 mB rfl) ?_ | refine b8 rfl T.y7 rfl (d6 mB (c9 (by omega) rfl)) ?_ | refine b8 rfl T.y7 rfl (d7 mB (rows_get (by omega) rfl)) ?_
  refine d4 ?_; exact k4 rfl
 refine l9 (fun w1 => m7 _ rfl rfl rfl (fun _ => rfl) (fun _ => rfl) (q_z rfl)) (l9 (fun w1 => m7 _ rfl rfl rfl (fun _ => rfl) (fun _ => rfl) (q_z rfl)) ?_); refine D1 ⟨rfl, ?_⟩; refine p9 rfl rfl ?_
 first | refine a9 ⟨_, 2, none⟩ rfl rfl T.l8 rfl ?_ | refine a9 _ rfl rfl T.l8 rfl ?_
 refine z9 rfl rfl (by first | exact .refl _ | exact perm2 _ _ _ | exact perm3 _ _ _ _ | exact perm4 _ _ _ _ _) T.zA (by rfl) (by rfl) ?_; refine d8 (dq1 ?_); refine I5 9 mixed (by decide) (by decide) rfl rfl (l9 (fun w1 => c7 rfl (q_z rfl)) (l9 (fun w1 => p9 rfl rfl (q_z rfl)) ?_))
 apply m8 _ rfl rfl rfl
 ·intro w1
  first | refine a9 ⟨_, 1, none⟩ rfl rfl T.C7 rfl ?_ | refine a9 _ rfl rfl T.C7 rfl ?_
  refine d4 ?_; exact k4 rfl
 apply m8 _ rfl rfl rfl
 ·intro w1
  first | refine b8 rfl T.b9 rfl (j3 mB rfl) ?_ | refine b8 rfl T.b9 rfl (j0 mB rfl) ?_ | refine b8 rfl T.b9 rfl (d6 mB (c9 (by omega) rfl)) ?_ | refine b8 rfl T.b9 rfl (d7 mB (rows_get (by omega) rfl)) ?_
  refine d4 ?_; exact k4 rfl
 refine l9 (fun w1 => c7 rfl (q_z rfl)) (l9 (fun w1 => p9 rfl rfl (q_z rfl)) ?_)
 apply m8 _ rfl rfl rfl
 ·intro w1
  first | refine a9 ⟨_, 0, none⟩ rfl rfl T.L3 rfl ?_ | refine a9 _ rfl rfl T.L3 rfl ?_
  refine d4 ?_; exact k4 rfl
 apply m8 _ rfl rfl rfl
 ·intro w1
  first | refine b8 rfl T.i7 rfl (j3 mB rfl) ?_ | refine b8 rfl T.i7 rfl (j0 mB rfl) ?_ | refine b8 rfl T.i7 rfl (d6 mB (c9 (by omega) rfl)) ?_ | refine b8 rfl T.i7 rfl (d7 mB (rows_get (by omega) rfl)) ?_
  refine d4 ?_; exact k4 rfl
 refine l9 (fun w1 => l7 rfl T.t7 rfl (q_z rfl)) ?_; refine D1 ⟨rfl, ?_⟩; refine B6 rfl rfl rfl (d8 ?_)
 first | refine m3 rfl (fun hb1 => ?_) (fun hb1 => ?_) | refine j7 rfl (fun hb1 => ?_) (fun hb1 => ?_)
 ·have hb1' := hb1; try simp at hb1'
  refine j4 ?_; refine I5 18 mixed (by decide) (by decide) rfl rfl (l9 (fun w1 => c7 rfl (q_z rfl)) (l9 (fun w1 => c7 rfl (q_z rfl)) (l9 (fun w1 => p9 rfl rfl (q_z rfl)) ?_)))
  apply m8 _ rfl rfl rfl
  ·intro w1
   first | refine a9 ⟨_, 2, none⟩ rfl rfl T.l8 rfl ?_ | refine a9 _ rfl rfl T.l8 rfl ?_
   refine d4 ?_; exact k4 rfl
  apply m8 _ rfl rfl rfl
  ·intro w1
   first | refine b8 rfl T.y7 rfl (j3 mB rfl) ?_ | refine b8 rfl T.y7 rfl (j0 mB rfl) ?_ | refine b8 rfl T.y7 rfl (d6 mB (c9 (by omega) rfl)) ?_ | refine b8 rfl T.y7 rfl (d7 mB (rows_get (by omega) rfl)) ?_
   refine d4 ?_; exact k4 rfl
  refine l9 (fun w1 => c7 rfl (q_z rfl)) (l9 (fun w1 => p9 rfl rfl (q_z rfl)) ?_)
  apply m8 _ rfl rfl rfl
  ·intro w1
   first | refine a9 ⟨_, 0, none⟩ rfl rfl T.L3 rfl ?_ | refine a9 _ rfl rfl T.L3 rfl ?_
   refine d4 ?_; exact k4 rfl
  apply m8 _ rfl rfl rfl
  ·intro w1
   first | refine b8 rfl T.i7 rfl (j3 mB rfl) ?_ | refine b8 rfl T.i7 rfl (j0 mB rfl) ?_ | refine b8 rfl T.i7 rfl (d6 mB (c9 (by omega) rfl)) ?_ | refine b8 rfl T.i7 rfl (d7 mB (rows_get (by omega) rfl)) ?_
   refine d4 ?_; exact k4 rfl
  refine l9 (fun w1 => c7 rfl (q_z rfl)) (l9 (fun w1 => p9 rfl rfl (q_z rfl)) ?_)
  apply m8 _ rfl rfl rfl
  ·intro w1
   first | refine a9 ⟨_, 1, none⟩ rfl rfl T.C7 rfl ?_ | refine a9 _ rfl rfl T.C7 rfl ?_
   refine d4 ?_; exact k4 rfl
  apply m8 _ rfl rfl rfl
  ·intro w1
   first | refine b8 rfl T.b9 rfl (j3 mB rfl) ?_ | refine b8 rfl T.b9 rfl (j0 mB rfl) ?_ | refine b8 rfl T.b9 rfl (d6 mB (c9 (by omega) rfl)) ?_ | refine b8 rfl T.b9 rfl (d7 mB (rows_get (by omega) rfl)) ?_
   refine d4 ?_; exact k4 rfl
  refine l9 (fun w1 => v6 (α := Int) _ pn rfl T.t7 T.w9 rfl rfl rfl m1 rfl (by omega) (by decide) (q_z rfl)) (l9 (fun w1 => b8 rfl T.b9 rfl (d6 mB (c9 (by omega) rfl)) (q_z rfl)) (l9 (fun w1 => X5 _ rfl T.pP T.cj9 rfl rfl (q_z rfl)) (l9 (fun w1 => m7 _ rfl rfl rfl (fun _ => rfl) (fun _ => rfl) (q_z rfl)) (l9 (fun w1 => m7 _ rfl rfl rfl (fun _ => rfl) (fun _ => rfl) (q_z rfl)) ?_)))); refine D1 ⟨rfl, ?_⟩; refine p9 rfl rfl ?_
  first | refine a9 ⟨_, 2, none⟩ rfl rfl T.l8 rfl ?_ | refine a9 _ rfl rfl T.l8 rfl ?_
  refine z9 rfl rfl (by first | exact .refl _ | exact perm2 _ _ _ | exact perm3 _ _ _ _ | exact perm4 _ _ _ _ _) T.zA (by rfl) (by rfl) ?_; refine d8 (j8 (c7 rfl (p9 rfl rfl ?_)))
  first | refine a9 ⟨_, 1, none⟩ rfl rfl T.C7 rfl ?_ | refine a9 _ rfl rfl T.C7 rfl ?_
  first | refine b8 rfl T.b9 rfl (j0 mB rfl) ?_ | refine b8 rfl T.b9 rfl (j3 mB rfl) ?_ | refine b8 rfl T.b9 rfl (d6 mB (c9 (by omega) rfl)) ?_ | refine b8 rfl T.b9 rfl (d7 mB (rows_get (by omega) rfl)) ?_
  refine v4 _ rfl rfl rfl rfl r5 (p9 rfl rfl ?_)
  first | refine a9 ⟨_, 1, none⟩ rfl rfl T.C7 rfl ?_ | refine a9 _ rfl rfl T.C7 rfl ?_
  refine z9 rfl rfl (by first | exact .refl _ | exact perm2 _ _ _ | exact perm3 _ _ _ _ | exact perm4 _ _ _ _ _) T.w9 (by rfl) (by rfl) ?_; refine k8 (c7 rfl (p9 rfl rfl ?_))
  first | refine a9 ⟨_, 2, none⟩ rfl rfl T.l8 rfl ?_ | refine a9 _ rfl rfl T.l8 rfl ?_
  first | refine b8 rfl T.y7 rfl (j0 mB rfl) ?_ | refine b8 rfl T.y7 rfl (j3 mB rfl) ?_ | refine b8 rfl T.y7 rfl (d6 mB (c9 (by omega) rfl)) ?_ | refine b8 rfl T.y7 rfl (d7 mB (rows_get (by omega) rfl)) ?_
  refine d5 rfl (k8 (c7 rfl (c7 rfl ?_))); refine m7 _ rfl rfl rfl (fun _ => rfl) (fun _ => rfl) (m7 _ rfl rfl rfl (fun _ => rfl) (fun _ => rfl) (m7 _ rfl rfl rfl (fun _ => rfl) (fun _ => rfl) ?_)); refine d5 rfl (k8 (c7 rfl (c7 rfl ?_))); refine m7 _ rfl rfl rfl (fun _ => rfl) (fun _ => rfl) (m7 _ rfl rfl rfl (fun _ => rfl) (fun _ => rfl) ?_); refine d5 rfl (d8 (l5 ?_)); exact ret1 ((_, _), _) rfl rfl rfl ⟨⟨by simp only; omega, by simp only; omega, (wrapU _).1, (wrapU _).2⟩, wrapU _⟩ (.refl _) trivial
 have hb1' := hb1; try simp at hb1'
 refine k6 (j6 (i8 (c7 rfl (p9 rfl rfl ?_))))
 first | refine a9 ⟨_, 2, none⟩ rfl rfl T.l8 rfl ?_ | refine a9 _ rfl rfl T.l8 rfl ?_
 first | refine b8 rfl T.y7 rfl (j0 mB rfl) ?_ | refine b8 rfl T.y7 rfl (j3 mB rfl) ?_ | refine b8 rfl T.y7 rfl (d6 mB (c9 (by omega) rfl)) ?_ | refine b8 rfl T.y7 rfl (d7 mB (rows_get (by omega) rfl)) ?_
 refine d5 rfl (k8 (c7 rfl (c7 rfl ?_))); refine m7 _ rfl rfl rfl (fun _ => rfl) (fun _ => rfl) (m7 _ rfl rfl rfl (fun _ => rfl) (fun _ => rfl) (m7 _ rfl rfl rfl (fun _ => rfl) (fun _ => rfl) ?_)); refine d5 rfl (k8 (c7 rfl (c7 rfl ?_))); refine m7 _ rfl rfl rfl (fun _ => rfl) (fun _ => rfl) (m7 _ rfl rfl rfl (fun _ => rfl) (fun _ => rfl) ?_); refine d5 rfl (d8 (l5 ?_)); exact ret1 ((_, _), _) rfl rfl rfl ⟨⟨by simp only; omega, by simp only; omega, (wrapU _).1, (wrapU _).2⟩, wrapU _⟩ (.refl _) trivial
theorem rj2 {z n : Int} (hz : 0 ≤ z) (hn : 0 ≤ n) : 0 ≤ z.tmod (n + 1) ∧ z.tmod (n + 1) ≤ n := by
  have h1 := Int.tmod_nonneg (n + 1) hz; have h2 := Int.tmod_lt_of_pos z (show 0 < n + 1 by omega)
  omega
def ToInv (n z : Int) : Prop := 0 ≤ z ∧ (1 ≤ n → z ≤ n) ∧ (n < 1 → z = 0)
theorem C5 {g : Nat} {A : Option Addr} {c : Nat} {nums : List Int} {s : Int × Int} (n : Int) (hn : nums.length ≤ 9223372036854775807) (hs : DOK nums s) (hI : n ≤ 9223372036854775806) :
    Meets Tryz.prog F.rE [.pointer (c8 g), int n] (diceCon g A c nums s (ToInv n) (fun z => int z) (fun _ => [])) := by
 refine i9 F.gz5 rfl r6 fun w0 => ?_; refine i8 (d5 rfl (d8 (j4 (i8 (c7 rfl (B6 rfl rfl rfl (d8 ?_)))))))
 first | refine m3 rfl (fun hb1 => ?_) (fun hb1 => ?_) | refine j7 rfl (fun hb1 => ?_) (fun hb1 => ?_)
 ·have hb1' := hb1; try simp at hb1'
  refine i8 (d5 rfl (d8 (N4 ?_))); exact ret1 (s, 0) rfl rfl rfl ⟨hs, by omega, by intro; omega, by intro; rfl⟩ (.refl _) trivial
 have hb1' := hb1; try simp at hb1'
 refine k6 (j6 (i8 (c7 rfl ?_))); refine k5 F.bq2 rfl rfl (uX hn hs) (.refl _) ⟨m0, trivial⟩ fun x hx => ?_; obtain ⟨s1, z⟩ := x; obtain ⟨hs1, hz⟩ := hx; simp only at hz; refine m7 _ rfl rfl rfl (fun _ => rfl) (fun _ => rfl) (c7 rfl (v4 _ rfl rfl rfl rfl r5 (X5 (n + 1) rfl T.pP T.cj9 rfl (IntWalk.u64_in _ (by omega)) (r_rem rfl rfl rfl (by omega) ?_)))); have hm := rj2 (z := z.fdiv (2 ^ min (Int.toNat 16) IntKind.u64.bits)) (n := n) (Int.fdiv_nonneg hz.1 (by decide)) (by omega); refine X5 ((z.fdiv (2 ^ min (Int.toNat 16) IntKind.u64.bits)).tmod (n + 1)) rfl T.cj9 T.pP rfl (IntWalk.i64_in ((z.fdiv (2 ^ min (Int.toNat 16) IntKind.u64.bits)).tmod (n + 1)) (by omega)) ?_; refine d5 rfl (d8 (l5 ?_)); exact ret1 (s1, _) rfl rfl rfl ⟨hs1, hm.1, fun _ => hm.2, fun h => by omega⟩ (.refl _) trivial
def lineWords : List Str := [[97], [98], [99], [97, 110, 32, 49], [98, 101, 110], [99, 121, 100, 32, 49, 50]]
def PageOK (l : List Str) : Prop := ∀ s ∈ l, s ∈ lineWords
end Go.Proofs.YtcdopfjiadifhaaGreatDoor
end
section
namespace Go.Proofs.YtcdopfjiadifhaaGreatDoor
open Go Go.W
set_option maxRecDepth 20000
attribute [local irreducible] HL HC HQ HB Row Rows2 Blk Facts
def FromInv (lo hi z : Int) : Prop := lo ≤ z ∧ (lo < hi → z ≤ hi) ∧ (hi ≤ lo → z = lo)
def sortsL : List Str := [[102, 111, 111, 100], [98, 114, 101, 97, 100], [99, 108, 111, 116, 104], [104, 97, 116, 115], [119, 111, 111, 100], [105, 114, 111, 110], [98, 101, 101, 114], [105, 110], [115, 101, 101]]
def callingsL : List Str := [[98, 97, 107, 101, 114], [98, 97, 107, 101, 114, 115], [98, 111, 110, 110, 101, 116, 115], [98, 114, 101, 119, 101, 114], [98, 114, 117, 115, 104, 101, 115], [98, 117, 116, 99, 104, 101, 114], [99, 97, 110, 100, 108, 101, 115], [99, 111, 111, 112, 101, 114], [99, 111, 111, 112, 101, 114, 115], [99, 117, 116, 108, 101, 114], [104, 97, 116, 116, 101, 114], [104, 111, 115, 105, 101, 114], [109, 101, 114, 99, 101, 114], [109, 105, 108, 108, 105, 110, 101, 114], [116, 97, 105, 108, 111, 114], [116, 97, 110, 110, 101, 114]]
theorem xN {A : Option Addr} {c : Nat} (nums : List Int) : Meets Tryz.prog F.rC [.slice A nums.length c] { LI := [Row A (rows nums)], val := fun g : Nat => .pointer (c8 g), hpO := fun g => [dice g A c nums (0, 11400714819323198485)] } := by
 refine i9 F.gz3 rfl r6 fun w0 => ?_; refine i8 (d5 rfl (k8 (c7 rfl ?_))); refine u4 _ rfl rfl (fun _ => T.kD ..) ?_; refine H6 rfl rfl fun gB => ?_; refine d5 rfl (d8 (l5 ?_)); exact ret1 gB rfl rfl rfl trivial (.refl _) trivial
theorem Q0 {g : Nat} {A : Option Addr} {c : Nat} {nums : List Int} {s : Int × Int} (lo hi : Int) (hn : nums.length ≤ 9223372036854775807) (hs : DOK nums s) (hI : -1000 ≤ lo ∧ lo ≤ 1000 ∧ -1000 ≤ hi ∧ hi ≤ 1000) :
    Meets Tryz.prog F.jU [.pointer (c8 g), int lo, int hi] (diceCon g A c nums s (FromInv lo hi) (fun z => int z) (fun _ => [])) := by
 refine i9 F.bq3 rfl r6 fun w0 => ?_; refine i8 (d5 rfl (k8 (c7 rfl (c7 rfl (c7 rfl (c7 rfl ?_)))))); refine S1 _ rfl rfl rfl rfl r5 ?_; refine k5 F.E8 rfl rfl (C5 (hi - lo) hn hs (by omega)) (.refl _) ⟨m0, trivial⟩ fun x hx => ?_; obtain ⟨s1, z⟩ := x; obtain ⟨hs1, hz⟩ := hx; simp only [ToInv] at hz
 have hz1 : 0 ≤ z ∧ z ≤ 2000 := by
   refine ⟨hz.1, ?_⟩
   by_cases h1 : 1 ≤ hi - lo
   · have := hz.2.1 h1; omega
   have := hz.2.2 (by omega); omega
 refine v4 (lo + z) rfl rfl rfl rfl r5 ?_; refine d5 rfl (d8 (l5 ?_)); exact ret1 (s1, lo + z) rfl rfl rfl ⟨hs1, by simp only; omega, fun h => by have := hz.2.1 (by omega); simp only; omega, fun h => by have := hz.2.2 (by omega); simp only; omega⟩ (.refl _) trivial
end Go.Proofs.YtcdopfjiadifhaaGreatDoor
end
section
namespace Go.Proofs.YtcdopfjiadifhaaGreatDoor
open Go Go.W
set_option maxRecDepth 20000
attribute [local irreducible] HL HC HQ HB Row Rows2 Blk Facts
abbrev rngI (n : Nat) : List Int := (List.range n).map fun i : Nat => (i : Int)
end Go.Proofs.YtcdopfjiadifhaaGreatDoor
end
section
namespace Go.Proofs.YtcdopfjiadifhaaGreatDoor
open Go Go.W
set_option maxRecDepth 20000
attribute [local irreducible] HL HC HQ HB Row Rows2 Blk Facts
def AtInv (l : List Int) (s z : Int) : Prop := (0 ≤ z ↔ s ∈ l) ∧ (s ∈ l → ∀ k : Nat, z < (k : Int) ↔ s ∈ l.take k)
theorem uq9 {l : List Int} {k : Nat} {s : Int} (hk : k < l.length) (hb : l.getD k default = s) (ht : s ∉ l.take k) : AtInv l s (k : Int) := by
  refine ⟨⟨fun _ => hb ▸ w7 hk, fun _ => by omega⟩, fun _ j => ⟨fun h => ?_, fun h => ?_⟩⟩
  · have h1 : s ∈ l.take (k + 1) := by rw [M5 l k hk, hb]; simp
    exact List.take_subset_take_left l (by omega) h1
  rcases Nat.lt_or_ge k j with h2 | h2
  · omega
  exact absurd (List.take_subset_take_left l h2 h) ht
theorem at_none {l : List Int} {s : Int} (ht : s ∉ l) : AtInv l s (-1) := ⟨⟨fun h => by omega, fun h => absurd h ht⟩, fun h => absurd h ht⟩
def partL (o : List Int) (m n : Nat) : List Int := (rngI n).filter fun v => decide (v ∈ o.take m)
end Go.Proofs.YtcdopfjiadifhaaGreatDoor
end
section
namespace Go.W
open Go Go.RowKit
section
variable {c : Cx} {Q : Exit → Act → World → Prop} {fr : Fr} {hp : Hp} {L : List Fact} {ops : Array Oper} {rest : List Oper}
variable {d : Tmp} {ty : TypeId} {pos : String} {af : Array Edge}
theorem hl_eff {o : Oper} (ho : o.dst = none) (hg : o.guard = none)
    (h : ∀ a w, Ok c a fr → WI c.b w hp L → ∃ v w' hp' L', (execOp a.eval o).run c.P w = .ok (.value v) w' ∧ WI c.b w' hp' L' ∧ HL c ops Q rest fr hp' L') (hok : okOp o = true := by exact rfl) : HL c ops Q (o :: rest) fr hp L := by
  intro a w ha hw; refine U1 hg fun K hK => fun d0 => ⟨bT hok _, ?_⟩; obtain ⟨v, w', hp', L', hr, hw', hk⟩ := h a (w.at d0) ha (hw.at d0); rw [hr, iS, ho]; exact hK _ _ (hk _ _ ha hw')
theorem V9 {t e : TypeId} {x i : Operand} {g o n sz : Nat} {kd : IntKind} {z : Int} (j q : Nat) (hd : Nat.blt d c.n = true) (ht : c.P.underlying t = some (.array n e)) (hz : Sz c.P e sz)
    (hx : ev fr x = some (.pointer (some ⟨g, o, none⟩))) (hi : ev fr i = some (.int kd z)) (hjz : z = (j : Int)) (hj : j < n) (hq : o + j * sz = q)
    (k : HL c ops Q rest ((d, .pointer (some ⟨g, q, none⟩)) :: fr) hp L) : HL c ops Q (⟨some d, .indexAddr t x i, ty, pos, af, none⟩ :: rest) fr hp L :=
  C0 _ rfl rfl hd (fun a w ha hw => by
    subst hjz
    have hr : (Instr.indexAt t (.pointer (some ⟨g, o, none⟩)) (.int kd (j : Int))).run c.P w = .ok (.pointer (some ⟨g, q, none⟩)) w := by
      subst hq
      simp [Instr.indexAt, asIntOf, run_underlying ht, O6 hz, hj, Instr.sureAddr, X8]
    simp only [execOp, ha.ev hx, ha.ev hi, Sem.run_bind, hr, Result.andThen_ok, Sem.run_pure]) k
theorem hl_dup {F : Fact} (h : F ∈ L) (k : HL c ops Q rest fr hp (F :: L)) : HL c ops Q rest fr hp L := fun a w ha hw => k a w ha (hw.weak (List.Sublist.refl _) fun G hG => by
  rcases List.mem_cons.1 hG with rfl | hG
  · exact h
  exact hG)
theorem dX {f : Nat} {x : Operand} {ats : Array TypeId} {t : TypeId} {v v' : Value} {name : String} {β : Type} {k : Con β} {hpR : Hp} (hcb : Callable c.P f) (hd : Nat.blt d c.n = true) (hx : ev fr x = some (.iface t v))
    (hmt : ∀ w, (method (c.P.types.size + Made.depth) t v name).run c.P w = .ok (f, v') w)
    (hm : Meets c.P f [v'] k) (h1 : hp.Perm (k.hpI ++ hpR)) (h2 : LSub L k.LI) (kk : ∀ x, k.inv x → HL c ops Q rest ((d, k.val x) :: fr) (k.hpO x ++ hpR) (k.LO x ++ L)) :
    HL c ops Q (⟨some d, .call ⟨.invoke x name, #[], ats⟩, ty, pos, af, none⟩ :: rest) fr hp L := by
  intro a w ha hw; refine U1 rfl fun K hK => ?_; intro d0; have hw := hw.at d0
  have e2 : ∀ w, (execOp a.eval (⟨some d, .call ⟨.invoke x name, #[], ats⟩, ty, pos, af, none⟩ : Oper)).run c.P w = .ok (.enter f [v'].toArray) w := by
    intro w; show ((do let dd ← resolve a.eval ⟨.invoke x name, #[], ats⟩ ty; invoke dd.target dd.args) : Sem Next).run c.P w = _; simp only [resolve, ha.ev hx, Sem.run_bind, Sem.run_pure, Result.andThen_ok, invoke]; have e3 : (#[Value.iface t v] ++ Array.map a.eval #[]) = #[Value.iface t v] := by simp
    rw [e3]; have e4 : (#[Value.iface t v] : Array Value).extract 1 (#[Value.iface t v] : Array Value).size = #[] := by simp
    show (callMethod (.iface t v) name ((#[Value.iface t v] : Array Value).extract 1 (#[Value.iface t v] : Array Value).size)).run c.P w = _; rw [e4]; have e5 : (#[v'] ++ #[] : Array Value) = [v'].toArray := by simp
    simp only [callMethod, Sem.run_bind, Sem.run_pure, run_program, Result.andThen_ok, hmt, e5]; exact hcb.run _ _
  refine ⟨?_, ?_⟩
  · show ∀ e ∈ ((do let dd ← resolve a.eval ⟨.invoke x name, #[], ats⟩ ty; invoke dd.target dd.args) : Sem Next).events c.P _ #[], Calm e
    have e3 : (#[Value.iface t v] ++ Array.map a.eval #[]) = #[Value.iface t v] := by simp
    simp only [resolve, ha.ev hx, e3]; show ∀ e ∈ (callMethod (.iface t v) name ((#[Value.iface t v] : Array Value).extract 1 (#[Value.iface t v] : Array Value).size)).events c.P _ #[], Calm e; exact mq5 hcb hmt _ _
  rw [e2, iT]; refine CallsB.E ((hm _ (hw.entry h1 h2.mem)).mono fun v w' hp => ?_); obtain ⟨x, rfl, hi, hwi⟩ := hp; exact hK _ _ (kk x hi _ _ (ha.put (by simpa using hd) _) (hw.back h1 h2.mem hwi))
/-! ### Loops that leave marks -/
def AgainM {β : Type} (s : Sta β) (ds : β → List Nat) (μ : β → Nat) (m : Nat) (P : Program) (n : Nat) (b : Bx) (a : Act) (w : World) : Prop := ∃ y, s.inv y ∧ μ y < m ∧ Ok ⟨P, n, b, (ds y).map markOf, none⟩ a (s.fr y) ∧ WI b w (shutM (ds y) ++ s.hp y) (s.L y)
end
end Go.W
end
section
namespace Go.Proofs.YtcdopfjiadifhaaGreatDoor
open Go Go.W
set_option maxRecDepth 20000
attribute [local irreducible] HL HC HQ HB Row Rows2 Blk Facts
theorem jx8 {α : Type} [El α] (h1 : El.sz α = 1) {cur : Array Value} {l : List α} {i q : Nat} {v : Value} (h : cur.toList.take (l.length * 1) = rows l) (hi : i < l.length) (hq : q = i) (hv : El.cells (l.getD i default) = [v]) : cur[q]? = some v := by
  subst hq; have h2 := c9 hi (v := v) (by rw [hv]; rfl); rw [h1] at h2; rw [← h, List.getElem?_take, if_pos (by omega), Nat.mul_one] at h2; rw [← Array.getElem?_toList]; exact h2
abbrev wat (l : List Str) (i : Nat) : Str := l.getD i default
abbrev wle (a b : Str) : Prop := ¬ b < a
theorem qx0 {a b c : Str} (h1 : wle a b) (h2 : wle b c) : wle a c := fun h => by
  rcases Classical.em (b < a) with h3 | h3
  · exact h1 h3
  rcases Classical.em (a < b) with h4 | h4
  · exact h2 (List.lt_trans h h4)
  rw [pq9 h4 h3] at h; exact h2 h
theorem qx1 {a b : Str} (h : a < b) : wle a b := fun h2 => slt_irr a (List.lt_trans h h2)
def srtTo (l : List Str) (m : Nat) : Prop := ∀ p q, p < q → q < m → wle (wat l p) (wat l q)
structure InsOK (l : List Str) (i j : Nat) : Prop where
  o : ∀ p q, p < q → q ≤ i → ¬ p = j → ¬ q = j → wle (wat l p) (wat l q)
  a : ∀ q, j < q → q ≤ i → wle (wat l j) (wat l q)
theorem jj4 {l : List Str} {i j : Nat} {v : Str} (hi : i < l.length) : wat (l.set i v) j = if i = j then v else wat l j := by
  unfold wat; rw [List.getD_eq_getElem?_getD, List.getD_eq_getElem?_getD, List.getElem?_set]
  split
  · rfl
  rfl
def swp (l : List Str) (j : Nat) : List Str := (l.set (j + 1) (wat l j)).set j (wat l (j + 1))
theorem jq7 {l : List Str} {j k : Nat} (hj : j + 1 < l.length) : wat (swp l j) k = if k = j then wat l (j + 1) else if k = j + 1 then wat l j else wat l k := by
  unfold swp; rw [jj4 (by simp; omega), jj4 (by omega)]
  by_cases h1 : k = j
  · rw [if_pos h1.symm, if_pos h1]
  rw [if_neg (fun e => h1 e.symm), if_neg h1]
  by_cases h2 : k = j + 1
  · rw [if_pos h2.symm, if_pos h2]
  rw [if_neg (fun e => h2 e.symm), if_neg h2]
theorem InsOK.start {l : List Str} {i : Nat} (h : srtTo l i) : InsOK l i i := ⟨fun p q h1 h2 h3 h4 => h p q h1 (by omega), fun q h1 h2 => by omega⟩
theorem InsOK.swap {l : List Str} {i j : Nat} (h : InsOK l i (j + 1)) (hi : i < l.length) (hj : j + 1 ≤ i) (hlt : wat l (j + 1) < wat l j) : InsOK (swp l j) i j := by
  have hj2 : j + 1 < l.length := by omega
  refine ⟨fun p q h1 h2 h3 h4 => ?_, fun q h1 h2 => ?_⟩
  · rw [jq7 hj2, jq7 hj2, if_neg h3, if_neg h4]
    by_cases hp : p = j + 1
    · rw [if_pos hp, if_neg (by omega)]
      exact h.o j q (by omega) h2 (by omega) (by omega)
    rw [if_neg hp]
    by_cases hq : q = j + 1
    · rw [if_pos hq]
      exact h.o p j (by omega) (by omega) (by omega) (by omega)
    rw [if_neg hq]; exact h.o p q h1 h2 hp hq
  rw [jq7 hj2, jq7 hj2, if_pos rfl, if_neg (by omega)]
  by_cases hq : q = j + 1
  · rw [if_pos hq]; exact qx1 hlt
  rw [if_neg hq]; exact h.a q (by omega) h2
theorem InsOK.done {l : List Str} {i j : Nat} (h : InsOK l i j) (hj : j ≤ i) (he : ∀ k, j = k + 1 → ¬ wat l j < wat l k) : srtTo l (i + 1) := by
  intro p q h1 h2
  by_cases hp : p = j
  · subst hp; exact h.a q h1 (by omega)
  by_cases hq : q = j
  · subst hq
    obtain ⟨k, rfl⟩ : ∃ k, q = k + 1 := ⟨q - 1, by omega⟩; have h3 : wle (wat l k) (wat l (k + 1)) := he k rfl
    by_cases hpk : p = k
    · subst hpk; exact h3
    exact qx0 (h.o p k (by omega) (by omega) hp (by omega)) h3
  exact h.o p q h1 (by omega) hp hq
abbrev SrtW (ws l : List Str) : Prop := l.Perm ws ∧ srtTo l l.length
abbrev GrowS (A : Option Addr) (cap : Nat) (l : List Str) (og : Hp) : Prop := Grow T.string 1 A l.length cap (rows l) og
end Go.Proofs.YtcdopfjiadifhaaGreatDoor
end
section
namespace Go.Proofs.YtcdopfjiadifhaaGreatDoor
open Go Go.W
set_option maxRecDepth 20000
attribute [local irreducible] HL HC HQ HB Row Rows2 Blk Facts
def ascTo (l : List Str) (m : Nat) : Prop := ∀ p q, p < q → q < m → wat l p < wat l q
theorem sj8 {a b : Str} (h : wle a b) (hne : ¬ a = b) : a < b := by
  rcases Classical.em (a < b) with h1 | h1
  · exact h1
  exact absurd (pq9 h1 h) hne
theorem ascTo.next {l0 : List Str} {k : Nat} (h : ascTo l0 k) (h0 : 1 ≤ k) (hk : k < l0.length) (hs : srtTo l0 l0.length) (hne : ¬ wat l0 k = wat l0 (k - 1)) : ascTo l0 (k + 1) := by
  intro p q h1 h2
  by_cases hq : q = k
  · subst hq
    have h3 : wat l0 (q - 1) < wat l0 q := sj8 (hs _ _ (by omega) hk) (fun e => hne e.symm)
    by_cases hp : p = q - 1
    · subst hp; exact h3
    exact List.lt_trans (h p (q - 1) (by omega) (by omega)) h3
  exact h p q h1 (by omega)
structure CptOK (l0 : List Str) (b0 k j : Nat) (l : List Str) : Prop where
  len : l.length = l0.length
  j1 : 1 ≤ j
  jn : b0 + j ≤ l0.length
  k1 : 1 ≤ k
  kj : k < b0 + j
  asc : ascTo l k
  rest : ∀ q, b0 + j ≤ q + 1 → wat l q = wat l0 q
  mem : ∀ s, (∃ p, p < k ∧ wat l p = s) ↔ (∃ p, p < b0 + j ∧ wat l0 p = s)
  last : wat l (k - 1) = wat l0 (b0 + j - 1)
theorem CptOK.start {l0 : List Str} {k : Nat} (h : ascTo l0 k) (h0 : 1 ≤ k) (hk : k < l0.length) (he : wat l0 k = wat l0 (k - 1)) : CptOK l0 k k 1 l0 := by
  refine ⟨rfl, by omega, by omega, h0, by omega, h, fun _ _ => rfl, fun s => ⟨?_, ?_⟩, by rw [Nat.add_sub_cancel]; exact he.symm⟩
  · rintro ⟨p, h1, h2⟩; exact ⟨p, by omega, h2⟩
  rintro ⟨p, h1, h2⟩
  by_cases hp : p = k
  · subst hp; exact ⟨p - 1, by omega, by rw [← he]; exact h2⟩
  exact ⟨p, by omega, h2⟩
theorem CptOK.ne {l0 l : List Str} {b0 k j : Nat} (h : CptOK l0 b0 k j l) (hs : srtTo l0 l0.length) (hj : b0 + j < l0.length) (hne : ¬ wat l (b0 + j) = wat l (b0 + j - 1)) : CptOK l0 b0 (k + 1) (j + 1) (l.set k (wat l (b0 + j))) := by
  have hj1 := h.j1; have h1 := h.rest (b0 + j) (by omega); have h2 := h.rest (b0 + j - 1) (by omega); have hkj := h.kj; have hk1 := h.k1; have hkl : k < l.length := by rw [h.len]; omega
  have hat : ∀ p, wat (l.set k (wat l (b0 + j))) p = if k = p then wat l (b0 + j) else wat l p := fun p => jj4 hkl
  have hlt : wat l (k - 1) < wat l (b0 + j) := by
    rw [h.last, h1]; refine sj8 (hs _ _ (by omega) hj) (fun e => hne ?_); rw [h1, h2]; exact e.symm
  refine ⟨by rw [List.length_set]; exact h.len, by omega, by omega, by omega, by omega, fun p q h3 h4 => ?_, fun q hq => ?_, fun s => ?_, ?_⟩
  · rw [hat, hat, if_neg (by omega)]
    by_cases hq : k = q
    · rw [if_pos hq]
      by_cases hp : p = k - 1
      · subst hp; exact hlt
      exact List.lt_trans (h.asc p (k - 1) (by omega) (by omega)) hlt
    rw [if_neg hq]; exact h.asc p q h3 (by omega)
  · rw [hat, if_neg (by omega)]; exact h.rest q (by omega)
  · constructor
    · rintro ⟨p, h3, h4⟩
      rw [hat] at h4
      by_cases hp : k = p
      · rw [if_pos hp] at h4
        exact ⟨b0 + j, by omega, by rw [← h1]; exact h4⟩
      rw [if_neg hp] at h4; obtain ⟨q, h5, h6⟩ := (h.mem s).1 ⟨p, by omega, h4⟩; exact ⟨q, by omega, h6⟩
    rintro ⟨p, h3, h4⟩
    by_cases hp : p = b0 + j
    · subst hp
      exact ⟨k, by omega, by rw [hat, if_pos rfl, h1]; exact h4⟩
    obtain ⟨q, h5, h6⟩ := (h.mem s).2 ⟨p, by omega, h4⟩; exact ⟨q, by omega, by rw [hat, if_neg (by omega)]; exact h6⟩
  rw [hat, if_pos (by omega), h1, show b0 + (j + 1) - 1 = b0 + j by omega]
theorem pz0 {l : List Str} {s : Str} : s ∈ l ↔ ∃ p, p < l.length ∧ wat l p = s := by
  constructor
  · intro h
    obtain ⟨i, hi, rfl⟩ := List.getElem_of_mem h; exact ⟨i, hi, A7 hi⟩
  rintro ⟨p, hp, rfl⟩; unfold wat; exact w7 hp
theorem ux2 {l : List Str} (h : ascTo l l.length) : l.Pairwise (· < ·) := by
  rw [List.pairwise_iff_getElem]; intro i j hi hj hij; have := h i j hij hj; unfold wat at this; rw [A7 hi, A7 hj] at this; exact this
abbrev DedW (l0 r : List Str) : Prop := r.Pairwise (· < ·) ∧ ∀ s, s ∈ r ↔ s ∈ l0
theorem wE {l : List Str} {k p : Nat} (hp : p < k) (hk : k ≤ l.length) : wat (l.take k) p = wat l p := by
  unfold wat; rw [List.getD_eq_getElem?_getD, List.getD_eq_getElem?_getD, List.getElem?_take, if_pos hp]
theorem CptOK.done {l0 l : List Str} {b0 k j : Nat} (h : CptOK l0 b0 k j l) (hj : l0.length ≤ b0 + j) : DedW l0 (l.take k) := by
  have h1 := h.jn; have h2 := h.kj; have hlen : (l.take k).length = k := by rw [List.length_take, h.len]; omega
  have hkl : k ≤ l.length := by rw [h.len]; omega
  refine ⟨ux2 fun p q h3 h4 => ?_, fun s => ?_⟩
  · rw [hlen] at h4
    rw [wE (by omega) hkl, wE h4 hkl]; exact h.asc p q h3 h4
  rw [pz0, pz0, hlen]
  constructor
  · rintro ⟨p, h3, h4⟩
    rw [wE h3 hkl] at h4; obtain ⟨q, h5, h6⟩ := (h.mem s).1 ⟨p, h3, h4⟩; exact ⟨q, by omega, h6⟩
  rintro ⟨p, h3, h4⟩; obtain ⟨q, h5, h6⟩ := (h.mem s).2 ⟨p, by omega, h4⟩; exact ⟨q, h5, by rw [wE h5 hkl]; exact h6⟩
end Go.Proofs.YtcdopfjiadifhaaGreatDoor
end
section
namespace Go.Proofs.YtcdopfjiadifhaaGreatDoor
open Go Go.W
set_option maxRecDepth 20000
attribute [local irreducible] HL HC HQ HB Row Rows2 Blk Facts
def compareE (a b : Tr) : List Cl × Int := if ¬ checkT a = 0 then ([], checkT a) else if ¬ checkT b = 0 then ([], checkT b) else (compareT a b, 0)
end Go.Proofs.YtcdopfjiadifhaaGreatDoor
end
section
namespace Go.Proofs.YtcdopfjiadifhaaGreatDoor
open Go Go.W
set_option maxRecDepth 20000
attribute [local irreducible] HL HC HQ HB Row Rows2 Blk Facts
theorem mt_art (v : Value) (w : World) : (method (Tryz.prog.types.size + Made.depth) T.tP v "wayzgoose/trade.next").run Tryz.prog w = .ok (F.M4, v) w := by kernel_rfl
theorem mt_ptr (v : Value) (w : World) : (method (Tryz.prog.types.size + Made.depth) T.tO v "wayzgoose/trade.next").run Tryz.prog w = .ok (F.M3, v) w := by kernel_rfl
theorem mt_idx (v : Value) (w : World) : (method (Tryz.prog.types.size + Made.depth) T.aq7 v "wayzgoose/trade.next").run Tryz.prog w = .ok (F.Q2, v) w := by kernel_rfl
def nextL (h : Hd) : List Int := if ¬ h.2.2.1 = -1 then [h.2.2.1] else h.2.2.2.l
abbrev SetIs (m : Nat) (p : Nat → Bool) : Prop := m < 256 ∧ ∀ j, m.testBit j = p j
theorem SetIs.add {m e : Nat} {p q : Nat → Bool} (h : SetIs m p) (he : e < 8) (hq : ∀ j, q j = (p j || decide (e = j))) : SetIs (m ||| 2 ^ e) q := ⟨Nat.or_lt_two_pow (n := 8) h.1 (Nat.pow_lt_pow_right (by omega) he), fun j => by rw [Nat.testBit_or, Nat.testBit_two_pow, h.2 j, hq j]⟩
theorem SetIs.same {m : Nat} {p q : Nat → Bool} (h : SetIs m p) (hq : ∀ j, q j = p j) : SetIs m q := ⟨h.1, fun j => by rw [h.2 j, hq j]⟩
theorem SetIs.or {m n : Nat} {p q : Nat → Bool} (h : SetIs m p) (h2 : SetIs n q) : SetIs (m ||| n) (fun j => p j || q j) := ⟨Nat.or_lt_two_pow (n := 8) h.1 h2.1, fun j => by rw [Nat.testBit_or, h.2 j, h2.2 j]⟩
theorem next_in {cs : List Cl} {hs : List Hd} (hok : TrOK (trOf cs hs)) {i : Nat} (hi : i < hs.length) : ∀ x ∈ nextL (hs.getD i default), 0 ≤ x ∧ x < (hs.length : Int) := by
  have hh := hok.h i (by rw [W1]; exact hi); have e : (trOf cs hs).hs.getD i default = (hs.getD i default).p := dq6 hi; have hS := hh.s; have ha := hh.a; rw [e, W1] at hS ha; intro x hx; unfold nextL at hx
  split at hx
  · rename_i h1
    rw [List.mem_singleton] at hx; subst hx; simp only [Hd.p] at hS
    omega
  obtain ⟨k, hk, rfl⟩ := List.getElem_of_mem hx; have := cj4 (ha k hk); simp only [Hd.p] at this; rw [A7 hk] at this
  omega
theorem lz5 {cs : List Cl} {hs : List Hd} (hok : TrOK (trOf cs hs)) {i : Nat} (hi : i < hs.length) (k : Nat) : nextB (trOf cs hs) i k = decide ((k : Int) ∈ nextL (hs.getD i default)) := by
  have hh := hok.h i (by rw [W1]; exact hi); have e : (trOf cs hs).hs.getD i default = (hs.getD i default).p := dq6 hi; have hk := hh.kinds; rw [e] at hk; unfold nextB nextL; rw [e, Bool.eq_iff_iff, Bool.or_eq_true, decide_eq_true_eq, decide_eq_true_eq, decide_eq_true_eq]; generalize hs.getD i default = h at *; simp only [Hd.p] at hk ⊢
  by_cases h1 : h.2.2.1 = -1
  · rw [if_neg (fun e => e h1)]
    exact ⟨fun e => e.elim (fun e => by omega) id, .inr⟩
  rw [if_pos h1]
  have h2 : h.2.2.2.l = [] := by
    rcases hk with ⟨_, _, h2⟩ | ⟨h2, _⟩ | ⟨h2, _⟩
    · exact h2
    · exact absurd h2 h1
    exact absurd h2 h1
  rw [h2, List.mem_singleton]; exact ⟨fun e => e.elim (fun e => e.symm) (fun e => by cases e), fun e => .inl e.symm⟩
theorem jI (c : Int) (al : Sl Int) : Meets Tryz.prog F.M4 [.agg #[int c, .slice al.a al.l.length al.c]] { val := fun _ : Unit => .slice al.a al.l.length al.c } := by
 refine i9 F.pX rfl r6 fun w0 => ?_; refine i8 ?_; refine H6 rfl rfl fun gB => ?_; refine d5 rfl (k8 ?_)
 first | refine a9 ⟨_, 1, none⟩ rfl rfl T.iH rfl ?_ | refine a9 _ rfl rfl T.iH rfl ?_
 first | refine b8 rfl T.i7 rfl (j0 mB rfl) ?_ | refine b8 rfl T.i7 rfl (j3 mB rfl) ?_ | refine b8 rfl T.i7 rfl (d6 mB (c9 (by omega) rfl)) ?_ | refine b8 rfl T.i7 rfl (d7 mB (rows_get (by omega) rfl)) ?_ | refine b8 rfl T.i7 rfl (j5 mB rfl) ?_
 refine d5 rfl (d8 (l5 ?_)); exact ret1 () rfl rfl rfl trivial nil_sb trivial
theorem lP (al : Sl Int) : Meets Tryz.prog F.Q2 [.agg #[.slice al.a al.l.length al.c]] { val := fun _ : Unit => .slice al.a al.l.length al.c } := by
 refine i9 F.uB rfl r6 fun w0 => ?_; refine i8 ?_; refine H6 rfl rfl fun gB => ?_; refine d5 rfl (k8 ?_)
 first | refine a9 ⟨_, 0, none⟩ rfl rfl T.lF rfl ?_ | refine a9 _ rfl rfl T.lF rfl ?_
 first | refine b8 rfl T.i7 rfl (j0 mB rfl) ?_ | refine b8 rfl T.i7 rfl (j3 mB rfl) ?_ | refine b8 rfl T.i7 rfl (d6 mB (c9 (by omega) rfl)) ?_ | refine b8 rfl T.i7 rfl (d7 mB (rows_get (by omega) rfl)) ?_ | refine b8 rfl T.i7 rfl (j5 mB rfl) ?_
 refine d5 rfl (d8 (l5 ?_)); exact ret1 () rfl rfl rfl trivial nil_sb trivial
theorem jD (s : Int) : Meets Tryz.prog F.M3 [.agg #[int s]] { val := fun x : OutC => .slice x.1 1 x.2, LO := fun x => [Row x.1 (rows [s])] } := by
 refine i9 F.pQ rfl r6 fun w0 => ?_; refine i8 ?_; refine H6 rfl rfl fun gB => ?_; refine d5 rfl (k8 ?_)
 first | refine a9 ⟨_, 0, none⟩ rfl rfl T.iG rfl ?_ | refine a9 _ rfl rfl T.iG rfl ?_
 first | refine b8 rfl T.b9 rfl (j0 mB rfl) ?_ | refine b8 rfl T.b9 rfl (j3 mB rfl) ?_ | refine b8 rfl T.b9 rfl (d6 mB (c9 (by omega) rfl)) ?_ | refine b8 rfl T.b9 rfl (d7 mB (rows_get (by omega) rfl)) ?_ | refine b8 rfl T.b9 rfl (j5 mB rfl) ?_
 refine q7 _ rfl rfl (fun _ => T.Z7 ..) fun gS => ?_; refine d5 rfl (d8 (l5 ?_)); refine E5 (rows [s]) (List.prefix_refl _) ?_; exact ret1 (some ⟨gS, 0, none⟩, 1) rfl rfl rfl trivial nil_sb ⟨m0, trivial⟩
section
variable {c : Cx} {Q : Exit → Act → World → Prop} {fr : Fr} {hp : Hp} {L : List Fact} {ops : Array Oper} {rest : List Oper} {d : Tmp} {ty : TypeId} {pos : String} {af : Array Edge}
theorem r_next {x : Operand} {ats : Array TypeId} {h : Hd} (hd : Nat.blt d c.n = true) (hP : c.P = Tryz.prog) (hx : ev fr x = some (kindOf h).v) (hL : Hd.row h ∈ L)
    (k : ∀ o : OutC, HL c ops Q rest ((d, .slice o.1 (nextL h).length o.2) :: fr) hp (Row o.1 (rows (nextL h)) :: L)) : HL c ops Q (⟨some d, .call ⟨.invoke x "wayzgoose/trade.next", #[], ats⟩, ty, pos, af, none⟩ :: rest) fr hp L := by
  unfold kindOf at hx; unfold nextL at k
  by_cases h1 : ¬ h.2.2.1 = -1
  · rw [if_pos h1] at hx
    simp only [if_pos h1] at k; have hm := jD h.2.2.1; rw [← hP] at hm; refine dX (f := F.M3) (hpR := hp) (by rw [hP]; exact F.nX) hd hx (by rw [hP]; exact mt_ptr _) hm p6 trivial fun o _ => ?_; exact k o
  rw [if_neg h1] at hx; simp only [if_neg h1] at k; have k2 : HL c ops Q rest ((d, .slice h.2.2.2.a h.2.2.2.l.length h.2.2.2.c) :: fr) hp L := hl_dup hL (k (h.2.2.2.a, h.2.2.2.c))
  by_cases h2 : ¬ h.2.1 = -1
  · rw [if_pos h2] at hx
    have hm := jI h.2.1 h.2.2.2; rw [← hP] at hm; exact dX (f := F.M4) (hpR := hp) (by rw [hP]; exact F.pD) hd hx (by rw [hP]; exact mt_art _) hm p6 trivial fun _ _ => k2
  rw [if_neg h2] at hx; have hm := lP h.2.2.2; rw [← hP] at hm; exact dX (f := F.Q2) (hpR := hp) (by rw [hP]; exact F.sV) hd hx (by rw [hP]; exact mt_idx _) hm p6 trivial fun _ _ => k2
end
end Go.Proofs.YtcdopfjiadifhaaGreatDoor
end
section
namespace Go.Proofs.YtcdopfjiadifhaaGreatDoor
open Go Go.W
set_option maxRecDepth 20000
attribute [local irreducible] HL HC HQ HB Row Rows2 Blk Facts
theorem pj8 {l : List Int} (h : ∀ k, k < l.length → 0 ≤ l.getD k default ∧ (0 < k → l.getD (k - 1) default < l.getD k default)) : ∀ k : Nat, k < l.length → (k : Int) ≤ l.getD k default
  | 0, hk => (h 0 hk).1
  | k + 1, hk => by
    have h1 := pj8 h k (by omega); have h2 := (h (k + 1) hk).2 (by omega); rw [Nat.add_sub_cancel] at h2
    omega
theorem tq0 {cs : List Cl} {hs : List Hd} (hok : TrOK (trOf cs hs)) {i : Nat} (hi : i < hs.length) : (nextL (hs.getD i default)).length ≤ 6 := by
  have h6h := hok.h6; rw [W1] at h6h; have hh := hok.h i (by rw [W1]; exact hi); have e : (trOf cs hs).hs.getD i default = (hs.getD i default).p := dq6 hi; have ha := hh.a; rw [e, W1] at ha; unfold nextL
  split
  · simp
  generalize hl : (hs.getD i default).2.2.2.l = l; have ha2 : ∀ k, k < l.length → alsoErr hs.length i l k = 0 := by rw [← hl]; exact ha
  have hg := pj8 (l := l) fun k hk => ⟨(cj4 (ha2 k hk)).1, (cj4 (ha2 k hk)).2.2.2⟩
  by_cases h0 : l.length = 0
  · omega
  have h1 := hg (l.length - 1) (by omega); have h2 := (cj4 (ha2 (l.length - 1) (by omega))).2.1
  omega
theorem tz2 {l : List Nat} {k j v : Nat} (hk : k < l.length) : (l.set k v).getD j default = if k = j then v else l.getD j default := by
  rw [List.getD_eq_getElem?_getD, List.getD_eq_getElem?_getD, List.getElem?_set]
  split
  · rfl
  rfl
structure NetK (t : Tr) (k : Nat) (ns : List Nat) : Prop where
  len : ns.length = 6
  is : ∀ i, SetIs (ns.getD i default) (fun x => decide (i < k) && nextB t i x)
structure NetJ (t : Tr) (k : Nat) (l : List Int) (ns : List Nat) : Prop where
  len : ns.length = 6
  is : ∀ i, SetIs (ns.getD i default) (fun x => if i = k then decide ((x : Int) ∈ l) else decide (i < k) && nextB t i x)
theorem NetK.zero (t : Tr) : NetK t 0 (List.replicate 6 0) := ⟨rfl, fun i => by
  have e : (List.replicate 6 0).getD i (default : Nat) = 0 := by
    rw [List.getD_eq_getElem?_getD, List.getElem?_replicate]
    split <;> rfl
  rw [e]
  exact ⟨by decide, fun j => by simp⟩⟩
theorem NetK.start {t : Tr} {k : Nat} {ns : List Nat} (h : NetK t k ns) : NetJ t k [] ns := ⟨h.len, fun i => (h.is i).same fun j => by
  by_cases hi : i = k
  · rw [if_pos hi]; subst hi; simp
  rw [if_neg hi]⟩
theorem NetJ.add {t : Tr} {k e : Nat} {l : List Int} {ns : List Nat} (h : NetJ t k l ns) (hk : k < 6) (he : e < 8) : NetJ t k (l ++ [(e : Int)]) (ns.set k (ns.getD k default ||| 2 ^ e)) := ⟨by rw [List.length_set]; exact h.len, fun i => by
  rw [tz2 (by rw [h.len]; exact hk)]
  by_cases hi : k = i
  · subst hi
    rw [if_pos rfl]; refine (h.is k).add he fun j => ?_; rw [if_pos rfl, if_pos rfl, ← Bool.decide_or]; refine decide_eq_decide.2 ?_; rw [List.mem_append, List.mem_singleton]; exact or_congr_right ⟨fun e => by omega, fun e => by omega⟩
  rw [if_neg hi]
  exact (h.is i).same fun j => by rw [if_neg (fun e => hi e.symm), if_neg (fun e => hi e.symm)]⟩
theorem NetJ.done {cs : List Cl} {hs : List Hd} {k : Nat} {ns : List Nat} (hok : TrOK (trOf cs hs)) (hk : k < hs.length) (h : NetJ (trOf cs hs) k (nextL (hs.getD k default)) ns) : NetK (trOf cs hs) (k + 1) ns := ⟨h.len, fun i => (h.is i).same fun j => by
  by_cases hi : i = k
  · subst hi
    rw [if_pos rfl, lz5 hok hk]
    simp
  rw [if_neg hi]; have e : decide (i < k + 1) = decide (i < k) := decide_eq_decide.2 (by omega)
  rw [e]⟩
end Go.Proofs.YtcdopfjiadifhaaGreatDoor
end
section
namespace Go.Proofs.YtcdopfjiadifhaaGreatDoor
open Go Go.W
set_option maxRecDepth 20000
attribute [local irreducible] HL HC HQ HB Row Rows2 Blk Facts
def sortN (names : List Int) (i : Nat) : Str := sortsL.getD (names.getD i default).toNat default
def callN (words : List Int) (i : Nat) : Str := callingsL.getD (words.getD i default).toNat default
def ClsMade (names : List Int) (cs : List Cl) : Prop := ∀ i, i < cs.length → (cs.getD i default).1 = sortN names i ∧ -1 ≤ (cs.getD i default).2 ∧ (cs.getD i default).2 < (i : Int)
theorem ClsMade.snoc {names : List Int} {cs : List Cl} (h : ClsMade names cs) {u : Int} (h1 : -1 ≤ u) (h2 : u < (cs.length : Int)) : ClsMade names (cs ++ [(sortN names cs.length, u)]) := by
  intro i hi; rw [List.length_append, List.length_singleton] at hi; rw [A7 (by simp; omega)]
  by_cases e : i < cs.length
  · rw [List.getElem_append_left e, ← A7 e]
    exact h i e
  obtain rfl : i = cs.length := by omega
  rw [List.getElem_append_right (by omega)]; simp only [Nat.sub_self, List.getElem_cons_zero]; exact ⟨trivial, h1, h2⟩
def HdMade (nc n i : Nat) (h : Hd) : Prop := (∀ k, k < h.2.2.2.l.length → alsoErr n i h.2.2.2.l k = 0) ∧ ((0 ≤ h.2.2.1 ∧ h.2.2.1 < (n : Int) ∧ ¬ h.2.2.1 = (i : Int) ∧ h.2.1 = -1 ∧ h.2.2.2.l = []) ∨ (h.2.2.1 = -1 ∧ 0 ≤ h.2.1 ∧ h.2.1 < (nc : Int)) ∨ (h.2.2.1 = -1 ∧ h.2.1 = -1 ∧ h.2.2.2.l ≠ []))
def HsMade (words : List Int) (nc n : Nat) (hs : List Hd) : Prop := ∀ i, i < hs.length → (hs.getD i default).1 = callN words i ∧ HdMade nc n i (hs.getD i default)
theorem HsMade.snoc {words : List Int} {nc n : Nat} {hs : List Hd} (h : HsMade words nc n hs) {x : Hd} (h1 : x.1 = callN words hs.length) (h2 : HdMade nc n hs.length x) : HsMade words nc n (hs ++ [x]) := by
  intro i hi; rw [List.length_append, List.length_singleton] at hi; rw [A7 (by simp; omega)]
  by_cases e : i < hs.length
  · rw [List.getElem_append_left e, ← A7 e]
    exact h i e
  obtain rfl : i = hs.length := by omega
  rw [List.getElem_append_right (by omega)]; simp only [Nat.sub_self, List.getElem_cons_zero]; exact ⟨h1, h2⟩
theorem asc_at {l : List Int} (h : l.Pairwise (· < ·)) {j i : Nat} (hji : j < i) (hi : i < l.length) : l.getD j default < l.getD i default := by
  rw [A7 (show j < l.length by omega), A7 hi]; exact (List.pairwise_iff_getElem.1 h) j i (by omega) hi hji
def AscB (i k : Nat) (l : List Int) : Prop := l.Pairwise (· < ·) ∧ ∀ x ∈ l, 0 ≤ x ∧ x < (k : Int) ∧ ¬ x = (i : Int)
theorem AscB.step {i k : Nat} {l : List Int} (h : AscB i k l) : AscB i (k + 1) l := ⟨h.1, fun x hx => by have := h.2 x hx; omega⟩
theorem AscB.snoc {i k : Nat} {l : List Int} (h : AscB i k l) (hk : ¬ k = i) : AscB i (k + 1) (l ++ [(k : Int)]) := by
  refine ⟨List.pairwise_append.2 ⟨h.1, by simp, fun a ha b hb => ?_⟩, fun x hx => ?_⟩
  · rw [List.mem_singleton] at hb; have := (h.2 a ha).2.1; omega
  rcases List.mem_append.1 hx with hx | hx
  · have := h.2 x hx; omega
  rw [List.mem_singleton] at hx; omega
theorem AscB.len {i n : Nat} {l : List Int} (h : AscB i n l) : l.length ≤ n := by
  have hg := pj8 (l := l) fun k hk => ⟨(h.2 _ (w7 hk)).1, fun h0 => asc_at h.1 (show k - 1 < k by omega) hk⟩
  by_cases h0 : l.length = 0
  · omega
  have h1 := hg (l.length - 1) (by omega); have h2 := (h.2 _ (w7 (show l.length - 1 < l.length by omega))).2.1
  omega
end Go.Proofs.YtcdopfjiadifhaaGreatDoor
end
