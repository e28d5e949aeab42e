/- Texts. -/

import Derived.Test.YtdgmfagfpbdbhaaGreatDoorAAo
import Derived.Test.YtdgmfagfpbdbhaaGreatDoorAAl
set_option linter.unusedVariables false
set_option linter.unusedSimpArgs false
section
namespace Go.Proofs.YtdgmfagfpbdbhaaGreatDoor
open Go Go.W Tryz T F
set_option maxRecDepth 20000
attribute [local irreducible] HL HC HQ HB Row Rows2 Blk Facts
def claS : Str := [99, 108, 97, 115, 115, 32]
def inS : Str := [32, 105, 110, 32]
def seS : Str := [32, 115, 101, 101, 32]
def isS : Str := [32, 105, 115, 32]
def alS : Str := [32, 97, 108, 115, 111]
def spS : Str := [32]
def nlS : Str := [10]
def fiS : Str := [102, 105, 110, 105, 115, 10]
def clsT (cs : List Cl) (z : Int) (pre : Str) : Str := if 0 ≤ z then pre ++ (cs.getD z.toNat default).1 else []
def heaT (hs : List Hd) (z : Int) (pre : Str) : Str := if 0 ≤ z then pre ++ (hs.getD z.toNat default).1 else []
def accC (cs : List Cl) : List Cl → Str
  | [] => []
  | c :: l => accC cs l ++ (claS ++ c.1) ++ clsT cs c.2 inS ++ nlS
def accA (hs : List Hd) : List Int → Str
  | [] => []
  | x :: l => accA hs l ++ (if l.length = 0 then alS else []) ++ (spS ++ (hs.getD x.toNat default).1)
def heaE (cs : List Cl) (hs : List Hd) (h : Hd) : Str := h.1 ++ heaT hs h.2.2.1 seS ++ clsT cs h.2.1 isS ++ accA hs h.2.2.2.l.reverse ++ nlS
def accH (a : Str) (cs : List Cl) (hs : List Hd) : List Hd → Str
  | [] => a
  | h :: l => accH a cs hs l ++ heaE cs hs h
def wrT (cs : List Cl) (hs : List Hd) : Str := accH (accC cs cs.reverse) cs hs hs.reverse ++ fiS
theorem pX {α : Type} [Inhabited α] {l : List α} {k : Nat} (h : k < l.length) : (l.take (k + 1)).reverse = l.getD k default :: (l.take k).reverse := by
  rw [List.take_succ_eq_append_getElem h, List.reverse_append, B8 h]
  rfl
structure WrOK (cs : List Cl) (hs : List Hd) : Prop where
  c6 : cs.length ≤ 6
  h6 : hs.length ≤ 6
  cn : ∀ k, k < cs.length → (cs.getD k default).1.length ≤ 100 ∧ (cs.getD k default).2 < (cs.length : Int)
  hn : ∀ k, k < hs.length → (hs.getD k default).1.length ≤ 100 ∧ (hs.getD k default).2.1 < (cs.length : Int) ∧ (hs.getD k default).2.2.1 < (hs.length : Int) ∧ (hs.getD k default).2.2.2.l.length ≤ 6 ∧ ∀ x ∈ (hs.getD k default).2.2.2.l, 0 ≤ x ∧ x < (hs.length : Int)
theorem nmC {cs : List Cl} {hs : List Hd} (hok : WrOK cs hs) (j : Nat) : (cs.getD j default).1.length ≤ 100 := by
  by_cases h : j < cs.length
  · exact (hok.cn j h).1
  have e : cs.getD j default = default := by simp [List.getD_eq_getElem?_getD, List.getElem?_eq_none (Nat.le_of_not_lt h)]
  rw [e]; exact Nat.zero_le _
theorem nmH {cs : List Cl} {hs : List Hd} (hok : WrOK cs hs) (j : Nat) : (hs.getD j default).1.length ≤ 100 := by
  by_cases h : j < hs.length
  · exact (hok.hn j h).1
  have e : hs.getD j default = default := by simp [List.getD_eq_getElem?_getD, List.getElem?_eq_none (Nat.le_of_not_lt h)]
  rw [e]; exact Nat.zero_le _
theorem jq3 {cs : List Cl} {hs : List Hd} (hok : WrOK cs hs) (z : Int) (pre : Str) (h : pre.length ≤ 5) : (clsT cs z pre).length ≤ 105 := by
  have := nmC hok z.toNat; unfold clsT
  split
  · rw [List.length_append]; omega
  exact Nat.zero_le _
theorem pq1 {cs : List Cl} {hs : List Hd} (hok : WrOK cs hs) (z : Int) (pre : Str) (h : pre.length ≤ 5) : (heaT hs z pre).length ≤ 105 := by
  have := nmH hok z.toNat; unfold heaT
  split
  · rw [List.length_append]; omega
  exact Nat.zero_le _
set_option maxHeartbeats 400000 in
theorem ax8 {A B oa ka : Option Addr} {ca cb oc kc gl : Nat} (cs : List Cl) (hs : List Hd) (hok : WrOK cs hs) : Meets prog bD [.pointer (d9 gl)] { LI := [Row (d9 gl) [.slice A cs.length ca, .slice B hs.length cb, .slice oa cs.length oc, .slice ka hs.length kc], Row A (rows cs), RowsF B hs Hd.row], val := fun _ : Unit => str (wrT cs hs) } := by
 refine j3 sR rfl v8 fun w0 => ?_; refine i4 (c5 rfl (t6 ?_)); refine u4 rfl (fun _ => sM _) fun gA => ?_; refine c8 (d6 (i4 (b6 rfl (r8 rfl rfl ?_))))
 first | refine a6 ⟨_, 0, none⟩ rfl rfl u9 rfl ?_ | refine a6 _ rfl rfl u9 rfl ?_
 first | refine a6 ⟨_, 0, none⟩ rfl rfl i9 rfl ?_ | refine a6 _ rfl rfl i9 rfl ?_
 first | refine a7 rfl b3 rfl (i2 mB rfl) ?_ | refine a7 rfl b3 rfl (d8 mB rfl) ?_ | refine a7 rfl b3 rfl (b7 mB (b4 (by omega) rfl)) ?_ | refine a7 rfl b3 rfl (b8 mB (rows_get (by omega) rfl)) ?_ | refine a7 rfl b3 rfl (d7 mB rfl) ?_
 refine k6 rfl n6 rfl ?_; refine b6 rfl (c8 (j5 ?_)); refine u6 (β := Nat × Option Addr × BSt) ⟨fun x => x.1 ≤ cs.length ∧ (accC cs (cs.take x.1).reverse).length ≤ 250 * x.1 ∧ Bld gA (accC cs (cs.take x.1).reverse) x.2.1 x.2.2.1 x.2.2.2.1 x.2.2.2.2, fun x => [(0, .pointer (d9 gl)), (3, .pointer (d9 gA)), (14, .slice A cs.length ca), (15, int cs.length), (16, int x.1)], fun x => bldH gA (accC cs (cs.take x.1).reverse) x.2.1 x.2.2, fun _ => [Row (d9 gl) [.slice A cs.length ca, .slice B hs.length cb, .slice oa cs.length oc, .slice ka hs.length kc], Row A (rows cs), RowsF B hs Hd.row]⟩ (fun x => cs.length - x.1) (0, none, (none, 0, [])) ⟨Nat.zero_le _, Nat.zero_le _, Bld.new _⟩ mC (.refl _) mC fun x hx => ?_; obtain ⟨k, P, st⟩ := x; obtain ⟨hk, hl, hb⟩ := hx; simp only at hk hl hb; have e1 : claS.length = 6 := rfl; have e2 : inS.length = 4 := rfl; have e3 : nlS.length = 1 := rfl; have e4 : seS.length = 5 := rfl; have e5 : isS.length = 4 := rfl; have e6 : alS.length = 5 := rfl; have e7 : spS.length = 1 := rfl; have e8 : fiS.length = 6 := rfl; have h6 := hok.c6; have h6h := hok.h6; refine i4 (B5 rfl rfl rfl (c8 (d6 ?_)))
 first | refine k9 rfl (fun hb1 => ?_) (fun hb1 => ?_) | refine j0 rfl (fun hb1 => ?_) (fun hb1 => ?_)
 ·have hb1' := hb1; try simp at hb1'
  have hk2 : k < cs.length := by omega
  have hcn := hok.cn k hk2; have hct := jq3 hok (cs.getD k default).2 inS (by omega); refine i8 (i1 (d6 (j5 (i4 ?_)))); refine m7 (α := Cl) _ _ rfl n6 u7 rfl rfl rfl mB rfl (by omega) (by decide) (z8 rfl L0 u7 rfl rfl (v9 mB (B3 (by omega))) (u4 rfl (fun _ => X1 _) fun g5 => l6 rfl rfl X2 u7 (by rfl) (by rfl) ?_)); refine c8 (d6 ?_); refine Q1 (rows [(cs.getD k default)]) ⟨[], List.append_nil _⟩ (c9 ?_)
  first | refine a6 ⟨_, 0, none⟩ rfl rfl t9 rfl ?_ | refine a6 _ rfl rfl t9 rfl ?_
  first | refine a7 rfl a9 rfl (i2 mB rfl) ?_ | refine a7 rfl a9 rfl (d8 mB rfl) ?_ | refine a7 rfl a9 rfl (b7 mB (b4 (by omega) rfl)) ?_ | refine a7 rfl a9 rfl (b8 mB (rows_get (by omega) rfl)) ?_ | refine a7 rfl a9 rfl (d7 mB rfl) ?_
  first | refine P8 (x' := claS) rfl w7 rfl dH ?_
  refine j4 z6 rfl rfl (H9 gA ((accC cs (cs.take k).reverse)) (claS ++ (cs.getD k default).1) P st hb dH) (show List.Perm (bldH gA ((accC cs (cs.take k).reverse)) P st) (bldH gA ((accC cs (cs.take k).reverse)) P st ++ []) from by rw [List.append_nil]) tK fun y1 hy1 => ?_; refine dX (hp' := bldH gA (((accC cs (cs.take k).reverse)) ++ (claS ++ (cs.getD k default).1)) (d9 gA) y1) (show List.Perm (bldH gA (((accC cs (cs.take k).reverse)) ++ (claS ++ (cs.getD k default).1)) (d9 gA) y1 ++ []) (bldH gA (((accC cs (cs.take k).reverse)) ++ (claS ++ (cs.getD k default).1)) (d9 gA) y1) from by rw [List.append_nil]) ?_; refine c8 ?_; refine I0 ⟨fun y : BSt => Bld gA (((accC cs (cs.take k).reverse) ++ (claS ++ (cs.getD k default).1)) ++ clsT cs (cs.getD k default).2 inS) (d9 gA) y.1 y.2.1 y.2.2, fun _ => [(0, .pointer (d9 gl)), (3, .pointer (d9 gA)), (14, .slice A cs.length ca), (15, int cs.length), (16, int k)], fun y => bldH gA (((accC cs (cs.take k).reverse) ++ (claS ++ (cs.getD k default).1)) ++ clsT cs (cs.getD k default).2 inS) (d9 gA) y, fun _ => [Row (d9 gl) [.slice A cs.length ca, .slice B hs.length cb, .slice oa cs.length oc, .slice ka hs.length kc], Row A (rows cs), RowsF B hs Hd.row]⟩ ?_ ?_
  ·skip
   refine i4 ?_
   first | refine a6 ⟨_, 1, none⟩ rfl rfl y5 rfl ?_ | refine a6 _ rfl rfl y5 rfl ?_
   first | refine a7 rfl a8 rfl (i2 mB rfl) ?_ | refine a7 rfl a8 rfl (d8 mB rfl) ?_ | refine a7 rfl a8 rfl (b7 mB (b4 (by omega) rfl)) ?_ | refine a7 rfl a8 rfl (b8 mB (rows_get (by omega) rfl)) ?_ | refine a7 rfl a8 rfl (d7 mB rfl) ?_
   refine Z4 rfl rfl rfl (c8 ?_)
   first | refine k9 rfl (fun hb2 => ?_) (fun hb2 => ?_) | refine j0 rfl (fun hb2 => ?_) (fun hb2 => ?_)
   ·have hb2' := hb2; try simp at hb2'
    obtain ⟨m2, hm2⟩ := Int.eq_ofNat_of_zero_le hb2; have hm22 : m2 < cs.length := by omega
    have hm2n : ((cs.getD k default).2).toNat = m2 := by omega
    have hpn := hok.cn m2 hm22; refine C0 7 mixed (by decide) (by decide) rfl rfl (r7 rfl (k8 (fun w1 => r8 rfl rfl (q_z rfl)) ?_))
    apply k7 _ rfl rfl rfl
    ·intro w1
     first | refine a6 ⟨_, 0, none⟩ rfl rfl u9 rfl ?_ | refine a6 _ rfl rfl u9 rfl ?_
     refine b5 ?_; exact i5 rfl
    apply k7 _ rfl rfl rfl
    ·intro w1
     first | refine a6 ⟨_, 0, none⟩ rfl rfl i9 rfl ?_ | refine a6 _ rfl rfl i9 rfl ?_
     refine b5 ?_; exact i5 rfl
    refine k8 (fun w1 => a7 (v := .slice A cs.length ca) rfl b3 rfl (b7 (A := some ⟨gl, 0, none⟩) (j := 0) (List.mem_cons_of_mem _ (List.mem_append_right _ mB)) rfl) (q_z rfl)) ?_
    apply k7 _ rfl rfl rfl
    ·intro w1
     first | refine a6 ⟨_, 1, none⟩ rfl rfl y5 rfl ?_ | refine a6 _ rfl rfl y5 rfl ?_
     refine b5 ?_; exact i5 rfl
    refine k8 (fun w1 => a7 (v := int (cs.getD k default).2) rfl a8 rfl (b7 (A := some ⟨g5, 0, none⟩) (j := 1) (List.mem_cons_of_mem _ (List.mem_append_right _ mB)) rfl) (q_z rfl)) ?_; refine v7 ⟨rfl, ?_⟩; refine m7 (α := Cl) cs m2 rfl n6 u7 rfl rfl hm2 mB rfl hm22 (by decide) ?_
    first | refine a6 ⟨_, 0, none⟩ rfl rfl t9 rfl ?_ | refine a6 _ rfl rfl t9 rfl ?_
    refine a7 (v := str (cs.getD m2 default).1) rfl a9 rfl (b7 mB (b4 hm22 rfl)) ?_
    first | refine P8 (x' := inS) rfl w7 rfl dH ?_
    refine j4 z6 rfl rfl (H9 gA (((accC cs (cs.take k).reverse) ++ (claS ++ (cs.getD k default).1))) (inS ++ (cs.getD m2 default).1) (d9 gA) y1 hy1 dH) (show List.Perm (bldH gA (((accC cs (cs.take k).reverse) ++ (claS ++ (cs.getD k default).1))) (d9 gA) y1) (bldH gA (((accC cs (cs.take k).reverse) ++ (claS ++ (cs.getD k default).1))) (d9 gA) y1 ++ []) from by rw [List.append_nil]) tK fun y2 hy2 => ?_; refine dX (hp' := bldH gA ((((accC cs (cs.take k).reverse) ++ (claS ++ (cs.getD k default).1))) ++ (inS ++ (cs.getD m2 default).1)) (d9 gA) y2) (show List.Perm (bldH gA ((((accC cs (cs.take k).reverse) ++ (claS ++ (cs.getD k default).1))) ++ (inS ++ (cs.getD m2 default).1)) (d9 gA) y2 ++ []) (bldH gA ((((accC cs (cs.take k).reverse) ++ (claS ++ (cs.getD k default).1))) ++ (inS ++ (cs.getD m2 default).1)) (d9 gA) y2) from by rw [List.append_nil]) ?_; refine b5 ?_; have hcut := (show ((accC cs (cs.take k).reverse) ++ (claS ++ (cs.getD k default).1)) ++ clsT cs (cs.getD k default).2 inS = ((accC cs (cs.take k).reverse) ++ (claS ++ (cs.getD k default).1)) ++ (inS ++ (cs.getD m2 default).1) by rw [clsT, if_pos hb2, hm2n]); exact D5 _ y2 (by show Bld gA (((accC cs (cs.take k).reverse) ++ (claS ++ (cs.getD k default).1)) ++ clsT cs (cs.getD k default).2 inS) _ _ _ _; rw [hcut]; exact hy2) mC (by show List.Sublist (bldH gA (((accC cs (cs.take k).reverse) ++ (claS ++ (cs.getD k default).1)) ++ clsT cs (cs.getD k default).2 inS) _ _) _; rw [hcut]; exact .refl _) mC
   have hb2' := hb2; try simp at hb2'
   refine i8 ?_; have hcut := (show ((accC cs (cs.take k).reverse) ++ (claS ++ (cs.getD k default).1)) ++ clsT cs (cs.getD k default).2 inS = ((accC cs (cs.take k).reverse) ++ (claS ++ (cs.getD k default).1)) by rw [clsT, if_neg (by omega), List.append_nil]); exact D5 _ y1 (by show Bld gA (((accC cs (cs.take k).reverse) ++ (claS ++ (cs.getD k default).1)) ++ clsT cs (cs.getD k default).2 inS) _ _ _ _; rw [hcut]; exact hy1) mC (by show List.Sublist (bldH gA (((accC cs (cs.take k).reverse) ++ (claS ++ (cs.getD k default).1)) ++ clsT cs (cs.getD k default).2 inS) _ _) _; rw [hcut]; exact .refl _) mC
  refine fun y3 hy3 => ?_
  dsimp only
  refine c9 ?_; refine j4 z6 rfl rfl (H9 gA (((accC cs (cs.take k).reverse) ++ (claS ++ (cs.getD k default).1)) ++ clsT cs (cs.getD k default).2 inS) (nlS) (d9 gA) y3 hy3 dH) (show List.Perm (bldH gA (((accC cs (cs.take k).reverse) ++ (claS ++ (cs.getD k default).1)) ++ clsT cs (cs.getD k default).2 inS) (d9 gA) y3) (bldH gA (((accC cs (cs.take k).reverse) ++ (claS ++ (cs.getD k default).1)) ++ clsT cs (cs.getD k default).2 inS) (d9 gA) y3 ++ []) from by rw [List.append_nil]) tK fun y4 hy4 => ?_; refine dX (hp' := bldH gA ((((accC cs (cs.take k).reverse) ++ (claS ++ (cs.getD k default).1)) ++ clsT cs (cs.getD k default).2 inS) ++ (nlS)) (d9 gA) y4) (show List.Perm (bldH gA ((((accC cs (cs.take k).reverse) ++ (claS ++ (cs.getD k default).1)) ++ clsT cs (cs.getD k default).2 inS) ++ (nlS)) (d9 gA) y4 ++ []) (bldH gA ((((accC cs (cs.take k).reverse) ++ (claS ++ (cs.getD k default).1)) ++ clsT cs (cs.getD k default).2 inS) ++ (nlS)) (d9 gA) y4) from by rw [List.append_nil]) ?_; refine b5 (w6 (i1 (c9 ?_))); refine t5 _ rfl rfl rfl rfl q6 ?_; refine b6 rfl (b5 ?_); have hacc : accC cs (cs.take (k + 1)).reverse = ((accC cs (cs.take k).reverse) ++ (claS ++ (cs.getD k default).1)) ++ clsT cs (cs.getD k default).2 inS ++ nlS := by rw [pX hk2, accC]
  exact again _ (k + 1, (d9 gA), y4) ⟨by show k + 1 ≤ cs.length; omega, by show (accC cs (cs.take (k + 1)).reverse).length ≤ 250 * (k + 1); rw [hacc]; simp only [List.length_append]; omega, by show Bld gA (accC cs (cs.take (k + 1)).reverse) _ _ _ _; rw [hacc]; exact hy4⟩ (y8 (by omega)) mC (by show List.Sublist (bldH gA (accC cs (cs.take (k + 1)).reverse) _ _) _; rw [hacc]; exact .refl _) mC
 have hb1' := hb1; try simp at hb1'
 obtain rfl : k = cs.length := by omega
 refine t7 (C7 (t8 (i1 (d6 (i4 (b6 rfl (r8 rfl rfl ?_)))))))
 first | refine a6 ⟨_, 0, none⟩ rfl rfl u9 rfl ?_ | refine a6 _ rfl rfl u9 rfl ?_
 first | refine a6 ⟨_, 1, none⟩ rfl rfl i3 rfl ?_ | refine a6 _ rfl rfl i3 rfl ?_
 first | refine a7 rfl b2 rfl (i2 mB rfl) ?_ | refine a7 rfl b2 rfl (d8 mB rfl) ?_ | refine a7 rfl b2 rfl (b7 mB (b4 (by omega) rfl)) ?_ | refine a7 rfl b2 rfl (b8 mB (rows_get (by omega) rfl)) ?_ | refine a7 rfl b2 rfl (d7 mB rfl) ?_
 refine k6 rfl n4 rfl ?_; refine b6 rfl (c8 (j5 (S7 mB ?_))); refine u6 (β := Nat × Option Addr × BSt) ⟨fun x => x.1 ≤ hs.length ∧ (accH (accC cs (cs.take cs.length).reverse) cs hs (hs.take x.1).reverse).length ≤ 1500 + 2000 * x.1 ∧ Bld gA (accH (accC cs (cs.take cs.length).reverse) cs hs (hs.take x.1).reverse) x.2.1 x.2.2.1 x.2.2.2.1 x.2.2.2.2, fun x => [(0, .pointer (d9 gl)), (3, .pointer (d9 gA)), (45, .slice B hs.length cb), (46, int hs.length), (47, int x.1)], fun x => bldH gA (accH (accC cs (cs.take cs.length).reverse) cs hs (hs.take x.1).reverse) x.2.1 x.2.2, fun _ => [Row (d9 gl) [.slice A cs.length ca, .slice B hs.length cb, .slice oa cs.length oc, .slice ka hs.length kc], Row A (rows cs), RowsF B hs Hd.row, Row B (rows hs)]⟩ (fun x => hs.length - x.1) (0, P, st) ⟨Nat.zero_le _, by show (accC cs (cs.take cs.length).reverse).length ≤ 1500 + 2000 * 0; omega, hb⟩ mC (.refl _) mC fun x hx => ?_; clear hb hl hk; obtain ⟨k, P, st⟩ := x; obtain ⟨hk, hl, hb⟩ := hx; simp only at hk hl hb; refine i4 (B5 rfl rfl rfl (c8 (d6 ?_)))
 first | refine k9 rfl (fun hb3 => ?_) (fun hb3 => ?_) | refine j0 rfl (fun hb3 => ?_) (fun hb3 => ?_)
 ·have hb3' := hb3; try simp at hb3'
  have hk3 : k < hs.length := by omega
  have hcn := hok.hn k hk3; have hct := jq3 hok (hs.getD k default).2.1 isS (by omega); have hst := pq1 hok (hs.getD k default).2.2.1 seS (by omega); refine i8 (i1 (d6 (j5 (i4 ?_)))); refine m7 (α := Hd) _ _ rfl n4 l7 rfl rfl rfl mB rfl (by omega) (by decide) (z8 rfl C1 l7 rfl rfl (v9 mB (B3 (by omega))) (u4 rfl (fun _ => G9 _) fun g7 => l6 rfl rfl X2 l7 (by rfl) (by rfl) ?_)); refine c8 (d6 ?_); refine Q1 (rows [(hs.getD k default)]) ⟨[], List.append_nil _⟩ (c9 ?_)
  first | refine a6 ⟨_, 0, none⟩ rfl rfl l9 rfl ?_ | refine a6 _ rfl rfl l9 rfl ?_
  first | refine a7 rfl a9 rfl (i2 mB rfl) ?_ | refine a7 rfl a9 rfl (d8 mB rfl) ?_ | refine a7 rfl a9 rfl (b7 mB (b4 (by omega) rfl)) ?_ | refine a7 rfl a9 rfl (b8 mB (rows_get (by omega) rfl)) ?_ | refine a7 rfl a9 rfl (d7 mB rfl) ?_
  refine j4 z6 rfl rfl (H9 gA ((accH (accC cs (cs.take cs.length).reverse) cs hs (hs.take k).reverse)) ((hs.getD k default).1) P st hb dH) (show List.Perm (bldH gA ((accH (accC cs (cs.take cs.length).reverse) cs hs (hs.take k).reverse)) P st) (bldH gA ((accH (accC cs (cs.take cs.length).reverse) cs hs (hs.take k).reverse)) P st ++ []) from by rw [List.append_nil]) tK fun z1 hz1 => ?_; refine dX (hp' := bldH gA (((accH (accC cs (cs.take cs.length).reverse) cs hs (hs.take k).reverse)) ++ ((hs.getD k default).1)) (d9 gA) z1) (show List.Perm (bldH gA (((accH (accC cs (cs.take cs.length).reverse) cs hs (hs.take k).reverse)) ++ ((hs.getD k default).1)) (d9 gA) z1 ++ []) (bldH gA (((accH (accC cs (cs.take cs.length).reverse) cs hs (hs.take k).reverse)) ++ ((hs.getD k default).1)) (d9 gA) z1) from by rw [List.append_nil]) ?_; refine c8 ?_; refine I0 ⟨fun y : BSt => Bld gA ((((accH (accC cs (cs.take cs.length).reverse) cs hs (hs.take k).reverse) ++ (hs.getD k default).1) ++ heaT hs (hs.getD k default).2.2.1 seS)) (d9 gA) y.1 y.2.1 y.2.2, fun _ => [(0, .pointer (d9 gl)), (3, .pointer (d9 gA)), (7, .pointer (d9 g7)), (45, .slice B hs.length cb), (46, int hs.length), (47, int k)], fun y => bldH gA ((((accH (accC cs (cs.take cs.length).reverse) cs hs (hs.take k).reverse) ++ (hs.getD k default).1) ++ heaT hs (hs.getD k default).2.2.1 seS)) (d9 gA) y, fun _ => [Row (d9 gl) [.slice A cs.length ca, .slice B hs.length cb, .slice oa cs.length oc, .slice ka hs.length kc], Row A (rows cs), RowsF B hs Hd.row, Row B (rows hs), Row (d9 g7) (rows [(hs.getD k default)])]⟩ ?_ ?_
  ·skip
   refine i4 ?_
   first | refine a6 ⟨_, 2, none⟩ rfl rfl p6 rfl ?_ | refine a6 _ rfl rfl p6 rfl ?_
   first | refine a7 rfl a8 rfl (i2 mB rfl) ?_ | refine a7 rfl a8 rfl (d8 mB rfl) ?_ | refine a7 rfl a8 rfl (b7 mB (b4 (by omega) rfl)) ?_ | refine a7 rfl a8 rfl (b8 mB (rows_get (by omega) rfl)) ?_ | refine a7 rfl a8 rfl (d7 mB rfl) ?_
   refine Z4 rfl rfl rfl (c8 ?_)
   first | refine k9 rfl (fun hb4 => ?_) (fun hb4 => ?_) | refine j0 rfl (fun hb4 => ?_) (fun hb4 => ?_)
   ·have hb4' := hb4; try simp at hb4'
    obtain ⟨m4, hm4⟩ := Int.eq_ofNat_of_zero_le hb4; have hm42 : m4 < hs.length := by omega
    have hm4n : ((hs.getD k default).2.2.1).toNat = m4 := by omega
    have hpn := hok.hn m4 hm42; refine C0 7 mixed (by decide) (by decide) rfl rfl (r7 rfl (k8 (fun w1 => r8 rfl rfl (q_z rfl)) ?_))
    apply k7 _ rfl rfl rfl
    ·intro w1
     first | refine a6 ⟨_, 0, none⟩ rfl rfl u9 rfl ?_ | refine a6 _ rfl rfl u9 rfl ?_
     refine b5 ?_; exact i5 rfl
    apply k7 _ rfl rfl rfl
    ·intro w1
     first | refine a6 ⟨_, 1, none⟩ rfl rfl i3 rfl ?_ | refine a6 _ rfl rfl i3 rfl ?_
     refine b5 ?_; exact i5 rfl
    refine k8 (fun w1 => a7 (v := .slice B hs.length cb) rfl b2 rfl (b7 (A := some ⟨gl, 0, none⟩) (j := 1) (List.mem_cons_of_mem _ (List.mem_append_right _ mB)) rfl) (q_z rfl)) ?_
    apply k7 _ rfl rfl rfl
    ·intro w1
     first | refine a6 ⟨_, 2, none⟩ rfl rfl p6 rfl ?_ | refine a6 _ rfl rfl p6 rfl ?_
     refine b5 ?_; exact i5 rfl
    refine k8 (fun w1 => a7 (v := int (hs.getD k default).2.2.1) rfl a8 rfl (b7 (A := some ⟨g7, 0, none⟩) (j := 2) (List.mem_cons_of_mem _ (List.mem_append_right _ mB)) rfl) (q_z rfl)) ?_; refine v7 ⟨rfl, ?_⟩; refine m7 (α := Hd) hs m4 rfl n4 l7 rfl rfl hm4 mB rfl hm42 (by decide) ?_
    first | refine a6 ⟨_, 0, none⟩ rfl rfl l9 rfl ?_ | refine a6 _ rfl rfl l9 rfl ?_
    refine a7 (v := str (hs.getD m4 default).1) rfl a9 rfl (b7 mB (b4 hm42 rfl)) ?_
    first | refine P8 (x' := seS) rfl w7 rfl dH ?_
    refine j4 z6 rfl rfl (H9 gA (((accH (accC cs (cs.take cs.length).reverse) cs hs (hs.take k).reverse) ++ (hs.getD k default).1)) (seS ++ (hs.getD m4 default).1) (d9 gA) z1 hz1 dH) (show List.Perm (bldH gA (((accH (accC cs (cs.take cs.length).reverse) cs hs (hs.take k).reverse) ++ (hs.getD k default).1)) (d9 gA) z1) (bldH gA (((accH (accC cs (cs.take cs.length).reverse) cs hs (hs.take k).reverse) ++ (hs.getD k default).1)) (d9 gA) z1 ++ []) from by rw [List.append_nil]) tK fun z2 hz2 => ?_; refine dX (hp' := bldH gA ((((accH (accC cs (cs.take cs.length).reverse) cs hs (hs.take k).reverse) ++ (hs.getD k default).1)) ++ (seS ++ (hs.getD m4 default).1)) (d9 gA) z2) (show List.Perm (bldH gA ((((accH (accC cs (cs.take cs.length).reverse) cs hs (hs.take k).reverse) ++ (hs.getD k default).1)) ++ (seS ++ (hs.getD m4 default).1)) (d9 gA) z2 ++ []) (bldH gA ((((accH (accC cs (cs.take cs.length).reverse) cs hs (hs.take k).reverse) ++ (hs.getD k default).1)) ++ (seS ++ (hs.getD m4 default).1)) (d9 gA) z2) from by rw [List.append_nil]) ?_; refine b5 ?_; have hcut := (show (((accH (accC cs (cs.take cs.length).reverse) cs hs (hs.take k).reverse) ++ (hs.getD k default).1) ++ heaT hs (hs.getD k default).2.2.1 seS) = ((accH (accC cs (cs.take cs.length).reverse) cs hs (hs.take k).reverse) ++ (hs.getD k default).1) ++ (seS ++ (hs.getD m4 default).1) by rw [heaT, if_pos hb4, hm4n]); exact D5 _ z2 (by show Bld gA ((((accH (accC cs (cs.take cs.length).reverse) cs hs (hs.take k).reverse) ++ (hs.getD k default).1) ++ heaT hs (hs.getD k default).2.2.1 seS)) _ _ _ _; rw [hcut]; exact hz2) mC (by show List.Sublist (bldH gA ((((accH (accC cs (cs.take cs.length).reverse) cs hs (hs.take k).reverse) ++ (hs.getD k default).1) ++ heaT hs (hs.getD k default).2.2.1 seS)) _ _) _; rw [hcut]; exact .refl _) mC
   have hb4' := hb4; try simp at hb4'
   refine i8 ?_; have hcut := (show (((accH (accC cs (cs.take cs.length).reverse) cs hs (hs.take k).reverse) ++ (hs.getD k default).1) ++ heaT hs (hs.getD k default).2.2.1 seS) = ((accH (accC cs (cs.take cs.length).reverse) cs hs (hs.take k).reverse) ++ (hs.getD k default).1) by rw [heaT, if_neg (by omega), List.append_nil]); exact D5 _ z1 (by show Bld gA ((((accH (accC cs (cs.take cs.length).reverse) cs hs (hs.take k).reverse) ++ (hs.getD k default).1) ++ heaT hs (hs.getD k default).2.2.1 seS)) _ _ _ _; rw [hcut]; exact hz1) mC (by show List.Sublist (bldH gA ((((accH (accC cs (cs.take cs.length).reverse) cs hs (hs.take k).reverse) ++ (hs.getD k default).1) ++ heaT hs (hs.getD k default).2.2.1 seS)) _ _) _; rw [hcut]; exact .refl _) mC
  refine fun z3 hz3 => ?_
  dsimp only
  refine I0 ⟨fun y : BSt => Bld gA (((((accH (accC cs (cs.take cs.length).reverse) cs hs (hs.take k).reverse) ++ (hs.getD k default).1) ++ heaT hs (hs.getD k default).2.2.1 seS) ++ clsT cs (hs.getD k default).2.1 isS)) (d9 gA) y.1 y.2.1 y.2.2, fun _ => [(0, .pointer (d9 gl)), (3, .pointer (d9 gA)), (7, .pointer (d9 g7)), (45, .slice B hs.length cb), (46, int hs.length), (47, int k)], fun y => bldH gA (((((accH (accC cs (cs.take cs.length).reverse) cs hs (hs.take k).reverse) ++ (hs.getD k default).1) ++ heaT hs (hs.getD k default).2.2.1 seS) ++ clsT cs (hs.getD k default).2.1 isS)) (d9 gA) y, fun _ => [Row (d9 gl) [.slice A cs.length ca, .slice B hs.length cb, .slice oa cs.length oc, .slice ka hs.length kc], Row A (rows cs), RowsF B hs Hd.row, Row B (rows hs), Row (d9 g7) (rows [(hs.getD k default)])]⟩ ?_ ?_
  ·skip
   refine i4 ?_
   first | refine a6 ⟨_, 1, none⟩ rfl rfl p7 rfl ?_ | refine a6 _ rfl rfl p7 rfl ?_
   first | refine a7 rfl a8 rfl (i2 mB rfl) ?_ | refine a7 rfl a8 rfl (d8 mB rfl) ?_ | refine a7 rfl a8 rfl (b7 mB (b4 (by omega) rfl)) ?_ | refine a7 rfl a8 rfl (b8 mB (rows_get (by omega) rfl)) ?_ | refine a7 rfl a8 rfl (d7 mB rfl) ?_
   refine Z4 rfl rfl rfl (c8 ?_)
   first | refine k9 rfl (fun hb5 => ?_) (fun hb5 => ?_) | refine j0 rfl (fun hb5 => ?_) (fun hb5 => ?_)
   ·have hb5' := hb5; try simp at hb5'
    obtain ⟨m5, hm5⟩ := Int.eq_ofNat_of_zero_le hb5; have hm52 : m5 < cs.length := by omega
    have hm5n : ((hs.getD k default).2.1).toNat = m5 := by omega
    have hpn := hok.cn m5 hm52; refine C0 7 mixed (by decide) (by decide) rfl rfl (r7 rfl (k8 (fun w1 => r8 rfl rfl (q_z rfl)) ?_))
    apply k7 _ rfl rfl rfl
    ·intro w1
     first | refine a6 ⟨_, 0, none⟩ rfl rfl u9 rfl ?_ | refine a6 _ rfl rfl u9 rfl ?_
     refine b5 ?_; exact i5 rfl
    apply k7 _ rfl rfl rfl
    ·intro w1
     first | refine a6 ⟨_, 0, none⟩ rfl rfl i9 rfl ?_ | refine a6 _ rfl rfl i9 rfl ?_
     refine b5 ?_; exact i5 rfl
    refine k8 (fun w1 => a7 (v := .slice A cs.length ca) rfl b3 rfl (b7 (A := some ⟨gl, 0, none⟩) (j := 0) (List.mem_cons_of_mem _ (List.mem_append_right _ mB)) rfl) (q_z rfl)) ?_
    apply k7 _ rfl rfl rfl
    ·intro w1
     first | refine a6 ⟨_, 1, none⟩ rfl rfl p7 rfl ?_ | refine a6 _ rfl rfl p7 rfl ?_
     refine b5 ?_; exact i5 rfl
    refine k8 (fun w1 => a7 (v := int (hs.getD k default).2.1) rfl a8 rfl (b7 (A := some ⟨g7, 0, none⟩) (j := 1) (List.mem_cons_of_mem _ (List.mem_append_right _ mB)) rfl) (q_z rfl)) ?_; refine v7 ⟨rfl, ?_⟩; refine m7 (α := Cl) cs m5 rfl n6 u7 rfl rfl hm5 mB rfl hm52 (by decide) ?_
    first | refine a6 ⟨_, 0, none⟩ rfl rfl t9 rfl ?_ | refine a6 _ rfl rfl t9 rfl ?_
    refine a7 (v := str (cs.getD m5 default).1) rfl a9 rfl (b7 mB (b4 hm52 rfl)) ?_
    first | refine P8 (x' := isS) rfl w7 rfl dH ?_
    refine j4 z6 rfl rfl (H9 gA ((((accH (accC cs (cs.take cs.length).reverse) cs hs (hs.take k).reverse) ++ (hs.getD k default).1) ++ heaT hs (hs.getD k default).2.2.1 seS)) (isS ++ (cs.getD m5 default).1) (d9 gA) z3 hz3 dH) (show List.Perm (bldH gA ((((accH (accC cs (cs.take cs.length).reverse) cs hs (hs.take k).reverse) ++ (hs.getD k default).1) ++ heaT hs (hs.getD k default).2.2.1 seS)) (d9 gA) z3) (bldH gA ((((accH (accC cs (cs.take cs.length).reverse) cs hs (hs.take k).reverse) ++ (hs.getD k default).1) ++ heaT hs (hs.getD k default).2.2.1 seS)) (d9 gA) z3 ++ []) from by rw [List.append_nil]) tK fun z4 hz4 => ?_; refine dX (hp' := bldH gA (((((accH (accC cs (cs.take cs.length).reverse) cs hs (hs.take k).reverse) ++ (hs.getD k default).1) ++ heaT hs (hs.getD k default).2.2.1 seS)) ++ (isS ++ (cs.getD m5 default).1)) (d9 gA) z4) (show List.Perm (bldH gA (((((accH (accC cs (cs.take cs.length).reverse) cs hs (hs.take k).reverse) ++ (hs.getD k default).1) ++ heaT hs (hs.getD k default).2.2.1 seS)) ++ (isS ++ (cs.getD m5 default).1)) (d9 gA) z4 ++ []) (bldH gA (((((accH (accC cs (cs.take cs.length).reverse) cs hs (hs.take k).reverse) ++ (hs.getD k default).1) ++ heaT hs (hs.getD k default).2.2.1 seS)) ++ (isS ++ (cs.getD m5 default).1)) (d9 gA) z4) from by rw [List.append_nil]) ?_; refine b5 ?_; have hcut := (show ((((accH (accC cs (cs.take cs.length).reverse) cs hs (hs.take k).reverse) ++ (hs.getD k default).1) ++ heaT hs (hs.getD k default).2.2.1 seS) ++ clsT cs (hs.getD k default).2.1 isS) = (((accH (accC cs (cs.take cs.length).reverse) cs hs (hs.take k).reverse) ++ (hs.getD k default).1) ++ heaT hs (hs.getD k default).2.2.1 seS) ++ (isS ++ (cs.getD m5 default).1) by rw [clsT, if_pos hb5, hm5n]); exact D5 _ z4 (by show Bld gA (((((accH (accC cs (cs.take cs.length).reverse) cs hs (hs.take k).reverse) ++ (hs.getD k default).1) ++ heaT hs (hs.getD k default).2.2.1 seS) ++ clsT cs (hs.getD k default).2.1 isS)) _ _ _ _; rw [hcut]; exact hz4) mC (by show List.Sublist (bldH gA (((((accH (accC cs (cs.take cs.length).reverse) cs hs (hs.take k).reverse) ++ (hs.getD k default).1) ++ heaT hs (hs.getD k default).2.2.1 seS) ++ clsT cs (hs.getD k default).2.1 isS)) _ _) _; rw [hcut]; exact .refl _) mC
   have hb5' := hb5; try simp at hb5'
   refine i8 ?_; have hcut := (show ((((accH (accC cs (cs.take cs.length).reverse) cs hs (hs.take k).reverse) ++ (hs.getD k default).1) ++ heaT hs (hs.getD k default).2.2.1 seS) ++ clsT cs (hs.getD k default).2.1 isS) = (((accH (accC cs (cs.take cs.length).reverse) cs hs (hs.take k).reverse) ++ (hs.getD k default).1) ++ heaT hs (hs.getD k default).2.2.1 seS) by rw [clsT, if_neg (by omega), List.append_nil]); exact D5 _ z3 (by show Bld gA (((((accH (accC cs (cs.take cs.length).reverse) cs hs (hs.take k).reverse) ++ (hs.getD k default).1) ++ heaT hs (hs.getD k default).2.2.1 seS) ++ clsT cs (hs.getD k default).2.1 isS)) _ _ _ _; rw [hcut]; exact hz3) mC (by show List.Sublist (bldH gA (((((accH (accC cs (cs.take cs.length).reverse) cs hs (hs.take k).reverse) ++ (hs.getD k default).1) ++ heaT hs (hs.getD k default).2.2.1 seS) ++ clsT cs (hs.getD k default).2.1 isS)) _ _) _; rw [hcut]; exact .refl _) mC
  refine fun z5 hz5 => ?_
  dsimp only
  refine d6 (i4 ?_)
  first | refine a6 ⟨_, 3, none⟩ rfl rfl l5 rfl ?_ | refine a6 _ rfl rfl l5 rfl ?_
  first | refine a7 rfl k4 rfl (i2 mB rfl) ?_ | refine a7 rfl k4 rfl (d8 mB rfl) ?_ | refine a7 rfl k4 rfl (b7 mB (b4 (by omega) rfl)) ?_ | refine a7 rfl k4 rfl (b8 mB (rows_get (by omega) rfl)) ?_ | refine a7 rfl k4 rfl (d7 mB rfl) ?_
  refine k6 rfl A8 rfl ?_; refine b6 rfl (c8 (j5 ?_)); refine iO (p := (hs.getD k default)) (f := Hd.row) (ps := hs) mB (w8 hk3) ?_; refine u6 (β := Nat × BSt) ⟨fun x => x.1 ≤ (hs.getD k default).2.2.2.l.length ∧ (accA hs ((hs.getD k default).2.2.2.l.take x.1).reverse).length ≤ 110 * x.1 ∧ Bld gA (((((accH (accC cs (cs.take cs.length).reverse) cs hs (hs.take k).reverse) ++ (hs.getD k default).1) ++ heaT hs (hs.getD k default).2.2.1 seS) ++ clsT cs (hs.getD k default).2.1 isS) ++ accA hs ((hs.getD k default).2.2.2.l.take x.1).reverse) (d9 gA) x.2.1 x.2.2.1 x.2.2.2, fun x => [(0, .pointer (d9 gl)), (3, .pointer (d9 gA)), (45, .slice B hs.length cb), (46, int hs.length), (47, int k), (85, .slice (hs.getD k default).2.2.2.a (hs.getD k default).2.2.2.l.length (hs.getD k default).2.2.2.c), (86, int (hs.getD k default).2.2.2.l.length), (87, int x.1)], fun x => bldH gA (((((accH (accC cs (cs.take cs.length).reverse) cs hs (hs.take k).reverse) ++ (hs.getD k default).1) ++ heaT hs (hs.getD k default).2.2.1 seS) ++ clsT cs (hs.getD k default).2.1 isS) ++ accA hs ((hs.getD k default).2.2.2.l.take x.1).reverse) (d9 gA) x.2, fun _ => [Row (d9 gl) [.slice A cs.length ca, .slice B hs.length cb, .slice oa cs.length oc, .slice ka hs.length kc], Row A (rows cs), RowsF B hs Hd.row, Row B (rows hs), Row (hs.getD k default).2.2.2.a (rows (hs.getD k default).2.2.2.l)]⟩ (fun x => (hs.getD k default).2.2.2.l.length - x.1) (0, z5) ⟨Nat.zero_le _, Nat.zero_le _, by show Bld gA (((((accH (accC cs (cs.take cs.length).reverse) cs hs (hs.take k).reverse) ++ (hs.getD k default).1) ++ heaT hs (hs.getD k default).2.2.1 seS) ++ clsT cs (hs.getD k default).2.1 isS) ++ []) _ _ _ _; rw [List.append_nil]; exact hz5⟩ mC (by show List.Sublist (bldH gA (((((accH (accC cs (cs.take cs.length).reverse) cs hs (hs.take k).reverse) ++ (hs.getD k default).1) ++ heaT hs (hs.getD k default).2.2.1 seS) ++ clsT cs (hs.getD k default).2.1 isS) ++ []) _ _) _; rw [List.append_nil]; exact .refl _) mC fun x hx => ?_; obtain ⟨j, u⟩ := x; obtain ⟨hj, hjl, hu⟩ := hx; simp only at hj hjl hu; refine i4 (B5 rfl rfl rfl (c8 (d6 ?_)))
  first | refine k9 rfl (fun hb6 => ?_) (fun hb6 => ?_) | refine j0 rfl (fun hb6 => ?_) (fun hb6 => ?_)
  ·have hb6' := hb6; try simp at hb6'
   have hj2 : j < (hs.getD k default).2.2.2.l.length := by omega
   have hxm := hcn.2.2.2.2 _ (w8 hj2); have hrl : (((hs.getD k default).2.2.2.l.take j).reverse).length = j := by rw [List.length_reverse, List.length_take]; omega
   have hxn := nmH hok (((hs.getD k default).2.2.2.l.getD j default)).toNat; obtain ⟨m8, hm8⟩ := Int.eq_ofNat_of_zero_le hxm.1; have hm82 : m8 < hs.length := by omega
   have hm8n : (((hs.getD k default).2.2.2.l.getD j default)).toNat = m8 := by omega
   rw [hm8n] at hxn
   have hal : (if (((hs.getD k default).2.2.2.l.take j).reverse).length = 0 then alS else []).length ≤ 5 := by
     split
     · exact Nat.le_of_eq e6
     exact Nat.zero_le _
   refine i8 (i1 (d6 (j5 (i4 (b6 rfl ?_))))); refine m7 (α := Int) _ _ rfl A8 E1 rfl rfl rfl mB rfl (by omega) (by decide) (a7 rfl a8 rfl (b7 mB (b4 (by omega) rfl)) ?_); refine c5 rfl (c5 rfl (c8 ?_)); refine I0 ⟨fun y : BSt => Bld gA (((((((accH (accC cs (cs.take cs.length).reverse) cs hs (hs.take k).reverse) ++ (hs.getD k default).1) ++ heaT hs (hs.getD k default).2.2.1 seS) ++ clsT cs (hs.getD k default).2.1 isS) ++ (accA hs ((hs.getD k default).2.2.2.l.take j).reverse)) ++ (if (((hs.getD k default).2.2.2.l.take j).reverse).length = 0 then alS else []))) (d9 gA) y.1 y.2.1 y.2.2, fun _ => [(0, .pointer (d9 gl)), (3, .pointer (d9 gA)), (45, .slice B hs.length cb), (46, int hs.length), (47, int k), (85, .slice (hs.getD k default).2.2.2.a (hs.getD k default).2.2.2.l.length (hs.getD k default).2.2.2.c), (86, int (hs.getD k default).2.2.2.l.length), (87, int j), (9, int ((hs.getD k default).2.2.2.l.getD j default))], fun y => bldH gA (((((((accH (accC cs (cs.take cs.length).reverse) cs hs (hs.take k).reverse) ++ (hs.getD k default).1) ++ heaT hs (hs.getD k default).2.2.1 seS) ++ clsT cs (hs.getD k default).2.1 isS) ++ (accA hs ((hs.getD k default).2.2.2.l.take j).reverse)) ++ (if (((hs.getD k default).2.2.2.l.take j).reverse).length = 0 then alS else []))) (d9 gA) y, fun _ => [Row (d9 gl) [.slice A cs.length ca, .slice B hs.length cb, .slice oa cs.length oc, .slice ka hs.length kc], Row A (rows cs), RowsF B hs Hd.row, Row B (rows hs), Row (hs.getD k default).2.2.2.a (rows (hs.getD k default).2.2.2.l)]⟩ ?_ ?_
   ·skip
    refine i4 (b6 rfl (J0 rfl rfl rfl (c8 ?_)))
    first | refine k9 rfl (fun hb7 => ?_) (fun hb7 => ?_) | refine j0 rfl (fun hb7 => ?_) (fun hb7 => ?_)
    ·have hb7' := hb7; try simp at hb7'
     refine c9 ?_; refine j4 z6 rfl rfl (H9 gA ((((((accH (accC cs (cs.take cs.length).reverse) cs hs (hs.take k).reverse) ++ (hs.getD k default).1) ++ heaT hs (hs.getD k default).2.2.1 seS) ++ clsT cs (hs.getD k default).2.1 isS) ++ (accA hs ((hs.getD k default).2.2.2.l.take j).reverse))) (alS) (d9 gA) u hu dH) (show List.Perm (bldH gA ((((((accH (accC cs (cs.take cs.length).reverse) cs hs (hs.take k).reverse) ++ (hs.getD k default).1) ++ heaT hs (hs.getD k default).2.2.1 seS) ++ clsT cs (hs.getD k default).2.1 isS) ++ (accA hs ((hs.getD k default).2.2.2.l.take j).reverse))) (d9 gA) u) (bldH gA ((((((accH (accC cs (cs.take cs.length).reverse) cs hs (hs.take k).reverse) ++ (hs.getD k default).1) ++ heaT hs (hs.getD k default).2.2.1 seS) ++ clsT cs (hs.getD k default).2.1 isS) ++ (accA hs ((hs.getD k default).2.2.2.l.take j).reverse))) (d9 gA) u ++ []) from by rw [List.append_nil]) tK fun u1 hu1 => ?_; refine dX (hp' := bldH gA (((((((accH (accC cs (cs.take cs.length).reverse) cs hs (hs.take k).reverse) ++ (hs.getD k default).1) ++ heaT hs (hs.getD k default).2.2.1 seS) ++ clsT cs (hs.getD k default).2.1 isS) ++ (accA hs ((hs.getD k default).2.2.2.l.take j).reverse))) ++ (alS)) (d9 gA) u1) (show List.Perm (bldH gA (((((((accH (accC cs (cs.take cs.length).reverse) cs hs (hs.take k).reverse) ++ (hs.getD k default).1) ++ heaT hs (hs.getD k default).2.2.1 seS) ++ clsT cs (hs.getD k default).2.1 isS) ++ (accA hs ((hs.getD k default).2.2.2.l.take j).reverse))) ++ (alS)) (d9 gA) u1 ++ []) (bldH gA (((((((accH (accC cs (cs.take cs.length).reverse) cs hs (hs.take k).reverse) ++ (hs.getD k default).1) ++ heaT hs (hs.getD k default).2.2.1 seS) ++ clsT cs (hs.getD k default).2.1 isS) ++ (accA hs ((hs.getD k default).2.2.2.l.take j).reverse))) ++ (alS)) (d9 gA) u1) from by rw [List.append_nil]) ?_; refine b5 ?_; have hcut := (show ((((((accH (accC cs (cs.take cs.length).reverse) cs hs (hs.take k).reverse) ++ (hs.getD k default).1) ++ heaT hs (hs.getD k default).2.2.1 seS) ++ clsT cs (hs.getD k default).2.1 isS) ++ (accA hs ((hs.getD k default).2.2.2.l.take j).reverse)) ++ (if (((hs.getD k default).2.2.2.l.take j).reverse).length = 0 then alS else [])) = (((((accH (accC cs (cs.take cs.length).reverse) cs hs (hs.take k).reverse) ++ (hs.getD k default).1) ++ heaT hs (hs.getD k default).2.2.1 seS) ++ clsT cs (hs.getD k default).2.1 isS) ++ (accA hs ((hs.getD k default).2.2.2.l.take j).reverse)) ++ alS by rw [if_pos (by omega)]); exact D5 _ u1 (by show Bld gA (((((((accH (accC cs (cs.take cs.length).reverse) cs hs (hs.take k).reverse) ++ (hs.getD k default).1) ++ heaT hs (hs.getD k default).2.2.1 seS) ++ clsT cs (hs.getD k default).2.1 isS) ++ (accA hs ((hs.getD k default).2.2.2.l.take j).reverse)) ++ (if (((hs.getD k default).2.2.2.l.take j).reverse).length = 0 then alS else []))) _ _ _ _; rw [hcut]; exact hu1) mC (by show List.Sublist (bldH gA (((((((accH (accC cs (cs.take cs.length).reverse) cs hs (hs.take k).reverse) ++ (hs.getD k default).1) ++ heaT hs (hs.getD k default).2.2.1 seS) ++ clsT cs (hs.getD k default).2.1 isS) ++ (accA hs ((hs.getD k default).2.2.2.l.take j).reverse)) ++ (if (((hs.getD k default).2.2.2.l.take j).reverse).length = 0 then alS else []))) _ _) _; rw [hcut]; exact .refl _) mC
    have hb7' := hb7; try simp at hb7'
    refine i8 ?_; have hcut := (show ((((((accH (accC cs (cs.take cs.length).reverse) cs hs (hs.take k).reverse) ++ (hs.getD k default).1) ++ heaT hs (hs.getD k default).2.2.1 seS) ++ clsT cs (hs.getD k default).2.1 isS) ++ (accA hs ((hs.getD k default).2.2.2.l.take j).reverse)) ++ (if (((hs.getD k default).2.2.2.l.take j).reverse).length = 0 then alS else [])) = (((((accH (accC cs (cs.take cs.length).reverse) cs hs (hs.take k).reverse) ++ (hs.getD k default).1) ++ heaT hs (hs.getD k default).2.2.1 seS) ++ clsT cs (hs.getD k default).2.1 isS) ++ (accA hs ((hs.getD k default).2.2.2.l.take j).reverse)) by rw [if_neg (by omega), List.append_nil]); exact D5 _ u (by show Bld gA (((((((accH (accC cs (cs.take cs.length).reverse) cs hs (hs.take k).reverse) ++ (hs.getD k default).1) ++ heaT hs (hs.getD k default).2.2.1 seS) ++ clsT cs (hs.getD k default).2.1 isS) ++ (accA hs ((hs.getD k default).2.2.2.l.take j).reverse)) ++ (if (((hs.getD k default).2.2.2.l.take j).reverse).length = 0 then alS else []))) _ _ _ _; rw [hcut]; exact hu) mC (by show List.Sublist (bldH gA (((((((accH (accC cs (cs.take cs.length).reverse) cs hs (hs.take k).reverse) ++ (hs.getD k default).1) ++ heaT hs (hs.getD k default).2.2.1 seS) ++ clsT cs (hs.getD k default).2.1 isS) ++ (accA hs ((hs.getD k default).2.2.2.l.take j).reverse)) ++ (if (((hs.getD k default).2.2.2.l.take j).reverse).length = 0 then alS else []))) _ _) _; rw [hcut]; exact .refl _) mC
   refine fun u2 hu2 => ?_
   dsimp only
   refine c9 (b6 rfl (r8 rfl rfl ?_))
   first | refine a6 ⟨_, 0, none⟩ rfl rfl u9 rfl ?_ | refine a6 _ rfl rfl u9 rfl ?_
   first | refine a6 ⟨_, 1, none⟩ rfl rfl i3 rfl ?_ | refine a6 _ rfl rfl i3 rfl ?_
   first | refine a7 rfl b2 rfl (i2 mB rfl) ?_ | refine a7 rfl b2 rfl (d8 mB rfl) ?_ | refine a7 rfl b2 rfl (b7 mB (b4 (by omega) rfl)) ?_ | refine a7 rfl b2 rfl (b8 mB (rows_get (by omega) rfl)) ?_ | refine a7 rfl b2 rfl (d7 mB rfl) ?_
   refine b6 rfl (m7 (α := Hd) hs m8 rfl n4 l7 rfl rfl hm8 mB rfl hm82 (by decide) ?_)
   first | refine a6 ⟨_, 0, none⟩ rfl rfl l9 rfl ?_ | refine a6 _ rfl rfl l9 rfl ?_
   refine a7 (v := str (hs.getD m8 default).1) rfl a9 rfl (b7 mB (b4 hm82 rfl)) ?_
   first | refine P8 (x' := spS) rfl w7 rfl dH ?_
   refine j4 z6 rfl rfl (H9 gA (((((((accH (accC cs (cs.take cs.length).reverse) cs hs (hs.take k).reverse) ++ (hs.getD k default).1) ++ heaT hs (hs.getD k default).2.2.1 seS) ++ clsT cs (hs.getD k default).2.1 isS) ++ (accA hs ((hs.getD k default).2.2.2.l.take j).reverse)) ++ (if (((hs.getD k default).2.2.2.l.take j).reverse).length = 0 then alS else []))) (spS ++ (hs.getD m8 default).1) (d9 gA) u2 hu2 dH) (show List.Perm (bldH gA (((((((accH (accC cs (cs.take cs.length).reverse) cs hs (hs.take k).reverse) ++ (hs.getD k default).1) ++ heaT hs (hs.getD k default).2.2.1 seS) ++ clsT cs (hs.getD k default).2.1 isS) ++ (accA hs ((hs.getD k default).2.2.2.l.take j).reverse)) ++ (if (((hs.getD k default).2.2.2.l.take j).reverse).length = 0 then alS else []))) (d9 gA) u2) (bldH gA (((((((accH (accC cs (cs.take cs.length).reverse) cs hs (hs.take k).reverse) ++ (hs.getD k default).1) ++ heaT hs (hs.getD k default).2.2.1 seS) ++ clsT cs (hs.getD k default).2.1 isS) ++ (accA hs ((hs.getD k default).2.2.2.l.take j).reverse)) ++ (if (((hs.getD k default).2.2.2.l.take j).reverse).length = 0 then alS else []))) (d9 gA) u2 ++ []) from by rw [List.append_nil]) tK fun u3 hu3 => ?_; refine dX (hp' := bldH gA ((((((((accH (accC cs (cs.take cs.length).reverse) cs hs (hs.take k).reverse) ++ (hs.getD k default).1) ++ heaT hs (hs.getD k default).2.2.1 seS) ++ clsT cs (hs.getD k default).2.1 isS) ++ (accA hs ((hs.getD k default).2.2.2.l.take j).reverse)) ++ (if (((hs.getD k default).2.2.2.l.take j).reverse).length = 0 then alS else []))) ++ (spS ++ (hs.getD m8 default).1)) (d9 gA) u3) (show List.Perm (bldH gA ((((((((accH (accC cs (cs.take cs.length).reverse) cs hs (hs.take k).reverse) ++ (hs.getD k default).1) ++ heaT hs (hs.getD k default).2.2.1 seS) ++ clsT cs (hs.getD k default).2.1 isS) ++ (accA hs ((hs.getD k default).2.2.2.l.take j).reverse)) ++ (if (((hs.getD k default).2.2.2.l.take j).reverse).length = 0 then alS else []))) ++ (spS ++ (hs.getD m8 default).1)) (d9 gA) u3 ++ []) (bldH gA ((((((((accH (accC cs (cs.take cs.length).reverse) cs hs (hs.take k).reverse) ++ (hs.getD k default).1) ++ heaT hs (hs.getD k default).2.2.1 seS) ++ clsT cs (hs.getD k default).2.1 isS) ++ (accA hs ((hs.getD k default).2.2.2.l.take j).reverse)) ++ (if (((hs.getD k default).2.2.2.l.take j).reverse).length = 0 then alS else []))) ++ (spS ++ (hs.getD m8 default).1)) (d9 gA) u3) from by rw [List.append_nil]) ?_; refine b5 (w6 (i1 (c9 ?_))); refine t5 _ rfl rfl rfl rfl q6 ?_; refine b6 rfl (b5 ?_); have hacc : accA hs ((hs.getD k default).2.2.2.l.take (j + 1)).reverse = (accA hs ((hs.getD k default).2.2.2.l.take j).reverse) ++ (if (((hs.getD k default).2.2.2.l.take j).reverse).length = 0 then alS else []) ++ (spS ++ (hs.getD m8 default).1) := by rw [pX hj2, accA, hm8n]
   have hac2 : ((((accH (accC cs (cs.take cs.length).reverse) cs hs (hs.take k).reverse) ++ (hs.getD k default).1) ++ heaT hs (hs.getD k default).2.2.1 seS) ++ clsT cs (hs.getD k default).2.1 isS) ++ accA hs ((hs.getD k default).2.2.2.l.take (j + 1)).reverse = ((((((accH (accC cs (cs.take cs.length).reverse) cs hs (hs.take k).reverse) ++ (hs.getD k default).1) ++ heaT hs (hs.getD k default).2.2.1 seS) ++ clsT cs (hs.getD k default).2.1 isS) ++ (accA hs ((hs.getD k default).2.2.2.l.take j).reverse)) ++ (if (((hs.getD k default).2.2.2.l.take j).reverse).length = 0 then alS else [])) ++ (spS ++ (hs.getD m8 default).1) := by rw [hacc]; simp only [List.append_assoc]
   exact again _ (j + 1, u3) ⟨by show j + 1 ≤ (hs.getD k default).2.2.2.l.length; omega, by show (accA hs ((hs.getD k default).2.2.2.l.take (j + 1)).reverse).length ≤ 110 * (j + 1); rw [hacc]; simp only [List.length_append]; omega, by show Bld gA (((((accH (accC cs (cs.take cs.length).reverse) cs hs (hs.take k).reverse) ++ (hs.getD k default).1) ++ heaT hs (hs.getD k default).2.2.1 seS) ++ clsT cs (hs.getD k default).2.1 isS) ++ accA hs ((hs.getD k default).2.2.2.l.take (j + 1)).reverse) _ _ _ _; rw [hac2]; exact hu3⟩ (y8 (by omega)) mC (by show List.Sublist (bldH gA (((((accH (accC cs (cs.take cs.length).reverse) cs hs (hs.take k).reverse) ++ (hs.getD k default).1) ++ heaT hs (hs.getD k default).2.2.1 seS) ++ clsT cs (hs.getD k default).2.1 isS) ++ accA hs ((hs.getD k default).2.2.2.l.take (j + 1)).reverse) _ _) _; rw [hac2]; exact .refl _) mC
  have hb6' := hb6; try simp at hb6'
  obtain rfl : j = (hs.getD k default).2.2.2.l.length := by omega
  refine t7 (C7 (t8 (i1 (c9 ?_)))); refine j4 z6 rfl rfl (H9 gA (((((accH (accC cs (cs.take cs.length).reverse) cs hs (hs.take k).reverse) ++ (hs.getD k default).1) ++ heaT hs (hs.getD k default).2.2.1 seS) ++ clsT cs (hs.getD k default).2.1 isS) ++ accA hs ((hs.getD k default).2.2.2.l.take (hs.getD k default).2.2.2.l.length).reverse) (nlS) (d9 gA) u hu dH) (show List.Perm (bldH gA (((((accH (accC cs (cs.take cs.length).reverse) cs hs (hs.take k).reverse) ++ (hs.getD k default).1) ++ heaT hs (hs.getD k default).2.2.1 seS) ++ clsT cs (hs.getD k default).2.1 isS) ++ accA hs ((hs.getD k default).2.2.2.l.take (hs.getD k default).2.2.2.l.length).reverse) (d9 gA) u) (bldH gA (((((accH (accC cs (cs.take cs.length).reverse) cs hs (hs.take k).reverse) ++ (hs.getD k default).1) ++ heaT hs (hs.getD k default).2.2.1 seS) ++ clsT cs (hs.getD k default).2.1 isS) ++ accA hs ((hs.getD k default).2.2.2.l.take (hs.getD k default).2.2.2.l.length).reverse) (d9 gA) u ++ []) from by rw [List.append_nil]) tK fun v1 hv1 => ?_; refine dX (hp' := bldH gA ((((((accH (accC cs (cs.take cs.length).reverse) cs hs (hs.take k).reverse) ++ (hs.getD k default).1) ++ heaT hs (hs.getD k default).2.2.1 seS) ++ clsT cs (hs.getD k default).2.1 isS) ++ accA hs ((hs.getD k default).2.2.2.l.take (hs.getD k default).2.2.2.l.length).reverse) ++ (nlS)) (d9 gA) v1) (show List.Perm (bldH gA ((((((accH (accC cs (cs.take cs.length).reverse) cs hs (hs.take k).reverse) ++ (hs.getD k default).1) ++ heaT hs (hs.getD k default).2.2.1 seS) ++ clsT cs (hs.getD k default).2.1 isS) ++ accA hs ((hs.getD k default).2.2.2.l.take (hs.getD k default).2.2.2.l.length).reverse) ++ (nlS)) (d9 gA) v1 ++ []) (bldH gA ((((((accH (accC cs (cs.take cs.length).reverse) cs hs (hs.take k).reverse) ++ (hs.getD k default).1) ++ heaT hs (hs.getD k default).2.2.1 seS) ++ clsT cs (hs.getD k default).2.1 isS) ++ accA hs ((hs.getD k default).2.2.2.l.take (hs.getD k default).2.2.2.l.length).reverse) ++ (nlS)) (d9 gA) v1) from by rw [List.append_nil]) ?_; refine b5 (w6 (i1 (c9 ?_))); refine t5 _ rfl rfl rfl rfl q6 ?_; refine b6 rfl (b5 ?_); have htl : (hs.getD k default).2.2.2.l.take (hs.getD k default).2.2.2.l.length = (hs.getD k default).2.2.2.l := List.take_length; have hacc : accH (accC cs (cs.take cs.length).reverse) cs hs (hs.take (k + 1)).reverse = ((((accH (accC cs (cs.take cs.length).reverse) cs hs (hs.take k).reverse) ++ (hs.getD k default).1) ++ heaT hs (hs.getD k default).2.2.1 seS) ++ clsT cs (hs.getD k default).2.1 isS) ++ accA hs ((hs.getD k default).2.2.2.l.take (hs.getD k default).2.2.2.l.length).reverse ++ nlS := by rw [pX hk3, accH, heaE, htl]; simp only [List.append_assoc]
  exact again _ (k + 1, (d9 gA), v1) ⟨by show k + 1 ≤ hs.length; omega, by show (accH (accC cs (cs.take cs.length).reverse) cs hs (hs.take (k + 1)).reverse).length ≤ 1500 + 2000 * (k + 1); rw [hacc]; simp only [List.length_append]; omega, by show Bld gA (accH (accC cs (cs.take cs.length).reverse) cs hs (hs.take (k + 1)).reverse) _ _ _ _; rw [hacc]; exact hv1⟩ (y8 (by omega)) mC (by show List.Sublist (bldH gA (accH (accC cs (cs.take cs.length).reverse) cs hs (hs.take (k + 1)).reverse) _ _) _; rw [hacc]; exact .refl _) mC
 have hb3' := hb3; try simp at hb3'
 obtain rfl : k = hs.length := by omega
 refine t7 (C7 (t8 (i1 (i4 ?_)))); refine j4 z6 rfl rfl (H9 gA (accH (accC cs (cs.take cs.length).reverse) cs hs (hs.take hs.length).reverse) (fiS) P st hb dH) (show List.Perm (bldH gA (accH (accC cs (cs.take cs.length).reverse) cs hs (hs.take hs.length).reverse) P st) (bldH gA (accH (accC cs (cs.take cs.length).reverse) cs hs (hs.take hs.length).reverse) P st ++ []) from by rw [List.append_nil]) tK fun w1 hw1 => ?_; refine dX (hp' := bldH gA ((accH (accC cs (cs.take cs.length).reverse) cs hs (hs.take hs.length).reverse) ++ (fiS)) (d9 gA) w1) (show List.Perm (bldH gA ((accH (accC cs (cs.take cs.length).reverse) cs hs (hs.take hs.length).reverse) ++ (fiS)) (d9 gA) w1 ++ []) (bldH gA ((accH (accC cs (cs.take cs.length).reverse) cs hs (hs.take hs.length).reverse) ++ (fiS)) (d9 gA) w1) from by rw [List.append_nil]) ?_; refine t6 ?_; refine j4 jV rfl rfl (ij8 gA (accH (accC cs (cs.take cs.length).reverse) cs hs (hs.take hs.length).reverse ++ fiS) (d9 gA) w1 hw1 (by intro e; have := congrArg List.length e; rw [List.length_append] at this; simp only [List.length_nil] at this; omega)) (show List.Perm (bldH gA (accH (accC cs (cs.take cs.length).reverse) cs hs (hs.take hs.length).reverse ++ fiS) (d9 gA) w1) (bldH gA (accH (accC cs (cs.take cs.length).reverse) cs hs (hs.take hs.length).reverse ++ fiS) (d9 gA) w1 ++ []) from by rw [List.append_nil]) tK fun _ _ => ?_; refine c5 rfl (c8 (l4 ?_)); exact ret1 () rfl (by rw [List.take_length, List.take_length]; rfl) rfl tK nK tK
def wrS : Str := [99, 108, 97, 115, 115, 32, 102, 111, 111, 100, 10, 99, 108, 97, 115, 115, 32, 98, 114, 101, 97, 100, 32, 105, 110, 32, 102, 111, 111, 100, 10, 99, 108, 97, 115, 115, 32, 99, 108, 111, 116, 104, 10, 99, 108, 97, 115, 115, 32, 104, 97, 116, 115, 32, 105, 110, 32, 99, 108, 111, 116, 104, 10, 98, 97, 107, 101, 114, 32, 105, 115, 32, 98, 114, 101, 97, 100, 10, 98, 111, 110, 110, 101, 116, 115, 32, 115, 101, 101, 32, 104, 97, 116, 116, 101, 114, 10, 99, 111, 110, 102, 101, 99, 116, 105, 111, 110, 101, 114, 32, 105, 115, 32, 102, 111, 111, 100, 32, 97, 108, 115, 111, 32, 98, 97, 107, 101, 114, 10, 104, 97, 116, 116, 101, 114, 32, 105, 115, 32, 104, 97, 116, 115, 10, 109, 101, 114, 99, 101, 114, 32, 105, 115, 32, 99, 108, 111, 116, 104, 32, 97, 108, 115, 111, 32, 104, 97, 116, 116, 101, 114, 10, 109, 105, 108, 108, 105, 110, 101, 114, 32, 115, 101, 101, 32, 98, 111, 110, 110, 101, 116, 115, 10, 102, 105, 110, 105, 115, 10]
theorem yI {A B : Option Addr} {ca cb : Nat} (cs : List Cl) (hs : List Hd) (hca : cs.length ≤ ca) (hcb : hs.length ≤ cb) (ha : ∀ h ∈ hs, h.2.2.2.l.length ≤ 1000000) (h0 : checkT (trOf cs hs) = 0) (hw : WrOK cs hs) : Meets prog aF [.agg #[.slice A cs.length ca, .slice B hs.length cb]] { LI := [Row A (rows cs), RowsF B hs Hd.row], val := fun _ : Unit => .tuple #[str (wrT cs hs), int 0] } := by
 refine j3 qJ rfl v8 fun w0 => i4 (O3 rfl rfl fun gB => ?_); refine c5 rfl (c5 rfl (c8 ?_)); refine I0 ⟨fun _ : Nat × OutC × OutC => True, fun x => [(1, .pointer (d9 gB)), (4, if checkT (trOf cs hs) = 0 then .pointer (some ⟨x.1, 0, none⟩) else .pointer none), (5, int (checkT (trOf cs hs)))], fun _ => [(gB, .cells #[.slice A cs.length ca, .slice B hs.length cb] p8 (0, 0))], fun x => (if checkT (trOf cs hs) = 0 then beginL cs hs A ca B cb x else []) ++ [Row A (rows cs), RowsF B hs Hd.row]⟩ ?_ ?_
 ·skip
  refine c9 ?_
  first | refine G3 rfl i6 c7 rfl mB (by rfl) ?_ | refine I3 rfl i6 c7 rfl mB (by rfl) ?_ | refine z8 rfl i6 c7 rfl rfl (v9 mB (B3 (by omega))) ?_
  refine j4 M3 rfl rfl (L9 cs hs hca hcb ha) t4 mC fun x _ => ?_; refine b6 rfl (l3 rfl rfl rfl (l3 rfl rfl rfl (c5 rfl (c5 rfl (b5 ?_))))); exact D5 _ x tK mC (List.Sublist.refl _) (LSub.of_mem fun F h => h)
 refine fun x _ => ?_
 dsimp only
 refine d6 (i4 (b6 rfl (M8 rfl rfl rfl (c8 ?_))))
 first | refine k9 rfl (fun hb1 => ?_) (fun hb1 => ?_) | refine j0 rfl (fun hb1 => ?_) (fun hb1 => ?_)
 ·exact absurd h0 hb1
 have hb1' := hb1; try simp at hb1'
 rw [if_pos h0, if_pos h0]; have hok := mW h0; have h6 : cs.length ≤ 6 := hok.c6; have h6h := hok.h6; rw [H0] at h6h; have hcl : ∀ i, i < cs.length → ClsOK cs i := hok.c; obtain ⟨gl, ⟨oa, oc⟩, ⟨ka, kc⟩⟩ := x; show HC _ _ _ _ _ [Row (d9 gl) [.slice A cs.length ca, .slice B hs.length cb, .slice oa cs.length oc, .slice ka hs.length kc], Row oa (rows (masksN cs cs.length)), Row ka (rows (kindsN hs hs.length)), Row A (rows cs), RowsF B hs Hd.row]; refine i8 (i1 (i4 (b6 rfl ?_))); refine j4 rD rfl rfl (ax8 (A := A) (B := B) (oa := oa) (oc := oc) (ka := ka) (kc := kc) (gl := gl) (ca := ca) (cb := cb) cs hs hw) t4 mC fun _ _ => ?_; refine c5 rfl (c5 rfl (c8 (l4 ?_))); exact ret2 () rfl rfl rfl rfl rfl tK nK tK
def joinB (b : UInt8) : List Str → Str
  | [] => []
  | [a] => a
  | a :: c :: r => a ++ b :: joinB b (c :: r)
def lnsS (ls : List Str) : Str := ls.flatMap (· ++ [10])
def jn (l : List Str) : Str := l.flatMap fun w => 32 :: w
def cwT (cn : Int → Str) (c : Cl) : List Str := wClass :: c.1 :: (if 0 ≤ c.2 then [kIn, cn c.2] else [])
def hwT (cn hn : Int → Str) (h : PH) : List Str := h.1 :: ((if 0 ≤ h.2.2.1 then [kSee, hn h.2.2.1] else []) ++ ((if 0 ≤ h.2.1 then [kIs, cn h.2.1] else []) ++ (if h.2.2.2 = [] then [] else kAlso :: h.2.2.2.map hn)))
def cnT (cs : List Cl) (z : Int) : Str := (cs.getD z.toNat default).1
def hnT (hs : List Hd) (z : Int) : Str := (hs.getD z.toNat default).1
def trL (cs : List Cl) (hs : List Hd) : List Str := (cs.map fun c => joinB 32 (cwT (cnT cs) c)) ++ ((hs.map fun h => joinB 32 (hwT (cnT cs) (hnT hs) h.p)) ++ [wFinis])
def Azs (w : Str) : Prop := (10 : UInt8) ∉ w ∧ (32 : UInt8) ∉ w
theorem iq2 {w : Str} (h : wordB w = true) : Azs w ∧ w ≠ [] ∧ w ≠ wClass ∧ w ≠ wFinis ∧ w.length ≤ 12 := by
  unfold wordB at h; simp only [Bool.and_eq_true, decide_eq_true_eq] at h; obtain ⟨h1, h2, h3, h4, h5⟩ := h
  have ha : ∀ c ∈ w, 97 ≤ c.toNat := fun c hc => by
    have := List.all_eq_true.1 h5 c hc; unfold azB at this; simp only [Bool.and_eq_true, decide_eq_true_eq] at this; exact this.1
  exact ⟨⟨fun hm => absurd (ha _ hm) (by decide), fun hm => absurd (ha _ hm) (by decide)⟩, fun e => by rw [e] at h1; simp at h1, h3, h4, h2⟩
def cpT (cn : Int → Str) (c : Cl) : PL := (c.1, if 0 ≤ c.2 then cn c.2 else [], [], [])
def hqT (cn hn : Int → Str) (h : PH) : PL := (h.1, if 0 ≤ h.2.1 then cn h.2.1 else [], if 0 ≤ h.2.2.1 then hn h.2.2.1 else [], h.2.2.2.map hn)
structure HwOK (cn hn : Int → Str) (h : PH) : Prop where
  w : wordB h.1 = true
  c : 0 ≤ h.2.1 → wordB (cn h.2.1) = true
  s : 0 ≤ h.2.2.1 → wordB (hn h.2.2.1) = true
  a : ∀ x ∈ h.2.2.2, wordB (hn x) = true
  k : (0 ≤ h.2.2.1 ∧ h.2.1 = -1 ∧ h.2.2.2 = []) ∨ (h.2.2.1 = -1 ∧ 0 ≤ h.2.1) ∨ (h.2.2.1 = -1 ∧ h.2.1 = -1 ∧ h.2.2.2 ≠ [])
theorem kq6 {s : Str} {f i : Nat} (h1 : f ≤ i) (h2 : i < s.length) : s.drop f = (s.drop f).take (i - f) ++ s[i] :: s.drop (i + 1) := by
  have e : s[i] :: s.drop (i + 1) = (s.drop f).drop (i - f) := by
    rw [List.drop_drop, show f + (i - f) = i by omega]; exact (List.drop_eq_getElem_cons h2).symm
  rw [e, List.take_append_drop]
def SpI (b : UInt8) (s : Str) (i f : Nat) (done : List Str) : Prop := done.length ≤ i ∧ ((i ≤ s.length ∧ f ≤ i ∧ splitB b s = done ++ splitB b (s.drop f) ∧ b ∉ (s.drop f).take (i - f)) ∨ (i = s.length + 1 ∧ f = s.length + 1 ∧ done = splitB b s))
theorem sp_end {b : UInt8} {s : Str} {f : Nat} {done : List Str} (h : SpI b s s.length f done) : SpI b s (s.length + 1) (s.length + 1) (done ++ [(s.drop f).take (s.length - f)]) := by
  obtain ⟨h0, ⟨h1, h2, h3, h4⟩ | ⟨h1, _⟩⟩ := h
  · refine ⟨by rw [List.length_append, List.length_singleton]; omega, .inr ⟨rfl, rfl, ?_⟩⟩
    have e : (s.drop f).take (s.length - f) = s.drop f := List.take_of_length_le (by rw [List.length_drop]; omega); rw [e] at h4 ⊢; rw [h3, cz3 h4]
  omega
theorem sp_at {b : UInt8} {s : Str} {i f : Nat} {done : List Str} (h : SpI b s i f done) (hi : i < s.length) (hb : s[i] = b) : SpI b s (i + 1) (i + 1) (done ++ [(s.drop f).take (i - f)]) := by
  obtain ⟨h0, ⟨h1, h2, h3, h4⟩ | ⟨h1, _⟩⟩ := h
  · refine ⟨by rw [List.length_append, List.length_singleton]; omega, .inl ⟨hi, Nat.le_refl _, ?_, by simp⟩⟩
    have e := kq6 h2 hi; rw [hb] at e
    have e2 : splitB b (s.drop f) = (s.drop f).take (i - f) :: splitB b (s.drop (i + 1)) := by
      conv => lhs; rw [e]
      exact cz4 _ h4
    rw [h3, e2, List.append_assoc]
    rfl
  omega
theorem sp_on {b : UInt8} {s : Str} {i f : Nat} {done : List Str} (h : SpI b s i f done) (hi : i < s.length) (hb : ¬ s[i] = b) : SpI b s (i + 1) f done := by
  obtain ⟨h0, ⟨h1, h2, h3, h4⟩ | ⟨h1, _⟩⟩ := h
  · refine ⟨by omega, .inl ⟨hi, by omega, h3, ?_⟩⟩
    have hl : i - f < (s.drop f).length := by rw [List.length_drop]; omega
    rw [show i + 1 - f = i - f + 1 by omega, List.take_succ_eq_append_getElem hl]; intro hm
    rcases List.mem_append.1 hm with hm | hm
    · exact h4 hm
    rw [List.mem_singleton, List.getElem_drop] at hm
    apply hb
    rw [hm]
    congr 1
    omega
  omega
set_option maxHeartbeats 1000000 in
theorem mZ (s : Str) (b : UInt8) (hs : s.length ≤ 100000) : Meets prog lX [str s, .int .u8 b.toNat] { inv := fun x : OutC => (splitB b s).length ≤ x.2, val := fun x => .slice x.1 (splitB b s).length x.2, LO := fun x => [Row x.1 (rows (splitB b s))] } := by
 refine j3 bj4 rfl v8 fun w0 => ?_; refine i4 (c5 rfl (t6 (c5 rfl (t6 ?_)))); refine c5 rfl (c8 (d6 (i4 (c5 rfl (c8 (j5 ?_)))))); refine u6 (β := Nat × Nat × List Str × OutC × Hp) ⟨fun z => SpI b s z.1 z.2.1 z.2.2.1 ∧ z.1 ≤ s.length ∧ Grow H2 1 z.2.2.2.1.1 z.2.2.1.length z.2.2.2.1.2 (rows z.2.2.1) z.2.2.2.2, fun z => [(0, str s), (1, .int .u8 b.toNat), (5, .slice z.2.2.2.1.1 z.2.2.1.length z.2.2.2.1.2), (6, int z.2.1), (7, int z.1)], fun z => z.2.2.2.2, fun _ => []⟩ (fun z => s.length - z.1) (0, 0, [], (none, 0), []) ⟨⟨Nat.le_refl 0, .inl ⟨Nat.zero_le _, Nat.le_refl 0, rfl, by simp⟩⟩, Nat.zero_le _, Grow.nil _ _⟩ mC (.refl _) tK fun z hz => ?_; obtain ⟨i, f, done, o, og⟩ := z; obtain ⟨hI, hle, hG⟩ := hz; simp only at hI hG hle; have hdl := hI.1
 have hfi : f ≤ i := by
   rcases hI.2 with ⟨_, h, _⟩ | ⟨h, _⟩ <;> omega
 refine d6 (i4 (b6 rfl (b6 rfl ?_))); refine G5 rfl q8 rfl ?_; refine B5 rfl rfl rfl (c8 ?_); refine k9 rfl (fun hb1 => ?_) (fun hb1 => ?_)
 ·have hb1' := hb1; try simp at hb1'
  have hlt : i < s.length := by simp at hb1; omega
  refine i8 (i1 (d6 (j5 (i4 (b6 rfl (b6 rfl ?_)))))); refine dB i rfl q8 rfl rfl rfl (List.getElem?_eq_getElem hlt) ?_; refine b6 rfl (J0 rfl rfl rfl (c8 ?_)); refine k9 rfl (fun hb2 => ?_) (fun hb2 => ?_)
  ·have hb2' := hb2; try simp at hb2'
   have hsb : s[i] = b := by first | exact UInt8.toNat_inj.1 (by omega) | (simp at hb2; exact UInt8.toNat_inj.1 (by omega))
   refine c9 (b6 rfl (b6 rfl (b6 rfl (b6 rfl ?_)))); refine ix5 (s := s) f i rfl q8 rfl rfl rfl rfl rfl (by omega) (by omega) (n7 _ rfl rfl (fun _ => W1 ..) fun gS => D2 (rows [((s.drop f).take (i - f) : Str)]) (List.prefix_refl _) ?_); refine E3 (done.length + 1) (rows (done ++ [((s.drop f).take (i - f) : Str)])) iH rfl rfl rfl hG (hp' := []) (by rw [List.append_nil]) (Src.row (news := rows [((s.drop f).take (i - f) : Str)]) (m := 1) m0 rfl (E8 _) (by decide)) rfl (A1 done [((s.drop f).take (i - f) : Str)]).symm (by unfold maxLen; omega) (by omega) fun A4 c4 og4 hG4 => ?_; refine b6 rfl (t5 _ rfl rfl rfl rfl q6 ?_); refine c5 rfl (c5 rfl (b5 (w6 (i1 (c9 (b6 rfl ?_)))))); refine t5 _ rfl rfl rfl rfl q6 ?_; refine c5 rfl (b5 ?_)
   first
   | exact again _ (i + 1, i + 1, done ++ [(s.drop f).take (i - f)], (A4, c4), og4) ⟨sp_at hI hlt hsb, hlt, by show Grow _ _ _ (done ++ [_]).length _ _ _; rw [List.length_append]; exact hG4⟩ (y8 (by omega)) ⟨rfl, rfl, by show some _ = some (Value.slice _ (done ++ [_]).length _); rw [List.length_append]; rfl, rfl, rfl, tK⟩ (by rw [List.append_nil]; exact .refl _) tK
   | exact again _ (i + 1, f, done, o, og) ⟨sp_on hI hlt hsb, hlt, hG⟩ (y8 (by omega)) mC (.refl _) tK
  have hb2' := hb2; try simp at hb2'
  have hsb : ¬ s[i] = b := fun e => by rw [e] at hb2; simp at hb2
  refine i8 (w6 (i1 (c9 (b6 rfl ?_)))); refine t5 _ rfl rfl rfl rfl q6 ?_; refine c5 rfl (b5 ?_)
  first
  | exact again _ (i + 1, i + 1, done ++ [(s.drop f).take (i - f)], (A4, c4), og4) ⟨sp_at hI hlt hsb, hlt, by show Grow _ _ _ (done ++ [_]).length _ _ _; rw [List.length_append]; exact hG4⟩ (y8 (by omega)) ⟨rfl, rfl, by show some _ = some (Value.slice _ (done ++ [_]).length _); rw [List.length_append]; rfl, rfl, rfl, tK⟩ (by rw [List.append_nil]; exact .refl _) tK
  | exact again _ (i + 1, f, done, o, og) ⟨sp_on hI hlt hsb, hlt, hG⟩ (y8 (by omega)) mC (.refl _) tK
 have hb1' := hb1; try simp at hb1'
 have hie : i = s.length := by simp at hb1; omega
 refine t7 (C7 (t8 (i1 (i4 (b6 rfl (b6 rfl (b6 rfl ?_))))))); refine jL (s := s) f rfl q8 rfl rfl rfl (by omega) (n7 _ rfl rfl (fun _ => W1 ..) fun gS => D2 (rows [(s.drop f : Str)]) (List.prefix_refl _) ?_); refine E3 (done.length + 1) (rows (done ++ [(s.drop f : Str)])) iH rfl rfl rfl hG (hp' := []) (by rw [List.append_nil]) (Src.row (news := rows [(s.drop f : Str)]) (m := 1) m0 rfl (E8 _) (by decide)) rfl (A1 done [(s.drop f : Str)]).symm (by unfold maxLen; omega) (by omega) fun A4 c4 og4 hG4 => ?_; refine c5 rfl (c8 (l4 ?_)); have hE := sp_end (hie ▸ hI); rw [List.take_of_length_le (by rw [List.length_drop]; omega)] at hE
 have hdn : done ++ [s.drop f] = splitB b s := by
   rcases hE.2 with ⟨h, _⟩ | ⟨_, _, h⟩
   · omega
   exact h
 have hln : (splitB b s).length = done.length + 1 := by rw [← hdn, List.length_append]; rfl
 rw [hdn] at hG4; have hG5 : Grow H2 1 A4 (splitB b s).length c4 (rows (splitB b s)) (og4 ++ []) := by rw [List.append_nil, hln]; exact hG4
 refine lC hG5 ?_; exact ret1 (A4, c4) rfl (by show some (Value.slice _ _ _) = some (Value.slice _ (splitB b s).length _); rw [hln]) rfl (by show _ ≤ c4; rw [hln]; exact hG4.le) nK ⟨m0, tK⟩
end Go.Proofs.YtdgmfagfpbdbhaaGreatDoor
end
