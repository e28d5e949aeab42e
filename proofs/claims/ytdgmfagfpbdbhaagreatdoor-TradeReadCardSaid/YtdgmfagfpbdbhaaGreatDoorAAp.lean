/- Texts. -/

import Derived.Test.YtdgmfagfpbdbhaaGreatDoorAAo
import Derived.Test.YtdgmfagfpbdbhaaGreatDoorAAl
set_option linter.unusedVariables false
set_option linter.unusedSimpArgs false
section
namespace Go.Proofs.YtdgmfagfpbdbhaaGreatDoor
open Go Go.W Tryz T F
set_option maxRecDepth 20000
attribute [local irreducible] HL HC HQ HB Row Rows2 Blk Facts
def claS : Str := [99, 108, 97, 115, 115, 32]
def inS : Str := [32, 105, 110, 32]
def seS : Str := [32, 115, 101, 101, 32]
def isS : Str := [32, 105, 115, 32]
def alS : Str := [32, 97, 108, 115, 111]
def spS : Str := [32]
def nlS : Str := [10]
def fiS : Str := [102, 105, 110, 105, 115, 10]
def clsT (cs : List Cl) (z : Int) (pre : Str) : Str := if 0 ≤ z then pre ++ (cs.getD z.toNat default).1 else []
def heaT (hs : List Hd) (z : Int) (pre : Str) : Str := if 0 ≤ z then pre ++ (hs.getD z.toNat default).1 else []
def accC (cs : List Cl) : List Cl → Str
  | [] => []
  | c :: l => accC cs l ++ (claS ++ c.1) ++ clsT cs c.2 inS ++ nlS
def accA (hs : List Hd) : List Int → Str
  | [] => []
  | x :: l => accA hs l ++ (if l.length = 0 then alS else []) ++ (spS ++ (hs.getD x.toNat default).1)
def heaE (cs : List Cl) (hs : List Hd) (h : Hd) : Str := h.1 ++ heaT hs h.2.2.1 seS ++ clsT cs h.2.1 isS ++ accA hs h.2.2.2.l.reverse ++ nlS
def accH (a : Str) (cs : List Cl) (hs : List Hd) : List Hd → Str
  | [] => a
  | h :: l => accH a cs hs l ++ heaE cs hs h
def wrT (cs : List Cl) (hs : List Hd) : Str := accH (accC cs cs.reverse) cs hs hs.reverse ++ fiS
theorem aj8 {α : Type} [Inhabited α] {l : List α} {k : Nat} (h : k < l.length) : (l.take (k + 1)).reverse = l.getD k default :: (l.take k).reverse := by
  rw [List.take_succ_eq_append_getElem h, List.reverse_append, w7 h]
  rfl
structure WrOK (cs : List Cl) (hs : List Hd) : Prop where
  c6 : cs.length ≤ 6
  h6 : hs.length ≤ 6
  cn : ∀ k, k < cs.length → (cs.getD k default).1.length ≤ 100 ∧ (cs.getD k default).2 < (cs.length : Int)
  hn : ∀ k, k < hs.length → (hs.getD k default).1.length ≤ 100 ∧ (hs.getD k default).2.1 < (cs.length : Int) ∧ (hs.getD k default).2.2.1 < (hs.length : Int) ∧ (hs.getD k default).2.2.2.l.length ≤ 6 ∧ ∀ x ∈ (hs.getD k default).2.2.2.l, 0 ≤ x ∧ x < (hs.length : Int)
theorem nmC {cs : List Cl} {hs : List Hd} (hok : WrOK cs hs) (j : Nat) : (cs.getD j default).1.length ≤ 100 := by
  by_cases h : j < cs.length
  · exact (hok.cn j h).1
  have e : cs.getD j default = default := by simp [List.getD_eq_getElem?_getD, List.getElem?_eq_none (Nat.le_of_not_lt h)]
  rw [e]; exact Nat.zero_le _
theorem nmH {cs : List Cl} {hs : List Hd} (hok : WrOK cs hs) (j : Nat) : (hs.getD j default).1.length ≤ 100 := by
  by_cases h : j < hs.length
  · exact (hok.hn j h).1
  have e : hs.getD j default = default := by simp [List.getD_eq_getElem?_getD, List.getElem?_eq_none (Nat.le_of_not_lt h)]
  rw [e]; exact Nat.zero_le _
theorem gj4 {cs : List Cl} {hs : List Hd} (hok : WrOK cs hs) (z : Int) (pre : Str) (h : pre.length ≤ 5) : (clsT cs z pre).length ≤ 105 := by
  have := nmC hok z.toNat; unfold clsT
  split
  · rw [List.length_append]; omega
  exact Nat.zero_le _
theorem lq5 {cs : List Cl} {hs : List Hd} (hok : WrOK cs hs) (z : Int) (pre : Str) (h : pre.length ≤ 5) : (heaT hs z pre).length ≤ 105 := by
  have := nmH hok z.toNat; unfold heaT
  split
  · rw [List.length_append]; omega
  exact Nat.zero_le _
set_option maxHeartbeats 400000 in
theorem xK {A B oa ka : Option Addr} {ca cb oc kc gl : Nat} (cs : List Cl) (hs : List Hd) (hok : WrOK cs hs) : Meets prog X2 [.pointer (c5 gl)] { LI := [Row (c5 gl) [.slice A cs.length ca, .slice B hs.length cb, .slice oa cs.length oc, .slice ka hs.length kc], Row A (rows cs), RowsF B hs Hd.row], val := fun _ : Unit => str (wrT cs hs) } := by
 refine i5 pR rfl t3 fun w0 => ?_; refine i3 (c8 rfl (n9 ?_)); refine q6 rfl (fun _ => pM _) fun gA => ?_; refine c9 (d7 (i3 (b6 rfl (l5 rfl rfl ?_))))
 first | refine a6 ⟨_, 0, none⟩ rfl rfl p7 rfl ?_ | refine a6 _ rfl rfl p7 rfl ?_
 first | refine a6 ⟨_, 0, none⟩ rfl rfl j3 rfl ?_ | refine a6 _ rfl rfl j3 rfl ?_
 first | refine a7 rfl b3 rfl (d5 mB rfl) ?_ | refine a7 rfl b3 rfl (d3 mB rfl) ?_ | refine a7 rfl b3 rfl (b7 mB (b2 (by omega) rfl)) ?_ | refine a7 rfl b3 rfl (b8 mB (rows_get (by omega) rfl)) ?_ | refine a7 rfl b3 rfl (d6 mB rfl) ?_
 refine j9 rfl p9 rfl ?_; refine b6 rfl (c9 (j4 ?_)); refine t8 (β := Nat × Option Addr × BSt) ⟨fun x => x.1 ≤ cs.length ∧ (accC cs (cs.take x.1).reverse).length ≤ 250 * x.1 ∧ Bld gA (accC cs (cs.take x.1).reverse) x.2.1 x.2.2.1 x.2.2.2.1 x.2.2.2.2, fun x => [(0, .pointer (c5 gl)), (3, .pointer (c5 gA)), (14, .slice A cs.length ca), (15, int cs.length), (16, int x.1)], fun x => bldH gA (accC cs (cs.take x.1).reverse) x.2.1 x.2.2, fun _ => [Row (c5 gl) [.slice A cs.length ca, .slice B hs.length cb, .slice oa cs.length oc, .slice ka hs.length kc], Row A (rows cs), RowsF B hs Hd.row]⟩ (fun x => cs.length - x.1) (0, none, (none, 0, [])) ⟨Nat.zero_le _, Nat.zero_le _, Bld.new _⟩ mC (.refl _) mC fun x hx => ?_; obtain ⟨k, P, st⟩ := x; obtain ⟨hk, hl, hb⟩ := hx; simp only at hk hl hb; have e1 : claS.length = 6 := rfl; have e2 : inS.length = 4 := rfl; have e3 : nlS.length = 1 := rfl; have e4 : seS.length = 5 := rfl; have e5 : isS.length = 4 := rfl; have e6 : alS.length = 5 := rfl; have e7 : spS.length = 1 := rfl; have e8 : fiS.length = 6 := rfl; have h6 := hok.c6; have h6h := hok.h6; refine i3 (z6 rfl rfl rfl (c9 (d7 ?_)))
 first | refine k6 rfl (fun hb1 => ?_) (fun hb1 => ?_) | refine i6 rfl (fun hb1 => ?_) (fun hb1 => ?_)
 ·have hb1' := hb1; try simp at hb1'
  have hk2 : k < cs.length := by omega
  have hcn := hok.cn k hk2; have hct := gj4 hok (cs.getD k default).2 inS (by omega); refine i9 (i2 (d7 (j4 (i3 ?_)))); refine q8 (α := Cl) _ _ rfl p9 u7 rfl rfl rfl mB rfl (by omega) (by decide) (u0 rfl J7 u7 rfl rfl (r4 mB (u5 (by omega))) (q6 rfl (fun _ => Z2 _) fun g5 => l6 rfl rfl aJ u7 (by rfl) (by rfl) ?_)); refine c9 (d7 ?_); refine P7 (rows [(cs.getD k default)]) ⟨[], List.append_nil _⟩ (d4 ?_)
  first | refine a6 ⟨_, 0, none⟩ rfl rfl y8 rfl ?_ | refine a6 _ rfl rfl y8 rfl ?_
  first | refine a7 rfl a9 rfl (d5 mB rfl) ?_ | refine a7 rfl a9 rfl (d3 mB rfl) ?_ | refine a7 rfl a9 rfl (b7 mB (b2 (by omega) rfl)) ?_ | refine a7 rfl a9 rfl (b8 mB (rows_get (by omega) rfl)) ?_ | refine a7 rfl a9 rfl (d6 mB rfl) ?_
  first | refine aq1 (x' := claS) rfl m9 rfl tI ?_
  refine i8 r6 rfl rfl (D8 gA ((accC cs (cs.take k).reverse)) (claS ++ (cs.getD k default).1) P st hb tI) (show List.Perm (bldH gA ((accC cs (cs.take k).reverse)) P st) (bldH gA ((accC cs (cs.take k).reverse)) P st ++ []) from by rw [List.append_nil]) tK fun y1 hy1 => ?_; refine bU (hp' := bldH gA (((accC cs (cs.take k).reverse)) ++ (claS ++ (cs.getD k default).1)) (c5 gA) y1) (show List.Perm (bldH gA (((accC cs (cs.take k).reverse)) ++ (claS ++ (cs.getD k default).1)) (c5 gA) y1 ++ []) (bldH gA (((accC cs (cs.take k).reverse)) ++ (claS ++ (cs.getD k default).1)) (c5 gA) y1) from by rw [List.append_nil]) ?_; refine c9 ?_; refine I6 ⟨fun y : BSt => Bld gA (((accC cs (cs.take k).reverse) ++ (claS ++ (cs.getD k default).1)) ++ clsT cs (cs.getD k default).2 inS) (c5 gA) y.1 y.2.1 y.2.2, fun _ => [(0, .pointer (c5 gl)), (3, .pointer (c5 gA)), (14, .slice A cs.length ca), (15, int cs.length), (16, int k)], fun y => bldH gA (((accC cs (cs.take k).reverse) ++ (claS ++ (cs.getD k default).1)) ++ clsT cs (cs.getD k default).2 inS) (c5 gA) y, fun _ => [Row (c5 gl) [.slice A cs.length ca, .slice B hs.length cb, .slice oa cs.length oc, .slice ka hs.length kc], Row A (rows cs), RowsF B hs Hd.row]⟩ ?_ ?_
  ·skip
   refine i3 ?_
   first | refine a6 ⟨_, 1, none⟩ rfl rfl y5 rfl ?_ | refine a6 _ rfl rfl y5 rfl ?_
   first | refine a7 rfl a8 rfl (d5 mB rfl) ?_ | refine a7 rfl a8 rfl (d3 mB rfl) ?_ | refine a7 rfl a8 rfl (b7 mB (b2 (by omega) rfl)) ?_ | refine a7 rfl a8 rfl (b8 mB (rows_get (by omega) rfl)) ?_ | refine a7 rfl a8 rfl (d6 mB rfl) ?_
   refine nV rfl rfl rfl (c9 ?_)
   first | refine k6 rfl (fun hb2 => ?_) (fun hb2 => ?_) | refine i6 rfl (fun hb2 => ?_) (fun hb2 => ?_)
   ·have hb2' := hb2; try simp at hb2'
    obtain ⟨m2, hm2⟩ := Int.eq_ofNat_of_zero_le hb2; have hm22 : m2 < cs.length := by omega
    have hm2n : ((cs.getD k default).2).toNat = m2 := by omega
    have hpn := hok.cn m2 hm22; refine A7 7 mixed (by decide) (by decide) rfl rfl (p6 rfl (k7 (fun w1 => l5 rfl rfl (q_z rfl)) ?_))
    apply j8 _ rfl rfl rfl
    ·intro w1
     first | refine a6 ⟨_, 0, none⟩ rfl rfl p7 rfl ?_ | refine a6 _ rfl rfl p7 rfl ?_
     refine b5 ?_; exact i1 rfl
    apply j8 _ rfl rfl rfl
    ·intro w1
     first | refine a6 ⟨_, 0, none⟩ rfl rfl j3 rfl ?_ | refine a6 _ rfl rfl j3 rfl ?_
     refine b5 ?_; exact i1 rfl
    refine k7 (fun w1 => a7 (v := .slice A cs.length ca) rfl b3 rfl (b7 (A := some ⟨gl, 0, none⟩) (j := 0) (List.mem_cons_of_mem _ (List.mem_append_right _ mB)) rfl) (q_z rfl)) ?_
    apply j8 _ rfl rfl rfl
    ·intro w1
     first | refine a6 ⟨_, 1, none⟩ rfl rfl y5 rfl ?_ | refine a6 _ rfl rfl y5 rfl ?_
     refine b5 ?_; exact i1 rfl
    refine k7 (fun w1 => a7 (v := int (cs.getD k default).2) rfl a8 rfl (b7 (A := some ⟨g5, 0, none⟩) (j := 1) (List.mem_cons_of_mem _ (List.mem_append_right _ mB)) rfl) (q_z rfl)) ?_; refine u4 ⟨rfl, ?_⟩; refine q8 (α := Cl) cs m2 rfl p9 u7 rfl rfl hm2 mB rfl hm22 (by decide) ?_
    first | refine a6 ⟨_, 0, none⟩ rfl rfl y8 rfl ?_ | refine a6 _ rfl rfl y8 rfl ?_
    refine a7 (v := str (cs.getD m2 default).1) rfl a9 rfl (b7 mB (b2 hm22 rfl)) ?_
    first | refine aq1 (x' := inS) rfl m9 rfl tI ?_
    refine i8 r6 rfl rfl (D8 gA (((accC cs (cs.take k).reverse) ++ (claS ++ (cs.getD k default).1))) (inS ++ (cs.getD m2 default).1) (c5 gA) y1 hy1 tI) (show List.Perm (bldH gA (((accC cs (cs.take k).reverse) ++ (claS ++ (cs.getD k default).1))) (c5 gA) y1) (bldH gA (((accC cs (cs.take k).reverse) ++ (claS ++ (cs.getD k default).1))) (c5 gA) y1 ++ []) from by rw [List.append_nil]) tK fun y2 hy2 => ?_; refine bU (hp' := bldH gA ((((accC cs (cs.take k).reverse) ++ (claS ++ (cs.getD k default).1))) ++ (inS ++ (cs.getD m2 default).1)) (c5 gA) y2) (show List.Perm (bldH gA ((((accC cs (cs.take k).reverse) ++ (claS ++ (cs.getD k default).1))) ++ (inS ++ (cs.getD m2 default).1)) (c5 gA) y2 ++ []) (bldH gA ((((accC cs (cs.take k).reverse) ++ (claS ++ (cs.getD k default).1))) ++ (inS ++ (cs.getD m2 default).1)) (c5 gA) y2) from by rw [List.append_nil]) ?_; refine b5 ?_; have hcut := (show ((accC cs (cs.take k).reverse) ++ (claS ++ (cs.getD k default).1)) ++ clsT cs (cs.getD k default).2 inS = ((accC cs (cs.take k).reverse) ++ (claS ++ (cs.getD k default).1)) ++ (inS ++ (cs.getD m2 default).1) by rw [clsT, if_pos hb2, hm2n]); exact D0 _ y2 (by show Bld gA (((accC cs (cs.take k).reverse) ++ (claS ++ (cs.getD k default).1)) ++ clsT cs (cs.getD k default).2 inS) _ _ _ _; rw [hcut]; exact hy2) mC (by show List.Sublist (bldH gA (((accC cs (cs.take k).reverse) ++ (claS ++ (cs.getD k default).1)) ++ clsT cs (cs.getD k default).2 inS) _ _) _; rw [hcut]; exact .refl _) mC
   have hb2' := hb2; try simp at hb2'
   refine i9 ?_; have hcut := (show ((accC cs (cs.take k).reverse) ++ (claS ++ (cs.getD k default).1)) ++ clsT cs (cs.getD k default).2 inS = ((accC cs (cs.take k).reverse) ++ (claS ++ (cs.getD k default).1)) by rw [clsT, if_neg (by omega), List.append_nil]); exact D0 _ y1 (by show Bld gA (((accC cs (cs.take k).reverse) ++ (claS ++ (cs.getD k default).1)) ++ clsT cs (cs.getD k default).2 inS) _ _ _ _; rw [hcut]; exact hy1) mC (by show List.Sublist (bldH gA (((accC cs (cs.take k).reverse) ++ (claS ++ (cs.getD k default).1)) ++ clsT cs (cs.getD k default).2 inS) _ _) _; rw [hcut]; exact .refl _) mC
  refine fun y3 hy3 => ?_
  dsimp only
  refine d4 ?_; refine i8 r6 rfl rfl (D8 gA (((accC cs (cs.take k).reverse) ++ (claS ++ (cs.getD k default).1)) ++ clsT cs (cs.getD k default).2 inS) (nlS) (c5 gA) y3 hy3 tI) (show List.Perm (bldH gA (((accC cs (cs.take k).reverse) ++ (claS ++ (cs.getD k default).1)) ++ clsT cs (cs.getD k default).2 inS) (c5 gA) y3) (bldH gA (((accC cs (cs.take k).reverse) ++ (claS ++ (cs.getD k default).1)) ++ clsT cs (cs.getD k default).2 inS) (c5 gA) y3 ++ []) from by rw [List.append_nil]) tK fun y4 hy4 => ?_; refine bU (hp' := bldH gA ((((accC cs (cs.take k).reverse) ++ (claS ++ (cs.getD k default).1)) ++ clsT cs (cs.getD k default).2 inS) ++ (nlS)) (c5 gA) y4) (show List.Perm (bldH gA ((((accC cs (cs.take k).reverse) ++ (claS ++ (cs.getD k default).1)) ++ clsT cs (cs.getD k default).2 inS) ++ (nlS)) (c5 gA) y4 ++ []) (bldH gA ((((accC cs (cs.take k).reverse) ++ (claS ++ (cs.getD k default).1)) ++ clsT cs (cs.getD k default).2 inS) ++ (nlS)) (c5 gA) y4) from by rw [List.append_nil]) ?_; refine b5 (v5 (i2 (d4 ?_))); refine t7 _ rfl rfl rfl rfl p8 ?_; refine b6 rfl (b5 ?_); have hacc : accC cs (cs.take (k + 1)).reverse = ((accC cs (cs.take k).reverse) ++ (claS ++ (cs.getD k default).1)) ++ clsT cs (cs.getD k default).2 inS ++ nlS := by rw [aj8 hk2, accC]
  exact again _ (k + 1, (c5 gA), y4) ⟨by show k + 1 ≤ cs.length; omega, by show (accC cs (cs.take (k + 1)).reverse).length ≤ 250 * (k + 1); rw [hacc]; simp only [List.length_append]; omega, by show Bld gA (accC cs (cs.take (k + 1)).reverse) _ _ _ _; rw [hacc]; exact hy4⟩ (z8 (by omega)) mC (by show List.Sublist (bldH gA (accC cs (cs.take (k + 1)).reverse) _ _) _; rw [hacc]; exact .refl _) mC
 have hb1' := hb1; try simp at hb1'
 obtain rfl : k = cs.length := by omega
 refine q9 (C3 (r7 (i2 (d7 (i3 (b6 rfl (l5 rfl rfl ?_)))))))
 first | refine a6 ⟨_, 0, none⟩ rfl rfl p7 rfl ?_ | refine a6 _ rfl rfl p7 rfl ?_
 first | refine a6 ⟨_, 1, none⟩ rfl rfl j0 rfl ?_ | refine a6 _ rfl rfl j0 rfl ?_
 first | refine a7 rfl b4 rfl (d5 mB rfl) ?_ | refine a7 rfl b4 rfl (d3 mB rfl) ?_ | refine a7 rfl b4 rfl (b7 mB (b2 (by omega) rfl)) ?_ | refine a7 rfl b4 rfl (b8 mB (rows_get (by omega) rfl)) ?_ | refine a7 rfl b4 rfl (d6 mB rfl) ?_
 refine j9 rfl n7 rfl ?_; refine b6 rfl (c9 (j4 (V9 mB ?_))); refine t8 (β := Nat × Option Addr × BSt) ⟨fun x => x.1 ≤ hs.length ∧ (accH (accC cs (cs.take cs.length).reverse) cs hs (hs.take x.1).reverse).length ≤ 1500 + 2000 * x.1 ∧ Bld gA (accH (accC cs (cs.take cs.length).reverse) cs hs (hs.take x.1).reverse) x.2.1 x.2.2.1 x.2.2.2.1 x.2.2.2.2, fun x => [(0, .pointer (c5 gl)), (3, .pointer (c5 gA)), (45, .slice B hs.length cb), (46, int hs.length), (47, int x.1)], fun x => bldH gA (accH (accC cs (cs.take cs.length).reverse) cs hs (hs.take x.1).reverse) x.2.1 x.2.2, fun _ => [Row (c5 gl) [.slice A cs.length ca, .slice B hs.length cb, .slice oa cs.length oc, .slice ka hs.length kc], Row A (rows cs), RowsF B hs Hd.row, Row B (rows hs)]⟩ (fun x => hs.length - x.1) (0, P, st) ⟨Nat.zero_le _, by show (accC cs (cs.take cs.length).reverse).length ≤ 1500 + 2000 * 0; omega, hb⟩ mC (.refl _) mC fun x hx => ?_; clear hb hl hk; obtain ⟨k, P, st⟩ := x; obtain ⟨hk, hl, hb⟩ := hx; simp only at hk hl hb; refine i3 (z6 rfl rfl rfl (c9 (d7 ?_)))
 first | refine k6 rfl (fun hb3 => ?_) (fun hb3 => ?_) | refine i6 rfl (fun hb3 => ?_) (fun hb3 => ?_)
 ·have hb3' := hb3; try simp at hb3'
  have hk3 : k < hs.length := by omega
  have hcn := hok.hn k hk3; have hct := gj4 hok (hs.getD k default).2.1 isS (by omega); have hst := lq5 hok (hs.getD k default).2.2.1 seS (by omega); refine i9 (i2 (d7 (j4 (i3 ?_)))); refine q8 (α := Hd) _ _ rfl n7 l4 rfl rfl rfl mB rfl (by omega) (by decide) (u0 rfl w5 l4 rfl rfl (r4 mB (u5 (by omega))) (q6 rfl (fun _ => E1 _) fun g7 => l6 rfl rfl aJ l4 (by rfl) (by rfl) ?_)); refine c9 (d7 ?_); refine P7 (rows [(hs.getD k default)]) ⟨[], List.append_nil _⟩ (d4 ?_)
  first | refine a6 ⟨_, 0, none⟩ rfl rfl n6 rfl ?_ | refine a6 _ rfl rfl n6 rfl ?_
  first | refine a7 rfl a9 rfl (d5 mB rfl) ?_ | refine a7 rfl a9 rfl (d3 mB rfl) ?_ | refine a7 rfl a9 rfl (b7 mB (b2 (by omega) rfl)) ?_ | refine a7 rfl a9 rfl (b8 mB (rows_get (by omega) rfl)) ?_ | refine a7 rfl a9 rfl (d6 mB rfl) ?_
  refine i8 r6 rfl rfl (D8 gA ((accH (accC cs (cs.take cs.length).reverse) cs hs (hs.take k).reverse)) ((hs.getD k default).1) P st hb tI) (show List.Perm (bldH gA ((accH (accC cs (cs.take cs.length).reverse) cs hs (hs.take k).reverse)) P st) (bldH gA ((accH (accC cs (cs.take cs.length).reverse) cs hs (hs.take k).reverse)) P st ++ []) from by rw [List.append_nil]) tK fun z1 hz1 => ?_; refine bU (hp' := bldH gA (((accH (accC cs (cs.take cs.length).reverse) cs hs (hs.take k).reverse)) ++ ((hs.getD k default).1)) (c5 gA) z1) (show List.Perm (bldH gA (((accH (accC cs (cs.take cs.length).reverse) cs hs (hs.take k).reverse)) ++ ((hs.getD k default).1)) (c5 gA) z1 ++ []) (bldH gA (((accH (accC cs (cs.take cs.length).reverse) cs hs (hs.take k).reverse)) ++ ((hs.getD k default).1)) (c5 gA) z1) from by rw [List.append_nil]) ?_; refine c9 ?_; refine I6 ⟨fun y : BSt => Bld gA ((((accH (accC cs (cs.take cs.length).reverse) cs hs (hs.take k).reverse) ++ (hs.getD k default).1) ++ heaT hs (hs.getD k default).2.2.1 seS)) (c5 gA) y.1 y.2.1 y.2.2, fun _ => [(0, .pointer (c5 gl)), (3, .pointer (c5 gA)), (7, .pointer (c5 g7)), (45, .slice B hs.length cb), (46, int hs.length), (47, int k)], fun y => bldH gA ((((accH (accC cs (cs.take cs.length).reverse) cs hs (hs.take k).reverse) ++ (hs.getD k default).1) ++ heaT hs (hs.getD k default).2.2.1 seS)) (c5 gA) y, fun _ => [Row (c5 gl) [.slice A cs.length ca, .slice B hs.length cb, .slice oa cs.length oc, .slice ka hs.length kc], Row A (rows cs), RowsF B hs Hd.row, Row B (rows hs), Row (c5 g7) (rows [(hs.getD k default)])]⟩ ?_ ?_
  ·skip
   refine i3 ?_
   first | refine a6 ⟨_, 2, none⟩ rfl rfl n5 rfl ?_ | refine a6 _ rfl rfl n5 rfl ?_
   first | refine a7 rfl a8 rfl (d5 mB rfl) ?_ | refine a7 rfl a8 rfl (d3 mB rfl) ?_ | refine a7 rfl a8 rfl (b7 mB (b2 (by omega) rfl)) ?_ | refine a7 rfl a8 rfl (b8 mB (rows_get (by omega) rfl)) ?_ | refine a7 rfl a8 rfl (d6 mB rfl) ?_
   refine nV rfl rfl rfl (c9 ?_)
   first | refine k6 rfl (fun hb4 => ?_) (fun hb4 => ?_) | refine i6 rfl (fun hb4 => ?_) (fun hb4 => ?_)
   ·have hb4' := hb4; try simp at hb4'
    obtain ⟨m4, hm4⟩ := Int.eq_ofNat_of_zero_le hb4; have hm42 : m4 < hs.length := by omega
    have hm4n : ((hs.getD k default).2.2.1).toNat = m4 := by omega
    have hpn := hok.hn m4 hm42; refine A7 7 mixed (by decide) (by decide) rfl rfl (p6 rfl (k7 (fun w1 => l5 rfl rfl (q_z rfl)) ?_))
    apply j8 _ rfl rfl rfl
    ·intro w1
     first | refine a6 ⟨_, 0, none⟩ rfl rfl p7 rfl ?_ | refine a6 _ rfl rfl p7 rfl ?_
     refine b5 ?_; exact i1 rfl
    apply j8 _ rfl rfl rfl
    ·intro w1
     first | refine a6 ⟨_, 1, none⟩ rfl rfl j0 rfl ?_ | refine a6 _ rfl rfl j0 rfl ?_
     refine b5 ?_; exact i1 rfl
    refine k7 (fun w1 => a7 (v := .slice B hs.length cb) rfl b4 rfl (b7 (A := some ⟨gl, 0, none⟩) (j := 1) (List.mem_cons_of_mem _ (List.mem_append_right _ mB)) rfl) (q_z rfl)) ?_
    apply j8 _ rfl rfl rfl
    ·intro w1
     first | refine a6 ⟨_, 2, none⟩ rfl rfl n5 rfl ?_ | refine a6 _ rfl rfl n5 rfl ?_
     refine b5 ?_; exact i1 rfl
    refine k7 (fun w1 => a7 (v := int (hs.getD k default).2.2.1) rfl a8 rfl (b7 (A := some ⟨g7, 0, none⟩) (j := 2) (List.mem_cons_of_mem _ (List.mem_append_right _ mB)) rfl) (q_z rfl)) ?_; refine u4 ⟨rfl, ?_⟩; refine q8 (α := Hd) hs m4 rfl n7 l4 rfl rfl hm4 mB rfl hm42 (by decide) ?_
    first | refine a6 ⟨_, 0, none⟩ rfl rfl n6 rfl ?_ | refine a6 _ rfl rfl n6 rfl ?_
    refine a7 (v := str (hs.getD m4 default).1) rfl a9 rfl (b7 mB (b2 hm42 rfl)) ?_
    first | refine aq1 (x' := seS) rfl m9 rfl tI ?_
    refine i8 r6 rfl rfl (D8 gA (((accH (accC cs (cs.take cs.length).reverse) cs hs (hs.take k).reverse) ++ (hs.getD k default).1)) (seS ++ (hs.getD m4 default).1) (c5 gA) z1 hz1 tI) (show List.Perm (bldH gA (((accH (accC cs (cs.take cs.length).reverse) cs hs (hs.take k).reverse) ++ (hs.getD k default).1)) (c5 gA) z1) (bldH gA (((accH (accC cs (cs.take cs.length).reverse) cs hs (hs.take k).reverse) ++ (hs.getD k default).1)) (c5 gA) z1 ++ []) from by rw [List.append_nil]) tK fun z2 hz2 => ?_; refine bU (hp' := bldH gA ((((accH (accC cs (cs.take cs.length).reverse) cs hs (hs.take k).reverse) ++ (hs.getD k default).1)) ++ (seS ++ (hs.getD m4 default).1)) (c5 gA) z2) (show List.Perm (bldH gA ((((accH (accC cs (cs.take cs.length).reverse) cs hs (hs.take k).reverse) ++ (hs.getD k default).1)) ++ (seS ++ (hs.getD m4 default).1)) (c5 gA) z2 ++ []) (bldH gA ((((accH (accC cs (cs.take cs.length).reverse) cs hs (hs.take k).reverse) ++ (hs.getD k default).1)) ++ (seS ++ (hs.getD m4 default).1)) (c5 gA) z2) from by rw [List.append_nil]) ?_; refine b5 ?_; have hcut := (show (((accH (accC cs (cs.take cs.length).reverse) cs hs (hs.take k).reverse) ++ (hs.getD k default).1) ++ heaT hs (hs.getD k default).2.2.1 seS) = ((accH (accC cs (cs.take cs.length).reverse) cs hs (hs.take k).reverse) ++ (hs.getD k default).1) ++ (seS ++ (hs.getD m4 default).1) by rw [heaT, if_pos hb4, hm4n]); exact D0 _ z2 (by show Bld gA ((((accH (accC cs (cs.take cs.length).reverse) cs hs (hs.take k).reverse) ++ (hs.getD k default).1) ++ heaT hs (hs.getD k default).2.2.1 seS)) _ _ _ _; rw [hcut]; exact hz2) mC (by show List.Sublist (bldH gA ((((accH (accC cs (cs.take cs.length).reverse) cs hs (hs.take k).reverse) ++ (hs.getD k default).1) ++ heaT hs (hs.getD k default).2.2.1 seS)) _ _) _; rw [hcut]; exact .refl _) mC
   have hb4' := hb4; try simp at hb4'
   refine i9 ?_; have hcut := (show (((accH (accC cs (cs.take cs.length).reverse) cs hs (hs.take k).reverse) ++ (hs.getD k default).1) ++ heaT hs (hs.getD k default).2.2.1 seS) = ((accH (accC cs (cs.take cs.length).reverse) cs hs (hs.take k).reverse) ++ (hs.getD k default).1) by rw [heaT, if_neg (by omega), List.append_nil]); exact D0 _ z1 (by show Bld gA ((((accH (accC cs (cs.take cs.length).reverse) cs hs (hs.take k).reverse) ++ (hs.getD k default).1) ++ heaT hs (hs.getD k default).2.2.1 seS)) _ _ _ _; rw [hcut]; exact hz1) mC (by show List.Sublist (bldH gA ((((accH (accC cs (cs.take cs.length).reverse) cs hs (hs.take k).reverse) ++ (hs.getD k default).1) ++ heaT hs (hs.getD k default).2.2.1 seS)) _ _) _; rw [hcut]; exact .refl _) mC
  refine fun z3 hz3 => ?_
  dsimp only
  refine I6 ⟨fun y : BSt => Bld gA (((((accH (accC cs (cs.take cs.length).reverse) cs hs (hs.take k).reverse) ++ (hs.getD k default).1) ++ heaT hs (hs.getD k default).2.2.1 seS) ++ clsT cs (hs.getD k default).2.1 isS)) (c5 gA) y.1 y.2.1 y.2.2, fun _ => [(0, .pointer (c5 gl)), (3, .pointer (c5 gA)), (7, .pointer (c5 g7)), (45, .slice B hs.length cb), (46, int hs.length), (47, int k)], fun y => bldH gA (((((accH (accC cs (cs.take cs.length).reverse) cs hs (hs.take k).reverse) ++ (hs.getD k default).1) ++ heaT hs (hs.getD k default).2.2.1 seS) ++ clsT cs (hs.getD k default).2.1 isS)) (c5 gA) y, fun _ => [Row (c5 gl) [.slice A cs.length ca, .slice B hs.length cb, .slice oa cs.length oc, .slice ka hs.length kc], Row A (rows cs), RowsF B hs Hd.row, Row B (rows hs), Row (c5 g7) (rows [(hs.getD k default)])]⟩ ?_ ?_
  ·skip
   refine i3 ?_
   first | refine a6 ⟨_, 1, none⟩ rfl rfl m7 rfl ?_ | refine a6 _ rfl rfl m7 rfl ?_
   first | refine a7 rfl a8 rfl (d5 mB rfl) ?_ | refine a7 rfl a8 rfl (d3 mB rfl) ?_ | refine a7 rfl a8 rfl (b7 mB (b2 (by omega) rfl)) ?_ | refine a7 rfl a8 rfl (b8 mB (rows_get (by omega) rfl)) ?_ | refine a7 rfl a8 rfl (d6 mB rfl) ?_
   refine nV rfl rfl rfl (c9 ?_)
   first | refine k6 rfl (fun hb5 => ?_) (fun hb5 => ?_) | refine i6 rfl (fun hb5 => ?_) (fun hb5 => ?_)
   ·have hb5' := hb5; try simp at hb5'
    obtain ⟨m5, hm5⟩ := Int.eq_ofNat_of_zero_le hb5; have hm52 : m5 < cs.length := by omega
    have hm5n : ((hs.getD k default).2.1).toNat = m5 := by omega
    have hpn := hok.cn m5 hm52; refine A7 7 mixed (by decide) (by decide) rfl rfl (p6 rfl (k7 (fun w1 => l5 rfl rfl (q_z rfl)) ?_))
    apply j8 _ rfl rfl rfl
    ·intro w1
     first | refine a6 ⟨_, 0, none⟩ rfl rfl p7 rfl ?_ | refine a6 _ rfl rfl p7 rfl ?_
     refine b5 ?_; exact i1 rfl
    apply j8 _ rfl rfl rfl
    ·intro w1
     first | refine a6 ⟨_, 0, none⟩ rfl rfl j3 rfl ?_ | refine a6 _ rfl rfl j3 rfl ?_
     refine b5 ?_; exact i1 rfl
    refine k7 (fun w1 => a7 (v := .slice A cs.length ca) rfl b3 rfl (b7 (A := some ⟨gl, 0, none⟩) (j := 0) (List.mem_cons_of_mem _ (List.mem_append_right _ mB)) rfl) (q_z rfl)) ?_
    apply j8 _ rfl rfl rfl
    ·intro w1
     first | refine a6 ⟨_, 1, none⟩ rfl rfl m7 rfl ?_ | refine a6 _ rfl rfl m7 rfl ?_
     refine b5 ?_; exact i1 rfl
    refine k7 (fun w1 => a7 (v := int (hs.getD k default).2.1) rfl a8 rfl (b7 (A := some ⟨g7, 0, none⟩) (j := 1) (List.mem_cons_of_mem _ (List.mem_append_right _ mB)) rfl) (q_z rfl)) ?_; refine u4 ⟨rfl, ?_⟩; refine q8 (α := Cl) cs m5 rfl p9 u7 rfl rfl hm5 mB rfl hm52 (by decide) ?_
    first | refine a6 ⟨_, 0, none⟩ rfl rfl y8 rfl ?_ | refine a6 _ rfl rfl y8 rfl ?_
    refine a7 (v := str (cs.getD m5 default).1) rfl a9 rfl (b7 mB (b2 hm52 rfl)) ?_
    first | refine aq1 (x' := isS) rfl m9 rfl tI ?_
    refine i8 r6 rfl rfl (D8 gA ((((accH (accC cs (cs.take cs.length).reverse) cs hs (hs.take k).reverse) ++ (hs.getD k default).1) ++ heaT hs (hs.getD k default).2.2.1 seS)) (isS ++ (cs.getD m5 default).1) (c5 gA) z3 hz3 tI) (show List.Perm (bldH gA ((((accH (accC cs (cs.take cs.length).reverse) cs hs (hs.take k).reverse) ++ (hs.getD k default).1) ++ heaT hs (hs.getD k default).2.2.1 seS)) (c5 gA) z3) (bldH gA ((((accH (accC cs (cs.take cs.length).reverse) cs hs (hs.take k).reverse) ++ (hs.getD k default).1) ++ heaT hs (hs.getD k default).2.2.1 seS)) (c5 gA) z3 ++ []) from by rw [List.append_nil]) tK fun z4 hz4 => ?_; refine bU (hp' := bldH gA (((((accH (accC cs (cs.take cs.length).reverse) cs hs (hs.take k).reverse) ++ (hs.getD k default).1) ++ heaT hs (hs.getD k default).2.2.1 seS)) ++ (isS ++ (cs.getD m5 default).1)) (c5 gA) z4) (show List.Perm (bldH gA (((((accH (accC cs (cs.take cs.length).reverse) cs hs (hs.take k).reverse) ++ (hs.getD k default).1) ++ heaT hs (hs.getD k default).2.2.1 seS)) ++ (isS ++ (cs.getD m5 default).1)) (c5 gA) z4 ++ []) (bldH gA (((((accH (accC cs (cs.take cs.length).reverse) cs hs (hs.take k).reverse) ++ (hs.getD k default).1) ++ heaT hs (hs.getD k default).2.2.1 seS)) ++ (isS ++ (cs.getD m5 default).1)) (c5 gA) z4) from by rw [List.append_nil]) ?_; refine b5 ?_; have hcut := (show ((((accH (accC cs (cs.take cs.length).reverse) cs hs (hs.take k).reverse) ++ (hs.getD k default).1) ++ heaT hs (hs.getD k default).2.2.1 seS) ++ clsT cs (hs.getD k default).2.1 isS) = (((accH (accC cs (cs.take cs.length).reverse) cs hs (hs.take k).reverse) ++ (hs.getD k default).1) ++ heaT hs (hs.getD k default).2.2.1 seS) ++ (isS ++ (cs.getD m5 default).1) by rw [clsT, if_pos hb5, hm5n]); exact D0 _ z4 (by show Bld gA (((((accH (accC cs (cs.take cs.length).reverse) cs hs (hs.take k).reverse) ++ (hs.getD k default).1) ++ heaT hs (hs.getD k default).2.2.1 seS) ++ clsT cs (hs.getD k default).2.1 isS)) _ _ _ _; rw [hcut]; exact hz4) mC (by show List.Sublist (bldH gA (((((accH (accC cs (cs.take cs.length).reverse) cs hs (hs.take k).reverse) ++ (hs.getD k default).1) ++ heaT hs (hs.getD k default).2.2.1 seS) ++ clsT cs (hs.getD k default).2.1 isS)) _ _) _; rw [hcut]; exact .refl _) mC
   have hb5' := hb5; try simp at hb5'
   refine i9 ?_; have hcut := (show ((((accH (accC cs (cs.take cs.length).reverse) cs hs (hs.take k).reverse) ++ (hs.getD k default).1) ++ heaT hs (hs.getD k default).2.2.1 seS) ++ clsT cs (hs.getD k default).2.1 isS) = (((accH (accC cs (cs.take cs.length).reverse) cs hs (hs.take k).reverse) ++ (hs.getD k default).1) ++ heaT hs (hs.getD k default).2.2.1 seS) by rw [clsT, if_neg (by omega), List.append_nil]); exact D0 _ z3 (by show Bld gA (((((accH (accC cs (cs.take cs.length).reverse) cs hs (hs.take k).reverse) ++ (hs.getD k default).1) ++ heaT hs (hs.getD k default).2.2.1 seS) ++ clsT cs (hs.getD k default).2.1 isS)) _ _ _ _; rw [hcut]; exact hz3) mC (by show List.Sublist (bldH gA (((((accH (accC cs (cs.take cs.length).reverse) cs hs (hs.take k).reverse) ++ (hs.getD k default).1) ++ heaT hs (hs.getD k default).2.2.1 seS) ++ clsT cs (hs.getD k default).2.1 isS)) _ _) _; rw [hcut]; exact .refl _) mC
  refine fun z5 hz5 => ?_
  dsimp only
  refine d7 (i3 ?_)
  first | refine a6 ⟨_, 3, none⟩ rfl rfl m6 rfl ?_ | refine a6 _ rfl rfl m6 rfl ?_
  first | refine a7 rfl j2 rfl (d5 mB rfl) ?_ | refine a7 rfl j2 rfl (d3 mB rfl) ?_ | refine a7 rfl j2 rfl (b7 mB (b2 (by omega) rfl)) ?_ | refine a7 rfl j2 rfl (b8 mB (rows_get (by omega) rfl)) ?_ | refine a7 rfl j2 rfl (d6 mB rfl) ?_
  refine j9 rfl v9 rfl ?_; refine b6 rfl (c9 (j4 ?_)); refine rZ (p := (hs.getD k default)) (f := Hd.row) (ps := hs) mB (A9 hk3) ?_; refine t8 (β := Nat × BSt) ⟨fun x => x.1 ≤ (hs.getD k default).2.2.2.l.length ∧ (accA hs ((hs.getD k default).2.2.2.l.take x.1).reverse).length ≤ 110 * x.1 ∧ Bld gA (((((accH (accC cs (cs.take cs.length).reverse) cs hs (hs.take k).reverse) ++ (hs.getD k default).1) ++ heaT hs (hs.getD k default).2.2.1 seS) ++ clsT cs (hs.getD k default).2.1 isS) ++ accA hs ((hs.getD k default).2.2.2.l.take x.1).reverse) (c5 gA) x.2.1 x.2.2.1 x.2.2.2, fun x => [(0, .pointer (c5 gl)), (3, .pointer (c5 gA)), (45, .slice B hs.length cb), (46, int hs.length), (47, int k), (85, .slice (hs.getD k default).2.2.2.a (hs.getD k default).2.2.2.l.length (hs.getD k default).2.2.2.c), (86, int (hs.getD k default).2.2.2.l.length), (87, int x.1)], fun x => bldH gA (((((accH (accC cs (cs.take cs.length).reverse) cs hs (hs.take k).reverse) ++ (hs.getD k default).1) ++ heaT hs (hs.getD k default).2.2.1 seS) ++ clsT cs (hs.getD k default).2.1 isS) ++ accA hs ((hs.getD k default).2.2.2.l.take x.1).reverse) (c5 gA) x.2, fun _ => [Row (c5 gl) [.slice A cs.length ca, .slice B hs.length cb, .slice oa cs.length oc, .slice ka hs.length kc], Row A (rows cs), RowsF B hs Hd.row, Row B (rows hs), Row (hs.getD k default).2.2.2.a (rows (hs.getD k default).2.2.2.l)]⟩ (fun x => (hs.getD k default).2.2.2.l.length - x.1) (0, z5) ⟨Nat.zero_le _, Nat.zero_le _, by show Bld gA (((((accH (accC cs (cs.take cs.length).reverse) cs hs (hs.take k).reverse) ++ (hs.getD k default).1) ++ heaT hs (hs.getD k default).2.2.1 seS) ++ clsT cs (hs.getD k default).2.1 isS) ++ []) _ _ _ _; rw [List.append_nil]; exact hz5⟩ mC (by show List.Sublist (bldH gA (((((accH (accC cs (cs.take cs.length).reverse) cs hs (hs.take k).reverse) ++ (hs.getD k default).1) ++ heaT hs (hs.getD k default).2.2.1 seS) ++ clsT cs (hs.getD k default).2.1 isS) ++ []) _ _) _; rw [List.append_nil]; exact .refl _) mC fun x hx => ?_; obtain ⟨j, u⟩ := x; obtain ⟨hj, hjl, hu⟩ := hx; simp only at hj hjl hu; refine i3 (z6 rfl rfl rfl (c9 (d7 ?_)))
  first | refine k6 rfl (fun hb6 => ?_) (fun hb6 => ?_) | refine i6 rfl (fun hb6 => ?_) (fun hb6 => ?_)
  ·have hb6' := hb6; try simp at hb6'
   have hj2 : j < (hs.getD k default).2.2.2.l.length := by omega
   have hxm := hcn.2.2.2.2 _ (A9 hj2); have hrl : (((hs.getD k default).2.2.2.l.take j).reverse).length = j := by rw [List.length_reverse, List.length_take]; omega
   have hxn := nmH hok (((hs.getD k default).2.2.2.l.getD j default)).toNat; obtain ⟨m8, hm8⟩ := Int.eq_ofNat_of_zero_le hxm.1; have hm82 : m8 < hs.length := by omega
   have hm8n : (((hs.getD k default).2.2.2.l.getD j default)).toNat = m8 := by omega
   rw [hm8n] at hxn
   have hal : (if (((hs.getD k default).2.2.2.l.take j).reverse).length = 0 then alS else []).length ≤ 5 := by
     split
     · exact Nat.le_of_eq e6
     exact Nat.zero_le _
   refine i9 (i2 (d7 (j4 (i3 (b6 rfl ?_))))); refine q8 (α := Int) _ _ rfl v9 D3 rfl rfl rfl mB rfl (by omega) (by decide) (a7 rfl a8 rfl (b7 mB (b2 (by omega) rfl)) ?_); refine c8 rfl (c8 rfl (c9 ?_)); refine I6 ⟨fun y : BSt => Bld gA (((((((accH (accC cs (cs.take cs.length).reverse) cs hs (hs.take k).reverse) ++ (hs.getD k default).1) ++ heaT hs (hs.getD k default).2.2.1 seS) ++ clsT cs (hs.getD k default).2.1 isS) ++ (accA hs ((hs.getD k default).2.2.2.l.take j).reverse)) ++ (if (((hs.getD k default).2.2.2.l.take j).reverse).length = 0 then alS else []))) (c5 gA) y.1 y.2.1 y.2.2, fun _ => [(0, .pointer (c5 gl)), (3, .pointer (c5 gA)), (45, .slice B hs.length cb), (46, int hs.length), (47, int k), (85, .slice (hs.getD k default).2.2.2.a (hs.getD k default).2.2.2.l.length (hs.getD k default).2.2.2.c), (86, int (hs.getD k default).2.2.2.l.length), (87, int j), (9, int ((hs.getD k default).2.2.2.l.getD j default))], fun y => bldH gA (((((((accH (accC cs (cs.take cs.length).reverse) cs hs (hs.take k).reverse) ++ (hs.getD k default).1) ++ heaT hs (hs.getD k default).2.2.1 seS) ++ clsT cs (hs.getD k default).2.1 isS) ++ (accA hs ((hs.getD k default).2.2.2.l.take j).reverse)) ++ (if (((hs.getD k default).2.2.2.l.take j).reverse).length = 0 then alS else []))) (c5 gA) y, fun _ => [Row (c5 gl) [.slice A cs.length ca, .slice B hs.length cb, .slice oa cs.length oc, .slice ka hs.length kc], Row A (rows cs), RowsF B hs Hd.row, Row B (rows hs), Row (hs.getD k default).2.2.2.a (rows (hs.getD k default).2.2.2.l)]⟩ ?_ ?_
   ·skip
    refine i3 (b6 rfl (H5 rfl rfl rfl (c9 ?_)))
    first | refine k6 rfl (fun hb7 => ?_) (fun hb7 => ?_) | refine i6 rfl (fun hb7 => ?_) (fun hb7 => ?_)
    ·have hb7' := hb7; try simp at hb7'
     refine d4 ?_; refine i8 r6 rfl rfl (D8 gA ((((((accH (accC cs (cs.take cs.length).reverse) cs hs (hs.take k).reverse) ++ (hs.getD k default).1) ++ heaT hs (hs.getD k default).2.2.1 seS) ++ clsT cs (hs.getD k default).2.1 isS) ++ (accA hs ((hs.getD k default).2.2.2.l.take j).reverse))) (alS) (c5 gA) u hu tI) (show List.Perm (bldH gA ((((((accH (accC cs (cs.take cs.length).reverse) cs hs (hs.take k).reverse) ++ (hs.getD k default).1) ++ heaT hs (hs.getD k default).2.2.1 seS) ++ clsT cs (hs.getD k default).2.1 isS) ++ (accA hs ((hs.getD k default).2.2.2.l.take j).reverse))) (c5 gA) u) (bldH gA ((((((accH (accC cs (cs.take cs.length).reverse) cs hs (hs.take k).reverse) ++ (hs.getD k default).1) ++ heaT hs (hs.getD k default).2.2.1 seS) ++ clsT cs (hs.getD k default).2.1 isS) ++ (accA hs ((hs.getD k default).2.2.2.l.take j).reverse))) (c5 gA) u ++ []) from by rw [List.append_nil]) tK fun u1 hu1 => ?_; refine bU (hp' := bldH gA (((((((accH (accC cs (cs.take cs.length).reverse) cs hs (hs.take k).reverse) ++ (hs.getD k default).1) ++ heaT hs (hs.getD k default).2.2.1 seS) ++ clsT cs (hs.getD k default).2.1 isS) ++ (accA hs ((hs.getD k default).2.2.2.l.take j).reverse))) ++ (alS)) (c5 gA) u1) (show List.Perm (bldH gA (((((((accH (accC cs (cs.take cs.length).reverse) cs hs (hs.take k).reverse) ++ (hs.getD k default).1) ++ heaT hs (hs.getD k default).2.2.1 seS) ++ clsT cs (hs.getD k default).2.1 isS) ++ (accA hs ((hs.getD k default).2.2.2.l.take j).reverse))) ++ (alS)) (c5 gA) u1 ++ []) (bldH gA (((((((accH (accC cs (cs.take cs.length).reverse) cs hs (hs.take k).reverse) ++ (hs.getD k default).1) ++ heaT hs (hs.getD k default).2.2.1 seS) ++ clsT cs (hs.getD k default).2.1 isS) ++ (accA hs ((hs.getD k default).2.2.2.l.take j).reverse))) ++ (alS)) (c5 gA) u1) from by rw [List.append_nil]) ?_; refine b5 ?_; have hcut := (show ((((((accH (accC cs (cs.take cs.length).reverse) cs hs (hs.take k).reverse) ++ (hs.getD k default).1) ++ heaT hs (hs.getD k default).2.2.1 seS) ++ clsT cs (hs.getD k default).2.1 isS) ++ (accA hs ((hs.getD k default).2.2.2.l.take j).reverse)) ++ (if (((hs.getD k default).2.2.2.l.take j).reverse).length = 0 then alS else [])) = (((((accH (accC cs (cs.take cs.length).reverse) cs hs (hs.take k).reverse) ++ (hs.getD k default).1) ++ heaT hs (hs.getD k default).2.2.1 seS) ++ clsT cs (hs.getD k default).2.1 isS) ++ (accA hs ((hs.getD k default).2.2.2.l.take j).reverse)) ++ alS by rw [if_pos (by omega)]); exact D0 _ u1 (by show Bld gA (((((((accH (accC cs (cs.take cs.length).reverse) cs hs (hs.take k).reverse) ++ (hs.getD k default).1) ++ heaT hs (hs.getD k default).2.2.1 seS) ++ clsT cs (hs.getD k default).2.1 isS) ++ (accA hs ((hs.getD k default).2.2.2.l.take j).reverse)) ++ (if (((hs.getD k default).2.2.2.l.take j).reverse).length = 0 then alS else []))) _ _ _ _; rw [hcut]; exact hu1) mC (by show List.Sublist (bldH gA (((((((accH (accC cs (cs.take cs.length).reverse) cs hs (hs.take k).reverse) ++ (hs.getD k default).1) ++ heaT hs (hs.getD k default).2.2.1 seS) ++ clsT cs (hs.getD k default).2.1 isS) ++ (accA hs ((hs.getD k default).2.2.2.l.take j).reverse)) ++ (if (((hs.getD k default).2.2.2.l.take j).reverse).length = 0 then alS else []))) _ _) _; rw [hcut]; exact .refl _) mC
    have hb7' := hb7; try simp at hb7'
    refine i9 ?_; have hcut := (show ((((((accH (accC cs (cs.take cs.length).reverse) cs hs (hs.take k).reverse) ++ (hs.getD k default).1) ++ heaT hs (hs.getD k default).2.2.1 seS) ++ clsT cs (hs.getD k default).2.1 isS) ++ (accA hs ((hs.getD k default).2.2.2.l.take j).reverse)) ++ (if (((hs.getD k default).2.2.2.l.take j).reverse).length = 0 then alS else [])) = (((((accH (accC cs (cs.take cs.length).reverse) cs hs (hs.take k).reverse) ++ (hs.getD k default).1) ++ heaT hs (hs.getD k default).2.2.1 seS) ++ clsT cs (hs.getD k default).2.1 isS) ++ (accA hs ((hs.getD k default).2.2.2.l.take j).reverse)) by rw [if_neg (by omega), List.append_nil]); exact D0 _ u (by show Bld gA (((((((accH (accC cs (cs.take cs.length).reverse) cs hs (hs.take k).reverse) ++ (hs.getD k default).1) ++ heaT hs (hs.getD k default).2.2.1 seS) ++ clsT cs (hs.getD k default).2.1 isS) ++ (accA hs ((hs.getD k default).2.2.2.l.take j).reverse)) ++ (if (((hs.getD k default).2.2.2.l.take j).reverse).length = 0 then alS else []))) _ _ _ _; rw [hcut]; exact hu) mC (by show List.Sublist (bldH gA (((((((accH (accC cs (cs.take cs.length).reverse) cs hs (hs.take k).reverse) ++ (hs.getD k default).1) ++ heaT hs (hs.getD k default).2.2.1 seS) ++ clsT cs (hs.getD k default).2.1 isS) ++ (accA hs ((hs.getD k default).2.2.2.l.take j).reverse)) ++ (if (((hs.getD k default).2.2.2.l.take j).reverse).length = 0 then alS else []))) _ _) _; rw [hcut]; exact .refl _) mC
   refine fun u2 hu2 => ?_
   dsimp only
   refine d4 (b6 rfl (l5 rfl rfl ?_))
   first | refine a6 ⟨_, 0, none⟩ rfl rfl p7 rfl ?_ | refine a6 _ rfl rfl p7 rfl ?_
   first | refine a6 ⟨_, 1, none⟩ rfl rfl j0 rfl ?_ | refine a6 _ rfl rfl j0 rfl ?_
   first | refine a7 rfl b4 rfl (d5 mB rfl) ?_ | refine a7 rfl b4 rfl (d3 mB rfl) ?_ | refine a7 rfl b4 rfl (b7 mB (b2 (by omega) rfl)) ?_ | refine a7 rfl b4 rfl (b8 mB (rows_get (by omega) rfl)) ?_ | refine a7 rfl b4 rfl (d6 mB rfl) ?_
   refine b6 rfl (q8 (α := Hd) hs m8 rfl n7 l4 rfl rfl hm8 mB rfl hm82 (by decide) ?_)
   first | refine a6 ⟨_, 0, none⟩ rfl rfl n6 rfl ?_ | refine a6 _ rfl rfl n6 rfl ?_
   refine a7 (v := str (hs.getD m8 default).1) rfl a9 rfl (b7 mB (b2 hm82 rfl)) ?_
   first | refine aq1 (x' := spS) rfl m9 rfl tI ?_
   refine i8 r6 rfl rfl (D8 gA (((((((accH (accC cs (cs.take cs.length).reverse) cs hs (hs.take k).reverse) ++ (hs.getD k default).1) ++ heaT hs (hs.getD k default).2.2.1 seS) ++ clsT cs (hs.getD k default).2.1 isS) ++ (accA hs ((hs.getD k default).2.2.2.l.take j).reverse)) ++ (if (((hs.getD k default).2.2.2.l.take j).reverse).length = 0 then alS else []))) (spS ++ (hs.getD m8 default).1) (c5 gA) u2 hu2 tI) (show List.Perm (bldH gA (((((((accH (accC cs (cs.take cs.length).reverse) cs hs (hs.take k).reverse) ++ (hs.getD k default).1) ++ heaT hs (hs.getD k default).2.2.1 seS) ++ clsT cs (hs.getD k default).2.1 isS) ++ (accA hs ((hs.getD k default).2.2.2.l.take j).reverse)) ++ (if (((hs.getD k default).2.2.2.l.take j).reverse).length = 0 then alS else []))) (c5 gA) u2) (bldH gA (((((((accH (accC cs (cs.take cs.length).reverse) cs hs (hs.take k).reverse) ++ (hs.getD k default).1) ++ heaT hs (hs.getD k default).2.2.1 seS) ++ clsT cs (hs.getD k default).2.1 isS) ++ (accA hs ((hs.getD k default).2.2.2.l.take j).reverse)) ++ (if (((hs.getD k default).2.2.2.l.take j).reverse).length = 0 then alS else []))) (c5 gA) u2 ++ []) from by rw [List.append_nil]) tK fun u3 hu3 => ?_; refine bU (hp' := bldH gA ((((((((accH (accC cs (cs.take cs.length).reverse) cs hs (hs.take k).reverse) ++ (hs.getD k default).1) ++ heaT hs (hs.getD k default).2.2.1 seS) ++ clsT cs (hs.getD k default).2.1 isS) ++ (accA hs ((hs.getD k default).2.2.2.l.take j).reverse)) ++ (if (((hs.getD k default).2.2.2.l.take j).reverse).length = 0 then alS else []))) ++ (spS ++ (hs.getD m8 default).1)) (c5 gA) u3) (show List.Perm (bldH gA ((((((((accH (accC cs (cs.take cs.length).reverse) cs hs (hs.take k).reverse) ++ (hs.getD k default).1) ++ heaT hs (hs.getD k default).2.2.1 seS) ++ clsT cs (hs.getD k default).2.1 isS) ++ (accA hs ((hs.getD k default).2.2.2.l.take j).reverse)) ++ (if (((hs.getD k default).2.2.2.l.take j).reverse).length = 0 then alS else []))) ++ (spS ++ (hs.getD m8 default).1)) (c5 gA) u3 ++ []) (bldH gA ((((((((accH (accC cs (cs.take cs.length).reverse) cs hs (hs.take k).reverse) ++ (hs.getD k default).1) ++ heaT hs (hs.getD k default).2.2.1 seS) ++ clsT cs (hs.getD k default).2.1 isS) ++ (accA hs ((hs.getD k default).2.2.2.l.take j).reverse)) ++ (if (((hs.getD k default).2.2.2.l.take j).reverse).length = 0 then alS else []))) ++ (spS ++ (hs.getD m8 default).1)) (c5 gA) u3) from by rw [List.append_nil]) ?_; refine b5 (v5 (i2 (d4 ?_))); refine t7 _ rfl rfl rfl rfl p8 ?_; refine b6 rfl (b5 ?_); have hacc : accA hs ((hs.getD k default).2.2.2.l.take (j + 1)).reverse = (accA hs ((hs.getD k default).2.2.2.l.take j).reverse) ++ (if (((hs.getD k default).2.2.2.l.take j).reverse).length = 0 then alS else []) ++ (spS ++ (hs.getD m8 default).1) := by rw [aj8 hj2, accA, hm8n]
   have hac2 : ((((accH (accC cs (cs.take cs.length).reverse) cs hs (hs.take k).reverse) ++ (hs.getD k default).1) ++ heaT hs (hs.getD k default).2.2.1 seS) ++ clsT cs (hs.getD k default).2.1 isS) ++ accA hs ((hs.getD k default).2.2.2.l.take (j + 1)).reverse = ((((((accH (accC cs (cs.take cs.length).reverse) cs hs (hs.take k).reverse) ++ (hs.getD k default).1) ++ heaT hs (hs.getD k default).2.2.1 seS) ++ clsT cs (hs.getD k default).2.1 isS) ++ (accA hs ((hs.getD k default).2.2.2.l.take j).reverse)) ++ (if (((hs.getD k default).2.2.2.l.take j).reverse).length = 0 then alS else [])) ++ (spS ++ (hs.getD m8 default).1) := by rw [hacc]; simp only [List.append_assoc]
   exact again _ (j + 1, u3) ⟨by show j + 1 ≤ (hs.getD k default).2.2.2.l.length; omega, by show (accA hs ((hs.getD k default).2.2.2.l.take (j + 1)).reverse).length ≤ 110 * (j + 1); rw [hacc]; simp only [List.length_append]; omega, by show Bld gA (((((accH (accC cs (cs.take cs.length).reverse) cs hs (hs.take k).reverse) ++ (hs.getD k default).1) ++ heaT hs (hs.getD k default).2.2.1 seS) ++ clsT cs (hs.getD k default).2.1 isS) ++ accA hs ((hs.getD k default).2.2.2.l.take (j + 1)).reverse) _ _ _ _; rw [hac2]; exact hu3⟩ (z8 (by omega)) mC (by show List.Sublist (bldH gA (((((accH (accC cs (cs.take cs.length).reverse) cs hs (hs.take k).reverse) ++ (hs.getD k default).1) ++ heaT hs (hs.getD k default).2.2.1 seS) ++ clsT cs (hs.getD k default).2.1 isS) ++ accA hs ((hs.getD k default).2.2.2.l.take (j + 1)).reverse) _ _) _; rw [hac2]; exact .refl _) mC
  have hb6' := hb6; try simp at hb6'
  obtain rfl : j = (hs.getD k default).2.2.2.l.length := by omega
  refine q9 (C3 (r7 (i2 (d4 ?_)))); refine i8 r6 rfl rfl (D8 gA (((((accH (accC cs (cs.take cs.length).reverse) cs hs (hs.take k).reverse) ++ (hs.getD k default).1) ++ heaT hs (hs.getD k default).2.2.1 seS) ++ clsT cs (hs.getD k default).2.1 isS) ++ accA hs ((hs.getD k default).2.2.2.l.take (hs.getD k default).2.2.2.l.length).reverse) (nlS) (c5 gA) u hu tI) (show List.Perm (bldH gA (((((accH (accC cs (cs.take cs.length).reverse) cs hs (hs.take k).reverse) ++ (hs.getD k default).1) ++ heaT hs (hs.getD k default).2.2.1 seS) ++ clsT cs (hs.getD k default).2.1 isS) ++ accA hs ((hs.getD k default).2.2.2.l.take (hs.getD k default).2.2.2.l.length).reverse) (c5 gA) u) (bldH gA (((((accH (accC cs (cs.take cs.length).reverse) cs hs (hs.take k).reverse) ++ (hs.getD k default).1) ++ heaT hs (hs.getD k default).2.2.1 seS) ++ clsT cs (hs.getD k default).2.1 isS) ++ accA hs ((hs.getD k default).2.2.2.l.take (hs.getD k default).2.2.2.l.length).reverse) (c5 gA) u ++ []) from by rw [List.append_nil]) tK fun v1 hv1 => ?_; refine bU (hp' := bldH gA ((((((accH (accC cs (cs.take cs.length).reverse) cs hs (hs.take k).reverse) ++ (hs.getD k default).1) ++ heaT hs (hs.getD k default).2.2.1 seS) ++ clsT cs (hs.getD k default).2.1 isS) ++ accA hs ((hs.getD k default).2.2.2.l.take (hs.getD k default).2.2.2.l.length).reverse) ++ (nlS)) (c5 gA) v1) (show List.Perm (bldH gA ((((((accH (accC cs (cs.take cs.length).reverse) cs hs (hs.take k).reverse) ++ (hs.getD k default).1) ++ heaT hs (hs.getD k default).2.2.1 seS) ++ clsT cs (hs.getD k default).2.1 isS) ++ accA hs ((hs.getD k default).2.2.2.l.take (hs.getD k default).2.2.2.l.length).reverse) ++ (nlS)) (c5 gA) v1 ++ []) (bldH gA ((((((accH (accC cs (cs.take cs.length).reverse) cs hs (hs.take k).reverse) ++ (hs.getD k default).1) ++ heaT hs (hs.getD k default).2.2.1 seS) ++ clsT cs (hs.getD k default).2.1 isS) ++ accA hs ((hs.getD k default).2.2.2.l.take (hs.getD k default).2.2.2.l.length).reverse) ++ (nlS)) (c5 gA) v1) from by rw [List.append_nil]) ?_; refine b5 (v5 (i2 (d4 ?_))); refine t7 _ rfl rfl rfl rfl p8 ?_; refine b6 rfl (b5 ?_); have htl : (hs.getD k default).2.2.2.l.take (hs.getD k default).2.2.2.l.length = (hs.getD k default).2.2.2.l := List.take_length; have hacc : accH (accC cs (cs.take cs.length).reverse) cs hs (hs.take (k + 1)).reverse = ((((accH (accC cs (cs.take cs.length).reverse) cs hs (hs.take k).reverse) ++ (hs.getD k default).1) ++ heaT hs (hs.getD k default).2.2.1 seS) ++ clsT cs (hs.getD k default).2.1 isS) ++ accA hs ((hs.getD k default).2.2.2.l.take (hs.getD k default).2.2.2.l.length).reverse ++ nlS := by rw [aj8 hk3, accH, heaE, htl]; simp only [List.append_assoc]
  exact again _ (k + 1, (c5 gA), v1) ⟨by show k + 1 ≤ hs.length; omega, by show (accH (accC cs (cs.take cs.length).reverse) cs hs (hs.take (k + 1)).reverse).length ≤ 1500 + 2000 * (k + 1); rw [hacc]; simp only [List.length_append]; omega, by show Bld gA (accH (accC cs (cs.take cs.length).reverse) cs hs (hs.take (k + 1)).reverse) _ _ _ _; rw [hacc]; exact hv1⟩ (z8 (by omega)) mC (by show List.Sublist (bldH gA (accH (accC cs (cs.take cs.length).reverse) cs hs (hs.take (k + 1)).reverse) _ _) _; rw [hacc]; exact .refl _) mC
 have hb3' := hb3; try simp at hb3'
 obtain rfl : k = hs.length := by omega
 refine q9 (C3 (r7 (i2 (i3 ?_)))); refine i8 r6 rfl rfl (D8 gA (accH (accC cs (cs.take cs.length).reverse) cs hs (hs.take hs.length).reverse) (fiS) P st hb tI) (show List.Perm (bldH gA (accH (accC cs (cs.take cs.length).reverse) cs hs (hs.take hs.length).reverse) P st) (bldH gA (accH (accC cs (cs.take cs.length).reverse) cs hs (hs.take hs.length).reverse) P st ++ []) from by rw [List.append_nil]) tK fun w1 hw1 => ?_; refine bU (hp' := bldH gA ((accH (accC cs (cs.take cs.length).reverse) cs hs (hs.take hs.length).reverse) ++ (fiS)) (c5 gA) w1) (show List.Perm (bldH gA ((accH (accC cs (cs.take cs.length).reverse) cs hs (hs.take hs.length).reverse) ++ (fiS)) (c5 gA) w1 ++ []) (bldH gA ((accH (accC cs (cs.take cs.length).reverse) cs hs (hs.take hs.length).reverse) ++ (fiS)) (c5 gA) w1) from by rw [List.append_nil]) ?_; refine n9 ?_; refine i8 gN rfl rfl (cz9 gA (accH (accC cs (cs.take cs.length).reverse) cs hs (hs.take hs.length).reverse ++ fiS) (c5 gA) w1 hw1 (by intro e; have := congrArg List.length e; rw [List.length_append] at this; simp only [List.length_nil] at this; omega)) (show List.Perm (bldH gA (accH (accC cs (cs.take cs.length).reverse) cs hs (hs.take hs.length).reverse ++ fiS) (c5 gA) w1) (bldH gA (accH (accC cs (cs.take cs.length).reverse) cs hs (hs.take hs.length).reverse ++ fiS) (c5 gA) w1 ++ []) from by rw [List.append_nil]) tK fun _ _ => ?_; refine c8 rfl (c9 (k8 ?_)); exact ret1 () rfl (by rw [List.take_length, List.take_length]; rfl) rfl tK nK tK
def wrS : Str := [99, 108, 97, 115, 115, 32, 102, 111, 111, 100, 10, 99, 108, 97, 115, 115, 32, 98, 114, 101, 97, 100, 32, 105, 110, 32, 102, 111, 111, 100, 10, 99, 108, 97, 115, 115, 32, 99, 108, 111, 116, 104, 10, 99, 108, 97, 115, 115, 32, 104, 97, 116, 115, 32, 105, 110, 32, 99, 108, 111, 116, 104, 10, 98, 97, 107, 101, 114, 32, 105, 115, 32, 98, 114, 101, 97, 100, 10, 98, 111, 110, 110, 101, 116, 115, 32, 115, 101, 101, 32, 104, 97, 116, 116, 101, 114, 10, 99, 111, 110, 102, 101, 99, 116, 105, 111, 110, 101, 114, 32, 105, 115, 32, 102, 111, 111, 100, 32, 97, 108, 115, 111, 32, 98, 97, 107, 101, 114, 10, 104, 97, 116, 116, 101, 114, 32, 105, 115, 32, 104, 97, 116, 115, 10, 109, 101, 114, 99, 101, 114, 32, 105, 115, 32, 99, 108, 111, 116, 104, 32, 97, 108, 115, 111, 32, 104, 97, 116, 116, 101, 114, 10, 109, 105, 108, 108, 105, 110, 101, 114, 32, 115, 101, 101, 32, 98, 111, 110, 110, 101, 116, 115, 10, 102, 105, 110, 105, 115, 10]
theorem jV {A B : Option Addr} {ca cb : Nat} (cs : List Cl) (hs : List Hd) (hca : cs.length ≤ ca) (hcb : hs.length ≤ cb) (ha : ∀ h ∈ hs, h.2.2.2.l.length ≤ 1000000) (h0 : checkT (trOf cs hs) = 0) (hw : WrOK cs hs) : Meets prog jE [.agg #[.slice A cs.length ca, .slice B hs.length cb]] { LI := [Row A (rows cs), RowsF B hs Hd.row], val := fun _ : Unit => .tuple #[str (wrT cs hs), int 0] } := by
 refine i5 xW rfl t3 fun w0 => i3 (O9 rfl rfl fun gB => ?_); refine c8 rfl (c8 rfl (c9 ?_)); refine I6 ⟨fun _ : Nat × OutC × OutC => True, fun x => [(1, .pointer (c5 gB)), (4, if checkT (trOf cs hs) = 0 then .pointer (some ⟨x.1, 0, none⟩) else .pointer none), (5, int (checkT (trOf cs hs)))], fun _ => [(gB, .cells #[.slice A cs.length ca, .slice B hs.length cb] r5 (0, 0))], fun x => (if checkT (trOf cs hs) = 0 then beginL cs hs A ca B cb x else []) ++ [Row A (rows cs), RowsF B hs Hd.row]⟩ ?_ ?_
 ·skip
  refine d4 ?_
  first | refine D1 rfl d9 c7 rfl mB (by rfl) ?_ | refine G0 rfl d9 c7 rfl mB (by rfl) ?_ | refine u0 rfl d9 c7 rfl rfl (r4 mB (u5 (by omega))) ?_
  refine i8 L9 rfl rfl (K9 cs hs hca hcb ha) n4 mC fun x _ => ?_; refine b6 rfl (j7 rfl rfl rfl (j7 rfl rfl rfl (c8 rfl (c8 rfl (b5 ?_))))); exact D0 _ x tK mC (List.Sublist.refl _) (LSub.of_mem fun F h => h)
 refine fun x _ => ?_
 dsimp only
 refine d7 (i3 (b6 rfl (L5 rfl rfl rfl (c9 ?_))))
 first | refine k6 rfl (fun hb1 => ?_) (fun hb1 => ?_) | refine i6 rfl (fun hb1 => ?_) (fun hb1 => ?_)
 ·exact absurd h0 hb1
 have hb1' := hb1; try simp at hb1'
 rw [if_pos h0, if_pos h0]; have hok := lD h0; have h6 : cs.length ≤ 6 := hok.c6; have h6h := hok.h6; rw [C9] at h6h; have hcl : ∀ i, i < cs.length → ClsOK cs i := hok.c; obtain ⟨gl, ⟨oa, oc⟩, ⟨ka, kc⟩⟩ := x; show HC _ _ _ _ _ [Row (c5 gl) [.slice A cs.length ca, .slice B hs.length cb, .slice oa cs.length oc, .slice ka hs.length kc], Row oa (rows (masksN cs cs.length)), Row ka (rows (kindsN hs hs.length)), Row A (rows cs), RowsF B hs Hd.row]; refine i9 (i2 (i3 (b6 rfl ?_))); refine i8 mY rfl rfl (xK (A := A) (B := B) (oa := oa) (oc := oc) (ka := ka) (kc := kc) (gl := gl) (ca := ca) (cb := cb) cs hs hw) n4 mC fun _ _ => ?_; refine c8 rfl (c8 rfl (c9 (k8 ?_))); exact ret2 () rfl rfl rfl rfl rfl tK nK tK
def joinB (b : UInt8) : List Str → Str
  | [] => []
  | [a] => a
  | a :: c :: r => a ++ b :: joinB b (c :: r)
theorem aj7 {b : UInt8} : ∀ {l : List Str}, l ≠ [] → (∀ w ∈ l, b ∉ w) → splitB b (joinB b l) = l
  | [], h, _ => absurd rfl h
  | [a], _, h => aj6 (h a List.mem_cons_self)
  | a :: c :: r, _, h => by
    rw [joinB, vE _ (h a List.mem_cons_self), aj7 (by simp) fun w hw => h w (List.mem_cons_of_mem _ hw)]
theorem mW (b : UInt8) : ∀ s : Str, joinB b (splitB b s) = s
  | [] => rfl
  | x :: r => by
    have ih := mW b r; have hl := N0 b r; rw [splitB]
    cases hs : splitB b r with
    | nil => rw [hs] at hl; cases hl
    | cons a t =>
      rw [hs] at ih
      split
      · rename_i h; rw [joinB, ih, h]; rfl
      cases t with
      | nil => rw [joinB] at ih ⊢; rw [ih]
      | cons c t => rw [joinB] at ih ⊢; rw [List.cons_append, ih]
def lnsS (ls : List Str) : Str := ls.flatMap (· ++ [10])
theorem dx9 (s : Str) (ls : List Str) : lnsS (s :: ls) = s ++ 10 :: lnsS ls := by
  simp [lnsS]
theorem zY (l m : List Str) : lnsS (l ++ m) = lnsS l ++ lnsS m := by simp [lnsS]
theorem bq7 : ∀ {ls : List Str}, (∀ s ∈ ls, (10 : UInt8) ∉ s) → splitB 10 (lnsS ls) = ls ++ [[]]
  | [], _ => rfl
  | s :: r, h => by
    rw [dx9, vE _ (h s List.mem_cons_self), bq7 fun t ht => h t (List.mem_cons_of_mem _ ht)]; rfl
theorem dz1 : ∀ ls : List Str, joinB 10 (ls ++ [[]]) = lnsS ls
  | [] => rfl
  | [s] => by simp [joinB, lnsS]
  | s :: t :: r => by
    show joinB 10 (s :: t :: (r ++ [[]])) = _; rw [joinB, dx9]; exact congrArg (fun z => s ++ 10 :: z) (dz1 (t :: r))
def jn (l : List Str) : Str := l.flatMap fun w => 32 :: w
theorem lj7 (l m : List Str) : jn (l ++ m) = jn l ++ jn m := by simp [jn]
theorem zZ : ∀ (a : Str) (l : List Str), joinB 32 (a :: l) = a ++ jn l
  | a, [] => by simp [joinB, jn]
  | a, b :: l => by
    rw [joinB, zZ b l]
    simp [jn]
def cwT (cn : Int → Str) (c : Cl) : List Str := wClass :: c.1 :: (if 0 ≤ c.2 then [kIn, cn c.2] else [])
def hwT (cn hn : Int → Str) (h : PH) : List Str := h.1 :: ((if 0 ≤ h.2.2.1 then [kSee, hn h.2.2.1] else []) ++ ((if 0 ≤ h.2.1 then [kIs, cn h.2.1] else []) ++ (if h.2.2.2 = [] then [] else kAlso :: h.2.2.2.map hn)))
def cnT (cs : List Cl) (z : Int) : Str := (cs.getD z.toNat default).1
def hnT (hs : List Hd) (z : Int) : Str := (hs.getD z.toNat default).1
theorem acc_a (hs : List Hd) : ∀ m : List Int, accA hs m = if m = [] then [] else alS ++ jn (m.reverse.map (hnT hs))
  | [] => rfl
  | x :: m => by
    rw [accA, acc_a hs m]
    cases m with
    | nil => simp [jn, hnT, spS]
    | cons y m => simp [jn, hnT, spS]
theorem lz8 (cs : List Cl) (c : Cl) : (claS ++ c.1) ++ clsT cs c.2 inS = joinB 32 (cwT (cnT cs) c) := by
  unfold cwT clsT; rw [zZ]
  by_cases h : 0 ≤ c.2
  · rw [if_pos h, if_pos h]; simp [jn, claS, wClass, inS, kIn, cnT]
  rw [if_neg h, if_neg h]; simp [jn, claS, wClass]
theorem lq3 (cs : List Cl) (hs : List Hd) (h : Hd) : ((h.1 ++ heaT hs h.2.2.1 seS) ++ clsT cs h.2.1 isS) ++ accA hs h.2.2.2.l.reverse = joinB 32 (hwT (cnT cs) (hnT hs) h.p) := by
  unfold hwT; rw [zZ, lj7, lj7, acc_a, List.reverse_reverse]
  have e1 : heaT hs h.2.2.1 seS = jn (if 0 ≤ h.p.2.2.1 then [kSee, hnT hs h.p.2.2.1] else []) := by
    unfold heaT
    by_cases q : 0 ≤ h.2.2.1
    · rw [if_pos q, if_pos (show 0 ≤ h.p.2.2.1 from q)]; simp [jn, seS, kSee, hnT, Hd.p]
    rw [if_neg q, if_neg (show ¬ 0 ≤ h.p.2.2.1 from q)]; rfl
  have e2 : clsT cs h.2.1 isS = jn (if 0 ≤ h.p.2.1 then [kIs, cnT cs h.p.2.1] else []) := by
    unfold clsT
    by_cases q : 0 ≤ h.2.1
    · rw [if_pos q, if_pos (show 0 ≤ h.p.2.1 from q)]; simp [jn, isS, kIs, cnT, Hd.p]
    rw [if_neg q, if_neg (show ¬ 0 ≤ h.p.2.1 from q)]; rfl
  have e3 : (if h.2.2.2.l.reverse = [] then [] else alS ++ jn (h.2.2.2.l.map (hnT hs))) = jn (if h.p.2.2.2 = [] then [] else kAlso :: h.p.2.2.2.map (hnT hs)) := by
    by_cases q : h.2.2.2.l = []
    · rw [if_pos (by rw [q]; rfl), if_pos (show h.p.2.2.2 = [] from q)]; rfl
    rw [if_neg (by simpa using q), if_neg (show ¬ h.p.2.2.2 = [] from q)]; simp [jn, alS, kAlso, Hd.p]
  rw [e1, e2, e3]
  simp [Hd.p, List.append_assoc]
theorem acc_c (cs : List Cl) : ∀ m : List Cl, accC cs m = lnsS (m.reverse.map fun c => joinB 32 (cwT (cnT cs) c))
  | [] => rfl
  | c :: m => by
    rw [accC, acc_c cs m, List.reverse_cons, List.map_append, zY, List.append_assoc _ (claS ++ c.1), lz8]
    simp [lnsS, nlS]
theorem acc_h (a : Str) (cs : List Cl) (hs : List Hd) : ∀ m : List Hd, accH a cs hs m = a ++ lnsS (m.reverse.map fun h => joinB 32 (hwT (cnT cs) (hnT hs) h.p))
  | [] => by simp [accH, lnsS]
  | h :: m => by
    rw [accH, acc_h a cs hs m, List.reverse_cons, List.map_append, zY, heaE, lq3]
    simp [lnsS, nlS]
def trL (cs : List Cl) (hs : List Hd) : List Str := (cs.map fun c => joinB 32 (cwT (cnT cs) c)) ++ ((hs.map fun h => joinB 32 (hwT (cnT cs) (hnT hs) h.p)) ++ [wFinis])
theorem jz9 (cs : List Cl) (hs : List Hd) : wrT cs hs = lnsS (trL cs hs) := by
  unfold wrT trL; rw [acc_h, acc_c, List.reverse_reverse, List.reverse_reverse, zY, zY, List.append_assoc]
  rfl
def Azs (w : Str) : Prop := (10 : UInt8) ∉ w ∧ (32 : UInt8) ∉ w
theorem R3 {w : Str} (h : wordB w = true) : Azs w ∧ w ≠ [] ∧ w ≠ wClass ∧ w ≠ wFinis ∧ w.length ≤ 12 := by
  unfold wordB at h; simp only [Bool.and_eq_true, decide_eq_true_eq] at h; obtain ⟨h1, h2, h3, h4, h5⟩ := h
  have ha : ∀ c ∈ w, 97 ≤ c.toNat := fun c hc => by
    have := List.all_eq_true.1 h5 c hc; unfold azB at this; simp only [Bool.and_eq_true, decide_eq_true_eq] at this; exact this.1
  exact ⟨⟨fun hm => absurd (ha _ hm) (by decide), fun hm => absurd (ha _ hm) (by decide)⟩, fun e => by rw [e] at h1; simp at h1, h3, h4, h2⟩
theorem ix8 {l : List Str} (h : ∀ w ∈ l, Azs w) : (10 : UInt8) ∉ joinB 32 l := by
  match l, h with
  | [], _ => simp [joinB]
  | a :: l, h =>
    rw [zZ]; intro hm
    rcases List.mem_append.1 hm with hm | hm
    · exact (h a List.mem_cons_self).1 hm
    obtain ⟨w, hw, hc⟩ := List.mem_flatMap.1 hm
    rcases List.mem_cons.1 hc with hc | hc
    · cases hc
    exact (h w (List.mem_cons_of_mem _ hw)).1 hc
theorem gj7 {l : List Str} (h : ∀ w ∈ l, Azs w) (hl : l ≠ []) : splitB 32 (joinB 32 l) = l := aj7 hl fun w hw => (h w hw).2
theorem sB : Azs wClass ∧ Azs kIn ∧ Azs kIs ∧ Azs kSee ∧ Azs kAlso ∧ Azs wFinis := by
  refine ⟨⟨by decide, by decide⟩, ⟨by decide, by decide⟩, ⟨by decide, by decide⟩, ⟨by decide, by decide⟩, ⟨by decide, by decide⟩, ⟨by decide, by decide⟩⟩
def cpT (cn : Int → Str) (c : Cl) : PL := (c.1, if 0 ≤ c.2 then cn c.2 else [], [], [])
def hqT (cn hn : Int → Str) (h : PH) : PL := (h.1, if 0 ≤ h.2.1 then cn h.2.1 else [], if 0 ≤ h.2.2.1 then hn h.2.2.1 else [], h.2.2.2.map hn)
theorem kz3 {cn : Int → Str} {c : Cl} (h : wordB c.1 = true) (h2 : 0 ≤ c.2 → wordB (cn c.2) = true) : parseT (cwT cn c) = some (false, cpT cn c) := by
  unfold cwT cpT
  by_cases q : 0 ≤ c.2
  · rw [if_pos q, if_pos q]
    simp [parseT, at_, h, h2 q]
  rw [if_neg q, if_neg q]
  simp [parseT, at_, h]
structure HwOK (cn hn : Int → Str) (h : PH) : Prop where
  w : wordB h.1 = true
  c : 0 ≤ h.2.1 → wordB (cn h.2.1) = true
  s : 0 ≤ h.2.2.1 → wordB (hn h.2.2.1) = true
  a : ∀ x ∈ h.2.2.2, wordB (hn x) = true
  k : (0 ≤ h.2.2.1 ∧ h.2.1 = -1 ∧ h.2.2.2 = []) ∨ (h.2.2.1 = -1 ∧ 0 ≤ h.2.1) ∨ (h.2.2.1 = -1 ∧ h.2.1 = -1 ∧ h.2.2.2 ≠ [])
theorem bq2 {hn : Int → Str} {l : List Int} (h : ∀ x ∈ l, wordB (hn x) = true) (hl : l ≠ []) : wordsB (l.map hn) = true := by
  unfold wordsB; rw [Bool.and_eq_true, decide_eq_true_eq, List.all_eq_true]; refine ⟨fun w hw => ?_, by rw [List.length_map]; exact List.length_pos_iff.2 hl⟩; obtain ⟨x, hx, rfl⟩ := List.mem_map.1 hw; exact h x hx
theorem kz2 {cn hn : Int → Str} {h : PH} (hk : HwOK cn hn h) : parseT (hwT cn hn h) = some (true, hqT cn hn h) := by
  obtain ⟨w, c, s, a, k⟩ := hk; have hne := (R3 w).2.2.1; obtain ⟨h1, z, u, l⟩ := h; unfold hwT hqT; simp only at *
  rcases k with ⟨k1, k2, k3⟩ | ⟨k1, k2⟩ | ⟨k1, k2, k3⟩
  · subst k2; subst k3
    rw [if_pos k1, if_pos k1]
    simp [parseT, at_, hne, w, s k1, kIs, kAlso, kSee]
  · subst k1
    rw [if_pos k2, if_pos k2]
    cases l with
    | nil => simp [parseT, at_, hne, w, c k2]
    | cons x l =>
      have := bq2 a (by simp); rw [List.map_cons] at this
      simp [parseT, at_, hne, w, c k2, this]
  subst k1; subst k2
  cases l with
  | nil => exact absurd rfl k3
  | cons x l =>
    have := bq2 a (by simp); rw [List.map_cons] at this
    simp [parseT, at_, hne, w, this, kIs, kAlso]
theorem iq3 {s : Str} {r : Bool × PL} (h : parseT (splitB 32 s) = some r) : ¬ s = wFinis := fun e => by
  rw [e] at h; have : parseT (splitB 32 wFinis) = none := by decide
  rw [this] at h; cases h
theorem rd_cs : ∀ (l : List (Str × PL)) {i : Nat} {rest : List Str} {cl : List PL}, rest ≠ [] → (∀ q ∈ l, parseT (splitB 32 q.1) = some (false, q.2)) → rdF i (l.map (·.1) ++ rest) cl [] = rdF (i + l.length) rest (cl ++ l.map (·.2)) []
  | [], i, rest, cl, _, _ => by simp
  | q :: l, i, rest, cl, hr, h => by
    have hq := h q List.mem_cons_self; rw [List.map_cons, List.cons_append, rdF, if_neg (by simp [hr]), if_neg (iq3 hq), hq]; simp only [if_true]; rw [rd_cs l hr fun y hy => h y (List.mem_cons_of_mem _ hy), List.length_cons, List.map_cons, List.append_assoc]
    congr 1
    omega
theorem rd_hs : ∀ (l : List (Str × PL)) {i : Nat} {rest : List Str} {cl hd : List PL}, rest ≠ [] → (∀ q ∈ l, parseT (splitB 32 q.1) = some (true, q.2)) → rdF i (l.map (·.1) ++ rest) cl hd = rdF (i + l.length) rest cl (hd ++ l.map (·.2))
  | [], i, rest, cl, hd, _, _ => by simp
  | q :: l, i, rest, cl, hd, hr, h => by
    have hq := h q List.mem_cons_self; rw [List.map_cons, List.cons_append, rdF, if_neg (by simp [hr]), if_neg (iq3 hq), hq]
    simp only
    rw [rd_hs l hr fun y hy => h y (List.mem_cons_of_mem _ hy), List.length_cons, List.map_cons, List.append_assoc]
    congr 1
    omega
theorem rd_tr {cs hs : List (Str × PL)} (hc : ∀ q ∈ cs, parseT (splitB 32 q.1) = some (false, q.2)) (hh : ∀ q ∈ hs, parseT (splitB 32 q.1) = some (true, q.2)) : rdF 0 (cs.map (·.1) ++ (hs.map (·.1) ++ [wFinis, []])) [] [] = (some (cs.map (·.2), hs.map (·.2)), 0) := by
  rw [rd_cs cs (by simp) hc, rd_hs hs (by simp) hh, rdF, if_neg (by simp), if_pos rfl, if_pos rfl]
  simp
theorem mem_at' {α : Type} [Inhabited α] {l : List α} {x : α} (h : x ∈ l) : ∃ i, i < l.length ∧ l.getD i default = x := by
  obtain ⟨i, hi, e⟩ := List.getElem_of_mem h; exact ⟨i, hi, by rw [w7 hi]; exact e⟩
theorem dZ {α β : Type} [Inhabited α] [Inhabited β] {l : List α} {f : α → β} {k : Nat} (h : k < l.length) : (l.map f).getD k default = f (l.getD k default) := by
  rw [w7 h, w7 (by simpa using h)]; simp
theorem dj9 {α : Type} [Inhabited α] {l : List α} {i j : Nat} (hj : j < i) (hi : i < l.length) : l.getD j default ∈ l.take i := by
  have h1 : j < (l.take i).length := by rw [List.length_take]; omega
  have h2 := List.getElem_mem h1; rw [List.getElem_take] at h2; rw [w7 (by omega)]; exact h2
theorem trb_c {C : List PL} : ∀ (l : List PL) {i : Nat} {acc : List Cl}, (∀ x ∈ l, ¬ (¬ x.2.1 = [] ∧ findP C x.2.1 < 0)) → trbC C l i acc = (some (acc ++ l.map fun x => (x.1, findP C x.2.1)), 0)
  | [], i, acc, _ => by simp [trbC]
  | x :: l, i, acc, h => by
    rw [trbC, if_neg (h x List.mem_cons_self), trb_c l fun y hy => h y (List.mem_cons_of_mem _ hy)]
    simp
theorem kj7 {C : List PL} : ∀ (l : List PL) {i : Nat} {acc cs : List Cl} {r : Nat}, trbC C l i acc = (some cs, r) → (∀ x ∈ l, ¬ (¬ x.2.1 = [] ∧ findP C x.2.1 < 0)) ∧ cs = acc ++ l.map fun x => (x.1, findP C x.2.1)
  | [], i, acc, cs, r, h => by cases h; exact ⟨fun x hx => (by cases hx), by simp⟩
  | x :: l, i, acc, cs, r, h => by
    rw [trbC] at h
    split at h
    · cases h
    rename_i hb
    obtain ⟨h1, h2⟩ := kj7 l h; refine ⟨fun y hy => ?_, by rw [h2]; simp⟩
    rcases List.mem_cons.1 hy with e | hy
    · rw [e]; exact hb
    exact h1 y hy
theorem iz0 {H : List PL} : ∀ (l : List Str) {acc : List Int}, (∀ a ∈ l, ¬ findP H a < 0) → aloE H l acc = some (acc ++ l.map (findP H))
  | [], acc, _ => by simp [aloE]
  | a :: l, acc, h => by
    rw [aloE, if_neg (h a List.mem_cons_self), iz0 l fun y hy => h y (List.mem_cons_of_mem _ hy)]
    simp
theorem ix9 {H : List PL} : ∀ (l : List Str) {acc r : List Int}, aloE H l acc = some r → (∀ a ∈ l, ¬ findP H a < 0) ∧ r = acc ++ l.map (findP H)
  | [], acc, r, h => by cases h; exact ⟨fun x hx => (by cases hx), by simp⟩
  | a :: l, acc, r, h => by
    rw [aloE] at h
    split at h
    · cases h
    rename_i hb
    obtain ⟨h1, h2⟩ := ix9 l h; refine ⟨fun y hy => ?_, by rw [h2]; simp⟩
    rcases List.mem_cons.1 hy with e | hy
    · rw [e]; exact hb
    exact h1 y hy
def hdOf (C H : List PL) (x : PL) : PH := (x.1, findP C x.2.1, findP H x.2.2.1, x.2.2.2.map (findP H))
theorem trb_h {C H : List PL} : ∀ (l : List PL) {i : Nat} {acc : List PH}, (∀ x ∈ l, ¬ HBad C H x ∧ ∀ a ∈ x.2.2.2, ¬ findP H a < 0) → trbH C H l i acc = (some (acc ++ l.map (hdOf C H)), 0)
  | [], i, acc, _ => by simp [trbH]
  | x :: l, i, acc, h => by
    rw [trbH, if_neg (h x List.mem_cons_self).1, iz0 _ (h x List.mem_cons_self).2]
    simp only
    rw [trb_h l fun y hy => h y (List.mem_cons_of_mem _ hy)]
    simp [hdOf]
theorem kj6 {C H : List PL} : ∀ (l : List PL) {i : Nat} {acc hs : List PH} {r : Nat}, trbH C H l i acc = (some hs, r) → (∀ x ∈ l, ¬ HBad C H x ∧ ∀ a ∈ x.2.2.2, ¬ findP H a < 0) ∧ hs = acc ++ l.map (hdOf C H)
  | [], i, acc, hs, r, h => by cases h; exact ⟨fun x hx => (by cases hx), by simp⟩
  | x :: l, i, acc, hs, r, h => by
    rw [trbH] at h
    split at h
    · cases h
    rename_i hb
    split at h
    · cases h
    rename_i q hq
    obtain ⟨h3, h4⟩ := ix9 _ hq; obtain ⟨h1, h2⟩ := kj6 l h; refine ⟨fun y hy => ?_, by rw [h2, h4]; simp [hdOf]⟩
    rcases List.mem_cons.1 hy with e | hy
    · rw [e]; exact ⟨hb, h3⟩
    exact h1 y hy
theorem az3 {n : Str} : ∀ {l : List PL} {i : Nat}, 0 ≤ findN n l i → ∃ k, k < l.length ∧ findN n l i = ((i + k : Nat) : Int) ∧ (l.getD k default).1 = n
  | [], i, h => by rw [findN] at h; omega
  | x :: r, i, h => by
    rw [findN] at h ⊢
    by_cases e : x.1 = n
    · rw [if_pos e]; exact ⟨0, by simp, rfl, by simpa using e⟩
    rw [if_neg e] at h ⊢; obtain ⟨k, h1, h2, h3⟩ := az3 h; exact ⟨k + 1, by simpa using h1, by rw [h2]; congr 1; omega, by simpa using h3⟩
theorem sA {l : List PL} (h : ∀ x ∈ l, x.1 ≠ []) : findP l [] = -1 := cz3 fun j hj => h _ (A9 hj)
theorem gj2 {l : List PL} {k : Nat} (hk : k < l.length) (hd : ∀ j, j < k → (l.getD j default).1 ≠ (l.getD k default).1) : findP l (l.getD k default).1 = (k : Int) := by
  have := cz4 (n := (l.getD k default).1) (i := 0) hk hd rfl; rw [findP, this, Nat.zero_add]
section
variable {cs : List Cl} {hs : List Hd}
theorem mJ (h : TrOK (trOf cs hs)) {c : Cl} (hc : c ∈ cs) : wordB c.1 = true ∧ -1 ≤ c.2 ∧ c.2 < (cs.length : Int) ∧ (0 ≤ c.2 → wordB (cnT cs c.2) = true) := by
  obtain ⟨i, hi, rfl⟩ := mem_at' hc; have q := h.c i hi; have hw : wordB (cs.getD i default).1 = true := q.w; have hlo : -1 ≤ (cs.getD i default).2 := q.lo; have hhi : (cs.getD i default).2 < (i : Int) := q.hi; refine ⟨hw, hlo, by omega, fun h0 => ?_⟩; exact (h.c _ (show (cs.getD i default).2.toNat < cs.length by omega)).w
theorem cn_word (h : TrOK (trOf cs hs)) {z : Int} (h0 : 0 ≤ z) (h1 : z < (cs.length : Int)) : wordB (cnT cs z) = true := (h.c _ (show z.toNat < cs.length by omega)).w
theorem iq6 (h : TrOK (trOf cs hs)) {z : Int} (h0 : 0 ≤ z) (h1 : z < (hs.length : Int)) : wordB (hnT hs z) = true := by
  have hz : z.toNat < hs.length := by omega
  have := (h.h z.toNat (by simpa using hz)).w; rw [N4 hz] at this; exact this
theorem ax3 (h : TrOK (trOf cs hs)) {x : Hd} (hx : x ∈ hs) : HwOK (cnT cs) (hnT hs) x.p ∧ -1 ≤ x.2.1 ∧ -1 ≤ x.2.2.1 ∧ x.2.1 < (cs.length : Int) ∧ x.2.2.1 < (hs.length : Int) ∧ ∀ a ∈ x.2.2.2.l, 0 ≤ a ∧ a < (hs.length : Int) := by
  obtain ⟨i, hi, rfl⟩ := mem_at' hx; have q := h.h i (by simpa using hi); have hk := q.kinds; have qw := q.w; have qc := q.c; have qs := q.s; have qa := q.a; rw [show (trOf cs hs).hs.getD i default = (hs.getD i default).p from N4 hi] at hk qw qc qs qa
  have hal : ∀ a ∈ (hs.getD i default).2.2.2.l, 0 ≤ a ∧ a < (hs.length : Int) := fun a ha => by
    obtain ⟨k, hk1, rfl⟩ := mem_at' ha; have := Z9 (qa k hk1); have e : ((trOf cs hs).hs.length : Int) = hs.length := by simp
    exact ⟨this.1, by rw [← e]; exact this.2.1⟩
  have e : ((trOf cs hs).hs.length : Int) = hs.length := by simp
  rw [e] at qs; exact ⟨⟨qw, fun h0 => cn_word h h0 qc.2, fun h0 => iq6 h h0 qs.2.1, fun a ha => iq6 h (hal a ha).1 (hal a ha).2, hk⟩, qc.1, qs.1, qc.2, qs.2.1, hal⟩
theorem cn_find (h : TrOK (trOf cs hs)) {z : Int} (h0 : 0 ≤ z) (h1 : z < (cs.length : Int)) : findP (cs.map (cpT (cnT cs))) (cnT cs z) = z := by
  have hz : z.toNat < cs.length := by omega
  have hz2 : z.toNat < (cs.map (cpT (cnT cs))).length := by simpa using hz
  have e : ((cs.map (cpT (cnT cs))).getD z.toNat default).1 = cnT cs z := by rw [dZ hz]; rfl
  have := gj2 hz2 fun j hj => by
    rw [dZ (by omega), dZ hz]; intro q; exact (h.c _ hz).n (by rw [← show (cs.getD j default).1 = (cs.getD z.toNat default).1 from q]; exact List.mem_map.2 ⟨_, dj9 hj hz, rfl⟩)
  rw [e] at this; rw [this]
  omega
theorem cx6 (h : TrOK (trOf cs hs)) {z : Int} (h0 : 0 ≤ z) (h1 : z < (hs.length : Int)) : findP (hs.map fun x => hqT (cnT cs) (hnT hs) x.p) (hnT hs z) = z := by
  have hz : z.toNat < hs.length := by omega
  have hz2 : z.toNat < (hs.map fun x => hqT (cnT cs) (hnT hs) x.p).length := by simpa using hz
  have e : ((hs.map fun x => hqT (cnT cs) (hnT hs) x.p).getD z.toNat default).1 = hnT hs z := by rw [dZ hz]; rfl
  have := gj2 hz2 fun j hj => by
    rw [dZ (by omega), dZ hz]; intro q; have hn := (h.h z.toNat (by simpa using hz)).n; rw [show (trOf cs hs).hs.getD z.toNat default = (hs.getD z.toNat default).p from N4 hz] at hn; refine hn ?_; rw [show (hs.getD z.toNat default).p.1 = (hs.getD j default).p.1 from q.symm]; refine List.mem_map.2 ⟨(hs.getD j default).p, ?_, rfl⟩; show _ ∈ (hs.map Hd.p).take z.toNat; rw [← List.map_take]; exact List.mem_map.2 ⟨_, dj9 hj hz, rfl⟩
  rw [e] at this; rw [this]
  omega
theorem gz2 (h : checkT (trOf cs hs) = 0) (hl : (wrT cs hs).length ≤ 900) : readT (wrT cs hs) = ((cs, hs.map Hd.p), 0, 0) := by
  have ho := lD h
  have hcw : ∀ c ∈ cs, ∀ w ∈ cwT (cnT cs) c, Azs w := fun c hc w hw => by
    have q := mJ ho hc; unfold cwT at hw
    rcases List.mem_cons.1 hw with e | hw
    · rw [e]; exact sB.1
    rcases List.mem_cons.1 hw with e | hw
    · rw [e]; exact (R3 q.1).1
    split at hw
    · rename_i h0
      rcases List.mem_cons.1 hw with e | hw
      · rw [e]; exact sB.2.1
      rw [List.mem_singleton.1 hw]; exact (R3 (q.2.2.2 h0)).1
    cases hw
  have hhw : ∀ x ∈ hs, ∀ w ∈ hwT (cnT cs) (hnT hs) x.p, Azs w := fun x hx w hw => by
    obtain ⟨q, _⟩ := ax3 ho hx; unfold hwT at hw
    rcases List.mem_cons.1 hw with e | hw
    · rw [e]; exact (R3 q.w).1
    rcases List.mem_append.1 hw with hw | hw
    · split at hw
      · rename_i h0
        rcases List.mem_cons.1 hw with e | hw
        · rw [e]; exact sB.2.2.2.1
        rw [List.mem_singleton.1 hw]; exact (R3 (q.s h0)).1
      cases hw
    rcases List.mem_append.1 hw with hw | hw
    · split at hw
      · rename_i h0
        rcases List.mem_cons.1 hw with e | hw
        · rw [e]; exact sB.2.2.1
        rw [List.mem_singleton.1 hw]; exact (R3 (q.c h0)).1
      cases hw
    split at hw
    · cases hw
    rcases List.mem_cons.1 hw with e | hw
    · rw [e]; exact sB.2.2.2.2.1
    obtain ⟨a, ha, rfl⟩ := List.mem_map.1 hw; exact (R3 (q.a a ha)).1
  have hpc : ∀ c ∈ cs, parseT (splitB 32 (joinB 32 (cwT (cnT cs) c))) = some (false, cpT (cnT cs) c) := fun c hc => by
    rw [gj7 (hcw c hc) (by simp [cwT])]; exact kz3 (mJ ho hc).1 (mJ ho hc).2.2.2
  have hph : ∀ x ∈ hs, parseT (splitB 32 (joinB 32 (hwT (cnT cs) (hnT hs) x.p))) = some (true, hqT (cnT cs) (hnT hs) x.p) := fun x hx => by
    rw [gj7 (hhw x hx) (by simp [hwT])]; exact kz2 (ax3 ho hx).1
  have hsp : splitB 10 (wrT cs hs) = trL cs hs ++ [[]] := by
    rw [jz9]; refine bq7 fun s hs' => ?_; unfold trL at hs'
    rcases List.mem_append.1 hs' with q | q
    · obtain ⟨c, hc, rfl⟩ := List.mem_map.1 q; exact ix8 (hcw c hc)
    rcases List.mem_append.1 q with q | q
    · obtain ⟨x, hx, rfl⟩ := List.mem_map.1 q; exact ix8 (hhw x hx)
    rw [List.mem_singleton.1 q]; exact sB.2.2.2.2.2.1
  have hrd : rdF 0 (splitB 10 (wrT cs hs)) [] [] = (some (cs.map (cpT (cnT cs)), hs.map fun x => hqT (cnT cs) (hnT hs) x.p), 0) := by
    have := rd_tr (cs := cs.map fun c => (joinB 32 (cwT (cnT cs) c), cpT (cnT cs) c)) (hs := hs.map fun x => (joinB 32 (hwT (cnT cs) (hnT hs) x.p), hqT (cnT cs) (hnT hs) x.p))
      (fun q hq => by obtain ⟨c, hc, rfl⟩ := List.mem_map.1 hq; exact hpc c hc) (fun q hq => by obtain ⟨x, hx, rfl⟩ := List.mem_map.1 hq; exact hph x hx)
    simp only [List.map_map] at this; rw [hsp]; unfold trL; rw [List.append_assoc, List.append_assoc]; exact this
  have hC : ∀ x ∈ cs.map (cpT (cnT cs)), x.1 ≠ [] := fun x hx => by
    obtain ⟨c, hc, rfl⟩ := List.mem_map.1 hx; exact (R3 (mJ ho hc).1).2.1
  have hH : ∀ x ∈ hs.map fun x => hqT (cnT cs) (hnT hs) x.p, x.1 ≠ [] := fun x hx => by
    obtain ⟨c, hc, rfl⟩ := List.mem_map.1 hx; exact (R3 (ax3 ho hc).1.w).2.1
  have hfc : ∀ z : Int, -1 ≤ z → z < (cs.length : Int) → findP (cs.map (cpT (cnT cs))) (if 0 ≤ z then cnT cs z else []) = z := fun z h0 h1 => by
    by_cases q : 0 ≤ z
    · rw [if_pos q]; exact cn_find ho q h1
    rw [if_neg q, sA hC]; omega
  have hfh : ∀ z : Int, -1 ≤ z → z < (hs.length : Int) → findP (hs.map fun x => hqT (cnT cs) (hnT hs) x.p) (if 0 ≤ z then hnT hs z else []) = z := fun z h0 h1 => by
    by_cases q : 0 ≤ z
    · rw [if_pos q]; exact cx6 ho q h1
    rw [if_neg q, sA hH]; omega
  have hne : ∀ z : Int, ∀ f : Int → Str, ¬ (if 0 ≤ z then f z else ([] : Str)) = [] → 0 ≤ z := fun z f q => by
    by_cases h0 : 0 ≤ z
    · exact h0
    rw [if_neg h0] at q; exact absurd rfl q
  have hb1 : trbC (cs.map (cpT (cnT cs))) (cs.map (cpT (cnT cs))) 0 [] = (some cs, 0) := by
    rw [trb_c _ fun x hx => ?_]
    · rw [List.nil_append, List.map_map]
      congr 2
      refine (List.map_congr_left fun c hc => ?_).trans (List.map_id _); have q := mJ ho hc; exact Prod.ext rfl (hfc c.2 q.2.1 q.2.2.1)
    obtain ⟨c, hc, rfl⟩ := List.mem_map.1 hx; have q := mJ ho hc; rintro ⟨h1, h2⟩; have h0 := hne c.2 (cnT cs) h1; rw [show findP (cs.map (cpT (cnT cs))) (cpT (cnT cs) c).2.1 = c.2 from hfc c.2 q.2.1 q.2.2.1] at h2
    omega
  have hb2 : trbH (cs.map (cpT (cnT cs))) (hs.map fun x => hqT (cnT cs) (hnT hs) x.p) (hs.map fun x => hqT (cnT cs) (hnT hs) x.p) 0 [] = (some (hs.map Hd.p), 0) := by
    rw [trb_h _ fun x hx => ?_]
    · rw [List.nil_append, List.map_map]
      congr 2
      refine List.map_congr_left fun x hx => ?_; obtain ⟨q, q1, q2, q3, q4, q5⟩ := ax3 ho hx
      have e : (x.2.2.2.l.map (hnT hs)).map (findP (hs.map fun x => hqT (cnT cs) (hnT hs) x.p)) = x.2.2.2.l := by
        rw [List.map_map]; exact (List.map_congr_left fun a ha => cx6 ho (q5 a ha).1 (q5 a ha).2).trans (List.map_id _)
      show (x.1, findP _ (if 0 ≤ x.2.1 then cnT cs x.2.1 else []), findP _ (if 0 ≤ x.2.2.1 then hnT hs x.2.2.1 else []), (x.2.2.2.l.map (hnT hs)).map _) = x.p; rw [hfc _ q1 q3, hfh _ q2 q4, e]
      rfl
    obtain ⟨y, hy, rfl⟩ := List.mem_map.1 hx; obtain ⟨q, q1, q2, q3, q4, q5⟩ := ax3 ho hy; refine ⟨?_, fun a ha => ?_⟩
    · rintro (⟨h1, h2⟩ | ⟨h1, h2⟩)
      · have h0 := hne y.2.1 (cnT cs) h1
        rw [show findP (cs.map (cpT (cnT cs))) (hqT (cnT cs) (hnT hs) y.p).2.1 = y.2.1 from hfc _ q1 q3] at h2
        omega
      have h0 := hne y.2.2.1 (hnT hs) h1; rw [show findP (hs.map fun x => hqT (cnT cs) (hnT hs) x.p) (hqT (cnT cs) (hnT hs) y.p).2.2.1 = y.2.2.1 from hfh _ q2 q4] at h2
      omega
    obtain ⟨z, hz, rfl⟩ := List.mem_map.1 ha; rw [cx6 ho (q5 z hz).1 (q5 z hz).2]; have := (q5 z hz).1
    omega
  have hP : prT (wrT cs hs) = ((cs, hs.map Hd.p), none) := by
    refine kx6 hrd (r := 0) ?_; unfold trbT; rw [hb1]
    simp only
    rw [hb2]
  rw [zU (by omega), hP]
  simp only
  rw [if_pos h]
end
end Go.Proofs.YtdgmfagfpbdbhaaGreatDoor
end
