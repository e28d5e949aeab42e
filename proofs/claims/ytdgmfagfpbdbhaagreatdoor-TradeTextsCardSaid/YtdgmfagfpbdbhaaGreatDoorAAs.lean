/- Texts. -/

import Derived.Test.YtdgmfagfpbdbhaaGreatDoorAAr
set_option linter.unusedVariables false
set_option linter.unusedSimpArgs false
section
namespace Go.Proofs.YtdgmfagfpbdbhaaGreatDoor
open Go Go.W Tryz T F
set_option maxRecDepth 20000
attribute [local irreducible] HL HC HQ HB Row Rows2 Blk Facts
def accF (a : Str) (cs : List Cl) (hs : List Hd) : List Hd → Str
  | [] => a
  | h :: l => accF a cs hs l ++ heaF cs hs h
theorem lx0 {cs : List Cl} {hs : List Hd} (ho : TrOK (trOf cs hs)) (a : Str) : ∀ l : List Hd, (∀ h ∈ l, h ∈ hs) → accF a cs hs l = accH a cs hs l
  | [], _ => rfl
  | h :: l, hm => by
    obtain ⟨k, hk, e⟩ := mem_at' (hm h List.mem_cons_self); rw [accF, accH, lx0 ho a l fun x hx => hm x (List.mem_cons_of_mem _ hx), ← e, hea_f ho hk]
set_option maxHeartbeats 1000000 in
theorem yT {A B : Option Addr} {ca cb : Nat} (cs : List Cl) (hs : List Hd) (hhl : hs.length ≤ 1000) (hcl : cs.length ≤ 1000) (hwc : ∀ x ∈ cs, x.1.length ≤ 1000) (hwh : ∀ h ∈ hs, h.1.length ≤ 1000) (ha : ∀ h ∈ hs, h.2.2.2.l.length ≤ 1000000) : Meets prog lZ [.agg #[.slice A cs.length ca, .slice B hs.length cb]] { LI := [Row A (rows cs), RowsF B hs Hd.row], val := fun _ : Unit => .tuple #[str (if checkT (trOf cs hs) = 0 then wrT cs hs else []), int (checkT (trOf cs hs))] } := by
 refine j3 bj7 rfl v8 fun w0 => i4 (O3 rfl rfl fun gB => ?_); refine c5 rfl (c5 rfl (c8 (Y7 (C3 (c9 ?_))))); refine I3 rfl i6 c7 rfl mB (by rfl) (j4 nN rfl rfl (nD (A := A) (B := B) (ca := ca) (cb := cb) cs hs hhl hcl hwc hwh ha) t4 mC fun _ _ => ?_); refine c5 rfl (t6 (b6 rfl (M8 rfl rfl rfl (c8 ?_)))); refine k9 rfl (fun hb1 => ?_) (fun hb1 => ?_)
 ·have hb1' := hb1; try simp at hb1'
  rw [if_neg hb1]; refine i4 (b6 rfl (c5 rfl (c5 rfl (c8 (E9 ?_))))); exact ret2 () rfl rfl rfl rfl rfl tK nK tK
 have hb1' := hb1; try simp at hb1'
 have h0 : checkT (trOf cs hs) = 0 := Classical.not_not.1 hb1; rw [if_pos h0]; have ho := mW h0; have hok := wr_ok ho; have h6 := hok.c6; have h6h := hok.h6; refine i8 (i1 (i4 (c5 rfl (c8 (d6 (i4 (c5 rfl (b5 ?_)))))))); refine i1 (j5 ?_); refine u6 (β := Nat) ⟨fun k => k ≤ cs.length, fun k => [(1, .pointer (d9 gB)), (6, int k), (5, str (accC cs (cs.take k).reverse))], fun _ => [], fun _ => [Blk gB (.cells #[.slice A cs.length ca, .slice B hs.length cb] p8 (0, 0)), Row A (rows cs), RowsF B hs Hd.row]⟩ (fun k => cs.length - k) 0 (Nat.zero_le _) mC nK mC fun k hk => ?_; simp only at hk; refine d6 (i4 (b6 rfl ?_)); refine a6 ⟨_, 0, none⟩ rfl rfl i9 rfl (a7 rfl b3 rfl (d8 mB rfl) (k6 rfl n6 rfl ?_)); refine B5 rfl rfl rfl (c8 ?_); refine k9 rfl (fun hb2 => ?_) (fun hb2 => ?_)
 ·have hb2' := hb2; try simp at hb2'
  have hk2 : k < cs.length := by omega
  have hcn := hok.cn k hk2; have hln := uP ho (cs.take k).reverse (fun c hc => List.mem_of_mem_take (List.mem_reverse.1 hc)); rw [List.length_reverse, List.length_take] at hln; have hct := ij3 ho (cs.getD k default).2 inS; have e1 : claS.length = 6 := rfl; have e2 : inS.length = 4 := rfl; have e3 : nlS.length = 1 := rfl; have e4 : seS.length = 5 := rfl; have e5 : isS.length = 4 := rfl; have e6 : alS.length = 5 := rfl; have e7 : spS.length = 1 := rfl; have e8 : fiS.length = 6 := rfl; refine i8 (i1 (d6 (j5 (i4 (b6 rfl ?_)))))
  first | refine P8 (y' := claS) rfl rfl w7 dH ?_
  first | refine a6 ⟨_, 0, none⟩ rfl rfl i9 rfl ?_ | refine a6 _ rfl rfl i9 rfl ?_
  first | refine a7 rfl b3 rfl (i2 mB rfl) ?_ | refine a7 rfl b3 rfl (d8 mB rfl) ?_ | refine a7 rfl b3 rfl (b7 mB (b4 (by omega) rfl)) ?_ | refine a7 rfl b3 rfl (b8 mB (rows_get (by omega) rfl)) ?_ | refine a7 rfl b3 rfl (d7 mB rfl) ?_
  refine b6 rfl (m7 (α := Cl) cs k rfl n6 u7 rfl rfl rfl mB rfl hk2 (by decide) ?_)
  first | refine a6 ⟨_, 0, none⟩ rfl rfl t9 rfl ?_ | refine a6 _ rfl rfl t9 rfl ?_
  refine a7 (v := str (cs.getD k default).1) rfl a9 rfl (b7 mB (b4 hk2 rfl)) (P8 rfl rfl rfl dH ?_); refine c5 rfl (c8 ?_); refine I0 ⟨fun _ : Unit => True, fun _ => [(1, .pointer (d9 gB)), (6, int k), (5, str (((accC cs (cs.take k).reverse) ++ claS ++ (cs.getD k default).1) ++ clsT cs (cs.getD k default).2 inS))], fun _ => [], fun _ => [Blk gB (.cells #[.slice A cs.length ca, .slice B hs.length cb] p8 (0, 0)), Row A (rows cs), RowsF B hs Hd.row]⟩ ?_ ?_
  ·skip
   refine i4 ?_
   first | refine a6 ⟨_, 0, none⟩ rfl rfl i9 rfl ?_ | refine a6 _ rfl rfl i9 rfl ?_
   first | refine a7 rfl b3 rfl (i2 mB rfl) ?_ | refine a7 rfl b3 rfl (d8 mB rfl) ?_ | refine a7 rfl b3 rfl (b7 mB (b4 (by omega) rfl)) ?_ | refine a7 rfl b3 rfl (b8 mB (rows_get (by omega) rfl)) ?_ | refine a7 rfl b3 rfl (d7 mB rfl) ?_
   refine b6 rfl (m7 (α := Cl) cs k rfl n6 u7 rfl rfl rfl mB rfl hk2 (by decide) ?_)
   first | refine a6 ⟨_, 1, none⟩ rfl rfl y5 rfl ?_ | refine a6 _ rfl rfl y5 rfl ?_
   refine a7 (v := int (cs.getD k default).2) rfl a8 rfl (b8 mB (rows_get hk2 rfl)) ?_; refine c5 rfl (t6 (b6 rfl (Z4 rfl rfl rfl (c8 ?_))))
   first | refine k9 rfl (fun hb3 => ?_) (fun hb3 => ?_) | refine j0 rfl (fun hb3 => ?_) (fun hb3 => ?_)
   ·have hb3' := hb3; try simp at hb3'
    obtain ⟨m2, hm2⟩ := Int.eq_ofNat_of_zero_le hb3; have hm22 : m2 < cs.length := by omega
    have hm2n : ((cs.getD k default).2).toNat = m2 := by omega
    have hpn := hok.cn m2 hm22; refine c9 (b6 rfl ?_)
    first | refine P8 (y' := inS) rfl rfl w7 dH ?_
    first | refine a6 ⟨_, 0, none⟩ rfl rfl i9 rfl ?_ | refine a6 _ rfl rfl i9 rfl ?_
    first | refine a7 rfl b3 rfl (i2 mB rfl) ?_ | refine a7 rfl b3 rfl (d8 mB rfl) ?_ | refine a7 rfl b3 rfl (b7 mB (b4 (by omega) rfl)) ?_ | refine a7 rfl b3 rfl (b8 mB (rows_get (by omega) rfl)) ?_ | refine a7 rfl b3 rfl (d7 mB rfl) ?_
    refine b6 rfl (m7 (α := Cl) cs m2 rfl n6 u7 rfl rfl hm2 mB rfl hm22 (by decide) ?_)
    first | refine a6 ⟨_, 0, none⟩ rfl rfl t9 rfl ?_ | refine a6 _ rfl rfl t9 rfl ?_
    refine a7 (v := str (cs.getD m2 default).1) rfl a9 rfl (b7 mB (b4 hm22 rfl)) (P8 rfl rfl rfl dH ?_); refine c5 rfl (b5 ?_); exact D5 _ () tK ⟨rfl, rfl, congrArg (fun b => some (str b)) (by rw [clsT, if_pos hb3, hm2n]; simp only [List.append_assoc]), tK⟩ nK mC
   have hb3' := hb3; try simp at hb3'
   refine i8 ?_; exact D5 _ () tK ⟨rfl, rfl, congrArg (fun b => some (str b)) (by rw [clsT, if_neg (by omega), List.append_nil]), tK⟩ nK mC
  refine fun _ _ => ?_; refine c9 (b6 rfl ?_)
  first | refine P8 (y' := nlS) rfl rfl w7 dH ?_
  refine c5 rfl (b5 (w6 (i1 (c9 (b6 rfl ?_))))); refine t5 _ rfl rfl rfl rfl q6 ?_; refine c5 rfl (b5 ?_); exact again _ (k + 1) (by show k + 1 ≤ cs.length; omega) (y8 (by omega)) ⟨rfl, rfl, congrArg (fun b => some (str b)) (by rw [pX hk2, accC]; simp only [List.append_assoc]), tK⟩ nK mC
 have hb2' := hb2; try simp at hb2'
 obtain rfl : k = cs.length := by omega
 refine t7 (C7 (t8 (i1 (d6 (i4 (c5 rfl (c8 (j5 ?_)))))))); refine S7 (ps := hs) (A := B) (f := Hd.row) mB ?_; refine u6 (β := Nat) ⟨fun k => k ≤ hs.length, fun k => [(1, .pointer (d9 gB)), (8, int k), (5, str (accF (accC cs (cs.take cs.length).reverse) cs hs (hs.take k).reverse))], fun _ => [], fun _ => [Row B (rows hs), Blk gB (.cells #[.slice A cs.length ca, .slice B hs.length cb] p8 (0, 0)), Row A (rows cs), RowsF B hs Hd.row]⟩ (fun k => hs.length - k) 0 (Nat.zero_le _) mC nK mC fun k hk => ?_; simp only at hk; refine d6 (i4 (b6 rfl ?_))
 first | refine a6 ⟨_, 1, none⟩ rfl rfl i3 rfl ?_ | refine a6 _ rfl rfl i3 rfl ?_
 first | refine a7 rfl b2 rfl (i2 mB rfl) ?_ | refine a7 rfl b2 rfl (d8 mB rfl) ?_ | refine a7 rfl b2 rfl (b7 mB (b4 (by omega) rfl)) ?_ | refine a7 rfl b2 rfl (b8 mB (rows_get (by omega) rfl)) ?_ | refine a7 rfl b2 rfl (d7 mB rfl) ?_
 refine k6 rfl n4 rfl ?_; refine B5 rfl rfl rfl (c8 ?_)
 first | refine k9 rfl (fun hb4 => ?_) (fun hb4 => ?_) | refine j0 rfl (fun hb4 => ?_) (fun hb4 => ?_)
 ·have hb4' := hb4; try simp at hb4'
  have hk3 : k < hs.length := by omega
  have hcn := hok.hn k hk3; have hal6 := kx3 ho hk3; have hmk : ∀ h ∈ (hs.take k).reverse, h ∈ hs := fun c hc => List.mem_of_mem_take (List.mem_reverse.1 hc); have hlf := aj7 ho (accC cs (cs.take cs.length).reverse) (hs.take k).reverse hmk; rw [← lx0 ho _ _ hmk, List.length_reverse, List.length_take] at hlf; have hlc := uP ho (cs.take cs.length).reverse (fun c hc => List.mem_of_mem_take (List.mem_reverse.1 hc)); rw [List.length_reverse, List.length_take] at hlc; have hct := ij3 ho (hs.getD k default).2.1 isS; have hst := pj9 ho (hs.getD k default).2.2.1 seS; have e1 : claS.length = 6 := rfl; have e2 : inS.length = 4 := rfl; have e3 : nlS.length = 1 := rfl; have e4 : seS.length = 5 := rfl; have e5 : isS.length = 4 := rfl; have e6 : alS.length = 5 := rfl; have e7 : spS.length = 1 := rfl; have e8 : fiS.length = 6 := rfl; refine i8 (i1 (d6 (j5 (i4 ?_))))
  first | refine a6 ⟨_, 1, none⟩ rfl rfl i3 rfl ?_ | refine a6 _ rfl rfl i3 rfl ?_
  first | refine a7 rfl b2 rfl (i2 mB rfl) ?_ | refine a7 rfl b2 rfl (d8 mB rfl) ?_ | refine a7 rfl b2 rfl (b7 mB (b4 (by omega) rfl)) ?_ | refine a7 rfl b2 rfl (b8 mB (rows_get (by omega) rfl)) ?_ | refine a7 rfl b2 rfl (d7 mB rfl) ?_
  refine b6 rfl (m7 (α := Hd) hs k rfl n4 l7 rfl rfl rfl mB rfl hk3 (by decide) (z8 rfl C1 l7 rfl rfl (v9 mB (B3 (by omega))) (u4 rfl (fun _ => G9 _) fun gA => l6 rfl rfl X2 l7 (by rfl) (by rfl) ?_))); refine c8 (d6 ?_); refine Q1 (rows [(hs.getD k default)]) ⟨[], List.append_nil _⟩ ?_; refine c9 (b6 rfl ?_)
  first | refine a6 ⟨_, 0, none⟩ rfl rfl l9 rfl ?_ | refine a6 _ rfl rfl l9 rfl ?_
  first | refine a7 rfl a9 rfl (i2 mB rfl) ?_ | refine a7 rfl a9 rfl (d8 mB rfl) ?_ | refine a7 rfl a9 rfl (b7 mB (b4 (by omega) rfl)) ?_ | refine a7 rfl a9 rfl (b8 mB (rows_get (by omega) rfl)) ?_ | refine a7 rfl a9 rfl (d7 mB rfl) ?_
  refine P8 rfl rfl rfl dH ?_; refine c5 rfl (c8 ?_); refine I0 ⟨fun _ : Unit => True, fun _ => [(1, .pointer (d9 gB)), (8, int k), (9, .pointer (d9 gA)), (5, str (((accF (accC cs (cs.take cs.length).reverse) cs hs (hs.take k).reverse) ++ (hs.getD k default).1) ++ clsT cs (hs.getD k default).2.1 isS))], fun _ => [], fun _ => [Row B (rows hs), Blk gB (.cells #[.slice A cs.length ca, .slice B hs.length cb] p8 (0, 0)), Row A (rows cs), RowsF B hs Hd.row, Row (d9 gA) (rows [(hs.getD k default)])]⟩ ?_ ?_
  ·skip
   refine i4 ?_
   first | refine a6 ⟨_, 1, none⟩ rfl rfl p7 rfl ?_ | refine a6 _ rfl rfl p7 rfl ?_
   first | refine a7 rfl a8 rfl (i2 mB rfl) ?_ | refine a7 rfl a8 rfl (d8 mB rfl) ?_ | refine a7 rfl a8 rfl (b7 mB (b4 (by omega) rfl)) ?_ | refine a7 rfl a8 rfl (b8 mB (rows_get (by omega) rfl)) ?_ | refine a7 rfl a8 rfl (d7 mB rfl) ?_
   refine Z4 rfl rfl rfl (c8 ?_)
   first | refine k9 rfl (fun hb5 => ?_) (fun hb5 => ?_) | refine j0 rfl (fun hb5 => ?_) (fun hb5 => ?_)
   ·have hb5' := hb5; try simp at hb5'
    obtain ⟨m5, hm5⟩ := Int.eq_ofNat_of_zero_le hb5; have hm52 : m5 < cs.length := by omega
    have hm5n : ((hs.getD k default).2.1).toNat = m5 := by omega
    have hpn := hok.cn m5 hm52; refine c9 (b6 rfl ?_)
    first | refine P8 (y' := isS) rfl rfl w7 dH ?_
    first | refine a6 ⟨_, 0, none⟩ rfl rfl i9 rfl ?_ | refine a6 _ rfl rfl i9 rfl ?_
    first | refine a7 rfl b3 rfl (i2 mB rfl) ?_ | refine a7 rfl b3 rfl (d8 mB rfl) ?_ | refine a7 rfl b3 rfl (b7 mB (b4 (by omega) rfl)) ?_ | refine a7 rfl b3 rfl (b8 mB (rows_get (by omega) rfl)) ?_ | refine a7 rfl b3 rfl (d7 mB rfl) ?_
    first | refine a6 ⟨_, 1, none⟩ rfl rfl p7 rfl ?_ | refine a6 _ rfl rfl p7 rfl ?_
    first | refine a7 rfl a8 rfl (i2 mB rfl) ?_ | refine a7 rfl a8 rfl (d8 mB rfl) ?_ | refine a7 rfl a8 rfl (b7 mB (b4 (by omega) rfl)) ?_ | refine a7 rfl a8 rfl (b8 mB (rows_get (by omega) rfl)) ?_ | refine a7 rfl a8 rfl (d7 mB rfl) ?_
    refine m7 (α := Cl) cs m5 rfl n6 u7 rfl rfl hm5 mB rfl hm52 (by decide) ?_
    first | refine a6 ⟨_, 0, none⟩ rfl rfl t9 rfl ?_ | refine a6 _ rfl rfl t9 rfl ?_
    refine a7 (v := str (cs.getD m5 default).1) rfl a9 rfl (b7 mB (b4 hm52 rfl)) (P8 rfl rfl rfl dH ?_); refine c5 rfl (b5 ?_); exact D5 _ () tK ⟨rfl, rfl, rfl, congrArg (fun b => some (str b)) (by rw [clsT, if_pos hb5, hm5n]; simp only [List.append_assoc]), tK⟩ nK mC
   have hb5' := hb5; try simp at hb5'
   refine i8 ?_; exact D5 _ () tK ⟨rfl, rfl, rfl, congrArg (fun b => some (str b)) (by rw [clsT, if_neg (by omega), List.append_nil]), tK⟩ nK mC
  refine fun _ _ => ?_; refine I0 ⟨fun _ : Unit => True, fun _ => [(1, .pointer (d9 gB)), (8, int k), (9, .pointer (d9 gA)), (5, str ((((accF (accC cs (cs.take cs.length).reverse) cs hs (hs.take k).reverse) ++ (hs.getD k default).1) ++ clsT cs (hs.getD k default).2.1 isS) ++ heaT hs (hs.getD k default).2.2.1 seS))], fun _ => [], fun _ => [Row B (rows hs), Blk gB (.cells #[.slice A cs.length ca, .slice B hs.length cb] p8 (0, 0)), Row A (rows cs), RowsF B hs Hd.row, Row (d9 gA) (rows [(hs.getD k default)])]⟩ ?_ ?_
  ·skip
   refine i4 ?_
   first | refine a6 ⟨_, 2, none⟩ rfl rfl p6 rfl ?_ | refine a6 _ rfl rfl p6 rfl ?_
   first | refine a7 rfl a8 rfl (i2 mB rfl) ?_ | refine a7 rfl a8 rfl (d8 mB rfl) ?_ | refine a7 rfl a8 rfl (b7 mB (b4 (by omega) rfl)) ?_ | refine a7 rfl a8 rfl (b8 mB (rows_get (by omega) rfl)) ?_ | refine a7 rfl a8 rfl (d7 mB rfl) ?_
   refine Z4 rfl rfl rfl (c8 ?_)
   first | refine k9 rfl (fun hb6 => ?_) (fun hb6 => ?_) | refine j0 rfl (fun hb6 => ?_) (fun hb6 => ?_)
   ·have hb6' := hb6; try simp at hb6'
    obtain ⟨m6, hm6⟩ := Int.eq_ofNat_of_zero_le hb6; have hm62 : m6 < hs.length := by omega
    have hm6n : ((hs.getD k default).2.2.1).toNat = m6 := by omega
    have hpn := hok.hn m6 hm62; refine c9 (b6 rfl ?_)
    first | refine P8 (y' := seS) rfl rfl w7 dH ?_
    first | refine a6 ⟨_, 1, none⟩ rfl rfl i3 rfl ?_ | refine a6 _ rfl rfl i3 rfl ?_
    first | refine a7 rfl b2 rfl (i2 mB rfl) ?_ | refine a7 rfl b2 rfl (d8 mB rfl) ?_ | refine a7 rfl b2 rfl (b7 mB (b4 (by omega) rfl)) ?_ | refine a7 rfl b2 rfl (b8 mB (rows_get (by omega) rfl)) ?_ | refine a7 rfl b2 rfl (d7 mB rfl) ?_
    first | refine a6 ⟨_, 2, none⟩ rfl rfl p6 rfl ?_ | refine a6 _ rfl rfl p6 rfl ?_
    first | refine a7 rfl a8 rfl (i2 mB rfl) ?_ | refine a7 rfl a8 rfl (d8 mB rfl) ?_ | refine a7 rfl a8 rfl (b7 mB (b4 (by omega) rfl)) ?_ | refine a7 rfl a8 rfl (b8 mB (rows_get (by omega) rfl)) ?_ | refine a7 rfl a8 rfl (d7 mB rfl) ?_
    refine m7 (α := Hd) hs m6 rfl n4 l7 rfl rfl hm6 mB rfl hm62 (by decide) ?_
    first | refine a6 ⟨_, 0, none⟩ rfl rfl l9 rfl ?_ | refine a6 _ rfl rfl l9 rfl ?_
    refine a7 (v := str (hs.getD m6 default).1) rfl a9 rfl (b7 mB (b4 hm62 rfl)) (P8 rfl rfl rfl dH ?_); refine c5 rfl (b5 ?_); exact D5 _ () tK ⟨rfl, rfl, rfl, congrArg (fun b => some (str b)) (by rw [heaT, if_pos hb6, hm6n]; simp only [List.append_assoc]), tK⟩ nK mC
   have hb6' := hb6; try simp at hb6'
   refine i8 ?_; exact D5 _ () tK ⟨rfl, rfl, rfl, congrArg (fun b => some (str b)) (by rw [heaT, if_neg (by omega), List.append_nil]), tK⟩ nK mC
  refine fun _ _ => ?_; refine d6 (i4 (c5 rfl (c8 (j5 ?_)))); refine iO (p := (hs.getD k default)) (f := Hd.row) (ps := hs) mB (w8 hk3) ?_; refine u6 (β := Nat) ⟨fun j => j ≤ (hs.getD k default).2.2.2.l.length, fun j => [(1, .pointer (d9 gB)), (8, int k), (9, .pointer (d9 gA)), (10, int j), (5, str (((((accF (accC cs (cs.take cs.length).reverse) cs hs (hs.take k).reverse) ++ (hs.getD k default).1) ++ clsT cs (hs.getD k default).2.1 isS) ++ heaT hs (hs.getD k default).2.2.1 seS) ++ (accA hs ((hs.getD k default).2.2.2.l.take j).reverse)))], fun _ => [], fun _ => [Row B (rows hs), Blk gB (.cells #[.slice A cs.length ca, .slice B hs.length cb] p8 (0, 0)), Row A (rows cs), RowsF B hs Hd.row, Row (d9 gA) (rows [(hs.getD k default)]), (hs.getD k default).row]⟩ (fun j => (hs.getD k default).2.2.2.l.length - j) 0 (Nat.zero_le _) ⟨rfl, rfl, rfl, rfl, congrArg (fun b => some (str b)) (List.append_nil _).symm, tK⟩ nK mC fun j hj => ?_; simp only at hj; have haa := dx7 ho ((hs.getD k default).2.2.2.l.take j).reverse; have hab : (if ((hs.getD k default).2.2.2.l.take j).reverse = [] then 0 else 5) ≤ 5 := by split <;> omega
  rw [List.length_reverse, List.length_take] at haa; refine d6 (i4 (b6 rfl ?_))
  first | refine a6 ⟨_, 3, none⟩ rfl rfl l5 rfl ?_ | refine a6 _ rfl rfl l5 rfl ?_
  refine a7 (v := .slice (hs.getD k default).2.2.2.a (hs.getD k default).2.2.2.l.length (hs.getD k default).2.2.2.c) rfl k4 rfl (d7 mB rfl) (k6 rfl A8 rfl ?_); refine B5 rfl rfl rfl (c8 ?_)
  first | refine k9 rfl (fun hb7 => ?_) (fun hb7 => ?_) | refine j0 rfl (fun hb7 => ?_) (fun hb7 => ?_)
  ·have hb7' := hb7; try simp at hb7'
   have hj2 : j < (hs.getD k default).2.2.2.l.length := by omega
   have hxm := hal6.2 _ (w8 hj2); obtain ⟨m8, hm8⟩ := Int.eq_ofNat_of_zero_le hxm.1; have hm82 : m8 < hs.length := by omega
   have hm8n : (((hs.getD k default).2.2.2.l.getD j default)).toNat = m8 := by omega
   have hpn8 := hok.hn m8 hm82; have hrl : (((hs.getD k default).2.2.2.l.take j).reverse).length = j := by rw [List.length_reverse, List.length_take]; omega
   have hat : (if (((hs.getD k default).2.2.2.l.take j).reverse).length = 0 then alS else []).length ≤ 5 := by split; exact Nat.le_of_eq e6; exact Nat.zero_le _
   refine i8 (i1 (d6 (j5 ?_))); refine I0 ⟨fun _ : Unit => True, fun _ => [(1, .pointer (d9 gB)), (8, int k), (9, .pointer (d9 gA)), (10, int j), (5, str ((((((accF (accC cs (cs.take cs.length).reverse) cs hs (hs.take k).reverse) ++ (hs.getD k default).1) ++ clsT cs (hs.getD k default).2.1 isS) ++ heaT hs (hs.getD k default).2.2.1 seS) ++ (accA hs ((hs.getD k default).2.2.2.l.take j).reverse)) ++ (if (((hs.getD k default).2.2.2.l.take j).reverse).length = 0 then alS else [])))], fun _ => [], fun _ => [Row B (rows hs), Blk gB (.cells #[.slice A cs.length ca, .slice B hs.length cb] p8 (0, 0)), Row A (rows cs), RowsF B hs Hd.row, Row (d9 gA) (rows [(hs.getD k default)]), (hs.getD k default).row]⟩ ?_ ?_
   ·skip
    refine i4 (b6 rfl (J0 rfl rfl rfl (c8 ?_)))
    first | refine k9 rfl (fun hb8 => ?_) (fun hb8 => ?_) | refine j0 rfl (fun hb8 => ?_) (fun hb8 => ?_)
    ·have hb8' := hb8; try simp at hb8'
     refine c9 (b6 rfl ?_)
     first | refine P8 (y' := alS) rfl rfl w7 dH ?_
     refine c5 rfl (b5 ?_); exact D5 _ () tK ⟨rfl, rfl, rfl, rfl, congrArg (fun b => some (str b)) (by rw [if_pos (by omega)]), tK⟩ nK mC
    have hb8' := hb8; try simp at hb8'
    refine i8 ?_; exact D5 _ () tK ⟨rfl, rfl, rfl, rfl, congrArg (fun b => some (str b)) (by rw [if_neg (by omega), List.append_nil]), tK⟩ nK mC
   refine fun _ _ => ?_; refine C0 12 mixed (by decide) (by decide) rfl rfl (r7 rfl ?_)
   apply k7 _ rfl rfl rfl
   ·intro w1
    first | refine P8 (y' := spS) rfl rfl w7 dH ?_
    refine b5 ?_; exact i5 rfl
   apply k7 _ rfl rfl rfl
   ·intro w1
    first | refine a6 ⟨_, 1, none⟩ rfl rfl i3 rfl ?_ | refine a6 _ rfl rfl i3 rfl ?_
    refine b5 ?_; exact i5 rfl
   apply k7 _ rfl rfl rfl
   ·intro w1
    first | refine a7 rfl b2 rfl (d8 mB rfl) ?_ | refine a7 rfl b2 rfl (i2 mB rfl) ?_ | refine a7 rfl b2 rfl (b7 mB (b4 (by omega) rfl)) ?_ | refine a7 rfl b2 rfl (b8 mB (rows_get (by omega) rfl)) ?_ | refine a7 rfl b2 rfl (d7 mB rfl) ?_
    refine b5 ?_; exact i5 rfl
   apply k7 _ rfl rfl rfl
   ·intro w1
    first | refine a6 ⟨_, 3, none⟩ rfl rfl l5 rfl ?_ | refine a6 _ rfl rfl l5 rfl ?_
    refine b5 ?_; exact i5 rfl
   refine k8 (fun w1 => a7 (v := .slice (hs.getD k default).2.2.2.a (hs.getD k default).2.2.2.l.length (hs.getD k default).2.2.2.c) rfl k4 rfl (d7 mB rfl) (q_z rfl)) (r7 rfl (k8 (fun w1 => m7 (α := Int) (hs.getD k default).2.2.2.l j rfl A8 E1 rfl rfl rfl mB rfl hj2 (by decide) (q_z rfl)) (k8 (fun w1 => a7 (v := int ((hs.getD k default).2.2.2.l.getD j default)) rfl a8 rfl (b7 mB (b4 hj2 rfl)) (q_z rfl)) (k8 (fun w1 => m7 (α := Hd) hs m8 rfl n4 l7 rfl rfl hm8 mB rfl hm82 (by decide) (q_z rfl)) ?_))))
   apply k7 _ rfl rfl rfl
   ·intro w1
    first | refine a6 ⟨_, 0, none⟩ rfl rfl l9 rfl ?_ | refine a6 _ rfl rfl l9 rfl ?_
    refine b5 ?_; exact i5 rfl
   refine k8 (fun w1 => a7 (v := str (hs.getD m8 default).1) rfl a9 rfl (b7 mB (b4 hm82 rfl)) (q_z rfl)) ?_; refine v7 ⟨rfl, ?_⟩; refine P8 rfl rfl rfl dH ?_; refine c5 rfl (b5 (w6 (i1 (c9 (b6 rfl ?_))))); refine t5 _ rfl rfl rfl rfl q6 ?_; refine c5 rfl (b5 ?_); exact again _ (j + 1) (by show j + 1 ≤ (hs.getD k default).2.2.2.l.length; omega) (y8 (by omega)) ⟨rfl, rfl, rfl, rfl, congrArg (fun b => some (str b)) (by rw [pX hj2, accA, hm8n]; simp only [List.append_assoc]), tK⟩ nK mC
  have hb7' := hb7; try simp at hb7'
  obtain rfl : j = (hs.getD k default).2.2.2.l.length := by omega
  refine t7 (C7 (t8 (i1 (c9 (b6 rfl ?_)))))
  first | refine P8 (y' := nlS) rfl rfl w7 dH ?_
  refine c5 rfl (b5 (w6 (i1 (c9 (b6 rfl ?_))))); refine t5 _ rfl rfl rfl rfl q6 ?_; refine c5 rfl (b5 ?_); have htl : (hs.getD k default).2.2.2.l.take (hs.getD k default).2.2.2.l.length = (hs.getD k default).2.2.2.l := List.take_length; exact again _ (k + 1) (by show k + 1 ≤ hs.length; omega) (y8 (by omega)) ⟨rfl, rfl, congrArg (fun b => some (str b)) (by rw [pX hk3, accF, heaF, htl]; simp only [List.append_assoc]), tK⟩ nK mC
 have hb4' := hb4; try simp at hb4'
 obtain rfl : k = hs.length := by omega
 have hmk : ∀ h ∈ (hs.take hs.length).reverse, h ∈ hs := fun c hc => List.mem_of_mem_take (List.mem_reverse.1 hc); have hlf := aj7 ho (accC cs (cs.take cs.length).reverse) (hs.take hs.length).reverse hmk; rw [← lx0 ho _ _ hmk, List.length_reverse, List.length_take] at hlf; have hlc := uP ho (cs.take cs.length).reverse (fun c hc => List.mem_of_mem_take (List.mem_reverse.1 hc)); rw [List.length_reverse, List.length_take] at hlc; have e1 : claS.length = 6 := rfl; have e2 : inS.length = 4 := rfl; have e3 : nlS.length = 1 := rfl; have e4 : seS.length = 5 := rfl; have e5 : isS.length = 4 := rfl; have e6 : alS.length = 5 := rfl; have e7 : spS.length = 1 := rfl; have e8 : fiS.length = 6 := rfl; refine t7 (C7 (t8 (i1 (i4 (b6 rfl ?_)))))
 first | refine P8 (y' := fiS) rfl rfl w7 dH ?_
 refine c5 rfl (c5 rfl (c8 (l4 ?_))); exact ret2 () rfl rfl rfl (by rw [List.take_length, List.take_length, lx0 ho _ _ (fun h q => List.mem_reverse.1 q), h0]; rfl) rfl tK nK tK
theorem bz7 {A B : Option Addr} {ca cb : Nat} (cs : List Cl) (hs : List Hd) (hca : cs.length ≤ ca) (hcb : hs.length ≤ cb) (ha : ∀ h ∈ hs, h.2.2.2.l.length ≤ 1000000) (h0 : ¬ checkT (trOf cs hs) = 0) : Meets prog aF [.agg #[.slice A cs.length ca, .slice B hs.length cb]] { LI := [Row A (rows cs), RowsF B hs Hd.row], val := fun _ : Unit => .tuple #[str [], int (checkT (trOf cs hs))] } := by
 refine j3 qJ rfl v8 fun w0 => i4 (O3 rfl rfl fun gB => ?_); refine c5 rfl (c5 rfl (c8 ?_)); refine I0 ⟨fun _ : Nat × OutC × OutC => True, fun x => [(1, .pointer (d9 gB)), (4, if checkT (trOf cs hs) = 0 then .pointer (some ⟨x.1, 0, none⟩) else .pointer none), (5, int (checkT (trOf cs hs)))], fun _ => [(gB, .cells #[.slice A cs.length ca, .slice B hs.length cb] p8 (0, 0))], fun x => (if checkT (trOf cs hs) = 0 then beginL cs hs A ca B cb x else []) ++ [Row A (rows cs), RowsF B hs Hd.row]⟩ ?_ ?_
 ·skip
  refine c9 (G3 rfl i6 c7 rfl mB (by rfl) ?_); refine j4 M3 rfl rfl (L9 cs hs hca hcb ha) t4 mC fun x _ => ?_; refine b6 rfl (l3 rfl rfl rfl (l3 rfl rfl rfl (c5 rfl (c5 rfl (b5 ?_))))); exact D5 _ x tK mC (List.Sublist.refl _) (LSub.of_mem fun F h => h)
 refine fun x _ => ?_
 dsimp only
 refine d6 (i4 (b6 rfl (M8 rfl rfl rfl (c8 ?_)))); refine k9 rfl (fun hb1 => ?_) (fun hb1 => ?_)
 ·have hb1' := hb1; try simp at hb1'
  rw [if_neg h0, if_neg h0]; refine i4 (b6 rfl (c5 rfl (c5 rfl (c8 (E9 ?_))))); exact ret2 () rfl rfl rfl rfl rfl tK nK tK
 exact absurd h0 hb1
theorem bz8 {A B : Option Addr} {ca cb : Nat} (cs : List Cl) (hs : List Hd) (hca : cs.length ≤ ca) (hcb : hs.length ≤ cb) (ha : ∀ h ∈ hs, h.2.2.2.l.length ≤ 1000000) : Meets prog aF [.agg #[.slice A cs.length ca, .slice B hs.length cb]] { LI := [Row A (rows cs), RowsF B hs Hd.row], val := fun _ : Unit => .tuple #[str (if checkT (trOf cs hs) = 0 then wrT cs hs else []), int (checkT (trOf cs hs))] } := by
  by_cases h0 : checkT (trOf cs hs) = 0
  · rw [if_pos h0, h0]
    exact yI cs hs hca hcb ha h0 (wr_ok (mW h0))
  rw [if_neg h0]; exact bz7 cs hs hca hcb ha h0
abbrev Rl := Bool × Str × Str × Str × Str × Sl Str
instance : El Rl where
  default := (false, [], [], [], [], ⟨none, 0, []⟩)
  cells m := [.bool m.1, str m.2.1, str m.2.2.1, str m.2.2.2.1, str m.2.2.2.2.1, .slice m.2.2.2.2.2.a m.2.2.2.2.2.l.length m.2.2.2.2.2.c]
  sz := 6
  len _ := rfl
  one a u h := by simp at h; rcases h with h | h | h | h | h | h <;> subst h <;> rfl
def Rl.pl (b : Bool) (x : Rl) : PL := if b = true then (x.2.1, x.2.2.1, [], []) else (x.2.1, x.2.2.2.1, x.2.2.2.2.1, x.2.2.2.2.2.l)
abbrev Rl.row (x : Rl) : Fact := Row x.2.2.2.2.2.a (rows x.2.2.2.2.2.l)
def selR (b : Bool) (L : List Rl) : List PL := (L.filter fun x => x.1 == b).map (Rl.pl b)
theorem cx3 (b : Bool) (L M : List Rl) : selR b (L ++ M) = selR b L ++ selR b M := by simp [selR]
theorem sel_one (b : Bool) (x : Rl) : selR b [x] = if x.1 = b then [x.pl b] else [] := by
  unfold selR
  by_cases h : x.1 = b
  · rw [if_pos h]; simp [h]
  rw [if_neg h]; simp [h]
theorem iz1 (b : Bool) (x : Rl) : (x.pl b).1 = x.2.1 := by cases b <;> rfl
theorem jq1 {n : Str} : ∀ {a : List PL} {x : PL} {b : List PL} {i : Nat}, (∀ y ∈ a, ¬ y.1 = n) → x.1 = n → findN n (a ++ x :: b) i = ((i + a.length : Nat) : Int)
  | [], x, b, i, _, h => by rw [List.nil_append, findN, if_pos h]; rfl
  | y :: a, x, b, i, ha, h => by
    rw [List.cons_append, findN, if_neg (ha y List.mem_cons_self), jq1 (fun z hz => ha z (List.mem_cons_of_mem _ hz)) h, List.length_cons]
    congr 1
    omega
theorem jq0 {n : Str} : ∀ {a : List PL} {i : Nat}, (∀ y ∈ a, ¬ y.1 = n) → findN n a i = -1
  | [], i, _ => rfl
  | y :: a, i, ha => by rw [findN, if_neg (ha y List.mem_cons_self), jq0 fun z hz => ha z (List.mem_cons_of_mem _ hz)]
theorem hj7 {b : Bool} {L : List Rl} {k : Nat} (hk : k < L.length) : selR b (L.take (k + 1)) = selR b (L.take k) ++ (if (L.getD k default).1 = b then [(L.getD k default).pl b] else []) := by
  rw [List.take_succ_eq_append_getElem hk, cx3, sel_one, B8 hk]
theorem lz6 {b : Bool} {L : List Rl} {k : Nat} (hk : k < L.length) (h : (L.getD k default).1 = b) : selR b L = selR b (L.take k) ++ (L.getD k default).pl b :: selR b (L.drop (k + 1)) := by
  have e := hj7 (b := b) hk; rw [if_pos h] at e
  conv => lhs; rw [← List.take_append_drop (k + 1) L, cx3, e]
  rw [List.append_assoc]
  rfl
def SeI (b : Bool) (L : List Rl) (n : Str) (k m : Nat) : Prop := k ≤ L.length ∧ m = (selR b (L.take k)).length ∧ ∀ y ∈ selR b (L.take k), ¬ y.1 = n
theorem nj0 {b : Bool} {L : List Rl} {n : Str} {k m : Nat} (h : SeI b L n k m) (hk : k < L.length) (hb : (L.getD k default).1 = b) (hn : (L.getD k default).2.1 = n) : findP (selR b L) n = (m : Int) := by
  obtain ⟨_, h2, h3⟩ := h; unfold findP; rw [lz6 hk hb, jq1 h3 (by rw [iz1]; exact hn), Nat.zero_add, h2]
theorem bx9 {b : Bool} {L : List Rl} {n : Str} {k m : Nat} (h : SeI b L n k m) (hk : k < L.length) (hb : (L.getD k default).1 = b) (hn : ¬ (L.getD k default).2.1 = n) : SeI b L n (k + 1) (m + 1) := by
  obtain ⟨_, h2, h3⟩ := h; refine ⟨hk, ?_, ?_⟩
  · rw [hj7 hk, if_pos hb, List.length_append, h2]; rfl
  rw [hj7 hk, if_pos hb]; intro y hy
  rcases List.mem_append.1 hy with hy | hy
  · exact h3 y hy
  rw [List.mem_singleton.1 hy, iz1]; exact hn
theorem bz0 {b : Bool} {L : List Rl} {n : Str} {k m : Nat} (h : SeI b L n k m) (hk : k < L.length) (hb : ¬ (L.getD k default).1 = b) : SeI b L n (k + 1) m := by
  obtain ⟨_, h2, h3⟩ := h; refine ⟨hk, ?_, ?_⟩ <;> rw [hj7 hk, if_neg hb, List.append_nil]
  · exact h2
  exact h3
theorem nj1 {b : Bool} {L : List Rl} {n : Str} {m : Nat} (h : SeI b L n L.length m) : findP (selR b L) n = -1 := by
  obtain ⟨_, _, h3⟩ := h; rw [List.take_length] at h3; exact jq0 h3
theorem ok_no {n : Str} : decide ((0 : Int) ≤ -1 ∨ n = []) = decide (n = []) := bx2 ⟨fun h => h.resolve_left (by decide), .inr⟩
theorem se_le {b : Bool} {L : List Rl} {n : Str} {k m : Nat} (h : SeI b L n k m) : m ≤ k := by
  obtain ⟨h1, h2, _⟩ := h; rw [h2]; unfold selR; rw [List.length_map]; exact Nat.le_trans (List.length_filter_le _ _) (by rw [List.length_take]; omega)
theorem nB {A : Option Addr} {c : Nat} (L : List Rl) (n : Str) (hL : L.length ≤ 1000000) : Meets prog lY [.slice A L.length c, str n] { LI := [Row A (rows L)], val := fun _ : Unit => .tuple #[int (findP (selR true L) n), .bool (decide (0 ≤ findP (selR true L) n ∨ n = []))] } := by
 refine j3 bj6 rfl v8 fun w0 => ?_; refine i4 (c5 rfl (c5 rfl (t6 (c5 rfl (c8 (d6 ?_)))))); refine i4 (c5 rfl (c8 (j5 ?_))); refine u6 (β := Nat × Nat) ⟨fun x => SeI true L n x.1 x.2, fun x => [(0, .slice A L.length c), (1, str n), (7, int x.1), (6, int x.2)], fun _ => [], fun _ => [Row A (rows L)]⟩ (fun x => L.length - x.1) (0, 0) ⟨Nat.zero_le _, rfl, fun y hy => by cases hy⟩ mC nK mC fun x hx => ?_; obtain ⟨k, m⟩ := x; have hk := hx.1; have hm := se_le hx; simp only at hk hm hx; refine d6 (i4 (b6 rfl (b6 rfl ?_))); refine k6 rfl p9 rfl ?_; refine B5 rfl rfl rfl (c8 ?_); refine k9 rfl (fun hb1 => ?_) (fun hb1 => ?_)
 ·have hb1' := hb1; try simp at hb1'
  have hk2 : k < L.length := by omega
  refine i8 (i1 (d6 (j5 (d6 (i4 (b6 rfl (b6 rfl ?_))))))); refine m7 (α := Rl) L k rfl p9 i7 rfl rfl rfl mB rfl hk2 (by decide) (a6 _ rfl rfl C6 rfl (a7 rfl q7 rfl (b7 mB (b4 (by omega) rfl)) (b6 rfl ?_))); refine v6 rfl rfl ?_ ?_
  ·intro hg1; have hg1' := hg1; try simp at hg1'
   have hbt : (L.getD k default).1 = true := by have h9 := hg1; simp at h9; first | exact h9 | (rw [h9]; decide)
   refine k5 hg1 (b6 rfl (k5 hg1 (b6 rfl (k5 hg1 ?_)))); refine m7 (α := Rl) L k rfl p9 i7 rfl rfl rfl mB rfl hk2 (by decide) ?_; refine k5 hg1 (a6 _ rfl rfl L5 rfl (k5 hg1 ?_)); refine a7 rfl a9 rfl (b8 mB (rows_get (by omega) rfl)) ?_; refine k5 hg1 (b6 rfl (k5 hg1 (J3 rfl rfl rfl ?_))); refine p_t rfl rfl (bt1 hg1) rfl (c8 ?_); refine k9 rfl (fun hb2 => ?_) (fun hb2 => ?_)
   ·have hb2' := hb2; try simp at hb2'
    have hnm : (L.getD k default).2.1 = n := by have h9 := hb2; simp at h9; first | exact h9 | (rw [h9]; decide)
    refine i4 (b6 rfl (c5 rfl (c5 rfl (c8 (E9 (B7 (u5 ?_))))))); refine B7 ?_; exact ret2 () rfl rfl rfl (by show Value.tuple #[int (findP (selR true L) n), .bool (decide (0 ≤ findP (selR true L) n ∨ n = []))] = _; rw [nj0 hx hk2 hbt hnm, decide_eq_true (Or.inl (Int.natCast_nonneg m))]) rfl tK nK tK
   have hb2' := hb2; try simp at hb2'
   have hne : ¬ (L.getD k default).2.1 = n := by have h9 := hb2; simp at h9; first | exact h9 | (rw [h9]; decide)
   refine i8 (i1 (i4 (b6 rfl (b6 rfl ?_)))); refine m7 (α := Rl) L k rfl p9 i7 rfl rfl rfl mB rfl hk2 (by decide) (a6 _ rfl rfl C6 rfl (a7 rfl q7 rfl (b7 mB (b4 (by omega) rfl)) (c8 ?_))); refine j0 rfl (fun hb3 => ?_) (fun hb3 => ?_)
   ·have hb3' := hb3; try simp at hb3'
    have hbt2 : (L.getD k default).1 = true := by have h9 := hb3; simp at h9; first | exact h9 | (rw [h9]; decide)
    refine c9 (b6 rfl ?_); refine t5 _ rfl rfl rfl rfl q6 ?_; refine c5 rfl (b5 (w6 (i1 (c9 (b6 rfl ?_))))); refine t5 _ rfl rfl rfl rfl q6 ?_; refine c5 rfl (b5 ?_)
    first
    | exact absurd hbt hbf2
    | exact absurd hbt2 hbf
    | exact again _ (k + 1, m + 1) (bx9 hx hk2 hbt hne) (y8 (by omega)) mC nK mC
    | exact again _ (k + 1, m) (bz0 hx hk2 hbf) (y8 (by omega)) mC nK mC
   have hb3' := hb3; try simp at hb3'
   have hbf2 : ¬ (L.getD k default).1 = true := by have h9 := hb3; simp at h9; exact fun e => absurd (h9.symm.trans e) (by decide)
   refine i8 (w6 (i1 (c9 (b6 rfl ?_)))); refine t5 _ rfl rfl rfl rfl q6 ?_; refine c5 rfl (b5 ?_)
   first
   | exact absurd hbt hbf2
   | exact absurd hbt2 hbf
   | exact again _ (k + 1, m + 1) (bx9 hx hk2 hbt hne) (y8 (by omega)) mC nK mC
   | exact again _ (k + 1, m) (bz0 hx hk2 hbf) (y8 (by omega)) mC nK mC
  intro hg1; have hg1' := hg1; try simp at hg1'
  have hbf : ¬ (L.getD k default).1 = true := by have h9 := hg1; simp at h9; exact fun e => absurd (h9.symm.trans e) (by decide)
  refine l8 hg1 (l8 hg1 (l8 hg1 (l8 hg1 (l8 hg1 (l8 hg1 (l8 hg1 ?_)))))); refine p_f rfl rfl (bf2 hg1) rfl ?_; refine c8 (c_f rfl rfl (i8 (i1 (i4 (b6 rfl (b6 rfl ?_)))))); refine m7 (α := Rl) L k rfl p9 i7 rfl rfl rfl mB rfl hk2 (by decide) (a6 _ rfl rfl C6 rfl (a7 rfl q7 rfl (b7 mB (b4 (by omega) rfl)) (c8 ?_))); refine j0 rfl (fun hb3 => ?_) (fun hb3 => ?_)
  ·have hb3' := hb3; try simp at hb3'
   have hbt2 : (L.getD k default).1 = true := by have h9 := hb3; simp at h9; first | exact h9 | (rw [h9]; decide)
   refine c9 (b6 rfl ?_); refine t5 _ rfl rfl rfl rfl q6 ?_; refine c5 rfl (b5 (w6 (i1 (c9 (b6 rfl ?_))))); refine t5 _ rfl rfl rfl rfl q6 ?_; refine c5 rfl (b5 ?_)
   first
   | exact absurd hbt hbf2
   | exact absurd hbt2 hbf
   | exact again _ (k + 1, m + 1) (bx9 hx hk2 hbt hne) (y8 (by omega)) mC nK mC
   | exact again _ (k + 1, m) (bz0 hx hk2 hbf) (y8 (by omega)) mC nK mC
  have hb3' := hb3; try simp at hb3'
  have hbf2 : ¬ (L.getD k default).1 = true := by have h9 := hb3; simp at h9; exact fun e => absurd (h9.symm.trans e) (by decide)
  refine i8 (w6 (i1 (c9 (b6 rfl ?_)))); refine t5 _ rfl rfl rfl rfl q6 ?_; refine c5 rfl (b5 ?_)
  first
  | exact absurd hbt hbf2
  | exact absurd hbt2 hbf
  | exact again _ (k + 1, m + 1) (bx9 hx hk2 hbt hne) (y8 (by omega)) mC nK mC
  | exact again _ (k + 1, m) (bz0 hx hk2 hbf) (y8 (by omega)) mC nK mC
 have hb1' := hb1; try simp at hb1'
 obtain rfl : k = L.length := by omega
 have hE := nj1 hx; refine t7 (C7 (t8 (i1 (i4 (b6 rfl (J3 rfl rfl rfl (c5 rfl (c5 rfl (b5 ?_))))))))); refine i1 (l4 ?_); exact ret2 () rfl rfl rfl (by show Value.tuple #[int (findP (selR true L) n), .bool (decide (0 ≤ findP (selR true L) n ∨ n = []))] = _; rw [hE, ok_no]) rfl tK nK tK
theorem kI {A : Option Addr} {c : Nat} (L : List Rl) (n : Str) (hL : L.length ≤ 1000000) : Meets prog iX [.slice A L.length c, str n] { LI := [Row A (rows L)], val := fun _ : Unit => .tuple #[int (findP (selR false L) n), .bool (decide (0 ≤ findP (selR false L) n ∨ n = []))] } := by
 refine j3 xK rfl v8 fun w0 => ?_; refine i4 (c5 rfl (c5 rfl (t6 (c5 rfl (c8 (d6 ?_)))))); refine i4 (c5 rfl (c8 (j5 ?_))); refine u6 (β := Nat × Nat) ⟨fun x => SeI false L n x.1 x.2, fun x => [(0, .slice A L.length c), (1, str n), (7, int x.1), (6, int x.2)], fun _ => [], fun _ => [Row A (rows L)]⟩ (fun x => L.length - x.1) (0, 0) ⟨Nat.zero_le _, rfl, fun y hy => by cases hy⟩ mC nK mC fun x hx => ?_; obtain ⟨k, m⟩ := x; have hk := hx.1; have hm := se_le hx; simp only at hk hm hx; refine d6 (i4 (b6 rfl (b6 rfl ?_))); refine k6 rfl p9 rfl ?_; refine B5 rfl rfl rfl (c8 ?_); refine k9 rfl (fun hb1 => ?_) (fun hb1 => ?_)
 ·have hb1' := hb1; try simp at hb1'
  have hk2 : k < L.length := by omega
  refine i8 (i1 (d6 (j5 (d6 (i4 (b6 rfl (b6 rfl ?_))))))); refine m7 (α := Rl) L k rfl p9 i7 rfl rfl rfl mB rfl hk2 (by decide) (a6 _ rfl rfl C6 rfl (a7 rfl q7 rfl (b7 mB (b4 (by omega) rfl)) ?_)); refine H6 rfl rfl (b6 rfl ?_); refine v6 rfl rfl ?_ ?_
  ·intro hg1; have hg1' := hg1; try simp at hg1'
   have hbt : (L.getD k default).1 = false := by have h9 := hg1; simp at h9; first | exact h9 | (rw [h9]; decide)
   refine k5 hg1 (b6 rfl (k5 hg1 (b6 rfl (k5 hg1 ?_)))); refine m7 (α := Rl) L k rfl p9 i7 rfl rfl rfl mB rfl hk2 (by decide) ?_; refine k5 hg1 (a6 _ rfl rfl L5 rfl (k5 hg1 ?_)); refine a7 rfl a9 rfl (b8 mB (rows_get (by omega) rfl)) ?_; refine k5 hg1 (b6 rfl (k5 hg1 (J3 rfl rfl rfl ?_))); refine p_t rfl rfl (bt1 hg1) rfl (c8 ?_); refine k9 rfl (fun hb2 => ?_) (fun hb2 => ?_)
   ·have hb2' := hb2; try simp at hb2'
    have hnm : (L.getD k default).2.1 = n := by have h9 := hb2; simp at h9; first | exact h9 | (rw [h9]; decide)
    refine i4 (b6 rfl (c5 rfl (c5 rfl (c8 (E9 (B7 (u5 ?_))))))); refine B7 ?_; exact ret2 () rfl rfl rfl (by show Value.tuple #[int (findP (selR false L) n), .bool (decide (0 ≤ findP (selR false L) n ∨ n = []))] = _; rw [nj0 hx hk2 hbt hnm, decide_eq_true (Or.inl (Int.natCast_nonneg m))]) rfl tK nK tK
   have hb2' := hb2; try simp at hb2'
   have hne : ¬ (L.getD k default).2.1 = n := by have h9 := hb2; simp at h9; first | exact h9 | (rw [h9]; decide)
   refine i8 (i1 (i4 (b6 rfl (b6 rfl ?_)))); refine m7 (α := Rl) L k rfl p9 i7 rfl rfl rfl mB rfl hk2 (by decide) (a6 _ rfl rfl C6 rfl (a7 rfl q7 rfl (b7 mB (b4 (by omega) rfl)) ?_)); refine H6 rfl rfl (c8 ?_); refine j0 rfl (fun hb3 => ?_) (fun hb3 => ?_)
   ·have hb3' := hb3; try simp at hb3'
    have hbt2 : (L.getD k default).1 = false := by have h9 := hb3; simp at h9; first | exact h9 | (rw [h9]; decide)
    refine c9 (b6 rfl ?_); refine t5 _ rfl rfl rfl rfl q6 ?_; refine c5 rfl (b5 (w6 (i1 (c9 (b6 rfl ?_))))); refine t5 _ rfl rfl rfl rfl q6 ?_; refine c5 rfl (b5 ?_)
    first
    | exact absurd hbt hbf2
    | exact absurd hbt2 hbf
    | exact again _ (k + 1, m + 1) (bx9 hx hk2 hbt hne) (y8 (by omega)) mC nK mC
    | exact again _ (k + 1, m) (bz0 hx hk2 hbf) (y8 (by omega)) mC nK mC
   have hb3' := hb3; try simp at hb3'
   have hbf2 : ¬ (L.getD k default).1 = false := by have h9 := hb3; simp at h9; exact fun e => absurd (h9.symm.trans e) (by decide)
   refine i8 (w6 (i1 (c9 (b6 rfl ?_)))); refine t5 _ rfl rfl rfl rfl q6 ?_; refine c5 rfl (b5 ?_)
   first
   | exact absurd hbt hbf2
   | exact absurd hbt2 hbf
   | exact again _ (k + 1, m + 1) (bx9 hx hk2 hbt hne) (y8 (by omega)) mC nK mC
   | exact again _ (k + 1, m) (bz0 hx hk2 hbf) (y8 (by omega)) mC nK mC
  intro hg1; have hg1' := hg1; try simp at hg1'
  have hbf : ¬ (L.getD k default).1 = false := by have h9 := hg1; simp at h9; exact fun e => absurd (h9.symm.trans e) (by decide)
  refine l8 hg1 (l8 hg1 (l8 hg1 (l8 hg1 (l8 hg1 (l8 hg1 (l8 hg1 ?_)))))); refine p_f rfl rfl (bf2 hg1) rfl ?_; refine c8 (c_f rfl rfl (i8 (i1 (i4 (b6 rfl (b6 rfl ?_)))))); refine m7 (α := Rl) L k rfl p9 i7 rfl rfl rfl mB rfl hk2 (by decide) (a6 _ rfl rfl C6 rfl (a7 rfl q7 rfl (b7 mB (b4 (by omega) rfl)) ?_)); refine H6 rfl rfl (c8 ?_); refine j0 rfl (fun hb3 => ?_) (fun hb3 => ?_)
  ·have hb3' := hb3; try simp at hb3'
   have hbt2 : (L.getD k default).1 = false := by have h9 := hb3; simp at h9; first | exact h9 | (rw [h9]; decide)
   refine c9 (b6 rfl ?_); refine t5 _ rfl rfl rfl rfl q6 ?_; refine c5 rfl (b5 (w6 (i1 (c9 (b6 rfl ?_))))); refine t5 _ rfl rfl rfl rfl q6 ?_; refine c5 rfl (b5 ?_)
   first
   | exact absurd hbt hbf2
   | exact absurd hbt2 hbf
   | exact again _ (k + 1, m + 1) (bx9 hx hk2 hbt hne) (y8 (by omega)) mC nK mC
   | exact again _ (k + 1, m) (bz0 hx hk2 hbf) (y8 (by omega)) mC nK mC
  have hb3' := hb3; try simp at hb3'
  have hbf2 : ¬ (L.getD k default).1 = false := by have h9 := hb3; simp at h9; exact fun e => absurd (h9.symm.trans e) (by decide)
  refine i8 (w6 (i1 (c9 (b6 rfl ?_)))); refine t5 _ rfl rfl rfl rfl q6 ?_; refine c5 rfl (b5 ?_)
  first
  | exact absurd hbt hbf2
  | exact absurd hbt2 hbf
  | exact again _ (k + 1, m + 1) (bx9 hx hk2 hbt hne) (y8 (by omega)) mC nK mC
  | exact again _ (k + 1, m) (bz0 hx hk2 hbf) (y8 (by omega)) mC nK mC
 have hb1' := hb1; try simp at hb1'
 obtain rfl : k = L.length := by omega
 have hE := nj1 hx; refine t7 (C7 (t8 (i1 (i4 (b6 rfl (J3 rfl rfl rfl (c5 rfl (c5 rfl (b5 ?_))))))))); refine i1 (l4 ?_); exact ret2 () rfl rfl rfl (by show Value.tuple #[int (findP (selR false L) n), .bool (decide (0 ≤ findP (selR false L) n ∨ n = []))] = _; rw [hE, ok_no]) rfl tK nK tK
def Rl.ok (x : Rl) : Prop := (x.1 = true → x.2.2.2.1 = [] ∧ x.2.2.2.2.1 = [] ∧ x.2.2.2.2.2.l = []) ∧ (x.1 = false → x.2.2.1 = [])
structure RdOK (w : List Str) (y : Rl × Bool) : Prop where
  no : y.2 = false → parseT w = none
  ye : y.2 = true → parseT w = some (!y.1.1, y.1.pl y.1.1) ∧ y.1.ok
theorem kW {w : List Str} {x : Rl} (h : parseT w = none) : RdOK w (x, false) := ⟨fun _ => h, fun h2 => by cases h2⟩
theorem rd_cls2 {w : List Str} (h0 : at_ w 0 = wClass) (h2 : w.length = 2) : RdOK w ((true, at_ w 1, [], [], [], ⟨none, 0, []⟩), wordB (at_ w 1)) := by
  refine ⟨fun h => ?_, fun h => ⟨?_, ⟨fun _ => ⟨rfl, rfl, rfl⟩, fun h => by cases h⟩⟩⟩
  · rw [parseT, if_neg (by omega), if_pos h0, if_pos h]
  have h' : wordB (at_ w 1) = true := h; rw [parseT, if_neg (by omega), if_pos h0, if_neg (by rw [h']; decide), if_neg (by omega), if_pos h2]; rfl
theorem kz1 {w : List Str} {b : Bool} (h0 : at_ w 0 = wClass) (h4 : w.length = 4) (hi : at_ w 2 = kIn) (hb : b = (wordB (at_ w 1) && wordB (at_ w 3))) : RdOK w ((true, at_ w 1, at_ w 3, [], [], ⟨none, 0, []⟩), b) := by
  subst hb
  cases h1 : wordB (at_ w 1)
  · refine kW ?_
    rw [parseT, if_neg (by omega), if_pos h0, if_pos h1]
  cases h3 : wordB (at_ w 3)
  · refine kW ?_
    rw [parseT, if_neg (by omega), if_pos h0, if_neg (by rw [h1]; decide), if_pos ⟨h4, hi⟩, if_neg (by rw [h3]; decide)]
  refine ⟨fun h => (by cases h), fun h => ⟨?_, ⟨fun _ => ⟨rfl, rfl, rfl⟩, fun h => by cases h⟩⟩⟩; rw [parseT, if_neg (by omega), if_pos h0, if_neg (by rw [h1]; decide), if_pos ⟨h4, hi⟩, if_pos h3]; rfl
theorem kz5 {w : List Str} (h0 : at_ w 0 = wClass) (h2 : ¬ w.length = 2) (h4 : ¬ (w.length = 4 ∧ at_ w 2 = kIn)) : parseT w = none := by
  by_cases hl : w.length < 2
  · rw [parseT, if_pos hl]
  rw [parseT, if_neg hl, if_pos h0, if_neg h4, if_neg h2]
  split <;> rfl
theorem kz4 {w : List Str} (h0 : ¬ at_ w 0 = wClass) (h : wordB (at_ w 0) = false ∨ w.length < 3) : parseT w = none := by
  by_cases hl : w.length < 2
  · rw [parseT, if_pos hl]
  rw [parseT, if_neg hl, if_neg h0]
  rcases h with h | h
  · rw [if_pos h]
  split
  · rfl
  split
  · rw [if_pos (.inl (by omega))]
  split
  · rw [if_neg]
    rw [List.drop_eq_nil_of_le (by omega)]; decide
  split
  · rw [if_neg (fun q => by omega)]
  rfl
section
variable {w : List Str} (h0 : ¬ at_ w 0 = wClass) (hn : wordB (at_ w 0) = true) (h3 : ¬ w.length < 3)
include h0 hn h3
theorem nj7 {b : Bool} (h1 : at_ w 1 = kSee) (hb : b = (decide (w.length = 3) && wordB (at_ w 2))) : RdOK w ((false, at_ w 0, [], [], at_ w 2, ⟨none, 0, []⟩), b) := by
  subst hb
  have hp : parseT w = if w.length = 3 ∧ wordB (at_ w 2) = true then some (true, at_ w 0, [], at_ w 2, []) else none := by
    rw [parseT, if_neg (by omega), if_neg h0, if_neg (by rw [hn]; decide), if_neg (by rw [h1]; decide), if_neg (by rw [h1]; decide), if_pos h1]
  by_cases h : w.length = 3 ∧ wordB (at_ w 2) = true
  · rw [if_pos h] at hp
    refine ⟨fun q => ?_, fun _ => ⟨hp, ⟨fun h => (by cases h), fun _ => rfl⟩⟩⟩; rw [decide_eq_true h.1, h.2] at q; cases q
  rw [if_neg h] at hp; refine ⟨fun _ => hp, fun q => ?_⟩; rw [Bool.and_eq_true] at q; exact absurd ⟨of_decide_eq_true q.1, q.2⟩ h
theorem rd_also {b : Bool} {A : Option Addr} {c : Nat} (h1 : at_ w 1 = kAlso) (hb : b = wordsB (w.drop 2)) : RdOK w ((false, at_ w 0, [], [], [], ⟨A, c, w.drop 2⟩), b) := by
  subst hb; have hp := kz6 (by omega) h0 hn h1; refine ⟨fun q => ?_, fun q => ⟨?_, ⟨fun h => (by cases h), fun _ => rfl⟩⟩⟩
  · rw [hp, if_neg (by rw [show wordsB (w.drop 2) = false from q]; decide)]
  rw [hp, if_pos q]; rfl
omit h3 in
theorem nx3 (h1 : at_ w 1 = kIs) (hl : 3 < w.length) (hb : ¬ (at_ w 3 = kAlso ∧ wordsB (w.drop 4) = true)) : parseT w = none := by
  rw [parseT, if_neg (by omega), if_neg h0, if_neg (by rw [hn]; decide), if_pos h1]
  by_cases hx : w.length ≤ 2 ∨ wordB (at_ w 2) = false
  · rw [if_pos hx]
  rw [if_neg hx, if_neg (by omega), if_neg hb]
theorem rd_is3 {b : Bool} (h1 : at_ w 1 = kIs) (hl : ¬ 3 < w.length) (hb : b = wordB (at_ w 2)) : RdOK w ((false, at_ w 0, [], at_ w 2, [], ⟨none, 0, []⟩), b) := by
  subst hb
  have hp : parseT w = if w.length ≤ 2 ∨ wordB (at_ w 2) = false then none else some (true, at_ w 0, at_ w 2, [], []) := by
    rw [parseT, if_neg (by omega), if_neg h0, if_neg (by rw [hn]; decide), if_pos h1, if_pos (show w.length = 3 by omega)]
  refine ⟨fun q => ?_, fun q => ⟨?_, ⟨fun h => (by cases h), fun _ => rfl⟩⟩⟩
  · rw [hp, if_pos (.inr q)]
  have q' : wordB (at_ w 2) = true := q; rw [hp, if_neg (by rintro (h | h); omega; rw [q'] at h; cases h)]; rfl
omit h3 in
theorem rd_is5 {b : Bool} {A : Option Addr} {c : Nat} (h1 : at_ w 1 = kIs) (hl : 3 < w.length) (ha : at_ w 3 = kAlso ∧ wordsB (w.drop 4) = true) (hb : b = wordB (at_ w 2)) : RdOK w ((false, at_ w 0, [], at_ w 2, [], ⟨A, c, w.drop 4⟩), b) := by
  subst hb
  have hp : parseT w = if w.length ≤ 2 ∨ wordB (at_ w 2) = false then none else some (true, at_ w 0, at_ w 2, [], w.drop 4) := by
    rw [parseT, if_neg (by omega), if_neg h0, if_neg (by rw [hn]; decide), if_pos h1, if_neg (show ¬ w.length = 3 by omega), if_pos ha]
  refine ⟨fun q => ?_, fun q => ⟨?_, ⟨fun h => (by cases h), fun _ => rfl⟩⟩⟩
  · rw [hp, if_pos (.inr q)]
  have q' : wordB (at_ w 2) = true := q; rw [hp, if_neg (by rintro (h | h); omega; rw [q'] at h; cases h)]; rfl
omit hn in
theorem pt_none (ha : ¬ at_ w 1 = kIs) (hb : ¬ at_ w 1 = kAlso) (hc : ¬ at_ w 1 = kSee) : parseT w = none := hq4 (by omega) h0 ha hb hc
end
set_option maxHeartbeats 2000000 in
theorem ax1 {A : Option Addr} {ca : Nat} (w : List Str) (h1w : 0 < w.length) (hn : w.length ≤ 1000) (hwl : ∀ x ∈ w, x.length ≤ 1000) (hc : w.length ≤ ca) : Meets prog pH [.slice A w.length ca] { LI := [Row A (rows w)], inv := fun y : Rl × Bool => RdOK w y ∧ y.1.2.2.2.2.2.l.length ≤ w.length, val := fun y => .tuple #[.agg #[.bool y.1.1, str y.1.2.1, str y.1.2.2.1, str y.1.2.2.2.1, str y.1.2.2.2.2.1, .slice y.1.2.2.2.2.2.a y.1.2.2.2.2.2.l.length y.1.2.2.2.2.2.c], .bool y.2], LO := fun y => [y.1.row] } := by
 refine j3 cq0 rfl v8 fun w0 => i4 (u4 rfl (fun _ => S4 _) fun g2 => ?_); refine c5 rfl (c8 (d6 (i4 (b6 rfl ?_)))); refine m7 (α := Str) w 0 rfl j9 j6 rfl rfl rfl mB rfl (by omega) (by decide) (a7 (v := str (at_ w 0)) rfl a9 rfl (b7 mB (b4 (by omega) rfl)) ?_); refine J3 rfl rfl rfl (c8 ?_); refine k9 rfl (fun hb1 => ?_) (fun hb1 => ?_)
 ·have hb1' := hb1; try simp at hb1'
  have h0 : at_ w 0 = wClass := hb1; refine d6 (j5 (i4 (b6 rfl ?_))); refine k6 rfl j9 rfl ?_; refine J0 rfl rfl rfl (c5 rfl (c8 ?_)); refine k9 rfl (fun hb2 => ?_) (fun hb2 => ?_)
  ·have hb2' := hb2; try simp at hb2'
   have h2 : w.length = 2 := by omega
   refine d6 (C0 8 mixed (by decide) (by decide) rfl rfl (r7 rfl (k8 (fun w1 => m7 (α := Str) w 1 rfl j9 j6 rfl rfl rfl mB rfl (by omega) (by decide) (q_z rfl)) (k8 (fun w1 => a7 (v := str (at_ w 1)) rfl a9 rfl (b7 mB (b4 (by omega) rfl)) (q_z rfl)) (k8 (fun w1 => u0 _ rfl rfl (fun _ => jJ ..) (q_z rfl)) (r7 rfl (k8 (fun w1 => m7 (α := Str) w 1 rfl j9 j6 rfl rfl rfl mB rfl (by omega) (by decide) (q_z rfl)) (k8 (fun w1 => a7 (v := str (at_ w 1)) rfl a9 rfl (b7 mB (b4 (by omega) rfl)) (q_z rfl)) ?_)))))))); refine k8 (fun w1 => j4 I7 rfl rfl (I6 (at_ w 1) (hwl _ (w8 (by omega)))) t4 tK fun _ _ => (q_z rfl)) ?_; refine v7 ⟨rfl, ?_⟩; refine l6 (cs := #[.bool true, str (at_ w 1), str [], str [], str [], .slice none 0 0]) rfl rfl (.refl _) i7 (by rfl) (by rfl) ?_; refine c5 rfl (c8 (l4 (B7 (u5 ?_)))); refine n5 (α := Str) ?_; exact A9 (((true, at_ w 1, [], [], [], ⟨none, 0, []⟩), (wordB (at_ w 1))) : Rl × Bool) (fun a w9 ha hw9 => D1 (cs := #[.bool true, str (at_ w 1), str [], str [], str [], .slice none 0 0]) (v1 := .bool (wordB (at_ w 1))) rfl rfl rfl n9 i7 rfl m0 a w9 ha.at_ hw9) rfl ⟨rd_cls2 h0 h2, by first | exact Nat.zero_le _ | (show (List.drop _ _).length ≤ _; rw [List.length_drop]; omega)⟩ nK mC
  have hb2' := hb2; try simp at hb2'
  have h2 : ¬ w.length = 2 := by omega
  refine i4 (b6 rfl ?_); refine k6 rfl j9 rfl ?_; refine J0 rfl rfl rfl (b6 rfl ?_); refine v6 rfl rfl ?_ ?_
  ·intro hg1; have hg1' := hg1; try simp at hg1'
   have h4 : w.length = 4 := by simp at hg1; omega
   refine k5 hg1 (b6 rfl (k5 hg1 ?_)); refine m7 (α := Str) w 2 rfl j9 j6 rfl rfl rfl mB rfl (by omega) (by decide) (k5 hg1 (a7 (v := str (at_ w 2)) rfl a9 rfl (b7 mB (b4 (by omega) rfl)) ?_)); refine k5 hg1 (J3 rfl rfl rfl ?_); refine p_t rfl rfl (bt1 hg1) rfl ?_; refine c5 rfl (c8 ?_); refine k9 rfl (fun hb3 => ?_) (fun hb3 => ?_)
   ·have hb3' := hb3; try simp at hb3'
    have hin : at_ w 2 = kIn := hb3; refine d6 (H3 ([(g2, Obj.cells #[.bool false, str [], str [], str [], str [], .slice none 0 0] C9 (0, 0))]) ([]) (.refl _) 18 [17] mixed (by decide) (by decide) (by decide) rfl rfl rfl (r7 rfl (k8 (fun w1 => m7 (α := Str) w 1 rfl j9 j6 rfl rfl rfl mB rfl (by omega) (by decide) (q_z rfl)) (k8 (fun w1 => a7 (v := str (at_ w 1)) rfl a9 rfl (b7 mB (b4 (by omega) rfl)) (q_z rfl)) (r7 rfl (k8 (fun w1 => m7 (α := Str) w 3 rfl j9 j6 rfl rfl rfl mB rfl (by omega) (by decide) (q_z rfl)) (k8 (fun w1 => a7 (v := str (at_ w 3)) rfl a9 rfl (b7 mB (b4 (by omega) rfl)) (q_z rfl)) (k8 (fun w1 => u0 _ rfl rfl (fun _ => gW ..) (q_z rfl)) (r7 rfl (k8 (fun w1 => m7 (α := Str) w 1 rfl j9 j6 rfl rfl rfl mB rfl (by omega) (by decide) (q_z rfl)) (k8 (fun w1 => a7 (v := str (at_ w 1)) rfl a9 rfl (b7 mB (b4 (by omega) rfl)) (q_z rfl)) ?_))))))))))); refine k8 (fun w1 => j4 I7 rfl rfl (I6 (at_ w 1) (hwl _ (w8 (by omega)))) t4 tK fun _ _ => (q_z rfl)) ?_; refine r7 rfl ?_; refine L3 (t := 42) (want := true) rfl ?_ ?_
    ·intro hg2; have hg2' := hg2; try simp at hg2'
     have h1 : wordB (at_ w 1) = true := by simpa using hg2
     apply k7 _ rfl rfl rfl
     ·intro w1; refine k5 hg2 (b6 rfl (b5 ?_)); exact i5 rfl
     apply k7 _ rfl rfl rfl
     ·intro w1; refine k5 hg2 (m7 (α := Str) w 3 rfl j9 j6 rfl rfl rfl mB rfl (by omega) (by decide) (b5 ?_)); exact i5 rfl
     apply k7 _ rfl rfl rfl
     ·intro w1; refine k5 hg2 (a7 (v := str (at_ w 3)) rfl a9 rfl (b7 mB (b4 (by omega) rfl)) (b5 ?_)); exact i5 rfl
     apply k7 _ rfl rfl rfl
     ·intro w1; refine k5 hg2 (j4 I7 rfl rfl (I6 (at_ w 3) (hwl _ (w8 (by omega)))) t4 tK fun _ _ => b5 ?_); exact i5 rfl
     refine k8 (fun w1 => p_t rfl rfl (bt1 hg2) rfl (q_z rfl)) ?_; refine nF ⟨Unit, fun _ => True, fun _ => undef, fun _ => [], fun _ => [(g2, Obj.cells #[.bool true, str (at_ w 1), str (at_ w 3), str [], str [], .slice none 0 0] C9 (0, 0))]⟩ rfl rfl ?_ ?_
     ·intro w1; refine l6 (cs := #[.bool true, str (at_ w 1), str (at_ w 3), str [], str [], .slice none 0 0]) rfl rfl (.refl _) i7 (by rfl) (by rfl) (b5 ?_); exact H4 () tK (fun h => by cases h) (.refl _) tK
     refine v7 ⟨rfl, ?_⟩; intro _ _; refine c5 rfl (c8 (l4 (B7 (u5 ?_)))); refine n5 (α := Str) ?_; exact A9 (((true, at_ w 1, at_ w 3, [], [], ⟨none, 0, []⟩), (wordB (at_ w 3))) : Rl × Bool) (fun a w9 ha hw9 => D1 (cs := #[.bool true, str (at_ w 1), str (at_ w 3), str [], str [], .slice none 0 0]) (v1 := .bool (wordB (at_ w 3))) rfl rfl rfl n9 i7 rfl m0 a w9 ha.at_ hw9) rfl ⟨kz1 h0 h4 hin (by rw [h1]; rfl), by first | exact Nat.zero_le _ | (show (List.drop _ _).length ≤ _; rw [List.length_drop]; omega)⟩ nK mC
    intro hg2; have hg2' := hg2; try simp at hg2'
    have h1 : wordB (at_ w 1) = false := by simpa using hg2
    refine k8 (fun w1 => l8 hg2 (q_z rfl)) (k8 (fun w1 => l8 hg2 (q_z rfl)) (k8 (fun w1 => l8 hg2 (q_z rfl)) (k8 (fun w1 => l8 hg2 (q_z rfl)) (k8 (fun w1 => p_f rfl rfl (bf2 hg2) rfl (q_z rfl)) ?_)))); refine nF ⟨Unit, fun _ => True, fun _ => undef, fun _ => [], fun _ => [(g2, Obj.cells #[.bool true, str (at_ w 1), str (at_ w 3), str [], str [], .slice none 0 0] C9 (0, 0))]⟩ rfl rfl ?_ ?_
    ·intro w1; refine l6 (cs := #[.bool true, str (at_ w 1), str (at_ w 3), str [], str [], .slice none 0 0]) rfl rfl (.refl _) i7 (by rfl) (by rfl) (b5 ?_); exact H4 () tK (fun h => by cases h) (.refl _) tK
    refine v7 ⟨rfl, ?_⟩; intro _ _; refine c5 rfl (c8 (l4 (B7 (u5 ?_)))); refine n5 (α := Str) ?_; exact A9 (((true, at_ w 1, at_ w 3, [], [], ⟨none, 0, []⟩), false) : Rl × Bool) (fun a w9 ha hw9 => D1 (cs := #[.bool true, str (at_ w 1), str (at_ w 3), str [], str [], .slice none 0 0]) (v1 := .bool false) rfl rfl rfl n9 i7 rfl m0 a w9 ha.at_ hw9) rfl ⟨kz1 h0 h4 hin (by rw [h1]; rfl), by first | exact Nat.zero_le _ | (show (List.drop _ _).length ≤ _; rw [List.length_drop]; omega)⟩ nK mC
   have hb3' := hb3; try simp at hb3'
   have hpn := kz5 h0 h2 (fun q => hb3 q.2); refine i8 (w6 (i1 (i4 ?_))); refine u0 _ rfl rfl (fun _ => M1 ..) (l6 (cs := #[.bool false, str [], str [], str [], str [], .slice none 0 0]) rfl rfl (.refl _) i7 (by rfl) (by rfl) ?_); refine c5 rfl (c8 (E9 ?_)); refine n5 (α := Str) ?_; exact A9 (((false, [], [], [], [], ⟨none, 0, []⟩), false) : Rl × Bool) (fun a w9 ha hw9 => D1 (cs := #[.bool false, str [], str [], str [], str [], .slice none 0 0]) (v1 := .bool false) rfl rfl rfl n9 i7 rfl m0 a w9 ha.at_ hw9) rfl ⟨kW (hpn), by first | exact Nat.zero_le _ | (show (List.drop _ _).length ≤ _; rw [List.length_drop]; omega)⟩ nK mC
  intro hg1; have hg1' := hg1; try simp at hg1'
  have h4 : ¬ w.length = 4 := by simp at hg1; omega
  refine l8 hg1 (l8 hg1 (l8 hg1 (l8 hg1 ?_))); refine p_f rfl rfl (bf2 hg1) rfl ?_; refine c5 rfl (c8 (c_f rfl rfl ?_)); have hpn := kz5 h0 h2 (fun q => h4 q.1); refine i8 (w6 (i1 (i4 ?_))); refine u0 _ rfl rfl (fun _ => M1 ..) (l6 (cs := #[.bool false, str [], str [], str [], str [], .slice none 0 0]) rfl rfl (.refl _) i7 (by rfl) (by rfl) ?_); refine c5 rfl (c8 (E9 ?_)); refine n5 (α := Str) ?_; exact A9 (((false, [], [], [], [], ⟨none, 0, []⟩), false) : Rl × Bool) (fun a w9 ha hw9 => D1 (cs := #[.bool false, str [], str [], str [], str [], .slice none 0 0]) (v1 := .bool false) rfl rfl rfl n9 i7 rfl m0 a w9 ha.at_ hw9) rfl ⟨kW (hpn), by first | exact Nat.zero_le _ | (show (List.drop _ _).length ≤ _; rw [List.length_drop]; omega)⟩ nK mC
 have hb1' := hb1; try simp at hb1'
 have h0 : ¬ at_ w 0 = wClass := hb1; refine i8 (i1 (d6 (i4 (b6 rfl ?_)))); refine m7 (α := Str) w 0 rfl j9 j6 rfl rfl rfl mB rfl (by omega) (by decide) (a7 (v := str (at_ w 0)) rfl a9 rfl (b7 mB (b4 (by omega) rfl)) (j4 I7 rfl rfl (I6 (at_ w 0) (hwl _ (w8 (by omega)))) t4 tK fun _ _ => ?_)); refine H6 rfl rfl (b6 rfl ?_); refine v6 rfl rfl ?_ ?_
 ·intro hg3; have hg3' := hg3; try simp at hg3'
  have hn0 : wordB (at_ w 0) = true := by simpa using hg3
  refine k5 hg3 (b6 rfl (k5 hg3 ?_)); refine k6 rfl j9 rfl ?_; refine k5 hg3 (B5 rfl rfl rfl ?_); refine p_f rfl rfl (bf1 hg3) rfl (c8 ?_); refine k9 rfl (fun hb4 => ?_) (fun hb4 => ?_)
  ·have hb4' := hb4; try simp at hb4'
   have hpn := kz4 h0 (.inr (by omega)); refine i4 (u0 _ rfl rfl (fun _ => M1 ..) (l6 (cs := #[.bool false, str [], str [], str [], str [], .slice none 0 0]) rfl rfl (.refl _) i7 (by rfl) (by rfl) ?_)); refine c5 rfl (c8 (E9 ?_)); refine n5 (α := Str) ?_; exact A9 (((false, [], [], [], [], ⟨none, 0, []⟩), false) : Rl × Bool) (fun a w9 ha hw9 => D1 (cs := #[.bool false, str [], str [], str [], str [], .slice none 0 0]) (v1 := .bool false) rfl rfl rfl n9 i7 rfl m0 a w9 ha.at_ hw9) rfl ⟨kW (hpn), by first | exact Nat.zero_le _ | (show (List.drop _ _).length ≤ _; rw [List.length_drop]; omega)⟩ nK mC
  have hb4' := hb4; try simp at hb4'
  have h3 : ¬ w.length < 3 := by omega
  refine i8 (i1 (i4 (b6 rfl ?_))); refine m7 (α := Str) w 0 rfl j9 j6 rfl rfl rfl mB rfl (by omega) (by decide) (a7 (v := str (at_ w 0)) rfl a9 rfl (b7 mB (b4 (by omega) rfl)) (u0 _ rfl rfl (fun _ => kT ..) (u4 rfl (fun _ => S4 _) fun g4 => l6 (cs := #[.bool false, str (at_ w 0), str [], str [], str [], .slice none 0 0]) rfl rfl (.refl _) i7 (by rfl) (by rfl) ?_))); refine c8 (d6 (i4 (b6 rfl ?_))); refine m7 (α := Str) w 1 rfl j9 j6 rfl rfl rfl mB rfl (by omega) (by decide) (a7 (v := str (at_ w 1)) rfl a9 rfl (b7 mB (b4 (by omega) rfl)) ?_); refine c8 (j5 (i4 (J3 rfl rfl rfl (c5 rfl (c8 ?_))))); refine k9 rfl (fun hb5 => ?_) (fun hb5 => ?_)
  ·have hb5' := hb5; try simp at hb5'
   have hk1 : at_ w 1 = kSee := hb5; refine i4 (b6 rfl ?_); refine m7 (α := Str) w 2 rfl j9 j6 rfl rfl rfl mB rfl (by omega) (by decide) (a7 (v := str (at_ w 2)) rfl a9 rfl (b7 mB (b4 (by omega) rfl)) (a6 ⟨_, 4, none⟩ rfl rfl Y3 rfl (C8 rfl rfl X2 j6 (by rfl) (by rfl) ?_))); refine c8 (d6 (C3 ?_)); refine H3 ([(g2, Obj.cells #[.bool false, str [], str [], str [], str [], .slice none 0 0] C9 (0, 0))]) ([]) (.refl _) 11 [10] mixed (by decide) (by decide) (by decide) rfl rfl rfl (k8 (fun w1 => z8 (cs := [.bool false, str (at_ w 0), str [], str [], str (at_ w 2), .slice none 0 0]) rfl n9 i7 rfl rfl (R3 (o := 0) mB (S8 (List.append_nil _).symm)) (q_z rfl)) (r7 rfl (k8 (fun w1 => k6 rfl j9 rfl (q_z rfl)) (k8 (fun w1 => J0 rfl rfl rfl (q_z rfl)) (r7 rfl ?_))))); refine L3 (t := 77) (want := true) rfl ?_ ?_
   ·intro hg4; have hg4' := hg4; try simp at hg4'
    have hl3 : w.length = 3 := by simp at hg4; omega
    apply k7 _ rfl rfl rfl
    ·intro w1; refine k5 hg4 (b6 rfl (b5 ?_)); exact i5 rfl
    apply k7 _ rfl rfl rfl
    ·intro w1; refine k5 hg4 (m7 (α := Str) w 2 rfl j9 j6 rfl rfl rfl mB rfl (by omega) (by decide) (b5 ?_)); exact i5 rfl
    apply k7 _ rfl rfl rfl
    ·intro w1; refine k5 hg4 (a7 (v := str (at_ w 2)) rfl a9 rfl (b7 mB (b4 (by omega) rfl)) (b5 ?_)); exact i5 rfl
    apply k7 _ rfl rfl rfl
    ·intro w1; refine k5 hg4 (j4 I7 rfl rfl (I6 (at_ w 2) (hwl _ (w8 (by omega)))) t4 tK fun _ _ => b5 ?_); exact i5 rfl
    refine k8 (fun w1 => p_t rfl rfl (bt1 hg4) rfl (q_z rfl)) ?_; refine nF ⟨Unit, fun _ => True, fun _ => undef, fun _ => [], fun _ => [(g2, Obj.cells #[.bool false, str (at_ w 0), str [], str [], str (at_ w 2), .slice none 0 0] C9 (0, 0))]⟩ rfl rfl ?_ ?_
    ·intro w1; refine l6 (cs := #[.bool false, str (at_ w 0), str [], str [], str (at_ w 2), .slice none 0 0]) rfl rfl (.refl _) i7 (by rfl) (by rfl) (b5 ?_); exact H4 () tK (fun h => by cases h) (.refl _) tK
    refine v7 ⟨rfl, ?_⟩; intro _ _; refine c5 rfl (c8 (l4 (B7 ?_))); refine n5 (α := Str) ?_; exact A9 (((false, at_ w 0, [], [], at_ w 2, ⟨none, 0, []⟩), (wordB (at_ w 2))) : Rl × Bool) (fun a w9 ha hw9 => D1 (cs := #[.bool false, str (at_ w 0), str [], str [], str (at_ w 2), .slice none 0 0]) (v1 := .bool (wordB (at_ w 2))) rfl rfl rfl n9 i7 rfl m0 a w9 ha.at_ hw9) rfl ⟨nj7 h0 hn0 h3 hk1 (by rw [decide_eq_true hl3]; rfl), by first | exact Nat.zero_le _ | (show (List.drop _ _).length ≤ _; rw [List.length_drop]; omega)⟩ nK mC
   intro hg4; have hg4' := hg4; try simp at hg4'
   have hl3 : ¬ w.length = 3 := by simp at hg4; omega
   refine k8 (fun w1 => l8 hg4 (q_z rfl)) (k8 (fun w1 => l8 hg4 (q_z rfl)) (k8 (fun w1 => l8 hg4 (q_z rfl)) (k8 (fun w1 => l8 hg4 (q_z rfl)) (k8 (fun w1 => p_f rfl rfl (bf2 hg4) rfl (q_z rfl)) ?_)))); refine nF ⟨Unit, fun _ => True, fun _ => undef, fun _ => [], fun _ => [(g2, Obj.cells #[.bool false, str (at_ w 0), str [], str [], str (at_ w 2), .slice none 0 0] C9 (0, 0))]⟩ rfl rfl ?_ ?_
   ·intro w1; refine l6 (cs := #[.bool false, str (at_ w 0), str [], str [], str (at_ w 2), .slice none 0 0]) rfl rfl (.refl _) i7 (by rfl) (by rfl) (b5 ?_); exact H4 () tK (fun h => by cases h) (.refl _) tK
   refine v7 ⟨rfl, ?_⟩; intro _ _; refine c5 rfl (c8 (l4 (B7 ?_))); refine n5 (α := Str) ?_; exact A9 (((false, at_ w 0, [], [], at_ w 2, ⟨none, 0, []⟩), false) : Rl × Bool) (fun a w9 ha hw9 => D1 (cs := #[.bool false, str (at_ w 0), str [], str [], str (at_ w 2), .slice none 0 0]) (v1 := .bool false) rfl rfl rfl n9 i7 rfl m0 a w9 ha.at_ hw9) rfl ⟨nj7 h0 hn0 h3 hk1 (by rw [decide_eq_false hl3]; rfl), by first | exact Nat.zero_le _ | (show (List.drop _ _).length ≤ _; rw [List.length_drop]; omega)⟩ nK mC
  have hb5' := hb5; try simp at hb5'
  have hk1 : ¬ at_ w 1 = kSee := hb5; refine i4 (J3 rfl rfl rfl (c5 rfl (c8 ?_))); refine k9 rfl (fun hb6 => ?_) (fun hb6 => ?_)
  ·have hb6' := hb6; try simp at hb6'
   have hk2 : at_ w 1 = kAlso := hb6; refine i4 (b6 rfl ?_); refine rB (α := Str) (A := A) (p := w) (ca := ca) 2 w.length mB hc ?_; rw [List.take_length]; refine U4 2 rfl j9 j6 rfl rfl rfl (by omega) ?_; have hdl2 : w.length - 2 = (w.drop 2).length := by rw [List.length_drop]
   rw [hdl2]; refine a6 ⟨_, 5, none⟩ rfl rfl J4 rfl (C8 rfl rfl X2 wI (by rfl) (by rfl) ?_); refine c8 (d6 (C3 ?_)); refine C0 4 mixed (by decide) (by decide) rfl rfl (k8 (fun w1 => z8 (cs := [.bool false, str (at_ w 0), str [], str [], str [], .slice (cutA A ca 2 1) (w.drop 2).length (ca - 2)]) rfl n9 i7 rfl rfl (R3 (o := 0) mB (S8 (List.append_nil _).symm)) (q_z rfl)) (k8 (fun w1 => a6 ⟨_, 5, none⟩ rfl rfl J4 rfl (q_z rfl)) (k8 (fun w1 => a7 (v := .slice (cutA A ca 2 1) (w.drop 2).length (ca - 2)) rfl U0 rfl (d8 mB rfl) (q_z rfl)) ?_))); refine k8 (fun w1 => j4 nJ rfl rfl (mY (w.drop 2) (by rw [List.length_drop]; omega) (fun x hx => hwl x (List.mem_of_mem_drop hx))) t4 mC fun _ _ => (q_z rfl)) ?_; refine v7 ⟨rfl, ?_⟩; refine l6 (cs := #[.bool false, str (at_ w 0), str [], str [], str [], .slice (cutA A ca 2 1) (w.drop 2).length (ca - 2)]) rfl rfl (.refl _) i7 (by rfl) (by rfl) ?_; refine c5 rfl (c8 (l4 (B7 ?_))); exact A9 (((false, at_ w 0, [], [], [], ⟨(cutA A ca 2 1), ca - 2, w.drop 2⟩), (wordsB (w.drop 2))) : Rl × Bool) (fun a w9 ha hw9 => D1 (cs := #[.bool false, str (at_ w 0), str [], str [], str [], .slice (cutA A ca 2 1) (w.drop 2).length (ca - 2)]) (v1 := .bool (wordsB (w.drop 2))) rfl rfl rfl n9 i7 rfl m0 a w9 ha.at_ hw9) rfl ⟨rd_also h0 hn0 h3 hk2 rfl, by first | exact Nat.zero_le _ | (show (List.drop _ _).length ≤ _; rw [List.length_drop]; omega)⟩ nK mC
  have hb6' := hb6; try simp at hb6'
  have hk2 : ¬ at_ w 1 = kAlso := hb6; refine i4 (J3 rfl rfl rfl (c5 rfl (c8 ?_))); refine k9 rfl (fun hb7 => ?_) (fun hb7 => ?_)
  ·have hb7' := hb7; try simp at hb7'
   have hk3 : at_ w 1 = kIs := hb7; refine i4 (b6 rfl ?_); refine m7 (α := Str) w 2 rfl j9 j6 rfl rfl rfl mB rfl (by omega) (by decide) (a7 (v := str (at_ w 2)) rfl a9 rfl (b7 mB (b4 (by omega) rfl)) (a6 ⟨_, 3, none⟩ rfl rfl Y4 rfl (C8 rfl rfl X2 j6 (by rfl) (by rfl) ?_))); refine c8 (d6 (i4 (b6 rfl ?_))); refine k6 rfl j9 rfl ?_; refine Q0 rfl rfl rfl (c8 ?_); refine k9 rfl (fun hb8 => ?_) (fun hb8 => ?_)
   ·have hb8' := hb8; try simp at hb8'
    have hl4 : 3 < w.length := by omega
    refine d6 (i4 (b6 rfl ?_)); refine m7 (α := Str) w 3 rfl j9 j6 rfl rfl rfl mB rfl (by omega) (by decide) (a7 (v := str (at_ w 3)) rfl a9 rfl (b7 mB (b4 (by omega) rfl)) ?_); refine iK rfl rfl rfl (b6 rfl ?_); refine v6 rfl rfl ?_ ?_
    ·intro hg5; have hg5' := hg5; try simp at hg5'
     have ha3 : at_ w 3 = kAlso := Classical.not_not.1 (nl_of hg5); refine k5 hg5 (b6 rfl (k5 hg5 ?_)); refine rB (α := Str) (A := A) (p := w) (ca := ca) 4 w.length mB hc ?_; rw [List.take_length]; refine U4 4 rfl j9 j6 rfl rfl rfl (by omega) ?_; have hdl4 : w.length - 4 = (w.drop 4).length := by rw [List.length_drop]
     rw [hdl4]; refine k5 hg5 ?_; refine j4 nJ rfl rfl (mY (w.drop 4) (by rw [List.length_drop]; omega) (fun x hx => hwl x (List.mem_of_mem_drop hx))) (hpR := [_, _]) (.refl _) mC fun _ _ => ?_; refine k5 hg5 (H6 rfl rfl ?_); refine p_f rfl rfl (bf1 hg5) rfl (c8 ?_); refine j0 rfl (fun hb9 => ?_) (fun hb9 => ?_)
     ·have hb9' := hb9; try simp at hb9'
      have hw4 : ¬ wordsB (w.drop 4) = true := by simpa using hb9
      have hpn := nx3 h0 hn0 hk3 hl4 (fun q => hw4 q.2); refine i4 (G3 rfl n9 i7 rfl m0 (by rfl) (l6 (cs := #[.bool false, str (at_ w 0), str [], str (at_ w 2), str [], .slice none 0 0]) rfl rfl (.swap _ _ _) i7 (by rfl) (by rfl) ?_)); refine c5 rfl (c8 (E9 (u5 (B7 ?_)))); refine n5 (α := Str) ?_; exact A9 (((false, at_ w 0, [], at_ w 2, [], ⟨none, 0, []⟩), false) : Rl × Bool) (fun a w9 ha hw9 => D1 (cs := #[.bool false, str (at_ w 0), str [], str (at_ w 2), str [], .slice none 0 0]) (v1 := .bool false) rfl rfl rfl n9 i7 rfl m0 a w9 ha.at_ hw9) rfl ⟨kW hpn, by first | exact Nat.zero_le _ | (show (List.drop _ _).length ≤ _; rw [List.length_drop]; omega)⟩ nK mC
     have hb9' := hb9; try simp at hb9'
     have hw4 : wordsB (w.drop 4) = true := by simpa using hb9
     refine i8 (i1 (c9 (b6 rfl ?_))); refine rB (α := Str) (A := A) (p := w) (ca := ca) 4 w.length mB hc ?_; rw [List.take_length]; refine U4 4 rfl j9 j6 rfl rfl rfl (by omega) ?_; have hdl4 : w.length - 4 = (w.drop 4).length := by rw [List.length_drop]
     rw [hdl4]; refine a6 ⟨_, 5, none⟩ rfl rfl J4 rfl (C8 rfl rfl X2 wI (by rfl) (by rfl) ?_); refine c8 (d6 (C3 ?_)); refine C0 5 mixed (by decide) (by decide) rfl rfl (k8 (fun w1 => z8 (cs := [.bool false, str (at_ w 0), str [], str (at_ w 2), str [], .slice (cutA A ca 4 1) (w.drop 4).length (ca - 4)]) rfl n9 i7 rfl rfl (R3 (o := 0) mB (S8 (List.append_nil _).symm)) (q_z rfl)) (r7 rfl (k8 (fun w1 => m7 (α := Str) w 2 rfl j9 j6 rfl rfl rfl mB rfl (by omega) (by decide) (q_z rfl)) (k8 (fun w1 => a7 (v := str (at_ w 2)) rfl a9 rfl (b7 mB (b4 (by omega) rfl)) (q_z rfl)) ?_)))); refine k8 (fun w1 => j4 I7 rfl rfl (I6 (at_ w 2) (hwl _ (w8 (by omega)))) t4 tK fun _ _ => (q_z rfl)) ?_; refine v7 ⟨rfl, ?_⟩; refine l6 (cs := #[.bool false, str (at_ w 0), str [], str (at_ w 2), str [], .slice (cutA A ca 4 1) (w.drop 4).length (ca - 4)]) rfl rfl (.refl _) i7 (by rfl) (by rfl) ?_; refine c5 rfl (c8 (l4 (B7 ?_))); exact A9 (((false, at_ w 0, [], at_ w 2, [], ⟨(cutA A ca 4 1), ca - 4, w.drop 4⟩), (wordB (at_ w 2))) : Rl × Bool) (fun a w9 ha hw9 => D1 (cs := #[.bool false, str (at_ w 0), str [], str (at_ w 2), str [], .slice (cutA A ca 4 1) (w.drop 4).length (ca - 4)]) (v1 := .bool (wordB (at_ w 2))) rfl rfl rfl n9 i7 rfl m0 a w9 ha.at_ hw9) rfl ⟨rd_is5 h0 hn0 hk3 hl4 ⟨ha3, hw4⟩ rfl, by first | exact Nat.zero_le _ | (show (List.drop _ _).length ≤ _; rw [List.length_drop]; omega)⟩ nK mC
    intro hg5; have hg5' := hg5; try simp at hg5'
    have ha3 : ¬ at_ w 3 = kAlso := ls_of hg5; refine l8 hg5 (l8 hg5 (l8 hg5 (l8 hg5 ?_))); refine p_t rfl rfl (bt2 hg5) rfl ?_; refine c8 (c_t rfl rfl ?_); have hpn := nx3 h0 hn0 hk3 hl4 (fun q => ha3 q.1); refine i4 (G3 rfl n9 i7 rfl m0 (by rfl) (l6 (cs := #[.bool false, str (at_ w 0), str [], str (at_ w 2), str [], .slice none 0 0]) rfl rfl (.swap _ _ _) i7 (by rfl) (by rfl) ?_)); refine c5 rfl (c8 (E9 (u5 (B7 ?_)))); refine n5 (α := Str) ?_; exact A9 (((false, at_ w 0, [], at_ w 2, [], ⟨none, 0, []⟩), false) : Rl × Bool) (fun a w9 ha hw9 => D1 (cs := #[.bool false, str (at_ w 0), str [], str (at_ w 2), str [], .slice none 0 0]) (v1 := .bool false) rfl rfl rfl n9 i7 rfl m0 a w9 ha.at_ hw9) rfl ⟨kW hpn, by first | exact Nat.zero_le _ | (show (List.drop _ _).length ≤ _; rw [List.length_drop]; omega)⟩ nK mC
   have hb8' := hb8; try simp at hb8'
   have hl4 : ¬ 3 < w.length := by omega
   refine i8 (i1 (d6 (C3 ?_))); refine C0 5 mixed (by decide) (by decide) rfl rfl (k8 (fun w1 => z8 (cs := [.bool false, str (at_ w 0), str [], str (at_ w 2), str [], .slice none 0 0]) rfl n9 i7 rfl rfl (R3 (o := 0) mB (S8 (List.append_nil _).symm)) (q_z rfl)) (r7 rfl (k8 (fun w1 => m7 (α := Str) w 2 rfl j9 j6 rfl rfl rfl mB rfl (by omega) (by decide) (q_z rfl)) (k8 (fun w1 => a7 (v := str (at_ w 2)) rfl a9 rfl (b7 mB (b4 (by omega) rfl)) (q_z rfl)) ?_)))); refine k8 (fun w1 => j4 I7 rfl rfl (I6 (at_ w 2) (hwl _ (w8 (by omega)))) t4 tK fun _ _ => (q_z rfl)) ?_; refine v7 ⟨rfl, ?_⟩; refine l6 (cs := #[.bool false, str (at_ w 0), str [], str (at_ w 2), str [], .slice none 0 0]) rfl rfl (.refl _) i7 (by rfl) (by rfl) ?_; refine c5 rfl (c8 (l4 (B7 ?_))); refine n5 (α := Str) ?_; exact A9 (((false, at_ w 0, [], at_ w 2, [], ⟨none, 0, []⟩), (wordB (at_ w 2))) : Rl × Bool) (fun a w9 ha hw9 => D1 (cs := #[.bool false, str (at_ w 0), str [], str (at_ w 2), str [], .slice none 0 0]) (v1 := .bool (wordB (at_ w 2))) rfl rfl rfl n9 i7 rfl m0 a w9 ha.at_ hw9) rfl ⟨rd_is3 h0 hn0 h3 hk3 hl4 rfl, by first | exact Nat.zero_le _ | (show (List.drop _ _).length ≤ _; rw [List.length_drop]; omega)⟩ nK mC
  have hb7' := hb7; try simp at hb7'
  have hk3 : ¬ at_ w 1 = kIs := hb7; refine i8 (w6 (i1 (i4 ?_))); refine G3 rfl n9 i7 rfl m0 (by rfl) (l6 (cs := #[.bool false, str (at_ w 0), str [], str [], str [], .slice none 0 0]) rfl rfl (.swap _ _ _) i7 (by rfl) (by rfl) ?_); refine c5 rfl (c8 (l4 ?_)); refine n5 (α := Str) ?_; exact A9 (((false, at_ w 0, [], [], [], ⟨none, 0, []⟩), false) : Rl × Bool) (fun a w9 ha hw9 => D1 (cs := #[.bool false, str (at_ w 0), str [], str [], str [], .slice none 0 0]) (v1 := .bool false) rfl rfl rfl n9 i7 rfl m0 a w9 ha.at_ hw9) rfl ⟨kW (pt_none h0 h3 hk3 hk2 hk1), by first | exact Nat.zero_le _ | (show (List.drop _ _).length ≤ _; rw [List.length_drop]; omega)⟩ nK mC
 intro hg3; have hg3' := hg3; try simp at hg3'
 have hn0 : wordB (at_ w 0) = false := by simpa using hg3
 refine l8 hg3 (l8 hg3 (l8 hg3 ?_)); refine p_t rfl rfl (bt2 hg3) rfl ?_; refine c8 (c_t rfl rfl ?_); have hpn := kz4 h0 (.inl hn0); refine i4 (u0 _ rfl rfl (fun _ => M1 ..) (l6 (cs := #[.bool false, str [], str [], str [], str [], .slice none 0 0]) rfl rfl (.refl _) i7 (by rfl) (by rfl) ?_)); refine c5 rfl (c8 (E9 ?_)); refine n5 (α := Str) ?_; exact A9 (((false, [], [], [], [], ⟨none, 0, []⟩), false) : Rl × Bool) (fun a w9 ha hw9 => D1 (cs := #[.bool false, str [], str [], str [], str [], .slice none 0 0]) (v1 := .bool false) rfl rfl rfl n9 i7 rfl m0 a w9 ha.at_ hw9) rfl ⟨kW (hpn), by first | exact Nat.zero_le _ | (show (List.drop _ _).length ≤ _; rw [List.length_drop]; omega)⟩ nK mC
end Go.Proofs.YtdgmfagfpbdbhaaGreatDoor
end
