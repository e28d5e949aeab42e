/- Texts of this claim, one behind another. -/

import Derived.Test.YtdlbbfcfahahdaaGreatAAo
import Derived.Test.YtdlbbfcfahahdaaGreatAAf
import Derived.Test.YtdlbbfcfahahdaaGreatAAe
set_option linter.unusedVariables false
set_option linter.unusedSimpArgs false
section
namespace Go.Proofs.YtdlbbfcfahahdaaGreat
open Go Go.W
set_option maxRecDepth 20000
attribute [local irreducible] HL HC HQ HB Row Rows2 Blk Facts
theorem firstE_none {n : Nat} : ∀ {xs : List Ad}, (∀ x ∈ xs, adErr n x = 0) → firstE n xs = 0
  | [], _ => rfl
  | x :: r, h => by rw [firstE, if_neg (fun e => e (h x (List.mem_cons_self ..)))]; exact firstE_none fun y hy => h y (List.mem_cons_of_mem _ hy)
theorem chk_mk {c : Ch} {ss : List Int} {xs : List Ad} (hc : ChOK c) (h1 : 1 ≤ ss.length ∧ ss.length ≤ 5) (hs : ∀ v ∈ ss, 0 ≤ v ∧ v ≤ 9) (hx : xs.length ≤ 8) (ha : ∀ x ∈ xs, adErr ss.length x = 0) : chkS c ss xs = 0 := by
  obtain ⟨q1, q2, q3, q4, q5, q6⟩ := hc; unfold chkS; rw [if_neg (Classical.not_not.2 (by intro v hv; simp only [chQ, List.mem_cons, List.not_mem_nil, or_false] at hv; rcases hv with rfl | rfl | rfl | rfl <;> assumption)), if_neg (by omega), if_neg (by omega), if_neg (by omega), if_neg (Classical.not_not.2 hs), if_neg (by omega)]; exact firstE_none ha
abbrev saB (g : Nat) (c : Ch) (sA : Option Addr) (sn sC : Nat) (aA : Option Addr) (an aC : Nat) : Nat × Obj := (g, .cells #[int c.1, int c.2.1, int c.2.2.1, int c.2.2.2.1, int c.2.2.2.2.1, int c.2.2.2.2.2, .slice sA sn sC, .slice aA an aC] T.api_Sales (0, 0))
abbrev SRes := Ch × Sl Int × Sl Ad
structure SOf (m : Nat) (x : SRes) : Prop where
  ok : chkS x.1 x.2.1.l x.2.2.l = 0
  x8 : x.2.2.l.length ≤ m
  ca : x.2.1.l.length ≤ x.2.1.c
  cb : x.2.2.l.length ≤ x.2.2.c
set_option maxHeartbeats 1000000 in
theorem kit_SalesOf_meets {g : Nat} {A : Option Addr} {c : Nat} {nums : List Int} {s : Int × Int} (m : Nat) (hn : nums.length ≤ 9223372036854775807) (hs : DOK nums s) (hm : m ≤ 8) :
    Meets Tryz.prog F.kit_SalesOf [.pointer (some ⟨g, 0, none⟩), int m] (diceCon g A c nums s (SOf m) (fun x => saV x.1 x.2.1 x.2.2) (fun x => saL x.2.1 x.2.2)) := by
 refine meets_intro F.kit_SalesOf_f rfl (Nat.le_of_ble_eq_true rfl) fun w0 => ?_; refine hc_seq (hc_region ?_); refine r_alloc rfl (fun _ => T.al_api_Sales _) fun g4 => ?_; refine hl_nil (then_n (hc_seq (hc_region (r_move rfl rfl (r_move rfl rfl ?_))))); refine hl_call F.kit_Dice_To_cb rfl rfl (kit_Dice_To_meets (30) hn hs (by omega)) (List.Perm.swap _ _ _) ⟨mB, trivial⟩ fun xs1 hs1 => ?_; obtain ⟨s1, z1⟩ := xs1; obtain ⟨hs1, hz1⟩ := hs1; simp only at hs1; have hz1 : 0 ≤ z1 ∧ z1 ≤ 30 := to_bd hz1 (by omega); refine r_move rfl rfl ?_; refine hl_call F.kit_Dice_To_cb rfl rfl (kit_Dice_To_meets (200) hn hs1 (by omega)) (List.Perm.refl _) ⟨mB, trivial⟩ fun xs2 hs2 => ?_; obtain ⟨s2, z2⟩ := xs2; obtain ⟨hs2, hz2⟩ := hs2; simp only at hs2; have hz2 : 0 ≤ z2 ∧ z2 ≤ 200 := to_bd hz2 (by omega); refine r_buildSlice _ rfl rfl (fun _ => T.bs_ints_3 ..) fun gS => ?_; refine hl_letgo (rows ([0, z1, z2] : List Int)) (List.prefix_refl _) ?_; refine hl_call F.kit_Dice_One_cb rfl rfl (kit_Dice_One_meets ([0, z1, z2]) hn hs2 (show 0 < 3 by decide) (show 3 ≤ 1000 by decide)) (List.Perm.refl _) ⟨mB, mB, trivial⟩ fun xs3 hs3 => ?_; obtain ⟨s3, za⟩ := xs3; obtain ⟨hs3, hza⟩ := hs3; simp only at hs3
 have hza : 0 ≤ za ∧ za ≤ 200 := by
   have hm := hza; simp only [List.mem_cons, List.not_mem_nil, or_false] at hm; rcases hm with rfl | rfl | rfl <;> omega
 refine r_move rfl rfl ?_; refine hl_call F.kit_Dice_To_cb rfl rfl (kit_Dice_To_meets (90) hn hs3 (by omega)) (List.Perm.refl _) ⟨mB, trivial⟩ fun xs4 hs4 => ?_; obtain ⟨s4, zb⟩ := xs4; obtain ⟨hs4, hzb⟩ := hs4; simp only at hs4; have hzb : 0 ≤ zb ∧ zb ≤ 90 := to_bd hzb (by omega); refine r_move rfl rfl ?_; refine hl_call F.kit_Dice_To_cb rfl rfl (kit_Dice_To_meets (30) hn hs4 (by omega)) (List.Perm.refl _) ⟨mB, trivial⟩ fun xs5 hs5 => ?_; obtain ⟨s5, zc⟩ := xs5; obtain ⟨hs5, hzc⟩ := hs5; simp only at hs5; have hzc : 0 ≤ zc ∧ zc ≤ 30 := to_bd hzc (by omega); refine r_move rfl rfl ?_; refine hl_call F.kit_Dice_To_cb rfl rfl (kit_Dice_To_meets (99) hn hs5 (by omega)) (List.Perm.refl _) ⟨mB, trivial⟩ fun xs6 hs6 => ?_; obtain ⟨s6, zd⟩ := xs6; obtain ⟨hs6, hzd⟩ := hs6; simp only at hs6; have hzd : 0 ≤ zd ∧ zd ≤ 99 := to_bd hzd (by omega); refine r_move rfl rfl (r_move rfl rfl ?_); refine hl_call F.kit_Dice_To_cb rfl rfl (kit_Dice_To_meets (20) hn hs6 (by omega)) (List.Perm.refl _) ⟨mB, trivial⟩ fun xs7 hs7 => ?_; obtain ⟨s7, z7⟩ := xs7; obtain ⟨hs7, hz7⟩ := hs7; simp only at hs7; have hz7 : 0 ≤ z7 ∧ z7 ≤ 20 := to_bd hz7 (by omega); refine r_buildSlice _ rfl rfl (fun _ => T.bs_ints_3 ..) fun gS => ?_; refine hl_letgo (rows ([0, z7, 50] : List Int)) (List.prefix_refl _) ?_; refine hl_call F.kit_Dice_One_cb rfl rfl (kit_Dice_One_meets ([0, z7, 50]) hn hs7 (show 0 < 3 by decide) (show 3 ≤ 1000 by decide)) (List.Perm.refl _) ⟨mB, mB, trivial⟩ fun xs8 hs8 => ?_; obtain ⟨s8, ze⟩ := xs8; obtain ⟨hs8, hze⟩ := hs8; simp only at hs8
 have hze : 0 ≤ ze ∧ ze ≤ 50 := by
   have hm := hze; simp only [List.mem_cons, List.not_mem_nil, or_false] at hm; rcases hm with rfl | rfl | rfl <;> omega
 refine r_move rfl rfl ?_; refine hl_call F.kit_Dice_From_cb rfl rfl (kit_Dice_From_meets (1) (3) hn hs8 (by omega)) (List.Perm.refl _) ⟨mB, trivial⟩ fun xs9 hs9 => ?_; obtain ⟨s9, zf⟩ := xs9; obtain ⟨hs9, hzf⟩ := hs9; simp only at hs9; have hzf : 1 ≤ zf ∧ zf ≤ 3 := from_bd hzf (by omega); refine r_build _ rfl rfl (fun _ => T.bd_api_Charges_0_1_2_3_4_5 ..) ?_; refine r_build _ rfl rfl (fun _ => T.bd_api_Sales_0 ..) ?_; refine r_alloc rfl (fun _ => T.al_api_Sales _) fun g5 => ?_; refine r_storeS (cs := #[int za, int zb, int zc, int zd, int ze, int zf, .slice none 0 0, .slice none 0 0]) rfl rfl (.refl _) T.sz_api_Sales (by rfl) (by rfl) ?_; have hch : ChOK (za, zb, zc, zd, ze, zf) := ⟨by show 0 ≤ za ∧ za ≤ 999; omega, by show 0 ≤ zb ∧ zb ≤ 999; omega, by show 0 ≤ zc ∧ zc ≤ 999; omega, by show 0 ≤ zd ∧ zd ≤ 999; omega, by show 0 ≤ ze ∧ ze ≤ 50; omega, by show 1 ≤ zf ∧ zf ≤ 5; omega⟩; refine hl_nil (then_n (hc_seq (hc_seq (hc_region (r_move rfl rfl ?_))))); refine hl_call F.kit_Dice_From_cb rfl rfl (kit_Dice_From_meets (1) (5) hn hs9 (by omega)) (List.Perm.swap _ _ _) ⟨mB, trivial⟩ fun xs10 hs10 => ?_; obtain ⟨s10, zn⟩ := xs10; obtain ⟨hs10, hzn⟩ := hs10; simp only at hs10; have hzn : 1 ≤ zn ∧ zn ≤ 5 := from_bd hzn (by omega); obtain ⟨zn, rfl⟩ := Int.eq_ofNat_of_zero_le (show 0 ≤ zn by omega); refine r_assign rfl rfl (hl_nil (then_n (hc_block ?_))); refine hc_loop (β := List Int × OutC × Hp × Nat × (Int × Int)) ⟨fun ⟨l, o, og, i, s⟩ => Grow T.int 1 o.1 l.length o.2 (rows l) og ∧ l.length + i = zn ∧ (∀ v ∈ l, 0 ≤ v ∧ v ≤ 9) ∧ DOK nums s, fun ⟨l, o, og, i, s⟩ => [(0, .pointer (some ⟨g, 0, none⟩)), (1, int m), (4, .pointer (some ⟨g4, 0, none⟩)), (5, .pointer (some ⟨g5, 0, none⟩)), (6, int i)], fun ⟨l, o, og, i, s⟩ => dice g A c nums s :: saB g5 ((za, zb, zc, zd, ze, zf) : Ch) o.1 l.length o.2 none 0 0 :: saB g4 (0, 0, 0, 0, 0, 0) none 0 0 none 0 0 :: og, fun _ => [Row A (rows nums)]⟩ (fun x => x.2.2.2.1) ([], (none, 0), [], zn, s10) ⟨Grow.nil _ _, Nat.zero_add _, fun v hv => by simp at hv, hs10⟩ ⟨rfl, rfl, rfl, rfl, rfl, trivial⟩ (.refl _) ⟨mB, trivial⟩ fun x hx => ?_; clear hs hs1 hs2 hs3 hs4 hs5 hs6 hs7 hs8 hs9 hs10; obtain ⟨l, o, og, i, s⟩ := x; obtain ⟨hG, hli, hok, hs⟩ := hx; refine hc_seq (hc_seq (hc_region (r_move rfl rfl (r_gtr rfl rfl rfl (hl_nil (then_n ?_))))))
 first | refine c_dec rfl (fun hb1 => ?_) (fun hb1 => ?_) | refine hc_cond rfl (fun hb1 => ?_) (fun hb1 => ?_)
 ·have hb1' := hb1; try simp at hb1'
  have hi0 : 0 < i := by omega
  refine hc_skip (then_n (hc_seq (hc_block ?_))); refine hc_drawW (dice g A c nums s :: og) ([saB g5 ((za, zb, zc, zd, ze, zf) : Ch) o.1 l.length o.2 none 0 0, saB g4 (0, 0, 0, 0, 0, 0) none 0 0 none 0 0]) (perm_of fun p => by simp only [List.countP_append, List.countP_cons, List.countP_nil]; omega) 8 [6, 4] mixed (by decide) (by decide) (by decide) rfl rfl rfl ?_
  apply hb_ex _ rfl rfl rfl
  ·intro w1
   first | refine r_fieldAddr ⟨_, 6, none⟩ rfl rfl T.fa_api_Sales_1 rfl ?_ | refine r_fieldAddr _ rfl rfl T.fa_api_Sales_1 rfl ?_
   refine hl_nil ?_; exact qe_done rfl
  apply hb_ex _ rfl rfl rfl
  ·intro w1
   first | refine r_load rfl T.cell_ints rfl (cell_blk mB rfl) ?_ | refine r_load rfl T.cell_ints rfl (cell_own mB rfl) ?_ | refine r_load rfl T.cell_ints rfl (cell_row mB (rows_get0 (by omega) rfl)) ?_ | refine r_load rfl T.cell_ints rfl (cell_row_f mB (rows_get (by omega) rfl)) ?_ | refine r_load rfl T.cell_ints rfl (cell_rowg mB rfl) ?_
   refine hl_nil ?_; exact qe_done rfl
  refine hb_ex _ rfl rfl rfl (fun w1 => r_move rfl rfl (hl_nil (qe_done rfl))) ?_; refine hb_ex _ rfl rfl rfl (fun w1 => r_move rfl rfl (hl_nil (qe_done rfl))) ?_; refine hb_wr ⟨(Int × Int) × Int, fun x => DOK nums x.1 ∧ 0 ≤ x.2 ∧ x.2 ≤ 9, fun x => int x.2, fun _ => [], fun x => dice g A c nums x.1 :: og⟩ rfl rfl rfl ?_ ?_
  ·intro w1; refine hl_call F.kit_Dice_To_cb rfl rfl (kit_Dice_To_meets (9) hn hs (by omega)) (List.Perm.refl _) ⟨mB, trivial⟩ fun xs1 hs1 => ?_; obtain ⟨s1, z⟩ := xs1; obtain ⟨hs1, hz⟩ := hs1; simp only at hs1; have hz : 0 ≤ z ∧ z ≤ 9 := to_bd hz (by omega); refine hl_nil ?_; exact qw_done (s1, z) ⟨hs1, hz⟩ (fun _ => rfl) (List.Sublist.refl _) trivial
  refine hb_vs ⟨Nat × Int, fun x => 0 ≤ x.2 ∧ x.2 ≤ 9, fun x => .slice (some ⟨x.1, 0, none⟩) 4 4, fun x => [Row (some ⟨x.1, 0, none⟩) (rows ([0, 0, 3, x.2] : List Int))]⟩ rfl rfl rfl ?_ ?_
  ·intro x hx; intro w1; refine r_buildSlice _ rfl rfl (fun _ => T.bs_ints_4 ..) fun gS => ?_; refine hl_nil ?_; refine hq_letgo (rows ([0, 0, 3, x.2] : List Int)) (List.prefix_refl _) ?_; exact qv_done (gS, x.2) hx.2 rfl ⟨m0, trivial⟩
  refine hb_wr ⟨(Int × Int) × Int, fun x => DOK nums x.1 ∧ 0 ≤ x.2 ∧ x.2 ≤ 9, fun x => int x.2, fun _ => [], fun x => dice g A c nums x.1 :: og⟩ rfl rfl rfl ?_ ?_
  ·intro y4 hy4 y5 hy5; intro w1; refine hl_call F.kit_Dice_One_cb rfl rfl (kit_Dice_One_meets ([0, 0, 3, y5.2]) hn hy4.1 (show 0 < 4 by decide) (show 4 ≤ 1000 by decide)) (List.Perm.refl _) ⟨mB, mB, trivial⟩ fun xs2 hs2 => ?_; obtain ⟨s2, z2⟩ := xs2; obtain ⟨hs2, hz2⟩ := hs2; simp only at hs2
   have hz2 : 0 ≤ z2 ∧ z2 ≤ 9 := by
     have hm := hz2; simp only [List.mem_cons, List.not_mem_nil, or_false] at hm; rcases hm with rfl | rfl | rfl | rfl <;> omega
   refine hl_nil ?_; exact qw_done (s2, z2) ⟨hs2, hz2⟩ (fun _ => rfl) (List.Sublist.refl _) trivial
  refine hb_vs ⟨Nat × Int, fun x => 0 ≤ x.2 ∧ x.2 ≤ 9, fun x => .slice (some ⟨x.1, 0, none⟩) 1 1, fun x => [Row (some ⟨x.1, 0, none⟩) (rows [x.2])]⟩ rfl rfl rfl ?_ ?_
  ·intro x hx; intro w1; refine r_buildSlice _ rfl rfl (fun _ => T.bs_ints_1 ..) fun gS => ?_; refine hl_nil ?_; refine hq_letgo (rows [x.2]) (List.prefix_refl _) ?_; exact qv_done (gS, x.2) hx.2 rfl ⟨m0, trivial⟩
  refine hb_nil ⟨rfl, ?_⟩; intro _ _ _ _ x6 h6 x7 h7; obtain ⟨s2, _⟩ := x6; have hs2 : DOK nums s2 := h6.1; obtain ⟨g7, z⟩ := x7; simp only at h7; refine r_append (hp' := [dice g A c nums s2, saB g5 ((za, zb, zc, zd, ze, zf) : Ch) o.1 l.length o.2 none 0 0, saB g4 (0, 0, 0, 0, 0, 0) none 0 0 none 0 0]) (l.length + 1) (rows (l ++ [z])) T.el_ints rfl rfl rfl hG (show List.Perm (dice g A c nums s2 :: og ++ [saB g5 ((za, zb, zc, zd, ze, zf) : Ch) o.1 l.length o.2 none 0 0, saB g4 (0, 0, 0, 0, 0, 0) none 0 0 none 0 0]) (og ++ [dice g A c nums s2, saB g5 ((za, zb, zc, zd, ze, zf) : Ch) o.1 l.length o.2 none 0 0, saB g4 (0, 0, 0, 0, 0, 0) none 0 0 none 0 0]) from (perm_of fun p => by simp only [List.countP_append, List.countP_cons, List.countP_nil]; omega)) (Src.row (news := rows [z]) (m := 1) mB rfl (rows_one _) (by decide)) rfl (rows_append _ _).symm (by unfold maxLen; omega) (by omega) fun A4 c4 og4 hG4 => ?_
  first | refine r_fieldAddr ⟨_, 6, none⟩ rfl rfl T.fa_api_Sales_1 rfl ?_ | refine r_fieldAddr _ rfl rfl T.fa_api_Sales_1 rfl ?_
  refine r_store (hp' := og4 ++ [dice g A c nums s2, saB g4 (0, 0, 0, 0, 0, 0) none 0 0 none 0 0]) rfl rfl (show List.Perm (og4 ++ [dice g A c nums s2, saB g5 ((za, zb, zc, zd, ze, zf) : Ch) o.1 l.length o.2 none 0 0, saB g4 (0, 0, 0, 0, 0, 0) none 0 0 none 0 0]) (saB g5 ((za, zb, zc, zd, ze, zf) : Ch) o.1 l.length o.2 none 0 0 :: (og4 ++ [dice g A c nums s2, saB g4 (0, 0, 0, 0, 0, 0) none 0 0 none 0 0])) from (perm_of fun p => by simp only [List.countP_append, List.countP_cons, List.countP_nil]; omega)) T.sz_ints (by rfl) (by rfl) ?_; refine hl_nil (inb_n (then_n (hc_region (r_move rfl rfl ?_)))); refine r_sub ((i - 1 : Nat) : Int) rfl rfl rfl (by omega) (by unfold I64; omega) ?_; refine r_assign rfl rfl (hl_nil ?_); have e1 : (l ++ [z]).length = l.length + 1 := List.length_append; refine hq_perm (show List.Perm (saB g5 ((za, zb, zc, zd, ze, zf) : Ch) A4 (l.length + 1) c4 none 0 0 :: (og4 ++ [dice g A c nums s2, saB g4 (0, 0, 0, 0, 0, 0) none 0 0 none 0 0])) (dice g A c nums s2 :: saB g5 ((za, zb, zc, zd, ze, zf) : Ch) A4 (l.length + 1) c4 none 0 0 :: saB g4 (0, 0, 0, 0, 0, 0) none 0 0 none 0 0 :: og4) from (perm_of fun p => by simp only [List.countP_append, List.countP_cons, List.countP_nil]; omega)) ?_; exact again _ (l ++ [z], (A4, c4), og4, i - 1, s2) ⟨by show Grow _ _ _ (l ++ [_]).length _ _ _; rw [e1]; exact hG4, by rw [e1]; omega, forall_snoc hok h7, hs2⟩ (by show i - 1 < i; omega) ⟨rfl, rfl, rfl, rfl, rfl, trivial⟩ (by show List.Sublist (_ :: saB g5 _ _ (l ++ [_]).length _ _ _ _ :: _) _; rw [e1]; exact List.Sublist.refl _) ⟨mB, trivial⟩
 ·have hb1' := hb1; try simp at hb1'
  obtain rfl : i = 0 := by omega
  refine hc_exit (then_exit (then_exit (inb_hit (then_n (hc_seq (hc_seq ?_)))))); obtain ⟨sA, sC⟩ := o; have hCle := hG.le; refine hc_count (og ++ [dice g A c nums s, saB g5 ((za, zb, zc, zd, ze, zf) : Ch) sA l.length sC none 0 0, saB g4 (0, 0, 0, 0, 0, 0) none 0 0 none 0 0]) (by intro p; simp only [List.countP_append, List.countP_cons, List.countP_nil]; omega) ?_; refine hc_grown hG ?_; clear hG; refine hc_region (r_move rfl rfl (r_move rfl rfl ?_)); refine hl_call F.kit_Dice_To_cb rfl rfl (kit_Dice_To_meets (m) hn hs (by omega)) (List.Perm.refl _) ⟨mB, trivial⟩ fun xs11 hs11 => ?_; obtain ⟨s11, zm⟩ := xs11; obtain ⟨hs11, hzm⟩ := hs11; simp only at hs11; have hzm : 0 ≤ zm ∧ zm ≤ m := to_bd hzm (by omega); obtain ⟨zm, rfl⟩ := Int.eq_ofNat_of_zero_le hzm.1; refine r_assign rfl rfl (hl_nil (then_n (hc_block ?_))); refine hc_loop (β := List Ad × OutC × Hp × Nat × (Int × Int)) ⟨fun ⟨q, o, og, i, s⟩ => Grow T.api_Advert 3 o.1 q.length o.2 (rows q) og ∧ q.length + i ≤ m ∧ (∀ x ∈ q, adErr l.length x = 0) ∧ DOK nums s, fun ⟨q, o, og, i, s⟩ => [(0, .pointer (some ⟨g, 0, none⟩)), (1, int m), (4, .pointer (some ⟨g4, 0, none⟩)), (5, .pointer (some ⟨g5, 0, none⟩)), (7, int i)], fun ⟨q, o, og, i, s⟩ => dice g A c nums s :: saB g5 ((za, zb, zc, zd, ze, zf) : Ch) sA l.length sC o.1 q.length o.2 :: saB g4 (0, 0, 0, 0, 0, 0) none 0 0 none 0 0 :: og, fun _ => [Row sA (rows l), Row A (rows nums)]⟩ (fun x => x.2.2.2.1) ([], (none, 0), [], zm, s11) ⟨Grow.nil _ _, by rw [List.length_nil]; omega, fun v hv => by simp at hv, hs11⟩ ⟨rfl, rfl, rfl, rfl, rfl, trivial⟩ (.refl _) ⟨mB, mB, trivial⟩ fun x hx => ?_; clear hs hs11; obtain ⟨q, o, og, i, s⟩ := x; obtain ⟨hG, hqi, hok2, hs⟩ := hx; refine hc_seq (hc_seq (hc_region (r_move rfl rfl (r_gtr rfl rfl rfl (hl_nil (then_n ?_))))))
  first | refine c_dec rfl (fun hb2 => ?_) (fun hb2 => ?_) | refine hc_cond rfl (fun hb2 => ?_) (fun hb2 => ?_)
  ·have hb2' := hb2; try simp at hb2'
   have hi0 : 0 < i := by omega
   refine hc_skip (then_n (hc_seq (hc_block ?_))); refine hc_drawW (dice g A c nums s :: og) ([saB g5 ((za, zb, zc, zd, ze, zf) : Ch) sA l.length sC o.1 q.length o.2, saB g4 (0, 0, 0, 0, 0, 0) none 0 0 none 0 0]) (perm_of fun p => by simp only [List.countP_append, List.countP_cons, List.countP_nil]; omega) 8 [6] mixed (by decide) (by decide) (by decide) rfl rfl rfl ?_
   apply hb_ex _ rfl rfl rfl
   ·intro w1
    first | refine r_fieldAddr ⟨_, 7, none⟩ rfl rfl T.fa_api_Sales_2 rfl ?_ | refine r_fieldAddr _ rfl rfl T.fa_api_Sales_2 rfl ?_
    refine hl_nil ?_; exact qe_done rfl
   apply hb_ex _ rfl rfl rfl
   ·intro w1
    first | refine r_load rfl T.cell_L_api_Advert rfl (cell_blk mB rfl) ?_ | refine r_load rfl T.cell_L_api_Advert rfl (cell_own mB rfl) ?_ | refine r_load rfl T.cell_L_api_Advert rfl (cell_row mB (rows_get0 (by omega) rfl)) ?_ | refine r_load rfl T.cell_L_api_Advert rfl (cell_row_f mB (rows_get (by omega) rfl)) ?_ | refine r_load rfl T.cell_L_api_Advert rfl (cell_rowg mB rfl) ?_
    refine hl_nil ?_; exact qe_done rfl
   refine hb_ex _ rfl rfl rfl (fun w1 => r_move rfl rfl (hl_nil (qe_done rfl))) ?_
   apply hb_ex _ rfl rfl rfl
   ·intro w1
    first | refine r_fieldAddr ⟨_, 6, none⟩ rfl rfl T.fa_api_Sales_1 rfl ?_ | refine r_fieldAddr _ rfl rfl T.fa_api_Sales_1 rfl ?_
    refine hl_nil ?_; exact qe_done rfl
   apply hb_ex _ rfl rfl rfl
   ·intro w1
    first | refine r_load rfl T.cell_ints rfl (cell_blk mB rfl) ?_ | refine r_load rfl T.cell_ints rfl (cell_own mB rfl) ?_ | refine r_load rfl T.cell_ints rfl (cell_row mB (rows_get0 (by omega) rfl)) ?_ | refine r_load rfl T.cell_ints rfl (cell_row_f mB (rows_get (by omega) rfl)) ?_ | refine r_load rfl T.cell_ints rfl (cell_rowg mB rfl) ?_
    refine hl_nil ?_; exact qe_done rfl
   refine hb_ex _ rfl rfl rfl (fun w1 => r_len_sl rfl T.u_ints rfl (hl_nil (qe_done rfl))) ?_; refine hb_wr ⟨(Int × Int) × Ad, fun x => DOK nums x.1 ∧ adErr l.length x.2 = 0, fun x => adV x.2, fun _ => [], fun x => dice g A c nums x.1 :: og⟩ rfl rfl rfl ?_ ?_
   ·intro w1; refine hl_call F.kit_AdvertOf_cb rfl rfl (kit_AdvertOf_meets l.length hn hs ⟨by omega, by omega⟩) (List.Perm.refl _) ⟨mB, trivial⟩ fun xs1 hs1 => ?_; obtain ⟨s1, z⟩ := xs1; obtain ⟨hs1, hz⟩ := hs1; simp only at hs1; refine hl_nil ?_; exact qw_done (s1, z) ⟨hs1, hz⟩ (fun _ => rfl) (List.Sublist.refl _) trivial
   refine hb_vs ⟨Nat × Ad, fun x => adErr l.length x.2 = 0, fun x => .slice (some ⟨x.1, 0, none⟩) 1 1, fun x => [Row (some ⟨x.1, 0, none⟩) (rows [x.2])]⟩ rfl rfl rfl ?_ ?_
   ·intro x hx; intro w1; refine r_buildSlice _ rfl rfl (fun _ => T.bs_L_api_Advert_1 ..) fun gS => ?_; refine hl_nil ?_; refine hq_letgo (rows [x.2]) (List.prefix_refl _) ?_; exact qv_done (gS, x.2) hx.2 rfl ⟨m0, trivial⟩
   refine hb_nil ⟨rfl, ?_⟩; intro x6 h6 x7 h7; obtain ⟨s2, _⟩ := x6; have hs2 : DOK nums s2 := h6.1; obtain ⟨g7, z⟩ := x7; simp only at h7; refine r_append (hp' := [dice g A c nums s2, saB g5 ((za, zb, zc, zd, ze, zf) : Ch) sA l.length sC o.1 q.length o.2, saB g4 (0, 0, 0, 0, 0, 0) none 0 0 none 0 0]) (q.length + 1) (rows (q ++ [z])) T.el_L_api_Advert rfl rfl rfl hG (show List.Perm (dice g A c nums s2 :: og ++ [saB g5 ((za, zb, zc, zd, ze, zf) : Ch) sA l.length sC o.1 q.length o.2, saB g4 (0, 0, 0, 0, 0, 0) none 0 0 none 0 0]) (og ++ [dice g A c nums s2, saB g5 ((za, zb, zc, zd, ze, zf) : Ch) sA l.length sC o.1 q.length o.2, saB g4 (0, 0, 0, 0, 0, 0) none 0 0 none 0 0]) from (perm_of fun p => by simp only [List.countP_append, List.countP_cons, List.countP_nil]; omega)) (Src.row (news := rows [z]) (m := 1) mB rfl (rows_one _) (by decide)) rfl (rows_append _ _).symm (by unfold maxLen; omega) (by omega) fun A4 c4 og4 hG4 => ?_
   first | refine r_fieldAddr ⟨_, 7, none⟩ rfl rfl T.fa_api_Sales_2 rfl ?_ | refine r_fieldAddr _ rfl rfl T.fa_api_Sales_2 rfl ?_
   refine r_store (hp' := og4 ++ [dice g A c nums s2, saB g4 (0, 0, 0, 0, 0, 0) none 0 0 none 0 0]) rfl rfl (show List.Perm (og4 ++ [dice g A c nums s2, saB g5 ((za, zb, zc, zd, ze, zf) : Ch) sA l.length sC o.1 q.length o.2, saB g4 (0, 0, 0, 0, 0, 0) none 0 0 none 0 0]) (saB g5 ((za, zb, zc, zd, ze, zf) : Ch) sA l.length sC o.1 q.length o.2 :: (og4 ++ [dice g A c nums s2, saB g4 (0, 0, 0, 0, 0, 0) none 0 0 none 0 0])) from (perm_of fun p => by simp only [List.countP_append, List.countP_cons, List.countP_nil]; omega)) T.sz_L_api_Advert (by rfl) (by rfl) ?_; refine hl_nil (inb_n (then_n (hc_region (r_move rfl rfl ?_)))); refine r_sub ((i - 1 : Nat) : Int) rfl rfl rfl (by omega) (by unfold I64; omega) ?_; refine r_assign rfl rfl (hl_nil ?_); have e1 : (q ++ [z]).length = q.length + 1 := List.length_append; refine hq_perm (show List.Perm (saB g5 ((za, zb, zc, zd, ze, zf) : Ch) sA l.length sC A4 (q.length + 1) c4 :: (og4 ++ [dice g A c nums s2, saB g4 (0, 0, 0, 0, 0, 0) none 0 0 none 0 0])) (dice g A c nums s2 :: saB g5 ((za, zb, zc, zd, ze, zf) : Ch) sA l.length sC A4 (q.length + 1) c4 :: saB g4 (0, 0, 0, 0, 0, 0) none 0 0 none 0 0 :: og4) from (perm_of fun p => by simp only [List.countP_append, List.countP_cons, List.countP_nil]; omega)) ?_; exact again _ (q ++ [z], (A4, c4), og4, i - 1, s2) ⟨by show Grow _ _ _ (q ++ [_]).length _ _ _; rw [e1]; exact hG4, by rw [e1]; omega, forall_snoc hok2 h7, hs2⟩ (by show i - 1 < i; omega) ⟨rfl, rfl, rfl, rfl, rfl, trivial⟩ (by show List.Sublist (_ :: saB g5 _ _ _ _ _ (q ++ [_]).length _ :: _) _; rw [e1]; exact List.Sublist.refl _) ⟨mB, mB, trivial⟩
  ·have hb2' := hb2; try simp at hb2'
   obtain rfl : i = 0 := by omega
   refine hc_exit (then_exit (then_exit (inb_hit (then_n (hc_seq ?_))))); obtain ⟨aA, aC⟩ := o; have hQle := hG.le; refine hc_count (og ++ [saB g5 ((za, zb, zc, zd, ze, zf) : Ch) sA l.length sC aA q.length aC, saB g4 (0, 0, 0, 0, 0, 0) none 0 0 none 0 0, dice g A c nums s]) (by intro p; simp only [List.countP_append, List.countP_cons, List.countP_nil]; omega) ?_; refine hc_grown hG ?_; clear hG; refine hc_region ?_
   first | refine r_loadA rfl T.row_api_Sales T.sz_api_Sales rfl mB (by rfl) ?_ | refine r_loadB rfl T.row_api_Sales T.sz_api_Sales rfl mB (by rfl) ?_ | refine r_loadS rfl T.row_api_Sales T.sz_api_Sales rfl rfl (cells_row mB (rows_all (by omega))) ?_
   refine r_storeS (cs := #[int za, int zb, int zc, int zd, int ze, int zf, .slice sA l.length sC, .slice aA q.length aC]) rfl rfl (.swap _ _ _) T.sz_api_Sales (by rfl) (by rfl) ?_; refine hl_nil (then_n (hc_ret ?_)); refine ret_row (s, (za, zb, zc, zd, ze, zf), ⟨sA, sC, l⟩, ⟨aA, aC, q⟩) rfl rfl T.row_api_Sales T.sz_api_Sales rfl m0 rfl rfl ⟨hs, ⟨chk_mk hch ⟨by show 1 ≤ l.length; omega, by show l.length ≤ 5; omega⟩ hok (by show q.length ≤ 8; omega) hok2, by show q.length ≤ m; omega, hCle, hQle⟩⟩ (.cons _ (.cons _ (.refl _))) ⟨mB, mB, trivial⟩
end Go.Proofs.YtdlbbfcfahahdaaGreat
end
section
namespace Go.Proofs.YtdlbbfcfahahdaaGreat
open Go Go.W
set_option maxRecDepth 20000
attribute [local irreducible] HL HC HQ HB Row Rows2 Blk Facts
abbrev OutS := (OutC × Hp) × (OutC × Hp)
structure DupS (ss : List Int) (xs : List Ad) (x : OutS) : Prop where
  a : Grow T.int 1 x.1.1.1 ss.length x.1.1.2 (rows ss) x.1.2
  b : GrowE T.api_Advert 3 x.2.1.1 xs.length x.2.1.2 (rows xs) x.2.2
def priceE (c : Ch) (ss : List Int) (xs : List Ad) (i : Int) : Int × Int := if ¬ chkS c ss xs = 0 then (0, chkS c ss xs) else if ¬ (0 ≤ i ∧ i ≤ (xs.length : Int) - 1) then (0, 3) else (priceN c (xs.getD i.toNat default), 0)
def owesK : List Int → List Cd → List Int × Int
  | b, [] => (b, 0)
  | b, r :: rs => if ¬ (0 ≤ r.1 ∧ r.1 ≤ (b.length : Int) - 1) then ([], 3) else if ¬ (0 ≤ r.2 ∧ r.2 ≤ 99999) then ([], 1) else owesK (b.set r.1.toNat (b.getD r.1.toNat default - r.2)) rs
def owesE (c : Ch) (ss : List Int) (xs : List Ad) (rs : List Cd) : List Int × Int := if ¬ chkS c ss xs = 0 then ([], chkS c ss xs) else if 8 < rs.length then ([], 6) else owesK (numsN 58 c ss xs) rs
theorem kit_DupInts_own {A : Option Addr} {c : Nat} (l : List Int) (hl : l.length ≤ 1000000) : Meets Tryz.prog F.kit_DupInts [.slice A l.length c] { LI := [Row A (rows l)], inv := fun x : OutC × Hp => Grow T.int 1 x.1.1 l.length x.1.2 (rows l) x.2, val := fun x => .slice x.1.1 l.length x.1.2, hpO := fun x => x.2 } := by
 refine meets_intro F.kit_DupInts_f rfl (Nat.le_of_ble_eq_true rfl) fun w0 => ?_; refine hc_seq (hc_region (r_assign rfl rfl (hl_nil (then_n (hc_seq (hc_region ?_)))))); refine r_buildSlice _ rfl rfl (fun _ => T.bs_ints_0 ..) fun gS => ?_; refine r_move rfl rfl ?_; refine r_append l.length (rows l) T.el_ints rfl rfl rfl (Grow.new (cs := #[]) (n := 0) rfl (Nat.zero_le _)) (.refl _) (Src.row m0 (rows_len l) (rows_one l) (by decide)) (by omega) rfl (by unfold maxLen; omega) (by omega) fun A' c' og' hG => ?_; refine r_assign rfl rfl (hl_nil (then_n (hc_ret ?_))); exact ret1 ((A', c'), og') rfl rfl rfl hG (List.sublist_append_left _ _) trivial
theorem kit_DupSales_meets (c : Ch) (ps : Sl Int) (qs : Sl Ad) (hn : ps.l.length ≤ 1000000) (hm : qs.l.length ≤ 1000000) : Meets Tryz.prog F.kit_DupSales [saV c ps qs] { LI := saL ps qs, inv := fun x : OutS => DupS ps.l qs.l x, val := fun x => saV c ⟨x.1.1.1, x.1.1.2, ps.l⟩ ⟨x.2.1.1, x.2.1.2, qs.l⟩, hpO := fun x => x.1.2 ++ x.2.2 } := by
 refine meets_intro F.kit_DupSales_f rfl (Nat.le_of_ble_eq_true rfl) fun w0 => ?_; refine hc_seq (hc_region ?_); refine r_box rfl rfl fun gB => ?_; refine r_alloc rfl (fun _ => T.al_api_Sales _) fun gR => ?_; refine hl_nil (then_n (hc_seq ?_)); refine hc_drawW ([]) (_) (.refl _) 8 [] mixed (by decide) (by decide) (by decide) rfl rfl rfl ?_
 apply hb_ex _ rfl rfl rfl
 ·intro w1
  first | refine r_fieldAddr ⟨_, 6, none⟩ rfl rfl T.fa_api_Sales_1 rfl ?_ | refine r_fieldAddr _ rfl rfl T.fa_api_Sales_1 rfl ?_
  refine hl_nil ?_; exact qe_done rfl
 apply hb_ex _ rfl rfl rfl
 ·intro w1
  first | refine r_load rfl T.cell_ints rfl (cell_blk mB rfl) ?_ | refine r_load rfl T.cell_ints rfl (cell_own mB rfl) ?_ | refine r_load rfl T.cell_ints rfl (cell_row mB (rows_get0 (by omega) rfl)) ?_ | refine r_load rfl T.cell_ints rfl (cell_row_f mB (rows_get (by omega) rfl)) ?_ | refine r_load rfl T.cell_ints rfl (cell_rowg mB rfl) ?_
  refine hl_nil ?_; exact qe_done rfl
 refine hb_ad ⟨OutC × Hp, fun x => Grow T.int 1 x.1.1 ps.l.length x.1.2 (rows ps.l) x.2, fun x => .slice x.1.1 ps.l.length x.1.2, fun _ => [], fun x => x.2⟩ rfl rfl rfl ?_ ?_
 ·intro w1; refine hl_call F.kit_DupInts_cb rfl rfl (kit_DupInts_own ps.l hn) (List.Perm.refl _) ⟨mB, trivial⟩ fun z hz => ?_; refine hl_nil ?_; exact qw_done z hz (fun _ => rfl) (by rw [List.append_nil]; exact List.Sublist.refl _) trivial
 refine hb_vs ⟨Nat, fun _ => True, fun g => .slice (some ⟨g, 0, none⟩) 0 0, fun _ => []⟩ rfl rfl rfl ?_ ?_
 ·intro w1; refine r_buildSlice [] rfl rfl (fun _ => T.bs_L_api_Advert_0 ..) fun gS => ?_; refine hl_nil ?_; refine hq_letgo (rows ([] : List Ad)) ⟨[], rfl⟩ ?_; exact qv_done gS trivial rfl trivial
 apply hb_ex _ rfl rfl rfl
 ·intro w1
  first | refine r_fieldAddr ⟨_, 7, none⟩ rfl rfl T.fa_api_Sales_2 rfl ?_ | refine r_fieldAddr _ rfl rfl T.fa_api_Sales_2 rfl ?_
  refine hl_nil ?_; exact qe_done rfl
 apply hb_ex _ rfl rfl rfl
 ·intro w1
  first | refine r_load rfl T.cell_L_api_Advert rfl (cell_blk mB rfl) ?_ | refine r_load rfl T.cell_L_api_Advert rfl (cell_own mB rfl) ?_ | refine r_load rfl T.cell_L_api_Advert rfl (cell_row mB (rows_get0 (by omega) rfl)) ?_ | refine r_load rfl T.cell_L_api_Advert rfl (cell_row_f mB (rows_get (by omega) rfl)) ?_ | refine r_load rfl T.cell_L_api_Advert rfl (cell_rowg mB rfl) ?_
  refine hl_nil ?_; exact qe_done rfl
 refine hb_ad ⟨OutC × Hp, fun x => GrowE T.api_Advert 3 x.1.1 qs.l.length x.1.2 (rows qs.l) x.2, fun x => .slice x.1.1 qs.l.length x.1.2, fun _ => [], fun x => x.2⟩ rfl rfl rfl ?_ ?_
 ·intro g0 _; intro w1; refine r_append_new T.el_L_api_Advert rfl rfl rfl (Src.row (news := rows qs.l) (m := qs.l.length) mB (rows_len _) (rows_one _) (by decide)) (by unfold maxLen; omega) (by omega) fun A' c' og' hG' => ?_; refine hl_nil ?_; exact qw_done ((A', c'), og') hG' (fun _ => rfl) (by rw [List.append_nil]; exact List.Sublist.refl _) trivial
 apply hb_ex _ rfl rfl rfl
 ·intro w1
  first | refine r_fieldAddr ⟨_, 6, none⟩ rfl rfl T.fa_api_Sales_1 rfl ?_ | refine r_fieldAddr _ rfl rfl T.fa_api_Sales_1 rfl ?_
  refine hl_nil ?_; exact qe_done rfl
 refine hb_nil ⟨rfl, ?_⟩; intro x8 hx8 _ _ x6 hx6; obtain ⟨⟨a6, c6⟩, o6⟩ := x6; obtain ⟨⟨a8, c8⟩, o8⟩ := x8; change GrowE T.api_Advert 3 a6 qs.l.length c6 (rows qs.l) o6 at hx6; change Grow T.int 1 a8 ps.l.length c8 (rows ps.l) o8 at hx8; refine hl_perm (show List.Perm ((o6 ++ (o8 ++ [])) ++ [saB gR (0, 0, 0, 0, 0, 0) none 0 0 none 0 0, (gB, Obj.cells (saC c ps qs) T.api_Sales (0, 0))]) ((gB, Obj.cells (saC c ps qs) T.api_Sales (0, 0)) :: saB gR (0, 0, 0, 0, 0, 0) none 0 0 none 0 0 :: (o8 ++ o6)) from (perm_of fun p => by simp only [List.countP_append, List.countP_cons, List.countP_nil]; omega)) ?_; refine r_store rfl rfl (.refl _) T.sz_ints (by rfl) (by rfl) ?_
 first | refine r_fieldAddr ⟨_, 7, none⟩ rfl rfl T.fa_api_Sales_2 rfl ?_ | refine r_fieldAddr _ rfl rfl T.fa_api_Sales_2 rfl ?_
 refine r_store rfl rfl (.refl _) T.sz_L_api_Advert (by rfl) (by rfl) ?_; refine hl_nil (then_n (hc_seq (hc_region ?_)))
 first | refine r_loadA rfl T.row_api_Sales T.sz_api_Sales rfl mB (by rfl) ?_ | refine r_loadB rfl T.row_api_Sales T.sz_api_Sales rfl mB (by rfl) ?_ | refine r_loadS rfl T.row_api_Sales T.sz_api_Sales rfl rfl (cells_row mB (rows_all (by omega))) ?_
 refine r_storeS (cs := #[int c.1, int c.2.1, int c.2.2.1, int c.2.2.2.1, int c.2.2.2.2.1, int c.2.2.2.2.2, .slice a8 ps.l.length c8, .slice a6 qs.l.length c6]) rfl rfl (.swap _ _ _) T.sz_api_Sales (by rfl) (by rfl) ?_; refine hl_nil (then_n (hc_ret ?_)); refine ret_row (((a8, c8), o8), ((a6, c6), o6)) rfl rfl T.row_api_Sales T.sz_api_Sales rfl m0 rfl rfl ⟨hx8, hx6⟩ (List.Sublist.cons _ (List.Sublist.cons _ (List.Sublist.refl _))) trivial
theorem bold_Price_meets (c : Ch) (ps : Sl Int) (qs : Sl Ad) (i : Int) (hn : ps.l.length ≤ 1000000) (hm : qs.l.length ≤ 1000000) : Meets Tryz.prog F.bold_Price [saV c ps qs, int i] { LI := saL ps qs, val := fun _ : Unit => .tuple #[int (priceE c ps.l qs.l i).1, int (priceE c ps.l qs.l i).2] } := by
 refine meets_intro F.bold_Price_f rfl (Nat.le_of_ble_eq_true rfl) fun w0 => ?_; refine hc_seq (hc_region ?_); refine r_box rfl rfl fun gB => ?_; refine r_assign rfl rfl (r_assign rfl rfl (hl_nil (then_n (hc_seq (hc_seq (hc_region ?_))))))
 first | refine r_loadA rfl T.row_api_Sales T.sz_api_Sales rfl mB (by rfl) ?_ | refine r_loadB rfl T.row_api_Sales T.sz_api_Sales rfl mB (by rfl) ?_ | refine r_loadS rfl T.row_api_Sales T.sz_api_Sales rfl rfl (cells_row mB (rows_all (by omega))) ?_
 refine hl_call F.bold_Check_cb rfl rfl (bold_Check_meets c ps qs hn hm) (List.Perm.refl _) ⟨mB, mB, trivial⟩ fun _ _ => ?_; refine r_assign rfl rfl (hl_nil (then_n (hc_seq (hc_region (r_move rfl rfl (r_neq rfl rfl rfl (hl_nil (then_n ?_))))))))
 first | refine c_dec rfl (fun hb1 => ?_) (fun hb1 => ?_) | refine hc_cond rfl (fun hb1 => ?_) (fun hb1 => ?_)
 ·have hb1' := hb1; try simp at hb1'
  refine hc_seq (hc_region (r_move rfl rfl (r_assign rfl rfl (r_assign rfl rfl (hl_nil (then_n (hc_ret (then_ret ?_)))))))); exact ret2 () rfl rfl rfl (by show Value.tuple #[int (priceE c ps.l qs.l i).1, int (priceE c ps.l qs.l i).2] = _; unfold priceE; rw [if_pos hb1]) rfl trivial (List.nil_sublist _) trivial
 ·have hb1' := hb1; try simp at hb1'
  have h0 : chkS c ps.l qs.l = 0 := Classical.not_not.1 hb1; have hsa := sa_ok h0; refine hc_skip (then_n (hc_seq (hc_seq (hc_region (r_move rfl rfl ?_)))))
  first | refine r_fieldAddr ⟨_, 7, none⟩ rfl rfl T.fa_api_Sales_2 rfl ?_ | refine r_fieldAddr _ rfl rfl T.fa_api_Sales_2 rfl ?_
  first | refine r_load rfl T.cell_L_api_Advert rfl (cell_own mB rfl) ?_ | refine r_load rfl T.cell_L_api_Advert rfl (cell_blk mB rfl) ?_ | refine r_load rfl T.cell_L_api_Advert rfl (cell_row mB (rows_get0 (by omega) rfl)) ?_ | refine r_load rfl T.cell_L_api_Advert rfl (cell_row_f mB (rows_get (by omega) rfl)) ?_ | refine r_load rfl T.cell_L_api_Advert rfl (cell_rowg mB rfl) ?_
  refine r_len_sl rfl T.u_L_api_Advert rfl ?_; refine r_sub _ rfl rfl rfl rfl (by unfold I64; omega) ?_; refine hl_call F.bold_between_cb rfl rfl (bold_between_meets _ _ _) (List.Perm.refl _) trivial fun _ _ => ?_; refine r_not rfl rfl (hl_nil (then_n ?_))
  first | refine c_dec rfl (fun hb2 => ?_) (fun hb2 => ?_) | refine hc_cond rfl (fun hb2 => ?_) (fun hb2 => ?_)
  ·have hb2' := hb2; try simp at hb2'
   refine hc_seq (hc_region (r_assign rfl rfl (r_assign rfl rfl (hl_nil (then_n (hc_ret (then_ret ?_))))))); exact ret2 () rfl rfl rfl (by show Value.tuple #[int (priceE c ps.l qs.l i).1, int (priceE c ps.l qs.l i).2] = _; unfold priceE; rw [if_neg hb1, if_pos (nbt hb2)]) rfl trivial (List.nil_sublist _) trivial
  ·have hb2' := hb2; try simp at hb2'
   have hi := nbf hb2; obtain ⟨k, rfl⟩ := Int.eq_ofNat_of_zero_le hi.1; have hk : k < qs.l.length := by omega
   have hxk := hsa.ad _ (getD_mem hk); refine hc_skip (then_n (hc_seq ?_)); refine hc_draw 8 mixed (by decide) (by decide) rfl rfl ?_
   apply hb_ex _ rfl rfl rfl
   ·intro w1
    first | refine r_fieldAddr ⟨_, 0, none⟩ rfl rfl T.fa_api_Sales_0 rfl ?_ | refine r_fieldAddr _ rfl rfl T.fa_api_Sales_0 rfl ?_
    refine hl_nil ?_; exact qe_done rfl
   refine hb_ex _ rfl rfl rfl (fun w1 => r_loadS (cs := [int c.1, int c.2.1, int c.2.2.1, int c.2.2.2.1, int c.2.2.2.2.1, int c.2.2.2.2.2]) rfl T.row_api_Charges T.sz_api_Charges rfl rfl (cells_blk (o := 0) mB (cells_pre rfl)) (hl_nil (qe_done rfl))) ?_; refine hb_vs ⟨Nat, fun _ => True, fun g => .pointer (some ⟨g, 0, none⟩), fun g => [tarL g c]⟩ rfl rfl rfl ?_ ?_
   ·intro w1; refine hl_call F.bold_of_cb rfl rfl (bold_of_meets c) (List.Perm.refl _) trivial fun tg _ => ?_; refine hl_nil ?_; exact qv_done tg trivial rfl ⟨mB, trivial⟩
   apply hb_ex _ rfl rfl rfl
   ·intro w1
    first | refine r_fieldAddr ⟨_, 7, none⟩ rfl rfl T.fa_api_Sales_2 rfl ?_ | refine r_fieldAddr _ rfl rfl T.fa_api_Sales_2 rfl ?_
    refine hl_nil ?_; exact qe_done rfl
   apply hb_ex _ rfl rfl rfl
   ·intro w1
    first | refine r_load rfl T.cell_L_api_Advert rfl (cell_blk mB rfl) ?_ | refine r_load rfl T.cell_L_api_Advert rfl (cell_own mB rfl) ?_ | refine r_load rfl T.cell_L_api_Advert rfl (cell_row mB (rows_get0 (by omega) rfl)) ?_ | refine r_load rfl T.cell_L_api_Advert rfl (cell_row_f mB (rows_get (by omega) rfl)) ?_ | refine r_load rfl T.cell_L_api_Advert rfl (cell_rowg mB rfl) ?_
    refine hl_nil ?_; exact qe_done rfl
   refine hb_ex _ rfl rfl rfl (fun w1 => r_move rfl rfl (hl_nil (qe_done rfl))) ?_; refine hb_ex _ rfl rfl rfl (fun w1 => r_elem (α := Ad) _ _ rfl T.u_L_api_Advert T.sz_api_Advert rfl rfl rfl mB rfl (by omega) (by decide) (hl_nil (qe_done rfl))) ?_; refine hb_ex _ rfl rfl rfl (fun w1 => r_loadS rfl T.row_api_Advert T.sz_api_Advert rfl rfl (cells_row mB (rows_all (by omega))) (hl_nil (qe_done rfl))) ?_; refine hb_nil ⟨rfl, ?_⟩; intro tg _; refine hl_call F.bold_tariff_advert_cb rfl rfl (bold_tariff_advert_meets tg (qs.l.getD k default)) (List.Perm.refl _) trivial fun _ _ => ?_; refine r_price (c := c) rfl rfl rfl hsa.ch hxk.2.2 mB ?_; refine r_assign rfl rfl (r_assign rfl rfl (hl_nil (then_n (hc_ret ?_)))); exact ret2 () rfl rfl rfl (by show Value.tuple #[int (priceE c ps.l qs.l (k : Int)).1, int (priceE c ps.l qs.l (k : Int)).2] = _; unfold priceE; rw [if_neg hb1, if_neg (Classical.not_not.2 hi), Int.toNat_natCast]) rfl trivial (List.nil_sublist _) trivial
end Go.Proofs.YtdlbbfcfahahdaaGreat
end
section
namespace Go.Proofs.YtdlbbfcfahahdaaGreat
open Go Go.W
set_option maxRecDepth 20000
attribute [local irreducible] HL HC HQ HB Row Rows2 Blk Facts
end Go.Proofs.YtdlbbfcfahahdaaGreat
end
section
namespace Go.Proofs.YtdlbbfcfahahdaaGreat
open Go Go.W
set_option maxRecDepth 20000
attribute [local irreducible] HL HC HQ HB Row Rows2 Blk Facts
theorem ref09_within_meets (n lo hi : Int) : Meets Tryz.prog F.ref09_within [int n, int lo, int hi] { val := fun _ : Unit => .bool (decide (lo ≤ n ∧ n ≤ hi)) } := by
 refine meets_intro F.ref09_within_f rfl (Nat.le_of_ble_eq_true rfl) fun w0 => ?_; refine hc_seq (hc_region (r_assign rfl rfl (hl_nil (then_n (hc_seq (hc_region (r_move rfl rfl (r_move rfl rfl (r_geq rfl rfl rfl (r_move rfl rfl ?_)))))))))); refine g_split rfl rfl ?_ ?_
 ·intro hg1; have hg1' := hg1; try simp at hg1'
  refine g_yes rfl rfl hg1 (r_move rfl rfl (g_yes rfl rfl hg1 (r_move rfl rfl (g_yes rfl rfl hg1 (r_leq rfl rfl rfl ?_))))); refine p_t rfl rfl (bt1 hg1) rfl ?_; refine r_assign rfl rfl (hl_nil (then_n (hc_ret ?_))); exact ret1 () rfl (congrArg (fun b => some (Value.bool b)) (by simp [hg1'])) rfl trivial (List.nil_sublist _) trivial
 ·intro hg1; have hg1' := hg1; try simp at hg1'
  refine g_no rfl rfl rfl rfl rfl hg1 (g_no rfl rfl rfl rfl rfl hg1 (g_no rfl rfl rfl rfl rfl hg1 ?_)); refine p_f rfl rfl (bf2 hg1) rfl ?_; refine r_assign rfl rfl (hl_nil (then_n (hc_ret ?_))); exact ret1 () rfl (congrArg (fun b => some (Value.bool b)) (by simp [Int.not_le.2 hg1'])) rfl trivial (List.nil_sublist _) trivial
end Go.Proofs.YtdlbbfcfahahdaaGreat
end
section
namespace Go.Proofs.YtdlbbfcfahahdaaGreat
open Go Go.W
set_option maxRecDepth 20000
attribute [local irreducible] HL HC HQ HB Row Rows2 Blk Facts
theorem mul_00 {a b A B : Int} (ha : 0 ≤ a ∧ a ≤ A) (hb : 0 ≤ b ∧ b ≤ B) : 0 ≤ a * b ∧ a * b ≤ A * B := ⟨Int.mul_nonneg ha.1 hb.1, Int.mul_le_mul ha.2 hb.2 hb.1 (by omega)⟩
theorem any_cut2 {α : Type} [Inhabited α] {p : α → Bool} {l : List α} {k : Nat} (hk : k < l.length) : (l.take (k + 1)).any p = ((l.take k).any p || p (l.getD k default)) := by
  rw [List.take_succ_eq_append_getElem hk, List.any_append, getD_at hk]
  simp
def chgB (c : Ch) : Bool := decide (0 ≤ c.1 ∧ c.1 ≤ 999) && decide (0 ≤ c.2.1 ∧ c.2.1 ≤ 999) && decide (0 ≤ c.2.2.1 ∧ c.2.2.1 ≤ 999) && decide (0 ≤ c.2.2.2.1 ∧ c.2.2.2.1 ≤ 999) && decide (0 ≤ c.2.2.2.2.1 ∧ c.2.2.2.2.1 ≤ 50) && decide (1 ≤ c.2.2.2.2.2 ∧ c.2.2.2.2.2 ≤ 5)
theorem chk_chg (c : Ch) (ss : List Int) (xs : List Ad) : chkS c ss xs = if chgB c = false then 1 else if ss.length = 0 then 7 else if 5 < ss.length then 6 else if ¬ ∀ s ∈ ss, 0 ≤ s ∧ s ≤ 9 then 1 else if 8 < xs.length then 6 else firstE ss.length xs := by
  unfold chkS
  by_cases h1 : ∀ v ∈ chQ c, 0 ≤ v ∧ v ≤ 999
  · rw [if_neg (Classical.not_not.2 h1)]
    have q1 := h1 c.1 (by simp [chQ]); have q2 := h1 c.2.1 (by simp [chQ]); have q3 := h1 c.2.2.1 (by simp [chQ]); have q4 := h1 c.2.2.2.1 (by simp [chQ])
    by_cases h2 : ¬ (0 ≤ c.2.2.2.2.1 ∧ c.2.2.2.2.1 ≤ 50) ∨ ¬ (1 ≤ c.2.2.2.2.2 ∧ c.2.2.2.2.2 ≤ 5)
    · rw [if_pos h2, if_pos]
      unfold chgB; rw [decide_eq_true q1, decide_eq_true q2, decide_eq_true q3, decide_eq_true q4]
      rcases h2 with h2 | h2
      · rw [decide_eq_false h2]; simp
      · rw [decide_eq_false h2]; simp
    · rw [if_neg h2]
      have h3 : (0 ≤ c.2.2.2.2.1 ∧ c.2.2.2.2.1 ≤ 50) ∧ (1 ≤ c.2.2.2.2.2 ∧ c.2.2.2.2.2 ≤ 5) := by omega
      have hc : ¬ chgB c = false := by
        unfold chgB; rw [decide_eq_true q1, decide_eq_true q2, decide_eq_true q3, decide_eq_true q4, decide_eq_true h3.1, decide_eq_true h3.2]
        decide
      rw [if_neg hc]
  · rw [if_pos h1, if_pos]
    unfold chgB; refine Bool.eq_false_iff.2 fun e => h1 fun v hv => ?_; simp only [Bool.and_eq_true, decide_eq_true_eq] at e; simp only [chQ, List.mem_cons, List.not_mem_nil, or_false] at hv
    rcases hv with rfl | rfl | rfl | rfl <;> omega
def bilL (c : Ch) (ss : List Int) (xs : List Ad) (k : Nat) : List Int := (List.range k).map (bilN c ss xs)
theorem bilL_succ (c : Ch) (ss : List Int) (xs : List Ad) (k : Nat) : bilL c ss xs (k + 1) = bilL c ss xs k ++ [bilN c ss xs k] := by
  unfold bilL; rw [List.range_succ, List.map_append]; rfl
theorem bilL_len (c : Ch) (ss : List Int) (xs : List Ad) (k : Nat) : (bilL c ss xs k).length = k := by simp [bilL]
theorem bilL_all (c : Ch) (ss : List Int) (xs : List Ad) : bilL c ss xs ss.length = numsN 58 c ss xs := List.map_congr_left fun i _ => (if_pos rfl).symm
theorem off_cnt {ss : List Int} {xs : List Ad} {s : Int} {k : Nat} : ((List.range (k + 1)).filter (hereB ss xs s)).length = ((List.range k).filter (hereB ss xs s)).length + if hereB ss xs s k = true then 1 else 0 := by
  rw [List.range_succ, List.filter_append, List.length_append]
  by_cases e : hereB ss xs s k = true
  · rw [if_pos e]; simp [e]
  · rw [if_neg e]; simp [e]
theorem ref09_checkCharges_meets (c : Ch) : Meets Tryz.prog F.ref09_checkCharges [chV c] { val := fun _ : Unit => int (if chgB c = false then 1 else 0) } := by
 refine meets_intro F.ref09_checkCharges_f rfl (Nat.le_of_ble_eq_true rfl) fun w0 => ?_; refine hc_seq (hc_region ?_); refine r_box rfl rfl fun gB => ?_; refine r_assign rfl rfl (hl_nil (then_n (hc_seq ?_))); refine hc_cut ⟨fun x : Bool => x = !chgB c, fun x => [(36, .bool x)], fun _ => [], fun _ => []⟩ ?_ ?_
 ·skip
  refine hc_region ?_; refine r_fieldAddr ⟨_, 0, none⟩ rfl rfl T.fa_api_Charges_0 rfl ?_; refine r_load rfl T.cell_int rfl (cell_own mB rfl) ?_; refine hl_call F.ref09_within_cb rfl rfl (ref09_within_meets _ _ _) (List.Perm.refl _) trivial fun _ _ => ?_; refine r_not rfl rfl (r_move rfl rfl ?_); refine g_split rfl rfl ?_ ?_
  ·intro hg1; have hg1' := hg1; try simp at hg1'
   refine g_yes rfl rfl hg1 ?_; refine r_fieldAddr ⟨_, 1, none⟩ rfl rfl T.fa_api_Charges_1 rfl ?_; refine g_yes rfl rfl hg1 ?_; refine r_load rfl T.cell_int rfl (cell_own mB rfl) ?_; refine g_yes rfl rfl hg1 ?_; refine hl_call F.ref09_within_cb rfl rfl (ref09_within_meets _ _ _) (List.Perm.refl _) trivial fun _ _ => ?_; refine g_yes rfl rfl hg1 (r_not rfl rfl ?_); refine p_f rfl rfl (bf1 hg1) rfl ?_; refine r_move rfl rfl ?_; refine g_split rfl rfl ?_ ?_
   ·intro hg2; have hg2' := hg2; try simp at hg2'
    refine g_yes rfl rfl hg2 ?_; refine r_fieldAddr ⟨_, 2, none⟩ rfl rfl T.fa_api_Charges_2 rfl ?_; refine g_yes rfl rfl hg2 ?_; refine r_load rfl T.cell_int rfl (cell_own mB rfl) ?_; refine g_yes rfl rfl hg2 ?_; refine hl_call F.ref09_within_cb rfl rfl (ref09_within_meets _ _ _) (List.Perm.refl _) trivial fun _ _ => ?_; refine g_yes rfl rfl hg2 (r_not rfl rfl ?_); refine p_f rfl rfl (bf1 hg2) rfl ?_; refine r_move rfl rfl ?_; refine g_split rfl rfl ?_ ?_
    ·intro hg3; have hg3' := hg3; try simp at hg3'
     refine g_yes rfl rfl hg3 ?_; refine r_fieldAddr ⟨_, 3, none⟩ rfl rfl T.fa_api_Charges_3 rfl ?_; refine g_yes rfl rfl hg3 ?_; refine r_load rfl T.cell_int rfl (cell_own mB rfl) ?_; refine g_yes rfl rfl hg3 ?_; refine hl_call F.ref09_within_cb rfl rfl (ref09_within_meets _ _ _) (List.Perm.refl _) trivial fun _ _ => ?_; refine g_yes rfl rfl hg3 (r_not rfl rfl ?_); refine p_f rfl rfl (bf1 hg3) rfl ?_; refine r_move rfl rfl ?_; refine g_split rfl rfl ?_ ?_
     ·intro hg4; have hg4' := hg4; try simp at hg4'
      refine g_yes rfl rfl hg4 ?_; refine r_fieldAddr ⟨_, 4, none⟩ rfl rfl T.fa_api_Charges_4 rfl ?_; refine g_yes rfl rfl hg4 ?_; refine r_load rfl T.cell_int rfl (cell_own mB rfl) ?_; refine g_yes rfl rfl hg4 ?_; refine hl_call F.ref09_within_cb rfl rfl (ref09_within_meets _ _ _) (List.Perm.refl _) trivial fun _ _ => ?_; refine g_yes rfl rfl hg4 (r_not rfl rfl ?_); refine p_f rfl rfl (bf1 hg4) rfl ?_; refine r_move rfl rfl ?_; refine g_split rfl rfl ?_ ?_
      ·intro hg5; have hg5' := hg5; try simp at hg5'
       refine g_yes rfl rfl hg5 ?_; refine r_fieldAddr ⟨_, 5, none⟩ rfl rfl T.fa_api_Charges_5 rfl ?_; refine g_yes rfl rfl hg5 ?_; refine r_load rfl T.cell_int rfl (cell_own mB rfl) ?_; refine g_yes rfl rfl hg5 ?_; refine hl_call F.ref09_within_cb rfl rfl (ref09_within_meets _ _ _) (List.Perm.refl _) trivial fun _ _ => ?_; refine g_yes rfl rfl hg5 (r_not rfl rfl ?_); refine p_f rfl rfl (bf1 hg5) rfl ?_; refine hl_nil ?_; exact cut_n _ _ (by simp_all [chgB] <;> omega) ⟨rfl, trivial⟩ (List.nil_sublist _) trivial
      ·intro hg5; have hg5' := hg5; try simp at hg5'
       refine g_no rfl rfl rfl rfl rfl hg5 (g_no rfl rfl rfl rfl rfl hg5 (g_no rfl rfl rfl rfl rfl hg5 (g_no rfl rfl rfl rfl rfl hg5 ?_))); refine p_t rfl rfl (bt2 hg5) rfl ?_; refine hl_nil ?_; exact cut_n _ _ (by simp_all [chgB] <;> omega) ⟨rfl, trivial⟩ (List.nil_sublist _) trivial
     ·intro hg4; have hg4' := hg4; try simp at hg4'
      refine g_no rfl rfl rfl rfl rfl hg4 (g_no rfl rfl rfl rfl rfl hg4 (g_no rfl rfl rfl rfl rfl hg4 (g_no rfl rfl rfl rfl rfl hg4 ?_))); refine p_t rfl rfl (bt2 hg4) rfl ?_; refine r_move rfl rfl (g_no rfl rfl rfl rfl rfl rfl (g_no rfl rfl rfl rfl rfl rfl (g_no rfl rfl rfl rfl rfl rfl (g_no rfl rfl rfl rfl rfl rfl (p_t rfl rfl rfl rfl (hl_nil ?_)))))); exact cut_n _ _ (by simp_all [chgB] <;> omega) ⟨rfl, trivial⟩ (List.nil_sublist _) trivial
    ·intro hg3; have hg3' := hg3; try simp at hg3'
     refine g_no rfl rfl rfl rfl rfl hg3 (g_no rfl rfl rfl rfl rfl hg3 (g_no rfl rfl rfl rfl rfl hg3 (g_no rfl rfl rfl rfl rfl hg3 ?_))); refine p_t rfl rfl (bt2 hg3) rfl ?_; refine r_move rfl rfl (g_no rfl rfl rfl rfl rfl rfl (g_no rfl rfl rfl rfl rfl rfl (g_no rfl rfl rfl rfl rfl rfl (g_no rfl rfl rfl rfl rfl rfl (p_t rfl rfl rfl rfl (r_move rfl rfl (g_no rfl rfl rfl rfl rfl rfl (g_no rfl rfl rfl rfl rfl rfl (g_no rfl rfl rfl rfl rfl rfl (g_no rfl rfl rfl rfl rfl rfl (p_t rfl rfl rfl rfl ?_))))))))))); refine hl_nil ?_; exact cut_n _ _ (by simp_all [chgB] <;> omega) ⟨rfl, trivial⟩ (List.nil_sublist _) trivial
   ·intro hg2; have hg2' := hg2; try simp at hg2'
    refine g_no rfl rfl rfl rfl rfl hg2 (g_no rfl rfl rfl rfl rfl hg2 (g_no rfl rfl rfl rfl rfl hg2 (g_no rfl rfl rfl rfl rfl hg2 ?_))); refine p_t rfl rfl (bt2 hg2) rfl ?_; refine r_move rfl rfl (g_no rfl rfl rfl rfl rfl rfl (g_no rfl rfl rfl rfl rfl rfl (g_no rfl rfl rfl rfl rfl rfl (g_no rfl rfl rfl rfl rfl rfl (p_t rfl rfl rfl rfl (r_move rfl rfl (g_no rfl rfl rfl rfl rfl rfl (g_no rfl rfl rfl rfl rfl rfl (g_no rfl rfl rfl rfl rfl rfl (g_no rfl rfl rfl rfl rfl rfl (p_t rfl rfl rfl rfl ?_))))))))))); refine r_move rfl rfl (g_no rfl rfl rfl rfl rfl rfl (g_no rfl rfl rfl rfl rfl rfl (g_no rfl rfl rfl rfl rfl rfl (g_no rfl rfl rfl rfl rfl rfl (p_t rfl rfl rfl rfl (hl_nil ?_)))))); exact cut_n _ _ (by simp_all [chgB] <;> omega) ⟨rfl, trivial⟩ (List.nil_sublist _) trivial
  ·intro hg1; have hg1' := hg1; try simp at hg1'
   refine g_no rfl rfl rfl rfl rfl hg1 (g_no rfl rfl rfl rfl rfl hg1 (g_no rfl rfl rfl rfl rfl hg1 (g_no rfl rfl rfl rfl rfl hg1 ?_))); refine p_t rfl rfl (bt2 hg1) rfl ?_; refine r_move rfl rfl (g_no rfl rfl rfl rfl rfl rfl (g_no rfl rfl rfl rfl rfl rfl (g_no rfl rfl rfl rfl rfl rfl (g_no rfl rfl rfl rfl rfl rfl (p_t rfl rfl rfl rfl (r_move rfl rfl (g_no rfl rfl rfl rfl rfl rfl (g_no rfl rfl rfl rfl rfl rfl (g_no rfl rfl rfl rfl rfl rfl (g_no rfl rfl rfl rfl rfl rfl (p_t rfl rfl rfl rfl ?_))))))))))); refine r_move rfl rfl (g_no rfl rfl rfl rfl rfl rfl (g_no rfl rfl rfl rfl rfl rfl (g_no rfl rfl rfl rfl rfl rfl (g_no rfl rfl rfl rfl rfl rfl (p_t rfl rfl rfl rfl (r_move rfl rfl (g_no rfl rfl rfl rfl rfl rfl (g_no rfl rfl rfl rfl rfl rfl (g_no rfl rfl rfl rfl rfl rfl (g_no rfl rfl rfl rfl rfl rfl (p_t rfl rfl rfl rfl ?_))))))))))); refine hl_nil ?_; exact cut_n _ _ (by simp_all [chgB] <;> omega) ⟨rfl, trivial⟩ (List.nil_sublist _) trivial
 ·rintro x rfl; refine hc_cond rfl (fun hb1 => ?_) (fun hb1 => ?_)
  ·have hb1' := hb1; try simp at hb1'
   refine hc_seq (hc_region (r_assign rfl rfl (hl_nil (then_n (hc_ret (then_ret ?_)))))); exact ret1 () rfl (by show some _ = some (int (if chgB c = false then 1 else 0)); have hf : chgB c = false := (by simpa using hb1); rw [if_pos hf]) rfl trivial (List.nil_sublist _) trivial
  ·have hb1' := hb1; try simp at hb1'
   refine hc_skip (then_n (hc_seq (hc_region (r_assign rfl rfl (hl_nil (then_n (hc_ret ?_))))))); exact ret1 () rfl (by show some _ = some (int (if chgB c = false then 1 else 0)); have hf : chgB c = true := (by simpa using hb1); rw [if_neg (by rw [hf]; decide)]) rfl trivial (List.nil_sublist _) trivial
theorem ref09_CheckAdvert_meets (c : Ch) (ps : Sl Int) (qs : Sl Ad) (x : Ad) (hn : ps.l.length ≤ 1000000) : Meets Tryz.prog F.ref09_CheckAdvert [saV c ps qs, adV x] { LI := saL ps qs, val := fun _ : Unit => int (adErr ps.l.length x) } := by
 refine meets_intro F.ref09_CheckAdvert_f rfl (Nat.le_of_ble_eq_true rfl) fun w0 => ?_; refine hc_seq (hc_region ?_); refine r_box rfl rfl fun gB => ?_; refine r_box rfl rfl fun gC => ?_; refine r_assign rfl rfl (hl_nil (then_n (hc_seq (hc_seq (hc_region ?_))))); refine r_fieldAddr ⟨_, 0, none⟩ rfl rfl T.fa_api_Advert_0 rfl ?_; refine r_load rfl T.cell_int rfl (cell_own mB rfl) ?_; refine r_fieldAddr ⟨_, 6, none⟩ rfl rfl T.fa_api_Sales_1 rfl ?_; refine r_load rfl T.cell_ints rfl (cell_own mB rfl) ?_; refine r_len_sl rfl T.u_ints rfl ?_; refine r_sub _ rfl rfl rfl rfl (by unfold I64; omega) ?_; refine hl_call F.ref09_within_cb rfl rfl (ref09_within_meets _ _ _) (List.Perm.refl _) trivial fun _ _ => ?_; refine r_not rfl rfl (hl_nil (then_n ?_)); refine hc_cond rfl (fun hb1 => ?_) (fun hb1 => ?_)
 ·have hb1' := hb1; try simp at hb1'
  refine hc_seq (hc_region (r_assign rfl rfl (hl_nil (then_n (hc_ret (then_ret ?_)))))); exact ret1 () rfl (by show some _ = some (int (adErr ps.l.length x)); unfold adErr; rw [if_pos (by omega)]) rfl trivial (List.nil_sublist _) trivial
 ·have hb1' := hb1; try simp at hb1'
  refine hc_skip (then_n (hc_seq (hc_seq (hc_region ?_)))); refine r_fieldAddr ⟨_, 1, none⟩ rfl rfl T.fa_api_Advert_1 rfl ?_; refine r_load rfl T.cell_int rfl (cell_own mB rfl) ?_; refine hl_call F.ref09_within_cb rfl rfl (ref09_within_meets _ _ _) (List.Perm.refl _) trivial fun _ _ => ?_; refine r_not rfl rfl (hl_nil (then_n ?_)); refine hc_cond rfl (fun hb2 => ?_) (fun hb2 => ?_)
  ·have hb2' := hb2; try simp at hb2'
   refine hc_seq (hc_region (r_assign rfl rfl (hl_nil (then_n (hc_ret (then_ret ?_)))))); exact ret1 () rfl (by show some _ = some (int (adErr ps.l.length x)); unfold adErr; rw [if_neg (by omega), if_pos (by omega)]) rfl trivial (List.nil_sublist _) trivial
  ·have hb2' := hb2; try simp at hb2'
   refine hc_skip (then_n (hc_seq (hc_seq (hc_region ?_)))); refine r_fieldAddr ⟨_, 2, none⟩ rfl rfl T.fa_api_Advert_2 rfl ?_; refine r_load rfl T.cell_int rfl (cell_own mB rfl) ?_; refine hl_call F.ref09_within_cb rfl rfl (ref09_within_meets _ _ _) (List.Perm.refl _) trivial fun _ _ => ?_; refine r_not rfl rfl (r_move rfl rfl ?_); refine g_split rfl rfl ?_ ?_
   ·intro hg1; have hg1' := hg1; try simp at hg1'
    refine g_yes rfl rfl hg1 ?_; refine r_fieldAddr ⟨_, 1, none⟩ rfl rfl T.fa_api_Advert_1 rfl ?_; refine g_yes rfl rfl hg1 ?_; refine r_load rfl T.cell_int rfl (cell_own mB rfl) ?_; refine g_yes rfl rfl hg1 (r_eql rfl rfl rfl (g_yes rfl rfl hg1 (r_move rfl rfl ?_))); refine g_split rfl rfl ?_ ?_
    ·intro hg2; have hg2' := hg2; try simp at hg2'
     refine g_yes rfl rfl hg2 ?_; refine r_fieldAddr ⟨_, 2, none⟩ rfl rfl T.fa_api_Advert_2 rfl ?_; refine g_yes rfl rfl hg2 ?_; refine r_load rfl T.cell_int rfl (cell_own mB rfl) ?_; refine g_yes rfl rfl hg2 (r_neq rfl rfl rfl (g_yes rfl rfl hg1 ?_)); refine p_t rfl rfl (bt1 hg2) rfl ?_; refine p_f rfl rfl (bf1 hg1) rfl ?_; refine hl_nil (then_n ?_); refine c_dec rfl (fun hb3 => ?_) (fun hb3 => ?_)
     ·have hb3' := hb3; try simp at hb3'
      refine hc_seq (hc_region (r_assign rfl rfl (hl_nil (then_n (hc_ret (then_ret ?_)))))); exact ret1 () rfl (by show some _ = some (int (adErr ps.l.length x)); unfold adErr; rw [if_neg (by omega), if_neg (by omega), if_pos (by omega)]) rfl trivial (List.nil_sublist _) trivial
     ·have hb3' := hb3; try simp at hb3'
      refine hc_skip (then_n (hc_seq (hc_region (r_assign rfl rfl (hl_nil (then_n (hc_ret ?_))))))); exact ret1 () rfl (by show some _ = some (int (adErr ps.l.length x)); unfold adErr; rw [if_neg (by omega), if_neg (by omega), if_neg (by omega)]) rfl trivial (List.nil_sublist _) trivial
    ·intro hg2; have hg2' := hg2; try simp at hg2'
     refine g_no rfl rfl rfl rfl rfl hg2 (g_no rfl rfl rfl rfl rfl hg2 (g_no rfl rfl rfl rfl rfl hg2 (g_yes rfl rfl hg1 ?_))); refine p_f rfl rfl (bf2 hg2) rfl ?_; refine p_f rfl rfl (bf1 hg1) rfl ?_; refine hl_nil (then_n (c_f rfl rfl (hc_skip (then_n (hc_seq (hc_region (r_assign rfl rfl (hl_nil (then_n (hc_ret ?_)))))))))); exact ret1 () rfl (by show some _ = some (int (adErr ps.l.length x)); unfold adErr; rw [if_neg (by omega), if_neg (by omega), if_neg (by omega)]) rfl trivial (List.nil_sublist _) trivial
   ·intro hg1; have hg1' := hg1; try simp at hg1'
    refine g_no rfl rfl rfl rfl rfl hg1 (g_no rfl rfl rfl rfl rfl hg1 (g_no rfl rfl rfl rfl rfl hg1 (g_no rfl rfl rfl rfl rfl hg1 (g_und rfl rfl rfl rfl rfl rfl (g_und rfl rfl rfl rfl rfl rfl (g_und rfl rfl rfl rfl rfl rfl (g_no rfl rfl rfl rfl rfl hg1 ?_))))))); refine p_t rfl rfl (bt2 hg1) rfl ?_; refine hl_nil (then_n (c_t rfl rfl (hc_seq (hc_region (r_assign rfl rfl (hl_nil (then_n (hc_ret (then_ret ?_))))))))); exact ret1 () rfl (by show some _ = some (int (adErr ps.l.length x)); unfold adErr; rw [if_neg (by omega), if_neg (by omega), if_pos (by omega)]) rfl trivial (List.nil_sublist _) trivial
theorem ref09_Check_meets (c : Ch) (ps : Sl Int) (qs : Sl Ad) (hn : ps.l.length ≤ 1000000) (hm : qs.l.length ≤ 1000000) : Meets Tryz.prog F.ref09_Check [saV c ps qs] { LI := saL ps qs, val := fun _ : Unit => int (chkS c ps.l qs.l) } := by
 refine meets_intro F.ref09_Check_f rfl (Nat.le_of_ble_eq_true rfl) fun w0 => ?_; refine hc_seq (hc_region ?_); refine r_box rfl rfl fun gB => ?_; refine r_assign rfl rfl (hl_nil (then_n (hc_seq (hc_seq (hc_region ?_))))); refine r_fieldAddr ⟨_, 0, none⟩ rfl rfl T.fa_api_Sales_0 rfl ?_; refine r_loadS (cs := [int c.1, int c.2.1, int c.2.2.1, int c.2.2.2.1, int c.2.2.2.2.1, int c.2.2.2.2.2]) rfl T.row_api_Charges T.sz_api_Charges rfl rfl (cells_own (o := 0) mB (cells_pre rfl)) ?_; refine hl_call F.ref09_checkCharges_cb rfl rfl (ref09_checkCharges_meets c) (List.Perm.refl _) trivial fun _ _ => ?_; refine r_assign rfl rfl (hl_nil (then_n (hc_seq (hc_region (r_move rfl rfl (r_neq rfl rfl rfl (hl_nil (then_n ?_)))))))); refine c_dec rfl (fun hb1 => ?_) (fun hb1 => ?_)
 ·have hb1' := hb1; try simp at hb1'
  have hch : chgB c = false := Classical.byContradiction fun e => hb1 (if_neg e); refine hc_seq (hc_region (r_move rfl rfl (r_assign rfl rfl (hl_nil (then_n (hc_ret (then_ret ?_))))))); exact ret1 () rfl (by show some _ = some (int (chkS c ps.l qs.l)); rw [chk_chg]; rw [if_pos hch, if_pos hch]) rfl trivial (List.nil_sublist _) trivial
 ·have hb1' := hb1; try simp at hb1'
  have hch : ¬ chgB c = false := fun e => by rw [if_pos e] at hb1; exact hb1 (by decide)
  refine hc_skip (then_n (hc_seq (hc_seq (hc_region ?_)))); refine r_fieldAddr ⟨_, 6, none⟩ rfl rfl T.fa_api_Sales_1 rfl ?_; refine r_load rfl T.cell_ints rfl (cell_own mB rfl) ?_; refine r_len_sl rfl T.u_ints rfl ?_; refine r_eql rfl rfl rfl (hl_nil (then_n ?_)); refine c_dec rfl (fun hb2 => ?_) (fun hb2 => ?_)
  ·have hb2' := hb2; try simp at hb2'
   refine hc_seq (hc_region (r_assign rfl rfl (hl_nil (then_n (hc_ret (then_ret ?_)))))); exact ret1 () rfl (by show some _ = some (int (chkS c ps.l qs.l)); rw [chk_chg]; rw [if_neg hch, if_pos (by omega)]) rfl trivial (List.nil_sublist _) trivial
  ·have hb2' := hb2; try simp at hb2'
   refine hc_skip (then_n (hc_seq (hc_seq (hc_region ?_)))); refine r_fieldAddr ⟨_, 6, none⟩ rfl rfl T.fa_api_Sales_1 rfl ?_; refine r_load rfl T.cell_ints rfl (cell_own mB rfl) ?_; refine r_len_sl rfl T.u_ints rfl ?_; refine r_gtr rfl rfl rfl (hl_nil (then_n ?_)); refine c_dec rfl (fun hb3 => ?_) (fun hb3 => ?_)
   ·have hb3' := hb3; try simp at hb3'
    refine hc_seq (hc_region (r_assign rfl rfl (hl_nil (then_n (hc_ret (then_ret ?_)))))); exact ret1 () rfl (by show some _ = some (int (chkS c ps.l qs.l)); rw [chk_chg]; rw [if_neg hch, if_neg (by omega), if_pos (by omega)]) rfl trivial (List.nil_sublist _) trivial
   ·have hb3' := hb3; try simp at hb3'
    refine hc_skip (then_n (hc_seq (hc_seq (hc_region (r_assign rfl rfl (hl_nil (then_n (hc_block ?_)))))))); refine hc_loop (β := Nat) ⟨fun k => k ≤ ps.l.length ∧ ∀ j, j < k → (fun v : Int => 0 ≤ v ∧ v ≤ 9) (ps.l.getD j default), fun k => [(1, .pointer (some ⟨gB, 0, none⟩)), (4, int k)], fun _ => [(gB, Obj.cells (saC c ps qs) T.api_Sales (0, 0))], fun _ => saL ps qs⟩ (fun k => ps.l.length - k) 0 ⟨Nat.zero_le _, fun j hj => absurd hj (Nat.not_lt_zero j)⟩ ⟨rfl, rfl, trivial⟩ (.refl _) ⟨mB, mB, trivial⟩ fun k hk => ?_; obtain ⟨hk, hq3⟩ := hk; refine hc_seq (hc_seq (hc_region (r_move rfl rfl ?_))); refine r_fieldAddr ⟨_, 6, none⟩ rfl rfl T.fa_api_Sales_1 rfl ?_; refine r_load rfl T.cell_ints rfl (cell_own mB rfl) ?_; refine r_len_sl rfl T.u_ints rfl ?_; refine r_lss rfl rfl rfl (hl_nil (then_n ?_)); refine c_dec rfl (fun hb4 => ?_) (fun hb4 => ?_)
    ·have hb4' := hb4; try simp at hb4'
     have hk6 : k < ps.l.length := by omega
     refine hc_skip (then_n (hc_seq (hc_block (hc_seq (hc_region ?_))))); refine r_fieldAddr ⟨_, 6, none⟩ rfl rfl T.fa_api_Sales_1 rfl ?_; refine r_load rfl T.cell_ints rfl (cell_own mB rfl) ?_; refine r_move rfl rfl ?_; refine r_elem (α := Int) ps.l k rfl T.u_ints T.sz_int rfl rfl rfl mB rfl (hk6) (by decide) ?_; refine r_load (v := int (ps.l.getD k default)) rfl T.cell_int rfl (cell_row mB (rows_get0 (hk6) rfl)) ?_; refine hl_call F.ref09_within_cb rfl rfl (ref09_within_meets _ _ _) (List.Perm.refl _) trivial fun _ _ => ?_; refine r_not rfl rfl (hl_nil (then_n ?_)); refine hc_cond rfl (fun hb5 => ?_) (fun hb5 => ?_)
     ·have hb5' := hb5; try simp at hb5'
      refine hc_seq (hc_region (r_assign rfl rfl (hl_nil (then_n (hc_ret (inb_ret (then_ret (then_ret (inb_ret (then_ret ?_)))))))))); exact ret1 () rfl (by show some _ = some (int (chkS c ps.l qs.l)); rw [chk_chg]; rw [if_neg hch, if_neg (by omega), if_neg (by omega), if_pos (nall_at (p := fun v : Int => 0 ≤ v ∧ v ≤ 9) hk6 (nbt hb5))]) rfl trivial (List.nil_sublist _) trivial
     ·have hb5' := hb5; try simp at hb5'
      refine hc_skip (inb_n (then_n (hc_region (r_move rfl rfl ?_)))); refine r_add _ rfl rfl rfl rfl (by unfold I64; omega) ?_; refine r_assign rfl rfl (hl_nil ?_); exact again _ (k + 1) ⟨by show k + 1 ≤ ps.l.length; omega, fun j hj => (Nat.lt_succ_iff_lt_or_eq.1 hj).elim (hq3 j) fun e => by subst e; exact nbf hb5⟩ (by show ps.l.length - (k + 1) < ps.l.length - k; omega) ⟨rfl, rfl, trivial⟩ (.refl _) ⟨mB, mB, trivial⟩
    ·have hb4' := hb4; try simp at hb4'
     obtain rfl : k = ps.l.length := by omega
     have hq3 := all_take (l := ps.l) (p := fun v : Int => 0 ≤ v ∧ v ≤ 9) hq3; refine hc_exit (then_exit (then_exit (inb_hit (then_n (hc_seq (hc_seq (hc_region ?_))))))); refine r_fieldAddr ⟨_, 7, none⟩ rfl rfl T.fa_api_Sales_2 rfl ?_; refine r_load rfl T.cell_L_api_Advert rfl (cell_own mB rfl) ?_; refine r_len_sl rfl T.u_L_api_Advert rfl ?_; refine r_gtr rfl rfl rfl (hl_nil (then_n ?_)); refine c_dec rfl (fun hb6 => ?_) (fun hb6 => ?_)
     ·have hb6' := hb6; try simp at hb6'
      refine hc_seq (hc_region (r_assign rfl rfl (hl_nil (then_n (hc_ret (then_ret ?_)))))); exact ret1 () rfl (by show some _ = some (int (chkS c ps.l qs.l)); rw [chk_chg]; rw [if_neg hch, if_neg (by omega), if_neg (by omega), if_neg (Classical.not_not.2 hq3), if_pos (by omega)]) rfl trivial (List.nil_sublist _) trivial
     ·have hb6' := hb6; try simp at hb6'
      refine hc_skip (then_n (hc_seq (hc_seq (hc_region (r_assign rfl rfl (hl_nil (then_n (hc_block ?_)))))))); refine hc_loop (β := Nat) ⟨fun k => k ≤ qs.l.length ∧ firstE ps.l.length qs.l = firstE ps.l.length (qs.l.drop k), fun k => [(1, .pointer (some ⟨gB, 0, none⟩)), (5, int k)], fun _ => [(gB, Obj.cells (saC c ps qs) T.api_Sales (0, 0))], fun _ => saL ps qs⟩ (fun k => qs.l.length - k) 0 ⟨Nat.zero_le _, rfl⟩ ⟨rfl, rfl, trivial⟩ (.refl _) ⟨mB, mB, trivial⟩ fun k hk => ?_; obtain ⟨hk, hfe⟩ := hk; refine hc_seq (hc_seq (hc_region (r_move rfl rfl ?_))); refine r_fieldAddr ⟨_, 7, none⟩ rfl rfl T.fa_api_Sales_2 rfl ?_; refine r_load rfl T.cell_L_api_Advert rfl (cell_own mB rfl) ?_; refine r_len_sl rfl T.u_L_api_Advert rfl ?_; refine r_lss rfl rfl rfl (hl_nil (then_n ?_)); refine c_dec rfl (fun hb7 => ?_) (fun hb7 => ?_)
      ·have hb7' := hb7; try simp at hb7'
       have hk9 : k < qs.l.length := by omega
       refine hc_skip (then_n (hc_seq (hc_block (hc_seq ?_)))); refine hc_draw 6 mixed (by decide) (by decide) rfl rfl ?_; refine hb_ex _ rfl rfl rfl (fun w1 => r_loadB rfl T.row_api_Sales T.sz_api_Sales rfl mB (by rfl) (hl_nil (qe_done rfl))) ?_; refine hb_ex _ rfl rfl rfl (fun w1 => r_fieldAddr ⟨_, 7, none⟩ rfl rfl T.fa_api_Sales_2 rfl (hl_nil (qe_done rfl))) ?_; refine hb_ex _ rfl rfl rfl (fun w1 => r_load rfl T.cell_L_api_Advert rfl (cell_blk mB rfl) (hl_nil (qe_done rfl))) ?_; refine hb_ex _ rfl rfl rfl (fun w1 => r_move rfl rfl (hl_nil (qe_done rfl))) ?_; refine hb_ex _ rfl rfl rfl (fun w1 => r_elem (α := Ad) qs.l k rfl T.u_L_api_Advert T.sz_api_Advert rfl rfl rfl mB rfl (hk9) (by decide) (hl_nil (qe_done rfl))) ?_; refine hb_ex _ rfl rfl rfl (fun w1 => r_loadS rfl T.row_api_Advert T.sz_api_Advert rfl rfl (cells_row mB (rows_all (by omega))) (hl_nil (qe_done rfl))) ?_; refine hb_nil ⟨rfl, ?_⟩; refine hl_call F.ref09_CheckAdvert_cb rfl rfl (ref09_CheckAdvert_meets c ps qs (qs.l.getD k default) hn) (List.Perm.refl _) ⟨mB, mB, trivial⟩ fun _ _ => ?_; refine r_assign rfl rfl (hl_nil (then_n (hc_seq (hc_region (r_move rfl rfl (r_neq rfl rfl rfl (hl_nil (then_n ?_)))))))); refine c_dec rfl (fun hb8 => ?_) (fun hb8 => ?_)
       ·have hb8' := hb8; try simp at hb8'
        refine hc_seq (hc_region (r_move rfl rfl (r_assign rfl rfl (hl_nil (then_n (hc_ret (inb_ret (then_ret (then_ret (inb_ret (then_ret ?_))))))))))); exact ret1 () rfl (by show some _ = some (int (chkS c ps.l qs.l)); rw [chk_chg]; rw [if_neg hch, if_neg (by omega), if_neg (by omega), if_neg (Classical.not_not.2 hq3), if_neg (by omega), hfe, firstE_drop _ hk9, if_pos hb8]) rfl trivial (List.nil_sublist _) trivial
       ·have hb8' := hb8; try simp at hb8'
        refine hc_skip (inb_n (then_n (hc_region (r_move rfl rfl ?_)))); refine r_add _ rfl rfl rfl rfl (by unfold I64; omega) ?_; refine r_assign rfl rfl (hl_nil ?_); exact again _ (k + 1) ⟨by show k + 1 ≤ qs.l.length; omega, by rw [hfe, firstE_drop _ hk9, if_neg hb8]⟩ (by show qs.l.length - (k + 1) < qs.l.length - k; omega) ⟨rfl, rfl, trivial⟩ (.refl _) ⟨mB, mB, trivial⟩
      ·have hb7' := hb7; try simp at hb7'
       obtain rfl : k = qs.l.length := by omega
       refine hc_exit (then_exit (then_exit (inb_hit (then_n (hc_seq (hc_region (r_assign rfl rfl (hl_nil (then_n (hc_ret ?_)))))))))); exact ret1 () rfl (by show some _ = some (int (chkS c ps.l qs.l)); rw [chk_chg]; rw [if_neg hch, if_neg (by omega), if_neg (by omega), if_neg (Classical.not_not.2 hq3), if_neg (by omega), hfe, List.drop_length]; rfl) rfl trivial (List.nil_sublist _) trivial
theorem ref09_price_meets (c : Ch) (x : Ad) (hc : ChOK c) (hl : 1 ≤ x.2.2 ∧ x.2.2 ≤ 6) : Meets Tryz.prog F.ref09_price [chV c, adV x] { val := fun _ : Unit => int (priceN c x) } := by
 obtain ⟨q1, q2, q3, q4, q5, q6⟩ := hc; have m1 := mul_00 (a := x.2.2 - 1) (A := 5) (by omega) q3; have m2 := mul_00 (a := x.2.2) (A := 6) (by omega) q4; refine meets_intro F.ref09_price_f rfl (Nat.le_of_ble_eq_true rfl) fun w0 => ?_; refine hc_seq (hc_region ?_); refine r_box rfl rfl fun gB => ?_; refine r_box rfl rfl fun gC => ?_; refine r_assign rfl rfl (hl_nil (then_n (hc_seq (hc_seq (hc_region ?_))))); refine r_fieldAddr ⟨_, 1, none⟩ rfl rfl T.fa_api_Advert_1 rfl ?_; refine r_load rfl T.cell_int rfl (cell_own mB rfl) ?_; refine hl_nil (then_n (hc_block (hc_seq (hc_region (r_eql rfl rfl rfl (r_assign rfl rfl (hl_nil (then_n ?_)))))))); refine c_dec rfl (fun hb1 => ?_) (fun hb1 => ?_)
 ·have hb1' := hb1; try simp at hb1'
  refine hc_seq (hc_region ?_); refine r_fieldAddr ⟨_, 0, none⟩ rfl rfl T.fa_api_Charges_0 rfl ?_; refine r_load rfl T.cell_int rfl (cell_own mB rfl) ?_; refine r_assign rfl rfl (hl_nil (then_n (hc_ret (inb_ret (then_ret ?_))))); exact ret1 () rfl (by show some _ = some (int (priceN c x)); unfold priceN; rw [if_pos hb1]; rfl) rfl trivial (List.nil_sublist _) trivial
 ·have hb1' := hb1; try simp at hb1'
  refine hc_seq (hc_region (r_eql rfl rfl rfl (r_assign rfl rfl (hl_nil (then_n ?_))))); refine c_dec rfl (fun hb2 => ?_) (fun hb2 => ?_)
  ·have hb2' := hb2; try simp at hb2'
   refine hc_seq (hc_region ?_); refine r_fieldAddr ⟨_, 1, none⟩ rfl rfl T.fa_api_Charges_1 rfl ?_; refine r_load rfl T.cell_int rfl (cell_own mB rfl) ?_; refine r_fieldAddr ⟨_, 2, none⟩ rfl rfl T.fa_api_Advert_2 rfl ?_; refine r_load rfl T.cell_int rfl (cell_own mB rfl) ?_; refine r_sub _ rfl rfl rfl rfl (by unfold I64; omega) ?_; refine r_fieldAddr ⟨_, 2, none⟩ rfl rfl T.fa_api_Charges_2 rfl ?_; refine r_load rfl T.cell_int rfl (cell_own mB rfl) ?_; refine r_mul ((x.2.2 - 1) * c.2.2.1) rfl rfl rfl rfl (by unfold I64; omega) ?_; refine r_add (c.2.1 + (x.2.2 - 1) * c.2.2.1) rfl rfl rfl rfl (by unfold I64; omega) ?_; refine r_assign rfl rfl (hl_nil (then_n (hc_ret (inb_ret (then_ret ?_))))); exact ret1 () rfl (by show some _ = some (int (priceN c x)); unfold priceN; rw [if_neg hb1, if_pos hb2]) rfl trivial (List.nil_sublist _) trivial
  ·have hb2' := hb2; try simp at hb2'
   refine hc_skip (inb_n (then_n (hc_seq (hc_region ?_)))); refine r_fieldAddr ⟨_, 2, none⟩ rfl rfl T.fa_api_Advert_2 rfl ?_; refine r_load rfl T.cell_int rfl (cell_own mB rfl) ?_; refine r_fieldAddr ⟨_, 3, none⟩ rfl rfl T.fa_api_Charges_3 rfl ?_; refine r_load rfl T.cell_int rfl (cell_own mB rfl) ?_; refine r_mul (x.2.2 * c.2.2.2.1) rfl rfl rfl rfl (by unfold I64; omega) ?_; refine r_assign rfl rfl (hl_nil (then_n (hc_ret ?_))); exact ret1 () rfl (by show some _ = some (int (priceN c x)); unfold priceN; rw [if_neg hb1, if_neg hb2]) rfl trivial (List.nil_sublist _) trivial
theorem ref09_Sum_meets (c : Ch) (ps : Sl Int) (qs : Sl Ad) (i : Nat) (h : SaOK c ps.l qs.l) : Meets Tryz.prog F.ref09_Sum [saV c ps qs, int i] { LI := saL ps qs, val := fun _ : Unit => int (sumN c qs.l i) } := by
 have hx8 := h.x8; refine meets_intro F.ref09_Sum_f rfl (Nat.le_of_ble_eq_true rfl) fun w0 => ?_; refine hc_seq (hc_region ?_); refine r_box rfl rfl fun gB => ?_; refine r_assign rfl rfl (hl_nil (then_n (hc_seq (hc_letgoB (hc_region (r_assign rfl rfl (hl_nil (then_n (hc_seq (hc_seq (hc_region ?_))))))))))); refine r_assign rfl rfl (hl_nil (then_n (hc_block ?_))); refine hc_loop (β := Nat) ⟨fun k => k ≤ qs.l.length, fun k => [(1, int i), (2, .pointer (some ⟨gB, 0, none⟩)), (5, int (sumK c qs.l k i)), (6, int k)], fun _ => [], fun _ => Blk gB (.cells (saC c ps qs) T.api_Sales (0, 0)) :: saL ps qs⟩ (fun k => qs.l.length - k) 0 (Nat.zero_le _) ⟨rfl, rfl, rfl, rfl, trivial⟩ (.refl _) ⟨mB, mB, mB, trivial⟩ fun k hk => ?_; simp only at hk; have hsb := sumK_bd h i k hk; refine hc_seq (hc_seq (hc_region (r_move rfl rfl ?_))); refine r_fieldAddr ⟨_, 7, none⟩ rfl rfl T.fa_api_Sales_2 rfl ?_; refine r_load rfl T.cell_L_api_Advert rfl (cell_blk mB rfl) ?_; refine r_len_sl rfl T.u_L_api_Advert rfl ?_; refine r_lss rfl rfl rfl (hl_nil (then_n ?_)); refine c_dec rfl (fun hb1 => ?_) (fun hb1 => ?_)
 ·have hb1' := hb1; try simp at hb1'
  have hk2 : k < qs.l.length := by omega
  have hxk := h.ad _ (getD_mem hk2); have hpb := price_bd h.ch hxk.2.2; have hsu := sumK_succ c hk2 i; refine hc_skip (then_n (hc_seq (hc_block (hc_seq (hc_region ?_))))); refine r_fieldAddr ⟨_, 7, none⟩ rfl rfl T.fa_api_Sales_2 rfl ?_; refine r_load rfl T.cell_L_api_Advert rfl (cell_blk mB rfl) ?_; refine r_move rfl rfl ?_; refine r_elem (α := Ad) qs.l k rfl T.u_L_api_Advert T.sz_api_Advert rfl rfl rfl mB rfl (hk2) (by decide) ?_; refine r_fieldAddr _ rfl rfl T.fa_api_Advert_0 rfl ?_; refine r_load rfl T.cell_int rfl (cell_row mB (rows_get0 (by omega) rfl)) ?_; refine r_move rfl rfl (r_eql rfl rfl rfl (hl_nil (then_n ?_))); refine c_dec rfl (fun hb2 => ?_) (fun hb2 => ?_)
  ·have hb2' := hb2; try simp at hb2'
   rw [if_pos hb2] at hsu; refine hc_draw 9 mixed (by decide) (by decide) rfl rfl ?_; refine hb_ex _ rfl rfl rfl (fun w1 => r_move rfl rfl (hl_nil (qe_done rfl))) ?_; refine hb_ex _ rfl rfl rfl (fun w1 => r_fieldAddr ⟨_, 0, none⟩ rfl rfl T.fa_api_Sales_0 rfl (hl_nil (qe_done rfl))) ?_; refine hb_ex _ rfl rfl rfl (fun w1 => r_loadS (cs := [int c.1, int c.2.1, int c.2.2.1, int c.2.2.2.1, int c.2.2.2.2.1, int c.2.2.2.2.2]) rfl T.row_api_Charges T.sz_api_Charges rfl rfl (cells_blk (o := 0) mB (cells_pre rfl)) (hl_nil (qe_done rfl))) ?_; refine hb_ex _ rfl rfl rfl (fun w1 => r_fieldAddr ⟨_, 7, none⟩ rfl rfl T.fa_api_Sales_2 rfl (hl_nil (qe_done rfl))) ?_; refine hb_ex _ rfl rfl rfl (fun w1 => r_load rfl T.cell_L_api_Advert rfl (cell_blk mB rfl) (hl_nil (qe_done rfl))) ?_; refine hb_ex _ rfl rfl rfl (fun w1 => r_move rfl rfl (hl_nil (qe_done rfl))) ?_; refine hb_ex _ rfl rfl rfl (fun w1 => r_elem (α := Ad) qs.l k rfl T.u_L_api_Advert T.sz_api_Advert rfl rfl rfl mB rfl (hk2) (by decide) (hl_nil (qe_done rfl))) ?_; refine hb_ex _ rfl rfl rfl (fun w1 => r_loadS rfl T.row_api_Advert T.sz_api_Advert rfl rfl (cells_row mB (rows_all (by omega))) (hl_nil (qe_done rfl))) ?_; refine hb_ex _ rfl rfl rfl (fun w1 => hl_call F.ref09_price_cb rfl rfl (ref09_price_meets c (qs.l.getD k default) h.ch hxk.2.2) (List.Perm.refl _) trivial fun _ _ => (hl_nil (qe_done rfl))) ?_; refine hb_nil ⟨rfl, ?_⟩; refine r_add _ rfl rfl rfl rfl (by unfold I64; omega) ?_; refine r_assign rfl rfl (hl_nil (inb_n (then_n (hc_region (r_move rfl rfl ?_))))); refine r_add _ rfl rfl rfl rfl (by unfold I64; omega) ?_; refine r_assign rfl rfl (hl_nil ?_); exact again _ (k + 1) (by show k + 1 ≤ qs.l.length; omega) (by show qs.l.length - (k + 1) < qs.l.length - k; omega) ⟨rfl, rfl, congrArg (fun z => some (int z)) hsu.symm, rfl, trivial⟩ (.refl _) ⟨mB, mB, mB, trivial⟩
  ·have hb2' := hb2; try simp at hb2'
   rw [if_neg hb2] at hsu; refine hc_skip (inb_n (then_n (hc_region (r_move rfl rfl ?_)))); refine r_add _ rfl rfl rfl rfl (by unfold I64; omega) ?_; refine r_assign rfl rfl (hl_nil ?_); exact again _ (k + 1) (by show k + 1 ≤ qs.l.length; omega) (by show qs.l.length - (k + 1) < qs.l.length - k; omega) ⟨rfl, rfl, congrArg (fun z => some (int z)) hsu.symm, rfl, trivial⟩ (.refl _) ⟨mB, mB, mB, trivial⟩
 ·have hb1' := hb1; try simp at hb1'
  obtain rfl : k = qs.l.length := by omega
  refine hc_exit (then_exit (then_exit (inb_hit (then_n (hc_seq (hc_region (r_move rfl rfl (r_assign rfl rfl (hl_nil (then_n (hc_ret ?_))))))))))); exact ret1 () rfl (by show some _ = some (int (sumN c qs.l i)); rfl) rfl trivial (List.nil_sublist _) trivial
theorem ref09_Off_meets (c : Ch) (ps : Sl Int) (qs : Sl Ad) (s : Int) (hn : ps.l.length ≤ 1000000) (hm : qs.l.length ≤ 1000000) : Meets Tryz.prog F.ref09_Off [saV c ps qs, int s] { LI := saL ps qs, val := fun _ : Unit => .bool (offB c ps.l qs.l s) } := by
 refine meets_intro F.ref09_Off_f rfl (Nat.le_of_ble_eq_true rfl) fun w0 => ?_; refine hc_seq (hc_region ?_); refine r_box rfl rfl fun gB => ?_; refine r_assign rfl rfl (hl_nil (then_n (hc_seq (hc_letgoB (hc_region (r_assign rfl rfl (hl_nil (then_n (hc_seq (hc_seq (hc_region ?_))))))))))); refine r_assign rfl rfl (hl_nil (then_n (hc_block ?_))); refine hc_loop (β := Nat) ⟨fun k => k ≤ ps.l.length, fun k => [(1, int s), (2, .pointer (some ⟨gB, 0, none⟩)), (5, int ((List.range k).filter (hereB ps.l qs.l s)).length), (6, int k)], fun _ => [], fun _ => Blk gB (.cells (saC c ps qs) T.api_Sales (0, 0)) :: saL ps qs⟩ (fun k => ps.l.length - k) 0 (Nat.zero_le _) ⟨rfl, rfl, rfl, rfl, trivial⟩ (.refl _) ⟨mB, mB, mB, trivial⟩ fun k hk => ?_; simp only at hk; have hcl : ((List.range k).filter (hereB ps.l qs.l s)).length ≤ k := Nat.le_trans (List.length_filter_le _ _) (by simp); refine hc_seq (hc_seq (hc_region (r_move rfl rfl ?_))); refine r_fieldAddr ⟨_, 6, none⟩ rfl rfl T.fa_api_Sales_1 rfl ?_; refine r_load rfl T.cell_ints rfl (cell_blk mB rfl) ?_; refine r_len_sl rfl T.u_ints rfl ?_; refine r_lss rfl rfl rfl (hl_nil (then_n ?_)); refine c_dec rfl (fun hb1 => ?_) (fun hb1 => ?_)
 ·have hb1' := hb1; try simp at hb1'
  have hk2 : k < ps.l.length := by omega
  have hsu := off_cnt (ss := ps.l) (xs := qs.l) (s := s) (k := k); refine hc_skip (then_n (hc_seq (hc_block (hc_seq (hc_region (r_assign rfl rfl (hl_nil (then_n (hc_seq (hc_seq (hc_region ?_))))))))))); refine r_assign rfl rfl (hl_nil (then_n (hc_block ?_))); refine hc_loop (β := Nat) ⟨fun j => j ≤ qs.l.length, fun j => [(1, int s), (2, .pointer (some ⟨gB, 0, none⟩)), (5, int ((List.range k).filter (hereB ps.l qs.l s)).length), (6, int k), (7, .bool ((qs.l.take j).any fun x => decide (x.1 = (k : Int)))), (8, int j)], fun _ => [], fun _ => Blk gB (.cells (saC c ps qs) T.api_Sales (0, 0)) :: saL ps qs⟩ (fun j => qs.l.length - j) 0 (Nat.zero_le _) ⟨rfl, rfl, rfl, rfl, rfl, rfl, trivial⟩ (.refl _) ⟨mB, mB, mB, trivial⟩ fun j hj => ?_; simp only at hj; refine hc_seq (hc_seq (hc_region (r_move rfl rfl ?_))); refine r_fieldAddr ⟨_, 7, none⟩ rfl rfl T.fa_api_Sales_2 rfl ?_; refine r_load rfl T.cell_L_api_Advert rfl (cell_blk mB rfl) ?_; refine r_len_sl rfl T.u_L_api_Advert rfl ?_; refine r_lss rfl rfl rfl (hl_nil (then_n ?_)); refine c_dec rfl (fun hb2 => ?_) (fun hb2 => ?_)
  ·have hb2' := hb2; try simp at hb2'
   have hj2 : j < qs.l.length := by omega
   have hcut := any_cut2 (p := fun x : Ad => decide (x.1 = (k : Int))) hj2; refine hc_skip (then_n (hc_seq (hc_block (hc_region (r_move rfl rfl (r_move rfl rfl ?_)))))); refine g_split rfl rfl ?_ ?_
   ·intro hg1; have hg1' := hg1; try simp at hg1'
    have qa : ((qs.l.take j).any fun x => decide (x.1 = (k : Int))) = false := by simpa using hg1
    refine g_yes rfl rfl hg1 ?_; refine r_fieldAddr ⟨_, 7, none⟩ rfl rfl T.fa_api_Sales_2 rfl ?_; refine g_yes rfl rfl hg1 ?_; refine r_load rfl T.cell_L_api_Advert rfl (cell_blk mB rfl) ?_; refine g_yes rfl rfl hg1 (r_move rfl rfl (g_yes rfl rfl hg1 ?_)); refine r_elem (α := Ad) qs.l j rfl T.u_L_api_Advert T.sz_api_Advert rfl rfl rfl mB rfl (hj2) (by decide) ?_; refine g_yes rfl rfl hg1 (r_fieldAddr _ rfl rfl T.fa_api_Advert_0 rfl (g_yes rfl rfl hg1 ?_)); refine r_load rfl T.cell_int rfl (cell_row mB (rows_get0 (by omega) rfl)) ?_; refine g_yes rfl rfl hg1 (r_move rfl rfl (g_yes rfl rfl hg1 (r_eql rfl rfl rfl ?_))); refine p_f rfl rfl (bf1 hg1) rfl ?_; refine r_assign rfl rfl (hl_nil (inb_n (then_n (hc_region (r_move rfl rfl ?_))))); refine r_add _ rfl rfl rfl rfl (by unfold I64; omega) ?_; refine r_assign rfl rfl (hl_nil ?_); exact again _ (j + 1) (by show j + 1 ≤ qs.l.length; omega) (by show qs.l.length - (j + 1) < qs.l.length - j; omega) ⟨rfl, rfl, rfl, rfl, congrArg (fun x => some (Value.bool x)) (show decide ((qs.l.getD j default).1 = (k : Int)) = ((qs.l.take (j + 1)).any fun x => decide (x.1 = (k : Int))) by rw [hcut, qa, Bool.false_or]), rfl, trivial⟩ (.refl _) ⟨mB, mB, mB, trivial⟩
   ·intro hg1; have hg1' := hg1; try simp at hg1'
    have qa : ((qs.l.take j).any fun x => decide (x.1 = (k : Int))) = true := by simpa using hg1
    refine g_no rfl rfl rfl rfl rfl hg1 (g_no rfl rfl rfl rfl rfl hg1 (g_no rfl rfl rfl rfl rfl hg1 (g_no rfl rfl rfl rfl rfl hg1 (g_no rfl rfl rfl rfl rfl hg1 (g_no rfl rfl rfl rfl rfl hg1 (g_no rfl rfl rfl rfl rfl hg1 (g_no rfl rfl rfl rfl rfl hg1 ?_))))))); refine p_t rfl rfl (bt2 hg1) rfl ?_; refine r_assign rfl rfl (hl_nil (inb_n (then_n (hc_region (r_move rfl rfl ?_))))); refine r_add _ rfl rfl rfl rfl (by unfold I64; omega) ?_; refine r_assign rfl rfl (hl_nil ?_); exact again _ (j + 1) (by show j + 1 ≤ qs.l.length; omega) (by show qs.l.length - (j + 1) < qs.l.length - j; omega) ⟨rfl, rfl, rfl, rfl, congrArg (fun x => some (Value.bool x)) (show true = ((qs.l.take (j + 1)).any fun x => decide (x.1 = (k : Int))) by rw [hcut, qa, Bool.true_or]), rfl, trivial⟩ (.refl _) ⟨mB, mB, mB, trivial⟩
  ·have hb2' := hb2; try simp at hb2'
   obtain rfl : j = qs.l.length := by omega
   refine hc_exit (then_exit (then_exit (inb_hit (then_n ?_)))); refine hc_cut ⟨fun x : Bool => x = hereB ps.l qs.l s k, fun x => [(1, int s), (2, .pointer (some ⟨gB, 0, none⟩)), (5, int ((List.range k).filter (hereB ps.l qs.l s)).length), (6, int k), (43, .bool x)], fun _ => [], fun _ => Blk gB (.cells (saC c ps qs) T.api_Sales (0, 0)) :: saL ps qs⟩ ?_ ?_
   ·skip
    refine hc_region (r_move rfl rfl (r_move rfl rfl ?_)); refine g_split rfl rfl ?_ ?_
    ·intro hg2; have hg2' := hg2; try simp at hg2'
     have qb : ((qs.l.take qs.l.length).any fun x => decide (x.1 = (k : Int))) = true := eq_of_beq hg2; refine g_yes rfl rfl hg2 ?_; refine r_fieldAddr ⟨_, 6, none⟩ rfl rfl T.fa_api_Sales_1 rfl ?_; refine g_yes rfl rfl hg2 ?_; refine r_load rfl T.cell_ints rfl (cell_blk mB rfl) ?_; refine g_yes rfl rfl hg2 (r_move rfl rfl (g_yes rfl rfl hg2 ?_)); refine r_elem (α := Int) ps.l k rfl T.u_ints T.sz_int rfl rfl rfl mB rfl (hk2) (by decide) ?_; refine g_yes rfl rfl hg2 ?_; refine r_load (v := int (ps.l.getD k default)) rfl T.cell_int rfl (cell_row mB (rows_get0 (hk2) rfl)) ?_; refine g_yes rfl rfl hg2 (r_move rfl rfl (g_yes rfl rfl hg2 (r_eql rfl rfl rfl ?_))); refine p_t rfl rfl (bt1 hg2) rfl ?_; refine hl_nil ?_; exact cut_n _ (decide (ps.l.getD k default = s)) (by rw [List.take_length] at qb; show _ = hereB ps.l qs.l s k; unfold hereB; rw [qb, Bool.true_and]) ⟨rfl, rfl, rfl, rfl, rfl, trivial⟩ (.refl _) ⟨mB, mB, mB, trivial⟩
    ·intro hg2; have hg2' := hg2; try simp at hg2'
     have qb : ((qs.l.take qs.l.length).any fun x => decide (x.1 = (k : Int))) = false := bf2 hg2; refine g_no rfl rfl rfl rfl rfl hg2 (g_no rfl rfl rfl rfl rfl hg2 (g_no rfl rfl rfl rfl rfl hg2 (g_no rfl rfl rfl rfl rfl hg2 (g_no rfl rfl rfl rfl rfl hg2 (g_no rfl rfl rfl rfl rfl hg2 (g_no rfl rfl rfl rfl rfl hg2 ?_)))))); refine p_f rfl rfl (bf2 hg2) rfl ?_; refine hl_nil ?_; exact cut_n _ false (by rw [List.take_length] at qb; show _ = hereB ps.l qs.l s k; unfold hereB; rw [qb, Bool.false_and]) ⟨rfl, rfl, rfl, rfl, rfl, trivial⟩ (.refl _) ⟨mB, mB, mB, trivial⟩
   ·rintro x rfl; refine hc_cond rfl (fun hb3 => ?_) (fun hb3 => ?_)
    ·have hb3' := hb3; try simp at hb3'
     rw [if_pos hb3] at hsu; refine hc_region (r_move rfl rfl ?_); refine r_add _ rfl rfl rfl rfl (by unfold I64; omega) ?_; refine r_assign rfl rfl (hl_nil (inb_n (then_n (hc_region (r_move rfl rfl ?_))))); refine r_add _ rfl rfl rfl rfl (by unfold I64; omega) ?_; refine r_assign rfl rfl (hl_nil ?_); exact again _ (k + 1) (by show k + 1 ≤ ps.l.length; omega) (by show ps.l.length - (k + 1) < ps.l.length - k; omega) ⟨rfl, rfl, congrArg (fun z => some (int z)) (show (((List.range k).filter (hereB ps.l qs.l s)).length : Int) + 1 = (((List.range (k + 1)).filter (hereB ps.l qs.l s)).length : Int) by rw [hsu]; omega), rfl, trivial⟩ (.refl _) ⟨mB, mB, mB, trivial⟩
    ·have hb3' := hb3; try simp at hb3'
     rw [if_neg (by rw [hb3]; decide)] at hsu; refine hc_skip (inb_n (then_n (hc_region (r_move rfl rfl ?_)))); refine r_add _ rfl rfl rfl rfl (by unfold I64; omega) ?_; refine r_assign rfl rfl (hl_nil ?_); exact again _ (k + 1) (by show k + 1 ≤ ps.l.length; omega) (by show ps.l.length - (k + 1) < ps.l.length - k; omega) ⟨rfl, rfl, congrArg (fun z : Nat => some (int (z : Int))) hsu.symm, rfl, trivial⟩ (.refl _) ⟨mB, mB, mB, trivial⟩
 ·have hb1' := hb1; try simp at hb1'
  obtain rfl : k = ps.l.length := by omega
  refine hc_exit (then_exit (then_exit (inb_hit (then_n (hc_seq (hc_region (r_move rfl rfl ?_))))))); refine r_fieldAddr ⟨_, 0, none⟩ rfl rfl T.fa_api_Sales_0 rfl ?_; refine r_fieldAddr ⟨_, 5, none⟩ rfl rfl T.fa_api_Charges_5 rfl ?_; refine r_load rfl T.cell_int rfl (cell_blk mB rfl) ?_; refine r_geq rfl rfl rfl (r_assign rfl rfl (hl_nil (then_n (hc_ret ?_)))); exact ret1 () rfl rfl rfl trivial (List.nil_sublist _) trivial
theorem ref09_Bill_meets (c : Ch) (ps : Sl Int) (qs : Sl Ad) (i : Nat) (hi : i < ps.l.length) (h : SaOK c ps.l qs.l) : Meets Tryz.prog F.ref09_Bill [saV c ps qs, int i] { LI := saL ps qs, val := fun _ : Unit => int (bilN c ps.l qs.l i) } := by
 have hx8 := h.x8; have hn5 := h.n5; have hsb := (sumK_bd h i qs.l.length (Nat.le_refl _)); have hs : sumN c qs.l i = sumK c qs.l qs.l.length i := rfl; rw [← hs] at hsb; have ho := h.ch.2.2.2.2.1; have hm := mul_00 (a := sumN c qs.l i) (b := 100 - c.2.2.2.2.1) (A := 48000) (B := 100) (by omega) (by omega); refine meets_intro F.ref09_Bill_f rfl (Nat.le_of_ble_eq_true rfl) fun w0 => ?_; refine hc_seq (hc_region ?_); refine r_box rfl rfl fun gB => ?_; refine r_assign rfl rfl (hl_nil (then_n (hc_seq (hc_letgoB (hc_region ?_))))); refine r_loadB rfl T.row_api_Sales T.sz_api_Sales rfl mB (by rfl) ?_; refine r_move rfl rfl ?_; refine hl_call F.ref09_Sum_cb rfl rfl (ref09_Sum_meets c ps qs i h) (List.Perm.refl _) ⟨mB, mB, trivial⟩ fun _ _ => ?_; refine r_assign rfl rfl (hl_nil (then_n (hc_seq (hc_seq ?_)))); refine hc_draw 6 mixed (by decide) (by decide) rfl rfl ?_; refine hb_ex _ rfl rfl rfl (fun w1 => r_loadB rfl T.row_api_Sales T.sz_api_Sales rfl mB (by rfl) (hl_nil (qe_done rfl))) ?_; refine hb_ex _ rfl rfl rfl (fun w1 => r_fieldAddr ⟨_, 6, none⟩ rfl rfl T.fa_api_Sales_1 rfl (hl_nil (qe_done rfl))) ?_; refine hb_ex _ rfl rfl rfl (fun w1 => r_load rfl T.cell_ints rfl (cell_blk mB rfl) (hl_nil (qe_done rfl))) ?_; refine hb_ex _ rfl rfl rfl (fun w1 => r_move rfl rfl (hl_nil (qe_done rfl))) ?_; refine hb_ex _ rfl rfl rfl (fun w1 => r_elem (α := Int) ps.l i rfl T.u_ints T.sz_int rfl rfl rfl mB rfl (hi) (by decide) (hl_nil (qe_done rfl))) ?_; refine hb_ex _ rfl rfl rfl (fun w1 => r_load (v := int (ps.l.getD i default)) rfl T.cell_int rfl (cell_row mB (rows_get0 (hi) rfl)) (hl_nil (qe_done rfl))) ?_; refine hb_nil ⟨rfl, ?_⟩; refine hl_call F.ref09_Off_cb rfl rfl (ref09_Off_meets c ps qs (ps.l.getD i default) (by omega) (by omega)) (List.Perm.refl _) ⟨mB, mB, trivial⟩ fun _ _ => ?_; refine hl_nil (then_n ?_); refine c_dec rfl (fun hb1 => ?_) (fun hb1 => ?_)
 ·have hb1' := hb1; try simp at hb1'
  refine hc_seq (hc_region (r_move rfl rfl ?_)); refine r_fieldAddr ⟨_, 0, none⟩ rfl rfl T.fa_api_Sales_0 rfl ?_; refine r_fieldAddr ⟨_, 4, none⟩ rfl rfl T.fa_api_Charges_4 rfl ?_; refine r_load rfl T.cell_int rfl (cell_blk mB rfl) ?_; refine r_sub _ rfl rfl rfl rfl (by unfold I64; omega) ?_; refine r_mul (sumN c qs.l i * (100 - c.2.2.2.2.1)) rfl rfl rfl rfl (by unfold I64; omega) ?_; refine r_add (sumN c qs.l i * (100 - c.2.2.2.2.1) + 99) rfl rfl rfl rfl (by unfold I64; omega) ?_; have hq : 0 ≤ (sumN c qs.l i * (100 - c.2.2.2.2.1) + 99).tdiv 100 ∧ (sumN c qs.l i * (100 - c.2.2.2.2.1) + 99).tdiv 100 ≤ 100000 := by rw [Int.tdiv_eq_ediv_of_nonneg (by omega)]; omega
  refine r_quo ((sumN c qs.l i * (100 - c.2.2.2.2.1) + 99).tdiv 100) rfl rfl rfl (by omega) (IntWalk.i64_in _ (by omega)) ?_; refine r_assign rfl rfl (hl_nil (then_n (hc_ret (then_ret ?_)))); exact ret1 () rfl (by show some _ = some (int (bilN c ps.l qs.l i)); unfold bilN; rw [if_pos (show offB c ps.l qs.l (ps.l.getD i default) = true from decide_eq_true hb1)]; rfl) rfl trivial (List.nil_sublist _) trivial
 ·have hb1' := hb1; try simp at hb1'
  refine hc_skip (then_n (hc_seq (hc_region (r_move rfl rfl (r_assign rfl rfl (hl_nil (then_n (hc_ret ?_)))))))); exact ret1 () rfl (by show some _ = some (int (bilN c ps.l qs.l i)); unfold bilN; rw [if_neg (show ¬ offB c ps.l qs.l (ps.l.getD i default) = true from fun e => hb1 (of_decide_eq_true e))]) rfl trivial (List.nil_sublist _) trivial
theorem ref09_Bills_meets (c : Ch) (ps : Sl Int) (qs : Sl Ad) (hn : ps.l.length ≤ 1000000) (hm : qs.l.length ≤ 1000000) : Meets Tryz.prog F.ref09_Bills [saV c ps qs] { LI := saL ps qs, inv := fun x : OutC × Hp => Grow T.int 1 x.1.1 (billsE c ps.l qs.l).1.length x.1.2 (rows (billsE c ps.l qs.l).1) x.2, val := fun x => .tuple #[.slice x.1.1 (billsE c ps.l qs.l).1.length x.1.2, int (billsE c ps.l qs.l).2], hpO := fun x => x.2 } := by
 refine meets_intro F.ref09_Bills_f rfl (Nat.le_of_ble_eq_true rfl) fun w0 => ?_; refine hc_seq (hc_region ?_); refine r_box rfl rfl fun gB => ?_; refine r_assign rfl rfl (r_assign rfl rfl (hl_nil (then_n (hc_seq (hc_seq (hc_letgoB (hc_region ?_))))))); refine r_loadB rfl T.row_api_Sales T.sz_api_Sales rfl mB (by rfl) ?_; refine hl_call F.ref09_Check_cb rfl rfl (ref09_Check_meets c ps qs hn hm) (List.Perm.refl _) ⟨mB, mB, trivial⟩ fun _ _ => ?_; refine r_assign rfl rfl (hl_nil (then_n (hc_seq (hc_region (r_move rfl rfl (r_neq rfl rfl rfl (hl_nil (then_n ?_)))))))); refine c_dec rfl (fun hb1 => ?_) (fun hb1 => ?_)
 ·have hb1' := hb1; try simp at hb1'
  refine hc_seq (hc_region (r_move rfl rfl (r_assign rfl rfl (r_assign rfl rfl (hl_nil (then_n (hc_ret (then_ret ?_)))))))); have hE : (billsE c ps.l qs.l) = ([], chkS c ps.l qs.l) := by rw [billsE, if_pos hb1]
  exact ret2 ((none, 0), []) rfl rfl rfl (by show Value.tuple #[.slice none (billsE c ps.l qs.l).1.length 0, int (billsE c ps.l qs.l).2] = _; rw [hE]; rfl) rfl (by show Grow _ _ none (billsE c ps.l qs.l).1.length 0 (rows (billsE c ps.l qs.l).1) []; rw [hE]; exact Grow.nil _ _) (List.nil_sublist _) trivial
 ·have hb1' := hb1; try simp at hb1'
  have h0 : chkS c ps.l qs.l = 0 := Classical.not_not.1 hb1; have hsa := sa_ok h0; have hn5 := hsa.n5; refine hc_skip (then_n (hc_seq (hc_region (r_assign rfl rfl (hl_nil (then_n (hc_seq (hc_seq (hc_region (r_assign rfl rfl (hl_nil ?_))))))))))); refine then_n (hc_block ?_); refine hc_loop (β := Nat × OutC × Hp) ⟨fun x => x.1 ≤ ps.l.length ∧ Grow T.int 1 x.2.1.1 (bilL c ps.l qs.l x.1).length x.2.1.2 (rows (bilL c ps.l qs.l x.1)) x.2.2, fun x => [(1, .pointer (some ⟨gB, 0, none⟩)), (5, .slice x.2.1.1 (bilL c ps.l qs.l x.1).length x.2.1.2), (6, int x.1)], fun x => x.2.2, fun _ => Blk gB (.cells (saC c ps qs) T.api_Sales (0, 0)) :: saL ps qs⟩ (fun x => ps.l.length - x.1) (0, (none, 0), []) ⟨Nat.zero_le _, Grow.nil _ _⟩ ⟨rfl, rfl, rfl, trivial⟩ (List.nil_sublist _) ⟨mB, mB, mB, trivial⟩ fun x hx => ?_; obtain ⟨k, ⟨na, nc⟩, og⟩ := x; obtain ⟨hk, hG⟩ := hx; simp only at hk hG; have hbl := bilL_len c ps.l qs.l k; refine hc_seq (hc_seq (hc_region (r_move rfl rfl ?_))); refine r_fieldAddr ⟨_, 6, none⟩ rfl rfl T.fa_api_Sales_1 rfl ?_; refine r_load rfl T.cell_ints rfl (cell_blk mB rfl) ?_; refine r_len_sl rfl T.u_ints rfl ?_; refine r_lss rfl rfl rfl (hl_nil (then_n ?_)); refine c_dec rfl (fun hb2 => ?_) (fun hb2 => ?_)
  ·have hb2' := hb2; try simp at hb2'
   have hk2 : k < ps.l.length := by omega
   refine hc_skip (then_n (hc_seq (hc_block (hc_region (r_move rfl rfl ?_))))); refine r_loadB rfl T.row_api_Sales T.sz_api_Sales rfl mB (by rfl) ?_; refine r_move rfl rfl ?_; refine hl_call F.ref09_Bill_cb rfl rfl (ref09_Bill_meets c ps qs k hk2 hsa) (List.Perm.refl _) ⟨mB, mB, trivial⟩ fun _ _ => ?_; refine r_buildSlice _ rfl rfl (fun _ => T.bs_ints_1 ..) fun gS => ?_; refine hl_letgo (rows [bilN c ps.l qs.l k]) (List.prefix_refl _) ?_; refine r_append (hp' := []) ((bilL c ps.l qs.l k).length + 1) (rows ((bilL c ps.l qs.l k) ++ [bilN c ps.l qs.l k])) T.el_ints rfl rfl rfl hG (show List.Perm og (og ++ []) from by rw [List.append_nil]) (Src.row (news := rows [bilN c ps.l qs.l k]) (m := 1) mB rfl (rows_one _) (by decide)) rfl (rows_append _ _).symm (by unfold maxLen; omega) (by omega) fun A' c' og' hG' => ?_; refine r_assign rfl rfl (hl_nil (inb_n (then_n (hc_region (r_move rfl rfl ?_))))); refine r_add _ rfl rfl rfl rfl (by unfold I64; omega) ?_; refine r_assign rfl rfl (hl_nil ?_); have hs := bilL_succ c ps.l qs.l k; have hs2 : (bilL c ps.l qs.l (k + 1)).length = (bilL c ps.l qs.l k).length + 1 := by rw [hs, List.length_append]; rfl
   refine hq_perm (hp' := og') (show List.Perm (og' ++ []) og' from by rw [List.append_nil]) ?_; exact again _ (k + 1, (A', c'), og') ⟨by show k + 1 ≤ ps.l.length; omega, by show Grow _ _ _ (bilL c ps.l qs.l (k + 1)).length _ (rows (bilL c ps.l qs.l (k + 1))) _; rw [hs2, hs]; exact hG'⟩ (by show ps.l.length - (k + 1) < ps.l.length - k; omega) ⟨rfl, congrArg (fun n => some (Value.slice A' n c')) hs2.symm, rfl, trivial⟩ (.refl _) ⟨mB, mB, mB, trivial⟩
  ·have hb2' := hb2; try simp at hb2'
   obtain rfl : k = ps.l.length := by omega
   rw [bilL_all] at hG hbl; refine hc_exit (then_exit (then_exit (inb_hit (then_n (hc_seq (hc_region (r_move rfl rfl (r_assign rfl rfl (r_assign rfl rfl (hl_nil (then_n ?_))))))))))); refine hc_ret ?_; have hE : (billsE c ps.l qs.l) = (numsN 58 c ps.l qs.l, 0) := by rw [billsE, if_neg hb1]
   exact ret2 ((na, nc), og) rfl rfl rfl (by show Value.tuple #[.slice na (billsE c ps.l qs.l).1.length nc, int (billsE c ps.l qs.l).2] = Value.tuple #[.slice na (bilL c ps.l qs.l ps.l.length).length nc, int 0]; rw [hE, bilL_all]) rfl (by show Grow _ _ na (billsE c ps.l qs.l).1.length nc (rows (billsE c ps.l qs.l).1) og; rw [hE]; exact hG) (.refl _) trivial
theorem law09_large_meets (c : Ch) (ps : Sl Int) (qs : Sl Ad) : Meets Tryz.prog F.law09_large [saV c ps qs] { LI := saL ps qs, val := fun _ : Unit => .bool (decide (20 < ps.l.length ∨ 20 < qs.l.length)) } := by
 refine meets_intro F.law09_large_f rfl (Nat.le_of_ble_eq_true rfl) fun w0 => ?_; refine hc_seq (hc_region ?_); refine r_box rfl rfl fun gB => ?_; refine r_assign rfl rfl (hl_nil (then_n (hc_seq (hc_region ?_)))); refine r_fieldAddr ⟨_, 6, none⟩ rfl rfl T.fa_api_Sales_1 rfl ?_; refine r_load rfl T.cell_ints rfl (cell_own mB rfl) ?_; refine r_len_sl rfl T.u_ints rfl ?_; refine r_gtr rfl rfl rfl (r_move rfl rfl ?_); refine g_split rfl rfl ?_ ?_
 ·intro hg1; have hg1' := hg1; try simp at hg1'
  refine g_yes rfl rfl hg1 ?_; refine r_fieldAddr ⟨_, 7, none⟩ rfl rfl T.fa_api_Sales_2 rfl ?_; refine g_yes rfl rfl hg1 ?_; refine r_load rfl T.cell_L_api_Advert rfl (cell_own mB rfl) ?_; refine g_yes rfl rfl hg1 ?_; refine r_len_sl rfl T.u_L_api_Advert rfl ?_; refine g_yes rfl rfl hg1 (r_gtr rfl rfl rfl ?_); refine p_f rfl rfl (bf1 hg1) rfl ?_; refine r_assign rfl rfl (hl_nil (then_n (hc_ret ?_))); exact ret1 () rfl (congrArg (fun b => some (Value.bool b)) (decide_eq_decide.2 (by omega))) rfl trivial (List.nil_sublist _) trivial
 ·intro hg1; have hg1' := hg1; try simp at hg1'
  refine g_no rfl rfl rfl rfl rfl hg1 (g_no rfl rfl rfl rfl rfl hg1 (g_no rfl rfl rfl rfl rfl hg1 (g_no rfl rfl rfl rfl rfl hg1 ?_))); refine p_t rfl rfl (bt2 hg1) rfl ?_; refine r_assign rfl rfl (hl_nil (then_n (hc_ret ?_))); exact ret1 () rfl (congrArg (fun b => some (Value.bool b)) (decide_eq_true (by omega)).symm) rfl trivial (List.nil_sublist _) trivial
end Go.Proofs.YtdlbbfcfahahdaaGreat
end
section
namespace Go.Proofs.YtdlbbfcfahahdaaGreat
open Go Go.W
set_option maxRecDepth 20000
attribute [local irreducible] HL HC HQ HB Row Rows2 Blk Facts
abbrev sumsL (c : Ch) (xs : List Ad) (n k : Nat) : List Int := (List.range n).map (sumK c xs k)
end Go.Proofs.YtdlbbfcfahahdaaGreat
end
section
namespace Go.Proofs.YtdlbbfcfahahdaaGreat
open Go Go.W
set_option maxRecDepth 20000
attribute [local irreducible] HL HC HQ HB Row Rows2 Blk Facts
end Go.Proofs.YtdlbbfcfahahdaaGreat
end
section
namespace Go.W
open Go Go.RowKit
def GoQ {β : Type} (s : Sta β) (μ : β → Nat) (m : Option Nat) (l : Nat) (c : Cx) (Q : Exit → Act → World → Prop) : Exit → Act → World → Prop
  | .goto l', a, w => l' = l ∧ ∃ y, s.inv y ∧ (∀ k, m = some k → μ y < k) ∧ Ok c a (s.fr y) ∧ WI c.b w (s.hp y) (s.L y)
  | e, a, w => Q e a w
section
variable {c : Cx} {Q : Exit → Act → World → Prop} {fr : Fr} {hp : Hp} {L : List Fact}
end
end Go.W
end
section
namespace Go.Proofs.YtdlbbfcfahahdaaGreat
open Go Go.W
set_option maxRecDepth 20000
attribute [local irreducible] HL HC HQ HB Row Rows2 Blk Facts
def bilA (c : Ch) (ss : List Int) (xs : List Ad) (y : Ad) : Int := bilN c ss (xs ++ [y]) y.1.toNat
def chStep (c : Ch) (ss : List Int) (xs : List Ad) (o : Option (Ad × Int)) (y : Ad) : Option (Ad × Int) :=
  if ¬ adErr ss.length y = 0 then o else match o with
    | none => some (y, bilA c ss xs y)
    | some z => if bilA c ss xs y < z.2 then some (y, bilA c ss xs y) else some z
def xA : Option (Ad × Int) → Ad
  | none => (0, 0, 0)
  | some z => z.1
def xB : Option (Ad × Int) → Int
  | none => 0
  | some z => z.2
def chIn (c : Ch) (ss : List Int) (xs : List Ad) (cu ln : Int) (kd : Nat) (o : Option (Ad × Int)) (i : Nat) : Option (Ad × Int) := (List.range i).foldl (fun o (j : Nat) => chStep c ss xs o (cu, (kd : Int), ln + (j : Int))) o
def chOut (c : Ch) (ss : List Int) (xs : List Ad) (cu ln : Int) (k : Nat) : Option (Ad × Int) := (List.range k).foldl (fun o kd => chIn c ss xs cu ln (kd + 1) o (7 - ln).toNat) none
def cheapE (c : Ch) (ss : List Int) (xs : List Ad) (cu ln : Int) : Ad × Int × Int :=
  if ¬ chkS c ss xs = 0 then ((0, 0, 0), 0, chkS c ss xs) else if ¬ (0 ≤ cu ∧ cu ≤ (ss.length : Int) - 1) then ((0, 0, 0), 0, 3) else if ¬ (1 ≤ ln ∧ ln ≤ 6) then ((0, 0, 0), 0, 1) else if 8 ≤ xs.length then ((0, 0, 0), 0, 6)
  else (xA (chOut c ss xs cu ln 3), xB (chOut c ss xs cu ln 3), 0)
def chAt (c : Ch) (ss : List Int) (xs : List Ad) (cu ln : Int) (x : Nat × Nat) : Option (Ad × Int) := chIn c ss xs cu ln (x.1 + 1) (chOut c ss xs cu ln x.1) x.2
end Go.Proofs.YtdlbbfcfahahdaaGreat
end
section
namespace Go.Proofs.YtdlbbfcfahahdaaGreat
open Go Go.W
set_option maxRecDepth 20000
attribute [local irreducible] HL HC HQ HB Row Rows2 Blk Facts
def xC : Option (Ad × Int) → Int
  | none => -1
  | some z => z.2
def chItem (cu ln : Int) (kd j : Nat) : Ad := (cu, (kd : Int), ln + (j : Int))
def chList (cu ln : Int) (k : Nat) : List Ad := (List.range k).flatMap fun kd => (List.range (7 - ln).toNat).map fun j => chItem cu ln (kd + 1) j
def chNN (o : Option (Ad × Int)) : Prop := ∀ z, o = some z → 0 ≤ z.2
end Go.Proofs.YtdlbbfcfahahdaaGreat
end
