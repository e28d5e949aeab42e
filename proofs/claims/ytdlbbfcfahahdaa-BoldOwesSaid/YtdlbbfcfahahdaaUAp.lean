/- Texts of this claim, one behind another. -/

import Derived.Test.YtdlbbfcfahahdaaUAo
set_option linter.unusedVariables false
set_option linter.unusedSimpArgs false
section
namespace Go.Proofs.Ytdlbbfcfahahdaa
open Go Go.W
set_option maxRecDepth 20000
attribute [local irreducible] HL HC HQ HB Row Rows2 Blk Facts
theorem firstE_none {n : Nat} : ∀ {xs : List Ad}, (∀ x ∈ xs, adErr n x = 0) → firstE n xs = 0
  | [], _ => rfl
  | x :: r, h => by rw [firstE, if_neg (fun e => e (h x (List.mem_cons_self ..)))]; exact firstE_none fun y hy => h y (List.mem_cons_of_mem _ hy)
theorem chk_mk {c : Ch} {ss : List Int} {xs : List Ad} (hc : ChOK c) (h1 : 1 ≤ ss.length ∧ ss.length ≤ 5) (hs : ∀ v ∈ ss, 0 ≤ v ∧ v ≤ 9) (hx : xs.length ≤ 8) (ha : ∀ x ∈ xs, adErr ss.length x = 0) : chkS c ss xs = 0 := by
  obtain ⟨q1, q2, q3, q4, q5, q6⟩ := hc
  unfold chkS
  rw [if_neg (Classical.not_not.2 (by intro v hv; simp only [chQ, List.mem_cons, List.not_mem_nil, or_false] at hv; rcases hv with rfl | rfl | rfl | rfl <;> assumption)), if_neg (by omega), if_neg (by omega), if_neg (by omega), if_neg (Classical.not_not.2 hs), if_neg (by omega)]
  exact firstE_none ha
abbrev saB (g : Nat) (c : Ch) (sA : Option Addr) (sn sC : Nat) (aA : Option Addr) (an aC : Nat) : Nat × Obj := (g, .cells #[int c.1, int c.2.1, int c.2.2.1, int c.2.2.2.1, int c.2.2.2.2.1, int c.2.2.2.2.2, .slice sA sn sC, .slice aA an aC] T.api_Sales (0, 0))
abbrev SRes := Ch × Sl Int × Sl Ad
structure SOf (m : Nat) (x : SRes) : Prop where
  ok : chkS x.1 x.2.1.l x.2.2.l = 0
  x8 : x.2.2.l.length ≤ m
  ca : x.2.1.l.length ≤ x.2.1.c
  cb : x.2.2.l.length ≤ x.2.2.c
set_option maxHeartbeats 1000000 in
theorem kit_SalesOf_meets {g : Nat} {A : Option Addr} {c : Nat} {nums : List Int} {s : Int × Int} (m : Nat) (hn : nums.length ≤ 9223372036854775807) (hs : DOK nums s) (hm : m ≤ 8) :
    Meets Try.prog F.kit_SalesOf [.pointer (some ⟨g, 0, none⟩), int m] (diceCon g A c nums s (SOf m) (fun x => saV x.1 x.2.1 x.2.2) (fun x => saL x.2.1 x.2.2)) := by
 refine meets_intro F.kit_SalesOf_f rfl (Nat.le_of_ble_eq_true rfl) fun w0 => ?_
 refine hc_seq (hc_region ?_)
 refine r_alloc rfl (fun _ => T.al_api_Sales _) fun g4 => ?_
 refine hl_nil (then_n (hc_seq (hc_region (r_move rfl rfl (r_move rfl rfl ?_)))))
 refine hl_call F.kit_Dice_To_cb rfl rfl (kit_Dice_To_meets (30) hn hs (by omega)) (List.Perm.swap _ _ _) ⟨mB, trivial⟩ fun xs1 hs1 => ?_
 obtain ⟨s1, z1⟩ := xs1
 obtain ⟨hs1, hz1⟩ := hs1
 simp only at hs1
 have hz1 : 0 ≤ z1 ∧ z1 ≤ 30 := to_bd hz1 (by omega)
 refine r_move rfl rfl ?_
 refine hl_call F.kit_Dice_To_cb rfl rfl (kit_Dice_To_meets (200) hn hs1 (by omega)) (List.Perm.refl _) ⟨mB, trivial⟩ fun xs2 hs2 => ?_
 obtain ⟨s2, z2⟩ := xs2
 obtain ⟨hs2, hz2⟩ := hs2
 simp only at hs2
 have hz2 : 0 ≤ z2 ∧ z2 ≤ 200 := to_bd hz2 (by omega)
 refine r_buildSlice _ rfl rfl (fun _ => T.bs_ints_3 ..) fun gS => ?_
 refine hl_letgo (rows ([0, z1, z2] : List Int)) (List.prefix_refl _) ?_
 refine hl_call F.kit_Dice_One_cb rfl rfl (kit_Dice_One_meets ([0, z1, z2]) hn hs2 (show 0 < 3 by decide) (show 3 ≤ 1000 by decide)) (List.Perm.refl _) ⟨mB, mB, trivial⟩ fun xs3 hs3 => ?_
 obtain ⟨s3, za⟩ := xs3
 obtain ⟨hs3, hza⟩ := hs3
 simp only at hs3
 have hza : 0 ≤ za ∧ za ≤ 200 := by
   have hm := hza
   simp only [List.mem_cons, List.not_mem_nil, or_false] at hm; rcases hm with rfl | rfl | rfl <;> omega
 refine r_move rfl rfl ?_
 refine hl_call F.kit_Dice_To_cb rfl rfl (kit_Dice_To_meets (90) hn hs3 (by omega)) (List.Perm.refl _) ⟨mB, trivial⟩ fun xs4 hs4 => ?_
 obtain ⟨s4, zb⟩ := xs4
 obtain ⟨hs4, hzb⟩ := hs4
 simp only at hs4
 have hzb : 0 ≤ zb ∧ zb ≤ 90 := to_bd hzb (by omega)
 refine r_move rfl rfl ?_
 refine hl_call F.kit_Dice_To_cb rfl rfl (kit_Dice_To_meets (30) hn hs4 (by omega)) (List.Perm.refl _) ⟨mB, trivial⟩ fun xs5 hs5 => ?_
 obtain ⟨s5, zc⟩ := xs5
 obtain ⟨hs5, hzc⟩ := hs5
 simp only at hs5
 have hzc : 0 ≤ zc ∧ zc ≤ 30 := to_bd hzc (by omega)
 refine r_move rfl rfl ?_
 refine hl_call F.kit_Dice_To_cb rfl rfl (kit_Dice_To_meets (99) hn hs5 (by omega)) (List.Perm.refl _) ⟨mB, trivial⟩ fun xs6 hs6 => ?_
 obtain ⟨s6, zd⟩ := xs6
 obtain ⟨hs6, hzd⟩ := hs6
 simp only at hs6
 have hzd : 0 ≤ zd ∧ zd ≤ 99 := to_bd hzd (by omega)
 refine r_move rfl rfl (r_move rfl rfl ?_)
 refine hl_call F.kit_Dice_To_cb rfl rfl (kit_Dice_To_meets (20) hn hs6 (by omega)) (List.Perm.refl _) ⟨mB, trivial⟩ fun xs7 hs7 => ?_
 obtain ⟨s7, z7⟩ := xs7
 obtain ⟨hs7, hz7⟩ := hs7
 simp only at hs7
 have hz7 : 0 ≤ z7 ∧ z7 ≤ 20 := to_bd hz7 (by omega)
 refine r_buildSlice _ rfl rfl (fun _ => T.bs_ints_3 ..) fun gS => ?_
 refine hl_letgo (rows ([0, z7, 50] : List Int)) (List.prefix_refl _) ?_
 refine hl_call F.kit_Dice_One_cb rfl rfl (kit_Dice_One_meets ([0, z7, 50]) hn hs7 (show 0 < 3 by decide) (show 3 ≤ 1000 by decide)) (List.Perm.refl _) ⟨mB, mB, trivial⟩ fun xs8 hs8 => ?_
 obtain ⟨s8, ze⟩ := xs8
 obtain ⟨hs8, hze⟩ := hs8
 simp only at hs8
 have hze : 0 ≤ ze ∧ ze ≤ 50 := by
   have hm := hze
   simp only [List.mem_cons, List.not_mem_nil, or_false] at hm; rcases hm with rfl | rfl | rfl <;> omega
 refine r_move rfl rfl ?_
 refine hl_call F.kit_Dice_From_cb rfl rfl (kit_Dice_From_meets (1) (3) hn hs8 (by omega)) (List.Perm.refl _) ⟨mB, trivial⟩ fun xs9 hs9 => ?_
 obtain ⟨s9, zf⟩ := xs9
 obtain ⟨hs9, hzf⟩ := hs9
 simp only at hs9
 have hzf : 1 ≤ zf ∧ zf ≤ 3 := from_bd hzf (by omega)
 refine r_build _ rfl rfl (fun _ => T.bd_api_Charges_0_1_2_3_4_5 ..) ?_
 refine r_build _ rfl rfl (fun _ => T.bd_api_Sales_0 ..) ?_
 refine r_alloc rfl (fun _ => T.al_api_Sales _) fun g5 => ?_
 refine r_storeS (cs := #[int za, int zb, int zc, int zd, int ze, int zf, .slice none 0 0, .slice none 0 0]) rfl rfl (.refl _) T.sz_api_Sales (by rfl) (by rfl) ?_
 have hch : ChOK (za, zb, zc, zd, ze, zf) := ⟨by show 0 ≤ za ∧ za ≤ 999; omega, by show 0 ≤ zb ∧ zb ≤ 999; omega, by show 0 ≤ zc ∧ zc ≤ 999; omega, by show 0 ≤ zd ∧ zd ≤ 999; omega, by show 0 ≤ ze ∧ ze ≤ 50; omega, by show 1 ≤ zf ∧ zf ≤ 5; omega⟩
 refine hl_nil (then_n (hc_seq (hc_seq (hc_region (r_move rfl rfl ?_)))))
 refine hl_call F.kit_Dice_From_cb rfl rfl (kit_Dice_From_meets (1) (5) hn hs9 (by omega)) (List.Perm.swap _ _ _) ⟨mB, trivial⟩ fun xs10 hs10 => ?_
 obtain ⟨s10, zn⟩ := xs10
 obtain ⟨hs10, hzn⟩ := hs10
 simp only at hs10
 have hzn : 1 ≤ zn ∧ zn ≤ 5 := from_bd hzn (by omega)
 obtain ⟨zn, rfl⟩ := Int.eq_ofNat_of_zero_le (show 0 ≤ zn by omega)
 refine r_assign rfl rfl (hl_nil (then_n (hc_block ?_)))
 refine hc_loop (β := List Int × OutC × Hp × Nat × (Int × Int)) ⟨fun ⟨l, o, og, i, s⟩ => Grow T.int 1 o.1 l.length o.2 (rows l) og ∧ l.length + i = zn ∧ (∀ v ∈ l, 0 ≤ v ∧ v ≤ 9) ∧ DOK nums s, fun ⟨l, o, og, i, s⟩ => [(0, .pointer (some ⟨g, 0, none⟩)), (1, int m), (4, .pointer (some ⟨g4, 0, none⟩)), (5, .pointer (some ⟨g5, 0, none⟩)), (6, int i)], fun ⟨l, o, og, i, s⟩ => dice g A c nums s :: saB g5 ((za, zb, zc, zd, ze, zf) : Ch) o.1 l.length o.2 none 0 0 :: saB g4 (0, 0, 0, 0, 0, 0) none 0 0 none 0 0 :: og, fun _ => [Row A (rows nums)]⟩ (fun x => x.2.2.2.1) ([], (none, 0), [], zn, s10) ⟨Grow.nil _ _, Nat.zero_add _, fun v hv => by simp at hv, hs10⟩ ⟨rfl, rfl, rfl, rfl, rfl, trivial⟩ (.refl _) ⟨mB, trivial⟩ fun x hx => ?_
 clear hs hs1 hs2 hs3 hs4 hs5 hs6 hs7 hs8 hs9 hs10
 obtain ⟨l, o, og, i, s⟩ := x
 obtain ⟨hG, hli, hok, hs⟩ := hx
 refine hc_seq (hc_seq (hc_region (r_move rfl rfl (r_gtr rfl rfl rfl (hl_nil (then_n ?_))))))
 first | refine c_dec rfl (fun hb1 => ?_) (fun hb1 => ?_) | refine hc_cond rfl (fun hb1 => ?_) (fun hb1 => ?_)
 ·have hb1' := hb1; try simp at hb1'
  have hi0 : 0 < i := by omega
  refine hc_skip (then_n (hc_seq (hc_block ?_)))
  refine hc_drawW (dice g A c nums s :: og) ([saB g5 ((za, zb, zc, zd, ze, zf) : Ch) o.1 l.length o.2 none 0 0, saB g4 (0, 0, 0, 0, 0, 0) none 0 0 none 0 0]) (perm_of fun p => by simp only [List.countP_append, List.countP_cons, List.countP_nil]; omega) 8 [6, 4] mixed (by decide) (by decide) (by decide) rfl rfl rfl ?_
  apply hb_ex _ rfl rfl rfl
  ·intro w1
   first | refine r_fieldAddr ⟨_, 6, none⟩ rfl rfl T.fa_api_Sales_1 rfl ?_ | refine r_fieldAddr _ rfl rfl T.fa_api_Sales_1 rfl ?_
   refine hl_nil ?_
   exact qe_done rfl
  apply hb_ex _ rfl rfl rfl
  ·intro w1
   first | refine r_load rfl T.cell_ints rfl (cell_blk mB rfl) ?_ | refine r_load rfl T.cell_ints rfl (cell_own mB rfl) ?_ | refine r_load rfl T.cell_ints rfl (cell_row mB (rows_get0 (by omega) rfl)) ?_ | refine r_load rfl T.cell_ints rfl (cell_row_f mB (rows_get (by omega) rfl)) ?_ | refine r_load rfl T.cell_ints rfl (cell_rowg mB rfl) ?_
   refine hl_nil ?_
   exact qe_done rfl
  refine hb_ex _ rfl rfl rfl (fun w1 => r_move rfl rfl (hl_nil (qe_done rfl))) ?_
  refine hb_ex _ rfl rfl rfl (fun w1 => r_move rfl rfl (hl_nil (qe_done rfl))) ?_
  refine hb_wr ⟨(Int × Int) × Int, fun x => DOK nums x.1 ∧ 0 ≤ x.2 ∧ x.2 ≤ 9, fun x => int x.2, fun _ => [], fun x => dice g A c nums x.1 :: og⟩ rfl rfl rfl ?_ ?_
  ·intro w1
   refine hl_call F.kit_Dice_To_cb rfl rfl (kit_Dice_To_meets (9) hn hs (by omega)) (List.Perm.refl _) ⟨mB, trivial⟩ fun xs1 hs1 => ?_
   obtain ⟨s1, z⟩ := xs1
   obtain ⟨hs1, hz⟩ := hs1
   simp only at hs1
   have hz : 0 ≤ z ∧ z ≤ 9 := to_bd hz (by omega)
   refine hl_nil ?_
   exact qw_done (s1, z) ⟨hs1, hz⟩ (fun _ => rfl) (List.Sublist.refl _) trivial
  refine hb_vs ⟨Nat × Int, fun x => 0 ≤ x.2 ∧ x.2 ≤ 9, fun x => .slice (some ⟨x.1, 0, none⟩) 4 4, fun x => [Row (some ⟨x.1, 0, none⟩) (rows ([0, 0, 3, x.2] : List Int))]⟩ rfl rfl rfl ?_ ?_
  ·intro x hx; intro w1
   refine r_buildSlice _ rfl rfl (fun _ => T.bs_ints_4 ..) fun gS => ?_
   refine hl_nil ?_
   refine hq_letgo (rows ([0, 0, 3, x.2] : List Int)) (List.prefix_refl _) ?_
   exact qv_done (gS, x.2) hx.2 rfl ⟨m0, trivial⟩
  refine hb_wr ⟨(Int × Int) × Int, fun x => DOK nums x.1 ∧ 0 ≤ x.2 ∧ x.2 ≤ 9, fun x => int x.2, fun _ => [], fun x => dice g A c nums x.1 :: og⟩ rfl rfl rfl ?_ ?_
  ·intro y4 hy4 y5 hy5; intro w1
   refine hl_call F.kit_Dice_One_cb rfl rfl (kit_Dice_One_meets ([0, 0, 3, y5.2]) hn hy4.1 (show 0 < 4 by decide) (show 4 ≤ 1000 by decide)) (List.Perm.refl _) ⟨mB, mB, trivial⟩ fun xs2 hs2 => ?_
   obtain ⟨s2, z2⟩ := xs2
   obtain ⟨hs2, hz2⟩ := hs2
   simp only at hs2
   have hz2 : 0 ≤ z2 ∧ z2 ≤ 9 := by
     have hm := hz2
     simp only [List.mem_cons, List.not_mem_nil, or_false] at hm; rcases hm with rfl | rfl | rfl | rfl <;> omega
   refine hl_nil ?_
   exact qw_done (s2, z2) ⟨hs2, hz2⟩ (fun _ => rfl) (List.Sublist.refl _) trivial
  refine hb_vs ⟨Nat × Int, fun x => 0 ≤ x.2 ∧ x.2 ≤ 9, fun x => .slice (some ⟨x.1, 0, none⟩) 1 1, fun x => [Row (some ⟨x.1, 0, none⟩) (rows [x.2])]⟩ rfl rfl rfl ?_ ?_
  ·intro x hx; intro w1
   refine r_buildSlice _ rfl rfl (fun _ => T.bs_ints_1 ..) fun gS => ?_
   refine hl_nil ?_
   refine hq_letgo (rows [x.2]) (List.prefix_refl _) ?_
   exact qv_done (gS, x.2) hx.2 rfl ⟨m0, trivial⟩
  refine hb_nil ⟨rfl, ?_⟩
  intro _ _ _ _ x6 h6 x7 h7
  obtain ⟨s2, _⟩ := x6
  have hs2 : DOK nums s2 := h6.1
  obtain ⟨g7, z⟩ := x7
  simp only at h7
  refine r_append (hp' := [dice g A c nums s2, saB g5 ((za, zb, zc, zd, ze, zf) : Ch) o.1 l.length o.2 none 0 0, saB g4 (0, 0, 0, 0, 0, 0) none 0 0 none 0 0]) (l.length + 1) (rows (l ++ [z])) T.el_ints rfl rfl rfl hG (show List.Perm (dice g A c nums s2 :: og ++ [saB g5 ((za, zb, zc, zd, ze, zf) : Ch) o.1 l.length o.2 none 0 0, saB g4 (0, 0, 0, 0, 0, 0) none 0 0 none 0 0]) (og ++ [dice g A c nums s2, saB g5 ((za, zb, zc, zd, ze, zf) : Ch) o.1 l.length o.2 none 0 0, saB g4 (0, 0, 0, 0, 0, 0) none 0 0 none 0 0]) from (perm_of fun p => by simp only [List.countP_append, List.countP_cons, List.countP_nil]; omega)) (Src.row (news := rows [z]) (m := 1) mB rfl (rows_one _) (by decide)) rfl (rows_append _ _).symm (by unfold maxLen; omega) (by omega) fun A4 c4 og4 hG4 => ?_
  first | refine r_fieldAddr ⟨_, 6, none⟩ rfl rfl T.fa_api_Sales_1 rfl ?_ | refine r_fieldAddr _ rfl rfl T.fa_api_Sales_1 rfl ?_
  refine r_store (hp' := og4 ++ [dice g A c nums s2, saB g4 (0, 0, 0, 0, 0, 0) none 0 0 none 0 0]) rfl rfl (show List.Perm (og4 ++ [dice g A c nums s2, saB g5 ((za, zb, zc, zd, ze, zf) : Ch) o.1 l.length o.2 none 0 0, saB g4 (0, 0, 0, 0, 0, 0) none 0 0 none 0 0]) (saB g5 ((za, zb, zc, zd, ze, zf) : Ch) o.1 l.length o.2 none 0 0 :: (og4 ++ [dice g A c nums s2, saB g4 (0, 0, 0, 0, 0, 0) none 0 0 none 0 0])) from (perm_of fun p => by simp only [List.countP_append, List.countP_cons, List.countP_nil]; omega)) T.sz_ints (by rfl) (by rfl) ?_
  refine hl_nil (inb_n (then_n (hc_region (r_move rfl rfl ?_))))
  refine r_sub ((i - 1 : Nat) : Int) rfl rfl rfl (by omega) (by unfold I64; omega) ?_
  refine r_assign rfl rfl (hl_nil ?_)
  have e1 : (l ++ [z]).length = l.length + 1 := List.length_append
  refine hq_perm (show List.Perm (saB g5 ((za, zb, zc, zd, ze, zf) : Ch) A4 (l.length + 1) c4 none 0 0 :: (og4 ++ [dice g A c nums s2, saB g4 (0, 0, 0, 0, 0, 0) none 0 0 none 0 0])) (dice g A c nums s2 :: saB g5 ((za, zb, zc, zd, ze, zf) : Ch) A4 (l.length + 1) c4 none 0 0 :: saB g4 (0, 0, 0, 0, 0, 0) none 0 0 none 0 0 :: og4) from (perm_of fun p => by simp only [List.countP_append, List.countP_cons, List.countP_nil]; omega)) ?_
  exact again _ (l ++ [z], (A4, c4), og4, i - 1, s2) ⟨by show Grow _ _ _ (l ++ [_]).length _ _ _; rw [e1]; exact hG4, by rw [e1]; omega, forall_snoc hok h7, hs2⟩ (by show i - 1 < i; omega) ⟨rfl, rfl, rfl, rfl, rfl, trivial⟩ (by show List.Sublist (_ :: saB g5 _ _ (l ++ [_]).length _ _ _ _ :: _) _; rw [e1]; exact List.Sublist.refl _) ⟨mB, trivial⟩
 ·have hb1' := hb1; try simp at hb1'
  obtain rfl : i = 0 := by omega
  refine hc_exit (then_exit (then_exit (inb_hit (then_n (hc_seq (hc_seq ?_))))))
  obtain ⟨sA, sC⟩ := o
  have hCle := hG.le
  refine hc_count (og ++ [dice g A c nums s, saB g5 ((za, zb, zc, zd, ze, zf) : Ch) sA l.length sC none 0 0, saB g4 (0, 0, 0, 0, 0, 0) none 0 0 none 0 0]) (by intro p; simp only [List.countP_append, List.countP_cons, List.countP_nil]; omega) ?_
  refine hc_grown hG ?_
  clear hG
  refine hc_region (r_move rfl rfl (r_move rfl rfl ?_))
  refine hl_call F.kit_Dice_To_cb rfl rfl (kit_Dice_To_meets (m) hn hs (by omega)) (List.Perm.refl _) ⟨mB, trivial⟩ fun xs11 hs11 => ?_
  obtain ⟨s11, zm⟩ := xs11
  obtain ⟨hs11, hzm⟩ := hs11
  simp only at hs11
  have hzm : 0 ≤ zm ∧ zm ≤ m := to_bd hzm (by omega)
  obtain ⟨zm, rfl⟩ := Int.eq_ofNat_of_zero_le hzm.1
  refine r_assign rfl rfl (hl_nil (then_n (hc_block ?_)))
  refine hc_loop (β := List Ad × OutC × Hp × Nat × (Int × Int)) ⟨fun ⟨q, o, og, i, s⟩ => Grow T.api_Advert 3 o.1 q.length o.2 (rows q) og ∧ q.length + i ≤ m ∧ (∀ x ∈ q, adErr l.length x = 0) ∧ DOK nums s, fun ⟨q, o, og, i, s⟩ => [(0, .pointer (some ⟨g, 0, none⟩)), (1, int m), (4, .pointer (some ⟨g4, 0, none⟩)), (5, .pointer (some ⟨g5, 0, none⟩)), (7, int i)], fun ⟨q, o, og, i, s⟩ => dice g A c nums s :: saB g5 ((za, zb, zc, zd, ze, zf) : Ch) sA l.length sC o.1 q.length o.2 :: saB g4 (0, 0, 0, 0, 0, 0) none 0 0 none 0 0 :: og, fun _ => [Row sA (rows l), Row A (rows nums)]⟩ (fun x => x.2.2.2.1) ([], (none, 0), [], zm, s11) ⟨Grow.nil _ _, by rw [List.length_nil]; omega, fun v hv => by simp at hv, hs11⟩ ⟨rfl, rfl, rfl, rfl, rfl, trivial⟩ (.refl _) ⟨mB, mB, trivial⟩ fun x hx => ?_
  clear hs hs11
  obtain ⟨q, o, og, i, s⟩ := x
  obtain ⟨hG, hqi, hok2, hs⟩ := hx
  refine hc_seq (hc_seq (hc_region (r_move rfl rfl (r_gtr rfl rfl rfl (hl_nil (then_n ?_))))))
  first | refine c_dec rfl (fun hb2 => ?_) (fun hb2 => ?_) | refine hc_cond rfl (fun hb2 => ?_) (fun hb2 => ?_)
  ·have hb2' := hb2; try simp at hb2'
   have hi0 : 0 < i := by omega
   refine hc_skip (then_n (hc_seq (hc_block ?_)))
   refine hc_drawW (dice g A c nums s :: og) ([saB g5 ((za, zb, zc, zd, ze, zf) : Ch) sA l.length sC o.1 q.length o.2, saB g4 (0, 0, 0, 0, 0, 0) none 0 0 none 0 0]) (perm_of fun p => by simp only [List.countP_append, List.countP_cons, List.countP_nil]; omega) 8 [6] mixed (by decide) (by decide) (by decide) rfl rfl rfl ?_
   apply hb_ex _ rfl rfl rfl
   ·intro w1
    first | refine r_fieldAddr ⟨_, 7, none⟩ rfl rfl T.fa_api_Sales_2 rfl ?_ | refine r_fieldAddr _ rfl rfl T.fa_api_Sales_2 rfl ?_
    refine hl_nil ?_
    exact qe_done rfl
   apply hb_ex _ rfl rfl rfl
   ·intro w1
    first | refine r_load rfl T.cell_L_api_Advert rfl (cell_blk mB rfl) ?_ | refine r_load rfl T.cell_L_api_Advert rfl (cell_own mB rfl) ?_ | refine r_load rfl T.cell_L_api_Advert rfl (cell_row mB (rows_get0 (by omega) rfl)) ?_ | refine r_load rfl T.cell_L_api_Advert rfl (cell_row_f mB (rows_get (by omega) rfl)) ?_ | refine r_load rfl T.cell_L_api_Advert rfl (cell_rowg mB rfl) ?_
    refine hl_nil ?_
    exact qe_done rfl
   refine hb_ex _ rfl rfl rfl (fun w1 => r_move rfl rfl (hl_nil (qe_done rfl))) ?_
   apply hb_ex _ rfl rfl rfl
   ·intro w1
    first | refine r_fieldAddr ⟨_, 6, none⟩ rfl rfl T.fa_api_Sales_1 rfl ?_ | refine r_fieldAddr _ rfl rfl T.fa_api_Sales_1 rfl ?_
    refine hl_nil ?_
    exact qe_done rfl
   apply hb_ex _ rfl rfl rfl
   ·intro w1
    first | refine r_load rfl T.cell_ints rfl (cell_blk mB rfl) ?_ | refine r_load rfl T.cell_ints rfl (cell_own mB rfl) ?_ | refine r_load rfl T.cell_ints rfl (cell_row mB (rows_get0 (by omega) rfl)) ?_ | refine r_load rfl T.cell_ints rfl (cell_row_f mB (rows_get (by omega) rfl)) ?_ | refine r_load rfl T.cell_ints rfl (cell_rowg mB rfl) ?_
    refine hl_nil ?_
    exact qe_done rfl
   refine hb_ex _ rfl rfl rfl (fun w1 => r_len_sl rfl T.u_ints rfl (hl_nil (qe_done rfl))) ?_
   refine hb_wr ⟨(Int × Int) × Ad, fun x => DOK nums x.1 ∧ adErr l.length x.2 = 0, fun x => adV x.2, fun _ => [], fun x => dice g A c nums x.1 :: og⟩ rfl rfl rfl ?_ ?_
   ·intro w1
    refine hl_call F.kit_AdvertOf_cb rfl rfl (kit_AdvertOf_meets l.length hn hs ⟨by omega, by omega⟩) (List.Perm.refl _) ⟨mB, trivial⟩ fun xs1 hs1 => ?_
    obtain ⟨s1, z⟩ := xs1
    obtain ⟨hs1, hz⟩ := hs1
    simp only at hs1
    refine hl_nil ?_
    exact qw_done (s1, z) ⟨hs1, hz⟩ (fun _ => rfl) (List.Sublist.refl _) trivial
   refine hb_vs ⟨Nat × Ad, fun x => adErr l.length x.2 = 0, fun x => .slice (some ⟨x.1, 0, none⟩) 1 1, fun x => [Row (some ⟨x.1, 0, none⟩) (rows [x.2])]⟩ rfl rfl rfl ?_ ?_
   ·intro x hx; intro w1
    refine r_buildSlice _ rfl rfl (fun _ => T.bs_L_api_Advert_1 ..) fun gS => ?_
    refine hl_nil ?_
    refine hq_letgo (rows [x.2]) (List.prefix_refl _) ?_
    exact qv_done (gS, x.2) hx.2 rfl ⟨m0, trivial⟩
   refine hb_nil ⟨rfl, ?_⟩
   intro x6 h6 x7 h7
   obtain ⟨s2, _⟩ := x6
   have hs2 : DOK nums s2 := h6.1
   obtain ⟨g7, z⟩ := x7
   simp only at h7
   refine r_append (hp' := [dice g A c nums s2, saB g5 ((za, zb, zc, zd, ze, zf) : Ch) sA l.length sC o.1 q.length o.2, saB g4 (0, 0, 0, 0, 0, 0) none 0 0 none 0 0]) (q.length + 1) (rows (q ++ [z])) T.el_L_api_Advert rfl rfl rfl hG (show List.Perm (dice g A c nums s2 :: og ++ [saB g5 ((za, zb, zc, zd, ze, zf) : Ch) sA l.length sC o.1 q.length o.2, saB g4 (0, 0, 0, 0, 0, 0) none 0 0 none 0 0]) (og ++ [dice g A c nums s2, saB g5 ((za, zb, zc, zd, ze, zf) : Ch) sA l.length sC o.1 q.length o.2, saB g4 (0, 0, 0, 0, 0, 0) none 0 0 none 0 0]) from (perm_of fun p => by simp only [List.countP_append, List.countP_cons, List.countP_nil]; omega)) (Src.row (news := rows [z]) (m := 1) mB rfl (rows_one _) (by decide)) rfl (rows_append _ _).symm (by unfold maxLen; omega) (by omega) fun A4 c4 og4 hG4 => ?_
   first | refine r_fieldAddr ⟨_, 7, none⟩ rfl rfl T.fa_api_Sales_2 rfl ?_ | refine r_fieldAddr _ rfl rfl T.fa_api_Sales_2 rfl ?_
   refine r_store (hp' := og4 ++ [dice g A c nums s2, saB g4 (0, 0, 0, 0, 0, 0) none 0 0 none 0 0]) rfl rfl (show List.Perm (og4 ++ [dice g A c nums s2, saB g5 ((za, zb, zc, zd, ze, zf) : Ch) sA l.length sC o.1 q.length o.2, saB g4 (0, 0, 0, 0, 0, 0) none 0 0 none 0 0]) (saB g5 ((za, zb, zc, zd, ze, zf) : Ch) sA l.length sC o.1 q.length o.2 :: (og4 ++ [dice g A c nums s2, saB g4 (0, 0, 0, 0, 0, 0) none 0 0 none 0 0])) from (perm_of fun p => by simp only [List.countP_append, List.countP_cons, List.countP_nil]; omega)) T.sz_L_api_Advert (by rfl) (by rfl) ?_
   refine hl_nil (inb_n (then_n (hc_region (r_move rfl rfl ?_))))
   refine r_sub ((i - 1 : Nat) : Int) rfl rfl rfl (by omega) (by unfold I64; omega) ?_
   refine r_assign rfl rfl (hl_nil ?_)
   have e1 : (q ++ [z]).length = q.length + 1 := List.length_append
   refine hq_perm (show List.Perm (saB g5 ((za, zb, zc, zd, ze, zf) : Ch) sA l.length sC A4 (q.length + 1) c4 :: (og4 ++ [dice g A c nums s2, saB g4 (0, 0, 0, 0, 0, 0) none 0 0 none 0 0])) (dice g A c nums s2 :: saB g5 ((za, zb, zc, zd, ze, zf) : Ch) sA l.length sC A4 (q.length + 1) c4 :: saB g4 (0, 0, 0, 0, 0, 0) none 0 0 none 0 0 :: og4) from (perm_of fun p => by simp only [List.countP_append, List.countP_cons, List.countP_nil]; omega)) ?_
   exact again _ (q ++ [z], (A4, c4), og4, i - 1, s2) ⟨by show Grow _ _ _ (q ++ [_]).length _ _ _; rw [e1]; exact hG4, by rw [e1]; omega, forall_snoc hok2 h7, hs2⟩ (by show i - 1 < i; omega) ⟨rfl, rfl, rfl, rfl, rfl, trivial⟩ (by show List.Sublist (_ :: saB g5 _ _ _ _ _ (q ++ [_]).length _ :: _) _; rw [e1]; exact List.Sublist.refl _) ⟨mB, mB, trivial⟩
  ·have hb2' := hb2; try simp at hb2'
   obtain rfl : i = 0 := by omega
   refine hc_exit (then_exit (then_exit (inb_hit (then_n (hc_seq ?_)))))
   obtain ⟨aA, aC⟩ := o
   have hQle := hG.le
   refine hc_count (og ++ [saB g5 ((za, zb, zc, zd, ze, zf) : Ch) sA l.length sC aA q.length aC, saB g4 (0, 0, 0, 0, 0, 0) none 0 0 none 0 0, dice g A c nums s]) (by intro p; simp only [List.countP_append, List.countP_cons, List.countP_nil]; omega) ?_
   refine hc_grown hG ?_
   clear hG
   refine hc_region ?_
   first | refine r_loadA rfl T.row_api_Sales T.sz_api_Sales rfl mB (by rfl) ?_ | refine r_loadB rfl T.row_api_Sales T.sz_api_Sales rfl mB (by rfl) ?_ | refine r_loadS rfl T.row_api_Sales T.sz_api_Sales rfl rfl (cells_row mB (rows_all (by omega))) ?_
   refine r_storeS (cs := #[int za, int zb, int zc, int zd, int ze, int zf, .slice sA l.length sC, .slice aA q.length aC]) rfl rfl (.swap _ _ _) T.sz_api_Sales (by rfl) (by rfl) ?_
   refine hl_nil (then_n (hc_ret ?_))
   refine ret_row (s, (za, zb, zc, zd, ze, zf), ⟨sA, sC, l⟩, ⟨aA, aC, q⟩) rfl rfl T.row_api_Sales T.sz_api_Sales rfl m0 rfl rfl ⟨hs, ⟨chk_mk hch ⟨by show 1 ≤ l.length; omega, by show l.length ≤ 5; omega⟩ hok (by show q.length ≤ 8; omega) hok2, by show q.length ≤ m; omega, hCle, hQle⟩⟩ (.cons _ (.cons _ (.refl _))) ⟨mB, mB, trivial⟩
end Go.Proofs.Ytdlbbfcfahahdaa
end
section
namespace Go.Proofs.Ytdlbbfcfahahdaa
open Go Go.W
set_option maxRecDepth 20000
attribute [local irreducible] HL HC HQ HB Row Rows2 Blk Facts
abbrev OutS := (OutC × Hp) × (OutC × Hp)
structure DupS (ss : List Int) (xs : List Ad) (x : OutS) : Prop where
  a : Grow T.int 1 x.1.1.1 ss.length x.1.1.2 (rows ss) x.1.2
  b : GrowE T.api_Advert 3 x.2.1.1 xs.length x.2.1.2 (rows xs) x.2.2
def priceE (c : Ch) (ss : List Int) (xs : List Ad) (i : Int) : Int × Int := if ¬ chkS c ss xs = 0 then (0, chkS c ss xs) else if ¬ (0 ≤ i ∧ i ≤ (xs.length : Int) - 1) then (0, 3) else (priceN c (xs.getD i.toNat default), 0)
def owesK : List Int → List Cd → List Int × Int
  | b, [] => (b, 0)
  | b, r :: rs => if ¬ (0 ≤ r.1 ∧ r.1 ≤ (b.length : Int) - 1) then ([], 3) else if ¬ (0 ≤ r.2 ∧ r.2 ≤ 99999) then ([], 1) else owesK (b.set r.1.toNat (b.getD r.1.toNat default - r.2)) rs
def owesE (c : Ch) (ss : List Int) (xs : List Ad) (rs : List Cd) : List Int × Int := if ¬ chkS c ss xs = 0 then ([], chkS c ss xs) else if 8 < rs.length then ([], 6) else owesK (numsN 103 c ss xs) rs
theorem owesK_drop (b : List Int) {rs : List Cd} {k : Nat} (hk : k < rs.length) : owesK b (rs.drop k) = if ¬ (0 ≤ (rs.getD k default).1 ∧ (rs.getD k default).1 ≤ (b.length : Int) - 1) then ([], 3) else if ¬ (0 ≤ (rs.getD k default).2 ∧ (rs.getD k default).2 ≤ 99999) then ([], 1) else owesK (b.set (rs.getD k default).1.toNat (b.getD (rs.getD k default).1.toNat default - (rs.getD k default).2)) (rs.drop (k + 1)) := by
  rw [drop_getD hk, owesK]
theorem set_bd {b : List Int} {j : Nat} {v lo hi lo2 : Int} (h : ∀ x ∈ b, lo ≤ x ∧ x ≤ hi) (hv : lo2 ≤ v ∧ v ≤ hi) (hl : lo2 ≤ lo) : ∀ x ∈ b.set j v, lo2 ≤ x ∧ x ≤ hi := fun x hx => by
  rcases List.mem_or_eq_of_mem_set hx with h1 | rfl
  · have := h x h1; omega
  · exact hv
theorem kit_DupInts_own {A : Option Addr} {c : Nat} (l : List Int) (hl : l.length ≤ 1000000) : Meets Try.prog F.kit_DupInts [.slice A l.length c] { LI := [Row A (rows l)], inv := fun x : OutC × Hp => Grow T.int 1 x.1.1 l.length x.1.2 (rows l) x.2, val := fun x => .slice x.1.1 l.length x.1.2, hpO := fun x => x.2 } := by
 refine meets_intro F.kit_DupInts_f rfl (Nat.le_of_ble_eq_true rfl) fun w0 => ?_
 refine hc_seq (hc_region (r_assign rfl rfl (hl_nil (then_n (hc_seq (hc_region ?_))))))
 refine r_buildSlice _ rfl rfl (fun _ => T.bs_ints_0 ..) fun gS => ?_
 refine r_move rfl rfl ?_
 refine r_append l.length (rows l) T.el_ints rfl rfl rfl (Grow.new (cs := #[]) (n := 0) rfl (Nat.zero_le _)) (.refl _) (Src.row m0 (rows_len l) (rows_one l) (by decide)) (by omega) rfl (by unfold maxLen; omega) (by omega) fun A' c' og' hG => ?_
 refine r_assign rfl rfl (hl_nil (then_n (hc_ret ?_)))
 exact ret1 ((A', c'), og') rfl rfl rfl hG (List.sublist_append_left _ _) trivial
theorem kit_DupSales_meets (c : Ch) (ps : Sl Int) (qs : Sl Ad) (hn : ps.l.length ≤ 1000000) (hm : qs.l.length ≤ 1000000) : Meets Try.prog F.kit_DupSales [saV c ps qs] { LI := saL ps qs, inv := fun x : OutS => DupS ps.l qs.l x, val := fun x => saV c ⟨x.1.1.1, x.1.1.2, ps.l⟩ ⟨x.2.1.1, x.2.1.2, qs.l⟩, hpO := fun x => x.1.2 ++ x.2.2 } := by
 refine meets_intro F.kit_DupSales_f rfl (Nat.le_of_ble_eq_true rfl) fun w0 => ?_
 refine hc_seq (hc_region ?_)
 refine r_box rfl rfl fun gB => ?_
 refine r_alloc rfl (fun _ => T.al_api_Sales _) fun gR => ?_
 refine hl_nil (then_n (hc_seq ?_))
 refine hc_drawW ([]) (_) (.refl _) 8 [] mixed (by decide) (by decide) (by decide) rfl rfl rfl ?_
 apply hb_ex _ rfl rfl rfl
 ·intro w1
  first | refine r_fieldAddr ⟨_, 6, none⟩ rfl rfl T.fa_api_Sales_1 rfl ?_ | refine r_fieldAddr _ rfl rfl T.fa_api_Sales_1 rfl ?_
  refine hl_nil ?_
  exact qe_done rfl
 apply hb_ex _ rfl rfl rfl
 ·intro w1
  first | refine r_load rfl T.cell_ints rfl (cell_blk mB rfl) ?_ | refine r_load rfl T.cell_ints rfl (cell_own mB rfl) ?_ | refine r_load rfl T.cell_ints rfl (cell_row mB (rows_get0 (by omega) rfl)) ?_ | refine r_load rfl T.cell_ints rfl (cell_row_f mB (rows_get (by omega) rfl)) ?_ | refine r_load rfl T.cell_ints rfl (cell_rowg mB rfl) ?_
  refine hl_nil ?_
  exact qe_done rfl
 refine hb_ad ⟨OutC × Hp, fun x => Grow T.int 1 x.1.1 ps.l.length x.1.2 (rows ps.l) x.2, fun x => .slice x.1.1 ps.l.length x.1.2, fun _ => [], fun x => x.2⟩ rfl rfl rfl ?_ ?_
 ·intro w1
  refine hl_call F.kit_DupInts_cb rfl rfl (kit_DupInts_own ps.l hn) (List.Perm.refl _) ⟨mB, trivial⟩ fun z hz => ?_
  refine hl_nil ?_
  exact qw_done z hz (fun _ => rfl) (by rw [List.append_nil]; exact List.Sublist.refl _) trivial
 refine hb_vs ⟨Nat, fun _ => True, fun g => .slice (some ⟨g, 0, none⟩) 0 0, fun _ => []⟩ rfl rfl rfl ?_ ?_
 ·intro w1
  refine r_buildSlice [] rfl rfl (fun _ => T.bs_L_api_Advert_0 ..) fun gS => ?_
  refine hl_nil ?_
  refine hq_letgo (rows ([] : List Ad)) ⟨[], rfl⟩ ?_
  exact qv_done gS trivial rfl trivial
 apply hb_ex _ rfl rfl rfl
 ·intro w1
  first | refine r_fieldAddr ⟨_, 7, none⟩ rfl rfl T.fa_api_Sales_2 rfl ?_ | refine r_fieldAddr _ rfl rfl T.fa_api_Sales_2 rfl ?_
  refine hl_nil ?_
  exact qe_done rfl
 apply hb_ex _ rfl rfl rfl
 ·intro w1
  first | refine r_load rfl T.cell_L_api_Advert rfl (cell_blk mB rfl) ?_ | refine r_load rfl T.cell_L_api_Advert rfl (cell_own mB rfl) ?_ | refine r_load rfl T.cell_L_api_Advert rfl (cell_row mB (rows_get0 (by omega) rfl)) ?_ | refine r_load rfl T.cell_L_api_Advert rfl (cell_row_f mB (rows_get (by omega) rfl)) ?_ | refine r_load rfl T.cell_L_api_Advert rfl (cell_rowg mB rfl) ?_
  refine hl_nil ?_
  exact qe_done rfl
 refine hb_ad ⟨OutC × Hp, fun x => GrowE T.api_Advert 3 x.1.1 qs.l.length x.1.2 (rows qs.l) x.2, fun x => .slice x.1.1 qs.l.length x.1.2, fun _ => [], fun x => x.2⟩ rfl rfl rfl ?_ ?_
 ·intro g0 _; intro w1
  refine r_append_new T.el_L_api_Advert rfl rfl rfl (Src.row (news := rows qs.l) (m := qs.l.length) mB (rows_len _) (rows_one _) (by decide)) (by unfold maxLen; omega) (by omega) fun A' c' og' hG' => ?_
  refine hl_nil ?_
  exact qw_done ((A', c'), og') hG' (fun _ => rfl) (by rw [List.append_nil]; exact List.Sublist.refl _) trivial
 apply hb_ex _ rfl rfl rfl
 ·intro w1
  first | refine r_fieldAddr ⟨_, 6, none⟩ rfl rfl T.fa_api_Sales_1 rfl ?_ | refine r_fieldAddr _ rfl rfl T.fa_api_Sales_1 rfl ?_
  refine hl_nil ?_
  exact qe_done rfl
 refine hb_nil ⟨rfl, ?_⟩
 intro x8 hx8 _ _ x6 hx6
 obtain ⟨⟨a6, c6⟩, o6⟩ := x6
 obtain ⟨⟨a8, c8⟩, o8⟩ := x8
 change GrowE T.api_Advert 3 a6 qs.l.length c6 (rows qs.l) o6 at hx6
 change Grow T.int 1 a8 ps.l.length c8 (rows ps.l) o8 at hx8
 refine hl_perm (show List.Perm ((o6 ++ (o8 ++ [])) ++ [saB gR (0, 0, 0, 0, 0, 0) none 0 0 none 0 0, (gB, Obj.cells (saC c ps qs) T.api_Sales (0, 0))]) ((gB, Obj.cells (saC c ps qs) T.api_Sales (0, 0)) :: saB gR (0, 0, 0, 0, 0, 0) none 0 0 none 0 0 :: (o8 ++ o6)) from (perm_of fun p => by simp only [List.countP_append, List.countP_cons, List.countP_nil]; omega)) ?_
 refine r_store rfl rfl (.refl _) T.sz_ints (by rfl) (by rfl) ?_
 first | refine r_fieldAddr ⟨_, 7, none⟩ rfl rfl T.fa_api_Sales_2 rfl ?_ | refine r_fieldAddr _ rfl rfl T.fa_api_Sales_2 rfl ?_
 refine r_store rfl rfl (.refl _) T.sz_L_api_Advert (by rfl) (by rfl) ?_
 refine hl_nil (then_n (hc_seq (hc_region ?_)))
 first | refine r_loadA rfl T.row_api_Sales T.sz_api_Sales rfl mB (by rfl) ?_ | refine r_loadB rfl T.row_api_Sales T.sz_api_Sales rfl mB (by rfl) ?_ | refine r_loadS rfl T.row_api_Sales T.sz_api_Sales rfl rfl (cells_row mB (rows_all (by omega))) ?_
 refine r_storeS (cs := #[int c.1, int c.2.1, int c.2.2.1, int c.2.2.2.1, int c.2.2.2.2.1, int c.2.2.2.2.2, .slice a8 ps.l.length c8, .slice a6 qs.l.length c6]) rfl rfl (.swap _ _ _) T.sz_api_Sales (by rfl) (by rfl) ?_
 refine hl_nil (then_n (hc_ret ?_))
 refine ret_row (((a8, c8), o8), ((a6, c6), o6)) rfl rfl T.row_api_Sales T.sz_api_Sales rfl m0 rfl rfl ⟨hx8, hx6⟩ (List.Sublist.cons _ (List.Sublist.cons _ (List.Sublist.refl _))) trivial
theorem bold_Owes_meets {R : Option Addr} {rc : Nat} (c : Ch) (ps : Sl Int) (qs : Sl Ad) (rs : List Cd) (hn : ps.l.length ≤ 1000000) (hm : qs.l.length ≤ 1000000) (hr : rs.length ≤ 1000000) : Meets Try.prog F.bold_Owes [saV c ps qs, .slice R rs.length rc] { LI := Row R (rows rs) :: saL ps qs, inv := fun x : OutC => (owesE c ps.l qs.l rs).1.length ≤ x.2, val := fun x => .tuple #[.slice x.1 (owesE c ps.l qs.l rs).1.length x.2, int (owesE c ps.l qs.l rs).2], LO := fun x => [Row x.1 (rows (owesE c ps.l qs.l rs).1)] } := by
 refine meets_intro F.bold_Owes_f rfl (Nat.le_of_ble_eq_true rfl) fun w0 => ?_
 refine hc_seq (hc_region ?_)
 refine r_box rfl rfl fun gB => ?_
 refine r_assign rfl rfl (r_assign rfl rfl (hl_nil (then_n (hc_seq (hc_seq (hc_region ?_))))))
 first | refine r_loadA rfl T.row_api_Sales T.sz_api_Sales rfl mB (by rfl) ?_ | refine r_loadB rfl T.row_api_Sales T.sz_api_Sales rfl mB (by rfl) ?_ | refine r_loadS rfl T.row_api_Sales T.sz_api_Sales rfl rfl (cells_row mB (rows_all (by omega))) ?_
 refine hl_call F.bold_Check_cb rfl rfl (bold_Check_meets c ps qs hn hm) (List.Perm.refl _) ⟨mB, mB, trivial⟩ fun _ _ => ?_
 refine r_assign rfl rfl (hl_nil (then_n (hc_seq (hc_region (r_move rfl rfl (r_neq rfl rfl rfl (hl_nil (then_n ?_))))))))
 first | refine c_dec rfl (fun hb1 => ?_) (fun hb1 => ?_) | refine hc_cond rfl (fun hb1 => ?_) (fun hb1 => ?_)
 ·have hb1' := hb1; try simp at hb1'
  refine hc_seq (hc_region (r_move rfl rfl (r_assign rfl rfl (r_assign rfl rfl (hl_nil (then_n (hc_ret (then_ret ?_))))))))
  refine hq_nilrow (α := Int) ?_
  have hE : (owesE c ps.l qs.l rs) = ([], chkS c ps.l qs.l) := by rw [owesE, if_pos hb1]
  exact ret2 (none, 0) rfl rfl rfl (by show Value.tuple #[.slice none (owesE c ps.l qs.l rs).1.length 0, int (owesE c ps.l qs.l rs).2] = _; rw [hE]; rfl) rfl (by show (owesE c ps.l qs.l rs).1.length ≤ 0; rw [hE]; exact Nat.le_refl _) (List.nil_sublist _) (by show LSub _ [Row none (rows (owesE c ps.l qs.l rs).1)]; rw [hE]; exact ⟨m0, trivial⟩)
 ·have hb1' := hb1; try simp at hb1'
  have h0 : chkS c ps.l qs.l = 0 := Classical.not_not.1 hb1
  have hsa := sa_ok h0
  have hn5 := hsa.n5
  refine hc_skip (then_n (hc_seq (hc_seq (hc_region (r_move rfl rfl ?_)))))
  refine r_len_sl rfl T.u_L_api_Receipt rfl ?_
  refine r_gtr rfl rfl rfl (hl_nil (then_n ?_))
  first | refine c_dec rfl (fun hb2 => ?_) (fun hb2 => ?_) | refine hc_cond rfl (fun hb2 => ?_) (fun hb2 => ?_)
  ·have hb2' := hb2; try simp at hb2'
   have hb2 : 8 < rs.length := by omega
   refine hc_seq (hc_region (r_assign rfl rfl (r_assign rfl rfl (hl_nil (then_n (hc_ret (then_ret ?_)))))))
   refine hq_nilrow (α := Int) ?_
   have hE : (owesE c ps.l qs.l rs) = ([], 6) := by rw [owesE, if_neg hb1, if_pos hb2]
   exact ret2 (none, 0) rfl rfl rfl (by show Value.tuple #[.slice none (owesE c ps.l qs.l rs).1.length 0, int (owesE c ps.l qs.l rs).2] = _; rw [hE]; rfl) rfl (by show (owesE c ps.l qs.l rs).1.length ≤ 0; rw [hE]; exact Nat.le_refl _) (List.nil_sublist _) (by show LSub _ [Row none (rows (owesE c ps.l qs.l rs).1)]; rw [hE]; exact ⟨m0, trivial⟩)
  ·have hb2' := hb2; try simp at hb2'
   have hb2 : ¬ 8 < rs.length := by omega
   refine hc_skip (then_n (hc_seq (hc_region ?_)))
   first | refine r_loadA rfl T.row_api_Sales T.sz_api_Sales rfl mB (by rfl) ?_ | refine r_loadB rfl T.row_api_Sales T.sz_api_Sales rfl mB (by rfl) ?_ | refine r_loadS rfl T.row_api_Sales T.sz_api_Sales rfl rfl (cells_row mB (rows_all (by omega))) ?_
   refine hl_call F.bold_bills_cb rfl rfl (bold_bills_meets c ps qs hsa) (List.Perm.refl _) ⟨mB, mB, trivial⟩ fun go _ => ?_
   refine r_assign rfl rfl (hl_nil (then_n (hc_seq (hc_seq (hc_region (r_move rfl rfl ?_))))))
   refine r_len_sl rfl T.u_L_api_Receipt rfl ?_
   refine r_move rfl rfl (hl_nil (then_n (hc_block ?_)))
   refine hc_loop (β := Nat × List Int) ⟨fun x => x.1 ≤ rs.length ∧ x.2.length = ps.l.length ∧ (∀ v ∈ x.2, -(100000 * (x.1 : Int)) ≤ v ∧ v ≤ 1000000000) ∧ owesK (numsN 103 c ps.l qs.l) rs = owesK x.2 (rs.drop x.1), fun x => [(7, .slice (some ⟨go, 0, none⟩) ps.l.length ps.l.length), (20, .slice R rs.length rc), (21, int rs.length), (22, int x.1)], fun x => [(go, Obj.cells (rows (x.2)).toArray T.int (0, 0))], fun _ => Row R (rows rs) :: saL ps qs⟩ (fun x => rs.length - x.1) (0, numsN 103 c ps.l qs.l) ⟨Nat.zero_le _, nums_len .., fun v hv => by have := nums_bd hsa v hv; omega, rfl⟩ ⟨rfl, rfl, rfl, rfl, trivial⟩ (.cons_cons _ (List.nil_sublist _)) ⟨mB, mB, mB, trivial⟩ fun x hx => ?_
   obtain ⟨k, bs⟩ := x
   obtain ⟨hk, hbl, hbb, hoe⟩ := hx
   simp only at hk hbl hbb hoe
   refine hc_seq (hc_region (r_lss rfl rfl rfl (hl_nil (then_n (hc_seq ?_)))))
   first | refine c_dec rfl (fun hb3 => ?_) (fun hb3 => ?_) | refine hc_cond rfl (fun hb3 => ?_) (fun hb3 => ?_)
   ·have hb3' := hb3; try simp at hb3'
    have hk3 : k < rs.length := by omega
    refine hc_skip (then_n (hc_seq (hc_block (hc_seq (hc_region ?_)))))
    refine r_elem (α := Cd) _ _ rfl T.u_L_api_Receipt T.sz_api_Receipt rfl rfl rfl mB rfl (by omega) (by decide) ?_
    refine r_loadS rfl T.row_api_Receipt T.sz_api_Receipt rfl rfl (cells_row mB (rows_all (by omega))) ?_
    refine r_alloc rfl (fun _ => T.al_api_Receipt _) fun g9 => ?_
    refine r_storeS (cs := #[int (rs.getD k default).1, int (rs.getD k default).2]) rfl rfl (.refl _) T.sz_api_Receipt (by rfl) (by rfl) ?_
    refine hl_nil (then_n (hc_seq (hc_seq (hc_region ?_))))
    first | refine r_fieldAddr ⟨_, 0, none⟩ rfl rfl T.fa_api_Receipt_0 rfl ?_ | refine r_fieldAddr _ rfl rfl T.fa_api_Receipt_0 rfl ?_
    first | refine r_load rfl T.cell_int rfl (cell_own mB rfl) ?_ | refine r_load rfl T.cell_int rfl (cell_blk mB rfl) ?_ | refine r_load rfl T.cell_int rfl (cell_row mB (rows_get0 (by omega) rfl)) ?_ | refine r_load rfl T.cell_int rfl (cell_row_f mB (rows_get (by omega) rfl)) ?_ | refine r_load rfl T.cell_int rfl (cell_rowg mB rfl) ?_
    refine r_move rfl rfl ?_
    refine r_len_sl rfl T.u_ints rfl ?_
    refine r_sub _ rfl rfl rfl rfl (by unfold I64; omega) ?_
    refine hl_call F.bold_between_cb rfl rfl (bold_between_meets _ _ _) (List.Perm.refl _) trivial fun _ _ => ?_
    refine r_not rfl rfl (hl_nil (then_n ?_))
    first | refine c_dec rfl (fun hb4 => ?_) (fun hb4 => ?_) | refine hc_cond rfl (fun hb4 => ?_) (fun hb4 => ?_)
    ·have hb4' := hb4; try simp at hb4'
     refine hc_seq (hc_region (r_assign rfl rfl (r_assign rfl rfl (hl_nil (then_n (hc_ret (then_ret (inb_ret (then_ret (then_ret (inb_ret ?_)))))))))))
     refine then_ret ?_
     refine hq_nilrow (α := Int) ?_
     have hE : (owesE c ps.l qs.l rs) = ([], 3) := by rw [owesE, if_neg hb1, if_neg hb2, hoe, owesK_drop _ hk3]; rw [if_pos (by rw [hbl]; exact nbt hb4)]
     exact ret2 (none, 0) rfl rfl rfl (by show Value.tuple #[.slice none (owesE c ps.l qs.l rs).1.length 0, int (owesE c ps.l qs.l rs).2] = _; rw [hE]; rfl) rfl (by show (owesE c ps.l qs.l rs).1.length ≤ 0; rw [hE]; exact Nat.le_refl _) (List.nil_sublist _) (by show LSub _ [Row none (rows (owesE c ps.l qs.l rs).1)]; rw [hE]; exact ⟨m0, trivial⟩)
    ·have hb4' := hb4; try simp at hb4'
     refine hc_skip (then_n (hc_seq (hc_seq (hc_region ?_))))
     first | refine r_fieldAddr ⟨_, 1, none⟩ rfl rfl T.fa_api_Receipt_1 rfl ?_ | refine r_fieldAddr _ rfl rfl T.fa_api_Receipt_1 rfl ?_
     first | refine r_load rfl T.cell_int rfl (cell_own mB rfl) ?_ | refine r_load rfl T.cell_int rfl (cell_blk mB rfl) ?_ | refine r_load rfl T.cell_int rfl (cell_row mB (rows_get0 (by omega) rfl)) ?_ | refine r_load rfl T.cell_int rfl (cell_row_f mB (rows_get (by omega) rfl)) ?_ | refine r_load rfl T.cell_int rfl (cell_rowg mB rfl) ?_
     refine hl_call F.bold_between_cb rfl rfl (bold_between_meets _ _ _) (List.Perm.refl _) trivial fun _ _ => ?_
     refine r_not rfl rfl (hl_nil (then_n ?_))
     first | refine c_dec rfl (fun hb5 => ?_) (fun hb5 => ?_) | refine hc_cond rfl (fun hb5 => ?_) (fun hb5 => ?_)
     ·have hb5' := hb5; try simp at hb5'
      refine hc_seq (hc_region (r_assign rfl rfl (r_assign rfl rfl (hl_nil (then_n (hc_ret (then_ret (inb_ret (then_ret (then_ret (inb_ret ?_)))))))))))
      refine then_ret ?_
      refine hq_nilrow (α := Int) ?_
      have hE : (owesE c ps.l qs.l rs) = ([], 1) := by rw [owesE, if_neg hb1, if_neg hb2, hoe, owesK_drop _ hk3]; rw [if_neg (by rw [hbl]; exact Classical.not_not.2 (nbf hb4)), if_pos (nbt hb5)]
      exact ret2 (none, 0) rfl rfl rfl (by show Value.tuple #[.slice none (owesE c ps.l qs.l rs).1.length 0, int (owesE c ps.l qs.l rs).2] = _; rw [hE]; rfl) rfl (by show (owesE c ps.l qs.l rs).1.length ≤ 0; rw [hE]; exact Nat.le_refl _) (List.nil_sublist _) (by show LSub _ [Row none (rows (owesE c ps.l qs.l rs).1)]; rw [hE]; exact ⟨m0, trivial⟩)
     ·have hb5' := hb5; try simp at hb5'
      have h4 := nbf hb4
      have h5 := nbf hb5
      obtain ⟨m, hme⟩ := Int.eq_ofNat_of_zero_le h4.1
      have hm2 : m < bs.length := by omega
      have hvb := hbb _ (getD_mem hm2)
      have hkk : k < 9 := by omega
      refine hc_skip (then_n ?_)
      refine hc_draw 7 mixed (by decide) (by decide) rfl rfl ?_
      refine hb_ex _ rfl rfl rfl (fun w1 => r_move rfl rfl (hl_nil (qe_done rfl))) ?_
      apply hb_ex _ rfl rfl rfl
      ·intro w1
       first | refine r_fieldAddr ⟨_, 0, none⟩ rfl rfl T.fa_api_Receipt_0 rfl ?_ | refine r_fieldAddr _ rfl rfl T.fa_api_Receipt_0 rfl ?_
       refine hl_nil ?_
       exact qe_done rfl
      apply hb_ex _ rfl rfl rfl
      ·intro w1
       first | refine r_load rfl T.cell_int rfl (cell_blk mB rfl) ?_ | refine r_load rfl T.cell_int rfl (cell_own mB rfl) ?_ | refine r_load rfl T.cell_int rfl (cell_row mB (rows_get0 (by omega) rfl)) ?_ | refine r_load rfl T.cell_int rfl (cell_row_f mB (rows_get (by omega) rfl)) ?_ | refine r_load rfl T.cell_int rfl (cell_rowg mB rfl) ?_
       refine hl_nil ?_
       exact qe_done rfl
      refine hb_ex _ rfl rfl rfl (fun w1 => r_indexAddr_own m (m * 1) rfl T.u_ints T.sz_int rfl rfl hme (by omega) (by omega) (hl_nil (qe_done rfl))) ?_
      refine hb_ex _ rfl rfl rfl (fun w1 => r_load (v := int (bs.getD m default)) rfl T.cell_int rfl (cell_blkf (α := Int) (k := m) (f := 0) (l := bs) (t := T.int) (fz := (0, 0)) (by repeat constructor) rfl hm2 rfl) (hl_nil (qe_done rfl))) ?_
      apply hb_ex _ rfl rfl rfl
      ·intro w1
       first | refine r_fieldAddr ⟨_, 1, none⟩ rfl rfl T.fa_api_Receipt_1 rfl ?_ | refine r_fieldAddr _ rfl rfl T.fa_api_Receipt_1 rfl ?_
       refine hl_nil ?_
       exact qe_done rfl
      apply hb_ex _ rfl rfl rfl
      ·intro w1
       first | refine r_load rfl T.cell_int rfl (cell_blk mB rfl) ?_ | refine r_load rfl T.cell_int rfl (cell_own mB rfl) ?_ | refine r_load rfl T.cell_int rfl (cell_row mB (rows_get0 (by omega) rfl)) ?_ | refine r_load rfl T.cell_int rfl (cell_row_f mB (rows_get (by omega) rfl)) ?_ | refine r_load rfl T.cell_int rfl (cell_rowg mB rfl) ?_
       refine hl_nil ?_
       exact qe_done rfl
      refine hb_nil ⟨rfl, ?_⟩
      refine r_sub _ rfl rfl rfl rfl (by unfold I64; omega) ?_
      refine r_indexAddr_own m (m * 1) rfl T.u_ints T.sz_int rfl rfl hme (by omega) (by omega) ?_
      refine r_storef (α := Int) (k := m) (f := 0) (bs.getD m default - (rs.getD k default).2) rfl rfl rfl (.swap _ _ _) T.sz_int hm2 (by decide) rfl rfl ?_
      refine hl_nil (inb_n (then_n (hc_region ?_)))
      refine r_add _ rfl rfl rfl rfl (by unfold I64; omega) ?_
      refine r_move rfl rfl (hl_nil ?_)
      exact again _ (k + 1, (bs.set m (bs.getD m default - (rs.getD k default).2))) ⟨by show k + 1 ≤ rs.length; omega, by show ((bs.set m (bs.getD m default - (rs.getD k default).2))).length = _; rw [List.length_set]; exact hbl, by show ∀ v ∈ (bs.set m (bs.getD m default - (rs.getD k default).2)), -(100000 * ((k + 1 : Nat) : Int)) ≤ v ∧ v ≤ 1000000000; exact set_bd hbb (by omega) (by omega), by show _ = owesK (bs.set m (bs.getD m default - (rs.getD k default).2)) (rs.drop (k + 1)); rw [hoe, owesK_drop _ hk3, if_neg (by rw [hbl]; exact Classical.not_not.2 h4), if_neg (Classical.not_not.2 h5), hme, Int.toNat_natCast]⟩ (by show rs.length - (k + 1) < rs.length - k; omega) ⟨rfl, rfl, rfl, rfl, trivial⟩ (.cons_cons _ (List.nil_sublist _)) ⟨mB, mB, mB, trivial⟩
   ·have hb3' := hb3; try simp at hb3'
    obtain rfl : k = rs.length := by omega
    rw [List.drop_length, owesK] at hoe
    refine hc_exit (then_exit (then_exit (inb_hit (then_n (hc_seq (hc_region (r_move rfl rfl (r_assign rfl rfl (r_assign rfl rfl (hl_nil (then_n ?_)))))))))))
    refine hc_ret ?_
    have hE : (owesE c ps.l qs.l rs) = (bs, 0) := by rw [owesE, if_neg hb1, if_neg hb2, hoe]
    refine hq_letgo (rows bs) (List.prefix_refl _) ?_
    exact ret2 (some ⟨go, 0, none⟩, ps.l.length) rfl rfl rfl (by show Value.tuple #[.slice (some ⟨go, 0, none⟩) (owesE c ps.l qs.l rs).1.length ps.l.length, int (owesE c ps.l qs.l rs).2] = _; rw [hE]; show Value.tuple #[.slice (some ⟨go, 0, none⟩) bs.length ps.l.length, int 0] = _; rw [hbl]) rfl (by show (owesE c ps.l qs.l rs).1.length ≤ ps.l.length; rw [hE]; exact Nat.le_of_eq hbl) (List.nil_sublist _) (by show LSub _ [Row (some ⟨go, 0, none⟩) (rows (owesE c ps.l qs.l rs).1)]; rw [hE]; exact ⟨m0, trivial⟩)
end Go.Proofs.Ytdlbbfcfahahdaa
end
section
namespace Go.Proofs.Ytdlbbfcfahahdaa
open Go Go.W
set_option maxRecDepth 20000
attribute [local irreducible] HL HC HQ HB Row Rows2 Blk Facts
end Go.Proofs.Ytdlbbfcfahahdaa
end
section
namespace Go.Proofs.Ytdlbbfcfahahdaa
open Go Go.W
set_option maxRecDepth 20000
attribute [local irreducible] HL HC HQ HB Row Rows2 Blk Facts
theorem ref09_within_meets (n lo hi : Int) : Meets Try.prog F.ref09_within [int n, int lo, int hi] { val := fun _ : Unit => .bool (decide (lo ≤ n ∧ n ≤ hi)) } := by
 refine meets_intro F.ref09_within_f rfl (Nat.le_of_ble_eq_true rfl) fun w0 => ?_
 refine hc_seq (hc_region (r_assign rfl rfl (hl_nil (then_n (hc_seq (hc_region (r_move rfl rfl (r_move rfl rfl (r_geq rfl rfl rfl (r_move rfl rfl ?_))))))))))
 refine g_split rfl rfl ?_ ?_
 ·intro hg1; have hg1' := hg1; try simp at hg1'
  refine g_yes rfl rfl hg1 (r_move rfl rfl (g_yes rfl rfl hg1 (r_move rfl rfl (g_yes rfl rfl hg1 (r_leq rfl rfl rfl ?_)))))
  refine p_t rfl rfl (bt1 hg1) rfl ?_
  refine r_assign rfl rfl (hl_nil (then_n (hc_ret ?_)))
  exact ret1 () rfl (congrArg (fun b => some (Value.bool b)) (by simp [hg1'])) rfl trivial (List.nil_sublist _) trivial
 ·intro hg1; have hg1' := hg1; try simp at hg1'
  refine g_no rfl rfl rfl rfl rfl hg1 (g_no rfl rfl rfl rfl rfl hg1 (g_no rfl rfl rfl rfl rfl hg1 ?_))
  refine p_f rfl rfl (bf2 hg1) rfl ?_
  refine r_assign rfl rfl (hl_nil (then_n (hc_ret ?_)))
  exact ret1 () rfl (congrArg (fun b => some (Value.bool b)) (by simp [Int.not_le.2 hg1'])) rfl trivial (List.nil_sublist _) trivial
end Go.Proofs.Ytdlbbfcfahahdaa
end
