/- Texts of this claim, one behind another. -/
import Derived.ProofKit
import Derived.OpenShut
import Derived.ShutString
import Derived.ChangeOld
import Derived.Below
import Derived.SliceStrings
import Derived.ChangeSlices
import Derived.Deep.Slices
import Derived.Conc.LeavingOf
import Derived.Test.YtdlbbfcfahahdaaKAo
import Derived.Test.YtdlbbfcfahahdaaKAf
import Derived.Test.YtdlbbfcfahahdaaKAa
section
namespace Go.Proofs.Ytdlbbfcfahahdaa
open Go Go.W
set_option linter.unusedVariables false
set_option linter.unusedSimpArgs false
set_option maxRecDepth 20000
attribute [local irreducible] HL HC HQ HB Row Rows2 Blk Facts
theorem firstE_none {n : Nat} : ∀ {xs : List Ad}, (∀ x ∈ xs, adErr n x = 0) → firstE n xs = 0
  | [], _ => rfl
  | x :: r, h => by rw [firstE, if_neg (fun e => e (h x (List.mem_cons_self ..)))]; exact firstE_none fun y hy => h y (List.mem_cons_of_mem _ hy)
theorem chk_mk {c : Ch} {ss : List Int} {xs : List Ad} (hc : ChOK c) (h1 : 1 ≤ ss.length ∧ ss.length ≤ 5) (hs : ∀ v ∈ ss, 0 ≤ v ∧ v ≤ 9) (hx : xs.length ≤ 8) (ha : ∀ x ∈ xs, adErr ss.length x = 0) : chkS c ss xs = 0 := by
  obtain ⟨q1, q2, q3, q4, q5, q6⟩ := hc
  unfold chkS
  rw [if_neg (Classical.not_not.2 (by intro v hv; simp only [chQ, List.mem_cons, List.not_mem_nil, or_false] at hv; rcases hv with rfl | rfl | rfl | rfl <;> assumption)), if_neg (by omega), if_neg (by omega), if_neg (by omega), if_neg (Classical.not_not.2 hs), if_neg (by omega)]
  exact firstE_none ha
abbrev saB (g : Nat) (c : Ch) (sA : Option Addr) (sn sC : Nat) (aA : Option Addr) (an aC : Nat) : Nat × Obj := (g, .cells #[int c.1, int c.2.1, int c.2.2.1, int c.2.2.2.1, int c.2.2.2.2.1, int c.2.2.2.2.2, .slice sA sn sC, .slice aA an aC] T.api_Sales (0, 0))
abbrev SRes := Ch × Sl Int × Sl Ad
/-- Sales as the kit makes them. -/
structure SOf (m : Nat) (x : SRes) : Prop where
  ok : chkS x.1 x.2.1.l x.2.2.l = 0
  x8 : x.2.2.l.length ≤ m
  ca : x.2.1.l.length ≤ x.2.1.c
  cb : x.2.2.l.length ≤ x.2.2.c
set_option maxHeartbeats 1000000 in
theorem kit_SalesOf_meets {g : Nat} {A : Option Addr} {c : Nat} {nums : List Int} {s : Int × Int} (m : Nat) (hn : nums.length ≤ 9223372036854775807) (hs : DOK nums s) (hm : m ≤ 8) :
    Meets Try.prog F.kit_SalesOf [.pointer (some ⟨g, 0, none⟩), int m] (diceCon g A c nums s (SOf m) (fun x => saV x.1 x.2.1 x.2.2) (fun x => saL x.2.1 x.2.2)) := by
 refine meets_intro F.kit_SalesOf_f rfl (Nat.le_of_ble_eq_true rfl) fun w0 => ?_
 refine hc_seq (hc_region ?_)
 refine r_alloc rfl (fun _ => T.al_api_Sales _) fun g4 => ?_
 refine hl_nil (then_n (hc_seq (hc_region (r_move rfl rfl (r_move rfl rfl ?_)))))
 refine hl_call F.kit_Dice_To_cb rfl rfl (kit_Dice_To_meets (30) hn hs (by omega)) (List.Perm.swap _ _ _) ⟨mB, trivial⟩ fun xs1 hs1 => ?_
 obtain ⟨s1, z1⟩ := xs1
 obtain ⟨hs1, hz1⟩ := hs1
 simp only at hs1
 have hz1 : 0 ≤ z1 ∧ z1 ≤ 30 := to_bd hz1 (by omega)
 refine r_move rfl rfl ?_
 refine hl_call F.kit_Dice_To_cb rfl rfl (kit_Dice_To_meets (200) hn hs1 (by omega)) (List.Perm.refl _) ⟨mB, trivial⟩ fun xs2 hs2 => ?_
 obtain ⟨s2, z2⟩ := xs2
 obtain ⟨hs2, hz2⟩ := hs2
 simp only at hs2
 have hz2 : 0 ≤ z2 ∧ z2 ≤ 200 := to_bd hz2 (by omega)
 refine r_buildSlice _ rfl rfl (fun _ => T.bs_ints_3 ..) fun gS => ?_
 refine hl_letgo (rows ([0, z1, z2] : List Int)) (List.prefix_refl _) ?_
 refine hl_call F.kit_Dice_One_cb rfl rfl (kit_Dice_One_meets ([0, z1, z2]) hn hs2 (show 0 < 3 by decide) (show 3 ≤ 1000 by decide)) (List.Perm.refl _) ⟨mB, mB, trivial⟩ fun xs3 hs3 => ?_
 obtain ⟨s3, za⟩ := xs3
 obtain ⟨hs3, hza⟩ := hs3
 simp only at hs3
 have hza : 0 ≤ za ∧ za ≤ 200 := by
   have hm := hza
   simp only [List.mem_cons, List.not_mem_nil, or_false] at hm; rcases hm with rfl | rfl | rfl <;> omega
 refine r_move rfl rfl ?_
 refine hl_call F.kit_Dice_To_cb rfl rfl (kit_Dice_To_meets (90) hn hs3 (by omega)) (List.Perm.refl _) ⟨mB, trivial⟩ fun xs4 hs4 => ?_
 obtain ⟨s4, zb⟩ := xs4
 obtain ⟨hs4, hzb⟩ := hs4
 simp only at hs4
 have hzb : 0 ≤ zb ∧ zb ≤ 90 := to_bd hzb (by omega)
 refine r_move rfl rfl ?_
 refine hl_call F.kit_Dice_To_cb rfl rfl (kit_Dice_To_meets (30) hn hs4 (by omega)) (List.Perm.refl _) ⟨mB, trivial⟩ fun xs5 hs5 => ?_
 obtain ⟨s5, zc⟩ := xs5
 obtain ⟨hs5, hzc⟩ := hs5
 simp only at hs5
 have hzc : 0 ≤ zc ∧ zc ≤ 30 := to_bd hzc (by omega)
 refine r_move rfl rfl ?_
 refine hl_call F.kit_Dice_To_cb rfl rfl (kit_Dice_To_meets (99) hn hs5 (by omega)) (List.Perm.refl _) ⟨mB, trivial⟩ fun xs6 hs6 => ?_
 obtain ⟨s6, zd⟩ := xs6
 obtain ⟨hs6, hzd⟩ := hs6
 simp only at hs6
 have hzd : 0 ≤ zd ∧ zd ≤ 99 := to_bd hzd (by omega)
 refine r_move rfl rfl (r_move rfl rfl ?_)
 refine hl_call F.kit_Dice_To_cb rfl rfl (kit_Dice_To_meets (20) hn hs6 (by omega)) (List.Perm.refl _) ⟨mB, trivial⟩ fun xs7 hs7 => ?_
 obtain ⟨s7, z7⟩ := xs7
 obtain ⟨hs7, hz7⟩ := hs7
 simp only at hs7
 have hz7 : 0 ≤ z7 ∧ z7 ≤ 20 := to_bd hz7 (by omega)
 refine r_buildSlice _ rfl rfl (fun _ => T.bs_ints_3 ..) fun gS => ?_
 refine hl_letgo (rows ([0, z7, 50] : List Int)) (List.prefix_refl _) ?_
 refine hl_call F.kit_Dice_One_cb rfl rfl (kit_Dice_One_meets ([0, z7, 50]) hn hs7 (show 0 < 3 by decide) (show 3 ≤ 1000 by decide)) (List.Perm.refl _) ⟨mB, mB, trivial⟩ fun xs8 hs8 => ?_
 obtain ⟨s8, ze⟩ := xs8
 obtain ⟨hs8, hze⟩ := hs8
 simp only at hs8
 have hze : 0 ≤ ze ∧ ze ≤ 50 := by
   have hm := hze
   simp only [List.mem_cons, List.not_mem_nil, or_false] at hm; rcases hm with rfl | rfl | rfl <;> omega
 refine r_move rfl rfl ?_
 refine hl_call F.kit_Dice_From_cb rfl rfl (kit_Dice_From_meets (1) (3) hn hs8 (by omega)) (List.Perm.refl _) ⟨mB, trivial⟩ fun xs9 hs9 => ?_
 obtain ⟨s9, zf⟩ := xs9
 obtain ⟨hs9, hzf⟩ := hs9
 simp only at hs9
 have hzf : 1 ≤ zf ∧ zf ≤ 3 := from_bd hzf (by omega)
 refine r_build _ rfl rfl (fun _ => T.bd_api_Charges_0_1_2_3_4_5 ..) ?_
 refine r_build _ rfl rfl (fun _ => T.bd_api_Sales_0 ..) ?_
 refine r_alloc rfl (fun _ => T.al_api_Sales _) fun g5 => ?_
 refine r_storeS (cs := #[int za, int zb, int zc, int zd, int ze, int zf, .slice none 0 0, .slice none 0 0]) rfl rfl (.refl _) T.sz_api_Sales (by rfl) (by rfl) ?_
 have hch : ChOK (za, zb, zc, zd, ze, zf) := ⟨by show 0 ≤ za ∧ za ≤ 999; omega, by show 0 ≤ zb ∧ zb ≤ 999; omega, by show 0 ≤ zc ∧ zc ≤ 999; omega, by show 0 ≤ zd ∧ zd ≤ 999; omega, by show 0 ≤ ze ∧ ze ≤ 50; omega, by show 1 ≤ zf ∧ zf ≤ 5; omega⟩
 refine hl_nil (then_n (hc_seq (hc_seq (hc_region (r_move rfl rfl ?_)))))
 refine hl_call F.kit_Dice_From_cb rfl rfl (kit_Dice_From_meets (1) (5) hn hs9 (by omega)) (List.Perm.swap _ _ _) ⟨mB, trivial⟩ fun xs10 hs10 => ?_
 obtain ⟨s10, zn⟩ := xs10
 obtain ⟨hs10, hzn⟩ := hs10
 simp only at hs10
 have hzn : 1 ≤ zn ∧ zn ≤ 5 := from_bd hzn (by omega)
 obtain ⟨zn, rfl⟩ := Int.eq_ofNat_of_zero_le (show 0 ≤ zn by omega)
 refine r_assign rfl rfl (hl_nil (then_n (hc_block ?_)))
 refine hc_loop (β := List Int × OutC × Hp × Nat × (Int × Int)) ⟨fun ⟨l, o, og, i, s⟩ => Grow T.int 1 o.1 l.length o.2 (rows l) og ∧ l.length + i = zn ∧ (∀ v ∈ l, 0 ≤ v ∧ v ≤ 9) ∧ DOK nums s, fun ⟨l, o, og, i, s⟩ => [(0, .pointer (some ⟨g, 0, none⟩)), (1, int m), (4, .pointer (some ⟨g4, 0, none⟩)), (5, .pointer (some ⟨g5, 0, none⟩)), (6, int i)], fun ⟨l, o, og, i, s⟩ => dice g A c nums s :: saB g5 ((za, zb, zc, zd, ze, zf) : Ch) o.1 l.length o.2 none 0 0 :: saB g4 (0, 0, 0, 0, 0, 0) none 0 0 none 0 0 :: og, fun _ => [Row A (rows nums)]⟩ (fun x => x.2.2.2.1) ([], (none, 0), [], zn, s10) ⟨Grow.nil _ _, Nat.zero_add _, fun v hv => by simp at hv, hs10⟩ ⟨rfl, rfl, rfl, rfl, rfl, trivial⟩ (.refl _) ⟨mB, trivial⟩ fun x hx => ?_
 clear hs hs1 hs2 hs3 hs4 hs5 hs6 hs7 hs8 hs9 hs10
 obtain ⟨l, o, og, i, s⟩ := x
 obtain ⟨hG, hli, hok, hs⟩ := hx
 refine hc_seq (hc_seq (hc_region (r_move rfl rfl (r_gtr rfl rfl rfl (hl_nil (then_n ?_))))))
 first | refine c_dec rfl (fun hb1 => ?_) (fun hb1 => ?_) | refine hc_cond rfl (fun hb1 => ?_) (fun hb1 => ?_)
 ·have hb1' := hb1; try simp at hb1'
  have hi0 : 0 < i := by omega
  refine hc_skip (then_n (hc_seq (hc_block ?_)))
  refine hc_drawW (dice g A c nums s :: og) ([saB g5 ((za, zb, zc, zd, ze, zf) : Ch) o.1 l.length o.2 none 0 0, saB g4 (0, 0, 0, 0, 0, 0) none 0 0 none 0 0]) (perm_of fun p => by simp only [List.countP_append, List.countP_cons, List.countP_nil]; omega) 8 [6, 4] mixed (by decide) (by decide) (by decide) rfl rfl rfl ?_
  apply hb_ex _ rfl rfl rfl
  ·intro w1
   first | refine r_fieldAddr ⟨_, 6, none⟩ rfl rfl T.fa_api_Sales_1 rfl ?_ | refine r_fieldAddr _ rfl rfl T.fa_api_Sales_1 rfl ?_
   refine hl_nil ?_
   exact qe_done rfl
  apply hb_ex _ rfl rfl rfl
  ·intro w1
   first | refine r_load rfl T.cell_ints rfl (cell_blk mB rfl) ?_ | refine r_load rfl T.cell_ints rfl (cell_own mB rfl) ?_ | refine r_load rfl T.cell_ints rfl (cell_row mB (rows_get0 (by omega) rfl)) ?_ | refine r_load rfl T.cell_ints rfl (cell_row_f mB (rows_get (by omega) rfl)) ?_ | refine r_load rfl T.cell_ints rfl (cell_rowg mB rfl) ?_
   refine hl_nil ?_
   exact qe_done rfl
  refine hb_ex _ rfl rfl rfl (fun w1 => r_move rfl rfl (hl_nil (qe_done rfl))) ?_
  refine hb_ex _ rfl rfl rfl (fun w1 => r_move rfl rfl (hl_nil (qe_done rfl))) ?_
  refine hb_wr ⟨(Int × Int) × Int, fun x => DOK nums x.1 ∧ 0 ≤ x.2 ∧ x.2 ≤ 9, fun x => int x.2, fun _ => [], fun x => dice g A c nums x.1 :: og⟩ rfl rfl rfl ?_ ?_
  ·intro w1
   refine hl_call F.kit_Dice_To_cb rfl rfl (kit_Dice_To_meets (9) hn hs (by omega)) (List.Perm.refl _) ⟨mB, trivial⟩ fun xs1 hs1 => ?_
   obtain ⟨s1, z⟩ := xs1
   obtain ⟨hs1, hz⟩ := hs1
   simp only at hs1
   have hz : 0 ≤ z ∧ z ≤ 9 := to_bd hz (by omega)
   refine hl_nil ?_
   exact qw_done (s1, z) ⟨hs1, hz⟩ (fun _ => rfl) (List.Sublist.refl _) trivial
  refine hb_vs ⟨Nat × Int, fun x => 0 ≤ x.2 ∧ x.2 ≤ 9, fun x => .slice (some ⟨x.1, 0, none⟩) 4 4, fun x => [Row (some ⟨x.1, 0, none⟩) (rows ([0, 0, 3, x.2] : List Int))]⟩ rfl rfl rfl ?_ ?_
  ·intro x hx; intro w1
   refine r_buildSlice _ rfl rfl (fun _ => T.bs_ints_4 ..) fun gS => ?_
   refine hl_nil ?_
   refine hq_letgo (rows ([0, 0, 3, x.2] : List Int)) (List.prefix_refl _) ?_
   exact qv_done (gS, x.2) hx.2 rfl ⟨m0, trivial⟩
  refine hb_wr ⟨(Int × Int) × Int, fun x => DOK nums x.1 ∧ 0 ≤ x.2 ∧ x.2 ≤ 9, fun x => int x.2, fun _ => [], fun x => dice g A c nums x.1 :: og⟩ rfl rfl rfl ?_ ?_
  ·intro y4 hy4 y5 hy5; intro w1
   refine hl_call F.kit_Dice_One_cb rfl rfl (kit_Dice_One_meets ([0, 0, 3, y5.2]) hn hy4.1 (show 0 < 4 by decide) (show 4 ≤ 1000 by decide)) (List.Perm.refl _) ⟨mB, mB, trivial⟩ fun xs2 hs2 => ?_
   obtain ⟨s2, z2⟩ := xs2
   obtain ⟨hs2, hz2⟩ := hs2
   simp only at hs2
   have hz2 : 0 ≤ z2 ∧ z2 ≤ 9 := by
     have hm := hz2
     simp only [List.mem_cons, List.not_mem_nil, or_false] at hm; rcases hm with rfl | rfl | rfl | rfl <;> omega
   refine hl_nil ?_
   exact qw_done (s2, z2) ⟨hs2, hz2⟩ (fun _ => rfl) (List.Sublist.refl _) trivial
  refine hb_vs ⟨Nat × Int, fun x => 0 ≤ x.2 ∧ x.2 ≤ 9, fun x => .slice (some ⟨x.1, 0, none⟩) 1 1, fun x => [Row (some ⟨x.1, 0, none⟩) (rows [x.2])]⟩ rfl rfl rfl ?_ ?_
  ·intro x hx; intro w1
   refine r_buildSlice _ rfl rfl (fun _ => T.bs_ints_1 ..) fun gS => ?_
   refine hl_nil ?_
   refine hq_letgo (rows [x.2]) (List.prefix_refl _) ?_
   exact qv_done (gS, x.2) hx.2 rfl ⟨m0, trivial⟩
  refine hb_nil ⟨rfl, ?_⟩
  intro _ _ _ _ x6 h6 x7 h7
  obtain ⟨s2, _⟩ := x6
  have hs2 : DOK nums s2 := h6.1
  obtain ⟨g7, z⟩ := x7
  simp only at h7
  refine r_append (hp' := [dice g A c nums s2, saB g5 ((za, zb, zc, zd, ze, zf) : Ch) o.1 l.length o.2 none 0 0, saB g4 (0, 0, 0, 0, 0, 0) none 0 0 none 0 0]) (l.length + 1) (rows (l ++ [z])) T.el_ints rfl rfl rfl hG (show List.Perm (dice g A c nums s2 :: og ++ [saB g5 ((za, zb, zc, zd, ze, zf) : Ch) o.1 l.length o.2 none 0 0, saB g4 (0, 0, 0, 0, 0, 0) none 0 0 none 0 0]) (og ++ [dice g A c nums s2, saB g5 ((za, zb, zc, zd, ze, zf) : Ch) o.1 l.length o.2 none 0 0, saB g4 (0, 0, 0, 0, 0, 0) none 0 0 none 0 0]) from (perm_of fun p => by simp only [List.countP_append, List.countP_cons, List.countP_nil]; omega)) (Src.row (news := rows [z]) (m := 1) mB rfl (rows_one _) (by decide)) rfl (rows_append _ _).symm (by unfold maxLen; omega) (by omega) fun A4 c4 og4 hG4 => ?_
  first | refine r_fieldAddr ⟨_, 6, none⟩ rfl rfl T.fa_api_Sales_1 rfl ?_ | refine r_fieldAddr _ rfl rfl T.fa_api_Sales_1 rfl ?_
  refine r_store (hp' := og4 ++ [dice g A c nums s2, saB g4 (0, 0, 0, 0, 0, 0) none 0 0 none 0 0]) rfl rfl (show List.Perm (og4 ++ [dice g A c nums s2, saB g5 ((za, zb, zc, zd, ze, zf) : Ch) o.1 l.length o.2 none 0 0, saB g4 (0, 0, 0, 0, 0, 0) none 0 0 none 0 0]) (saB g5 ((za, zb, zc, zd, ze, zf) : Ch) o.1 l.length o.2 none 0 0 :: (og4 ++ [dice g A c nums s2, saB g4 (0, 0, 0, 0, 0, 0) none 0 0 none 0 0])) from (perm_of fun p => by simp only [List.countP_append, List.countP_cons, List.countP_nil]; omega)) T.sz_ints (by rfl) (by rfl) ?_
  refine hl_nil (inb_n (then_n (hc_region (r_move rfl rfl ?_))))
  refine r_sub ((i - 1 : Nat) : Int) rfl rfl rfl (by omega) (by unfold I64; omega) ?_
  refine r_assign rfl rfl (hl_nil ?_)
  have e1 : (l ++ [z]).length = l.length + 1 := List.length_append
  refine hq_perm (show List.Perm (saB g5 ((za, zb, zc, zd, ze, zf) : Ch) A4 (l.length + 1) c4 none 0 0 :: (og4 ++ [dice g A c nums s2, saB g4 (0, 0, 0, 0, 0, 0) none 0 0 none 0 0])) (dice g A c nums s2 :: saB g5 ((za, zb, zc, zd, ze, zf) : Ch) A4 (l.length + 1) c4 none 0 0 :: saB g4 (0, 0, 0, 0, 0, 0) none 0 0 none 0 0 :: og4) from (perm_of fun p => by simp only [List.countP_append, List.countP_cons, List.countP_nil]; omega)) ?_
  exact again _ (l ++ [z], (A4, c4), og4, i - 1, s2) ⟨by show Grow _ _ _ (l ++ [_]).length _ _ _; rw [e1]; exact hG4, by rw [e1]; omega, forall_snoc hok h7, hs2⟩ (by show i - 1 < i; omega) ⟨rfl, rfl, rfl, rfl, rfl, trivial⟩ (by show List.Sublist (_ :: saB g5 _ _ (l ++ [_]).length _ _ _ _ :: _) _; rw [e1]; exact List.Sublist.refl _) ⟨mB, trivial⟩
 ·have hb1' := hb1; try simp at hb1'
  obtain rfl : i = 0 := by omega
  refine hc_exit (then_exit (then_exit (inb_hit (then_n (hc_seq (hc_seq ?_))))))
  obtain ⟨sA, sC⟩ := o
  have hCle := hG.le
  refine hc_count (og ++ [dice g A c nums s, saB g5 ((za, zb, zc, zd, ze, zf) : Ch) sA l.length sC none 0 0, saB g4 (0, 0, 0, 0, 0, 0) none 0 0 none 0 0]) (by intro p; simp only [List.countP_append, List.countP_cons, List.countP_nil]; omega) ?_
  refine hc_grown hG ?_
  clear hG
  refine hc_region (r_move rfl rfl (r_move rfl rfl ?_))
  refine hl_call F.kit_Dice_To_cb rfl rfl (kit_Dice_To_meets (m) hn hs (by omega)) (List.Perm.refl _) ⟨mB, trivial⟩ fun xs11 hs11 => ?_
  obtain ⟨s11, zm⟩ := xs11
  obtain ⟨hs11, hzm⟩ := hs11
  simp only at hs11
  have hzm : 0 ≤ zm ∧ zm ≤ m := to_bd hzm (by omega)
  obtain ⟨zm, rfl⟩ := Int.eq_ofNat_of_zero_le hzm.1
  refine r_assign rfl rfl (hl_nil (then_n (hc_block ?_)))
  refine hc_loop (β := List Ad × OutC × Hp × Nat × (Int × Int)) ⟨fun ⟨q, o, og, i, s⟩ => Grow T.api_Advert 3 o.1 q.length o.2 (rows q) og ∧ q.length + i ≤ m ∧ (∀ x ∈ q, adErr l.length x = 0) ∧ DOK nums s, fun ⟨q, o, og, i, s⟩ => [(0, .pointer (some ⟨g, 0, none⟩)), (1, int m), (4, .pointer (some ⟨g4, 0, none⟩)), (5, .pointer (some ⟨g5, 0, none⟩)), (7, int i)], fun ⟨q, o, og, i, s⟩ => dice g A c nums s :: saB g5 ((za, zb, zc, zd, ze, zf) : Ch) sA l.length sC o.1 q.length o.2 :: saB g4 (0, 0, 0, 0, 0, 0) none 0 0 none 0 0 :: og, fun _ => [Row sA (rows l), Row A (rows nums)]⟩ (fun x => x.2.2.2.1) ([], (none, 0), [], zm, s11) ⟨Grow.nil _ _, by rw [List.length_nil]; omega, fun v hv => by simp at hv, hs11⟩ ⟨rfl, rfl, rfl, rfl, rfl, trivial⟩ (.refl _) ⟨mB, mB, trivial⟩ fun x hx => ?_
  clear hs hs11
  obtain ⟨q, o, og, i, s⟩ := x
  obtain ⟨hG, hqi, hok2, hs⟩ := hx
  refine hc_seq (hc_seq (hc_region (r_move rfl rfl (r_gtr rfl rfl rfl (hl_nil (then_n ?_))))))
  first | refine c_dec rfl (fun hb2 => ?_) (fun hb2 => ?_) | refine hc_cond rfl (fun hb2 => ?_) (fun hb2 => ?_)
  ·have hb2' := hb2; try simp at hb2'
   have hi0 : 0 < i := by omega
   refine hc_skip (then_n (hc_seq (hc_block ?_)))
   refine hc_drawW (dice g A c nums s :: og) ([saB g5 ((za, zb, zc, zd, ze, zf) : Ch) sA l.length sC o.1 q.length o.2, saB g4 (0, 0, 0, 0, 0, 0) none 0 0 none 0 0]) (perm_of fun p => by simp only [List.countP_append, List.countP_cons, List.countP_nil]; omega) 8 [6] mixed (by decide) (by decide) (by decide) rfl rfl rfl ?_
   apply hb_ex _ rfl rfl rfl
   ·intro w1
    first | refine r_fieldAddr ⟨_, 7, none⟩ rfl rfl T.fa_api_Sales_2 rfl ?_ | refine r_fieldAddr _ rfl rfl T.fa_api_Sales_2 rfl ?_
    refine hl_nil ?_
    exact qe_done rfl
   apply hb_ex _ rfl rfl rfl
   ·intro w1
    first | refine r_load rfl T.cell_L_api_Advert rfl (cell_blk mB rfl) ?_ | refine r_load rfl T.cell_L_api_Advert rfl (cell_own mB rfl) ?_ | refine r_load rfl T.cell_L_api_Advert rfl (cell_row mB (rows_get0 (by omega) rfl)) ?_ | refine r_load rfl T.cell_L_api_Advert rfl (cell_row_f mB (rows_get (by omega) rfl)) ?_ | refine r_load rfl T.cell_L_api_Advert rfl (cell_rowg mB rfl) ?_
    refine hl_nil ?_
    exact qe_done rfl
   refine hb_ex _ rfl rfl rfl (fun w1 => r_move rfl rfl (hl_nil (qe_done rfl))) ?_
   apply hb_ex _ rfl rfl rfl
   ·intro w1
    first | refine r_fieldAddr ⟨_, 6, none⟩ rfl rfl T.fa_api_Sales_1 rfl ?_ | refine r_fieldAddr _ rfl rfl T.fa_api_Sales_1 rfl ?_
    refine hl_nil ?_
    exact qe_done rfl
   apply hb_ex _ rfl rfl rfl
   ·intro w1
    first | refine r_load rfl T.cell_ints rfl (cell_blk mB rfl) ?_ | refine r_load rfl T.cell_ints rfl (cell_own mB rfl) ?_ | refine r_load rfl T.cell_ints rfl (cell_row mB (rows_get0 (by omega) rfl)) ?_ | refine r_load rfl T.cell_ints rfl (cell_row_f mB (rows_get (by omega) rfl)) ?_ | refine r_load rfl T.cell_ints rfl (cell_rowg mB rfl) ?_
    refine hl_nil ?_
    exact qe_done rfl
   refine hb_ex _ rfl rfl rfl (fun w1 => r_len_sl rfl T.u_ints rfl (hl_nil (qe_done rfl))) ?_
   refine hb_wr ⟨(Int × Int) × Ad, fun x => DOK nums x.1 ∧ adErr l.length x.2 = 0, fun x => adV x.2, fun _ => [], fun x => dice g A c nums x.1 :: og⟩ rfl rfl rfl ?_ ?_
   ·intro w1
    refine hl_call F.kit_AdvertOf_cb rfl rfl (kit_AdvertOf_meets l.length hn hs ⟨by omega, by omega⟩) (List.Perm.refl _) ⟨mB, trivial⟩ fun xs1 hs1 => ?_
    obtain ⟨s1, z⟩ := xs1
    obtain ⟨hs1, hz⟩ := hs1
    simp only at hs1
    refine hl_nil ?_
    exact qw_done (s1, z) ⟨hs1, hz⟩ (fun _ => rfl) (List.Sublist.refl _) trivial
   refine hb_vs ⟨Nat × Ad, fun x => adErr l.length x.2 = 0, fun x => .slice (some ⟨x.1, 0, none⟩) 1 1, fun x => [Row (some ⟨x.1, 0, none⟩) (rows [x.2])]⟩ rfl rfl rfl ?_ ?_
   ·intro x hx; intro w1
    refine r_buildSlice _ rfl rfl (fun _ => T.bs_L_api_Advert_1 ..) fun gS => ?_
    refine hl_nil ?_
    refine hq_letgo (rows [x.2]) (List.prefix_refl _) ?_
    exact qv_done (gS, x.2) hx.2 rfl ⟨m0, trivial⟩
   refine hb_nil ⟨rfl, ?_⟩
   intro x6 h6 x7 h7
   obtain ⟨s2, _⟩ := x6
   have hs2 : DOK nums s2 := h6.1
   obtain ⟨g7, z⟩ := x7
   simp only at h7
   refine r_append (hp' := [dice g A c nums s2, saB g5 ((za, zb, zc, zd, ze, zf) : Ch) sA l.length sC o.1 q.length o.2, saB g4 (0, 0, 0, 0, 0, 0) none 0 0 none 0 0]) (q.length + 1) (rows (q ++ [z])) T.el_L_api_Advert rfl rfl rfl hG (show List.Perm (dice g A c nums s2 :: og ++ [saB g5 ((za, zb, zc, zd, ze, zf) : Ch) sA l.length sC o.1 q.length o.2, saB g4 (0, 0, 0, 0, 0, 0) none 0 0 none 0 0]) (og ++ [dice g A c nums s2, saB g5 ((za, zb, zc, zd, ze, zf) : Ch) sA l.length sC o.1 q.length o.2, saB g4 (0, 0, 0, 0, 0, 0) none 0 0 none 0 0]) from (perm_of fun p => by simp only [List.countP_append, List.countP_cons, List.countP_nil]; omega)) (Src.row (news := rows [z]) (m := 1) mB rfl (rows_one _) (by decide)) rfl (rows_append _ _).symm (by unfold maxLen; omega) (by omega) fun A4 c4 og4 hG4 => ?_
   first | refine r_fieldAddr ⟨_, 7, none⟩ rfl rfl T.fa_api_Sales_2 rfl ?_ | refine r_fieldAddr _ rfl rfl T.fa_api_Sales_2 rfl ?_
   refine r_store (hp' := og4 ++ [dice g A c nums s2, saB g4 (0, 0, 0, 0, 0, 0) none 0 0 none 0 0]) rfl rfl (show List.Perm (og4 ++ [dice g A c nums s2, saB g5 ((za, zb, zc, zd, ze, zf) : Ch) sA l.length sC o.1 q.length o.2, saB g4 (0, 0, 0, 0, 0, 0) none 0 0 none 0 0]) (saB g5 ((za, zb, zc, zd, ze, zf) : Ch) sA l.length sC o.1 q.length o.2 :: (og4 ++ [dice g A c nums s2, saB g4 (0, 0, 0, 0, 0, 0) none 0 0 none 0 0])) from (perm_of fun p => by simp only [List.countP_append, List.countP_cons, List.countP_nil]; omega)) T.sz_L_api_Advert (by rfl) (by rfl) ?_
   refine hl_nil (inb_n (then_n (hc_region (r_move rfl rfl ?_))))
   refine r_sub ((i - 1 : Nat) : Int) rfl rfl rfl (by omega) (by unfold I64; omega) ?_
   refine r_assign rfl rfl (hl_nil ?_)
   have e1 : (q ++ [z]).length = q.length + 1 := List.length_append
   refine hq_perm (show List.Perm (saB g5 ((za, zb, zc, zd, ze, zf) : Ch) sA l.length sC A4 (q.length + 1) c4 :: (og4 ++ [dice g A c nums s2, saB g4 (0, 0, 0, 0, 0, 0) none 0 0 none 0 0])) (dice g A c nums s2 :: saB g5 ((za, zb, zc, zd, ze, zf) : Ch) sA l.length sC A4 (q.length + 1) c4 :: saB g4 (0, 0, 0, 0, 0, 0) none 0 0 none 0 0 :: og4) from (perm_of fun p => by simp only [List.countP_append, List.countP_cons, List.countP_nil]; omega)) ?_
   exact again _ (q ++ [z], (A4, c4), og4, i - 1, s2) ⟨by show Grow _ _ _ (q ++ [_]).length _ _ _; rw [e1]; exact hG4, by rw [e1]; omega, forall_snoc hok2 h7, hs2⟩ (by show i - 1 < i; omega) ⟨rfl, rfl, rfl, rfl, rfl, trivial⟩ (by show List.Sublist (_ :: saB g5 _ _ _ _ _ (q ++ [_]).length _ :: _) _; rw [e1]; exact List.Sublist.refl _) ⟨mB, mB, trivial⟩
  ·have hb2' := hb2; try simp at hb2'
   obtain rfl : i = 0 := by omega
   refine hc_exit (then_exit (then_exit (inb_hit (then_n (hc_seq ?_)))))
   obtain ⟨aA, aC⟩ := o
   have hQle := hG.le
   refine hc_count (og ++ [saB g5 ((za, zb, zc, zd, ze, zf) : Ch) sA l.length sC aA q.length aC, saB g4 (0, 0, 0, 0, 0, 0) none 0 0 none 0 0, dice g A c nums s]) (by intro p; simp only [List.countP_append, List.countP_cons, List.countP_nil]; omega) ?_
   refine hc_grown hG ?_
   clear hG
   refine hc_region ?_
   first | refine r_loadA rfl T.row_api_Sales T.sz_api_Sales rfl mB (by rfl) ?_ | refine r_loadB rfl T.row_api_Sales T.sz_api_Sales rfl mB (by rfl) ?_ | refine r_loadS rfl T.row_api_Sales T.sz_api_Sales rfl rfl (cells_row mB (rows_all (by omega))) ?_
   refine r_storeS (cs := #[int za, int zb, int zc, int zd, int ze, int zf, .slice sA l.length sC, .slice aA q.length aC]) rfl rfl (.swap _ _ _) T.sz_api_Sales (by rfl) (by rfl) ?_
   refine hl_nil (then_n (hc_ret ?_))
   refine ret_row (s, (za, zb, zc, zd, ze, zf), ⟨sA, sC, l⟩, ⟨aA, aC, q⟩) rfl rfl T.row_api_Sales T.sz_api_Sales rfl m0 rfl rfl ⟨hs, ⟨chk_mk hch ⟨by show 1 ≤ l.length; omega, by show l.length ≤ 5; omega⟩ hok (by show q.length ≤ 8; omega) hok2, by show q.length ≤ m; omega, hCle, hQle⟩⟩ (.cons _ (.cons _ (.refl _))) ⟨mB, mB, trivial⟩
end Go.Proofs.Ytdlbbfcfahahdaa
end
section
namespace Go.Proofs.Ytdlbbfcfahahdaa
open Go Go.W
set_option linter.unusedVariables false
set_option linter.unusedSimpArgs false
set_option maxRecDepth 20000
attribute [local irreducible] HL HC HQ HB Row Rows2 Blk Facts
abbrev OutS := (OutC × Hp) × (OutC × Hp)
structure DupS (ss : List Int) (xs : List Ad) (x : OutS) : Prop where
  a : Grow T.int 1 x.1.1.1 ss.length x.1.1.2 (rows ss) x.1.2
  b : GrowE T.api_Advert 3 x.2.1.1 xs.length x.2.1.2 (rows xs) x.2.2
def priceE (c : Ch) (ss : List Int) (xs : List Ad) (i : Int) : Int × Int := if ¬ chkS c ss xs = 0 then (0, chkS c ss xs) else if ¬ (0 ≤ i ∧ i ≤ (xs.length : Int) - 1) then (0, 3) else (priceN c (xs.getD i.toNat default), 0)
def owesK : List Int → List Cd → List Int × Int
  | b, [] => (b, 0)
  | b, r :: rs => if ¬ (0 ≤ r.1 ∧ r.1 ≤ (b.length : Int) - 1) then ([], 3) else if ¬ (0 ≤ r.2 ∧ r.2 ≤ 99999) then ([], 1) else owesK (b.set r.1.toNat (b.getD r.1.toNat default - r.2)) rs
def owesE (c : Ch) (ss : List Int) (xs : List Ad) (rs : List Cd) : List Int × Int := if ¬ chkS c ss xs = 0 then ([], chkS c ss xs) else if 8 < rs.length then ([], 6) else owesK (numsN 103 c ss xs) rs
theorem kit_DupInts_own {A : Option Addr} {c : Nat} (l : List Int) (hl : l.length ≤ 1000000) : Meets Try.prog F.kit_DupInts [.slice A l.length c] { LI := [Row A (rows l)], inv := fun x : OutC × Hp => Grow T.int 1 x.1.1 l.length x.1.2 (rows l) x.2, val := fun x => .slice x.1.1 l.length x.1.2, hpO := fun x => x.2 } := by
 refine meets_intro F.kit_DupInts_f rfl (Nat.le_of_ble_eq_true rfl) fun w0 => ?_
 refine hc_seq (hc_region (r_assign rfl rfl (hl_nil (then_n (hc_seq (hc_region ?_))))))
 refine r_buildSlice _ rfl rfl (fun _ => T.bs_ints_0 ..) fun gS => ?_
 refine r_move rfl rfl ?_
 refine r_append l.length (rows l) T.el_ints rfl rfl rfl (Grow.new (cs := #[]) (n := 0) rfl (Nat.zero_le _)) (.refl _) (Src.row m0 (rows_len l) (rows_one l) (by decide)) (by omega) rfl (by unfold maxLen; omega) (by omega) fun A' c' og' hG => ?_
 refine r_assign rfl rfl (hl_nil (then_n (hc_ret ?_)))
 exact ret1 ((A', c'), og') rfl rfl rfl hG (List.sublist_append_left _ _) trivial
theorem kit_DupSales_meets (c : Ch) (ps : Sl Int) (qs : Sl Ad) (hn : ps.l.length ≤ 1000000) (hm : qs.l.length ≤ 1000000) : Meets Try.prog F.kit_DupSales [saV c ps qs] { LI := saL ps qs, inv := fun x : OutS => DupS ps.l qs.l x, val := fun x => saV c ⟨x.1.1.1, x.1.1.2, ps.l⟩ ⟨x.2.1.1, x.2.1.2, qs.l⟩, hpO := fun x => x.1.2 ++ x.2.2 } := by
 refine meets_intro F.kit_DupSales_f rfl (Nat.le_of_ble_eq_true rfl) fun w0 => ?_
 refine hc_seq (hc_region ?_)
 refine r_box rfl rfl fun gB => ?_
 refine r_alloc rfl (fun _ => T.al_api_Sales _) fun gR => ?_
 refine hl_nil (then_n (hc_seq ?_))
 refine hc_drawW ([]) (_) (.refl _) 8 [] mixed (by decide) (by decide) (by decide) rfl rfl rfl ?_
 apply hb_ex _ rfl rfl rfl
 ·intro w1
  first | refine r_fieldAddr ⟨_, 6, none⟩ rfl rfl T.fa_api_Sales_1 rfl ?_ | refine r_fieldAddr _ rfl rfl T.fa_api_Sales_1 rfl ?_
  refine hl_nil ?_
  exact qe_done rfl
 apply hb_ex _ rfl rfl rfl
 ·intro w1
  first | refine r_load rfl T.cell_ints rfl (cell_blk mB rfl) ?_ | refine r_load rfl T.cell_ints rfl (cell_own mB rfl) ?_ | refine r_load rfl T.cell_ints rfl (cell_row mB (rows_get0 (by omega) rfl)) ?_ | refine r_load rfl T.cell_ints rfl (cell_row_f mB (rows_get (by omega) rfl)) ?_ | refine r_load rfl T.cell_ints rfl (cell_rowg mB rfl) ?_
  refine hl_nil ?_
  exact qe_done rfl
 refine hb_ad ⟨OutC × Hp, fun x => Grow T.int 1 x.1.1 ps.l.length x.1.2 (rows ps.l) x.2, fun x => .slice x.1.1 ps.l.length x.1.2, fun _ => [], fun x => x.2⟩ rfl rfl rfl ?_ ?_
 ·intro w1
  refine hl_call F.kit_DupInts_cb rfl rfl (kit_DupInts_own ps.l hn) (List.Perm.refl _) ⟨mB, trivial⟩ fun z hz => ?_
  refine hl_nil ?_
  exact qw_done z hz (fun _ => rfl) (by rw [List.append_nil]; exact List.Sublist.refl _) trivial
 refine hb_vs ⟨Nat, fun _ => True, fun g => .slice (some ⟨g, 0, none⟩) 0 0, fun _ => []⟩ rfl rfl rfl ?_ ?_
 ·intro w1
  refine r_buildSlice [] rfl rfl (fun _ => T.bs_L_api_Advert_0 ..) fun gS => ?_
  refine hl_nil ?_
  refine hq_letgo (rows ([] : List Ad)) ⟨[], rfl⟩ ?_
  exact qv_done gS trivial rfl trivial
 apply hb_ex _ rfl rfl rfl
 ·intro w1
  first | refine r_fieldAddr ⟨_, 7, none⟩ rfl rfl T.fa_api_Sales_2 rfl ?_ | refine r_fieldAddr _ rfl rfl T.fa_api_Sales_2 rfl ?_
  refine hl_nil ?_
  exact qe_done rfl
 apply hb_ex _ rfl rfl rfl
 ·intro w1
  first | refine r_load rfl T.cell_L_api_Advert rfl (cell_blk mB rfl) ?_ | refine r_load rfl T.cell_L_api_Advert rfl (cell_own mB rfl) ?_ | refine r_load rfl T.cell_L_api_Advert rfl (cell_row mB (rows_get0 (by omega) rfl)) ?_ | refine r_load rfl T.cell_L_api_Advert rfl (cell_row_f mB (rows_get (by omega) rfl)) ?_ | refine r_load rfl T.cell_L_api_Advert rfl (cell_rowg mB rfl) ?_
  refine hl_nil ?_
  exact qe_done rfl
 refine hb_ad ⟨OutC × Hp, fun x => GrowE T.api_Advert 3 x.1.1 qs.l.length x.1.2 (rows qs.l) x.2, fun x => .slice x.1.1 qs.l.length x.1.2, fun _ => [], fun x => x.2⟩ rfl rfl rfl ?_ ?_
 ·intro g0 _; intro w1
  refine r_append_new T.el_L_api_Advert rfl rfl rfl (Src.row (news := rows qs.l) (m := qs.l.length) mB (rows_len _) (rows_one _) (by decide)) (by unfold maxLen; omega) (by omega) fun A' c' og' hG' => ?_
  refine hl_nil ?_
  exact qw_done ((A', c'), og') hG' (fun _ => rfl) (by rw [List.append_nil]; exact List.Sublist.refl _) trivial
 apply hb_ex _ rfl rfl rfl
 ·intro w1
  first | refine r_fieldAddr ⟨_, 6, none⟩ rfl rfl T.fa_api_Sales_1 rfl ?_ | refine r_fieldAddr _ rfl rfl T.fa_api_Sales_1 rfl ?_
  refine hl_nil ?_
  exact qe_done rfl
 refine hb_nil ⟨rfl, ?_⟩
 intro x8 hx8 _ _ x6 hx6
 obtain ⟨⟨a6, c6⟩, o6⟩ := x6
 obtain ⟨⟨a8, c8⟩, o8⟩ := x8
 change GrowE T.api_Advert 3 a6 qs.l.length c6 (rows qs.l) o6 at hx6
 change Grow T.int 1 a8 ps.l.length c8 (rows ps.l) o8 at hx8
 refine hl_perm (show List.Perm ((o6 ++ (o8 ++ [])) ++ [saB gR (0, 0, 0, 0, 0, 0) none 0 0 none 0 0, (gB, Obj.cells (saC c ps qs) T.api_Sales (0, 0))]) ((gB, Obj.cells (saC c ps qs) T.api_Sales (0, 0)) :: saB gR (0, 0, 0, 0, 0, 0) none 0 0 none 0 0 :: (o8 ++ o6)) from (perm_of fun p => by simp only [List.countP_append, List.countP_cons, List.countP_nil]; omega)) ?_
 refine r_store rfl rfl (.refl _) T.sz_ints (by rfl) (by rfl) ?_
 first | refine r_fieldAddr ⟨_, 7, none⟩ rfl rfl T.fa_api_Sales_2 rfl ?_ | refine r_fieldAddr _ rfl rfl T.fa_api_Sales_2 rfl ?_
 refine r_store rfl rfl (.refl _) T.sz_L_api_Advert (by rfl) (by rfl) ?_
 refine hl_nil (then_n (hc_seq (hc_region ?_)))
 first | refine r_loadA rfl T.row_api_Sales T.sz_api_Sales rfl mB (by rfl) ?_ | refine r_loadB rfl T.row_api_Sales T.sz_api_Sales rfl mB (by rfl) ?_ | refine r_loadS rfl T.row_api_Sales T.sz_api_Sales rfl rfl (cells_row mB (rows_all (by omega))) ?_
 refine r_storeS (cs := #[int c.1, int c.2.1, int c.2.2.1, int c.2.2.2.1, int c.2.2.2.2.1, int c.2.2.2.2.2, .slice a8 ps.l.length c8, .slice a6 qs.l.length c6]) rfl rfl (.swap _ _ _) T.sz_api_Sales (by rfl) (by rfl) ?_
 refine hl_nil (then_n (hc_ret ?_))
 refine ret_row (((a8, c8), o8), ((a6, c6), o6)) rfl rfl T.row_api_Sales T.sz_api_Sales rfl m0 rfl rfl ⟨hx8, hx6⟩ (List.Sublist.cons _ (List.Sublist.cons _ (List.Sublist.refl _))) trivial
theorem ref09_With_meets (c : Ch) (ps : Sl Int) (qs : Sl Ad) (x : Ad) (hn : ps.l.length ≤ 1000000) (hm : qs.l.length ≤ 1000000) : Meets Try.prog F.ref09_With [saV c ps qs, adV x] { LI := saL ps qs, inv := fun q : Sl Ad => q.l = qs.l ++ [x] ∧ q.l.length ≤ q.c, val := fun q => saV c ps q, LO := fun q => [Row q.a (rows q.l)] } := by
 refine meets_intro F.ref09_With_f rfl (Nat.le_of_ble_eq_true rfl) fun w0 => ?_
 refine hc_seq (hc_region ?_)
 refine r_box rfl rfl fun gB => ?_
 refine r_box rfl rfl fun g3 => ?_
 refine r_alloc rfl (fun _ => T.al_api_Sales _) fun gR => ?_
 refine hl_nil (then_n (hc_seq ?_))
 refine hc_drawW ([]) ([saB gR (0, 0, 0, 0, 0, 0) none 0 0 none 0 0, (g3, Obj.cells #[int x.1, int x.2.1, int x.2.2] T.api_Advert (0, 0)), (gB, Obj.cells (saC c ps qs) T.api_Sales (0, 0))]) (.refl _) 6 [3, 0] mixed (by decide) (by decide) (by decide) rfl rfl rfl ?_
 refine hb_wr ⟨Nat, fun _ => True, fun g => .slice (some ⟨g, 0, none⟩) 0 0, fun _ => [], fun g => [(g, Obj.cells #[] T.api_Advert (0, 0))]⟩ rfl rfl rfl ?_ ?_
 ·intro w1
  refine r_buildSlice [] rfl rfl (fun _ => T.bs_L_api_Advert_0 ..) fun gS => ?_
  refine hl_nil ?_
  exact qw_done gS trivial (fun _ => rfl) (List.Sublist.refl _) trivial
 apply hb_ex _ rfl rfl rfl
 ·intro w1
  first | refine r_fieldAddr ⟨_, 7, none⟩ rfl rfl T.fa_api_Sales_2 rfl ?_ | refine r_fieldAddr _ rfl rfl T.fa_api_Sales_2 rfl ?_
  refine hl_nil ?_
  exact qe_done rfl
 apply hb_ex _ rfl rfl rfl
 ·intro w1
  first | refine r_load rfl T.cell_L_api_Advert rfl (cell_blk mB rfl) ?_ | refine r_load rfl T.cell_L_api_Advert rfl (cell_own mB rfl) ?_ | refine r_load rfl T.cell_L_api_Advert rfl (cell_row mB (rows_get0 (by omega) rfl)) ?_ | refine r_load rfl T.cell_L_api_Advert rfl (cell_row_f mB (rows_get (by omega) rfl)) ?_ | refine r_load rfl T.cell_L_api_Advert rfl (cell_rowg mB rfl) ?_
  refine hl_nil ?_
  exact qe_done rfl
 refine hb_wr ⟨OutC × Hp, fun x => Grow T.api_Advert 3 x.1.1 qs.l.length x.1.2 (rows qs.l) x.2, fun x => .slice x.1.1 qs.l.length x.1.2, fun _ => [], fun x => x.2⟩ rfl rfl rfl ?_ ?_
 ·intro g0 _; intro w1
  refine r_append (hp' := []) qs.l.length (rows qs.l) T.el_L_api_Advert rfl rfl rfl (Grow.new (cs := #[]) (n := 0) rfl (Nat.zero_le _)) (.refl _) (Src.row (news := rows qs.l) (m := qs.l.length) mB (rows_len _) (rows_one _) (by decide)) (by omega) rfl (by unfold maxLen; omega) (by omega) fun A' c' og' hG => ?_
  refine hl_nil ?_
  exact qw_done ((A', c'), og') hG (fun _ => rfl) (by rw [List.append_nil]; exact List.Sublist.refl _) trivial
 apply hb_ex _ rfl rfl rfl
 ·intro w1
  first | refine r_loadA rfl T.row_api_Advert T.sz_api_Advert rfl mB (by rfl) ?_ | refine r_loadB rfl T.row_api_Advert T.sz_api_Advert rfl mB (by rfl) ?_ | refine r_loadS rfl T.row_api_Advert T.sz_api_Advert rfl rfl (cells_row mB (rows_all (by omega))) ?_
  refine hl_nil ?_
  exact qe_done rfl
 refine hb_vs ⟨Nat, fun _ => True, fun g1 => .slice (some ⟨g1, 0, none⟩) 1 1, fun g1 => [Row (some ⟨g1, 0, none⟩) (rows [x])]⟩ rfl rfl rfl ?_ ?_
 ·intro w1
  refine r_buildSlice _ rfl rfl (fun _ => T.bs_L_api_Advert_1 ..) fun gS => ?_
  refine hl_nil ?_
  refine hq_letgo (rows [x]) (List.prefix_refl _) ?_
  exact qv_done gS trivial rfl ⟨m0, trivial⟩
 refine hb_nil ⟨rfl, ?_⟩
 intro _ _ x3 hx3 g5 _
 obtain ⟨⟨a3, c3⟩, o3⟩ := x3
 change Grow T.api_Advert 3 a3 qs.l.length c3 (rows qs.l) o3 at hx3
 refine r_append (hp' := [saB gR (0, 0, 0, 0, 0, 0) none 0 0 none 0 0, (g3, Obj.cells #[int x.1, int x.2.1, int x.2.2] T.api_Advert (0, 0)), (gB, Obj.cells (saC c ps qs) T.api_Sales (0, 0))]) (qs.l.length + 1) (rows (qs.l ++ [x])) T.el_L_api_Advert rfl rfl rfl hx3 (.refl _) (Src.row (news := rows [x]) (m := 1) mB rfl (rows_one _) (by decide)) rfl (rows_append _ _).symm (by unfold maxLen; omega) (by omega) fun a6 c6 o6 hx6 => ?_
 have hle := hx6.le
 refine hl_grown hx6 ?_
 first | refine r_fieldAddr ⟨_, 7, none⟩ rfl rfl T.fa_api_Sales_2 rfl ?_ | refine r_fieldAddr _ rfl rfl T.fa_api_Sales_2 rfl ?_
 refine r_store rfl rfl (show List.Perm ([saB gR (0, 0, 0, 0, 0, 0) none 0 0 none 0 0, (g3, Obj.cells #[int x.1, int x.2.1, int x.2.2] T.api_Advert (0, 0)), (gB, Obj.cells (saC c ps qs) T.api_Sales (0, 0))]) ([(gB, Obj.cells (saC c ps qs) T.api_Sales (0, 0)), saB gR (0, 0, 0, 0, 0, 0) none 0 0 none 0 0, (g3, Obj.cells #[int x.1, int x.2.1, int x.2.2] T.api_Advert (0, 0))]) from (perm_of fun p => by simp only [List.countP_append, List.countP_cons, List.countP_nil]; omega)) T.sz_L_api_Advert (by rfl) (by rfl) ?_
 refine hl_nil (then_n (hc_seq (hc_region ?_)))
 first | refine r_loadA rfl T.row_api_Sales T.sz_api_Sales rfl mB (by rfl) ?_ | refine r_loadB rfl T.row_api_Sales T.sz_api_Sales rfl mB (by rfl) ?_ | refine r_loadS rfl T.row_api_Sales T.sz_api_Sales rfl rfl (cells_row mB (rows_all (by omega))) ?_
 refine r_storeS (cs := #[int c.1, int c.2.1, int c.2.2.1, int c.2.2.2.1, int c.2.2.2.2.1, int c.2.2.2.2.2, .slice ps.a ps.l.length ps.c, .slice a6 (qs.l.length + 1) c6]) rfl rfl (.swap _ _ _) T.sz_api_Sales (by rfl) (by rfl) ?_
 refine hl_nil (then_n (hc_ret ?_))
 exact ret_row (⟨a6, c6, qs.l ++ [x]⟩ : Sl Ad) rfl rfl T.row_api_Sales T.sz_api_Sales rfl m0 (by show Value.agg #[int c.1, int c.2.1, int c.2.2.1, int c.2.2.2.1, int c.2.2.2.2.1, int c.2.2.2.2.2, .slice ps.a ps.l.length ps.c, .slice a6 (qs.l ++ [x]).length c6] = _; rw [List.length_append]; rfl) rfl ⟨rfl, by show (qs.l ++ [x]).length ≤ c6; rw [List.length_append]; exact hle⟩ (List.nil_sublist _) ⟨mB, trivial⟩
end Go.Proofs.Ytdlbbfcfahahdaa
end
section
namespace Go.Proofs.Ytdlbbfcfahahdaa
open Go Go.W
set_option linter.unusedVariables false
set_option linter.unusedSimpArgs false
set_option maxRecDepth 20000
attribute [local irreducible] HL HC HQ HB Row Rows2 Blk Facts
end Go.Proofs.Ytdlbbfcfahahdaa
end
section
namespace Go.Proofs.Ytdlbbfcfahahdaa
open Go Go.W
set_option linter.unusedVariables false
set_option linter.unusedSimpArgs false
set_option maxRecDepth 20000
attribute [local irreducible] HL HC HQ HB Row Rows2 Blk Facts
theorem bills_is (c : Ch) (ps : Sl Int) (qs : Sl Ad) (h0 : chkS c ps.l qs.l = 0) (hn : ps.l.length ≤ 1000000) (hm : qs.l.length ≤ 1000000) : Meets Try.prog F.bold_Bills [saV c ps qs] { LI := saL ps qs, inv := fun x : OutC => ps.l.length ≤ x.2, val := fun x => .tuple #[.slice x.1 ps.l.length x.2, int 0], LO := fun x => [Row x.1 (rows (numsN 103 c ps.l qs.l))] } := by
  have h := bold_Bills_meets c ps qs hn hm
  rw [show billsE c ps.l qs.l = ((numsN 103 c ps.l qs.l), 0) from if_neg (fun e => e h0)] at h
  simp only [nums_len] at h
  exact h
theorem streets_is (c : Ch) (ps : Sl Int) (qs : Sl Ad) (h0 : chkS c ps.l qs.l = 0) (hn : ps.l.length ≤ 1000000) (hm : qs.l.length ≤ 1000000) : Meets Try.prog F.bold_Streets [saV c ps qs] { LI := saL ps qs, inv := fun x : OutC => (discK c ps.l qs.l 10).length ≤ x.2, val := fun x => .tuple #[.slice x.1 (discK c ps.l qs.l 10).length x.2, int 0], LO := fun x => [Row x.1 (rows (discK c ps.l qs.l 10))] } := by
  have h := bold_Streets_meets c ps qs hn hm
  rw [show streetsE c ps.l qs.l = ((discK c ps.l qs.l 10), 0) from if_neg (fun e => e h0)] at h
  exact h
theorem nums_at {how : Nat} {c : Ch} {ss : List Int} {xs : List Ad} {i : Nat} (hi : i < ss.length) : (numsN how c ss xs).getD i default = if how = 103 then bilN c ss xs i else sumN c xs i - bilN c ss xs i := range_getD _ hi
theorem bill_at (c : Ch) (ss : List Int) (xs : List Ad) {i : Nat} (hi : i < ss.length) : (numsN 103 c ss xs).getD i default = bilN c ss xs i := nums_at hi
abbrev sumsL (c : Ch) (xs : List Ad) (n k : Nat) : List Int := (List.range n).map (sumK c xs k)
end Go.Proofs.Ytdlbbfcfahahdaa
end
section
namespace Go.Proofs.Ytdlbbfcfahahdaa
open Go Go.W
set_option linter.unusedVariables false
set_option linter.unusedSimpArgs false
set_option maxRecDepth 20000
attribute [local irreducible] HL HC HQ HB Row Rows2 Blk Facts
theorem chk_ads {c : Ch} {ss : List Int} {xs : List Ad} (h : chkS c ss xs = 0) : ∀ x ∈ xs, adErr ss.length x = 0 := by
  refine firstE_zero ?_
  unfold chkS at h
  repeat' split at h
  all_goals first | exact h | cases h
theorem chk_snoc {c : Ch} {ss : List Int} {xs : List Ad} {x : Ad} (h : chkS c ss xs = 0) (hx : adErr ss.length x = 0) (hl : xs.length ≤ 7) : chkS c ss (xs ++ [x]) = 0 := by
  have hs := sa_ok h
  exact chk_mk hs.ch ⟨hs.n1, hs.n5⟩ hs.st (by rw [List.length_append, List.length_singleton]; omega) (forall_snoc (chk_ads h) hx)
end Go.Proofs.Ytdlbbfcfahahdaa
end
section
namespace Go.W
open Go Go.RowKit Go.ChangeShapes Go.WideShapes
set_option linter.unusedVariables false
set_option linter.unusedSimpArgs false
section
variable {H : Type} {enc : TypeId × Value → H} {P : Program} {w : World} {base : Nat} {spare : Nat → Bool} {held : Bool}
/-- A row of elements of one cell each. -/
theorem row_of {α : Type} [El α] (h1 : El.sz α = 1) {a : Addr} {l : List α} (h : ∀ j (hj : j < l.length), ∃ v, El.cells l[j] = [v] ∧ w.cell? (a.add j) = some v) : (Row (some a) (rows l)).P w := by
  intro j u hu
  refine ⟨a, rfl, ?_⟩
  have hj : j < l.length := by
    have := (List.getElem?_eq_some_iff.1 hu).1
    rw [rows_len, h1, Nat.mul_one] at this
    exact this
  obtain ⟨v, hv, hc⟩ := h j hj
  have h2 := rows_get (l := l) (i := j) (j := 0) (v := v) hj (by simp [List.getD_eq_getElem?_getD, hj, hv])
  rw [h1] at h2
  simp only [Nat.mul_one, Nat.add_zero] at h2
  rw [hu] at h2
  cases h2
  exact hc
theorem in_ints {t e : TypeId} {A : Option Addr} {n c fuel : Nat} {x : DataW H × List MemPlace} (ht : P.underlying t = some (.slice e)) (he : P.underlying e = some (.int .i64)) (hc : P.cellsOf e = 1)
    (h : DataW.trod enc P w base spare held fuel t [.slice A n c] = some x) : ∃ l : List Int, n = l.length ∧ l.length ≤ c ∧ c ≤ maxLen ∧ (Row A (rows l)).P w ∧ ∀ z ∈ l, I64 z := by
  rcases open_ints ht he hc h with ⟨hcs, _⟩ | ⟨a, len, cap, zs, hcs, _, hl, hm, hlen, _, hcell, hwf⟩
  · simp at hcs
    obtain ⟨rfl, rfl, rfl⟩ := hcs
    exact ⟨[], rfl, Nat.le_refl _, by unfold maxLen; omega, Row.nil _ _, by intro z hz; simp at hz⟩
  · simp at hcs
    obtain ⟨rfl, rfl, rfl⟩ := hcs
    have hle : n ≤ zs.length := by rw [hlen]; split <;> omega
    have hlen2 : (zs.take n).length = n := by rw [List.length_take]; omega
    refine ⟨zs.take n, hlen2.symm, by rw [hlen2]; exact hl, hm, row_of rfl fun j hj => ?_, fun z hz => ?_⟩
    · rw [hlen2] at hj
      refine ⟨int zs[j], by simp [El.cells], ?_⟩
      rw [hcell j (by omega)]
      simp [List.getD_eq_getElem?_getD, show j < zs.length by omega]
    · have := hwf z (List.mem_of_mem_take hz)
      simp [Lit.wf, IntKind.min, IntKind.max, IntKind.signed, IntKind.bits] at this
      exact ⟨by omega, by omega⟩
/-- A law's contract, as the row wants it. -/
theorem law_calls {f : Nat} {args : List Value} {LI : List Fact} (h : Meets P f args ({ LI := LI, val := fun _ : Unit => .bool true } : Con Unit)) (hL : ∀ F ∈ LI, F.P w) : CallsB P f args.toArray w fun v w' => v = .bool true ∧ Below w.heap.size w w' := by
  refine (h w ⟨Ext.refl _ _, by simp, by simp, by simp, hL, by simp, fun F hF k hk => .inr (.inr ⟨F, hF, hk⟩)⟩).mono fun v w' hp => ?_
  obtain ⟨_, rfl, _, hwi⟩ := hp
  exact ⟨rfl, hwi.ext.below⟩
end
end Go.W
end
section
namespace Go.W
open Go Go.Conc
set_option linter.unusedVariables false
theorem Lv.at {P : Program} {fr : Frame} {w : World} {v : Value} (h : Lv P fr w v) (d : Nat) : Lv P fr (w.at d) v :=
  ⟨h.1, h.2.1, h.2.2.1, h.2.2.2.elim fun fn x => ⟨fn, x.1, fun d' => x.2 d'⟩⟩
theorem run_of {P : Program} {f : FuncId} {fn : Func} {t : Tmp} {args : Array Value} {W : World} {R : Value → World → Prop} (hf : P.funcs[f]? = some fn) (hres : fn.results = #[.tmp t]) (hin : P.inits.idxOf? f = none)
    (h : CallsB P f args W R) (hat : ∀ v w d, R v w → R v (w.at d)) :
    ∃ M last o w' t', runNT P (M + 1) (solo (G (Frame.enter P f args .normal) []) W) #[] = (.ended o w', t') ∧ runN P M (solo (G (Frame.enter P f args .normal) []) W) = .next last ∧ step P last = .ended o w' ∧ Conc.Good P R last o w' t' := by
  have hco := h [] (fun g w => ∃ v fr, g = G fr [] ∧ fr.fn = f ∧ Lv P fr w v ∧ R v w) (fun fr v w' hfr hR hl => co_done fun d => ⟨v, fr, rfl, hfr, hl.at d, hat _ _ _ hR⟩)
  obtain ⟨N, gs, g, w, sl, t0, q, B, r, h0, hL, hP, v, fr, rfl, hfr, hl, hR⟩ := hco W.drawn #[G (Frame.enter P f args .normal) []] none #[] (fun _ => 0) 0 rfl (leavers_one P _) past_nil
  have hG : Goes P true AtRel (fun _ _ es => ∀ e ∈ es, EvL noS B e) (AtEnd P noS B R) 0 (G fr []) w := by
    rintro w₁ ⟨d, rfl⟩
    refine ⟨rfl, v, #[], ?_, by simp, hat _ _ _ hR⟩
    obtain ⟨hm, hd, hn, fn', hf', hr⟩ := hl.at d
    rw [hfr, hf] at hf'
    obtain rfl := Option.some.inj hf'
    have hf2 : P.funcs[fr.fn]? = some fn := by rw [hfr]; exact hf
    have hin2 : P.inits.idxOf? fr.fn = none := by rw [hfr]; exact hin
    have he : (results fn fr.tmps).events P (w.at d) #[] = #[] := events_results_tmp hres _ _
    have hr0 : (results fn fr.tmps).run P (w.at d) = .ok v (w.at d) := hr d
    simp [G, stepG, unwind, doReturn, hn, hd, hm, hf2, hr0, he, hin2, GStep.after, seen]
  obtain ⟨M, last, o, w', t', e1, e2, e3, e4⟩ := beside_ends (P := P) (Post := R) (sl := sl) (fun _ _ _ h => h) h0 hL hP hG
  have hrun : runNT P N (solo (G (Frame.enter P f args .normal) []) W) #[] = (.next (crowd gs w sl), t0) := r
  refine ⟨N + M, last, o, w', t', ?_, ?_, e3, e4⟩
  · rw [Nat.add_assoc, runNT_two hrun]; exact e1
  · rw [runN_add, ← runNT_fst P _ _ #[], hrun]; exact e2
end Go.W
end
