/- Texts of this claim, one behind another. -/
import Derived.ProofKit
import Derived.OpenShut
import Derived.ShutString
import Derived.ChangeOld
import Derived.Below
import Derived.SliceStrings
import Derived.ChangeSlices
import Derived.Deep.Slices
import Derived.Deep.Strs
import Derived.Conc.LeavingOf
import Derived.Test.YtdlbbfcfahahdaaGreatAAp
import Derived.Test.YtdlbbfcfahahdaaGreatAAo
import Derived.Test.YtdlbbfcfahahdaaGreatAAf
import Derived.Test.YtdlbbfcfahahdaaGreatAAa
set_option linter.unusedVariables false
set_option linter.unusedSimpArgs false
section
namespace Go.Proofs.YtdlbbfcfahahdaaGreat
open Go Go.W
set_option maxRecDepth 20000
attribute [local irreducible] HL HC HQ HB Row Rows2 Blk Facts
abbrev Sx := Ch × Sl Int × Sl Ad
instance : El Sx where
  default := ((0, 0, 0, 0, 0, 0), ⟨none, 0, []⟩, ⟨none, 0, []⟩)
  cells x := [int x.1.1, int x.1.2.1, int x.1.2.2.1, int x.1.2.2.2.1, int x.1.2.2.2.2.1, int x.1.2.2.2.2.2, .slice x.2.1.a x.2.1.l.length x.2.1.c, .slice x.2.2.a x.2.2.l.length x.2.2.c]
  sz := 8
  len _ := rfl
  one a u h := by simp at h; rcases h with h | h | h | h | h | h | h | h <;> subst h <;> rfl
abbrev Sx.row (d : Sx) : Fact := Facts [Row d.2.1.a (rows d.2.1.l), Row d.2.2.a (rows d.2.2.l)]
theorem kit_EqSales_meets {pA qA : Option Addr} {pC qC : Nat} (c : Ch) (ps : Sl Int) (qs : Sl Ad) (hn : ps.l.length ≤ 1000000) (hm : qs.l.length ≤ 1000000) : Meets Tryz.prog F.kit_EqSales [saV c ps qs, saV c ⟨pA, pC, ps.l⟩ ⟨qA, qC, qs.l⟩] { LI := [Row ps.a (rows ps.l), Row qs.a (rows qs.l), Row pA (rows ps.l), Row qA (rows qs.l)], val := fun _ : Unit => .bool true } := by
 refine meets_intro F.kit_EqSales_f rfl (Nat.le_of_ble_eq_true rfl) fun w0 => ?_; refine hc_seq (hc_region ?_); refine r_box rfl rfl fun gB => ?_; refine r_box rfl rfl fun gC => ?_; refine r_assign rfl rfl (hl_nil (then_n (hc_seq (hc_seq (hc_letgoB (hc_letgoB (hc_region ?_)))))))
 first | refine r_fieldAddr ⟨_, 0, none⟩ rfl rfl T.fa_api_Sales_0 rfl ?_ | refine r_fieldAddr _ rfl rfl T.fa_api_Sales_0 rfl ?_
 refine r_loadS (cs := [int c.1, int c.2.1, int c.2.2.1, int c.2.2.2.1, int c.2.2.2.2.1, int c.2.2.2.2.2]) rfl T.row_api_Charges T.sz_api_Charges rfl rfl (cells_blk (o := 0) mB (cells_pre rfl)) ?_
 first | refine r_fieldAddr ⟨_, 0, none⟩ rfl rfl T.fa_api_Sales_0 rfl ?_ | refine r_fieldAddr _ rfl rfl T.fa_api_Sales_0 rfl ?_
 refine r_loadS (cs := [int c.1, int c.2.1, int c.2.2.1, int c.2.2.2.1, int c.2.2.2.2.1, int c.2.2.2.2.2]) rfl T.row_api_Charges T.sz_api_Charges rfl rfl (cells_blk (o := 0) mB (cells_pre rfl)) ?_; refine r_bin _ rfl rfl rfl (fun _ => T.eqg_api_Charges ..) (fun _ => T.neq_api_Charges ..) ?_; refine r_move rfl rfl ?_; refine g_split rfl rfl ?_ ?_
 ·intro hg1; have hg1' := hg1; try simp at hg1'
  refine g_yes rfl rfl hg1 ?_
  first | refine r_fieldAddr ⟨_, 6, none⟩ rfl rfl T.fa_api_Sales_1 rfl ?_ | refine r_fieldAddr _ rfl rfl T.fa_api_Sales_1 rfl ?_
  refine g_yes rfl rfl hg1 ?_
  first | refine r_load rfl T.cell_ints rfl (cell_own mB rfl) ?_ | refine r_load rfl T.cell_ints rfl (cell_blk mB rfl) ?_ | refine r_load rfl T.cell_ints rfl (cell_row mB (rows_get0 (by omega) rfl)) ?_ | refine r_load rfl T.cell_ints rfl (cell_row_f mB (rows_get (by omega) rfl)) ?_ | refine r_load rfl T.cell_ints rfl (cell_rowg mB rfl) ?_
  refine g_yes rfl rfl hg1 ?_
  first | refine r_fieldAddr ⟨_, 6, none⟩ rfl rfl T.fa_api_Sales_1 rfl ?_ | refine r_fieldAddr _ rfl rfl T.fa_api_Sales_1 rfl ?_
  refine g_yes rfl rfl hg1 ?_
  first | refine r_load rfl T.cell_ints rfl (cell_own mB rfl) ?_ | refine r_load rfl T.cell_ints rfl (cell_blk mB rfl) ?_ | refine r_load rfl T.cell_ints rfl (cell_row mB (rows_get0 (by omega) rfl)) ?_ | refine r_load rfl T.cell_ints rfl (cell_row_f mB (rows_get (by omega) rfl)) ?_ | refine r_load rfl T.cell_ints rfl (cell_rowg mB rfl) ?_
  refine g_yes rfl rfl hg1 ?_; refine hl_call F.kit_EqInts_cb rfl rfl (kit_EqInts_meets ps.l ps.l (by omega)) (List.Perm.refl _) ⟨mB, mB, trivial⟩ fun _ _ => ?_; refine g_yes rfl rfl hg1 (r_not rfl rfl ?_); refine p_f rfl rfl (bf1 hg1) rfl ?_; refine r_move rfl rfl ?_; refine g_split rfl rfl ?_ ?_
  ·intro hg2; have hg2' := hg2; try simp at hg2'
   refine g_yes rfl rfl hg2 ?_
   first | refine r_fieldAddr ⟨_, 7, none⟩ rfl rfl T.fa_api_Sales_2 rfl ?_ | refine r_fieldAddr _ rfl rfl T.fa_api_Sales_2 rfl ?_
   refine g_yes rfl rfl hg2 ?_
   first | refine r_load rfl T.cell_L_api_Advert rfl (cell_own mB rfl) ?_ | refine r_load rfl T.cell_L_api_Advert rfl (cell_blk mB rfl) ?_ | refine r_load rfl T.cell_L_api_Advert rfl (cell_row mB (rows_get0 (by omega) rfl)) ?_ | refine r_load rfl T.cell_L_api_Advert rfl (cell_row_f mB (rows_get (by omega) rfl)) ?_ | refine r_load rfl T.cell_L_api_Advert rfl (cell_rowg mB rfl) ?_
   refine g_yes rfl rfl hg2 ?_; refine r_len_sl rfl T.u_L_api_Advert rfl ?_; refine g_yes rfl rfl hg2 ?_
   first | refine r_fieldAddr ⟨_, 7, none⟩ rfl rfl T.fa_api_Sales_2 rfl ?_ | refine r_fieldAddr _ rfl rfl T.fa_api_Sales_2 rfl ?_
   refine g_yes rfl rfl hg2 ?_
   first | refine r_load rfl T.cell_L_api_Advert rfl (cell_own mB rfl) ?_ | refine r_load rfl T.cell_L_api_Advert rfl (cell_blk mB rfl) ?_ | refine r_load rfl T.cell_L_api_Advert rfl (cell_row mB (rows_get0 (by omega) rfl)) ?_ | refine r_load rfl T.cell_L_api_Advert rfl (cell_row_f mB (rows_get (by omega) rfl)) ?_ | refine r_load rfl T.cell_L_api_Advert rfl (cell_rowg mB rfl) ?_
   refine g_yes rfl rfl hg2 ?_; refine r_len_sl rfl T.u_L_api_Advert rfl ?_; refine g_yes rfl rfl hg2 (r_neq rfl rfl rfl ?_); refine p_f rfl rfl (bf1 hg2) rfl ?_; refine hl_nil (then_n ?_)
   first | refine c_dec rfl (fun hb1 => ?_) (fun hb1 => ?_) | refine hc_cond rfl (fun hb1 => ?_) (fun hb1 => ?_)
   ·have hb1' := hb1; try simp at hb1'
   ·have hb1' := hb1; try simp at hb1'
    refine hc_skip (then_n (hc_seq (hc_seq (hc_region (r_assign rfl rfl (hl_nil (then_n (hc_block ?_)))))))); refine hc_loop (β := Nat) ⟨fun k => k ≤ qs.l.length, fun k => [(2, .pointer (some ⟨gB, 0, none⟩)), (3, .pointer (some ⟨gC, 0, none⟩)), (5, int k)], fun _ => [], fun _ => [Blk gC (.cells (saC c ⟨pA, pC, ps.l⟩ ⟨qA, qC, qs.l⟩) T.api_Sales (0, 0)), Blk gB (.cells (saC c ps qs) T.api_Sales (0, 0)), Row ps.a (rows ps.l), Row qs.a (rows qs.l), Row pA (rows ps.l), Row qA (rows qs.l)]⟩ (fun k => qs.l.length - k) 0 (Nat.zero_le _) ⟨rfl, rfl, rfl, trivial⟩ (List.nil_sublist _) ⟨mB, mB, mB, mB, mB, mB, trivial⟩ fun k hk => ?_; simp only at hk; refine hc_seq (hc_seq (hc_region (r_move rfl rfl ?_)))
    first | refine r_fieldAddr ⟨_, 7, none⟩ rfl rfl T.fa_api_Sales_2 rfl ?_ | refine r_fieldAddr _ rfl rfl T.fa_api_Sales_2 rfl ?_
    first | refine r_load rfl T.cell_L_api_Advert rfl (cell_own mB rfl) ?_ | refine r_load rfl T.cell_L_api_Advert rfl (cell_blk mB rfl) ?_ | refine r_load rfl T.cell_L_api_Advert rfl (cell_row mB (rows_get0 (by omega) rfl)) ?_ | refine r_load rfl T.cell_L_api_Advert rfl (cell_row_f mB (rows_get (by omega) rfl)) ?_ | refine r_load rfl T.cell_L_api_Advert rfl (cell_rowg mB rfl) ?_
    refine r_len_sl rfl T.u_L_api_Advert rfl ?_; refine r_lss rfl rfl rfl (hl_nil (then_n ?_))
    first | refine c_dec rfl (fun hb2 => ?_) (fun hb2 => ?_) | refine hc_cond rfl (fun hb2 => ?_) (fun hb2 => ?_)
    ·have hb2' := hb2; try simp at hb2'
     have hk2 : k < qs.l.length := by omega
     refine hc_skip (then_n (hc_seq (hc_block (hc_seq ?_)))); refine hc_draw 10 mixed (by decide) (by decide) rfl rfl ?_
     apply hb_ex _ rfl rfl rfl
     ·intro w1
      first | refine r_fieldAddr ⟨_, 7, none⟩ rfl rfl T.fa_api_Sales_2 rfl ?_ | refine r_fieldAddr _ rfl rfl T.fa_api_Sales_2 rfl ?_
      refine hl_nil ?_; exact qe_done rfl
     apply hb_ex _ rfl rfl rfl
     ·intro w1
      first | refine r_load rfl T.cell_L_api_Advert rfl (cell_blk mB rfl) ?_ | refine r_load rfl T.cell_L_api_Advert rfl (cell_own mB rfl) ?_ | refine r_load rfl T.cell_L_api_Advert rfl (cell_row mB (rows_get0 (by omega) rfl)) ?_ | refine r_load rfl T.cell_L_api_Advert rfl (cell_row_f mB (rows_get (by omega) rfl)) ?_ | refine r_load rfl T.cell_L_api_Advert rfl (cell_rowg mB rfl) ?_
      refine hl_nil ?_; exact qe_done rfl
     refine hb_ex _ rfl rfl rfl (fun w1 => r_move rfl rfl (hl_nil (qe_done rfl))) ?_; refine hb_ex _ rfl rfl rfl (fun w1 => r_elem (α := Ad) qs.l k rfl T.u_L_api_Advert T.sz_api_Advert rfl rfl rfl mB rfl (hk2) (by decide) (hl_nil (qe_done rfl))) ?_; refine hb_ex _ rfl rfl rfl (fun w1 => r_loadS rfl T.row_api_Advert T.sz_api_Advert rfl rfl (cells_row mB (rows_all (by omega))) (hl_nil (qe_done rfl))) ?_
     apply hb_ex _ rfl rfl rfl
     ·intro w1
      first | refine r_fieldAddr ⟨_, 7, none⟩ rfl rfl T.fa_api_Sales_2 rfl ?_ | refine r_fieldAddr _ rfl rfl T.fa_api_Sales_2 rfl ?_
      refine hl_nil ?_; exact qe_done rfl
     apply hb_ex _ rfl rfl rfl
     ·intro w1
      first | refine r_load rfl T.cell_L_api_Advert rfl (cell_blk mB rfl) ?_ | refine r_load rfl T.cell_L_api_Advert rfl (cell_own mB rfl) ?_ | refine r_load rfl T.cell_L_api_Advert rfl (cell_row mB (rows_get0 (by omega) rfl)) ?_ | refine r_load rfl T.cell_L_api_Advert rfl (cell_row_f mB (rows_get (by omega) rfl)) ?_ | refine r_load rfl T.cell_L_api_Advert rfl (cell_rowg mB rfl) ?_
      refine hl_nil ?_; exact qe_done rfl
     refine hb_ex _ rfl rfl rfl (fun w1 => r_move rfl rfl (hl_nil (qe_done rfl))) ?_; refine hb_ex _ rfl rfl rfl (fun w1 => r_elem (α := Ad) qs.l k rfl T.u_L_api_Advert T.sz_api_Advert rfl rfl rfl mB rfl (hk2) (by decide) (hl_nil (qe_done rfl))) ?_; refine hb_ex _ rfl rfl rfl (fun w1 => r_loadS rfl T.row_api_Advert T.sz_api_Advert rfl rfl (cells_row mB (rows_all (by omega))) (hl_nil (qe_done rfl))) ?_; refine hb_nil ⟨rfl, ?_⟩; refine r_bin _ rfl rfl rfl (fun _ => T.eqg_api_Advert ..) (fun _ => T.neq_api_Advert ..) ?_; refine hl_nil (then_n ?_)
     first | refine c_dec rfl (fun hb3 => ?_) (fun hb3 => ?_) | refine hc_cond rfl (fun hb3 => ?_) (fun hb3 => ?_)
     ·exact absurd rfl hb3
     ·have hb3' := hb3; try simp at hb3'
      refine hc_skip (inb_n (then_n (hc_region (r_move rfl rfl ?_)))); refine r_add _ rfl rfl rfl rfl (by unfold I64; omega) ?_; refine r_assign rfl rfl (hl_nil ?_); exact again _ (k + 1) (by show k + 1 ≤ qs.l.length; omega) (by show qs.l.length - (k + 1) < qs.l.length - k; omega) ⟨rfl, rfl, rfl, trivial⟩ (List.nil_sublist _) ⟨mB, mB, mB, mB, mB, mB, trivial⟩
    ·have hb2' := hb2; try simp at hb2'
     refine hc_exit (then_exit (then_exit (inb_hit (then_n (hc_seq (hc_region (r_assign rfl rfl (hl_nil (then_n (hc_ret ?_)))))))))); exact ret1 () rfl rfl rfl trivial (List.nil_sublist _) trivial
  ·intro hg2; have hg2' := hg2; try simp at hg2'
 ·intro hg1; have hg1' := hg1; try simp at hg1'
end Go.Proofs.YtdlbbfcfahahdaaGreat
end
section
namespace Go.Proofs.YtdlbbfcfahahdaaGreat
open Go Go.W
set_option maxRecDepth 20000
attribute [local irreducible] HL HC HQ HB Row Rows2 Blk Facts
def savL (c : Ch) (ss : List Int) (xs : List Ad) (k : Nat) : List Int := (List.range k).map fun i => sumN c xs i - bilN c ss xs i
theorem savL_succ (c : Ch) (ss : List Int) (xs : List Ad) (k : Nat) : savL c ss xs (k + 1) = savL c ss xs k ++ [sumN c xs k - bilN c ss xs k] := by
  unfold savL; rw [List.range_succ, List.map_append]; rfl
theorem savL_len (c : Ch) (ss : List Int) (xs : List Ad) (k : Nat) : (savL c ss xs k).length = k := by simp [savL]
theorem savL_all (c : Ch) (ss : List Int) (xs : List Ad) : savL c ss xs ss.length = numsN 57 c ss xs := List.map_congr_left fun i _ => (if_neg (by decide)).symm
theorem bills_len (c : Ch) (ss : List Int) (xs : List Ad) : (billsE c ss xs).1.length ≤ ss.length := by
  unfold billsE
  split
  · exact Nat.zero_le _
  · rw [nums_len]; exact Nat.le_refl _
theorem saved_len (c : Ch) (ss : List Int) (xs : List Ad) : (savedE c ss xs).1.length ≤ ss.length := by
  unfold savedE
  split
  · exact Nat.zero_le _
  · rw [nums_len]; exact Nat.le_refl _
theorem streets_len (c : Ch) (ss : List Int) (xs : List Ad) : (streetsE c ss xs).1.length ≤ 10 := by
  unfold streetsE
  split
  · exact Nat.zero_le _
  · exact discK_len ..
theorem ref09_Price_meets (c : Ch) (ps : Sl Int) (qs : Sl Ad) (i : Int) (hn : ps.l.length ≤ 1000000) (hm : qs.l.length ≤ 1000000) : Meets Tryz.prog F.ref09_Price [saV c ps qs, int i] { LI := saL ps qs, val := fun _ : Unit => .tuple #[int (priceE c ps.l qs.l i).1, int (priceE c ps.l qs.l i).2] } := by
 refine meets_intro F.ref09_Price_f rfl (Nat.le_of_ble_eq_true rfl) fun w0 => ?_; refine hc_seq (hc_region ?_); refine r_box rfl rfl fun gB => ?_; refine r_assign rfl rfl (r_assign rfl rfl (hl_nil (then_n (hc_seq (hc_seq (hc_letgoB (hc_region ?_)))))))
 first | refine r_loadA rfl T.row_api_Sales T.sz_api_Sales rfl mB (by rfl) ?_ | refine r_loadB rfl T.row_api_Sales T.sz_api_Sales rfl mB (by rfl) ?_ | refine r_loadS rfl T.row_api_Sales T.sz_api_Sales rfl rfl (cells_row mB (rows_all (by omega))) ?_
 refine hl_call F.ref09_Check_cb rfl rfl (ref09_Check_meets c ps qs hn hm) (List.Perm.refl _) ⟨mB, mB, trivial⟩ fun _ _ => ?_; refine r_assign rfl rfl (hl_nil (then_n (hc_seq (hc_region (r_move rfl rfl (r_neq rfl rfl rfl (hl_nil (then_n ?_))))))))
 first | refine c_dec rfl (fun hb1 => ?_) (fun hb1 => ?_) | refine hc_cond rfl (fun hb1 => ?_) (fun hb1 => ?_)
 ·have hb1' := hb1; try simp at hb1'
  refine hc_seq (hc_region (r_move rfl rfl (r_assign rfl rfl (r_assign rfl rfl (hl_nil (then_n (hc_ret (then_ret ?_)))))))); exact ret2 () rfl rfl rfl (by show Value.tuple #[int (priceE c ps.l qs.l i).1, int (priceE c ps.l qs.l i).2] = _; unfold priceE; rw [if_pos hb1]) rfl trivial (List.nil_sublist _) trivial
 ·have hb1' := hb1; try simp at hb1'
  have h0 : chkS c ps.l qs.l = 0 := Classical.not_not.1 hb1; have hsa := sa_ok h0; refine hc_skip (then_n (hc_seq (hc_seq (hc_region (r_move rfl rfl ?_)))))
  first | refine r_fieldAddr ⟨_, 7, none⟩ rfl rfl T.fa_api_Sales_2 rfl ?_ | refine r_fieldAddr _ rfl rfl T.fa_api_Sales_2 rfl ?_
  first | refine r_load rfl T.cell_L_api_Advert rfl (cell_own mB rfl) ?_ | refine r_load rfl T.cell_L_api_Advert rfl (cell_blk mB rfl) ?_ | refine r_load rfl T.cell_L_api_Advert rfl (cell_row mB (rows_get0 (by omega) rfl)) ?_ | refine r_load rfl T.cell_L_api_Advert rfl (cell_row_f mB (rows_get (by omega) rfl)) ?_ | refine r_load rfl T.cell_L_api_Advert rfl (cell_rowg mB rfl) ?_
  refine r_len_sl rfl T.u_L_api_Advert rfl ?_; refine r_sub _ rfl rfl rfl rfl (by unfold I64; omega) ?_; refine hl_call F.ref09_within_cb rfl rfl (ref09_within_meets _ _ _) (List.Perm.refl _) trivial fun _ _ => ?_; refine r_not rfl rfl (hl_nil (then_n ?_))
  first | refine c_dec rfl (fun hb2 => ?_) (fun hb2 => ?_) | refine hc_cond rfl (fun hb2 => ?_) (fun hb2 => ?_)
  ·have hb2' := hb2; try simp at hb2'
   refine hc_seq (hc_region (r_assign rfl rfl (r_assign rfl rfl (hl_nil (then_n (hc_ret (then_ret ?_))))))); exact ret2 () rfl rfl rfl (by show Value.tuple #[int (priceE c ps.l qs.l i).1, int (priceE c ps.l qs.l i).2] = _; unfold priceE; rw [if_neg hb1, if_pos (nbt hb2)]) rfl trivial (List.nil_sublist _) trivial
  ·have hb2' := hb2; try simp at hb2'
   have hi := nbf hb2; obtain ⟨k, rfl⟩ := Int.eq_ofNat_of_zero_le hi.1; have hk : k < qs.l.length := by omega
   have hxk := hsa.ad _ (getD_mem hk); refine hc_skip (then_n (hc_seq ?_)); refine hc_draw 7 mixed (by decide) (by decide) rfl rfl ?_
   apply hb_ex _ rfl rfl rfl
   ·intro w1
    first | refine r_fieldAddr ⟨_, 0, none⟩ rfl rfl T.fa_api_Sales_0 rfl ?_ | refine r_fieldAddr _ rfl rfl T.fa_api_Sales_0 rfl ?_
    refine hl_nil ?_; exact qe_done rfl
   refine hb_ex _ rfl rfl rfl (fun w1 => r_loadS (cs := [int c.1, int c.2.1, int c.2.2.1, int c.2.2.2.1, int c.2.2.2.2.1, int c.2.2.2.2.2]) rfl T.row_api_Charges T.sz_api_Charges rfl rfl (cells_blk (o := 0) mB (cells_pre rfl)) (hl_nil (qe_done rfl))) ?_
   apply hb_ex _ rfl rfl rfl
   ·intro w1
    first | refine r_fieldAddr ⟨_, 7, none⟩ rfl rfl T.fa_api_Sales_2 rfl ?_ | refine r_fieldAddr _ rfl rfl T.fa_api_Sales_2 rfl ?_
    refine hl_nil ?_; exact qe_done rfl
   apply hb_ex _ rfl rfl rfl
   ·intro w1
    first | refine r_load rfl T.cell_L_api_Advert rfl (cell_blk mB rfl) ?_ | refine r_load rfl T.cell_L_api_Advert rfl (cell_own mB rfl) ?_ | refine r_load rfl T.cell_L_api_Advert rfl (cell_row mB (rows_get0 (by omega) rfl)) ?_ | refine r_load rfl T.cell_L_api_Advert rfl (cell_row_f mB (rows_get (by omega) rfl)) ?_ | refine r_load rfl T.cell_L_api_Advert rfl (cell_rowg mB rfl) ?_
    refine hl_nil ?_; exact qe_done rfl
   refine hb_ex _ rfl rfl rfl (fun w1 => r_move rfl rfl (hl_nil (qe_done rfl))) ?_; refine hb_ex _ rfl rfl rfl (fun w1 => r_elem (α := Ad) qs.l k rfl T.u_L_api_Advert T.sz_api_Advert rfl rfl rfl mB rfl (hk) (by decide) (hl_nil (qe_done rfl))) ?_; refine hb_ex _ rfl rfl rfl (fun w1 => r_loadS rfl T.row_api_Advert T.sz_api_Advert rfl rfl (cells_row mB (rows_all (by omega))) (hl_nil (qe_done rfl))) ?_; refine hb_nil ⟨rfl, ?_⟩; refine hl_call F.ref09_price_cb rfl rfl (ref09_price_meets c (qs.l.getD k default) hsa.ch hxk.2.2) (List.Perm.refl _) trivial fun _ _ => ?_; refine r_assign rfl rfl (r_assign rfl rfl (hl_nil (then_n (hc_ret ?_)))); exact ret2 () rfl rfl rfl (by show Value.tuple #[int (priceE c ps.l qs.l (k : Int)).1, int (priceE c ps.l qs.l (k : Int)).2] = _; unfold priceE; rw [if_neg hb1, if_neg (Classical.not_not.2 hi), Int.toNat_natCast]) rfl trivial (List.nil_sublist _) trivial
theorem ref09_Saved_meets (c : Ch) (ps : Sl Int) (qs : Sl Ad) (hn : ps.l.length ≤ 1000000) (hm : qs.l.length ≤ 1000000) : Meets Tryz.prog F.ref09_Saved [saV c ps qs] { LI := saL ps qs, inv := fun x : OutC × Hp => Grow T.int 1 x.1.1 (savedE c ps.l qs.l).1.length x.1.2 (rows (savedE c ps.l qs.l).1) x.2, val := fun x => .tuple #[.slice x.1.1 (savedE c ps.l qs.l).1.length x.1.2, int (savedE c ps.l qs.l).2], hpO := fun x => x.2 } := by
 refine meets_intro F.ref09_Saved_f rfl (Nat.le_of_ble_eq_true rfl) fun w0 => ?_; refine hc_seq (hc_region ?_); refine r_box rfl rfl fun gB => ?_; refine r_assign rfl rfl (r_assign rfl rfl (hl_nil (then_n (hc_seq (hc_seq (hc_letgoB (hc_region ?_)))))))
 first | refine r_loadA rfl T.row_api_Sales T.sz_api_Sales rfl mB (by rfl) ?_ | refine r_loadB rfl T.row_api_Sales T.sz_api_Sales rfl mB (by rfl) ?_ | refine r_loadS rfl T.row_api_Sales T.sz_api_Sales rfl rfl (cells_row mB (rows_all (by omega))) ?_
 refine hl_call F.ref09_Check_cb rfl rfl (ref09_Check_meets c ps qs hn hm) (List.Perm.refl _) ⟨mB, mB, trivial⟩ fun _ _ => ?_; refine r_assign rfl rfl (hl_nil (then_n (hc_seq (hc_region (r_move rfl rfl (r_neq rfl rfl rfl (hl_nil (then_n ?_))))))))
 first | refine c_dec rfl (fun hb1 => ?_) (fun hb1 => ?_) | refine hc_cond rfl (fun hb1 => ?_) (fun hb1 => ?_)
 ·have hb1' := hb1; try simp at hb1'
  refine hc_seq (hc_region (r_move rfl rfl (r_assign rfl rfl (r_assign rfl rfl (hl_nil (then_n (hc_ret (then_ret ?_)))))))); have hE : (savedE c ps.l qs.l) = ([], chkS c ps.l qs.l) := by rw [savedE, if_pos hb1]
  exact ret2 ((none, 0), []) rfl rfl rfl (by show Value.tuple #[.slice none (savedE c ps.l qs.l).1.length 0, int (savedE c ps.l qs.l).2] = _; rw [hE]; rfl) rfl (by show Grow _ _ none (savedE c ps.l qs.l).1.length 0 (rows (savedE c ps.l qs.l).1) []; rw [hE]; exact Grow.nil _ _) (List.nil_sublist _) trivial
 ·have hb1' := hb1; try simp at hb1'
  have h0 : chkS c ps.l qs.l = 0 := Classical.not_not.1 hb1; have hsa := sa_ok h0; have hn5 := hsa.n5; have hx8 := hsa.x8; refine hc_skip (then_n (hc_seq (hc_region (r_assign rfl rfl (hl_nil (then_n (hc_seq (hc_seq (hc_region (r_assign rfl rfl (hl_nil ?_))))))))))); refine then_n (hc_block ?_); refine hc_loop (β := Nat × OutC × Hp) ⟨fun x => x.1 ≤ ps.l.length ∧ Grow T.int 1 x.2.1.1 (savL c ps.l qs.l x.1).length x.2.1.2 (rows (savL c ps.l qs.l x.1)) x.2.2, fun x => [(1, .pointer (some ⟨gB, 0, none⟩)), (5, .slice x.2.1.1 (savL c ps.l qs.l x.1).length x.2.1.2), (6, int x.1)], fun x => x.2.2, fun _ => Blk gB (.cells (saC c ps qs) T.api_Sales (0, 0)) :: saL ps qs⟩ (fun x => ps.l.length - x.1) (0, (none, 0), []) ⟨Nat.zero_le _, Grow.nil _ _⟩ ⟨rfl, rfl, rfl, trivial⟩ (List.nil_sublist _) ⟨mB, mB, mB, trivial⟩ fun x hx => ?_; obtain ⟨k, ⟨na, nc⟩, og⟩ := x; obtain ⟨hk, hG⟩ := hx; simp only at hk hG; have hll : (savL c ps.l qs.l k).length ≤ k := Nat.le_of_eq (savL_len ..); refine hc_seq (hc_seq (hc_region (r_move rfl rfl ?_)))
  first | refine r_fieldAddr ⟨_, 6, none⟩ rfl rfl T.fa_api_Sales_1 rfl ?_ | refine r_fieldAddr _ rfl rfl T.fa_api_Sales_1 rfl ?_
  first | refine r_load rfl T.cell_ints rfl (cell_own mB rfl) ?_ | refine r_load rfl T.cell_ints rfl (cell_blk mB rfl) ?_ | refine r_load rfl T.cell_ints rfl (cell_row mB (rows_get0 (by omega) rfl)) ?_ | refine r_load rfl T.cell_ints rfl (cell_row_f mB (rows_get (by omega) rfl)) ?_ | refine r_load rfl T.cell_ints rfl (cell_rowg mB rfl) ?_
  refine r_len_sl rfl T.u_ints rfl ?_; refine r_lss rfl rfl rfl (hl_nil (then_n ?_))
  first | refine c_dec rfl (fun hb2 => ?_) (fun hb2 => ?_) | refine hc_cond rfl (fun hb2 => ?_) (fun hb2 => ?_)
  ·have hb2' := hb2; try simp at hb2'
   have hk2 : k < ps.l.length := by omega
   have hbb := bil_bd hsa k; have hsk : sumN c qs.l k ≤ 48000 := hbb.2.2; refine hc_skip (then_n (hc_seq (hc_block ?_))); refine hc_drawW (og) ([]) (show List.Perm og (og ++ []) from by rw [List.append_nil]) 9 [] mixed (by decide) (by decide) (by decide) rfl rfl rfl ?_; refine hb_ex _ rfl rfl rfl (fun w1 => r_move rfl rfl (hl_nil (qe_done rfl))) ?_
   apply hb_ex _ rfl rfl rfl
   ·intro w1
    first | refine r_loadA rfl T.row_api_Sales T.sz_api_Sales rfl mB (by rfl) ?_ | refine r_loadB rfl T.row_api_Sales T.sz_api_Sales rfl mB (by rfl) ?_ | refine r_loadS rfl T.row_api_Sales T.sz_api_Sales rfl rfl (cells_row mB (rows_all (by omega))) ?_
    refine hl_nil ?_; exact qe_done rfl
   refine hb_ex _ rfl rfl rfl (fun w1 => r_move rfl rfl (hl_nil (qe_done rfl))) ?_; refine hb_ex _ rfl rfl rfl (fun w1 => hl_call F.ref09_Sum_cb rfl rfl (ref09_Sum_meets c ps qs k hsa) (List.Perm.refl _) ⟨mB, mB, trivial⟩ fun _ _ => (hl_nil (qe_done rfl))) ?_
   apply hb_ex _ rfl rfl rfl
   ·intro w1
    first | refine r_loadA rfl T.row_api_Sales T.sz_api_Sales rfl mB (by rfl) ?_ | refine r_loadB rfl T.row_api_Sales T.sz_api_Sales rfl mB (by rfl) ?_ | refine r_loadS rfl T.row_api_Sales T.sz_api_Sales rfl rfl (cells_row mB (rows_all (by omega))) ?_
    refine hl_nil ?_; exact qe_done rfl
   refine hb_ex _ rfl rfl rfl (fun w1 => r_move rfl rfl (hl_nil (qe_done rfl))) ?_; refine hb_ex _ rfl rfl rfl (fun w1 => hl_call F.ref09_Bill_cb rfl rfl (ref09_Bill_meets c ps qs k hk2 hsa) (List.Perm.refl _) ⟨mB, mB, trivial⟩ fun _ _ => (hl_nil (qe_done rfl))) ?_; refine hb_ex _ rfl rfl rfl (fun w1 => r_sub (sumN c qs.l k - bilN c ps.l qs.l k) rfl rfl rfl rfl (by unfold I64; omega) (hl_nil (qe_done rfl))) ?_; refine hb_vs ⟨Nat, fun _ => True, fun g => .slice (some ⟨g, 0, none⟩) 1 1, fun g => [Row (some ⟨g, 0, none⟩) (rows [(sumN c qs.l k - bilN c ps.l qs.l k)])]⟩ rfl rfl rfl ?_ ?_
   ·intro w1; refine r_buildSlice _ rfl rfl (fun _ => T.bs_ints_1 ..) fun gS => ?_; refine hl_nil ?_; refine hq_letgo (rows [(sumN c qs.l k - bilN c ps.l qs.l k)]) (List.prefix_refl _) ?_; exact qv_done gS trivial rfl ⟨m0, trivial⟩
   refine hb_nil ⟨rfl, ?_⟩; intro g8 _; refine r_append (hp' := []) ((savL c ps.l qs.l k).length + 1) (rows ((savL c ps.l qs.l k) ++ [(sumN c qs.l k - bilN c ps.l qs.l k)])) T.el_ints rfl rfl rfl hG (.refl _) (Src.row (news := rows [(sumN c qs.l k - bilN c ps.l qs.l k)]) (m := 1) mB rfl (rows_one _) (by decide)) rfl (rows_append _ _).symm (by unfold maxLen; omega) (by omega) fun A' c' og' hG' => ?_; refine r_assign rfl rfl (hl_nil (inb_n (then_n (hc_region (r_move rfl rfl ?_))))); refine r_add _ rfl rfl rfl rfl (by unfold I64; omega) ?_; refine r_assign rfl rfl (hl_nil ?_); have hs := savL_succ c ps.l qs.l k; have hs2 : (savL c ps.l qs.l (k + 1)).length = (savL c ps.l qs.l k).length + 1 := by rw [hs, List.length_append]; rfl
   refine hq_perm (hp' := og') (show List.Perm (og' ++ []) og' from by rw [List.append_nil]) ?_; exact again _ (k + 1, (A', c'), og') ⟨by show k + 1 ≤ ps.l.length; omega, by show Grow _ _ _ (savL c ps.l qs.l (k + 1)).length _ (rows (savL c ps.l qs.l (k + 1))) _; rw [hs2, hs]; exact hG'⟩ (by show ps.l.length - (k + 1) < ps.l.length - k; omega) ⟨rfl, congrArg (fun n => some (Value.slice A' n c')) hs2.symm, rfl, trivial⟩ (.refl _) ⟨mB, mB, mB, trivial⟩
  ·have hb2' := hb2; try simp at hb2'
   obtain rfl : k = ps.l.length := by omega
   refine hc_exit (then_exit (then_exit (inb_hit (then_n (hc_seq (hc_region (r_move rfl rfl (r_assign rfl rfl (r_assign rfl rfl (hl_nil (then_n ?_))))))))))); refine hc_ret ?_; have hE : (savedE c ps.l qs.l) = ((savL c ps.l qs.l ps.l.length), 0) := by rw [savedE, if_neg hb1, savL_all]
   exact ret2 ((na, nc), og) rfl rfl rfl (by show Value.tuple #[.slice na (savedE c ps.l qs.l).1.length nc, int (savedE c ps.l qs.l).2] = _; rw [hE]) rfl (by show Grow _ _ na (savedE c ps.l qs.l).1.length nc (rows (savedE c ps.l qs.l).1) og; rw [hE]; exact hG) (.refl _) trivial
theorem ref09_Streets_meets (c : Ch) (ps : Sl Int) (qs : Sl Ad) (hn : ps.l.length ≤ 1000000) (hm : qs.l.length ≤ 1000000) : Meets Tryz.prog F.ref09_Streets [saV c ps qs] { LI := saL ps qs, inv := fun x : OutC × Hp => Grow T.int 1 x.1.1 (streetsE c ps.l qs.l).1.length x.1.2 (rows (streetsE c ps.l qs.l).1) x.2, val := fun x => .tuple #[.slice x.1.1 (streetsE c ps.l qs.l).1.length x.1.2, int (streetsE c ps.l qs.l).2], hpO := fun x => x.2 } := by
 refine meets_intro F.ref09_Streets_f rfl (Nat.le_of_ble_eq_true rfl) fun w0 => ?_; refine hc_seq (hc_region ?_); refine r_box rfl rfl fun gB => ?_; refine r_assign rfl rfl (r_assign rfl rfl (hl_nil (then_n (hc_seq (hc_seq (hc_letgoB (hc_region ?_)))))))
 first | refine r_loadA rfl T.row_api_Sales T.sz_api_Sales rfl mB (by rfl) ?_ | refine r_loadB rfl T.row_api_Sales T.sz_api_Sales rfl mB (by rfl) ?_ | refine r_loadS rfl T.row_api_Sales T.sz_api_Sales rfl rfl (cells_row mB (rows_all (by omega))) ?_
 refine hl_call F.ref09_Check_cb rfl rfl (ref09_Check_meets c ps qs hn hm) (List.Perm.refl _) ⟨mB, mB, trivial⟩ fun _ _ => ?_; refine r_assign rfl rfl (hl_nil (then_n (hc_seq (hc_region (r_move rfl rfl (r_neq rfl rfl rfl (hl_nil (then_n ?_))))))))
 first | refine c_dec rfl (fun hb1 => ?_) (fun hb1 => ?_) | refine hc_cond rfl (fun hb1 => ?_) (fun hb1 => ?_)
 ·have hb1' := hb1; try simp at hb1'
  refine hc_seq (hc_region (r_move rfl rfl (r_assign rfl rfl (r_assign rfl rfl (hl_nil (then_n (hc_ret (then_ret ?_)))))))); have hE : (streetsE c ps.l qs.l) = ([], chkS c ps.l qs.l) := by rw [streetsE, if_pos hb1]
  exact ret2 ((none, 0), []) rfl rfl rfl (by show Value.tuple #[.slice none (streetsE c ps.l qs.l).1.length 0, int (streetsE c ps.l qs.l).2] = _; rw [hE]; rfl) rfl (by show Grow _ _ none (streetsE c ps.l qs.l).1.length 0 (rows (streetsE c ps.l qs.l).1) []; rw [hE]; exact Grow.nil _ _) (List.nil_sublist _) trivial
 ·have hb1' := hb1; try simp at hb1'
  have h0 : chkS c ps.l qs.l = 0 := Classical.not_not.1 hb1; have hsa := sa_ok h0; have hn5 := hsa.n5; have hx8 := hsa.x8; refine hc_skip (then_n (hc_seq (hc_region (r_assign rfl rfl (hl_nil (then_n (hc_seq (hc_seq (hc_region (r_assign rfl rfl (hl_nil ?_))))))))))); refine then_n (hc_block ?_); refine hc_loop (β := Nat × OutC × Hp) ⟨fun x => x.1 ≤ 10 ∧ Grow T.int 1 x.2.1.1 (discK c ps.l qs.l x.1).length x.2.1.2 (rows (discK c ps.l qs.l x.1)) x.2.2, fun x => [(1, .pointer (some ⟨gB, 0, none⟩)), (5, .slice x.2.1.1 (discK c ps.l qs.l x.1).length x.2.1.2), (6, int x.1)], fun x => x.2.2, fun _ => Blk gB (.cells (saC c ps qs) T.api_Sales (0, 0)) :: saL ps qs⟩ (fun x => 10 - x.1) (0, (none, 0), []) ⟨Nat.zero_le _, Grow.nil _ _⟩ ⟨rfl, rfl, rfl, trivial⟩ (List.nil_sublist _) ⟨mB, mB, mB, trivial⟩ fun x hx => ?_; obtain ⟨k, ⟨na, nc⟩, og⟩ := x; obtain ⟨hk, hG⟩ := hx; simp only at hk hG; have hll : (discK c ps.l qs.l k).length ≤ k := discK_len ..; refine hc_seq (hc_seq (hc_region (r_move rfl rfl (r_leq rfl rfl rfl (hl_nil (then_n ?_))))))
  first | refine c_dec rfl (fun hb2 => ?_) (fun hb2 => ?_) | refine hc_cond rfl (fun hb2 => ?_) (fun hb2 => ?_)
  ·have hb2' := hb2; try simp at hb2'
   have hk2 : k < 10 := by omega
   have hsuc := discK_succ c ps.l qs.l k; refine hc_skip (then_n (hc_seq (hc_block (hc_seq (hc_region ?_)))))
   first | refine r_loadA rfl T.row_api_Sales T.sz_api_Sales rfl mB (by rfl) ?_ | refine r_loadB rfl T.row_api_Sales T.sz_api_Sales rfl mB (by rfl) ?_ | refine r_loadS rfl T.row_api_Sales T.sz_api_Sales rfl rfl (cells_row mB (rows_all (by omega))) ?_
   refine r_move rfl rfl ?_; refine hl_call F.ref09_Off_cb rfl rfl (ref09_Off_meets c ps qs (k : Int) (by omega) (by omega)) (List.Perm.refl _) ⟨mB, mB, trivial⟩ fun _ _ => ?_; refine hl_nil (then_n ?_)
   first | refine c_dec rfl (fun hb3 => ?_) (fun hb3 => ?_) | refine hc_cond rfl (fun hb3 => ?_) (fun hb3 => ?_)
   ·have hb3' := hb3; try simp at hb3'
    rw [if_pos (show offB c ps.l qs.l (k : Int) = true from decide_eq_true hb3)] at hsuc; refine hc_region (r_move rfl rfl (r_move rfl rfl ?_)); refine r_buildSlice _ rfl rfl (fun _ => T.bs_ints_1 ..) fun gS => ?_; refine hl_letgo (rows [(k : Int)]) (List.prefix_refl _) ?_; refine r_append (hp' := []) ((discK c ps.l qs.l k).length + 1) (rows ((discK c ps.l qs.l k) ++ [(k : Int)])) T.el_ints rfl rfl rfl hG (show List.Perm og (og ++ []) from by rw [List.append_nil]) (Src.row (news := rows [(k : Int)]) (m := 1) mB rfl (rows_one _) (by decide)) rfl (rows_append _ _).symm (by unfold maxLen; omega) (by omega) fun A' c' og' hG' => ?_; refine r_assign rfl rfl (hl_nil (inb_n (then_n (hc_region (r_move rfl rfl ?_))))); refine r_add _ rfl rfl rfl rfl (by unfold I64; omega) ?_; refine r_assign rfl rfl (hl_nil ?_); have hs := hsuc; have hs2 : (discK c ps.l qs.l (k + 1)).length = (discK c ps.l qs.l k).length + 1 := by rw [hs, List.length_append]; rfl
    refine hq_perm (hp' := og') (show List.Perm (og' ++ []) og' from by rw [List.append_nil]) ?_; exact again _ (k + 1, (A', c'), og') ⟨by show k + 1 ≤ 10; omega, by show Grow _ _ _ (discK c ps.l qs.l (k + 1)).length _ (rows (discK c ps.l qs.l (k + 1))) _; rw [hs2, hs]; exact hG'⟩ (by show 10 - (k + 1) < 10 - k; omega) ⟨rfl, congrArg (fun n => some (Value.slice A' n c')) hs2.symm, rfl, trivial⟩ (.refl _) ⟨mB, mB, mB, trivial⟩
   ·have hb3' := hb3; try simp at hb3'
    rw [if_neg (show ¬ offB c ps.l qs.l (k : Int) = true from fun e => hb3 (of_decide_eq_true e))] at hsuc; refine hc_skip (inb_n (then_n (hc_region (r_move rfl rfl ?_)))); refine r_add _ rfl rfl rfl rfl (by unfold I64; omega) ?_; refine r_assign rfl rfl (hl_nil ?_); exact again _ (k + 1, (na, nc), og) ⟨by show k + 1 ≤ 10; omega, by show Grow _ _ _ (discK c ps.l qs.l (k + 1)).length _ (rows (discK c ps.l qs.l (k + 1))) _; rw [hsuc]; exact hG⟩ (by show 10 - (k + 1) < 10 - k; omega) ⟨rfl, congrArg (fun l : List Int => some (Value.slice na l.length nc)) hsuc.symm, rfl, trivial⟩ (.refl _) ⟨mB, mB, mB, trivial⟩
  ·have hb2' := hb2; try simp at hb2'
   obtain rfl : k = 10 := by omega
   refine hc_exit (then_exit (then_exit (inb_hit (then_n (hc_seq (hc_region (r_move rfl rfl (r_assign rfl rfl (r_assign rfl rfl (hl_nil (then_n ?_))))))))))); refine hc_ret ?_; have hE : (streetsE c ps.l qs.l) = ((discK c ps.l qs.l 10), 0) := by rw [streetsE, if_neg hb1]
   exact ret2 ((na, nc), og) rfl rfl rfl (by show Value.tuple #[.slice na (streetsE c ps.l qs.l).1.length nc, int (streetsE c ps.l qs.l).2] = _; rw [hE]) rfl (by show Grow _ _ na (streetsE c ps.l qs.l).1.length nc (rows (streetsE c ps.l qs.l).1) og; rw [hE]; exact hG) (.refl _) trivial
theorem law09_BoldBills_meets {A : Option Addr} {cn : Nat} (d0 : Sx) (ad : Int) (nums : List Int) (hn : nums.length ≤ 9223372036854775807) : Meets Tryz.prog F.law09_BoldBills [saV d0.1 d0.2.1 d0.2.2, int ad, .slice A nums.length cn] { LI := [Row d0.2.1.a (rows d0.2.1.l), Row d0.2.2.a (rows d0.2.2.l), Row A (rows nums)], val := fun _ : Unit => .bool true } := by
 refine meets_intro F.law09_BoldBills_f rfl (Nat.le_of_ble_eq_true rfl) fun w0 => ?_; refine hc_seq (hc_region ?_); refine r_box rfl rfl fun gB => ?_; refine r_assign rfl rfl (hl_nil (then_n (hc_seq (hc_seq (hc_letgoB (hc_region ?_))))))
 first | refine r_loadA rfl T.row_api_Sales T.sz_api_Sales rfl mB (by rfl) ?_ | refine r_loadB rfl T.row_api_Sales T.sz_api_Sales rfl mB (by rfl) ?_ | refine r_loadS rfl T.row_api_Sales T.sz_api_Sales rfl rfl (cells_row mB (rows_all (by omega))) ?_
 refine hl_call F.law09_large_cb rfl rfl (law09_large_meets d0.1 d0.2.1 d0.2.2) (List.Perm.refl _) ⟨mB, mB, trivial⟩ fun _ _ => ?_; refine hl_nil (then_n ?_)
 first | refine c_dec rfl (fun hb1 => ?_) (fun hb1 => ?_) | refine hc_cond rfl (fun hb1 => ?_) (fun hb1 => ?_)
 ·have hb1' := hb1; try simp at hb1'
  refine hc_seq (hc_region ?_); refine hl_call F.law09_paying_cb rfl rfl (law09_paying_meets) (List.Perm.refl _) trivial fun _ _ => ?_; refine r_assign rfl rfl (hl_nil (then_n (hc_ret (then_ret ?_)))); exact ret1 () rfl rfl rfl trivial (List.nil_sublist _) trivial
 ·have hb1' := hb1; try simp at hb1'
  refine hc_skip (then_n (hc_seq (hc_region (r_move rfl rfl ?_)))); refine hl_call F.kit_NewDice_cb rfl rfl (kit_NewDice_meets nums) (List.Perm.refl _) ⟨mB, trivial⟩ fun g _ => ?_; refine r_assign rfl rfl (hl_nil (then_n (hc_seq (hc_region (r_move rfl rfl ?_))))); refine hl_call F.kit_SalesOf_cb rfl rfl (kit_SalesOf_meets 8 hn (dok0 nums) (by decide)) (List.Perm.refl _) ⟨mB, trivial⟩ fun xs1 hs1 => ?_; obtain ⟨s1, sz⟩ := xs1; obtain ⟨hs1, hsz⟩ := hs1; simp only at hs1; obtain ⟨c, ps, qs⟩ := sz; have h0 : chkS c ps.l qs.l = 0 := hsz.ok; have hqm : qs.l.length ≤ 8 := hsz.x8; have hpc : ps.l.length ≤ ps.c := hsz.ca; have hqc : qs.l.length ≤ qs.c := hsz.cb; have hsa := sa_ok h0; have hn1 := hsa.n1; have hn5 := hsa.n5; have hqx := hsa.x8; have hpl : ps.l.length ≤ 1000000 := by omega
  have hql : qs.l.length ≤ 1000000 := by omega
  clear hsz; refine r_alloc rfl (fun _ => T.al_api_Sales _) fun gS => ?_; refine r_storeS (cs := saC c ps qs) rfl rfl (.refl _) T.sz_api_Sales (by rfl) (by rfl) ?_; refine hl_nil (then_n (hc_seq (hc_letgoB ?_))); refine hc_drawW ([dice g A cn nums s1]) ([]) (.refl _) 13 [9] mixed (by decide) (by decide) (by decide) rfl rfl rfl ?_
  apply hb_ex _ rfl rfl rfl
  ·intro w1
   first | refine r_loadA rfl T.row_api_Sales T.sz_api_Sales rfl mB (by rfl) ?_ | refine r_loadB rfl T.row_api_Sales T.sz_api_Sales rfl mB (by rfl) ?_ | refine r_loadS rfl T.row_api_Sales T.sz_api_Sales rfl rfl (cells_row mB (rows_all (by omega))) ?_
   refine hl_nil ?_; exact qe_done rfl
  apply hb_ex _ rfl rfl rfl
  ·intro w1
   first | refine r_loadA rfl T.row_api_Sales T.sz_api_Sales rfl mB (by rfl) ?_ | refine r_loadB rfl T.row_api_Sales T.sz_api_Sales rfl mB (by rfl) ?_ | refine r_loadS rfl T.row_api_Sales T.sz_api_Sales rfl rfl (cells_row mB (rows_all (by omega))) ?_
   refine hl_nil ?_; exact qe_done rfl
  apply hb_ex _ rfl rfl rfl
  ·intro w1
   first | refine r_loadA rfl T.row_api_Sales T.sz_api_Sales rfl mB (by rfl) ?_ | refine r_loadB rfl T.row_api_Sales T.sz_api_Sales rfl mB (by rfl) ?_ | refine r_loadS rfl T.row_api_Sales T.sz_api_Sales rfl rfl (cells_row mB (rows_all (by omega))) ?_
   refine hl_nil ?_; exact qe_done rfl
  refine hb_vs ⟨Nat, fun _ => True, fun g => .slice (some ⟨g, 0, none⟩) 3 3, fun g => [Row (some ⟨g, 0, none⟩) (rows ([d0, (c, ps, qs), (c, ps, qs)] : List Sx))]⟩ rfl rfl rfl ?_ ?_
  ·intro w1; refine r_buildSlice _ rfl rfl (fun _ => T.bs_L_api_Sales_3 ..) fun gL => ?_; refine hl_nil ?_; refine hq_letgo (rows ([d0, (c, ps, qs), (c, ps, qs)] : List Sx)) (List.prefix_refl _) ?_; exact qv_done gL trivial rfl ⟨m0, trivial⟩
  refine hb_ex _ rfl rfl rfl (fun w1 => r_move rfl rfl (hl_nil (qe_done rfl))) ?_; refine hb_ex _ rfl rfl rfl (fun w1 => r_move rfl rfl (hl_nil (qe_done rfl))) ?_
  apply hb_ex _ rfl rfl rfl
  ·intro w1
   first | refine r_fieldAddr ⟨_, 7, none⟩ rfl rfl T.fa_api_Sales_2 rfl ?_ | refine r_fieldAddr _ rfl rfl T.fa_api_Sales_2 rfl ?_
   refine hl_nil ?_; exact qe_done rfl
  apply hb_ex _ rfl rfl rfl
  ·intro w1
   first | refine r_load rfl T.cell_L_api_Advert rfl (cell_blk mB rfl) ?_ | refine r_load rfl T.cell_L_api_Advert rfl (cell_own mB rfl) ?_ | refine r_load rfl T.cell_L_api_Advert rfl (cell_row mB (rows_get0 (by omega) rfl)) ?_ | refine r_load rfl T.cell_L_api_Advert rfl (cell_row_f mB (rows_get (by omega) rfl)) ?_ | refine r_load rfl T.cell_L_api_Advert rfl (cell_rowg mB rfl) ?_
   refine hl_nil ?_; exact qe_done rfl
  refine hb_ex _ rfl rfl rfl (fun w1 => r_len_sl rfl T.u_L_api_Advert rfl (hl_nil (qe_done rfl))) ?_; refine hb_wr ⟨(Int × Int) × Int, fun x => DOK nums x.1, fun x => int x.2, fun _ => [], fun x => [dice g A cn nums x.1]⟩ rfl rfl rfl ?_ ?_
  ·intro w1; refine hl_call F.kit_Dice_To_cb rfl rfl (kit_Dice_To_meets ((qs.l.length : Int)) hn hs1 (by omega)) (List.Perm.refl _) ⟨mB, trivial⟩ fun xs2 hs2 => ?_; obtain ⟨s2, z⟩ := xs2; obtain ⟨hs2, hz⟩ := hs2; simp only at hs2; have hz : 0 ≤ z ∧ z ≤ (qs.l.length : Int) := to_bd hz (by omega); refine hl_nil ?_; exact qw_done (s2, z) hs2 (fun _ => rfl) (List.Sublist.refl _) trivial
  refine hb_ex _ rfl rfl rfl (fun w1 => r_move rfl rfl (hl_nil (qe_done rfl))) ?_; refine hb_vs ⟨Nat × List Int, fun x => x.2.length = 3, fun x => .slice (some ⟨x.1, 0, none⟩) 3 3, fun x => [Row (some ⟨x.1, 0, none⟩) (rows x.2)]⟩ rfl rfl rfl ?_ ?_
  ·intro y9 hy9; intro w1; refine r_buildSlice _ rfl rfl (fun _ => T.bs_ints_3 ..) fun gI => ?_; refine hl_nil ?_; refine hq_letgo (rows ([ad, y9.2, ad] : List Int)) (List.prefix_refl _) ?_; exact qv_done (gI, ([ad, y9.2, ad] : List Int)) rfl rfl ⟨m0, trivial⟩
  refine hb_vs ⟨Nat, fun _ => True, fun g => .slice (some ⟨g, 0, none⟩) 3 3, fun g => [Row (some ⟨g, 0, none⟩) (rows ([d0, (c, ps, qs), (c, ps, qs)] : List Sx))]⟩ rfl rfl rfl ?_ ?_
  ·intro x hx; intro w1; refine r_assign rfl rfl (hl_nil ?_); exact qv_done x hx rfl ⟨mB, trivial⟩
  refine hb_nil ⟨rfl, ?_⟩; intro _ _ _ _ xi hil3 gL _; obtain ⟨gI, il⟩ := xi; simp only at hil3; refine r_assign rfl rfl (hl_nil (then_n (hc_seq (hc_seq ?_)))); refine hc_facts (Fs := [Row d0.2.1.a (rows d0.2.1.l), Row d0.2.2.a (rows d0.2.2.l)]) (by intro F hF; simp only [List.mem_cons, List.not_mem_nil, or_false] at hF; rcases hF with rfl | rfl; exact .inl mB; exact .inl mB) ?_; refine hc_facts (Fs := [Row ps.a (rows ps.l), Row qs.a (rows qs.l)]) (by intro F hF; simp only [List.mem_cons, List.not_mem_nil, or_false] at hF; rcases hF with rfl | rfl; exact .inl mB; exact .inl mB) ?_; refine hc_facts (Fs := ([d0, (c, ps, qs), (c, ps, qs)] : List Sx).map Sx.row) (by intro F hF; simp only [List.map_cons, List.map_nil, List.mem_cons, List.not_mem_nil, or_false] at hF; rcases hF with rfl | rfl | rfl <;> exact .inl mB) ?_; refine hc_rowsF (A := some ⟨gL, 0, none⟩) (ps := ([d0, (c, ps, qs), (c, ps, qs)] : List Sx)) (f := Sx.row) mB mB ?_; obtain ⟨dl, hdl⟩ : ∃ dl : List Sx, dl = ([d0, (c, ps, qs), (c, ps, qs)] : List Sx) := ⟨_, rfl⟩; rw [← hdl]; have hdl3 : dl.length = 3 := by rw [hdl]; rfl
  have hdal : ∀ d ∈ dl, d.2.1.l.length ≤ 1000000 ∧ d.2.2.l.length ≤ 1000000 := by rw [hdl]; intro d hd; simp only [List.mem_cons, List.not_mem_nil, or_false] at hd; rcases hd with rfl | rfl | rfl; exact ⟨by omega, by omega⟩; exact ⟨hpl, hql⟩; exact ⟨hpl, hql⟩
  refine hc_region (r_assign rfl rfl (hl_nil (then_n (hc_block ?_)))); refine hc_loop (β := Nat) ⟨fun i => i ≤ 3, fun i => [(9, .slice (some ⟨gL, 0, none⟩) 3 3), (10, .slice (some ⟨gI, 0, none⟩) 3 3), (11, int i)], fun _ => [], fun _ => [Row (some ⟨gL, 0, none⟩) (rows dl), RowsF (some ⟨gL, 0, none⟩) dl Sx.row, Row (some ⟨gI, 0, none⟩) (rows il)]⟩ (fun i => 3 - i) 0 (Nat.zero_le _) ⟨rfl, rfl, rfl, trivial⟩ (List.nil_sublist _) ⟨mB, mB, mB, trivial⟩ fun i hi => ?_; simp only at hi; refine hc_seq (hc_seq (hc_region (r_move rfl rfl (r_move rfl rfl ?_)))); refine r_len_sl rfl T.u_L_api_Sales rfl ?_; refine r_lss rfl rfl rfl (hl_nil (then_n ?_))
  first | refine c_dec rfl (fun hb2 => ?_) (fun hb2 => ?_) | refine hc_cond rfl (fun hb2 => ?_) (fun hb2 => ?_)
  ·have hb2' := hb2; try simp at hb2'
   have hi2 : i < 3 := by omega
   obtain ⟨d, hdd⟩ : ∃ d, d = dl.getD i default := ⟨_, rfl⟩; have hdm : d ∈ dl := by rw [hdd]; exact getD_mem (by omega)
   obtain ⟨hd1, hd2⟩ := hdal d hdm; refine hc_innerF (p := d) (f := Sx.row) (ps := dl) mB hdm ?_; refine hc_pick (F := Row d.2.1.a (rows d.2.1.l)) (Fs := [Row d.2.1.a (rows d.2.1.l), Row d.2.2.a (rows d.2.2.l)]) mB (by simp) ?_; refine hc_pick (F := Row d.2.2.a (rows d.2.2.l)) (Fs := [Row d.2.1.a (rows d.2.1.l), Row d.2.2.a (rows d.2.2.l)]) mB (by simp) ?_; have hbl := bills_len d.1 d.2.1.l d.2.2.l; have hsl := saved_len d.1 d.2.1.l d.2.2.l; have htl := streets_len d.1 d.2.1.l d.2.2.l; refine hc_skip (then_n (hc_seq (hc_block (hc_seq (hc_region (r_move rfl rfl (r_move rfl rfl ?_))))))); refine r_elem (α := Sx) dl i rfl T.u_L_api_Sales T.sz_api_Sales rfl rfl rfl mB hdl3.symm (by omega) (by decide) ?_; refine r_loadS (cs := El.cells d) rfl T.row_api_Sales T.sz_api_Sales rfl rfl (cells_row mB (by rw [hdd]; exact rows_all (by omega))) ?_; refine hl_call F.kit_DupSales_cb rfl rfl (kit_DupSales_meets d.1 d.2.1 d.2.2 hd1 hd2) (List.Perm.refl _) ⟨mB, mB, trivial⟩ fun z hz => ?_; obtain ⟨⟨⟨pA, pC⟩, po⟩, ⟨⟨qA, qC⟩, qo⟩⟩ := z; obtain ⟨hpa, hqa⟩ := hz; change Grow T.int 1 pA d.2.1.l.length pC (rows d.2.1.l) po at hpa; change GrowE T.api_Advert 3 qA d.2.2.l.length qC (rows d.2.2.l) qo at hqa; refine hl_perm (show List.Perm ((po ++ qo) ++ []) (po ++ (qo ++ [])) from (perm_of fun p => by simp only [List.countP_append, List.countP_cons, List.countP_nil]; omega)) ?_; refine r_alloc rfl (fun _ => T.al_api_Sales _) fun gA => ?_; refine r_storeS (cs := saC d.1 ⟨pA, pC, d.2.1.l⟩ ⟨qA, qC, d.2.2.l⟩) rfl rfl (.refl _) T.sz_api_Sales (by rfl) (by rfl) ?_; refine hl_nil (then_n (hc_seq (hc_letgoB (hc_grown hpa (hc_grownE hqa ?_))))); refine hc_draw 10 mixed (by decide) (by decide) rfl rfl ?_
   apply hb_ex _ rfl rfl rfl
   ·intro w1
    first | refine r_loadA rfl T.row_api_Sales T.sz_api_Sales rfl mB (by rfl) ?_ | refine r_loadB rfl T.row_api_Sales T.sz_api_Sales rfl mB (by rfl) ?_ | refine r_loadS rfl T.row_api_Sales T.sz_api_Sales rfl rfl (cells_row mB (rows_all (by omega))) ?_
    refine hl_nil ?_; exact qe_done rfl
   refine hb_ex _ rfl rfl rfl (fun w1 => r_move rfl rfl (hl_nil (qe_done rfl))) ?_; refine hb_ex _ rfl rfl rfl (fun w1 => r_move rfl rfl (hl_nil (qe_done rfl))) ?_; refine hb_ex _ rfl rfl rfl (fun w1 => r_elem (α := Int) il i rfl T.u_ints T.sz_int rfl rfl rfl mB hil3.symm (by omega) (by decide) (hl_nil (qe_done rfl))) ?_; refine hb_ex _ rfl rfl rfl (fun w1 => r_load (v := int (il.getD i default)) rfl T.cell_int rfl (cell_row mB (rows_get0 (by omega) rfl)) (hl_nil (qe_done rfl))) ?_; refine hb_ex _ rfl rfl rfl (fun w1 => hl_call F.bold_Price_cb rfl rfl (bold_Price_meets d.1 ⟨pA, pC, d.2.1.l⟩ ⟨qA, qC, d.2.2.l⟩ (il.getD i default) hd1 hd2) (List.Perm.refl _) ⟨mB, mB, trivial⟩ fun _ _ => (hl_nil (qe_done rfl))) ?_; refine hb_ex _ rfl rfl rfl (fun w1 => r_move rfl rfl (hl_nil (qe_done rfl))) ?_; refine hb_ex _ rfl rfl rfl (fun w1 => r_extract rfl rfl rfl (hl_nil (qe_done rfl))) ?_; refine hb_ex _ rfl rfl rfl (fun w1 => r_extract rfl rfl rfl (hl_nil (qe_done rfl))) ?_; refine hb_ex _ rfl rfl rfl (fun w1 => r_assign rfl rfl (hl_nil (qe_done rfl))) ?_; refine hb_nil ⟨rfl, ?_⟩; refine r_assign rfl rfl (hl_nil (then_n (hc_seq ?_))); refine hc_draw 13 mixed (by decide) (by decide) rfl rfl ?_; refine hb_ex _ rfl rfl rfl (fun w1 => r_move rfl rfl (hl_nil (qe_done rfl))) ?_; refine hb_ex _ rfl rfl rfl (fun w1 => r_move rfl rfl (hl_nil (qe_done rfl))) ?_; refine hb_ex _ rfl rfl rfl (fun w1 => r_elem (α := Sx) dl i rfl T.u_L_api_Sales T.sz_api_Sales rfl rfl rfl mB hdl3.symm (by omega) (by decide) (hl_nil (qe_done rfl))) ?_; refine hb_ex _ rfl rfl rfl (fun w1 => r_loadS (cs := El.cells d) rfl T.row_api_Sales T.sz_api_Sales rfl rfl (cells_row mB (by rw [hdd]; exact rows_all (by omega))) (hl_nil (qe_done rfl))) ?_; refine hb_ex _ rfl rfl rfl (fun w1 => r_move rfl rfl (hl_nil (qe_done rfl))) ?_; refine hb_ex _ rfl rfl rfl (fun w1 => r_move rfl rfl (hl_nil (qe_done rfl))) ?_; refine hb_ex _ rfl rfl rfl (fun w1 => r_elem (α := Int) il i rfl T.u_ints T.sz_int rfl rfl rfl mB hil3.symm (by omega) (by decide) (hl_nil (qe_done rfl))) ?_; refine hb_ex _ rfl rfl rfl (fun w1 => r_load (v := int (il.getD i default)) rfl T.cell_int rfl (cell_row mB (rows_get0 (by omega) rfl)) (hl_nil (qe_done rfl))) ?_; refine hb_ex _ rfl rfl rfl (fun w1 => hl_call F.ref09_Price_cb rfl rfl (ref09_Price_meets d.1 d.2.1 d.2.2 (il.getD i default) hd1 hd2) (List.Perm.refl _) ⟨mB, mB, trivial⟩ fun _ _ => (hl_nil (qe_done rfl))) ?_; refine hb_ex _ rfl rfl rfl (fun w1 => r_move rfl rfl (hl_nil (qe_done rfl))) ?_; refine hb_ex _ rfl rfl rfl (fun w1 => r_extract rfl rfl rfl (hl_nil (qe_done rfl))) ?_; refine hb_ex _ rfl rfl rfl (fun w1 => r_extract rfl rfl rfl (hl_nil (qe_done rfl))) ?_; refine hb_ex _ rfl rfl rfl (fun w1 => r_assign rfl rfl (hl_nil (qe_done rfl))) ?_; refine hb_nil ⟨rfl, ?_⟩; refine r_assign rfl rfl (hl_nil (then_n (hc_seq (hc_region ?_))))
   first | refine r_loadA rfl T.row_api_Sales T.sz_api_Sales rfl mB (by rfl) ?_ | refine r_loadB rfl T.row_api_Sales T.sz_api_Sales rfl mB (by rfl) ?_ | refine r_loadS rfl T.row_api_Sales T.sz_api_Sales rfl rfl (cells_row mB (rows_all (by omega))) ?_
   refine hl_call F.bold_Bills_cb rfl rfl (bold_Bills_meets d.1 ⟨pA, pC, d.2.1.l⟩ ⟨qA, qC, d.2.2.l⟩ hd1 hd2) (List.Perm.refl _) ⟨mB, mB, trivial⟩ fun y _ => ?_; obtain ⟨a1, c1⟩ := y; refine r_move rfl rfl (r_extract rfl rfl rfl (r_extract rfl rfl rfl (r_assign rfl rfl (r_assign rfl rfl (hl_nil (then_n (hc_seq (hc_region (r_move rfl rfl (r_move rfl rfl ?_)))))))))); refine r_elem (α := Sx) dl i rfl T.u_L_api_Sales T.sz_api_Sales rfl rfl rfl mB hdl3.symm (by omega) (by decide) ?_; refine r_loadS (cs := El.cells d) rfl T.row_api_Sales T.sz_api_Sales rfl rfl (cells_row mB (by rw [hdd]; exact rows_all (by omega))) ?_; refine hl_call F.ref09_Bills_cb rfl rfl (ref09_Bills_meets d.1 d.2.1 d.2.2 hd1 hd2) (List.Perm.refl _) ⟨mB, mB, trivial⟩ fun y hy => ?_; obtain ⟨⟨a2, c2⟩, o2⟩ := y; have h2 : Grow T.int 1 a2 (billsE d.1 d.2.1.l d.2.2.l).1.length c2 (rows (billsE d.1 d.2.1.l d.2.2.l).1) o2 := hy; clear hy; refine hl_grown h2 (r_move rfl rfl (r_extract rfl rfl rfl (r_extract rfl rfl rfl (r_assign rfl rfl (r_assign rfl rfl (hl_nil (then_n (hc_seq (hc_seq ?_))))))))); refine hc_draw 26 mixed (by decide) (by decide) rfl rfl ?_
   apply hb_ex _ rfl rfl rfl
   ·intro w1
    first | refine r_loadA rfl T.row_api_Sales T.sz_api_Sales rfl mB (by rfl) ?_ | refine r_loadB rfl T.row_api_Sales T.sz_api_Sales rfl mB (by rfl) ?_ | refine r_loadS rfl T.row_api_Sales T.sz_api_Sales rfl rfl (cells_row mB (rows_all (by omega))) ?_
    refine hl_nil ?_; exact qe_done rfl
   refine hb_ex _ rfl rfl rfl (fun w1 => hl_call F.bold_Check_cb rfl rfl (bold_Check_meets d.1 ⟨pA, pC, d.2.1.l⟩ ⟨qA, qC, d.2.2.l⟩ hd1 hd2) (List.Perm.refl _) ⟨mB, mB, trivial⟩ fun _ _ => (hl_nil (qe_done rfl))) ?_; refine hb_ex _ rfl rfl rfl (fun w1 => r_move rfl rfl (hl_nil (qe_done rfl))) ?_; refine hb_ex _ rfl rfl rfl (fun w1 => r_move rfl rfl (hl_nil (qe_done rfl))) ?_; refine hb_ex _ rfl rfl rfl (fun w1 => r_elem (α := Sx) dl i rfl T.u_L_api_Sales T.sz_api_Sales rfl rfl rfl mB hdl3.symm (by omega) (by decide) (hl_nil (qe_done rfl))) ?_; refine hb_ex _ rfl rfl rfl (fun w1 => r_loadS (cs := El.cells d) rfl T.row_api_Sales T.sz_api_Sales rfl rfl (cells_row mB (by rw [hdd]; exact rows_all (by omega))) (hl_nil (qe_done rfl))) ?_; refine hb_ex _ rfl rfl rfl (fun w1 => hl_call F.ref09_Check_cb rfl rfl (ref09_Check_meets d.1 d.2.1 d.2.2 hd1 hd2) (List.Perm.refl _) ⟨mB, mB, trivial⟩ fun _ _ => (hl_nil (qe_done rfl))) ?_; refine hb_ex _ rfl rfl rfl (fun w1 => r_neq rfl rfl rfl (hl_nil (qe_done rfl))) ?_; refine hb_ex _ rfl rfl rfl (fun w1 => r_move rfl rfl (hl_nil (qe_done rfl))) ?_; refine hb_split (t := 95) (want := false) rfl ?_ ?_
   ·intro hg1; have hg1' := hg1; try simp at hg1'
    apply hb_ex _ rfl rfl rfl
    ·intro w1; refine g_yes rfl rfl hg1 (r_move rfl rfl (hl_nil ?_)); exact qe_done rfl
    apply hb_ex _ rfl rfl rfl
    ·intro w1; refine g_yes rfl rfl hg1 (r_move rfl rfl (hl_nil ?_)); exact qe_done rfl
    apply hb_ex _ rfl rfl rfl
    ·intro w1; refine g_yes rfl rfl hg1 (r_neq rfl rfl rfl (hl_nil ?_)); exact qe_done rfl
    refine hb_ex _ rfl rfl rfl (fun w1 => p_f rfl rfl (bf1 hg1) rfl (hl_nil (qe_done rfl))) ?_; refine hb_ex _ rfl rfl rfl (fun w1 => r_move rfl rfl (hl_nil (qe_done rfl))) ?_; refine hb_split (t := 100) (want := false) rfl ?_ ?_
    ·intro hg2; have hg2' := hg2; try simp at hg2'
     apply hb_ex _ rfl rfl rfl
     ·intro w1; refine g_yes rfl rfl hg2 (r_move rfl rfl (hl_nil ?_)); exact qe_done rfl
     apply hb_ex _ rfl rfl rfl
     ·intro w1; refine g_yes rfl rfl hg2 (r_move rfl rfl (hl_nil ?_)); exact qe_done rfl
     apply hb_ex _ rfl rfl rfl
     ·intro w1; refine g_yes rfl rfl hg2 (r_neq rfl rfl rfl (hl_nil ?_)); exact qe_done rfl
     refine hb_ex _ rfl rfl rfl (fun w1 => p_f rfl rfl (bf1 hg2) rfl (hl_nil (qe_done rfl))) ?_; refine hb_ex _ rfl rfl rfl (fun w1 => r_move rfl rfl (hl_nil (qe_done rfl))) ?_; refine hb_split (t := 105) (want := false) rfl ?_ ?_
     ·intro hg3; have hg3' := hg3; try simp at hg3'
      apply hb_ex _ rfl rfl rfl
      ·intro w1; refine g_yes rfl rfl hg3 (r_move rfl rfl (hl_nil ?_)); exact qe_done rfl
      apply hb_ex _ rfl rfl rfl
      ·intro w1; refine g_yes rfl rfl hg3 (r_move rfl rfl (hl_nil ?_)); exact qe_done rfl
      apply hb_ex _ rfl rfl rfl
      ·intro w1; refine g_yes rfl rfl hg3 (r_neq rfl rfl rfl (hl_nil ?_)); exact qe_done rfl
      refine hb_ex _ rfl rfl rfl (fun w1 => p_f rfl rfl (bf1 hg3) rfl (hl_nil (qe_done rfl))) ?_; refine hb_ex _ rfl rfl rfl (fun w1 => r_move rfl rfl (hl_nil (qe_done rfl))) ?_; refine hb_split (t := 110) (want := false) rfl ?_ ?_
      ·intro hg4; have hg4' := hg4; try simp at hg4'
       apply hb_ex _ rfl rfl rfl
       ·intro w1; refine g_yes rfl rfl hg4 (r_move rfl rfl (hl_nil ?_)); exact qe_done rfl
       apply hb_ex _ rfl rfl rfl
       ·intro w1; refine g_yes rfl rfl hg4 (r_move rfl rfl (hl_nil ?_)); exact qe_done rfl
       refine hb_nil ⟨rfl, ?_⟩; refine g_yes rfl rfl hg4 ?_; refine hl_call F.kit_EqInts_cb rfl rfl (kit_EqInts_meets (billsE d.1 d.2.1.l d.2.2.l).1 (billsE d.1 d.2.1.l d.2.2.l).1 (by omega)) (List.Perm.refl _) ⟨mB, mB, trivial⟩ fun _ _ => ?_; refine g_yes rfl rfl hg4 (r_not rfl rfl ?_); refine p_f rfl rfl (bf1 hg4) rfl ?_; refine hl_nil (then_n ?_)
       first | refine c_dec rfl (fun hb3 => ?_) (fun hb3 => ?_) | refine hc_cond rfl (fun hb3 => ?_) (fun hb3 => ?_)
       ·have hb3' := hb3; try simp at hb3'
       ·have hb3' := hb3; try simp at hb3'
        refine hc_skip (then_n (hc_seq (hc_region ?_)))
        first | refine r_loadA rfl T.row_api_Sales T.sz_api_Sales rfl mB (by rfl) ?_ | refine r_loadB rfl T.row_api_Sales T.sz_api_Sales rfl mB (by rfl) ?_ | refine r_loadS rfl T.row_api_Sales T.sz_api_Sales rfl rfl (cells_row mB (rows_all (by omega))) ?_
        refine hl_call F.bold_Saved_cb rfl rfl (bold_Saved_meets d.1 ⟨pA, pC, d.2.1.l⟩ ⟨qA, qC, d.2.2.l⟩ hd1 hd2) (List.Perm.refl _) ⟨mB, mB, trivial⟩ fun y _ => ?_; obtain ⟨a3, c3⟩ := y; refine r_move rfl rfl (r_extract rfl rfl rfl (r_extract rfl rfl rfl (r_assign rfl rfl (r_assign rfl rfl (hl_nil (then_n (hc_seq (hc_region (r_move rfl rfl (r_move rfl rfl ?_)))))))))); refine r_elem (α := Sx) dl i rfl T.u_L_api_Sales T.sz_api_Sales rfl rfl rfl mB hdl3.symm (by omega) (by decide) ?_; refine r_loadS (cs := El.cells d) rfl T.row_api_Sales T.sz_api_Sales rfl rfl (cells_row mB (by rw [hdd]; exact rows_all (by omega))) ?_; refine hl_call F.ref09_Saved_cb rfl rfl (ref09_Saved_meets d.1 d.2.1 d.2.2 hd1 hd2) (List.Perm.refl _) ⟨mB, mB, trivial⟩ fun y hy => ?_; obtain ⟨⟨a4, c4⟩, o4⟩ := y; have h4 : Grow T.int 1 a4 (savedE d.1 d.2.1.l d.2.2.l).1.length c4 (rows (savedE d.1 d.2.1.l d.2.2.l).1) o4 := hy; clear hy; refine hl_grown h4 (r_move rfl rfl (r_extract rfl rfl rfl (r_extract rfl rfl rfl (r_assign rfl rfl (r_assign rfl rfl (hl_nil (then_n (hc_seq (hc_region ?_)))))))))
        first | refine r_loadA rfl T.row_api_Sales T.sz_api_Sales rfl mB (by rfl) ?_ | refine r_loadB rfl T.row_api_Sales T.sz_api_Sales rfl mB (by rfl) ?_ | refine r_loadS rfl T.row_api_Sales T.sz_api_Sales rfl rfl (cells_row mB (rows_all (by omega))) ?_
        refine hl_call F.bold_Streets_cb rfl rfl (bold_Streets_meets d.1 ⟨pA, pC, d.2.1.l⟩ ⟨qA, qC, d.2.2.l⟩ hd1 hd2) (List.Perm.refl _) ⟨mB, mB, trivial⟩ fun y _ => ?_; obtain ⟨a5, c5⟩ := y; refine r_move rfl rfl (r_extract rfl rfl rfl (r_extract rfl rfl rfl (r_assign rfl rfl (r_assign rfl rfl (hl_nil (then_n (hc_seq (hc_region (r_move rfl rfl (r_move rfl rfl ?_)))))))))); refine r_elem (α := Sx) dl i rfl T.u_L_api_Sales T.sz_api_Sales rfl rfl rfl mB hdl3.symm (by omega) (by decide) ?_; refine r_loadS (cs := El.cells d) rfl T.row_api_Sales T.sz_api_Sales rfl rfl (cells_row mB (by rw [hdd]; exact rows_all (by omega))) ?_; refine hl_call F.ref09_Streets_cb rfl rfl (ref09_Streets_meets d.1 d.2.1 d.2.2 hd1 hd2) (List.Perm.refl _) ⟨mB, mB, trivial⟩ fun y hy => ?_; obtain ⟨⟨a6, c6⟩, o6⟩ := y; have h6 : Grow T.int 1 a6 (streetsE d.1 d.2.1.l d.2.2.l).1.length c6 (rows (streetsE d.1 d.2.1.l d.2.2.l).1) o6 := hy; clear hy; refine hl_grown h6 (r_move rfl rfl (r_extract rfl rfl rfl (r_extract rfl rfl rfl (r_assign rfl rfl (r_assign rfl rfl (hl_nil (then_n (hc_seq ?_)))))))); refine hc_draw 26 mixed (by decide) (by decide) rfl rfl ?_; refine hb_ex _ rfl rfl rfl (fun w1 => r_move rfl rfl (hl_nil (qe_done rfl))) ?_; refine hb_ex _ rfl rfl rfl (fun w1 => r_move rfl rfl (hl_nil (qe_done rfl))) ?_; refine hb_ex _ rfl rfl rfl (fun w1 => r_neq rfl rfl rfl (hl_nil (qe_done rfl))) ?_; refine hb_ex _ rfl rfl rfl (fun w1 => r_move rfl rfl (hl_nil (qe_done rfl))) ?_; refine hb_split (t := 145) (want := false) rfl ?_ ?_
        ·intro hg5; have hg5' := hg5; try simp at hg5'
         apply hb_ex _ rfl rfl rfl
         ·intro w1; refine g_yes rfl rfl hg5 (r_move rfl rfl (hl_nil ?_)); exact qe_done rfl
         apply hb_ex _ rfl rfl rfl
         ·intro w1; refine g_yes rfl rfl hg5 (r_move rfl rfl (hl_nil ?_)); exact qe_done rfl
         apply hb_ex _ rfl rfl rfl
         ·intro w1; refine g_yes rfl rfl hg5 (r_neq rfl rfl rfl (hl_nil ?_)); exact qe_done rfl
         refine hb_ex _ rfl rfl rfl (fun w1 => p_f rfl rfl (bf1 hg5) rfl (hl_nil (qe_done rfl))) ?_; refine hb_ex _ rfl rfl rfl (fun w1 => r_move rfl rfl (hl_nil (qe_done rfl))) ?_; refine hb_split (t := 150) (want := false) rfl ?_ ?_
         ·intro hg6; have hg6' := hg6; try simp at hg6'
          apply hb_ex _ rfl rfl rfl
          ·intro w1; refine g_yes rfl rfl hg6 (r_move rfl rfl (hl_nil ?_)); exact qe_done rfl
          apply hb_ex _ rfl rfl rfl
          ·intro w1; refine g_yes rfl rfl hg6 (r_move rfl rfl (hl_nil ?_)); exact qe_done rfl
          apply hb_ex _ rfl rfl rfl
          ·intro w1; refine g_yes rfl rfl hg6 ?_; refine hl_call F.kit_EqInts_cb rfl rfl (kit_EqInts_meets (savedE d.1 d.2.1.l d.2.2.l).1 (savedE d.1 d.2.1.l d.2.2.l).1 (by omega)) (List.Perm.refl _) ⟨mB, mB, trivial⟩ fun _ _ => ?_; refine hl_nil ?_; exact qe_done rfl
          apply hb_ex _ rfl rfl rfl
          ·intro w1; refine g_yes rfl rfl hg6 (r_not rfl rfl (hl_nil ?_)); exact qe_done rfl
          refine hb_ex _ rfl rfl rfl (fun w1 => p_f rfl rfl (bf1 hg6) rfl (hl_nil (qe_done rfl))) ?_; refine hb_ex _ rfl rfl rfl (fun w1 => r_move rfl rfl (hl_nil (qe_done rfl))) ?_; refine hb_split (t := 156) (want := false) rfl ?_ ?_
          ·intro hg7; have hg7' := hg7; try simp at hg7'
           apply hb_ex _ rfl rfl rfl
           ·intro w1; refine g_yes rfl rfl hg7 (r_move rfl rfl (hl_nil ?_)); exact qe_done rfl
           apply hb_ex _ rfl rfl rfl
           ·intro w1; refine g_yes rfl rfl hg7 (r_move rfl rfl (hl_nil ?_)); exact qe_done rfl
           apply hb_ex _ rfl rfl rfl
           ·intro w1; refine g_yes rfl rfl hg7 ?_; refine hl_call F.kit_EqInts_cb rfl rfl (kit_EqInts_meets (streetsE d.1 d.2.1.l d.2.2.l).1 (streetsE d.1 d.2.1.l d.2.2.l).1 (by omega)) (List.Perm.refl _) ⟨mB, mB, trivial⟩ fun _ _ => ?_; refine hl_nil ?_; exact qe_done rfl
           apply hb_ex _ rfl rfl rfl
           ·intro w1; refine g_yes rfl rfl hg7 (r_not rfl rfl (hl_nil ?_)); exact qe_done rfl
           refine hb_ex _ rfl rfl rfl (fun w1 => p_f rfl rfl (bf1 hg7) rfl (hl_nil (qe_done rfl))) ?_; refine hb_ex _ rfl rfl rfl (fun w1 => r_move rfl rfl (hl_nil (qe_done rfl))) ?_; refine hb_split (t := 162) (want := false) rfl ?_ ?_
           ·intro hg8; have hg8' := hg8; try simp at hg8'
            apply hb_ex _ rfl rfl rfl
            ·intro w1; refine g_yes rfl rfl hg8 ?_
             first | refine r_loadA rfl T.row_api_Sales T.sz_api_Sales rfl mB (by rfl) ?_ | refine r_loadB rfl T.row_api_Sales T.sz_api_Sales rfl mB (by rfl) ?_ | refine r_loadS rfl T.row_api_Sales T.sz_api_Sales rfl rfl (cells_row mB (rows_all (by omega))) ?_
             refine hl_nil ?_; exact qe_done rfl
            apply hb_ex _ rfl rfl rfl
            ·intro w1; refine g_yes rfl rfl hg8 (r_move rfl rfl (hl_nil ?_)); exact qe_done rfl
            apply hb_ex _ rfl rfl rfl
            ·intro w1; refine g_yes rfl rfl hg8 (r_move rfl rfl (hl_nil ?_)); exact qe_done rfl
            apply hb_ex _ rfl rfl rfl
            ·intro w1; refine g_yes rfl rfl hg8 ?_; refine r_elem (α := Sx) dl i rfl T.u_L_api_Sales T.sz_api_Sales rfl rfl rfl mB hdl3.symm (by omega) (by decide) ?_; refine hl_nil ?_; exact qe_done rfl
            apply hb_ex _ rfl rfl rfl
            ·intro w1; refine g_yes rfl rfl hg8 ?_; refine r_loadS (cs := El.cells d) rfl T.row_api_Sales T.sz_api_Sales rfl rfl (cells_row mB (by rw [hdd]; exact rows_all (by omega))) ?_; refine hl_nil ?_; exact qe_done rfl
            refine hb_nil ⟨rfl, ?_⟩; refine g_yes rfl rfl hg8 ?_; refine hl_call F.kit_EqSales_cb rfl rfl (kit_EqSales_meets (pA := d.2.1.a) (qA := d.2.2.a) (pC := d.2.1.c) (qC := d.2.2.c) d.1 ⟨pA, pC, d.2.1.l⟩ ⟨qA, qC, d.2.2.l⟩ hd1 hd2) (List.Perm.refl _) ⟨mB, mB, mB, mB, trivial⟩ fun _ _ => ?_; refine g_yes rfl rfl hg8 (r_not rfl rfl ?_); refine p_f rfl rfl (bf1 hg8) rfl ?_; refine hl_nil (then_n ?_)
            first | refine c_dec rfl (fun hb4 => ?_) (fun hb4 => ?_) | refine hc_cond rfl (fun hb4 => ?_) (fun hb4 => ?_)
            ·have hb4' := hb4; try simp at hb4'
            ·have hb4' := hb4; try simp at hb4'
             refine hc_skip (inb_n (then_n (hc_region (r_move rfl rfl ?_)))); refine r_add _ rfl rfl rfl rfl (by unfold I64; omega) ?_; refine r_assign rfl rfl (hl_nil ?_); exact again _ (i + 1) (by show i + 1 ≤ 3; omega) (by show 3 - (i + 1) < 3 - i; omega) ⟨rfl, rfl, rfl, trivial⟩ (List.nil_sublist _) ⟨mB, mB, mB, trivial⟩
           ·intro hg8; have hg8' := hg8; try simp at hg8'
          ·intro hg7; have hg7' := hg7; try simp at hg7'
         ·intro hg6; have hg6' := hg6; try simp at hg6'
        ·intro hg5; have hg5' := hg5; try simp at hg5'
      ·intro hg4; have hg4' := hg4; try simp at hg4'
     ·intro hg3; have hg3' := hg3; try simp at hg3'
    ·intro hg2; have hg2' := hg2; try simp at hg2'
   ·intro hg1; have hg1' := hg1; try simp at hg1'
  ·have hb2' := hb2; try simp at hb2'
   refine hc_exit (then_exit (then_exit (inb_hit (then_n (hc_seq (hc_region ?_)))))); refine hl_call F.law09_paying_cb rfl rfl (law09_paying_meets) (List.Perm.refl _) trivial fun _ _ => ?_; refine r_assign rfl rfl (hl_nil (then_n (hc_ret ?_))); exact ret1 () rfl rfl rfl trivial (List.nil_sublist _) trivial
end Go.Proofs.YtdlbbfcfahahdaaGreat
end
section
namespace Go.W
open Go Go.RowKit Go.ChangeShapes Go.WideShapes
section
variable {H : Type} {enc : TypeId × Value → H} {P : Program} {w : World} {base : Nat} {spare : Nat → Bool} {held : Bool}
theorem row_of {α : Type} [El α] (h1 : El.sz α = 1) {a : Addr} {l : List α} (h : ∀ j (hj : j < l.length), ∃ v, El.cells l[j] = [v] ∧ w.cell? (a.add j) = some v) : (Row (some a) (rows l)).P w := by
  intro j u hu; refine ⟨a, rfl, ?_⟩
  have hj : j < l.length := by
    have := (List.getElem?_eq_some_iff.1 hu).1; rw [rows_len, h1, Nat.mul_one] at this; exact this
  obtain ⟨v, hv, hc⟩ := h j hj; have h2 := rows_get (l := l) (i := j) (j := 0) (v := v) hj (by simp [List.getD_eq_getElem?_getD, hj, hv]); rw [h1] at h2; simp only [Nat.mul_one, Nat.add_zero] at h2; rw [hu] at h2
  cases h2
  exact hc
theorem in_ints {t e : TypeId} {A : Option Addr} {n c fuel : Nat} {x : DataW H × List MemPlace} (ht : P.underlying t = some (.slice e)) (he : P.underlying e = some (.int .i64)) (hc : P.cellsOf e = 1)
    (h : DataW.trod enc P w base spare held fuel t [.slice A n c] = some x) : ∃ l : List Int, n = l.length ∧ l.length ≤ c ∧ c ≤ maxLen ∧ (Row A (rows l)).P w ∧ ∀ z ∈ l, I64 z := by
  rcases open_ints ht he hc h with ⟨hcs, _⟩ | ⟨a, len, cap, zs, hcs, _, hl, hm, hlen, _, hcell, hwf⟩
  · simp at hcs
    obtain ⟨rfl, rfl, rfl⟩ := hcs; exact ⟨[], rfl, Nat.le_refl _, by unfold maxLen; omega, Row.nil _ _, by intro z hz; simp at hz⟩
  · simp at hcs
    obtain ⟨rfl, rfl, rfl⟩ := hcs; have hle : n ≤ zs.length := by rw [hlen]; split <;> omega
    have hlen2 : (zs.take n).length = n := by rw [List.length_take]; omega
    refine ⟨zs.take n, hlen2.symm, by rw [hlen2]; exact hl, hm, row_of rfl fun j hj => ?_, fun z hz => ?_⟩
    · rw [hlen2] at hj
      refine ⟨int zs[j], by simp [El.cells], ?_⟩; rw [hcell j (by omega)]
      simp [List.getD_eq_getElem?_getD, show j < zs.length by omega]
    · have := hwf z (List.mem_of_mem_take hz)
      simp [Lit.wf, IntKind.min, IntKind.max, IntKind.signed, IntKind.bits] at this
      exact ⟨by omega, by omega⟩
theorem law_calls {f : Nat} {args : List Value} {LI : List Fact} (h : Meets P f args ({ LI := LI, val := fun _ : Unit => .bool true } : Con Unit)) (hL : ∀ F ∈ LI, F.P w) : CallsB P f args.toArray w fun v w' => v = .bool true ∧ Below w.heap.size w w' := by
  refine (h w ⟨Ext.refl _ _, by simp, by simp, by simp, hL, by simp, fun F hF k hk => .inr (.inr ⟨F, hF, hk⟩)⟩).mono fun v w' hp => ?_; obtain ⟨_, rfl, _, hwi⟩ := hp; exact ⟨rfl, hwi.ext.below⟩
end
end Go.W
end
section
namespace Go.W
open Go Go.RowKit Go.ChangeShapes Go.WideShapes Go.Deep
section
variable {H : Type} {enc : TypeId × Value → H} {P : Program} {w : World} {base : Nat} {spare : Nat → Bool} {held : Bool}
theorem row_ofN {α : Type} [El α] (h0 : 0 < El.sz α) {a : Addr} {l : List α} (h : ∀ j, j < l.length → ∀ i v, (El.cells (l.getD j default))[i]? = some v → w.cell? (a.add (j * El.sz α + i)) = some v) : (Row (some a) (rows l)).P w := by
  intro k u hu; refine ⟨a, rfl, ?_⟩; have hk := (List.getElem?_eq_some_iff.1 hu).1; rw [rows_len] at hk; have hj : k / El.sz α < l.length := Nat.div_lt_of_lt_mul (by rw [Nat.mul_comm]; exact hk); have hd : k / El.sz α * El.sz α + k % El.sz α = k := by rw [Nat.mul_comm]; exact Nat.div_add_mod _ _
  have h2 := rows_get' l (k / El.sz α) (k % El.sz α) hj (Nat.mod_lt _ h0); rw [hd, hu] at h2; have := h _ hj _ _ h2.symm
  rwa [hd] at this
end
end Go.W
end
section
namespace Go.Proofs.YtdlbbfcfahahdaaGreat
open Go Go.W Go.RowKit Go.ChangeShapes Go.WideShapes Go.Deep
set_option maxRecDepth 20000
attribute [local irreducible] HL HC HQ HB Row Rows2 Blk Facts
section
variable {H : Type} {enc : TypeId × Value → H} {P : Program} {w : World} {base : Nat} {spare : Nat → Bool} {held : Bool}
theorem in_ads {t e : TypeId} {f0 f1 f2 : Field} {v : Value} {fuel : Nat} {x : DataW H × List MemPlace} (ht : P.underlying t = some (.slice e)) (he : P.underlying e = some (.struct #[f0, f1, f2])) (ce : P.cellsOf e = 3)
    (o0 : f0.offset = 0) (o1 : f1.offset = 1) (o2 : f2.offset = 2) (c0 : P.cellsOf f0.type = 1) (c1 : P.cellsOf f1.type = 1) (c2 : P.cellsOf f2.type = 1) (t0 : P.underlying f0.type = some (.int .i64)) (t1 : P.underlying f1.type = some (.int .i64)) (t2 : P.underlying f2.type = some (.int .i64))
    (h : DataW.trod enc P w base spare held fuel t [v] = some x) : ∃ A c, ∃ l : List Ad, v = .slice A l.length c ∧ l.length ≤ c ∧ c ≤ maxLen ∧ (Row A (rows l)).P w := by
  rcases open_slice ht h with ⟨hcs, _⟩ | ⟨a, len, cap, m, n', D, Pl, hcs, _, hl, hm, hmm, _, hx⟩
  · simp at hcs
    subst hcs; exact ⟨none, 0, [], rfl, Nat.le_refl _, by unfold maxLen; omega, Row.nil _ _⟩
  · simp at hcs
    subst hcs; have hlm : len ≤ m := by rw [hmm]; split <;> omega
    have each : ∀ i, i < len → ∃ q : Ad, ∀ k v, (El.cells q)[k]? = some v → w.cell? (a.add (i * 3 + k)) = some v := by
      intro i hi; obtain ⟨cs', h1, h2⟩ := hx i (by omega); rw [ce] at h1; obtain ⟨_, hlen, hcell⟩ := World.cells?_some h1; obtain ⟨y0, y1, y2, k, _, _, g0, g1, g2⟩ := trod_struct3 he h2
      match cs', hlen with
      | [v0, v1, v2], _ =>
        simp [o0, o1, o2, c0, c1, c2] at g0 g1 g2
        obtain ⟨z0, e0, _, _⟩ := DataW.trod_int t0 g0; obtain ⟨z1, e1, _, _⟩ := DataW.trod_int t1 g1; obtain ⟨z2, e2, _, _⟩ := DataW.trod_int t2 g2
        simp at e0 e1 e2
        subst e0 e1 e2; refine ⟨(z0, z1, z2), fun k v hv => ?_⟩; have hk : k < 3 := (List.getElem?_eq_some_iff.1 hv).1; have hc := hcell k hk; rw [add_add] at hc; rw [hc, ← hv]
        rfl
    obtain ⟨q, hq⟩ := choose_lt each; refine ⟨some a, cap, (List.range len).map q, by simp, by simpa using hl, hm, row_ofN (by decide) fun j hj i v hv => ?_⟩
    simp at hj
    refine hq j hj i v ?_; rw [← hv]
    simp [List.getD_eq_getElem?_getD, hj]
theorem trod_ch {e : TypeId} {f0 f1 f2 f3 f4 f5 : Field} {cs : List Value} {fuel : Nat} {x : DataW H × List MemPlace} (he : P.underlying e = some (.struct #[f0, f1, f2, f3, f4, f5])) (ce : P.cellsOf e = 6)
    (o0 : f0.offset = 0) (o1 : f1.offset = 1) (o2 : f2.offset = 2) (o3 : f3.offset = 3) (o4 : f4.offset = 4) (o5 : f5.offset = 5) (c0 : P.cellsOf f0.type = 1) (c1 : P.cellsOf f1.type = 1) (c2 : P.cellsOf f2.type = 1) (c3 : P.cellsOf f3.type = 1) (c4 : P.cellsOf f4.type = 1) (c5 : P.cellsOf f5.type = 1) (t0 : P.underlying f0.type = some (.int .i64)) (t1 : P.underlying f1.type = some (.int .i64)) (t2 : P.underlying f2.type = some (.int .i64)) (t3 : P.underlying f3.type = some (.int .i64)) (t4 : P.underlying f4.type = some (.int .i64)) (t5 : P.underlying f5.type = some (.int .i64))
    (h : DataW.trod enc P w base spare held fuel e cs = some x) : ∃ c : Ch, cs = [int c.1, int c.2.1, int c.2.2.1, int c.2.2.2.1, int c.2.2.2.2.1, int c.2.2.2.2.2] := by
  obtain ⟨xs, n, _, rfl, hl, hlen, hf⟩ := DataW.trod_struct he h; rw [ce] at hl
  match xs, hlen, cs, hl with
  | [y0, y1, y2, y3, y4, y5], _, [v0, v1, v2, v3, v4, v5], _ =>
    have g0 := hf 0 f0 rfl; have g1 := hf 1 f1 rfl; have g2 := hf 2 f2 rfl; have g3 := hf 3 f3 rfl; have g4 := hf 4 f4 rfl; have g5 := hf 5 f5 rfl
    simp [o0, c0, o1, c1, o2, c2, o3, c3, o4, c4, o5, c5] at g0 g1 g2 g3 g4 g5
    obtain ⟨z0, e0, _, _⟩ := DataW.trod_int t0 g0; obtain ⟨z1, e1, _, _⟩ := DataW.trod_int t1 g1; obtain ⟨z2, e2, _, _⟩ := DataW.trod_int t2 g2; obtain ⟨z3, e3, _, _⟩ := DataW.trod_int t3 g3; obtain ⟨z4, e4, _, _⟩ := DataW.trod_int t4 g4; obtain ⟨z5, e5, _, _⟩ := DataW.trod_int t5 g5
    simp at e0 e1 e2 e3 e4 e5
    subst e0 e1 e2 e3 e4 e5; exact ⟨(z0, z1, z2, z3, z4, z5), rfl⟩
end
theorem in_sales {H : Type} {enc : TypeId × Value → H} {w : World} {base : Nat} {spare : Nat → Bool} {held : Bool} {cs : Array Value} (h : ∃ fuel x, DataW.trod enc Tryz.prog w base spare held fuel T.api_Sales cs.toList = some x) :
    ∃ d : Sx, cs = saC d.1 d.2.1 d.2.2 ∧ (d.2.1.l.length ≤ d.2.1.c ∧ d.2.1.c ≤ maxLen) ∧ (d.2.2.l.length ≤ d.2.2.c ∧ d.2.2.c ≤ maxLen) ∧ (Row d.2.1.a (rows d.2.1.l)).P w ∧ (Row d.2.2.a (rows d.2.2.l)).P w := by
  obtain ⟨fuel, x, h⟩ := h; obtain ⟨y0, y1, y2, n, _, hl, g0, g1, g2⟩ := trod_struct3 Tryz.underlying27 h; have hl2 : cs.toList.length = 8 := hl.trans (by kernel_rfl)
  obtain ⟨v0, v1, v2, v3, v4, v5, v6, v7, hv⟩ : ∃ v0 v1 v2 v3 v4 v5 v6 v7, cs.toList = [v0, v1, v2, v3, v4, v5, v6, v7] := by
    match hc : cs.toList, hl2 with
    | [v0, v1, v2, v3, v4, v5, v6, v7], _ => exact ⟨v0, v1, v2, v3, v4, v5, v6, v7, rfl⟩
  rw [hv] at g0 g1 g2; have g0' : DataW.trod enc Tryz.prog w base spare held n T.api_Charges [v0, v1, v2, v3, v4, v5] = some y0 := g0; have g1' : DataW.trod enc Tryz.prog w base spare held n T.ints [v6] = some y1 := g1; have g2' : DataW.trod enc Tryz.prog w base spare held n T.L_api_Advert [v7] = some y2 := g2; obtain ⟨c, hc⟩ := trod_ch Tryz.underlying23 (by kernel_rfl) rfl rfl rfl rfl rfl rfl (by kernel_rfl) (by kernel_rfl) (by kernel_rfl) (by kernel_rfl) (by kernel_rfl) (by kernel_rfl) Tryz.underlying3 Tryz.underlying3 Tryz.underlying3 Tryz.underlying3 Tryz.underlying3 Tryz.underlying3 g0'
  obtain ⟨A, n3, c3, hv6⟩ : ∃ A n3 c3, v6 = .slice A n3 c3 := by
    rcases open_slice Tryz.underlying24 g1' with ⟨hcs, _⟩ | ⟨a, len, cap, m, n', D, Pl, hcs, _⟩
    · simp at hcs; exact ⟨_, _, _, hcs⟩
    · simp at hcs; exact ⟨_, _, _, hcs⟩
  rw [hv6] at g1'; obtain ⟨l, rfl, k1, k2, k3, _⟩ := in_ints Tryz.underlying24 Tryz.underlying3 (by kernel_rfl) g1'; obtain ⟨B, k, m, rfl, h4, h5, h6⟩ := in_ads Tryz.underlying25 Tryz.underlying65 (by kernel_rfl) rfl rfl rfl (by kernel_rfl) (by kernel_rfl) (by kernel_rfl) Tryz.underlying3 Tryz.underlying3 Tryz.underlying3 g2'; refine ⟨(c, ⟨A, c3, l⟩, ⟨B, k, m⟩), ?_, ⟨k1, k2⟩, ⟨h4, h5⟩, k3, h6⟩; rw [← Array.toArray_toList (xs := cs), hv, hv6]; simp only [List.cons.injEq, and_true] at hc; obtain ⟨rfl, rfl, rfl, rfl, rfl, rfl⟩ := hc
  rfl
end Go.Proofs.YtdlbbfcfahahdaaGreat
end
section
namespace Go.W
open Go Go.Conc
theorem Lv.at {P : Program} {fr : Frame} {w : World} {v : Value} (h : Lv P fr w v) (d : Nat) : Lv P fr (w.at d) v :=
  ⟨h.1, h.2.1, h.2.2.1, h.2.2.2.elim fun fn x => ⟨fn, x.1, fun d' => x.2 d'⟩⟩
theorem run_of {P : Program} {f : FuncId} {fn : Func} {t : Tmp} {args : Array Value} {W : World} {R : Value → World → Prop} (hf : P.funcs[f]? = some fn) (hres : fn.results = #[.tmp t]) (hin : P.inits.idxOf? f = none)
    (h : CallsB P f args W R) (hat : ∀ v w d, R v w → R v (w.at d)) :
    ∃ M last o w' t', runNT P (M + 1) (solo (G (Frame.enter P f args .normal) []) W) #[] = (.ended o w', t') ∧ runN P M (solo (G (Frame.enter P f args .normal) []) W) = .next last ∧ step P last = .ended o w' ∧ Conc.Good P R last o w' t' := by
  have hco := h [] (fun g w => ∃ v fr, g = G fr [] ∧ fr.fn = f ∧ Lv P fr w v ∧ R v w) (fun fr v w' hfr hR hl => co_done fun d => ⟨v, fr, rfl, hfr, hl.at d, hat _ _ _ hR⟩); obtain ⟨N, gs, g, w, sl, t0, q, B, r, h0, hL, hP, v, fr, rfl, hfr, hl, hR⟩ := hco W.drawn #[G (Frame.enter P f args .normal) []] none #[] (fun _ => 0) 0 rfl (leavers_one P _) past_nil
  have hG : Goes P true AtRel (fun _ _ es => ∀ e ∈ es, EvL noS B e) (AtEnd P noS B R) 0 (G fr []) w := by
    rintro w₁ ⟨d, rfl⟩; refine ⟨rfl, v, #[], ?_, by simp, hat _ _ _ hR⟩; obtain ⟨hm, hd, hn, fn', hf', hr⟩ := hl.at d; rw [hfr, hf] at hf'; obtain rfl := Option.some.inj hf'; have hf2 : P.funcs[fr.fn]? = some fn := by rw [hfr]; exact hf
    have hin2 : P.inits.idxOf? fr.fn = none := by rw [hfr]; exact hin
    have he : (results fn fr.tmps).events P (w.at d) #[] = #[] := events_results_tmp hres _ _; have hr0 : (results fn fr.tmps).run P (w.at d) = .ok v (w.at d) := hr d
    simp [G, stepG, unwind, doReturn, hn, hd, hm, hf2, hr0, he, hin2, GStep.after, seen]
  obtain ⟨M, last, o, w', t', e1, e2, e3, e4⟩ := beside_ends (P := P) (Post := R) (sl := sl) (fun _ _ _ h => h) h0 hL hP hG; have hrun : runNT P N (solo (G (Frame.enter P f args .normal) []) W) #[] = (.next (crowd gs w sl), t0) := r; refine ⟨N + M, last, o, w', t', ?_, ?_, e3, e4⟩
  · rw [Nat.add_assoc, runNT_two hrun]; exact e1
  · rw [runN_add, ← runNT_fst P _ _ #[], hrun]; exact e2
end Go.W
end
