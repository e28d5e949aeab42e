/- Texts of this claim, one behind another. -/

import Derived.Test.YtdlbbfcfahahdaaJAp
section
namespace Go.Proofs.Ytdlbbfcfahahdaa
open Go Go.W
set_option linter.unusedVariables false
set_option linter.unusedSimpArgs false
set_option maxRecDepth 20000
attribute [local irreducible] HL HC HQ HB Row Rows2 Blk Facts
theorem bills_is (c : Ch) (ps : Sl Int) (qs : Sl Ad) (h0 : chkS c ps.l qs.l = 0) (hn : ps.l.length ≤ 1000000) (hm : qs.l.length ≤ 1000000) : Meets Try.prog F.bold_Bills [saV c ps qs] { LI := saL ps qs, inv := fun x : OutC => ps.l.length ≤ x.2, val := fun x => .tuple #[.slice x.1 ps.l.length x.2, int 0], LO := fun x => [Row x.1 (rows (numsN 103 c ps.l qs.l))] } := by
  have h := bold_Bills_meets c ps qs hn hm
  rw [show billsE c ps.l qs.l = ((numsN 103 c ps.l qs.l), 0) from if_neg (fun e => e h0)] at h
  simp only [nums_len] at h
  exact h
theorem saved_is (c : Ch) (ps : Sl Int) (qs : Sl Ad) (h0 : chkS c ps.l qs.l = 0) (hn : ps.l.length ≤ 1000000) (hm : qs.l.length ≤ 1000000) : Meets Try.prog F.bold_Saved [saV c ps qs] { LI := saL ps qs, inv := fun x : OutC => ps.l.length ≤ x.2, val := fun x => .tuple #[.slice x.1 ps.l.length x.2, int 0], LO := fun x => [Row x.1 (rows (numsN 102 c ps.l qs.l))] } := by
  have h := bold_Saved_meets c ps qs hn hm
  rw [show savedE c ps.l qs.l = ((numsN 102 c ps.l qs.l), 0) from if_neg (fun e => e h0)] at h
  simp only [nums_len] at h
  exact h
theorem streets_is (c : Ch) (ps : Sl Int) (qs : Sl Ad) (h0 : chkS c ps.l qs.l = 0) (hn : ps.l.length ≤ 1000000) (hm : qs.l.length ≤ 1000000) : Meets Try.prog F.bold_Streets [saV c ps qs] { LI := saL ps qs, inv := fun x : OutC => (discK c ps.l qs.l 10).length ≤ x.2, val := fun x => .tuple #[.slice x.1 (discK c ps.l qs.l 10).length x.2, int 0], LO := fun x => [Row x.1 (rows (discK c ps.l qs.l 10))] } := by
  have h := bold_Streets_meets c ps qs hn hm
  rw [show streetsE c ps.l qs.l = ((discK c ps.l qs.l 10), 0) from if_neg (fun e => e h0)] at h
  exact h
theorem price_is (c : Ch) (ps : Sl Int) (qs : Sl Ad) (k : Nat) (h0 : chkS c ps.l qs.l = 0) (hk : k < qs.l.length) (hn : ps.l.length ≤ 1000000) (hm : qs.l.length ≤ 1000000) : Meets Try.prog F.bold_Price [saV c ps qs, int k] { LI := saL ps qs, val := fun _ : Unit => .tuple #[int (priceN c (qs.l.getD k default)), int 0] } := by
  have h := bold_Price_meets c ps qs k hn hm
  rw [show priceE c ps.l qs.l k = (priceN c (qs.l.getD k default), 0) by unfold priceE; rw [if_neg (fun e => e h0), if_neg (by omega), Int.toNat_natCast]] at h
  exact h
theorem nums_at {how : Nat} {c : Ch} {ss : List Int} {xs : List Ad} {i : Nat} (hi : i < ss.length) : (numsN how c ss xs).getD i default = if how = 103 then bilN c ss xs i else sumN c xs i - bilN c ss xs i := range_getD _ hi
theorem bill_at (c : Ch) (ss : List Int) (xs : List Ad) {i : Nat} (hi : i < ss.length) : (numsN 103 c ss xs).getD i default = bilN c ss xs i := nums_at hi
theorem saved_at (c : Ch) (ss : List Int) (xs : List Ad) {i : Nat} (hi : i < ss.length) : (numsN 102 c ss xs).getD i default = sumN c xs i - bilN c ss xs i := nums_at hi
/-- A bill is what is due, rounded once. -/
theorem bil_due {c : Ch} {ss : List Int} {xs : List Ad} (h : SaOK c ss xs) (i : Nat) : if offB c ss xs (ss.getD i default) = true then sumN c xs i * (100 - c.2.2.2.2.1) ≤ 100 * bilN c ss xs i ∧ 100 * bilN c ss xs i < sumN c xs i * (100 - c.2.2.2.2.1) + 100 else bilN c ss xs i = sumN c xs i := by
  have h1 := (sumK_bd h i xs.length (Nat.le_refl _)).1
  have hs : sumN c xs i = sumK c xs xs.length i := rfl
  rw [← hs] at h1
  have h2 := h.ch.2.2.2.2.1
  unfold bilN
  split
  · generalize sumN c xs i = s at *
    have m1 : 0 ≤ s * (100 - c.2.2.2.2.1) := Int.mul_nonneg h1 (by omega)
    unfold offN
    rw [Int.tdiv_eq_ediv_of_nonneg (by omega)]
    omega
  · rfl
abbrev sumsL (c : Ch) (xs : List Ad) (n k : Nat) : List Int := (List.range n).map (sumK c xs k)
theorem sums_set {c : Ch} {xs : List Ad} {n k m : Nat} (hk : k < xs.length) (hm : (xs.getD k default).1 = (m : Int)) (hn : m < n) : (sumsL c xs n k).set m (sumK c xs k m + priceN c (xs.getD k default)) = sumsL c xs n (k + 1) := by
  unfold sumsL
  rw [range_set _ _ hn]
  refine List.map_congr_left fun j _ => ?_
  rw [sumK_succ c hk, hm]
  by_cases e : j = m
  · subst e; rw [if_pos rfl, if_pos rfl]
  · rw [if_neg e, if_neg (by omega)]
set_option maxHeartbeats 1000000 in
theorem law09_BoldOnce_meets {A : Option Addr} {c : Nat} (nums : List Int) (hn : nums.length ≤ 9223372036854775807) : Meets Try.prog F.law09_BoldOnce [.slice A nums.length c] { LI := [Row A (rows nums)], val := fun _ : Unit => .bool true } := by
 refine meets_intro F.law09_BoldOnce_f rfl (Nat.le_of_ble_eq_true rfl) fun w0 => ?_
 refine hc_seq (hc_region (r_assign rfl rfl (hl_nil (then_n (hc_seq (hc_region (r_move rfl rfl ?_)))))))
 refine hl_call F.kit_NewDice_cb rfl rfl (kit_NewDice_meets nums) (List.Perm.refl _) ⟨mB, trivial⟩ fun g _ => ?_
 refine hl_call F.kit_SalesOf_cb rfl rfl (kit_SalesOf_meets 8 hn (dok0 nums) (by decide)) (List.Perm.refl _) ⟨mB, trivial⟩ fun xs1 hs1 => ?_
 obtain ⟨s1, sz⟩ := xs1
 obtain ⟨hs1, hsz⟩ := hs1
 simp only at hs1
 obtain ⟨c, ps, qs⟩ := sz
 have h0 : chkS c ps.l qs.l = 0 := hsz.ok
 have hqm : qs.l.length ≤ 8 := hsz.x8
 have hpc : ps.l.length ≤ ps.c := hsz.ca
 have hqc : qs.l.length ≤ qs.c := hsz.cb
 have hsa := sa_ok h0
 have hn1 := hsa.n1
 have hn5 := hsa.n5
 have hqx := hsa.x8
 have hpl : ps.l.length ≤ 1000000 := by omega
 have hql : qs.l.length ≤ 1000000 := by omega
 clear hsz
 refine r_alloc rfl (fun _ => T.al_api_Sales _) fun gS => ?_
 refine r_storeS (cs := saC c ps qs) rfl rfl (.refl _) T.sz_api_Sales (by rfl) (by rfl) ?_
 refine hl_nil (then_n (hc_seq (hc_letgoB (hc_region ?_))))
 first | refine r_loadA rfl T.row_api_Sales T.sz_api_Sales rfl mB (by rfl) ?_ | refine r_loadB rfl T.row_api_Sales T.sz_api_Sales rfl mB (by rfl) ?_ | refine r_loadS rfl T.row_api_Sales T.sz_api_Sales rfl rfl (cells_row mB (rows_all (by omega))) ?_
 refine hl_call F.bold_Bills_cb rfl rfl (bills_is c ps qs h0 hpl (by omega)) (List.Perm.refl _) ⟨mB, mB, trivial⟩ fun x1 hx1 => ?_
 obtain ⟨bx1, cx1⟩ := x1
 refine r_move rfl rfl (r_extract rfl rfl rfl (r_extract rfl rfl rfl (r_assign rfl rfl (r_assign rfl rfl (hl_nil (then_n (hc_seq (hc_region ?_))))))))
 first | refine r_loadA rfl T.row_api_Sales T.sz_api_Sales rfl mB (by rfl) ?_ | refine r_loadB rfl T.row_api_Sales T.sz_api_Sales rfl mB (by rfl) ?_ | refine r_loadS rfl T.row_api_Sales T.sz_api_Sales rfl rfl (cells_row mB (rows_all (by omega))) ?_
 refine hl_call F.bold_Saved_cb rfl rfl (saved_is c ps qs h0 hpl hql) (List.Perm.refl _) ⟨mB, mB, trivial⟩ fun x2 hx2 => ?_
 obtain ⟨bx2, cx2⟩ := x2
 refine r_move rfl rfl (r_extract rfl rfl rfl (r_extract rfl rfl rfl (r_assign rfl rfl (r_assign rfl rfl (hl_nil (then_n (hc_seq (hc_region ?_))))))))
 first | refine r_loadA rfl T.row_api_Sales T.sz_api_Sales rfl mB (by rfl) ?_ | refine r_loadB rfl T.row_api_Sales T.sz_api_Sales rfl mB (by rfl) ?_ | refine r_loadS rfl T.row_api_Sales T.sz_api_Sales rfl rfl (cells_row mB (rows_all (by omega))) ?_
 refine hl_call F.bold_Streets_cb rfl rfl (streets_is c ps qs h0 hpl hql) (List.Perm.refl _) ⟨mB, mB, trivial⟩ fun x3 hx3 => ?_
 obtain ⟨bx3, cx3⟩ := x3
 refine r_move rfl rfl (r_extract rfl rfl rfl (r_extract rfl rfl rfl (r_assign rfl rfl (r_assign rfl rfl (hl_nil (then_n (hc_seq (hc_seq (hc_region (r_move rfl rfl (r_neq rfl rfl rfl ?_)))))))))))
 refine r_move rfl rfl ?_
 refine g_split rfl rfl ?_ ?_
 ·intro hg1; have hg1' := hg1; try simp at hg1'
  refine g_yes rfl rfl hg1 (r_move rfl rfl (g_yes rfl rfl hg1 (r_neq rfl rfl rfl ?_)))
  refine p_f rfl rfl (bf1 hg1) rfl ?_
  refine r_move rfl rfl ?_
  refine g_split rfl rfl ?_ ?_
  ·intro hg2; have hg2' := hg2; try simp at hg2'
   refine g_yes rfl rfl hg2 (r_move rfl rfl (g_yes rfl rfl hg2 (r_neq rfl rfl rfl ?_)))
   refine p_f rfl rfl (bf1 hg2) rfl ?_
   refine r_move rfl rfl ?_
   refine g_split rfl rfl ?_ ?_
   ·intro hg3; have hg3' := hg3; try simp at hg3'
    refine g_yes rfl rfl hg3 (r_move rfl rfl (g_yes rfl rfl hg3 ?_))
    refine r_len_sl rfl T.u_ints rfl ?_
    refine g_yes rfl rfl hg3 ?_
    first | refine r_fieldAddr ⟨_, 6, none⟩ rfl rfl T.fa_api_Sales_1 rfl ?_ | refine r_fieldAddr _ rfl rfl T.fa_api_Sales_1 rfl ?_
    refine g_yes rfl rfl hg3 ?_
    first | refine r_load rfl T.cell_ints rfl (cell_own mB rfl) ?_ | refine r_load rfl T.cell_ints rfl (cell_blk mB rfl) ?_ | refine r_load rfl T.cell_ints rfl (cell_row mB (rows_get0 (by omega) rfl)) ?_ | refine r_load rfl T.cell_ints rfl (cell_row_f mB (rows_get (by omega) rfl)) ?_ | refine r_load rfl T.cell_ints rfl (cell_rowg mB rfl) ?_
    refine g_yes rfl rfl hg3 ?_
    refine r_len_sl rfl T.u_ints rfl ?_
    refine g_yes rfl rfl hg3 (r_neq rfl rfl rfl ?_)
    refine p_f rfl rfl (bf1 hg3) rfl ?_
    refine r_move rfl rfl ?_
    refine g_split rfl rfl ?_ ?_
    ·intro hg4; have hg4' := hg4; try simp at hg4'
     refine g_yes rfl rfl hg4 (r_move rfl rfl (g_yes rfl rfl hg4 ?_))
     refine r_len_sl rfl T.u_ints rfl ?_
     refine g_yes rfl rfl hg4 (r_move rfl rfl (g_yes rfl rfl hg4 ?_))
     refine r_len_sl rfl T.u_ints rfl ?_
     refine g_yes rfl rfl hg4 (r_neq rfl rfl rfl ?_)
     refine p_f rfl rfl (bf1 hg4) rfl ?_
     refine hl_nil (then_n ?_)
     first | refine c_dec rfl (fun hb1 => ?_) (fun hb1 => ?_) | refine hc_cond rfl (fun hb1 => ?_) (fun hb1 => ?_)
     ·all_goals omega
     ·have hb1' := hb1; try simp at hb1'
      refine hc_skip (then_n (hc_seq (hc_region (r_move rfl rfl ?_))))
      refine r_len_sl rfl T.u_ints rfl ?_
      refine r_makeR (α := Int) (n := ps.l.length) (bytes := 8) (z := int 0) (0 : Int) rfl T.u_ints (by kernel_rfl) rfl rfl rfl rfl (by omega) (by omega) fun go => ?_
      rw [show List.replicate ps.l.length (0 : Int) = sumsL c qs.l ps.l.length 0 by unfold sumsL; rw [show sumK c qs.l 0 = fun _ => (0 : Int) from funext fun i => by simp [sumK], List.map_const', List.length_range]]
      refine r_assign rfl rfl (hl_nil (then_n (hc_seq (hc_seq (hc_region (r_assign rfl rfl (hl_nil (then_n (hc_block ?_)))))))))
      refine hc_loop (β := Nat) ⟨fun k => k ≤ qs.l.length, fun k => [(3, .pointer (some ⟨gS, 0, none⟩)), (4, .slice bx1 ps.l.length cx1), (6, .slice bx2 ps.l.length cx2), (8, .slice bx3 (discK c ps.l qs.l 10).length cx3), (10, .slice (some ⟨go, 0, none⟩) ps.l.length ps.l.length), (11, int k)], fun k => [(go, Obj.cells (rows (sumsL c qs.l ps.l.length k)).toArray T.int (0, 0))], fun _ => [Row bx3 (rows (discK c ps.l qs.l 10)), Row bx2 (rows (numsN 102 c ps.l qs.l)), Row bx1 (rows (numsN 103 c ps.l qs.l)), Blk gS (.cells (saC c ps qs) T.api_Sales (0, 0)), Row ps.a (rows ps.l), Row qs.a (rows qs.l)]⟩ (fun k => qs.l.length - k) 0 (Nat.zero_le _) ⟨rfl, rfl, rfl, rfl, rfl, rfl, trivial⟩ (.cons_cons _ (List.nil_sublist _)) ⟨mB, mB, mB, mB, mB, mB, trivial⟩ fun k hk => ?_
      simp only at hk
      refine hc_seq (hc_seq (hc_region (r_move rfl rfl ?_)))
      first | refine r_fieldAddr ⟨_, 7, none⟩ rfl rfl T.fa_api_Sales_2 rfl ?_ | refine r_fieldAddr _ rfl rfl T.fa_api_Sales_2 rfl ?_
      first | refine r_load rfl T.cell_L_api_Advert rfl (cell_own mB rfl) ?_ | refine r_load rfl T.cell_L_api_Advert rfl (cell_blk mB rfl) ?_ | refine r_load rfl T.cell_L_api_Advert rfl (cell_row mB (rows_get0 (by omega) rfl)) ?_ | refine r_load rfl T.cell_L_api_Advert rfl (cell_row_f mB (rows_get (by omega) rfl)) ?_ | refine r_load rfl T.cell_L_api_Advert rfl (cell_rowg mB rfl) ?_
      refine r_len_sl rfl T.u_L_api_Advert rfl ?_
      refine r_lss rfl rfl rfl (hl_nil (then_n ?_))
      first | refine c_dec rfl (fun hb2 => ?_) (fun hb2 => ?_) | refine hc_cond rfl (fun hb2 => ?_) (fun hb2 => ?_)
      ·have hb2' := hb2; try simp at hb2'
       have hk2 : k < qs.l.length := by omega
       have hxk := hsa.ad _ (getD_mem hk2)
       obtain ⟨m, hxm⟩ := Int.eq_ofNat_of_zero_le hxk.1.1
       have hm2 : m < ps.l.length := by omega
       have hsb := sumK_bd hsa m k (by omega)
       have hpb := price_bd hsa.ch hxk.2.2
       refine hc_skip (then_n (hc_seq (hc_block (hc_seq (hc_region ?_)))))
       first | refine r_loadA rfl T.row_api_Sales T.sz_api_Sales rfl mB (by rfl) ?_ | refine r_loadB rfl T.row_api_Sales T.sz_api_Sales rfl mB (by rfl) ?_ | refine r_loadS rfl T.row_api_Sales T.sz_api_Sales rfl rfl (cells_row mB (rows_all (by omega))) ?_
       refine r_move rfl rfl ?_
       refine hl_call F.bold_Price_cb rfl rfl (price_is c ps qs k h0 hk2 hpl hql) (List.Perm.refl _) ⟨mB, mB, trivial⟩ fun _ _ => ?_
       refine r_move rfl rfl (r_extract rfl rfl rfl (r_extract rfl rfl rfl (r_assign rfl rfl (r_assign rfl rfl (hl_nil (then_n (hc_seq (hc_seq (hc_region (r_move rfl rfl (r_neq rfl rfl rfl ?_)))))))))))
       refine hl_nil (then_n ?_)
       first | refine c_dec rfl (fun hb3 => ?_) (fun hb3 => ?_) | refine hc_cond rfl (fun hb3 => ?_) (fun hb3 => ?_)
       ·exact absurd rfl hb3
       ·have hb3' := hb3; try simp at hb3'
        refine hc_skip (then_n ?_)
        refine hc_draw 18 mixed (by decide) (by decide) rfl rfl ?_
        refine hb_ex _ rfl rfl rfl (fun w1 => r_move rfl rfl (hl_nil (qe_done rfl))) ?_
        apply hb_ex _ rfl rfl rfl
        ·intro w1
         first | refine r_fieldAddr ⟨_, 7, none⟩ rfl rfl T.fa_api_Sales_2 rfl ?_ | refine r_fieldAddr _ rfl rfl T.fa_api_Sales_2 rfl ?_
         refine hl_nil ?_
         exact qe_done rfl
        apply hb_ex _ rfl rfl rfl
        ·intro w1
         first | refine r_load rfl T.cell_L_api_Advert rfl (cell_blk mB rfl) ?_ | refine r_load rfl T.cell_L_api_Advert rfl (cell_own mB rfl) ?_ | refine r_load rfl T.cell_L_api_Advert rfl (cell_row mB (rows_get0 (by omega) rfl)) ?_ | refine r_load rfl T.cell_L_api_Advert rfl (cell_row_f mB (rows_get (by omega) rfl)) ?_ | refine r_load rfl T.cell_L_api_Advert rfl (cell_rowg mB rfl) ?_
         refine hl_nil ?_
         exact qe_done rfl
        refine hb_ex _ rfl rfl rfl (fun w1 => r_move rfl rfl (hl_nil (qe_done rfl))) ?_
        refine hb_ex _ rfl rfl rfl (fun w1 => r_elem (α := Ad) _ _ rfl T.u_L_api_Advert T.sz_api_Advert rfl rfl rfl mB rfl (by omega) (by decide) (hl_nil (qe_done rfl))) ?_
        apply hb_ex _ rfl rfl rfl
        ·intro w1
         first | refine r_fieldAddr ⟨_, 0, none⟩ rfl rfl T.fa_api_Advert_0 rfl ?_ | refine r_fieldAddr _ rfl rfl T.fa_api_Advert_0 rfl ?_
         refine hl_nil ?_
         exact qe_done rfl
        refine hb_ex _ rfl rfl rfl (fun w1 => r_load rfl T.cell_int rfl (cell_row mB (rows_get0 (by omega) rfl)) (hl_nil (qe_done rfl))) ?_
        refine hb_ex _ rfl rfl rfl (fun w1 => r_move rfl rfl (hl_nil (qe_done rfl))) ?_
        apply hb_ex _ rfl rfl rfl
        ·intro w1
         first | refine r_fieldAddr ⟨_, 7, none⟩ rfl rfl T.fa_api_Sales_2 rfl ?_ | refine r_fieldAddr _ rfl rfl T.fa_api_Sales_2 rfl ?_
         refine hl_nil ?_
         exact qe_done rfl
        apply hb_ex _ rfl rfl rfl
        ·intro w1
         first | refine r_load rfl T.cell_L_api_Advert rfl (cell_blk mB rfl) ?_ | refine r_load rfl T.cell_L_api_Advert rfl (cell_own mB rfl) ?_ | refine r_load rfl T.cell_L_api_Advert rfl (cell_row mB (rows_get0 (by omega) rfl)) ?_ | refine r_load rfl T.cell_L_api_Advert rfl (cell_row_f mB (rows_get (by omega) rfl)) ?_ | refine r_load rfl T.cell_L_api_Advert rfl (cell_rowg mB rfl) ?_
         refine hl_nil ?_
         exact qe_done rfl
        refine hb_ex _ rfl rfl rfl (fun w1 => r_move rfl rfl (hl_nil (qe_done rfl))) ?_
        refine hb_ex _ rfl rfl rfl (fun w1 => r_elem (α := Ad) _ _ rfl T.u_L_api_Advert T.sz_api_Advert rfl rfl rfl mB rfl (by omega) (by decide) (hl_nil (qe_done rfl))) ?_
        apply hb_ex _ rfl rfl rfl
        ·intro w1
         first | refine r_fieldAddr ⟨_, 0, none⟩ rfl rfl T.fa_api_Advert_0 rfl ?_ | refine r_fieldAddr _ rfl rfl T.fa_api_Advert_0 rfl ?_
         refine hl_nil ?_
         exact qe_done rfl
        refine hb_ex _ rfl rfl rfl (fun w1 => r_load rfl T.cell_int rfl (cell_row mB (rows_get0 (by omega) rfl)) (hl_nil (qe_done rfl))) ?_
        refine hb_ex _ rfl rfl rfl (fun w1 => r_indexAddr_own m (m * 1) rfl T.u_ints T.sz_int rfl rfl hxm (by omega) (by omega) (hl_nil (qe_done rfl))) ?_
        refine hb_ex _ rfl rfl rfl (fun w1 => r_load (v := int (sumK c qs.l k m)) rfl T.cell_int rfl (cell_blkf (α := Int) (k := m) (f := 0) (l := (sumsL c qs.l ps.l.length k)) (t := T.int) (fz := (0, 0)) (by repeat constructor) rfl (by rw [range_len]; exact hm2) (by rw [range_getD _ hm2]; rfl)) (hl_nil (qe_done rfl))) ?_
        refine hb_ex _ rfl rfl rfl (fun w1 => r_move rfl rfl (hl_nil (qe_done rfl))) ?_
        refine hb_ex _ rfl rfl rfl (fun w1 => r_add _ rfl rfl rfl rfl (by unfold I64; omega) (hl_nil (qe_done rfl))) ?_
        refine hb_nil ⟨rfl, ?_⟩
        refine r_indexAddr_own m (m * 1) rfl T.u_ints T.sz_int rfl rfl hxm (by omega) (by omega) ?_
        refine r_storef (α := Int) (k := m) (f := 0) (sumK c qs.l k m + priceN c (qs.l.getD k default)) rfl rfl rfl (.refl _) T.sz_int (by rw [range_len]; exact hm2) (by decide) rfl rfl ?_
        rw [sums_set hk2 hxm hm2]
        refine hl_nil (inb_n (then_n (hc_region (r_move rfl rfl ?_))))
        refine r_add _ rfl rfl rfl rfl (by unfold I64; omega) ?_
        refine r_assign rfl rfl (hl_nil ?_)
        exact again _ (k + 1) (by show k + 1 ≤ qs.l.length; omega) (by show qs.l.length - (k + 1) < qs.l.length - k; omega) ⟨rfl, rfl, rfl, rfl, rfl, rfl, trivial⟩ (.refl _) ⟨mB, mB, mB, mB, mB, mB, trivial⟩
      ·have hb2' := hb2; try simp at hb2'
       obtain rfl : k = qs.l.length := by omega
       refine hc_exit (then_exit (then_exit (inb_hit (then_n (hc_seq (hc_seq ?_))))))
       refine hc_letgo (rows (sumsL c qs.l ps.l.length qs.l.length)) (List.prefix_refl _) ?_
       refine hc_region (r_assign rfl rfl (hl_nil (then_n (hc_block ?_))))
       refine hc_loop (β := Nat) ⟨fun i => i ≤ ps.l.length, fun i => [(3, .pointer (some ⟨gS, 0, none⟩)), (4, .slice bx1 ps.l.length cx1), (6, .slice bx2 ps.l.length cx2), (8, .slice bx3 (discK c ps.l qs.l 10).length cx3), (10, .slice (some ⟨go, 0, none⟩) ps.l.length ps.l.length), (14, int i)], fun _ => [], fun _ => [Row (some ⟨go, 0, none⟩) (rows (sumsL c qs.l ps.l.length qs.l.length)), Row bx3 (rows (discK c ps.l qs.l 10)), Row bx2 (rows (numsN 102 c ps.l qs.l)), Row bx1 (rows (numsN 103 c ps.l qs.l)), Blk gS (.cells (saC c ps qs) T.api_Sales (0, 0)), Row ps.a (rows ps.l), Row qs.a (rows qs.l)]⟩ (fun i => ps.l.length - i) 0 (Nat.zero_le _) ⟨rfl, rfl, rfl, rfl, rfl, rfl, trivial⟩ (.refl _) ⟨mB, mB, mB, mB, mB, mB, mB, trivial⟩ fun i hi => ?_
       simp only at hi
       refine hc_seq (hc_seq (hc_region (r_move rfl rfl (r_move rfl rfl ?_))))
       refine r_len_sl rfl T.u_ints rfl ?_
       refine r_lss rfl rfl rfl (hl_nil (then_n ?_))
       first | refine c_dec rfl (fun hb4 => ?_) (fun hb4 => ?_) | refine hc_cond rfl (fun hb4 => ?_) (fun hb4 => ?_)
       ·have hb4' := hb4; try simp at hb4'
        have hi2 : i < ps.l.length := by omega
        have hba := bill_at c ps.l qs.l hi2
        have hsv := saved_at c ps.l qs.l hi2
        have hsu : (sumsL c qs.l ps.l.length qs.l.length).getD i default = sumN c qs.l i := range_getD _ hi2
        have hbb := bil_bd hsa i
        have hdu := bil_due hsa i
        have hdm := disc_mem hsa hi2
        have hoo := hsa.ch.2.2.2.2.1
        have hmo : 0 ≤ sumN c qs.l i * (100 - c.2.2.2.2.1) ∧ sumN c qs.l i * (100 - c.2.2.2.2.1) ≤ sumN c qs.l i * 100 := ⟨Int.mul_nonneg (by omega) (by omega), Int.mul_le_mul_of_nonneg_left (by omega) (by omega)⟩
        refine hc_skip (then_n (hc_seq (hc_block (hc_seq (hc_region (r_move rfl rfl (r_move rfl rfl ?_)))))))
        refine r_elem (α := Int) (sumsL c qs.l ps.l.length qs.l.length) i rfl T.u_ints T.sz_int rfl rfl rfl mB (by rw [range_len]) (by rw [range_len]; exact hi2) (by decide) ?_
        refine r_load (v := int (sumN c qs.l i)) rfl T.cell_int rfl (cell_row mB (by rw [← hsu]; exact rows_get0 (by rw [range_len]; exact hi2) rfl)) ?_
        refine r_mul (100 * sumN c qs.l i) rfl rfl rfl rfl (by unfold I64; omega) ?_
        refine r_assign rfl rfl (hl_nil (then_n ?_))
        refine hc_cut ⟨fun d : Int => (0 ≤ d ∧ d ≤ 4800000) ∧ d ≤ 100 * bilN c ps.l qs.l i ∧ 100 * bilN c ps.l qs.l i < d + 100, fun d => [(3, .pointer (some ⟨gS, 0, none⟩)), (4, .slice bx1 ps.l.length cx1), (6, .slice bx2 ps.l.length cx2), (8, .slice bx3 (discK c ps.l qs.l 10).length cx3), (10, .slice (some ⟨go, 0, none⟩) ps.l.length ps.l.length), (14, int i), (15, int d)], fun _ => [], fun _ => [Row (some ⟨go, 0, none⟩) (rows (sumsL c qs.l ps.l.length qs.l.length)), Row bx3 (rows (discK c ps.l qs.l 10)), Row bx2 (rows (numsN 102 c ps.l qs.l)), Row bx1 (rows (numsN 103 c ps.l qs.l)), Blk gS (.cells (saC c ps qs) T.api_Sales (0, 0)), Row ps.a (rows ps.l), Row qs.a (rows qs.l)]⟩ ?_ ?_
        ·skip
         refine hc_seq (hc_region (r_move rfl rfl ?_))
         first | refine r_fieldAddr ⟨_, 6, none⟩ rfl rfl T.fa_api_Sales_1 rfl ?_ | refine r_fieldAddr _ rfl rfl T.fa_api_Sales_1 rfl ?_
         first | refine r_load rfl T.cell_ints rfl (cell_own mB rfl) ?_ | refine r_load rfl T.cell_ints rfl (cell_blk mB rfl) ?_ | refine r_load rfl T.cell_ints rfl (cell_row mB (rows_get0 (by omega) rfl)) ?_ | refine r_load rfl T.cell_ints rfl (cell_row_f mB (rows_get (by omega) rfl)) ?_ | refine r_load rfl T.cell_ints rfl (cell_rowg mB rfl) ?_
         refine r_move rfl rfl ?_
         refine r_elem (α := Int) ps.l i rfl T.u_ints T.sz_int rfl rfl rfl mB rfl (hi2) (by decide) ?_
         refine r_load (v := int (ps.l.getD i default)) rfl T.cell_int rfl (cell_row mB (rows_get0 (hi2) rfl)) ?_
         refine hl_call F.kit_Index_cb rfl rfl (kit_Index_meets (discK c ps.l qs.l 10) (ps.l.getD i default) (by have := discK_len c ps.l qs.l 10; omega)) (List.Perm.refl _) ⟨mB, trivial⟩ fun z hz => ?_
         refine r_geq rfl rfl rfl (hl_nil (then_n ?_))
         first | refine c_dec rfl (fun hb5 => ?_) (fun hb5 => ?_) | refine hc_cond rfl (fun hb5 => ?_) (fun hb5 => ?_)
         ·have hb5' := hb5; try simp at hb5'
          have hof := hdm.1 (hz.1.1 hb5)
          rw [if_pos hof] at hdu
          refine hc_draw 8 mixed (by decide) (by decide) rfl rfl ?_
          refine hb_ex _ rfl rfl rfl (fun w1 => r_move rfl rfl (hl_nil (qe_done rfl))) ?_
          refine hb_ex _ rfl rfl rfl (fun w1 => r_move rfl rfl (hl_nil (qe_done rfl))) ?_
          refine hb_ex _ rfl rfl rfl (fun w1 => r_elem (α := Int) (sumsL c qs.l ps.l.length qs.l.length) i rfl T.u_ints T.sz_int rfl rfl rfl mB (by rw [range_len]) (by rw [range_len]; exact hi2) (by decide) (hl_nil (qe_done rfl))) ?_
          refine hb_ex _ rfl rfl rfl (fun w1 => r_load (v := int (sumN c qs.l i)) rfl T.cell_int rfl (cell_row mB (by rw [← hsu]; exact rows_get0 (by rw [range_len]; exact hi2) rfl)) (hl_nil (qe_done rfl))) ?_
          apply hb_ex _ rfl rfl rfl
          ·intro w1
           first | refine r_fieldAddr ⟨_, 0, none⟩ rfl rfl T.fa_api_Sales_0 rfl ?_ | refine r_fieldAddr _ rfl rfl T.fa_api_Sales_0 rfl ?_
           refine hl_nil ?_
           exact qe_done rfl
          apply hb_ex _ rfl rfl rfl
          ·intro w1
           first | refine r_fieldAddr ⟨_, 4, none⟩ rfl rfl T.fa_api_Charges_4 rfl ?_ | refine r_fieldAddr _ rfl rfl T.fa_api_Charges_4 rfl ?_
           refine hl_nil ?_
           exact qe_done rfl
          apply hb_ex _ rfl rfl rfl
          ·intro w1
           first | refine r_load rfl T.cell_int rfl (cell_blk mB rfl) ?_ | refine r_load rfl T.cell_int rfl (cell_own mB rfl) ?_ | refine r_load rfl T.cell_int rfl (cell_row mB (rows_get0 (by omega) rfl)) ?_ | refine r_load rfl T.cell_int rfl (cell_row_f mB (rows_get (by omega) rfl)) ?_ | refine r_load rfl T.cell_int rfl (cell_rowg mB rfl) ?_
           refine hl_nil ?_
           exact qe_done rfl
          refine hb_ex _ rfl rfl rfl (fun w1 => r_sub _ rfl rfl rfl rfl (by unfold I64; omega) (hl_nil (qe_done rfl))) ?_
          refine hb_nil ⟨rfl, ?_⟩
          refine r_mul (sumN c qs.l i * (100 - c.2.2.2.2.1)) rfl rfl rfl rfl (by unfold I64; omega) ?_
          refine r_assign rfl rfl (hl_nil ?_)
          exact cut_n _ (sumN c qs.l i * (100 - c.2.2.2.2.1)) ⟨by omega, hdu.1, hdu.2⟩ ⟨rfl, rfl, rfl, rfl, rfl, rfl, rfl, trivial⟩ (List.Sublist.refl _) ⟨mB, mB, mB, mB, mB, mB, mB, trivial⟩
         ·have hb5' := hb5; try simp at hb5'
          have hof := mt (fun e => hz.1.2 (hdm.2 e)) hb5
          rw [if_neg hof] at hdu
          refine hc_skip ?_
          exact cut_n _ (100 * sumN c qs.l i) ⟨by omega, by omega, by omega⟩ ⟨rfl, rfl, rfl, rfl, rfl, rfl, rfl, trivial⟩ (List.Sublist.refl _) ⟨mB, mB, mB, mB, mB, mB, mB, trivial⟩
        ·intro d hd
         obtain ⟨hd0, hd1, hd2⟩ := hd
         refine hc_seq ?_
         refine hc_draw 36 mixed (by decide) (by decide) rfl rfl ?_
         refine hb_ex _ rfl rfl rfl (fun w1 => r_move rfl rfl (hl_nil (qe_done rfl))) ?_
         refine hb_ex _ rfl rfl rfl (fun w1 => r_move rfl rfl (hl_nil (qe_done rfl))) ?_
         refine hb_ex _ rfl rfl rfl (fun w1 => r_elem (α := Int) (numsN 103 c ps.l qs.l) i rfl T.u_ints T.sz_int rfl rfl rfl mB (by rw [nums_len]) (by rw [nums_len]; exact hi2) (by decide) (hl_nil (qe_done rfl))) ?_
         refine hb_ex _ rfl rfl rfl (fun w1 => r_load (v := int (bilN c ps.l qs.l i)) rfl T.cell_int rfl (cell_row mB (by rw [← hba]; exact rows_get0 (by rw [nums_len]; exact hi2) rfl)) (hl_nil (qe_done rfl))) ?_
         refine hb_ex _ rfl rfl rfl (fun w1 => r_mul (100 * bilN c ps.l qs.l i) rfl rfl rfl rfl (by unfold I64; omega) (hl_nil (qe_done rfl))) ?_
         refine hb_ex _ rfl rfl rfl (fun w1 => r_move rfl rfl (hl_nil (qe_done rfl))) ?_
         refine hb_ex _ rfl rfl rfl (fun w1 => r_lss rfl rfl rfl (hl_nil (qe_done rfl))) ?_
         refine hb_ex _ rfl rfl rfl (fun w1 => r_move rfl rfl (hl_nil (qe_done rfl))) ?_
         refine hb_split (t := 131) (want := false) rfl ?_ ?_
         ·intro hg5; have hg5' := hg5; try simp at hg5'
          apply hb_ex _ rfl rfl rfl
          ·intro w1
           refine g_yes rfl rfl hg5 (r_move rfl rfl (hl_nil ?_))
           exact qe_done rfl
          apply hb_ex _ rfl rfl rfl
          ·intro w1
           refine g_yes rfl rfl hg5 (r_move rfl rfl (hl_nil ?_))
           exact qe_done rfl
          apply hb_ex _ rfl rfl rfl
          ·intro w1
           refine g_yes rfl rfl hg5 ?_
           refine r_elem (α := Int) (numsN 103 c ps.l qs.l) i rfl T.u_ints T.sz_int rfl rfl rfl mB (by rw [nums_len]) (by rw [nums_len]; exact hi2) (by decide) ?_
           refine hl_nil ?_
           exact qe_done rfl
          apply hb_ex _ rfl rfl rfl
          ·intro w1
           refine g_yes rfl rfl hg5 ?_
           refine r_load (v := int (bilN c ps.l qs.l i)) rfl T.cell_int rfl (cell_row mB (by rw [← hba]; exact rows_get0 (by rw [nums_len]; exact hi2) rfl)) ?_
           refine hl_nil ?_
           exact qe_done rfl
          apply hb_ex _ rfl rfl rfl
          ·intro w1
           refine g_yes rfl rfl hg5 ?_
           refine r_mul (100 * bilN c ps.l qs.l i) rfl rfl rfl rfl (by unfold I64; omega) ?_
           refine hl_nil ?_
           exact qe_done rfl
          apply hb_ex _ rfl rfl rfl
          ·intro w1
           refine g_yes rfl rfl hg5 (r_move rfl rfl (hl_nil ?_))
           exact qe_done rfl
          apply hb_ex _ rfl rfl rfl
          ·intro w1
           refine g_yes rfl rfl hg5 ?_
           refine r_add _ rfl rfl rfl rfl (by unfold I64; omega) ?_
           refine hl_nil ?_
           exact qe_done rfl
          apply hb_ex _ rfl rfl rfl
          ·intro w1
           refine g_yes rfl rfl hg5 (r_geq rfl rfl rfl (hl_nil ?_))
           exact qe_done rfl
          refine hb_ex _ rfl rfl rfl (fun w1 => p_f rfl rfl (bf1 hg5) rfl (hl_nil (qe_done rfl))) ?_
          refine hb_ex _ rfl rfl rfl (fun w1 => r_move rfl rfl (hl_nil (qe_done rfl))) ?_
          refine hb_split (t := 141) (want := false) rfl ?_ ?_
          ·intro hg6; have hg6' := hg6; try simp at hg6'
           apply hb_ex _ rfl rfl rfl
           ·intro w1
            refine g_yes rfl rfl hg6 (r_move rfl rfl (hl_nil ?_))
            exact qe_done rfl
           apply hb_ex _ rfl rfl rfl
           ·intro w1
            refine g_yes rfl rfl hg6 (r_move rfl rfl (hl_nil ?_))
            exact qe_done rfl
           apply hb_ex _ rfl rfl rfl
           ·intro w1
            refine g_yes rfl rfl hg6 ?_
            refine r_elem (α := Int) (numsN 103 c ps.l qs.l) i rfl T.u_ints T.sz_int rfl rfl rfl mB (by rw [nums_len]) (by rw [nums_len]; exact hi2) (by decide) ?_
            refine hl_nil ?_
            exact qe_done rfl
           apply hb_ex _ rfl rfl rfl
           ·intro w1
            refine g_yes rfl rfl hg6 ?_
            refine r_load (v := int (bilN c ps.l qs.l i)) rfl T.cell_int rfl (cell_row mB (by rw [← hba]; exact rows_get0 (by rw [nums_len]; exact hi2) rfl)) ?_
            refine hl_nil ?_
            exact qe_done rfl
           apply hb_ex _ rfl rfl rfl
           ·intro w1
            refine g_yes rfl rfl hg6 (r_move rfl rfl (hl_nil ?_))
            exact qe_done rfl
           apply hb_ex _ rfl rfl rfl
           ·intro w1
            refine g_yes rfl rfl hg6 (r_move rfl rfl (hl_nil ?_))
            exact qe_done rfl
           apply hb_ex _ rfl rfl rfl
           ·intro w1
            refine g_yes rfl rfl hg6 ?_
            refine r_elem (α := Int) (numsN 102 c ps.l qs.l) i rfl T.u_ints T.sz_int rfl rfl rfl mB (by rw [nums_len]) (by rw [nums_len]; exact hi2) (by decide) ?_
            refine hl_nil ?_
            exact qe_done rfl
           apply hb_ex _ rfl rfl rfl
           ·intro w1
            refine g_yes rfl rfl hg6 ?_
            refine r_load (v := int (sumN c qs.l i - bilN c ps.l qs.l i)) rfl T.cell_int rfl (cell_row mB (by rw [← hsv]; exact rows_get0 (by rw [nums_len]; exact hi2) rfl)) ?_
            refine hl_nil ?_
            exact qe_done rfl
           apply hb_ex _ rfl rfl rfl
           ·intro w1
            refine g_yes rfl rfl hg6 ?_
            refine r_add _ rfl rfl rfl rfl (by unfold I64; omega) ?_
            refine hl_nil ?_
            exact qe_done rfl
           apply hb_ex _ rfl rfl rfl
           ·intro w1
            refine g_yes rfl rfl hg6 (r_move rfl rfl (hl_nil ?_))
            exact qe_done rfl
           apply hb_ex _ rfl rfl rfl
           ·intro w1
            refine g_yes rfl rfl hg6 (r_move rfl rfl (hl_nil ?_))
            exact qe_done rfl
           apply hb_ex _ rfl rfl rfl
           ·intro w1
            refine g_yes rfl rfl hg6 ?_
            refine r_elem (α := Int) (sumsL c qs.l ps.l.length qs.l.length) i rfl T.u_ints T.sz_int rfl rfl rfl mB (by rw [range_len]) (by rw [range_len]; exact hi2) (by decide) ?_
            refine hl_nil ?_
            exact qe_done rfl
           apply hb_ex _ rfl rfl rfl
           ·intro w1
            refine g_yes rfl rfl hg6 ?_
            refine r_load (v := int (sumN c qs.l i)) rfl T.cell_int rfl (cell_row mB (by rw [← hsu]; exact rows_get0 (by rw [range_len]; exact hi2) rfl)) ?_
            refine hl_nil ?_
            exact qe_done rfl
           apply hb_ex _ rfl rfl rfl
           ·intro w1
            refine g_yes rfl rfl hg6 (r_neq rfl rfl rfl (hl_nil ?_))
            exact qe_done rfl
           refine hb_ex _ rfl rfl rfl (fun w1 => p_f rfl rfl (bf1 hg6) rfl (hl_nil (qe_done rfl))) ?_
           refine hb_ex _ rfl rfl rfl (fun w1 => r_move rfl rfl (hl_nil (qe_done rfl))) ?_
           refine hb_split (t := 157) (want := false) rfl ?_ ?_
           ·intro hg7; have hg7' := hg7; try simp at hg7'
            apply hb_ex _ rfl rfl rfl
            ·intro w1
             refine g_yes rfl rfl hg7 (r_move rfl rfl (hl_nil ?_))
             exact qe_done rfl
            apply hb_ex _ rfl rfl rfl
            ·intro w1
             refine g_yes rfl rfl hg7 (r_move rfl rfl (hl_nil ?_))
             exact qe_done rfl
            refine hb_nil ⟨rfl, ?_⟩
            refine g_yes rfl rfl hg7 ?_
            refine r_elem (α := Int) (numsN 102 c ps.l qs.l) i rfl T.u_ints T.sz_int rfl rfl rfl mB (by rw [nums_len]) (by rw [nums_len]; exact hi2) (by decide) ?_
            refine g_yes rfl rfl hg7 ?_
            refine r_load (v := int (sumN c qs.l i - bilN c ps.l qs.l i)) rfl T.cell_int rfl (cell_row mB (by rw [← hsv]; exact rows_get0 (by rw [nums_len]; exact hi2) rfl)) ?_
            refine g_yes rfl rfl hg7 (r_lss rfl rfl rfl ?_)
            refine p_f rfl rfl (bf1 hg7) rfl ?_
            refine hl_nil (then_n ?_)
            first | refine c_dec rfl (fun hb6 => ?_) (fun hb6 => ?_) | refine hc_cond rfl (fun hb6 => ?_) (fun hb6 => ?_)
            ·all_goals omega
            ·have hb6' := hb6; try simp at hb6'
             refine hc_skip (inb_n (then_n (hc_region (r_move rfl rfl ?_))))
             refine r_add _ rfl rfl rfl rfl (by unfold I64; omega) ?_
             refine r_assign rfl rfl (hl_nil ?_)
             exact again _ (i + 1) (by show i + 1 ≤ ps.l.length; omega) (by show ps.l.length - (i + 1) < ps.l.length - i; omega) ⟨rfl, rfl, rfl, rfl, rfl, rfl, trivial⟩ (.refl _) ⟨mB, mB, mB, mB, mB, mB, mB, trivial⟩
           ·intro hg7; have hg7' := hg7; try simp at hg7'
            all_goals omega
          ·intro hg6; have hg6' := hg6; try simp at hg6'
           all_goals omega
         ·intro hg5; have hg5' := hg5; try simp at hg5'
          all_goals omega
       ·have hb4' := hb4; try simp at hb4'
        obtain rfl : i = ps.l.length := by omega
        refine hc_exit (then_exit (then_exit (inb_hit (then_n (hc_seq (hc_region ?_))))))
        refine hl_call F.law09_paying_cb rfl rfl (law09_paying_meets) (List.Perm.refl _) trivial fun _ _ => ?_
        refine r_assign rfl rfl (hl_nil (then_n (hc_ret ?_)))
        exact ret1 () rfl rfl rfl trivial (List.nil_sublist _) trivial
    ·intro hg4; have hg4' := hg4; try simp at hg4'
     all_goals omega
   ·intro hg3; have hg3' := hg3; try simp at hg3'
  ·intro hg2; have hg2' := hg2; try simp at hg2'
 ·intro hg1; have hg1' := hg1; try simp at hg1'
end Go.Proofs.Ytdlbbfcfahahdaa
end
