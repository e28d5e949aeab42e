/- The walk of the statement TradeDrops. -/
import Derived.Test.YtlpgheniajdkfaaGreatPnj
import Derived.Test.YtlpgheniajdkfaaGreatPnk
namespace Go.Proofs.YtlpgheniajdkfaaGreat
open Go Go.W
set_option linter.unusedVariables false
set_option linter.unusedSimpArgs false
set_option maxRecDepth 20000
attribute [local irreducible] HL HC HQ HB Row Rows2 Blk Facts

theorem dropE_ok {cs : List Cl} {hs : List Hd} {h : Int} {x : OutR} (hx : TrIs (dropE (trOf cs hs) h).1 x) (ha : ∀ h ∈ hs, h.2.2.2.l.length ≤ 1000000) : (dropE (trOf cs hs) h).1.cs.length ≤ cs.length ∧ x.1.length ≤ hs.length ∧ ∀ y ∈ x.1, y.2.2.2.l.length ≤ 1000000 := by
  obtain ⟨hp, _, _⟩ := hx
  unfold dropE at hp ⊢
  split at hp
  · rename_i h1
    rw [if_pos h1]
    have h2 : x.1 = [] := List.map_eq_nil_iff.1 hp
    rw [h2]
    exact ⟨Nat.zero_le _, Nat.zero_le _, fun y hy => by cases hy⟩
  · rename_i h1
    rw [if_neg h1]
    have hH : (hs.map Hd.p).length = hs.length := List.length_map ..
    have hp2 : x.1.map Hd.p = dropHs (hs.map Hd.p) (goneB (hs.map Hd.p) h.toNat) (hs.map Hd.p).length := hp
    refine ⟨Nat.le_refl _, ?_, drop_ha ha (by rw [hH]; exact Nat.le_refl _) hp2⟩
    have h3 := congrArg List.length hp2
    rw [List.length_map, dropHs_len] at h3
    have := num_le (goneB (hs.map Hd.p) h.toNat) (hs.map Hd.p).length
    omega
theorem compareE_len (a b : Tr) : (compareE a b).1.length ≤ a.hs.length + b.hs.length := by
  unfold compareE
  split
  · exact Nat.zero_le _
  · split
    · exact Nat.zero_le _
    · show (compareT a b).length ≤ _
      unfold compareT
      refine Nat.le_trans (List.length_filterMap_le _ _) (Nat.le_trans (sortU_len _) ?_)
      unfold wordsT
      rw [List.length_append, List.length_map, List.length_map]
      exact Nat.le_refl _

set_option maxHeartbeats 2000000 in
theorem law04_TradeDrops_meets {A0 B0 A1 B1 N : Option Addr} {ca0 cb0 ca1 cb1 nc : Nat} (cs0 : List Cl) (hs0 : List Hd) (cs1 : List Cl) (hs1 : List Hd) (h0 : Hd) (b : Int) (nums : List Int) (hca0 : cs0.length ≤ ca0 ∧ ca0 ≤ 9223372036854775807) (hcb0 : hs0.length ≤ cb0 ∧ cb0 ≤ 9223372036854775807) (hca1 : cs1.length ≤ ca1 ∧ ca1 ≤ 9223372036854775807) (hcb1 : hs1.length ≤ cb1 ∧ cb1 ≤ 9223372036854775807) (hn : nums.length ≤ 9223372036854775807) : Meets Tryz.prog F.law04_TradeDrops [.agg #[.slice A0 cs0.length ca0, .slice B0 hs0.length cb0], .agg #[.slice A1 cs1.length ca1, .slice B1 hs1.length cb1], .agg (El.cells h0).toArray, int b, .slice N nums.length nc] { LI := [Row A0 (rows cs0), RowsF B0 hs0 Hd.row, Row A1 (rows cs1), RowsF B1 hs1 Hd.row, Hd.row h0, Row N (rows nums)], val := fun _ : Unit => .bool true } := by
 refine meets_intro F.law04_TradeDrops_f rfl (Nat.le_of_ble_eq_true rfl) fun w0 => ?_
 refine hc_seq (hc_region ?_)
 refine r_box rfl rfl fun gB => ?_
 refine r_box rfl rfl fun gC => ?_
 refine r_box rfl rfl fun gE => ?_
 refine r_assign rfl rfl (hl_nil (then_n (hc_seq (hc_seq (hc_letgoB (hc_letgoB (hc_letgoB (hc_region ?_))))))))
 refine r_loadB rfl T.row_api_Trades T.sz_api_Trades rfl (by repeat constructor) (by rfl) ?_
 refine hl_call F.law04_short_cb rfl rfl (law04_short_meets cs0 hs0 (by omega) (by omega)) (List.Perm.refl _) ⟨(by repeat constructor), (by repeat constructor), trivial⟩ fun bs hbs => ?_
 refine r_not rfl rfl (r_move rfl rfl ?_)
 refine g_split rfl rfl ?_ ?_
 ·intro hg1; have hg1' := hg1; try simp at hg1'
  have hbt : bs = true := by simpa using hg1
  obtain ⟨hc20, hh20, hha, hwc, hwh⟩ := hbs hbt
  refine g_yes rfl rfl hg1 ?_
  refine r_loadB rfl T.row_api_Trades T.sz_api_Trades rfl (by repeat constructor) (by rfl) ?_
  refine g_yes rfl rfl hg1 ?_
  refine hl_call F.law04_short_cb rfl rfl (law04_short_meets cs1 hs1 (by omega) (by omega)) (List.Perm.refl _) ⟨(by repeat constructor), (by repeat constructor), trivial⟩ fun bs1 hbs1 => ?_
  refine g_yes rfl rfl hg1 (r_not rfl rfl ?_)
  refine p_f rfl rfl (bf1 hg1) rfl ?_
  refine r_move rfl rfl ?_
  refine g_split rfl rfl ?_ ?_
  ·intro hg2; have hg2' := hg2; try simp at hg2'
   have hbt1 : bs1 = true := by simpa using hg2
   obtain ⟨hd20, hi20, hia, hxc, hxh⟩ := hbs1 hbt1
   refine g_yes rfl rfl hg2 ?_
   refine r_fieldAddr ⟨_, 0, none⟩ rfl rfl T.fa_api_Head_0 rfl ?_
   refine g_yes rfl rfl hg2 ?_
   refine r_load rfl T.cell_string rfl (cell_blk (by repeat constructor) rfl) ?_
   refine g_yes rfl rfl hg2 ?_
   refine r_len_str rfl T.u_string rfl ?_
   refine g_yes rfl rfl hg2 (r_gtr rfl rfl rfl ?_)
   refine p_f rfl rfl (bf1 hg2) rfl ?_
   refine r_move rfl rfl ?_
   refine g_split rfl rfl ?_ ?_
   ·intro hg3; have hg3' := hg3; try simp at hg3'
    have hw40 : ¬ (40 : Int) < h0.1.length := of_decide_eq_false (eq_of_beq hg3)
    refine g_yes rfl rfl hg3 ?_
    refine r_fieldAddr ⟨_, 3, none⟩ rfl rfl T.fa_api_Head_3 rfl ?_
    refine g_yes rfl rfl hg3 ?_
    refine r_load rfl T.cell_ints rfl (cell_blk (by repeat constructor) rfl) ?_
    refine g_yes rfl rfl hg3 ?_
    refine r_len_sl rfl T.u_ints rfl ?_
    refine g_yes rfl rfl hg3 (r_gtr rfl rfl rfl ?_)
    refine p_f rfl rfl (bf1 hg3) rfl ?_
    refine hl_nil (then_n ?_)
    refine c_dec rfl (fun hb1 => ?_) (fun hb1 => ?_)
    ·have hb1' := hb1; try simp at hb1'
     refine hc_seq (hc_region ?_)
     refine hl_call F.law04_indexed_cb rfl rfl (law04_indexed_meets) (List.Perm.refl _) trivial fun _ _ => ?_
     refine r_assign rfl rfl (hl_nil (then_n (hc_ret (then_ret ?_))))
     exact ret1 () rfl rfl rfl trivial (List.nil_sublist _) trivial
    ·have hb1' := hb1; try simp at hb1'
     have hd0 : TdOK ((⟨A0, ca0, cs0⟩, ⟨B0, cb0, hs0⟩) : Td) := ⟨hca0.1, hcb0.1, hc20, hh20, hha, hwc, hwh⟩
     have hd9 : TdOK ((⟨A1, ca1, cs1⟩, ⟨B1, cb1, hs1⟩) : Td) := ⟨hca1.1, hcb1.1, hd20, hi20, hia, hxc, hxh⟩
     have hh0 : h0.2.2.2.l.length ≤ 1000000 := by omega
     have hhw0 : h0.1.length ≤ 1000 := by omega
     refine hc_skip (then_n (hc_seq (hc_region (r_move rfl rfl ?_))))
     refine hl_call F.kit_NewDice_cb rfl rfl (kit_NewDice_meets nums) (List.Perm.refl _) ⟨(by repeat constructor), trivial⟩ fun gd _ => ?_
     refine r_assign rfl rfl (hl_nil (then_n (hc_seq (hc_region ?_))))
     refine r_loadB rfl T.row_api_Trades T.sz_api_Trades rfl (by repeat constructor) (by rfl) ?_
     refine r_loadB rfl T.row_api_Head T.sz_api_Head rfl (by repeat constructor) (by rfl) ?_
     refine r_move rfl rfl ?_
     refine hl_facts (Fs := [Row ((⟨A0, ca0, cs0⟩, ⟨B0, cb0, hs0⟩) : Td).1.a (rows ((⟨A0, ca0, cs0⟩, ⟨B0, cb0, hs0⟩) : Td).1.l), RowsF ((⟨A0, ca0, cs0⟩, ⟨B0, cb0, hs0⟩) : Td).2.a ((⟨A0, ca0, cs0⟩, ⟨B0, cb0, hs0⟩) : Td).2.l Hd.row]) (by intro F hF; simp only [List.mem_cons, List.not_mem_nil, or_false] at hF; rcases hF with rfl | rfl; exact .inl (by repeat constructor); exact .inl (by repeat constructor)) ?_
     refine hl_call F.law04_lists_cb rfl rfl (law04_lists_meets (g := gd) (A := N) (c := nc) ((⟨A0, ca0, cs0⟩, ⟨B0, cb0, hs0⟩) : Td) h0 hn (dok0 nums) hd0 hh0 hhw0) (hpR := []) (List.Perm.refl _) ⟨(by repeat constructor), (by repeat constructor), (by repeat constructor), trivial⟩ fun x hx => ?_
     obtain ⟨sd, gl, d1, d2⟩ := x
     obtain ⟨hsd, ⟨hd1, hT1, h61⟩, hd2⟩ := hx
     simp only at hsd hd1 hT1 h61 hd2
     refine r_assign rfl rfl (hl_nil (then_n (hc_seq ?_)))
     refine hc_dup (F := RowsF (some ⟨gl, 0, none⟩) [((⟨A0, ca0, cs0⟩, ⟨B0, cb0, hs0⟩) : Td), d1, d2, d1] Td.row) (by repeat constructor) ?_
     obtain ⟨dl, hdl⟩ : ∃ dl : List Td, dl = [((⟨A0, ca0, cs0⟩, ⟨B0, cb0, hs0⟩) : Td), d1, d2, d1] := ⟨_, rfl⟩
     rw [← hdl]
     have hdl4 : dl.length = 4 := by rw [hdl]; rfl
     have hdal : ∀ d ∈ dl, TdOK d := by rw [hdl]; intro d hd; simp only [List.mem_cons, List.not_mem_nil, or_false] at hd; rcases hd with rfl | rfl | rfl | rfl; exact hd0; exact hd1; exact hd2; exact hd1
     have hdl1 := hdal _ (getD_mem (l := dl) (k := 1) (by omega))
     have hx1 := hdl1.c
     have hx2 := hdl1.h
     refine hc_outerF (ps := dl) (A := some ⟨gl, 0, none⟩) (f := Td.row) (by repeat constructor) ?_
     refine hc_drawW ([dice gd N nc nums sd]) ([]) (List.Perm.refl _) 28 [24, 16, 2] mixed (by decide) (by decide) (by decide) rfl rfl rfl ?_
     apply hb_ex _ rfl rfl rfl
     ·intro w1
      refine r_loadB rfl T.row_api_Trades T.sz_api_Trades rfl (by repeat constructor) (by rfl) ?_
      refine hl_nil ?_
      exact qe_done rfl
     apply hb_ex _ rfl rfl rfl
     ·intro w1
      refine r_move rfl rfl (hl_nil ?_)
      exact qe_done rfl
     refine hb_wr ⟨(Int × Int) × Td, fun x => DOK nums x.1 ∧ TdOK x.2, fun x => .agg (El.cells x.2).toArray, fun x => [Row x.2.1.a (rows x.2.1.l), RowsF x.2.2.a x.2.2.l Hd.row], fun x => [dice gd N nc nums x.1]⟩ rfl rfl rfl ?_ ?_
     ·intro w1
      refine hl_call F.kit_TradesOf_cb rfl rfl (kit_TradesOf_meets 6 6 hn hsd (by decide) (by decide)) (List.Perm.refl _) ⟨(by repeat constructor), trivial⟩ fun x hx => ?_
      obtain ⟨s9, cs9, hs9, ⟨CA, ca⟩, ⟨HB, cb⟩⟩ := x
      obtain ⟨hs9d, hT⟩ := hx
      simp only at hs9d
      have hca : cs9.length ≤ ca := hT.ca
      have hcb : hs9.length ≤ cb := hT.cb
      have ha : ∀ h ∈ hs9, h.2.2.2.l.length ≤ 1000000 := hT.ha
      have hT0 : checkT (trOf cs9 hs9) = 0 := hT.ok
      have hok : TrOK (trOf cs9 hs9) := tr_ok hT0
      have h6 : cs9.length ≤ 6 := hok.c6
      have h6h : hs9.length ≤ 6 := hT.h2
      clear hT
      refine hl_nil ?_
      exact qw_done (s9, ((⟨CA, ca, cs9⟩, ⟨HB, cb, hs9⟩) : Td)) ⟨hs9d, hca, hcb, by show cs9.length ≤ 20; omega, by show hs9.length ≤ 20; omega, ha, wc_ok hok, wh_ok hok⟩ (fun _ => rfl) (List.Sublist.refl _) ⟨m0, m1, trivial⟩
     apply hb_ex _ rfl rfl rfl
     ·intro w1
      refine r_move rfl rfl (hl_nil ?_)
      exact qe_done rfl
     apply hb_ex _ rfl rfl rfl
     ·intro w1
      refine r_elem (α := Td) dl 1 rfl T.u_L_api_Trades T.sz_api_Trades rfl rfl rfl (by repeat constructor) hdl4.symm (by omega) (by decide) ?_
      refine hl_nil ?_
      exact qe_done rfl
     apply hb_ex _ rfl rfl rfl
     ·intro w1
      refine r_loadS (cs := El.cells (dl.getD 1 default)) rfl T.row_api_Trades T.sz_api_Trades rfl rfl (cells_row (by repeat constructor) (rows_all (by omega))) ?_
      refine hl_nil ?_
      exact qe_done rfl
     apply hb_ex _ rfl rfl rfl
     ·intro w1
      refine r_loadB rfl T.row_api_Trades T.sz_api_Trades rfl (by repeat constructor) (by rfl) ?_
      refine hl_nil ?_
      exact qe_done rfl
     refine hb_vs ⟨Nat × List Td, fun x => x.2.length = 4 ∧ ∀ d ∈ x.2, TdOK d, fun x => .slice (some ⟨x.1, 0, none⟩) 4 4, fun x => [RowsF (some ⟨x.1, 0, none⟩) x.2 Td.row]⟩ rfl rfl rfl ?_ ?_
     ·intro x hx; intro w1
      refine hl_facts (Fs := [Row ((⟨A1, ca1, cs1⟩, ⟨B1, cb1, hs1⟩) : Td).1.a (rows ((⟨A1, ca1, cs1⟩, ⟨B1, cb1, hs1⟩) : Td).1.l), RowsF ((⟨A1, ca1, cs1⟩, ⟨B1, cb1, hs1⟩) : Td).2.a ((⟨A1, ca1, cs1⟩, ⟨B1, cb1, hs1⟩) : Td).2.l Hd.row]) (by intro F hF; simp only [List.mem_cons, List.not_mem_nil, or_false] at hF; rcases hF with rfl | rfl; exact .inl (by repeat constructor); exact .inl (by repeat constructor)) ?_
      refine hl_facts (Fs := [Row x.2.1.a (rows x.2.1.l), RowsF x.2.2.a x.2.2.l Hd.row]) (by intro F hF; simp only [List.mem_cons, List.not_mem_nil, or_false] at hF; rcases hF with rfl | rfl; exact .inl (by repeat constructor); exact .inl (by repeat constructor)) ?_
      refine hl_innerF (p := (dl.getD 1 default)) (f := Td.row) (ps := dl) (by repeat constructor) (getD_mem (by omega)) ?_
      refine r_buildSlice _ rfl rfl (fun _ => T.bs_L_api_Trades_4 ..) fun gS => ?_
      refine hl_nil ?_
      refine hq_letgo (rows ([((⟨A1, ca1, cs1⟩, ⟨B1, cb1, hs1⟩) : Td), x.2, (dl.getD 1 default), ((⟨A1, ca1, cs1⟩, ⟨B1, cb1, hs1⟩) : Td)] : List Td)) (List.prefix_refl _) ?_
      refine hq_facts (Fs := ([((⟨A1, ca1, cs1⟩, ⟨B1, cb1, hs1⟩) : Td), x.2, (dl.getD 1 default), ((⟨A1, ca1, cs1⟩, ⟨B1, cb1, hs1⟩) : Td)] : List Td).map Td.row) (by intro F hF; simp only [List.map_cons, List.map_nil, List.mem_cons, List.not_mem_nil, or_false] at hF; rcases hF with rfl | rfl | rfl | rfl <;> exact .inl (by repeat constructor)) ?_
      refine hq_rowsF (A := some ⟨gS, 0, none⟩) (ps := ([((⟨A1, ca1, cs1⟩, ⟨B1, cb1, hs1⟩) : Td), x.2, (dl.getD 1 default), ((⟨A1, ca1, cs1⟩, ⟨B1, cb1, hs1⟩) : Td)] : List Td)) (f := Td.row) (by repeat constructor) (by repeat constructor) ?_
      exact qv_done (gS, ([((⟨A1, ca1, cs1⟩, ⟨B1, cb1, hs1⟩) : Td), x.2, (dl.getD 1 default), ((⟨A1, ca1, cs1⟩, ⟨B1, cb1, hs1⟩) : Td)] : List Td)) ⟨rfl, by intro d hd; simp only [List.mem_cons, List.not_mem_nil, or_false] at hd; rcases hd with rfl | rfl | rfl | rfl; exact hd9; exact hx.2; exact hdl1; exact hd9⟩ rfl ⟨m0, trivial⟩
     apply hb_ex _ rfl rfl rfl
     ·intro w1
      refine r_move rfl rfl (hl_nil ?_)
      exact qe_done rfl
     apply hb_ex _ rfl rfl rfl
     ·intro w1
      refine r_move rfl rfl (hl_nil ?_)
      exact qe_done rfl
     apply hb_ex _ rfl rfl rfl
     ·intro w1
      refine r_move rfl rfl (hl_nil ?_)
      exact qe_done rfl
     apply hb_ex _ rfl rfl rfl
     ·intro w1
      refine r_elem (α := Td) dl 1 rfl T.u_L_api_Trades T.sz_api_Trades rfl rfl rfl (by repeat constructor) hdl4.symm (by omega) (by decide) ?_
      refine hl_nil ?_
      exact qe_done rfl
     apply hb_ex _ rfl rfl rfl
     ·intro w1
      refine r_fieldAddr _ rfl rfl T.fa_api_Trades_1 rfl (hl_nil ?_)
      exact qe_done rfl
     apply hb_ex _ rfl rfl rfl
     ·intro w1
      refine r_load (v := .slice (dl.getD 1 default).2.a (dl.getD 1 default).2.l.length (dl.getD 1 default).2.c) rfl T.cell_L_api_Head rfl (cell_row_f (cs := rows dl) (by repeat constructor) (rows_get (by omega) rfl)) ?_
      refine hl_nil ?_
      exact qe_done rfl
     apply hb_ex _ rfl rfl rfl
     ·intro w1
      refine r_len_sl rfl T.u_L_api_Head rfl ?_
      refine hl_nil ?_
      exact qe_done rfl
     apply hb_ex _ rfl rfl rfl
     ·intro w1
      refine r_sub (((dl.getD 1 default).2.l.length : Int) - 1) rfl rfl rfl rfl (by unfold I64; omega) ?_
      refine hl_nil ?_
      exact qe_done rfl
     refine hb_wr ⟨(Int × Int) × Int, fun x => DOK nums x.1, fun x => int x.2, fun _ => [], fun x => [dice gd N nc nums x.1]⟩ rfl rfl rfl ?_ ?_
     ·intro x hx; intro w1
      refine hl_call F.kit_Dice_To_cb rfl rfl (kit_Dice_To_meets (((dl.getD 1 default).2.l.length : Int) - 1) hn hx.1 (by omega)) (List.Perm.refl _) ⟨(by repeat constructor), trivial⟩ fun y hy => ?_
      refine hl_nil ?_
      exact qw_done y hy.1 (fun _ => rfl) (List.Sublist.refl _) trivial
     apply hb_ex _ rfl rfl rfl
     ·intro w1
      refine r_move rfl rfl (hl_nil ?_)
      exact qe_done rfl
     apply hb_ex _ rfl rfl rfl
     ·intro w1
      refine r_move rfl rfl (hl_nil ?_)
      exact qe_done rfl
     apply hb_ex _ rfl rfl rfl
     ·intro w1
      refine r_elem (α := Td) dl 1 rfl T.u_L_api_Trades T.sz_api_Trades rfl rfl rfl (by repeat constructor) hdl4.symm (by omega) (by decide) ?_
      refine hl_nil ?_
      exact qe_done rfl
     apply hb_ex _ rfl rfl rfl
     ·intro w1
      refine r_fieldAddr _ rfl rfl T.fa_api_Trades_1 rfl (hl_nil ?_)
      exact qe_done rfl
     apply hb_ex _ rfl rfl rfl
     ·intro w1
      refine r_load (v := .slice (dl.getD 1 default).2.a (dl.getD 1 default).2.l.length (dl.getD 1 default).2.c) rfl T.cell_L_api_Head rfl (cell_row_f (cs := rows dl) (by repeat constructor) (rows_get (by omega) rfl)) ?_
      refine hl_nil ?_
      exact qe_done rfl
     apply hb_ex _ rfl rfl rfl
     ·intro w1
      refine r_len_sl rfl T.u_L_api_Head rfl ?_
      refine hl_nil ?_
      exact qe_done rfl
     apply hb_ex _ rfl rfl rfl
     ·intro w1
      refine r_sub (((dl.getD 1 default).2.l.length : Int) - 1) rfl rfl rfl rfl (by unfold I64; omega) ?_
      refine hl_nil ?_
      exact qe_done rfl
     refine hb_wr ⟨(Int × Int) × Int, fun x => DOK nums x.1, fun x => int x.2, fun _ => [], fun x => [dice gd N nc nums x.1]⟩ rfl rfl rfl ?_ ?_
     ·intro x hx; intro w1
      refine hl_call F.kit_Dice_To_cb rfl rfl (kit_Dice_To_meets (((dl.getD 1 default).2.l.length : Int) - 1) hn hx (by omega)) (List.Perm.refl _) ⟨(by repeat constructor), trivial⟩ fun y hy => ?_
      refine hl_nil ?_
      exact qw_done y hy.1 (fun _ => rfl) (List.Sublist.refl _) trivial
     apply hb_ex _ rfl rfl rfl
     ·intro w1
      refine r_move rfl rfl (hl_nil ?_)
      exact qe_done rfl
     refine hb_vs ⟨Nat × List Int, fun x => x.2.length = 4, fun x => .slice (some ⟨x.1, 0, none⟩) 4 4, fun x => [Row (some ⟨x.1, 0, none⟩) (rows x.2)]⟩ rfl rfl rfl ?_ ?_
     ·intro y hy z hz; intro w1
      refine r_buildSlice _ rfl rfl (fun _ => T.bs_ints_4 ..) fun gS => ?_
      refine hl_nil ?_
      refine hq_letgo (rows ([b, y.2, z.2, b] : List Int)) (List.prefix_refl _) ?_
      exact qv_done (gS, [b, y.2, z.2, b]) rfl rfl ⟨m0, trivial⟩
     refine hb_vs ⟨Nat × List Td, fun x => x.2.length = 4 ∧ ∀ d ∈ x.2, TdOK d, fun x => .slice (some ⟨x.1, 0, none⟩) 4 4, fun x => [RowsF (some ⟨x.1, 0, none⟩) x.2 Td.row]⟩ rfl rfl rfl ?_ ?_
     ·intro w hw; intro w1
      refine r_assign rfl rfl (hl_nil ?_)
      exact qv_done w hw rfl ⟨m0, trivial⟩
     refine hb_nil ⟨rfl, ?_⟩
     intro _ _ _ _ _ _ _ _ lx hlx dx hdx
     obtain ⟨gla, la⟩ := lx
     obtain ⟨gl2, dl2⟩ := dx
     have hla4 : la.length = 4 := hlx
     have hdl24 : dl2.length = 4 := hdx.1
     have hdal2 : ∀ d ∈ dl2, TdOK d := hdx.2
     clear hlx hdx
     refine r_assign rfl rfl (hl_nil (then_n (hc_seq (hc_seq ?_))))
     refine hc_outerF (ps := dl2) (A := some ⟨gl2, 0, none⟩) (f := Td.row) (by repeat constructor) ?_
     refine hc_region (r_assign rfl rfl (hl_nil (then_n (hc_block ?_))))
     refine hc_loop (β := Nat) ⟨fun i => i ≤ 4, fun i => [(12, .slice (some ⟨gl, 0, none⟩) 4 4), (13, .slice (some ⟨gl2, 0, none⟩) 4 4), (14, .slice (some ⟨gla, 0, none⟩) 4 4), (15, int i)], fun _ => [], fun _ => [Row (some ⟨gl, 0, none⟩) (rows dl), RowsF (some ⟨gl, 0, none⟩) dl Td.row, Row (some ⟨gl2, 0, none⟩) (rows dl2), RowsF (some ⟨gl2, 0, none⟩) dl2 Td.row, Row (some ⟨gla, 0, none⟩) (rows la)]⟩ (fun i => 4 - i) 0 (Nat.zero_le _) ⟨rfl, rfl, rfl, rfl, trivial⟩ (List.nil_sublist _) ⟨(by repeat constructor), (by repeat constructor), (by repeat constructor), (by repeat constructor), (by repeat constructor), trivial⟩ fun i hi => ?_
     simp only at hi
     refine hc_seq (hc_seq (hc_region (r_move rfl rfl (r_move rfl rfl ?_))))
     refine r_len_sl rfl T.u_L_api_Trades rfl ?_
     refine r_lss rfl rfl rfl (hl_nil (then_n ?_))
     refine c_dec rfl (fun hb2 => ?_) (fun hb2 => ?_)
     ·have hb2' := hb2; try simp at hb2'
      have hi2 : i < 4 := by omega
      obtain ⟨d, hdd⟩ : ∃ d, d = dl.getD i default := ⟨_, rfl⟩
      have hdm : d ∈ dl := by rw [hdd]; exact getD_mem (by omega)
      have hdo := hdal d hdm
      have hd20 := hdo.c
      have hdh20 := hdo.h
      have hdha := hdo.ha
      refine hc_innerF (p := d) (f := Td.row) (ps := dl) (by repeat constructor) hdm ?_
      refine hc_pick (F := Row d.1.a (rows d.1.l)) (Fs := [Row d.1.a (rows d.1.l), RowsF d.2.a d.2.l Hd.row]) (by repeat constructor) (by simp) ?_
      refine hc_pick (F := RowsF d.2.a d.2.l Hd.row) (Fs := [Row d.1.a (rows d.1.l), RowsF d.2.a d.2.l Hd.row]) (by repeat constructor) (by simp) ?_
      obtain ⟨e, hee⟩ : ∃ e, e = dl2.getD i default := ⟨_, rfl⟩
      have hem : e ∈ dl2 := by rw [hee]; exact getD_mem (by omega)
      have heo := hdal2 e hem
      have he20 := heo.c
      have heh20 := heo.h
      have heha := heo.ha
      refine hc_innerF (p := e) (f := Td.row) (ps := dl2) (by repeat constructor) hem ?_
      refine hc_pick (F := Row e.1.a (rows e.1.l)) (Fs := [Row e.1.a (rows e.1.l), RowsF e.2.a e.2.l Hd.row]) (by repeat constructor) (by simp) ?_
      refine hc_pick (F := RowsF e.2.a e.2.l Hd.row) (Fs := [Row e.1.a (rows e.1.l), RowsF e.2.a e.2.l Hd.row]) (by repeat constructor) (by simp) ?_
      refine hc_skip (then_n (hc_seq (hc_block (hc_seq ?_))))
      refine hc_drawW ([]) ([]) (List.Perm.refl _) 12 [] mixed (by decide) (by decide) (by decide) rfl rfl rfl ?_
      apply hb_ex _ rfl rfl rfl
      ·intro w1
       refine r_move rfl rfl (hl_nil ?_)
       exact qe_done rfl
      apply hb_ex _ rfl rfl rfl
      ·intro w1
       refine r_move rfl rfl (hl_nil ?_)
       exact qe_done rfl
      apply hb_ex _ rfl rfl rfl
      ·intro w1
       refine r_elem (α := Td) dl i rfl T.u_L_api_Trades T.sz_api_Trades rfl rfl rfl (by repeat constructor) hdl4.symm (by omega) (by decide) ?_
       refine hl_nil ?_
       exact qe_done rfl
      apply hb_ex _ rfl rfl rfl
      ·intro w1
       refine r_loadS (cs := El.cells d) rfl T.row_api_Trades T.sz_api_Trades rfl rfl (cells_row (by repeat constructor) (by rw [hdd]; exact rows_all (by omega))) ?_
       refine hl_nil ?_
       exact qe_done rfl
      refine hb_vs ⟨(OutC × List Hd × OutC), (fun x => x.2.1.map Hd.p = d.2.l.map Hd.p ∧ d.1.l.length ≤ x.1.2 ∧ x.2.1.length ≤ x.2.2.2), fun x => .agg #[.slice x.1.1 d.1.l.length x.1.2, .slice x.2.2.1 x.2.1.length x.2.2.2], fun x => [Row x.1.1 (rows d.1.l), RowsF x.2.2.1 x.2.1 Hd.row]⟩ rfl rfl rfl ?_ ?_
      ·intro w1
       refine hl_call F.kit_DupTrades_cb rfl rfl (kit_DupTrades_any (A := d.1.a) (B := d.2.a) (ca := d.1.c) (cb := d.2.c) d.1.l d.2.l (by omega) (by omega) hdo.a hdo.b hdha) (hpR := []) (List.Perm.refl _) ⟨(by repeat constructor), (by repeat constructor), trivial⟩ fun x hD => ?_
       obtain ⟨⟨⟨a3, c3⟩, o3⟩, hs2, ⟨⟨a7, c7⟩, o7⟩⟩ := x
       have hp2 : hs2.map Hd.p = d.2.l.map Hd.p := hD.p
       have hDa : GrowE T.api_Class 2 a3 d.1.l.length c3 (rows d.1.l) o3 := hD.a
       have hDb : GrowE T.api_Head 4 a7 hs2.length c7 (rows hs2) o7 := hD.b
       have hc3 := hDa.le
       have hc7 := hDb.le
       clear hD
       refine hl_perm (show List.Perm ((o7 ++ o3) ++ []) (o3 ++ (o7 ++ [])) from (perm_of fun p => by simp only [List.countP_append, List.countP_cons, List.countP_nil]; omega)) ?_
       refine hl_grownE hDa (hl_grownE hDb ?_)
       refine hl_rowsF (A := a7) (ps := hs2) (f := Hd.row) (by repeat constructor) (by repeat constructor) ?_
       refine hl_nil ?_
       exact qv_done ((a3, c3), hs2, (a7, c7)) ⟨hp2, hc3, hc7⟩ rfl ⟨(by repeat constructor), (by repeat constructor), trivial⟩
      apply hb_ex _ rfl rfl rfl
      ·intro w1
       refine r_move rfl rfl (hl_nil ?_)
       exact qe_done rfl
      apply hb_ex _ rfl rfl rfl
      ·intro w1
       refine r_move rfl rfl (hl_nil ?_)
       exact qe_done rfl
      apply hb_ex _ rfl rfl rfl
      ·intro w1
       refine r_elem (α := Td) dl2 i rfl T.u_L_api_Trades T.sz_api_Trades rfl rfl rfl (by repeat constructor) hdl24.symm (by omega) (by decide) ?_
       refine hl_nil ?_
       exact qe_done rfl
      apply hb_ex _ rfl rfl rfl
      ·intro w1
       refine r_loadS (cs := El.cells e) rfl T.row_api_Trades T.sz_api_Trades rfl rfl (cells_row (by repeat constructor) (by rw [hee]; exact rows_all (by omega))) ?_
       refine hl_nil ?_
       exact qe_done rfl
      refine hb_vs ⟨(OutC × List Hd × OutC), (fun x => x.2.1.map Hd.p = e.2.l.map Hd.p ∧ e.1.l.length ≤ x.1.2 ∧ x.2.1.length ≤ x.2.2.2), fun x => .agg #[.slice x.1.1 e.1.l.length x.1.2, .slice x.2.2.1 x.2.1.length x.2.2.2], fun x => [Row x.1.1 (rows e.1.l), RowsF x.2.2.1 x.2.1 Hd.row]⟩ rfl rfl rfl ?_ ?_
      ·intro w1
       refine hl_call F.kit_DupTrades_cb rfl rfl (kit_DupTrades_any (A := e.1.a) (B := e.2.a) (ca := e.1.c) (cb := e.2.c) e.1.l e.2.l (by omega) (by omega) heo.a heo.b heha) (hpR := []) (List.Perm.refl _) ⟨(by repeat constructor), (by repeat constructor), trivial⟩ fun x hD => ?_
       obtain ⟨⟨⟨a3, c3⟩, o3⟩, hs2, ⟨⟨a7, c7⟩, o7⟩⟩ := x
       have hp2 : hs2.map Hd.p = e.2.l.map Hd.p := hD.p
       have hDa : GrowE T.api_Class 2 a3 e.1.l.length c3 (rows e.1.l) o3 := hD.a
       have hDb : GrowE T.api_Head 4 a7 hs2.length c7 (rows hs2) o7 := hD.b
       have hc3 := hDa.le
       have hc7 := hDb.le
       clear hD
       refine hl_perm (show List.Perm ((o7 ++ o3) ++ []) (o3 ++ (o7 ++ [])) from (perm_of fun p => by simp only [List.countP_append, List.countP_cons, List.countP_nil]; omega)) ?_
       refine hl_grownE hDa (hl_grownE hDb ?_)
       refine hl_rowsF (A := a7) (ps := hs2) (f := Hd.row) (by repeat constructor) (by repeat constructor) ?_
       refine hl_nil ?_
       exact qv_done ((a3, c3), hs2, (a7, c7)) ⟨hp2, hc3, hc7⟩ rfl ⟨(by repeat constructor), (by repeat constructor), trivial⟩
      refine hb_ad ⟨Nat, fun _ => True, fun g => .pointer (some ⟨g, 0, none⟩), fun _ => [], fun g => [(g, Obj.cells #[.slice none 0 0, .slice none 0 0] T.api_Trades (0, 0))]⟩ rfl rfl rfl ?_ ?_
      ·intro w1
       refine r_alloc rfl (fun _ => T.al_api_Trades _) fun gA => ?_
       refine hl_nil ?_
       exact qw_done gA trivial (fun _ => rfl) (List.Sublist.refl _) trivial
      refine hb_ad ⟨Nat, fun _ => True, fun g => .pointer (some ⟨g, 0, none⟩), fun _ => [], fun g => [(g, Obj.cells #[.slice none 0 0, .slice none 0 0] T.api_Trades (0, 0))]⟩ rfl rfl rfl ?_ ?_
      ·intro w1
       refine r_alloc rfl (fun _ => T.al_api_Trades _) fun gA => ?_
       refine hl_nil ?_
       exact qw_done gA trivial (fun _ => rfl) (List.Sublist.refl _) trivial
      refine hb_nil ⟨rfl, ?_⟩
      intro x4 hy7 x9 h9 g7 _ x8 _
      obtain ⟨hp4, hc3, hc7⟩ := hy7
      obtain ⟨hp9, hc39, hc79⟩ := h9
      have hl4 := p_len hp4
      have hl9 := p_len hp9
      have hT4 := tr_same (cs := d.1.l) hp4
      have hT9 := tr_same (cs := e.1.l) hp9
      have ha4 := ha_same hp4 hdha
      have ha9 := ha_same hp9 heha
      refine r_storeS (cs := #[.slice x4.1.1 d.1.l.length x4.1.2, .slice x4.2.2.1 x4.2.1.length x4.2.2.2]) rfl rfl (.swap _ _ _) T.sz_api_Trades (by rfl) (by rfl) ?_
      refine r_storeS (cs := #[.slice x9.1.1 e.1.l.length x9.1.2, .slice x9.2.2.1 x9.2.1.length x9.2.2.2]) rfl rfl (.swap _ _ _) T.sz_api_Trades (by rfl) (by rfl) ?_
      refine hl_nil (then_n (hc_seq (hc_letgoB (hc_letgoB ?_))))
      have hD := trade_Drop_meets (A := x4.1.1) (B := x4.2.2.1) (ca := x4.1.2) (cb := x4.2.2.2) d.1.l x4.2.1 (la.getD i default) hc3 hc7 ha4
      have hC := trade_Compare_meets (A := x4.1.1) (B := x4.2.2.1) (ca := x4.1.2) (cb := x4.2.2.2) (A2 := x9.1.1) (B2 := x9.2.2.1) (ca2 := x9.1.2) (cb2 := x9.2.2.2) d.1.l x4.2.1 e.1.l x9.2.1 hc3 hc7 ha4 hc39 hc79 ha9
      rw [hT4] at hD hC
      rw [hT9] at hC
      have hcl := compareE_len (trOf d.1.l d.2.l) (trOf e.1.l e.2.l)
      rw [hs_len, hs_len] at hcl
      refine hc_drawW ([]) ([]) (List.Perm.refl _) 11 [10, 9] mixed (by decide) (by decide) (by decide) rfl rfl rfl ?_
      apply hb_ex _ rfl rfl rfl
      ·intro w1
       refine r_loadB rfl T.row_api_Trades T.sz_api_Trades rfl (by repeat constructor) (by rfl) ?_
       refine hl_nil ?_
       exact qe_done rfl
      apply hb_ex _ rfl rfl rfl
      ·intro w1
       refine r_move rfl rfl (hl_nil ?_)
       exact qe_done rfl
      apply hb_ex _ rfl rfl rfl
      ·intro w1
       refine r_move rfl rfl (hl_nil ?_)
       exact qe_done rfl
      apply hb_ex _ rfl rfl rfl
      ·intro w1
       refine r_elem (α := Int) la i rfl T.u_ints T.sz_int rfl rfl rfl (by repeat constructor) hla4.symm (by omega) (by decide) ?_
       refine hl_nil ?_
       exact qe_done rfl
      apply hb_ex _ rfl rfl rfl
      ·intro w1
       refine r_load (v := int (la.getD i default)) rfl T.cell_int rfl (cell_row (by repeat constructor) (rows_get0 (by omega) rfl)) ?_
       refine hl_nil ?_
       exact qe_done rfl
      refine hb_vs ⟨OutR, fun x => TrIs (dropE (trOf d.1.l d.2.l) (la.getD i default)).1 x, fun x => .tuple #[.agg #[.slice x.2.1.1 (dropE (trOf d.1.l d.2.l) (la.getD i default)).1.cs.length x.2.1.2, .slice x.2.2.1 x.1.length x.2.2.2], int (dropE (trOf d.1.l d.2.l) (la.getD i default)).2], fun x => [Row x.2.1.1 (rows (dropE (trOf d.1.l d.2.l) (la.getD i default)).1.cs), RowsF x.2.2.1 x.1 Hd.row]⟩ rfl rfl rfl ?_ ?_
      ·intro w1
       refine hl_call F.trade_Drop_cb rfl rfl (hD) (List.Perm.refl _) ⟨(by repeat constructor), (by repeat constructor), trivial⟩ fun y hy => ?_
       refine hl_nil ?_
       exact qv_done y hy rfl ⟨m0, (by repeat constructor), trivial⟩
      refine hb_vs ⟨OutR, fun x => TrIs (dropE (trOf d.1.l d.2.l) (la.getD i default)).1 x, fun x => .tuple #[.agg #[.slice x.2.1.1 (dropE (trOf d.1.l d.2.l) (la.getD i default)).1.cs.length x.2.1.2, .slice x.2.2.1 x.1.length x.2.2.2], int (dropE (trOf d.1.l d.2.l) (la.getD i default)).2], fun x => [Row x.2.1.1 (rows (dropE (trOf d.1.l d.2.l) (la.getD i default)).1.cs), RowsF x.2.2.1 x.1 Hd.row]⟩ rfl rfl rfl ?_ ?_
      ·intro y hy; intro w1
       refine r_move rfl rfl (hl_nil ?_)
       exact qv_done y hy rfl ⟨m0, (by repeat constructor), trivial⟩
      refine hb_vs ⟨OutR, fun x => TrIs (dropE (trOf d.1.l d.2.l) (la.getD i default)).1 x, fun x => .agg #[.slice x.2.1.1 (dropE (trOf d.1.l d.2.l) (la.getD i default)).1.cs.length x.2.1.2, .slice x.2.2.1 x.1.length x.2.2.2], fun x => [Row x.2.1.1 (rows (dropE (trOf d.1.l d.2.l) (la.getD i default)).1.cs), RowsF x.2.2.1 x.1 Hd.row]⟩ rfl rfl rfl ?_ ?_
      ·intro y hy; intro w1
       refine r_extract rfl rfl rfl (hl_nil ?_)
       exact qv_done y hy rfl ⟨m0, (by repeat constructor), trivial⟩
      apply hb_ex _ rfl rfl rfl
      ·intro y hy; intro w1
       refine r_extract rfl rfl rfl (hl_nil ?_)
       exact qe_done rfl
      refine hb_wr ⟨Nat, fun _ => True, fun g => .pointer (some ⟨g, 0, none⟩), fun _ => [], fun g => [(g, Obj.cells #[.slice none 0 0, .slice none 0 0] T.api_Trades (0, 0))]⟩ rfl rfl rfl ?_ ?_
      ·intro w1
       refine r_alloc rfl (fun _ => T.al_api_Trades _) fun gA => ?_
       refine hl_nil ?_
       exact qw_done gA trivial (fun _ => rfl) (List.Sublist.refl _) trivial
      refine hb_stL ⟨Nat × OutR, fun x => TrIs (dropE (trOf d.1.l d.2.l) (la.getD i default)).1 x.2, fun _ => undef, fun x => [Row x.2.2.1.1 (rows (dropE (trOf d.1.l d.2.l) (la.getD i default)).1.cs), RowsF x.2.2.2.1 x.2.1 Hd.row], fun x => [(x.1, Obj.cells #[.slice x.2.2.1.1 (dropE (trOf d.1.l d.2.l) (la.getD i default)).1.cs.length x.2.2.1.2, .slice x.2.2.2.1 x.2.1.length x.2.2.2.2] T.api_Trades (0, 0))]⟩ [(18, 0)] rfl rfl rfl ?_ ?_
      ·intro ρ; intro y hy g9 _ hr9 _; intro w1
       refine r_storeS (cs := #[.slice y.2.1.1 (dropE (trOf d.1.l d.2.l) (la.getD i default)).1.cs.length y.2.1.2, .slice y.2.2.1 y.1.length y.2.2.2]) rfl rfl (.refl _) T.sz_api_Trades (by rfl) (by rfl) ?_
       refine hl_nil ?_
       exact ql_done (g9, y) hy (fun h => by cases h) (fun p hp => by simp at hp; subst hp; exact hr9 rfl) (List.Sublist.refl _) ⟨(by repeat constructor), (by repeat constructor), trivial⟩
      refine hb_nil ⟨rfl, ?_⟩
      intro _ _ _ _ _ _ g9 _ dr1 hdr1 hl9
      obtain rfl : g9 = dr1.1 := ptr_inj (hl9 (18, 0) (by simp) rfl _ rfl)
      refine r_assign rfl rfl (hl_nil (then_n (hc_seq (hc_letgoB ?_))))
      refine hc_drawW ([]) ([]) (List.Perm.refl _) 14 [13, 12] mixed (by decide) (by decide) (by decide) rfl rfl rfl ?_
      apply hb_ex _ rfl rfl rfl
      ·intro w1
       refine r_move rfl rfl (hl_nil ?_)
       exact qe_done rfl
      apply hb_ex _ rfl rfl rfl
      ·intro w1
       refine r_move rfl rfl (hl_nil ?_)
       exact qe_done rfl
      apply hb_ex _ rfl rfl rfl
      ·intro w1
       refine r_elem (α := Td) dl i rfl T.u_L_api_Trades T.sz_api_Trades rfl rfl rfl (by repeat constructor) hdl4.symm (by omega) (by decide) ?_
       refine hl_nil ?_
       exact qe_done rfl
      apply hb_ex _ rfl rfl rfl
      ·intro w1
       refine r_loadS (cs := El.cells d) rfl T.row_api_Trades T.sz_api_Trades rfl rfl (cells_row (by repeat constructor) (by rw [hdd]; exact rows_all (by omega))) ?_
       refine hl_nil ?_
       exact qe_done rfl
      apply hb_ex _ rfl rfl rfl
      ·intro w1
       refine r_move rfl rfl (hl_nil ?_)
       exact qe_done rfl
      apply hb_ex _ rfl rfl rfl
      ·intro w1
       refine r_move rfl rfl (hl_nil ?_)
       exact qe_done rfl
      apply hb_ex _ rfl rfl rfl
      ·intro w1
       refine r_elem (α := Int) la i rfl T.u_ints T.sz_int rfl rfl rfl (by repeat constructor) hla4.symm (by omega) (by decide) ?_
       refine hl_nil ?_
       exact qe_done rfl
      apply hb_ex _ rfl rfl rfl
      ·intro w1
       refine r_load (v := int (la.getD i default)) rfl T.cell_int rfl (cell_row (by repeat constructor) (rows_get0 (by omega) rfl)) ?_
       refine hl_nil ?_
       exact qe_done rfl
      refine hb_vs ⟨OutR, fun x => TrIs (dropE (trOf d.1.l d.2.l) (la.getD i default)).1 x, fun x => .tuple #[.agg #[.slice x.2.1.1 (dropE (trOf d.1.l d.2.l) (la.getD i default)).1.cs.length x.2.1.2, .slice x.2.2.1 x.1.length x.2.2.2], int (dropE (trOf d.1.l d.2.l) (la.getD i default)).2], fun x => [Row x.2.1.1 (rows (dropE (trOf d.1.l d.2.l) (la.getD i default)).1.cs), RowsF x.2.2.1 x.1 Hd.row]⟩ rfl rfl rfl ?_ ?_
      ·intro w1
       refine hl_call F.ref04_Drop_cb rfl rfl (ref04_Drop_meets (A := d.1.a) (B := d.2.a) (ca := d.1.c) (cb := d.2.c) d.1.l d.2.l (la.getD i default) (by omega) (by omega) hdo.wc hdo.wh hdha) (List.Perm.refl _) ⟨(by repeat constructor), (by repeat constructor), trivial⟩ fun y hy => ?_
       refine hl_nil ?_
       exact qv_done y hy rfl ⟨m0, (by repeat constructor), trivial⟩
      refine hb_vs ⟨OutR, fun x => TrIs (dropE (trOf d.1.l d.2.l) (la.getD i default)).1 x, fun x => .tuple #[.agg #[.slice x.2.1.1 (dropE (trOf d.1.l d.2.l) (la.getD i default)).1.cs.length x.2.1.2, .slice x.2.2.1 x.1.length x.2.2.2], int (dropE (trOf d.1.l d.2.l) (la.getD i default)).2], fun x => [Row x.2.1.1 (rows (dropE (trOf d.1.l d.2.l) (la.getD i default)).1.cs), RowsF x.2.2.1 x.1 Hd.row]⟩ rfl rfl rfl ?_ ?_
      ·intro y hy; intro w1
       refine r_move rfl rfl (hl_nil ?_)
       exact qv_done y hy rfl ⟨m0, (by repeat constructor), trivial⟩
      refine hb_vs ⟨OutR, fun x => TrIs (dropE (trOf d.1.l d.2.l) (la.getD i default)).1 x, fun x => .agg #[.slice x.2.1.1 (dropE (trOf d.1.l d.2.l) (la.getD i default)).1.cs.length x.2.1.2, .slice x.2.2.1 x.1.length x.2.2.2], fun x => [Row x.2.1.1 (rows (dropE (trOf d.1.l d.2.l) (la.getD i default)).1.cs), RowsF x.2.2.1 x.1 Hd.row]⟩ rfl rfl rfl ?_ ?_
      ·intro y hy; intro w1
       refine r_extract rfl rfl rfl (hl_nil ?_)
       exact qv_done y hy rfl ⟨m0, (by repeat constructor), trivial⟩
      apply hb_ex _ rfl rfl rfl
      ·intro y hy; intro w1
       refine r_extract rfl rfl rfl (hl_nil ?_)
       exact qe_done rfl
      refine hb_wr ⟨Nat, fun _ => True, fun g => .pointer (some ⟨g, 0, none⟩), fun _ => [], fun g => [(g, Obj.cells #[.slice none 0 0, .slice none 0 0] T.api_Trades (0, 0))]⟩ rfl rfl rfl ?_ ?_
      ·intro w1
       refine r_alloc rfl (fun _ => T.al_api_Trades _) fun gA => ?_
       refine hl_nil ?_
       exact qw_done gA trivial (fun _ => rfl) (List.Sublist.refl _) trivial
      refine hb_stL ⟨Nat × OutR, fun x => TrIs (dropE (trOf d.1.l d.2.l) (la.getD i default)).1 x.2, fun _ => undef, fun x => [Row x.2.2.1.1 (rows (dropE (trOf d.1.l d.2.l) (la.getD i default)).1.cs), RowsF x.2.2.2.1 x.2.1 Hd.row], fun x => [(x.1, Obj.cells #[.slice x.2.2.1.1 (dropE (trOf d.1.l d.2.l) (la.getD i default)).1.cs.length x.2.2.1.2, .slice x.2.2.2.1 x.2.1.length x.2.2.2.2] T.api_Trades (0, 0))]⟩ [(20, 0)] rfl rfl rfl ?_ ?_
      ·intro ρ; intro y hy g9 _ hr9 _; intro w1
       refine r_storeS (cs := #[.slice y.2.1.1 (dropE (trOf d.1.l d.2.l) (la.getD i default)).1.cs.length y.2.1.2, .slice y.2.2.1 y.1.length y.2.2.2]) rfl rfl (.refl _) T.sz_api_Trades (by rfl) (by rfl) ?_
       refine hl_nil ?_
       exact ql_done (g9, y) hy (fun h => by cases h) (fun p hp => by simp at hp; subst hp; exact hr9 rfl) (List.Sublist.refl _) ⟨(by repeat constructor), (by repeat constructor), trivial⟩
      refine hb_nil ⟨rfl, ?_⟩
      intro _ _ _ _ _ _ g9 _ dr2 hdr2 hl9
      obtain rfl : g9 = dr2.1 := ptr_inj (hl9 (20, 0) (by simp) rfl _ rfl)
      refine r_assign rfl rfl (hl_nil (then_n (hc_seq (hc_letgoB ?_))))
      have hd1 := dropE_ok hdr1 hdha
      have hpp : dr2.2.1.map Hd.p = dr1.2.1.map Hd.p := hdr2.p.trans hdr1.p.symm
      refine hc_region ?_
      refine r_loadB rfl T.row_api_Trades T.sz_api_Trades rfl (by repeat constructor) (by rfl) ?_
      refine r_loadB rfl T.row_api_Trades T.sz_api_Trades rfl (by repeat constructor) (by rfl) ?_
      refine hl_call F.trade_Compare_cb rfl rfl (hC) (List.Perm.refl _) ⟨(by repeat constructor), (by repeat constructor), (by repeat constructor), (by repeat constructor), trivial⟩ fun y hy => ?_
      refine r_move rfl rfl (r_extract rfl rfl rfl (r_extract rfl rfl rfl (r_assign rfl rfl (r_assign rfl rfl (hl_nil (then_n (hc_seq ?_)))))))
      refine hc_draw 13 mixed (by decide) (by decide) rfl rfl ?_
      apply hb_ex _ rfl rfl rfl
      ·intro w1
       refine r_move rfl rfl (hl_nil ?_)
       exact qe_done rfl
      apply hb_ex _ rfl rfl rfl
      ·intro w1
       refine r_move rfl rfl (hl_nil ?_)
       exact qe_done rfl
      apply hb_ex _ rfl rfl rfl
      ·intro w1
       refine r_elem (α := Td) dl i rfl T.u_L_api_Trades T.sz_api_Trades rfl rfl rfl (by repeat constructor) hdl4.symm (by omega) (by decide) ?_
       refine hl_nil ?_
       exact qe_done rfl
      apply hb_ex _ rfl rfl rfl
      ·intro w1
       refine r_loadS (cs := El.cells d) rfl T.row_api_Trades T.sz_api_Trades rfl rfl (cells_row (by repeat constructor) (by rw [hdd]; exact rows_all (by omega))) ?_
       refine hl_nil ?_
       exact qe_done rfl
      apply hb_ex _ rfl rfl rfl
      ·intro w1
       refine r_move rfl rfl (hl_nil ?_)
       exact qe_done rfl
      apply hb_ex _ rfl rfl rfl
      ·intro w1
       refine r_move rfl rfl (hl_nil ?_)
       exact qe_done rfl
      apply hb_ex _ rfl rfl rfl
      ·intro w1
       refine r_elem (α := Td) dl2 i rfl T.u_L_api_Trades T.sz_api_Trades rfl rfl rfl (by repeat constructor) hdl24.symm (by omega) (by decide) ?_
       refine hl_nil ?_
       exact qe_done rfl
      apply hb_ex _ rfl rfl rfl
      ·intro w1
       refine r_loadS (cs := El.cells e) rfl T.row_api_Trades T.sz_api_Trades rfl rfl (cells_row (by repeat constructor) (by rw [hee]; exact rows_all (by omega))) ?_
       refine hl_nil ?_
       exact qe_done rfl
      refine hb_vs ⟨OutC, fun y => (compareE (trOf d.1.l d.2.l) (trOf e.1.l e.2.l)).1.length ≤ y.2, fun y => .tuple #[.slice y.1 (compareE (trOf d.1.l d.2.l) (trOf e.1.l e.2.l)).1.length y.2, int (compareE (trOf d.1.l d.2.l) (trOf e.1.l e.2.l)).2], fun y => [Row y.1 (rows (compareE (trOf d.1.l d.2.l) (trOf e.1.l e.2.l)).1)]⟩ rfl rfl rfl ?_ ?_
      ·intro w1
       refine hl_call F.ref04_Compare_cb rfl rfl (ref04_Compare_meets (A := d.1.a) (B := d.2.a) (ca := d.1.c) (cb := d.2.c) (A2 := e.1.a) (B2 := e.2.a) (ca2 := e.1.c) (cb2 := e.2.c) d.1.l d.2.l e.1.l e.2.l (by omega) (by omega) hdo.wc hdo.wh hdha (by omega) (by omega) heo.wc heo.wh heha) (List.Perm.refl _) ⟨(by repeat constructor), (by repeat constructor), (by repeat constructor), (by repeat constructor), trivial⟩ fun y hy => ?_
       refine hl_nil ?_
       exact qv_done y hy rfl ⟨m0, trivial⟩
      refine hb_vs ⟨OutC, fun y => (compareE (trOf d.1.l d.2.l) (trOf e.1.l e.2.l)).1.length ≤ y.2, fun y => .tuple #[.slice y.1 (compareE (trOf d.1.l d.2.l) (trOf e.1.l e.2.l)).1.length y.2, int (compareE (trOf d.1.l d.2.l) (trOf e.1.l e.2.l)).2], fun y => [Row y.1 (rows (compareE (trOf d.1.l d.2.l) (trOf e.1.l e.2.l)).1)]⟩ rfl rfl rfl ?_ ?_
      ·intro y hy; intro w1
       refine r_move rfl rfl (hl_nil ?_)
       exact qv_done y hy rfl ⟨m0, trivial⟩
      refine hb_vs ⟨OutC, fun y => (compareE (trOf d.1.l d.2.l) (trOf e.1.l e.2.l)).1.length ≤ y.2, fun y => .slice y.1 (compareE (trOf d.1.l d.2.l) (trOf e.1.l e.2.l)).1.length y.2, fun y => [Row y.1 (rows (compareE (trOf d.1.l d.2.l) (trOf e.1.l e.2.l)).1)]⟩ rfl rfl rfl ?_ ?_
      ·intro y hy; intro w1
       refine r_extract rfl rfl rfl (hl_nil ?_)
       exact qv_done y hy rfl ⟨m0, trivial⟩
      apply hb_ex _ rfl rfl rfl
      ·intro y hy; intro w1
       refine r_extract rfl rfl rfl (hl_nil ?_)
       exact qe_done rfl
      refine hb_vs ⟨OutC, fun y => (compareE (trOf d.1.l d.2.l) (trOf e.1.l e.2.l)).1.length ≤ y.2, fun y => .slice y.1 (compareE (trOf d.1.l d.2.l) (trOf e.1.l e.2.l)).1.length y.2, fun y => [Row y.1 (rows (compareE (trOf d.1.l d.2.l) (trOf e.1.l e.2.l)).1)]⟩ rfl rfl rfl ?_ ?_
      ·intro y hy; intro w1
       refine r_assign rfl rfl (hl_nil ?_)
       exact qv_done y hy rfl ⟨m0, trivial⟩
      refine hb_nil ⟨rfl, ?_⟩
      intro _ _ _ _ _ _ q hq
      refine r_assign rfl rfl (hl_nil (then_n (hc_seq ?_)))
      refine hc_draw 35 mixed (by decide) (by decide) rfl rfl ?_
      apply hb_ex _ rfl rfl rfl
      ·intro w1
       refine r_move rfl rfl (hl_nil ?_)
       exact qe_done rfl
      apply hb_ex _ rfl rfl rfl
      ·intro w1
       refine r_move rfl rfl (hl_nil ?_)
       exact qe_done rfl
      apply hb_ex _ rfl rfl rfl
      ·intro w1
       refine r_neq rfl rfl rfl (hl_nil ?_)
       exact qe_done rfl
      apply hb_ex _ rfl rfl rfl
      ·intro w1
       refine r_move rfl rfl (hl_nil ?_)
       exact qe_done rfl
      refine hb_split (t := 138) (want := false) rfl ?_ ?_
      ·intro hg4; have hg4' := hg4; try simp at hg4'
       apply hb_ex _ rfl rfl rfl
       ·intro w1
        refine g_yes rfl rfl hg4 (r_move rfl rfl (hl_nil ?_))
        exact qe_done rfl
       apply hb_ex _ rfl rfl rfl
       ·intro w1
        refine g_yes rfl rfl hg4 (r_move rfl rfl (hl_nil ?_))
        exact qe_done rfl
       apply hb_ex _ rfl rfl rfl
       ·intro w1
        refine g_yes rfl rfl hg4 (r_neq rfl rfl rfl (hl_nil ?_))
        exact qe_done rfl
       apply hb_ex _ rfl rfl rfl
       ·intro w1
        refine p_f rfl rfl (bf1 hg4) rfl ?_
        refine hl_nil ?_
        exact qe_done rfl
       apply hb_ex _ rfl rfl rfl
       ·intro w1
        refine r_move rfl rfl (hl_nil ?_)
        exact qe_done rfl
       refine hb_split (t := 143) (want := false) rfl ?_ ?_
       ·intro hg5; have hg5' := hg5; try simp at hg5'
        apply hb_ex _ rfl rfl rfl
        ·intro w1
         refine g_yes rfl rfl hg5 ?_
         refine r_loadB rfl T.row_api_Trades T.sz_api_Trades rfl (by repeat constructor) (by rfl) ?_
         refine hl_nil ?_
         exact qe_done rfl
        apply hb_ex _ rfl rfl rfl
        ·intro w1
         refine g_yes rfl rfl hg5 ?_
         refine r_loadB rfl T.row_api_Trades T.sz_api_Trades rfl (by repeat constructor) (by rfl) ?_
         refine hl_nil ?_
         exact qe_done rfl
        apply hb_ex _ rfl rfl rfl
        ·intro w1
         refine g_yes rfl rfl hg5 ?_
         refine hl_call F.kit_EqTrades_cb rfl rfl (kit_EqTrades_meets (A := dr1.2.2.1.1) (B := dr1.2.2.2.1) (A2 := dr2.2.2.1.1) (B2 := dr2.2.2.2.1) (ca := dr1.2.2.1.2) (cb := dr1.2.2.2.2) (ca2 := dr2.2.2.1.2) (cb2 := dr2.2.2.2.2) (dropE (trOf d.1.l d.2.l) (la.getD i default)).1.cs dr1.2.1 dr2.2.1 hpp (by omega) (by omega) hd1.2.2) (List.Perm.refl _) ⟨(by repeat constructor), (by repeat constructor), (by repeat constructor), (by repeat constructor), trivial⟩ fun _ _ => ?_
         refine hl_nil ?_
         exact qe_done rfl
        apply hb_ex _ rfl rfl rfl
        ·intro w1
         refine g_yes rfl rfl hg5 (r_not rfl rfl (hl_nil ?_))
         exact qe_done rfl
        apply hb_ex _ rfl rfl rfl
        ·intro w1
         refine p_f rfl rfl (bf1 hg5) rfl ?_
         refine hl_nil ?_
         exact qe_done rfl
        apply hb_ex _ rfl rfl rfl
        ·intro w1
         refine r_move rfl rfl (hl_nil ?_)
         exact qe_done rfl
        refine hb_split (t := 149) (want := false) rfl ?_ ?_
        ·intro hg6; have hg6' := hg6; try simp at hg6'
         apply hb_ex _ rfl rfl rfl
         ·intro w1
          refine g_yes rfl rfl hg6 (r_move rfl rfl (hl_nil ?_))
          exact qe_done rfl
         apply hb_ex _ rfl rfl rfl
         ·intro w1
          refine g_yes rfl rfl hg6 (r_move rfl rfl (hl_nil ?_))
          exact qe_done rfl
         apply hb_ex _ rfl rfl rfl
         ·intro w1
          refine g_yes rfl rfl hg6 ?_
          refine hl_call F.kit_EqMoves_cb rfl rfl (kit_EqMoves_meets (compareE (trOf d.1.l d.2.l) (trOf e.1.l e.2.l)).1 (compareE (trOf d.1.l d.2.l) (trOf e.1.l e.2.l)).1 (by omega)) (List.Perm.refl _) ⟨(by repeat constructor), (by repeat constructor), trivial⟩ fun _ _ => ?_
          refine hl_nil ?_
          exact qe_done rfl
         apply hb_ex _ rfl rfl rfl
         ·intro w1
          refine g_yes rfl rfl hg6 (r_not rfl rfl (hl_nil ?_))
          exact qe_done rfl
         apply hb_ex _ rfl rfl rfl
         ·intro w1
          refine p_f rfl rfl (bf1 hg6) rfl ?_
          refine hl_nil ?_
          exact qe_done rfl
         apply hb_ex _ rfl rfl rfl
         ·intro w1
          refine r_move rfl rfl (hl_nil ?_)
          exact qe_done rfl
         refine hb_split (t := 155) (want := false) rfl ?_ ?_
         ·intro hg7; have hg7' := hg7; try simp at hg7'
          apply hb_ex _ rfl rfl rfl
          ·intro w1
           refine g_yes rfl rfl hg7 ?_
           refine r_loadB rfl T.row_api_Trades T.sz_api_Trades rfl (by repeat constructor) (by rfl) ?_
           refine hl_nil ?_
           exact qe_done rfl
          apply hb_ex _ rfl rfl rfl
          ·intro w1
           refine g_yes rfl rfl hg7 (r_move rfl rfl (hl_nil ?_))
           exact qe_done rfl
          apply hb_ex _ rfl rfl rfl
          ·intro w1
           refine g_yes rfl rfl hg7 (r_move rfl rfl (hl_nil ?_))
           exact qe_done rfl
          apply hb_ex _ rfl rfl rfl
          ·intro w1
           refine g_yes rfl rfl hg7 ?_
           refine r_elem (α := Td) dl i rfl T.u_L_api_Trades T.sz_api_Trades rfl rfl rfl (by repeat constructor) hdl4.symm (by omega) (by decide) ?_
           refine hl_nil ?_
           exact qe_done rfl
          apply hb_ex _ rfl rfl rfl
          ·intro w1
           refine g_yes rfl rfl hg7 ?_
           refine r_loadS (cs := El.cells d) rfl T.row_api_Trades T.sz_api_Trades rfl rfl (cells_row (by repeat constructor) (by rw [hdd]; exact rows_all (by omega))) ?_
           refine hl_nil ?_
           exact qe_done rfl
          apply hb_ex _ rfl rfl rfl
          ·intro w1
           refine g_yes rfl rfl hg7 ?_
           refine hl_call F.kit_EqTrades_cb rfl rfl (kit_EqTrades_meets (A := x4.1.1) (B := x4.2.2.1) (A2 := d.1.a) (B2 := d.2.a) (ca := x4.1.2) (cb := x4.2.2.2) (ca2 := d.1.c) (cb2 := d.2.c) d.1.l x4.2.1 d.2.l hp4.symm (by omega) (by omega) ha4) (List.Perm.refl _) ⟨(by repeat constructor), (by repeat constructor), (by repeat constructor), (by repeat constructor), trivial⟩ fun _ _ => ?_
           refine hl_nil ?_
           exact qe_done rfl
          apply hb_ex _ rfl rfl rfl
          ·intro w1
           refine g_yes rfl rfl hg7 (r_not rfl rfl (hl_nil ?_))
           exact qe_done rfl
          apply hb_ex _ rfl rfl rfl
          ·intro w1
           refine p_f rfl rfl (bf1 hg7) rfl ?_
           refine hl_nil ?_
           exact qe_done rfl
          apply hb_ex _ rfl rfl rfl
          ·intro w1
           refine r_move rfl rfl (hl_nil ?_)
           exact qe_done rfl
          refine hb_split (t := 164) (want := false) rfl ?_ ?_
          ·intro hg8; have hg8' := hg8; try simp at hg8'
           apply hb_ex _ rfl rfl rfl
           ·intro w1
            refine g_yes rfl rfl hg8 ?_
            refine r_loadB rfl T.row_api_Trades T.sz_api_Trades rfl (by repeat constructor) (by rfl) ?_
            refine hl_nil ?_
            exact qe_done rfl
           apply hb_ex _ rfl rfl rfl
           ·intro w1
            refine g_yes rfl rfl hg8 (r_move rfl rfl (hl_nil ?_))
            exact qe_done rfl
           apply hb_ex _ rfl rfl rfl
           ·intro w1
            refine g_yes rfl rfl hg8 (r_move rfl rfl (hl_nil ?_))
            exact qe_done rfl
           apply hb_ex _ rfl rfl rfl
           ·intro w1
            refine g_yes rfl rfl hg8 ?_
            refine r_elem (α := Td) dl2 i rfl T.u_L_api_Trades T.sz_api_Trades rfl rfl rfl (by repeat constructor) hdl24.symm (by omega) (by decide) ?_
            refine hl_nil ?_
            exact qe_done rfl
           apply hb_ex _ rfl rfl rfl
           ·intro w1
            refine g_yes rfl rfl hg8 ?_
            refine r_loadS (cs := El.cells e) rfl T.row_api_Trades T.sz_api_Trades rfl rfl (cells_row (by repeat constructor) (by rw [hee]; exact rows_all (by omega))) ?_
            refine hl_nil ?_
            exact qe_done rfl
           refine hb_nil ⟨rfl, ?_⟩
           refine g_yes rfl rfl hg8 ?_
           refine hl_call F.kit_EqTrades_cb rfl rfl (kit_EqTrades_meets (A := x9.1.1) (B := x9.2.2.1) (A2 := e.1.a) (B2 := e.2.a) (ca := x9.1.2) (cb := x9.2.2.2) (ca2 := e.1.c) (cb2 := e.2.c) e.1.l x9.2.1 e.2.l hp9.symm (by omega) (by omega) ha9) (List.Perm.refl _) ⟨(by repeat constructor), (by repeat constructor), (by repeat constructor), (by repeat constructor), trivial⟩ fun _ _ => ?_
           refine g_yes rfl rfl hg8 (r_not rfl rfl ?_)
           refine p_f rfl rfl (bf1 hg8) rfl ?_
           refine hl_nil (then_n ?_)
           refine hc_cond rfl (fun hb3 => ?_) (fun hb3 => ?_)
           ·have hb3' := hb3; try simp at hb3'
           ·have hb3' := hb3; try simp at hb3'
            refine hc_skip (inb_n (then_n (hc_region (r_move rfl rfl ?_))))
            refine r_add _ rfl rfl rfl rfl (by unfold I64; omega) ?_
            refine r_assign rfl rfl (hl_nil ?_)
            exact again _ (i + 1) (by show i + 1 ≤ 4; omega) (by show 4 - (i + 1) < 4 - i; omega) ⟨rfl, rfl, rfl, rfl, trivial⟩ (List.nil_sublist _) ⟨(by repeat constructor), (by repeat constructor), (by repeat constructor), (by repeat constructor), (by repeat constructor), trivial⟩
          ·intro hg8; have hg8' := hg8; try simp at hg8'
         ·intro hg7; have hg7' := hg7; try simp at hg7'
        ·intro hg6; have hg6' := hg6; try simp at hg6'
       ·intro hg5; have hg5' := hg5; try simp at hg5'
      ·intro hg4; have hg4' := hg4; try simp at hg4'
     ·have hb2' := hb2; try simp at hb2'
      refine hc_exit (then_exit (then_exit (inb_hit (then_n (hc_seq (hc_region ?_))))))
      refine hl_call F.law04_indexed_cb rfl rfl (law04_indexed_meets) (List.Perm.refl _) trivial fun _ _ => ?_
      refine r_assign rfl rfl (hl_nil (then_n (hc_ret ?_)))
      exact ret1 () rfl rfl rfl trivial (List.nil_sublist _) trivial
   ·intro hg3; have hg3' := hg3; try simp at hg3'
    refine g_no rfl rfl rfl rfl rfl hg3 (g_no rfl rfl rfl rfl rfl hg3 (g_no rfl rfl rfl rfl rfl hg3 (g_no rfl rfl rfl rfl rfl hg3 ?_)))
    refine p_t rfl rfl (bt2 hg3) rfl ?_
    refine hl_nil (then_n (c_t rfl rfl (hc_seq (hc_region ?_))))
    refine hl_call F.law04_indexed_cb rfl rfl (law04_indexed_meets) (List.Perm.refl _) trivial fun _ _ => ?_
    refine r_assign rfl rfl (hl_nil (then_n (hc_ret (then_ret ?_))))
    exact ret1 () rfl rfl rfl trivial (List.nil_sublist _) trivial
  ·intro hg2; have hg2' := hg2; try simp at hg2'
   refine g_no rfl rfl rfl rfl rfl hg2 (g_no rfl rfl rfl rfl rfl hg2 (g_no rfl rfl rfl rfl rfl hg2 (g_no rfl rfl rfl rfl rfl hg2 ?_)))
   refine p_t rfl rfl (bt2 hg2) rfl ?_
   refine r_move rfl rfl (g_no rfl rfl rfl rfl rfl rfl (g_no rfl rfl rfl rfl rfl rfl (g_no rfl rfl rfl rfl rfl rfl (g_no rfl rfl rfl rfl rfl rfl (p_t rfl rfl rfl rfl (hl_nil (then_n (c_t rfl rfl (hc_seq (hc_region ?_))))))))))
   refine hl_call F.law04_indexed_cb rfl rfl (law04_indexed_meets) (List.Perm.refl _) trivial fun _ _ => ?_
   refine r_assign rfl rfl (hl_nil (then_n (hc_ret (then_ret ?_))))
   exact ret1 () rfl rfl rfl trivial (List.nil_sublist _) trivial
 ·intro hg1; have hg1' := hg1; try simp at hg1'
  refine g_no rfl rfl rfl rfl rfl hg1 (g_no rfl rfl rfl rfl rfl hg1 (g_no rfl rfl rfl rfl rfl hg1 ?_))
  refine p_t rfl rfl (bt2 hg1) rfl ?_
  refine r_move rfl rfl (g_no rfl rfl rfl rfl rfl rfl (g_no rfl rfl rfl rfl rfl rfl (g_no rfl rfl rfl rfl rfl rfl (g_no rfl rfl rfl rfl rfl rfl (p_t rfl rfl rfl rfl (r_move rfl rfl (g_no rfl rfl rfl rfl rfl rfl (g_no rfl rfl rfl rfl rfl rfl (g_no rfl rfl rfl rfl rfl rfl (g_no rfl rfl rfl rfl rfl rfl (p_t rfl rfl rfl rfl ?_)))))))))))
  refine hl_nil (then_n (c_t rfl rfl (hc_seq (hc_region ?_))))
  refine hl_call F.law04_indexed_cb rfl rfl (law04_indexed_meets) (List.Perm.refl _) trivial fun _ _ => ?_
  refine r_assign rfl rfl (hl_nil (then_n (hc_ret (then_ret ?_))))
  exact ret1 () rfl rfl rfl trivial (List.nil_sublist _) trivial

end Go.Proofs.YtlpgheniajdkfaaGreat
