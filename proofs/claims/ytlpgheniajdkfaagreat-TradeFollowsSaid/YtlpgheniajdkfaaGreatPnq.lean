/- The walk of the statement TradeFollows. -/
import Derived.Test.YtlpgheniajdkfaaGreatPnp
namespace Go.Proofs.YtlpgheniajdkfaaGreat
open Go Go.W
set_option linter.unusedVariables false
set_option linter.unusedSimpArgs false
set_option maxRecDepth 20000
attribute [local irreducible] HL HC HQ HB Row Rows2 Blk Facts

theorem circ_bd {t : Tr} {x : List (Sl Int)} (h : lsts x = (circlesE t).1) : x.length ≤ t.hs.length ∧ ∀ p ∈ x, p.l.length ≤ t.hs.length := by
  have h1 : x.length = (circlesE t).1.length := by rw [← h, lsts, List.length_map]
  have h2 : ∀ p ∈ x, p.l ∈ (circlesE t).1 := fun p hp => by rw [← h, lsts]; exact List.mem_map_of_mem hp
  unfold circlesE at h1 h2
  split at h1
  · rename_i h3
    rw [if_pos h3] at h2
    exact ⟨by rw [h1]; exact Nat.zero_le _, fun p hp => by have := h2 p hp; cases this⟩
  · rename_i h3
    rw [if_neg h3] at h2
    exact ⟨by rw [h1]; exact cirK_len _ _, fun p hp => cirK_in (h2 p hp)⟩

set_option maxHeartbeats 2000000 in
theorem law04_TradeFollows_meets {A0 B0 N : Option Addr} {ca0 cb0 nc : Nat} (cs0 : List Cl) (hs0 : List Hd) (h0 : Hd) (b : Int) (nums : List Int) (hca0 : cs0.length ≤ ca0 ∧ ca0 ≤ 9223372036854775807) (hcb0 : hs0.length ≤ cb0 ∧ cb0 ≤ 9223372036854775807) (hn : nums.length ≤ 9223372036854775807) : Meets Tryz.prog F.law04_TradeFollows [.agg #[.slice A0 cs0.length ca0, .slice B0 hs0.length cb0], .agg (El.cells h0).toArray, int b, .slice N nums.length nc] { LI := [Row A0 (rows cs0), RowsF B0 hs0 Hd.row, Hd.row h0, Row N (rows nums)], val := fun _ : Unit => .bool true } := by
 refine meets_intro F.law04_TradeFollows_f rfl (Nat.le_of_ble_eq_true rfl) fun w0 => ?_
 refine hc_seq (hc_region ?_)
 refine r_box rfl rfl fun gB => ?_
 refine r_box rfl rfl fun gC => ?_
 refine r_assign rfl rfl (hl_nil (then_n (hc_seq (hc_seq (hc_letgoB (hc_letgoB (hc_region ?_)))))))
 refine r_loadB rfl T.row_api_Trades T.sz_api_Trades rfl (by repeat constructor) (by rfl) ?_
 refine hl_call F.law04_short_cb rfl rfl (law04_short_meets cs0 hs0 (by omega) (by omega)) (List.Perm.refl _) ⟨(by repeat constructor), (by repeat constructor), trivial⟩ fun bs hbs => ?_
 refine r_not rfl rfl (r_move rfl rfl ?_)
 refine g_split rfl rfl ?_ ?_
 ·intro hg1; have hg1' := hg1; try simp at hg1'
  have hbt : bs = true := by simpa using hg1
  obtain ⟨hc20, hh20, hha, hwc, hwh⟩ := hbs hbt
  refine g_yes rfl rfl hg1 ?_
  refine r_fieldAddr ⟨_, 0, none⟩ rfl rfl T.fa_api_Head_0 rfl ?_
  refine g_yes rfl rfl hg1 ?_
  refine r_load rfl T.cell_string rfl (cell_blk (by repeat constructor) rfl) ?_
  refine g_yes rfl rfl hg1 ?_
  refine r_len_str rfl T.u_string rfl ?_
  refine g_yes rfl rfl hg1 (r_gtr rfl rfl rfl ?_)
  refine p_f rfl rfl (bf1 hg1) rfl ?_
  refine r_move rfl rfl ?_
  refine g_split rfl rfl ?_ ?_
  ·intro hg2; have hg2' := hg2; try simp at hg2'
   have hw40 : ¬ (40 : Int) < h0.1.length := of_decide_eq_false (eq_of_beq hg2)
   refine g_yes rfl rfl hg2 ?_
   refine r_fieldAddr ⟨_, 3, none⟩ rfl rfl T.fa_api_Head_3 rfl ?_
   refine g_yes rfl rfl hg2 ?_
   refine r_load rfl T.cell_ints rfl (cell_blk (by repeat constructor) rfl) ?_
   refine g_yes rfl rfl hg2 ?_
   refine r_len_sl rfl T.u_ints rfl ?_
   refine g_yes rfl rfl hg2 (r_gtr rfl rfl rfl ?_)
   refine p_f rfl rfl (bf1 hg2) rfl ?_
   refine hl_nil (then_n ?_)
   refine c_dec rfl (fun hb1 => ?_) (fun hb1 => ?_)
   ·have hb1' := hb1; try simp at hb1'
    refine hc_seq (hc_region ?_)
    refine hl_call F.law04_indexed_cb rfl rfl (law04_indexed_meets) (List.Perm.refl _) trivial fun _ _ => ?_
    refine r_assign rfl rfl (hl_nil (then_n (hc_ret (then_ret ?_))))
    exact ret1 () rfl rfl rfl trivial (List.nil_sublist _) trivial
   ·have hb1' := hb1; try simp at hb1'
    have hd0 : TdOK ((⟨A0, ca0, cs0⟩, ⟨B0, cb0, hs0⟩) : Td) := ⟨hca0.1, hcb0.1, hc20, hh20, hha, hwc, hwh⟩
    have hh0 : h0.2.2.2.l.length ≤ 1000000 := by omega
    have hhw0 : h0.1.length ≤ 1000 := by omega
    refine hc_skip (then_n (hc_seq ?_))
    refine hc_drawW ([]) ([]) (List.Perm.refl _) 4 [] mixed (by decide) (by decide) (by decide) rfl rfl rfl ?_
    apply hb_ex _ rfl rfl rfl
    ·intro w1
     refine r_loadB rfl T.row_api_Trades T.sz_api_Trades rfl (by repeat constructor) (by rfl) ?_
     refine hl_nil ?_
     exact qe_done rfl
    apply hb_ex _ rfl rfl rfl
    ·intro w1
     refine r_loadB rfl T.row_api_Head T.sz_api_Head rfl (by repeat constructor) (by rfl) ?_
     refine hl_nil ?_
     exact qe_done rfl
    apply hb_ex _ rfl rfl rfl
    ·intro w1
     refine r_move rfl rfl (hl_nil ?_)
     exact qe_done rfl
    refine hb_ad ⟨Nat, fun _ => True, fun g => .pointer (some ⟨g, 0, none⟩), fun _ => [], fun g => [dice g N nc nums (0, 11400714819323198485)]⟩ rfl rfl rfl ?_ ?_
    ·intro w1
     refine hl_call F.kit_NewDice_cb rfl rfl (kit_NewDice_meets nums) (List.Perm.refl _) ⟨(by repeat constructor), trivial⟩ fun gd _ => ?_
     refine hl_nil ?_
     exact qw_done gd trivial (fun _ => rfl) (List.Sublist.refl _) trivial
    refine hb_nil ⟨rfl, ?_⟩
    intro gd _
    refine hl_facts (Fs := [Row ((⟨A0, ca0, cs0⟩, ⟨B0, cb0, hs0⟩) : Td).1.a (rows ((⟨A0, ca0, cs0⟩, ⟨B0, cb0, hs0⟩) : Td).1.l), RowsF ((⟨A0, ca0, cs0⟩, ⟨B0, cb0, hs0⟩) : Td).2.a ((⟨A0, ca0, cs0⟩, ⟨B0, cb0, hs0⟩) : Td).2.l Hd.row]) (by intro F hF; simp only [List.mem_cons, List.not_mem_nil, or_false] at hF; rcases hF with rfl | rfl; exact .inl (by repeat constructor); exact .inl (by repeat constructor)) ?_
    refine hl_call F.law04_lists_cb rfl rfl (law04_lists_meets (g := gd) (A := N) (c := nc) ((⟨A0, ca0, cs0⟩, ⟨B0, cb0, hs0⟩) : Td) h0 hn (dok0 nums) hd0 hh0 hhw0) (hpR := []) (List.Perm.refl _) ⟨(by repeat constructor), (by repeat constructor), (by repeat constructor), trivial⟩ fun x hx => ?_
    obtain ⟨sd, gl, d1, d2⟩ := x
    obtain ⟨hsd, ⟨hd1, hT1, h61⟩, hd2⟩ := hx
    simp only at hsd hd1 hT1 h61 hd2
    refine r_assign rfl rfl (hl_nil (then_n (hc_seq (hc_seq ?_))))
    refine hc_dup (F := RowsF (some ⟨gl, 0, none⟩) [((⟨A0, ca0, cs0⟩, ⟨B0, cb0, hs0⟩) : Td), d1, d2, d1] Td.row) (by repeat constructor) ?_
    obtain ⟨dl, hdl⟩ : ∃ dl : List Td, dl = [((⟨A0, ca0, cs0⟩, ⟨B0, cb0, hs0⟩) : Td), d1, d2, d1] := ⟨_, rfl⟩
    rw [← hdl]
    have hdl4 : dl.length = 4 := by rw [hdl]; rfl
    have hdal : ∀ d ∈ dl, TdOK d := by rw [hdl]; intro d hd; simp only [List.mem_cons, List.not_mem_nil, or_false] at hd; rcases hd with rfl | rfl | rfl | rfl; exact hd0; exact hd1; exact hd2; exact hd1
    have hdl1 := hdal _ (getD_mem (l := dl) (k := 1) (by omega))
    have hx1 := hdl1.c
    have hx2 := hdl1.h
    refine hc_outerF (ps := dl) (A := some ⟨gl, 0, none⟩) (f := Td.row) (by repeat constructor) ?_
    refine hc_region (r_assign rfl rfl (hl_nil (then_n (hc_block ?_))))
    refine hc_loop (β := Nat) ⟨fun i => i ≤ 4, fun i => [(2, int b), (9, .slice (some ⟨gl, 0, none⟩) 4 4), (10, int i)], fun _ => [], fun _ => [Row (some ⟨gl, 0, none⟩) (rows dl), RowsF (some ⟨gl, 0, none⟩) dl Td.row]⟩ (fun i => 4 - i) 0 (Nat.zero_le _) ⟨rfl, rfl, rfl, trivial⟩ (List.nil_sublist _) ⟨(by repeat constructor), (by repeat constructor), trivial⟩ fun i hi => ?_
    simp only at hi
    refine hc_seq (hc_seq (hc_region (r_move rfl rfl (r_move rfl rfl ?_))))
    refine r_len_sl rfl T.u_L_api_Trades rfl ?_
    refine r_lss rfl rfl rfl (hl_nil (then_n ?_))
    refine c_dec rfl (fun hb2 => ?_) (fun hb2 => ?_)
    ·have hb2' := hb2; try simp at hb2'
     have hi2 : i < 4 := by omega
     obtain ⟨d, hdd⟩ : ∃ d, d = dl.getD i default := ⟨_, rfl⟩
     have hdm : d ∈ dl := by rw [hdd]; exact getD_mem (by omega)
     have hdo := hdal d hdm
     have hd20 := hdo.c
     have hdh20 := hdo.h
     have hdha := hdo.ha
     refine hc_innerF (p := d) (f := Td.row) (ps := dl) (by repeat constructor) hdm ?_
     refine hc_pick (F := Row d.1.a (rows d.1.l)) (Fs := [Row d.1.a (rows d.1.l), RowsF d.2.a d.2.l Hd.row]) (by repeat constructor) (by simp) ?_
     refine hc_pick (F := RowsF d.2.a d.2.l Hd.row) (Fs := [Row d.1.a (rows d.1.l), RowsF d.2.a d.2.l Hd.row]) (by repeat constructor) (by simp) ?_
     refine hc_skip (then_n (hc_seq (hc_block (hc_seq (hc_region (r_move rfl rfl (r_move rfl rfl ?_)))))))
     refine r_elem (α := Td) dl i rfl T.u_L_api_Trades T.sz_api_Trades rfl rfl rfl (by repeat constructor) hdl4.symm (by omega) (by decide) ?_
     refine r_loadS (cs := El.cells d) rfl T.row_api_Trades T.sz_api_Trades rfl rfl (cells_row (by repeat constructor) (by rw [hdd]; exact rows_all (by omega))) ?_
     refine hl_call F.kit_DupTrades_cb rfl rfl (kit_DupTrades_any (A := d.1.a) (B := d.2.a) (ca := d.1.c) (cb := d.2.c) d.1.l d.2.l (by omega) (by omega) hdo.a hdo.b hdha) (hpR := []) (List.Perm.refl _) ⟨(by repeat constructor), (by repeat constructor), trivial⟩ fun x hD => ?_
     obtain ⟨⟨⟨a3, c3⟩, o3⟩, hs2, ⟨⟨a7, c7⟩, o7⟩⟩ := x
     have hp2 : hs2.map Hd.p = d.2.l.map Hd.p := hD.p
     have hDa : GrowE T.api_Class 2 a3 d.1.l.length c3 (rows d.1.l) o3 := hD.a
     have hDb : GrowE T.api_Head 4 a7 hs2.length c7 (rows hs2) o7 := hD.b
     have hl2 := p_len hp2
     have hc3 := hDa.le
     have hc7 := hDb.le
     clear hD
     refine hl_perm (show List.Perm ((o7 ++ o3) ++ []) (o3 ++ (o7 ++ [])) from (perm_of fun p => by simp only [List.countP_append, List.countP_cons, List.countP_nil]; omega)) ?_
     refine hl_grownE hDa (hl_grownE hDb ?_)
     have hTs := tr_same (cs := d.1.l) hp2
     have ha2 := ha_same hp2 hdha
     have hwh2 := wh_same hp2 hdo.wh
     refine r_alloc rfl (fun _ => T.al_api_Trades _) fun gO => ?_
     refine r_storeS (cs := #[.slice a3 d.1.l.length c3, .slice a7 hs2.length c7]) rfl rfl (.refl _) T.sz_api_Trades (by rfl) (by rfl) ?_
     refine hl_nil (then_n (hc_seq (hc_letgoB ?_)))
     refine hc_rowsF (A := a7) (ps := hs2) (f := Hd.row) (by repeat constructor) (by repeat constructor) ?_
     have hCi := trade_Circles_meets (A := a3) (B := a7) (ca := c3) (cb := c7) d.1.l hs2 hc3 hc7 ha2
     rw [hTs] at hCi
     refine hc_region ?_
     refine r_loadB rfl T.row_api_Trades T.sz_api_Trades rfl (by repeat constructor) (by rfl) ?_
     refine hl_call F.trade_Circles_cb rfl rfl (hCi) (List.Perm.refl _) ⟨(by repeat constructor), (by repeat constructor), trivial⟩ fun y hy => ?_
     refine r_move rfl rfl (r_extract rfl rfl rfl (r_extract rfl rfl rfl (r_assign rfl rfl (r_assign rfl rfl (hl_nil (then_n (hc_seq (hc_region (r_move rfl rfl (r_move rfl rfl ?_))))))))))
     refine r_elem (α := Td) dl i rfl T.u_L_api_Trades T.sz_api_Trades rfl rfl rfl (by repeat constructor) hdl4.symm (by omega) (by decide) ?_
     refine r_loadS (cs := El.cells d) rfl T.row_api_Trades T.sz_api_Trades rfl rfl (cells_row (by repeat constructor) (by rw [hdd]; exact rows_all (by omega))) ?_
     refine hl_call F.ref04_Circles_cb rfl rfl (ref04_Circles_meets (A := d.1.a) (B := d.2.a) (ca := d.1.c) (cb := d.2.c) d.1.l d.2.l (by omega) (by omega) hdo.wc hdo.wh hdha) (List.Perm.refl _) ⟨(by repeat constructor), (by repeat constructor), trivial⟩ fun y2 hy2 => ?_
     refine r_move rfl rfl (r_extract rfl rfl rfl (r_extract rfl rfl rfl (r_assign rfl rfl (r_assign rfl rfl (hl_nil (then_n (hc_seq (hc_seq ?_))))))))
     have hy1 : lsts y.1 = (circlesE (trOf d.1.l d.2.l)).1 := hy
     have hyy : lsts y.1 = lsts y2.1 := hy1.trans (Eq.symm hy2)
     have hbd := circ_bd hy1
     rw [hs_len] at hbd
     refine hc_region (r_move rfl rfl (r_move rfl rfl (r_neq rfl rfl rfl (r_move rfl rfl ?_))))
     refine g_split rfl rfl ?_ ?_
     ·intro hg3; have hg3' := hg3; try simp at hg3'
      refine g_yes rfl rfl hg3 (r_move rfl rfl (g_yes rfl rfl hg3 (r_move rfl rfl (g_yes rfl rfl hg3 ?_))))
      refine hl_call F.kit_EqLists_cb rfl rfl (kit_EqLists_meets y.1 y2.1 (by omega) (fun p hp => by have := hbd.2 p hp; omega)) (List.Perm.refl _) ⟨(by repeat constructor), (by repeat constructor), trivial⟩ fun _ _ => ?_
      refine g_yes rfl rfl hg3 (r_not rfl rfl ?_)
      refine p_f rfl rfl (bf1 hg3) rfl ?_
      refine hl_nil (then_n ?_)
      refine hc_cond rfl (fun hb3 => ?_) (fun hb3 => ?_)
      ·exact absurd hyy (by simpa using hb3)
      ·have hb3' := hb3; try simp at hb3'
       refine hc_skip (then_n (hc_seq (hc_seq (hc_region (r_assign rfl rfl (hl_nil (then_n (hc_block ?_))))))))
       refine hc_loop (β := Nat) ⟨fun k => k ≤ 8, fun k => [(2, int b), (9, .slice (some ⟨gl, 0, none⟩) 4 4), (10, int i), (11, .pointer (some ⟨gO, 0, none⟩)), (16, int (((k : Nat) : Int) - 1))], fun _ => [], fun _ => [Row (some ⟨gl, 0, none⟩) (rows dl), RowsF (some ⟨gl, 0, none⟩) dl Td.row, Blk gO (.cells #[.slice a3 d.1.l.length c3, .slice a7 hs2.length c7] T.api_Trades (0, 0)), Row a3 (rows d.1.l), RowsF a7 hs2 Hd.row, Row d.1.a (rows d.1.l), RowsF d.2.a d.2.l Hd.row]⟩ (fun k => 8 - k) 0 (Nat.zero_le _) ⟨rfl, rfl, rfl, rfl, rfl, trivial⟩ (List.nil_sublist _) ⟨(by repeat constructor), (by repeat constructor), (by repeat constructor), (by repeat constructor), (by repeat constructor), (by repeat constructor), (by repeat constructor), trivial⟩ fun k hk => ?_
       simp only at hk
       refine hc_seq (hc_seq (hc_region (r_move rfl rfl (r_leq rfl rfl rfl (hl_nil (then_n ?_))))))
       refine c_dec rfl (fun hb4 => ?_) (fun hb4 => ?_)
       ·have hb4' := hb4; try simp at hb4'
        refine hc_skip (then_n (hc_seq (hc_block (hc_seq (hc_region (r_move rfl rfl (r_assign rfl rfl (hl_nil (then_n ?_)))))))))
        refine hc_cut ⟨fun _ : Int => True, fun z => [(2, int b), (9, .slice (some ⟨gl, 0, none⟩) 4 4), (10, int i), (11, .pointer (some ⟨gO, 0, none⟩)), (16, int (((k : Nat) : Int) - 1)), (17, int z)], fun _ => [], fun _ => [Row (some ⟨gl, 0, none⟩) (rows dl), RowsF (some ⟨gl, 0, none⟩) dl Td.row, Blk gO (.cells #[.slice a3 d.1.l.length c3, .slice a7 hs2.length c7] T.api_Trades (0, 0)), Row a3 (rows d.1.l), RowsF a7 hs2 Hd.row, Row d.1.a (rows d.1.l), RowsF d.2.a d.2.l Hd.row]⟩ ?_ ?_
        ·skip
         refine hc_seq (hc_region (r_move rfl rfl (r_lss rfl rfl rfl (hl_nil (then_n ?_)))))
         refine c_dec rfl (fun hb5 => ?_) (fun hb5 => ?_)
         ·have hb5' := hb5; try simp at hb5'
          refine hc_region (r_move rfl rfl (r_assign rfl rfl (hl_nil ?_)))
          exact cut_n _ b trivial ⟨rfl, rfl, rfl, rfl, rfl, rfl, trivial⟩ (List.nil_sublist _) ⟨(by repeat constructor), (by repeat constructor), (by repeat constructor), (by repeat constructor), (by repeat constructor), (by repeat constructor), (by repeat constructor), trivial⟩
         ·have hb5' := hb5; try simp at hb5'
          refine hc_skip ?_
          exact cut_n _ (((k : Nat) : Int) - 1) trivial ⟨rfl, rfl, rfl, rfl, rfl, rfl, trivial⟩ (List.nil_sublist _) ⟨(by repeat constructor), (by repeat constructor), (by repeat constructor), (by repeat constructor), (by repeat constructor), (by repeat constructor), (by repeat constructor), trivial⟩
        ·intro z _
         have hF := trade_Follow_meets (A := a3) (B := a7) (ca := c3) (cb := c7) d.1.l hs2 z hc3 hc7 ha2
         rw [hTs] at hF
         refine hc_seq (hc_region ?_)
         refine r_loadB rfl T.row_api_Trades T.sz_api_Trades rfl (by repeat constructor) (by rfl) ?_
         refine r_move rfl rfl ?_
         refine hl_call F.trade_Follow_cb rfl rfl (hF) (List.Perm.refl _) ⟨(by repeat constructor), (by repeat constructor), trivial⟩ fun _ _ => ?_
         refine r_move rfl rfl (r_extract rfl rfl rfl (r_extract rfl rfl rfl (r_extract rfl rfl rfl (r_assign rfl rfl (r_assign rfl rfl (r_assign rfl rfl (hl_nil (then_n (hc_seq (hc_region (r_move rfl rfl ?_)))))))))))
         refine r_move rfl rfl ?_
         refine r_elem (α := Td) dl i rfl T.u_L_api_Trades T.sz_api_Trades rfl rfl rfl (by repeat constructor) hdl4.symm (by omega) (by decide) ?_
         refine r_loadS (cs := El.cells d) rfl T.row_api_Trades T.sz_api_Trades rfl rfl (cells_row (by repeat constructor) (by rw [hdd]; exact rows_all (by omega))) ?_
         refine r_move rfl rfl ?_
         refine hl_call F.ref04_Follow_cb rfl rfl (ref04_Follow_meets (A := d.1.a) (B := d.2.a) (ca := d.1.c) (cb := d.2.c) d.1.l d.2.l z (by omega) (by omega) hdo.wc hdo.wh hdha) (List.Perm.refl _) ⟨(by repeat constructor), (by repeat constructor), trivial⟩ fun _ _ => ?_
         refine r_move rfl rfl (r_extract rfl rfl rfl (r_extract rfl rfl rfl (r_extract rfl rfl rfl (r_assign rfl rfl (r_assign rfl rfl (r_assign rfl rfl (hl_nil (then_n (hc_seq (hc_region (r_move rfl rfl ?_)))))))))))
         refine r_move rfl rfl (r_neq rfl rfl rfl (r_move rfl rfl ?_))
         refine g_split rfl rfl ?_ ?_
         ·intro hg4; have hg4' := hg4; try simp at hg4'
          refine g_yes rfl rfl hg4 (r_move rfl rfl (g_yes rfl rfl hg4 (r_move rfl rfl (g_yes rfl rfl hg4 (r_neq rfl rfl rfl ?_)))))
          refine p_f rfl rfl (bf1 hg4) rfl ?_
          refine r_move rfl rfl ?_
          refine g_split rfl rfl ?_ ?_
          ·intro hg5; have hg5' := hg5; try simp at hg5'
           refine g_yes rfl rfl hg5 (r_move rfl rfl (g_yes rfl rfl hg5 (r_move rfl rfl (g_yes rfl rfl hg5 (r_neq rfl rfl rfl ?_)))))
           refine p_f rfl rfl (bf1 hg5) rfl ?_
           refine hl_nil (then_n ?_)
           refine c_dec rfl (fun hb6 => ?_) (fun hb6 => ?_)
           ·have hb6' := hb6; try simp at hb6'
           ·have hb6' := hb6; try simp at hb6'
            refine hc_skip (inb_n (then_n (hc_region (r_move rfl rfl ?_))))
            refine r_add _ rfl rfl rfl rfl (by unfold I64; omega) ?_
            refine r_assign rfl rfl (hl_nil ?_)
            exact again _ (k + 1) (by show k + 1 ≤ 8; omega) (by show 8 - (k + 1) < 8 - k; omega) ⟨rfl, rfl, rfl, rfl, congrArg (fun z : Int => some (int z)) (by show ((k : Int) - 1) + 1 = ((k + 1 : Nat) : Int) - 1; omega), trivial⟩ (List.nil_sublist _) ⟨(by repeat constructor), (by repeat constructor), (by repeat constructor), (by repeat constructor), (by repeat constructor), (by repeat constructor), (by repeat constructor), trivial⟩
          ·intro hg5; have hg5' := hg5; try simp at hg5'
         ·intro hg4; have hg4' := hg4; try simp at hg4'
       ·have hb4' := hb4; try simp at hb4'
        refine hc_exit (then_exit (then_exit (inb_hit (then_n (hc_seq ?_)))))
        refine hc_draw 5 mixed (by decide) (by decide) rfl rfl ?_
        apply hb_ex _ rfl rfl rfl
        ·intro w1
         refine r_loadB rfl T.row_api_Trades T.sz_api_Trades rfl (by repeat constructor) (by rfl) ?_
         refine hl_nil ?_
         exact qe_done rfl
        apply hb_ex _ rfl rfl rfl
        ·intro w1
         refine r_move rfl rfl (hl_nil ?_)
         exact qe_done rfl
        apply hb_ex _ rfl rfl rfl
        ·intro w1
         refine r_move rfl rfl (hl_nil ?_)
         exact qe_done rfl
        apply hb_ex _ rfl rfl rfl
        ·intro w1
         refine r_elem (α := Td) dl i rfl T.u_L_api_Trades T.sz_api_Trades rfl rfl rfl (by repeat constructor) hdl4.symm (by omega) (by decide) ?_
         refine hl_nil ?_
         exact qe_done rfl
        apply hb_ex _ rfl rfl rfl
        ·intro w1
         refine r_loadS (cs := El.cells d) rfl T.row_api_Trades T.sz_api_Trades rfl rfl (cells_row (by repeat constructor) (by rw [hdd]; exact rows_all (by omega))) ?_
         refine hl_nil ?_
         exact qe_done rfl
        refine hb_nil ⟨rfl, ?_⟩
        refine hl_call F.kit_EqTrades_cb rfl rfl (kit_EqTrades_meets (A := a3) (B := a7) (A2 := d.1.a) (B2 := d.2.a) (ca := c3) (cb := c7) (ca2 := d.1.c) (cb2 := d.2.c) d.1.l hs2 d.2.l hp2.symm (by omega) (by omega) ha2) (List.Perm.refl _) ⟨(by repeat constructor), (by repeat constructor), (by repeat constructor), (by repeat constructor), trivial⟩ fun _ _ => ?_
        refine r_not rfl rfl (hl_nil (then_n ?_))
        refine hc_cond rfl (fun hb7 => ?_) (fun hb7 => ?_)
        ·have hb7' := hb7; try simp at hb7'
        ·have hb7' := hb7; try simp at hb7'
         refine hc_skip (inb_n (then_n (hc_region (r_move rfl rfl ?_))))
         refine r_add _ rfl rfl rfl rfl (by unfold I64; omega) ?_
         refine r_assign rfl rfl (hl_nil ?_)
         exact again _ (i + 1) (by show i + 1 ≤ 4; omega) (by show 4 - (i + 1) < 4 - i; omega) ⟨rfl, rfl, rfl, trivial⟩ (List.nil_sublist _) ⟨(by repeat constructor), (by repeat constructor), trivial⟩
     ·intro hg3; have hg3' := hg3; try simp at hg3'
    ·have hb2' := hb2; try simp at hb2'
     refine hc_exit (then_exit (then_exit (inb_hit (then_n (hc_seq (hc_region ?_))))))
     refine hl_call F.law04_indexed_cb rfl rfl (law04_indexed_meets) (List.Perm.refl _) trivial fun _ _ => ?_
     refine r_assign rfl rfl (hl_nil (then_n (hc_ret ?_)))
     exact ret1 () rfl rfl rfl trivial (List.nil_sublist _) trivial
  ·intro hg2; have hg2' := hg2; try simp at hg2'
   refine g_no rfl rfl rfl rfl rfl hg2 (g_no rfl rfl rfl rfl rfl hg2 (g_no rfl rfl rfl rfl rfl hg2 (g_no rfl rfl rfl rfl rfl hg2 ?_)))
   refine p_t rfl rfl (bt2 hg2) rfl ?_
   refine hl_nil (then_n (c_t rfl rfl (hc_seq (hc_region ?_))))
   refine hl_call F.law04_indexed_cb rfl rfl (law04_indexed_meets) (List.Perm.refl _) trivial fun _ _ => ?_
   refine r_assign rfl rfl (hl_nil (then_n (hc_ret (then_ret ?_))))
   exact ret1 () rfl rfl rfl trivial (List.nil_sublist _) trivial
 ·intro hg1; have hg1' := hg1; try simp at hg1'
  refine g_no rfl rfl rfl rfl rfl hg1 (g_no rfl rfl rfl rfl rfl hg1 (g_no rfl rfl rfl rfl rfl hg1 (g_no rfl rfl rfl rfl rfl hg1 ?_)))
  refine p_t rfl rfl (bt2 hg1) rfl ?_
  refine r_move rfl rfl (g_no rfl rfl rfl rfl rfl rfl (g_no rfl rfl rfl rfl rfl rfl (g_no rfl rfl rfl rfl rfl rfl (g_no rfl rfl rfl rfl rfl rfl (p_t rfl rfl rfl rfl (hl_nil (then_n (c_t rfl rfl (hc_seq (hc_region ?_))))))))))
  refine hl_call F.law04_indexed_cb rfl rfl (law04_indexed_meets) (List.Perm.refl _) trivial fun _ _ => ?_
  refine r_assign rfl rfl (hl_nil (then_n (hc_ret (then_ret ?_))))
  exact ret1 () rfl rfl rfl trivial (List.nil_sublist _) trivial

end Go.Proofs.YtlpgheniajdkfaaGreat
