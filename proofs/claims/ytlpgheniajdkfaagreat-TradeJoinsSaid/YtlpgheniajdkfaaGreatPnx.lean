/- The walk of the statement TradeJoins. -/
import Derived.Test.YtlpgheniajdkfaaGreatPnw
namespace Go.Proofs.YtlpgheniajdkfaaGreat
open Go Go.W
set_option linter.unusedVariables false
set_option linter.unusedSimpArgs false
set_option maxRecDepth 20000
attribute [local irreducible] HL HC HQ HB Row Rows2 Blk Facts

theorem joinT_le {t : Tr} {h s : Int} {c : List Rf} (e : joinT t h s = some c) : c.length ≤ (freeT t).length := by
  unfold joinT at e
  split at e
  · cases e
  · obtain ⟨m, _, h2⟩ := List.mem_flatMap.1 (List.mem_of_find?_eq_some e)
    exact combos_le h2
theorem joinE_bd {t : Tr} {a b : Int} {x : List (Sl Int)} (h : lsts x = (joinE t a b).1) : x.length ≤ 36 ∧ ∀ p ∈ x, p.l.length ≤ 2 := by
  have h1 : x.length = (joinE t a b).1.length := by rw [← h, lsts_len]
  have h2 : ∀ p ∈ x, p.l ∈ (joinE t a b).1 := fun p hp => by rw [← h, lsts]; exact List.mem_map_of_mem hp
  have hz : (joinE t a b).1 = [] → x.length ≤ 36 ∧ ∀ p ∈ x, p.l.length ≤ 2 := fun e => by
    rw [e] at h1 h2
    exact ⟨by rw [h1]; exact Nat.zero_le _, fun p hp => by have := h2 p hp; cases this⟩
  by_cases e1 : askE t [a] = 0
  · by_cases e2 : 0 ≤ b ∧ b ≤ 6
    · cases e3 : joinT t a b with
      | none => exact hz (by unfold joinE; rw [if_neg (not_not_intro e1), if_neg (not_not_intro e2), e3]; rfl)
      | some c =>
        have e4 : (joinE t a b).1 = pairsOf c := by unfold joinE; rw [if_neg (not_not_intro e1), if_neg (not_not_intro e2), e3]; rfl
        rw [e4] at h1 h2
        have h5 := joinT_le e3
        have h6 := free_len (tr_ok (ask_check e1)).h6
        refine ⟨by rw [h1, pairsOf, List.length_map]; omega, fun p hp => ?_⟩
        obtain ⟨r, _, e⟩ := List.mem_map.1 (h2 p hp)
        rw [← e]
        exact Nat.le_refl _
    · exact hz (by unfold joinE; rw [if_neg (not_not_intro e1), if_pos e2])
  · exact hz (by unfold joinE; rw [if_pos e1])

set_option maxHeartbeats 2000000 in
theorem law04_TradeJoins_meets {A0 B0 N : Option Addr} {ca0 cb0 nc : Nat} (cs0 : List Cl) (hs0 : List Hd) (a b : Int) (nums : List Int) (hca0 : cs0.length ≤ ca0 ∧ ca0 ≤ 9223372036854775807) (hcb0 : hs0.length ≤ cb0 ∧ cb0 ≤ 9223372036854775807) (hn : nums.length ≤ 9223372036854775807) : Meets Tryz.prog F.law04_TradeJoins [.agg #[.slice A0 cs0.length ca0, .slice B0 hs0.length cb0], int a, int b, .slice N nums.length nc] { LI := [Row A0 (rows cs0), RowsF B0 hs0 Hd.row, Row N (rows nums)], val := fun _ : Unit => .bool true } := by
 refine meets_intro F.law04_TradeJoins_f rfl (Nat.le_of_ble_eq_true rfl) fun w0 => ?_
 refine hc_seq (hc_region ?_)
 refine r_box rfl rfl fun gB => ?_
 refine r_assign rfl rfl (hl_nil (then_n (hc_seq (hc_seq (hc_letgoB (hc_region ?_))))))
 refine r_loadB rfl T.row_api_Trades T.sz_api_Trades rfl (by repeat constructor) (by rfl) ?_
 refine hl_call F.law04_short_cb rfl rfl (law04_short_meets cs0 hs0 (by omega) (by omega)) (List.Perm.refl _) ⟨(by repeat constructor), (by repeat constructor), trivial⟩ fun bs hbs => ?_
 refine r_not rfl rfl (r_move rfl rfl ?_)
 refine g_split rfl rfl ?_ ?_
 ·intro hg1; have hg1' := hg1; try simp at hg1'
  have hbt : bs = true := by simpa using hg1
  obtain ⟨hc20, hh20, hha, hwc, hwh⟩ := hbs hbt
  refine g_yes rfl rfl hg1 ?_
  refine r_fieldAddr ⟨_, 1, none⟩ rfl rfl T.fa_api_Trades_1 rfl ?_
  refine g_yes rfl rfl hg1 ?_
  refine r_load rfl T.cell_L_api_Head rfl (cell_blk (by repeat constructor) rfl) ?_
  refine g_yes rfl rfl hg1 ?_
  refine r_len_sl rfl T.u_L_api_Head rfl ?_
  refine g_yes rfl rfl hg1 (r_eql rfl rfl rfl ?_)
  refine p_f rfl rfl (bf1 hg1) rfl ?_
  refine hl_nil (then_n ?_)
  refine c_dec rfl (fun hb1 => ?_) (fun hb1 => ?_)
  ·have hb1' := hb1; try simp at hb1'
   refine hc_seq (hc_region ?_)
   refine hl_call F.law04_indexed_cb rfl rfl (law04_indexed_meets) (List.Perm.refl _) trivial fun _ _ => ?_
   refine r_assign rfl rfl (hl_nil (then_n (hc_ret (then_ret ?_))))
   exact ret1 () rfl rfl rfl trivial (List.nil_sublist _) trivial
  ·have hb1' := hb1; try simp at hb1'
   have hd0 : TdOK ((⟨A0, ca0, cs0⟩, ⟨B0, cb0, hs0⟩) : Td) := ⟨hca0.1, hcb0.1, hc20, hh20, hha, hwc, hwh⟩
   refine hc_skip (then_n (hc_seq (hc_region (r_move rfl rfl ?_))))
   refine hl_call F.kit_NewDice_cb rfl rfl (kit_NewDice_meets nums) (List.Perm.refl _) ⟨(by repeat constructor), trivial⟩ fun gd _ => ?_
   refine r_assign rfl rfl (hl_nil (then_n (hc_seq (hc_region (r_move rfl rfl ?_)))))
   refine hl_call F.kit_TradesOf_cb rfl rfl (kit_TradesOf_meets 2 5 hn (dok0 nums) (by decide) (by decide)) (List.Perm.refl _) ⟨(by repeat constructor), trivial⟩ fun x hx => ?_
   obtain ⟨s9, cs9, hs9, ⟨CA, ca⟩, ⟨HB, cb⟩⟩ := x
   obtain ⟨hs9d, hT⟩ := hx
   simp only at hs9d
   have hca : cs9.length ≤ ca := hT.ca
   have hcb : hs9.length ≤ cb := hT.cb
   have ha : ∀ h ∈ hs9, h.2.2.2.l.length ≤ 1000000 := hT.ha
   have hT0 : checkT (trOf cs9 hs9) = 0 := hT.ok
   have hok : TrOK (trOf cs9 hs9) := tr_ok hT0
   have h6 : cs9.length ≤ 6 := hok.c6
   have h6h : hs9.length ≤ 5 := hT.h2
   clear hT
   refine r_alloc rfl (fun _ => T.al_api_Trades _) fun gU => ?_
   refine r_storeS (cs := #[.slice CA cs9.length ca, .slice HB hs9.length cb]) rfl rfl (.refl _) T.sz_api_Trades (by rfl) (by rfl) ?_
   refine hl_nil (then_n (hc_seq (hc_letgoB ?_)))
   refine hc_drawW ([dice gd N nc nums s9]) ([]) (List.Perm.refl _) 20 [15, 10] mixed (by decide) (by decide) (by decide) rfl rfl rfl ?_
   apply hb_ex _ rfl rfl rfl
   ·intro w1
    refine r_loadB rfl T.row_api_Trades T.sz_api_Trades rfl (by repeat constructor) (by rfl) ?_
    refine hl_nil ?_
    exact qe_done rfl
   apply hb_ex _ rfl rfl rfl
   ·intro w1
    refine r_loadB rfl T.row_api_Trades T.sz_api_Trades rfl (by repeat constructor) (by rfl) ?_
    refine hl_nil ?_
    exact qe_done rfl
   apply hb_ex _ rfl rfl rfl
   ·intro w1
    refine r_loadB rfl T.row_api_Trades T.sz_api_Trades rfl (by repeat constructor) (by rfl) ?_
    refine hl_nil ?_
    exact qe_done rfl
   refine hb_vs ⟨Nat × List Td, fun x => x.2.length = 3 ∧ ∀ d ∈ x.2, TdOK d, fun x => .slice (some ⟨x.1, 0, none⟩) 3 3, fun x => [RowsF (some ⟨x.1, 0, none⟩) x.2 Td.row]⟩ rfl rfl rfl ?_ ?_
   ·intro w1
    refine hl_facts (Fs := [Row ((⟨A0, ca0, cs0⟩, ⟨B0, cb0, hs0⟩) : Td).1.a (rows ((⟨A0, ca0, cs0⟩, ⟨B0, cb0, hs0⟩) : Td).1.l), RowsF ((⟨A0, ca0, cs0⟩, ⟨B0, cb0, hs0⟩) : Td).2.a ((⟨A0, ca0, cs0⟩, ⟨B0, cb0, hs0⟩) : Td).2.l Hd.row]) (by intro F hF; simp only [List.mem_cons, List.not_mem_nil, or_false] at hF; rcases hF with rfl | rfl; exact .inl (by repeat constructor); exact .inl (by repeat constructor)) ?_
    refine hl_facts (Fs := [Row ((⟨CA, ca, cs9⟩, ⟨HB, cb, hs9⟩) : Td).1.a (rows ((⟨CA, ca, cs9⟩, ⟨HB, cb, hs9⟩) : Td).1.l), RowsF ((⟨CA, ca, cs9⟩, ⟨HB, cb, hs9⟩) : Td).2.a ((⟨CA, ca, cs9⟩, ⟨HB, cb, hs9⟩) : Td).2.l Hd.row]) (by intro F hF; simp only [List.mem_cons, List.not_mem_nil, or_false] at hF; rcases hF with rfl | rfl; exact .inl (by repeat constructor); exact .inl (by repeat constructor)) ?_
    refine r_buildSlice _ rfl rfl (fun _ => T.bs_L_api_Trades_3 ..) fun gS => ?_
    refine hl_nil ?_
    refine hq_letgo (rows ([((⟨A0, ca0, cs0⟩, ⟨B0, cb0, hs0⟩) : Td), ((⟨CA, ca, cs9⟩, ⟨HB, cb, hs9⟩) : Td), ((⟨CA, ca, cs9⟩, ⟨HB, cb, hs9⟩) : Td)] : List Td)) (List.prefix_refl _) ?_
    refine hq_facts (Fs := ([((⟨A0, ca0, cs0⟩, ⟨B0, cb0, hs0⟩) : Td), ((⟨CA, ca, cs9⟩, ⟨HB, cb, hs9⟩) : Td), ((⟨CA, ca, cs9⟩, ⟨HB, cb, hs9⟩) : Td)] : List Td).map Td.row) (by intro F hF; simp only [List.map_cons, List.map_nil, List.mem_cons, List.not_mem_nil, or_false] at hF; rcases hF with rfl | rfl | rfl <;> exact .inl (by repeat constructor)) ?_
    refine hq_rowsF (A := some ⟨gS, 0, none⟩) (ps := ([((⟨A0, ca0, cs0⟩, ⟨B0, cb0, hs0⟩) : Td), ((⟨CA, ca, cs9⟩, ⟨HB, cb, hs9⟩) : Td), ((⟨CA, ca, cs9⟩, ⟨HB, cb, hs9⟩) : Td)] : List Td)) (f := Td.row) (by repeat constructor) (by repeat constructor) ?_
    have hD1 : TdOK ((⟨CA, ca, cs9⟩, ⟨HB, cb, hs9⟩) : Td) := ⟨hca, hcb, by show cs9.length ≤ 20; omega, by show hs9.length ≤ 20; omega, ha, wc_ok hok, wh_ok hok⟩
    exact qv_done (gS, ([((⟨A0, ca0, cs0⟩, ⟨B0, cb0, hs0⟩) : Td), ((⟨CA, ca, cs9⟩, ⟨HB, cb, hs9⟩) : Td), ((⟨CA, ca, cs9⟩, ⟨HB, cb, hs9⟩) : Td)] : List Td)) ⟨rfl, by intro d hd; simp only [List.mem_cons, List.not_mem_nil, or_false] at hd; rcases hd with rfl | rfl | rfl; exact hd0; exact hD1; exact hD1⟩ rfl ⟨m0, trivial⟩
   apply hb_ex _ rfl rfl rfl
   ·intro w1
    refine r_move rfl rfl (hl_nil ?_)
    exact qe_done rfl
   apply hb_ex _ rfl rfl rfl
   ·intro w1
    refine r_move rfl rfl (hl_nil ?_)
    exact qe_done rfl
   apply hb_ex _ rfl rfl rfl
   ·intro w1
    refine r_fieldAddr ⟨_, 1, none⟩ rfl rfl T.fa_api_Trades_1 rfl ?_
    refine hl_nil ?_
    exact qe_done rfl
   apply hb_ex _ rfl rfl rfl
   ·intro w1
    refine r_load rfl T.cell_L_api_Head rfl (cell_blk (by repeat constructor) rfl) ?_
    refine hl_nil ?_
    exact qe_done rfl
   apply hb_ex _ rfl rfl rfl
   ·intro w1
    refine r_len_sl rfl T.u_L_api_Head rfl ?_
    refine hl_nil ?_
    exact qe_done rfl
   apply hb_ex _ rfl rfl rfl
   ·intro w1
    refine r_sub ((hs9.length : Int) - 1) rfl rfl rfl rfl (by unfold I64; omega) ?_
    refine hl_nil ?_
    exact qe_done rfl
   refine hb_wr ⟨(Int × Int) × Int, fun x => DOK nums x.1, fun x => int x.2, fun _ => [], fun x => [dice gd N nc nums x.1]⟩ rfl rfl rfl ?_ ?_
   ·intro w1
    refine hl_call F.kit_Dice_To_cb rfl rfl (kit_Dice_To_meets ((hs9.length : Int) - 1) hn hs9d (by omega)) (List.Perm.refl _) ⟨(by repeat constructor), trivial⟩ fun y hy => ?_
    refine hl_nil ?_
    exact qw_done y hy.1 (fun _ => rfl) (List.Sublist.refl _) trivial
   apply hb_ex _ rfl rfl rfl
   ·intro w1
    refine r_move rfl rfl (hl_nil ?_)
    exact qe_done rfl
   refine hb_vs ⟨Nat × List Int, fun x => x.2.length = 3, fun x => .slice (some ⟨x.1, 0, none⟩) 3 3, fun x => [Row (some ⟨x.1, 0, none⟩) (rows x.2)]⟩ rfl rfl rfl ?_ ?_
   ·intro y hy; intro w1
    refine r_buildSlice _ rfl rfl (fun _ => T.bs_ints_3 ..) fun gS => ?_
    refine hl_nil ?_
    refine hq_letgo (rows ([a, y.2, a] : List Int)) (List.prefix_refl _) ?_
    exact qv_done (gS, [a, y.2, a]) rfl rfl ⟨m0, trivial⟩
   apply hb_ex _ rfl rfl rfl
   ·intro w1
    refine r_move rfl rfl (hl_nil ?_)
    exact qe_done rfl
   apply hb_ex _ rfl rfl rfl
   ·intro w1
    refine r_move rfl rfl (hl_nil ?_)
    exact qe_done rfl
   refine hb_wr ⟨(Int × Int) × Int, fun x => DOK nums x.1, fun x => int x.2, fun _ => [], fun x => [dice gd N nc nums x.1]⟩ rfl rfl rfl ?_ ?_
   ·intro x hx; intro w1
    refine hl_call F.kit_Dice_From_cb rfl rfl (kit_Dice_From_meets 1 3 hn hx (by omega)) (List.Perm.refl _) ⟨(by repeat constructor), trivial⟩ fun y hy => ?_
    refine hl_nil ?_
    exact qw_done y hy.1 (fun _ => rfl) (List.Sublist.refl _) trivial
   apply hb_ex _ rfl rfl rfl
   ·intro w1
    refine r_move rfl rfl (hl_nil ?_)
    exact qe_done rfl
   refine hb_vs ⟨Nat × List Int, fun x => x.2.length = 3, fun x => .slice (some ⟨x.1, 0, none⟩) 3 3, fun x => [Row (some ⟨x.1, 0, none⟩) (rows x.2)]⟩ rfl rfl rfl ?_ ?_
   ·intro y hy; intro w1
    refine r_buildSlice _ rfl rfl (fun _ => T.bs_ints_3 ..) fun gS => ?_
    refine hl_nil ?_
    refine hq_letgo (rows ([b, y.2, b] : List Int)) (List.prefix_refl _) ?_
    exact qv_done (gS, [b, y.2, b]) rfl rfl ⟨m0, trivial⟩
   refine hb_vs ⟨Nat × List Td, fun x => x.2.length = 3 ∧ ∀ d ∈ x.2, TdOK d, fun x => .slice (some ⟨x.1, 0, none⟩) 3 3, fun x => [RowsF (some ⟨x.1, 0, none⟩) x.2 Td.row]⟩ rfl rfl rfl ?_ ?_
   ·intro w hw; intro w1
    refine r_assign rfl rfl (hl_nil ?_)
    exact qv_done w hw rfl ⟨m0, trivial⟩
   refine hb_vs ⟨Nat × List Int, fun x => x.2.length = 3, fun x => .slice (some ⟨x.1, 0, none⟩) 3 3, fun x => [Row (some ⟨x.1, 0, none⟩) (rows x.2)]⟩ rfl rfl rfl ?_ ?_
   ·intro w hw; intro w1
    refine r_assign rfl rfl (hl_nil ?_)
    exact qv_done w hw rfl ⟨m0, trivial⟩
   refine hb_nil ⟨rfl, ?_⟩
   intro _ _ _ _ _ _ _ _ bx hbx dx hdx ax hax
   obtain ⟨glb, lb⟩ := bx
   obtain ⟨gl, dl⟩ := dx
   obtain ⟨gla, la⟩ := ax
   have hla4 : la.length = 3 := hax
   have hlb4 : lb.length = 3 := hbx
   have hdl4 : dl.length = 3 := hdx.1
   have hdal : ∀ d ∈ dl, TdOK d := hdx.2
   clear hax hbx hdx
   refine r_assign rfl rfl (hl_nil (then_n (hc_seq (hc_seq ?_))))
   refine hc_outerF (ps := dl) (A := some ⟨gl, 0, none⟩) (f := Td.row) (by repeat constructor) ?_
   refine hc_region (r_assign rfl rfl (hl_nil (then_n (hc_block ?_))))
   refine hc_loop (β := Nat) ⟨fun i => i ≤ 3, fun i => [(11, .slice (some ⟨gl, 0, none⟩) 3 3), (12, .slice (some ⟨gla, 0, none⟩) 3 3), (13, .slice (some ⟨glb, 0, none⟩) 3 3), (14, int i)], fun _ => [], fun _ => [Row (some ⟨gl, 0, none⟩) (rows dl), RowsF (some ⟨gl, 0, none⟩) dl Td.row, Row (some ⟨gla, 0, none⟩) (rows la), Row (some ⟨glb, 0, none⟩) (rows lb)]⟩ (fun i => 3 - i) 0 (Nat.zero_le _) ⟨rfl, rfl, rfl, rfl, trivial⟩ (List.nil_sublist _) ⟨(by repeat constructor), (by repeat constructor), (by repeat constructor), (by repeat constructor), trivial⟩ fun i hi => ?_
   simp only at hi
   refine hc_seq (hc_seq (hc_region (r_move rfl rfl (r_move rfl rfl ?_))))
   refine r_len_sl rfl T.u_L_api_Trades rfl ?_
   refine r_lss rfl rfl rfl (hl_nil (then_n ?_))
   refine c_dec rfl (fun hb2 => ?_) (fun hb2 => ?_)
   ·have hb2' := hb2; try simp at hb2'
    have hi2 : i < 3 := by omega
    obtain ⟨d, hdd⟩ : ∃ d, d = dl.getD i default := ⟨_, rfl⟩
    have hdm : d ∈ dl := by rw [hdd]; exact getD_mem (by omega)
    have hdo := hdal d hdm
    have hd20 := hdo.c
    have hdh20 := hdo.h
    have hdha := hdo.ha
    refine hc_innerF (p := d) (f := Td.row) (ps := dl) (by repeat constructor) hdm ?_
    refine hc_pick (F := Row d.1.a (rows d.1.l)) (Fs := [Row d.1.a (rows d.1.l), RowsF d.2.a d.2.l Hd.row]) (by repeat constructor) (by simp) ?_
    refine hc_pick (F := RowsF d.2.a d.2.l Hd.row) (Fs := [Row d.1.a (rows d.1.l), RowsF d.2.a d.2.l Hd.row]) (by repeat constructor) (by simp) ?_
    refine hc_skip (then_n (hc_seq (hc_block (hc_seq (hc_region (r_move rfl rfl (r_move rfl rfl ?_)))))))
    refine r_elem (α := Td) dl i rfl T.u_L_api_Trades T.sz_api_Trades rfl rfl rfl (by repeat constructor) hdl4.symm (by omega) (by decide) ?_
    refine r_loadS (cs := El.cells d) rfl T.row_api_Trades T.sz_api_Trades rfl rfl (cells_row (by repeat constructor) (by rw [hdd]; exact rows_all (by omega))) ?_
    refine hl_call F.kit_DupTrades_cb rfl rfl (kit_DupTrades_any (A := d.1.a) (B := d.2.a) (ca := d.1.c) (cb := d.2.c) d.1.l d.2.l (by omega) (by omega) hdo.a hdo.b hdha) (hpR := []) (List.Perm.refl _) ⟨(by repeat constructor), (by repeat constructor), trivial⟩ fun x hD => ?_
    obtain ⟨⟨⟨a3, c3⟩, o3⟩, hs2, ⟨⟨a7, c7⟩, o7⟩⟩ := x
    have hp2 : hs2.map Hd.p = d.2.l.map Hd.p := hD.p
    have hDa : GrowE T.api_Class 2 a3 d.1.l.length c3 (rows d.1.l) o3 := hD.a
    have hDb : GrowE T.api_Head 4 a7 hs2.length c7 (rows hs2) o7 := hD.b
    have hl2 := p_len hp2
    have hc3 := hDa.le
    have hc7 := hDb.le
    clear hD
    refine hl_perm (show List.Perm ((o7 ++ o3) ++ []) (o3 ++ (o7 ++ [])) from (perm_of fun p => by simp only [List.countP_append, List.countP_cons, List.countP_nil]; omega)) ?_
    refine hl_grownE hDa (hl_grownE hDb ?_)
    have hTs := tr_same (cs := d.1.l) hp2
    have ha2 := ha_same hp2 hdha
    have hwh2 := wh_same hp2 hdo.wh
    refine r_alloc rfl (fun _ => T.al_api_Trades _) fun gO => ?_
    refine r_storeS (cs := #[.slice a3 d.1.l.length c3, .slice a7 hs2.length c7]) rfl rfl (.refl _) T.sz_api_Trades (by rfl) (by rfl) ?_
    refine hl_nil (then_n (hc_seq (hc_letgoB ?_)))
    refine hc_rowsF (A := a7) (ps := hs2) (f := Hd.row) (by repeat constructor) (by repeat constructor) ?_
    have hJ := trade_Join_meets (A := a3) (B := a7) (ca := c3) (cb := c7) d.1.l hs2 (la.getD i default) (lb.getD i default) hc3 hc7 ha2
    rw [hTs] at hJ
    refine hc_draw 14 mixed (by decide) (by decide) rfl rfl ?_
    apply hb_ex _ rfl rfl rfl
    ·intro w1
     refine r_loadB rfl T.row_api_Trades T.sz_api_Trades rfl (by repeat constructor) (by rfl) ?_
     refine hl_nil ?_
     exact qe_done rfl
    apply hb_ex _ rfl rfl rfl
    ·intro w1
     refine r_move rfl rfl (hl_nil ?_)
     exact qe_done rfl
    apply hb_ex _ rfl rfl rfl
    ·intro w1
     refine r_move rfl rfl (hl_nil ?_)
     exact qe_done rfl
    apply hb_ex _ rfl rfl rfl
    ·intro w1
     refine r_elem (α := Int) la i rfl T.u_ints T.sz_int rfl rfl rfl (by repeat constructor) hla4.symm (by omega) (by decide) ?_
     refine hl_nil ?_
     exact qe_done rfl
    apply hb_ex _ rfl rfl rfl
    ·intro w1
     refine r_load (v := int (la.getD i default)) rfl T.cell_int rfl (cell_row (by repeat constructor) (rows_get0 (by omega) rfl)) ?_
     refine hl_nil ?_
     exact qe_done rfl
    apply hb_ex _ rfl rfl rfl
    ·intro w1
     refine r_move rfl rfl (hl_nil ?_)
     exact qe_done rfl
    apply hb_ex _ rfl rfl rfl
    ·intro w1
     refine r_move rfl rfl (hl_nil ?_)
     exact qe_done rfl
    apply hb_ex _ rfl rfl rfl
    ·intro w1
     refine r_elem (α := Int) lb i rfl T.u_ints T.sz_int rfl rfl rfl (by repeat constructor) hlb4.symm (by omega) (by decide) ?_
     refine hl_nil ?_
     exact qe_done rfl
    apply hb_ex _ rfl rfl rfl
    ·intro w1
     refine r_load (v := int (lb.getD i default)) rfl T.cell_int rfl (cell_row (by repeat constructor) (rows_get0 (by omega) rfl)) ?_
     refine hl_nil ?_
     exact qe_done rfl
    refine hb_vs ⟨OutS, fun y => lsts y.1 = (joinE (trOf d.1.l d.2.l) (la.getD i default) (lb.getD i default)).1, fun y => .tuple #[.slice y.2.1 y.1.length y.2.2, int (joinE (trOf d.1.l d.2.l) (la.getD i default) (lb.getD i default)).2], fun y => [Rows2 y.2.1 y.1]⟩ rfl rfl rfl ?_ ?_
    ·intro w1
     refine hl_call F.trade_Join_cb rfl rfl (hJ) (List.Perm.refl _) ⟨(by repeat constructor), (by repeat constructor), trivial⟩ fun y hy => ?_
     refine hl_nil ?_
     exact qv_done y hy rfl ⟨m0, trivial⟩
    refine hb_vs ⟨OutS, fun y => lsts y.1 = (joinE (trOf d.1.l d.2.l) (la.getD i default) (lb.getD i default)).1, fun y => .tuple #[.slice y.2.1 y.1.length y.2.2, int (joinE (trOf d.1.l d.2.l) (la.getD i default) (lb.getD i default)).2], fun y => [Rows2 y.2.1 y.1]⟩ rfl rfl rfl ?_ ?_
    ·intro y hy; intro w1
     refine r_move rfl rfl (hl_nil ?_)
     exact qv_done y hy rfl ⟨m0, trivial⟩
    refine hb_vs ⟨OutS, fun y => lsts y.1 = (joinE (trOf d.1.l d.2.l) (la.getD i default) (lb.getD i default)).1, fun y => .slice y.2.1 y.1.length y.2.2, fun y => [Rows2 y.2.1 y.1]⟩ rfl rfl rfl ?_ ?_
    ·intro y hy; intro w1
     refine r_extract rfl rfl rfl (hl_nil ?_)
     exact qv_done y hy rfl ⟨m0, trivial⟩
    apply hb_ex _ rfl rfl rfl
    ·intro y hy; intro w1
     refine r_extract rfl rfl rfl (hl_nil ?_)
     exact qe_done rfl
    refine hb_vs ⟨OutS, fun y => lsts y.1 = (joinE (trOf d.1.l d.2.l) (la.getD i default) (lb.getD i default)).1, fun y => .slice y.2.1 y.1.length y.2.2, fun y => [Rows2 y.2.1 y.1]⟩ rfl rfl rfl ?_ ?_
    ·intro y hy; intro w1
     refine r_assign rfl rfl (hl_nil ?_)
     exact qv_done y hy rfl ⟨m0, trivial⟩
    refine hb_nil ⟨rfl, ?_⟩
    intro _ _ _ _ _ _ p3 hp3
    refine r_assign rfl rfl (hl_nil (then_n (hc_seq ?_)))
    refine hc_draw 17 mixed (by decide) (by decide) rfl rfl ?_
    apply hb_ex _ rfl rfl rfl
    ·intro w1
     refine r_move rfl rfl (hl_nil ?_)
     exact qe_done rfl
    apply hb_ex _ rfl rfl rfl
    ·intro w1
     refine r_move rfl rfl (hl_nil ?_)
     exact qe_done rfl
    apply hb_ex _ rfl rfl rfl
    ·intro w1
     refine r_elem (α := Td) dl i rfl T.u_L_api_Trades T.sz_api_Trades rfl rfl rfl (by repeat constructor) hdl4.symm (by omega) (by decide) ?_
     refine hl_nil ?_
     exact qe_done rfl
    apply hb_ex _ rfl rfl rfl
    ·intro w1
     refine r_loadS (cs := El.cells d) rfl T.row_api_Trades T.sz_api_Trades rfl rfl (cells_row (by repeat constructor) (by rw [hdd]; exact rows_all (by omega))) ?_
     refine hl_nil ?_
     exact qe_done rfl
    apply hb_ex _ rfl rfl rfl
    ·intro w1
     refine r_move rfl rfl (hl_nil ?_)
     exact qe_done rfl
    apply hb_ex _ rfl rfl rfl
    ·intro w1
     refine r_move rfl rfl (hl_nil ?_)
     exact qe_done rfl
    apply hb_ex _ rfl rfl rfl
    ·intro w1
     refine r_elem (α := Int) la i rfl T.u_ints T.sz_int rfl rfl rfl (by repeat constructor) hla4.symm (by omega) (by decide) ?_
     refine hl_nil ?_
     exact qe_done rfl
    apply hb_ex _ rfl rfl rfl
    ·intro w1
     refine r_load (v := int (la.getD i default)) rfl T.cell_int rfl (cell_row (by repeat constructor) (rows_get0 (by omega) rfl)) ?_
     refine hl_nil ?_
     exact qe_done rfl
    apply hb_ex _ rfl rfl rfl
    ·intro w1
     refine r_move rfl rfl (hl_nil ?_)
     exact qe_done rfl
    apply hb_ex _ rfl rfl rfl
    ·intro w1
     refine r_move rfl rfl (hl_nil ?_)
     exact qe_done rfl
    apply hb_ex _ rfl rfl rfl
    ·intro w1
     refine r_elem (α := Int) lb i rfl T.u_ints T.sz_int rfl rfl rfl (by repeat constructor) hlb4.symm (by omega) (by decide) ?_
     refine hl_nil ?_
     exact qe_done rfl
    apply hb_ex _ rfl rfl rfl
    ·intro w1
     refine r_load (v := int (lb.getD i default)) rfl T.cell_int rfl (cell_row (by repeat constructor) (rows_get0 (by omega) rfl)) ?_
     refine hl_nil ?_
     exact qe_done rfl
    refine hb_vs ⟨OutS, fun y => lsts y.1 = (joinE (trOf d.1.l d.2.l) (la.getD i default) (lb.getD i default)).1, fun y => .tuple #[.slice y.2.1 y.1.length y.2.2, int (joinE (trOf d.1.l d.2.l) (la.getD i default) (lb.getD i default)).2], fun y => [Rows2 y.2.1 y.1]⟩ rfl rfl rfl ?_ ?_
    ·intro w1
     refine hl_call F.ref04_Join_cb rfl rfl (ref04_Join_meets (A := d.1.a) (B := d.2.a) (ca := d.1.c) (cb := d.2.c) d.1.l d.2.l (la.getD i default) (lb.getD i default) (by omega) (by omega) hdo.wc hdo.wh hdha) (List.Perm.refl _) ⟨(by repeat constructor), (by repeat constructor), trivial⟩ fun y hy => ?_
     refine hl_nil ?_
     exact qv_done y hy rfl ⟨m0, trivial⟩
    refine hb_vs ⟨OutS, fun y => lsts y.1 = (joinE (trOf d.1.l d.2.l) (la.getD i default) (lb.getD i default)).1, fun y => .tuple #[.slice y.2.1 y.1.length y.2.2, int (joinE (trOf d.1.l d.2.l) (la.getD i default) (lb.getD i default)).2], fun y => [Rows2 y.2.1 y.1]⟩ rfl rfl rfl ?_ ?_
    ·intro y hy; intro w1
     refine r_move rfl rfl (hl_nil ?_)
     exact qv_done y hy rfl ⟨m0, trivial⟩
    refine hb_vs ⟨OutS, fun y => lsts y.1 = (joinE (trOf d.1.l d.2.l) (la.getD i default) (lb.getD i default)).1, fun y => .slice y.2.1 y.1.length y.2.2, fun y => [Rows2 y.2.1 y.1]⟩ rfl rfl rfl ?_ ?_
    ·intro y hy; intro w1
     refine r_extract rfl rfl rfl (hl_nil ?_)
     exact qv_done y hy rfl ⟨m0, trivial⟩
    apply hb_ex _ rfl rfl rfl
    ·intro y hy; intro w1
     refine r_extract rfl rfl rfl (hl_nil ?_)
     exact qe_done rfl
    refine hb_vs ⟨OutS, fun y => lsts y.1 = (joinE (trOf d.1.l d.2.l) (la.getD i default) (lb.getD i default)).1, fun y => .slice y.2.1 y.1.length y.2.2, fun y => [Rows2 y.2.1 y.1]⟩ rfl rfl rfl ?_ ?_
    ·intro y hy; intro w1
     refine r_assign rfl rfl (hl_nil ?_)
     exact qv_done y hy rfl ⟨m0, trivial⟩
    refine hb_nil ⟨rfl, ?_⟩
    intro _ _ _ _ _ _ q3 hq3
    refine r_assign rfl rfl (hl_nil (then_n (hc_seq ?_)))
    have hp31 : lsts p3.1 = (joinE (trOf d.1.l d.2.l) (la.getD i default) (lb.getD i default)).1 := hp3
    have hpq : lsts p3.1 = lsts q3.1 := hp31.trans (Eq.symm hq3)
    have hbd := joinE_bd hp31
    refine hc_draw 15 mixed (by decide) (by decide) rfl rfl ?_
    apply hb_ex _ rfl rfl rfl
    ·intro w1
     refine r_move rfl rfl (hl_nil ?_)
     exact qe_done rfl
    apply hb_ex _ rfl rfl rfl
    ·intro w1
     refine r_move rfl rfl (hl_nil ?_)
     exact qe_done rfl
    apply hb_ex _ rfl rfl rfl
    ·intro w1
     refine r_neq rfl rfl rfl (hl_nil ?_)
     exact qe_done rfl
    apply hb_ex _ rfl rfl rfl
    ·intro w1
     refine r_move rfl rfl (hl_nil ?_)
     exact qe_done rfl
    refine hb_split (t := 95) (want := false) rfl ?_ ?_
    ·intro hg2; have hg2' := hg2; try simp at hg2'
     apply hb_ex _ rfl rfl rfl
     ·intro w1
      refine g_yes rfl rfl hg2 (r_move rfl rfl (hl_nil ?_))
      exact qe_done rfl
     apply hb_ex _ rfl rfl rfl
     ·intro w1
      refine g_yes rfl rfl hg2 (r_move rfl rfl (hl_nil ?_))
      exact qe_done rfl
     apply hb_ex _ rfl rfl rfl
     ·intro w1
      refine g_yes rfl rfl hg2 ?_
      refine hl_call F.kit_EqLists_cb rfl rfl (kit_EqLists_meets p3.1 q3.1 (by omega) (fun p hp => by have := hbd.2 p hp; omega)) (List.Perm.refl _) ⟨(by repeat constructor), (by repeat constructor), trivial⟩ fun _ _ => ?_
      refine hl_nil ?_
      exact qe_done rfl
     apply hb_ex _ rfl rfl rfl
     ·intro w1
      refine g_yes rfl rfl hg2 (r_not rfl rfl (hl_nil ?_))
      exact qe_done rfl
     apply hb_ex _ rfl rfl rfl
     ·intro w1
      refine p_f rfl rfl (bf1 hg2) rfl ?_
      refine hl_nil ?_
      exact qe_done rfl
     apply hb_ex _ rfl rfl rfl
     ·intro w1
      refine r_move rfl rfl (hl_nil ?_)
      exact qe_done rfl
     refine hb_split (t := 101) (want := false) rfl ?_ ?_
     ·intro hg3; have hg3' := hg3; try simp at hg3'
      apply hb_ex _ rfl rfl rfl
      ·intro w1
       refine g_yes rfl rfl hg3 ?_
       refine r_loadB rfl T.row_api_Trades T.sz_api_Trades rfl (by repeat constructor) (by rfl) ?_
       refine hl_nil ?_
       exact qe_done rfl
      apply hb_ex _ rfl rfl rfl
      ·intro w1
       refine g_yes rfl rfl hg3 (r_move rfl rfl (hl_nil ?_))
       exact qe_done rfl
      apply hb_ex _ rfl rfl rfl
      ·intro w1
       refine g_yes rfl rfl hg3 (r_move rfl rfl (hl_nil ?_))
       exact qe_done rfl
      apply hb_ex _ rfl rfl rfl
      ·intro w1
       refine g_yes rfl rfl hg3 ?_
       refine r_elem (α := Td) dl i rfl T.u_L_api_Trades T.sz_api_Trades rfl rfl rfl (by repeat constructor) hdl4.symm (by omega) (by decide) ?_
       refine hl_nil ?_
       exact qe_done rfl
      apply hb_ex _ rfl rfl rfl
      ·intro w1
       refine g_yes rfl rfl hg3 ?_
       refine r_loadS (cs := El.cells d) rfl T.row_api_Trades T.sz_api_Trades rfl rfl (cells_row (by repeat constructor) (by rw [hdd]; exact rows_all (by omega))) ?_
       refine hl_nil ?_
       exact qe_done rfl
      refine hb_nil ⟨rfl, ?_⟩
      refine g_yes rfl rfl hg3 ?_
      refine hl_call F.kit_EqTrades_cb rfl rfl (kit_EqTrades_meets (A := a3) (B := a7) (A2 := d.1.a) (B2 := d.2.a) (ca := c3) (cb := c7) (ca2 := d.1.c) (cb2 := d.2.c) d.1.l hs2 d.2.l hp2.symm (by omega) (by omega) ha2) (List.Perm.refl _) ⟨(by repeat constructor), (by repeat constructor), (by repeat constructor), (by repeat constructor), trivial⟩ fun _ _ => ?_
      refine g_yes rfl rfl hg3 (r_not rfl rfl ?_)
      refine p_f rfl rfl (bf1 hg3) rfl ?_
      refine hl_nil (then_n ?_)
      refine hc_cond rfl (fun hb3 => ?_) (fun hb3 => ?_)
      ·have hb3' := hb3; try simp at hb3'
      ·have hb3' := hb3; try simp at hb3'
       refine hc_skip (inb_n (then_n (hc_region (r_move rfl rfl ?_))))
       refine r_add _ rfl rfl rfl rfl (by unfold I64; omega) ?_
       refine r_assign rfl rfl (hl_nil ?_)
       exact again _ (i + 1) (by show i + 1 ≤ 3; omega) (by show 3 - (i + 1) < 3 - i; omega) ⟨rfl, rfl, rfl, rfl, trivial⟩ (List.nil_sublist _) ⟨(by repeat constructor), (by repeat constructor), (by repeat constructor), (by repeat constructor), trivial⟩
     ·intro hg3; have hg3' := hg3; try simp at hg3'
      exfalso; simp [hpq] at hg3
    ·intro hg2; have hg2' := hg2; try simp at hg2'
   ·have hb2' := hb2; try simp at hb2'
    refine hc_exit (then_exit (then_exit (inb_hit (then_n (hc_seq (hc_region ?_))))))
    refine hl_call F.law04_indexed_cb rfl rfl (law04_indexed_meets) (List.Perm.refl _) trivial fun _ _ => ?_
    refine r_assign rfl rfl (hl_nil (then_n (hc_ret ?_)))
    exact ret1 () rfl rfl rfl trivial (List.nil_sublist _) trivial
 ·intro hg1; have hg1' := hg1; try simp at hg1'
  refine g_no rfl rfl rfl rfl rfl hg1 (g_no rfl rfl rfl rfl rfl hg1 (g_no rfl rfl rfl rfl rfl hg1 (g_no rfl rfl rfl rfl rfl hg1 ?_)))
  refine p_t rfl rfl (bt2 hg1) rfl ?_
  refine hl_nil (then_n (c_t rfl rfl (hc_seq (hc_region ?_))))
  refine hl_call F.law04_indexed_cb rfl rfl (law04_indexed_meets) (List.Perm.refl _) trivial fun _ _ => ?_
  refine r_assign rfl rfl (hl_nil (then_n (hc_ret (then_ret ?_))))
  exact ret1 () rfl rfl rfl trivial (List.nil_sublist _) trivial

end Go.Proofs.YtlpgheniajdkfaaGreat
