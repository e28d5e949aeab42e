/- The document: one more reference (With). -/
import Derived.Test.YtlpgheniajdkfaaGreatPnb
import Derived.Test.YtlpgheniajdkfaaGreatPm8
namespace Go.Proofs.YtlpgheniajdkfaaGreat
open Go Go.W
set_option linter.unusedVariables false
set_option linter.unusedSimpArgs false
set_option maxRecDepth 20000
attribute [local irreducible] HL HC HQ HB Row Rows2 Blk Facts


set_option maxHeartbeats 2000000 in
theorem ref04_With_meets {A B : Option Addr} {ca cb : Nat} (cs : List Cl) (hs : List Hd) (i k : Nat) (hi : i < hs.length) (hk : k < hs.length) (h6h : hs.length ≤ 1000) (ha : ∀ h ∈ hs, h.2.2.2.l.length ≤ 1000000) : Meets Tryz.prog F.ref04_With [.agg #[.slice A cs.length ca, .slice B hs.length cb], int (i : Int), int (k : Int)] { LI := [Row A (rows cs), RowsF B hs Hd.row], inv := fun x : List Hd × OutC => AddOK hs i k x.1 ∧ x.1.length ≤ x.2.2, val := fun x => .agg #[.slice A cs.length ca, .slice x.2.1 x.1.length x.2.2], LO := fun x => [RowsF x.2.1 x.1 Hd.row] } := by
 refine meets_intro F.ref04_With_f rfl (Nat.le_of_ble_eq_true rfl) fun w0 => ?_
 refine hc_seq (hc_region ?_)
 refine r_box rfl rfl fun gB => ?_
 refine r_alloc rfl (fun _ => T.al_api_Trades _) fun gA => ?_
 refine hl_nil (then_n (hc_seq ?_))
 have hal := ha _ (getD_mem hi)
 refine hc_outerF (ps := hs) (A := B) (f := Hd.row) (by repeat constructor) ?_
 refine hc_innersF (A := B) (ps := hs) (f := Hd.row) (by repeat constructor) ?_
 refine hc_region ?_
 refine r_buildSlice _ rfl rfl (fun _ => T.bs_L_api_Head_0 ..) fun gS => ?_
 refine r_fieldAddr ⟨_, 1, none⟩ rfl rfl T.fa_api_Trades_1 rfl ?_
 refine r_load rfl T.cell_L_api_Head rfl (cell_own (by repeat constructor) rfl) ?_
 refine r_append (hp' := [(gA, Obj.cells #[.slice none 0 0, .slice none 0 0] T.api_Trades (0, 0)), (gB, Obj.cells #[.slice A cs.length ca, .slice B hs.length cb] T.api_Trades (0, 0))]) hs.length (rows hs) T.el_L_api_Head rfl rfl rfl (Grow.new (cs := #[]) (n := 0) rfl (Nat.zero_le _)) (.refl _) (Src.row (by repeat constructor) (rows_len hs) (rows_one hs) (by decide)) (by omega) rfl (by unfold maxLen; omega) (by omega) fun xa xc xo hGh => ?_
 rcases hGh.2 with ⟨_, hz, _⟩ | ⟨g7, cur, e1, e2, hnc, hcm, hcs, hct⟩
 ·omega
 subst e1
 subst e2
 generalize xc = c7 at *
 refine r_fieldAddr ⟨_, 1, none⟩ rfl rfl T.fa_api_Trades_1 rfl ?_
 refine r_store (hp' := [(g7, Obj.cells cur T.api_Head (0, 0)), (gA, Obj.cells #[.slice none 0 0, .slice none 0 0] T.api_Trades (0, 0))]) rfl rfl (show List.Perm ([(g7, Obj.cells cur T.api_Head (0, 0))] ++ [(gA, Obj.cells #[.slice none 0 0, .slice none 0 0] T.api_Trades (0, 0)), (gB, Obj.cells #[.slice A cs.length ca, .slice B hs.length cb] T.api_Trades (0, 0))]) ((gB, Obj.cells #[.slice A cs.length ca, .slice B hs.length cb] T.api_Trades (0, 0)) :: [(g7, Obj.cells cur T.api_Head (0, 0)), (gA, Obj.cells #[.slice none 0 0, .slice none 0 0] T.api_Trades (0, 0))]) from (perm_of fun p => by simp only [List.countP_append, List.countP_cons, List.countP_nil]; omega)) T.sz_L_api_Head (by rfl) (by rfl) ?_
 refine hl_nil (then_n (hc_seq (hc_region (r_assign rfl rfl (hl_nil (then_n (hc_seq (hc_seq (hc_region (r_assign rfl rfl (hl_nil ?_)))))))))))
 refine then_n (hc_block ?_)
 refine hc_perm (hp' := [(g7, Obj.cells cur T.api_Head (0, 0)), (gB, Obj.cells #[.slice A cs.length ca, .slice (some ⟨g7, 0, none⟩) hs.length c7] T.api_Trades (0, 0)), (gA, Obj.cells #[.slice none 0 0, .slice none 0 0] T.api_Trades (0, 0))]) (.swap _ _ _) ?_
 refine hc_loop (β := Nat × OutC × Hp) ⟨fun x => x.1 ≤ hs.length ∧ Grow T.int 1 x.2.1.1 (alsoK hs i k x.1).length x.2.1.2 (rows (alsoK hs i k x.1)) x.2.2, fun x => [(1, int (i : Int)), (2, int (k : Int)), (3, .pointer (some ⟨gB, 0, none⟩)), (6, .pointer (some ⟨gA, 0, none⟩)), (7, .slice x.2.1.1 (alsoK hs i k x.1).length x.2.1.2), (8, int x.1)], fun x => x.2.2 ++ [(g7, Obj.cells cur T.api_Head (0, 0)), (gB, Obj.cells #[.slice A cs.length ca, .slice (some ⟨g7, 0, none⟩) hs.length c7] T.api_Trades (0, 0)), (gA, Obj.cells #[.slice none 0 0, .slice none 0 0] T.api_Trades (0, 0))], fun _ => [innersF hs Hd.row, Row A (rows cs)]⟩ (fun x => hs.length - x.1) (0, (none, 0), []) ⟨Nat.zero_le _, Grow.nil _ _⟩ ⟨rfl, rfl, rfl, rfl, rfl, rfl, trivial⟩ (List.Sublist.refl _) ⟨(by repeat constructor), (by repeat constructor), trivial⟩ fun x hxx => ?_
 obtain ⟨j, ⟨na, nc⟩, og⟩ := x
 obtain ⟨hj, hG⟩ := hxx
 simp only at hj hG
 have hul := alsoK_len hs i k j
 have huc := alsoK_succ hs i k j
 refine hc_seq (hc_seq (hc_region (r_move rfl rfl ?_)))
 refine r_fieldAddr ⟨_, 1, none⟩ rfl rfl T.fa_api_Trades_1 rfl ?_
 refine r_load (v := .slice (some ⟨g7, 0, none⟩) hs.length c7) rfl T.cell_L_api_Head rfl (cell_own (List.mem_append_right _ (by repeat constructor)) rfl) ?_
 refine r_len_sl rfl T.u_L_api_Head rfl ?_
 refine r_lss rfl rfl rfl (hl_nil (then_n ?_))
 refine c_dec rfl (fun hb1 => ?_) (fun hb1 => ?_)
 ·have hb1' := hb1; try simp at hb1'
  have hj2 : j < hs.length := by omega
  refine hc_skip (then_n (hc_seq (hc_block ?_)))
  refine hc_cut ⟨fun _ : Unit => True, fun _ => [(1, int (i : Int)), (2, int (k : Int)), (3, .pointer (some ⟨gB, 0, none⟩)), (6, .pointer (some ⟨gA, 0, none⟩)), (7, .slice (na, nc).1 (alsoK hs i k j).length (na, nc).2), (8, int j), (34, .bool (aB hs i k j))], fun _ => og ++ [(g7, Obj.cells cur T.api_Head (0, 0)), (gB, Obj.cells #[.slice A cs.length ca, .slice (some ⟨g7, 0, none⟩) hs.length c7] T.api_Trades (0, 0)), (gA, Obj.cells #[.slice none 0 0, .slice none 0 0] T.api_Trades (0, 0))], fun _ => [innersF hs Hd.row, Row A (rows cs)]⟩ ?_ ?_
  ·skip
   refine hc_region (r_move rfl rfl (r_move rfl rfl (r_eql rfl rfl rfl (r_move rfl rfl ?_))))
   refine g_split rfl rfl ?_ ?_
   ·intro hg1; have hg1' := hg1; try simp at hg1'
    have g6_4 : ¬ (j : Int) = (k : Int) := of_decide_eq_false (eq_of_beq hg1)
    refine g_yes rfl rfl hg1 ?_
    refine r_fieldAddr ⟨_, 1, none⟩ rfl rfl T.fa_api_Trades_1 rfl ?_
    refine g_yes rfl rfl hg1 ?_
    refine r_load (v := .slice (some ⟨g7, 0, none⟩) hs.length c7) rfl T.cell_L_api_Head rfl (cell_own (List.mem_append_right _ (by repeat constructor)) rfl) ?_
    refine g_yes rfl rfl hg1 (r_move rfl rfl (g_yes rfl rfl hg1 ?_))
    refine r_indexAddr_own i (0 + i * 4) rfl T.u_L_api_Head T.sz_api_Head rfl rfl rfl (by omega) rfl ?_
    refine g_yes rfl rfl hg1 (r_fieldAddr _ rfl rfl T.fa_api_Head_3 rfl (g_yes rfl rfl hg1 ?_))
    refine r_load (v := .slice (hs.getD i default).2.2.2.a (hs.getD i default).2.2.2.l.length (hs.getD i default).2.2.2.c) rfl T.cell_ints rfl (cell_own (List.mem_append_right _ (by repeat constructor)) (own_f (α := Hd) (f := 3) hct hi (by rw [Nat.zero_add]; rfl) rfl)) ?_
    refine g_yes rfl rfl hg1 (r_move rfl rfl (g_yes rfl rfl hg1 ?_))
    refine hl_pick (F := Hd.row (hs.getD i default)) (Fs := hs.map Hd.row) (by repeat constructor) (List.mem_map.2 ⟨_, getD_mem hi, rfl⟩) ?_
    refine hl_call F.ref04_has_cb rfl rfl (ref04_has_meets (hs.getD i default).2.2.2.l (j : Int) hal) (hpR := og ++ [(g7, Obj.cells cur T.api_Head (0, 0)), (gB, Obj.cells #[.slice A cs.length ca, .slice (some ⟨g7, 0, none⟩) hs.length c7] T.api_Trades (0, 0)), (gA, Obj.cells #[.slice none 0 0, .slice none 0 0] T.api_Trades (0, 0))]) (List.Perm.refl _) ⟨(by repeat constructor), trivial⟩ fun z hz => ?_
    refine g_yes rfl rfl hg1 (r_geq rfl rfl rfl ?_)
    refine p_f rfl rfl (bf1 hg1) rfl ?_
    refine hl_nil ?_
    exact cut_n _ () trivial ⟨rfl, rfl, rfl, rfl, rfl, rfl, congrArg (fun b => some (Value.bool b)) (by unfold aB; rw [decide_eq_false g6_4, Bool.false_or]; exact decide_eq_decide.2 hz.1), trivial⟩ (List.Sublist.refl _) ⟨(by repeat constructor), (by repeat constructor), trivial⟩
   ·intro hg1; have hg1' := hg1; try simp at hg1'
    have g6_4 : (j : Int) = (k : Int) := Classical.byContradiction (fun e => by rw [decide_eq_false e] at hg1; cases hg1)
    refine g_no rfl rfl rfl rfl rfl hg1 (g_no rfl rfl rfl rfl rfl hg1 (g_no rfl rfl rfl rfl rfl hg1 (g_no rfl rfl rfl rfl rfl hg1 (g_no rfl rfl rfl rfl rfl hg1 (g_no rfl rfl rfl rfl rfl hg1 (g_no rfl rfl rfl rfl rfl hg1 (g_no rfl rfl rfl rfl rfl hg1 (g_no rfl rfl rfl rfl rfl hg1 ?_))))))))
    refine p_t rfl rfl (bt2 hg1) rfl ?_
    refine hl_nil ?_
    exact cut_n _ () trivial ⟨rfl, rfl, rfl, rfl, rfl, rfl, congrArg (fun b => some (Value.bool b)) (by unfold aB; rw [decide_eq_true g6_4, Bool.true_or]), trivial⟩ (List.Sublist.refl _) ⟨(by repeat constructor), (by repeat constructor), trivial⟩
  ·refine fun _ _ => ?_
   refine hc_cond rfl (fun hb2 => ?_) (fun hb2 => ?_)
   ·have hb2' := hb2; try simp at hb2'
    rw [if_pos hb2] at huc
    refine hc_region (r_move rfl rfl (r_move rfl rfl ?_))
    refine r_buildSlice _ rfl rfl (fun _ => T.bs_ints_1 ..) fun gS => ?_
    refine hl_letgo (rows [(j : Int)]) (List.prefix_refl _) ?_
    refine r_append ((alsoK hs i k j).length + 1) (rows ((alsoK hs i k j) ++ [(j : Int)])) T.el_ints rfl rfl rfl hG (hp' := [(g7, Obj.cells cur T.api_Head (0, 0)), (gB, Obj.cells #[.slice A cs.length ca, .slice (some ⟨g7, 0, none⟩) hs.length c7] T.api_Trades (0, 0)), (gA, Obj.cells #[.slice none 0 0, .slice none 0 0] T.api_Trades (0, 0))]) (List.Perm.refl _) (Src.row (news := rows [(j : Int)]) (m := 1) m0 rfl (rows_one _) (by decide)) rfl (rows_append _ _).symm (by unfold maxLen; omega) (by omega) fun A' c' og' hG' => ?_
    refine r_assign rfl rfl (hl_nil (inb_n (then_n (hc_region (r_move rfl rfl ?_)))))
    refine r_add _ rfl rfl rfl rfl (by unfold I64; omega) ?_
    refine r_assign rfl rfl (hl_nil ?_)
    exact again _ (j + 1, (A', c'), og') ⟨by show j + 1 ≤ hs.length; omega, by show Grow _ _ _ (alsoK hs i k (j + 1)).length _ (rows (alsoK hs i k (j + 1))) _; rw [huc, List.length_append]; exact hG'⟩ (by show hs.length - (j + 1) < hs.length - j; omega) ⟨rfl, rfl, rfl, rfl, by show some (Value.slice A' ((alsoK hs i k j).length + 1) c') = some (Value.slice A' (alsoK hs i k (j + 1)).length c'); rw [huc, List.length_append]; rfl, rfl, trivial⟩ (List.Sublist.refl _) ⟨(by repeat constructor), (by repeat constructor), trivial⟩
   ·have hb2' := hb2; try simp at hb2'
    rw [if_neg (by rw [hb2]; decide)] at huc
    refine hc_skip (inb_n (then_n (hc_region (r_move rfl rfl ?_))))
    refine r_add _ rfl rfl rfl rfl (by unfold I64; omega) ?_
    refine r_assign rfl rfl (hl_nil ?_)
    exact again _ (j + 1, (na, nc), og) ⟨by show j + 1 ≤ hs.length; omega, by show Grow _ _ _ (alsoK hs i k (j + 1)).length _ (rows (alsoK hs i k (j + 1))) _; rw [huc]; exact hG⟩ (by show hs.length - (j + 1) < hs.length - j; omega) ⟨rfl, rfl, rfl, rfl, by show some (Value.slice na (alsoK hs i k j).length nc) = some (Value.slice na (alsoK hs i k (j + 1)).length nc); rw [huc], rfl, trivial⟩ (List.Sublist.refl _) ⟨(by repeat constructor), (by repeat constructor), trivial⟩
 ·have hb1' := hb1; try simp at hb1'
  obtain rfl : j = hs.length := by omega
  refine hc_exit (then_exit (then_exit (inb_hit (then_n (hc_seq (hc_grown hG (hc_region ?_)))))))
  refine r_fieldAddr ⟨_, 1, none⟩ rfl rfl T.fa_api_Trades_1 rfl ?_
  refine r_load rfl T.cell_L_api_Head rfl (cell_own (by repeat constructor) rfl) ?_
  refine r_move rfl rfl (r_move rfl rfl ?_)
  refine r_indexAddr_own i (0 + i * 4) rfl T.u_L_api_Head T.sz_api_Head rfl rfl rfl (by omega) rfl ?_
  refine r_fieldAddr _ rfl rfl T.fa_api_Head_3 rfl ?_
  refine r_store rfl rfl (.refl _) T.sz_ints (own_f (α := Hd) (f := 3) hct hi (by rw [Nat.zero_add]; rfl) rfl) (by rfl) ?_
  refine hl_nil (then_n (hc_seq ?_))
  refine hc_facts (Fs := (hs.set i ((hs.getD i default).1, (hs.getD i default).2.1, (hs.getD i default).2.2.1, (⟨na, nc, (alsoK hs i k hs.length)⟩ : Sl Int))).map Hd.row) (innerF_set (by repeat constructor) (by repeat constructor)) ?_
  refine hc_region ?_
  refine r_loadA rfl T.row_api_Trades T.sz_api_Trades rfl (by repeat constructor) (by rfl) ?_
  refine r_storeS (cs := #[.slice A cs.length ca, .slice (some ⟨g7, 0, none⟩) hs.length c7]) rfl rfl (show List.Perm ([(g7, Obj.cells (cur.setIfInBounds (0 + i * 4 + 3) (.slice na (alsoK hs i k hs.length).length nc)) T.api_Head (0, 0)), (gB, Obj.cells #[.slice A cs.length ca, .slice (some ⟨g7, 0, none⟩) hs.length c7] T.api_Trades (0, 0)), (gA, Obj.cells #[.slice none 0 0, .slice none 0 0] T.api_Trades (0, 0))]) ((gA, Obj.cells #[.slice none 0 0, .slice none 0 0] T.api_Trades (0, 0)) :: [(g7, Obj.cells (cur.setIfInBounds (0 + i * 4 + 3) (.slice na (alsoK hs i k hs.length).length nc)) T.api_Head (0, 0)), (gB, Obj.cells #[.slice A cs.length ca, .slice (some ⟨g7, 0, none⟩) hs.length c7] T.api_Trades (0, 0))]) from (perm_of fun p => by simp only [List.countP_append, List.countP_cons, List.countP_nil]; omega)) T.sz_api_Trades (by rfl) (by rfl) ?_
  refine hl_nil (then_n (hc_ret ?_))
  have hsl : (hs.set i ((hs.getD i default).1, (hs.getD i default).2.1, (hs.getD i default).2.2.1, (⟨na, nc, (alsoK hs i k hs.length)⟩ : Sl Int))).length = hs.length := List.length_set ..
  have hGx : Grow T.api_Head 4 (some ⟨g7, 0, none⟩) (hs.set i ((hs.getD i default).1, (hs.getD i default).2.1, (hs.getD i default).2.2.1, (⟨na, nc, (alsoK hs i k hs.length)⟩ : Sl Int))).length c7 (rows (hs.set i ((hs.getD i default).1, (hs.getD i default).2.1, (hs.getD i default).2.2.1, (⟨na, nc, (alsoK hs i k hs.length)⟩ : Sl Int)))) [(g7, Obj.cells (cur.setIfInBounds (0 + i * 4 + 3) (.slice na (alsoK hs i k hs.length).length nc)) T.api_Head (0, 0))] := ⟨by rw [rows_len]; rfl, .inr ⟨g7, _, rfl, rfl, by omega, hcm, by rw [Array.size_setIfInBounds]; exact hcs, by rw [Nat.zero_add]; exact take_setf (α := Hd) (f := 3) (by decide) hi rfl hct⟩⟩
  refine hq_perm (hp' := [(g7, Obj.cells (cur.setIfInBounds (0 + i * 4 + 3) (.slice na (alsoK hs i k hs.length).length nc)) T.api_Head (0, 0))] ++ [(gA, _), (gB, Obj.cells #[.slice A cs.length ca, .slice (some ⟨g7, 0, none⟩) hs.length c7] T.api_Trades (0, 0))]) (.swap _ _ _) ?_
  refine hq_grown hGx ?_
  refine hq_rowsF (A := some ⟨g7, 0, none⟩) (ps := hs.set i ((hs.getD i default).1, (hs.getD i default).2.1, (hs.getD i default).2.2.1, (⟨na, nc, (alsoK hs i k hs.length)⟩ : Sl Int))) (f := Hd.row) (by repeat constructor) (by repeat constructor) ?_
  refine ret_row (hs.set i ((hs.getD i default).1, (hs.getD i default).2.1, (hs.getD i default).2.2.1, (⟨na, nc, (alsoK hs i k hs.length)⟩ : Sl Int)), (some ⟨g7, 0, none⟩, c7)) rfl rfl T.row_api_Trades T.sz_api_Trades rfl m0 (by show Value.agg #[.slice A cs.length ca, .slice (some ⟨g7, 0, none⟩) (hs.set i _).length c7] = _; rw [hsl]) rfl ⟨by show (hs.set i _).map Hd.p = _; rw [List.map_set]; rfl, by show (hs.set i _).length ≤ c7; rw [hsl]; exact hnc⟩ (List.nil_sublist _) ⟨(by repeat constructor), trivial⟩

end Go.Proofs.YtlpgheniajdkfaaGreat
