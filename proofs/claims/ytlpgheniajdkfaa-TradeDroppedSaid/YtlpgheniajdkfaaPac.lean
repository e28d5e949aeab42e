/- The check of headings, of trades. -/
import Derived.Test.YtlpgheniajdkfaaPab
namespace Go.Proofs.Ytlpgheniajdkfaa
open Go Go.W
set_option linter.unusedVariables false
set_option linter.unusedSimpArgs false
set_option maxRecDepth 20000
attribute [local irreducible] HL HC HQ HB Row Rows2 Blk Facts


theorem ps_take {hs : List Hd} {n : Nat} : ((hs.map Hd.p).take n).map (·.1) = (hs.take n).map (·.1) := by rw [← List.map_take, List.map_map]; rfl
theorem headErr_of (cs : List Cl) (hs : List Hd) {i : Nat} (hi : i < hs.length) : headErr (trOf cs hs) i =
  if wordB (hs.getD i default).1 = false then 2
  else if (hs.getD i default).1 ∈ (hs.take i).map (·.1) then 4
  else if 0 < i ∧ (hs.getD i default).1 < (hs.getD (i - 1) default).1 then 5
  else if (hs.getD i default).2.1 < -1 ∨ (cs.length : Int) ≤ (hs.getD i default).2.1 ∨ (hs.getD i default).2.2.1 < -1 ∨ (hs.length : Int) ≤ (hs.getD i default).2.2.1 then 3
  else if (hs.getD i default).2.2.1 = (i : Int) then 9
  else if ¬ firstE (alsoErr hs.length i (hs.getD i default).2.2.2.l) (hs.getD i default).2.2.2.l.length = 0 then firstE (alsoErr hs.length i (hs.getD i default).2.2.2.l) (hs.getD i default).2.2.2.l.length
  else if kindBad (hs.getD i default).p = true then 8 else 0 := by
  unfold headErr
  simp only [trOf, hd_get hi, hd_get (show i - 1 < hs.length by omega), ps_take, List.length_map]
  rfl
theorem nbw {a b c : Int} (h : (!decide (a ≤ b ∧ b ≤ c)) = true) : ¬ (a ≤ b ∧ b ≤ c) := fun e => by rw [decide_eq_true e] at h; cases h
theorem bw {a b c : Int} (h : (!decide (a ≤ b ∧ b ≤ c)) = false) : a ≤ b ∧ b ≤ c := Classical.byContradiction fun e => by rw [decide_eq_false e] at h; cases h

set_option maxHeartbeats 2000000 in
theorem trade_checkHead_meets {A B : Option Addr} {ca cb : Nat} (cs : List Cl) (hs : List Hd) (i : Nat) (h6 : hs.length ≤ 6) (hc6 : cs.length ≤ 6) (hc : hs.length ≤ cb) (hi : i < hs.length) (ha : ∀ h ∈ hs, h.2.2.2.l.length ≤ 1000000) : Meets Try.prog F.trade_checkHead [.agg #[.slice A cs.length ca, .slice B hs.length cb], int i] { LI := [Row A (rows cs), RowsF B hs Hd.row], val := fun _ : Unit => int (headErr (trOf cs hs) i) } := by
 refine meets_intro F.trade_checkHead_f rfl (Nat.le_of_ble_eq_true rfl) fun w0 => ?_
 refine hc_seq ?_
 refine hc_region ?_
 refine r_box rfl rfl fun gB => ?_
 refine r_assign rfl rfl ?_
 refine hl_nil ?_
 refine then_n ?_
 refine hc_seq ?_
 refine hc_outerF m1 ?_
 refine hc_innerF m2 (getD_mem hi) ?_
 have hal := ha _ (getD_mem hi)
 refine hc_drawW ([]) (_) (.refl _) 9 [7] mixed (by decide) (by decide) (by decide) rfl rfl rfl ?_
 apply hb_ex _ rfl rfl rfl
 ·intro w1
  first | refine r_fieldAddr ⟨_, 1, none⟩ rfl rfl T.fa_api_Trades_1 rfl ?_ | refine r_fieldAddr _ rfl rfl T.fa_api_Trades_1 rfl ?_
  refine hl_nil ?_
  exact qe_done rfl
 apply hb_ex _ rfl rfl rfl
 ·intro w1
  first | refine r_load rfl T.cell_L_api_Head rfl (cell_blk (by repeat constructor) rfl) ?_ | refine r_load rfl T.cell_L_api_Head rfl (cell_own (by repeat constructor) rfl) ?_ | refine r_load rfl T.cell_L_api_Head rfl (cell_row (by repeat constructor) (rows_get0 (by omega) rfl)) ?_ | refine r_load rfl T.cell_L_api_Head rfl (cell_row_f (by repeat constructor) (rows_get (by omega) rfl)) ?_ | refine r_load rfl T.cell_L_api_Head rfl (cell_rowg (by repeat constructor) rfl) ?_
  refine hl_nil ?_
  exact qe_done rfl
 apply hb_ex _ rfl rfl rfl
 ·intro w1
  first | refine r_fieldAddr ⟨_, 1, none⟩ rfl rfl T.fa_api_Trades_1 rfl ?_ | refine r_fieldAddr _ rfl rfl T.fa_api_Trades_1 rfl ?_
  refine hl_nil ?_
  exact qe_done rfl
 apply hb_ex _ rfl rfl rfl
 ·intro w1
  first | refine r_load rfl T.cell_L_api_Head rfl (cell_blk (by repeat constructor) rfl) ?_ | refine r_load rfl T.cell_L_api_Head rfl (cell_own (by repeat constructor) rfl) ?_ | refine r_load rfl T.cell_L_api_Head rfl (cell_row (by repeat constructor) (rows_get0 (by omega) rfl)) ?_ | refine r_load rfl T.cell_L_api_Head rfl (cell_row_f (by repeat constructor) (rows_get (by omega) rfl)) ?_ | refine r_load rfl T.cell_L_api_Head rfl (cell_rowg (by repeat constructor) rfl) ?_
  refine hl_nil ?_
  exact qe_done rfl
 apply hb_ex _ rfl rfl rfl
 ·intro w1
  refine r_move rfl rfl ?_
  refine hl_nil ?_
  exact qe_done rfl
 apply hb_ex _ rfl rfl rfl
 ·intro w1
  refine r_elem (α := Hd) _ _ rfl T.u_L_api_Head T.sz_api_Head rfl rfl rfl (by repeat constructor) rfl (by omega) (by decide) ?_
  refine hl_nil ?_
  exact qe_done rfl
 apply hb_ex _ rfl rfl rfl
 ·intro w1
  refine r_loadS rfl T.row_api_Head T.sz_api_Head rfl rfl (cells_row (by repeat constructor) (rows_all (by omega))) ?_
  refine hl_nil ?_
  exact qe_done rfl
 refine hb_wr ⟨Nat, fun _ => True, fun g => .pointer (some ⟨g, 0, none⟩), fun _ => [], fun g => [(g, Obj.cells #[str [], int 0, int 0, .slice none 0 0] T.api_Head (0, 0))]⟩ rfl rfl rfl ?_ ?_
 ·intro w1
  refine r_alloc rfl (fun _ => T.al_api_Head _) fun gA => ?_
  refine hl_nil ?_
  exact qw_done gA trivial (fun _ => rfl) (.refl _) trivial
 apply hb_ex _ rfl rfl rfl
 ·intro w1
  refine r_assign rfl rfl ?_
  refine hl_nil ?_
  exact qe_done rfl
 refine hb_nil ⟨rfl, ?_⟩
 intro x7 hx7
 refine r_storeS rfl rfl (by first | exact .refl _ | exact perm2 _ _ _ | exact perm3 _ _ _ _ | exact perm4 _ _ _ _ _) T.sz_api_Head (by rfl) (by rfl) ?_
 refine hl_nil ?_
 refine then_n ?_
 refine hc_seq ?_
 refine hc_block ?_
 refine hc_seq ?_
 refine hc_letgo (rows [hs.getD i default]) ⟨[], List.append_nil _⟩ ?_
 refine hc_region ?_
 first | refine r_fieldAddr ⟨_, 0, none⟩ rfl rfl T.fa_api_Head_0 rfl ?_ | refine r_fieldAddr _ rfl rfl T.fa_api_Head_0 rfl ?_
 first | refine r_load rfl T.cell_string rfl (cell_own (by repeat constructor) rfl) ?_ | refine r_load rfl T.cell_string rfl (cell_blk (by repeat constructor) rfl) ?_ | refine r_load rfl T.cell_string rfl (cell_row (by repeat constructor) (rows_get0 (by omega) rfl)) ?_ | refine r_load rfl T.cell_string rfl (cell_row_f (by repeat constructor) (rows_get (by omega) rfl)) ?_ | refine r_load rfl T.cell_string rfl (cell_rowg (by repeat constructor) rfl) ?_
 refine hl_call F.trade_word_cb rfl rfl (trade_word_meets (hs.getD i default).1) (List.Perm.refl _) trivial fun _ _ => ?_
 refine r_not rfl rfl ?_
 refine r_assign rfl rfl ?_
 refine hl_nil ?_
 refine then_n ?_
 first | refine c_dec rfl (fun hb1 => ?_) (fun hb1 => ?_) | refine hc_cond rfl (fun hb1 => ?_) (fun hb1 => ?_)
 ·have hb1' := hb1; try simp at hb1'
  have h1 : wordB (hs.getD i default).1 = false := by simpa using hb1
  refine hc_seq ?_
  refine hc_region ?_
  refine r_assign rfl rfl ?_
  refine hl_nil ?_
  refine then_n ?_
  refine hc_ret ?_
  refine inb_ret ?_
  refine then_ret ?_
  exact ret1 () rfl (congrArg (fun b => some (int b)) (by rw [headErr_of cs hs hi, if_pos h1])) rfl trivial (List.nil_sublist _) trivial
 ·have hb1' := hb1; try simp at hb1'
  have h1 : ¬ wordB (hs.getD i default).1 = false := by simpa using hb1
  refine hc_seq ?_
  refine hc_region ?_
  refine r_move rfl rfl ?_
  refine r_move rfl rfl ?_
  refine r_slice_hi (hs.take i).length rfl T.u_L_api_Head T.sz_api_Head rfl rfl (by simp; omega) (by simp; omega) ?_
  refine hl_takerow (ps := hs) i (by repeat constructor) ?_
  refine r_makeFunc rfl rfl rfl ?_
  refine hl_call F.slices_ContainsFuncx_cb rfl rfl (slices_ContainsFuncx_meets (hs.take i) (hs.getD i default) (by simp; omega)) (List.Perm.refl _) ⟨(by repeat constructor), (by repeat constructor), trivial⟩ fun _ _ => ?_
  refine r_assign rfl rfl ?_
  refine hl_nil ?_
  refine then_n ?_
  first | refine c_dec rfl (fun hb2 => ?_) (fun hb2 => ?_) | refine hc_cond rfl (fun hb2 => ?_) (fun hb2 => ?_)
  ·have hb2' := hb2; try simp at hb2'
   refine hc_seq ?_
   refine hc_region ?_
   refine r_assign rfl rfl ?_
   refine hl_nil ?_
   refine then_n ?_
   refine hc_ret ?_
   refine inb_ret ?_
   refine then_ret ?_
   exact ret1 () rfl (congrArg (fun b => some (int b)) (by rw [headErr_of cs hs hi, if_neg h1, if_pos hb2])) rfl trivial (List.nil_sublist _) trivial
  ·have hb2' := hb2; try simp at hb2'
   refine hc_cut ⟨fun _ : Unit => True, fun _ => [(1, int i), (2, .pointer (some ⟨gB, 0, none⟩)), (5, .slice B hs.length cb), (6, .pointer (some ⟨x7, 0, none⟩)), (27, .bool (decide (0 < i ∧ (hs.getD i default).1 < (hs.getD (i - 1) default).1)))], fun _ => [(gB, .cells #[.slice A cs.length ca, .slice B hs.length cb] T.api_Trades (0, 0))], fun _ => [Row (some ⟨x7, 0, none⟩) (rows [hs.getD i default]), Row B (rows hs), Row (hs.getD i default).2.2.2.a (rows (hs.getD i default).2.2.2.l)]⟩ ?_ ?_
   ·skip
    refine hc_draw 11 mixed (by decide) (by decide) rfl rfl ?_
    apply hb_ex _ rfl rfl rfl
    ·intro w1
     refine r_move rfl rfl ?_
     refine hl_nil ?_
     exact qe_done rfl
    apply hb_ex _ rfl rfl rfl
    ·intro w1
     refine r_gtr rfl rfl rfl ?_
     refine hl_nil ?_
     exact qe_done rfl
    apply hb_ex _ rfl rfl rfl
    ·intro w1
     refine r_move rfl rfl ?_
     refine hl_nil ?_
     exact qe_done rfl
    refine hb_split (t := 30) (want := true) rfl ?_ ?_
    ·intro hg1; have hg1' := hg1; try simp at hg1'
     apply hb_ex _ rfl rfl rfl
     ·intro w1
      refine g_yes rfl rfl hg1 ?_
      first | refine r_fieldAddr ⟨_, 0, none⟩ rfl rfl T.fa_api_Head_0 rfl ?_ | refine r_fieldAddr _ rfl rfl T.fa_api_Head_0 rfl ?_
      refine hl_nil ?_
      exact qe_done rfl
     apply hb_ex _ rfl rfl rfl
     ·intro w1
      refine g_yes rfl rfl hg1 ?_
      first | refine r_load rfl T.cell_string rfl (cell_blk (by repeat constructor) rfl) ?_ | refine r_load rfl T.cell_string rfl (cell_own (by repeat constructor) rfl) ?_ | refine r_load rfl T.cell_string rfl (cell_row (by repeat constructor) (rows_get0 (by omega) rfl)) ?_ | refine r_load rfl T.cell_string rfl (cell_row_f (by repeat constructor) (rows_get (by omega) rfl)) ?_ | refine r_load rfl T.cell_string rfl (cell_rowg (by repeat constructor) rfl) ?_
      refine hl_nil ?_
      exact qe_done rfl
     apply hb_ex _ rfl rfl rfl
     ·intro w1
      refine g_yes rfl rfl hg1 ?_
      refine r_move rfl rfl ?_
      refine hl_nil ?_
      exact qe_done rfl
     apply hb_ex _ rfl rfl rfl
     ·intro w1
      refine g_yes rfl rfl hg1 ?_
      refine r_move rfl rfl ?_
      refine hl_nil ?_
      exact qe_done rfl
     apply hb_ex _ rfl rfl rfl
     ·intro w1
      refine g_yes rfl rfl hg1 ?_
      refine r_sub ((i - 1 : Nat) : Int) rfl rfl rfl (by omega) (by unfold I64; omega) ?_
      refine hl_nil ?_
      exact qe_done rfl
     apply hb_ex _ rfl rfl rfl
     ·intro w1
      refine g_yes rfl rfl hg1 ?_
      refine r_elem (α := Hd) hs (i - 1) rfl T.u_L_api_Head T.sz_api_Head rfl rfl rfl (by repeat constructor) rfl (by omega) (by decide) ?_
      refine hl_nil ?_
      exact qe_done rfl
     apply hb_ex _ rfl rfl rfl
     ·intro w1
      refine g_yes rfl rfl hg1 ?_
      first | refine r_fieldAddr ⟨_, 0, none⟩ rfl rfl T.fa_api_Head_0 rfl ?_ | refine r_fieldAddr _ rfl rfl T.fa_api_Head_0 rfl ?_
      refine hl_nil ?_
      exact qe_done rfl
     apply hb_ex _ rfl rfl rfl
     ·intro w1
      refine g_yes rfl rfl hg1 ?_
      refine r_load rfl T.cell_string rfl (cell_row (cs := rows hs) (by repeat constructor) (rows_get0 (by omega) rfl)) ?_
      refine hl_nil ?_
      exact qe_done rfl
     refine hb_nil ⟨rfl, ?_⟩
     refine g_yes rfl rfl hg1 ?_
     refine r_slss rfl rfl rfl ?_
     refine p_t rfl rfl (bt1 hg1) rfl ?_
     refine r_assign rfl rfl ?_
     refine hl_nil ?_
     exact cut_n _ () trivial ⟨rfl, rfl, rfl, rfl, congrArg (fun b => some (Value.bool b)) (by rw [str_lt_dec]; exact decide_eq_decide.2 ⟨fun e => ⟨by omega, e⟩, fun e => e.2⟩), trivial⟩ (List.Sublist.refl _) ⟨(by repeat constructor), (by repeat constructor), (by repeat constructor), trivial⟩
    ·intro hg1; have hg1' := hg1; try simp at hg1'
     apply hb_ex _ rfl rfl rfl
     ·intro w1
      refine g_no rfl rfl rfl rfl rfl hg1 ?_
      refine hl_nil ?_
      exact qe_done rfl
     apply hb_ex _ rfl rfl rfl
     ·intro w1
      refine g_no rfl rfl rfl rfl rfl hg1 ?_
      refine hl_nil ?_
      exact qe_done rfl
     apply hb_ex _ rfl rfl rfl
     ·intro w1
      refine g_no rfl rfl rfl rfl rfl hg1 ?_
      refine hl_nil ?_
      exact qe_done rfl
     apply hb_ex _ rfl rfl rfl
     ·intro w1
      refine g_no rfl rfl rfl rfl rfl hg1 ?_
      refine hl_nil ?_
      exact qe_done rfl
     apply hb_ex _ rfl rfl rfl
     ·intro w1
      refine g_no rfl rfl rfl rfl rfl hg1 ?_
      refine hl_nil ?_
      exact qe_done rfl
     apply hb_ex _ rfl rfl rfl
     ·intro w1
      refine g_no rfl rfl rfl rfl rfl hg1 ?_
      refine hl_nil ?_
      exact qe_done rfl
     apply hb_ex _ rfl rfl rfl
     ·intro w1
      refine g_no rfl rfl rfl rfl rfl hg1 ?_
      refine hl_nil ?_
      exact qe_done rfl
     apply hb_ex _ rfl rfl rfl
     ·intro w1
      refine g_no rfl rfl rfl rfl rfl hg1 ?_
      refine hl_nil ?_
      exact qe_done rfl
     refine hb_nil ⟨rfl, ?_⟩
     refine g_no rfl rfl rfl rfl rfl hg1 ?_
     refine p_f rfl rfl (bf2 hg1) rfl ?_
     refine r_assign rfl rfl ?_
     refine hl_nil ?_
     exact cut_n _ () trivial ⟨rfl, rfl, rfl, rfl, congrArg (fun b => some (Value.bool b)) (by exact (decide_eq_false (by simp at hg1; omega)).symm), trivial⟩ (List.Sublist.refl _) ⟨(by repeat constructor), (by repeat constructor), (by repeat constructor), trivial⟩
   ·refine fun _ _ => ?_
    first | refine c_dec rfl (fun hb3 => ?_) (fun hb3 => ?_) | refine hc_cond rfl (fun hb3 => ?_) (fun hb3 => ?_)
    ·have hb3' := hb3; try simp at hb3'
     refine hc_seq ?_
     refine hc_region ?_
     refine r_assign rfl rfl ?_
     refine hl_nil ?_
     refine then_n ?_
     refine hc_ret ?_
     refine inb_ret ?_
     refine then_ret ?_
     exact ret1 () rfl (congrArg (fun b => some (int b)) (by rw [headErr_of cs hs hi, if_neg h1, if_neg hb2, if_pos hb3])) rfl trivial (List.nil_sublist _) trivial
    ·have hb3' := hb3; try simp at hb3'
     refine hc_cut ⟨fun _ : Unit => True, fun _ => [(1, int i), (2, .pointer (some ⟨gB, 0, none⟩)), (5, .slice B hs.length cb), (6, .pointer (some ⟨x7, 0, none⟩)), (41, .bool (decide (¬ ((-1 ≤ (hs.getD i default).2.1 ∧ (hs.getD i default).2.1 ≤ (cs.length : Int) - 1) ∧ (-1 ≤ (hs.getD i default).2.2.1 ∧ (hs.getD i default).2.2.1 ≤ (hs.length : Int) - 1)))))], fun _ => [(gB, .cells #[.slice A cs.length ca, .slice B hs.length cb] T.api_Trades (0, 0))], fun _ => [Row (some ⟨x7, 0, none⟩) (rows [hs.getD i default]), Row B (rows hs), Row (hs.getD i default).2.2.2.a (rows (hs.getD i default).2.2.2.l)]⟩ ?_ ?_
     ·skip
      refine hc_seq ?_
      refine hc_region ?_
      first | refine r_fieldAddr ⟨_, 1, none⟩ rfl rfl T.fa_api_Head_1 rfl ?_ | refine r_fieldAddr _ rfl rfl T.fa_api_Head_1 rfl ?_
      first | refine r_load rfl T.cell_int rfl (cell_own (by repeat constructor) rfl) ?_ | refine r_load rfl T.cell_int rfl (cell_blk (by repeat constructor) rfl) ?_ | refine r_load rfl T.cell_int rfl (cell_row (by repeat constructor) (rows_get0 (by omega) rfl)) ?_ | refine r_load rfl T.cell_int rfl (cell_row_f (by repeat constructor) (rows_get (by omega) rfl)) ?_ | refine r_load rfl T.cell_int rfl (cell_rowg (by repeat constructor) rfl) ?_
      first | refine r_fieldAddr ⟨_, 0, none⟩ rfl rfl T.fa_api_Trades_0 rfl ?_ | refine r_fieldAddr _ rfl rfl T.fa_api_Trades_0 rfl ?_
      first | refine r_load rfl T.cell_L_api_Class rfl (cell_own (by repeat constructor) rfl) ?_ | refine r_load rfl T.cell_L_api_Class rfl (cell_blk (by repeat constructor) rfl) ?_ | refine r_load rfl T.cell_L_api_Class rfl (cell_row (by repeat constructor) (rows_get0 (by omega) rfl)) ?_ | refine r_load rfl T.cell_L_api_Class rfl (cell_row_f (by repeat constructor) (rows_get (by omega) rfl)) ?_ | refine r_load rfl T.cell_L_api_Class rfl (cell_rowg (by repeat constructor) rfl) ?_
      refine r_len_sl rfl T.u_L_api_Class rfl ?_
      refine r_sub _ rfl rfl rfl rfl (by unfold I64; omega) ?_
      refine hl_call F.trade_between_cb rfl rfl (trade_between_meets _ _ _) (List.Perm.refl _) trivial fun _ _ => ?_
      refine r_not rfl rfl ?_
      refine r_assign rfl rfl ?_
      refine hl_nil ?_
      refine then_n ?_
      first | refine c_dec rfl (fun hb4 => ?_) (fun hb4 => ?_) | refine hc_cond rfl (fun hb4 => ?_) (fun hb4 => ?_)
      ·have hb4' := hb4; try simp at hb4'
       refine hc_skip ?_
       exact cut_n _ () trivial ⟨rfl, rfl, rfl, rfl, congrArg (fun b => some (Value.bool b)) (by rw [hb4]; symm; rw [decide_eq_true_eq]; exact fun e => nbw hb4 e.1), trivial⟩ (List.Sublist.refl _) ⟨(by repeat constructor), (by repeat constructor), (by repeat constructor), trivial⟩
      ·have hb4' := hb4; try simp at hb4'
       refine hc_region ?_
       first | refine r_fieldAddr ⟨_, 2, none⟩ rfl rfl T.fa_api_Head_2 rfl ?_ | refine r_fieldAddr _ rfl rfl T.fa_api_Head_2 rfl ?_
       first | refine r_load rfl T.cell_int rfl (cell_own (by repeat constructor) rfl) ?_ | refine r_load rfl T.cell_int rfl (cell_blk (by repeat constructor) rfl) ?_ | refine r_load rfl T.cell_int rfl (cell_row (by repeat constructor) (rows_get0 (by omega) rfl)) ?_ | refine r_load rfl T.cell_int rfl (cell_row_f (by repeat constructor) (rows_get (by omega) rfl)) ?_ | refine r_load rfl T.cell_int rfl (cell_rowg (by repeat constructor) rfl) ?_
       refine r_move rfl rfl ?_
       refine r_len_sl rfl T.u_L_api_Head rfl ?_
       refine r_sub _ rfl rfl rfl rfl (by unfold I64; omega) ?_
       refine hl_call F.trade_between_cb rfl rfl (trade_between_meets _ _ _) (List.Perm.refl _) trivial fun _ _ => ?_
       refine r_not rfl rfl ?_
       refine r_assign rfl rfl ?_
       refine hl_nil ?_
       exact cut_n _ () trivial ⟨rfl, rfl, rfl, rfl, congrArg (fun b => some (Value.bool b)) (by have := bw hb4; rw [Bool.eq_iff_iff]; simp only [Bool.not_eq_true', decide_eq_false_iff_not, decide_eq_true_eq]; exact ⟨fun e f => e f.2, fun e f => e ⟨this, f⟩⟩), trivial⟩ (List.Sublist.refl _) ⟨(by repeat constructor), (by repeat constructor), (by repeat constructor), trivial⟩
     ·refine fun _ _ => ?_
      first | refine c_dec rfl (fun hb5 => ?_) (fun hb5 => ?_) | refine hc_cond rfl (fun hb5 => ?_) (fun hb5 => ?_)
      ·have hb5' := hb5; try simp at hb5'
       refine hc_seq ?_
       refine hc_region ?_
       refine r_assign rfl rfl ?_
       refine hl_nil ?_
       refine then_n ?_
       refine hc_ret ?_
       refine inb_ret ?_
       refine then_ret ?_
       exact ret1 () rfl (congrArg (fun b => some (int b)) (by rw [headErr_of cs hs hi, if_neg h1, if_neg hb2, if_neg hb3, if_pos (by omega)])) rfl trivial (List.nil_sublist _) trivial
      ·have hb5' := hb5; try simp at hb5'
       refine hc_seq ?_
       refine hc_region ?_
       first | refine r_fieldAddr ⟨_, 2, none⟩ rfl rfl T.fa_api_Head_2 rfl ?_ | refine r_fieldAddr _ rfl rfl T.fa_api_Head_2 rfl ?_
       first | refine r_load rfl T.cell_int rfl (cell_own (by repeat constructor) rfl) ?_ | refine r_load rfl T.cell_int rfl (cell_blk (by repeat constructor) rfl) ?_ | refine r_load rfl T.cell_int rfl (cell_row (by repeat constructor) (rows_get0 (by omega) rfl)) ?_ | refine r_load rfl T.cell_int rfl (cell_row_f (by repeat constructor) (rows_get (by omega) rfl)) ?_ | refine r_load rfl T.cell_int rfl (cell_rowg (by repeat constructor) rfl) ?_
       refine r_move rfl rfl ?_
       refine r_eql rfl rfl rfl ?_
       refine r_assign rfl rfl ?_
       refine hl_nil ?_
       refine then_n ?_
       first | refine c_dec rfl (fun hb6 => ?_) (fun hb6 => ?_) | refine hc_cond rfl (fun hb6 => ?_) (fun hb6 => ?_)
       ·have hb6' := hb6; try simp at hb6'
        refine hc_seq ?_
        refine hc_region ?_
        refine r_assign rfl rfl ?_
        refine hl_nil ?_
        refine then_n ?_
        refine hc_ret ?_
        refine inb_ret ?_
        refine then_ret ?_
        exact ret1 () rfl (congrArg (fun b => some (int b)) (by rw [headErr_of cs hs hi, if_neg h1, if_neg hb2, if_neg hb3, if_neg (by omega), if_pos hb6])) rfl trivial (List.nil_sublist _) trivial
       ·have hb6' := hb6; try simp at hb6'
        have hH : headErr (trOf cs hs) i = if ¬ firstE (alsoErr hs.length i (hs.getD i default).2.2.2.l) (hs.getD i default).2.2.2.l.length = 0 then firstE (alsoErr hs.length i (hs.getD i default).2.2.2.l) (hs.getD i default).2.2.2.l.length else if kindBad (hs.getD i default).p = true then 8 else 0 := by rw [headErr_of cs hs hi, if_neg h1, if_neg hb2, if_neg hb3, if_neg (by omega), if_neg hb6]
        refine hc_skip ?_
        refine inb_n ?_
        refine then_n ?_
        refine hc_seq ?_
        refine hc_seq ?_
        refine hc_region ?_
        first | refine r_fieldAddr ⟨_, 3, none⟩ rfl rfl T.fa_api_Head_3 rfl ?_ | refine r_fieldAddr _ rfl rfl T.fa_api_Head_3 rfl ?_
        first | refine r_load rfl T.cell_ints rfl (cell_own (by repeat constructor) rfl) ?_ | refine r_load rfl T.cell_ints rfl (cell_blk (by repeat constructor) rfl) ?_ | refine r_load rfl T.cell_ints rfl (cell_row (by repeat constructor) (rows_get0 (by omega) rfl)) ?_ | refine r_load rfl T.cell_ints rfl (cell_row_f (by repeat constructor) (rows_get (by omega) rfl)) ?_ | refine r_load rfl T.cell_ints rfl (cell_rowg (by repeat constructor) rfl) ?_
        refine r_len_sl rfl T.u_ints rfl ?_
        refine r_move rfl rfl ?_
        refine hl_nil ?_
        refine then_n ?_
        refine hc_block ?_
        refine hc_loop (β := Nat) ⟨fun k => k ≤ (hs.getD i default).2.2.2.l.length ∧ firstE (alsoErr hs.length i (hs.getD i default).2.2.2.l) k = 0, fun k => [(1, int i), (2, .pointer (some ⟨gB, 0, none⟩)), (5, .slice B hs.length cb), (6, .pointer (some ⟨x7, 0, none⟩)), (63, .slice (hs.getD i default).2.2.2.a (hs.getD i default).2.2.2.l.length (hs.getD i default).2.2.2.c), (64, int (hs.getD i default).2.2.2.l.length), (65, int k)], fun _ => [(gB, .cells #[.slice A cs.length ca, .slice B hs.length cb] T.api_Trades (0, 0))], fun _ => [Row (some ⟨x7, 0, none⟩) (rows [hs.getD i default]), Row B (rows hs), Row (hs.getD i default).2.2.2.a (rows (hs.getD i default).2.2.2.l)]⟩ (fun k => (hs.getD i default).2.2.2.l.length - k) 0 ⟨Nat.zero_le _, rfl⟩ ⟨rfl, rfl, rfl, rfl, rfl, rfl, rfl, trivial⟩ (List.Sublist.refl _) ⟨(by repeat constructor), (by repeat constructor), (by repeat constructor), trivial⟩ fun k hk => ?_
        obtain ⟨hk, ht⟩ := hk
        refine hc_seq ?_
        refine hc_region ?_
        refine r_lss rfl rfl rfl ?_
        refine hl_nil ?_
        refine then_n ?_
        refine hc_seq ?_
        first | refine c_dec rfl (fun hb7 => ?_) (fun hb7 => ?_) | refine hc_cond rfl (fun hb7 => ?_) (fun hb7 => ?_)
        ·have hb7' := hb7; try simp at hb7'
         have hk2 : k < (hs.getD i default).2.2.2.l.length := by omega
         refine hc_skip ?_
         refine then_n ?_
         refine hc_seq ?_
         refine hc_block ?_
         refine hc_seq ?_
         refine hc_region ?_
         refine r_move rfl rfl ?_
         refine r_elem (α := Int) _ _ rfl T.u_ints T.sz_int rfl rfl rfl (by repeat constructor) rfl (by omega) (by decide) ?_
         refine r_load rfl T.cell_int rfl (cell_row (by repeat constructor) (rows_get0 (by omega) rfl)) ?_
         refine r_assign rfl rfl ?_
         refine r_assign rfl rfl ?_
         refine hl_nil ?_
         refine then_n ?_
         refine hc_block ?_
         refine hc_seq ?_
         refine hc_region ?_
         refine r_move rfl rfl ?_
         refine r_move rfl rfl ?_
         refine r_len_sl rfl T.u_L_api_Head rfl ?_
         refine r_sub _ rfl rfl rfl rfl (by unfold I64; omega) ?_
         refine hl_call F.trade_between_cb rfl rfl (trade_between_meets _ _ _) (List.Perm.refl _) trivial fun _ _ => ?_
         refine r_not rfl rfl ?_
         refine r_assign rfl rfl ?_
         refine hl_nil ?_
         refine then_n ?_
         first | refine c_dec rfl (fun hb8 => ?_) (fun hb8 => ?_) | refine hc_cond rfl (fun hb8 => ?_) (fun hb8 => ?_)
         ·have hb8' := hb8; try simp at hb8'
          refine hc_seq ?_
          refine hc_region ?_
          refine r_assign rfl rfl ?_
          refine hl_nil ?_
          refine then_n ?_
          refine hc_ret ?_
          refine inb_ret ?_
          refine inb_ret ?_
          refine then_ret ?_
          refine then_ret ?_
          refine inb_ret ?_
          refine then_ret ?_
          exact ret1 () rfl (congrArg (fun b => some (int b)) (by have he : alsoErr hs.length i (hs.getD i default).2.2.2.l k = 3 := (by unfold alsoErr; rw [if_pos (by have := nbw hb8; omega)]); rw [hH, firstE_stop ht (by rw [he]; omega) _ hk2, if_pos (by rw [he]; omega), he])) rfl trivial (List.nil_sublist _) trivial
         ·have hb8' := hb8; try simp at hb8'
          refine hc_seq ?_
          refine hc_region ?_
          refine r_move rfl rfl ?_
          refine r_move rfl rfl ?_
          refine r_eql rfl rfl rfl ?_
          refine r_assign rfl rfl ?_
          refine hl_nil ?_
          refine then_n ?_
          first | refine c_dec rfl (fun hb9 => ?_) (fun hb9 => ?_) | refine hc_cond rfl (fun hb9 => ?_) (fun hb9 => ?_)
          ·have hb9' := hb9; try simp at hb9'
           refine hc_seq ?_
           refine hc_region ?_
           refine r_assign rfl rfl ?_
           refine hl_nil ?_
           refine then_n ?_
           refine hc_ret ?_
           refine inb_ret ?_
           refine inb_ret ?_
           refine then_ret ?_
           refine then_ret ?_
           refine inb_ret ?_
           refine then_ret ?_
           exact ret1 () rfl (congrArg (fun b => some (int b)) (by have he : alsoErr hs.length i (hs.getD i default).2.2.2.l k = 9 := (by unfold alsoErr; rw [if_neg (by have := bw hb8; omega), if_pos hb9]); rw [hH, firstE_stop ht (by rw [he]; omega) _ hk2, if_pos (by rw [he]; omega), he])) rfl trivial (List.nil_sublist _) trivial
          ·have hb9' := hb9; try simp at hb9'
           refine hc_cut ⟨fun _ : Unit => True, fun _ => [(1, int i), (2, .pointer (some ⟨gB, 0, none⟩)), (5, .slice B hs.length cb), (6, .pointer (some ⟨x7, 0, none⟩)), (63, .slice (hs.getD i default).2.2.2.a (hs.getD i default).2.2.2.l.length (hs.getD i default).2.2.2.c), (64, int (hs.getD i default).2.2.2.l.length), (65, int k), (81, .bool (decide (0 < k ∧ (hs.getD i default).2.2.2.l.getD k default ≤ (hs.getD i default).2.2.2.l.getD (k - 1) default)))], fun _ => [(gB, .cells #[.slice A cs.length ca, .slice B hs.length cb] T.api_Trades (0, 0))], fun _ => [Row (some ⟨x7, 0, none⟩) (rows [hs.getD i default]), Row B (rows hs), Row (hs.getD i default).2.2.2.a (rows (hs.getD i default).2.2.2.l)]⟩ ?_ ?_
           ·skip
            refine hc_region ?_
            refine r_move rfl rfl ?_
            refine r_gtr rfl rfl rfl ?_
            refine r_move rfl rfl ?_
            refine g_split rfl rfl ?_ ?_
            ·intro hg2; have hg2' := hg2; try simp at hg2'
             refine g_yes rfl rfl hg2 ?_
             refine r_move rfl rfl ?_
             refine g_yes rfl rfl hg2 ?_
             first | refine r_fieldAddr ⟨_, 3, none⟩ rfl rfl T.fa_api_Head_3 rfl ?_ | refine r_fieldAddr _ rfl rfl T.fa_api_Head_3 rfl ?_
             refine g_yes rfl rfl hg2 ?_
             first | refine r_load rfl T.cell_ints rfl (cell_own (by repeat constructor) rfl) ?_ | refine r_load rfl T.cell_ints rfl (cell_blk (by repeat constructor) rfl) ?_ | refine r_load rfl T.cell_ints rfl (cell_row (by repeat constructor) (rows_get0 (by omega) rfl)) ?_ | refine r_load rfl T.cell_ints rfl (cell_row_f (by repeat constructor) (rows_get (by omega) rfl)) ?_ | refine r_load rfl T.cell_ints rfl (cell_rowg (by repeat constructor) rfl) ?_
             refine g_yes rfl rfl hg2 ?_
             refine r_move rfl rfl ?_
             refine g_yes rfl rfl hg2 ?_
             refine r_sub ((k - 1 : Nat) : Int) rfl rfl rfl (by omega) (by unfold I64; omega) ?_
             refine g_yes rfl rfl hg2 ?_
             refine r_elem (α := Int) _ _ rfl T.u_ints T.sz_int rfl rfl rfl (by repeat constructor) rfl (by omega) (by decide) ?_
             refine g_yes rfl rfl hg2 ?_
             refine r_load rfl T.cell_int rfl (cell_row (by repeat constructor) (rows_get0 (by omega) rfl)) ?_
             refine g_yes rfl rfl hg2 ?_
             refine r_leq rfl rfl rfl ?_
             refine p_t rfl rfl (bt1 hg2) rfl ?_
             refine r_assign rfl rfl ?_
             refine hl_nil ?_
             exact cut_n _ () trivial ⟨rfl, rfl, rfl, rfl, rfl, rfl, rfl, congrArg (fun b => some (Value.bool b)) (by exact decide_eq_decide.2 ⟨fun e => ⟨by omega, e⟩, fun e => e.2⟩), trivial⟩ (List.Sublist.refl _) ⟨(by repeat constructor), (by repeat constructor), (by repeat constructor), trivial⟩
            ·intro hg2; have hg2' := hg2; try simp at hg2'
             refine g_no rfl rfl rfl rfl rfl hg2 ?_
             refine g_no rfl rfl rfl rfl rfl hg2 ?_
             refine g_no rfl rfl rfl rfl rfl hg2 ?_
             refine g_no rfl rfl rfl rfl rfl hg2 ?_
             refine g_no rfl rfl rfl rfl rfl hg2 ?_
             refine g_no rfl rfl rfl rfl rfl hg2 ?_
             refine g_no rfl rfl rfl rfl rfl hg2 ?_
             refine g_no rfl rfl rfl rfl rfl hg2 ?_
             refine p_f rfl rfl (bf2 hg2) rfl ?_
             refine r_assign rfl rfl ?_
             refine hl_nil ?_
             exact cut_n _ () trivial ⟨rfl, rfl, rfl, rfl, rfl, rfl, rfl, congrArg (fun b => some (Value.bool b)) (by exact (decide_eq_false (by simp at hg2; omega)).symm), trivial⟩ (List.Sublist.refl _) ⟨(by repeat constructor), (by repeat constructor), (by repeat constructor), trivial⟩
           ·refine fun _ _ => ?_
            first | refine c_dec rfl (fun hb10 => ?_) (fun hb10 => ?_) | refine hc_cond rfl (fun hb10 => ?_) (fun hb10 => ?_)
            ·have hb10' := hb10; try simp at hb10'
             refine hc_seq ?_
             refine hc_region ?_
             refine r_assign rfl rfl ?_
             refine hl_nil ?_
             refine then_n ?_
             refine hc_ret ?_
             refine inb_ret ?_
             refine inb_ret ?_
             refine then_ret ?_
             refine then_ret ?_
             refine inb_ret ?_
             refine then_ret ?_
             exact ret1 () rfl (congrArg (fun b => some (int b)) (by have he : alsoErr hs.length i (hs.getD i default).2.2.2.l k = 5 := (by unfold alsoErr; rw [if_neg (by have := bw hb8; omega), if_neg hb9, if_pos hb10]); rw [hH, firstE_stop ht (by rw [he]; omega) _ hk2, if_pos (by rw [he]; omega), he])) rfl trivial (List.nil_sublist _) trivial
            ·have hb10' := hb10; try simp at hb10'
             refine hc_skip ?_
             refine inb_n ?_
             refine inb_n ?_
             refine then_n ?_
             refine hc_region ?_
             refine r_add _ rfl rfl rfl rfl (by unfold I64; omega) ?_
             refine r_move rfl rfl ?_
             refine hl_nil ?_
             exact again _ (k + 1) ⟨by omega, by rw [firstE_succ ht]; unfold alsoErr; rw [if_neg (by have := bw hb8; omega), if_neg hb9, if_neg hb10]⟩ (by show (hs.getD i default).2.2.2.l.length - (k + 1) < (hs.getD i default).2.2.2.l.length - k; omega) ⟨rfl, rfl, rfl, rfl, rfl, rfl, rfl, trivial⟩ (List.Sublist.refl _) ⟨(by repeat constructor), (by repeat constructor), (by repeat constructor), trivial⟩
        ·have hb7' := hb7; try simp at hb7'
         have hk2 : k = (hs.getD i default).2.2.2.l.length := by omega
         subst hk2
         rw [if_neg (not_not_intro ht)] at hH
         refine hc_exit ?_
         refine then_exit ?_
         refine then_exit ?_
         refine inb_hit ?_
         refine then_n ?_
         refine hc_seq ?_
         refine hc_cut ⟨fun _ : Unit => True, fun _ => [(1, int i), (2, .pointer (some ⟨gB, 0, none⟩)), (5, .slice B hs.length cb), (6, .pointer (some ⟨x7, 0, none⟩)), (124, .bool (kindBad (hs.getD i default).p))], fun _ => [(gB, .cells #[.slice A cs.length ca, .slice B hs.length cb] T.api_Trades (0, 0))], fun _ => [Row (some ⟨x7, 0, none⟩) (rows [hs.getD i default]), Row B (rows hs), Row (hs.getD i default).2.2.2.a (rows (hs.getD i default).2.2.2.l)]⟩ ?_ ?_
         ·skip
          clear hH ht hk hb1 hb1' h1 hb2 hb2' hb3 hb3' hb5 hb5' hb6 hb6' hb7 hb7' ha h6 hc6 hc hi hal
          refine hc_region ?_
          first | refine r_fieldAddr ⟨_, 2, none⟩ rfl rfl T.fa_api_Head_2 rfl ?_ | refine r_fieldAddr _ rfl rfl T.fa_api_Head_2 rfl ?_
          first | refine r_load rfl T.cell_int rfl (cell_own (by repeat constructor) rfl) ?_ | refine r_load rfl T.cell_int rfl (cell_blk (by repeat constructor) rfl) ?_ | refine r_load rfl T.cell_int rfl (cell_row (by repeat constructor) (rows_get0 (by omega) rfl)) ?_ | refine r_load rfl T.cell_int rfl (cell_row_f (by repeat constructor) (rows_get (by omega) rfl)) ?_ | refine r_load rfl T.cell_int rfl (cell_rowg (by repeat constructor) rfl) ?_
          refine r_neq rfl rfl rfl ?_
          refine r_move rfl rfl ?_
          refine g_split rfl rfl ?_ ?_
          ·intro hg3; have hg3' := hg3; try simp at hg3'
           refine g_yes rfl rfl hg3 ?_
           first | refine r_fieldAddr ⟨_, 1, none⟩ rfl rfl T.fa_api_Head_1 rfl ?_ | refine r_fieldAddr _ rfl rfl T.fa_api_Head_1 rfl ?_
           refine g_yes rfl rfl hg3 ?_
           first | refine r_load rfl T.cell_int rfl (cell_own (by repeat constructor) rfl) ?_ | refine r_load rfl T.cell_int rfl (cell_blk (by repeat constructor) rfl) ?_ | refine r_load rfl T.cell_int rfl (cell_row (by repeat constructor) (rows_get0 (by omega) rfl)) ?_ | refine r_load rfl T.cell_int rfl (cell_row_f (by repeat constructor) (rows_get (by omega) rfl)) ?_ | refine r_load rfl T.cell_int rfl (cell_rowg (by repeat constructor) rfl) ?_
           refine g_yes rfl rfl hg3 ?_
           refine r_neq rfl rfl rfl ?_
           refine g_yes rfl rfl hg3 ?_
           refine r_move rfl rfl ?_
           refine g_split rfl rfl ?_ ?_
           ·intro hg4; have hg4' := hg4; try simp at hg4'
            refine g_yes rfl rfl hg4 ?_
            first | refine r_fieldAddr ⟨_, 3, none⟩ rfl rfl T.fa_api_Head_3 rfl ?_ | refine r_fieldAddr _ rfl rfl T.fa_api_Head_3 rfl ?_
            refine g_yes rfl rfl hg4 ?_
            first | refine r_load rfl T.cell_ints rfl (cell_own (by repeat constructor) rfl) ?_ | refine r_load rfl T.cell_ints rfl (cell_blk (by repeat constructor) rfl) ?_ | refine r_load rfl T.cell_ints rfl (cell_row (by repeat constructor) (rows_get0 (by omega) rfl)) ?_ | refine r_load rfl T.cell_ints rfl (cell_row_f (by repeat constructor) (rows_get (by omega) rfl)) ?_ | refine r_load rfl T.cell_ints rfl (cell_rowg (by repeat constructor) rfl) ?_
            refine g_yes rfl rfl hg4 ?_
            refine r_len_sl rfl T.u_ints rfl ?_
            refine g_yes rfl rfl hg4 ?_
            refine r_gtr rfl rfl rfl ?_
            refine g_yes rfl rfl hg3 ?_
            refine p_f rfl rfl (bf1 hg4) rfl ?_
            refine p_t rfl rfl (bt1 hg3) rfl ?_
            refine r_move rfl rfl ?_
            refine g_split rfl rfl ?_ ?_
            ·intro hg5; have hg5' := hg5; try simp at hg5'
             refine g_yes rfl rfl hg5 ?_
             first | refine r_fieldAddr ⟨_, 2, none⟩ rfl rfl T.fa_api_Head_2 rfl ?_ | refine r_fieldAddr _ rfl rfl T.fa_api_Head_2 rfl ?_
             refine g_yes rfl rfl hg5 ?_
             first | refine r_load rfl T.cell_int rfl (cell_own (by repeat constructor) rfl) ?_ | refine r_load rfl T.cell_int rfl (cell_blk (by repeat constructor) rfl) ?_ | refine r_load rfl T.cell_int rfl (cell_row (by repeat constructor) (rows_get0 (by omega) rfl)) ?_ | refine r_load rfl T.cell_int rfl (cell_row_f (by repeat constructor) (rows_get (by omega) rfl)) ?_ | refine r_load rfl T.cell_int rfl (cell_rowg (by repeat constructor) rfl) ?_
             refine g_yes rfl rfl hg5 ?_
             refine r_eql rfl rfl rfl ?_
             refine g_yes rfl rfl hg5 ?_
             refine r_move rfl rfl ?_
             refine g_split rfl rfl ?_ ?_
             ·intro hg6; have hg6' := hg6; try simp at hg6'
              refine g_yes rfl rfl hg6 ?_
              first | refine r_fieldAddr ⟨_, 1, none⟩ rfl rfl T.fa_api_Head_1 rfl ?_ | refine r_fieldAddr _ rfl rfl T.fa_api_Head_1 rfl ?_
              refine g_yes rfl rfl hg6 ?_
              first | refine r_load rfl T.cell_int rfl (cell_own (by repeat constructor) rfl) ?_ | refine r_load rfl T.cell_int rfl (cell_blk (by repeat constructor) rfl) ?_ | refine r_load rfl T.cell_int rfl (cell_row (by repeat constructor) (rows_get0 (by omega) rfl)) ?_ | refine r_load rfl T.cell_int rfl (cell_row_f (by repeat constructor) (rows_get (by omega) rfl)) ?_ | refine r_load rfl T.cell_int rfl (cell_rowg (by repeat constructor) rfl) ?_
              refine g_yes rfl rfl hg6 ?_
              refine r_eql rfl rfl rfl ?_
              refine g_yes rfl rfl hg5 ?_
              refine p_t rfl rfl (bt1 hg6) rfl ?_
              refine g_yes rfl rfl hg5 ?_
              refine r_move rfl rfl ?_
              refine g_split rfl rfl ?_ ?_
              ·intro hg7; have hg7' := hg7; try simp at hg7'
               refine g_yes rfl rfl hg7 ?_
               first | refine r_fieldAddr ⟨_, 3, none⟩ rfl rfl T.fa_api_Head_3 rfl ?_ | refine r_fieldAddr _ rfl rfl T.fa_api_Head_3 rfl ?_
               refine g_yes rfl rfl hg7 ?_
               first | refine r_load rfl T.cell_ints rfl (cell_own (by repeat constructor) rfl) ?_ | refine r_load rfl T.cell_ints rfl (cell_blk (by repeat constructor) rfl) ?_ | refine r_load rfl T.cell_ints rfl (cell_row (by repeat constructor) (rows_get0 (by omega) rfl)) ?_ | refine r_load rfl T.cell_ints rfl (cell_row_f (by repeat constructor) (rows_get (by omega) rfl)) ?_ | refine r_load rfl T.cell_ints rfl (cell_rowg (by repeat constructor) rfl) ?_
               refine g_yes rfl rfl hg7 ?_
               refine r_len_sl rfl T.u_ints rfl ?_
               refine g_yes rfl rfl hg7 ?_
               refine r_eql rfl rfl rfl ?_
               refine g_yes rfl rfl hg5 ?_
               refine p_t rfl rfl (bt1 hg7) rfl ?_
               refine p_f rfl rfl (bf1 hg5) rfl ?_
               refine hl_nil ?_
               exact cut_n _ () trivial ⟨rfl, rfl, rfl, rfl, congrArg (fun b => some (Value.bool b)) (by simp only [kindBad, Hd.p]; simp_all), trivial⟩ (List.Sublist.refl _) ⟨(by repeat constructor), (by repeat constructor), (by repeat constructor), trivial⟩
              ·intro hg7; have hg7' := hg7; try simp at hg7'
               refine g_no rfl rfl rfl rfl rfl hg7 ?_
               refine g_no rfl rfl rfl rfl rfl hg7 ?_
               refine g_no rfl rfl rfl rfl rfl hg7 ?_
               refine g_no rfl rfl rfl rfl rfl hg7 ?_
               refine g_yes rfl rfl hg5 ?_
               refine p_f rfl rfl (bf2 hg7) rfl ?_
               refine p_f rfl rfl (bf1 hg5) rfl ?_
               refine hl_nil ?_
               exact cut_n _ () trivial ⟨rfl, rfl, rfl, rfl, congrArg (fun b => some (Value.bool b)) (by simp only [kindBad, Hd.p]; simp_all), trivial⟩ (List.Sublist.refl _) ⟨(by repeat constructor), (by repeat constructor), (by repeat constructor), trivial⟩
             ·intro hg6; have hg6' := hg6; try simp at hg6'
              refine g_no rfl rfl rfl rfl rfl hg6 ?_
              refine g_no rfl rfl rfl rfl rfl hg6 ?_
              refine g_no rfl rfl rfl rfl rfl hg6 ?_
              refine g_yes rfl rfl hg5 ?_
              refine p_f rfl rfl (bf2 hg6) rfl ?_
              refine g_yes rfl rfl hg5 ?_
              refine r_move rfl rfl ?_
              refine g_no rfl rfl rfl rfl rfl rfl ?_
              refine g_no rfl rfl rfl rfl rfl rfl ?_
              refine g_no rfl rfl rfl rfl rfl rfl ?_
              refine g_no rfl rfl rfl rfl rfl rfl ?_
              refine g_yes rfl rfl hg5 ?_
              refine p_f rfl rfl rfl rfl ?_
              refine p_f rfl rfl (bf1 hg5) rfl ?_
              refine hl_nil ?_
              exact cut_n _ () trivial ⟨rfl, rfl, rfl, rfl, congrArg (fun b => some (Value.bool b)) (by simp only [kindBad, Hd.p]; simp_all), trivial⟩ (List.Sublist.refl _) ⟨(by repeat constructor), (by repeat constructor), (by repeat constructor), trivial⟩
            ·intro hg5; have hg5' := hg5; try simp at hg5'
             refine g_no rfl rfl rfl rfl rfl hg5 ?_
             refine g_no rfl rfl rfl rfl rfl hg5 ?_
             refine g_no rfl rfl rfl rfl rfl hg5 ?_
             refine g_no rfl rfl rfl rfl rfl hg5 ?_
             refine g_und rfl rfl rfl rfl rfl rfl ?_
             refine g_und rfl rfl rfl rfl rfl rfl ?_
             refine g_und rfl rfl rfl rfl rfl rfl ?_
             refine g_no rfl rfl rfl rfl rfl hg5 ?_
             refine g_no rfl rfl rfl rfl rfl hg5 ?_
             refine g_und rfl rfl rfl rfl rfl rfl ?_
             refine g_und rfl rfl rfl rfl rfl rfl ?_
             refine g_und rfl rfl rfl rfl rfl rfl ?_
             refine g_und rfl rfl rfl rfl rfl rfl ?_
             refine g_no rfl rfl rfl rfl rfl hg5 ?_
             refine p_t rfl rfl (bt2 hg5) rfl ?_
             refine hl_nil ?_
             exact cut_n _ () trivial ⟨rfl, rfl, rfl, rfl, congrArg (fun b => some (Value.bool b)) (by simp only [kindBad, Hd.p]; simp_all), trivial⟩ (List.Sublist.refl _) ⟨(by repeat constructor), (by repeat constructor), (by repeat constructor), trivial⟩
           ·intro hg4; have hg4' := hg4; try simp at hg4'
            refine g_no rfl rfl rfl rfl rfl hg4 ?_
            refine g_no rfl rfl rfl rfl rfl hg4 ?_
            refine g_no rfl rfl rfl rfl rfl hg4 ?_
            refine g_no rfl rfl rfl rfl rfl hg4 ?_
            refine g_yes rfl rfl hg3 ?_
            refine p_t rfl rfl (bt2 hg4) rfl ?_
            refine p_t rfl rfl (bt1 hg3) rfl ?_
            refine r_move rfl rfl ?_
            refine g_no rfl rfl rfl rfl rfl rfl ?_
            refine g_no rfl rfl rfl rfl rfl rfl ?_
            refine g_no rfl rfl rfl rfl rfl rfl ?_
            refine g_no rfl rfl rfl rfl rfl rfl ?_
            refine g_und rfl rfl rfl rfl rfl rfl ?_
            refine g_und rfl rfl rfl rfl rfl rfl ?_
            refine g_und rfl rfl rfl rfl rfl rfl ?_
            refine g_no rfl rfl rfl rfl rfl rfl ?_
            refine g_no rfl rfl rfl rfl rfl rfl ?_
            refine g_und rfl rfl rfl rfl rfl rfl ?_
            refine g_und rfl rfl rfl rfl rfl rfl ?_
            refine g_und rfl rfl rfl rfl rfl rfl ?_
            refine g_und rfl rfl rfl rfl rfl rfl ?_
            refine g_no rfl rfl rfl rfl rfl rfl ?_
            refine p_t rfl rfl rfl rfl ?_
            refine hl_nil ?_
            exact cut_n _ () trivial ⟨rfl, rfl, rfl, rfl, congrArg (fun b => some (Value.bool b)) (by simp only [kindBad, Hd.p]; simp_all), trivial⟩ (List.Sublist.refl _) ⟨(by repeat constructor), (by repeat constructor), (by repeat constructor), trivial⟩
          ·intro hg3; have hg3' := hg3; try simp at hg3'
           refine g_no rfl rfl rfl rfl rfl hg3 ?_
           refine g_no rfl rfl rfl rfl rfl hg3 ?_
           refine g_no rfl rfl rfl rfl rfl hg3 ?_
           refine g_no rfl rfl rfl rfl rfl hg3 ?_
           refine g_und rfl rfl rfl rfl rfl rfl ?_
           refine g_und rfl rfl rfl rfl rfl rfl ?_
           refine g_und rfl rfl rfl rfl rfl rfl ?_
           refine g_und rfl rfl rfl rfl rfl rfl ?_
           refine g_no rfl rfl rfl rfl rfl hg3 ?_
           refine p_f rfl rfl (bf2 hg3) rfl ?_
           refine r_move rfl rfl ?_
           refine g_yes rfl rfl rfl ?_
           first | refine r_fieldAddr ⟨_, 2, none⟩ rfl rfl T.fa_api_Head_2 rfl ?_ | refine r_fieldAddr _ rfl rfl T.fa_api_Head_2 rfl ?_
           refine g_yes rfl rfl rfl ?_
           first | refine r_load rfl T.cell_int rfl (cell_own (by repeat constructor) rfl) ?_ | refine r_load rfl T.cell_int rfl (cell_blk (by repeat constructor) rfl) ?_ | refine r_load rfl T.cell_int rfl (cell_row (by repeat constructor) (rows_get0 (by omega) rfl)) ?_ | refine r_load rfl T.cell_int rfl (cell_row_f (by repeat constructor) (rows_get (by omega) rfl)) ?_ | refine r_load rfl T.cell_int rfl (cell_rowg (by repeat constructor) rfl) ?_
           refine g_yes rfl rfl rfl ?_
           refine r_eql rfl rfl rfl ?_
           refine g_yes rfl rfl rfl ?_
           refine r_move rfl rfl ?_
           refine g_split rfl rfl ?_ ?_
           ·intro hg8; have hg8' := hg8; try simp at hg8'
            refine g_yes rfl rfl hg8 ?_
            first | refine r_fieldAddr ⟨_, 1, none⟩ rfl rfl T.fa_api_Head_1 rfl ?_ | refine r_fieldAddr _ rfl rfl T.fa_api_Head_1 rfl ?_
            refine g_yes rfl rfl hg8 ?_
            first | refine r_load rfl T.cell_int rfl (cell_own (by repeat constructor) rfl) ?_ | refine r_load rfl T.cell_int rfl (cell_blk (by repeat constructor) rfl) ?_ | refine r_load rfl T.cell_int rfl (cell_row (by repeat constructor) (rows_get0 (by omega) rfl)) ?_ | refine r_load rfl T.cell_int rfl (cell_row_f (by repeat constructor) (rows_get (by omega) rfl)) ?_ | refine r_load rfl T.cell_int rfl (cell_rowg (by repeat constructor) rfl) ?_
            refine g_yes rfl rfl hg8 ?_
            refine r_eql rfl rfl rfl ?_
            refine g_yes rfl rfl rfl ?_
            refine p_t rfl rfl (bt1 hg8) rfl ?_
            refine g_yes rfl rfl rfl ?_
            refine r_move rfl rfl ?_
            refine g_split rfl rfl ?_ ?_
            ·intro hg9; have hg9' := hg9; try simp at hg9'
             refine g_yes rfl rfl hg9 ?_
             first | refine r_fieldAddr ⟨_, 3, none⟩ rfl rfl T.fa_api_Head_3 rfl ?_ | refine r_fieldAddr _ rfl rfl T.fa_api_Head_3 rfl ?_
             refine g_yes rfl rfl hg9 ?_
             first | refine r_load rfl T.cell_ints rfl (cell_own (by repeat constructor) rfl) ?_ | refine r_load rfl T.cell_ints rfl (cell_blk (by repeat constructor) rfl) ?_ | refine r_load rfl T.cell_ints rfl (cell_row (by repeat constructor) (rows_get0 (by omega) rfl)) ?_ | refine r_load rfl T.cell_ints rfl (cell_row_f (by repeat constructor) (rows_get (by omega) rfl)) ?_ | refine r_load rfl T.cell_ints rfl (cell_rowg (by repeat constructor) rfl) ?_
             refine g_yes rfl rfl hg9 ?_
             refine r_len_sl rfl T.u_ints rfl ?_
             refine g_yes rfl rfl hg9 ?_
             refine r_eql rfl rfl rfl ?_
             refine g_yes rfl rfl rfl ?_
             refine p_t rfl rfl (bt1 hg9) rfl ?_
             refine p_f rfl rfl rfl rfl ?_
             refine hl_nil ?_
             exact cut_n _ () trivial ⟨rfl, rfl, rfl, rfl, congrArg (fun b => some (Value.bool b)) (by simp only [kindBad, Hd.p]; simp_all), trivial⟩ (List.Sublist.refl _) ⟨(by repeat constructor), (by repeat constructor), (by repeat constructor), trivial⟩
            ·intro hg9; have hg9' := hg9; try simp at hg9'
             refine g_no rfl rfl rfl rfl rfl hg9 ?_
             refine g_no rfl rfl rfl rfl rfl hg9 ?_
             refine g_no rfl rfl rfl rfl rfl hg9 ?_
             refine g_no rfl rfl rfl rfl rfl hg9 ?_
             refine g_yes rfl rfl rfl ?_
             refine p_f rfl rfl (bf2 hg9) rfl ?_
             refine p_f rfl rfl rfl rfl ?_
             refine hl_nil ?_
             exact cut_n _ () trivial ⟨rfl, rfl, rfl, rfl, congrArg (fun b => some (Value.bool b)) (by simp only [kindBad, Hd.p]; simp_all), trivial⟩ (List.Sublist.refl _) ⟨(by repeat constructor), (by repeat constructor), (by repeat constructor), trivial⟩
           ·intro hg8; have hg8' := hg8; try simp at hg8'
            refine g_no rfl rfl rfl rfl rfl hg8 ?_
            refine g_no rfl rfl rfl rfl rfl hg8 ?_
            refine g_no rfl rfl rfl rfl rfl hg8 ?_
            refine g_yes rfl rfl rfl ?_
            refine p_f rfl rfl (bf2 hg8) rfl ?_
            refine g_yes rfl rfl rfl ?_
            refine r_move rfl rfl ?_
            refine g_no rfl rfl rfl rfl rfl rfl ?_
            refine g_no rfl rfl rfl rfl rfl rfl ?_
            refine g_no rfl rfl rfl rfl rfl rfl ?_
            refine g_no rfl rfl rfl rfl rfl rfl ?_
            refine g_yes rfl rfl rfl ?_
            refine p_f rfl rfl rfl rfl ?_
            refine p_f rfl rfl rfl rfl ?_
            refine hl_nil ?_
            exact cut_n _ () trivial ⟨rfl, rfl, rfl, rfl, congrArg (fun b => some (Value.bool b)) (by simp only [kindBad, Hd.p]; simp_all), trivial⟩ (List.Sublist.refl _) ⟨(by repeat constructor), (by repeat constructor), (by repeat constructor), trivial⟩
         ·refine fun _ _ => ?_
          first | refine c_dec rfl (fun hb11 => ?_) (fun hb11 => ?_) | refine hc_cond rfl (fun hb11 => ?_) (fun hb11 => ?_)
          ·have hb11' := hb11; try simp at hb11'
           refine hc_seq ?_
           refine hc_region ?_
           refine r_assign rfl rfl ?_
           refine hl_nil ?_
           refine then_n ?_
           refine hc_ret ?_
           refine then_ret ?_
           exact ret1 () rfl (congrArg (fun b => some (int b)) (by rw [hH, if_pos hb11])) rfl trivial (List.nil_sublist _) trivial
          ·have hb11' := hb11; try simp at hb11'
           refine hc_skip ?_
           refine then_n ?_
           refine hc_seq ?_
           refine hc_region ?_
           refine r_assign rfl rfl ?_
           refine hl_nil ?_
           refine then_n ?_
           refine hc_ret ?_
           exact ret1 () rfl (congrArg (fun b => some (int b)) (by rw [hH, if_neg (by rw [hb11]; simp)])) rfl trivial (List.nil_sublist _) trivial

theorem hs_len (cs : List Cl) (hs : List Hd) : (trOf cs hs).hs.length = hs.length := List.length_map ..

theorem trade_check_meets {A B : Option Addr} {ca cb : Nat} (cs : List Cl) (hs : List Hd) (hca : cs.length ≤ ca) (hcb : hs.length ≤ cb) (ha : ∀ h ∈ hs, h.2.2.2.l.length ≤ 1000000) : Meets Try.prog F.trade_check [.agg #[.slice A cs.length ca, .slice B hs.length cb]] { LI := [Row A (rows cs), RowsF B hs Hd.row], val := fun _ : Unit => int (checkT (trOf cs hs)) } := by
 refine meets_intro F.trade_check_f rfl (Nat.le_of_ble_eq_true rfl) fun w0 => ?_
 refine hc_seq ?_
 refine hc_region ?_
 refine r_box rfl rfl fun gB => ?_
 refine r_assign rfl rfl ?_
 refine hl_nil ?_
 refine then_n ?_
 refine hc_seq ?_
 refine hc_seq ?_
 have hl := hs_len cs hs
 refine hc_region ?_
 first | refine r_fieldAddr ⟨_, 0, none⟩ rfl rfl T.fa_api_Trades_0 rfl ?_ | refine r_fieldAddr _ rfl rfl T.fa_api_Trades_0 rfl ?_
 first | refine r_load rfl T.cell_L_api_Class rfl (cell_own (by repeat constructor) rfl) ?_ | refine r_load rfl T.cell_L_api_Class rfl (cell_blk (by repeat constructor) rfl) ?_ | refine r_load rfl T.cell_L_api_Class rfl (cell_row (by repeat constructor) (rows_get0 (by omega) rfl)) ?_ | refine r_load rfl T.cell_L_api_Class rfl (cell_row_f (by repeat constructor) (rows_get (by omega) rfl)) ?_ | refine r_load rfl T.cell_L_api_Class rfl (cell_rowg (by repeat constructor) rfl) ?_
 refine r_len_sl rfl T.u_L_api_Class rfl ?_
 refine r_gtr rfl rfl rfl ?_
 refine r_move rfl rfl ?_
 refine g_split rfl rfl ?_ ?_
 ·intro hg1; have hg1' := hg1; try simp at hg1'
  have h6 : cs.length ≤ 6 := by simp at hg1; omega
  refine g_yes rfl rfl hg1 ?_
  first | refine r_fieldAddr ⟨_, 1, none⟩ rfl rfl T.fa_api_Trades_1 rfl ?_ | refine r_fieldAddr _ rfl rfl T.fa_api_Trades_1 rfl ?_
  refine g_yes rfl rfl hg1 ?_
  first | refine r_load rfl T.cell_L_api_Head rfl (cell_own (by repeat constructor) rfl) ?_ | refine r_load rfl T.cell_L_api_Head rfl (cell_blk (by repeat constructor) rfl) ?_ | refine r_load rfl T.cell_L_api_Head rfl (cell_row (by repeat constructor) (rows_get0 (by omega) rfl)) ?_ | refine r_load rfl T.cell_L_api_Head rfl (cell_row_f (by repeat constructor) (rows_get (by omega) rfl)) ?_ | refine r_load rfl T.cell_L_api_Head rfl (cell_rowg (by repeat constructor) rfl) ?_
  refine g_yes rfl rfl hg1 ?_
  refine r_len_sl rfl T.u_L_api_Head rfl ?_
  refine g_yes rfl rfl hg1 ?_
  refine r_gtr rfl rfl rfl ?_
  refine p_f rfl rfl (bf1 hg1) rfl ?_
  refine hl_nil ?_
  refine then_n ?_
  first | refine c_dec rfl (fun hb1 => ?_) (fun hb1 => ?_) | refine hc_cond rfl (fun hb1 => ?_) (fun hb1 => ?_)
  ·have hb1' := hb1; try simp at hb1'
   refine hc_seq ?_
   refine hc_region ?_
   refine r_assign rfl rfl ?_
   refine hl_nil ?_
   refine then_n ?_
   refine hc_ret ?_
   refine then_ret ?_
   exact ret1 () rfl (congrArg (fun b => some (int b)) (by rw [checkT, if_pos (by rw [hl]; simp only; omega)])) rfl trivial (List.nil_sublist _) trivial
  ·have hb1' := hb1; try simp at hb1'
   have h6h : hs.length ≤ 6 := by omega
   have hT : checkT (trOf cs hs) = if ¬ firstE (clsErr cs) cs.length = 0 then firstE (clsErr cs) cs.length else firstE (headErr (trOf cs hs)) hs.length := by rw [checkT, if_neg (by rw [hl]; simp only; omega), hl]
   refine hc_skip ?_
   refine then_n ?_
   refine hc_seq ?_
   refine hc_seq ?_
   refine hc_region ?_
   first | refine r_fieldAddr ⟨_, 0, none⟩ rfl rfl T.fa_api_Trades_0 rfl ?_ | refine r_fieldAddr _ rfl rfl T.fa_api_Trades_0 rfl ?_
   first | refine r_load rfl T.cell_L_api_Class rfl (cell_own (by repeat constructor) rfl) ?_ | refine r_load rfl T.cell_L_api_Class rfl (cell_blk (by repeat constructor) rfl) ?_ | refine r_load rfl T.cell_L_api_Class rfl (cell_row (by repeat constructor) (rows_get0 (by omega) rfl)) ?_ | refine r_load rfl T.cell_L_api_Class rfl (cell_row_f (by repeat constructor) (rows_get (by omega) rfl)) ?_ | refine r_load rfl T.cell_L_api_Class rfl (cell_rowg (by repeat constructor) rfl) ?_
   refine r_len_sl rfl T.u_L_api_Class rfl ?_
   refine r_move rfl rfl ?_
   refine hl_nil ?_
   refine then_n ?_
   refine hc_block ?_
   refine hc_loop (β := Nat) ⟨fun k => k ≤ cs.length ∧ firstE (clsErr cs) k = 0, fun k => [(1, .pointer (some ⟨gB, 0, none⟩)), (19, int cs.length), (20, int k)], fun _ => [(gB, .cells #[.slice A cs.length ca, .slice B hs.length cb] T.api_Trades (0, 0))], fun _ => [Row A (rows cs), RowsF B hs Hd.row]⟩ (fun k => cs.length - k) 0 ⟨Nat.zero_le _, rfl⟩ ⟨rfl, rfl, rfl, trivial⟩ (List.Sublist.refl _) ⟨(by repeat constructor), (by repeat constructor), trivial⟩ fun k hk => ?_
   obtain ⟨hk, ht⟩ := hk
   refine hc_seq ?_
   refine hc_region ?_
   refine r_lss rfl rfl rfl ?_
   refine hl_nil ?_
   refine then_n ?_
   refine hc_seq ?_
   first | refine c_dec rfl (fun hb2 => ?_) (fun hb2 => ?_) | refine hc_cond rfl (fun hb2 => ?_) (fun hb2 => ?_)
   ·have hb2' := hb2; try simp at hb2'
    have hk2 : k < cs.length := by omega
    refine hc_skip ?_
    refine then_n ?_
    refine hc_seq ?_
    refine hc_block ?_
    refine hc_seq ?_
    refine hc_region ?_
    refine r_move rfl rfl ?_
    refine r_assign rfl rfl ?_
    refine hl_nil ?_
    refine then_n ?_
    refine hc_seq ?_
    refine hc_region ?_
    first | refine r_fieldAddr ⟨_, 0, none⟩ rfl rfl T.fa_api_Trades_0 rfl ?_ | refine r_fieldAddr _ rfl rfl T.fa_api_Trades_0 rfl ?_
    first | refine r_load rfl T.cell_L_api_Class rfl (cell_own (by repeat constructor) rfl) ?_ | refine r_load rfl T.cell_L_api_Class rfl (cell_blk (by repeat constructor) rfl) ?_ | refine r_load rfl T.cell_L_api_Class rfl (cell_row (by repeat constructor) (rows_get0 (by omega) rfl)) ?_ | refine r_load rfl T.cell_L_api_Class rfl (cell_row_f (by repeat constructor) (rows_get (by omega) rfl)) ?_ | refine r_load rfl T.cell_L_api_Class rfl (cell_rowg (by repeat constructor) rfl) ?_
    refine r_move rfl rfl ?_
    refine hl_call F.trade_checkClass_cb rfl rfl (trade_checkClass_meets cs k (by omega) hca hk2) (List.Perm.refl _) ⟨(by repeat constructor), trivial⟩ fun _ _ => ?_
    refine r_assign rfl rfl ?_
    refine hl_nil ?_
    refine then_n ?_
    refine hc_seq ?_
    refine hc_region ?_
    refine r_move rfl rfl ?_
    refine r_neq rfl rfl rfl ?_
    refine hl_nil ?_
    refine then_n ?_
    first | refine c_dec rfl (fun hb3 => ?_) (fun hb3 => ?_) | refine hc_cond rfl (fun hb3 => ?_) (fun hb3 => ?_)
    ·have hb3' := hb3; try simp at hb3'
     refine hc_seq ?_
     refine hc_region ?_
     refine r_move rfl rfl ?_
     refine r_assign rfl rfl ?_
     refine hl_nil ?_
     refine then_n ?_
     refine hc_ret ?_
     refine inb_ret ?_
     refine then_ret ?_
     refine then_ret ?_
     refine inb_ret ?_
     refine then_ret ?_
     exact ret1 () rfl (congrArg (fun b => some (int b)) (by rw [hT, firstE_stop ht hb3 _ hk2, if_pos hb3])) rfl trivial (List.nil_sublist _) trivial
    ·have hb3' := hb3; try simp at hb3'
     refine hc_skip ?_
     refine inb_n ?_
     refine then_n ?_
     refine hc_region ?_
     refine r_add _ rfl rfl rfl rfl (by unfold I64; omega) ?_
     refine r_move rfl rfl ?_
     refine hl_nil ?_
     exact again _ (k + 1) ⟨by omega, by rw [firstE_succ ht]; exact Classical.not_not.1 hb3⟩ (by show cs.length - (k + 1) < cs.length - k; omega) ⟨rfl, rfl, rfl, trivial⟩ (List.Sublist.refl _) ⟨(by repeat constructor), (by repeat constructor), trivial⟩
   ·have hb2' := hb2; try simp at hb2'
    have hk2 : k = cs.length := by omega
    subst hk2
    rw [if_neg (not_not_intro ht)] at hT
    refine hc_exit ?_
    refine then_exit ?_
    refine then_exit ?_
    refine inb_hit ?_
    refine then_n ?_
    refine hc_seq ?_
    refine hc_seq ?_
    refine hc_region ?_
    first | refine r_fieldAddr ⟨_, 1, none⟩ rfl rfl T.fa_api_Trades_1 rfl ?_ | refine r_fieldAddr _ rfl rfl T.fa_api_Trades_1 rfl ?_
    first | refine r_load rfl T.cell_L_api_Head rfl (cell_own (by repeat constructor) rfl) ?_ | refine r_load rfl T.cell_L_api_Head rfl (cell_blk (by repeat constructor) rfl) ?_ | refine r_load rfl T.cell_L_api_Head rfl (cell_row (by repeat constructor) (rows_get0 (by omega) rfl)) ?_ | refine r_load rfl T.cell_L_api_Head rfl (cell_row_f (by repeat constructor) (rows_get (by omega) rfl)) ?_ | refine r_load rfl T.cell_L_api_Head rfl (cell_rowg (by repeat constructor) rfl) ?_
    refine r_len_sl rfl T.u_L_api_Head rfl ?_
    refine r_move rfl rfl ?_
    refine hl_nil ?_
    refine then_n ?_
    refine hc_block ?_
    refine hc_loop (β := Nat) ⟨fun k => k ≤ hs.length ∧ firstE (headErr (trOf cs hs)) k = 0, fun k => [(1, .pointer (some ⟨gB, 0, none⟩)), (33, int hs.length), (34, int k)], fun _ => [(gB, .cells #[.slice A cs.length ca, .slice B hs.length cb] T.api_Trades (0, 0))], fun _ => [Row A (rows cs), RowsF B hs Hd.row]⟩ (fun k => hs.length - k) 0 ⟨Nat.zero_le _, rfl⟩ ⟨rfl, rfl, rfl, trivial⟩ (List.Sublist.refl _) ⟨(by repeat constructor), (by repeat constructor), trivial⟩ fun k hk => ?_
    obtain ⟨hk, ht⟩ := hk
    refine hc_seq ?_
    refine hc_region ?_
    refine r_lss rfl rfl rfl ?_
    refine hl_nil ?_
    refine then_n ?_
    refine hc_seq ?_
    first | refine c_dec rfl (fun hb4 => ?_) (fun hb4 => ?_) | refine hc_cond rfl (fun hb4 => ?_) (fun hb4 => ?_)
    ·have hb4' := hb4; try simp at hb4'
     have hk2 : k < hs.length := by omega
     refine hc_skip ?_
     refine then_n ?_
     refine hc_seq ?_
     refine hc_block ?_
     refine hc_seq ?_
     refine hc_region ?_
     refine r_move rfl rfl ?_
     refine r_assign rfl rfl ?_
     refine hl_nil ?_
     refine then_n ?_
     refine hc_seq ?_
     refine hc_region ?_
     first | refine r_loadA rfl T.row_api_Trades T.sz_api_Trades rfl (by repeat constructor) (by rfl) ?_ | refine r_loadB rfl T.row_api_Trades T.sz_api_Trades rfl (by repeat constructor) (by rfl) ?_ | refine r_loadS rfl T.row_api_Trades T.sz_api_Trades rfl rfl (cells_row (by repeat constructor) (rows_all (by omega))) ?_
     refine r_move rfl rfl ?_
     refine hl_call F.trade_checkHead_cb rfl rfl (trade_checkHead_meets cs hs k h6h h6 hcb hk2 ha) (List.Perm.refl _) ⟨(by repeat constructor), (by repeat constructor), trivial⟩ fun _ _ => ?_
     refine r_assign rfl rfl ?_
     refine hl_nil ?_
     refine then_n ?_
     refine hc_seq ?_
     refine hc_region ?_
     refine r_move rfl rfl ?_
     refine r_neq rfl rfl rfl ?_
     refine hl_nil ?_
     refine then_n ?_
     first | refine c_dec rfl (fun hb5 => ?_) (fun hb5 => ?_) | refine hc_cond rfl (fun hb5 => ?_) (fun hb5 => ?_)
     ·have hb5' := hb5; try simp at hb5'
      refine hc_seq ?_
      refine hc_region ?_
      refine r_move rfl rfl ?_
      refine r_assign rfl rfl ?_
      refine hl_nil ?_
      refine then_n ?_
      refine hc_ret ?_
      refine inb_ret ?_
      refine then_ret ?_
      refine then_ret ?_
      refine inb_ret ?_
      refine then_ret ?_
      exact ret1 () rfl (congrArg (fun b => some (int b)) (by rw [hT, firstE_stop ht hb5 _ hk2])) rfl trivial (List.nil_sublist _) trivial
     ·have hb5' := hb5; try simp at hb5'
      refine hc_skip ?_
      refine inb_n ?_
      refine then_n ?_
      refine hc_region ?_
      refine r_add _ rfl rfl rfl rfl (by unfold I64; omega) ?_
      refine r_move rfl rfl ?_
      refine hl_nil ?_
      exact again _ (k + 1) ⟨by omega, by rw [firstE_succ ht]; exact Classical.not_not.1 hb5⟩ (by show hs.length - (k + 1) < hs.length - k; omega) ⟨rfl, rfl, rfl, trivial⟩ (List.Sublist.refl _) ⟨(by repeat constructor), (by repeat constructor), trivial⟩
    ·have hb4' := hb4; try simp at hb4'
     have hk2 : k = hs.length := by omega
     subst hk2
     refine hc_exit ?_
     refine then_exit ?_
     refine then_exit ?_
     refine inb_hit ?_
     refine then_n ?_
     refine hc_seq ?_
     refine hc_region ?_
     refine r_assign rfl rfl ?_
     refine hl_nil ?_
     refine then_n ?_
     refine hc_ret ?_
     exact ret1 () rfl (congrArg (fun b => some (int b)) (by rw [hT, ht])) rfl trivial (List.nil_sublist _) trivial
 ·intro hg1; have hg1' := hg1; try simp at hg1'
  refine g_no rfl rfl rfl rfl rfl hg1 ?_
  refine g_no rfl rfl rfl rfl rfl hg1 ?_
  refine g_no rfl rfl rfl rfl rfl hg1 ?_
  refine g_no rfl rfl rfl rfl rfl hg1 ?_
  refine p_t rfl rfl (bt2 hg1) rfl ?_
  refine hl_nil ?_
  refine then_n ?_
  refine c_t rfl rfl ?_
  refine hc_seq ?_
  refine hc_region ?_
  refine r_assign rfl rfl ?_
  refine hl_nil ?_
  refine then_n ?_
  refine hc_ret ?_
  refine then_ret ?_
  exact ret1 () rfl (congrArg (fun b => some (int b)) (by rw [checkT, if_pos (by simp at hg1; simp only; omega)])) rfl trivial (List.nil_sublist _) trivial

end Go.Proofs.Ytlpgheniajdkfaa
