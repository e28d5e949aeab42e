/- Texts of this claim, one behind another. -/

import Derived.Test.YtdlbbfcfahahdaaUAf
set_option linter.unusedVariables false
set_option linter.unusedSimpArgs false
section
namespace Go.Proofs.Ytdlbbfcfahahdaa
open Go Go.W
set_option maxRecDepth 20000
attribute [local irreducible] HL HC HQ HB Row Rows2 Blk Facts
theorem ps_take {hs : List Hd} {n : Nat} : ((hs.map Hd.p).take n).map (·.1) = (hs.take n).map (·.1) := by rw [← List.map_take, List.map_map]; rfl
theorem headErr_of (cs : List Cl) (hs : List Hd) {i : Nat} (hi : i < hs.length) : headErr (trOf cs hs) i =
  if wordB (hs.getD i default).1 = false then 2
  else if (hs.getD i default).1 ∈ (hs.take i).map (·.1) then 4
  else if 0 < i ∧ (hs.getD i default).1 < (hs.getD (i - 1) default).1 then 5
  else if (hs.getD i default).2.1 < -1 ∨ (cs.length : Int) ≤ (hs.getD i default).2.1 ∨ (hs.getD i default).2.2.1 < -1 ∨ (hs.length : Int) ≤ (hs.getD i default).2.2.1 then 3
  else if (hs.getD i default).2.2.1 = (i : Int) then 9
  else if ¬ firstE (alsoErr hs.length i (hs.getD i default).2.2.2.l) (hs.getD i default).2.2.2.l.length = 0 then firstE (alsoErr hs.length i (hs.getD i default).2.2.2.l) (hs.getD i default).2.2.2.l.length
  else if kindBad (hs.getD i default).p = true then 8 else 0 := by
  unfold headErr
  simp only [trOf, hd_get hi, hd_get (show i - 1 < hs.length by omega), ps_take, List.length_map]
  rfl
theorem nbw {a b c : Int} (h : (!decide (a ≤ b ∧ b ≤ c)) = true) : ¬ (a ≤ b ∧ b ≤ c) := fun e => by rw [decide_eq_true e] at h; cases h
theorem bw {a b c : Int} (h : (!decide (a ≤ b ∧ b ≤ c)) = false) : a ≤ b ∧ b ≤ c := Classical.byContradiction fun e => by rw [decide_eq_false e] at h; cases h
set_option maxHeartbeats 2000000 in
theorem trade_checkHead_meets {A B : Option Addr} {ca cb : Nat} (cs : List Cl) (hs : List Hd) (i : Nat) (h6 : hs.length ≤ 6) (hc6 : cs.length ≤ 6) (hc : hs.length ≤ cb) (hi : i < hs.length) (ha : ∀ h ∈ hs, h.2.2.2.l.length ≤ 1000000) : Meets Try.prog F.trade_checkHead [.agg #[.slice A cs.length ca, .slice B hs.length cb], int i] { LI := [Row A (rows cs), RowsF B hs Hd.row], val := fun _ : Unit => int (headErr (trOf cs hs) i) } := by
 refine meets_intro F.trade_checkHead_f rfl (Nat.le_of_ble_eq_true rfl) fun w0 => ?_
 refine hc_seq (hc_region ?_)
 refine r_box rfl rfl fun gB => ?_
 refine r_assign rfl rfl (hl_nil (then_n (hc_seq (hc_outerF m1 ?_))))
 refine hc_innerF m2 (getD_mem hi) ?_
 have hal := ha _ (getD_mem hi)
 refine hc_drawW ([]) (_) (.refl _) 9 [7] mixed (by decide) (by decide) (by decide) rfl rfl rfl ?_
 refine hb_ex _ rfl rfl rfl (fun w1 => r_fieldAddr ⟨_, 1, none⟩ rfl rfl T.fa_api_Trades_1 rfl (hl_nil (qe_done rfl))) ?_
 refine hb_ex _ rfl rfl rfl (fun w1 => r_load rfl T.cell_L_api_Head rfl (cell_blk mB rfl) (hl_nil (qe_done rfl))) ?_
 refine hb_ex _ rfl rfl rfl (fun w1 => r_fieldAddr ⟨_, 1, none⟩ rfl rfl T.fa_api_Trades_1 rfl (hl_nil (qe_done rfl))) ?_
 refine hb_ex _ rfl rfl rfl (fun w1 => r_load rfl T.cell_L_api_Head rfl (cell_blk mB rfl) (hl_nil (qe_done rfl))) ?_
 refine hb_ex _ rfl rfl rfl (fun w1 => r_move rfl rfl (hl_nil (qe_done rfl))) ?_
 refine hb_ex _ rfl rfl rfl (fun w1 => r_elem (α := Hd) _ _ rfl T.u_L_api_Head T.sz_api_Head rfl rfl rfl mB rfl (by omega) (by decide) (hl_nil (qe_done rfl))) ?_
 refine hb_ex _ rfl rfl rfl (fun w1 => r_loadS rfl T.row_api_Head T.sz_api_Head rfl rfl (cells_row mB (rows_all (by omega))) (hl_nil (qe_done rfl))) ?_
 refine hb_wr ⟨Nat, fun _ => True, fun g => .pointer (some ⟨g, 0, none⟩), fun _ => [], fun g => [(g, Obj.cells #[str [], int 0, int 0, .slice none 0 0] T.api_Head (0, 0))]⟩ rfl rfl rfl ?_ ?_
 ·intro w1
  refine r_alloc rfl (fun _ => T.al_api_Head _) fun gA => ?_
  refine hl_nil ?_
  exact qw_done gA trivial (fun _ => rfl) (.refl _) trivial
 refine hb_ex _ rfl rfl rfl (fun w1 => r_assign rfl rfl (hl_nil (qe_done rfl))) ?_
 refine hb_nil ⟨rfl, ?_⟩
 intro x7 hx7
 refine r_storeS rfl rfl (by first | exact .refl _ | exact perm2 _ _ _ | exact perm3 _ _ _ _ | exact perm4 _ _ _ _ _) T.sz_api_Head (by rfl) (by rfl) ?_
 refine hl_nil (then_n (hc_seq (hc_block (hc_seq ?_))))
 refine hc_letgo (rows [hs.getD i default]) ⟨[], List.append_nil _⟩ ?_
 refine hc_region ?_
 refine r_fieldAddr ⟨_, 0, none⟩ rfl rfl T.fa_api_Head_0 rfl ?_
 refine r_load rfl T.cell_string rfl (cell_rowg mB rfl) ?_
 refine hl_call F.trade_word_cb rfl rfl (trade_word_meets (hs.getD i default).1) (List.Perm.refl _) trivial fun _ _ => ?_
 refine r_not rfl rfl (r_assign rfl rfl (hl_nil (then_n ?_)))
 refine hc_cond rfl (fun hb1 => ?_) (fun hb1 => ?_)
 ·have hb1' := hb1; try simp at hb1'
  have h1 : wordB (hs.getD i default).1 = false := by simpa using hb1
  refine hc_seq (hc_region (r_assign rfl rfl (hl_nil (then_n (hc_ret (inb_ret (then_ret ?_)))))))
  exact ret1 () rfl (congrArg (fun b => some (int b)) (by rw [headErr_of cs hs hi, if_pos h1])) rfl trivial (List.nil_sublist _) trivial
 ·have hb1' := hb1; try simp at hb1'
  have h1 : ¬ wordB (hs.getD i default).1 = false := by simpa using hb1
  refine hc_seq (hc_region (r_move rfl rfl (r_move rfl rfl ?_)))
  refine r_slice_hi (hs.take i).length rfl T.u_L_api_Head T.sz_api_Head rfl rfl (by simp; omega) (by simp; omega) ?_
  refine hl_takerow (ps := hs) i mB ?_
  refine r_makeFunc rfl rfl rfl ?_
  refine hl_call F.slices_ContainsFuncx_cb rfl rfl (slices_ContainsFuncx_meets (hs.take i) (hs.getD i default) (by simp; omega)) (List.Perm.refl _) ⟨mB, mB, trivial⟩ fun _ _ => ?_
  refine r_assign rfl rfl (hl_nil (then_n ?_))
  refine c_dec rfl (fun hb2 => ?_) (fun hb2 => ?_)
  ·have hb2' := hb2; try simp at hb2'
   refine hc_seq (hc_region (r_assign rfl rfl (hl_nil (then_n (hc_ret (inb_ret (then_ret ?_)))))))
   exact ret1 () rfl (congrArg (fun b => some (int b)) (by rw [headErr_of cs hs hi, if_neg h1, if_pos hb2])) rfl trivial (List.nil_sublist _) trivial
  ·have hb2' := hb2; try simp at hb2'
   refine hc_cut ⟨fun _ : Unit => True, fun _ => [(1, int i), (2, .pointer (some ⟨gB, 0, none⟩)), (5, .slice B hs.length cb), (6, .pointer (some ⟨x7, 0, none⟩)), (27, .bool (decide (0 < i ∧ (hs.getD i default).1 < (hs.getD (i - 1) default).1)))], fun _ => [(gB, .cells #[.slice A cs.length ca, .slice B hs.length cb] T.api_Trades (0, 0))], fun _ => [Row (some ⟨x7, 0, none⟩) (rows [hs.getD i default]), Row B (rows hs), Row (hs.getD i default).2.2.2.a (rows (hs.getD i default).2.2.2.l)]⟩ ?_ ?_
   ·skip
    refine hc_draw 11 mixed (by decide) (by decide) rfl rfl ?_
    refine hb_ex _ rfl rfl rfl (fun w1 => r_move rfl rfl (hl_nil (qe_done rfl))) ?_
    refine hb_ex _ rfl rfl rfl (fun w1 => r_gtr rfl rfl rfl (hl_nil (qe_done rfl))) ?_
    refine hb_ex _ rfl rfl rfl (fun w1 => r_move rfl rfl (hl_nil (qe_done rfl))) ?_
    refine hb_split (t := 30) (want := true) rfl ?_ ?_
    ·intro hg1; have hg1' := hg1; try simp at hg1'
     apply hb_ex _ rfl rfl rfl
     ·intro w1
      refine g_yes rfl rfl hg1 ?_
      refine r_fieldAddr ⟨_, 0, none⟩ rfl rfl T.fa_api_Head_0 rfl ?_
      refine hl_nil ?_
      exact qe_done rfl
     apply hb_ex _ rfl rfl rfl
     ·intro w1
      refine g_yes rfl rfl hg1 ?_
      refine r_load rfl T.cell_string rfl (cell_rowg mB rfl) ?_
      refine hl_nil ?_
      exact qe_done rfl
     apply hb_ex _ rfl rfl rfl
     ·intro w1
      refine g_yes rfl rfl hg1 (r_move rfl rfl (hl_nil ?_))
      exact qe_done rfl
     apply hb_ex _ rfl rfl rfl
     ·intro w1
      refine g_yes rfl rfl hg1 (r_move rfl rfl (hl_nil ?_))
      exact qe_done rfl
     apply hb_ex _ rfl rfl rfl
     ·intro w1
      refine g_yes rfl rfl hg1 ?_
      refine r_sub ((i - 1 : Nat) : Int) rfl rfl rfl (by omega) (by unfold I64; omega) ?_
      refine hl_nil ?_
      exact qe_done rfl
     apply hb_ex _ rfl rfl rfl
     ·intro w1
      refine g_yes rfl rfl hg1 ?_
      refine r_elem (α := Hd) hs (i - 1) rfl T.u_L_api_Head T.sz_api_Head rfl rfl rfl mB rfl (by omega) (by decide) ?_
      refine hl_nil ?_
      exact qe_done rfl
     apply hb_ex _ rfl rfl rfl
     ·intro w1
      refine g_yes rfl rfl hg1 (r_fieldAddr _ rfl rfl T.fa_api_Head_0 rfl (hl_nil ?_))
      exact qe_done rfl
     apply hb_ex _ rfl rfl rfl
     ·intro w1
      refine g_yes rfl rfl hg1 ?_
      refine r_load rfl T.cell_string rfl (cell_row (cs := rows hs) mB (rows_get0 (by omega) rfl)) ?_
      refine hl_nil ?_
      exact qe_done rfl
     refine hb_nil ⟨rfl, ?_⟩
     refine g_yes rfl rfl hg1 (r_slss rfl rfl rfl ?_)
     refine p_t rfl rfl (bt1 hg1) rfl ?_
     refine r_assign rfl rfl (hl_nil ?_)
     exact cut_n _ () trivial ⟨rfl, rfl, rfl, rfl, congrArg (fun b => some (Value.bool b)) (by rw [str_lt_dec]; exact decide_eq_decide.2 ⟨fun e => ⟨by omega, e⟩, fun e => e.2⟩), trivial⟩ (List.Sublist.refl _) ⟨mB, mB, mB, trivial⟩
    ·intro hg1; have hg1' := hg1; try simp at hg1'
     refine hb_ex _ rfl rfl rfl (fun w1 => g_no rfl rfl rfl rfl rfl hg1 (hl_nil (qe_done rfl))) ?_
     refine hb_ex _ rfl rfl rfl (fun w1 => g_no rfl rfl rfl rfl rfl hg1 (hl_nil (qe_done rfl))) ?_
     refine hb_ex _ rfl rfl rfl (fun w1 => g_no rfl rfl rfl rfl rfl hg1 (hl_nil (qe_done rfl))) ?_
     refine hb_ex _ rfl rfl rfl (fun w1 => g_no rfl rfl rfl rfl rfl hg1 (hl_nil (qe_done rfl))) ?_
     refine hb_ex _ rfl rfl rfl (fun w1 => g_no rfl rfl rfl rfl rfl hg1 (hl_nil (qe_done rfl))) ?_
     refine hb_ex _ rfl rfl rfl (fun w1 => g_no rfl rfl rfl rfl rfl hg1 (hl_nil (qe_done rfl))) ?_
     refine hb_ex _ rfl rfl rfl (fun w1 => g_no rfl rfl rfl rfl rfl hg1 (hl_nil (qe_done rfl))) ?_
     refine hb_ex _ rfl rfl rfl (fun w1 => g_no rfl rfl rfl rfl rfl hg1 (hl_nil (qe_done rfl))) ?_
     refine hb_nil ⟨rfl, ?_⟩
     refine g_no rfl rfl rfl rfl rfl hg1 ?_
     refine p_f rfl rfl (bf2 hg1) rfl ?_
     refine r_assign rfl rfl (hl_nil ?_)
     exact cut_n _ () trivial ⟨rfl, rfl, rfl, rfl, congrArg (fun b => some (Value.bool b)) (by exact (decide_eq_false (by simp at hg1; omega)).symm), trivial⟩ (List.Sublist.refl _) ⟨mB, mB, mB, trivial⟩
   ·refine fun _ _ => ?_
    refine c_dec rfl (fun hb3 => ?_) (fun hb3 => ?_)
    ·have hb3' := hb3; try simp at hb3'
     refine hc_seq (hc_region (r_assign rfl rfl (hl_nil (then_n (hc_ret (inb_ret (then_ret ?_)))))))
     exact ret1 () rfl (congrArg (fun b => some (int b)) (by rw [headErr_of cs hs hi, if_neg h1, if_neg hb2, if_pos hb3])) rfl trivial (List.nil_sublist _) trivial
    ·have hb3' := hb3; try simp at hb3'
     refine hc_cut ⟨fun _ : Unit => True, fun _ => [(1, int i), (2, .pointer (some ⟨gB, 0, none⟩)), (5, .slice B hs.length cb), (6, .pointer (some ⟨x7, 0, none⟩)), (41, .bool (decide (¬ ((-1 ≤ (hs.getD i default).2.1 ∧ (hs.getD i default).2.1 ≤ (cs.length : Int) - 1) ∧ (-1 ≤ (hs.getD i default).2.2.1 ∧ (hs.getD i default).2.2.1 ≤ (hs.length : Int) - 1)))))], fun _ => [(gB, .cells #[.slice A cs.length ca, .slice B hs.length cb] T.api_Trades (0, 0))], fun _ => [Row (some ⟨x7, 0, none⟩) (rows [hs.getD i default]), Row B (rows hs), Row (hs.getD i default).2.2.2.a (rows (hs.getD i default).2.2.2.l)]⟩ ?_ ?_
     ·skip
      refine hc_seq (hc_region ?_)
      refine r_fieldAddr ⟨_, 1, none⟩ rfl rfl T.fa_api_Head_1 rfl ?_
      refine r_load rfl T.cell_int rfl (cell_rowg mB rfl) ?_
      refine r_fieldAddr ⟨_, 0, none⟩ rfl rfl T.fa_api_Trades_0 rfl ?_
      refine r_load rfl T.cell_L_api_Class rfl (cell_own mB rfl) ?_
      refine r_len_sl rfl T.u_L_api_Class rfl ?_
      refine r_sub _ rfl rfl rfl rfl (by unfold I64; omega) ?_
      refine hl_call F.trade_between_cb rfl rfl (trade_between_meets _ _ _) (List.Perm.refl _) trivial fun _ _ => ?_
      refine r_not rfl rfl (r_assign rfl rfl (hl_nil (then_n ?_)))
      refine hc_cond rfl (fun hb4 => ?_) (fun hb4 => ?_)
      ·have hb4' := hb4; try simp at hb4'
       refine hc_skip ?_
       exact cut_n _ () trivial ⟨rfl, rfl, rfl, rfl, congrArg (fun b => some (Value.bool b)) (by rw [hb4]; symm; rw [decide_eq_true_eq]; exact fun e => nbw hb4 e.1), trivial⟩ (List.Sublist.refl _) ⟨mB, mB, mB, trivial⟩
      ·have hb4' := hb4; try simp at hb4'
       refine hc_region ?_
       refine r_fieldAddr ⟨_, 2, none⟩ rfl rfl T.fa_api_Head_2 rfl ?_
       refine r_load rfl T.cell_int rfl (cell_rowg mB rfl) ?_
       refine r_move rfl rfl ?_
       refine r_len_sl rfl T.u_L_api_Head rfl ?_
       refine r_sub _ rfl rfl rfl rfl (by unfold I64; omega) ?_
       refine hl_call F.trade_between_cb rfl rfl (trade_between_meets _ _ _) (List.Perm.refl _) trivial fun _ _ => ?_
       refine r_not rfl rfl (r_assign rfl rfl (hl_nil ?_))
       exact cut_n _ () trivial ⟨rfl, rfl, rfl, rfl, congrArg (fun b => some (Value.bool b)) (by have := bw hb4; rw [Bool.eq_iff_iff]; simp only [Bool.not_eq_true', decide_eq_false_iff_not, decide_eq_true_eq]; exact ⟨fun e f => e f.2, fun e f => e ⟨this, f⟩⟩), trivial⟩ (List.Sublist.refl _) ⟨mB, mB, mB, trivial⟩
     ·refine fun _ _ => ?_
      refine c_dec rfl (fun hb5 => ?_) (fun hb5 => ?_)
      ·have hb5' := hb5; try simp at hb5'
       refine hc_seq (hc_region (r_assign rfl rfl (hl_nil (then_n (hc_ret (inb_ret (then_ret ?_)))))))
       exact ret1 () rfl (congrArg (fun b => some (int b)) (by rw [headErr_of cs hs hi, if_neg h1, if_neg hb2, if_neg hb3, if_pos (by omega)])) rfl trivial (List.nil_sublist _) trivial
      ·have hb5' := hb5; try simp at hb5'
       refine hc_seq (hc_region ?_)
       refine r_fieldAddr ⟨_, 2, none⟩ rfl rfl T.fa_api_Head_2 rfl ?_
       refine r_load rfl T.cell_int rfl (cell_rowg mB rfl) ?_
       refine r_move rfl rfl (r_eql rfl rfl rfl (r_assign rfl rfl (hl_nil (then_n ?_))))
       refine c_dec rfl (fun hb6 => ?_) (fun hb6 => ?_)
       ·have hb6' := hb6; try simp at hb6'
        refine hc_seq (hc_region (r_assign rfl rfl (hl_nil (then_n (hc_ret (inb_ret (then_ret ?_)))))))
        exact ret1 () rfl (congrArg (fun b => some (int b)) (by rw [headErr_of cs hs hi, if_neg h1, if_neg hb2, if_neg hb3, if_neg (by omega), if_pos hb6])) rfl trivial (List.nil_sublist _) trivial
       ·have hb6' := hb6; try simp at hb6'
        have hH : headErr (trOf cs hs) i = if ¬ firstE (alsoErr hs.length i (hs.getD i default).2.2.2.l) (hs.getD i default).2.2.2.l.length = 0 then firstE (alsoErr hs.length i (hs.getD i default).2.2.2.l) (hs.getD i default).2.2.2.l.length else if kindBad (hs.getD i default).p = true then 8 else 0 := by rw [headErr_of cs hs hi, if_neg h1, if_neg hb2, if_neg hb3, if_neg (by omega), if_neg hb6]
        refine hc_skip (inb_n (then_n (hc_seq (hc_seq (hc_region ?_)))))
        refine r_fieldAddr ⟨_, 3, none⟩ rfl rfl T.fa_api_Head_3 rfl ?_
        refine r_load rfl T.cell_ints rfl (cell_rowg mB rfl) ?_
        refine r_len_sl rfl T.u_ints rfl ?_
        refine r_move rfl rfl (hl_nil (then_n (hc_block ?_)))
        refine hc_loop (β := Nat) ⟨fun k => k ≤ (hs.getD i default).2.2.2.l.length ∧ firstE (alsoErr hs.length i (hs.getD i default).2.2.2.l) k = 0, fun k => [(1, int i), (2, .pointer (some ⟨gB, 0, none⟩)), (5, .slice B hs.length cb), (6, .pointer (some ⟨x7, 0, none⟩)), (63, .slice (hs.getD i default).2.2.2.a (hs.getD i default).2.2.2.l.length (hs.getD i default).2.2.2.c), (64, int (hs.getD i default).2.2.2.l.length), (65, int k)], fun _ => [(gB, .cells #[.slice A cs.length ca, .slice B hs.length cb] T.api_Trades (0, 0))], fun _ => [Row (some ⟨x7, 0, none⟩) (rows [hs.getD i default]), Row B (rows hs), Row (hs.getD i default).2.2.2.a (rows (hs.getD i default).2.2.2.l)]⟩ (fun k => (hs.getD i default).2.2.2.l.length - k) 0 ⟨Nat.zero_le _, rfl⟩ ⟨rfl, rfl, rfl, rfl, rfl, rfl, rfl, trivial⟩ (List.Sublist.refl _) ⟨mB, mB, mB, trivial⟩ fun k hk => ?_
        obtain ⟨hk, ht⟩ := hk
        refine hc_seq (hc_region (r_lss rfl rfl rfl (hl_nil (then_n (hc_seq ?_)))))
        refine c_dec rfl (fun hb7 => ?_) (fun hb7 => ?_)
        ·have hb7' := hb7; try simp at hb7'
         have hk2 : k < (hs.getD i default).2.2.2.l.length := by omega
         refine hc_skip (then_n (hc_seq (hc_block (hc_seq (hc_region (r_move rfl rfl ?_))))))
         refine r_elem (α := Int) _ _ rfl T.u_ints T.sz_int rfl rfl rfl mB rfl (by omega) (by decide) ?_
         refine r_load rfl T.cell_int rfl (cell_row mB (rows_get0 (by omega) rfl)) ?_
         refine r_assign rfl rfl (r_assign rfl rfl (hl_nil (then_n (hc_block (hc_seq (hc_region (r_move rfl rfl (r_move rfl rfl ?_))))))))
         refine r_len_sl rfl T.u_L_api_Head rfl ?_
         refine r_sub _ rfl rfl rfl rfl (by unfold I64; omega) ?_
         refine hl_call F.trade_between_cb rfl rfl (trade_between_meets _ _ _) (List.Perm.refl _) trivial fun _ _ => ?_
         refine r_not rfl rfl (r_assign rfl rfl (hl_nil (then_n ?_)))
         refine hc_cond rfl (fun hb8 => ?_) (fun hb8 => ?_)
         ·have hb8' := hb8; try simp at hb8'
          refine hc_seq (hc_region (r_assign rfl rfl (hl_nil (then_n (hc_ret (inb_ret (inb_ret (then_ret (then_ret (inb_ret (then_ret ?_)))))))))))
          exact ret1 () rfl (congrArg (fun b => some (int b)) (by have he : alsoErr hs.length i (hs.getD i default).2.2.2.l k = 3 := (by unfold alsoErr; rw [if_pos (by have := nbw hb8; omega)]); rw [hH, firstE_stop ht (by rw [he]; omega) _ hk2, if_pos (by rw [he]; omega), he])) rfl trivial (List.nil_sublist _) trivial
         ·have hb8' := hb8; try simp at hb8'
          refine hc_seq (hc_region (r_move rfl rfl (r_move rfl rfl (r_eql rfl rfl rfl (r_assign rfl rfl (hl_nil (then_n ?_)))))))
          refine c_dec rfl (fun hb9 => ?_) (fun hb9 => ?_)
          ·have hb9' := hb9; try simp at hb9'
           refine hc_seq (hc_region (r_assign rfl rfl (hl_nil (then_n (hc_ret (inb_ret (inb_ret (then_ret (then_ret (inb_ret (then_ret ?_)))))))))))
           exact ret1 () rfl (congrArg (fun b => some (int b)) (by have he : alsoErr hs.length i (hs.getD i default).2.2.2.l k = 9 := (by unfold alsoErr; rw [if_neg (by have := bw hb8; omega), if_pos hb9]); rw [hH, firstE_stop ht (by rw [he]; omega) _ hk2, if_pos (by rw [he]; omega), he])) rfl trivial (List.nil_sublist _) trivial
          ·have hb9' := hb9; try simp at hb9'
           refine hc_cut ⟨fun _ : Unit => True, fun _ => [(1, int i), (2, .pointer (some ⟨gB, 0, none⟩)), (5, .slice B hs.length cb), (6, .pointer (some ⟨x7, 0, none⟩)), (63, .slice (hs.getD i default).2.2.2.a (hs.getD i default).2.2.2.l.length (hs.getD i default).2.2.2.c), (64, int (hs.getD i default).2.2.2.l.length), (65, int k), (81, .bool (decide (0 < k ∧ (hs.getD i default).2.2.2.l.getD k default ≤ (hs.getD i default).2.2.2.l.getD (k - 1) default)))], fun _ => [(gB, .cells #[.slice A cs.length ca, .slice B hs.length cb] T.api_Trades (0, 0))], fun _ => [Row (some ⟨x7, 0, none⟩) (rows [hs.getD i default]), Row B (rows hs), Row (hs.getD i default).2.2.2.a (rows (hs.getD i default).2.2.2.l)]⟩ ?_ ?_
           ·skip
            refine hc_region (r_move rfl rfl (r_gtr rfl rfl rfl (r_move rfl rfl ?_)))
            refine g_split rfl rfl ?_ ?_
            ·intro hg2; have hg2' := hg2; try simp at hg2'
             refine g_yes rfl rfl hg2 (r_move rfl rfl (g_yes rfl rfl hg2 ?_))
             refine r_fieldAddr ⟨_, 3, none⟩ rfl rfl T.fa_api_Head_3 rfl ?_
             refine g_yes rfl rfl hg2 ?_
             refine r_load rfl T.cell_ints rfl (cell_rowg mB rfl) ?_
             refine g_yes rfl rfl hg2 (r_move rfl rfl (g_yes rfl rfl hg2 ?_))
             refine r_sub ((k - 1 : Nat) : Int) rfl rfl rfl (by omega) (by unfold I64; omega) ?_
             refine g_yes rfl rfl hg2 ?_
             refine r_elem (α := Int) _ _ rfl T.u_ints T.sz_int rfl rfl rfl mB rfl (by omega) (by decide) ?_
             refine g_yes rfl rfl hg2 ?_
             refine r_load rfl T.cell_int rfl (cell_row mB (rows_get0 (by omega) rfl)) ?_
             refine g_yes rfl rfl hg2 (r_leq rfl rfl rfl ?_)
             refine p_t rfl rfl (bt1 hg2) rfl ?_
             refine r_assign rfl rfl (hl_nil ?_)
             exact cut_n _ () trivial ⟨rfl, rfl, rfl, rfl, rfl, rfl, rfl, congrArg (fun b => some (Value.bool b)) (by exact decide_eq_decide.2 ⟨fun e => ⟨by omega, e⟩, fun e => e.2⟩), trivial⟩ (List.Sublist.refl _) ⟨mB, mB, mB, trivial⟩
            ·intro hg2; have hg2' := hg2; try simp at hg2'
             refine g_no rfl rfl rfl rfl rfl hg2 (g_no rfl rfl rfl rfl rfl hg2 (g_no rfl rfl rfl rfl rfl hg2 (g_no rfl rfl rfl rfl rfl hg2 (g_no rfl rfl rfl rfl rfl hg2 (g_no rfl rfl rfl rfl rfl hg2 (g_no rfl rfl rfl rfl rfl hg2 (g_no rfl rfl rfl rfl rfl hg2 ?_)))))))
             refine p_f rfl rfl (bf2 hg2) rfl ?_
             refine r_assign rfl rfl (hl_nil ?_)
             exact cut_n _ () trivial ⟨rfl, rfl, rfl, rfl, rfl, rfl, rfl, congrArg (fun b => some (Value.bool b)) (by exact (decide_eq_false (by simp at hg2; omega)).symm), trivial⟩ (List.Sublist.refl _) ⟨mB, mB, mB, trivial⟩
           ·refine fun _ _ => ?_
            refine c_dec rfl (fun hb10 => ?_) (fun hb10 => ?_)
            ·have hb10' := hb10; try simp at hb10'
             refine hc_seq (hc_region (r_assign rfl rfl (hl_nil (then_n (hc_ret (inb_ret (inb_ret (then_ret (then_ret (inb_ret (then_ret ?_)))))))))))
             exact ret1 () rfl (congrArg (fun b => some (int b)) (by have he : alsoErr hs.length i (hs.getD i default).2.2.2.l k = 5 := (by unfold alsoErr; rw [if_neg (by have := bw hb8; omega), if_neg hb9, if_pos hb10]); rw [hH, firstE_stop ht (by rw [he]; omega) _ hk2, if_pos (by rw [he]; omega), he])) rfl trivial (List.nil_sublist _) trivial
            ·have hb10' := hb10; try simp at hb10'
             refine hc_skip (inb_n (inb_n (then_n (hc_region ?_))))
             refine r_add _ rfl rfl rfl rfl (by unfold I64; omega) ?_
             refine r_move rfl rfl (hl_nil ?_)
             exact again _ (k + 1) ⟨by omega, by rw [firstE_succ ht]; unfold alsoErr; rw [if_neg (by have := bw hb8; omega), if_neg hb9, if_neg hb10]⟩ (by show (hs.getD i default).2.2.2.l.length - (k + 1) < (hs.getD i default).2.2.2.l.length - k; omega) ⟨rfl, rfl, rfl, rfl, rfl, rfl, rfl, trivial⟩ (List.Sublist.refl _) ⟨mB, mB, mB, trivial⟩
        ·have hb7' := hb7; try simp at hb7'
         have hk2 : k = (hs.getD i default).2.2.2.l.length := by omega
         subst hk2
         rw [if_neg (not_not_intro ht)] at hH
         refine hc_exit (then_exit (then_exit (inb_hit (then_n (hc_seq ?_)))))
         refine hc_cut ⟨fun _ : Unit => True, fun _ => [(1, int i), (2, .pointer (some ⟨gB, 0, none⟩)), (5, .slice B hs.length cb), (6, .pointer (some ⟨x7, 0, none⟩)), (124, .bool (kindBad (hs.getD i default).p))], fun _ => [(gB, .cells #[.slice A cs.length ca, .slice B hs.length cb] T.api_Trades (0, 0))], fun _ => [Row (some ⟨x7, 0, none⟩) (rows [hs.getD i default]), Row B (rows hs), Row (hs.getD i default).2.2.2.a (rows (hs.getD i default).2.2.2.l)]⟩ ?_ ?_
         ·skip
          clear hH ht hk hb1 hb1' h1 hb2 hb2' hb3 hb3' hb5 hb5' hb6 hb6' hb7 hb7' ha h6 hc6 hc hi hal
          refine hc_region ?_
          refine r_fieldAddr ⟨_, 2, none⟩ rfl rfl T.fa_api_Head_2 rfl ?_
          refine r_load rfl T.cell_int rfl (cell_rowg mB rfl) ?_
          refine r_neq rfl rfl rfl (r_move rfl rfl ?_)
          refine g_split rfl rfl ?_ ?_
          ·intro hg3; have hg3' := hg3; try simp at hg3'
           refine g_yes rfl rfl hg3 ?_
           refine r_fieldAddr ⟨_, 1, none⟩ rfl rfl T.fa_api_Head_1 rfl ?_
           refine g_yes rfl rfl hg3 ?_
           refine r_load rfl T.cell_int rfl (cell_rowg mB rfl) ?_
           refine g_yes rfl rfl hg3 (r_neq rfl rfl rfl (g_yes rfl rfl hg3 (r_move rfl rfl ?_)))
           refine g_split rfl rfl ?_ ?_
           ·intro hg4; have hg4' := hg4; try simp at hg4'
            refine g_yes rfl rfl hg4 ?_
            refine r_fieldAddr ⟨_, 3, none⟩ rfl rfl T.fa_api_Head_3 rfl ?_
            refine g_yes rfl rfl hg4 ?_
            refine r_load rfl T.cell_ints rfl (cell_rowg mB rfl) ?_
            refine g_yes rfl rfl hg4 ?_
            refine r_len_sl rfl T.u_ints rfl ?_
            refine g_yes rfl rfl hg4 (r_gtr rfl rfl rfl (g_yes rfl rfl hg3 ?_))
            refine p_f rfl rfl (bf1 hg4) rfl ?_
            refine p_t rfl rfl (bt1 hg3) rfl ?_
            refine r_move rfl rfl ?_
            refine g_split rfl rfl ?_ ?_
            ·intro hg5; have hg5' := hg5; try simp at hg5'
             refine g_yes rfl rfl hg5 ?_
             refine r_fieldAddr ⟨_, 2, none⟩ rfl rfl T.fa_api_Head_2 rfl ?_
             refine g_yes rfl rfl hg5 ?_
             refine r_load rfl T.cell_int rfl (cell_rowg mB rfl) ?_
             refine g_yes rfl rfl hg5 (r_eql rfl rfl rfl (g_yes rfl rfl hg5 (r_move rfl rfl ?_)))
             refine g_split rfl rfl ?_ ?_
             ·intro hg6; have hg6' := hg6; try simp at hg6'
              refine g_yes rfl rfl hg6 ?_
              refine r_fieldAddr ⟨_, 1, none⟩ rfl rfl T.fa_api_Head_1 rfl ?_
              refine g_yes rfl rfl hg6 ?_
              refine r_load rfl T.cell_int rfl (cell_rowg mB rfl) ?_
              refine g_yes rfl rfl hg6 (r_eql rfl rfl rfl (g_yes rfl rfl hg5 ?_))
              refine p_t rfl rfl (bt1 hg6) rfl ?_
              refine g_yes rfl rfl hg5 (r_move rfl rfl ?_)
              refine g_split rfl rfl ?_ ?_
              ·intro hg7; have hg7' := hg7; try simp at hg7'
               refine g_yes rfl rfl hg7 ?_
               refine r_fieldAddr ⟨_, 3, none⟩ rfl rfl T.fa_api_Head_3 rfl ?_
               refine g_yes rfl rfl hg7 ?_
               refine r_load rfl T.cell_ints rfl (cell_rowg mB rfl) ?_
               refine g_yes rfl rfl hg7 ?_
               refine r_len_sl rfl T.u_ints rfl ?_
               refine g_yes rfl rfl hg7 (r_eql rfl rfl rfl (g_yes rfl rfl hg5 ?_))
               refine p_t rfl rfl (bt1 hg7) rfl ?_
               refine p_f rfl rfl (bf1 hg5) rfl ?_
               refine hl_nil ?_
               exact cut_n _ () trivial ⟨rfl, rfl, rfl, rfl, congrArg (fun b => some (Value.bool b)) (by simp only [kindBad, Hd.p]; simp_all), trivial⟩ (List.Sublist.refl _) ⟨mB, mB, mB, trivial⟩
              ·intro hg7; have hg7' := hg7; try simp at hg7'
               refine g_no rfl rfl rfl rfl rfl hg7 (g_no rfl rfl rfl rfl rfl hg7 (g_no rfl rfl rfl rfl rfl hg7 (g_no rfl rfl rfl rfl rfl hg7 (g_yes rfl rfl hg5 ?_))))
               refine p_f rfl rfl (bf2 hg7) rfl ?_
               refine p_f rfl rfl (bf1 hg5) rfl ?_
               refine hl_nil ?_
               exact cut_n _ () trivial ⟨rfl, rfl, rfl, rfl, congrArg (fun b => some (Value.bool b)) (by simp only [kindBad, Hd.p]; simp_all), trivial⟩ (List.Sublist.refl _) ⟨mB, mB, mB, trivial⟩
             ·intro hg6; have hg6' := hg6; try simp at hg6'
              refine g_no rfl rfl rfl rfl rfl hg6 (g_no rfl rfl rfl rfl rfl hg6 (g_no rfl rfl rfl rfl rfl hg6 (g_yes rfl rfl hg5 ?_)))
              refine p_f rfl rfl (bf2 hg6) rfl ?_
              refine g_yes rfl rfl hg5 (r_move rfl rfl (g_no rfl rfl rfl rfl rfl rfl (g_no rfl rfl rfl rfl rfl rfl (g_no rfl rfl rfl rfl rfl rfl (g_no rfl rfl rfl rfl rfl rfl (g_yes rfl rfl hg5 (p_f rfl rfl rfl rfl ?_)))))))
              refine p_f rfl rfl (bf1 hg5) rfl ?_
              refine hl_nil ?_
              exact cut_n _ () trivial ⟨rfl, rfl, rfl, rfl, congrArg (fun b => some (Value.bool b)) (by simp only [kindBad, Hd.p]; simp_all), trivial⟩ (List.Sublist.refl _) ⟨mB, mB, mB, trivial⟩
            ·intro hg5; have hg5' := hg5; try simp at hg5'
             refine g_no rfl rfl rfl rfl rfl hg5 (g_no rfl rfl rfl rfl rfl hg5 (g_no rfl rfl rfl rfl rfl hg5 (g_no rfl rfl rfl rfl rfl hg5 (g_und rfl rfl rfl rfl rfl rfl (g_und rfl rfl rfl rfl rfl rfl (g_und rfl rfl rfl rfl rfl rfl (g_no rfl rfl rfl rfl rfl hg5 (g_no rfl rfl rfl rfl rfl hg5 (g_und rfl rfl rfl rfl rfl rfl (g_und rfl rfl rfl rfl rfl rfl (g_und rfl rfl rfl rfl rfl rfl ?_)))))))))))
             refine g_und rfl rfl rfl rfl rfl rfl (g_no rfl rfl rfl rfl rfl hg5 ?_)
             refine p_t rfl rfl (bt2 hg5) rfl ?_
             refine hl_nil ?_
             exact cut_n _ () trivial ⟨rfl, rfl, rfl, rfl, congrArg (fun b => some (Value.bool b)) (by simp only [kindBad, Hd.p]; simp_all), trivial⟩ (List.Sublist.refl _) ⟨mB, mB, mB, trivial⟩
           ·intro hg4; have hg4' := hg4; try simp at hg4'
            refine g_no rfl rfl rfl rfl rfl hg4 (g_no rfl rfl rfl rfl rfl hg4 (g_no rfl rfl rfl rfl rfl hg4 (g_no rfl rfl rfl rfl rfl hg4 (g_yes rfl rfl hg3 ?_))))
            refine p_t rfl rfl (bt2 hg4) rfl ?_
            refine p_t rfl rfl (bt1 hg3) rfl ?_
            refine r_move rfl rfl (g_no rfl rfl rfl rfl rfl rfl (g_no rfl rfl rfl rfl rfl rfl (g_no rfl rfl rfl rfl rfl rfl (g_no rfl rfl rfl rfl rfl rfl (g_und rfl rfl rfl rfl rfl rfl (g_und rfl rfl rfl rfl rfl rfl (g_und rfl rfl rfl rfl rfl rfl (g_no rfl rfl rfl rfl rfl rfl (g_no rfl rfl rfl rfl rfl rfl (g_und rfl rfl rfl rfl rfl rfl (g_und rfl rfl rfl rfl rfl rfl ?_)))))))))))
            refine g_und rfl rfl rfl rfl rfl rfl (g_und rfl rfl rfl rfl rfl rfl (g_no rfl rfl rfl rfl rfl rfl (p_t rfl rfl rfl rfl (hl_nil ?_))))
            exact cut_n _ () trivial ⟨rfl, rfl, rfl, rfl, congrArg (fun b => some (Value.bool b)) (by simp only [kindBad, Hd.p]; simp_all), trivial⟩ (List.Sublist.refl _) ⟨mB, mB, mB, trivial⟩
          ·intro hg3; have hg3' := hg3; try simp at hg3'
           refine g_no rfl rfl rfl rfl rfl hg3 (g_no rfl rfl rfl rfl rfl hg3 (g_no rfl rfl rfl rfl rfl hg3 (g_no rfl rfl rfl rfl rfl hg3 (g_und rfl rfl rfl rfl rfl rfl (g_und rfl rfl rfl rfl rfl rfl (g_und rfl rfl rfl rfl rfl rfl (g_und rfl rfl rfl rfl rfl rfl (g_no rfl rfl rfl rfl rfl hg3 ?_))))))))
           refine p_f rfl rfl (bf2 hg3) rfl ?_
           refine r_move rfl rfl (g_yes rfl rfl rfl ?_)
           refine r_fieldAddr ⟨_, 2, none⟩ rfl rfl T.fa_api_Head_2 rfl ?_
           refine g_yes rfl rfl rfl ?_
           refine r_load rfl T.cell_int rfl (cell_rowg mB rfl) ?_
           refine g_yes rfl rfl rfl (r_eql rfl rfl rfl (g_yes rfl rfl rfl (r_move rfl rfl ?_)))
           refine g_split rfl rfl ?_ ?_
           ·intro hg8; have hg8' := hg8; try simp at hg8'
            refine g_yes rfl rfl hg8 ?_
            refine r_fieldAddr ⟨_, 1, none⟩ rfl rfl T.fa_api_Head_1 rfl ?_
            refine g_yes rfl rfl hg8 ?_
            refine r_load rfl T.cell_int rfl (cell_rowg mB rfl) ?_
            refine g_yes rfl rfl hg8 (r_eql rfl rfl rfl (g_yes rfl rfl rfl ?_))
            refine p_t rfl rfl (bt1 hg8) rfl ?_
            refine g_yes rfl rfl rfl (r_move rfl rfl ?_)
            refine g_split rfl rfl ?_ ?_
            ·intro hg9; have hg9' := hg9; try simp at hg9'
             refine g_yes rfl rfl hg9 ?_
             refine r_fieldAddr ⟨_, 3, none⟩ rfl rfl T.fa_api_Head_3 rfl ?_
             refine g_yes rfl rfl hg9 ?_
             refine r_load rfl T.cell_ints rfl (cell_rowg mB rfl) ?_
             refine g_yes rfl rfl hg9 ?_
             refine r_len_sl rfl T.u_ints rfl ?_
             refine g_yes rfl rfl hg9 (r_eql rfl rfl rfl (g_yes rfl rfl rfl ?_))
             refine p_t rfl rfl (bt1 hg9) rfl ?_
             refine p_f rfl rfl rfl rfl (hl_nil ?_)
             exact cut_n _ () trivial ⟨rfl, rfl, rfl, rfl, congrArg (fun b => some (Value.bool b)) (by simp only [kindBad, Hd.p]; simp_all), trivial⟩ (List.Sublist.refl _) ⟨mB, mB, mB, trivial⟩
            ·intro hg9; have hg9' := hg9; try simp at hg9'
             refine g_no rfl rfl rfl rfl rfl hg9 (g_no rfl rfl rfl rfl rfl hg9 (g_no rfl rfl rfl rfl rfl hg9 (g_no rfl rfl rfl rfl rfl hg9 (g_yes rfl rfl rfl ?_))))
             refine p_f rfl rfl (bf2 hg9) rfl ?_
             refine p_f rfl rfl rfl rfl (hl_nil ?_)
             exact cut_n _ () trivial ⟨rfl, rfl, rfl, rfl, congrArg (fun b => some (Value.bool b)) (by simp only [kindBad, Hd.p]; simp_all), trivial⟩ (List.Sublist.refl _) ⟨mB, mB, mB, trivial⟩
           ·intro hg8; have hg8' := hg8; try simp at hg8'
            refine g_no rfl rfl rfl rfl rfl hg8 (g_no rfl rfl rfl rfl rfl hg8 (g_no rfl rfl rfl rfl rfl hg8 (g_yes rfl rfl rfl ?_)))
            refine p_f rfl rfl (bf2 hg8) rfl ?_
            refine g_yes rfl rfl rfl (r_move rfl rfl (g_no rfl rfl rfl rfl rfl rfl (g_no rfl rfl rfl rfl rfl rfl (g_no rfl rfl rfl rfl rfl rfl (g_no rfl rfl rfl rfl rfl rfl (g_yes rfl rfl rfl (p_f rfl rfl rfl rfl (p_f rfl rfl rfl rfl (hl_nil ?_)))))))))
            exact cut_n _ () trivial ⟨rfl, rfl, rfl, rfl, congrArg (fun b => some (Value.bool b)) (by simp only [kindBad, Hd.p]; simp_all), trivial⟩ (List.Sublist.refl _) ⟨mB, mB, mB, trivial⟩
         ·refine fun _ _ => ?_
          refine hc_cond rfl (fun hb11 => ?_) (fun hb11 => ?_)
          ·have hb11' := hb11; try simp at hb11'
           refine hc_seq (hc_region (r_assign rfl rfl (hl_nil (then_n (hc_ret (then_ret ?_))))))
           exact ret1 () rfl (congrArg (fun b => some (int b)) (by rw [hH, if_pos hb11])) rfl trivial (List.nil_sublist _) trivial
          ·have hb11' := hb11; try simp at hb11'
           refine hc_skip (then_n (hc_seq (hc_region (r_assign rfl rfl (hl_nil (then_n (hc_ret ?_)))))))
           exact ret1 () rfl (congrArg (fun b => some (int b)) (by rw [hH, if_neg (by rw [hb11]; simp)])) rfl trivial (List.nil_sublist _) trivial
theorem hs_len (cs : List Cl) (hs : List Hd) : (trOf cs hs).hs.length = hs.length := List.length_map ..
theorem trade_check_meets {A B : Option Addr} {ca cb : Nat} (cs : List Cl) (hs : List Hd) (hca : cs.length ≤ ca) (hcb : hs.length ≤ cb) (ha : ∀ h ∈ hs, h.2.2.2.l.length ≤ 1000000) : Meets Try.prog F.trade_check [.agg #[.slice A cs.length ca, .slice B hs.length cb]] { LI := [Row A (rows cs), RowsF B hs Hd.row], val := fun _ : Unit => int (checkT (trOf cs hs)) } := by
 refine meets_intro F.trade_check_f rfl (Nat.le_of_ble_eq_true rfl) fun w0 => ?_
 refine hc_seq (hc_region ?_)
 refine r_box rfl rfl fun gB => ?_
 refine r_assign rfl rfl (hl_nil (then_n (hc_seq (hc_seq ?_))))
 have hl := hs_len cs hs
 refine hc_region ?_
 refine r_fieldAddr ⟨_, 0, none⟩ rfl rfl T.fa_api_Trades_0 rfl ?_
 refine r_load rfl T.cell_L_api_Class rfl (cell_own mB rfl) ?_
 refine r_len_sl rfl T.u_L_api_Class rfl ?_
 refine r_gtr rfl rfl rfl (r_move rfl rfl ?_)
 refine g_split rfl rfl ?_ ?_
 ·intro hg1; have hg1' := hg1; try simp at hg1'
  have h6 : cs.length ≤ 6 := by simp at hg1; omega
  refine g_yes rfl rfl hg1 ?_
  refine r_fieldAddr ⟨_, 1, none⟩ rfl rfl T.fa_api_Trades_1 rfl ?_
  refine g_yes rfl rfl hg1 ?_
  refine r_load rfl T.cell_L_api_Head rfl (cell_own mB rfl) ?_
  refine g_yes rfl rfl hg1 ?_
  refine r_len_sl rfl T.u_L_api_Head rfl ?_
  refine g_yes rfl rfl hg1 (r_gtr rfl rfl rfl ?_)
  refine p_f rfl rfl (bf1 hg1) rfl ?_
  refine hl_nil (then_n ?_)
  refine c_dec rfl (fun hb1 => ?_) (fun hb1 => ?_)
  ·have hb1' := hb1; try simp at hb1'
   refine hc_seq (hc_region (r_assign rfl rfl (hl_nil (then_n (hc_ret (then_ret ?_))))))
   exact ret1 () rfl (congrArg (fun b => some (int b)) (by rw [checkT, if_pos (by rw [hl]; simp only; omega)])) rfl trivial (List.nil_sublist _) trivial
  ·have hb1' := hb1; try simp at hb1'
   have h6h : hs.length ≤ 6 := by omega
   have hT : checkT (trOf cs hs) = if ¬ firstE (clsErr cs) cs.length = 0 then firstE (clsErr cs) cs.length else firstE (headErr (trOf cs hs)) hs.length := by rw [checkT, if_neg (by rw [hl]; simp only; omega), hl]
   refine hc_skip (then_n (hc_seq (hc_seq (hc_region ?_))))
   refine r_fieldAddr ⟨_, 0, none⟩ rfl rfl T.fa_api_Trades_0 rfl ?_
   refine r_load rfl T.cell_L_api_Class rfl (cell_own mB rfl) ?_
   refine r_len_sl rfl T.u_L_api_Class rfl ?_
   refine r_move rfl rfl (hl_nil (then_n (hc_block ?_)))
   refine hc_loop (β := Nat) ⟨fun k => k ≤ cs.length ∧ firstE (clsErr cs) k = 0, fun k => [(1, .pointer (some ⟨gB, 0, none⟩)), (19, int cs.length), (20, int k)], fun _ => [(gB, .cells #[.slice A cs.length ca, .slice B hs.length cb] T.api_Trades (0, 0))], fun _ => [Row A (rows cs), RowsF B hs Hd.row]⟩ (fun k => cs.length - k) 0 ⟨Nat.zero_le _, rfl⟩ ⟨rfl, rfl, rfl, trivial⟩ (List.Sublist.refl _) ⟨mB, mB, trivial⟩ fun k hk => ?_
   obtain ⟨hk, ht⟩ := hk
   refine hc_seq (hc_region (r_lss rfl rfl rfl (hl_nil (then_n (hc_seq ?_)))))
   refine c_dec rfl (fun hb2 => ?_) (fun hb2 => ?_)
   ·have hb2' := hb2; try simp at hb2'
    have hk2 : k < cs.length := by omega
    refine hc_skip (then_n (hc_seq (hc_block (hc_seq (hc_region (r_move rfl rfl (r_assign rfl rfl (hl_nil (then_n (hc_seq (hc_region ?_)))))))))))
    refine r_fieldAddr ⟨_, 0, none⟩ rfl rfl T.fa_api_Trades_0 rfl ?_
    refine r_load rfl T.cell_L_api_Class rfl (cell_own mB rfl) ?_
    refine r_move rfl rfl ?_
    refine hl_call F.trade_checkClass_cb rfl rfl (trade_checkClass_meets cs k (by omega) hca hk2) (List.Perm.refl _) ⟨mB, trivial⟩ fun _ _ => ?_
    refine r_assign rfl rfl (hl_nil (then_n (hc_seq (hc_region (r_move rfl rfl (r_neq rfl rfl rfl (hl_nil (then_n ?_))))))))
    refine c_dec rfl (fun hb3 => ?_) (fun hb3 => ?_)
    ·have hb3' := hb3; try simp at hb3'
     refine hc_seq (hc_region (r_move rfl rfl (r_assign rfl rfl (hl_nil (then_n (hc_ret (inb_ret (then_ret (then_ret (inb_ret (then_ret ?_)))))))))))
     exact ret1 () rfl (congrArg (fun b => some (int b)) (by rw [hT, firstE_stop ht hb3 _ hk2, if_pos hb3])) rfl trivial (List.nil_sublist _) trivial
    ·have hb3' := hb3; try simp at hb3'
     refine hc_skip (inb_n (then_n (hc_region ?_)))
     refine r_add _ rfl rfl rfl rfl (by unfold I64; omega) ?_
     refine r_move rfl rfl (hl_nil ?_)
     exact again _ (k + 1) ⟨by omega, by rw [firstE_succ ht]; exact Classical.not_not.1 hb3⟩ (by show cs.length - (k + 1) < cs.length - k; omega) ⟨rfl, rfl, rfl, trivial⟩ (List.Sublist.refl _) ⟨mB, mB, trivial⟩
   ·have hb2' := hb2; try simp at hb2'
    have hk2 : k = cs.length := by omega
    subst hk2
    rw [if_neg (not_not_intro ht)] at hT
    refine hc_exit (then_exit (then_exit (inb_hit (then_n (hc_seq (hc_seq (hc_region ?_)))))))
    refine r_fieldAddr ⟨_, 1, none⟩ rfl rfl T.fa_api_Trades_1 rfl ?_
    refine r_load rfl T.cell_L_api_Head rfl (cell_own mB rfl) ?_
    refine r_len_sl rfl T.u_L_api_Head rfl ?_
    refine r_move rfl rfl (hl_nil (then_n (hc_block ?_)))
    refine hc_loop (β := Nat) ⟨fun k => k ≤ hs.length ∧ firstE (headErr (trOf cs hs)) k = 0, fun k => [(1, .pointer (some ⟨gB, 0, none⟩)), (33, int hs.length), (34, int k)], fun _ => [(gB, .cells #[.slice A cs.length ca, .slice B hs.length cb] T.api_Trades (0, 0))], fun _ => [Row A (rows cs), RowsF B hs Hd.row]⟩ (fun k => hs.length - k) 0 ⟨Nat.zero_le _, rfl⟩ ⟨rfl, rfl, rfl, trivial⟩ (List.Sublist.refl _) ⟨mB, mB, trivial⟩ fun k hk => ?_
    obtain ⟨hk, ht⟩ := hk
    refine hc_seq (hc_region (r_lss rfl rfl rfl (hl_nil (then_n (hc_seq ?_)))))
    refine c_dec rfl (fun hb4 => ?_) (fun hb4 => ?_)
    ·have hb4' := hb4; try simp at hb4'
     have hk2 : k < hs.length := by omega
     refine hc_skip (then_n (hc_seq (hc_block (hc_seq (hc_region (r_move rfl rfl (r_assign rfl rfl (hl_nil (then_n (hc_seq (hc_region ?_)))))))))))
     refine r_loadA rfl T.row_api_Trades T.sz_api_Trades rfl mB (by rfl) ?_
     refine r_move rfl rfl ?_
     refine hl_call F.trade_checkHead_cb rfl rfl (trade_checkHead_meets cs hs k h6h h6 hcb hk2 ha) (List.Perm.refl _) ⟨mB, mB, trivial⟩ fun _ _ => ?_
     refine r_assign rfl rfl (hl_nil (then_n (hc_seq (hc_region (r_move rfl rfl (r_neq rfl rfl rfl (hl_nil (then_n ?_))))))))
     refine c_dec rfl (fun hb5 => ?_) (fun hb5 => ?_)
     ·have hb5' := hb5; try simp at hb5'
      refine hc_seq (hc_region (r_move rfl rfl (r_assign rfl rfl (hl_nil (then_n (hc_ret (inb_ret (then_ret (then_ret (inb_ret (then_ret ?_)))))))))))
      exact ret1 () rfl (congrArg (fun b => some (int b)) (by rw [hT, firstE_stop ht hb5 _ hk2])) rfl trivial (List.nil_sublist _) trivial
     ·have hb5' := hb5; try simp at hb5'
      refine hc_skip (inb_n (then_n (hc_region ?_)))
      refine r_add _ rfl rfl rfl rfl (by unfold I64; omega) ?_
      refine r_move rfl rfl (hl_nil ?_)
      exact again _ (k + 1) ⟨by omega, by rw [firstE_succ ht]; exact Classical.not_not.1 hb5⟩ (by show hs.length - (k + 1) < hs.length - k; omega) ⟨rfl, rfl, rfl, trivial⟩ (List.Sublist.refl _) ⟨mB, mB, trivial⟩
    ·have hb4' := hb4; try simp at hb4'
     have hk2 : k = hs.length := by omega
     subst hk2
     refine hc_exit (then_exit (then_exit (inb_hit (then_n (hc_seq (hc_region (r_assign rfl rfl (hl_nil (then_n (hc_ret ?_))))))))))
     exact ret1 () rfl (congrArg (fun b => some (int b)) (by rw [hT, ht])) rfl trivial (List.nil_sublist _) trivial
 ·intro hg1; have hg1' := hg1; try simp at hg1'
  refine g_no rfl rfl rfl rfl rfl hg1 (g_no rfl rfl rfl rfl rfl hg1 (g_no rfl rfl rfl rfl rfl hg1 (g_no rfl rfl rfl rfl rfl hg1 ?_)))
  refine p_t rfl rfl (bt2 hg1) rfl ?_
  refine hl_nil (then_n (c_t rfl rfl (hc_seq (hc_region (r_assign rfl rfl (hl_nil (then_n (hc_ret (then_ret ?_)))))))))
  exact ret1 () rfl (congrArg (fun b => some (int b)) (by rw [checkT, if_pos (by simp at hg1; simp only; omega)])) rfl trivial (List.nil_sublist _) trivial
end Go.Proofs.Ytdlbbfcfahahdaa
end
section
namespace Go.Proofs.Ytdlbbfcfahahdaa
open Go Go.W
set_option maxRecDepth 20000
attribute [local irreducible] HL HC HQ HB Row Rows2 Blk Facts
instance : El Nat where
  default := 0
  cells m := [u8 m]
  sz := 1
  len _ := rfl
  one a u h := by simp at h; subst h; rfl
inductive Kd where
  | art (c : Int) (al : Sl Int)
  | ptr (s : Int)
  | idx (al : Sl Int)
def Kd.v : Kd → Value
  | .art c al => .iface T.trade_article (.agg #[int c, .slice al.a al.l.length al.c])
  | .ptr s => .iface T.trade_pointer (.agg #[int s])
  | .idx al => .iface T.trade_index (.agg #[.slice al.a al.l.length al.c])
instance : El Kd where
  default := .ptr 0
  cells m := [m.v]
  sz := 1
  len _ := rfl
  one a u h := by simp at h; subst h; cases a <;> rfl
def kindOf (h : Hd) : Kd := if ¬ h.2.2.1 = -1 then .ptr h.2.2.1 else if ¬ h.2.1 = -1 then .art h.2.1 h.2.2.2 else .idx h.2.2.2
def kindsN (hs : List Hd) (k : Nat) : List Kd := (hs.take k).map kindOf
theorem kinds_len {hs : List Hd} {k : Nat} (h : k ≤ hs.length) : (kindsN hs k).length = k := by simp [kindsN, h]
theorem kinds_succ {hs : List Hd} {k : Nat} (h : k < hs.length) : kindsN hs (k + 1) = kindsN hs k ++ [kindOf (hs.getD k default)] := by
  unfold kindsN
  rw [take_succ_getD hs k h, List.map_append]
  rfl
def maskOf (l : List Int) : Nat := l.foldl (fun m x => m ||| 2 ^ x.toNat) 0
theorem mask_snoc (l : List Int) (x : Int) : maskOf (l ++ [x]) = maskOf l ||| 2 ^ x.toNat := by unfold maskOf; rw [List.foldl_append]; rfl
theorem mask_lt0 : ∀ (l : List Int) (m : Nat), m < 256 → (∀ x ∈ l, x.toNat < 8) → l.foldl (fun m x => m ||| 2 ^ x.toNat) m < 256
  | [], m, hm, _ => hm
  | x :: l, m, hm, h => by
    rw [List.foldl_cons]
    refine mask_lt0 l _ (Nat.or_lt_two_pow (n := 8) hm ?_) (fun y hy => h y (List.mem_cons_of_mem _ hy))
    exact Nat.pow_lt_pow_right (by omega) (h x (List.mem_cons_self ..))
theorem mask_lt {l : List Int} (h : ∀ x ∈ l, x.toNat < 8) : maskOf l < 256 := mask_lt0 l 0 (by decide) h
def masksN (cs : List Cl) (k : Nat) : List Nat := (List.range k).map fun i : Nat => maskOf (pathT cs (i : Int))
theorem masks_len (cs : List Cl) (k : Nat) : (masksN cs k).length = k := by simp [masksN]
theorem masks_succ (cs : List Cl) (k : Nat) : masksN cs (k + 1) = masksN cs k ++ [maskOf (pathT cs (k : Int))] := by unfold masksN; rw [List.range_succ, List.map_append]; rfl
theorem masks_get {cs : List Cl} {k i : Nat} (h : i < k) : (masksN cs k).getD i default = maskOf (pathT cs (i : Int)) := by
  rw [getD_at (by rw [masks_len]; exact h)]
  simp [masksN]
theorem path_small {cs : List Cl} (h6 : cs.length ≤ 6) (hc : ∀ i, i < cs.length → ClsOK cs i) {c : Int} (hl : c < (cs.length : Int)) : ∀ x ∈ pathT cs c, 0 ≤ x ∧ x < 6 := fun x hx => by
  have := (path_asc cs hc c.toNat c (Nat.le_refl _) hl).2 x hx
  omega
theorem mask_path {cs : List Cl} (h6 : cs.length ≤ 6) (hc : ∀ i, i < cs.length → ClsOK cs i) {c : Int} (hl : c < (cs.length : Int)) : maskOf (pathT cs c) < 256 := mask_lt fun x hx => by have := path_small h6 hc hl x hx; omega
theorem mask_step {cs : List Cl} (h6 : cs.length ≤ 6) (hc : ∀ i, i < cs.length → ClsOK cs i) {k : Nat} (hk : k < cs.length) : maskOf (pathT cs (k : Int)) = 2 ^ k ||| maskOf (pathT cs (cs.getD k default).2) := by
  rw [path_step cs hc (by omega) (by omega), mask_snoc, Nat.or_comm]
  rfl
theorem mask_neg {cs : List Cl} {c : Int} (h : c < 0) : maskOf (pathT cs c) = 0 := by rw [path_neg cs h]; rfl
theorem pmA {α : Type} (l : List α) (a b : α) : (l ++ [a, b]).Perm (a :: (l ++ [b])) := perm_of fun p => by simp only [List.countP_append, List.countP_cons, List.countP_nil]; omega
theorem pmB {α : Type} (l : List α) (a b : α) : (a :: (l ++ [b])).Perm (l ++ [a, b]) := (pmA l a b).symm
theorem pmC {α : Type} (l : List α) (a : α) : (l ++ [a]).Perm (a :: l) := List.perm_append_comm (l₂ := [a])
def beginL (cs : List Cl) (hs : List Hd) (A : Option Addr) (ca : Nat) (B : Option Addr) (cb : Nat) (x : Nat × OutC × OutC) : List Fact := [Row (some ⟨x.1, 0, none⟩) [.slice A cs.length ca, .slice B hs.length cb, .slice x.2.1.1 cs.length x.2.1.2, .slice x.2.2.1 hs.length x.2.2.2], Row x.2.1.1 (rows (masksN cs cs.length)), Row x.2.2.1 (rows (kindsN hs hs.length))]
theorem trade_classes_with_meets (m i : Nat) (hm : m < 256) (hi : i < 8) : Meets Try.prog F.trade_classes_with [u8 m, int i] { val := fun _ : Unit => u8 (m ||| 2 ^ i) } := by
 refine meets_intro F.trade_classes_with_f rfl (Nat.le_of_ble_eq_true rfl) fun w0 => ?_
 refine hc_seq (hc_region (r_assign rfl rfl (hl_nil (then_n (hc_seq (hc_region (r_move rfl rfl (r_move rfl rfl (r_shl8 i rfl rfl rfl rfl hi ?_)))))))))
 refine r_or8 rfl rfl rfl hm (Nat.pow_lt_pow_right (by omega) hi : 2 ^ i < 2 ^ 8) ?_
 refine r_assign rfl rfl (hl_nil (then_n (hc_ret ?_)))
 exact ret1 () rfl rfl rfl trivial (List.nil_sublist _) trivial
set_option maxHeartbeats 1000000 in
theorem trade_begin_meets {A B : Option Addr} {ca cb : Nat} (cs : List Cl) (hs : List Hd) (hca : cs.length ≤ ca) (hcb : hs.length ≤ cb) (ha : ∀ h ∈ hs, h.2.2.2.l.length ≤ 1000000) : Meets Try.prog F.trade_begin [.agg #[.slice A cs.length ca, .slice B hs.length cb]] { LI := [Row A (rows cs), RowsF B hs Hd.row], val := fun x : Nat × OutC × OutC => .tuple #[if checkT (trOf cs hs) = 0 then .pointer (some ⟨x.1, 0, none⟩) else .pointer none, int (checkT (trOf cs hs))], LO := fun x => if checkT (trOf cs hs) = 0 then beginL cs hs A ca B cb x else [] } := by
 refine meets_intro F.trade_begin_f rfl (Nat.le_of_ble_eq_true rfl) fun w0 => ?_
 refine hc_seq (hc_region ?_)
 refine r_box rfl rfl fun gB => ?_
 refine r_assign rfl rfl (r_assign rfl rfl (hl_nil (then_n (hc_seq (hc_seq (hc_region ?_))))))
 refine r_loadA rfl T.row_api_Trades T.sz_api_Trades rfl mB (by rfl) ?_
 refine hl_call F.trade_check_cb rfl rfl (trade_check_meets cs hs hca hcb ha) (List.Perm.refl _) ⟨mB, mB, trivial⟩ fun _ _ => ?_
 refine r_assign rfl rfl (hl_nil (then_n (hc_seq (hc_region (r_move rfl rfl (r_neq rfl rfl rfl (hl_nil (then_n ?_))))))))
 refine c_dec rfl (fun hb1 => ?_) (fun hb1 => ?_)
 ·have hb1' := hb1; try simp at hb1'
  refine hc_seq (hc_region (r_move rfl rfl (r_assign rfl rfl (r_assign rfl rfl (hl_nil (then_n (hc_ret (then_ret ?_))))))))
  exact ret2 (0, (none, 0), (none, 0)) rfl rfl rfl (by show Value.tuple #[if checkT (trOf cs hs) = 0 then _ else _, _] = _; rw [if_neg hb1]) rfl trivial (List.nil_sublist _) (by show LSub _ (if checkT (trOf cs hs) = 0 then _ else []); rw [if_neg hb1]; trivial)
 ·have hb1' := hb1; try simp at hb1'
  have hok := tr_ok (Classical.not_not.1 hb1)
  have h6 : cs.length ≤ 6 := hok.c6
  have h6h := hok.h6
  rw [hs_len] at h6h
  have hcl : ∀ i, i < cs.length → ClsOK cs i := hok.c
  refine hc_skip (then_n (hc_seq (hc_region ?_)))
  refine r_loadA rfl T.row_api_Trades T.sz_api_Trades rfl mB (by rfl) ?_
  refine r_build _ rfl rfl (fun _ => T.bd_trade_list_0 ..) ?_
  refine r_box rfl rfl fun gB_1 => ?_
  refine r_assign rfl rfl (hl_nil (then_n (hc_seq (hc_seq (hc_region ?_)))))
  refine r_fieldAddr ⟨_, 0, none⟩ rfl rfl T.fa_api_Trades_0 rfl ?_
  refine r_load rfl T.cell_L_api_Class rfl (cell_own mB rfl) ?_
  refine r_len_sl rfl T.u_L_api_Class rfl ?_
  refine r_move rfl rfl (hl_nil (then_n (hc_block ?_)))
  refine hc_loop (β := Nat × OutC × Hp) ⟨fun x => x.1 ≤ cs.length ∧ Grow T.trade_classes 1 x.2.1.1 x.1 x.2.1.2 (rows (masksN cs x.1)) x.2.2, fun x => [(1, .pointer (some ⟨gB, 0, none⟩)), (5, .pointer (some ⟨gB_1, 0, none⟩)), (20, .slice A cs.length ca), (21, int cs.length), (22, int x.1)], fun x => (gB_1, .cells #[.slice A cs.length ca, .slice B hs.length cb, .slice x.2.1.1 x.1 x.2.1.2, .slice none 0 0] T.trade_list (0, 0)) :: (x.2.2 ++ [(gB, .cells #[.slice A cs.length ca, .slice B hs.length cb] T.api_Trades (0, 0))]), fun _ => [Row A (rows cs), RowsF B hs Hd.row]⟩ (fun x => cs.length - x.1) (0, (none, 0), []) ⟨Nat.zero_le _, Grow.nil _ _⟩ ⟨rfl, rfl, rfl, rfl, rfl, trivial⟩ (List.Sublist.refl _) ⟨mB, mB, trivial⟩ fun x hx => ?_
  obtain ⟨k, ⟨oa, oc⟩, og⟩ := x
  obtain ⟨hk, hG⟩ := hx
  simp only at hk hG
  refine hc_seq (hc_region (r_lss rfl rfl rfl (hl_nil (then_n (hc_seq ?_)))))
  refine c_dec rfl (fun hb2 => ?_) (fun hb2 => ?_)
  ·have hb2' := hb2; try simp at hb2'
   have hk2 : k < cs.length := by omega
   have hck := hcl k hk2
   have hlo := hck.lo
   have hhi := hck.hi
   refine hc_skip (then_n (hc_seq (hc_block (hc_seq (hc_region (r_move rfl rfl ?_))))))
   refine r_elem (α := Cl) cs k rfl T.u_L_api_Class T.sz_api_Class rfl rfl rfl mB rfl hk2 (by decide) ?_
   refine r_loadS rfl T.row_api_Class T.sz_api_Class rfl rfl (cells_row mB (rows_all (by omega))) ?_
   refine r_alloc rfl (fun _ => T.al_api_Class _) fun gA => ?_
   refine r_assign rfl rfl ?_
   refine r_storeS rfl rfl (by first | exact .refl _ | exact perm2 _ _ _ | exact perm3 _ _ _ _ | exact perm4 _ _ _ _ _) T.sz_api_Class (by rfl) (by rfl) ?_
   refine hl_nil (then_n (hc_seq (hc_region (r_move rfl rfl ?_))))
   refine hl_call F.trade_classes_with_cb rfl rfl (trade_classes_with_meets 0 k (by decide) (by omega)) (List.Perm.refl _) trivial fun _ _ => ?_
   refine r_assign rfl rfl (hl_nil (then_n ?_))
   refine hc_cut ⟨fun _ : Unit => True, fun _ => [(1, .pointer (some ⟨gB, 0, none⟩)), (5, .pointer (some ⟨gB_1, 0, none⟩)), (20, .slice A cs.length ca), (21, int cs.length), (22, int k), (8, u8 (maskOf (pathT cs (k : Int))))], fun _ => (gB_1, .cells #[.slice A cs.length ca, .slice B hs.length cb, .slice oa k oc, .slice none 0 0] T.trade_list (0, 0)) :: (og ++ [(gB, .cells #[.slice A cs.length ca, .slice B hs.length cb] T.api_Trades (0, 0))]), fun _ => [Row A (rows cs), RowsF B hs Hd.row]⟩ ?_ ?_
   ·skip
    refine hc_seq (hc_region ?_)
    refine r_fieldAddr ⟨_, 1, none⟩ rfl rfl T.fa_api_Class_1 rfl ?_
    refine r_load rfl T.cell_int rfl (cell_own mB rfl) ?_
    refine r_geq rfl rfl rfl (hl_nil (then_n ?_))
    refine c_dec rfl (fun hb3 => ?_) (fun hb3 => ?_)
    ·have hb3' := hb3; try simp at hb3'
     obtain ⟨gC, cur, e1, e2, hnc, hcm, hcs, hct, _⟩ := hG.open_ (by omega)
     subst e1
     subst e2
     have hcell : cur[0 + (cs.getD k default).2.toNat * 1]? = some (u8 (maskOf (pathT cs (cs.getD k default).2))) := by
       have h1 : (rows (masksN cs k))[(cs.getD k default).2.toNat * 1]? = some (u8 (maskOf (pathT cs (cs.getD k default).2))) := rows_get0 (by rw [masks_len]; omega) (by rw [masks_get (by omega), Int.toNat_of_nonneg hb3]; rfl)
       rw [← hct, List.getElem?_take, if_pos (by omega)] at h1
       rw [Nat.zero_add, ← Array.getElem?_toList]
       exact h1
     refine hc_draw 9 mixed (by decide) (by decide) rfl rfl ?_
     refine hb_ex _ rfl rfl rfl (fun w1 => r_move rfl rfl (hl_nil (qe_done rfl))) ?_
     refine hb_ex _ rfl rfl rfl (fun w1 => r_move rfl rfl (hl_nil (qe_done rfl))) ?_
     refine hb_ex _ rfl rfl rfl (fun w1 => r_nilCheck rfl rfl (hl_nil (qe_done rfl))) ?_
     refine hb_ex _ rfl rfl rfl (fun w1 => r_fieldAddr ⟨_, 2, none⟩ rfl rfl T.fa_trade_list_1 rfl (hl_nil (qe_done rfl))) ?_
     refine hb_ex _ rfl rfl rfl (fun w1 => r_load rfl T.cell_L_trade_classes rfl (cell_blk mB rfl) (hl_nil (qe_done rfl))) ?_
     refine hb_ex _ rfl rfl rfl (fun w1 => r_fieldAddr ⟨_, 1, none⟩ rfl rfl T.fa_api_Class_1 rfl (hl_nil (qe_done rfl))) ?_
     refine hb_ex _ rfl rfl rfl (fun w1 => r_load rfl T.cell_int rfl (cell_blk mB rfl) (hl_nil (qe_done rfl))) ?_
     refine hb_ex _ rfl rfl rfl (fun w1 => r_indexAddr_own (cs.getD k default).2.toNat _ rfl T.u_L_trade_classes T.sz_trade_classes rfl rfl (Int.toNat_of_nonneg hb3).symm (by omega) rfl (hl_nil (qe_done rfl))) ?_
     refine hb_ex _ rfl rfl rfl (fun w1 => r_load rfl T.cell_trade_classes rfl (cell_blk mB hcell) (hl_nil (qe_done rfl))) ?_
     refine hb_nil ⟨rfl, ?_⟩
     refine r_or8 rfl rfl rfl (by rw [Nat.zero_or]; exact (Nat.pow_lt_pow_right (by omega) (by omega) : 2 ^ k < 2 ^ 8)) (mask_path h6 hcl (by omega)) ?_
     refine r_assign rfl rfl (hl_nil ?_)
     exact cut_n _ () trivial ⟨rfl, rfl, rfl, rfl, rfl, congrArg (fun b => some (u8 b)) (by rw [Nat.zero_or]; exact (mask_step h6 hcl hk2).symm), trivial⟩ (List.sublist_cons_self _ _) ⟨mB, mB, trivial⟩
    ·have hb3' := hb3; try simp at hb3'
     refine hc_skip ?_
     exact cut_n _ () trivial ⟨rfl, rfl, rfl, rfl, rfl, congrArg (fun b => some (u8 b)) (by rw [mask_step h6 hcl hk2, mask_neg (by omega), Nat.or_zero, Nat.zero_or]), trivial⟩ (List.sublist_cons_self _ _) ⟨mB, mB, trivial⟩
   ·refine fun _ _ => ?_
    refine hc_region (r_move rfl rfl (r_move rfl rfl (r_nilCheck rfl rfl ?_)))
    refine r_fieldAddr ⟨_, 2, none⟩ rfl rfl T.fa_trade_list_1 rfl ?_
    refine r_load rfl T.cell_L_trade_classes rfl (cell_own mB rfl) ?_
    refine r_move rfl rfl ?_
    refine r_buildSlice _ rfl rfl (fun _ => T.bs_L_trade_classes_1 ..) fun gS => ?_
    refine hl_letgo (rows [maskOf (pathT cs (k : Int))]) (List.prefix_refl _) ?_
    refine r_append (k + 1) (rows (masksN cs k ++ [maskOf (pathT cs (k : Int))])) T.el_L_trade_classes rfl rfl rfl hG (pmB _ _ _) (Src.row (news := rows [maskOf (pathT cs (k : Int))]) (m := 1) m0 rfl (rows_one _) (by decide)) rfl (rows_append _ _).symm (by unfold maxLen; omega) (by omega) fun A' c' og' hG' => ?_
    refine r_nilCheck rfl rfl ?_
    refine r_fieldAddr ⟨_, 2, none⟩ rfl rfl T.fa_trade_list_1 rfl ?_
    refine r_store rfl rfl (pmA _ _ _) T.sz_L_trade_classes (by rfl) (by rfl) ?_
    refine hl_nil (inb_n (then_n (hc_region ?_)))
    refine r_add _ rfl rfl rfl rfl (by unfold I64; omega) ?_
    refine r_move rfl rfl (hl_nil ?_)
    exact again _ (k + 1, (A', c'), og') ⟨by show k + 1 ≤ cs.length; omega, by show Grow _ _ _ _ _ (rows (masksN cs (k + 1))) _; rw [masks_succ]; exact hG'⟩ (by show cs.length - (k + 1) < cs.length - k; omega) ⟨rfl, rfl, rfl, rfl, rfl, trivial⟩ (List.Sublist.refl _) ⟨mB, mB, trivial⟩
  ·have hb2' := hb2; try simp at hb2'
   have hk2 : k = cs.length := by omega
   subst hk2
   refine hc_exit (then_exit (then_exit (inb_hit (then_n (hc_seq (hc_seq ?_))))))
   refine hc_perm (pmB _ _ _) ?_
   refine hc_grown hG ?_
   clear hG
   refine hc_region ?_
   refine r_fieldAddr ⟨_, 1, none⟩ rfl rfl T.fa_api_Trades_1 rfl ?_
   refine r_load rfl T.cell_L_api_Head rfl (cell_own mB rfl) ?_
   refine r_len_sl rfl T.u_L_api_Head rfl ?_
   refine r_move rfl rfl (hl_nil (then_n (hc_block (hc_outerF mB ?_))))
   refine hc_loop (β := Nat × OutC × Hp) ⟨fun x => x.1 ≤ hs.length ∧ Grow T.trade_kind 1 x.2.1.1 x.1 x.2.1.2 (rows (kindsN hs x.1)) x.2.2, fun x => [(5, .pointer (some ⟨gB_1, 0, none⟩)), (54, .slice B hs.length cb), (55, int hs.length), (56, int x.1)], fun x => (gB_1, .cells #[.slice A cs.length ca, .slice B hs.length cb, .slice oa cs.length oc, .slice x.2.1.1 x.1 x.2.1.2] T.trade_list (0, 0)) :: x.2.2, fun _ => [Row oa (rows (masksN cs cs.length)), Row A (rows cs), RowsF B hs Hd.row, Row B (rows hs)]⟩ (fun x => hs.length - x.1) (0, (none, 0), []) ⟨Nat.zero_le _, Grow.nil _ _⟩ ⟨rfl, rfl, rfl, rfl, trivial⟩ ((List.nil_sublist _).cons_cons _) ⟨mB, mB, mB, mB, trivial⟩ fun x hx => ?_
   obtain ⟨k, ⟨ka, kc⟩, og2⟩ := x
   obtain ⟨hk, hG⟩ := hx
   simp only at hk hG
   refine hc_seq (hc_region (r_lss rfl rfl rfl (hl_nil (then_n (hc_seq ?_)))))
   refine c_dec rfl (fun hb4 => ?_) (fun hb4 => ?_)
   ·have hb4' := hb4; try simp at hb4'
    have hk2 : k < hs.length := by omega
    refine hc_skip (then_n (hc_seq (hc_block (hc_seq (hc_region ?_)))))
    refine r_elem (α := Hd) hs k rfl T.u_L_api_Head T.sz_api_Head rfl rfl rfl mB rfl hk2 (by decide) ?_
    refine r_loadS rfl T.row_api_Head T.sz_api_Head rfl rfl (cells_row mB (rows_all (by omega))) ?_
    refine r_alloc rfl (fun _ => T.al_api_Head _) fun gA => ?_
    refine r_storeS rfl rfl (by first | exact .refl _ | exact perm2 _ _ _ | exact perm3 _ _ _ _ | exact perm4 _ _ _ _ _) T.sz_api_Head (by rfl) (by rfl) ?_
    refine hl_nil (then_n (hc_block (hc_seq ?_)))
    refine hc_letgo (rows [hs.getD k default]) ⟨[], List.append_nil _⟩ ?_
    refine hc_region ?_
    refine r_fieldAddr ⟨_, 2, none⟩ rfl rfl T.fa_api_Head_2 rfl ?_
    refine r_load rfl T.cell_int rfl (cell_rowg mB rfl) ?_
    refine r_neq rfl rfl rfl (r_assign rfl rfl (hl_nil (then_n ?_)))
    refine c_dec rfl (fun hb5 => ?_) (fun hb5 => ?_)
    ·have hb5' := hb5; try simp at hb5'
     refine hc_drawW (og2) ([_]) (List.perm_append_comm (l₁ := [_])) 11 [10] mixed (by decide) (by decide) (by decide) rfl rfl rfl ?_
     refine hb_ex _ rfl rfl rfl (fun w1 => r_move rfl rfl (hl_nil (qe_done rfl))) ?_
     refine hb_ex _ rfl rfl rfl (fun w1 => r_move rfl rfl (hl_nil (qe_done rfl))) ?_
     refine hb_ex _ rfl rfl rfl (fun w1 => r_nilCheck rfl rfl (hl_nil (qe_done rfl))) ?_
     refine hb_ex _ rfl rfl rfl (fun w1 => r_fieldAddr ⟨_, 3, none⟩ rfl rfl T.fa_trade_list_2 rfl (hl_nil (qe_done rfl))) ?_
     refine hb_ex _ rfl rfl rfl (fun w1 => r_load rfl T.cell_L_trade_kind rfl (cell_blk mB rfl) (hl_nil (qe_done rfl))) ?_
     refine hb_ex _ rfl rfl rfl (fun w1 => r_fieldAddr ⟨_, 2, none⟩ rfl rfl T.fa_api_Head_2 rfl (hl_nil (qe_done rfl))) ?_
     refine hb_ex _ rfl rfl rfl (fun w1 => r_load rfl T.cell_int rfl (cell_rowg mB rfl) (hl_nil (qe_done rfl))) ?_
     refine hb_ex _ rfl rfl rfl (fun w1 => r_build _ rfl rfl (fun _ => T.bd_trade_pointer_0 ..) (hl_nil (qe_done rfl))) ?_
     refine hb_ex _ rfl rfl rfl (fun w1 => r_mkI rfl ⟨_, Try.underlying187, rfl⟩ rfl (hl_nil (qe_done rfl))) ?_
     refine hb_vs ⟨Nat, fun _ => True, fun g => .slice (some ⟨g, 0, none⟩) 1 1, fun g => [Row (some ⟨g, 0, none⟩) (rows [Kd.ptr (hs.getD k default).2.2.1])]⟩ rfl rfl rfl ?_ ?_
     ·intro w1
      refine r_buildSlice _ rfl rfl (fun _ => T.bs_L_trade_kind_1 ..) fun gS => ?_
      refine hl_nil ?_
      refine hq_letgo (rows [Kd.ptr (hs.getD k default).2.2.1]) (List.prefix_refl _) ?_
      exact qv_done gS trivial rfl ⟨m0, trivial⟩
     refine hb_wr ⟨OutC × Hp, fun x => Grow T.trade_kind 1 x.1.1 (k + 1) x.1.2 (rows (kindsN hs k ++ [Kd.ptr (hs.getD k default).2.2.1])) x.2, fun x => .slice x.1.1 (k + 1) x.1.2, fun _ => [], fun x => x.2⟩ rfl rfl rfl ?_ ?_
     ·intro g9 _; intro w1
      refine r_append (k + 1) (rows (kindsN hs k ++ [Kd.ptr (hs.getD k default).2.2.1])) T.el_L_trade_kind rfl rfl rfl hG (hp' := []) (by rw [List.append_nil]) (Src.row (news := rows [Kd.ptr (hs.getD k default).2.2.1]) (m := 1) m0 rfl (rows_one _) (by decide)) rfl (rows_append _ _).symm (by unfold maxLen; omega) (by omega) fun A' c' og' hG' => ?_
      refine hl_nil ?_
      exact qw_done ((A', c'), og') hG' (fun _ => rfl) (by rw [List.append_nil]; exact .refl _) trivial
     refine hb_nil ⟨rfl, ?_⟩
     intro g9 _ x hx
     obtain ⟨⟨xa, xc⟩, xo⟩ := x
     simp only at hx
     refine r_nilCheck rfl rfl ?_
     refine r_fieldAddr ⟨_, 3, none⟩ rfl rfl T.fa_trade_list_2 rfl ?_
     refine r_store rfl rfl (pmC _ _) T.sz_L_trade_kind (by rfl) (by rfl) ?_
     refine hl_nil (inb_n (inb_n (then_n (hc_region ?_))))
     refine r_add _ rfl rfl rfl rfl (by unfold I64; omega) ?_
     refine r_move rfl rfl (hl_nil ?_)
     exact again _ (k + 1, (xa, xc), xo) ⟨by show k + 1 ≤ hs.length; omega, by show Grow _ _ _ _ _ (rows (kindsN hs (k + 1))) _; rw [kinds_succ hk2, kindOf, if_pos hb5]; exact hx⟩ (by show hs.length - (k + 1) < hs.length - k; omega) ⟨rfl, rfl, rfl, rfl, trivial⟩ (List.Sublist.refl _) ⟨mB, mB, mB, mB, trivial⟩
    ·have hb5' := hb5; try simp at hb5'
     refine hc_seq (hc_region ?_)
     refine r_fieldAddr ⟨_, 1, none⟩ rfl rfl T.fa_api_Head_1 rfl ?_
     refine r_load rfl T.cell_int rfl (cell_rowg mB rfl) ?_
     refine r_neq rfl rfl rfl (r_assign rfl rfl (hl_nil (then_n ?_)))
     refine c_dec rfl (fun hb6 => ?_) (fun hb6 => ?_)
     ·have hb6' := hb6; try simp at hb6'
      refine hc_drawW (og2) ([_]) (List.perm_append_comm (l₁ := [_])) 13 [12] mixed (by decide) (by decide) (by decide) rfl rfl rfl ?_
      refine hb_ex _ rfl rfl rfl (fun w1 => r_move rfl rfl (hl_nil (qe_done rfl))) ?_
      refine hb_ex _ rfl rfl rfl (fun w1 => r_move rfl rfl (hl_nil (qe_done rfl))) ?_
      refine hb_ex _ rfl rfl rfl (fun w1 => r_nilCheck rfl rfl (hl_nil (qe_done rfl))) ?_
      refine hb_ex _ rfl rfl rfl (fun w1 => r_fieldAddr ⟨_, 3, none⟩ rfl rfl T.fa_trade_list_2 rfl (hl_nil (qe_done rfl))) ?_
      refine hb_ex _ rfl rfl rfl (fun w1 => r_load rfl T.cell_L_trade_kind rfl (cell_blk mB rfl) (hl_nil (qe_done rfl))) ?_
      refine hb_ex _ rfl rfl rfl (fun w1 => r_fieldAddr ⟨_, 1, none⟩ rfl rfl T.fa_api_Head_1 rfl (hl_nil (qe_done rfl))) ?_
      refine hb_ex _ rfl rfl rfl (fun w1 => r_load rfl T.cell_int rfl (cell_rowg mB rfl) (hl_nil (qe_done rfl))) ?_
      refine hb_ex _ rfl rfl rfl (fun w1 => r_fieldAddr ⟨_, 3, none⟩ rfl rfl T.fa_api_Head_3 rfl (hl_nil (qe_done rfl))) ?_
      refine hb_ex _ rfl rfl rfl (fun w1 => r_load rfl T.cell_ints rfl (cell_rowg mB rfl) (hl_nil (qe_done rfl))) ?_
      refine hb_ex _ rfl rfl rfl (fun w1 => r_build _ rfl rfl (fun _ => T.bd_trade_article_0_1 ..) (hl_nil (qe_done rfl))) ?_
      refine hb_ex _ rfl rfl rfl (fun w1 => r_mkI rfl ⟨_, Try.underlying189, rfl⟩ rfl (hl_nil (qe_done rfl))) ?_
      refine hb_vs ⟨Nat, fun _ => True, fun g => .slice (some ⟨g, 0, none⟩) 1 1, fun g => [Row (some ⟨g, 0, none⟩) (rows [Kd.art (hs.getD k default).2.1 (hs.getD k default).2.2.2])]⟩ rfl rfl rfl ?_ ?_
      ·intro w1
       refine r_buildSlice _ rfl rfl (fun _ => T.bs_L_trade_kind_1 ..) fun gS => ?_
       refine hl_nil ?_
       refine hq_letgo (rows [Kd.art (hs.getD k default).2.1 (hs.getD k default).2.2.2]) (List.prefix_refl _) ?_
       exact qv_done gS trivial rfl ⟨m0, trivial⟩
      refine hb_wr ⟨OutC × Hp, fun x => Grow T.trade_kind 1 x.1.1 (k + 1) x.1.2 (rows (kindsN hs k ++ [Kd.art (hs.getD k default).2.1 (hs.getD k default).2.2.2])) x.2, fun x => .slice x.1.1 (k + 1) x.1.2, fun _ => [], fun x => x.2⟩ rfl rfl rfl ?_ ?_
      ·intro g9 _; intro w1
       refine r_append (k + 1) (rows (kindsN hs k ++ [Kd.art (hs.getD k default).2.1 (hs.getD k default).2.2.2])) T.el_L_trade_kind rfl rfl rfl hG (hp' := []) (by rw [List.append_nil]) (Src.row (news := rows [Kd.art (hs.getD k default).2.1 (hs.getD k default).2.2.2]) (m := 1) m0 rfl (rows_one _) (by decide)) rfl (rows_append _ _).symm (by unfold maxLen; omega) (by omega) fun A' c' og' hG' => ?_
       refine hl_nil ?_
       exact qw_done ((A', c'), og') hG' (fun _ => rfl) (by rw [List.append_nil]; exact .refl _) trivial
      refine hb_nil ⟨rfl, ?_⟩
      intro g9 _ x hx
      obtain ⟨⟨xa, xc⟩, xo⟩ := x
      simp only at hx
      refine r_nilCheck rfl rfl ?_
      refine r_fieldAddr ⟨_, 3, none⟩ rfl rfl T.fa_trade_list_2 rfl ?_
      refine r_store rfl rfl (pmC _ _) T.sz_L_trade_kind (by rfl) (by rfl) ?_
      refine hl_nil (inb_n (inb_n (then_n (hc_region ?_))))
      refine r_add _ rfl rfl rfl rfl (by unfold I64; omega) ?_
      refine r_move rfl rfl (hl_nil ?_)
      exact again _ (k + 1, (xa, xc), xo) ⟨by show k + 1 ≤ hs.length; omega, by show Grow _ _ _ _ _ (rows (kindsN hs (k + 1))) _; rw [kinds_succ hk2, kindOf, if_neg hb5, if_pos hb6]; exact hx⟩ (by show hs.length - (k + 1) < hs.length - k; omega) ⟨rfl, rfl, rfl, rfl, trivial⟩ (List.Sublist.refl _) ⟨mB, mB, mB, mB, trivial⟩
     ·have hb6' := hb6; try simp at hb6'
      refine hc_drawW (og2) ([_]) (List.perm_append_comm (l₁ := [_])) 11 [10] mixed (by decide) (by decide) (by decide) rfl rfl rfl ?_
      refine hb_ex _ rfl rfl rfl (fun w1 => r_move rfl rfl (hl_nil (qe_done rfl))) ?_
      refine hb_ex _ rfl rfl rfl (fun w1 => r_move rfl rfl (hl_nil (qe_done rfl))) ?_
      refine hb_ex _ rfl rfl rfl (fun w1 => r_nilCheck rfl rfl (hl_nil (qe_done rfl))) ?_
      refine hb_ex _ rfl rfl rfl (fun w1 => r_fieldAddr ⟨_, 3, none⟩ rfl rfl T.fa_trade_list_2 rfl (hl_nil (qe_done rfl))) ?_
      refine hb_ex _ rfl rfl rfl (fun w1 => r_load rfl T.cell_L_trade_kind rfl (cell_blk mB rfl) (hl_nil (qe_done rfl))) ?_
      refine hb_ex _ rfl rfl rfl (fun w1 => r_fieldAddr ⟨_, 3, none⟩ rfl rfl T.fa_api_Head_3 rfl (hl_nil (qe_done rfl))) ?_
      refine hb_ex _ rfl rfl rfl (fun w1 => r_load rfl T.cell_ints rfl (cell_rowg mB rfl) (hl_nil (qe_done rfl))) ?_
      refine hb_ex _ rfl rfl rfl (fun w1 => r_build _ rfl rfl (fun _ => T.bd_trade_index_0 ..) (hl_nil (qe_done rfl))) ?_
      refine hb_ex _ rfl rfl rfl (fun w1 => r_mkI rfl ⟨_, Try.underlying191, rfl⟩ rfl (hl_nil (qe_done rfl))) ?_
      refine hb_vs ⟨Nat, fun _ => True, fun g => .slice (some ⟨g, 0, none⟩) 1 1, fun g => [Row (some ⟨g, 0, none⟩) (rows [Kd.idx (hs.getD k default).2.2.2])]⟩ rfl rfl rfl ?_ ?_
      ·intro w1
       refine r_buildSlice _ rfl rfl (fun _ => T.bs_L_trade_kind_1 ..) fun gS => ?_
       refine hl_nil ?_
       refine hq_letgo (rows [Kd.idx (hs.getD k default).2.2.2]) (List.prefix_refl _) ?_
       exact qv_done gS trivial rfl ⟨m0, trivial⟩
      refine hb_wr ⟨OutC × Hp, fun x => Grow T.trade_kind 1 x.1.1 (k + 1) x.1.2 (rows (kindsN hs k ++ [Kd.idx (hs.getD k default).2.2.2])) x.2, fun x => .slice x.1.1 (k + 1) x.1.2, fun _ => [], fun x => x.2⟩ rfl rfl rfl ?_ ?_
      ·intro g9 _; intro w1
       refine r_append (k + 1) (rows (kindsN hs k ++ [Kd.idx (hs.getD k default).2.2.2])) T.el_L_trade_kind rfl rfl rfl hG (hp' := []) (by rw [List.append_nil]) (Src.row (news := rows [Kd.idx (hs.getD k default).2.2.2]) (m := 1) m0 rfl (rows_one _) (by decide)) rfl (rows_append _ _).symm (by unfold maxLen; omega) (by omega) fun A' c' og' hG' => ?_
       refine hl_nil ?_
       exact qw_done ((A', c'), og') hG' (fun _ => rfl) (by rw [List.append_nil]; exact .refl _) trivial
      refine hb_nil ⟨rfl, ?_⟩
      intro g9 _ x hx
      obtain ⟨⟨xa, xc⟩, xo⟩ := x
      simp only at hx
      refine r_nilCheck rfl rfl ?_
      refine r_fieldAddr ⟨_, 3, none⟩ rfl rfl T.fa_trade_list_2 rfl ?_
      refine r_store rfl rfl (pmC _ _) T.sz_L_trade_kind (by rfl) (by rfl) ?_
      refine hl_nil (inb_n (inb_n (then_n (hc_region ?_))))
      refine r_add _ rfl rfl rfl rfl (by unfold I64; omega) ?_
      refine r_move rfl rfl (hl_nil ?_)
      exact again _ (k + 1, (xa, xc), xo) ⟨by show k + 1 ≤ hs.length; omega, by show Grow _ _ _ _ _ (rows (kindsN hs (k + 1))) _; rw [kinds_succ hk2, kindOf, if_neg hb5, if_neg hb6]; exact hx⟩ (by show hs.length - (k + 1) < hs.length - k; omega) ⟨rfl, rfl, rfl, rfl, trivial⟩ (List.Sublist.refl _) ⟨mB, mB, mB, mB, trivial⟩
   ·have hb4' := hb4; try simp at hb4'
    have hk2 : k = hs.length := by omega
    subst hk2
    refine hc_exit (then_exit (then_exit (inb_hit (then_n (hc_seq (hc_region (r_move rfl rfl (r_assign rfl rfl (r_assign rfl rfl (hl_nil (then_n ?_)))))))))))
    refine hc_ret ?_
    have h0 := Classical.not_not.1 hb1
    refine hq_letgo [.slice A cs.length ca, .slice B hs.length cb, .slice oa cs.length oc, .slice ka hs.length kc] (List.prefix_refl _) ?_
    refine hq_grown0 hG ?_
    exact ret2 (gB_1, (oa, oc), (ka, kc)) rfl rfl rfl (by show Value.tuple #[if checkT (trOf cs hs) = 0 then _ else _, int (checkT (trOf cs hs))] = _; rw [if_pos h0, h0]) rfl trivial (List.nil_sublist _) (by show LSub _ (if checkT (trOf cs hs) = 0 then _ else []); rw [if_pos h0]; exact ⟨mB, mB, mB, trivial⟩)
end Go.Proofs.Ytdlbbfcfahahdaa
end
section
namespace Go.Proofs.Ytdlbbfcfahahdaa
open Go Go.W
set_option maxRecDepth 20000
attribute [local irreducible] HL HC HQ HB Row Rows2 Blk Facts
def leastE (t : Tr) (a b : Int) : Int × Int := if ¬ checkT t = 0 then (0, checkT t) else if ¬ ((0 ≤ a ∧ a ≤ (t.cs.length : Int) - 1) ∧ (0 ≤ b ∧ b ≤ (t.cs.length : Int) - 1)) then (0, 3) else (leastT t a b, 0)
end Go.Proofs.Ytdlbbfcfahahdaa
end
section
namespace Go.Proofs.Ytdlbbfcfahahdaa
open Go Go.W
set_option maxRecDepth 20000
attribute [local irreducible] HL HC HQ HB Row Rows2 Blk Facts
def Kd.isP : Kd → Bool | .ptr _ => true | _ => false
def Kd.isA : Kd → Bool | .art _ _ => true | _ => false
def Kd.see : Kd → Int | .ptr s => s | _ => 0
def Kd.cls : Kd → Int | .art c _ => c | _ => 0
def Kd.als : Kd → Sl Int | .art _ a => a | _ => ⟨none, 0, []⟩
section
variable {c : Cx} {Q : Exit → Act → World → Prop} {fr : Fr} {hp : Hp} {L : List Fact} {ops : Array Oper} {rest : List Oper} {d : Tmp} {ty : TypeId} {pos : String} {af : Array Edge}
end
theorem kind_get {hs : List Hd} {i : Nat} (h : i < hs.length) : (kindsN hs hs.length).getD i default = kindOf (hs.getD i default) := by
  rw [getD_at (by rw [kinds_len (Nat.le_refl _)]; exact h), getD_at h]
  simp [kindsN]
abbrev folR (o : Option (Int × Int)) : Value := .tuple #[int (o.getD (0, 0)).1, int (o.getD (0, 0)).2, .bool o.isSome]
def SeesOK (hs : List Hd) : Prop := ∀ i, i < hs.length → -1 ≤ (hs.getD i default).2.2.1 ∧ (hs.getD i default).2.2.1 < (hs.length : Int)
def askE (t : Tr) (l : List Int) : Int := if ¬ checkT t = 0 then checkT t else if l.all (fun x => decide (0 ≤ x ∧ x ≤ (t.hs.length : Int) - 1)) then 0 else 3
theorem ask_bad {t : Tr} {l : List Int} {k : Nat} (h0 : checkT t = 0) (hk : k < l.length) (h : ¬ (0 ≤ l.getD k default ∧ l.getD k default ≤ (t.hs.length : Int) - 1)) : askE t l = 3 := by
  rw [askE, if_neg (not_not_intro h0), if_neg]
  intro e
  exact h (of_decide_eq_true (List.all_eq_true.1 e _ (getD_mem hk)))
theorem ask_ok {t : Tr} {l : List Int} (h0 : checkT t = 0) (h : ∀ i, i < l.length → 0 ≤ l.getD i default ∧ l.getD i default ≤ (t.hs.length : Int) - 1) : askE t l = 0 := by
  rw [askE, if_neg (not_not_intro h0), if_pos]
  rw [List.all_eq_true]
  intro x hx
  obtain ⟨i, hi, rfl⟩ := List.getElem_of_mem hx
  rw [decide_eq_true_eq, ← getD_at hi]
  exact h i hi
theorem ask_check {t : Tr} {l : List Int} (h : askE t l = 0) : checkT t = 0 := by
  unfold askE at h
  split at h
  · exact h
  · rename_i h1; exact Classical.not_not.1 h1
theorem ask_in {t : Tr} {l : List Int} (h : askE t l = 0) {x : Int} (hx : x ∈ l) : 0 ≤ x ∧ x ≤ (t.hs.length : Int) - 1 := by
  have h0 := ask_check h
  rw [askE, if_neg (not_not_intro h0)] at h
  split at h
  · rename_i h1; exact of_decide_eq_true (List.all_eq_true.1 h1 x hx)
  · omega
set_option maxHeartbeats 1000000 in
theorem trade_ask_meets {C : Option Addr} {cc : Nat} {A B : Option Addr} {ca cb : Nat} (cs : List Cl) (hs : List Hd) (l : List Int) (hca : cs.length ≤ ca) (hcb : hs.length ≤ cb) (ha : ∀ h ∈ hs, h.2.2.2.l.length ≤ 1000000) (hl : l.length ≤ 1000000) : Meets Try.prog F.trade_ask [.agg #[.slice A cs.length ca, .slice B hs.length cb], .slice C l.length cc] { LI := [Row A (rows cs), RowsF B hs Hd.row, Row C (rows l)], val := fun x : Nat × OutC × OutC => .tuple #[if askE (trOf cs hs) l = 0 then .pointer (some ⟨x.1, 0, none⟩) else .pointer none, int (askE (trOf cs hs) l)], LO := fun x => if askE (trOf cs hs) l = 0 then beginL cs hs A ca B cb x else [] } := by
 refine meets_intro F.trade_ask_f rfl (Nat.le_of_ble_eq_true rfl) fun w0 => ?_
 refine hc_seq (hc_region ?_)
 refine r_box rfl rfl fun gB => ?_
 refine r_assign rfl rfl (r_assign rfl rfl (hl_nil (then_n ?_)))
 refine hc_cut ⟨fun _ : Nat × OutC × OutC => True, fun x => [(1, .slice C l.length cc), (2, .pointer (some ⟨gB, 0, none⟩)), (6, if checkT (trOf cs hs) = 0 then .pointer (some ⟨x.1, 0, none⟩) else .pointer none), (7, int (checkT (trOf cs hs)))], fun _ => [(gB, .cells #[.slice A cs.length ca, .slice B hs.length cb] T.api_Trades (0, 0))], fun x => (if checkT (trOf cs hs) = 0 then beginL cs hs A ca B cb x else []) ++ [Row A (rows cs), RowsF B hs Hd.row, Row C (rows l)]⟩ ?_ ?_
 ·skip
  refine hc_region ?_
  refine r_loadA rfl T.row_api_Trades T.sz_api_Trades rfl mB (by rfl) ?_
  refine hl_call F.trade_begin_cb rfl rfl (trade_begin_meets cs hs hca hcb ha) (List.Perm.refl _) ⟨mB, mB, trivial⟩ fun x _ => ?_
  refine r_move rfl rfl (r_extract rfl rfl rfl (r_extract rfl rfl rfl (r_assign rfl rfl (r_assign rfl rfl (hl_nil ?_)))))
  exact cut_n _ x trivial ⟨rfl, rfl, rfl, rfl, trivial⟩ (List.Sublist.refl _) (LSub.of_mem fun F h => h)
 ·refine fun x _ => ?_
  dsimp only
  refine hc_seq (hc_seq (hc_region (r_move rfl rfl (r_neq rfl rfl rfl (hl_nil (then_n ?_))))))
  refine c_dec rfl (fun hb1 => ?_) (fun hb1 => ?_)
  ·have hb1' := hb1; try simp at hb1'
   have hE : askE (trOf cs hs) l = checkT (trOf cs hs) := by rw [askE, if_pos hb1]
   have hnz : ¬ askE (trOf cs hs) l = 0 := by rw [hE]; exact hb1
   refine hc_seq (hc_region (r_move rfl rfl (r_assign rfl rfl (r_assign rfl rfl (hl_nil (then_n (hc_ret (then_ret ?_))))))))
   exact ret2 (0, (none, 0), (none, 0)) rfl rfl rfl (by show Value.tuple #[if askE (trOf cs hs) l = 0 then _ else _, int (askE (trOf cs hs) l)] = _; rw [if_neg hnz, hE]) rfl trivial (List.nil_sublist _) (by show LSub _ (if askE (trOf cs hs) l = 0 then _ else []); rw [if_neg hnz]; trivial)
  ·have hb1' := hb1; try simp at hb1'
   have h0 := Classical.not_not.1 hb1
   rw [if_pos h0, if_pos h0]
   have hln := hs_len cs hs
   have hok := tr_ok h0
   have h6 : cs.length ≤ 6 := hok.c6
   have h6h := hok.h6
   rw [hs_len] at h6h
   have hcl : ∀ i, i < cs.length → ClsOK cs i := hok.c
   obtain ⟨gl, ⟨oa, oc⟩, ⟨ka, kc⟩⟩ := x
   show HC _ _ _ _ _ [Row (some ⟨gl, 0, none⟩) [.slice A cs.length ca, .slice B hs.length cb, .slice oa cs.length oc, .slice ka hs.length kc], Row oa (rows (masksN cs cs.length)), Row ka (rows (kindsN hs hs.length)), Row A (rows cs), RowsF B hs Hd.row, Row C (rows l)]
   refine hc_skip (then_n (hc_seq (hc_seq (hc_region (r_move rfl rfl ?_)))))
   refine r_len_sl rfl T.u_ints rfl ?_
   refine r_move rfl rfl (hl_nil (then_n (hc_block ?_)))
   refine hc_loop (β := Nat) ⟨fun k => k ≤ l.length ∧ ∀ i, i < k → 0 ≤ l.getD i default ∧ l.getD i default ≤ (hs.length : Int) - 1, fun k => [(2, .pointer (some ⟨gB, 0, none⟩)), (6, .pointer (some ⟨gl, 0, none⟩)), (18, .slice C l.length cc), (19, int l.length), (20, int k)], fun _ => [(gB, .cells #[.slice A cs.length ca, .slice B hs.length cb] T.api_Trades (0, 0))], fun _ => [Row (some ⟨gl, 0, none⟩) [.slice A cs.length ca, .slice B hs.length cb, .slice oa cs.length oc, .slice ka hs.length kc], Row oa (rows (masksN cs cs.length)), Row ka (rows (kindsN hs hs.length)), Row A (rows cs), RowsF B hs Hd.row, Row C (rows l)]⟩ (fun k => l.length - k) 0 ⟨Nat.zero_le _, fun i hi => by omega⟩ ⟨rfl, rfl, rfl, rfl, rfl, trivial⟩ (List.Sublist.refl _) ⟨mB, mB, mB, mB, mB, mB, trivial⟩ fun k hk => ?_
   obtain ⟨hk, ht⟩ := hk
   refine hc_seq (hc_region (r_lss rfl rfl rfl (hl_nil (then_n (hc_seq ?_)))))
   refine c_dec rfl (fun hb2 => ?_) (fun hb2 => ?_)
   ·have hb2' := hb2; try simp at hb2'
    have hk2 : k < l.length := by omega
    refine hc_skip (then_n (hc_seq (hc_block (hc_seq (hc_region ?_)))))
    refine r_elem (α := Int) _ _ rfl T.u_ints T.sz_int rfl rfl rfl mB rfl (by omega) (by decide) ?_
    refine r_load rfl T.cell_int rfl (cell_row mB (rows_get0 (by omega) rfl)) ?_
    refine r_assign rfl rfl (hl_nil (then_n (hc_seq (hc_region (r_move rfl rfl ?_)))))
    refine r_fieldAddr ⟨_, 1, none⟩ rfl rfl T.fa_api_Trades_1 rfl ?_
    refine r_load rfl T.cell_L_api_Head rfl (cell_own mB rfl) ?_
    refine r_len_sl rfl T.u_L_api_Head rfl ?_
    refine r_sub _ rfl rfl rfl rfl (by unfold I64; omega) ?_
    refine hl_call F.trade_between_cb rfl rfl (trade_between_meets _ _ _) (List.Perm.refl _) trivial fun _ _ => ?_
    refine r_not rfl rfl (hl_nil (then_n ?_))
    refine hc_cond rfl (fun hb3 => ?_) (fun hb3 => ?_)
    ·have hb3' := hb3; try simp at hb3'
     have hE : askE (trOf cs hs) l = 3 := ask_bad h0 hk2 (by rw [hln]; exact nbw hb3)
     have hnz : ¬ askE (trOf cs hs) l = 0 := by rw [hE]; decide
     refine hc_seq (hc_region (r_assign rfl rfl (r_assign rfl rfl (hl_nil (then_n (hc_ret (inb_ret (then_ret (then_ret (inb_ret (then_ret ?_)))))))))))
     exact ret2 (0, (none, 0), (none, 0)) rfl rfl rfl (by show Value.tuple #[if askE (trOf cs hs) l = 0 then _ else _, int (askE (trOf cs hs) l)] = _; rw [if_neg hnz, hE]) rfl trivial (List.nil_sublist _) (by show LSub _ (if askE (trOf cs hs) l = 0 then _ else []); rw [if_neg hnz]; trivial)
    ·have hb3' := hb3; try simp at hb3'
     refine hc_skip (inb_n (then_n (hc_region ?_)))
     refine r_add _ rfl rfl rfl rfl (by unfold I64; omega) ?_
     refine r_move rfl rfl (hl_nil ?_)
     have hin := bw hb3
     exact again _ (k + 1) ⟨by omega, fun i hi => by rcases Nat.lt_or_ge i k with h | h; exact ht i h; rw [show i = k by omega]; exact hin⟩ (by show l.length - (k + 1) < l.length - k; omega) ⟨rfl, rfl, rfl, rfl, rfl, trivial⟩ (List.Sublist.refl _) ⟨mB, mB, mB, mB, mB, mB, trivial⟩
   ·have hb2' := hb2; try simp at hb2'
    have hk2 : k = l.length := by omega
    subst hk2
    have hE : askE (trOf cs hs) l = 0 := ask_ok h0 (by rw [hln]; exact ht)
    refine hc_exit (then_exit (then_exit (inb_hit (then_n (hc_seq (hc_region (r_move rfl rfl (r_assign rfl rfl (r_assign rfl rfl (hl_nil (then_n ?_)))))))))))
    refine hc_ret ?_
    exact ret2 (gl, (oa, oc), (ka, kc)) rfl rfl rfl (by show Value.tuple #[if askE (trOf cs hs) l = 0 then _ else _, int (askE (trOf cs hs) l)] = _; rw [if_pos hE, hE]) rfl trivial (List.nil_sublist _) (by show LSub _ (if askE (trOf cs hs) l = 0 then _ else []); rw [if_pos hE]; exact ⟨mB, mB, mB, trivial⟩)
end Go.Proofs.Ytdlbbfcfahahdaa
end
section
namespace Go.Proofs.Ytdlbbfcfahahdaa
open Go Go.W
set_option maxRecDepth 20000
attribute [local irreducible] HL HC HQ HB Row Rows2 Blk Facts
def followE (t : Tr) (h : Int) : Int × Int × Int := if ¬ askE t [h] = 0 then (0, 0, askE t [h]) else if (followT t h).isSome = false then (0, 0, 9) else (((followT t h).getD (0, 0)).1, ((followT t h).getD (0, 0)).2, 0)
def MaySet (t : Tr) (b : Str) (k m : Nat) : Prop := m < 256 ∧ ∀ j, m.testBit j = (List.range k).any fun h => leadsB t b h j
def mayK (m k : Nat) : List Int := ((List.range k).filter fun i => m.testBit i).map fun i : Nat => (i : Int)
end Go.Proofs.Ytdlbbfcfahahdaa
end
section
namespace Go.Proofs.Ytdlbbfcfahahdaa
open Go Go.W
set_option maxRecDepth 20000
attribute [local irreducible] HL HC HQ HB Row Rows2 Blk Facts
def mayE (t : Tr) (b : Str) : List Int × Int := if ¬ checkT t = 0 then ([], checkT t) else (mayT t b, 0)
def shortE (t : Tr) (h : Int) : Str × Int := if ¬ askE t [h] = 0 then ([], askE t [h]) else match shortT t h with | none => ([], 11) | some s => (s, 0)
end Go.Proofs.Ytdlbbfcfahahdaa
end
section
namespace Go.Proofs.Ytdlbbfcfahahdaa
open Go Go.W
set_option maxRecDepth 20000
attribute [local irreducible] HL HC HQ HB Row Rows2 Blk Facts
end Go.Proofs.Ytdlbbfcfahahdaa
end
section
namespace Go.Proofs.Ytdlbbfcfahahdaa
open Go Go.W
set_option maxRecDepth 20000
attribute [local irreducible] HL HC HQ HB Row Rows2 Blk Facts
def hitB (s : Str) (h : Hd) : Bool := decide (h.1 = s) && decide (¬ h.2.1 = -1)
def nameOf (cs : List Cl) (c : Int) : Str := (cs.getD c.toNat default).1
end Go.Proofs.Ytdlbbfcfahahdaa
end
section
namespace Go.Proofs.Ytdlbbfcfahahdaa
open Go Go.W
set_option maxRecDepth 20000
attribute [local irreducible] HL HC HQ HB Row Rows2 Blk Facts
def dice (g : Nat) (A : Option Addr) (c : Nat) (nums : List Int) (s : Int × Int) : Nat × Obj := (g, .cells #[.slice A nums.length c, int s.1, .int .u64 s.2] T.wayzgoosekit_Dice (0, 0))
def DOK (nums : List Int) (s : Int × Int) : Prop := 0 ≤ s.1 ∧ s.1 ≤ nums.length ∧ 0 ≤ s.2 ∧ s.2 < 18446744073709551616
def diceCon {β : Type} (g : Nat) (A : Option Addr) (c : Nat) (nums : List Int) (s : Int × Int) (inv : β → Prop) (val : β → Value) (LO : β → List Fact) : Con ((Int × Int) × β) :=
  { hpI := [dice g A c nums s], LI := [Row A (rows nums)], inv := fun x => DOK nums x.1 ∧ inv x.2, val := fun x => val x.2, hpO := fun x => [dice g A c nums x.1], LO := fun x => LO x.2 }
theorem kit_Dice_raw_meets {g : Nat} {A : Option Addr} {c : Nat} {nums : List Int} {s : Int × Int} (hn : nums.length ≤ 9223372036854775807) (hs : DOK nums s) :
    Meets Try.prog F.kit_Dice_raw [.pointer (some ⟨g, 0, none⟩)] (diceCon g A c nums s (fun z : Int => 0 ≤ z ∧ z < 18446744073709551616) (fun z => .int .u64 z) (fun _ => [])) := by
 obtain ⟨p, q⟩ := s
 obtain ⟨h1, h2, h3, h4⟩ := hs
 simp only at h1 h2 h3 h4
 obtain ⟨pn, rfl⟩ := Int.eq_ofNat_of_zero_le h1
 refine meets_intro F.kit_Dice_raw_f rfl (Nat.le_of_ble_eq_true rfl) fun w0 => ?_
 refine hc_seq (hc_region (r_assign rfl rfl (hl_nil (then_n (hc_seq ?_)))))
 refine hc_draw 11 mixed (by decide) (by decide) rfl rfl ?_
 refine hb_ex _ rfl rfl rfl (fun w1 => r_move rfl rfl (hl_nil (qe_done rfl))) ?_
 refine hb_ex _ rfl rfl rfl (fun w1 => r_move rfl rfl (hl_nil (qe_done rfl))) ?_
 refine hb_ex _ rfl rfl rfl (fun w1 => r_nilCheck rfl rfl (hl_nil (qe_done rfl))) ?_
 refine hb_ex _ rfl rfl rfl (fun w1 => r_fieldAddr ⟨_, 2, none⟩ rfl rfl T.fa_wayzgoosekit_Dice_2 rfl (hl_nil (qe_done rfl))) ?_
 refine hb_ex _ rfl rfl rfl (fun w1 => r_load rfl T.cell_u64 rfl (cell_blk mB rfl) (hl_nil (qe_done rfl))) ?_
 refine hb_ex _ rfl rfl rfl (fun w1 => r_move rfl rfl (hl_nil (qe_done rfl))) ?_
 refine hb_ex _ rfl rfl rfl (fun w1 => r_nilCheck rfl rfl (hl_nil (qe_done rfl))) ?_
 refine hb_ex _ rfl rfl rfl (fun w1 => r_fieldAddr ⟨_, 2, none⟩ rfl rfl T.fa_wayzgoosekit_Dice_2 rfl (hl_nil (qe_done rfl))) ?_
 refine hb_ex _ rfl rfl rfl (fun w1 => r_load rfl T.cell_u64 rfl (cell_blk mB rfl) (hl_nil (qe_done rfl))) ?_
 refine hb_ex _ rfl rfl rfl (fun w1 => r_bin _ rfl rfl rfl (fun _ => rfl) (fun _ => rfl) (hl_nil (qe_done rfl))) ?_
 refine hb_ex _ rfl rfl rfl (fun w1 => r_bin _ rfl rfl rfl (fun _ => rfl) (fun _ => rfl) (hl_nil (qe_done rfl))) ?_
 refine hb_nil ⟨rfl, ?_⟩
 refine r_nilCheck rfl rfl ?_
 refine r_fieldAddr ⟨_, 2, none⟩ rfl rfl T.fa_wayzgoosekit_Dice_2 rfl ?_
 refine r_store rfl rfl (by first | exact .refl _ | exact perm2 _ _ _ | exact perm3 _ _ _ _ | exact perm4 _ _ _ _ _) T.sz_u64 (by rfl) (by rfl) ?_
 refine hl_nil (then_n (hc_seq ?_))
 refine hc_draw 11 mixed (by decide) (by decide) rfl rfl ?_
 refine hb_ex _ rfl rfl rfl (fun w1 => r_move rfl rfl (hl_nil (qe_done rfl))) ?_
 refine hb_ex _ rfl rfl rfl (fun w1 => r_move rfl rfl (hl_nil (qe_done rfl))) ?_
 refine hb_ex _ rfl rfl rfl (fun w1 => r_nilCheck rfl rfl (hl_nil (qe_done rfl))) ?_
 refine hb_ex _ rfl rfl rfl (fun w1 => r_fieldAddr ⟨_, 2, none⟩ rfl rfl T.fa_wayzgoosekit_Dice_2 rfl (hl_nil (qe_done rfl))) ?_
 refine hb_ex _ rfl rfl rfl (fun w1 => r_load rfl T.cell_u64 rfl (cell_blk mB rfl) (hl_nil (qe_done rfl))) ?_
 refine hb_ex _ rfl rfl rfl (fun w1 => r_move rfl rfl (hl_nil (qe_done rfl))) ?_
 refine hb_ex _ rfl rfl rfl (fun w1 => r_nilCheck rfl rfl (hl_nil (qe_done rfl))) ?_
 refine hb_ex _ rfl rfl rfl (fun w1 => r_fieldAddr ⟨_, 2, none⟩ rfl rfl T.fa_wayzgoosekit_Dice_2 rfl (hl_nil (qe_done rfl))) ?_
 refine hb_ex _ rfl rfl rfl (fun w1 => r_load rfl T.cell_u64 rfl (cell_blk mB rfl) (hl_nil (qe_done rfl))) ?_
 refine hb_ex _ rfl rfl rfl (fun w1 => r_bin _ rfl rfl rfl (fun _ => rfl) (fun _ => rfl) (hl_nil (qe_done rfl))) ?_
 refine hb_ex _ rfl rfl rfl (fun w1 => r_bin _ rfl rfl rfl (fun _ => rfl) (fun _ => rfl) (hl_nil (qe_done rfl))) ?_
 refine hb_nil ⟨rfl, ?_⟩
 refine r_nilCheck rfl rfl ?_
 refine r_fieldAddr ⟨_, 2, none⟩ rfl rfl T.fa_wayzgoosekit_Dice_2 rfl ?_
 refine r_store rfl rfl (by first | exact .refl _ | exact perm2 _ _ _ | exact perm3 _ _ _ _ | exact perm4 _ _ _ _ _) T.sz_u64 (by rfl) (by rfl) ?_
 refine hl_nil (then_n (hc_seq ?_))
 refine hc_draw 11 mixed (by decide) (by decide) rfl rfl ?_
 refine hb_ex _ rfl rfl rfl (fun w1 => r_move rfl rfl (hl_nil (qe_done rfl))) ?_
 refine hb_ex _ rfl rfl rfl (fun w1 => r_move rfl rfl (hl_nil (qe_done rfl))) ?_
 refine hb_ex _ rfl rfl rfl (fun w1 => r_nilCheck rfl rfl (hl_nil (qe_done rfl))) ?_
 refine hb_ex _ rfl rfl rfl (fun w1 => r_fieldAddr ⟨_, 2, none⟩ rfl rfl T.fa_wayzgoosekit_Dice_2 rfl (hl_nil (qe_done rfl))) ?_
 refine hb_ex _ rfl rfl rfl (fun w1 => r_load rfl T.cell_u64 rfl (cell_blk mB rfl) (hl_nil (qe_done rfl))) ?_
 refine hb_ex _ rfl rfl rfl (fun w1 => r_move rfl rfl (hl_nil (qe_done rfl))) ?_
 refine hb_ex _ rfl rfl rfl (fun w1 => r_nilCheck rfl rfl (hl_nil (qe_done rfl))) ?_
 refine hb_ex _ rfl rfl rfl (fun w1 => r_fieldAddr ⟨_, 2, none⟩ rfl rfl T.fa_wayzgoosekit_Dice_2 rfl (hl_nil (qe_done rfl))) ?_
 refine hb_ex _ rfl rfl rfl (fun w1 => r_load rfl T.cell_u64 rfl (cell_blk mB rfl) (hl_nil (qe_done rfl))) ?_
 refine hb_ex _ rfl rfl rfl (fun w1 => r_bin _ rfl rfl rfl (fun _ => rfl) (fun _ => rfl) (hl_nil (qe_done rfl))) ?_
 refine hb_ex _ rfl rfl rfl (fun w1 => r_bin _ rfl rfl rfl (fun _ => rfl) (fun _ => rfl) (hl_nil (qe_done rfl))) ?_
 refine hb_nil ⟨rfl, ?_⟩
 refine r_nilCheck rfl rfl ?_
 refine r_fieldAddr ⟨_, 2, none⟩ rfl rfl T.fa_wayzgoosekit_Dice_2 rfl ?_
 refine r_store rfl rfl (by first | exact .refl _ | exact perm2 _ _ _ | exact perm3 _ _ _ _ | exact perm4 _ _ _ _ _) T.sz_u64 (by rfl) (by rfl) ?_
 refine hl_nil (then_n (hc_seq (hc_seq ?_)))
 refine hc_draw 9 mixed (by decide) (by decide) rfl rfl ?_
 refine hb_ex _ rfl rfl rfl (fun w1 => r_move rfl rfl (hl_nil (qe_done rfl))) ?_
 refine hb_ex _ rfl rfl rfl (fun w1 => r_nilCheck rfl rfl (hl_nil (qe_done rfl))) ?_
 refine hb_ex _ rfl rfl rfl (fun w1 => r_fieldAddr ⟨_, 1, none⟩ rfl rfl T.fa_wayzgoosekit_Dice_1 rfl (hl_nil (qe_done rfl))) ?_
 refine hb_ex _ rfl rfl rfl (fun w1 => r_load rfl T.cell_int rfl (cell_blk mB rfl) (hl_nil (qe_done rfl))) ?_
 refine hb_ex _ rfl rfl rfl (fun w1 => r_move rfl rfl (hl_nil (qe_done rfl))) ?_
 refine hb_ex _ rfl rfl rfl (fun w1 => r_nilCheck rfl rfl (hl_nil (qe_done rfl))) ?_
 refine hb_ex _ rfl rfl rfl (fun w1 => r_fieldAddr ⟨_, 0, none⟩ rfl rfl T.fa_wayzgoosekit_Dice_0 rfl (hl_nil (qe_done rfl))) ?_
 refine hb_ex _ rfl rfl rfl (fun w1 => r_load rfl T.cell_ints rfl (cell_blk mB rfl) (hl_nil (qe_done rfl))) ?_
 refine hb_ex _ rfl rfl rfl (fun w1 => r_len_sl rfl T.u_ints rfl (hl_nil (qe_done rfl))) ?_
 refine hb_nil ⟨rfl, ?_⟩
 refine r_lss rfl rfl rfl (hl_nil (then_n ?_))
 refine c_dec rfl (fun hb1 => ?_) (fun hb1 => ?_)
 ·have hb1' := hb1; try simp at hb1'
  refine hc_seq ?_
  refine hc_draw 18 mixed (by decide) (by decide) rfl rfl ?_
  refine hb_ex _ rfl rfl rfl (fun w1 => r_move rfl rfl (hl_nil (qe_done rfl))) ?_
  refine hb_ex _ rfl rfl rfl (fun w1 => r_move rfl rfl (hl_nil (qe_done rfl))) ?_
  refine hb_ex _ rfl rfl rfl (fun w1 => r_nilCheck rfl rfl (hl_nil (qe_done rfl))) ?_
  refine hb_ex _ rfl rfl rfl (fun w1 => r_fieldAddr ⟨_, 2, none⟩ rfl rfl T.fa_wayzgoosekit_Dice_2 rfl (hl_nil (qe_done rfl))) ?_
  refine hb_ex _ rfl rfl rfl (fun w1 => r_load rfl T.cell_u64 rfl (cell_blk mB rfl) (hl_nil (qe_done rfl))) ?_
  refine hb_ex _ rfl rfl rfl (fun w1 => r_move rfl rfl (hl_nil (qe_done rfl))) ?_
  refine hb_ex _ rfl rfl rfl (fun w1 => r_nilCheck rfl rfl (hl_nil (qe_done rfl))) ?_
  refine hb_ex _ rfl rfl rfl (fun w1 => r_fieldAddr ⟨_, 0, none⟩ rfl rfl T.fa_wayzgoosekit_Dice_0 rfl (hl_nil (qe_done rfl))) ?_
  refine hb_ex _ rfl rfl rfl (fun w1 => r_load rfl T.cell_ints rfl (cell_blk mB rfl) (hl_nil (qe_done rfl))) ?_
  refine hb_ex _ rfl rfl rfl (fun w1 => r_move rfl rfl (hl_nil (qe_done rfl))) ?_
  refine hb_ex _ rfl rfl rfl (fun w1 => r_nilCheck rfl rfl (hl_nil (qe_done rfl))) ?_
  refine hb_ex _ rfl rfl rfl (fun w1 => r_fieldAddr ⟨_, 1, none⟩ rfl rfl T.fa_wayzgoosekit_Dice_1 rfl (hl_nil (qe_done rfl))) ?_
  refine hb_ex _ rfl rfl rfl (fun w1 => r_load rfl T.cell_int rfl (cell_blk mB rfl) (hl_nil (qe_done rfl))) ?_
  refine hb_ex _ rfl rfl rfl (fun w1 => r_elem (α := Int) _ pn rfl T.u_ints T.sz_int rfl rfl rfl m1 rfl (by omega) (by decide) (hl_nil (qe_done rfl))) ?_
  refine hb_ex _ rfl rfl rfl (fun w1 => r_load rfl T.cell_int rfl (cell_row mB (rows_get0 (by omega) rfl)) (hl_nil (qe_done rfl))) ?_
  refine hb_ex _ rfl rfl rfl (fun w1 => r_conv _ rfl T.u_int T.u_u64 rfl rfl (hl_nil (qe_done rfl))) ?_
  refine hb_ex _ rfl rfl rfl (fun w1 => r_bin _ rfl rfl rfl (fun _ => rfl) (fun _ => rfl) (hl_nil (qe_done rfl))) ?_
  refine hb_ex _ rfl rfl rfl (fun w1 => r_bin _ rfl rfl rfl (fun _ => rfl) (fun _ => rfl) (hl_nil (qe_done rfl))) ?_
  refine hb_nil ⟨rfl, ?_⟩
  refine r_nilCheck rfl rfl ?_
  refine r_fieldAddr ⟨_, 2, none⟩ rfl rfl T.fa_wayzgoosekit_Dice_2 rfl ?_
  refine r_store rfl rfl (by first | exact .refl _ | exact perm2 _ _ _ | exact perm3 _ _ _ _ | exact perm4 _ _ _ _ _) T.sz_u64 (by rfl) (by rfl) ?_
  refine hl_nil (then_n (hc_region (r_move rfl rfl (r_nilCheck rfl rfl ?_))))
  refine r_fieldAddr ⟨_, 1, none⟩ rfl rfl T.fa_wayzgoosekit_Dice_1 rfl ?_
  refine r_load rfl T.cell_int rfl (cell_own mB rfl) ?_
  refine r_add _ rfl rfl rfl rfl (by unfold I64; omega) ?_
  refine r_nilCheck rfl rfl ?_
  refine r_fieldAddr ⟨_, 1, none⟩ rfl rfl T.fa_wayzgoosekit_Dice_1 rfl ?_
  refine r_store rfl rfl (by first | exact .refl _ | exact perm2 _ _ _ | exact perm3 _ _ _ _ | exact perm4 _ _ _ _ _) T.sz_int (by rfl) (by rfl) ?_
  refine hl_nil (then_n (hc_seq (hc_region (r_move rfl rfl (r_nilCheck rfl rfl ?_)))))
  refine r_fieldAddr ⟨_, 2, none⟩ rfl rfl T.fa_wayzgoosekit_Dice_2 rfl ?_
  refine r_load rfl T.cell_u64 rfl (cell_own mB rfl) ?_
  refine r_assign rfl rfl (hl_nil (then_n (hc_seq (hc_region (r_move rfl rfl (r_move rfl rfl ?_))))))
  refine r_bin _ rfl rfl rfl (fun _ => rfl) (fun _ => rfl) ?_
  refine r_bin _ rfl rfl rfl (fun _ => rfl) (fun _ => rfl) ?_
  refine r_bin _ rfl rfl rfl (fun _ => rfl) (fun _ => rfl) ?_
  refine r_assign rfl rfl (hl_nil (then_n (hc_seq (hc_region (r_move rfl rfl (r_move rfl rfl ?_))))))
  refine r_bin _ rfl rfl rfl (fun _ => rfl) (fun _ => rfl) ?_
  refine r_bin _ rfl rfl rfl (fun _ => rfl) (fun _ => rfl) ?_
  refine r_assign rfl rfl (hl_nil (then_n (hc_ret ?_)))
  exact ret1 ((_, _), _) rfl rfl rfl ⟨⟨by simp only; omega, by simp only; omega, (wrapU _).1, (wrapU _).2⟩, wrapU _⟩ (.refl _) trivial
 ·have hb1' := hb1; try simp at hb1'
  refine hc_skip (then_n (hc_seq (hc_region (r_move rfl rfl (r_nilCheck rfl rfl ?_)))))
  refine r_fieldAddr ⟨_, 2, none⟩ rfl rfl T.fa_wayzgoosekit_Dice_2 rfl ?_
  refine r_load rfl T.cell_u64 rfl (cell_own mB rfl) ?_
  refine r_assign rfl rfl (hl_nil (then_n (hc_seq (hc_region (r_move rfl rfl (r_move rfl rfl ?_))))))
  refine r_bin _ rfl rfl rfl (fun _ => rfl) (fun _ => rfl) ?_
  refine r_bin _ rfl rfl rfl (fun _ => rfl) (fun _ => rfl) ?_
  refine r_bin _ rfl rfl rfl (fun _ => rfl) (fun _ => rfl) ?_
  refine r_assign rfl rfl (hl_nil (then_n (hc_seq (hc_region (r_move rfl rfl (r_move rfl rfl ?_))))))
  refine r_bin _ rfl rfl rfl (fun _ => rfl) (fun _ => rfl) ?_
  refine r_bin _ rfl rfl rfl (fun _ => rfl) (fun _ => rfl) ?_
  refine r_assign rfl rfl (hl_nil (then_n (hc_ret ?_)))
  exact ret1 ((_, _), _) rfl rfl rfl ⟨⟨by simp only; omega, by simp only; omega, (wrapU _).1, (wrapU _).2⟩, wrapU _⟩ (.refl _) trivial
theorem mod_range {z n : Int} (hz : 0 ≤ z) (hn : 0 ≤ n) : 0 ≤ z.tmod (n + 1) ∧ z.tmod (n + 1) ≤ n := by
  have h1 := Int.tmod_nonneg (n + 1) hz
  have h2 := Int.tmod_lt_of_pos z (show 0 < n + 1 by omega)
  omega
def ToInv (n z : Int) : Prop := 0 ≤ z ∧ (1 ≤ n → z ≤ n) ∧ (n < 1 → z = 0)
theorem kit_Dice_To_meets {g : Nat} {A : Option Addr} {c : Nat} {nums : List Int} {s : Int × Int} (n : Int) (hn : nums.length ≤ 9223372036854775807) (hs : DOK nums s) (hI : n ≤ 9223372036854775806) :
    Meets Try.prog F.kit_Dice_To [.pointer (some ⟨g, 0, none⟩), int n] (diceCon g A c nums s (ToInv n) (fun z => int z) (fun _ => [])) := by
 refine meets_intro F.kit_Dice_To_f rfl (Nat.le_of_ble_eq_true rfl) fun w0 => ?_
 refine hc_seq (hc_region (r_assign rfl rfl (hl_nil (then_n (hc_seq (hc_seq (hc_region (r_move rfl rfl (r_lss rfl rfl rfl (hl_nil (then_n ?_)))))))))))
 refine c_dec rfl (fun hb1 => ?_) (fun hb1 => ?_)
 ·have hb1' := hb1; try simp at hb1'
  refine hc_seq (hc_region (r_assign rfl rfl (hl_nil (then_n (hc_ret (then_ret ?_))))))
  exact ret1 (s, 0) rfl rfl rfl ⟨hs, by omega, by intro; omega, by intro; rfl⟩ (.refl _) trivial
 ·have hb1' := hb1; try simp at hb1'
  refine hc_skip (then_n (hc_seq (hc_region (r_move rfl rfl ?_))))
  refine hl_call F.kit_Dice_raw_cb rfl rfl (kit_Dice_raw_meets hn hs) (.refl _) ⟨m0, trivial⟩ fun x hx => ?_
  obtain ⟨s1, z⟩ := x
  obtain ⟨hs1, hz⟩ := hx
  simp only at hz
  refine r_bin _ rfl rfl rfl (fun _ => rfl) (fun _ => rfl) ?_
  refine r_move rfl rfl ?_
  refine r_add _ rfl rfl rfl rfl (by unfold I64; omega) ?_
  refine r_conv (n + 1) rfl T.u_int T.u_u64 rfl (IntWalk.u64_in _ (by omega)) ?_
  refine r_rem rfl rfl rfl (by omega) ?_
  have hm := mod_range (z := z.fdiv (2 ^ min (Int.toNat 16) IntKind.u64.bits)) (n := n) (Int.fdiv_nonneg hz.1 (by decide)) (by omega)
  refine r_conv ((z.fdiv (2 ^ min (Int.toNat 16) IntKind.u64.bits)).tmod (n + 1)) rfl T.u_u64 T.u_int rfl (IntWalk.i64_in ((z.fdiv (2 ^ min (Int.toNat 16) IntKind.u64.bits)).tmod (n + 1)) (by omega)) ?_
  refine r_assign rfl rfl (hl_nil (then_n (hc_ret ?_)))
  exact ret1 (s1, _) rfl rfl rfl ⟨hs1, hm.1, fun _ => hm.2, fun h => by omega⟩ (.refl _) trivial
def lineWords : List Str := [[97], [98], [99], [97, 110, 32, 49], [98, 101, 110], [99, 121, 100, 32, 49, 50]]
def PageOK (l : List Str) : Prop := ∀ s ∈ l, s ∈ lineWords
end Go.Proofs.Ytdlbbfcfahahdaa
end
section
namespace Go.Proofs.Ytdlbbfcfahahdaa
open Go Go.W
set_option maxRecDepth 20000
attribute [local irreducible] HL HC HQ HB Row Rows2 Blk Facts
def FromInv (lo hi z : Int) : Prop := lo ≤ z ∧ (lo < hi → z ≤ hi) ∧ (hi ≤ lo → z = lo)
def sortsL : List Str := [[102, 111, 111, 100], [98, 114, 101, 97, 100], [99, 108, 111, 116, 104], [104, 97, 116, 115], [119, 111, 111, 100], [105, 114, 111, 110], [98, 101, 101, 114], [105, 110], [115, 101, 101]]
def callingsL : List Str := [[98, 97, 107, 101, 114], [98, 97, 107, 101, 114, 115], [98, 111, 110, 110, 101, 116, 115], [98, 114, 101, 119, 101, 114], [98, 114, 117, 115, 104, 101, 115], [98, 117, 116, 99, 104, 101, 114], [99, 97, 110, 100, 108, 101, 115], [99, 111, 111, 112, 101, 114], [99, 111, 111, 112, 101, 114, 115], [99, 117, 116, 108, 101, 114], [104, 97, 116, 116, 101, 114], [104, 111, 115, 105, 101, 114], [109, 101, 114, 99, 101, 114], [109, 105, 108, 108, 105, 110, 101, 114], [116, 97, 105, 108, 111, 114], [116, 97, 110, 110, 101, 114]]
theorem kit_NewDice_meets {A : Option Addr} {c : Nat} (nums : List Int) : Meets Try.prog F.kit_NewDice [.slice A nums.length c] { LI := [Row A (rows nums)], val := fun g : Nat => .pointer (some ⟨g, 0, none⟩), hpO := fun g => [dice g A c nums (0, 11400714819323198485)] } := by
 refine meets_intro F.kit_NewDice_f rfl (Nat.le_of_ble_eq_true rfl) fun w0 => ?_
 refine hc_seq (hc_region (r_assign rfl rfl (hl_nil (then_n (hc_seq (hc_region (r_move rfl rfl ?_)))))))
 refine r_build _ rfl rfl (fun _ => T.bd_wayzgoosekit_Dice_0_2 ..) ?_
 refine r_box rfl rfl fun gB => ?_
 refine r_assign rfl rfl (hl_nil (then_n (hc_ret ?_)))
 exact ret1 gB rfl rfl rfl trivial (.refl _) trivial
theorem kit_Dice_From_meets {g : Nat} {A : Option Addr} {c : Nat} {nums : List Int} {s : Int × Int} (lo hi : Int) (hn : nums.length ≤ 9223372036854775807) (hs : DOK nums s) (hI : -1000 ≤ lo ∧ lo ≤ 1000 ∧ -1000 ≤ hi ∧ hi ≤ 1000) :
    Meets Try.prog F.kit_Dice_From [.pointer (some ⟨g, 0, none⟩), int lo, int hi] (diceCon g A c nums s (FromInv lo hi) (fun z => int z) (fun _ => [])) := by
 refine meets_intro F.kit_Dice_From_f rfl (Nat.le_of_ble_eq_true rfl) fun w0 => ?_
 refine hc_seq (hc_region (r_assign rfl rfl (hl_nil (then_n (hc_seq (hc_region (r_move rfl rfl (r_move rfl rfl (r_move rfl rfl (r_move rfl rfl ?_))))))))))
 refine r_sub _ rfl rfl rfl rfl (by unfold I64; omega) ?_
 refine hl_call F.kit_Dice_To_cb rfl rfl (kit_Dice_To_meets (hi - lo) hn hs (by omega)) (.refl _) ⟨m0, trivial⟩ fun x hx => ?_
 obtain ⟨s1, z⟩ := x
 obtain ⟨hs1, hz⟩ := hx
 simp only [ToInv] at hz
 have hz1 : 0 ≤ z ∧ z ≤ 2000 := by
   refine ⟨hz.1, ?_⟩
   by_cases h1 : 1 ≤ hi - lo
   · have := hz.2.1 h1; omega
   · have := hz.2.2 (by omega); omega
 refine r_add (lo + z) rfl rfl rfl rfl (by unfold I64; omega) ?_
 refine r_assign rfl rfl (hl_nil (then_n (hc_ret ?_)))
 exact ret1 (s1, lo + z) rfl rfl rfl ⟨hs1, by simp only; omega, fun h => by have := hz.2.1 (by omega); simp only; omega, fun h => by have := hz.2.2 (by omega); simp only; omega⟩ (.refl _) trivial
end Go.Proofs.Ytdlbbfcfahahdaa
end
section
namespace Go.Proofs.Ytdlbbfcfahahdaa
open Go Go.W
set_option maxRecDepth 20000
attribute [local irreducible] HL HC HQ HB Row Rows2 Blk Facts
abbrev rngI (n : Nat) : List Int := (List.range n).map fun i : Nat => (i : Int)
end Go.Proofs.Ytdlbbfcfahahdaa
end
section
namespace Go.Proofs.Ytdlbbfcfahahdaa
open Go Go.W
set_option maxRecDepth 20000
attribute [local irreducible] HL HC HQ HB Row Rows2 Blk Facts
def AtInv (l : List Int) (s z : Int) : Prop := (0 ≤ z ↔ s ∈ l) ∧ (s ∈ l → ∀ k : Nat, z < (k : Int) ↔ s ∈ l.take k)
theorem at_found {l : List Int} {k : Nat} {s : Int} (hk : k < l.length) (hb : l.getD k default = s) (ht : s ∉ l.take k) : AtInv l s (k : Int) := by
  refine ⟨⟨fun _ => hb ▸ getD_mem hk, fun _ => by omega⟩, fun _ j => ⟨fun h => ?_, fun h => ?_⟩⟩
  · have h1 : s ∈ l.take (k + 1) := by rw [take_succ_getD l k hk, hb]; simp
    exact List.take_subset_take_left l (by omega) h1
  · rcases Nat.lt_or_ge k j with h2 | h2
    · omega
    · exact absurd (List.take_subset_take_left l h2 h) ht
theorem at_none {l : List Int} {s : Int} (ht : s ∉ l) : AtInv l s (-1) := ⟨⟨fun h => by omega, fun h => absurd h ht⟩, fun h => absurd h ht⟩
def partL (o : List Int) (m n : Nat) : List Int := (rngI n).filter fun v => decide (v ∈ o.take m)
end Go.Proofs.Ytdlbbfcfahahdaa
end
