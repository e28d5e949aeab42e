/- The walk of the statement TradeLeast. -/
import Derived.Test.YtlpgheniajdkfaaPbf
namespace Go.Proofs.Ytlpgheniajdkfaa
open Go Go.W
set_option linter.unusedVariables false
set_option linter.unusedSimpArgs false
set_option maxRecDepth 20000
attribute [local irreducible] HL HC HQ HB Row Rows2 Blk Facts

set_option maxHeartbeats 1000000 in
theorem law04_TradeLeast_meets {A : Option Addr} {c0 : Nat} (nums : List Int) (hn : nums.length ≤ 9223372036854775807) : Meets Try.prog F.law04_TradeLeast [.slice A nums.length c0] { LI := [Row A (rows nums)], val := fun _ : Unit => .bool true } := by
 refine meets_intro F.law04_TradeLeast_f rfl (Nat.le_of_ble_eq_true rfl) fun w0 => ?_
 refine hc_seq ?_
 refine hc_region ?_
 refine r_assign rfl rfl ?_
 refine hl_nil ?_
 refine then_n ?_
 refine hc_seq ?_
 refine hc_region ?_
 refine r_move rfl rfl ?_
 refine hl_call F.kit_NewDice_cb rfl rfl (kit_NewDice_meets nums) (List.Perm.refl _) ⟨(by repeat constructor), trivial⟩ fun g _ => ?_
 refine hl_call F.kit_TradesOf_cb rfl rfl (kit_TradesOf_meets 6 0 hn (dok0 nums) (by decide) (by decide)) (List.Perm.refl _) ⟨(by repeat constructor), trivial⟩ fun x hx => ?_
 obtain ⟨sd, cs, hs, ⟨CA, ca⟩, ⟨HB, cb⟩⟩ := x
 obtain ⟨hsd, hT⟩ := hx
 have hca : cs.length ≤ ca := hT.ca
 have hcb : hs.length ≤ cb := hT.cb
 have ha := hT.ha
 have hok := tr_ok hT.ok
 have h6 : cs.length ≤ 6 := hok.c6
 have h6h := hok.h6
 have hln := hs_len cs hs
 rw [hln] at h6h
 have hcl : ∀ i, i < cs.length → ClsOK cs i := hok.c
 refine r_alloc rfl (fun _ => T.al_api_Trades _) fun gT => ?_
 refine r_storeS (cs := #[.slice CA cs.length ca, .slice HB hs.length cb]) rfl rfl (.refl _) T.sz_api_Trades (by rfl) (by rfl) ?_
 refine hl_nil ?_
 refine then_n ?_
 refine hc_seq ?_
 refine hc_seq ?_
 refine hc_letgoB ?_
 refine hc_region ?_
 refine r_assign rfl rfl ?_
 refine hl_nil ?_
 refine then_n ?_
 refine hc_block ?_
 refine hc_loop (β := Nat) ⟨fun a => a ≤ cs.length, fun a => [(3, .pointer (some ⟨gT, 0, none⟩)), (4, int a)], fun _ => [], fun _ => [Blk gT (.cells #[.slice CA cs.length ca, .slice HB hs.length cb] T.api_Trades (0, 0)), Row CA (rows cs), RowsF HB hs Hd.row]⟩ (fun a => cs.length - a) 0 (Nat.zero_le _) ⟨rfl, rfl, trivial⟩ (List.nil_sublist _) ⟨(by repeat constructor), (by repeat constructor), (by repeat constructor), trivial⟩ fun a ha2 => ?_
 simp only at ha2
 refine hc_seq ?_
 refine hc_seq ?_
 refine hc_region ?_
 refine r_move rfl rfl ?_
 first | refine r_fieldAddr ⟨_, 0, none⟩ rfl rfl T.fa_api_Trades_0 rfl ?_ | refine r_fieldAddr _ rfl rfl T.fa_api_Trades_0 rfl ?_
 first | refine r_load rfl T.cell_L_api_Class rfl (cell_own (by repeat constructor) rfl) ?_ | refine r_load rfl T.cell_L_api_Class rfl (cell_blk (by repeat constructor) rfl) ?_ | refine r_load rfl T.cell_L_api_Class rfl (cell_row (by repeat constructor) (rows_get0 (by omega) rfl)) ?_ | refine r_load rfl T.cell_L_api_Class rfl (cell_row_f (by repeat constructor) (rows_get (by omega) rfl)) ?_ | refine r_load rfl T.cell_L_api_Class rfl (cell_rowg (by repeat constructor) rfl) ?_
 refine r_len_sl rfl T.u_L_api_Class rfl ?_
 refine r_lss rfl rfl rfl ?_
 refine hl_nil ?_
 refine then_n ?_
 first | refine c_dec rfl (fun hb1 => ?_) (fun hb1 => ?_) | refine hc_cond rfl (fun hb1 => ?_) (fun hb1 => ?_)
 ·have hb1' := hb1; try simp at hb1'
  have ha3 : a < cs.length := by omega
  refine hc_skip ?_
  refine then_n ?_
  refine hc_seq ?_
  refine hc_block ?_
  refine hc_seq ?_
  refine hc_region ?_
  refine r_assign rfl rfl ?_
  refine hl_nil ?_
  refine then_n ?_
  refine hc_block ?_
  refine hc_loop (β := Nat) ⟨fun b => b ≤ cs.length, fun b => [(3, .pointer (some ⟨gT, 0, none⟩)), (4, int a), (5, int b)], fun _ => [], fun _ => [Blk gT (.cells #[.slice CA cs.length ca, .slice HB hs.length cb] T.api_Trades (0, 0)), Row CA (rows cs), RowsF HB hs Hd.row]⟩ (fun b => cs.length - b) 0 (Nat.zero_le _) ⟨rfl, rfl, rfl, trivial⟩ (List.nil_sublist _) ⟨(by repeat constructor), (by repeat constructor), (by repeat constructor), trivial⟩ fun b hb2 => ?_
  simp only at hb2
  refine hc_seq ?_
  refine hc_seq ?_
  refine hc_region ?_
  refine r_move rfl rfl ?_
  first | refine r_fieldAddr ⟨_, 0, none⟩ rfl rfl T.fa_api_Trades_0 rfl ?_ | refine r_fieldAddr _ rfl rfl T.fa_api_Trades_0 rfl ?_
  first | refine r_load rfl T.cell_L_api_Class rfl (cell_own (by repeat constructor) rfl) ?_ | refine r_load rfl T.cell_L_api_Class rfl (cell_blk (by repeat constructor) rfl) ?_ | refine r_load rfl T.cell_L_api_Class rfl (cell_row (by repeat constructor) (rows_get0 (by omega) rfl)) ?_ | refine r_load rfl T.cell_L_api_Class rfl (cell_row_f (by repeat constructor) (rows_get (by omega) rfl)) ?_ | refine r_load rfl T.cell_L_api_Class rfl (cell_rowg (by repeat constructor) rfl) ?_
  refine r_len_sl rfl T.u_L_api_Class rfl ?_
  refine r_lss rfl rfl rfl ?_
  refine hl_nil ?_
  refine then_n ?_
  first | refine c_dec rfl (fun hb2 => ?_) (fun hb2 => ?_) | refine hc_cond rfl (fun hb2 => ?_) (fun hb2 => ?_)
  ·have hb2' := hb2; try simp at hb2'
   have hb3 : b < cs.length := by omega
   have hE : leastE (trOf cs hs) (a : Int) (b : Int) = (leastT (trOf cs hs) (a : Int) (b : Int), 0) := by unfold leastE; rw [if_neg (by rw [Classical.not_not]; exact hT.ok), if_neg (by show ¬ ¬ ((0 ≤ (a : Int) ∧ (a : Int) ≤ (cs.length : Int) - 1) ∧ (0 ≤ (b : Int) ∧ (b : Int) ≤ (cs.length : Int) - 1)); omega)]
   have hO := least_ok (pathT cs a) (pathT cs b) cs.length
   have hlaw := fun c => least_law hok (a := (a : Int)) (b := (b : Int)) (c := c) (by show (a : Int) < (cs.length : Int); omega) (by show (b : Int) < (cs.length : Int); omega)
   change LeastOK (pathT cs a) (pathT cs b) cs.length (leastT (trOf cs hs) (a : Int) (b : Int)) at hO
   generalize hz : leastT (trOf cs hs) (a : Int) (b : Int) = z at hE hO hlaw
   have hlo := hO.lo
   have hhi := hO.hi
   refine hc_skip ?_
   refine then_n ?_
   refine hc_seq ?_
   refine hc_block ?_
   refine hc_seq ?_
   refine hc_region ?_
   first | refine r_loadA rfl T.row_api_Trades T.sz_api_Trades rfl (by repeat constructor) (by rfl) ?_ | refine r_loadB rfl T.row_api_Trades T.sz_api_Trades rfl (by repeat constructor) (by rfl) ?_ | refine r_loadS rfl T.row_api_Trades T.sz_api_Trades rfl rfl (cells_row (by repeat constructor) (rows_all (by omega))) ?_
   refine r_move rfl rfl ?_
   refine r_move rfl rfl ?_
   have hLm := trade_Least_meets (A := CA) (B := HB) (ca := ca) (cb := cb) cs hs (a : Int) (b : Int) hca hcb ha
   rw [hE] at hLm
   refine hl_call F.trade_Least_cb rfl rfl hLm (List.Perm.refl _) ⟨(by repeat constructor), (by repeat constructor), trivial⟩ fun _ _ => ?_
   refine r_move rfl rfl ?_
   refine r_extract rfl rfl rfl ?_
   refine r_extract rfl rfl rfl ?_
   refine r_assign rfl rfl ?_
   refine r_assign rfl rfl ?_
   refine hl_nil ?_
   refine then_n ?_
   refine hc_seq ?_
   refine hc_cut ⟨fun _ : Unit => True, fun _ => [(3, .pointer (some ⟨gT, 0, none⟩)), (4, int a), (5, int b), (6, int z), (63, .bool false)], fun _ => [], fun _ => [Blk gT (.cells #[.slice CA cs.length ca, .slice HB hs.length cb] T.api_Trades (0, 0)), Row CA (rows cs), RowsF HB hs Hd.row]⟩ ?_ ?_
   ·skip
    refine hc_region ?_
    refine r_move rfl rfl ?_
    refine r_neq rfl rfl rfl ?_
    refine r_move rfl rfl ?_
    refine g_split rfl rfl ?_ ?_
    ·intro hg1; have hg1' := hg1; try simp at hg1'
     refine g_yes rfl rfl hg1 ?_
     refine r_move rfl rfl ?_
     refine g_yes rfl rfl hg1 ?_
     refine r_lss rfl rfl rfl ?_
     refine p_f rfl rfl (bf1 hg1) rfl ?_
     refine r_move rfl rfl ?_
     refine g_split rfl rfl ?_ ?_
     ·intro hg2; have hg2' := hg2; try simp at hg2'
      refine g_yes rfl rfl hg2 ?_
      refine r_move rfl rfl ?_
      refine g_yes rfl rfl hg2 ?_
      first | refine r_fieldAddr ⟨_, 0, none⟩ rfl rfl T.fa_api_Trades_0 rfl ?_ | refine r_fieldAddr _ rfl rfl T.fa_api_Trades_0 rfl ?_
      refine g_yes rfl rfl hg2 ?_
      first | refine r_load rfl T.cell_L_api_Class rfl (cell_own (by repeat constructor) rfl) ?_ | refine r_load rfl T.cell_L_api_Class rfl (cell_blk (by repeat constructor) rfl) ?_ | refine r_load rfl T.cell_L_api_Class rfl (cell_row (by repeat constructor) (rows_get0 (by omega) rfl)) ?_ | refine r_load rfl T.cell_L_api_Class rfl (cell_row_f (by repeat constructor) (rows_get (by omega) rfl)) ?_ | refine r_load rfl T.cell_L_api_Class rfl (cell_rowg (by repeat constructor) rfl) ?_
      refine g_yes rfl rfl hg2 ?_
      refine r_len_sl rfl T.u_L_api_Class rfl ?_
      refine g_yes rfl rfl hg2 ?_
      refine r_geq rfl rfl rfl ?_
      refine p_f rfl rfl (bf1 hg2) rfl ?_
      refine r_move rfl rfl ?_
      refine g_split rfl rfl ?_ ?_
      ·intro hg3; have hg3' := hg3; try simp at hg3'
       refine g_yes rfl rfl hg3 ?_
       refine r_move rfl rfl ?_
       refine g_yes rfl rfl hg3 ?_
       refine r_geq rfl rfl rfl ?_
       refine g_yes rfl rfl hg3 ?_
       refine r_move rfl rfl ?_
       refine g_split rfl rfl ?_ ?_
       ·intro hg4; have hg4' := hg4; try simp at hg4'
        refine g_yes rfl rfl hg4 ?_
        first | refine r_loadA rfl T.row_api_Trades T.sz_api_Trades rfl (by repeat constructor) (by rfl) ?_ | refine r_loadB rfl T.row_api_Trades T.sz_api_Trades rfl (by repeat constructor) (by rfl) ?_ | refine r_loadS rfl T.row_api_Trades T.sz_api_Trades rfl rfl (cells_row (by repeat constructor) (rows_all (by omega))) ?_
        refine g_yes rfl rfl hg4 ?_
        refine r_move rfl rfl ?_
        refine g_yes rfl rfl hg4 ?_
        refine r_move rfl rfl ?_
        refine g_yes rfl rfl hg4 ?_
        refine hl_call F.law04_under_cb rfl rfl (law04_under_meets (A := CA) (B := HB) (ca := ca) (cb := cb) cs hs ((a : Int)) (z) (by omega) (by omega) h6 hcl) (List.Perm.refl _) ⟨(by repeat constructor), trivial⟩ fun _ _ => ?_
        refine g_yes rfl rfl hg4 ?_
        refine r_not rfl rfl ?_
        refine g_yes rfl rfl hg4 ?_
        refine r_move rfl rfl ?_
        refine g_split rfl rfl ?_ ?_
        ·intro hg5; have hg5' := hg5; try simp at hg5'
         refine g_yes rfl rfl hg5 ?_
         first | refine r_loadA rfl T.row_api_Trades T.sz_api_Trades rfl (by repeat constructor) (by rfl) ?_ | refine r_loadB rfl T.row_api_Trades T.sz_api_Trades rfl (by repeat constructor) (by rfl) ?_ | refine r_loadS rfl T.row_api_Trades T.sz_api_Trades rfl rfl (cells_row (by repeat constructor) (rows_all (by omega))) ?_
         refine g_yes rfl rfl hg5 ?_
         refine r_move rfl rfl ?_
         refine g_yes rfl rfl hg5 ?_
         refine r_move rfl rfl ?_
         refine g_yes rfl rfl hg5 ?_
         refine hl_call F.law04_under_cb rfl rfl (law04_under_meets (A := CA) (B := HB) (ca := ca) (cb := cb) cs hs ((b : Int)) (z) (by omega) (by omega) h6 hcl) (List.Perm.refl _) ⟨(by repeat constructor), trivial⟩ fun _ _ => ?_
         refine g_yes rfl rfl hg5 ?_
         refine r_not rfl rfl ?_
         refine g_yes rfl rfl hg4 ?_
         refine p_f rfl rfl (bf1 hg5) rfl ?_
         refine g_yes rfl rfl hg3 ?_
         refine p_t rfl rfl (bt1 hg4) rfl ?_
         refine p_f rfl rfl (bf1 hg3) rfl ?_
         refine hl_nil ?_
         exact cut_n _ () trivial ⟨rfl, rfl, rfl, rfl, congrArg (fun b => some (Value.bool b)) (show (!decide (z ∈ pathT cs (b : Int))) = false by rw [decide_eq_true (hO.mem hg4').2]; rfl), trivial⟩ (List.nil_sublist _) ⟨(by repeat constructor), (by repeat constructor), (by repeat constructor), trivial⟩
        ·intro hg5; have hg5' := hg5; try simp at hg5'
         exact absurd (hO.mem hg4').1 hg5'
       ·intro hg4; have hg4' := hg4; try simp at hg4'
        refine g_no rfl rfl rfl rfl rfl hg4 ?_
        refine g_no rfl rfl rfl rfl rfl hg4 ?_
        refine g_no rfl rfl rfl rfl rfl hg4 ?_
        refine g_no rfl rfl rfl rfl rfl hg4 ?_
        refine g_no rfl rfl rfl rfl rfl hg4 ?_
        refine g_no rfl rfl rfl rfl rfl hg4 ?_
        refine g_und rfl rfl rfl rfl rfl rfl ?_
        refine g_und rfl rfl rfl rfl rfl rfl ?_
        refine g_und rfl rfl rfl rfl rfl rfl ?_
        refine g_und rfl rfl rfl rfl rfl rfl ?_
        refine g_und rfl rfl rfl rfl rfl rfl ?_
        refine g_no rfl rfl rfl rfl rfl hg4 ?_
        refine g_yes rfl rfl hg3 ?_
        refine p_f rfl rfl (bf2 hg4) rfl ?_
        refine p_f rfl rfl (bf1 hg3) rfl ?_
        refine hl_nil ?_
        exact cut_n _ () trivial ⟨rfl, rfl, rfl, rfl, rfl, trivial⟩ (List.nil_sublist _) ⟨(by repeat constructor), (by repeat constructor), (by repeat constructor), trivial⟩
      ·intro hg3; have hg3' := hg3; try simp at hg3'
       exfalso; omega
     ·intro hg2; have hg2' := hg2; try simp at hg2'
      exfalso; omega
    ·intro hg1; have hg1' := hg1; try simp at hg1'
   ·refine fun _ _ => ?_
    refine c_f rfl (by first | rfl | assumption | exact bf1 (by assumption) | exact bf2 (by assumption)) ?_
    refine hc_skip ?_
    refine then_n ?_
    refine hc_seq ?_
    refine hc_region ?_
    refine r_assign rfl rfl ?_
    refine hl_nil ?_
    refine then_n ?_
    refine hc_block ?_
    refine hc_loop (β := Nat) ⟨fun c => c ≤ cs.length, fun c => [(3, .pointer (some ⟨gT, 0, none⟩)), (4, int a), (5, int b), (6, int z), (8, int c)], fun _ => [], fun _ => [Blk gT (.cells #[.slice CA cs.length ca, .slice HB hs.length cb] T.api_Trades (0, 0)), Row CA (rows cs), RowsF HB hs Hd.row]⟩ (fun c => cs.length - c) 0 (Nat.zero_le _) ⟨rfl, rfl, rfl, rfl, rfl, trivial⟩ (List.nil_sublist _) ⟨(by repeat constructor), (by repeat constructor), (by repeat constructor), trivial⟩ fun c hc2 => ?_
    simp only at hc2
    refine hc_seq ?_
    refine hc_seq ?_
    refine hc_region ?_
    refine r_move rfl rfl ?_
    first | refine r_fieldAddr ⟨_, 0, none⟩ rfl rfl T.fa_api_Trades_0 rfl ?_ | refine r_fieldAddr _ rfl rfl T.fa_api_Trades_0 rfl ?_
    first | refine r_load rfl T.cell_L_api_Class rfl (cell_own (by repeat constructor) rfl) ?_ | refine r_load rfl T.cell_L_api_Class rfl (cell_blk (by repeat constructor) rfl) ?_ | refine r_load rfl T.cell_L_api_Class rfl (cell_row (by repeat constructor) (rows_get0 (by omega) rfl)) ?_ | refine r_load rfl T.cell_L_api_Class rfl (cell_row_f (by repeat constructor) (rows_get (by omega) rfl)) ?_ | refine r_load rfl T.cell_L_api_Class rfl (cell_rowg (by repeat constructor) rfl) ?_
    refine r_len_sl rfl T.u_L_api_Class rfl ?_
    refine r_lss rfl rfl rfl ?_
    refine hl_nil ?_
    refine then_n ?_
    first | refine c_dec rfl (fun hb4 => ?_) (fun hb4 => ?_) | refine hc_cond rfl (fun hb4 => ?_) (fun hb4 => ?_)
    ·have hb4' := hb4; try simp at hb4'
     have hc3 : c < cs.length := by omega
     have hlc := hlaw (c : Int) (by omega)
     refine hc_skip ?_
     refine then_n ?_
     refine hc_seq ?_
     refine hc_block ?_
     refine hc_cut ⟨fun _ : Unit => True, fun _ => [(3, .pointer (some ⟨gT, 0, none⟩)), (4, int a), (5, int b), (6, int z), (8, int c), (91, .bool false)], fun _ => [], fun _ => [Blk gT (.cells #[.slice CA cs.length ca, .slice HB hs.length cb] T.api_Trades (0, 0)), Row CA (rows cs), RowsF HB hs Hd.row]⟩ ?_ ?_
     ·skip
      refine hc_region ?_
      first | refine r_loadA rfl T.row_api_Trades T.sz_api_Trades rfl (by repeat constructor) (by rfl) ?_ | refine r_loadB rfl T.row_api_Trades T.sz_api_Trades rfl (by repeat constructor) (by rfl) ?_ | refine r_loadS rfl T.row_api_Trades T.sz_api_Trades rfl rfl (cells_row (by repeat constructor) (rows_all (by omega))) ?_
      refine r_move rfl rfl ?_
      refine r_move rfl rfl ?_
      refine hl_call F.law04_under_cb rfl rfl (law04_under_meets (A := CA) (B := HB) (ca := ca) (cb := cb) cs hs ((a : Int)) (c) (by omega) (by omega) h6 hcl) (List.Perm.refl _) ⟨(by repeat constructor), trivial⟩ fun _ _ => ?_
      refine r_move rfl rfl ?_
      refine g_split rfl rfl ?_ ?_
      ·intro hg6; have hg6' := hg6; try simp at hg6'
       refine g_yes rfl rfl hg6 ?_
       first | refine r_loadA rfl T.row_api_Trades T.sz_api_Trades rfl (by repeat constructor) (by rfl) ?_ | refine r_loadB rfl T.row_api_Trades T.sz_api_Trades rfl (by repeat constructor) (by rfl) ?_ | refine r_loadS rfl T.row_api_Trades T.sz_api_Trades rfl rfl (cells_row (by repeat constructor) (rows_all (by omega))) ?_
       refine g_yes rfl rfl hg6 ?_
       refine r_move rfl rfl ?_
       refine g_yes rfl rfl hg6 ?_
       refine r_move rfl rfl ?_
       refine g_yes rfl rfl hg6 ?_
       refine hl_call F.law04_under_cb rfl rfl (law04_under_meets (A := CA) (B := HB) (ca := ca) (cb := cb) cs hs ((b : Int)) (c) (by omega) (by omega) h6 hcl) (List.Perm.refl _) ⟨(by repeat constructor), trivial⟩ fun _ _ => ?_
       refine p_t rfl rfl (bt1 hg6) rfl ?_
       refine r_move rfl rfl ?_
       refine g_split rfl rfl ?_ ?_
       ·intro hg7; have hg7' := hg7; try simp at hg7'
        refine g_yes rfl rfl hg7 ?_
        refine r_move rfl rfl ?_
        refine g_yes rfl rfl hg7 ?_
        refine r_lss rfl rfl rfl ?_
        refine g_yes rfl rfl hg7 ?_
        refine r_move rfl rfl ?_
        refine g_split rfl rfl ?_ ?_
        ·intro hg8; have hg8' := hg8; try simp at hg8'
         refine g_yes rfl rfl hg8 ?_
         first | refine r_loadA rfl T.row_api_Trades T.sz_api_Trades rfl (by repeat constructor) (by rfl) ?_ | refine r_loadB rfl T.row_api_Trades T.sz_api_Trades rfl (by repeat constructor) (by rfl) ?_ | refine r_loadS rfl T.row_api_Trades T.sz_api_Trades rfl rfl (cells_row (by repeat constructor) (rows_all (by omega))) ?_
         refine g_yes rfl rfl hg8 ?_
         refine r_move rfl rfl ?_
         refine g_yes rfl rfl hg8 ?_
         refine r_move rfl rfl ?_
         refine g_yes rfl rfl hg8 ?_
         refine hl_call F.law04_under_cb rfl rfl (law04_under_meets (A := CA) (B := HB) (ca := ca) (cb := cb) cs hs (z) (c) (by omega) (by omega) h6 hcl) (List.Perm.refl _) ⟨(by repeat constructor), trivial⟩ fun _ _ => ?_
         refine g_yes rfl rfl hg8 ?_
         refine r_not rfl rfl ?_
         refine g_yes rfl rfl hg7 ?_
         refine p_f rfl rfl (bf1 hg8) rfl ?_
         refine p_t rfl rfl (bt1 hg7) rfl ?_
         refine hl_nil ?_
         exact cut_n _ () trivial ⟨rfl, rfl, rfl, rfl, rfl, congrArg (fun b => some (Value.bool b)) (show (!decide ((c : Int) ∈ pathT cs z)) = false by rw [decide_eq_true (hlc hg6' hg7').2]; rfl), trivial⟩ (List.nil_sublist _) ⟨(by repeat constructor), (by repeat constructor), (by repeat constructor), trivial⟩
        ·intro hg8; have hg8' := hg8; try simp at hg8'
         exfalso; have := hlc hg6' hg7'; omega
       ·intro hg7; have hg7' := hg7; try simp at hg7'
        refine g_no rfl rfl rfl rfl rfl hg7 ?_
        refine g_no rfl rfl rfl rfl rfl hg7 ?_
        refine g_no rfl rfl rfl rfl rfl hg7 ?_
        refine g_und rfl rfl rfl rfl rfl rfl ?_
        refine g_und rfl rfl rfl rfl rfl rfl ?_
        refine g_und rfl rfl rfl rfl rfl rfl ?_
        refine g_und rfl rfl rfl rfl rfl rfl ?_
        refine g_und rfl rfl rfl rfl rfl rfl ?_
        refine g_no rfl rfl rfl rfl rfl hg7 ?_
        refine p_f rfl rfl (bf2 hg7) rfl ?_
        refine hl_nil ?_
        exact cut_n _ () trivial ⟨rfl, rfl, rfl, rfl, rfl, rfl, trivial⟩ (List.nil_sublist _) ⟨(by repeat constructor), (by repeat constructor), (by repeat constructor), trivial⟩
      ·intro hg6; have hg6' := hg6; try simp at hg6'
       refine g_no rfl rfl rfl rfl rfl hg6 ?_
       refine g_no rfl rfl rfl rfl rfl hg6 ?_
       refine g_no rfl rfl rfl rfl rfl hg6 ?_
       refine g_no rfl rfl rfl rfl rfl hg6 ?_
       refine p_f rfl rfl (bf2 hg6) rfl ?_
       refine r_move rfl rfl ?_
       refine g_no rfl rfl rfl rfl rfl rfl ?_
       refine g_no rfl rfl rfl rfl rfl rfl ?_
       refine g_no rfl rfl rfl rfl rfl rfl ?_
       refine g_und rfl rfl rfl rfl rfl rfl ?_
       refine g_und rfl rfl rfl rfl rfl rfl ?_
       refine g_und rfl rfl rfl rfl rfl rfl ?_
       refine g_und rfl rfl rfl rfl rfl rfl ?_
       refine g_und rfl rfl rfl rfl rfl rfl ?_
       refine g_no rfl rfl rfl rfl rfl rfl ?_
       refine p_f rfl rfl rfl rfl ?_
       refine hl_nil ?_
       exact cut_n _ () trivial ⟨rfl, rfl, rfl, rfl, rfl, rfl, trivial⟩ (List.nil_sublist _) ⟨(by repeat constructor), (by repeat constructor), (by repeat constructor), trivial⟩
     ·refine fun _ _ => ?_
      refine c_f rfl (by first | rfl | assumption | exact bf1 (by assumption) | exact bf2 (by assumption)) ?_
      refine hc_skip ?_
      refine inb_n ?_
      refine then_n ?_
      refine hc_region ?_
      refine r_move rfl rfl ?_
      refine r_add _ rfl rfl rfl rfl (by unfold I64; omega) ?_
      refine r_assign rfl rfl ?_
      refine hl_nil ?_
      exact again _ (c + 1) (by show c + 1 ≤ cs.length; omega) (by show cs.length - (c + 1) < cs.length - c; omega) ⟨rfl, rfl, rfl, rfl, rfl, trivial⟩ (List.nil_sublist _) ⟨(by repeat constructor), (by repeat constructor), (by repeat constructor), trivial⟩
    ·have hb4' := hb4; try simp at hb4'
     refine hc_exit ?_
     refine then_exit ?_
     refine then_exit ?_
     refine inb_hit ?_
     refine inb_n ?_
     refine then_n ?_
     refine hc_region ?_
     refine r_move rfl rfl ?_
     refine r_add _ rfl rfl rfl rfl (by unfold I64; omega) ?_
     refine r_assign rfl rfl ?_
     refine hl_nil ?_
     exact again _ (b + 1) (by show b + 1 ≤ cs.length; omega) (by show cs.length - (b + 1) < cs.length - b; omega) ⟨rfl, rfl, rfl, trivial⟩ (List.nil_sublist _) ⟨(by repeat constructor), (by repeat constructor), (by repeat constructor), trivial⟩
  ·have hb2' := hb2; try simp at hb2'
   refine hc_exit ?_
   refine then_exit ?_
   refine then_exit ?_
   refine inb_hit ?_
   refine inb_n ?_
   refine then_n ?_
   refine hc_region ?_
   refine r_move rfl rfl ?_
   refine r_add _ rfl rfl rfl rfl (by unfold I64; omega) ?_
   refine r_assign rfl rfl ?_
   refine hl_nil ?_
   exact again _ (a + 1) (by show a + 1 ≤ cs.length; omega) (by show cs.length - (a + 1) < cs.length - a; omega) ⟨rfl, rfl, trivial⟩ (List.nil_sublist _) ⟨(by repeat constructor), (by repeat constructor), (by repeat constructor), trivial⟩
 ·have hb1' := hb1; try simp at hb1'
  refine hc_exit ?_
  refine then_exit ?_
  refine then_exit ?_
  refine inb_hit ?_
  refine then_n ?_
  refine hc_seq ?_
  refine hc_region ?_
  refine hl_call F.law04_indexed_cb rfl rfl (law04_indexed_meets) (List.Perm.refl _) trivial fun _ _ => ?_
  refine r_assign rfl rfl ?_
  refine hl_nil ?_
  refine then_n ?_
  refine hc_ret ?_
  exact ret1 () rfl rfl rfl trivial (List.nil_sublist _) trivial

end Go.Proofs.Ytlpgheniajdkfaa
