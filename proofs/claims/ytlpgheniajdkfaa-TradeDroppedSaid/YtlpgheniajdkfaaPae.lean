/- The least class above two; where a heading leads. -/
import Derived.Test.YtlpgheniajdkfaaPad
namespace Go.Proofs.Ytlpgheniajdkfaa
open Go Go.W
set_option linter.unusedVariables false
set_option linter.unusedSimpArgs false
set_option maxRecDepth 20000
attribute [local irreducible] HL HC HQ HB Row Rows2 Blk Facts

theorem masks_lt {cs : List Cl} (h6 : cs.length ≤ 6) (hc : ∀ i, i < cs.length → ClsOK cs i) {i : Nat} (h : i < cs.length) : (masksN cs cs.length).getD i default < 256 := by
  rw [masks_get h]
  exact mask_path h6 hc (by omega)
theorem masks_bit {cs : List Cl} (h6 : cs.length ≤ 6) (hc : ∀ i, i < cs.length → ClsOK cs i) {a : Int} (h0 : 0 ≤ a) (h : a < (cs.length : Int)) (j : Nat) : ((masksN cs cs.length).getD a.toNat default).testBit j = decide ((j : Int) ∈ pathT cs a) := by
  rw [masks_get (by omega), Int.toNat_of_nonneg h0, mask_test fun x hx => (path_small h6 hc h x hx).1]
/-- What Least answers. -/
def leastE (t : Tr) (a b : Int) : Int × Int := if ¬ checkT t = 0 then (0, checkT t) else if ¬ ((0 ≤ a ∧ a ≤ (t.cs.length : Int) - 1) ∧ (0 ≤ b ∧ b ≤ (t.cs.length : Int) - 1)) then (0, 3) else (leastT t a b, 0)
theorem leastN_succ (p q : List Int) (k : Nat) : leastN p q (k + 1) = if (k : Int) ∈ p ∧ (k : Int) ∈ q then (k : Int) else leastN p q k := rfl

set_option maxHeartbeats 1000000 in
theorem trade_Least_meets {A B : Option Addr} {ca cb : Nat} (cs : List Cl) (hs : List Hd) (a b : Int) (hca : cs.length ≤ ca) (hcb : hs.length ≤ cb) (ha : ∀ h ∈ hs, h.2.2.2.l.length ≤ 1000000) : Meets Try.prog F.trade_Least [.agg #[.slice A cs.length ca, .slice B hs.length cb], int a, int b] { LI := [Row A (rows cs), RowsF B hs Hd.row], val := fun _ : Unit => .tuple #[int (leastE (trOf cs hs) a b).1, int (leastE (trOf cs hs) a b).2] } := by
 refine meets_intro F.trade_Least_f rfl (Nat.le_of_ble_eq_true rfl) fun w0 => ?_
 refine hc_seq ?_
 refine hc_region ?_
 refine r_box rfl rfl fun gB => ?_
 refine r_assign rfl rfl ?_
 refine r_assign rfl rfl ?_
 refine hl_nil ?_
 refine then_n ?_
 refine hc_cut ⟨fun _ : Nat × OutC × OutC => True, fun x => [(1, int a), (2, int b), (3, .pointer (some ⟨gB, 0, none⟩)), (8, if checkT (trOf cs hs) = 0 then .pointer (some ⟨x.1, 0, none⟩) else .pointer none), (9, int (checkT (trOf cs hs)))], fun _ => [(gB, .cells #[.slice A cs.length ca, .slice B hs.length cb] T.api_Trades (0, 0))], fun x => (if checkT (trOf cs hs) = 0 then beginL cs hs A ca B cb x else []) ++ [Row A (rows cs), RowsF B hs Hd.row]⟩ ?_ ?_
 ·skip
  refine hc_region ?_
  first | refine r_loadA rfl T.row_api_Trades T.sz_api_Trades rfl (by repeat constructor) (by rfl) ?_ | refine r_loadB rfl T.row_api_Trades T.sz_api_Trades rfl (by repeat constructor) (by rfl) ?_ | refine r_loadS rfl T.row_api_Trades T.sz_api_Trades rfl rfl (cells_row (by repeat constructor) (rows_all (by omega))) ?_
  refine hl_call F.trade_begin_cb rfl rfl (trade_begin_meets cs hs hca hcb ha) (List.Perm.refl _) ⟨(by repeat constructor), (by repeat constructor), trivial⟩ fun x _ => ?_
  refine r_move rfl rfl ?_
  refine r_extract rfl rfl rfl ?_
  refine r_extract rfl rfl rfl ?_
  refine r_assign rfl rfl ?_
  refine r_assign rfl rfl ?_
  refine hl_nil ?_
  exact cut_n _ x trivial ⟨rfl, rfl, rfl, rfl, rfl, trivial⟩ (List.Sublist.refl _) (LSub.of_mem fun F h => h)
 ·refine fun x _ => ?_
  dsimp only
  refine hc_seq ?_
  refine hc_block ?_
  refine hc_seq ?_
  refine hc_region ?_
  refine r_move rfl rfl ?_
  refine r_neq rfl rfl rfl ?_
  refine r_assign rfl rfl ?_
  refine hl_nil ?_
  refine then_n ?_
  first | refine c_dec rfl (fun hb1 => ?_) (fun hb1 => ?_) | refine hc_cond rfl (fun hb1 => ?_) (fun hb1 => ?_)
  ·have hb1' := hb1; try simp at hb1'
   refine hc_seq ?_
   refine hc_region ?_
   refine r_move rfl rfl ?_
   refine r_assign rfl rfl ?_
   refine r_assign rfl rfl ?_
   refine hl_nil ?_
   refine then_n ?_
   refine hc_ret ?_
   refine inb_ret ?_
   refine then_ret ?_
   exact ret2 () rfl rfl rfl (by show Value.tuple #[int (leastE _ _ _).1, int (leastE _ _ _).2] = _; rw [leastE, if_pos hb1]) rfl trivial (List.nil_sublist _) trivial
  ·have hb1' := hb1; try simp at hb1'
   have h0 := Classical.not_not.1 hb1
   rw [if_pos h0, if_pos h0]
   have hok := tr_ok h0
   have h6 : cs.length ≤ 6 := hok.c6
   have h6h := hok.h6
   rw [hs_len] at h6h
   have hcl : ∀ i, i < cs.length → ClsOK cs i := hok.c
   obtain ⟨gl, ⟨oa, oc⟩, ⟨ka, kc⟩⟩ := x
   show HC _ _ _ _ _ [Row (some ⟨gl, 0, none⟩) [.slice A cs.length ca, .slice B hs.length cb, .slice oa cs.length oc, .slice ka hs.length kc], Row oa (rows (masksN cs cs.length)), Row ka (rows (kindsN hs hs.length)), Row A (rows cs), RowsF B hs Hd.row]
   refine hc_cut ⟨fun _ : Unit => True, fun _ => [(1, int a), (2, int b), (3, .pointer (some ⟨gB, 0, none⟩)), (8, .pointer (some ⟨gl, 0, none⟩)), (20, .bool (decide (¬ ((0 ≤ a ∧ a ≤ (cs.length : Int) - 1) ∧ (0 ≤ b ∧ b ≤ (cs.length : Int) - 1)))))], fun _ => [(gB, .cells #[.slice A cs.length ca, .slice B hs.length cb] T.api_Trades (0, 0))], fun _ => [Row (some ⟨gl, 0, none⟩) [.slice A cs.length ca, .slice B hs.length cb, .slice oa cs.length oc, .slice ka hs.length kc], Row oa (rows (masksN cs cs.length)), Row ka (rows (kindsN hs hs.length)), Row A (rows cs), RowsF B hs Hd.row]⟩ ?_ ?_
   ·skip
    refine hc_seq ?_
    refine hc_region ?_
    refine r_move rfl rfl ?_
    first | refine r_fieldAddr ⟨_, 0, none⟩ rfl rfl T.fa_api_Trades_0 rfl ?_ | refine r_fieldAddr _ rfl rfl T.fa_api_Trades_0 rfl ?_
    first | refine r_load rfl T.cell_L_api_Class rfl (cell_own (by repeat constructor) rfl) ?_ | refine r_load rfl T.cell_L_api_Class rfl (cell_blk (by repeat constructor) rfl) ?_ | refine r_load rfl T.cell_L_api_Class rfl (cell_row (by repeat constructor) (rows_get0 (by omega) rfl)) ?_ | refine r_load rfl T.cell_L_api_Class rfl (cell_row_f (by repeat constructor) (rows_get (by omega) rfl)) ?_ | refine r_load rfl T.cell_L_api_Class rfl (cell_rowg (by repeat constructor) rfl) ?_
    refine r_len_sl rfl T.u_L_api_Class rfl ?_
    refine r_sub _ rfl rfl rfl rfl (by unfold I64; omega) ?_
    refine hl_call F.trade_between_cb rfl rfl (trade_between_meets _ _ _) (List.Perm.refl _) trivial fun _ _ => ?_
    refine r_not rfl rfl ?_
    refine r_assign rfl rfl ?_
    refine hl_nil ?_
    refine then_n ?_
    first | refine c_dec rfl (fun hb2 => ?_) (fun hb2 => ?_) | refine hc_cond rfl (fun hb2 => ?_) (fun hb2 => ?_)
    ·have hb2' := hb2; try simp at hb2'
     refine hc_skip ?_
     exact cut_n _ () trivial ⟨rfl, rfl, rfl, rfl, congrArg (fun b => some (Value.bool b)) (by rw [hb2]; symm; rw [decide_eq_true_eq]; exact fun e => nbw hb2 e.1), trivial⟩ (List.Sublist.refl _) ⟨(by repeat constructor), (by repeat constructor), (by repeat constructor), (by repeat constructor), (by repeat constructor), trivial⟩
    ·have hb2' := hb2; try simp at hb2'
     refine hc_region ?_
     refine r_move rfl rfl ?_
     first | refine r_fieldAddr ⟨_, 0, none⟩ rfl rfl T.fa_api_Trades_0 rfl ?_ | refine r_fieldAddr _ rfl rfl T.fa_api_Trades_0 rfl ?_
     first | refine r_load rfl T.cell_L_api_Class rfl (cell_own (by repeat constructor) rfl) ?_ | refine r_load rfl T.cell_L_api_Class rfl (cell_blk (by repeat constructor) rfl) ?_ | refine r_load rfl T.cell_L_api_Class rfl (cell_row (by repeat constructor) (rows_get0 (by omega) rfl)) ?_ | refine r_load rfl T.cell_L_api_Class rfl (cell_row_f (by repeat constructor) (rows_get (by omega) rfl)) ?_ | refine r_load rfl T.cell_L_api_Class rfl (cell_rowg (by repeat constructor) rfl) ?_
     refine r_len_sl rfl T.u_L_api_Class rfl ?_
     refine r_sub _ rfl rfl rfl rfl (by unfold I64; omega) ?_
     refine hl_call F.trade_between_cb rfl rfl (trade_between_meets _ _ _) (List.Perm.refl _) trivial fun _ _ => ?_
     refine r_not rfl rfl ?_
     refine r_assign rfl rfl ?_
     refine hl_nil ?_
     exact cut_n _ () trivial ⟨rfl, rfl, rfl, rfl, congrArg (fun b => some (Value.bool b)) (by have := bw hb2; rw [Bool.eq_iff_iff]; simp only [Bool.not_eq_true', decide_eq_false_iff_not, decide_eq_true_eq]; exact ⟨fun e f => e f.2, fun e f => e ⟨this, f⟩⟩), trivial⟩ (List.Sublist.refl _) ⟨(by repeat constructor), (by repeat constructor), (by repeat constructor), (by repeat constructor), (by repeat constructor), trivial⟩
   ·refine fun _ _ => ?_
    first | refine c_dec rfl (fun hb3 => ?_) (fun hb3 => ?_) | refine hc_cond rfl (fun hb3 => ?_) (fun hb3 => ?_)
    ·have hb3' := hb3; try simp at hb3'
     refine hc_seq ?_
     refine hc_region ?_
     refine r_assign rfl rfl ?_
     refine r_assign rfl rfl ?_
     refine hl_nil ?_
     refine then_n ?_
     refine hc_ret ?_
     refine inb_ret ?_
     refine then_ret ?_
     exact ret2 () rfl rfl rfl (by show Value.tuple #[int (leastE _ _ _).1, int (leastE _ _ _).2] = _; rw [leastE, if_neg hb1, if_pos hb3]) rfl trivial (List.nil_sublist _) trivial
    ·have hb3' := hb3; try simp at hb3'
     have hr := Classical.not_not.1 hb3
     have hE : leastE (trOf cs hs) a b = (leastN (pathT cs a) (pathT cs b) cs.length, 0) := by rw [leastE, if_neg hb1, if_neg hb3]; rfl
     refine hc_skip ?_
     refine inb_n ?_
     refine then_n ?_
     refine hc_seq ?_
     refine hc_seq ?_
     refine hc_region ?_
     first | refine r_fieldAddr ⟨_, 0, none⟩ rfl rfl T.fa_api_Trades_0 rfl ?_ | refine r_fieldAddr _ rfl rfl T.fa_api_Trades_0 rfl ?_
     first | refine r_load rfl T.cell_L_api_Class rfl (cell_own (by repeat constructor) rfl) ?_ | refine r_load rfl T.cell_L_api_Class rfl (cell_blk (by repeat constructor) rfl) ?_ | refine r_load rfl T.cell_L_api_Class rfl (cell_row (by repeat constructor) (rows_get0 (by omega) rfl)) ?_ | refine r_load rfl T.cell_L_api_Class rfl (cell_row_f (by repeat constructor) (rows_get (by omega) rfl)) ?_ | refine r_load rfl T.cell_L_api_Class rfl (cell_rowg (by repeat constructor) rfl) ?_
     refine r_len_sl rfl T.u_L_api_Class rfl ?_
     refine r_sub _ rfl rfl rfl rfl (by unfold I64; omega) ?_
     refine r_assign rfl rfl ?_
     refine hl_nil ?_
     refine then_n ?_
     refine hc_block ?_
     refine hc_loop (β := Nat) ⟨fun k => k ≤ cs.length ∧ leastN (pathT cs a) (pathT cs b) cs.length = leastN (pathT cs a) (pathT cs b) k, fun k => [(1, int a), (2, int b), (8, .pointer (some ⟨gl, 0, none⟩)), (10, int ((k : Int) - 1))], fun _ => [], fun _ => [Row (some ⟨gl, 0, none⟩) [.slice A cs.length ca, .slice B hs.length cb, .slice oa cs.length oc, .slice ka hs.length kc], Row oa (rows (masksN cs cs.length)), Row ka (rows (kindsN hs hs.length)), Row A (rows cs), RowsF B hs Hd.row]⟩ (fun k => k) cs.length ⟨Nat.le_refl _, rfl⟩ ⟨rfl, rfl, rfl, rfl, trivial⟩ (List.nil_sublist _) ⟨(by repeat constructor), (by repeat constructor), (by repeat constructor), (by repeat constructor), (by repeat constructor), trivial⟩ fun k hk => ?_
     obtain ⟨hk, ht⟩ := hk
     refine hc_seq ?_
     refine hc_seq ?_
     refine hc_region ?_
     refine r_move rfl rfl ?_
     refine r_geq rfl rfl rfl ?_
     refine hl_nil ?_
     refine then_n ?_
     first | refine c_dec rfl (fun hb4 => ?_) (fun hb4 => ?_) | refine hc_cond rfl (fun hb4 => ?_) (fun hb4 => ?_)
     ·have hb4' := hb4; try simp at hb4'
      obtain ⟨j, rfl⟩ : ∃ j, k = j + 1 := ⟨k - 1, by omega⟩
      rw [leastN_succ] at ht
      have hj1 : (((j + 1 : Nat) : Int) - 1) = (j : Int) := by omega
      refine hc_skip ?_
      refine then_n ?_
      refine hc_seq ?_
      refine hc_block ?_
      refine hc_seq ?_
      refine hc_draw 16 mixed (by decide) (by decide) rfl rfl ?_
      apply hb_ex _ rfl rfl rfl
      ·intro w1
       refine r_move rfl rfl ?_
       refine hl_nil ?_
       exact qe_done rfl
      apply hb_ex _ rfl rfl rfl
      ·intro w1
       refine r_nilCheck rfl rfl ?_
       refine hl_nil ?_
       exact qe_done rfl
      apply hb_ex _ rfl rfl rfl
      ·intro w1
       first | refine r_fieldAddr ⟨_, 2, none⟩ rfl rfl T.fa_trade_list_1 rfl ?_ | refine r_fieldAddr _ rfl rfl T.fa_trade_list_1 rfl ?_
       refine hl_nil ?_
       exact qe_done rfl
      apply hb_ex _ rfl rfl rfl
      ·intro w1
       first | refine r_load rfl T.cell_L_trade_classes rfl (cell_blk (by repeat constructor) rfl) ?_ | refine r_load rfl T.cell_L_trade_classes rfl (cell_own (by repeat constructor) rfl) ?_ | refine r_load rfl T.cell_L_trade_classes rfl (cell_row (by repeat constructor) (rows_get0 (by omega) rfl)) ?_ | refine r_load rfl T.cell_L_trade_classes rfl (cell_row_f (by repeat constructor) (rows_get (by omega) rfl)) ?_ | refine r_load rfl T.cell_L_trade_classes rfl (cell_rowg (by repeat constructor) rfl) ?_
       refine hl_nil ?_
       exact qe_done rfl
      apply hb_ex _ rfl rfl rfl
      ·intro w1
       refine r_move rfl rfl ?_
       refine hl_nil ?_
       exact qe_done rfl
      apply hb_ex _ rfl rfl rfl
      ·intro w1
       refine r_elem (α := Nat) (masksN cs cs.length) a.toNat rfl T.u_L_trade_classes T.sz_trade_classes rfl rfl (Int.toNat_of_nonneg hr.1.1).symm (by repeat constructor) (masks_len _ _).symm (by rw [masks_len]; omega) (by decide) ?_
       refine hl_nil ?_
       exact qe_done rfl
      apply hb_ex _ rfl rfl rfl
      ·intro w1
       refine r_load (v := u8 ((masksN cs cs.length).getD a.toNat default)) rfl T.cell_trade_classes rfl (cell_row (by repeat constructor) (rows_get0 (by rw [masks_len]; omega) rfl)) ?_
       refine hl_nil ?_
       exact qe_done rfl
      apply hb_ex _ rfl rfl rfl
      ·intro w1
       refine r_move rfl rfl ?_
       refine hl_nil ?_
       exact qe_done rfl
      apply hb_ex _ rfl rfl rfl
      ·intro w1
       refine r_nilCheck rfl rfl ?_
       refine hl_nil ?_
       exact qe_done rfl
      apply hb_ex _ rfl rfl rfl
      ·intro w1
       first | refine r_fieldAddr ⟨_, 2, none⟩ rfl rfl T.fa_trade_list_1 rfl ?_ | refine r_fieldAddr _ rfl rfl T.fa_trade_list_1 rfl ?_
       refine hl_nil ?_
       exact qe_done rfl
      apply hb_ex _ rfl rfl rfl
      ·intro w1
       first | refine r_load rfl T.cell_L_trade_classes rfl (cell_blk (by repeat constructor) rfl) ?_ | refine r_load rfl T.cell_L_trade_classes rfl (cell_own (by repeat constructor) rfl) ?_ | refine r_load rfl T.cell_L_trade_classes rfl (cell_row (by repeat constructor) (rows_get0 (by omega) rfl)) ?_ | refine r_load rfl T.cell_L_trade_classes rfl (cell_row_f (by repeat constructor) (rows_get (by omega) rfl)) ?_ | refine r_load rfl T.cell_L_trade_classes rfl (cell_rowg (by repeat constructor) rfl) ?_
       refine hl_nil ?_
       exact qe_done rfl
      apply hb_ex _ rfl rfl rfl
      ·intro w1
       refine r_move rfl rfl ?_
       refine hl_nil ?_
       exact qe_done rfl
      apply hb_ex _ rfl rfl rfl
      ·intro w1
       refine r_elem (α := Nat) (masksN cs cs.length) b.toNat rfl T.u_L_trade_classes T.sz_trade_classes rfl rfl (Int.toNat_of_nonneg hr.2.1).symm (by repeat constructor) (masks_len _ _).symm (by rw [masks_len]; omega) (by decide) ?_
       refine hl_nil ?_
       exact qe_done rfl
      apply hb_ex _ rfl rfl rfl
      ·intro w1
       refine r_load (v := u8 ((masksN cs cs.length).getD b.toNat default)) rfl T.cell_trade_classes rfl (cell_row (by repeat constructor) (rows_get0 (by rw [masks_len]; omega) rfl)) ?_
       refine hl_nil ?_
       exact qe_done rfl
      apply hb_ex _ rfl rfl rfl
      ·intro w1
       refine r_and8 (a := ((masksN cs cs.length).getD a.toNat default)) (b := ((masksN cs cs.length).getD b.toNat default)) rfl rfl rfl (masks_lt (i := a.toNat) h6 hcl (by omega)) (masks_lt (i := b.toNat) h6 hcl (by omega)) ?_
       refine hl_nil ?_
       exact qe_done rfl
      apply hb_ex _ rfl rfl rfl
      ·intro w1
       refine r_move (v := int j) rfl (congrArg (fun z => some (int z)) hj1) ?_
       refine hl_nil ?_
       exact qe_done rfl
      refine hb_nil ⟨rfl, ?_⟩
      refine hl_call F.trade_classes_has_cb rfl rfl (trade_classes_has_meets ((masksN cs cs.length).getD a.toNat default &&& (masksN cs cs.length).getD b.toNat default) j (Nat.lt_of_le_of_lt Nat.and_le_left (masks_lt (i := a.toNat) h6 hcl (by omega))) (by omega)) (List.Perm.refl _) trivial fun _ _ => ?_
      refine hl_nil ?_
      refine then_n ?_
      first | refine c_dec rfl (fun hb5 => ?_) (fun hb5 => ?_) | refine hc_cond rfl (fun hb5 => ?_) (fun hb5 => ?_)
      ·have hb5' := hb5; try simp at hb5'
       rw [Nat.testBit_and, masks_bit h6 hcl hr.1.1 (by omega), masks_bit h6 hcl hr.2.1 (by omega), ← Bool.decide_and, decide_eq_true_eq] at hb5
       rw [if_pos hb5] at ht
       refine hc_seq ?_
       refine hc_region ?_
       refine r_move rfl rfl ?_
       refine r_assign rfl rfl ?_
       refine r_assign rfl rfl ?_
       refine hl_nil ?_
       refine then_n ?_
       refine hc_ret ?_
       refine inb_ret ?_
       refine then_ret ?_
       refine then_ret ?_
       refine inb_ret ?_
       refine then_ret ?_
       exact ret2 () rfl rfl rfl (by rw [hE, ht, hj1]) rfl trivial (List.nil_sublist _) trivial
      ·have hb5' := hb5; try simp at hb5'
       rw [Nat.testBit_and, masks_bit h6 hcl hr.1.1 (by omega), masks_bit h6 hcl hr.2.1 (by omega), ← Bool.decide_and, decide_eq_false_iff_not] at hb5
       rw [if_neg hb5] at ht
       refine hc_skip ?_
       refine inb_n ?_
       refine then_n ?_
       refine hc_region ?_
       refine r_move rfl rfl ?_
       refine r_sub ((j : Int) - 1) rfl rfl rfl (by omega) (by unfold I64; omega) ?_
       refine r_assign rfl rfl ?_
       refine hl_nil ?_
       exact again _ j ⟨by omega, ht⟩ (by show j < j + 1; omega) ⟨rfl, rfl, rfl, rfl, trivial⟩ (List.nil_sublist _) ⟨(by repeat constructor), (by repeat constructor), (by repeat constructor), (by repeat constructor), (by repeat constructor), trivial⟩
     ·have hb4' := hb4; try simp at hb4'
      have hk0 : k = 0 := by omega
      subst hk0
      refine hc_exit ?_
      refine then_exit ?_
      refine then_exit ?_
      refine inb_hit ?_
      refine then_n ?_
      refine hc_seq ?_
      refine hc_region ?_
      refine r_assign rfl rfl ?_
      refine r_assign rfl rfl ?_
      refine hl_nil ?_
      refine then_n ?_
      refine hc_ret ?_
      exact ret2 () rfl rfl rfl (by rw [hE, ht]; rfl) rfl trivial (List.nil_sublist _) trivial

end Go.Proofs.Ytlpgheniajdkfaa
