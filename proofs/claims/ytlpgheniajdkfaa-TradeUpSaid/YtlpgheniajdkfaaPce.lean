/- The walk of the statement TradeUp. -/
import Derived.Test.YtlpgheniajdkfaaPbi
namespace Go.Proofs.Ytlpgheniajdkfaa
open Go Go.W
set_option linter.unusedVariables false
set_option linter.unusedSimpArgs false
set_option maxRecDepth 20000
attribute [local irreducible] HL HC HQ HB Row Rows2 Blk Facts

theorem last_path {cs : List Cl} (hc : ∀ i, i < cs.length → ClsOK cs i) {i : Nat} (hi : i < cs.length) : 0 < (pathT cs (i : Int)).length ∧ (pathT cs (i : Int)).getD ((pathT cs (i : Int)).length - 1) default = (i : Int) := by
  have h := path_step cs hc (c := (i : Int)) (by omega) (by omega)
  rw [h]
  constructor
  · rw [List.length_append, List.length_singleton]; omega
  · rw [List.length_append, List.length_singleton, Nat.add_sub_cancel, List.getD_eq_getElem?_getD, List.getElem?_append_right (Nat.le_refl _), Nat.sub_self]
    rfl
/-- The classes of a path that lie below k. -/
def cntU (cs : List Cl) (c : Int) (k : Nat) : Nat := (mayK (maskOf (pathT cs c)) k).length
theorem cntU_succ {cs : List Cl} (hc : ∀ i, i < cs.length → ClsOK cs i) {c : Int} (h : c < (cs.length : Int)) (k : Nat) : cntU cs c (k + 1) = if (k : Int) ∈ pathT cs c then cntU cs c k + 1 else cntU cs c k := by
  have hm := mask_test (fun x hx => ((path_asc cs hc c.toNat c (Nat.le_refl _) h).2 x hx).1) k
  unfold cntU
  rw [mayK_succ, hm]
  by_cases e : (k : Int) ∈ pathT cs c
  · rw [if_pos e, if_pos (decide_eq_true e), List.length_append]; rfl
  · rw [if_neg e, if_neg (by rw [decide_eq_false e]; decide)]
theorem cntU_all {cs : List Cl} (h6 : cs.length ≤ 6) (hc : ∀ i, i < cs.length → ClsOK cs i) {c : Int} (h : c < (cs.length : Int)) : cntU cs c cs.length = (pathT cs c).length := by
  unfold cntU
  rw [path_bits h6 hc h]
theorem asc_le {l : List Int} (h : l.Pairwise (· < ·)) {j k : Nat} (hj : j ≤ k) (hk : k < l.length) : l.getD j default ≤ l.getD k default := by
  rw [getD_at (by omega), getD_at hk]
  by_cases e : j = k
  · subst e; exact Int.le_refl _
  · have := List.pairwise_iff_getElem.1 h j k (by omega) hk (by omega)
    omega
theorem underK_pre (t : Tr) (c : Int) {k : Nat} : ∀ {m : Nat}, k ≤ m → underK t c k <+: underK t c m
  | 0, h => by obtain rfl : k = 0 := (by omega); exact List.prefix_refl _
  | m + 1, h => by
    by_cases e : k = m + 1
    · subst e; exact List.prefix_refl _
    · refine (underK_pre t c (m := m) (by omega)).trans ?_
      rw [underK_succ]
      split
      · exact List.prefix_append _ _
      · exact List.prefix_refl _
theorem underK_at {t : Tr} {c : Int} {k : Nat} (hk : k < t.hs.length) (h : uB t c k = true) : (underK t c k).length < (underT t c).length ∧ (underT t c).getD (underK t c k).length default = (k : Int) := by
  have hp : underK t c (k + 1) <+: underT t c := underK_pre t c (by omega)
  rw [underK_succ, if_pos h] at hp
  obtain ⟨r, hr⟩ := hp
  rw [← hr]
  constructor
  · simp only [List.length_append, List.length_singleton]; omega
  · rw [List.getD_eq_getElem?_getD, List.append_assoc, List.getElem?_append_right (Nat.le_refl _), Nat.sub_self]
    rfl

set_option maxHeartbeats 1000000 in
theorem law04_TradeUp_meets {A : Option Addr} {c0 : Nat} (nums : List Int) (hn : nums.length ≤ 9223372036854775807) : Meets Try.prog F.law04_TradeUp [.slice A nums.length c0] { LI := [Row A (rows nums)], val := fun _ : Unit => .bool true } := by
 refine meets_intro F.law04_TradeUp_f rfl (Nat.le_of_ble_eq_true rfl) fun w0 => ?_
 refine hc_seq ?_
 refine hc_region ?_
 refine r_assign rfl rfl ?_
 refine hl_nil ?_
 refine then_n ?_
 refine hc_seq ?_
 refine hc_region ?_
 refine r_move rfl rfl ?_
 refine hl_call F.kit_NewDice_cb rfl rfl (kit_NewDice_meets nums) (List.Perm.refl _) ⟨(by repeat constructor), trivial⟩ fun g _ => ?_
 refine hl_call F.kit_TradesOf_cb rfl rfl (kit_TradesOf_meets 6 6 hn (dok0 nums) (by decide) (by decide)) (List.Perm.refl _) ⟨(by repeat constructor), trivial⟩ fun x hx => ?_
 obtain ⟨sd, cs, hs, ⟨CA, ca⟩, ⟨HB, cb⟩⟩ := x
 obtain ⟨hsd, hT⟩ := hx
 have hca : cs.length ≤ ca := hT.ca
 have hcb : hs.length ≤ cb := hT.cb
 have ha : ∀ h ∈ hs, h.2.2.2.l.length ≤ 1000000 := hT.ha
 have hT0 : checkT (trOf cs hs) = 0 := hT.ok
 have hok : TrOK (trOf cs hs) := tr_ok hT0
 clear hT
 have h6 : cs.length ≤ 6 := hok.c6
 have h6h := hok.h6
 have hln := hs_len cs hs
 rw [hln] at h6h
 have hcl : ∀ i, i < cs.length → ClsOK cs i := hok.c
 refine r_alloc rfl (fun _ => T.al_api_Trades _) fun gT => ?_
 refine r_storeS (cs := #[.slice CA cs.length ca, .slice HB hs.length cb]) rfl rfl (.refl _) T.sz_api_Trades (by rfl) (by rfl) ?_
 refine hl_nil ?_
 refine then_n ?_
 refine hc_seq ?_
 refine hc_seq ?_
 refine hc_letgoB ?_
 refine hc_outerF (ps := hs) (A := HB) (f := Hd.row) (by repeat constructor) ?_
 refine hc_region ?_
 refine r_assign rfl rfl ?_
 refine hl_nil ?_
 refine then_n ?_
 refine hc_block ?_
 refine hc_loop (β := Nat) ⟨fun i => i ≤ cs.length, fun i => [(3, .pointer (some ⟨gT, 0, none⟩)), (4, int i)], fun _ => [], fun _ => (Row HB (rows hs) :: [Blk gT (.cells #[.slice CA cs.length ca, .slice HB hs.length cb] T.api_Trades (0, 0)), Row CA (rows cs), RowsF HB hs Hd.row])⟩ (fun i => cs.length - i) 0 (Nat.zero_le _) ⟨rfl, rfl, trivial⟩ (List.nil_sublist _) ⟨(by repeat constructor), (by repeat constructor), (by repeat constructor), (by repeat constructor), trivial⟩ fun i hi => ?_
 simp only at hi
 refine hc_seq ?_
 refine hc_seq ?_
 refine hc_region ?_
 refine r_move rfl rfl ?_
 first | refine r_fieldAddr ⟨_, 0, none⟩ rfl rfl T.fa_api_Trades_0 rfl ?_ | refine r_fieldAddr _ rfl rfl T.fa_api_Trades_0 rfl ?_
 first | refine r_load rfl T.cell_L_api_Class rfl (cell_own (by repeat constructor) rfl) ?_ | refine r_load rfl T.cell_L_api_Class rfl (cell_blk (by repeat constructor) rfl) ?_ | refine r_load rfl T.cell_L_api_Class rfl (cell_row (by repeat constructor) (rows_get0 (by omega) rfl)) ?_ | refine r_load rfl T.cell_L_api_Class rfl (cell_row_f (by repeat constructor) (rows_get (by omega) rfl)) ?_ | refine r_load rfl T.cell_L_api_Class rfl (cell_rowg (by repeat constructor) rfl) ?_
 refine r_len_sl rfl T.u_L_api_Class rfl ?_
 refine r_lss rfl rfl rfl ?_
 refine hl_nil ?_
 refine then_n ?_
 first | refine c_dec rfl (fun hb1 => ?_) (fun hb1 => ?_) | refine hc_cond rfl (fun hb1 => ?_) (fun hb1 => ?_)
 ·have hb1' := hb1; try simp at hb1'
  have hi2 : i < cs.length := by omega
  have hrg : 0 ≤ (i : Int) ∧ (i : Int) ≤ (cs.length : Int) - 1 := by omega
  have hlp := last_path hcl hi2
  have hpa := path_asc cs hcl i (i : Int) (by omega) (by omega)
  have hca2 := cntU_all h6 hcl (c := (i : Int)) (by omega)
  have hpl : (pathT cs (i : Int)).length ≤ 6 := by
    have := congrArg List.length (path_bits h6 hcl (c := (i : Int)) (by omega))
    have h2 := mayK_len (maskOf (pathT cs (i : Int))) cs.length
    omega
  have hul := underK_len (trOf cs hs) (i : Int) hs.length
  have hua2 : (underK (trOf cs hs) (i : Int) hs.length) = (underT (trOf cs hs) (i : Int)) := by rw [← underK_all, hln]
  rw [hua2] at hul
  refine hc_skip ?_
  refine then_n ?_
  refine hc_seq ?_
  refine hc_block ?_
  refine hc_seq ?_
  refine hc_region ?_
  first | refine r_loadA rfl T.row_api_Trades T.sz_api_Trades rfl (by repeat constructor) (by rfl) ?_ | refine r_loadB rfl T.row_api_Trades T.sz_api_Trades rfl (by repeat constructor) (by rfl) ?_ | refine r_loadS rfl T.row_api_Trades T.sz_api_Trades rfl rfl (cells_row (by repeat constructor) (rows_all (by omega))) ?_
  refine r_move rfl rfl ?_
  refine hl_call F.trade_Path_cb rfl rfl (path_is cs hs (i : Int) hca hcb ha hT0 hrg) (List.Perm.refl _) ⟨(by repeat constructor), (by repeat constructor), trivial⟩ fun y hy => ?_
  refine r_move rfl rfl ?_
  refine r_extract rfl rfl rfl ?_
  refine r_extract rfl rfl rfl ?_
  refine r_assign rfl rfl ?_
  refine r_assign rfl rfl ?_
  refine hl_nil ?_
  refine then_n ?_
  refine hc_seq ?_
  refine hc_region ?_
  first | refine r_loadA rfl T.row_api_Trades T.sz_api_Trades rfl (by repeat constructor) (by rfl) ?_ | refine r_loadB rfl T.row_api_Trades T.sz_api_Trades rfl (by repeat constructor) (by rfl) ?_ | refine r_loadS rfl T.row_api_Trades T.sz_api_Trades rfl rfl (cells_row (by repeat constructor) (rows_all (by omega))) ?_
  refine r_move rfl rfl ?_
  refine hl_call F.trade_Under_cb rfl rfl (under_is cs hs (i : Int) hca hcb ha hT0 hrg) (List.Perm.refl _) ⟨(by repeat constructor), (by repeat constructor), trivial⟩ fun u hu => ?_
  refine r_move rfl rfl ?_
  refine r_extract rfl rfl rfl ?_
  refine r_extract rfl rfl rfl ?_
  refine r_assign rfl rfl ?_
  refine r_assign rfl rfl ?_
  refine hl_nil ?_
  refine then_n ?_
  refine hc_seq ?_
  refine hc_seq ?_
  refine hc_region ?_
  refine r_move rfl rfl ?_
  refine r_neq rfl rfl rfl ?_
  refine r_move rfl rfl ?_
  refine g_split rfl rfl ?_ ?_
  ·intro hg1; have hg1' := hg1; try simp at hg1'
   refine g_yes rfl rfl hg1 ?_
   refine r_move rfl rfl ?_
   refine g_yes rfl rfl hg1 ?_
   refine r_neq rfl rfl rfl ?_
   refine p_f rfl rfl (bf1 hg1) rfl ?_
   refine r_move rfl rfl ?_
   refine g_split rfl rfl ?_ ?_
   ·intro hg2; have hg2' := hg2; try simp at hg2'
    refine g_yes rfl rfl hg2 ?_
    refine r_move rfl rfl ?_
    refine g_yes rfl rfl hg2 ?_
    refine r_len_sl rfl T.u_ints rfl ?_
    refine g_yes rfl rfl hg2 ?_
    refine r_eql rfl rfl rfl ?_
    refine p_f rfl rfl (bf1 hg2) rfl ?_
    refine r_move rfl rfl ?_
    refine g_split rfl rfl ?_ ?_
    ·intro hg3; have hg3' := hg3; try simp at hg3'
     refine g_yes rfl rfl hg3 ?_
     refine r_move rfl rfl ?_
     refine g_yes rfl rfl hg3 ?_
     refine r_move rfl rfl ?_
     refine g_yes rfl rfl hg3 ?_
     refine r_len_sl rfl T.u_ints rfl ?_
     refine g_yes rfl rfl hg3 ?_
     refine r_sub _ rfl rfl rfl rfl (by unfold I64; omega) ?_
     refine g_yes rfl rfl hg3 ?_
     refine r_elem (α := Int) (pathT cs (i : Int)) ((pathT cs (i : Int)).length - 1) rfl T.u_ints T.sz_int rfl rfl (by omega) (by repeat constructor) rfl (by omega) (by decide) ?_
     refine g_yes rfl rfl hg3 ?_
     refine r_load (v := int (i : Int)) rfl T.cell_int rfl (cell_row (by repeat constructor) (rows_get0 (by omega) (by rw [hlp.2]; rfl))) ?_
     refine g_yes rfl rfl hg3 ?_
     refine r_move rfl rfl ?_
     refine g_yes rfl rfl hg3 ?_
     refine r_neq rfl rfl rfl ?_
     refine p_f rfl rfl (bf1 hg3) rfl ?_
     refine hl_nil ?_
     refine then_n ?_
     first | refine c_dec rfl (fun hb2 => ?_) (fun hb2 => ?_) | refine hc_cond rfl (fun hb2 => ?_) (fun hb2 => ?_)
     ·have hb2' := hb2; try simp at hb2'
     ·have hb2' := hb2; try simp at hb2'
      refine hc_skip ?_
      refine then_n ?_
      refine hc_seq ?_
      refine hc_region ?_
      refine r_assign rfl rfl ?_
      refine hl_nil ?_
      refine then_n ?_
      refine hc_seq ?_
      refine hc_seq ?_
      refine hc_region ?_
      refine r_assign rfl rfl ?_
      refine hl_nil ?_
      refine then_n ?_
      refine hc_block ?_
      refine hc_loop (β := Nat) ⟨fun j => j ≤ cs.length, fun j => [(3, .pointer (some ⟨gT, 0, none⟩)), (4, int i), (5, .slice y.1 (pathT cs (i : Int)).length y.2), (7, .slice u.1 (underT (trOf cs hs) (i : Int)).length u.2), (9, int (cntU cs (i : Int) j)), (10, int j)], fun _ => [], fun _ => (Row u.1 (rows (underT (trOf cs hs) (i : Int))) :: Row y.1 (rows (pathT cs (i : Int))) :: (Row HB (rows hs) :: [Blk gT (.cells #[.slice CA cs.length ca, .slice HB hs.length cb] T.api_Trades (0, 0)), Row CA (rows cs), RowsF HB hs Hd.row]))⟩ (fun j => cs.length - j) 0 (Nat.zero_le _) ⟨rfl, rfl, rfl, rfl, rfl, rfl, trivial⟩ (List.nil_sublist _) ⟨(by repeat constructor), (by repeat constructor), (by repeat constructor), (by repeat constructor), (by repeat constructor), (by repeat constructor), trivial⟩ fun j hj => ?_
      simp only at hj
      have hcu := cntU_succ hcl (c := (i : Int)) (by omega) j
      have hcl2 : cntU cs (i : Int) j ≤ j := by unfold cntU; exact mayK_len _ _
      refine hc_seq ?_
      refine hc_seq ?_
      refine hc_region ?_
      refine r_move rfl rfl ?_
      first | refine r_fieldAddr ⟨_, 0, none⟩ rfl rfl T.fa_api_Trades_0 rfl ?_ | refine r_fieldAddr _ rfl rfl T.fa_api_Trades_0 rfl ?_
      first | refine r_load rfl T.cell_L_api_Class rfl (cell_own (by repeat constructor) rfl) ?_ | refine r_load rfl T.cell_L_api_Class rfl (cell_blk (by repeat constructor) rfl) ?_ | refine r_load rfl T.cell_L_api_Class rfl (cell_row (by repeat constructor) (rows_get0 (by omega) rfl)) ?_ | refine r_load rfl T.cell_L_api_Class rfl (cell_row_f (by repeat constructor) (rows_get (by omega) rfl)) ?_ | refine r_load rfl T.cell_L_api_Class rfl (cell_rowg (by repeat constructor) rfl) ?_
      refine r_len_sl rfl T.u_L_api_Class rfl ?_
      refine r_lss rfl rfl rfl ?_
      refine hl_nil ?_
      refine then_n ?_
      first | refine c_dec rfl (fun hb3 => ?_) (fun hb3 => ?_) | refine hc_cond rfl (fun hb3 => ?_) (fun hb3 => ?_)
      ·have hb3' := hb3; try simp at hb3'
       have hj2 : j < cs.length := by omega
       refine hc_skip ?_
       refine then_n ?_
       refine hc_seq ?_
       refine hc_block ?_
       refine hc_seq ?_
       refine hc_seq ?_
       refine hc_region ?_
       first | refine r_loadA rfl T.row_api_Trades T.sz_api_Trades rfl (by repeat constructor) (by rfl) ?_ | refine r_loadB rfl T.row_api_Trades T.sz_api_Trades rfl (by repeat constructor) (by rfl) ?_ | refine r_loadS rfl T.row_api_Trades T.sz_api_Trades rfl rfl (cells_row (by repeat constructor) (rows_all (by omega))) ?_
       refine r_move rfl rfl ?_
       refine r_move rfl rfl ?_
       refine hl_call F.law04_under_cb rfl rfl (law04_under_meets (A := CA) (B := HB) (ca := ca) (cb := cb) cs hs (i : Int) (j : Int) (by omega) (by omega) h6 hcl) (List.Perm.refl _) ⟨(by repeat constructor), trivial⟩ fun _ _ => ?_
       refine r_move rfl rfl ?_
       refine r_move rfl rfl ?_
       refine hl_call F.kit_Index_cb rfl rfl (kit_Index_meets (pathT cs (i : Int)) (j : Int) (by omega)) (List.Perm.refl _) ⟨(by repeat constructor), trivial⟩ fun z hz => ?_
       refine r_geq rfl rfl rfl ?_
       refine r_bneq rfl T.u_bool rfl rfl ?_
       refine hl_nil ?_
       refine then_n ?_
       first | refine c_dec rfl (fun hb4 => ?_) (fun hb4 => ?_) | refine hc_cond rfl (fun hb4 => ?_) (fun hb4 => ?_)
       ·have h0 : decide ((j : Int) ∈ (pathT cs (i : Int))) = decide (0 ≤ z) := decide_eq_decide.2 hz.1.symm; rw [h0] at hb4; simp at hb4
       ·have hb4' := hb4; try simp at hb4'
        refine hc_skip ?_
        refine then_n ?_
        refine hc_seq ?_
        refine hc_region ?_
        first | refine r_loadA rfl T.row_api_Trades T.sz_api_Trades rfl (by repeat constructor) (by rfl) ?_ | refine r_loadB rfl T.row_api_Trades T.sz_api_Trades rfl (by repeat constructor) (by rfl) ?_ | refine r_loadS rfl T.row_api_Trades T.sz_api_Trades rfl rfl (cells_row (by repeat constructor) (rows_all (by omega))) ?_
        refine r_move rfl rfl ?_
        refine r_move rfl rfl ?_
        refine hl_call F.law04_under_cb rfl rfl (law04_under_meets (A := CA) (B := HB) (ca := ca) (cb := cb) cs hs (i : Int) (j : Int) (by omega) (by omega) h6 hcl) (List.Perm.refl _) ⟨(by repeat constructor), trivial⟩ fun _ _ => ?_
        refine hl_nil ?_
        refine then_n ?_
        first | refine c_dec rfl (fun hb5 => ?_) (fun hb5 => ?_) | refine hc_cond rfl (fun hb5 => ?_) (fun hb5 => ?_)
        ·have hb5' := hb5; try simp at hb5'
         have h5 : (j : Int) ∈ pathT cs (i : Int) := by simpa using hb5
         rw [if_pos h5] at hcu
         refine hc_region ?_
         refine r_move rfl rfl ?_
         refine r_add _ rfl rfl rfl rfl (by unfold I64; omega) ?_
         refine r_assign rfl rfl ?_
         refine hl_nil ?_
         refine inb_n ?_
         refine then_n ?_
         refine hc_region ?_
         refine r_move rfl rfl ?_
         refine r_add _ rfl rfl rfl rfl (by unfold I64; omega) ?_
         refine r_assign rfl rfl ?_
         refine hl_nil ?_
         exact again _ (j + 1) (by show j + 1 ≤ cs.length; omega) (by show cs.length - (j + 1) < cs.length - j; omega) ⟨rfl, rfl, rfl, rfl, congrArg (fun n : Nat => some (int (n : Int))) hcu.symm, rfl, trivial⟩ (List.nil_sublist _) ⟨(by repeat constructor), (by repeat constructor), (by repeat constructor), (by repeat constructor), (by repeat constructor), (by repeat constructor), trivial⟩
        ·have hb5' := hb5; try simp at hb5'
         have h5 : ¬ (j : Int) ∈ pathT cs (i : Int) := by simpa using hb5
         rw [if_neg h5] at hcu
         refine hc_skip ?_
         refine inb_n ?_
         refine then_n ?_
         refine hc_region ?_
         refine r_move rfl rfl ?_
         refine r_add _ rfl rfl rfl rfl (by unfold I64; omega) ?_
         refine r_assign rfl rfl ?_
         refine hl_nil ?_
         exact again _ (j + 1) (by show j + 1 ≤ cs.length; omega) (by show cs.length - (j + 1) < cs.length - j; omega) ⟨rfl, rfl, rfl, rfl, congrArg (fun n : Nat => some (int (n : Int))) hcu.symm, rfl, trivial⟩ (List.nil_sublist _) ⟨(by repeat constructor), (by repeat constructor), (by repeat constructor), (by repeat constructor), (by repeat constructor), (by repeat constructor), trivial⟩
      ·have hb3' := hb3; try simp at hb3'
       obtain rfl : j = cs.length := by omega
       refine hc_exit ?_
       refine then_exit ?_
       refine then_exit ?_
       refine inb_hit ?_
       refine then_n ?_
       refine hc_seq ?_
       refine hc_seq ?_
       refine hc_region ?_
       refine r_assign rfl rfl ?_
       refine hl_nil ?_
       refine then_n ?_
       refine hc_block ?_
       refine hc_loop (β := Nat) ⟨fun k => k ≤ (pathT cs (i : Int)).length, fun k => [(3, .pointer (some ⟨gT, 0, none⟩)), (4, int i), (5, .slice y.1 (pathT cs (i : Int)).length y.2), (7, .slice u.1 (underT (trOf cs hs) (i : Int)).length u.2), (9, int (pathT cs (i : Int)).length), (11, int k)], fun _ => [], fun _ => (Row u.1 (rows (underT (trOf cs hs) (i : Int))) :: Row y.1 (rows (pathT cs (i : Int))) :: (Row HB (rows hs) :: [Blk gT (.cells #[.slice CA cs.length ca, .slice HB hs.length cb] T.api_Trades (0, 0)), Row CA (rows cs), RowsF HB hs Hd.row]))⟩ (fun k => (pathT cs (i : Int)).length - k) 0 (Nat.zero_le _) ⟨rfl, rfl, rfl, rfl, congrArg (fun n : Nat => some (int (n : Int))) hca2, rfl, trivial⟩ (List.nil_sublist _) ⟨(by repeat constructor), (by repeat constructor), (by repeat constructor), (by repeat constructor), (by repeat constructor), (by repeat constructor), trivial⟩ fun k hk => ?_
       simp only at hk
       refine hc_seq ?_
       refine hc_seq ?_
       refine hc_region ?_
       refine r_move rfl rfl ?_
       refine r_move rfl rfl ?_
       refine r_len_sl rfl T.u_ints rfl ?_
       refine r_lss rfl rfl rfl ?_
       refine hl_nil ?_
       refine then_n ?_
       first | refine c_dec rfl (fun hb6 => ?_) (fun hb6 => ?_) | refine hc_cond rfl (fun hb6 => ?_) (fun hb6 => ?_)
       ·have hb6' := hb6; try simp at hb6'
        have hk2 : k < (pathT cs (i : Int)).length := by omega
        refine hc_skip ?_
        refine then_n ?_
        refine hc_seq ?_
        refine hc_block ?_
        refine hc_seq ?_
        refine hc_region ?_
        refine r_assign rfl rfl ?_
        refine hl_nil ?_
        refine then_n ?_
        refine hc_block ?_
        refine hc_loop (β := Nat) ⟨fun j => j ≤ k + 1, fun j => [(3, .pointer (some ⟨gT, 0, none⟩)), (4, int i), (5, .slice y.1 (pathT cs (i : Int)).length y.2), (7, .slice u.1 (underT (trOf cs hs) (i : Int)).length u.2), (9, int (pathT cs (i : Int)).length), (11, int k), (12, int j)], fun _ => [], fun _ => (Row u.1 (rows (underT (trOf cs hs) (i : Int))) :: Row y.1 (rows (pathT cs (i : Int))) :: (Row HB (rows hs) :: [Blk gT (.cells #[.slice CA cs.length ca, .slice HB hs.length cb] T.api_Trades (0, 0)), Row CA (rows cs), RowsF HB hs Hd.row]))⟩ (fun j => k + 1 - j) 0 (Nat.zero_le _) ⟨rfl, rfl, rfl, rfl, rfl, rfl, rfl, trivial⟩ (List.nil_sublist _) ⟨(by repeat constructor), (by repeat constructor), (by repeat constructor), (by repeat constructor), (by repeat constructor), (by repeat constructor), trivial⟩ fun j hj => ?_
        simp only at hj
        refine hc_seq ?_
        refine hc_seq ?_
        refine hc_region ?_
        refine r_move rfl rfl ?_
        refine r_move rfl rfl ?_
        refine r_leq rfl rfl rfl ?_
        refine hl_nil ?_
        refine then_n ?_
        first | refine c_dec rfl (fun hb7 => ?_) (fun hb7 => ?_) | refine hc_cond rfl (fun hb7 => ?_) (fun hb7 => ?_)
        ·have hb7' := hb7; try simp at hb7'
         have hj2 : j ≤ k := by omega
         have hjl : j < (pathT cs (i : Int)).length := by omega
         have hmj := getD_mem hjl
         have hmk := getD_mem hk2
         have hpj := hpa.2 _ hmj
         have hpk := hpa.2 _ hmk
         have hle := asc_le hpa.1 hj2 hk2
         have hund := path_below cs hcl i (i : Int) (by omega) (by omega) _ _ hmk hmj hle
         generalize hpje : (pathT cs (i : Int)).getD j default = pj at *
         generalize hpke : (pathT cs (i : Int)).getD k default = pk at *
         refine hc_skip ?_
         refine then_n ?_
         refine hc_seq ?_
         refine hc_block ?_
         refine hc_seq ?_
         refine hc_draw 25 mixed (by decide) (by decide) rfl rfl ?_
         apply hb_ex _ rfl rfl rfl
         ·intro w1
          refine r_move rfl rfl ?_
          refine hl_nil ?_
          exact qe_done rfl
         apply hb_ex _ rfl rfl rfl
         ·intro w1
          refine r_move rfl rfl ?_
          refine hl_nil ?_
          exact qe_done rfl
         apply hb_ex _ rfl rfl rfl
         ·intro w1
          refine r_elem (α := Int) (pathT cs (i : Int)) j rfl T.u_ints T.sz_int rfl rfl rfl (by repeat constructor) rfl hjl (by decide) ?_
          refine hl_nil ?_
          exact qe_done rfl
         apply hb_ex _ rfl rfl rfl
         ·intro w1
          refine r_load (v := int pj) rfl T.cell_int rfl (cell_row (by repeat constructor) (rows_get0 hjl (by rw [hpje]; rfl))) ?_
          refine hl_nil ?_
          exact qe_done rfl
         apply hb_ex _ rfl rfl rfl
         ·intro w1
          refine r_lss rfl rfl rfl ?_
          refine hl_nil ?_
          exact qe_done rfl
         apply hb_ex _ rfl rfl rfl
         ·intro w1
          refine r_move rfl rfl ?_
          refine hl_nil ?_
          exact qe_done rfl
         refine hb_split (t := 96) (want := false) rfl ?_ ?_
         ·intro hg4; have hg4' := hg4; try simp at hg4'
          apply hb_ex _ rfl rfl rfl
          ·intro w1
           refine g_yes rfl rfl hg4 ?_
           refine r_move rfl rfl ?_
           refine hl_nil ?_
           exact qe_done rfl
          apply hb_ex _ rfl rfl rfl
          ·intro w1
           refine g_yes rfl rfl hg4 ?_
           refine r_move rfl rfl ?_
           refine hl_nil ?_
           exact qe_done rfl
          apply hb_ex _ rfl rfl rfl
          ·intro w1
           refine g_yes rfl rfl hg4 ?_
           refine r_elem (α := Int) (pathT cs (i : Int)) j rfl T.u_ints T.sz_int rfl rfl rfl (by repeat constructor) rfl hjl (by decide) ?_
           refine hl_nil ?_
           exact qe_done rfl
          apply hb_ex _ rfl rfl rfl
          ·intro w1
           refine g_yes rfl rfl hg4 ?_
           refine r_load (v := int pj) rfl T.cell_int rfl (cell_row (by repeat constructor) (rows_get0 hjl (by rw [hpje]; rfl))) ?_
           refine hl_nil ?_
           exact qe_done rfl
          apply hb_ex _ rfl rfl rfl
          ·intro w1
           refine g_yes rfl rfl hg4 ?_
           first | refine r_fieldAddr ⟨_, 0, none⟩ rfl rfl T.fa_api_Trades_0 rfl ?_ | refine r_fieldAddr _ rfl rfl T.fa_api_Trades_0 rfl ?_
           refine hl_nil ?_
           exact qe_done rfl
          apply hb_ex _ rfl rfl rfl
          ·intro w1
           refine g_yes rfl rfl hg4 ?_
           first | refine r_load rfl T.cell_L_api_Class rfl (cell_blk (by repeat constructor) rfl) ?_ | refine r_load rfl T.cell_L_api_Class rfl (cell_own (by repeat constructor) rfl) ?_ | refine r_load rfl T.cell_L_api_Class rfl (cell_row (by repeat constructor) (rows_get0 (by omega) rfl)) ?_ | refine r_load rfl T.cell_L_api_Class rfl (cell_row_f (by repeat constructor) (rows_get (by omega) rfl)) ?_ | refine r_load rfl T.cell_L_api_Class rfl (cell_rowg (by repeat constructor) rfl) ?_
           refine hl_nil ?_
           exact qe_done rfl
          apply hb_ex _ rfl rfl rfl
          ·intro w1
           refine g_yes rfl rfl hg4 ?_
           refine r_len_sl rfl T.u_L_api_Class rfl ?_
           refine hl_nil ?_
           exact qe_done rfl
          apply hb_ex _ rfl rfl rfl
          ·intro w1
           refine g_yes rfl rfl hg4 ?_
           refine r_geq rfl rfl rfl ?_
           refine hl_nil ?_
           exact qe_done rfl
          apply hb_ex _ rfl rfl rfl
          ·intro w1
           refine p_f rfl rfl (bf1 hg4) rfl ?_
           refine hl_nil ?_
           exact qe_done rfl
          apply hb_ex _ rfl rfl rfl
          ·intro w1
           refine r_move rfl rfl ?_
           refine hl_nil ?_
           exact qe_done rfl
          refine hb_split (t := 106) (want := false) rfl ?_ ?_
          ·intro hg5; have hg5' := hg5; try simp at hg5'
           apply hb_ex _ rfl rfl rfl
           ·intro w1
            refine g_yes rfl rfl hg5 ?_
            first | refine r_loadA rfl T.row_api_Trades T.sz_api_Trades rfl (by repeat constructor) (by rfl) ?_ | refine r_loadB rfl T.row_api_Trades T.sz_api_Trades rfl (by repeat constructor) (by rfl) ?_ | refine r_loadS rfl T.row_api_Trades T.sz_api_Trades rfl rfl (cells_row (by repeat constructor) (rows_all (by omega))) ?_
            refine hl_nil ?_
            exact qe_done rfl
           apply hb_ex _ rfl rfl rfl
           ·intro w1
            refine g_yes rfl rfl hg5 ?_
            refine r_move rfl rfl ?_
            refine hl_nil ?_
            exact qe_done rfl
           apply hb_ex _ rfl rfl rfl
           ·intro w1
            refine g_yes rfl rfl hg5 ?_
            refine r_move rfl rfl ?_
            refine hl_nil ?_
            exact qe_done rfl
           apply hb_ex _ rfl rfl rfl
           ·intro w1
            refine g_yes rfl rfl hg5 ?_
            refine r_elem (α := Int) (pathT cs (i : Int)) k rfl T.u_ints T.sz_int rfl rfl rfl (by repeat constructor) rfl hk2 (by decide) ?_
            refine hl_nil ?_
            exact qe_done rfl
           apply hb_ex _ rfl rfl rfl
           ·intro w1
            refine g_yes rfl rfl hg5 ?_
            refine r_load (v := int pk) rfl T.cell_int rfl (cell_row (by repeat constructor) (rows_get0 hk2 (by rw [hpke]; rfl))) ?_
            refine hl_nil ?_
            exact qe_done rfl
           apply hb_ex _ rfl rfl rfl
           ·intro w1
            refine g_yes rfl rfl hg5 ?_
            refine r_move rfl rfl ?_
            refine hl_nil ?_
            exact qe_done rfl
           apply hb_ex _ rfl rfl rfl
           ·intro w1
            refine g_yes rfl rfl hg5 ?_
            refine r_move rfl rfl ?_
            refine hl_nil ?_
            exact qe_done rfl
           apply hb_ex _ rfl rfl rfl
           ·intro w1
            refine g_yes rfl rfl hg5 ?_
            refine r_elem (α := Int) (pathT cs (i : Int)) j rfl T.u_ints T.sz_int rfl rfl rfl (by repeat constructor) rfl hjl (by decide) ?_
            refine hl_nil ?_
            exact qe_done rfl
           apply hb_ex _ rfl rfl rfl
           ·intro w1
            refine g_yes rfl rfl hg5 ?_
            refine r_load (v := int pj) rfl T.cell_int rfl (cell_row (by repeat constructor) (rows_get0 hjl (by rw [hpje]; rfl))) ?_
            refine hl_nil ?_
            exact qe_done rfl
           refine hb_nil ⟨rfl, ?_⟩
           refine g_yes rfl rfl hg5 ?_
           refine hl_call F.law04_under_cb rfl rfl (law04_under_meets (A := CA) (B := HB) (ca := ca) (cb := cb) cs hs pk pj (by omega) (by omega) h6 hcl) (List.Perm.refl _) ⟨(by repeat constructor), trivial⟩ fun _ _ => ?_
           refine g_yes rfl rfl hg5 ?_
           refine r_not rfl rfl ?_
           refine p_f rfl rfl (bf1 hg5) rfl ?_
           refine hl_nil ?_
           refine then_n ?_
           first | refine c_dec rfl (fun hb8 => ?_) (fun hb8 => ?_) | refine hc_cond rfl (fun hb8 => ?_) (fun hb8 => ?_)
           ·rw [decide_eq_true hund] at hb8; cases hb8
           ·have hb8' := hb8; try simp at hb8'
            refine hc_skip ?_
            refine inb_n ?_
            refine then_n ?_
            refine hc_region ?_
            refine r_move rfl rfl ?_
            refine r_add _ rfl rfl rfl rfl (by unfold I64; omega) ?_
            refine r_assign rfl rfl ?_
            refine hl_nil ?_
            exact again _ (j + 1) (by show j + 1 ≤ k + 1; omega) (by show k + 1 - (j + 1) < k + 1 - j; omega) ⟨rfl, rfl, rfl, rfl, rfl, rfl, rfl, trivial⟩ (List.nil_sublist _) ⟨(by repeat constructor), (by repeat constructor), (by repeat constructor), (by repeat constructor), (by repeat constructor), (by repeat constructor), trivial⟩
          ·intro hg5; have hg5' := hg5; try simp at hg5'
           exfalso; simp at hg5; omega
         ·intro hg4; have hg4' := hg4; try simp at hg4'
          exfalso; simp at hg4; omega
        ·have hb7' := hb7; try simp at hb7'
         obtain rfl : j = k + 1 := by omega
         refine hc_exit ?_
         refine then_exit ?_
         refine then_exit ?_
         refine inb_hit ?_
         refine inb_n ?_
         refine then_n ?_
         refine hc_region ?_
         refine r_move rfl rfl ?_
         refine r_add _ rfl rfl rfl rfl (by unfold I64; omega) ?_
         refine r_assign rfl rfl ?_
         refine hl_nil ?_
         exact again _ (k + 1) (by show k + 1 ≤ (pathT cs (i : Int)).length; omega) (by show (pathT cs (i : Int)).length - (k + 1) < (pathT cs (i : Int)).length - k; omega) ⟨rfl, rfl, rfl, rfl, rfl, rfl, trivial⟩ (List.nil_sublist _) ⟨(by repeat constructor), (by repeat constructor), (by repeat constructor), (by repeat constructor), (by repeat constructor), (by repeat constructor), trivial⟩
       ·have hb6' := hb6; try simp at hb6'
        obtain rfl : k = (pathT cs (i : Int)).length := by omega
        refine hc_exit ?_
        refine then_exit ?_
        refine then_exit ?_
        refine inb_hit ?_
        refine then_n ?_
        refine hc_seq ?_
        refine hc_seq ?_
        refine hc_region ?_
        refine r_move rfl rfl ?_
        refine r_len_sl rfl T.u_ints rfl ?_
        refine r_move rfl rfl ?_
        refine r_neq rfl rfl rfl ?_
        refine hl_nil ?_
        refine then_n ?_
        first | refine c_dec rfl (fun hb9 => ?_) (fun hb9 => ?_) | refine hc_cond rfl (fun hb9 => ?_) (fun hb9 => ?_)
        ·have hb9' := hb9; try simp at hb9'
        ·have hb9' := hb9; try simp at hb9'
         refine hc_skip ?_
         refine then_n ?_
         refine hc_seq ?_
         refine hc_region ?_
         refine r_assign rfl rfl ?_
         refine hl_nil ?_
         refine then_n ?_
         refine hc_seq ?_
         refine hc_seq ?_
         refine hc_region ?_
         refine r_assign rfl rfl ?_
         refine hl_nil ?_
         refine then_n ?_
         refine hc_block ?_
         refine hc_loop (β := Nat) ⟨fun k => k ≤ hs.length, fun k => [(3, .pointer (some ⟨gT, 0, none⟩)), (4, int i), (5, .slice y.1 (pathT cs (i : Int)).length y.2), (7, .slice u.1 (underT (trOf cs hs) (i : Int)).length u.2), (13, int (underK (trOf cs hs) (i : Int) k).length), (14, int k)], fun _ => [], fun _ => (Row u.1 (rows (underT (trOf cs hs) (i : Int))) :: Row y.1 (rows (pathT cs (i : Int))) :: (Row HB (rows hs) :: [Blk gT (.cells #[.slice CA cs.length ca, .slice HB hs.length cb] T.api_Trades (0, 0)), Row CA (rows cs), RowsF HB hs Hd.row]))⟩ (fun k => hs.length - k) 0 (Nat.zero_le _) ⟨rfl, rfl, rfl, rfl, rfl, rfl, trivial⟩ (List.nil_sublist _) ⟨(by repeat constructor), (by repeat constructor), (by repeat constructor), (by repeat constructor), (by repeat constructor), (by repeat constructor), trivial⟩ fun k hk => ?_
         simp only at hk
         have hls := underK_succ (trOf cs hs) (i : Int) k
         have hkl := underK_len (trOf cs hs) (i : Int) k
         refine hc_seq ?_
         refine hc_seq ?_
         refine hc_region ?_
         refine r_move rfl rfl ?_
         first | refine r_fieldAddr ⟨_, 1, none⟩ rfl rfl T.fa_api_Trades_1 rfl ?_ | refine r_fieldAddr _ rfl rfl T.fa_api_Trades_1 rfl ?_
         first | refine r_load rfl T.cell_L_api_Head rfl (cell_own (by repeat constructor) rfl) ?_ | refine r_load rfl T.cell_L_api_Head rfl (cell_blk (by repeat constructor) rfl) ?_ | refine r_load rfl T.cell_L_api_Head rfl (cell_row (by repeat constructor) (rows_get0 (by omega) rfl)) ?_ | refine r_load rfl T.cell_L_api_Head rfl (cell_row_f (by repeat constructor) (rows_get (by omega) rfl)) ?_ | refine r_load rfl T.cell_L_api_Head rfl (cell_rowg (by repeat constructor) rfl) ?_
         refine r_len_sl rfl T.u_L_api_Head rfl ?_
         refine r_lss rfl rfl rfl ?_
         refine hl_nil ?_
         refine then_n ?_
         first | refine c_dec rfl (fun hb10 => ?_) (fun hb10 => ?_) | refine hc_cond rfl (fun hb10 => ?_) (fun hb10 => ?_)
         ·have hb10' := hb10; try simp at hb10'
          have hk2 : k < hs.length := by omega
          have hcc := cls_in hok hk2
          have hub := uB_at (cs := cs) (i : Int) hk2
          refine hc_skip ?_
          refine then_n ?_
          refine hc_seq ?_
          refine hc_block ?_
          refine hc_cut ⟨fun _ : Unit => True, fun _ => [(3, .pointer (some ⟨gT, 0, none⟩)), (4, int i), (5, .slice y.1 (pathT cs (i : Int)).length y.2), (7, .slice u.1 (underT (trOf cs hs) (i : Int)).length u.2), (13, int (underK (trOf cs hs) (i : Int) k).length), (14, int k), (147, .bool (uB (trOf cs hs) (i : Int) k))], fun _ => [], fun _ => (Row u.1 (rows (underT (trOf cs hs) (i : Int))) :: Row y.1 (rows (pathT cs (i : Int))) :: (Row HB (rows hs) :: [Blk gT (.cells #[.slice CA cs.length ca, .slice HB hs.length cb] T.api_Trades (0, 0)), Row CA (rows cs), RowsF HB hs Hd.row]))⟩ ?_ ?_
          ·skip
           refine hc_draw 16 mixed (by decide) (by decide) rfl rfl ?_
           apply hb_ex _ rfl rfl rfl
           ·intro w1
            first | refine r_fieldAddr ⟨_, 1, none⟩ rfl rfl T.fa_api_Trades_1 rfl ?_ | refine r_fieldAddr _ rfl rfl T.fa_api_Trades_1 rfl ?_
            refine hl_nil ?_
            exact qe_done rfl
           apply hb_ex _ rfl rfl rfl
           ·intro w1
            first | refine r_load rfl T.cell_L_api_Head rfl (cell_blk (by repeat constructor) rfl) ?_ | refine r_load rfl T.cell_L_api_Head rfl (cell_own (by repeat constructor) rfl) ?_ | refine r_load rfl T.cell_L_api_Head rfl (cell_row (by repeat constructor) (rows_get0 (by omega) rfl)) ?_ | refine r_load rfl T.cell_L_api_Head rfl (cell_row_f (by repeat constructor) (rows_get (by omega) rfl)) ?_ | refine r_load rfl T.cell_L_api_Head rfl (cell_rowg (by repeat constructor) rfl) ?_
            refine hl_nil ?_
            exact qe_done rfl
           apply hb_ex _ rfl rfl rfl
           ·intro w1
            refine r_move rfl rfl ?_
            refine hl_nil ?_
            exact qe_done rfl
           apply hb_ex _ rfl rfl rfl
           ·intro w1
            refine r_elem (α := Hd) hs k rfl T.u_L_api_Head T.sz_api_Head rfl rfl rfl (by repeat constructor) rfl hk2 (by decide) ?_
            refine hl_nil ?_
            exact qe_done rfl
           apply hb_ex _ rfl rfl rfl
           ·intro w1
            first | refine r_fieldAddr ⟨_, 1, none⟩ rfl rfl T.fa_api_Head_1 rfl ?_ | refine r_fieldAddr _ rfl rfl T.fa_api_Head_1 rfl ?_
            refine hl_nil ?_
            exact qe_done rfl
           apply hb_ex _ rfl rfl rfl
           ·intro w1
            refine r_load (v := int (hs.getD k default).2.1) rfl T.cell_int rfl (cell_row_f (by repeat constructor) (rows_get hk2 rfl)) ?_
            refine hl_nil ?_
            exact qe_done rfl
           apply hb_ex _ rfl rfl rfl
           ·intro w1
            refine r_geq rfl rfl rfl ?_
            refine hl_nil ?_
            exact qe_done rfl
           apply hb_ex _ rfl rfl rfl
           ·intro w1
            refine r_move rfl rfl ?_
            refine hl_nil ?_
            exact qe_done rfl
           refine hb_split (t := 137) (want := true) rfl ?_ ?_
           ·intro hg6; have hg6' := hg6; try simp at hg6'
            have h7 := of_decide_eq_true (eq_of_beq hg6)
            apply hb_ex _ rfl rfl rfl
            ·intro w1
             refine g_yes rfl rfl hg6 ?_
             first | refine r_loadA rfl T.row_api_Trades T.sz_api_Trades rfl (by repeat constructor) (by rfl) ?_ | refine r_loadB rfl T.row_api_Trades T.sz_api_Trades rfl (by repeat constructor) (by rfl) ?_ | refine r_loadS rfl T.row_api_Trades T.sz_api_Trades rfl rfl (cells_row (by repeat constructor) (rows_all (by omega))) ?_
             refine hl_nil ?_
             exact qe_done rfl
            apply hb_ex _ rfl rfl rfl
            ·intro w1
             refine g_yes rfl rfl hg6 ?_
             first | refine r_fieldAddr ⟨_, 1, none⟩ rfl rfl T.fa_api_Trades_1 rfl ?_ | refine r_fieldAddr _ rfl rfl T.fa_api_Trades_1 rfl ?_
             refine hl_nil ?_
             exact qe_done rfl
            apply hb_ex _ rfl rfl rfl
            ·intro w1
             refine g_yes rfl rfl hg6 ?_
             first | refine r_load rfl T.cell_L_api_Head rfl (cell_blk (by repeat constructor) rfl) ?_ | refine r_load rfl T.cell_L_api_Head rfl (cell_own (by repeat constructor) rfl) ?_ | refine r_load rfl T.cell_L_api_Head rfl (cell_row (by repeat constructor) (rows_get0 (by omega) rfl)) ?_ | refine r_load rfl T.cell_L_api_Head rfl (cell_row_f (by repeat constructor) (rows_get (by omega) rfl)) ?_ | refine r_load rfl T.cell_L_api_Head rfl (cell_rowg (by repeat constructor) rfl) ?_
             refine hl_nil ?_
             exact qe_done rfl
            apply hb_ex _ rfl rfl rfl
            ·intro w1
             refine g_yes rfl rfl hg6 ?_
             refine r_move rfl rfl ?_
             refine hl_nil ?_
             exact qe_done rfl
            apply hb_ex _ rfl rfl rfl
            ·intro w1
             refine g_yes rfl rfl hg6 ?_
             refine r_elem (α := Hd) hs k rfl T.u_L_api_Head T.sz_api_Head rfl rfl rfl (by repeat constructor) rfl hk2 (by decide) ?_
             refine hl_nil ?_
             exact qe_done rfl
            apply hb_ex _ rfl rfl rfl
            ·intro w1
             refine g_yes rfl rfl hg6 ?_
             first | refine r_fieldAddr ⟨_, 1, none⟩ rfl rfl T.fa_api_Head_1 rfl ?_ | refine r_fieldAddr _ rfl rfl T.fa_api_Head_1 rfl ?_
             refine hl_nil ?_
             exact qe_done rfl
            apply hb_ex _ rfl rfl rfl
            ·intro w1
             refine g_yes rfl rfl hg6 ?_
             refine r_load (v := int (hs.getD k default).2.1) rfl T.cell_int rfl (cell_row_f (by repeat constructor) (rows_get hk2 rfl)) ?_
             refine hl_nil ?_
             exact qe_done rfl
            apply hb_ex _ rfl rfl rfl
            ·intro w1
             refine g_yes rfl rfl hg6 ?_
             refine r_move rfl rfl ?_
             refine hl_nil ?_
             exact qe_done rfl
            refine hb_nil ⟨rfl, ?_⟩
            refine g_yes rfl rfl hg6 ?_
            refine hl_call F.law04_under_cb rfl rfl (law04_under_meets (A := CA) (B := HB) (ca := ca) (cb := cb) cs hs (hs.getD k default).2.1 (i : Int) (by omega) hcc.2 h6 hcl) (List.Perm.refl _) ⟨(by repeat constructor), trivial⟩ fun _ _ => ?_
            refine p_t rfl rfl (bt1 hg6) rfl ?_
            refine hl_nil ?_
            exact cut_n _ () trivial ⟨rfl, rfl, rfl, rfl, rfl, rfl, congrArg (fun b => some (Value.bool b)) (by rw [hub, decide_eq_true (show ¬ (hs.getD k default).2.1 = -1 by omega), Bool.true_and]), trivial⟩ (List.nil_sublist _) ⟨(by repeat constructor), (by repeat constructor), (by repeat constructor), (by repeat constructor), (by repeat constructor), (by repeat constructor), trivial⟩
           ·intro hg6; have hg6' := hg6; try simp at hg6'
            have h7 := of_decide_eq_false (bf2 hg6)
            apply hb_ex _ rfl rfl rfl
            ·intro w1
             refine g_no rfl rfl rfl rfl rfl hg6 ?_
             refine hl_nil ?_
             exact qe_done rfl
            apply hb_ex _ rfl rfl rfl
            ·intro w1
             refine g_no rfl rfl rfl rfl rfl hg6 ?_
             refine hl_nil ?_
             exact qe_done rfl
            apply hb_ex _ rfl rfl rfl
            ·intro w1
             refine g_no rfl rfl rfl rfl rfl hg6 ?_
             refine hl_nil ?_
             exact qe_done rfl
            apply hb_ex _ rfl rfl rfl
            ·intro w1
             refine g_no rfl rfl rfl rfl rfl hg6 ?_
             refine hl_nil ?_
             exact qe_done rfl
            apply hb_ex _ rfl rfl rfl
            ·intro w1
             refine g_no rfl rfl rfl rfl rfl hg6 ?_
             refine hl_nil ?_
             exact qe_done rfl
            apply hb_ex _ rfl rfl rfl
            ·intro w1
             refine g_no rfl rfl rfl rfl rfl hg6 ?_
             refine hl_nil ?_
             exact qe_done rfl
            apply hb_ex _ rfl rfl rfl
            ·intro w1
             refine g_no rfl rfl rfl rfl rfl hg6 ?_
             refine hl_nil ?_
             exact qe_done rfl
            apply hb_ex _ rfl rfl rfl
            ·intro w1
             refine g_no rfl rfl rfl rfl rfl hg6 ?_
             refine hl_nil ?_
             exact qe_done rfl
            refine hb_nil ⟨rfl, ?_⟩
            refine g_no rfl rfl rfl rfl rfl hg6 ?_
            refine p_f rfl rfl (bf2 hg6) rfl ?_
            refine hl_nil ?_
            exact cut_n _ () trivial ⟨rfl, rfl, rfl, rfl, rfl, rfl, congrArg (fun b => some (Value.bool b)) (by rw [hub, decide_eq_false (not_not_intro (show (hs.getD k default).2.1 = -1 by omega)), Bool.false_and]), trivial⟩ (List.nil_sublist _) ⟨(by repeat constructor), (by repeat constructor), (by repeat constructor), (by repeat constructor), (by repeat constructor), (by repeat constructor), trivial⟩
          ·refine fun _ _ => ?_
           first | refine c_dec rfl (fun hb11 => ?_) (fun hb11 => ?_) | refine hc_cond rfl (fun hb11 => ?_) (fun hb11 => ?_)
           ·have hb11' := hb11; try simp at hb11'
            rw [if_pos hb11] at hls
            have hAt := underK_at (t := (trOf cs hs)) (c := (i : Int)) (k := k) (by rw [hln]; exact hk2) hb11
            refine hc_seq ?_
            refine hc_seq ?_
            refine hc_region ?_
            refine r_move rfl rfl ?_
            refine r_move rfl rfl ?_
            refine r_len_sl rfl T.u_ints rfl ?_
            refine r_geq rfl rfl rfl ?_
            refine r_move rfl rfl ?_
            refine g_split rfl rfl ?_ ?_
            ·intro hg7; have hg7' := hg7; try simp at hg7'
             refine g_yes rfl rfl hg7 ?_
             refine r_move rfl rfl ?_
             refine g_yes rfl rfl hg7 ?_
             refine r_move rfl rfl ?_
             refine g_yes rfl rfl hg7 ?_
             refine r_elem (α := Int) (underT (trOf cs hs) (i : Int)) (underK (trOf cs hs) (i : Int) k).length rfl T.u_ints T.sz_int rfl rfl rfl (by repeat constructor) rfl hAt.1 (by decide) ?_
             refine g_yes rfl rfl hg7 ?_
             refine r_load (v := int (k : Int)) rfl T.cell_int rfl (cell_row (by repeat constructor) (rows_get0 hAt.1 (by rw [hAt.2]; rfl))) ?_
             refine g_yes rfl rfl hg7 ?_
             refine r_move rfl rfl ?_
             refine g_yes rfl rfl hg7 ?_
             refine r_neq rfl rfl rfl ?_
             refine p_f rfl rfl (bf1 hg7) rfl ?_
             refine hl_nil ?_
             refine then_n ?_
             first | refine c_dec rfl (fun hb12 => ?_) (fun hb12 => ?_) | refine hc_cond rfl (fun hb12 => ?_) (fun hb12 => ?_)
             ·have hb12' := hb12; try simp at hb12'
             ·have hb12' := hb12; try simp at hb12'
              refine hc_skip ?_
              refine then_n ?_
              refine hc_region ?_
              refine r_move rfl rfl ?_
              refine r_add _ rfl rfl rfl rfl (by unfold I64; omega) ?_
              refine r_assign rfl rfl ?_
              refine hl_nil ?_
              refine inb_n ?_
              refine then_n ?_
              refine hc_region ?_
              refine r_move rfl rfl ?_
              refine r_add _ rfl rfl rfl rfl (by unfold I64; omega) ?_
              refine r_assign rfl rfl ?_
              refine hl_nil ?_
              exact again _ (k + 1) (by show k + 1 ≤ hs.length; omega) (by show hs.length - (k + 1) < hs.length - k; omega) ⟨rfl, rfl, rfl, rfl, by rw [hls, List.length_append]; rfl, rfl, trivial⟩ (List.nil_sublist _) ⟨(by repeat constructor), (by repeat constructor), (by repeat constructor), (by repeat constructor), (by repeat constructor), (by repeat constructor), trivial⟩
            ·intro hg7; have hg7' := hg7; try simp at hg7'
             exfalso; have := hAt.1; simp at hg7; omega
           ·have hb11' := hb11; try simp at hb11'
            rw [if_neg (by rw [hb11]; decide)] at hls
            refine hc_skip ?_
            refine inb_n ?_
            refine then_n ?_
            refine hc_region ?_
            refine r_move rfl rfl ?_
            refine r_add _ rfl rfl rfl rfl (by unfold I64; omega) ?_
            refine r_assign rfl rfl ?_
            refine hl_nil ?_
            exact again _ (k + 1) (by show k + 1 ≤ hs.length; omega) (by show hs.length - (k + 1) < hs.length - k; omega) ⟨rfl, rfl, rfl, rfl, by rw [hls]; rfl, rfl, trivial⟩ (List.nil_sublist _) ⟨(by repeat constructor), (by repeat constructor), (by repeat constructor), (by repeat constructor), (by repeat constructor), (by repeat constructor), trivial⟩
         ·have hb10' := hb10; try simp at hb10'
          obtain rfl : k = hs.length := by omega
          refine hc_exit ?_
          refine then_exit ?_
          refine then_exit ?_
          refine inb_hit ?_
          refine then_n ?_
          refine hc_seq ?_
          refine hc_region ?_
          refine r_move rfl rfl ?_
          refine r_move rfl rfl ?_
          refine r_len_sl rfl T.u_ints rfl ?_
          refine r_neq rfl rfl rfl ?_
          refine hl_nil ?_
          refine then_n ?_
          first | refine c_dec rfl (fun hb13 => ?_) (fun hb13 => ?_) | refine hc_cond rfl (fun hb13 => ?_) (fun hb13 => ?_)
          ·exact absurd (by rw [hua2]) hb13
          ·have hb13' := hb13; try simp at hb13'
           refine hc_skip ?_
           refine inb_n ?_
           refine then_n ?_
           refine hc_region ?_
           refine r_move rfl rfl ?_
           refine r_add _ rfl rfl rfl rfl (by unfold I64; omega) ?_
           refine r_assign rfl rfl ?_
           refine hl_nil ?_
           exact again _ (i + 1) (by show i + 1 ≤ cs.length; omega) (by show cs.length - (i + 1) < cs.length - i; omega) ⟨rfl, rfl, trivial⟩ (List.nil_sublist _) ⟨(by repeat constructor), (by repeat constructor), (by repeat constructor), (by repeat constructor), trivial⟩
    ·intro hg3; have hg3' := hg3; try simp at hg3'
     exfalso; have h9 : (pathT cs (i : Int)).length = 0 := by simpa using hg3
     omega
   ·intro hg2; have hg2' := hg2; try simp at hg2'
  ·intro hg1; have hg1' := hg1; try simp at hg1'
 ·have hb1' := hb1; try simp at hb1'
  refine hc_exit ?_
  refine then_exit ?_
  refine then_exit ?_
  refine inb_hit ?_
  refine then_n ?_
  refine hc_seq ?_
  refine hc_region ?_
  refine hl_call F.law04_indexed_cb rfl rfl (law04_indexed_meets) (List.Perm.refl _) trivial fun _ _ => ?_
  refine r_assign rfl rfl ?_
  refine hl_nil ?_
  refine then_n ?_
  refine hc_ret ?_
  exact ret1 () rfl rfl rfl trivial (List.nil_sublist _) trivial

end Go.Proofs.Ytlpgheniajdkfaa
