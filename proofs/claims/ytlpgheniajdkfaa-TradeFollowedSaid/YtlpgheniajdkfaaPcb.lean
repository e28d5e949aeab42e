/- The walk of the statement TradeFollowed. -/
import Derived.Test.YtlpgheniajdkfaaPbg
namespace Go.Proofs.Ytlpgheniajdkfaa
open Go Go.W
set_option linter.unusedVariables false
set_option linter.unusedSimpArgs false
set_option maxRecDepth 20000
attribute [local irreducible] HL HC HQ HB Row Rows2 Blk Facts

set_option maxHeartbeats 1000000 in
theorem law04_TradeFollowed_meets {A : Option Addr} {c0 : Nat} (nums : List Int) (hn : nums.length ≤ 9223372036854775807) : Meets Try.prog F.law04_TradeFollowed [.slice A nums.length c0] { LI := [Row A (rows nums)], val := fun _ : Unit => .bool true } := by
 refine meets_intro F.law04_TradeFollowed_f rfl (Nat.le_of_ble_eq_true rfl) fun w0 => ?_
 refine hc_seq ?_
 refine hc_region ?_
 refine r_assign rfl rfl ?_
 refine hl_nil ?_
 refine then_n ?_
 refine hc_seq ?_
 refine hc_region ?_
 refine r_move rfl rfl ?_
 refine hl_call F.kit_NewDice_cb rfl rfl (kit_NewDice_meets nums) (List.Perm.refl _) ⟨(by repeat constructor), trivial⟩ fun g _ => ?_
 refine hl_call F.kit_TradesOf_cb rfl rfl (kit_TradesOf_meets 2 6 hn (dok0 nums) (by decide) (by decide)) (List.Perm.refl _) ⟨(by repeat constructor), trivial⟩ fun x hx => ?_
 obtain ⟨sd, cs, hs, ⟨CA, ca⟩, ⟨HB, cb⟩⟩ := x
 obtain ⟨hsd, hT⟩ := hx
 have hca : cs.length ≤ ca := hT.ca
 have hcb : hs.length ≤ cb := hT.cb
 have ha : ∀ h ∈ hs, h.2.2.2.l.length ≤ 1000000 := hT.ha
 have hT0 : checkT (trOf cs hs) = 0 := hT.ok
 have hok : TrOK (trOf cs hs) := tr_ok hT0
 clear hT
 have h6 : cs.length ≤ 6 := hok.c6
 have h6h := hok.h6
 have hln := hs_len cs hs
 rw [hln] at h6h
 have hcl : ∀ i, i < cs.length → ClsOK cs i := hok.c
 refine r_alloc rfl (fun _ => T.al_api_Trades _) fun gT => ?_
 refine r_storeS (cs := #[.slice CA cs.length ca, .slice HB hs.length cb]) rfl rfl (.refl _) T.sz_api_Trades (by rfl) (by rfl) ?_
 refine hl_nil ?_
 refine then_n ?_
 refine hc_seq ?_
 refine hc_seq ?_
 refine hc_letgoB ?_
 refine hc_outerF (ps := hs) (A := HB) (f := Hd.row) (by repeat constructor) ?_
 refine hc_region ?_
 refine r_assign rfl rfl ?_
 refine hl_nil ?_
 refine then_n ?_
 refine hc_block ?_
 refine hc_loop (β := Nat) ⟨fun i => i ≤ hs.length, fun i => [(3, .pointer (some ⟨gT, 0, none⟩)), (4, int i)], fun _ => [], fun _ => (Row HB (rows hs) :: [Blk gT (.cells #[.slice CA cs.length ca, .slice HB hs.length cb] T.api_Trades (0, 0)), Row CA (rows cs), RowsF HB hs Hd.row])⟩ (fun i => hs.length - i) 0 (Nat.zero_le _) ⟨rfl, rfl, trivial⟩ (List.nil_sublist _) ⟨(by repeat constructor), (by repeat constructor), (by repeat constructor), (by repeat constructor), trivial⟩ fun i hi => ?_
 simp only at hi
 refine hc_seq ?_
 refine hc_seq ?_
 refine hc_region ?_
 refine r_move rfl rfl ?_
 first | refine r_fieldAddr ⟨_, 1, none⟩ rfl rfl T.fa_api_Trades_1 rfl ?_ | refine r_fieldAddr _ rfl rfl T.fa_api_Trades_1 rfl ?_
 first | refine r_load rfl T.cell_L_api_Head rfl (cell_own (by repeat constructor) rfl) ?_ | refine r_load rfl T.cell_L_api_Head rfl (cell_blk (by repeat constructor) rfl) ?_ | refine r_load rfl T.cell_L_api_Head rfl (cell_row (by repeat constructor) (rows_get0 (by omega) rfl)) ?_ | refine r_load rfl T.cell_L_api_Head rfl (cell_row_f (by repeat constructor) (rows_get (by omega) rfl)) ?_ | refine r_load rfl T.cell_L_api_Head rfl (cell_rowg (by repeat constructor) rfl) ?_
 refine r_len_sl rfl T.u_L_api_Head rfl ?_
 refine r_lss rfl rfl rfl ?_
 refine hl_nil ?_
 refine then_n ?_
 first | refine c_dec rfl (fun hb1 => ?_) (fun hb1 => ?_) | refine hc_cond rfl (fun hb1 => ?_) (fun hb1 => ?_)
 ·have hb1' := hb1; try simp at hb1'
  have hi2 : i < hs.length := by omega
  have hrg : 0 ≤ (i : Int) ∧ (i : Int) ≤ ((trOf cs hs).hs.length : Int) - 1 := by rw [hln]; omega
  have hno := fun h => follow_no hT0 hrg h
  have hsome := fun e m h => follow_is (e := e) (m := m) hT0 hrg h
  have hFm := trade_Follow_meets (A := CA) (B := HB) (ca := ca) (cb := cb) cs hs (i : Int) hca hcb ha
  change followT (trOf cs hs) (i : Int) = none → followE (trOf cs hs) (i : Int) = (0, 0, 9) at hno
  change ∀ e m, followT (trOf cs hs) (i : Int) = some (e, m) → followE (trOf cs hs) (i : Int) = (e, m, 0) at hsome
  change Meets Try.prog F.trade_Follow [.agg #[.slice CA cs.length ca, .slice HB hs.length cb], int i] { LI := [Row CA (rows cs), RowsF HB hs Hd.row], val := fun _ : Unit => .tuple #[int (followE (trOf cs hs) (i : Int)).1, int (followE (trOf cs hs) (i : Int)).2.1, int (followE (trOf cs hs) (i : Int)).2.2] } at hFm
  generalize followE (trOf cs hs) (i : Int) = fe at hno hsome hFm
  obtain ⟨x1, x2, x3⟩ := fe
  refine hc_skip ?_
  refine then_n ?_
  refine hc_seq ?_
  refine hc_block ?_
  refine hc_seq ?_
  refine hc_region ?_
  first | refine r_loadA rfl T.row_api_Trades T.sz_api_Trades rfl (by repeat constructor) (by rfl) ?_ | refine r_loadB rfl T.row_api_Trades T.sz_api_Trades rfl (by repeat constructor) (by rfl) ?_ | refine r_loadS rfl T.row_api_Trades T.sz_api_Trades rfl rfl (cells_row (by repeat constructor) (rows_all (by omega))) ?_
  refine r_move rfl rfl ?_
  refine hl_call F.trade_Follow_cb rfl rfl hFm (List.Perm.refl _) ⟨(by repeat constructor), (by repeat constructor), trivial⟩ fun _ _ => ?_
  refine r_move rfl rfl ?_
  refine r_extract rfl rfl rfl ?_
  refine r_extract rfl rfl rfl ?_
  refine r_extract rfl rfl rfl ?_
  refine r_assign rfl rfl ?_
  refine r_assign rfl rfl ?_
  refine r_assign rfl rfl ?_
  refine hl_nil ?_
  refine then_n ?_
  refine hc_seq ?_
  refine hc_region ?_
  refine r_move rfl rfl ?_
  refine r_assign rfl rfl ?_
  refine r_assign rfl rfl ?_
  refine hl_nil ?_
  refine then_n ?_
  refine hc_cut ⟨fun x : Nat × Nat => (x.2 = hs.length + 1 ∧ x1 = 0 ∧ x2 = 0 ∧ x3 = 9) ∨ (x.2 ≤ hs.length ∧ x1 = (x.1 : Int) ∧ x2 = (x.2 : Int) ∧ x3 = 0), fun x => [(3, .pointer (some ⟨gT, 0, none⟩)), (4, int i), (5, int x1), (6, int x2), (7, int x3), (8, int x.1), (9, int x.2)], fun _ => [], fun _ => (Row HB (rows hs) :: [Blk gT (.cells #[.slice CA cs.length ca, .slice HB hs.length cb] T.api_Trades (0, 0)), Row CA (rows cs), RowsF HB hs Hd.row])⟩ ?_ ?_
  ·skip
   refine hc_block ?_
   refine hc_loop (β := Nat × Nat) ⟨fun x => x.1 < hs.length ∧ x.2 ≤ hs.length + 1 ∧ followT (trOf cs hs) (i : Int) = followN (hs.map Hd.p) (hs.length + 1 - x.2) (x.1 : Int) (x.2 : Int), fun x => [(3, .pointer (some ⟨gT, 0, none⟩)), (4, int i), (5, int x1), (6, int x2), (7, int x3), (8, int x.1), (9, int x.2)], fun _ => [], fun _ => (Row HB (rows hs) :: [Blk gT (.cells #[.slice CA cs.length ca, .slice HB hs.length cb] T.api_Trades (0, 0)), Row CA (rows cs), RowsF HB hs Hd.row])⟩ (fun x => hs.length + 1 - x.2) (i, 0) ⟨hi2, Nat.zero_le _, by unfold followT; rw [hln]; rfl⟩ ⟨rfl, rfl, rfl, rfl, rfl, rfl, rfl, trivial⟩ (List.nil_sublist _) ⟨(by repeat constructor), (by repeat constructor), (by repeat constructor), (by repeat constructor), trivial⟩ fun x hx => ?_
   obtain ⟨q, m⟩ := x
   obtain ⟨hq, hm, hr⟩ := hx
   simp only at hq hm hr
   have hsq := see_at hok hq
   refine hc_seq ?_
   refine hc_seq ?_
   refine hc_region ?_
   refine r_move rfl rfl ?_
   first | refine r_fieldAddr ⟨_, 1, none⟩ rfl rfl T.fa_api_Trades_1 rfl ?_ | refine r_fieldAddr _ rfl rfl T.fa_api_Trades_1 rfl ?_
   first | refine r_load rfl T.cell_L_api_Head rfl (cell_own (by repeat constructor) rfl) ?_ | refine r_load rfl T.cell_L_api_Head rfl (cell_blk (by repeat constructor) rfl) ?_ | refine r_load rfl T.cell_L_api_Head rfl (cell_row (by repeat constructor) (rows_get0 (by omega) rfl)) ?_ | refine r_load rfl T.cell_L_api_Head rfl (cell_row_f (by repeat constructor) (rows_get (by omega) rfl)) ?_ | refine r_load rfl T.cell_L_api_Head rfl (cell_rowg (by repeat constructor) rfl) ?_
   refine r_len_sl rfl T.u_L_api_Head rfl ?_
   refine r_leq rfl rfl rfl ?_
   refine r_move rfl rfl ?_
   refine g_split rfl rfl ?_ ?_
   ·intro hg1; have hg1' := hg1; try simp at hg1'
    have hm2 : m ≤ hs.length := by simp at hg1; omega
    obtain ⟨d, hd⟩ : ∃ d, hs.length + 1 - m = d + 1 := ⟨hs.length - m, by omega⟩
    rw [hd, followN, Int.toNat_natCast, hsq.2.2] at hr
    refine g_yes rfl rfl hg1 ?_
    first | refine r_fieldAddr ⟨_, 1, none⟩ rfl rfl T.fa_api_Trades_1 rfl ?_ | refine r_fieldAddr _ rfl rfl T.fa_api_Trades_1 rfl ?_
    refine g_yes rfl rfl hg1 ?_
    first | refine r_load rfl T.cell_L_api_Head rfl (cell_own (by repeat constructor) rfl) ?_ | refine r_load rfl T.cell_L_api_Head rfl (cell_blk (by repeat constructor) rfl) ?_ | refine r_load rfl T.cell_L_api_Head rfl (cell_row (by repeat constructor) (rows_get0 (by omega) rfl)) ?_ | refine r_load rfl T.cell_L_api_Head rfl (cell_row_f (by repeat constructor) (rows_get (by omega) rfl)) ?_ | refine r_load rfl T.cell_L_api_Head rfl (cell_rowg (by repeat constructor) rfl) ?_
    refine g_yes rfl rfl hg1 ?_
    refine r_move rfl rfl ?_
    refine g_yes rfl rfl hg1 ?_
    refine r_elem (α := Hd) hs q rfl T.u_L_api_Head T.sz_api_Head rfl rfl rfl (by repeat constructor) rfl hq (by decide) ?_
    refine g_yes rfl rfl hg1 ?_
    first | refine r_fieldAddr ⟨_, 2, none⟩ rfl rfl T.fa_api_Head_2 rfl ?_ | refine r_fieldAddr _ rfl rfl T.fa_api_Head_2 rfl ?_
    refine g_yes rfl rfl hg1 ?_
    refine r_load (v := int (hs.getD q default).2.2.1) rfl T.cell_int rfl (cell_row_f (by repeat constructor) (rows_get hq rfl)) ?_
    refine g_yes rfl rfl hg1 ?_
    refine r_geq rfl rfl rfl ?_
    refine p_t rfl rfl (bt1 hg1) rfl ?_
    refine hl_nil ?_
    refine then_n ?_
    first | refine c_dec rfl (fun hb2 => ?_) (fun hb2 => ?_) | refine hc_cond rfl (fun hb2 => ?_) (fun hb2 => ?_)
    ·have hb2' := hb2; try simp at hb2'
     rw [if_neg (by omega)] at hr
     obtain ⟨q2, hq2⟩ := Int.eq_ofNat_of_zero_le hb2
     refine hc_skip ?_
     refine then_n ?_
     refine hc_block ?_
     refine hc_region ?_
     first | refine r_fieldAddr ⟨_, 1, none⟩ rfl rfl T.fa_api_Trades_1 rfl ?_ | refine r_fieldAddr _ rfl rfl T.fa_api_Trades_1 rfl ?_
     first | refine r_load rfl T.cell_L_api_Head rfl (cell_own (by repeat constructor) rfl) ?_ | refine r_load rfl T.cell_L_api_Head rfl (cell_blk (by repeat constructor) rfl) ?_ | refine r_load rfl T.cell_L_api_Head rfl (cell_row (by repeat constructor) (rows_get0 (by omega) rfl)) ?_ | refine r_load rfl T.cell_L_api_Head rfl (cell_row_f (by repeat constructor) (rows_get (by omega) rfl)) ?_ | refine r_load rfl T.cell_L_api_Head rfl (cell_rowg (by repeat constructor) rfl) ?_
     refine r_move rfl rfl ?_
     refine r_elem (α := Hd) hs q rfl T.u_L_api_Head T.sz_api_Head rfl rfl rfl (by repeat constructor) rfl hq (by decide) ?_
     first | refine r_fieldAddr ⟨_, 2, none⟩ rfl rfl T.fa_api_Head_2 rfl ?_ | refine r_fieldAddr _ rfl rfl T.fa_api_Head_2 rfl ?_
     refine r_load (v := int (hs.getD q default).2.2.1) rfl T.cell_int rfl (cell_row_f (by repeat constructor) (rows_get hq rfl)) ?_
     refine r_move rfl rfl ?_
     refine r_add _ rfl rfl rfl rfl (by unfold I64; omega) ?_
     refine r_assign (v := int (q2 : Int)) rfl (congrArg (fun z => some (int z)) hq2) ?_
     refine r_assign rfl rfl ?_
     refine hl_nil ?_
     refine inb_n ?_
     exact again _ (q2, m + 1) ⟨by show q2 < hs.length; omega, by show m + 1 ≤ hs.length + 1; omega, by show followT (trOf cs hs) (i : Int) = followN (hs.map Hd.p) (hs.length + 1 - (m + 1)) (q2 : Int) ((m + 1 : Nat) : Int); rw [hr, hq2, show hs.length + 1 - (m + 1) = d by omega]; rfl⟩ (by show hs.length + 1 - (m + 1) < hs.length + 1 - m; omega) ⟨rfl, rfl, rfl, rfl, rfl, rfl, rfl, trivial⟩ (List.nil_sublist _) ⟨(by repeat constructor), (by repeat constructor), (by repeat constructor), (by repeat constructor), trivial⟩
    ·have hb2' := hb2; try simp at hb2'
     rw [if_pos (by omega)] at hr
     refine hc_exit ?_
     refine then_exit ?_
     refine then_exit ?_
     refine inb_hit ?_
     have he := hsome _ _ hr
     exact cut_n _ (q, m) (.inr ⟨hm2, congrArg (fun z => z.1) he, congrArg (fun z => z.2.1) he, congrArg (fun z => z.2.2) he⟩) ⟨rfl, rfl, rfl, rfl, rfl, rfl, rfl, trivial⟩ (List.nil_sublist _) ⟨(by repeat constructor), (by repeat constructor), (by repeat constructor), (by repeat constructor), trivial⟩
   ·intro hg1; have hg1' := hg1; try simp at hg1'
    have hm2 : m = hs.length + 1 := by simp at hg1; omega
    refine g_no rfl rfl rfl rfl rfl hg1 ?_
    refine g_no rfl rfl rfl rfl rfl hg1 ?_
    refine g_no rfl rfl rfl rfl rfl hg1 ?_
    refine g_no rfl rfl rfl rfl rfl hg1 ?_
    refine g_no rfl rfl rfl rfl rfl hg1 ?_
    refine g_no rfl rfl rfl rfl rfl hg1 ?_
    refine g_no rfl rfl rfl rfl rfl hg1 ?_
    refine p_f rfl rfl (bf2 hg1) rfl ?_
    refine hl_nil ?_
    refine then_n ?_
    refine c_f rfl rfl ?_
    refine hc_exit ?_
    refine then_exit ?_
    refine then_exit ?_
    refine inb_hit ?_
    have he := hno (by rw [hr, hm2, Nat.sub_self]; rfl)
    exact cut_n _ (q, m) (.inl ⟨hm2, congrArg (fun z => z.1) he, congrArg (fun z => z.2.1) he, congrArg (fun z => z.2.2) he⟩) ⟨rfl, rfl, rfl, rfl, rfl, rfl, rfl, trivial⟩ (List.nil_sublist _) ⟨(by repeat constructor), (by repeat constructor), (by repeat constructor), (by repeat constructor), trivial⟩
  ·intro x hx
   obtain ⟨q, m⟩ := x
   simp only at hx
   have hFm := 0
   clear hno hsome
   refine hc_seq ?_
   refine hc_seq ?_
   refine hc_region ?_
   refine r_move rfl rfl ?_
   first | refine r_fieldAddr ⟨_, 1, none⟩ rfl rfl T.fa_api_Trades_1 rfl ?_ | refine r_fieldAddr _ rfl rfl T.fa_api_Trades_1 rfl ?_
   first | refine r_load rfl T.cell_L_api_Head rfl (cell_own (by repeat constructor) rfl) ?_ | refine r_load rfl T.cell_L_api_Head rfl (cell_blk (by repeat constructor) rfl) ?_ | refine r_load rfl T.cell_L_api_Head rfl (cell_row (by repeat constructor) (rows_get0 (by omega) rfl)) ?_ | refine r_load rfl T.cell_L_api_Head rfl (cell_row_f (by repeat constructor) (rows_get (by omega) rfl)) ?_ | refine r_load rfl T.cell_L_api_Head rfl (cell_rowg (by repeat constructor) rfl) ?_
   refine r_len_sl rfl T.u_L_api_Head rfl ?_
   refine r_gtr rfl rfl rfl ?_
   refine hl_nil ?_
   refine then_n ?_
   first | refine c_dec rfl (fun hb3 => ?_) (fun hb3 => ?_) | refine hc_cond rfl (fun hb3 => ?_) (fun hb3 => ?_)
   ·have hb3' := hb3; try simp at hb3'
    obtain ⟨hm, rfl, rfl, rfl⟩ : m = hs.length + 1 ∧ x1 = 0 ∧ x2 = 0 ∧ x3 = 9 := by rcases hx with h | h; exact h; omega
    refine hc_seq ?_
    refine hc_seq ?_
    refine hc_region ?_
    refine r_move rfl rfl ?_
    refine r_neq rfl rfl rfl ?_
    refine r_move rfl rfl ?_
    refine g_split rfl rfl ?_ ?_
    ·intro hg2; have hg2' := hg2; try simp at hg2'
     refine g_yes rfl rfl hg2 ?_
     refine r_move rfl rfl ?_
     refine g_yes rfl rfl hg2 ?_
     refine r_neq rfl rfl rfl ?_
     refine p_f rfl rfl (bf1 hg2) rfl ?_
     refine r_move rfl rfl ?_
     refine g_split rfl rfl ?_ ?_
     ·intro hg3; have hg3' := hg3; try simp at hg3'
      refine g_yes rfl rfl hg3 ?_
      refine r_move rfl rfl ?_
      refine g_yes rfl rfl hg3 ?_
      refine r_neq rfl rfl rfl ?_
      refine p_f rfl rfl (bf1 hg3) rfl ?_
      refine hl_nil ?_
      refine then_n ?_
      refine c_f rfl (by first | rfl | assumption | exact bf1 (by assumption) | exact bf2 (by assumption)) ?_
      refine hc_skip ?_
      refine then_n ?_
      refine hc_exit ?_
      refine then_exit ?_
      refine inb_hit ?_
      refine then_n ?_
      refine hc_region ?_
      refine r_move rfl rfl ?_
      refine r_add _ rfl rfl rfl rfl (by unfold I64; omega) ?_
      refine r_assign rfl rfl ?_
      refine hl_nil ?_
      exact again _ (i + 1) (by show i + 1 ≤ hs.length; omega) (by show hs.length - (i + 1) < hs.length - i; omega) ⟨rfl, rfl, trivial⟩ (List.nil_sublist _) ⟨(by repeat constructor), (by repeat constructor), (by repeat constructor), (by repeat constructor), trivial⟩
     ·intro hg3; have hg3' := hg3; try simp at hg3'
    ·intro hg2; have hg2' := hg2; try simp at hg2'
   ·have hb3' := hb3; try simp at hb3'
    obtain ⟨hm, rfl, rfl, rfl⟩ : m ≤ hs.length ∧ x1 = (q : Int) ∧ x2 = (m : Int) ∧ x3 = 0 := by rcases hx with h | h; omega; exact h
    refine hc_skip ?_
    refine then_n ?_
    refine hc_seq ?_
    refine hc_region ?_
    refine r_move rfl rfl ?_
    refine r_neq rfl rfl rfl ?_
    refine r_move rfl rfl ?_
    refine g_split rfl rfl ?_ ?_
    ·intro hg4; have hg4' := hg4; try simp at hg4'
     refine g_yes rfl rfl hg4 ?_
     refine r_move rfl rfl ?_
     refine g_yes rfl rfl hg4 ?_
     refine r_move rfl rfl ?_
     refine g_yes rfl rfl hg4 ?_
     refine r_neq rfl rfl rfl ?_
     refine p_f rfl rfl (bf1 hg4) rfl ?_
     refine r_move rfl rfl ?_
     refine g_split rfl rfl ?_ ?_
     ·intro hg5; have hg5' := hg5; try simp at hg5'
      refine g_yes rfl rfl hg5 ?_
      refine r_move rfl rfl ?_
      refine g_yes rfl rfl hg5 ?_
      refine r_move rfl rfl ?_
      refine g_yes rfl rfl hg5 ?_
      refine r_neq rfl rfl rfl ?_
      refine p_f rfl rfl (bf1 hg5) rfl ?_
      refine hl_nil ?_
      refine then_n ?_
      first | refine c_dec rfl (fun hb5 => ?_) (fun hb5 => ?_) | refine hc_cond rfl (fun hb5 => ?_) (fun hb5 => ?_)
      ·exact absurd rfl hb5
      ·have hb5' := hb5; try simp at hb5'
       refine hc_skip ?_
       refine inb_n ?_
       refine then_n ?_
       refine hc_region ?_
       refine r_move rfl rfl ?_
       refine r_add _ rfl rfl rfl rfl (by unfold I64; omega) ?_
       refine r_assign rfl rfl ?_
       refine hl_nil ?_
       exact again _ (i + 1) (by show i + 1 ≤ hs.length; omega) (by show hs.length - (i + 1) < hs.length - i; omega) ⟨rfl, rfl, trivial⟩ (List.nil_sublist _) ⟨(by repeat constructor), (by repeat constructor), (by repeat constructor), (by repeat constructor), trivial⟩
     ·intro hg5; have hg5' := hg5; try simp at hg5'
    ·intro hg4; have hg4' := hg4; try simp at hg4'
 ·have hb1' := hb1; try simp at hb1'
  refine hc_exit ?_
  refine then_exit ?_
  refine then_exit ?_
  refine inb_hit ?_
  refine then_n ?_
  refine hc_seq ?_
  refine hc_region ?_
  refine hl_call F.law04_indexed_cb rfl rfl (law04_indexed_meets) (List.Perm.refl _) trivial fun _ _ => ?_
  refine r_assign rfl rfl ?_
  refine hl_nil ?_
  refine then_n ?_
  refine hc_ret ?_
  exact ret1 () rfl rfl rfl trivial (List.nil_sublist _) trivial

end Go.Proofs.Ytlpgheniajdkfaa
