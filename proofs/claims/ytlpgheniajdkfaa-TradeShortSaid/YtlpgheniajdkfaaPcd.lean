/- The walk of the statement TradeShort. -/
import Derived.Test.YtlpgheniajdkfaaPbh
namespace Go.Proofs.Ytlpgheniajdkfaa
open Go Go.W
set_option linter.unusedVariables false
set_option linter.unusedSimpArgs false
set_option maxRecDepth 20000
attribute [local irreducible] HL HC HQ HB Row Rows2 Blk Facts

theorem short_no {t : Tr} {h : Int} (h0 : checkT t = 0) (h1 : 0 ≤ h ∧ h ≤ (t.hs.length : Int) - 1) (h2 : shortT t h = none) : shortE t h = ([], 11) := by
  unfold shortE
  rw [if_neg (by rw [Classical.not_not]; exact ask_one h0 h1), h2]
theorem short_is {t : Tr} {h : Int} {s : Str} (h0 : checkT t = 0) (h1 : 0 ≤ h ∧ h ≤ (t.hs.length : Int) - 1) (h2 : shortT t h = some s) : shortE t h = (s, 0) := by
  unfold shortE
  rw [if_neg (by rw [Classical.not_not]; exact ask_one h0 h1), h2]
theorem may_tr {t : Tr} {b : Str} {x : Int} (h : x ∈ mayT t b) : isTrB t x = true ∧ 0 ≤ x ∧ x ≤ (t.hs.length : Int) - 1 := by
  obtain ⟨i, rfl, hi, h, hh, hl⟩ := (may_mem t b x).1 h
  unfold leadsB at hl
  cases hf : followT t (h : Int) with
  | none => rw [hf] at hl; simp at hl
  | some y =>
    obtain ⟨e, m⟩ := y
    rw [hf] at hl
    simp only [Bool.and_eq_true, decide_eq_true_eq] at hl
    obtain ⟨_, he, ht⟩ := hl
    rw [he] at ht
    exact ⟨ht, by omega, by omega⟩
theorem means_one {t : Tr} {b : Str} {x : Int} (h0 : checkT t = 0) (hx : x ∈ mayT t b) (h1 : (mayT t b).length = 1) : meansE t b x = (1, 0) := by
  have ht := may_tr hx
  unfold meansE
  rw [if_neg (by rw [Classical.not_not]; exact ask_one h0 ht.2), if_neg (by rw [ht.1]; decide), if_neg (fun e => e hx), if_pos h1]
/-- The only trade that a beginning means is the one to which its heading leads. -/
theorem may_one {cs : List Cl} {hs : List Hd} (hok : TrOK (trOf cs hs)) {i n : Nat} {e m : Int} (hi : i < hs.length) (hf : followT (trOf cs hs) (i : Int) = some (e, m)) (he0 : 0 ≤ e) (hc : 0 ≤ (hs.getD e.toNat default).2.1) (hel : e.toNat < hs.length) (h1 : (mayT (trOf cs hs) ((hs.getD i default).1.take n)).length = 1) : (mayT (trOf cs hs) ((hs.getD i default).1.take n)).getD 0 default = e := by
  have hm : e ∈ mayT (trOf cs hs) ((hs.getD i default).1.take n) := by
    rw [may_mem]
    refine ⟨e.toNat, by omega, by rw [hs_len]; exact hel, i, by rw [hs_len]; exact hi, ?_⟩
    have hend := (follow_end _ _ _ _ _ _ hf).1
    have hk := (hok.h e.toNat (by rw [hs_len]; exact hel))
    have hg : (trOf cs hs).hs.getD e.toNat default = (hs.getD e.toNat default).p := hd_get hel
    have hg2 : (trOf cs hs).hs.getD i default = (hs.getD i default).p := hd_get hi
    unfold leadsB
    rw [hf, hg2]
    have hp : (hs.getD i default).1.take n <+: (hs.getD i default).p.1 := List.take_prefix _ _
    rw [decide_eq_true hp, Bool.true_and]
    simp only
    rw [decide_eq_true (show e = (e.toNat : Int) by omega), Bool.true_and]
    unfold isTrB
    rw [decide_eq_true hend, hg, Bool.true_and, decide_eq_true_eq]
    show ¬ (hs.getD e.toNat default).2.1 = -1
    omega
  generalize mayT (trOf cs hs) ((hs.getD i default).1.take n) = l at h1 hm
  match l, h1 with
  | [x], _ =>
    rw [List.mem_singleton] at hm
    rw [hm]; rfl

set_option maxHeartbeats 1000000 in
theorem law04_TradeShort_meets {A : Option Addr} {c0 : Nat} (nums : List Int) (hn : nums.length ≤ 9223372036854775807) : Meets Try.prog F.law04_TradeShort [.slice A nums.length c0] { LI := [Row A (rows nums)], val := fun _ : Unit => .bool true } := by
 refine meets_intro F.law04_TradeShort_f rfl (Nat.le_of_ble_eq_true rfl) fun w0 => ?_
 refine hc_seq ?_
 refine hc_region ?_
 refine r_assign rfl rfl ?_
 refine hl_nil ?_
 refine then_n ?_
 refine hc_seq ?_
 refine hc_region ?_
 refine r_move rfl rfl ?_
 refine hl_call F.kit_NewDice_cb rfl rfl (kit_NewDice_meets nums) (List.Perm.refl _) ⟨(by repeat constructor), trivial⟩ fun g _ => ?_
 refine hl_call F.kit_TradesOf_cb rfl rfl (kit_TradesOf_meets 2 6 hn (dok0 nums) (by decide) (by decide)) (List.Perm.refl _) ⟨(by repeat constructor), trivial⟩ fun x hx => ?_
 obtain ⟨sd, cs, hs, ⟨CA, ca⟩, ⟨HB, cb⟩⟩ := x
 obtain ⟨hsd, hT⟩ := hx
 have hca : cs.length ≤ ca := hT.ca
 have hcb : hs.length ≤ cb := hT.cb
 have ha : ∀ h ∈ hs, h.2.2.2.l.length ≤ 1000000 := hT.ha
 have hT0 : checkT (trOf cs hs) = 0 := hT.ok
 have hok : TrOK (trOf cs hs) := tr_ok hT0
 clear hT
 have h6 : cs.length ≤ 6 := hok.c6
 have h6h := hok.h6
 have hln := hs_len cs hs
 rw [hln] at h6h
 have hcl : ∀ i, i < cs.length → ClsOK cs i := hok.c
 refine r_alloc rfl (fun _ => T.al_api_Trades _) fun gT => ?_
 refine r_storeS (cs := #[.slice CA cs.length ca, .slice HB hs.length cb]) rfl rfl (.refl _) T.sz_api_Trades (by rfl) (by rfl) ?_
 refine hl_nil ?_
 refine then_n ?_
 refine hc_seq ?_
 refine hc_seq ?_
 refine hc_letgoB ?_
 refine hc_outerF (ps := hs) (A := HB) (f := Hd.row) (by repeat constructor) ?_
 refine hc_region ?_
 refine r_assign rfl rfl ?_
 refine hl_nil ?_
 refine then_n ?_
 refine hc_block ?_
 have hml := fun b => may_len (trOf cs hs) b
 rw [hln] at hml
 refine hc_loop (β := Nat) ⟨fun i => i ≤ hs.length, fun i => [(3, .pointer (some ⟨gT, 0, none⟩)), (4, int i)], fun _ => [], fun _ => (Row HB (rows hs) :: [Blk gT (.cells #[.slice CA cs.length ca, .slice HB hs.length cb] T.api_Trades (0, 0)), Row CA (rows cs), RowsF HB hs Hd.row])⟩ (fun i => hs.length - i) 0 (Nat.zero_le _) ⟨rfl, rfl, trivial⟩ (List.nil_sublist _) ⟨(by repeat constructor), (by repeat constructor), (by repeat constructor), (by repeat constructor), trivial⟩ fun i hi => ?_
 simp only at hi
 refine hc_seq ?_
 refine hc_seq ?_
 refine hc_region ?_
 refine r_move rfl rfl ?_
 first | refine r_fieldAddr ⟨_, 1, none⟩ rfl rfl T.fa_api_Trades_1 rfl ?_ | refine r_fieldAddr _ rfl rfl T.fa_api_Trades_1 rfl ?_
 first | refine r_load rfl T.cell_L_api_Head rfl (cell_own (by repeat constructor) rfl) ?_ | refine r_load rfl T.cell_L_api_Head rfl (cell_blk (by repeat constructor) rfl) ?_ | refine r_load rfl T.cell_L_api_Head rfl (cell_row (by repeat constructor) (rows_get0 (by omega) rfl)) ?_ | refine r_load rfl T.cell_L_api_Head rfl (cell_row_f (by repeat constructor) (rows_get (by omega) rfl)) ?_ | refine r_load rfl T.cell_L_api_Head rfl (cell_rowg (by repeat constructor) rfl) ?_
 refine r_len_sl rfl T.u_L_api_Head rfl ?_
 refine r_lss rfl rfl rfl ?_
 refine hl_nil ?_
 refine then_n ?_
 first | refine c_dec rfl (fun hb1 => ?_) (fun hb1 => ?_) | refine hc_cond rfl (fun hb1 => ?_) (fun hb1 => ?_)
 ·have hb1' := hb1; try simp at hb1'
  have hi2 : i < hs.length := by omega
  have hrg : 0 ≤ (i : Int) ∧ (i : Int) ≤ ((trOf cs hs).hs.length : Int) - 1 := by rw [hln]; omega
  have hno := fun h => follow_no hT0 hrg h
  have hsome := fun e m h => follow_is (e := e) (m := m) hT0 hrg h
  have hFm := trade_Follow_meets (A := CA) (B := HB) (ca := ca) (cb := cb) cs hs (i : Int) hca hcb ha
  change followT (trOf cs hs) (i : Int) = none → followE (trOf cs hs) (i : Int) = (0, 0, 9) at hno
  change ∀ e m, followT (trOf cs hs) (i : Int) = some (e, m) → followE (trOf cs hs) (i : Int) = (e, m, 0) at hsome
  change Meets Try.prog F.trade_Follow [.agg #[.slice CA cs.length ca, .slice HB hs.length cb], int i] { LI := [Row CA (rows cs), RowsF HB hs Hd.row], val := fun _ : Unit => .tuple #[int (followE (trOf cs hs) (i : Int)).1, int (followE (trOf cs hs) (i : Int)).2.1, int (followE (trOf cs hs) (i : Int)).2.2] } at hFm
  generalize followE (trOf cs hs) (i : Int) = fe at hno hsome hFm
  obtain ⟨x1, x2, x3⟩ := fe
  have hsno := fun h => short_no hT0 hrg h
  have hsis := fun s h => short_is (s := s) hT0 hrg h
  have hSm := trade_Short_meets (A := CA) (B := HB) (ca := ca) (cb := cb) cs hs (i : Int) hca hcb ha
  change shortT (trOf cs hs) (i : Int) = none → shortE (trOf cs hs) (i : Int) = ([], 11) at hsno
  change ∀ s, shortT (trOf cs hs) (i : Int) = some s → shortE (trOf cs hs) (i : Int) = (s, 0) at hsis
  change Meets Try.prog F.trade_Short [.agg #[.slice CA cs.length ca, .slice HB hs.length cb], int i] { LI := [Row CA (rows cs), RowsF HB hs Hd.row], val := fun _ : Unit => .tuple #[str (shortE (trOf cs hs) (i : Int)).1, int (shortE (trOf cs hs) (i : Int)).2] } at hSm
  generalize shortE (trOf cs hs) (i : Int) = she at hsno hsis hSm
  obtain ⟨sv, se⟩ := she
  have hso := shortT_of (cs := cs) (hs := hs) (h := (i : Int)) (by omega) (by omega)
  rw [Int.toNat_natCast] at hso
  have hone := fun n e m => may_one (n := n) (e := e) (m := m) hok hi2
  have hx13 : x3 = 0 → 0 ≤ x1 ∧ x1 < (hs.length : Int) ∧ ∃ m, followT (trOf cs hs) (i : Int) = some (x1, m) := fun h3 => by
    cases hf : followT (trOf cs hs) (i : Int) with
    | none => have := congrArg (fun z => z.2.2) (hno hf); simp only at this; omega
    | some y =>
      obtain ⟨e, m⟩ := y
      have he : x1 = e := congrArg (fun z => z.1) (hsome e m hf)
      have hin := follow_in hok _ (i : Int) 0 e m (by omega) (by rw [hln]; omega) hf
      rw [hln] at hin
      exact ⟨by omega, by omega, m, by rw [he]⟩
  have hw12 := hd_12 hok hi2
  generalize hw : (hs.getD i default).1 = w at hso hone hw12
  refine hc_skip ?_
  refine then_n ?_
  refine hc_seq ?_
  refine hc_block ?_
  refine hc_seq ?_
  refine hc_region ?_
  first | refine r_loadA rfl T.row_api_Trades T.sz_api_Trades rfl (by repeat constructor) (by rfl) ?_ | refine r_loadB rfl T.row_api_Trades T.sz_api_Trades rfl (by repeat constructor) (by rfl) ?_ | refine r_loadS rfl T.row_api_Trades T.sz_api_Trades rfl rfl (cells_row (by repeat constructor) (rows_all (by omega))) ?_
  refine r_move rfl rfl ?_
  refine hl_call F.trade_Short_cb rfl rfl hSm (List.Perm.refl _) ⟨(by repeat constructor), (by repeat constructor), trivial⟩ fun _ _ => ?_
  clear hSm
  refine r_move rfl rfl ?_
  refine r_extract rfl rfl rfl ?_
  refine r_extract rfl rfl rfl ?_
  refine r_assign rfl rfl ?_
  refine r_assign rfl rfl ?_
  refine hl_nil ?_
  refine then_n ?_
  refine hc_seq ?_
  refine hc_region ?_
  first | refine r_fieldAddr ⟨_, 1, none⟩ rfl rfl T.fa_api_Trades_1 rfl ?_ | refine r_fieldAddr _ rfl rfl T.fa_api_Trades_1 rfl ?_
  first | refine r_load rfl T.cell_L_api_Head rfl (cell_own (by repeat constructor) rfl) ?_ | refine r_load rfl T.cell_L_api_Head rfl (cell_blk (by repeat constructor) rfl) ?_ | refine r_load rfl T.cell_L_api_Head rfl (cell_row (by repeat constructor) (rows_get0 (by omega) rfl)) ?_ | refine r_load rfl T.cell_L_api_Head rfl (cell_row_f (by repeat constructor) (rows_get (by omega) rfl)) ?_ | refine r_load rfl T.cell_L_api_Head rfl (cell_rowg (by repeat constructor) rfl) ?_
  refine r_move rfl rfl ?_
  refine r_elem (α := Hd) hs i rfl T.u_L_api_Head T.sz_api_Head rfl rfl rfl (by repeat constructor) rfl hi2 (by decide) ?_
  first | refine r_fieldAddr ⟨_, 0, none⟩ rfl rfl T.fa_api_Head_0 rfl ?_ | refine r_fieldAddr _ rfl rfl T.fa_api_Head_0 rfl ?_
  refine r_load (v := str w) rfl T.cell_string rfl (cell_row_f (by repeat constructor) (rows_get hi2 (show (El.cells (hs.getD i default))[0]? = some (str w) by rw [← hw]; rfl))) ?_
  refine r_assign rfl rfl ?_
  refine hl_nil ?_
  refine then_n ?_
  refine hc_seq ?_
  refine hc_region ?_
  first | refine r_loadA rfl T.row_api_Trades T.sz_api_Trades rfl (by repeat constructor) (by rfl) ?_ | refine r_loadB rfl T.row_api_Trades T.sz_api_Trades rfl (by repeat constructor) (by rfl) ?_ | refine r_loadS rfl T.row_api_Trades T.sz_api_Trades rfl rfl (cells_row (by repeat constructor) (rows_all (by omega))) ?_
  refine r_move rfl rfl ?_
  refine hl_call F.trade_Follow_cb rfl rfl hFm (List.Perm.refl _) ⟨(by repeat constructor), (by repeat constructor), trivial⟩ fun _ _ => ?_
  clear hFm
  refine r_move rfl rfl ?_
  refine r_extract rfl rfl rfl ?_
  refine r_extract rfl rfl rfl ?_
  refine r_extract rfl rfl rfl ?_
  refine r_assign rfl rfl ?_
  refine r_assign rfl rfl ?_
  refine r_assign rfl rfl ?_
  refine hl_nil ?_
  refine then_n ?_
  refine hc_seq ?_
  refine hc_cut ⟨fun _ : Unit => True, fun _ => [(3, .pointer (some ⟨gT, 0, none⟩)), (4, int i), (5, str sv), (6, int se), (7, str w), (8, int x1), (10, int x3), (58, .bool false)], fun _ => [], fun _ => (Row HB (rows hs) :: [Blk gT (.cells #[.slice CA cs.length ca, .slice HB hs.length cb] T.api_Trades (0, 0)), Row CA (rows cs), RowsF HB hs Hd.row])⟩ ?_ ?_
  ·skip
   refine hc_region ?_
   refine r_move rfl rfl ?_
   refine r_eql rfl rfl rfl ?_
   refine r_move rfl rfl ?_
   refine g_split rfl rfl ?_ ?_
   ·intro hg1; have hg1' := hg1; try simp at hg1'
    have hx1 := hx13 (by simpa using hg1)
    refine g_yes rfl rfl hg1 ?_
    refine r_move rfl rfl ?_
    refine g_yes rfl rfl hg1 ?_
    refine r_lss rfl rfl rfl ?_
    refine g_yes rfl rfl hg1 ?_
    refine r_move rfl rfl ?_
    refine g_split rfl rfl ?_ ?_
    ·intro hg2; have hg2' := hg2; try simp at hg2'
     refine g_yes rfl rfl hg2 ?_
     refine r_move rfl rfl ?_
     refine g_yes rfl rfl hg2 ?_
     first | refine r_fieldAddr ⟨_, 1, none⟩ rfl rfl T.fa_api_Trades_1 rfl ?_ | refine r_fieldAddr _ rfl rfl T.fa_api_Trades_1 rfl ?_
     refine g_yes rfl rfl hg2 ?_
     first | refine r_load rfl T.cell_L_api_Head rfl (cell_own (by repeat constructor) rfl) ?_ | refine r_load rfl T.cell_L_api_Head rfl (cell_blk (by repeat constructor) rfl) ?_ | refine r_load rfl T.cell_L_api_Head rfl (cell_row (by repeat constructor) (rows_get0 (by omega) rfl)) ?_ | refine r_load rfl T.cell_L_api_Head rfl (cell_row_f (by repeat constructor) (rows_get (by omega) rfl)) ?_ | refine r_load rfl T.cell_L_api_Head rfl (cell_rowg (by repeat constructor) rfl) ?_
     refine g_yes rfl rfl hg2 ?_
     refine r_len_sl rfl T.u_L_api_Head rfl ?_
     refine g_yes rfl rfl hg2 ?_
     refine r_geq rfl rfl rfl ?_
     refine g_yes rfl rfl hg1 ?_
     refine p_f rfl rfl (bf1 hg2) rfl ?_
     refine p_t rfl rfl (bt1 hg1) rfl ?_
     refine hl_nil ?_
     exact cut_n _ () trivial ⟨rfl, rfl, rfl, rfl, rfl, rfl, rfl, congrArg (fun b => some (Value.bool b)) (decide_eq_false (by omega)), trivial⟩ (List.nil_sublist _) ⟨(by repeat constructor), (by repeat constructor), (by repeat constructor), (by repeat constructor), trivial⟩
    ·intro hg2; have hg2' := hg2; try simp at hg2'
     exfalso; simp at hg2; omega
   ·intro hg1; have hg1' := hg1; try simp at hg1'
    refine g_no rfl rfl rfl rfl rfl hg1 ?_
    refine g_no rfl rfl rfl rfl rfl hg1 ?_
    refine g_no rfl rfl rfl rfl rfl hg1 ?_
    refine g_und rfl rfl rfl rfl rfl rfl ?_
    refine g_und rfl rfl rfl rfl rfl rfl ?_
    refine g_und rfl rfl rfl rfl rfl rfl ?_
    refine g_und rfl rfl rfl rfl rfl rfl ?_
    refine g_und rfl rfl rfl rfl rfl rfl ?_
    refine g_no rfl rfl rfl rfl rfl hg1 ?_
    refine p_f rfl rfl (bf2 hg1) rfl ?_
    refine hl_nil ?_
    exact cut_n _ () trivial ⟨rfl, rfl, rfl, rfl, rfl, rfl, rfl, rfl, trivial⟩ (List.nil_sublist _) ⟨(by repeat constructor), (by repeat constructor), (by repeat constructor), (by repeat constructor), trivial⟩
  ·refine fun _ _ => ?_
   refine c_f rfl (by first | rfl | assumption | exact bf1 (by assumption) | exact bf2 (by assumption)) ?_
   refine hc_skip ?_
   refine then_n ?_
   refine hc_seq ?_
   refine hc_region ?_
   refine r_assign rfl rfl ?_
   refine hl_nil ?_
   refine then_n ?_
   refine hc_cut ⟨fun fd : Bool => fd = false → sv = [] ∧ se = 11, fun fd => [(3, .pointer (some ⟨gT, 0, none⟩)), (4, int i), (5, str sv), (6, int se), (11, .bool fd)], fun _ => [], fun _ => (Row HB (rows hs) :: [Blk gT (.cells #[.slice CA cs.length ca, .slice HB hs.length cb] T.api_Trades (0, 0)), Row CA (rows cs), RowsF HB hs Hd.row])⟩ ?_ ?_
   ·skip
    refine hc_seq ?_
    refine hc_region ?_
    refine r_assign rfl rfl ?_
    refine hl_nil ?_
    refine then_n ?_
    refine hc_block ?_
    refine hc_loop (β := Nat × Bool) ⟨fun x => x.1 ≤ w.length + 2 ∧ ((x.2 = false ∧ x.1 ≤ w.length + 1 ∧ shortT (trOf cs hs) (i : Int) = shortN (trOf cs hs) w (w.length + 1 - x.1) x.1) ∨ x.2 = true), fun x => [(3, .pointer (some ⟨gT, 0, none⟩)), (4, int i), (5, str sv), (6, int se), (7, str w), (8, int x1), (10, int x3), (11, .bool x.2), (12, int x.1)], fun _ => [], fun _ => (Row HB (rows hs) :: [Blk gT (.cells #[.slice CA cs.length ca, .slice HB hs.length cb] T.api_Trades (0, 0)), Row CA (rows cs), RowsF HB hs Hd.row])⟩ (fun x => w.length + 2 - x.1) (0, false) ⟨Nat.zero_le _, .inl ⟨rfl, Nat.zero_le _, hso⟩⟩ ⟨rfl, rfl, rfl, rfl, rfl, rfl, rfl, rfl, rfl, trivial⟩ (List.nil_sublist _) ⟨(by repeat constructor), (by repeat constructor), (by repeat constructor), (by repeat constructor), trivial⟩ fun x hx => ?_
    obtain ⟨n, fd⟩ := x
    obtain ⟨hn2, hfd⟩ := hx
    simp only at hn2 hfd
    refine hc_seq ?_
    refine hc_seq ?_
    refine hc_region ?_
    refine r_move rfl rfl ?_
    refine r_move rfl rfl ?_
    refine r_len_str rfl T.u_string rfl ?_
    refine r_leq rfl rfl rfl ?_
    refine r_move rfl rfl ?_
    refine g_split rfl rfl ?_ ?_
    ·intro hg3; have hg3' := hg3; try simp at hg3'
     have hn3 : n ≤ w.length := by simp at hg3; omega
     refine g_yes rfl rfl hg3 ?_
     refine r_move rfl rfl ?_
     refine g_yes rfl rfl hg3 ?_
     refine r_not rfl rfl ?_
     refine p_t rfl rfl (bt1 hg3) rfl ?_
     refine hl_nil ?_
     refine then_n ?_
     first | refine c_dec rfl (fun hb3 => ?_) (fun hb3 => ?_) | refine hc_cond rfl (fun hb3 => ?_) (fun hb3 => ?_)
     ·have hb3' := hb3; try simp at hb3'
      have hf0 : fd = false := by cases fd with | false => rfl | true => cases hb3
      subst hf0
      obtain ⟨hn4, hsh⟩ : n ≤ w.length + 1 ∧ shortT (trOf cs hs) (i : Int) = shortN (trOf cs hs) w (w.length + 1 - n) n := by
        rcases hfd with h | h
        · exact h.2
        · cases h
      obtain ⟨d, hd⟩ : ∃ d, w.length + 1 - n = d + 1 := ⟨w.length - n, by omega⟩
      rw [hd, shortN] at hsh
      have hmlt := hml (w.take n)
      have hln1 := hone n
      refine hc_skip ?_
      refine then_n ?_
      refine hc_seq ?_
      refine hc_block ?_
      refine hc_seq ?_
      refine hc_draw 9 mixed (by decide) (by decide) rfl rfl ?_
      apply hb_ex _ rfl rfl rfl
      ·intro w1
       first | refine r_loadA rfl T.row_api_Trades T.sz_api_Trades rfl (by repeat constructor) (by rfl) ?_ | refine r_loadB rfl T.row_api_Trades T.sz_api_Trades rfl (by repeat constructor) (by rfl) ?_ | refine r_loadS rfl T.row_api_Trades T.sz_api_Trades rfl rfl (cells_row (by repeat constructor) (rows_all (by omega))) ?_
       refine hl_nil ?_
       exact qe_done rfl
      apply hb_ex _ rfl rfl rfl
      ·intro w1
       refine r_move rfl rfl ?_
       refine hl_nil ?_
       exact qe_done rfl
      apply hb_ex _ rfl rfl rfl
      ·intro w1
       refine r_move rfl rfl ?_
       refine hl_nil ?_
       exact qe_done rfl
      apply hb_ex _ rfl rfl rfl
      ·intro w1
       refine r_sslice_hi n rfl T.u_string rfl rfl rfl (by omega) ?_
       refine hl_nil ?_
       exact qe_done rfl
      refine hb_vs ⟨OutC, fun y => (mayT (trOf cs hs) (w.take n)).length ≤ y.2, fun y => .tuple #[.slice y.1 (mayT (trOf cs hs) (w.take n)).length y.2, int 0], fun y => [Row y.1 (rows (mayT (trOf cs hs) (w.take n)))]⟩ rfl rfl rfl ?_ ?_
      ·intro w1
       refine hl_call F.trade_May_cb rfl rfl (may_is cs hs (w.take n) hca hcb ha hT0) (List.Perm.refl _) ⟨(by repeat constructor), (by repeat constructor), trivial⟩ fun y hy => ?_
       refine hl_nil ?_
       exact qv_done y hy rfl ⟨m0, trivial⟩
      refine hb_vs ⟨OutC, fun y => (mayT (trOf cs hs) (w.take n)).length ≤ y.2, fun y => .tuple #[.slice y.1 (mayT (trOf cs hs) (w.take n)).length y.2, int 0], fun y => [Row y.1 (rows (mayT (trOf cs hs) (w.take n)))]⟩ rfl rfl rfl ?_ ?_
      ·intro y hy; intro w1
       refine r_move rfl rfl ?_
       refine hl_nil ?_
       exact qv_done y hy rfl ⟨m0, trivial⟩
      refine hb_vs ⟨OutC, fun y => (mayT (trOf cs hs) (w.take n)).length ≤ y.2, fun y => .slice y.1 (mayT (trOf cs hs) (w.take n)).length y.2, fun y => [Row y.1 (rows (mayT (trOf cs hs) (w.take n)))]⟩ rfl rfl rfl ?_ ?_
      ·intro y hy; intro w1
       refine r_extract rfl rfl rfl ?_
       refine hl_nil ?_
       exact qv_done y hy rfl ⟨m0, trivial⟩
      apply hb_ex _ rfl rfl rfl
      ·intro y hy; intro w1
       refine r_extract rfl rfl rfl ?_
       refine hl_nil ?_
       exact qe_done rfl
      refine hb_vs ⟨OutC, fun y => (mayT (trOf cs hs) (w.take n)).length ≤ y.2, fun y => .slice y.1 (mayT (trOf cs hs) (w.take n)).length y.2, fun y => [Row y.1 (rows (mayT (trOf cs hs) (w.take n)))]⟩ rfl rfl rfl ?_ ?_
      ·intro y hy; intro w1
       refine r_assign rfl rfl ?_
       refine hl_nil ?_
       exact qv_done y hy rfl ⟨m0, trivial⟩
      refine hb_nil ⟨rfl, ?_⟩
      intro _ _ _ _ _ _ y hy
      refine r_assign rfl rfl ?_
      refine hl_nil ?_
      refine then_n ?_
      refine hc_seq ?_
      refine hc_seq ?_
      refine hc_region ?_
      refine r_move rfl rfl ?_
      refine r_neq rfl rfl rfl ?_
      refine hl_nil ?_
      refine then_n ?_
      refine c_f rfl (by first | rfl | assumption | exact bf1 (by assumption) | exact bf2 (by assumption)) ?_
      refine hc_skip ?_
      refine then_n ?_
      refine hc_seq ?_
      refine hc_seq ?_
      refine hc_region ?_
      refine r_move rfl rfl ?_
      refine r_len_sl rfl T.u_ints rfl ?_
      refine r_neq rfl rfl rfl ?_
      refine hl_nil ?_
      refine then_n ?_
      first | refine c_dec rfl (fun hb5 => ?_) (fun hb5 => ?_) | refine hc_cond rfl (fun hb5 => ?_) (fun hb5 => ?_)
      ·have hb5' := hb5; try simp at hb5'
       have hne : ¬ (mayT (trOf cs hs) (w.take n)).length = 1 := by omega
       rw [if_neg hne] at hsh
       refine hc_exit ?_
       refine then_exit ?_
       refine inb_hit ?_
       refine then_n ?_
       refine hc_region ?_
       refine r_move rfl rfl ?_
       refine r_add _ rfl rfl rfl rfl (by unfold I64; omega) ?_
       refine r_assign rfl rfl ?_
       refine hl_nil ?_
       exact again _ (n + 1, false) ⟨by show n + 1 ≤ w.length + 2; omega, .inl ⟨rfl, by show n + 1 ≤ w.length + 1; omega, by show shortT (trOf cs hs) (i : Int) = shortN (trOf cs hs) w (w.length + 1 - (n + 1)) (n + 1); rw [hsh, show w.length + 1 - (n + 1) = d by omega]⟩⟩ (by show w.length + 2 - (n + 1) < w.length + 2 - n; omega) ⟨rfl, rfl, rfl, rfl, rfl, rfl, rfl, rfl, rfl, trivial⟩ (List.nil_sublist _) ⟨(by repeat constructor), (by repeat constructor), (by repeat constructor), (by repeat constructor), trivial⟩
      ·have hb5' := hb5; try simp at hb5'
       have hl1 : (mayT (trOf cs hs) (w.take n)).length = 1 := by omega
       rw [if_pos hl1] at hsh
       have hse := hsis _ hsh
       obtain rfl : sv = (w.take n) := congrArg Prod.fst hse
       obtain rfl : se = 0 := congrArg Prod.snd hse
       have hx0 : (mayT (trOf cs hs) (w.take n)).getD 0 default ∈ (mayT (trOf cs hs) (w.take n)) := getD_mem (by omega)
       have hMn := trade_Means_meets (A := CA) (B := HB) (ca := ca) (cb := cb) cs hs (w.take n) ((mayT (trOf cs hs) (w.take n)).getD 0 default) hca hcb ha
       rw [means_one hT0 hx0 hl1] at hMn
       generalize hz : (mayT (trOf cs hs) (w.take n)).getD 0 default = z at hMn hln1
       refine hc_skip ?_
       refine then_n ?_
       refine hc_seq ?_
       refine hc_region ?_
       refine r_assign rfl rfl ?_
       refine hl_nil ?_
       refine then_n ?_
       refine hc_seq ?_
       refine hc_seq ?_
       refine hc_region ?_
       refine r_move rfl rfl ?_
       refine r_neq rfl rfl rfl ?_
       refine r_move rfl rfl ?_
       refine g_split rfl rfl ?_ ?_
       ·intro hg4; have hg4' := hg4; try simp at hg4'
        refine g_yes rfl rfl hg4 ?_
        refine r_move rfl rfl ?_
        refine g_yes rfl rfl hg4 ?_
        refine r_move rfl rfl ?_
        refine g_yes rfl rfl hg4 ?_
        refine r_move rfl rfl ?_
        refine g_yes rfl rfl hg4 ?_
        refine r_sslice_hi n rfl T.u_string rfl rfl rfl (by omega) ?_
        refine g_yes rfl rfl hg4 ?_
        refine r_sneq rfl rfl rfl ?_
        refine p_f rfl rfl (bf1 hg4) rfl ?_
        refine hl_nil ?_
        refine then_n ?_
        first | refine c_dec rfl (fun hb6 => ?_) (fun hb6 => ?_) | refine hc_cond rfl (fun hb6 => ?_) (fun hb6 => ?_)
        ·exact absurd rfl hb6
        ·have hb6' := hb6; try simp at hb6'
         refine hc_skip ?_
         refine then_n ?_
         refine hc_seq ?_
         refine hc_draw 10 mixed (by decide) (by decide) rfl rfl ?_
         apply hb_ex _ rfl rfl rfl
         ·intro w1
          first | refine r_loadA rfl T.row_api_Trades T.sz_api_Trades rfl (by repeat constructor) (by rfl) ?_ | refine r_loadB rfl T.row_api_Trades T.sz_api_Trades rfl (by repeat constructor) (by rfl) ?_ | refine r_loadS rfl T.row_api_Trades T.sz_api_Trades rfl rfl (cells_row (by repeat constructor) (rows_all (by omega))) ?_
          refine hl_nil ?_
          exact qe_done rfl
         apply hb_ex _ rfl rfl rfl
         ·intro w1
          refine r_move rfl rfl ?_
          refine hl_nil ?_
          exact qe_done rfl
         apply hb_ex _ rfl rfl rfl
         ·intro w1
          refine r_move rfl rfl ?_
          refine hl_nil ?_
          exact qe_done rfl
         apply hb_ex _ rfl rfl rfl
         ·intro w1
          refine r_elem (α := Int) (mayT (trOf cs hs) (w.take n)) 0 rfl T.u_ints T.sz_int rfl rfl rfl (by repeat constructor) rfl (by omega) (by decide) ?_
          refine hl_nil ?_
          exact qe_done rfl
         apply hb_ex _ rfl rfl rfl
         ·intro w1
          refine r_load (v := int z) rfl T.cell_int rfl (cell_row (by repeat constructor) (by rw [← hz]; exact rows_get0 (by omega) rfl)) ?_
          refine hl_nil ?_
          exact qe_done rfl
         apply hb_ex _ rfl rfl rfl
         ·intro w1
          refine hl_call F.trade_Means_cb rfl rfl hMn (List.Perm.refl _) ⟨(by repeat constructor), (by repeat constructor), trivial⟩ fun _ _ => ?_
          refine hl_nil ?_
          exact qe_done rfl
         apply hb_ex _ rfl rfl rfl
         ·intro w1
          refine r_move rfl rfl ?_
          refine hl_nil ?_
          exact qe_done rfl
         apply hb_ex _ rfl rfl rfl
         ·intro w1
          refine r_extract rfl rfl rfl ?_
          refine hl_nil ?_
          exact qe_done rfl
         apply hb_ex _ rfl rfl rfl
         ·intro w1
          refine r_extract rfl rfl rfl ?_
          refine hl_nil ?_
          exact qe_done rfl
         apply hb_ex _ rfl rfl rfl
         ·intro w1
          refine r_assign rfl rfl ?_
          refine hl_nil ?_
          exact qe_done rfl
         refine hb_nil ⟨rfl, ?_⟩
         refine r_assign rfl rfl ?_
         refine hl_nil ?_
         refine then_n ?_
         refine hc_cut ⟨fun _ : Unit => True, fun _ => [(3, .pointer (some ⟨gT, 0, none⟩)), (4, int i), (5, str (w.take n)), (6, int 0), (7, str w), (8, int x1), (10, int x3), (11, .bool true), (12, int n), (125, .bool false)], fun _ => [], fun _ => (Row HB (rows hs) :: [Blk gT (.cells #[.slice CA cs.length ca, .slice HB hs.length cb] T.api_Trades (0, 0)), Row CA (rows cs), RowsF HB hs Hd.row])⟩ ?_ ?_
         ·skip
          refine hc_region ?_
          refine r_move rfl rfl ?_
          refine r_neq rfl rfl rfl ?_
          refine r_move rfl rfl ?_
          refine g_split rfl rfl ?_ ?_
          ·intro hg5; have hg5' := hg5; try simp at hg5'
           refine g_yes rfl rfl hg5 ?_
           refine r_move rfl rfl ?_
           refine g_yes rfl rfl hg5 ?_
           refine r_neq rfl rfl rfl ?_
           refine p_f rfl rfl (bf1 hg5) rfl ?_
           refine r_move rfl rfl ?_
           refine g_split rfl rfl ?_ ?_
           ·intro hg6; have hg6' := hg6; try simp at hg6'
            refine g_yes rfl rfl hg6 ?_
            refine r_move rfl rfl ?_
            refine g_yes rfl rfl hg6 ?_
            refine r_eql rfl rfl rfl ?_
            refine g_yes rfl rfl hg6 ?_
            refine r_move rfl rfl ?_
            refine g_split rfl rfl ?_ ?_
            ·intro hg7; have hg7' := hg7; try simp at hg7'
             have hx1 := hx13 (by simpa using hg7)
             refine g_yes rfl rfl hg7 ?_
             first | refine r_fieldAddr ⟨_, 1, none⟩ rfl rfl T.fa_api_Trades_1 rfl ?_ | refine r_fieldAddr _ rfl rfl T.fa_api_Trades_1 rfl ?_
             refine g_yes rfl rfl hg7 ?_
             first | refine r_load rfl T.cell_L_api_Head rfl (cell_own (by repeat constructor) rfl) ?_ | refine r_load rfl T.cell_L_api_Head rfl (cell_blk (by repeat constructor) rfl) ?_ | refine r_load rfl T.cell_L_api_Head rfl (cell_row (by repeat constructor) (rows_get0 (by omega) rfl)) ?_ | refine r_load rfl T.cell_L_api_Head rfl (cell_row_f (by repeat constructor) (rows_get (by omega) rfl)) ?_ | refine r_load rfl T.cell_L_api_Head rfl (cell_rowg (by repeat constructor) rfl) ?_
             refine g_yes rfl rfl hg7 ?_
             refine r_move rfl rfl ?_
             refine g_yes rfl rfl hg7 ?_
             refine r_elem (α := Hd) hs x1.toNat rfl T.u_L_api_Head T.sz_api_Head rfl rfl (Int.toNat_of_nonneg hx1.1).symm (by repeat constructor) rfl (by omega) (by decide) ?_
             refine g_yes rfl rfl hg7 ?_
             first | refine r_fieldAddr ⟨_, 1, none⟩ rfl rfl T.fa_api_Head_1 rfl ?_ | refine r_fieldAddr _ rfl rfl T.fa_api_Head_1 rfl ?_
             refine g_yes rfl rfl hg7 ?_
             refine r_load (v := int (hs.getD x1.toNat default).2.1) rfl T.cell_int rfl (cell_row_f (by repeat constructor) (rows_get (by omega) rfl)) ?_
             refine g_yes rfl rfl hg7 ?_
             refine r_geq rfl rfl rfl ?_
             refine g_yes rfl rfl hg6 ?_
             refine p_t rfl rfl (bt1 hg7) rfl ?_
             refine g_yes rfl rfl hg6 ?_
             refine r_move rfl rfl ?_
             refine g_split rfl rfl ?_ ?_
             ·intro hg8; have hg8' := hg8; try simp at hg8'
              refine g_yes rfl rfl hg8 ?_
              refine r_move rfl rfl ?_
              refine g_yes rfl rfl hg8 ?_
              refine r_elem (α := Int) (mayT (trOf cs hs) (w.take n)) 0 rfl T.u_ints T.sz_int rfl rfl rfl (by repeat constructor) rfl (by omega) (by decide) ?_
              refine g_yes rfl rfl hg8 ?_
              refine r_load (v := int z) rfl T.cell_int rfl (cell_row (by repeat constructor) (by rw [← hz]; exact rows_get0 (by omega) rfl)) ?_
              refine g_yes rfl rfl hg8 ?_
              refine r_move rfl rfl ?_
              refine g_yes rfl rfl hg8 ?_
              refine r_neq rfl rfl rfl ?_
              refine g_yes rfl rfl hg6 ?_
              refine p_t rfl rfl (bt1 hg8) rfl ?_
              refine p_f rfl rfl (bf1 hg6) rfl ?_
              refine hl_nil ?_
              obtain ⟨m1_, hm1_⟩ := hx1.2.2
              have hzx : z = x1 := hln1 _ _ hm1_ hx1.1 (of_decide_eq_true (eq_of_beq hg8)) (by omega) (by rw [← hz] at *; exact hl1)
              exact cut_n _ () trivial ⟨rfl, rfl, rfl, rfl, rfl, rfl, rfl, rfl, rfl, congrArg (fun b => some (Value.bool b)) (decide_eq_false (fun e => e hzx)), trivial⟩ (List.nil_sublist _) ⟨(by repeat constructor), (by repeat constructor), (by repeat constructor), (by repeat constructor), trivial⟩
             ·intro hg8; have hg8' := hg8; try simp at hg8'
              refine g_no rfl rfl rfl rfl rfl hg8 ?_
              refine g_no rfl rfl rfl rfl rfl hg8 ?_
              refine g_no rfl rfl rfl rfl rfl hg8 ?_
              refine g_no rfl rfl rfl rfl rfl hg8 ?_
              refine g_no rfl rfl rfl rfl rfl hg8 ?_
              refine g_yes rfl rfl hg6 ?_
              refine p_f rfl rfl (bf2 hg8) rfl ?_
              refine p_f rfl rfl (bf1 hg6) rfl ?_
              refine hl_nil ?_
              exact cut_n _ () trivial ⟨rfl, rfl, rfl, rfl, rfl, rfl, rfl, rfl, rfl, rfl, trivial⟩ (List.nil_sublist _) ⟨(by repeat constructor), (by repeat constructor), (by repeat constructor), (by repeat constructor), trivial⟩
            ·intro hg7; have hg7' := hg7; try simp at hg7'
             refine g_no rfl rfl rfl rfl rfl hg7 ?_
             refine g_no rfl rfl rfl rfl rfl hg7 ?_
             refine g_no rfl rfl rfl rfl rfl hg7 ?_
             refine g_no rfl rfl rfl rfl rfl hg7 ?_
             refine g_no rfl rfl rfl rfl rfl hg7 ?_
             refine g_no rfl rfl rfl rfl rfl hg7 ?_
             refine g_no rfl rfl rfl rfl rfl hg7 ?_
             refine g_yes rfl rfl hg6 ?_
             refine p_f rfl rfl (bf2 hg7) rfl ?_
             refine g_yes rfl rfl hg6 ?_
             refine r_move rfl rfl ?_
             refine g_no rfl rfl rfl rfl rfl rfl ?_
             refine g_no rfl rfl rfl rfl rfl rfl ?_
             refine g_no rfl rfl rfl rfl rfl rfl ?_
             refine g_no rfl rfl rfl rfl rfl rfl ?_
             refine g_no rfl rfl rfl rfl rfl rfl ?_
             refine g_yes rfl rfl hg6 ?_
             refine p_f rfl rfl rfl rfl ?_
             refine p_f rfl rfl (bf1 hg6) rfl ?_
             refine hl_nil ?_
             exact cut_n _ () trivial ⟨rfl, rfl, rfl, rfl, rfl, rfl, rfl, rfl, rfl, rfl, trivial⟩ (List.nil_sublist _) ⟨(by repeat constructor), (by repeat constructor), (by repeat constructor), (by repeat constructor), trivial⟩
           ·intro hg6; have hg6' := hg6; try simp at hg6'
          ·intro hg5; have hg5' := hg5; try simp at hg5'
         ·refine fun _ _ => ?_
          refine c_f rfl (by first | rfl | assumption | exact bf1 (by assumption) | exact bf2 (by assumption)) ?_
          refine hc_skip ?_
          refine inb_n ?_
          refine then_n ?_
          refine hc_region ?_
          refine r_move rfl rfl ?_
          refine r_add _ rfl rfl rfl rfl (by unfold I64; omega) ?_
          refine r_assign rfl rfl ?_
          refine hl_nil ?_
          exact again _ (n + 1, true) ⟨by show n + 1 ≤ w.length + 2; omega, .inr rfl⟩ (by show w.length + 2 - (n + 1) < w.length + 2 - n; omega) ⟨rfl, rfl, rfl, rfl, rfl, rfl, rfl, rfl, rfl, trivial⟩ (List.nil_sublist _) ⟨(by repeat constructor), (by repeat constructor), (by repeat constructor), (by repeat constructor), trivial⟩
       ·intro hg4; have hg4' := hg4; try simp at hg4'
     ·have hb3' := hb3; try simp at hb3'
      refine hc_exit ?_
      refine then_exit ?_
      refine then_exit ?_
      refine inb_hit ?_
      exact cut_n _ fd (fun h => by subst h; cases hb3) ⟨rfl, rfl, rfl, rfl, rfl, trivial⟩ (List.nil_sublist _) ⟨(by repeat constructor), (by repeat constructor), (by repeat constructor), (by repeat constructor), trivial⟩
    ·intro hg3; have hg3' := hg3; try simp at hg3'
     have hn3 : w.length < n := by simp at hg3; omega
     refine g_no rfl rfl rfl rfl rfl hg3 ?_
     refine g_no rfl rfl rfl rfl rfl hg3 ?_
     refine p_f rfl rfl (bf2 hg3) rfl ?_
     refine hl_nil ?_
     refine then_n ?_
     refine c_f rfl rfl ?_
     refine hc_exit ?_
     refine then_exit ?_
     refine then_exit ?_
     refine inb_hit ?_
     exact cut_n _ fd (fun h => by
       rcases hfd with hq | hq
       · have he := hsno (by rw [hq.2.2, show w.length + 1 - n = 0 by omega]; rfl)
         exact ⟨congrArg Prod.fst he, congrArg Prod.snd he⟩
       · rw [h] at hq; cases hq) ⟨rfl, rfl, rfl, rfl, rfl, trivial⟩ (List.nil_sublist _) ⟨(by repeat constructor), (by repeat constructor), (by repeat constructor), (by repeat constructor), trivial⟩
   ·intro fd hfd
    refine hc_seq ?_
    refine hc_region ?_
    refine r_move rfl rfl ?_
    refine r_not rfl rfl ?_
    refine r_move rfl rfl ?_
    refine g_split rfl rfl ?_ ?_
    ·intro hg9; have hg9' := hg9; try simp at hg9'
     obtain ⟨rfl, rfl⟩ := hfd (by simpa using hg9)
     refine g_yes rfl rfl hg9 ?_
     refine r_move rfl rfl ?_
     refine g_yes rfl rfl hg9 ?_
     refine r_neq rfl rfl rfl ?_
     refine g_yes rfl rfl hg9 ?_
     refine r_move rfl rfl ?_
     refine g_split rfl rfl ?_ ?_
     ·intro hg10; have hg10' := hg10; try simp at hg10'
      refine g_yes rfl rfl hg10 ?_
      refine r_move rfl rfl ?_
      refine g_yes rfl rfl hg10 ?_
      refine r_sneq rfl rfl rfl ?_
      refine g_yes rfl rfl hg9 ?_
      refine p_f rfl rfl (bf1 hg10) rfl ?_
      refine p_t rfl rfl (bt1 hg9) rfl ?_
      refine hl_nil ?_
      refine then_n ?_
      first | refine c_dec rfl (fun hb8 => ?_) (fun hb8 => ?_) | refine hc_cond rfl (fun hb8 => ?_) (fun hb8 => ?_)
      ·have hb8' := hb8; try simp at hb8'
      ·have hb8' := hb8; try simp at hb8'
       refine hc_skip ?_
       refine inb_n ?_
       refine then_n ?_
       refine hc_region ?_
       refine r_move rfl rfl ?_
       refine r_add _ rfl rfl rfl rfl (by unfold I64; omega) ?_
       refine r_assign rfl rfl ?_
       refine hl_nil ?_
       exact again _ (i + 1) (by show i + 1 ≤ hs.length; omega) (by show hs.length - (i + 1) < hs.length - i; omega) ⟨rfl, rfl, trivial⟩ (List.nil_sublist _) ⟨(by repeat constructor), (by repeat constructor), (by repeat constructor), (by repeat constructor), trivial⟩
     ·intro hg10; have hg10' := hg10; try simp at hg10'
    ·intro hg9; have hg9' := hg9; try simp at hg9'
     refine g_no rfl rfl rfl rfl rfl hg9 ?_
     refine g_no rfl rfl rfl rfl rfl hg9 ?_
     refine g_no rfl rfl rfl rfl rfl hg9 ?_
     refine g_und rfl rfl rfl rfl rfl rfl ?_
     refine g_und rfl rfl rfl rfl rfl rfl ?_
     refine g_no rfl rfl rfl rfl rfl hg9 ?_
     refine p_f rfl rfl (bf2 hg9) rfl ?_
     refine hl_nil ?_
     refine then_n ?_
     refine c_f rfl rfl ?_
     refine hc_skip ?_
     refine inb_n ?_
     refine then_n ?_
     refine hc_region ?_
     refine r_move rfl rfl ?_
     refine r_add _ rfl rfl rfl rfl (by unfold I64; omega) ?_
     refine r_assign rfl rfl ?_
     refine hl_nil ?_
     exact again _ (i + 1) (by show i + 1 ≤ hs.length; omega) (by show hs.length - (i + 1) < hs.length - i; omega) ⟨rfl, rfl, trivial⟩ (List.nil_sublist _) ⟨(by repeat constructor), (by repeat constructor), (by repeat constructor), (by repeat constructor), trivial⟩
 ·have hb1' := hb1; try simp at hb1'
  refine hc_exit ?_
  refine then_exit ?_
  refine then_exit ?_
  refine inb_hit ?_
  refine then_n ?_
  refine hc_seq ?_
  refine hc_region ?_
  refine hl_call F.law04_indexed_cb rfl rfl (law04_indexed_meets) (List.Perm.refl _) trivial fun _ _ => ?_
  refine r_assign rfl rfl ?_
  refine hl_nil ?_
  refine then_n ?_
  refine hc_ret ?_
  exact ret1 () rfl rfl rfl trivial (List.nil_sublist _) trivial

end Go.Proofs.Ytlpgheniajdkfaa
