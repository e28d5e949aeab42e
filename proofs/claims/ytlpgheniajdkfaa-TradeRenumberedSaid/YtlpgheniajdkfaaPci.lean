/- The walk of the statement TradeRenumbered. -/
import Derived.Test.YtlpgheniajdkfaaPbr
namespace Go.Proofs.Ytlpgheniajdkfaa
open Go Go.W
set_option linter.unusedVariables false
set_option linter.unusedSimpArgs false
set_option maxRecDepth 20000
attribute [local irreducible] HL HC HQ HB Row Rows2 Blk Facts

theorem mix_set {α : Type} [Inhabited α] {A B : List α} {k : Nat} (hl : A.length = B.length) (hk : k < A.length) : (A.take k ++ B.drop k).set k (A.getD k default) = A.take (k + 1) ++ B.drop (k + 1) := by
  have h1 : (A.take k).length = k := by rw [List.length_take]; omega
  rw [List.set_append_right _ _ (by omega), h1, Nat.sub_self, take_succ_getD A k hk, List.append_assoc, List.drop_eq_getElem_cons (show k < B.length by omega)]
  rfl
theorem mix_len {α : Type} {A B : List α} {k : Nat} (hl : A.length = B.length) (hk : k ≤ A.length) : (A.take k ++ B.drop k).length = A.length := by
  rw [List.length_append, List.length_take, List.length_drop]; omega
theorem mix_get {α : Type} [Inhabited α] {A B : List α} {k : Nat} (hl : A.length = B.length) (hk : k < A.length) : (A.take k ++ B.drop k).getD k default = B.getD k default := by
  have h1 : (A.take k).length = k := by rw [List.length_take]; omega
  rw [List.getD_eq_getElem?_getD, List.getElem?_append_right (by omega), h1, Nat.sub_self, List.getElem?_drop, Nat.add_zero, List.getD_eq_getElem?_getD]
theorem compare_is {A B A2 B2 : Option Addr} {ca cb ca2 cb2 : Nat} (cs : List Cl) (hs : List Hd) (cs2 : List Cl) (hs2 : List Hd) (hca : cs.length ≤ ca) (hcb : hs.length ≤ cb) (ha : ∀ h ∈ hs, h.2.2.2.l.length ≤ 1000000) (hca2 : cs2.length ≤ ca2) (hcb2 : hs2.length ≤ cb2) (ha2 : ∀ h ∈ hs2, h.2.2.2.l.length ≤ 1000000) (h0 : checkT (trOf cs hs) = 0) (h02 : checkT (trOf cs2 hs2) = 0) {l : List Cl} (hl : compareT (trOf cs hs) (trOf cs2 hs2) = l) :
    Meets Try.prog F.trade_Compare [.agg #[.slice A cs.length ca, .slice B hs.length cb], .agg #[.slice A2 cs2.length ca2, .slice B2 hs2.length cb2]] { LI := [Row A (rows cs), RowsF B hs Hd.row, Row A2 (rows cs2), RowsF B2 hs2 Hd.row], inv := fun x : OutC => l.length ≤ x.2, val := fun x => .tuple #[.slice x.1 l.length x.2, int 0], LO := fun x => [Row x.1 (rows l)] } := by
  subst hl
  have h := trade_Compare_meets (A := A) (B := B) (A2 := A2) (B2 := B2) (ca := ca) (cb := cb) (ca2 := ca2) (cb2 := cb2) cs hs cs2 hs2 hca hcb ha hca2 hcb2 ha2
  rw [show compareE (trOf cs hs) (trOf cs2 hs2) = (compareT (trOf cs hs) (trOf cs2 hs2), 0) by unfold compareE; rw [if_neg (not_not_intro h0), if_neg (not_not_intro h02)]] at h
  exact h
theorem least_is {A B : Option Addr} {ca cb : Nat} (cs : List Cl) (hs : List Hd) (a b : Int) (hca : cs.length ≤ ca) (hcb : hs.length ≤ cb) (ha : ∀ h ∈ hs, h.2.2.2.l.length ≤ 1000000) (h0 : checkT (trOf cs hs) = 0) (hab : (0 ≤ a ∧ a ≤ (cs.length : Int) - 1) ∧ (0 ≤ b ∧ b ≤ (cs.length : Int) - 1)) : Meets Try.prog F.trade_Least [.agg #[.slice A cs.length ca, .slice B hs.length cb], int a, int b] { LI := [Row A (rows cs), RowsF B hs Hd.row], val := fun _ : Unit => .tuple #[int (leastT (trOf cs hs) a b), int 0] } := by
  have h := trade_Least_meets (A := A) (B := B) (ca := ca) (cb := cb) cs hs a b hca hcb ha
  rw [show leastE (trOf cs hs) a b = (leastT (trOf cs hs) a b, 0) by unfold leastE; rw [if_neg (not_not_intro h0), if_neg (not_not_intro hab)]] at h
  exact h
def hdX (hs : List Hd) (o : List Int) (k : Nat) : List PH := ((hs.map Hd.p).map (renP o)).take k ++ (hs.map Hd.p).drop k
def clsX (cs : List Cl) (o : List Int) (k : Nat) : List Cl := (renC cs o).take k ++ cs.drop k

set_option maxHeartbeats 2000000 in
theorem law04_TradeRenumbered_meets {A : Option Addr} {c0 : Nat} (nums : List Int) (hn : nums.length ≤ 9223372036854775807) : Meets Try.prog F.law04_TradeRenumbered [.slice A nums.length c0] { LI := [Row A (rows nums)], val := fun _ : Unit => .bool true } := by
 refine meets_intro F.law04_TradeRenumbered_f rfl (Nat.le_of_ble_eq_true rfl) fun w0 => ?_
 refine hc_seq ?_
 refine hc_region ?_
 refine r_assign rfl rfl ?_
 refine hl_nil ?_
 refine then_n ?_
 refine hc_seq ?_
 refine hc_region ?_
 refine r_move rfl rfl ?_
 refine hl_call F.kit_NewDice_cb rfl rfl (kit_NewDice_meets nums) (List.Perm.refl _) ⟨(by repeat constructor), trivial⟩ fun g _ => ?_
 refine r_assign rfl rfl ?_
 refine hl_nil ?_
 refine then_n ?_
 refine hc_seq ?_
 refine hc_region ?_
 refine r_move rfl rfl ?_
 refine hl_call F.kit_TradesOf_cb rfl rfl (kit_TradesOf_meets 6 6 hn (dok0 nums) (by decide) (by decide)) (List.Perm.refl _) ⟨(by repeat constructor), trivial⟩ fun x hx => ?_
 obtain ⟨sd, cs, hs, ⟨CA, ca⟩, ⟨HB, cb⟩⟩ := x
 obtain ⟨hsd, hT⟩ := hx
 have hca : cs.length ≤ ca := hT.ca
 have hcb : hs.length ≤ cb := hT.cb
 have ha : ∀ h ∈ hs, h.2.2.2.l.length ≤ 1000000 := hT.ha
 have hT0 : checkT (trOf cs hs) = 0 := hT.ok
 have hok : TrOK (trOf cs hs) := tr_ok hT0
 clear hT
 have h6 : cs.length ≤ 6 := hok.c6
 have h6h := hok.h6
 have hln := hs_len cs hs
 rw [hln] at h6h
 have hcl : ∀ i, i < cs.length → ClsOK cs i := hok.c
 refine r_alloc rfl (fun _ => T.al_api_Trades _) fun gT => ?_
 refine r_storeS (cs := #[.slice CA cs.length ca, .slice HB hs.length cb]) rfl rfl (.refl _) T.sz_api_Trades (by rfl) (by rfl) ?_
 refine hl_nil ?_
 refine then_n ?_
 refine hc_seq ?_
 refine hc_letgoB ?_
 refine hc_outerF (ps := hs) (A := HB) (f := Hd.row) (by repeat constructor) ?_
 refine hc_region ?_
 first | refine r_fieldAddr ⟨_, 0, none⟩ rfl rfl T.fa_api_Trades_0 rfl ?_ | refine r_fieldAddr _ rfl rfl T.fa_api_Trades_0 rfl ?_
 first | refine r_load rfl T.cell_L_api_Class rfl (cell_own (by repeat constructor) rfl) ?_ | refine r_load rfl T.cell_L_api_Class rfl (cell_blk (by repeat constructor) rfl) ?_ | refine r_load rfl T.cell_L_api_Class rfl (cell_row (by repeat constructor) (rows_get0 (by omega) rfl)) ?_ | refine r_load rfl T.cell_L_api_Class rfl (cell_row_f (by repeat constructor) (rows_get (by omega) rfl)) ?_ | refine r_load rfl T.cell_L_api_Class rfl (cell_rowg (by repeat constructor) rfl) ?_
 refine r_len_sl rfl T.u_L_api_Class rfl ?_
 refine r_assign rfl rfl ?_
 refine hl_nil ?_
 refine then_n ?_
 refine hc_seq ?_
 refine hc_region ?_
 refine r_assign rfl rfl ?_
 refine hl_nil ?_
 refine then_n ?_
 refine hc_seq ?_
 refine hc_region ?_
 refine r_move rfl rfl ?_
 refine r_move rfl rfl ?_
 refine hl_call F.kit_Dice_Order_cb rfl rfl (kit_Dice_Order_meets cs.length hn hsd (by omega)) (List.Perm.refl _) ⟨(by repeat constructor), trivial⟩ fun x hx => ?_
 obtain ⟨s1, od, oa, oc⟩ := x
 obtain ⟨hs1, hP, hoc⟩ := hx
 simp only at hP hoc
 have hol : od.length = cs.length := by rw [hP.length_eq, rng_len]
 refine r_assign rfl rfl ?_
 refine hl_nil ?_
 refine then_n ?_
 refine hc_seq ?_
 refine hc_block ?_
 refine hc_loop (β := List Int × OutC × Hp) ⟨fun x => OrdP cs x.1 ∧ Grow T.int 1 x.2.1.1 x.1.length x.2.1.2 (rows x.1) x.2.2, fun x => [(4, .pointer (some ⟨gT, 0, none⟩)), (5, int cs.length), (6, .slice x.2.1.1 x.1.length x.2.1.2), (7, .slice oa od.length oc)], fun x => x.2.2, fun _ => (Row oa (rows od) :: (Row HB (rows hs) :: [Blk gT (.cells #[.slice CA cs.length ca, .slice HB hs.length cb] T.api_Trades (0, 0)), Row CA (rows cs), RowsF HB hs Hd.row]))⟩ (fun x => cs.length - x.1.length) ([], (none, 0), []) ⟨OrdP.nil cs, Grow.nil _ _⟩ ⟨rfl, rfl, rfl, rfl, trivial⟩ (List.nil_sublist _) ⟨(by repeat constructor), (by repeat constructor), (by repeat constructor), (by repeat constructor), (by repeat constructor), trivial⟩ fun x hx => ?_
 obtain ⟨o, ⟨na, nc⟩, og⟩ := x
 obtain ⟨hO, hG⟩ := hx
 simp only at hO hG
 have hole := nodupI_le hO.nd hO.inr
 refine hc_seq ?_
 refine hc_seq ?_
 refine hc_region ?_
 refine r_move rfl rfl ?_
 refine r_len_sl rfl T.u_ints rfl ?_
 refine r_move rfl rfl ?_
 refine r_lss rfl rfl rfl ?_
 refine hl_nil ?_
 refine then_n ?_
 first | refine c_dec rfl (fun hb1 => ?_) (fun hb1 => ?_) | refine hc_cond rfl (fun hb1 => ?_) (fun hb1 => ?_)
 ·have hb1' := hb1; try simp at hb1'
  have hlt : o.length < cs.length := by omega
  refine hc_skip ?_
  refine then_n ?_
  refine hc_block ?_
  refine hc_seq ?_
  refine hc_region ?_
  refine r_assign rfl rfl ?_
  refine hl_nil ?_
  refine then_n ?_
  refine hc_block ?_
  refine hc_loop (β := Nat) ⟨fun k => k ≤ cs.length ∧ ∀ j, j < k → ¬ ElB cs o (od.getD j default).toNat, fun k => [(4, .pointer (some ⟨gT, 0, none⟩)), (5, int cs.length), (6, .slice na o.length nc), (7, .slice oa od.length oc), (8, int k)], fun _ => og, fun _ => (Row oa (rows od) :: (Row HB (rows hs) :: [Blk gT (.cells #[.slice CA cs.length ca, .slice HB hs.length cb] T.api_Trades (0, 0)), Row CA (rows cs), RowsF HB hs Hd.row]))⟩ (fun k => cs.length - k) 0 ⟨Nat.zero_le _, fun j hj => by omega⟩ ⟨rfl, rfl, rfl, rfl, rfl, trivial⟩ (List.Sublist.refl _) ⟨(by repeat constructor), (by repeat constructor), (by repeat constructor), (by repeat constructor), (by repeat constructor), trivial⟩ fun k hx => ?_
  obtain ⟨hk, hno⟩ := hx
  refine hc_seq ?_
  refine hc_seq ?_
  refine hc_region ?_
  refine r_move rfl rfl ?_
  refine r_move rfl rfl ?_
  refine r_lss rfl rfl rfl ?_
  refine hl_nil ?_
  refine then_n ?_
  first | refine c_dec rfl (fun hb2 => ?_) (fun hb2 => ?_) | refine hc_cond rfl (fun hb2 => ?_) (fun hb2 => ?_)
  ·have hb2' := hb2; try simp at hb2'
   have hk2 : k < cs.length := by omega
   have hkd : k < od.length := by omega
   have hcm : od.getD k default ∈ rngI cs.length := hP.mem_iff.1 (getD_mem hkd)
   obtain ⟨c, hcl0, hce⟩ : ∃ c : Nat, c < cs.length ∧ od.getD k default = (c : Int) := by
     unfold rngI at hcm
     obtain ⟨c, hc, e⟩ := List.mem_map.1 hcm
     exact ⟨c, List.mem_range.1 hc, e.symm⟩
   have hnk := fun h => hno k h
   refine hc_skip ?_
   refine then_n ?_
   refine hc_seq ?_
   refine hc_block ?_
   refine hc_seq ?_
   refine hc_region ?_
   refine r_move rfl rfl ?_
   refine r_move rfl rfl ?_
   refine r_elem (α := Int) od k rfl T.u_ints T.sz_int rfl rfl rfl (by repeat constructor) rfl hkd (by decide) ?_
   refine r_load (v := int (c : Int)) rfl T.cell_int rfl (cell_row (by repeat constructor) (rows_get0 hkd (by rw [hce]; rfl))) ?_
   refine r_assign rfl rfl ?_
   refine hl_nil ?_
   refine then_n ?_
   refine hc_cut ⟨fun b : Bool => b = true ↔ ElB cs o c, fun b => [(4, .pointer (some ⟨gT, 0, none⟩)), (5, int cs.length), (6, .slice na o.length nc), (7, .slice oa od.length oc), (8, int k), (9, int c), (67, .bool b)], fun _ => og, fun _ => (Row oa (rows od) :: (Row HB (rows hs) :: [Blk gT (.cells #[.slice CA cs.length ca, .slice HB hs.length cb] T.api_Trades (0, 0)), Row CA (rows cs), RowsF HB hs Hd.row]))⟩ ?_ ?_
   ·skip
    refine hc_region ?_
    refine r_move rfl rfl ?_
    refine r_move rfl rfl ?_
    refine hl_call F.kit_Index_cb rfl rfl (kit_Index_own o (c : Int) og hG (by omega) hO.nd) (hpR := []) (by first | (rw [List.append_nil]; done) | (rw [List.append_nil]; exact List.Perm.refl _)) trivial fun _ _ => ?_
    refine hl_perm (hp' := og) (by first | (rw [List.append_nil]; done) | (rw [List.append_nil]; exact List.Perm.refl _)) ?_
    refine r_lss rfl rfl rfl ?_
    refine r_move rfl rfl ?_
    refine g_split rfl rfl ?_ ?_
    ·intro hg1; have hg1' := hg1; try simp at hg1'
     have g5 : (c : Int) ∉ o := fun hm => by have h1 := (idx_in hm).1; have h2 := of_decide_eq_true (eq_of_beq hg1); omega
     refine g_yes rfl rfl hg1 ?_
     first | refine r_fieldAddr ⟨_, 0, none⟩ rfl rfl T.fa_api_Trades_0 rfl ?_ | refine r_fieldAddr _ rfl rfl T.fa_api_Trades_0 rfl ?_
     refine g_yes rfl rfl hg1 ?_
     first | refine r_load rfl T.cell_L_api_Class rfl (cell_own (by repeat constructor) rfl) ?_ | refine r_load rfl T.cell_L_api_Class rfl (cell_blk (by repeat constructor) rfl) ?_ | refine r_load rfl T.cell_L_api_Class rfl (cell_row (by repeat constructor) (rows_get0 (by omega) rfl)) ?_ | refine r_load rfl T.cell_L_api_Class rfl (cell_row_f (by repeat constructor) (rows_get (by omega) rfl)) ?_ | refine r_load rfl T.cell_L_api_Class rfl (cell_rowg (by repeat constructor) rfl) ?_
     refine g_yes rfl rfl hg1 ?_
     refine r_move rfl rfl ?_
     refine g_yes rfl rfl hg1 ?_
     refine r_elem (α := Cl) cs c rfl T.u_L_api_Class T.sz_api_Class rfl rfl rfl (by repeat constructor) rfl hcl0 (by decide) ?_
     refine g_yes rfl rfl hg1 ?_
     first | refine r_fieldAddr ⟨_, 1, none⟩ rfl rfl T.fa_api_Class_1 rfl ?_ | refine r_fieldAddr _ rfl rfl T.fa_api_Class_1 rfl ?_
     refine g_yes rfl rfl hg1 ?_
     refine r_load (v := int (cs.getD c default).2) rfl T.cell_int rfl (cell_row_f (by repeat constructor) (rows_get hcl0 rfl)) ?_
     refine g_yes rfl rfl hg1 ?_
     refine r_lss rfl rfl rfl ?_
     refine g_yes rfl rfl hg1 ?_
     refine r_move rfl rfl ?_
     refine g_split rfl rfl ?_ ?_
     ·intro hg2; have hg2' := hg2; try simp at hg2'
      have g13 : ¬ (cs.getD c default).2 < 0 := of_decide_eq_false (eq_of_beq hg2)
      refine g_yes rfl rfl hg2 ?_
      refine r_move rfl rfl ?_
      refine g_yes rfl rfl hg2 ?_
      first | refine r_fieldAddr ⟨_, 0, none⟩ rfl rfl T.fa_api_Trades_0 rfl ?_ | refine r_fieldAddr _ rfl rfl T.fa_api_Trades_0 rfl ?_
      refine g_yes rfl rfl hg2 ?_
      first | refine r_load rfl T.cell_L_api_Class rfl (cell_own (by repeat constructor) rfl) ?_ | refine r_load rfl T.cell_L_api_Class rfl (cell_blk (by repeat constructor) rfl) ?_ | refine r_load rfl T.cell_L_api_Class rfl (cell_row (by repeat constructor) (rows_get0 (by omega) rfl)) ?_ | refine r_load rfl T.cell_L_api_Class rfl (cell_row_f (by repeat constructor) (rows_get (by omega) rfl)) ?_ | refine r_load rfl T.cell_L_api_Class rfl (cell_rowg (by repeat constructor) rfl) ?_
      refine g_yes rfl rfl hg2 ?_
      refine r_move rfl rfl ?_
      refine g_yes rfl rfl hg2 ?_
      refine r_elem (α := Cl) cs c rfl T.u_L_api_Class T.sz_api_Class rfl rfl rfl (by repeat constructor) rfl hcl0 (by decide) ?_
      refine g_yes rfl rfl hg2 ?_
      first | refine r_fieldAddr ⟨_, 1, none⟩ rfl rfl T.fa_api_Class_1 rfl ?_ | refine r_fieldAddr _ rfl rfl T.fa_api_Class_1 rfl ?_
      refine g_yes rfl rfl hg2 ?_
      refine r_load (v := int (cs.getD c default).2) rfl T.cell_int rfl (cell_row_f (by repeat constructor) (rows_get hcl0 rfl)) ?_
      refine g_yes rfl rfl hg2 ?_
      refine hl_call F.kit_Index_cb rfl rfl (kit_Index_own o (cs.getD c default).2 og hG (by omega) hO.nd) (hpR := []) (by first | (rw [List.append_nil]; done) | (rw [List.append_nil]; exact List.Perm.refl _)) trivial fun _ _ => ?_
      refine hl_perm (hp' := og) (by first | (rw [List.append_nil]; done) | (rw [List.append_nil]; exact List.Perm.refl _)) ?_
      refine g_yes rfl rfl hg2 ?_
      refine r_geq rfl rfl rfl ?_
      refine g_yes rfl rfl hg1 ?_
      refine p_f rfl rfl (bf1 hg2) rfl ?_
      refine p_t rfl rfl (bt1 hg1) rfl ?_
      refine hl_nil ?_
      exact cut_n _ (decide (0 ≤ idx o (cs.getD c default).2)) (by show decide (0 ≤ idx o (cs.getD c default).2) = true ↔ ElB cs o c; rw [decide_eq_true_eq]; exact ⟨fun h => ⟨g5, .inr (Classical.byContradiction fun hm => by rw [idx_out hm] at h; omega)⟩, fun h => (idx_in (h.2.resolve_left g13)).1⟩) ⟨rfl, rfl, rfl, rfl, rfl, rfl, rfl, trivial⟩ (List.Sublist.refl _) ⟨(by repeat constructor), (by repeat constructor), (by repeat constructor), (by repeat constructor), (by repeat constructor), trivial⟩
     ·intro hg2; have hg2' := hg2; try simp at hg2'
      have g13 : (cs.getD c default).2 < 0 := Classical.byContradiction fun e => by rw [decide_eq_false e] at hg2; cases hg2
      refine g_no rfl rfl rfl rfl rfl hg2 ?_
      refine g_no rfl rfl rfl rfl rfl hg2 ?_
      refine g_no rfl rfl rfl rfl rfl hg2 ?_
      refine g_no rfl rfl rfl rfl rfl hg2 ?_
      refine g_no rfl rfl rfl rfl rfl hg2 ?_
      refine g_no rfl rfl rfl rfl rfl hg2 ?_
      refine g_no rfl rfl rfl rfl rfl hg2 ?_
      refine g_no rfl rfl rfl rfl rfl hg2 ?_
      refine g_no rfl rfl rfl rfl rfl hg2 ?_
      refine g_yes rfl rfl hg1 ?_
      refine p_t rfl rfl (bt2 hg2) rfl ?_
      refine p_t rfl rfl (bt1 hg1) rfl ?_
      refine hl_nil ?_
      exact cut_n _ true ⟨fun _ => ⟨g5, .inl g13⟩, fun _ => rfl⟩ ⟨rfl, rfl, rfl, rfl, rfl, rfl, rfl, trivial⟩ (List.Sublist.refl _) ⟨(by repeat constructor), (by repeat constructor), (by repeat constructor), (by repeat constructor), (by repeat constructor), trivial⟩
    ·intro hg1; have hg1' := hg1; try simp at hg1'
     have g5 : ¬ idx o (c : Int) < 0 := of_decide_eq_false (bf2 hg1)
     refine g_no rfl rfl rfl rfl rfl hg1 ?_
     refine g_no rfl rfl rfl rfl rfl hg1 ?_
     refine g_no rfl rfl rfl rfl rfl hg1 ?_
     refine g_no rfl rfl rfl rfl rfl hg1 ?_
     refine g_no rfl rfl rfl rfl rfl hg1 ?_
     refine g_no rfl rfl rfl rfl rfl hg1 ?_
     refine g_no rfl rfl rfl rfl rfl hg1 ?_
     refine g_no rfl rfl rfl rfl rfl hg1 ?_
     refine g_und rfl rfl rfl rfl rfl rfl ?_
     refine g_und rfl rfl rfl rfl rfl rfl ?_
     refine g_und rfl rfl rfl rfl rfl rfl ?_
     refine g_und rfl rfl rfl rfl rfl rfl ?_
     refine g_und rfl rfl rfl rfl rfl rfl ?_
     refine g_und rfl rfl rfl rfl rfl rfl ?_
     refine g_und rfl rfl rfl rfl rfl rfl ?_
     refine g_und rfl rfl rfl rfl rfl rfl ?_
     refine g_und rfl rfl rfl rfl rfl rfl ?_
     refine g_no rfl rfl rfl rfl rfl hg1 ?_
     refine p_f rfl rfl (bf2 hg1) rfl ?_
     refine hl_nil ?_
     exact cut_n _ false ⟨fun h => absurd h Bool.false_ne_true, fun h => absurd (show idx o (c : Int) < 0 by rw [idx_out h.1]; omega) g5⟩ ⟨rfl, rfl, rfl, rfl, rfl, rfl, rfl, trivial⟩ (List.Sublist.refl _) ⟨(by repeat constructor), (by repeat constructor), (by repeat constructor), (by repeat constructor), (by repeat constructor), trivial⟩
   ·intro b hb
    first | refine c_dec rfl (fun hb3 => ?_) (fun hb3 => ?_) | refine hc_cond rfl (fun hb3 => ?_) (fun hb3 => ?_)
    ·have hb3' := hb3; try simp at hb3'
     have hEl : ElB cs o c := hb.1 hb3
     refine hc_seq ?_
     refine hc_region ?_
     refine r_move rfl rfl ?_
     refine r_move rfl rfl ?_
     refine r_buildSlice _ rfl rfl (fun _ => T.bs_ints_1 ..) fun gS => ?_
     refine hl_letgo (rows [(c : Int)]) (List.prefix_refl _) ?_
     refine r_append (o.length + 1) (rows (o ++ [(c : Int)])) T.el_ints rfl rfl rfl hG (hp' := []) (by first | (rw [List.append_nil]; done) | (rw [List.append_nil]; exact List.Perm.refl _)) (Src.row (news := rows [(c : Int)]) (m := 1) m0 rfl (rows_one _) (by decide)) rfl (rows_append _ _).symm (by unfold maxLen; omega) (by omega) fun A' c' og' hG' => ?_
     refine r_assign rfl rfl ?_
     refine hl_nil ?_
     refine then_n ?_
     refine hc_exit ?_
     refine inb_miss rfl ?_
     refine then_exit ?_
     refine then_exit ?_
     refine inb_hit ?_
     refine inb_n ?_
     exact again _ (o ++ [(c : Int)], (A', c'), og') ⟨hO.snoc hcl0 hEl, by show Grow _ _ _ (o ++ [_]).length _ _ _; rw [List.length_append]; exact hG'⟩ (by show cs.length - (o ++ [_]).length < cs.length - o.length; rw [List.length_append, List.length_singleton]; omega) ⟨rfl, rfl, by show some (Value.slice A' (o.length + 1) c') = some (Value.slice A' (o ++ [_]).length c'); rw [List.length_append]; rfl, rfl, trivial⟩ (List.sublist_append_left _ _) ⟨(by repeat constructor), (by repeat constructor), (by repeat constructor), (by repeat constructor), (by repeat constructor), trivial⟩
    ·have hb3' := hb3; try simp at hb3'
     have hEl : ¬ ElB cs o c := fun h => by rw [hb.2 h] at hb3; cases hb3
     refine hc_skip ?_
     refine inb_n ?_
     refine then_n ?_
     refine hc_region ?_
     refine r_move rfl rfl ?_
     refine r_add _ rfl rfl rfl rfl (by unfold I64; omega) ?_
     refine r_assign rfl rfl ?_
     refine hl_nil ?_
     exact again _ (k + 1) ⟨by show k + 1 ≤ cs.length; omega, fun j hj => by rcases Nat.lt_or_ge j k with h1 | h1; exact hno j h1; rw [show j = k by omega, hce, Int.toNat_natCast]; exact hEl⟩ (by show cs.length - (k + 1) < cs.length - k; omega) ⟨rfl, rfl, rfl, rfl, rfl, trivial⟩ (List.Sublist.refl _) ⟨(by repeat constructor), (by repeat constructor), (by repeat constructor), (by repeat constructor), (by repeat constructor), trivial⟩
  ·exfalso; obtain ⟨c, hcl1, hE⟩ := el_ex hcl hO hlt
   have hcm : (c : Int) ∈ od := hP.mem_iff.2 (by unfold rngI; exact List.mem_map.2 ⟨c, List.mem_range.2 hcl1, rfl⟩)
   obtain ⟨j, hj, e⟩ := List.getElem_of_mem hcm
   refine hno j (by omega) ?_
   rw [getD_at hj, e, Int.toNat_natCast]
   exact hE
 ·have hb1' := hb1; try simp at hb1'
  have hOf := hO.full (show o.length = cs.length by omega)
  refine hc_exit ?_
  refine then_exit ?_
  refine then_exit ?_
  refine inb_hit ?_
  refine then_n ?_
  refine hc_seq ?_
  refine hc_grown0 hG ?_
  refine hc_region ?_
  first | refine r_loadA rfl T.row_api_Trades T.sz_api_Trades rfl (by repeat constructor) (by rfl) ?_ | refine r_loadB rfl T.row_api_Trades T.sz_api_Trades rfl (by repeat constructor) (by rfl) ?_ | refine r_loadS rfl T.row_api_Trades T.sz_api_Trades rfl rfl (cells_row (by repeat constructor) (rows_all (by omega))) ?_
  refine hl_call F.kit_DupTrades_cb rfl rfl (kit_DupTrades_meets cs hs h6 h6h hca hcb ha) (hpR := []) (List.Perm.refl _) ⟨(by repeat constructor), (by repeat constructor), trivial⟩ fun x hD => ?_
  obtain ⟨⟨⟨a3, c3⟩, o3⟩, hs2, ⟨⟨a7, c7⟩, o7⟩⟩ := x
  have hp2 : hs2.map Hd.p = hs.map Hd.p := hD.p
  have hDa : GrowE T.api_Class 2 a3 cs.length c3 (rows cs) o3 := hD.a
  have hDb : GrowE T.api_Head 4 a7 hs2.length c7 (rows hs2) o7 := hD.b
  have hl2 := p_len hp2
  clear hD
  refine r_alloc rfl (fun _ => T.al_api_Trades _) fun gU => ?_
  refine r_storeS (cs := #[.slice a3 cs.length c3, .slice a7 hs2.length c7]) rfl rfl (.refl _) T.sz_api_Trades (by rfl) (by rfl) ?_
  refine hl_nil ?_
  refine then_n ?_
  refine hc_seq ?_
  refine hc_seq ?_
  refine hc_letgoB ?_
  have hrl := renC_len hOf
  refine hc_region ?_
  refine r_assign rfl rfl ?_
  refine hl_nil ?_
  refine then_n ?_
  refine hc_block ?_
  refine hc_perm (show List.Perm ((o7 ++ o3) ++ []) (o3 ++ o7) from (perm_of fun p => by simp only [List.countP_append, List.countP_cons, List.countP_nil]; omega)) ?_
  refine hc_loop (β := Nat × Hp) ⟨fun x => x.1 ≤ cs.length ∧ GrowE T.api_Class 2 a3 cs.length c3 (rows (clsX cs o x.1)) x.2, fun x => [(4, .pointer (some ⟨gT, 0, none⟩)), (5, int cs.length), (6, .slice na o.length nc), (10, .pointer (some ⟨gU, 0, none⟩)), (11, int x.1)], fun x => x.2 ++ o7, fun _ => (Blk gU (.cells #[.slice a3 cs.length c3, .slice a7 hs2.length c7] T.api_Trades (0, 0)) :: Row na (rows o) :: innersF hs2 Hd.row :: (Row HB (rows hs) :: [Blk gT (.cells #[.slice CA cs.length ca, .slice HB hs.length cb] T.api_Trades (0, 0)), Row CA (rows cs), RowsF HB hs Hd.row]))⟩ (fun x => cs.length - x.1) (0, o3) ⟨Nat.zero_le _, hDa⟩ ⟨rfl, rfl, rfl, rfl, rfl, trivial⟩ (List.Sublist.refl _) ⟨(by repeat constructor), (by repeat constructor), (by repeat constructor), (by repeat constructor), (by repeat constructor), (by repeat constructor), (by repeat constructor), trivial⟩ fun x hx => ?_
  clear hDa
  obtain ⟨k, og3⟩ := x
  obtain ⟨hk, hG3⟩ := hx
  simp only at hk hG3
  refine hc_seq ?_
  refine hc_seq ?_
  refine hc_region ?_
  refine r_move rfl rfl ?_
  refine r_move rfl rfl ?_
  refine r_lss rfl rfl rfl ?_
  refine hl_nil ?_
  refine then_n ?_
  first | refine c_dec rfl (fun hb4 => ?_) (fun hb4 => ?_) | refine hc_cond rfl (fun hb4 => ?_) (fun hb4 => ?_)
  ·have hb4' := hb4; try simp at hb4'
   have hk2 : k < cs.length := by omega
   have hko : k < o.length := by have := hOf.len; omega
   obtain ⟨g3, cur, rfl, rfl, hc3l, hc3m, hcs3, hct⟩ := hG3.blk (by omega)
   clear hG3
   have hor := hOf.inr _ (getD_mem hko)
   obtain ⟨c, hce⟩ := Int.eq_ofNat_of_zero_le hor.1
   have hcl0 : c < cs.length := by omega
   have hrk := renC_at (cs := cs) hko
   rw [hce, Int.toNat_natCast] at hrk
   have hxl : (clsX cs o k).length = cs.length := by unfold clsX; rw [mix_len hrl (by omega), hrl]
   refine hc_skip ?_
   refine then_n ?_
   refine hc_seq ?_
   refine hc_block ?_
   refine hc_drawW (o7) ([(g3, Obj.cells cur T.api_Class (0, 0))]) (show List.Perm ([(g3, Obj.cells cur T.api_Class (0, 0))] ++ o7) (o7 ++ [(g3, Obj.cells cur T.api_Class (0, 0))]) from (perm_of fun p => by simp only [List.countP_append, List.countP_cons, List.countP_nil]; omega)) 24 [] mixed (by decide) (by decide) (by decide) rfl rfl rfl ?_
   apply hb_ex _ rfl rfl rfl
   ·intro w1
    first | refine r_fieldAddr ⟨_, 0, none⟩ rfl rfl T.fa_api_Trades_0 rfl ?_ | refine r_fieldAddr _ rfl rfl T.fa_api_Trades_0 rfl ?_
    refine hl_nil ?_
    exact qe_done rfl
   apply hb_ex _ rfl rfl rfl
   ·intro w1
    first | refine r_load rfl T.cell_L_api_Class rfl (cell_blk (by repeat constructor) rfl) ?_ | refine r_load rfl T.cell_L_api_Class rfl (cell_own (by repeat constructor) rfl) ?_ | refine r_load rfl T.cell_L_api_Class rfl (cell_row (by repeat constructor) (rows_get0 (by omega) rfl)) ?_ | refine r_load rfl T.cell_L_api_Class rfl (cell_row_f (by repeat constructor) (rows_get (by omega) rfl)) ?_ | refine r_load rfl T.cell_L_api_Class rfl (cell_rowg (by repeat constructor) rfl) ?_
    refine hl_nil ?_
    exact qe_done rfl
   apply hb_ex _ rfl rfl rfl
   ·intro w1
    refine r_move rfl rfl ?_
    refine hl_nil ?_
    exact qe_done rfl
   apply hb_ex _ rfl rfl rfl
   ·intro w1
    first | refine r_fieldAddr ⟨_, 0, none⟩ rfl rfl T.fa_api_Trades_0 rfl ?_ | refine r_fieldAddr _ rfl rfl T.fa_api_Trades_0 rfl ?_
    refine hl_nil ?_
    exact qe_done rfl
   apply hb_ex _ rfl rfl rfl
   ·intro w1
    first | refine r_load rfl T.cell_L_api_Class rfl (cell_blk (by repeat constructor) rfl) ?_ | refine r_load rfl T.cell_L_api_Class rfl (cell_own (by repeat constructor) rfl) ?_ | refine r_load rfl T.cell_L_api_Class rfl (cell_row (by repeat constructor) (rows_get0 (by omega) rfl)) ?_ | refine r_load rfl T.cell_L_api_Class rfl (cell_row_f (by repeat constructor) (rows_get (by omega) rfl)) ?_ | refine r_load rfl T.cell_L_api_Class rfl (cell_rowg (by repeat constructor) rfl) ?_
    refine hl_nil ?_
    exact qe_done rfl
   apply hb_ex _ rfl rfl rfl
   ·intro w1
    refine r_move rfl rfl ?_
    refine hl_nil ?_
    exact qe_done rfl
   apply hb_ex _ rfl rfl rfl
   ·intro w1
    refine r_move rfl rfl ?_
    refine hl_nil ?_
    exact qe_done rfl
   apply hb_ex _ rfl rfl rfl
   ·intro w1
    refine r_elem (α := Int) o k rfl T.u_ints T.sz_int rfl rfl rfl (by repeat constructor) rfl hko (by decide) ?_
    refine hl_nil ?_
    exact qe_done rfl
   apply hb_ex _ rfl rfl rfl
   ·intro w1
    refine r_load (v := int (c : Int)) rfl T.cell_int rfl (cell_row (by repeat constructor) (rows_get0 hko (by rw [hce]; rfl))) ?_
    refine hl_nil ?_
    exact qe_done rfl
   apply hb_ex _ rfl rfl rfl
   ·intro w1
    refine r_elem (α := Cl) cs c rfl T.u_L_api_Class T.sz_api_Class rfl rfl rfl (by repeat constructor) rfl hcl0 (by decide) ?_
    refine hl_nil ?_
    exact qe_done rfl
   apply hb_ex _ rfl rfl rfl
   ·intro w1
    first | refine r_fieldAddr ⟨_, 0, none⟩ rfl rfl T.fa_api_Class_0 rfl ?_ | refine r_fieldAddr _ rfl rfl T.fa_api_Class_0 rfl ?_
    refine hl_nil ?_
    exact qe_done rfl
   apply hb_ex _ rfl rfl rfl
   ·intro w1
    refine r_load (v := str (cs.getD c default).1) rfl T.cell_string rfl (cell_row_f (by repeat constructor) (rows_get hcl0 rfl)) ?_
    refine hl_nil ?_
    exact qe_done rfl
   apply hb_ex _ rfl rfl rfl
   ·intro w1
    refine r_move rfl rfl ?_
    refine hl_nil ?_
    exact qe_done rfl
   apply hb_ex _ rfl rfl rfl
   ·intro w1
    first | refine r_fieldAddr ⟨_, 0, none⟩ rfl rfl T.fa_api_Trades_0 rfl ?_ | refine r_fieldAddr _ rfl rfl T.fa_api_Trades_0 rfl ?_
    refine hl_nil ?_
    exact qe_done rfl
   apply hb_ex _ rfl rfl rfl
   ·intro w1
    first | refine r_load rfl T.cell_L_api_Class rfl (cell_blk (by repeat constructor) rfl) ?_ | refine r_load rfl T.cell_L_api_Class rfl (cell_own (by repeat constructor) rfl) ?_ | refine r_load rfl T.cell_L_api_Class rfl (cell_row (by repeat constructor) (rows_get0 (by omega) rfl)) ?_ | refine r_load rfl T.cell_L_api_Class rfl (cell_row_f (by repeat constructor) (rows_get (by omega) rfl)) ?_ | refine r_load rfl T.cell_L_api_Class rfl (cell_rowg (by repeat constructor) rfl) ?_
    refine hl_nil ?_
    exact qe_done rfl
   apply hb_ex _ rfl rfl rfl
   ·intro w1
    refine r_move rfl rfl ?_
    refine hl_nil ?_
    exact qe_done rfl
   apply hb_ex _ rfl rfl rfl
   ·intro w1
    refine r_move rfl rfl ?_
    refine hl_nil ?_
    exact qe_done rfl
   apply hb_ex _ rfl rfl rfl
   ·intro w1
    refine r_elem (α := Int) o k rfl T.u_ints T.sz_int rfl rfl rfl (by repeat constructor) rfl hko (by decide) ?_
    refine hl_nil ?_
    exact qe_done rfl
   apply hb_ex _ rfl rfl rfl
   ·intro w1
    refine r_load (v := int (c : Int)) rfl T.cell_int rfl (cell_row (by repeat constructor) (rows_get0 hko (by rw [hce]; rfl))) ?_
    refine hl_nil ?_
    exact qe_done rfl
   apply hb_ex _ rfl rfl rfl
   ·intro w1
    refine r_elem (α := Cl) cs c rfl T.u_L_api_Class T.sz_api_Class rfl rfl rfl (by repeat constructor) rfl hcl0 (by decide) ?_
    refine hl_nil ?_
    exact qe_done rfl
   apply hb_ex _ rfl rfl rfl
   ·intro w1
    first | refine r_fieldAddr ⟨_, 1, none⟩ rfl rfl T.fa_api_Class_1 rfl ?_ | refine r_fieldAddr _ rfl rfl T.fa_api_Class_1 rfl ?_
    refine hl_nil ?_
    exact qe_done rfl
   apply hb_ex _ rfl rfl rfl
   ·intro w1
    refine r_load (v := int (cs.getD c default).2) rfl T.cell_int rfl (cell_row_f (by repeat constructor) (rows_get hcl0 rfl)) ?_
    refine hl_nil ?_
    exact qe_done rfl
   apply hb_ex _ rfl rfl rfl
   ·intro w1
    refine hl_call F.kit_Index_cb rfl rfl (kit_Index_is o (cs.getD c default).2 (by omega) hOf.nd) (List.Perm.refl _) ⟨(by repeat constructor), trivial⟩ fun _ _ => ?_
    refine hl_nil ?_
    exact qe_done rfl
   apply hb_ex _ rfl rfl rfl
   ·intro w1
    refine r_build [(0, str (cs.getD c default).1), (1, int (idx o (cs.getD c default).2))] rfl rfl (fun _ => T.bd_api_Class_0_1 ..) ?_
    refine hl_nil ?_
    exact qe_done rfl
   refine hb_nil ⟨rfl, ?_⟩
   refine r_indexAddr_own k (0 + k * 2) rfl T.u_L_api_Class T.sz_api_Class rfl rfl rfl hk2 rfl ?_
   refine r_storeR (cs := #[str (cs.getD c default).1, int (idx o (cs.getD c default).2)]) rfl rfl (show List.Perm (o7 ++ [(g3, Obj.cells cur T.api_Class (0, 0))]) ((g3, Obj.cells cur T.api_Class (0, 0)) :: o7) from (perm_of fun p => by simp only [List.countP_append, List.countP_cons, List.countP_nil]; omega)) T.sz_api_Class (by show 0 + k * 2 + 2 ≤ cur.size; omega) (by rfl) ?_
   refine hl_nil ?_
   refine inb_n ?_
   refine then_n ?_
   refine hc_region ?_
   refine r_move rfl rfl ?_
   refine r_add _ rfl rfl rfl rfl (by unfold I64; omega) ?_
   refine r_assign rfl rfl ?_
   refine hl_nil ?_
   exact again _ (k + 1, [(g3, Obj.cells (cur.toList.take (0 + k * 2) ++ [str (cs.getD c default).1, int (idx o (cs.getD c default).2)] ++ cur.toList.drop (0 + k * 2 + 2)).toArray T.api_Class (0, 0))]) ⟨by show k + 1 ≤ cs.length; omega, by
     have hs3 := take_setR (α := Cl) (a := (renC cs o).getD k default) (k := k) (cap := c3) (l := clsX cs o k) (cur := cur) (by omega) (by omega) hcs3 (by rw [hxl]; exact hct)
     have hm : (clsX cs o k).set k ((renC cs o).getD k default) = clsX cs o (k + 1) := mix_set hrl (by omega)
     have hm2 : (clsX cs o (k + 1)).length = cs.length := by unfold clsX; rw [mix_len hrl (by omega), hrl]
     rw [hm, hm2, hrk] at hs3
     show GrowE _ _ _ _ _ (rows (clsX cs o (k + 1))) _
     rw [Nat.zero_add]
     exact .inl ⟨by rw [rows_len, hm2]; rfl, .inr ⟨g3, _, rfl, rfl, hc3l, hc3m, by rw [List.size_toArray]; exact hs3.2, hs3.1⟩⟩⟩ (by show cs.length - (k + 1) < cs.length - k; omega) ⟨rfl, rfl, rfl, rfl, rfl, trivial⟩ (List.Sublist.refl _) ⟨(by repeat constructor), (by repeat constructor), (by repeat constructor), (by repeat constructor), (by repeat constructor), (by repeat constructor), (by repeat constructor), trivial⟩
  ·have hb4' := hb4; try simp at hb4'
   obtain rfl : k = cs.length := by omega
   refine hc_exit ?_
   refine then_exit ?_
   refine then_exit ?_
   refine inb_hit ?_
   refine then_n ?_
   refine hc_seq ?_
   refine hc_seq ?_
   refine hc_region ?_
   refine r_assign rfl rfl ?_
   refine hl_nil ?_
   refine then_n ?_
   refine hc_block ?_
   refine hc_perm (show List.Perm (og3 ++ o7) (o7 ++ og3) from (perm_of fun p => by simp only [List.countP_append, List.countP_cons, List.countP_nil]; omega)) ?_
   refine hc_loop (β := Nat × List Hd × Hp) ⟨fun x => x.1 ≤ hs.length ∧ x.2.1.map Hd.p = hdX hs o x.1 ∧ x.2.1.length = hs.length ∧ GrowE T.api_Head 4 a7 x.2.1.length c7 (rows x.2.1) x.2.2, fun x => [(4, .pointer (some ⟨gT, 0, none⟩)), (5, int cs.length), (6, .slice na o.length nc), (10, .pointer (some ⟨gU, 0, none⟩)), (12, int x.1)], fun x => x.2.2 ++ og3, fun x => (Blk gU (.cells #[.slice a3 cs.length c3, .slice a7 hs2.length c7] T.api_Trades (0, 0)) :: Row na (rows o) :: innersF x.2.1 Hd.row :: (Row HB (rows hs) :: [Blk gT (.cells #[.slice CA cs.length ca, .slice HB hs.length cb] T.api_Trades (0, 0)), Row CA (rows cs), RowsF HB hs Hd.row]))⟩ (fun x => hs.length - x.1) (0, hs2, o7) ⟨Nat.zero_le _, hp2, hl2, hDb⟩ ⟨rfl, rfl, rfl, rfl, rfl, trivial⟩ (List.Sublist.refl _) ⟨(by repeat constructor), (by repeat constructor), (by repeat constructor), (by repeat constructor), (by repeat constructor), (by repeat constructor), (by repeat constructor), trivial⟩ fun x hxx => ?_
   clear hDb
   obtain ⟨k, hx, og7⟩ := x
   obtain ⟨hk, hpx, hxl, hG7⟩ := hxx
   simp only at hk hpx hxl hG7
   refine hc_seq ?_
   refine hc_seq ?_
   refine hc_region ?_
   refine r_move rfl rfl ?_
   first | refine r_fieldAddr ⟨_, 1, none⟩ rfl rfl T.fa_api_Trades_1 rfl ?_ | refine r_fieldAddr _ rfl rfl T.fa_api_Trades_1 rfl ?_
   first | refine r_load rfl T.cell_L_api_Head rfl (cell_own (by repeat constructor) rfl) ?_ | refine r_load rfl T.cell_L_api_Head rfl (cell_blk (by repeat constructor) rfl) ?_ | refine r_load rfl T.cell_L_api_Head rfl (cell_row (by repeat constructor) (rows_get0 (by omega) rfl)) ?_ | refine r_load rfl T.cell_L_api_Head rfl (cell_row_f (by repeat constructor) (rows_get (by omega) rfl)) ?_ | refine r_load rfl T.cell_L_api_Head rfl (cell_rowg (by repeat constructor) rfl) ?_
   refine r_len_sl rfl T.u_L_api_Head rfl ?_
   refine r_lss rfl rfl rfl ?_
   refine hl_nil ?_
   refine then_n ?_
   first | refine c_dec rfl (fun hb5 => ?_) (fun hb5 => ?_) | refine hc_cond rfl (fun hb5 => ?_) (fun hb5 => ?_)
   ·have hb5' := hb5; try simp at hb5'
    have hk2 : k < hs.length := by omega
    have hk3 : k < hx.length := by omega
    obtain ⟨g7, cur, rfl, rfl, hc7l, hc7m, hcs7, hct⟩ := hG7.blk (by omega)
    clear hG7
    have hpl : ((hs.map Hd.p).map (renP o)).length = (hs.map Hd.p).length := List.length_map ..
    have hpk : (hx.getD k default).p = (hs.getD k default).p := by
      have h1 : (hx.map Hd.p).getD k default = (hs.map Hd.p).getD k default := by rw [hpx]; exact mix_get hpl (by rw [List.length_map, List.length_map]; exact hk2)
      rw [hd_get hk3, hd_get hk2] at h1
      exact h1
    refine hc_skip ?_
    refine then_n ?_
    refine hc_seq ?_
    refine hc_block ?_
    refine hc_drawW (og3) ([(g7, Obj.cells cur T.api_Head (0, 0))]) (show List.Perm ([(g7, Obj.cells cur T.api_Head (0, 0))] ++ og3) (og3 ++ [(g7, Obj.cells cur T.api_Head (0, 0))]) from (perm_of fun p => by simp only [List.countP_append, List.countP_cons, List.countP_nil]; omega)) 11 [] mixed (by decide) (by decide) (by decide) rfl rfl rfl ?_
    apply hb_ex _ rfl rfl rfl
    ·intro w1
     first | refine r_fieldAddr ⟨_, 1, none⟩ rfl rfl T.fa_api_Trades_1 rfl ?_ | refine r_fieldAddr _ rfl rfl T.fa_api_Trades_1 rfl ?_
     refine hl_nil ?_
     exact qe_done rfl
    apply hb_ex _ rfl rfl rfl
    ·intro w1
     first | refine r_load rfl T.cell_L_api_Head rfl (cell_blk (by repeat constructor) rfl) ?_ | refine r_load rfl T.cell_L_api_Head rfl (cell_own (by repeat constructor) rfl) ?_ | refine r_load rfl T.cell_L_api_Head rfl (cell_row (by repeat constructor) (rows_get0 (by omega) rfl)) ?_ | refine r_load rfl T.cell_L_api_Head rfl (cell_row_f (by repeat constructor) (rows_get (by omega) rfl)) ?_ | refine r_load rfl T.cell_L_api_Head rfl (cell_rowg (by repeat constructor) rfl) ?_
     refine hl_nil ?_
     exact qe_done rfl
    apply hb_ex _ rfl rfl rfl
    ·intro w1
     refine r_move rfl rfl ?_
     refine hl_nil ?_
     exact qe_done rfl
    apply hb_ex _ rfl rfl rfl
    ·intro w1
     refine r_move rfl rfl ?_
     refine hl_nil ?_
     exact qe_done rfl
    apply hb_ex _ rfl rfl rfl
    ·intro w1
     first | refine r_fieldAddr ⟨_, 1, none⟩ rfl rfl T.fa_api_Trades_1 rfl ?_ | refine r_fieldAddr _ rfl rfl T.fa_api_Trades_1 rfl ?_
     refine hl_nil ?_
     exact qe_done rfl
    apply hb_ex _ rfl rfl rfl
    ·intro w1
     first | refine r_load rfl T.cell_L_api_Head rfl (cell_blk (by repeat constructor) rfl) ?_ | refine r_load rfl T.cell_L_api_Head rfl (cell_own (by repeat constructor) rfl) ?_ | refine r_load rfl T.cell_L_api_Head rfl (cell_row (by repeat constructor) (rows_get0 (by omega) rfl)) ?_ | refine r_load rfl T.cell_L_api_Head rfl (cell_row_f (by repeat constructor) (rows_get (by omega) rfl)) ?_ | refine r_load rfl T.cell_L_api_Head rfl (cell_rowg (by repeat constructor) rfl) ?_
     refine hl_nil ?_
     exact qe_done rfl
    apply hb_ex _ rfl rfl rfl
    ·intro w1
     refine r_move rfl rfl ?_
     refine hl_nil ?_
     exact qe_done rfl
    apply hb_ex _ rfl rfl rfl
    ·intro w1
     refine r_elem (α := Hd) hs k rfl T.u_L_api_Head T.sz_api_Head rfl rfl rfl (by repeat constructor) rfl hk2 (by decide) ?_
     refine hl_nil ?_
     exact qe_done rfl
    apply hb_ex _ rfl rfl rfl
    ·intro w1
     first | refine r_fieldAddr ⟨_, 1, none⟩ rfl rfl T.fa_api_Head_1 rfl ?_ | refine r_fieldAddr _ rfl rfl T.fa_api_Head_1 rfl ?_
     refine hl_nil ?_
     exact qe_done rfl
    apply hb_ex _ rfl rfl rfl
    ·intro w1
     refine r_load (v := int (hs.getD k default).2.1) rfl T.cell_int rfl (cell_row_f (by repeat constructor) (rows_get hk2 rfl)) ?_
     refine hl_nil ?_
     exact qe_done rfl
    apply hb_ex _ rfl rfl rfl
    ·intro w1
     refine hl_call F.kit_Index_cb rfl rfl (kit_Index_is o (hs.getD k default).2.1 (by omega) hOf.nd) (List.Perm.refl _) ⟨(by repeat constructor), trivial⟩ fun _ _ => ?_
     refine hl_nil ?_
     exact qe_done rfl
    refine hb_nil ⟨rfl, ?_⟩
    refine r_indexAddr_own k (0 + k * 4) rfl T.u_L_api_Head T.sz_api_Head rfl rfl rfl (by omega) rfl ?_
    first | refine r_fieldAddr ⟨_, 1, none⟩ rfl rfl T.fa_api_Head_1 rfl ?_ | refine r_fieldAddr _ rfl rfl T.fa_api_Head_1 rfl ?_
    refine r_store rfl rfl (show List.Perm (og3 ++ [(g7, Obj.cells cur T.api_Head (0, 0))]) ((g7, Obj.cells cur T.api_Head (0, 0)) :: og3) from (perm_of fun p => by simp only [List.countP_append, List.countP_cons, List.countP_nil]; omega)) T.sz_int (own_f (α := Hd) (f := 1) hct hk3 (by rw [Nat.zero_add]; rfl) rfl) (by rfl) ?_
    refine hl_nil ?_
    refine inb_n ?_
    refine then_n ?_
    refine hc_region ?_
    refine r_move rfl rfl ?_
    refine r_add _ rfl rfl rfl rfl (by unfold I64; omega) ?_
    refine r_assign rfl rfl ?_
    refine hl_nil ?_
    refine hq_pick (F := Hd.row (hx.getD k default)) (Fs := hx.map Hd.row) (by repeat constructor) (List.mem_map.2 ⟨_, getD_mem hk3, rfl⟩) ?_
    refine hq_facts (Fs := (hx.set k ((hx.getD k default).1, idx o (hs.getD k default).2.1, (hx.getD k default).2.2.1, (hx.getD k default).2.2.2)).map Hd.row) (innerF_set (p := ((hx.getD k default).1, idx o (hs.getD k default).2.1, (hx.getD k default).2.2.1, (hx.getD k default).2.2.2)) (by repeat constructor) (by repeat constructor)) ?_
    exact again _ (k + 1, hx.set k ((hx.getD k default).1, idx o (hs.getD k default).2.1, (hx.getD k default).2.2.1, (hx.getD k default).2.2.2), [(g7, Obj.cells (cur.setIfInBounds (0 + k * 4 + 1) (int (idx o (hs.getD k default).2.1))) T.api_Head (0, 0))]) ⟨by show k + 1 ≤ hs.length; omega, by
      show (hx.set k _).map Hd.p = hdX hs o (k + 1)
      rw [List.map_set, hpx]
      have h2 := mix_set (k := k) hpl (by rw [List.length_map, List.length_map]; exact hk2)
      rw [renP_at (by rw [List.length_map]; exact hk2), hd_get hk2] at h2
      have e : Hd.p ((hx.getD k default).1, idx o (hs.getD k default).2.1, (hx.getD k default).2.2.1, (hx.getD k default).2.2.2) = renP o (hs.getD k default).p := by
        show ((hx.getD k default).1, idx o (hs.getD k default).2.1, (hx.getD k default).2.2.1, (hx.getD k default).2.2.2.l) = ((hs.getD k default).p.1, idx o (hs.getD k default).2.1, (hs.getD k default).p.2.2.1, (hs.getD k default).p.2.2.2)
        rw [← hpk]
        rfl
      rw [e]
      exact h2, by show (hx.set k _).length = hs.length; rw [List.length_set]; exact hxl, .inl ⟨by rw [rows_len]; rfl, .inr ⟨g7, _, rfl, rfl, by show (hx.set k _).length ≤ c7; rw [List.length_set]; exact hc7l, hc7m, by rw [Array.size_setIfInBounds]; exact hcs7, by rw [Nat.zero_add]; exact take_setf (α := Hd) (f := 1) (by decide) hk3 rfl hct⟩⟩⟩ (by show hs.length - (k + 1) < hs.length - k; omega) ⟨rfl, rfl, rfl, rfl, rfl, trivial⟩ (List.Sublist.refl _) ⟨(by repeat constructor), (by repeat constructor), (by repeat constructor), (by repeat constructor), (by repeat constructor), (by repeat constructor), (by repeat constructor), trivial⟩
   ·have hb5' := hb5; try simp at hb5'
    obtain rfl : k = hs.length := by omega
    refine hc_exit ?_
    refine then_exit ?_
    refine then_exit ?_
    refine inb_hit ?_
    refine then_n ?_
    refine hc_seq ?_
    have hc32 : (renC cs o).length ≤ c3 := by rw [hrl]; exact hG3.le
    have hc72 : hx.length ≤ c7 := hG7.le
    refine hc_grownE hG7 ?_
    refine hc_perm (hp' := og3 ++ []) (by rw [List.append_nil]) ?_
    refine hc_grownE hG3 ?_
    have hcx : clsX cs o cs.length = renC cs o := by unfold clsX; rw [List.take_of_length_le (by omega), List.drop_length, List.append_nil]
    rw [hcx]
    refine hc_rowsF (A := a7) (ps := hx) (f := Hd.row) (by repeat constructor) (by repeat constructor) ?_
    have hpm : hx.map Hd.p = (hs.map Hd.p).map (renP o) := by rw [hpx]; unfold hdX; rw [List.take_of_length_le (by simp), List.drop_of_length_le (by simp), List.append_nil]
    have hTr : trOf (renC cs o) hx = renT (trOf cs hs) o := by show Tr.mk _ (hx.map Hd.p) = Tr.mk _ ((hs.map Hd.p).map (renP o)); rw [hpm]
    have hT2 : checkT (trOf (renC cs o) hx) = 0 := by rw [hTr]; exact tr_mk (ren_ok hok hOf)
    have hcmp : compareT (trOf cs hs) (trOf (renC cs o) hx) = [] := by rw [hTr]; exact ren_compare hok hOf
    have ha2 : ∀ h ∈ hx, h.2.2.2.l.length ≤ 1000000 := fun h hh => by
      have h1 : h.p ∈ hx.map Hd.p := List.mem_map.2 ⟨h, hh, rfl⟩
      rw [hpm] at h1
      obtain ⟨y, hy, e⟩ := List.mem_map.1 h1
      obtain ⟨q, hq, rfl⟩ := List.mem_map.1 hy
      rw [show h.2.2.2.l = q.2.2.2.l from (congrArg (fun z : PH => z.2.2.2) e).symm]
      exact ha q hq
    refine hc_region ?_
    first | refine r_loadA rfl T.row_api_Trades T.sz_api_Trades rfl (by repeat constructor) (by rfl) ?_ | refine r_loadB rfl T.row_api_Trades T.sz_api_Trades rfl (by repeat constructor) (by rfl) ?_ | refine r_loadS rfl T.row_api_Trades T.sz_api_Trades rfl rfl (cells_row (by repeat constructor) (rows_all (by omega))) ?_
    first | refine r_loadA rfl T.row_api_Trades T.sz_api_Trades rfl (by repeat constructor) (by rfl) ?_ | refine r_loadB rfl T.row_api_Trades T.sz_api_Trades rfl (by repeat constructor) (by rfl) ?_ | refine r_loadS rfl T.row_api_Trades T.sz_api_Trades rfl rfl (cells_row (by repeat constructor) (rows_all (by omega))) ?_
    refine hl_call (vs := [.agg #[.slice CA cs.length ca, .slice HB hs.length cb], .agg #[.slice a3 (renC cs o).length c3, .slice a7 hx.length c7]]) F.trade_Compare_cb rfl (by rw [hrl, hxl, ← hl2]; rfl) (compare_is cs hs (renC cs o) hx hca hcb ha hc32 hc72 ha2 hT0 hT2 hcmp) (List.Perm.refl _) ⟨(by repeat constructor), (by repeat constructor), (by repeat constructor), (by repeat constructor), trivial⟩ fun y hy => ?_
    refine r_move rfl rfl ?_
    refine r_extract rfl rfl rfl ?_
    refine r_extract rfl rfl rfl ?_
    refine r_assign rfl rfl ?_
    refine r_assign rfl rfl ?_
    refine hl_nil ?_
    refine then_n ?_
    refine hc_seq ?_
    refine hc_seq ?_
    refine hc_region ?_
    refine r_move rfl rfl ?_
    refine r_neq rfl rfl rfl ?_
    refine r_move rfl rfl ?_
    refine g_split rfl rfl ?_ ?_
    ·intro hg3; have hg3' := hg3; try simp at hg3'
     refine g_yes rfl rfl hg3 ?_
     refine r_move rfl rfl ?_
     refine g_yes rfl rfl hg3 ?_
     refine r_len_sl rfl T.u_L_api_Move rfl ?_
     refine g_yes rfl rfl hg3 ?_
     refine r_gtr rfl rfl rfl ?_
     refine p_f rfl rfl (bf1 hg3) rfl ?_
     refine hl_nil ?_
     refine then_n ?_
     first | refine c_dec rfl (fun hb6 => ?_) (fun hb6 => ?_) | refine hc_cond rfl (fun hb6 => ?_) (fun hb6 => ?_)
     ·have hb6' := hb6; try simp at hb6'
     ·have hb6' := hb6; try simp at hb6'
      refine hc_skip ?_
      refine then_n ?_
      refine hc_seq ?_
      refine hc_seq ?_
      refine hc_region ?_
      refine r_assign rfl rfl ?_
      refine hl_nil ?_
      refine then_n ?_
      refine hc_block ?_
      refine hc_loop (β := Nat) ⟨fun i => i ≤ cs.length, fun i => [(4, .pointer (some ⟨gT, 0, none⟩)), (5, int cs.length), (6, .slice na o.length nc), (10, .pointer (some ⟨gU, 0, none⟩)), (15, int i)], fun _ => [], fun _ => [Blk gT (.cells #[.slice CA cs.length ca, .slice HB hs.length cb] T.api_Trades (0, 0)), Blk gU (.cells #[.slice a3 cs.length c3, .slice a7 hs2.length c7] T.api_Trades (0, 0)), Row na (rows o), Row CA (rows cs), RowsF HB hs Hd.row, Row a3 (rows (renC cs o)), RowsF a7 hx Hd.row]⟩ (fun i => cs.length - i) 0 (Nat.zero_le _) ⟨rfl, rfl, rfl, rfl, rfl, trivial⟩ (List.nil_sublist _) ⟨(by repeat constructor), (by repeat constructor), (by repeat constructor), (by repeat constructor), (by repeat constructor), (by repeat constructor), (by repeat constructor), trivial⟩ fun i hi => ?_
      simp only at hi
      refine hc_seq ?_
      refine hc_seq ?_
      refine hc_region ?_
      refine r_move rfl rfl ?_
      refine r_move rfl rfl ?_
      refine r_lss rfl rfl rfl ?_
      refine hl_nil ?_
      refine then_n ?_
      first | refine c_dec rfl (fun hb7 => ?_) (fun hb7 => ?_) | refine hc_cond rfl (fun hb7 => ?_) (fun hb7 => ?_)
      ·have hb7' := hb7; try simp at hb7'
       have hi2 : i < cs.length := by omega
       have hool := hOf.len
       have hio : i < o.length := by omega
       refine hc_skip ?_
       refine then_n ?_
       refine hc_seq ?_
       refine hc_block ?_
       refine hc_seq ?_
       refine hc_region ?_
       refine r_assign rfl rfl ?_
       refine hl_nil ?_
       refine then_n ?_
       refine hc_block ?_
       refine hc_loop (β := Nat) ⟨fun j => j ≤ cs.length, fun j => [(4, .pointer (some ⟨gT, 0, none⟩)), (5, int cs.length), (6, .slice na o.length nc), (10, .pointer (some ⟨gU, 0, none⟩)), (15, int i), (16, int j)], fun _ => [], fun _ => [Blk gT (.cells #[.slice CA cs.length ca, .slice HB hs.length cb] T.api_Trades (0, 0)), Blk gU (.cells #[.slice a3 cs.length c3, .slice a7 hs2.length c7] T.api_Trades (0, 0)), Row na (rows o), Row CA (rows cs), RowsF HB hs Hd.row, Row a3 (rows (renC cs o)), RowsF a7 hx Hd.row]⟩ (fun j => cs.length - j) 0 (Nat.zero_le _) ⟨rfl, rfl, rfl, rfl, rfl, rfl, trivial⟩ (List.nil_sublist _) ⟨(by repeat constructor), (by repeat constructor), (by repeat constructor), (by repeat constructor), (by repeat constructor), (by repeat constructor), (by repeat constructor), trivial⟩ fun j hj => ?_
       simp only at hj
       refine hc_seq ?_
       refine hc_seq ?_
       refine hc_region ?_
       refine r_move rfl rfl ?_
       refine r_move rfl rfl ?_
       refine r_lss rfl rfl rfl ?_
       refine hl_nil ?_
       refine then_n ?_
       first | refine c_dec rfl (fun hb8 => ?_) (fun hb8 => ?_) | refine hc_cond rfl (fun hb8 => ?_) (fun hb8 => ?_)
       ·have hb8' := hb8; try simp at hb8'
        have hj2 : j < cs.length := by omega
        have hjo : j < o.length := by omega
        have hia := hOf.inr _ (getD_mem hio)
        have hja := hOf.inr _ (getD_mem hjo)
        have hls : leastT (trOf (renC cs o) hx) (i : Int) (j : Int) = idx o (leastT (trOf cs hs) (o.getD i default) (o.getD j default)) := by
          have h9 := ren_least hcl hOf (hs := hs.map Hd.p) (hs' := hx.map Hd.p) (getD_mem hio) (getD_mem hjo)
          rw [idx_pos hOf.nd hio, idx_pos hOf.nd hjo] at h9
          exact h9
        refine hc_skip ?_
        refine then_n ?_
        refine hc_seq ?_
        refine hc_block ?_
        refine hc_seq ?_
        refine hc_draw 14 mixed (by decide) (by decide) rfl rfl ?_
        apply hb_ex _ rfl rfl rfl
        ·intro w1
         first | refine r_loadA rfl T.row_api_Trades T.sz_api_Trades rfl (by repeat constructor) (by rfl) ?_ | refine r_loadB rfl T.row_api_Trades T.sz_api_Trades rfl (by repeat constructor) (by rfl) ?_ | refine r_loadS rfl T.row_api_Trades T.sz_api_Trades rfl rfl (cells_row (by repeat constructor) (rows_all (by omega))) ?_
         refine hl_nil ?_
         exact qe_done rfl
        apply hb_ex _ rfl rfl rfl
        ·intro w1
         refine r_move rfl rfl ?_
         refine hl_nil ?_
         exact qe_done rfl
        apply hb_ex _ rfl rfl rfl
        ·intro w1
         refine r_move rfl rfl ?_
         refine hl_nil ?_
         exact qe_done rfl
        apply hb_ex _ rfl rfl rfl
        ·intro w1
         refine r_elem (α := Int) o i rfl T.u_ints T.sz_int rfl rfl rfl (by repeat constructor) rfl hio (by decide) ?_
         refine hl_nil ?_
         exact qe_done rfl
        apply hb_ex _ rfl rfl rfl
        ·intro w1
         refine r_load (v := int (o.getD i default)) rfl T.cell_int rfl (cell_row (by repeat constructor) (rows_get0 hio rfl)) ?_
         refine hl_nil ?_
         exact qe_done rfl
        apply hb_ex _ rfl rfl rfl
        ·intro w1
         refine r_move rfl rfl ?_
         refine hl_nil ?_
         exact qe_done rfl
        apply hb_ex _ rfl rfl rfl
        ·intro w1
         refine r_move rfl rfl ?_
         refine hl_nil ?_
         exact qe_done rfl
        apply hb_ex _ rfl rfl rfl
        ·intro w1
         refine r_elem (α := Int) o j rfl T.u_ints T.sz_int rfl rfl rfl (by repeat constructor) rfl hjo (by decide) ?_
         refine hl_nil ?_
         exact qe_done rfl
        apply hb_ex _ rfl rfl rfl
        ·intro w1
         refine r_load (v := int (o.getD j default)) rfl T.cell_int rfl (cell_row (by repeat constructor) (rows_get0 hjo rfl)) ?_
         refine hl_nil ?_
         exact qe_done rfl
        apply hb_ex _ rfl rfl rfl
        ·intro w1
         refine hl_call F.trade_Least_cb rfl rfl (least_is cs hs (o.getD i default) (o.getD j default) hca hcb ha hT0 (by omega)) (List.Perm.refl _) ⟨(by repeat constructor), (by repeat constructor), trivial⟩ fun _ _ => ?_
         refine hl_nil ?_
         exact qe_done rfl
        apply hb_ex _ rfl rfl rfl
        ·intro w1
         refine r_move rfl rfl ?_
         refine hl_nil ?_
         exact qe_done rfl
        apply hb_ex _ rfl rfl rfl
        ·intro w1
         refine r_extract rfl rfl rfl ?_
         refine hl_nil ?_
         exact qe_done rfl
        apply hb_ex _ rfl rfl rfl
        ·intro w1
         refine r_extract rfl rfl rfl ?_
         refine hl_nil ?_
         exact qe_done rfl
        apply hb_ex _ rfl rfl rfl
        ·intro w1
         refine r_assign rfl rfl ?_
         refine hl_nil ?_
         exact qe_done rfl
        refine hb_nil ⟨rfl, ?_⟩
        refine r_assign rfl rfl ?_
        refine hl_nil ?_
        refine then_n ?_
        refine hc_seq ?_
        refine hc_region ?_
        first | refine r_loadA rfl T.row_api_Trades T.sz_api_Trades rfl (by repeat constructor) (by rfl) ?_ | refine r_loadB rfl T.row_api_Trades T.sz_api_Trades rfl (by repeat constructor) (by rfl) ?_ | refine r_loadS rfl T.row_api_Trades T.sz_api_Trades rfl rfl (cells_row (by repeat constructor) (rows_all (by omega))) ?_
        refine r_move rfl rfl ?_
        refine r_move rfl rfl ?_
        refine hl_call (vs := [.agg #[.slice a3 (renC cs o).length c3, .slice a7 hx.length c7], int (i : Int), int (j : Int)]) F.trade_Least_cb rfl (by rw [hrl, hxl, ← hl2]; rfl) (least_is (renC cs o) hx (i : Int) (j : Int) hc32 hc72 ha2 hT2 (by rw [hrl]; omega)) (List.Perm.refl _) ⟨(by repeat constructor), (by repeat constructor), trivial⟩ fun _ _ => ?_
        refine r_move rfl rfl ?_
        refine r_extract rfl rfl rfl ?_
        refine r_extract rfl rfl rfl ?_
        refine r_assign rfl rfl ?_
        refine r_assign rfl rfl ?_
        refine hl_nil ?_
        refine then_n ?_
        refine hc_seq ?_
        refine hc_region ?_
        refine r_move rfl rfl ?_
        refine r_neq rfl rfl rfl ?_
        refine r_move rfl rfl ?_
        refine g_split rfl rfl ?_ ?_
        ·intro hg4; have hg4' := hg4; try simp at hg4'
         refine g_yes rfl rfl hg4 ?_
         refine r_move rfl rfl ?_
         refine g_yes rfl rfl hg4 ?_
         refine r_neq rfl rfl rfl ?_
         refine p_f rfl rfl (bf1 hg4) rfl ?_
         refine r_move rfl rfl ?_
         refine g_split rfl rfl ?_ ?_
         ·intro hg5; have hg5' := hg5; try simp at hg5'
          refine g_yes rfl rfl hg5 ?_
          refine r_move rfl rfl ?_
          refine g_yes rfl rfl hg5 ?_
          refine r_move rfl rfl ?_
          refine g_yes rfl rfl hg5 ?_
          refine hl_call F.kit_Index_cb rfl rfl (kit_Index_is o (leastT (trOf cs hs) (o.getD i default) (o.getD j default)) (by omega) hOf.nd) (List.Perm.refl _) ⟨(by repeat constructor), trivial⟩ fun _ _ => ?_
          refine g_yes rfl rfl hg5 ?_
          refine r_move rfl rfl ?_
          refine g_yes rfl rfl hg5 ?_
          refine r_neq rfl rfl rfl ?_
          refine p_f rfl rfl (bf1 hg5) rfl ?_
          refine hl_nil ?_
          refine then_n ?_
          first | refine c_dec rfl (fun hb9 => ?_) (fun hb9 => ?_) | refine hc_cond rfl (fun hb9 => ?_) (fun hb9 => ?_)
          ·exact absurd hls.symm hb9
          ·have hb9' := hb9; try simp at hb9'
           refine hc_skip ?_
           refine inb_n ?_
           refine then_n ?_
           refine hc_region ?_
           refine r_move rfl rfl ?_
           refine r_add _ rfl rfl rfl rfl (by unfold I64; omega) ?_
           refine r_assign rfl rfl ?_
           refine hl_nil ?_
           exact again _ (j + 1) (by show j + 1 ≤ cs.length; omega) (by show cs.length - (j + 1) < cs.length - j; omega) ⟨rfl, rfl, rfl, rfl, rfl, rfl, trivial⟩ (List.nil_sublist _) ⟨(by repeat constructor), (by repeat constructor), (by repeat constructor), (by repeat constructor), (by repeat constructor), (by repeat constructor), (by repeat constructor), trivial⟩
         ·intro hg5; have hg5' := hg5; try simp at hg5'
        ·intro hg4; have hg4' := hg4; try simp at hg4'
       ·have hb8' := hb8; try simp at hb8'
        refine hc_exit ?_
        refine then_exit ?_
        refine then_exit ?_
        refine inb_hit ?_
        refine inb_n ?_
        refine then_n ?_
        refine hc_region ?_
        refine r_move rfl rfl ?_
        refine r_add _ rfl rfl rfl rfl (by unfold I64; omega) ?_
        refine r_assign rfl rfl ?_
        refine hl_nil ?_
        exact again _ (i + 1) (by show i + 1 ≤ cs.length; omega) (by show cs.length - (i + 1) < cs.length - i; omega) ⟨rfl, rfl, rfl, rfl, rfl, trivial⟩ (List.nil_sublist _) ⟨(by repeat constructor), (by repeat constructor), (by repeat constructor), (by repeat constructor), (by repeat constructor), (by repeat constructor), (by repeat constructor), trivial⟩
      ·have hb7' := hb7; try simp at hb7'
       refine hc_exit ?_
       refine then_exit ?_
       refine then_exit ?_
       refine inb_hit ?_
       refine then_n ?_
       refine hc_seq ?_
       refine hc_region ?_
       refine hl_call F.law04_indexed_cb rfl rfl (law04_indexed_meets) (List.Perm.refl _) trivial fun _ _ => ?_
       refine r_assign rfl rfl ?_
       refine hl_nil ?_
       refine then_n ?_
       refine hc_ret ?_
       exact ret1 () rfl rfl rfl trivial (List.nil_sublist _) trivial
    ·intro hg3; have hg3' := hg3; try simp at hg3'

end Go.Proofs.Ytlpgheniajdkfaa
