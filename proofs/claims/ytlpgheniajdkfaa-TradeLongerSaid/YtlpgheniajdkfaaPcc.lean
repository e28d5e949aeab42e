/- The walk of the statement TradeLonger. -/
import Derived.Test.YtlpgheniajdkfaaPbg
namespace Go.Proofs.Ytlpgheniajdkfaa
open Go Go.W
set_option linter.unusedVariables false
set_option linter.unusedSimpArgs false
set_option maxRecDepth 20000
attribute [local irreducible] HL HC HQ HB Row Rows2 Blk Facts

def lkF (t : Tr) (b : Str) (k : Nat) : List Int := ((List.range k).filter fun i => (List.range t.hs.length).any fun h => leadsB t b h i).map fun i : Nat => (i : Int)
theorem lkF_succ (t : Tr) (b : Str) (k : Nat) : lkF t b (k + 1) = if ((List.range t.hs.length).any fun h => leadsB t b h k) = true then lkF t b k ++ [(k : Int)] else lkF t b k := by
  unfold lkF
  rw [List.range_succ, List.filter_append, List.map_append, List.filter_cons, List.filter_nil]
  by_cases h : ((List.range t.hs.length).any fun h => leadsB t b h k) = true
  · rw [if_pos h, if_pos h]; rfl
  · rw [if_neg h, if_neg h]; simp
theorem lkF_pre (t : Tr) (b : Str) {k : Nat} : ∀ {m : Nat}, k ≤ m → lkF t b k <+: lkF t b m
  | 0, h => by obtain rfl : k = 0 := (by omega); exact List.prefix_refl _
  | m + 1, h => by
    by_cases e : k = m + 1
    · subst e; exact List.prefix_refl _
    · refine (lkF_pre t b (m := m) (by omega)).trans ?_
      rw [lkF_succ]
      split
      · exact List.prefix_append _ _
      · exact List.prefix_refl _
theorem lkF_at {t : Tr} {b : Str} {k : Nat} (hk : k < t.hs.length) (h : ((List.range t.hs.length).any fun h => leadsB t b h k) = true) : (lkF t b k).length < (mayT t b).length ∧ (mayT t b).getD (lkF t b k).length default = (k : Int) := by
  have hp : lkF t b (k + 1) <+: mayT t b := lkF_pre t b (by omega)
  rw [lkF_succ, if_pos h] at hp
  obtain ⟨r, hr⟩ := hp
  rw [← hr]
  constructor
  · simp only [List.length_append, List.length_singleton]; omega
  · rw [List.getD_eq_getElem?_getD, List.append_assoc, List.getElem?_append_right (Nat.le_refl _), Nat.sub_self]
    rfl
section
variable {m a b c d e : Bool}
theorem lg1 (h1 : (m == false) = false) : true = (m || (a && (b && (c && (d && e))))) := by cases m <;> simp_all
theorem lg2 (h1 : (m == false) = true) (h2 : (a == true) = false) : false = (m || (a && (b && (c && (d && e))))) := by cases m <;> cases a <;> simp_all
theorem lg3 (h1 : (m == false) = true) (h2 : (a == true) = true) (h3 : (b == true) = false) : false = (m || (a && (b && (c && (d && e))))) := by cases m <;> cases b <;> simp_all
theorem lg4 (h1 : (m == false) = true) (h4 : (c == true) = false) : false = (m || (a && (b && (c && (d && e))))) := by cases m <;> cases c <;> simp_all
theorem lg5 (h1 : (m == false) = true) (h5 : (d == true) = false) : false = (m || (a && (b && (c && (d && e))))) := by cases m <;> cases d <;> simp_all
theorem lg6 (h1 : (m == false) = true) (h2 : (a == true) = true) (h3 : (b == true) = true) (h4 : (c == true) = true) (h5 : (d == true) = true) : e = (m || (a && (b && (c && (d && e))))) := by cases m <;> cases a <;> cases b <;> cases c <;> cases d <;> simp_all
end
theorem tr_cls {cs : List Cl} {hs : List Hd} (hok : TrOK (trOf cs hs)) {i : Nat} (hi : i < hs.length) (hs1 : (hs.getD i default).2.2.1 = -1) : isTrB (trOf cs hs) (i : Int) = decide (0 ≤ (hs.getD i default).2.1) := by
  have hc := (hok.h i (by rw [hs_len]; exact hi)).c
  have e : (trOf cs hs).hs.getD i default = (hs.getD i default).p := hd_get hi
  rw [e] at hc
  have hc1 : -1 ≤ (hs.getD i default).2.1 := hc.1
  unfold isTrB
  rw [Int.toNat_natCast, e]
  show (decide ((hs.getD i default).2.2.1 = -1) && decide (¬ (hs.getD i default).2.1 = -1)) = _
  rw [decide_eq_true hs1, Bool.true_and]
  exact decide_eq_decide.2 (by omega)
theorem cls_see {cs : List Cl} {hs : List Hd} (hok : TrOK (trOf cs hs)) {i : Nat} (hi : i < hs.length) (h : 0 ≤ (hs.getD i default).2.1) : (hs.getD i default).2.2.1 = -1 := by
  have hk := (hok.h i (by rw [hs_len]; exact hi)).kinds
  have e : (trOf cs hs).hs.getD i default = (hs.getD i default).p := hd_get hi
  rw [e] at hk
  rcases hk with ⟨_, h1, _⟩ | ⟨h1, _⟩ | ⟨h1, _⟩
  · have h2 : (hs.getD i default).2.1 = -1 := h1
    omega
  · exact h1
  · exact h1
/-- What Follow says of a heading, and whether it leads to k. -/
theorem leads_eq {cs : List Cl} {hs : List Hd} (hok : TrOK (trOf cs hs)) {b : Str} {j k : Nat} {x1 x2 x3 : Int} (hj : j < hs.length) (hk : k < hs.length) (hno : followT (trOf cs hs) (j : Int) = none → (x1, x2, x3) = (0, 0, 9)) (hsome : ∀ e m, followT (trOf cs hs) (j : Int) = some (e, m) → (x1, x2, x3) = (e, m, 0)) :
    leadsB (trOf cs hs) b j k = (decide (x3 = 0) && (decide (x1 = (k : Int)) && (decide (0 ≤ (hs.getD k default).2.1) && (decide ((b.length : Int) ≤ ((hs.getD j default).1.length : Int)) && decide ((hs.getD j default).1.take b.length = b))))) := by
  have hg : ((trOf cs hs).hs.getD j default).1 = (hs.getD j default).1 := by rw [show (trOf cs hs).hs.getD j default = (hs.getD j default).p from hd_get hj]; rfl
  have hpre : decide (b <+: (hs.getD j default).1) = (decide ((b.length : Int) ≤ ((hs.getD j default).1.length : Int)) && decide ((hs.getD j default).1.take b.length = b)) := by
    rw [← Bool.decide_and]
    exact decide_eq_decide.2 (by rw [← pre_iff]; constructor <;> (rintro ⟨h1, h2⟩; exact ⟨by omega, h2⟩))
  unfold leadsB
  rw [hg, hpre]
  cases hf : followT (trOf cs hs) (j : Int) with
  | none =>
    have h3 : x3 = 9 := congrArg (fun z => z.2.2) (hno hf)
    rw [h3]; simp
  | some y =>
    obtain ⟨e, m⟩ := y
    have he := hsome e m hf
    have h1 : x1 = e := congrArg (fun z => z.1) he
    have h3 : x3 = 0 := congrArg (fun z => z.2.2) he
    rw [h1, h3, decide_eq_true rfl, Bool.true_and]
    simp only
    by_cases hek : e = (k : Int)
    · rw [decide_eq_true hek, Bool.true_and, Bool.true_and]
      have hend := (follow_end _ _ _ _ _ _ hf).1
      rw [hek, Int.toNat_natCast] at hend
      have hs1 : (hs.getD k default).2.2.1 = -1 := by
        rw [show (trOf cs hs).hs.getD k default = (hs.getD k default).p from hd_get hk] at hend
        exact hend
      rw [hek, tr_cls hok hk hs1, Bool.and_comm]
    · rw [decide_eq_false hek, Bool.false_and, Bool.false_and, Bool.and_false]
theorem may_all {cs : List Cl} {hs : List Hd} (hok : TrOK (trOf cs hs)) {i : Nat} (hi : i < hs.length) : decide ((i : Int) ∈ mayT (trOf cs hs) []) = decide (0 ≤ (hs.getD i default).2.1) := by
  refine decide_eq_decide.2 ?_
  rw [may_mem]
  have hg : ∀ k, k < hs.length → (trOf cs hs).hs.getD k default = (hs.getD k default).p := fun k hk => hd_get hk
  constructor
  · rintro ⟨k, hk, hkl, h, hh, hl⟩
    obtain rfl : k = i := by omega
    unfold leadsB at hl
    cases hf : followT (trOf cs hs) (h : Int) with
    | none => rw [hf] at hl; simp at hl
    | some y =>
      obtain ⟨e, m⟩ := y
      rw [hf] at hl
      simp only [Bool.and_eq_true, decide_eq_true_eq] at hl
      obtain ⟨_, he, ht⟩ := hl
      have hend := (follow_end _ _ _ _ _ _ hf).1
      rw [he, Int.toNat_natCast, hg k hi] at hend
      rw [he, tr_cls hok hi hend, decide_eq_true_eq] at ht
      exact ht
  · intro h
    have hs1 := cls_see hok hi h
    refine ⟨i, rfl, by rw [hs_len]; exact hi, i, by rw [hs_len]; exact hi, ?_⟩
    unfold leadsB
    rw [follow_self (by rw [Int.toNat_natCast, hg i hi]; exact hs1)]
    simp only [decide_true, Bool.true_and, List.nil_prefix]
    rw [tr_cls hok hi hs1]
    exact decide_eq_true h

set_option maxHeartbeats 1000000 in
theorem law04_TradeLonger_meets {A : Option Addr} {c0 : Nat} (nums : List Int) (hn : nums.length ≤ 9223372036854775807) : Meets Try.prog F.law04_TradeLonger [.slice A nums.length c0] { LI := [Row A (rows nums)], val := fun _ : Unit => .bool true } := by
 refine meets_intro F.law04_TradeLonger_f rfl (Nat.le_of_ble_eq_true rfl) fun w0 => ?_
 refine hc_seq ?_
 refine hc_region ?_
 refine r_assign rfl rfl ?_
 refine hl_nil ?_
 refine then_n ?_
 refine hc_seq ?_
 refine hc_region ?_
 refine r_move rfl rfl ?_
 refine hl_call F.kit_NewDice_cb rfl rfl (kit_NewDice_meets nums) (List.Perm.refl _) ⟨(by repeat constructor), trivial⟩ fun g _ => ?_
 refine hl_call F.kit_TradesOf_cb rfl rfl (kit_TradesOf_meets 2 6 hn (dok0 nums) (by decide) (by decide)) (List.Perm.refl _) ⟨(by repeat constructor), trivial⟩ fun x hx => ?_
 obtain ⟨sd, cs, hs, ⟨CA, ca⟩, ⟨HB, cb⟩⟩ := x
 obtain ⟨hsd, hT⟩ := hx
 have hca : cs.length ≤ ca := hT.ca
 have hcb : hs.length ≤ cb := hT.cb
 have ha : ∀ h ∈ hs, h.2.2.2.l.length ≤ 1000000 := hT.ha
 have hT0 : checkT (trOf cs hs) = 0 := hT.ok
 have hok : TrOK (trOf cs hs) := tr_ok hT0
 clear hT
 have h6 : cs.length ≤ 6 := hok.c6
 have h6h := hok.h6
 have hln := hs_len cs hs
 rw [hln] at h6h
 have hcl : ∀ i, i < cs.length → ClsOK cs i := hok.c
 refine r_alloc rfl (fun _ => T.al_api_Trades _) fun gT => ?_
 refine r_storeS (cs := #[.slice CA cs.length ca, .slice HB hs.length cb]) rfl rfl (.refl _) T.sz_api_Trades (by rfl) (by rfl) ?_
 refine hl_nil ?_
 refine then_n ?_
 refine hc_seq ?_
 refine hc_letgoB ?_
 refine hc_outerF (ps := hs) (A := HB) (f := Hd.row) (by repeat constructor) ?_
 refine hc_region ?_
 first | refine r_loadA rfl T.row_api_Trades T.sz_api_Trades rfl (by repeat constructor) (by rfl) ?_ | refine r_loadB rfl T.row_api_Trades T.sz_api_Trades rfl (by repeat constructor) (by rfl) ?_ | refine r_loadS rfl T.row_api_Trades T.sz_api_Trades rfl rfl (cells_row (by repeat constructor) (rows_all (by omega))) ?_
 refine hl_call F.trade_May_cb rfl rfl (may_is cs hs [] hca hcb ha hT0) (List.Perm.refl _) ⟨(by repeat constructor), (by repeat constructor), trivial⟩ fun y0 hy0 => ?_
 refine r_move rfl rfl ?_
 refine r_extract rfl rfl rfl ?_
 refine r_extract rfl rfl rfl ?_
 refine r_assign rfl rfl ?_
 refine r_assign rfl rfl ?_
 refine hl_nil ?_
 refine then_n ?_
 refine hc_seq ?_
 refine hc_seq ?_
 refine hc_region ?_
 refine r_move rfl rfl ?_
 refine r_neq rfl rfl rfl ?_
 refine hl_nil ?_
 refine then_n ?_
 refine c_f rfl (by first | rfl | assumption | exact bf1 (by assumption) | exact bf2 (by assumption)) ?_
 refine hc_skip ?_
 refine then_n ?_
 refine hc_seq ?_
 refine hc_seq ?_
 refine hc_region ?_
 refine r_assign rfl rfl ?_
 refine hl_nil ?_
 refine then_n ?_
 refine hc_block ?_
 have hml := fun b => may_len (trOf cs hs) b
 rw [hln] at hml
 refine hc_loop (β := Nat) ⟨fun i => i ≤ hs.length, fun i => [(3, .pointer (some ⟨gT, 0, none⟩)), (4, .slice y0.1 (mayT (trOf cs hs) []).length y0.2), (6, int i)], fun _ => [], fun _ => (Row y0.1 (rows (mayT (trOf cs hs) [])) :: (Row HB (rows hs) :: [Blk gT (.cells #[.slice CA cs.length ca, .slice HB hs.length cb] T.api_Trades (0, 0)), Row CA (rows cs), RowsF HB hs Hd.row]))⟩ (fun i => hs.length - i) 0 (Nat.zero_le _) ⟨rfl, rfl, rfl, trivial⟩ (List.nil_sublist _) ⟨(by repeat constructor), (by repeat constructor), (by repeat constructor), (by repeat constructor), (by repeat constructor), trivial⟩ fun i hi => ?_
 simp only at hi
 refine hc_seq ?_
 refine hc_seq ?_
 refine hc_region ?_
 refine r_move rfl rfl ?_
 first | refine r_fieldAddr ⟨_, 1, none⟩ rfl rfl T.fa_api_Trades_1 rfl ?_ | refine r_fieldAddr _ rfl rfl T.fa_api_Trades_1 rfl ?_
 first | refine r_load rfl T.cell_L_api_Head rfl (cell_own (by repeat constructor) rfl) ?_ | refine r_load rfl T.cell_L_api_Head rfl (cell_blk (by repeat constructor) rfl) ?_ | refine r_load rfl T.cell_L_api_Head rfl (cell_row (by repeat constructor) (rows_get0 (by omega) rfl)) ?_ | refine r_load rfl T.cell_L_api_Head rfl (cell_row_f (by repeat constructor) (rows_get (by omega) rfl)) ?_ | refine r_load rfl T.cell_L_api_Head rfl (cell_rowg (by repeat constructor) rfl) ?_
 refine r_len_sl rfl T.u_L_api_Head rfl ?_
 refine r_lss rfl rfl rfl ?_
 refine hl_nil ?_
 refine then_n ?_
 first | refine c_dec rfl (fun hb2 => ?_) (fun hb2 => ?_) | refine hc_cond rfl (fun hb2 => ?_) (fun hb2 => ?_)
 ·have hb2' := hb2; try simp at hb2'
  have hi2 : i < hs.length := by omega
  have hml0 := hml []
  have hma := may_all hok hi2
  have hw12 := hd_12 hok hi2
  generalize hw : (hs.getD i default).1 = w at hw12
  refine hc_skip ?_
  refine then_n ?_
  refine hc_seq ?_
  refine hc_block ?_
  refine hc_seq ?_
  refine hc_seq ?_
  refine hc_draw 11 mixed (by decide) (by decide) rfl rfl ?_
  apply hb_ex _ rfl rfl rfl
  ·intro w1
   refine r_move rfl rfl ?_
   refine hl_nil ?_
   exact qe_done rfl
  apply hb_ex _ rfl rfl rfl
  ·intro w1
   refine r_move rfl rfl ?_
   refine hl_nil ?_
   exact qe_done rfl
  refine hb_vs ⟨Int, fun z => AtInv (mayT (trOf cs hs) []) (i : Int) z, fun z => int z, fun _ => []⟩ rfl rfl rfl ?_ ?_
  ·intro w1
   refine hl_call F.kit_Index_cb rfl rfl (kit_Index_meets (mayT (trOf cs hs) []) (i : Int) (by omega)) (List.Perm.refl _) ⟨(by repeat constructor), trivial⟩ fun z hz => ?_
   refine hl_nil ?_
   exact qv_done z hz rfl trivial
  refine hb_vs ⟨Unit, fun _ => True, fun _ => .bool (decide ((i : Int) ∈ (mayT (trOf cs hs) []))), fun _ => []⟩ rfl rfl rfl ?_ ?_
  ·intro z hz; intro w1
   refine r_geq rfl rfl rfl ?_
   refine hl_nil ?_
   exact qv_done () trivial (congrArg (fun b => some (Value.bool b)) (decide_eq_decide.2 hz.1)) trivial
  apply hb_ex _ rfl rfl rfl
  ·intro w1
   first | refine r_fieldAddr ⟨_, 1, none⟩ rfl rfl T.fa_api_Trades_1 rfl ?_ | refine r_fieldAddr _ rfl rfl T.fa_api_Trades_1 rfl ?_
   refine hl_nil ?_
   exact qe_done rfl
  apply hb_ex _ rfl rfl rfl
  ·intro w1
   first | refine r_load rfl T.cell_L_api_Head rfl (cell_blk (by repeat constructor) rfl) ?_ | refine r_load rfl T.cell_L_api_Head rfl (cell_own (by repeat constructor) rfl) ?_ | refine r_load rfl T.cell_L_api_Head rfl (cell_row (by repeat constructor) (rows_get0 (by omega) rfl)) ?_ | refine r_load rfl T.cell_L_api_Head rfl (cell_row_f (by repeat constructor) (rows_get (by omega) rfl)) ?_ | refine r_load rfl T.cell_L_api_Head rfl (cell_rowg (by repeat constructor) rfl) ?_
   refine hl_nil ?_
   exact qe_done rfl
  apply hb_ex _ rfl rfl rfl
  ·intro w1
   refine r_move rfl rfl ?_
   refine hl_nil ?_
   exact qe_done rfl
  apply hb_ex _ rfl rfl rfl
  ·intro w1
   refine r_elem (α := Hd) hs i rfl T.u_L_api_Head T.sz_api_Head rfl rfl rfl (by repeat constructor) rfl hi2 (by decide) ?_
   refine hl_nil ?_
   exact qe_done rfl
  apply hb_ex _ rfl rfl rfl
  ·intro w1
   first | refine r_fieldAddr ⟨_, 1, none⟩ rfl rfl T.fa_api_Head_1 rfl ?_ | refine r_fieldAddr _ rfl rfl T.fa_api_Head_1 rfl ?_
   refine hl_nil ?_
   exact qe_done rfl
  apply hb_ex _ rfl rfl rfl
  ·intro w1
   refine r_load (v := int (hs.getD i default).2.1) rfl T.cell_int rfl (cell_row_f (by repeat constructor) (rows_get hi2 rfl)) ?_
   refine hl_nil ?_
   exact qe_done rfl
  apply hb_ex _ rfl rfl rfl
  ·intro w1
   refine r_geq rfl rfl rfl ?_
   refine hl_nil ?_
   exact qe_done rfl
  refine hb_nil ⟨rfl, ?_⟩
  intro _ _ _ _
  refine r_bneq rfl T.u_bool rfl rfl ?_
  refine hl_nil ?_
  refine then_n ?_
  first | refine c_dec rfl (fun hb3 => ?_) (fun hb3 => ?_) | refine hc_cond rfl (fun hb3 => ?_) (fun hb3 => ?_)
  ·exfalso; rw [hma] at hb3; simp at hb3
  ·have hb3' := hb3; try simp at hb3'
   refine hc_skip ?_
   refine then_n ?_
   refine hc_seq ?_
   refine hc_region ?_
   refine r_move rfl rfl ?_
   refine r_assign rfl rfl ?_
   refine hl_nil ?_
   refine then_n ?_
   refine hc_seq ?_
   refine hc_region ?_
   first | refine r_fieldAddr ⟨_, 1, none⟩ rfl rfl T.fa_api_Trades_1 rfl ?_ | refine r_fieldAddr _ rfl rfl T.fa_api_Trades_1 rfl ?_
   first | refine r_load rfl T.cell_L_api_Head rfl (cell_own (by repeat constructor) rfl) ?_ | refine r_load rfl T.cell_L_api_Head rfl (cell_blk (by repeat constructor) rfl) ?_ | refine r_load rfl T.cell_L_api_Head rfl (cell_row (by repeat constructor) (rows_get0 (by omega) rfl)) ?_ | refine r_load rfl T.cell_L_api_Head rfl (cell_row_f (by repeat constructor) (rows_get (by omega) rfl)) ?_ | refine r_load rfl T.cell_L_api_Head rfl (cell_rowg (by repeat constructor) rfl) ?_
   refine r_move rfl rfl ?_
   refine r_elem (α := Hd) hs i rfl T.u_L_api_Head T.sz_api_Head rfl rfl rfl (by repeat constructor) rfl hi2 (by decide) ?_
   first | refine r_fieldAddr ⟨_, 0, none⟩ rfl rfl T.fa_api_Head_0 rfl ?_ | refine r_fieldAddr _ rfl rfl T.fa_api_Head_0 rfl ?_
   refine r_load (v := str w) rfl T.cell_string rfl (cell_row_f (by repeat constructor) (rows_get hi2 (show (El.cells (hs.getD i default))[0]? = some (str w) by rw [← hw]; rfl))) ?_
   refine r_assign rfl rfl ?_
   refine hl_nil ?_
   refine then_n ?_
   refine hc_seq ?_
   refine hc_region ?_
   refine r_assign rfl rfl ?_
   refine hl_nil ?_
   refine then_n ?_
   refine hc_block ?_
   refine hc_loop (β := Nat × Str × OutC) ⟨fun x => x.1 ≤ w.length + 1 ∧ x.2.1 <+: w.take x.1, fun x => [(3, .pointer (some ⟨gT, 0, none⟩)), (4, .slice y0.1 (mayT (trOf cs hs) []).length y0.2), (6, int i), (7, .slice x.2.2.1 (mayT (trOf cs hs) x.2.1).length x.2.2.2), (8, str w), (9, int x.1)], fun _ => [], fun x => Row x.2.2.1 (rows (mayT (trOf cs hs) x.2.1)) :: (Row y0.1 (rows (mayT (trOf cs hs) [])) :: (Row HB (rows hs) :: [Blk gT (.cells #[.slice CA cs.length ca, .slice HB hs.length cb] T.api_Trades (0, 0)), Row CA (rows cs), RowsF HB hs Hd.row]))⟩ (fun x => w.length + 1 - x.1) (0, [], y0) ⟨Nat.zero_le _, List.nil_prefix⟩ ⟨rfl, rfl, rfl, rfl, rfl, rfl, trivial⟩ (List.nil_sublist _) ⟨(by repeat constructor), (by repeat constructor), (by repeat constructor), (by repeat constructor), (by repeat constructor), (by repeat constructor), trivial⟩ fun x hx => ?_
   obtain ⟨n, b, o⟩ := x
   obtain ⟨hn2, hbp⟩ := hx
   simp only at hn2 hbp
   refine hc_seq ?_
   refine hc_seq ?_
   refine hc_region ?_
   refine r_move rfl rfl ?_
   refine r_move rfl rfl ?_
   refine r_len_str rfl T.u_string rfl ?_
   refine r_leq rfl rfl rfl ?_
   refine hl_nil ?_
   refine then_n ?_
   first | refine c_dec rfl (fun hb4 => ?_) (fun hb4 => ?_) | refine hc_cond rfl (fun hb4 => ?_) (fun hb4 => ?_)
   ·have hb4' := hb4; try simp at hb4'
    have hn3 : n ≤ w.length := by omega
    have htl : (w.take n).length = n := by rw [List.length_take]; omega
    have hmlb := hml b
    have hmlt := hml (w.take n)
    refine hc_skip ?_
    refine then_n ?_
    refine hc_seq ?_
    refine hc_block ?_
    refine hc_seq ?_
    refine hc_draw 9 mixed (by decide) (by decide) rfl rfl ?_
    apply hb_ex _ rfl rfl rfl
    ·intro w1
     first | refine r_loadA rfl T.row_api_Trades T.sz_api_Trades rfl (by repeat constructor) (by rfl) ?_ | refine r_loadB rfl T.row_api_Trades T.sz_api_Trades rfl (by repeat constructor) (by rfl) ?_ | refine r_loadS rfl T.row_api_Trades T.sz_api_Trades rfl rfl (cells_row (by repeat constructor) (rows_all (by omega))) ?_
     refine hl_nil ?_
     exact qe_done rfl
    apply hb_ex _ rfl rfl rfl
    ·intro w1
     refine r_move rfl rfl ?_
     refine hl_nil ?_
     exact qe_done rfl
    apply hb_ex _ rfl rfl rfl
    ·intro w1
     refine r_move rfl rfl ?_
     refine hl_nil ?_
     exact qe_done rfl
    apply hb_ex _ rfl rfl rfl
    ·intro w1
     refine r_sslice_hi n rfl T.u_string rfl rfl rfl (by omega) ?_
     refine hl_nil ?_
     exact qe_done rfl
    refine hb_vs ⟨OutC, fun y => (mayT (trOf cs hs) (w.take n)).length ≤ y.2, fun y => .tuple #[.slice y.1 (mayT (trOf cs hs) (w.take n)).length y.2, int 0], fun y => [Row y.1 (rows (mayT (trOf cs hs) (w.take n)))]⟩ rfl rfl rfl ?_ ?_
    ·intro w1
     refine hl_call F.trade_May_cb rfl rfl (may_is cs hs (w.take n) hca hcb ha hT0) (List.Perm.refl _) ⟨(by repeat constructor), (by repeat constructor), trivial⟩ fun y hy => ?_
     refine hl_nil ?_
     exact qv_done y hy rfl ⟨m0, trivial⟩
    refine hb_vs ⟨OutC, fun y => (mayT (trOf cs hs) (w.take n)).length ≤ y.2, fun y => .tuple #[.slice y.1 (mayT (trOf cs hs) (w.take n)).length y.2, int 0], fun y => [Row y.1 (rows (mayT (trOf cs hs) (w.take n)))]⟩ rfl rfl rfl ?_ ?_
    ·intro y hy; intro w1
     refine r_move rfl rfl ?_
     refine hl_nil ?_
     exact qv_done y hy rfl ⟨m0, trivial⟩
    refine hb_vs ⟨OutC, fun y => (mayT (trOf cs hs) (w.take n)).length ≤ y.2, fun y => .slice y.1 (mayT (trOf cs hs) (w.take n)).length y.2, fun y => [Row y.1 (rows (mayT (trOf cs hs) (w.take n)))]⟩ rfl rfl rfl ?_ ?_
    ·intro y hy; intro w1
     refine r_extract rfl rfl rfl ?_
     refine hl_nil ?_
     exact qv_done y hy rfl ⟨m0, trivial⟩
    apply hb_ex _ rfl rfl rfl
    ·intro y hy; intro w1
     refine r_extract rfl rfl rfl ?_
     refine hl_nil ?_
     exact qe_done rfl
    refine hb_vs ⟨OutC, fun y => (mayT (trOf cs hs) (w.take n)).length ≤ y.2, fun y => .slice y.1 (mayT (trOf cs hs) (w.take n)).length y.2, fun y => [Row y.1 (rows (mayT (trOf cs hs) (w.take n)))]⟩ rfl rfl rfl ?_ ?_
    ·intro y hy; intro w1
     refine r_assign rfl rfl ?_
     refine hl_nil ?_
     exact qv_done y hy rfl ⟨m0, trivial⟩
    refine hb_nil ⟨rfl, ?_⟩
    intro _ _ _ _ _ _ y hy
    refine r_assign rfl rfl ?_
    refine hl_nil ?_
    refine then_n ?_
    refine hc_seq ?_
    refine hc_seq ?_
    refine hc_region ?_
    refine r_move rfl rfl ?_
    refine r_neq rfl rfl rfl ?_
    refine hl_nil ?_
    refine then_n ?_
    refine c_f rfl (by first | rfl | assumption | exact bf1 (by assumption) | exact bf2 (by assumption)) ?_
    refine hc_skip ?_
    refine then_n ?_
    refine hc_seq ?_
    refine hc_region ?_
    refine r_assign rfl rfl ?_
    refine hl_nil ?_
    refine then_n ?_
    refine hc_seq ?_
    refine hc_seq ?_
    refine hc_region ?_
    refine r_assign rfl rfl ?_
    refine hl_nil ?_
    refine then_n ?_
    refine hc_block ?_
    refine hc_loop (β := Nat × Nat) ⟨fun x => x.1 ≤ hs.length ∧ x.2 = (lkF (trOf cs hs) (w.take n) x.1).length, fun x => [(3, .pointer (some ⟨gT, 0, none⟩)), (4, .slice y0.1 (mayT (trOf cs hs) []).length y0.2), (6, int i), (7, .slice o.1 (mayT (trOf cs hs) b).length o.2), (8, str w), (9, int n), (10, .slice y.1 (mayT (trOf cs hs) (w.take n)).length y.2), (12, int x.2), (13, int x.1)], fun _ => [], fun _ => (Row y.1 (rows (mayT (trOf cs hs) (w.take n))) :: (Row o.1 (rows (mayT (trOf cs hs) b)) :: (Row y0.1 (rows (mayT (trOf cs hs) [])) :: (Row HB (rows hs) :: [Blk gT (.cells #[.slice CA cs.length ca, .slice HB hs.length cb] T.api_Trades (0, 0)), Row CA (rows cs), RowsF HB hs Hd.row]))))⟩ (fun x => hs.length - x.1) (0, 0) ⟨Nat.zero_le _, rfl⟩ ⟨rfl, rfl, rfl, rfl, rfl, rfl, rfl, rfl, rfl, trivial⟩ (List.nil_sublist _) ⟨(by repeat constructor), (by repeat constructor), (by repeat constructor), (by repeat constructor), (by repeat constructor), (by repeat constructor), (by repeat constructor), trivial⟩ fun x hx => ?_
    obtain ⟨k, at1⟩ := x
    obtain ⟨hk, hat⟩ := hx
    simp only at hk hat
    subst hat
    have hls := lkF_succ (trOf cs hs) (w.take n) k
    have hle := (lkF_pre (trOf cs hs) (w.take n) (k := k) (m := hs.length) hk).length_le
    have hmt : lkF (trOf cs hs) (w.take n) hs.length = (mayT (trOf cs hs) (w.take n)) := by unfold lkF mayT; rw [hln]
    rw [hmt] at hle
    refine hc_seq ?_
    refine hc_seq ?_
    refine hc_region ?_
    refine r_move rfl rfl ?_
    first | refine r_fieldAddr ⟨_, 1, none⟩ rfl rfl T.fa_api_Trades_1 rfl ?_ | refine r_fieldAddr _ rfl rfl T.fa_api_Trades_1 rfl ?_
    first | refine r_load rfl T.cell_L_api_Head rfl (cell_own (by repeat constructor) rfl) ?_ | refine r_load rfl T.cell_L_api_Head rfl (cell_blk (by repeat constructor) rfl) ?_ | refine r_load rfl T.cell_L_api_Head rfl (cell_row (by repeat constructor) (rows_get0 (by omega) rfl)) ?_ | refine r_load rfl T.cell_L_api_Head rfl (cell_row_f (by repeat constructor) (rows_get (by omega) rfl)) ?_ | refine r_load rfl T.cell_L_api_Head rfl (cell_rowg (by repeat constructor) rfl) ?_
    refine r_len_sl rfl T.u_L_api_Head rfl ?_
    refine r_lss rfl rfl rfl ?_
    refine hl_nil ?_
    refine then_n ?_
    first | refine c_dec rfl (fun hb6 => ?_) (fun hb6 => ?_) | refine hc_cond rfl (fun hb6 => ?_) (fun hb6 => ?_)
    ·have hb6' := hb6; try simp at hb6'
     have hk2 : k < hs.length := by omega
     refine hc_skip ?_
     refine then_n ?_
     refine hc_seq ?_
     refine hc_block ?_
     refine hc_seq ?_
     refine hc_region ?_
     refine r_assign rfl rfl ?_
     refine hl_nil ?_
     refine then_n ?_
     refine hc_seq ?_
     refine hc_seq ?_
     refine hc_region ?_
     refine r_assign rfl rfl ?_
     refine hl_nil ?_
     refine then_n ?_
     refine hc_block ?_
     refine hc_loop (β := Nat) ⟨fun j => j ≤ hs.length, fun j => [(3, .pointer (some ⟨gT, 0, none⟩)), (4, .slice y0.1 (mayT (trOf cs hs) []).length y0.2), (6, int i), (7, .slice o.1 (mayT (trOf cs hs) b).length o.2), (8, str w), (9, int n), (10, .slice y.1 (mayT (trOf cs hs) (w.take n)).length y.2), (12, int (lkF (trOf cs hs) (w.take n) k).length), (13, int k), (14, .bool ((List.range j).any fun h => leadsB (trOf cs hs) (w.take n) h k)), (15, int j)], fun _ => [], fun _ => (Row y.1 (rows (mayT (trOf cs hs) (w.take n))) :: (Row o.1 (rows (mayT (trOf cs hs) b)) :: (Row y0.1 (rows (mayT (trOf cs hs) [])) :: (Row HB (rows hs) :: [Blk gT (.cells #[.slice CA cs.length ca, .slice HB hs.length cb] T.api_Trades (0, 0)), Row CA (rows cs), RowsF HB hs Hd.row]))))⟩ (fun j => hs.length - j) 0 (Nat.zero_le _) ⟨rfl, rfl, rfl, rfl, rfl, rfl, rfl, rfl, rfl, rfl, rfl, trivial⟩ (List.nil_sublist _) ⟨(by repeat constructor), (by repeat constructor), (by repeat constructor), (by repeat constructor), (by repeat constructor), (by repeat constructor), (by repeat constructor), trivial⟩ fun j hj => ?_
     simp only at hj
     refine hc_seq ?_
     refine hc_seq ?_
     refine hc_region ?_
     refine r_move rfl rfl ?_
     first | refine r_fieldAddr ⟨_, 1, none⟩ rfl rfl T.fa_api_Trades_1 rfl ?_ | refine r_fieldAddr _ rfl rfl T.fa_api_Trades_1 rfl ?_
     first | refine r_load rfl T.cell_L_api_Head rfl (cell_own (by repeat constructor) rfl) ?_ | refine r_load rfl T.cell_L_api_Head rfl (cell_blk (by repeat constructor) rfl) ?_ | refine r_load rfl T.cell_L_api_Head rfl (cell_row (by repeat constructor) (rows_get0 (by omega) rfl)) ?_ | refine r_load rfl T.cell_L_api_Head rfl (cell_row_f (by repeat constructor) (rows_get (by omega) rfl)) ?_ | refine r_load rfl T.cell_L_api_Head rfl (cell_rowg (by repeat constructor) rfl) ?_
     refine r_len_sl rfl T.u_L_api_Head rfl ?_
     refine r_lss rfl rfl rfl ?_
     refine hl_nil ?_
     refine then_n ?_
     first | refine c_dec rfl (fun hb7 => ?_) (fun hb7 => ?_) | refine hc_cond rfl (fun hb7 => ?_) (fun hb7 => ?_)
     ·have hb7' := hb7; try simp at hb7'
      have hj2 : j < hs.length := by omega
      have hrg : 0 ≤ (j : Int) ∧ (j : Int) ≤ ((trOf cs hs).hs.length : Int) - 1 := by rw [hln]; omega
      have hno := fun h => follow_no hT0 hrg h
      have hsome := fun e m h => follow_is (e := e) (m := m) hT0 hrg h
      have hFm := trade_Follow_meets (A := CA) (B := HB) (ca := ca) (cb := cb) cs hs (j : Int) hca hcb ha
      change followT (trOf cs hs) (j : Int) = none → followE (trOf cs hs) (j : Int) = (0, 0, 9) at hno
      change ∀ e m, followT (trOf cs hs) (j : Int) = some (e, m) → followE (trOf cs hs) (j : Int) = (e, m, 0) at hsome
      change Meets Try.prog F.trade_Follow [.agg #[.slice CA cs.length ca, .slice HB hs.length cb], int j] { LI := [Row CA (rows cs), RowsF HB hs Hd.row], val := fun _ : Unit => .tuple #[int (followE (trOf cs hs) (j : Int)).1, int (followE (trOf cs hs) (j : Int)).2.1, int (followE (trOf cs hs) (j : Int)).2.2] } at hFm
      generalize followE (trOf cs hs) (j : Int) = fe at hno hsome hFm
      obtain ⟨x1, x2, x3⟩ := fe
      have hL := leads_eq hok (b := (w.take n)) hj2 hk2 hno hsome
      rw [htl] at hL
      refine hc_skip ?_
      refine then_n ?_
      refine hc_seq ?_
      refine hc_block ?_
      refine hc_seq ?_
      refine hc_region ?_
      first | refine r_loadA rfl T.row_api_Trades T.sz_api_Trades rfl (by repeat constructor) (by rfl) ?_ | refine r_loadB rfl T.row_api_Trades T.sz_api_Trades rfl (by repeat constructor) (by rfl) ?_ | refine r_loadS rfl T.row_api_Trades T.sz_api_Trades rfl rfl (cells_row (by repeat constructor) (rows_all (by omega))) ?_
      refine r_move rfl rfl ?_
      refine hl_call F.trade_Follow_cb rfl rfl hFm (List.Perm.refl _) ⟨(by repeat constructor), (by repeat constructor), trivial⟩ fun _ _ => ?_
      clear hFm
      refine r_move rfl rfl ?_
      refine r_extract rfl rfl rfl ?_
      refine r_extract rfl rfl rfl ?_
      refine r_extract rfl rfl rfl ?_
      refine r_assign rfl rfl ?_
      refine r_assign rfl rfl ?_
      refine r_assign rfl rfl ?_
      refine hl_nil ?_
      refine then_n ?_
      refine hc_seq ?_
      refine hc_region ?_
      first | refine r_fieldAddr ⟨_, 1, none⟩ rfl rfl T.fa_api_Trades_1 rfl ?_ | refine r_fieldAddr _ rfl rfl T.fa_api_Trades_1 rfl ?_
      first | refine r_load rfl T.cell_L_api_Head rfl (cell_own (by repeat constructor) rfl) ?_ | refine r_load rfl T.cell_L_api_Head rfl (cell_blk (by repeat constructor) rfl) ?_ | refine r_load rfl T.cell_L_api_Head rfl (cell_row (by repeat constructor) (rows_get0 (by omega) rfl)) ?_ | refine r_load rfl T.cell_L_api_Head rfl (cell_row_f (by repeat constructor) (rows_get (by omega) rfl)) ?_ | refine r_load rfl T.cell_L_api_Head rfl (cell_rowg (by repeat constructor) rfl) ?_
      refine r_move rfl rfl ?_
      refine r_elem (α := Hd) hs j rfl T.u_L_api_Head T.sz_api_Head rfl rfl rfl (by repeat constructor) rfl hj2 (by decide) ?_
      first | refine r_fieldAddr ⟨_, 0, none⟩ rfl rfl T.fa_api_Head_0 rfl ?_ | refine r_fieldAddr _ rfl rfl T.fa_api_Head_0 rfl ?_
      refine r_load (v := str (hs.getD j default).1) rfl T.cell_string rfl (cell_row_f (by repeat constructor) (rows_get hj2 rfl)) ?_
      refine r_assign rfl rfl ?_
      refine hl_nil ?_
      refine then_n ?_
      refine hc_draw 31 mixed (by decide) (by decide) rfl rfl ?_
      apply hb_ex _ rfl rfl rfl
      ·intro w1
       refine r_move rfl rfl ?_
       refine hl_nil ?_
       exact qe_done rfl
      apply hb_ex _ rfl rfl rfl
      ·intro w1
       refine r_move rfl rfl ?_
       refine hl_nil ?_
       exact qe_done rfl
      refine hb_split (t := 100) (want := false) rfl ?_ ?_
      ·intro hg1; have hg1' := hg1; try simp at hg1'
       apply hb_ex _ rfl rfl rfl
       ·intro w1
        refine g_yes rfl rfl hg1 ?_
        refine r_move rfl rfl ?_
        refine hl_nil ?_
        exact qe_done rfl
       apply hb_ex _ rfl rfl rfl
       ·intro w1
        refine g_yes rfl rfl hg1 ?_
        refine r_eql rfl rfl rfl ?_
        refine hl_nil ?_
        exact qe_done rfl
       apply hb_ex _ rfl rfl rfl
       ·intro w1
        refine g_yes rfl rfl hg1 ?_
        refine r_move rfl rfl ?_
        refine hl_nil ?_
        exact qe_done rfl
       refine hb_split (t := 103) (want := true) rfl ?_ ?_
       ·intro hg2; have hg2' := hg2; try simp at hg2'
        apply hb_ex _ rfl rfl rfl
        ·intro w1
         refine g_yes rfl rfl hg2 ?_
         refine r_move rfl rfl ?_
         refine hl_nil ?_
         exact qe_done rfl
        apply hb_ex _ rfl rfl rfl
        ·intro w1
         refine g_yes rfl rfl hg2 ?_
         refine r_move rfl rfl ?_
         refine hl_nil ?_
         exact qe_done rfl
        apply hb_ex _ rfl rfl rfl
        ·intro w1
         refine g_yes rfl rfl hg2 ?_
         refine r_eql rfl rfl rfl ?_
         refine hl_nil ?_
         exact qe_done rfl
        apply hb_ex _ rfl rfl rfl
        ·intro w1
         refine g_yes rfl rfl hg1 ?_
         refine p_t rfl rfl (bt1 hg2) rfl ?_
         refine hl_nil ?_
         exact qe_done rfl
        apply hb_ex _ rfl rfl rfl
        ·intro w1
         refine g_yes rfl rfl hg1 ?_
         refine r_move rfl rfl ?_
         refine hl_nil ?_
         exact qe_done rfl
        refine hb_split (t := 108) (want := true) rfl ?_ ?_
        ·intro hg3; have hg3' := hg3; try simp at hg3'
         apply hb_ex _ rfl rfl rfl
         ·intro w1
          refine g_yes rfl rfl hg3 ?_
          first | refine r_fieldAddr ⟨_, 1, none⟩ rfl rfl T.fa_api_Trades_1 rfl ?_ | refine r_fieldAddr _ rfl rfl T.fa_api_Trades_1 rfl ?_
          refine hl_nil ?_
          exact qe_done rfl
         apply hb_ex _ rfl rfl rfl
         ·intro w1
          refine g_yes rfl rfl hg3 ?_
          first | refine r_load rfl T.cell_L_api_Head rfl (cell_blk (by repeat constructor) rfl) ?_ | refine r_load rfl T.cell_L_api_Head rfl (cell_own (by repeat constructor) rfl) ?_ | refine r_load rfl T.cell_L_api_Head rfl (cell_row (by repeat constructor) (rows_get0 (by omega) rfl)) ?_ | refine r_load rfl T.cell_L_api_Head rfl (cell_row_f (by repeat constructor) (rows_get (by omega) rfl)) ?_ | refine r_load rfl T.cell_L_api_Head rfl (cell_rowg (by repeat constructor) rfl) ?_
          refine hl_nil ?_
          exact qe_done rfl
         apply hb_ex _ rfl rfl rfl
         ·intro w1
          refine g_yes rfl rfl hg3 ?_
          refine r_move rfl rfl ?_
          refine hl_nil ?_
          exact qe_done rfl
         apply hb_ex _ rfl rfl rfl
         ·intro w1
          refine g_yes rfl rfl hg3 ?_
          refine r_elem (α := Hd) hs k rfl T.u_L_api_Head T.sz_api_Head rfl rfl rfl (by repeat constructor) rfl hk2 (by decide) ?_
          refine hl_nil ?_
          exact qe_done rfl
         apply hb_ex _ rfl rfl rfl
         ·intro w1
          refine g_yes rfl rfl hg3 ?_
          first | refine r_fieldAddr ⟨_, 1, none⟩ rfl rfl T.fa_api_Head_1 rfl ?_ | refine r_fieldAddr _ rfl rfl T.fa_api_Head_1 rfl ?_
          refine hl_nil ?_
          exact qe_done rfl
         apply hb_ex _ rfl rfl rfl
         ·intro w1
          refine g_yes rfl rfl hg3 ?_
          refine r_load (v := int (hs.getD k default).2.1) rfl T.cell_int rfl (cell_row_f (by repeat constructor) (rows_get hk2 rfl)) ?_
          refine hl_nil ?_
          exact qe_done rfl
         apply hb_ex _ rfl rfl rfl
         ·intro w1
          refine g_yes rfl rfl hg3 ?_
          refine r_geq rfl rfl rfl ?_
          refine hl_nil ?_
          exact qe_done rfl
         apply hb_ex _ rfl rfl rfl
         ·intro w1
          refine g_yes rfl rfl hg1 ?_
          refine p_t rfl rfl (bt1 hg3) rfl ?_
          refine hl_nil ?_
          exact qe_done rfl
         apply hb_ex _ rfl rfl rfl
         ·intro w1
          refine g_yes rfl rfl hg1 ?_
          refine r_move rfl rfl ?_
          refine hl_nil ?_
          exact qe_done rfl
         refine hb_split (t := 117) (want := true) rfl ?_ ?_
         ·intro hg4; have hg4' := hg4; try simp at hg4'
          apply hb_ex _ rfl rfl rfl
          ·intro w1
           refine g_yes rfl rfl hg4 ?_
           refine r_move rfl rfl ?_
           refine hl_nil ?_
           exact qe_done rfl
          apply hb_ex _ rfl rfl rfl
          ·intro w1
           refine g_yes rfl rfl hg4 ?_
           refine r_len_str rfl T.u_string rfl ?_
           refine hl_nil ?_
           exact qe_done rfl
          apply hb_ex _ rfl rfl rfl
          ·intro w1
           refine g_yes rfl rfl hg4 ?_
           refine r_move rfl rfl ?_
           refine hl_nil ?_
           exact qe_done rfl
          apply hb_ex _ rfl rfl rfl
          ·intro w1
           refine g_yes rfl rfl hg4 ?_
           refine r_geq rfl rfl rfl ?_
           refine hl_nil ?_
           exact qe_done rfl
          apply hb_ex _ rfl rfl rfl
          ·intro w1
           refine g_yes rfl rfl hg1 ?_
           refine p_t rfl rfl (bt1 hg4) rfl ?_
           refine hl_nil ?_
           exact qe_done rfl
          apply hb_ex _ rfl rfl rfl
          ·intro w1
           refine g_yes rfl rfl hg1 ?_
           refine r_move rfl rfl ?_
           refine hl_nil ?_
           exact qe_done rfl
          refine hb_split (t := 123) (want := true) rfl ?_ ?_
          ·intro hg5; have hg5' := hg5; try simp at hg5'
           apply hb_ex _ rfl rfl rfl
           ·intro w1
            refine g_yes rfl rfl hg5 ?_
            refine r_move rfl rfl ?_
            refine hl_nil ?_
            exact qe_done rfl
           apply hb_ex _ rfl rfl rfl
           ·intro w1
            refine g_yes rfl rfl hg5 ?_
            refine r_move rfl rfl ?_
            refine hl_nil ?_
            exact qe_done rfl
           apply hb_ex _ rfl rfl rfl
           ·intro w1
            refine g_yes rfl rfl hg5 ?_
            refine r_sslice_hi n rfl T.u_string rfl rfl rfl (by have h9 := of_decide_eq_true (eq_of_beq hg5); omega) ?_
            refine hl_nil ?_
            exact qe_done rfl
           apply hb_ex _ rfl rfl rfl
           ·intro w1
            refine g_yes rfl rfl hg5 ?_
            refine r_move rfl rfl ?_
            refine hl_nil ?_
            exact qe_done rfl
           apply hb_ex _ rfl rfl rfl
           ·intro w1
            refine g_yes rfl rfl hg5 ?_
            refine r_move rfl rfl ?_
            refine hl_nil ?_
            exact qe_done rfl
           apply hb_ex _ rfl rfl rfl
           ·intro w1
            refine g_yes rfl rfl hg5 ?_
            refine r_sslice_hi n rfl T.u_string rfl rfl rfl (by omega) ?_
            refine hl_nil ?_
            exact qe_done rfl
           refine hb_nil ⟨rfl, ?_⟩
           refine g_yes rfl rfl hg5 ?_
           refine r_seql rfl rfl rfl ?_
           refine g_yes rfl rfl hg1 ?_
           refine p_t rfl rfl (bt1 hg5) rfl ?_
           refine p_f rfl rfl (bf1 hg1) rfl ?_
           refine r_assign rfl rfl ?_
           refine hl_nil ?_
           refine inb_n ?_
           refine then_n ?_
           refine hc_region ?_
           refine r_move rfl rfl ?_
           refine r_add _ rfl rfl rfl rfl (by unfold I64; omega) ?_
           refine r_assign rfl rfl ?_
           refine hl_nil ?_
           exact again _ (j + 1) (by show j + 1 ≤ hs.length; omega) (by show hs.length - (j + 1) < hs.length - j; omega) ⟨rfl, rfl, rfl, rfl, rfl, rfl, rfl, rfl, rfl, congrArg (fun b => some (Value.bool b)) (show _ = ((List.range (j + 1)).any fun h => leadsB (trOf cs hs) (w.take n) h k) from by rw [any_succ, hL]; exact lg6 hg1 hg2 hg3 hg4 hg5), rfl, trivial⟩ (List.nil_sublist _) ⟨(by repeat constructor), (by repeat constructor), (by repeat constructor), (by repeat constructor), (by repeat constructor), (by repeat constructor), (by repeat constructor), trivial⟩
          ·intro hg5; have hg5' := hg5; try simp at hg5'
           apply hb_ex _ rfl rfl rfl
           ·intro w1
            refine g_no rfl rfl rfl rfl rfl hg5 ?_
            refine hl_nil ?_
            exact qe_done rfl
           apply hb_ex _ rfl rfl rfl
           ·intro w1
            refine g_no rfl rfl rfl rfl rfl hg5 ?_
            refine hl_nil ?_
            exact qe_done rfl
           apply hb_ex _ rfl rfl rfl
           ·intro w1
            refine g_no rfl rfl rfl rfl rfl hg5 ?_
            refine hl_nil ?_
            exact qe_done rfl
           apply hb_ex _ rfl rfl rfl
           ·intro w1
            refine g_no rfl rfl rfl rfl rfl hg5 ?_
            refine hl_nil ?_
            exact qe_done rfl
           apply hb_ex _ rfl rfl rfl
           ·intro w1
            refine g_no rfl rfl rfl rfl rfl hg5 ?_
            refine hl_nil ?_
            exact qe_done rfl
           apply hb_ex _ rfl rfl rfl
           ·intro w1
            refine g_no rfl rfl rfl rfl rfl hg5 ?_
            refine hl_nil ?_
            exact qe_done rfl
           refine hb_nil ⟨rfl, ?_⟩
           refine g_no rfl rfl rfl rfl rfl hg5 ?_
           refine g_yes rfl rfl hg1 ?_
           refine p_f rfl rfl (bf2 hg5) rfl ?_
           refine p_f rfl rfl (bf1 hg1) rfl ?_
           refine r_assign rfl rfl ?_
           refine hl_nil ?_
           refine inb_n ?_
           refine then_n ?_
           refine hc_region ?_
           refine r_move rfl rfl ?_
           refine r_add _ rfl rfl rfl rfl (by unfold I64; omega) ?_
           refine r_assign rfl rfl ?_
           refine hl_nil ?_
           exact again _ (j + 1) (by show j + 1 ≤ hs.length; omega) (by show hs.length - (j + 1) < hs.length - j; omega) ⟨rfl, rfl, rfl, rfl, rfl, rfl, rfl, rfl, rfl, congrArg (fun b => some (Value.bool b)) (show _ = ((List.range (j + 1)).any fun h => leadsB (trOf cs hs) (w.take n) h k) from by rw [any_succ, hL]; exact lg5 hg1 hg5), rfl, trivial⟩ (List.nil_sublist _) ⟨(by repeat constructor), (by repeat constructor), (by repeat constructor), (by repeat constructor), (by repeat constructor), (by repeat constructor), (by repeat constructor), trivial⟩
         ·intro hg4; have hg4' := hg4; try simp at hg4'
          apply hb_ex _ rfl rfl rfl
          ·intro w1
           refine g_no rfl rfl rfl rfl rfl hg4 ?_
           refine hl_nil ?_
           exact qe_done rfl
          apply hb_ex _ rfl rfl rfl
          ·intro w1
           refine g_no rfl rfl rfl rfl rfl hg4 ?_
           refine hl_nil ?_
           exact qe_done rfl
          apply hb_ex _ rfl rfl rfl
          ·intro w1
           refine g_no rfl rfl rfl rfl rfl hg4 ?_
           refine hl_nil ?_
           exact qe_done rfl
          apply hb_ex _ rfl rfl rfl
          ·intro w1
           refine g_no rfl rfl rfl rfl rfl hg4 ?_
           refine hl_nil ?_
           exact qe_done rfl
          apply hb_ex _ rfl rfl rfl
          ·intro w1
           refine g_yes rfl rfl hg1 ?_
           refine p_f rfl rfl (bf2 hg4) rfl ?_
           refine hl_nil ?_
           exact qe_done rfl
          apply hb_ex _ rfl rfl rfl
          ·intro w1
           refine g_yes rfl rfl hg1 ?_
           refine r_move rfl rfl ?_
           refine hl_nil ?_
           exact qe_done rfl
          apply hb_ex _ rfl rfl rfl
          ·intro w1
           refine g_no rfl rfl rfl rfl rfl rfl ?_
           refine hl_nil ?_
           exact qe_done rfl
          apply hb_ex _ rfl rfl rfl
          ·intro w1
           refine g_no rfl rfl rfl rfl rfl rfl ?_
           refine hl_nil ?_
           exact qe_done rfl
          apply hb_ex _ rfl rfl rfl
          ·intro w1
           refine g_no rfl rfl rfl rfl rfl rfl ?_
           refine hl_nil ?_
           exact qe_done rfl
          apply hb_ex _ rfl rfl rfl
          ·intro w1
           refine g_no rfl rfl rfl rfl rfl rfl ?_
           refine hl_nil ?_
           exact qe_done rfl
          apply hb_ex _ rfl rfl rfl
          ·intro w1
           refine g_no rfl rfl rfl rfl rfl rfl ?_
           refine hl_nil ?_
           exact qe_done rfl
          apply hb_ex _ rfl rfl rfl
          ·intro w1
           refine g_no rfl rfl rfl rfl rfl rfl ?_
           refine hl_nil ?_
           exact qe_done rfl
          refine hb_nil ⟨rfl, ?_⟩
          refine g_no rfl rfl rfl rfl rfl rfl ?_
          refine g_yes rfl rfl hg1 ?_
          refine p_f rfl rfl rfl rfl ?_
          refine p_f rfl rfl (bf1 hg1) rfl ?_
          refine r_assign rfl rfl ?_
          refine hl_nil ?_
          refine inb_n ?_
          refine then_n ?_
          refine hc_region ?_
          refine r_move rfl rfl ?_
          refine r_add _ rfl rfl rfl rfl (by unfold I64; omega) ?_
          refine r_assign rfl rfl ?_
          refine hl_nil ?_
          exact again _ (j + 1) (by show j + 1 ≤ hs.length; omega) (by show hs.length - (j + 1) < hs.length - j; omega) ⟨rfl, rfl, rfl, rfl, rfl, rfl, rfl, rfl, rfl, congrArg (fun b => some (Value.bool b)) (show _ = ((List.range (j + 1)).any fun h => leadsB (trOf cs hs) (w.take n) h k) from by rw [any_succ, hL]; exact lg4 hg1 hg4), rfl, trivial⟩ (List.nil_sublist _) ⟨(by repeat constructor), (by repeat constructor), (by repeat constructor), (by repeat constructor), (by repeat constructor), (by repeat constructor), (by repeat constructor), trivial⟩
        ·intro hg3; have hg3' := hg3; try simp at hg3'
         apply hb_ex _ rfl rfl rfl
         ·intro w1
          refine g_no rfl rfl rfl rfl rfl hg3 ?_
          refine hl_nil ?_
          exact qe_done rfl
         apply hb_ex _ rfl rfl rfl
         ·intro w1
          refine g_no rfl rfl rfl rfl rfl hg3 ?_
          refine hl_nil ?_
          exact qe_done rfl
         apply hb_ex _ rfl rfl rfl
         ·intro w1
          refine g_no rfl rfl rfl rfl rfl hg3 ?_
          refine hl_nil ?_
          exact qe_done rfl
         apply hb_ex _ rfl rfl rfl
         ·intro w1
          refine g_no rfl rfl rfl rfl rfl hg3 ?_
          refine hl_nil ?_
          exact qe_done rfl
         apply hb_ex _ rfl rfl rfl
         ·intro w1
          refine g_no rfl rfl rfl rfl rfl hg3 ?_
          refine hl_nil ?_
          exact qe_done rfl
         apply hb_ex _ rfl rfl rfl
         ·intro w1
          refine g_no rfl rfl rfl rfl rfl hg3 ?_
          refine hl_nil ?_
          exact qe_done rfl
         apply hb_ex _ rfl rfl rfl
         ·intro w1
          refine g_no rfl rfl rfl rfl rfl hg3 ?_
          refine hl_nil ?_
          exact qe_done rfl
         apply hb_ex _ rfl rfl rfl
         ·intro w1
          refine g_yes rfl rfl hg1 ?_
          refine p_f rfl rfl (bf2 hg3) rfl ?_
          refine hl_nil ?_
          exact qe_done rfl
         apply hb_ex _ rfl rfl rfl
         ·intro w1
          refine g_yes rfl rfl hg1 ?_
          refine r_move rfl rfl ?_
          refine hl_nil ?_
          exact qe_done rfl
         apply hb_ex _ rfl rfl rfl
         ·intro w1
          refine g_no rfl rfl rfl rfl rfl rfl ?_
          refine hl_nil ?_
          exact qe_done rfl
         apply hb_ex _ rfl rfl rfl
         ·intro w1
          refine g_no rfl rfl rfl rfl rfl rfl ?_
          refine hl_nil ?_
          exact qe_done rfl
         apply hb_ex _ rfl rfl rfl
         ·intro w1
          refine g_no rfl rfl rfl rfl rfl rfl ?_
          refine hl_nil ?_
          exact qe_done rfl
         apply hb_ex _ rfl rfl rfl
         ·intro w1
          refine g_no rfl rfl rfl rfl rfl rfl ?_
          refine hl_nil ?_
          exact qe_done rfl
         apply hb_ex _ rfl rfl rfl
         ·intro w1
          refine g_yes rfl rfl hg1 ?_
          refine p_f rfl rfl rfl rfl ?_
          refine hl_nil ?_
          exact qe_done rfl
         apply hb_ex _ rfl rfl rfl
         ·intro w1
          refine g_yes rfl rfl hg1 ?_
          refine r_move rfl rfl ?_
          refine hl_nil ?_
          exact qe_done rfl
         apply hb_ex _ rfl rfl rfl
         ·intro w1
          refine g_no rfl rfl rfl rfl rfl rfl ?_
          refine hl_nil ?_
          exact qe_done rfl
         apply hb_ex _ rfl rfl rfl
         ·intro w1
          refine g_no rfl rfl rfl rfl rfl rfl ?_
          refine hl_nil ?_
          exact qe_done rfl
         apply hb_ex _ rfl rfl rfl
         ·intro w1
          refine g_no rfl rfl rfl rfl rfl rfl ?_
          refine hl_nil ?_
          exact qe_done rfl
         apply hb_ex _ rfl rfl rfl
         ·intro w1
          refine g_no rfl rfl rfl rfl rfl rfl ?_
          refine hl_nil ?_
          exact qe_done rfl
         apply hb_ex _ rfl rfl rfl
         ·intro w1
          refine g_no rfl rfl rfl rfl rfl rfl ?_
          refine hl_nil ?_
          exact qe_done rfl
         apply hb_ex _ rfl rfl rfl
         ·intro w1
          refine g_no rfl rfl rfl rfl rfl rfl ?_
          refine hl_nil ?_
          exact qe_done rfl
         refine hb_nil ⟨rfl, ?_⟩
         refine g_no rfl rfl rfl rfl rfl rfl ?_
         refine g_yes rfl rfl hg1 ?_
         refine p_f rfl rfl rfl rfl ?_
         refine p_f rfl rfl (bf1 hg1) rfl ?_
         refine r_assign rfl rfl ?_
         refine hl_nil ?_
         refine inb_n ?_
         refine then_n ?_
         refine hc_region ?_
         refine r_move rfl rfl ?_
         refine r_add _ rfl rfl rfl rfl (by unfold I64; omega) ?_
         refine r_assign rfl rfl ?_
         refine hl_nil ?_
         exact again _ (j + 1) (by show j + 1 ≤ hs.length; omega) (by show hs.length - (j + 1) < hs.length - j; omega) ⟨rfl, rfl, rfl, rfl, rfl, rfl, rfl, rfl, rfl, congrArg (fun b => some (Value.bool b)) (show _ = ((List.range (j + 1)).any fun h => leadsB (trOf cs hs) (w.take n) h k) from by rw [any_succ, hL]; exact lg3 hg1 hg2 hg3), rfl, trivial⟩ (List.nil_sublist _) ⟨(by repeat constructor), (by repeat constructor), (by repeat constructor), (by repeat constructor), (by repeat constructor), (by repeat constructor), (by repeat constructor), trivial⟩
       ·intro hg2; have hg2' := hg2; try simp at hg2'
        apply hb_ex _ rfl rfl rfl
        ·intro w1
         refine g_no rfl rfl rfl rfl rfl hg2 ?_
         refine hl_nil ?_
         exact qe_done rfl
        apply hb_ex _ rfl rfl rfl
        ·intro w1
         refine g_no rfl rfl rfl rfl rfl hg2 ?_
         refine hl_nil ?_
         exact qe_done rfl
        apply hb_ex _ rfl rfl rfl
        ·intro w1
         refine g_no rfl rfl rfl rfl rfl hg2 ?_
         refine hl_nil ?_
         exact qe_done rfl
        apply hb_ex _ rfl rfl rfl
        ·intro w1
         refine g_yes rfl rfl hg1 ?_
         refine p_f rfl rfl (bf2 hg2) rfl ?_
         refine hl_nil ?_
         exact qe_done rfl
        apply hb_ex _ rfl rfl rfl
        ·intro w1
         refine g_yes rfl rfl hg1 ?_
         refine r_move rfl rfl ?_
         refine hl_nil ?_
         exact qe_done rfl
        apply hb_ex _ rfl rfl rfl
        ·intro w1
         refine g_no rfl rfl rfl rfl rfl rfl ?_
         refine hl_nil ?_
         exact qe_done rfl
        apply hb_ex _ rfl rfl rfl
        ·intro w1
         refine g_no rfl rfl rfl rfl rfl rfl ?_
         refine hl_nil ?_
         exact qe_done rfl
        apply hb_ex _ rfl rfl rfl
        ·intro w1
         refine g_no rfl rfl rfl rfl rfl rfl ?_
         refine hl_nil ?_
         exact qe_done rfl
        apply hb_ex _ rfl rfl rfl
        ·intro w1
         refine g_no rfl rfl rfl rfl rfl rfl ?_
         refine hl_nil ?_
         exact qe_done rfl
        apply hb_ex _ rfl rfl rfl
        ·intro w1
         refine g_no rfl rfl rfl rfl rfl rfl ?_
         refine hl_nil ?_
         exact qe_done rfl
        apply hb_ex _ rfl rfl rfl
        ·intro w1
         refine g_no rfl rfl rfl rfl rfl rfl ?_
         refine hl_nil ?_
         exact qe_done rfl
        apply hb_ex _ rfl rfl rfl
        ·intro w1
         refine g_no rfl rfl rfl rfl rfl rfl ?_
         refine hl_nil ?_
         exact qe_done rfl
        apply hb_ex _ rfl rfl rfl
        ·intro w1
         refine g_yes rfl rfl hg1 ?_
         refine p_f rfl rfl rfl rfl ?_
         refine hl_nil ?_
         exact qe_done rfl
        apply hb_ex _ rfl rfl rfl
        ·intro w1
         refine g_yes rfl rfl hg1 ?_
         refine r_move rfl rfl ?_
         refine hl_nil ?_
         exact qe_done rfl
        apply hb_ex _ rfl rfl rfl
        ·intro w1
         refine g_no rfl rfl rfl rfl rfl rfl ?_
         refine hl_nil ?_
         exact qe_done rfl
        apply hb_ex _ rfl rfl rfl
        ·intro w1
         refine g_no rfl rfl rfl rfl rfl rfl ?_
         refine hl_nil ?_
         exact qe_done rfl
        apply hb_ex _ rfl rfl rfl
        ·intro w1
         refine g_no rfl rfl rfl rfl rfl rfl ?_
         refine hl_nil ?_
         exact qe_done rfl
        apply hb_ex _ rfl rfl rfl
        ·intro w1
         refine g_no rfl rfl rfl rfl rfl rfl ?_
         refine hl_nil ?_
         exact qe_done rfl
        apply hb_ex _ rfl rfl rfl
        ·intro w1
         refine g_yes rfl rfl hg1 ?_
         refine p_f rfl rfl rfl rfl ?_
         refine hl_nil ?_
         exact qe_done rfl
        apply hb_ex _ rfl rfl rfl
        ·intro w1
         refine g_yes rfl rfl hg1 ?_
         refine r_move rfl rfl ?_
         refine hl_nil ?_
         exact qe_done rfl
        apply hb_ex _ rfl rfl rfl
        ·intro w1
         refine g_no rfl rfl rfl rfl rfl rfl ?_
         refine hl_nil ?_
         exact qe_done rfl
        apply hb_ex _ rfl rfl rfl
        ·intro w1
         refine g_no rfl rfl rfl rfl rfl rfl ?_
         refine hl_nil ?_
         exact qe_done rfl
        apply hb_ex _ rfl rfl rfl
        ·intro w1
         refine g_no rfl rfl rfl rfl rfl rfl ?_
         refine hl_nil ?_
         exact qe_done rfl
        apply hb_ex _ rfl rfl rfl
        ·intro w1
         refine g_no rfl rfl rfl rfl rfl rfl ?_
         refine hl_nil ?_
         exact qe_done rfl
        apply hb_ex _ rfl rfl rfl
        ·intro w1
         refine g_no rfl rfl rfl rfl rfl rfl ?_
         refine hl_nil ?_
         exact qe_done rfl
        apply hb_ex _ rfl rfl rfl
        ·intro w1
         refine g_no rfl rfl rfl rfl rfl rfl ?_
         refine hl_nil ?_
         exact qe_done rfl
        refine hb_nil ⟨rfl, ?_⟩
        refine g_no rfl rfl rfl rfl rfl rfl ?_
        refine g_yes rfl rfl hg1 ?_
        refine p_f rfl rfl rfl rfl ?_
        refine p_f rfl rfl (bf1 hg1) rfl ?_
        refine r_assign rfl rfl ?_
        refine hl_nil ?_
        refine inb_n ?_
        refine then_n ?_
        refine hc_region ?_
        refine r_move rfl rfl ?_
        refine r_add _ rfl rfl rfl rfl (by unfold I64; omega) ?_
        refine r_assign rfl rfl ?_
        refine hl_nil ?_
        exact again _ (j + 1) (by show j + 1 ≤ hs.length; omega) (by show hs.length - (j + 1) < hs.length - j; omega) ⟨rfl, rfl, rfl, rfl, rfl, rfl, rfl, rfl, rfl, congrArg (fun b => some (Value.bool b)) (show _ = ((List.range (j + 1)).any fun h => leadsB (trOf cs hs) (w.take n) h k) from by rw [any_succ, hL]; exact lg2 hg1 hg2), rfl, trivial⟩ (List.nil_sublist _) ⟨(by repeat constructor), (by repeat constructor), (by repeat constructor), (by repeat constructor), (by repeat constructor), (by repeat constructor), (by repeat constructor), trivial⟩
      ·intro hg1; have hg1' := hg1; try simp at hg1'
       apply hb_ex _ rfl rfl rfl
       ·intro w1
        refine g_no rfl rfl rfl rfl rfl hg1 ?_
        refine hl_nil ?_
        exact qe_done rfl
       apply hb_ex _ rfl rfl rfl
       ·intro w1
        refine g_no rfl rfl rfl rfl rfl hg1 ?_
        refine hl_nil ?_
        exact qe_done rfl
       apply hb_ex _ rfl rfl rfl
       ·intro w1
        refine g_no rfl rfl rfl rfl rfl hg1 ?_
        refine hl_nil ?_
        exact qe_done rfl
       apply hb_ex _ rfl rfl rfl
       ·intro w1
        refine g_und rfl rfl rfl rfl rfl rfl ?_
        refine hl_nil ?_
        exact qe_done rfl
       apply hb_ex _ rfl rfl rfl
       ·intro w1
        refine g_und rfl rfl rfl rfl rfl rfl ?_
        refine hl_nil ?_
        exact qe_done rfl
       apply hb_ex _ rfl rfl rfl
       ·intro w1
        refine g_und rfl rfl rfl rfl rfl rfl ?_
        refine hl_nil ?_
        exact qe_done rfl
       apply hb_ex _ rfl rfl rfl
       ·intro w1
        refine g_no rfl rfl rfl rfl rfl hg1 ?_
        refine hl_nil ?_
        exact qe_done rfl
       apply hb_ex _ rfl rfl rfl
       ·intro w1
        refine g_no rfl rfl rfl rfl rfl hg1 ?_
        refine hl_nil ?_
        exact qe_done rfl
       apply hb_ex _ rfl rfl rfl
       ·intro w1
        refine g_und rfl rfl rfl rfl rfl rfl ?_
        refine hl_nil ?_
        exact qe_done rfl
       apply hb_ex _ rfl rfl rfl
       ·intro w1
        refine g_und rfl rfl rfl rfl rfl rfl ?_
        refine hl_nil ?_
        exact qe_done rfl
       apply hb_ex _ rfl rfl rfl
       ·intro w1
        refine g_und rfl rfl rfl rfl rfl rfl ?_
        refine hl_nil ?_
        exact qe_done rfl
       apply hb_ex _ rfl rfl rfl
       ·intro w1
        refine g_und rfl rfl rfl rfl rfl rfl ?_
        refine hl_nil ?_
        exact qe_done rfl
       apply hb_ex _ rfl rfl rfl
       ·intro w1
        refine g_und rfl rfl rfl rfl rfl rfl ?_
        refine hl_nil ?_
        exact qe_done rfl
       apply hb_ex _ rfl rfl rfl
       ·intro w1
        refine g_und rfl rfl rfl rfl rfl rfl ?_
        refine hl_nil ?_
        exact qe_done rfl
       apply hb_ex _ rfl rfl rfl
       ·intro w1
        refine g_und rfl rfl rfl rfl rfl rfl ?_
        refine hl_nil ?_
        exact qe_done rfl
       apply hb_ex _ rfl rfl rfl
       ·intro w1
        refine g_no rfl rfl rfl rfl rfl hg1 ?_
        refine hl_nil ?_
        exact qe_done rfl
       apply hb_ex _ rfl rfl rfl
       ·intro w1
        refine g_no rfl rfl rfl rfl rfl hg1 ?_
        refine hl_nil ?_
        exact qe_done rfl
       apply hb_ex _ rfl rfl rfl
       ·intro w1
        refine g_und rfl rfl rfl rfl rfl rfl ?_
        refine hl_nil ?_
        exact qe_done rfl
       apply hb_ex _ rfl rfl rfl
       ·intro w1
        refine g_und rfl rfl rfl rfl rfl rfl ?_
        refine hl_nil ?_
        exact qe_done rfl
       apply hb_ex _ rfl rfl rfl
       ·intro w1
        refine g_und rfl rfl rfl rfl rfl rfl ?_
        refine hl_nil ?_
        exact qe_done rfl
       apply hb_ex _ rfl rfl rfl
       ·intro w1
        refine g_und rfl rfl rfl rfl rfl rfl ?_
        refine hl_nil ?_
        exact qe_done rfl
       apply hb_ex _ rfl rfl rfl
       ·intro w1
        refine g_no rfl rfl rfl rfl rfl hg1 ?_
        refine hl_nil ?_
        exact qe_done rfl
       apply hb_ex _ rfl rfl rfl
       ·intro w1
        refine g_no rfl rfl rfl rfl rfl hg1 ?_
        refine hl_nil ?_
        exact qe_done rfl
       apply hb_ex _ rfl rfl rfl
       ·intro w1
        refine g_und rfl rfl rfl rfl rfl rfl ?_
        refine hl_nil ?_
        exact qe_done rfl
       apply hb_ex _ rfl rfl rfl
       ·intro w1
        refine g_und rfl rfl rfl rfl rfl rfl ?_
        refine hl_nil ?_
        exact qe_done rfl
       apply hb_ex _ rfl rfl rfl
       ·intro w1
        refine g_und rfl rfl rfl rfl rfl rfl ?_
        refine hl_nil ?_
        exact qe_done rfl
       apply hb_ex _ rfl rfl rfl
       ·intro w1
        refine g_und rfl rfl rfl rfl rfl rfl ?_
        refine hl_nil ?_
        exact qe_done rfl
       apply hb_ex _ rfl rfl rfl
       ·intro w1
        refine g_und rfl rfl rfl rfl rfl rfl ?_
        refine hl_nil ?_
        exact qe_done rfl
       apply hb_ex _ rfl rfl rfl
       ·intro w1
        refine g_und rfl rfl rfl rfl rfl rfl ?_
        refine hl_nil ?_
        exact qe_done rfl
       refine hb_nil ⟨rfl, ?_⟩
       refine g_und rfl rfl rfl rfl rfl rfl ?_
       refine g_no rfl rfl rfl rfl rfl hg1 ?_
       refine p_t rfl rfl (bt2 hg1) rfl ?_
       refine r_assign rfl rfl ?_
       refine hl_nil ?_
       refine inb_n ?_
       refine then_n ?_
       refine hc_region ?_
       refine r_move rfl rfl ?_
       refine r_add _ rfl rfl rfl rfl (by unfold I64; omega) ?_
       refine r_assign rfl rfl ?_
       refine hl_nil ?_
       exact again _ (j + 1) (by show j + 1 ≤ hs.length; omega) (by show hs.length - (j + 1) < hs.length - j; omega) ⟨rfl, rfl, rfl, rfl, rfl, rfl, rfl, rfl, rfl, congrArg (fun b => some (Value.bool b)) (show _ = ((List.range (j + 1)).any fun h => leadsB (trOf cs hs) (w.take n) h k) from by rw [any_succ, hL]; exact lg1 hg1), rfl, trivial⟩ (List.nil_sublist _) ⟨(by repeat constructor), (by repeat constructor), (by repeat constructor), (by repeat constructor), (by repeat constructor), (by repeat constructor), (by repeat constructor), trivial⟩
     ·have hb7' := hb7; try simp at hb7'
      obtain rfl : j = hs.length := by omega
      rw [hln] at hls
      refine hc_exit ?_
      refine then_exit ?_
      refine then_exit ?_
      refine inb_hit ?_
      refine then_n ?_
      refine hc_seq ?_
      refine hc_region ?_
      refine r_move rfl rfl ?_
      refine hl_nil ?_
      refine then_n ?_
      first | refine c_dec rfl (fun hb8 => ?_) (fun hb8 => ?_) | refine hc_cond rfl (fun hb8 => ?_) (fun hb8 => ?_)
      ·have hb8' := hb8; try simp at hb8'
       rw [if_pos hb8] at hls
       have hAt := lkF_at (t := (trOf cs hs)) (b := (w.take n)) (k := k) (by rw [hln]; exact hk2) (by rw [hln]; exact hb8)
       have hkm : (k : Int) ∈ (mayT (trOf cs hs) (w.take n)) := by rw [← hAt.2]; exact getD_mem hAt.1
       have hkb : (k : Int) ∈ (mayT (trOf cs hs) b) := may_longer hbp hkm
       refine hc_seq ?_
       refine hc_cut ⟨fun _ : Unit => True, fun _ => [(3, .pointer (some ⟨gT, 0, none⟩)), (4, .slice y0.1 (mayT (trOf cs hs) []).length y0.2), (6, int i), (7, .slice o.1 (mayT (trOf cs hs) b).length o.2), (8, str w), (9, int n), (10, .slice y.1 (mayT (trOf cs hs) (w.take n)).length y.2), (12, int (lkF (trOf cs hs) (w.take n) k).length), (13, int k), (151, .bool false)], fun _ => [], fun _ => (Row y.1 (rows (mayT (trOf cs hs) (w.take n))) :: (Row o.1 (rows (mayT (trOf cs hs) b)) :: (Row y0.1 (rows (mayT (trOf cs hs) [])) :: (Row HB (rows hs) :: [Blk gT (.cells #[.slice CA cs.length ca, .slice HB hs.length cb] T.api_Trades (0, 0)), Row CA (rows cs), RowsF HB hs Hd.row]))))⟩ ?_ ?_
       ·skip
        refine hc_region ?_
        refine r_move rfl rfl ?_
        refine r_move rfl rfl ?_
        refine r_len_sl rfl T.u_ints rfl ?_
        refine r_geq rfl rfl rfl ?_
        refine r_move rfl rfl ?_
        refine g_split rfl rfl ?_ ?_
        ·intro hg6; have hg6' := hg6; try simp at hg6'
         refine g_yes rfl rfl hg6 ?_
         refine r_move rfl rfl ?_
         refine g_yes rfl rfl hg6 ?_
         refine r_move rfl rfl ?_
         refine g_yes rfl rfl hg6 ?_
         refine r_elem (α := Int) (mayT (trOf cs hs) (w.take n)) (lkF (trOf cs hs) (w.take n) k).length rfl T.u_ints T.sz_int rfl rfl rfl (by repeat constructor) rfl hAt.1 (by decide) ?_
         refine g_yes rfl rfl hg6 ?_
         refine r_load (v := int ((mayT (trOf cs hs) (w.take n)).getD (lkF (trOf cs hs) (w.take n) k).length default)) rfl T.cell_int rfl (cell_row (by repeat constructor) (rows_get0 hAt.1 rfl)) ?_
         refine g_yes rfl rfl hg6 ?_
         refine r_move rfl rfl ?_
         refine g_yes rfl rfl hg6 ?_
         refine r_neq rfl rfl rfl ?_
         refine p_f rfl rfl (bf1 hg6) rfl ?_
         refine r_move rfl rfl ?_
         refine g_split rfl rfl ?_ ?_
         ·intro hg7; have hg7' := hg7; try simp at hg7'
          refine g_yes rfl rfl hg7 ?_
          refine r_move rfl rfl ?_
          refine g_yes rfl rfl hg7 ?_
          refine r_move rfl rfl ?_
          refine g_yes rfl rfl hg7 ?_
          refine hl_call F.kit_Index_cb rfl rfl (kit_Index_meets (mayT (trOf cs hs) b) (k : Int) (by omega)) (List.Perm.refl _) ⟨(by repeat constructor), trivial⟩ fun z hz => ?_
          refine g_yes rfl rfl hg7 ?_
          refine r_lss rfl rfl rfl ?_
          refine p_f rfl rfl (bf1 hg7) rfl ?_
          refine hl_nil ?_
          exact cut_n _ () trivial ⟨rfl, rfl, rfl, rfl, rfl, rfl, rfl, rfl, rfl, congrArg (fun b => some (Value.bool b)) (decide_eq_false (by have := hz.1.2 hkb; omega)), trivial⟩ (List.nil_sublist _) ⟨(by repeat constructor), (by repeat constructor), (by repeat constructor), (by repeat constructor), (by repeat constructor), (by repeat constructor), (by repeat constructor), trivial⟩
         ·intro hg7; have hg7' := hg7; try simp at hg7'
          exfalso; rw [hAt.2] at hg7; simp at hg7
        ·intro hg6; have hg6' := hg6; try simp at hg6'
         exfalso; have := hAt.1; simp at hg6; omega
       ·refine fun _ _ => ?_
        refine c_f rfl (by first | rfl | assumption | exact bf1 (by assumption) | exact bf2 (by assumption)) ?_
        refine hc_skip ?_
        refine then_n ?_
        refine hc_region ?_
        refine r_move rfl rfl ?_
        refine r_add _ rfl rfl rfl rfl (by unfold I64; omega) ?_
        refine r_assign rfl rfl ?_
        refine hl_nil ?_
        refine inb_n ?_
        refine then_n ?_
        refine hc_region ?_
        refine r_move rfl rfl ?_
        refine r_add _ rfl rfl rfl rfl (by unfold I64; omega) ?_
        refine r_assign rfl rfl ?_
        refine hl_nil ?_
        exact again _ (k + 1, (lkF (trOf cs hs) (w.take n) k).length + 1) ⟨by show k + 1 ≤ hs.length; omega, by show _ = (lkF (trOf cs hs) (w.take n) (k + 1)).length; rw [hls, List.length_append]; rfl⟩ (by show hs.length - (k + 1) < hs.length - k; omega) ⟨rfl, rfl, rfl, rfl, rfl, rfl, rfl, rfl, rfl, trivial⟩ (List.nil_sublist _) ⟨(by repeat constructor), (by repeat constructor), (by repeat constructor), (by repeat constructor), (by repeat constructor), (by repeat constructor), (by repeat constructor), trivial⟩
      ·have hb8' := hb8; try simp at hb8'
       rw [if_neg (by rw [hb8]; decide)] at hls
       refine hc_skip ?_
       refine inb_n ?_
       refine then_n ?_
       refine hc_region ?_
       refine r_move rfl rfl ?_
       refine r_add _ rfl rfl rfl rfl (by unfold I64; omega) ?_
       refine r_assign rfl rfl ?_
       refine hl_nil ?_
       exact again _ (k + 1, (lkF (trOf cs hs) (w.take n) k).length) ⟨by show k + 1 ≤ hs.length; omega, by show _ = (lkF (trOf cs hs) (w.take n) (k + 1)).length; rw [hls]⟩ (by show hs.length - (k + 1) < hs.length - k; omega) ⟨rfl, rfl, rfl, rfl, rfl, rfl, rfl, rfl, rfl, trivial⟩ (List.nil_sublist _) ⟨(by repeat constructor), (by repeat constructor), (by repeat constructor), (by repeat constructor), (by repeat constructor), (by repeat constructor), (by repeat constructor), trivial⟩
    ·have hb6' := hb6; try simp at hb6'
     obtain rfl : k = hs.length := by omega
     refine hc_exit ?_
     refine then_exit ?_
     refine then_exit ?_
     refine inb_hit ?_
     refine then_n ?_
     refine hc_seq ?_
     refine hc_seq ?_
     refine hc_region ?_
     refine r_move rfl rfl ?_
     refine r_move rfl rfl ?_
     refine r_len_sl rfl T.u_ints rfl ?_
     refine r_neq rfl rfl rfl ?_
     refine hl_nil ?_
     refine then_n ?_
     first | refine c_dec rfl (fun hb10 => ?_) (fun hb10 => ?_) | refine hc_cond rfl (fun hb10 => ?_) (fun hb10 => ?_)
     ·exfalso; rw [hmt] at hb10; exact hb10 rfl
     ·have hb10' := hb10; try simp at hb10'
      refine hc_skip ?_
      refine then_n ?_
      refine hc_region ?_
      refine r_move rfl rfl ?_
      refine r_assign rfl rfl ?_
      refine hl_nil ?_
      refine inb_n ?_
      refine then_n ?_
      refine hc_region ?_
      refine r_move rfl rfl ?_
      refine r_add _ rfl rfl rfl rfl (by unfold I64; omega) ?_
      refine r_assign rfl rfl ?_
      refine hl_nil ?_
      exact again _ (n + 1, (w.take n), y) ⟨by show n + 1 ≤ w.length + 1; omega, by show w.take n <+: w.take (n + 1); exact List.take_prefix_take_left (by omega)⟩ (by show w.length + 1 - (n + 1) < w.length + 1 - n; omega) ⟨rfl, rfl, rfl, rfl, rfl, rfl, trivial⟩ (List.nil_sublist _) ⟨(by repeat constructor), (by repeat constructor), (by repeat constructor), (by repeat constructor), (by repeat constructor), (by repeat constructor), trivial⟩
   ·have hb4' := hb4; try simp at hb4'
    refine hc_exit ?_
    refine then_exit ?_
    refine then_exit ?_
    refine inb_hit ?_
    refine inb_n ?_
    refine then_n ?_
    refine hc_region ?_
    refine r_move rfl rfl ?_
    refine r_add _ rfl rfl rfl rfl (by unfold I64; omega) ?_
    refine r_assign rfl rfl ?_
    refine hl_nil ?_
    exact again _ (i + 1) (by show i + 1 ≤ hs.length; omega) (by show hs.length - (i + 1) < hs.length - i; omega) ⟨rfl, rfl, rfl, trivial⟩ (List.nil_sublist _) ⟨(by repeat constructor), (by repeat constructor), (by repeat constructor), (by repeat constructor), (by repeat constructor), trivial⟩
 ·have hb2' := hb2; try simp at hb2'
  refine hc_exit ?_
  refine then_exit ?_
  refine then_exit ?_
  refine inb_hit ?_
  refine then_n ?_
  refine hc_seq ?_
  refine hc_region ?_
  refine hl_call F.law04_indexed_cb rfl rfl (law04_indexed_meets) (List.Perm.refl _) trivial fun _ _ => ?_
  refine r_assign rfl rfl ?_
  refine hl_nil ?_
  refine then_n ?_
  refine hc_ret ?_
  exact ret1 () rfl rfl rfl trivial (List.nil_sublist _) trivial

end Go.Proofs.Ytlpgheniajdkfaa
