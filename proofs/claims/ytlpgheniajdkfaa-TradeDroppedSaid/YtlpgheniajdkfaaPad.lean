/- The list that the answers are looked up in: classes above, kinds of headings. -/
import Derived.Test.YtlpgheniajdkfaaPac
namespace Go.Proofs.Ytlpgheniajdkfaa
open Go Go.W
set_option linter.unusedVariables false
set_option linter.unusedSimpArgs false
set_option maxRecDepth 20000
attribute [local irreducible] HL HC HQ HB Row Rows2 Blk Facts

instance : El Nat where
  default := 0
  cells m := [u8 m]
  sz := 1
  len _ := rfl
  one a u h := by simp at h; subst h; rfl
/-- The kinds of headings, as they lie. -/
inductive Kd where
  | art (c : Int) (al : Sl Int)
  | ptr (s : Int)
  | idx (al : Sl Int)
def Kd.v : Kd → Value
  | .art c al => .iface T.trade_article (.agg #[int c, .slice al.a al.l.length al.c])
  | .ptr s => .iface T.trade_pointer (.agg #[int s])
  | .idx al => .iface T.trade_index (.agg #[.slice al.a al.l.length al.c])
instance : El Kd where
  default := .ptr 0
  cells m := [m.v]
  sz := 1
  len _ := rfl
  one a u h := by simp at h; subst h; cases a <;> rfl
def kindOf (h : Hd) : Kd := if ¬ h.2.2.1 = -1 then .ptr h.2.2.1 else if ¬ h.2.1 = -1 then .art h.2.1 h.2.2.2 else .idx h.2.2.2
def kindsN (hs : List Hd) (k : Nat) : List Kd := (hs.take k).map kindOf
theorem kinds_len {hs : List Hd} {k : Nat} (h : k ≤ hs.length) : (kindsN hs k).length = k := by simp [kindsN, h]
theorem kinds_succ {hs : List Hd} {k : Nat} (h : k < hs.length) : kindsN hs (k + 1) = kindsN hs k ++ [kindOf (hs.getD k default)] := by
  unfold kindsN
  rw [take_succ_getD hs k h, List.map_append]
  rfl
/-- Sets of small numbers. -/
def maskOf (l : List Int) : Nat := l.foldl (fun m x => m ||| 2 ^ x.toNat) 0
theorem mask_snoc (l : List Int) (x : Int) : maskOf (l ++ [x]) = maskOf l ||| 2 ^ x.toNat := by unfold maskOf; rw [List.foldl_append]; rfl
theorem mask_lt0 : ∀ (l : List Int) (m : Nat), m < 256 → (∀ x ∈ l, x.toNat < 8) → l.foldl (fun m x => m ||| 2 ^ x.toNat) m < 256
  | [], m, hm, _ => hm
  | x :: l, m, hm, h => by
    rw [List.foldl_cons]
    refine mask_lt0 l _ (Nat.or_lt_two_pow (n := 8) hm ?_) (fun y hy => h y (List.mem_cons_of_mem _ hy))
    exact Nat.pow_lt_pow_right (by omega) (h x (List.mem_cons_self ..))
theorem mask_lt {l : List Int} (h : ∀ x ∈ l, x.toNat < 8) : maskOf l < 256 := mask_lt0 l 0 (by decide) h
theorem mask_test0 : ∀ (l : List Int) (m j : Nat), (l.foldl (fun m x => m ||| 2 ^ x.toNat) m).testBit j = (m.testBit j || l.any fun x => x.toNat = j)
  | [], m, j => by simp
  | x :: l, m, j => by
    rw [List.foldl_cons, mask_test0 l, Nat.testBit_or, Nat.testBit_two_pow, List.any_cons, Bool.or_assoc]
theorem mask_test {l : List Int} (h : ∀ x ∈ l, 0 ≤ x) (j : Nat) : (maskOf l).testBit j = decide ((j : Int) ∈ l) := by
  unfold maskOf
  rw [mask_test0, Nat.zero_testBit, Bool.false_or, Bool.eq_iff_iff, List.any_eq_true, decide_eq_true_eq]
  constructor
  · rintro ⟨x, hx, e⟩
    rw [decide_eq_true_eq] at e
    have := h x hx
    rwa [show (j : Int) = x by omega]
  · intro hj
    exact ⟨_, hj, by simp⟩
def masksN (cs : List Cl) (k : Nat) : List Nat := (List.range k).map fun i : Nat => maskOf (pathT cs (i : Int))
theorem masks_len (cs : List Cl) (k : Nat) : (masksN cs k).length = k := by simp [masksN]
theorem masks_succ (cs : List Cl) (k : Nat) : masksN cs (k + 1) = masksN cs k ++ [maskOf (pathT cs (k : Int))] := by unfold masksN; rw [List.range_succ, List.map_append]; rfl
theorem masks_get {cs : List Cl} {k i : Nat} (h : i < k) : (masksN cs k).getD i default = maskOf (pathT cs (i : Int)) := by
  rw [getD_at (by rw [masks_len]; exact h)]
  simp [masksN]
theorem path_small {cs : List Cl} (h6 : cs.length ≤ 6) (hc : ∀ i, i < cs.length → ClsOK cs i) {c : Int} (hl : c < (cs.length : Int)) : ∀ x ∈ pathT cs c, 0 ≤ x ∧ x < 6 := fun x hx => by
  have := (path_asc cs hc c.toNat c (Nat.le_refl _) hl).2 x hx
  omega
theorem mask_path {cs : List Cl} (h6 : cs.length ≤ 6) (hc : ∀ i, i < cs.length → ClsOK cs i) {c : Int} (hl : c < (cs.length : Int)) : maskOf (pathT cs c) < 256 := mask_lt fun x hx => by have := path_small h6 hc hl x hx; omega
theorem mask_step {cs : List Cl} (h6 : cs.length ≤ 6) (hc : ∀ i, i < cs.length → ClsOK cs i) {k : Nat} (hk : k < cs.length) : maskOf (pathT cs (k : Int)) = 2 ^ k ||| maskOf (pathT cs (cs.getD k default).2) := by
  rw [path_step cs hc (by omega) (by omega), mask_snoc, Nat.or_comm]
  rfl
theorem mask_neg {cs : List Cl} {c : Int} (h : c < 0) : maskOf (pathT cs c) = 0 := by rw [path_neg cs h]; rfl
theorem pmA {α : Type} (l : List α) (a b : α) : (l ++ [a, b]).Perm (a :: (l ++ [b])) := perm_of fun p => by simp only [List.countP_append, List.countP_cons, List.countP_nil]; omega
theorem pmB {α : Type} (l : List α) (a b : α) : (a :: (l ++ [b])).Perm (l ++ [a, b]) := (pmA l a b).symm
theorem pmC {α : Type} (l : List α) (a : α) : (l ++ [a]).Perm (a :: l) := List.perm_append_comm (l₂ := [a])
def beginL (cs : List Cl) (hs : List Hd) (A : Option Addr) (ca : Nat) (B : Option Addr) (cb : Nat) (x : Nat × OutC × OutC) : List Fact := [Row (some ⟨x.1, 0, none⟩) [.slice A cs.length ca, .slice B hs.length cb, .slice x.2.1.1 cs.length x.2.1.2, .slice x.2.2.1 hs.length x.2.2.2], Row x.2.1.1 (rows (masksN cs cs.length)), Row x.2.2.1 (rows (kindsN hs hs.length))]


theorem trade_classes_with_meets (m i : Nat) (hm : m < 256) (hi : i < 8) : Meets Try.prog F.trade_classes_with [u8 m, int i] { val := fun _ : Unit => u8 (m ||| 2 ^ i) } := by
 refine meets_intro F.trade_classes_with_f rfl (Nat.le_of_ble_eq_true rfl) fun w0 => ?_
 refine hc_seq ?_
 refine hc_region ?_
 refine r_assign rfl rfl ?_
 refine hl_nil ?_
 refine then_n ?_
 refine hc_seq ?_
 refine hc_region ?_
 refine r_move rfl rfl ?_
 refine r_move rfl rfl ?_
 refine r_shl8 i rfl rfl rfl rfl hi ?_
 refine r_or8 rfl rfl rfl hm (Nat.pow_lt_pow_right (by omega) hi : 2 ^ i < 2 ^ 8) ?_
 refine r_assign rfl rfl ?_
 refine hl_nil ?_
 refine then_n ?_
 refine hc_ret ?_
 exact ret1 () rfl rfl rfl trivial (List.nil_sublist _) trivial

theorem trade_classes_has_meets (m i : Nat) (hm : m < 256) (hi : i < 8) : Meets Try.prog F.trade_classes_has [u8 m, int i] { val := fun _ : Unit => .bool (m.testBit i) } := by
 refine meets_intro F.trade_classes_has_f rfl (Nat.le_of_ble_eq_true rfl) fun w0 => ?_
 refine hc_seq ?_
 refine hc_region ?_
 refine r_assign rfl rfl ?_
 refine hl_nil ?_
 refine then_n ?_
 refine hc_seq ?_
 refine hc_region ?_
 refine r_move rfl rfl ?_
 refine r_move rfl rfl ?_
 refine r_shr8 i rfl rfl rfl rfl hi ?_
 refine r_and8 (b := 1) rfl rfl rfl (Nat.lt_of_le_of_lt (Nat.div_le_self _ _) hm) (by decide) ?_
 refine r_eql rfl rfl rfl ?_
 refine r_assign rfl rfl ?_
 refine hl_nil ?_
 refine then_n ?_
 refine hc_ret ?_
 exact ret1 () rfl (congrArg (fun b => some (Value.bool b)) (by exact bit_of m i)) rfl trivial (List.nil_sublist _) trivial

set_option maxHeartbeats 1000000 in
theorem trade_begin_meets {A B : Option Addr} {ca cb : Nat} (cs : List Cl) (hs : List Hd) (hca : cs.length ≤ ca) (hcb : hs.length ≤ cb) (ha : ∀ h ∈ hs, h.2.2.2.l.length ≤ 1000000) : Meets Try.prog F.trade_begin [.agg #[.slice A cs.length ca, .slice B hs.length cb]] { LI := [Row A (rows cs), RowsF B hs Hd.row], val := fun x : Nat × OutC × OutC => .tuple #[if checkT (trOf cs hs) = 0 then .pointer (some ⟨x.1, 0, none⟩) else .pointer none, int (checkT (trOf cs hs))], LO := fun x => if checkT (trOf cs hs) = 0 then beginL cs hs A ca B cb x else [] } := by
 refine meets_intro F.trade_begin_f rfl (Nat.le_of_ble_eq_true rfl) fun w0 => ?_
 refine hc_seq ?_
 refine hc_region ?_
 refine r_box rfl rfl fun gB => ?_
 refine r_assign rfl rfl ?_
 refine r_assign rfl rfl ?_
 refine hl_nil ?_
 refine then_n ?_
 refine hc_seq ?_
 refine hc_seq ?_
 refine hc_region ?_
 first | refine r_loadA rfl T.row_api_Trades T.sz_api_Trades rfl (by repeat constructor) (by rfl) ?_ | refine r_loadB rfl T.row_api_Trades T.sz_api_Trades rfl (by repeat constructor) (by rfl) ?_ | refine r_loadS rfl T.row_api_Trades T.sz_api_Trades rfl rfl (cells_row (by repeat constructor) (rows_all (by omega))) ?_
 refine hl_call F.trade_check_cb rfl rfl (trade_check_meets cs hs hca hcb ha) (List.Perm.refl _) ⟨(by repeat constructor), (by repeat constructor), trivial⟩ fun _ _ => ?_
 refine r_assign rfl rfl ?_
 refine hl_nil ?_
 refine then_n ?_
 refine hc_seq ?_
 refine hc_region ?_
 refine r_move rfl rfl ?_
 refine r_neq rfl rfl rfl ?_
 refine hl_nil ?_
 refine then_n ?_
 first | refine c_dec rfl (fun hb1 => ?_) (fun hb1 => ?_) | refine hc_cond rfl (fun hb1 => ?_) (fun hb1 => ?_)
 ·have hb1' := hb1; try simp at hb1'
  refine hc_seq ?_
  refine hc_region ?_
  refine r_move rfl rfl ?_
  refine r_assign rfl rfl ?_
  refine r_assign rfl rfl ?_
  refine hl_nil ?_
  refine then_n ?_
  refine hc_ret ?_
  refine then_ret ?_
  exact ret2 (0, (none, 0), (none, 0)) rfl rfl rfl (by show Value.tuple #[if checkT (trOf cs hs) = 0 then _ else _, _] = _; rw [if_neg hb1]) rfl trivial (List.nil_sublist _) (by show LSub _ (if checkT (trOf cs hs) = 0 then _ else []); rw [if_neg hb1]; trivial)
 ·have hb1' := hb1; try simp at hb1'
  have hok := tr_ok (Classical.not_not.1 hb1)
  have h6 : cs.length ≤ 6 := hok.c6
  have h6h := hok.h6
  rw [hs_len] at h6h
  have hcl : ∀ i, i < cs.length → ClsOK cs i := hok.c
  refine hc_skip ?_
  refine then_n ?_
  refine hc_seq ?_
  refine hc_region ?_
  first | refine r_loadA rfl T.row_api_Trades T.sz_api_Trades rfl (by repeat constructor) (by rfl) ?_ | refine r_loadB rfl T.row_api_Trades T.sz_api_Trades rfl (by repeat constructor) (by rfl) ?_ | refine r_loadS rfl T.row_api_Trades T.sz_api_Trades rfl rfl (cells_row (by repeat constructor) (rows_all (by omega))) ?_
  refine r_build _ rfl rfl (fun _ => T.bd_trade_list_0 ..) ?_
  refine r_box rfl rfl fun gB_1 => ?_
  refine r_assign rfl rfl ?_
  refine hl_nil ?_
  refine then_n ?_
  refine hc_seq ?_
  refine hc_seq ?_
  refine hc_region ?_
  first | refine r_fieldAddr ⟨_, 0, none⟩ rfl rfl T.fa_api_Trades_0 rfl ?_ | refine r_fieldAddr _ rfl rfl T.fa_api_Trades_0 rfl ?_
  first | refine r_load rfl T.cell_L_api_Class rfl (cell_own (by repeat constructor) rfl) ?_ | refine r_load rfl T.cell_L_api_Class rfl (cell_blk (by repeat constructor) rfl) ?_ | refine r_load rfl T.cell_L_api_Class rfl (cell_row (by repeat constructor) (rows_get0 (by omega) rfl)) ?_ | refine r_load rfl T.cell_L_api_Class rfl (cell_row_f (by repeat constructor) (rows_get (by omega) rfl)) ?_ | refine r_load rfl T.cell_L_api_Class rfl (cell_rowg (by repeat constructor) rfl) ?_
  refine r_len_sl rfl T.u_L_api_Class rfl ?_
  refine r_move rfl rfl ?_
  refine hl_nil ?_
  refine then_n ?_
  refine hc_block ?_
  refine hc_loop (β := Nat × OutC × Hp) ⟨fun x => x.1 ≤ cs.length ∧ Grow T.trade_classes 1 x.2.1.1 x.1 x.2.1.2 (rows (masksN cs x.1)) x.2.2, fun x => [(1, .pointer (some ⟨gB, 0, none⟩)), (5, .pointer (some ⟨gB_1, 0, none⟩)), (20, .slice A cs.length ca), (21, int cs.length), (22, int x.1)], fun x => (gB_1, .cells #[.slice A cs.length ca, .slice B hs.length cb, .slice x.2.1.1 x.1 x.2.1.2, .slice none 0 0] T.trade_list (0, 0)) :: (x.2.2 ++ [(gB, .cells #[.slice A cs.length ca, .slice B hs.length cb] T.api_Trades (0, 0))]), fun _ => [Row A (rows cs), RowsF B hs Hd.row]⟩ (fun x => cs.length - x.1) (0, (none, 0), []) ⟨Nat.zero_le _, Grow.nil _ _⟩ ⟨rfl, rfl, rfl, rfl, rfl, trivial⟩ (List.Sublist.refl _) ⟨(by repeat constructor), (by repeat constructor), trivial⟩ fun x hx => ?_
  obtain ⟨k, ⟨oa, oc⟩, og⟩ := x
  obtain ⟨hk, hG⟩ := hx
  simp only at hk hG
  refine hc_seq ?_
  refine hc_region ?_
  refine r_lss rfl rfl rfl ?_
  refine hl_nil ?_
  refine then_n ?_
  refine hc_seq ?_
  first | refine c_dec rfl (fun hb2 => ?_) (fun hb2 => ?_) | refine hc_cond rfl (fun hb2 => ?_) (fun hb2 => ?_)
  ·have hb2' := hb2; try simp at hb2'
   have hk2 : k < cs.length := by omega
   have hck := hcl k hk2
   have hlo := hck.lo
   have hhi := hck.hi
   refine hc_skip ?_
   refine then_n ?_
   refine hc_seq ?_
   refine hc_block ?_
   refine hc_seq ?_
   refine hc_region ?_
   refine r_move rfl rfl ?_
   refine r_elem (α := Cl) cs k rfl T.u_L_api_Class T.sz_api_Class rfl rfl rfl (by repeat constructor) rfl hk2 (by decide) ?_
   refine r_loadS rfl T.row_api_Class T.sz_api_Class rfl rfl (cells_row (by repeat constructor) (rows_all (by omega))) ?_
   refine r_alloc rfl (fun _ => T.al_api_Class _) fun gA => ?_
   refine r_assign rfl rfl ?_
   refine r_storeS rfl rfl (by first | exact .refl _ | exact perm2 _ _ _ | exact perm3 _ _ _ _ | exact perm4 _ _ _ _ _) T.sz_api_Class (by rfl) (by rfl) ?_
   refine hl_nil ?_
   refine then_n ?_
   refine hc_seq ?_
   refine hc_region ?_
   refine r_move rfl rfl ?_
   refine hl_call F.trade_classes_with_cb rfl rfl (trade_classes_with_meets 0 k (by decide) (by omega)) (List.Perm.refl _) trivial fun _ _ => ?_
   refine r_assign rfl rfl ?_
   refine hl_nil ?_
   refine then_n ?_
   refine hc_cut ⟨fun _ : Unit => True, fun _ => [(1, .pointer (some ⟨gB, 0, none⟩)), (5, .pointer (some ⟨gB_1, 0, none⟩)), (20, .slice A cs.length ca), (21, int cs.length), (22, int k), (8, u8 (maskOf (pathT cs (k : Int))))], fun _ => (gB_1, .cells #[.slice A cs.length ca, .slice B hs.length cb, .slice oa k oc, .slice none 0 0] T.trade_list (0, 0)) :: (og ++ [(gB, .cells #[.slice A cs.length ca, .slice B hs.length cb] T.api_Trades (0, 0))]), fun _ => [Row A (rows cs), RowsF B hs Hd.row]⟩ ?_ ?_
   ·skip
    refine hc_seq ?_
    refine hc_region ?_
    first | refine r_fieldAddr ⟨_, 1, none⟩ rfl rfl T.fa_api_Class_1 rfl ?_ | refine r_fieldAddr _ rfl rfl T.fa_api_Class_1 rfl ?_
    first | refine r_load rfl T.cell_int rfl (cell_own (by repeat constructor) rfl) ?_ | refine r_load rfl T.cell_int rfl (cell_blk (by repeat constructor) rfl) ?_ | refine r_load rfl T.cell_int rfl (cell_row (by repeat constructor) (rows_get0 (by omega) rfl)) ?_ | refine r_load rfl T.cell_int rfl (cell_row_f (by repeat constructor) (rows_get (by omega) rfl)) ?_ | refine r_load rfl T.cell_int rfl (cell_rowg (by repeat constructor) rfl) ?_
    refine r_geq rfl rfl rfl ?_
    refine hl_nil ?_
    refine then_n ?_
    first | refine c_dec rfl (fun hb3 => ?_) (fun hb3 => ?_) | refine hc_cond rfl (fun hb3 => ?_) (fun hb3 => ?_)
    ·have hb3' := hb3; try simp at hb3'
     obtain ⟨gC, cur, e1, e2, hnc, hcm, hcs, hct, _⟩ := hG.open_ (by omega)
     subst e1
     subst e2
     have hcell : cur[0 + (cs.getD k default).2.toNat * 1]? = some (u8 (maskOf (pathT cs (cs.getD k default).2))) := by
       have h1 : (rows (masksN cs k))[(cs.getD k default).2.toNat * 1]? = some (u8 (maskOf (pathT cs (cs.getD k default).2))) := rows_get0 (by rw [masks_len]; omega) (by rw [masks_get (by omega), Int.toNat_of_nonneg hb3]; rfl)
       rw [← hct, List.getElem?_take, if_pos (by omega)] at h1
       rw [Nat.zero_add, ← Array.getElem?_toList]
       exact h1
     refine hc_draw 9 mixed (by decide) (by decide) rfl rfl ?_
     apply hb_ex _ rfl rfl rfl
     ·intro w1
      refine r_move rfl rfl ?_
      refine hl_nil ?_
      exact qe_done rfl
     apply hb_ex _ rfl rfl rfl
     ·intro w1
      refine r_move rfl rfl ?_
      refine hl_nil ?_
      exact qe_done rfl
     apply hb_ex _ rfl rfl rfl
     ·intro w1
      refine r_nilCheck rfl rfl ?_
      refine hl_nil ?_
      exact qe_done rfl
     apply hb_ex _ rfl rfl rfl
     ·intro w1
      first | refine r_fieldAddr ⟨_, 2, none⟩ rfl rfl T.fa_trade_list_1 rfl ?_ | refine r_fieldAddr _ rfl rfl T.fa_trade_list_1 rfl ?_
      refine hl_nil ?_
      exact qe_done rfl
     apply hb_ex _ rfl rfl rfl
     ·intro w1
      first | refine r_load rfl T.cell_L_trade_classes rfl (cell_blk (by repeat constructor) rfl) ?_ | refine r_load rfl T.cell_L_trade_classes rfl (cell_own (by repeat constructor) rfl) ?_ | refine r_load rfl T.cell_L_trade_classes rfl (cell_row (by repeat constructor) (rows_get0 (by omega) rfl)) ?_ | refine r_load rfl T.cell_L_trade_classes rfl (cell_row_f (by repeat constructor) (rows_get (by omega) rfl)) ?_ | refine r_load rfl T.cell_L_trade_classes rfl (cell_rowg (by repeat constructor) rfl) ?_
      refine hl_nil ?_
      exact qe_done rfl
     apply hb_ex _ rfl rfl rfl
     ·intro w1
      first | refine r_fieldAddr ⟨_, 1, none⟩ rfl rfl T.fa_api_Class_1 rfl ?_ | refine r_fieldAddr _ rfl rfl T.fa_api_Class_1 rfl ?_
      refine hl_nil ?_
      exact qe_done rfl
     apply hb_ex _ rfl rfl rfl
     ·intro w1
      first | refine r_load rfl T.cell_int rfl (cell_blk (by repeat constructor) rfl) ?_ | refine r_load rfl T.cell_int rfl (cell_own (by repeat constructor) rfl) ?_ | refine r_load rfl T.cell_int rfl (cell_row (by repeat constructor) (rows_get0 (by omega) rfl)) ?_ | refine r_load rfl T.cell_int rfl (cell_row_f (by repeat constructor) (rows_get (by omega) rfl)) ?_ | refine r_load rfl T.cell_int rfl (cell_rowg (by repeat constructor) rfl) ?_
      refine hl_nil ?_
      exact qe_done rfl
     apply hb_ex _ rfl rfl rfl
     ·intro w1
      refine r_indexAddr_own (cs.getD k default).2.toNat _ rfl T.u_L_trade_classes T.sz_trade_classes rfl rfl (Int.toNat_of_nonneg hb3).symm (by omega) rfl ?_
      refine hl_nil ?_
      exact qe_done rfl
     apply hb_ex _ rfl rfl rfl
     ·intro w1
      refine r_load rfl T.cell_trade_classes rfl (cell_blk (by repeat constructor) hcell) ?_
      refine hl_nil ?_
      exact qe_done rfl
     refine hb_nil ⟨rfl, ?_⟩
     refine r_or8 rfl rfl rfl (by rw [Nat.zero_or]; exact (Nat.pow_lt_pow_right (by omega) (by omega) : 2 ^ k < 2 ^ 8)) (mask_path h6 hcl (by omega)) ?_
     refine r_assign rfl rfl ?_
     refine hl_nil ?_
     exact cut_n _ () trivial ⟨rfl, rfl, rfl, rfl, rfl, congrArg (fun b => some (u8 b)) (by rw [Nat.zero_or]; exact (mask_step h6 hcl hk2).symm), trivial⟩ (List.sublist_cons_self _ _) ⟨(by repeat constructor), (by repeat constructor), trivial⟩
    ·have hb3' := hb3; try simp at hb3'
     refine hc_skip ?_
     exact cut_n _ () trivial ⟨rfl, rfl, rfl, rfl, rfl, congrArg (fun b => some (u8 b)) (by rw [mask_step h6 hcl hk2, mask_neg (by omega), Nat.or_zero, Nat.zero_or]), trivial⟩ (List.sublist_cons_self _ _) ⟨(by repeat constructor), (by repeat constructor), trivial⟩
   ·refine fun _ _ => ?_
    refine hc_region ?_
    refine r_move rfl rfl ?_
    refine r_move rfl rfl ?_
    refine r_nilCheck rfl rfl ?_
    first | refine r_fieldAddr ⟨_, 2, none⟩ rfl rfl T.fa_trade_list_1 rfl ?_ | refine r_fieldAddr _ rfl rfl T.fa_trade_list_1 rfl ?_
    first | refine r_load rfl T.cell_L_trade_classes rfl (cell_own (by repeat constructor) rfl) ?_ | refine r_load rfl T.cell_L_trade_classes rfl (cell_blk (by repeat constructor) rfl) ?_ | refine r_load rfl T.cell_L_trade_classes rfl (cell_row (by repeat constructor) (rows_get0 (by omega) rfl)) ?_ | refine r_load rfl T.cell_L_trade_classes rfl (cell_row_f (by repeat constructor) (rows_get (by omega) rfl)) ?_ | refine r_load rfl T.cell_L_trade_classes rfl (cell_rowg (by repeat constructor) rfl) ?_
    refine r_move rfl rfl ?_
    refine r_buildSlice _ rfl rfl (fun _ => T.bs_L_trade_classes_1 ..) fun gS => ?_
    refine hl_letgo (rows [maskOf (pathT cs (k : Int))]) (List.prefix_refl _) ?_
    refine r_append (k + 1) (rows (masksN cs k ++ [maskOf (pathT cs (k : Int))])) T.el_L_trade_classes rfl rfl rfl hG (pmB _ _ _) (Src.row (news := rows [maskOf (pathT cs (k : Int))]) (m := 1) m0 rfl (rows_one _) (by decide)) rfl (rows_append _ _).symm (by unfold maxLen; omega) (by omega) fun A' c' og' hG' => ?_
    refine r_nilCheck rfl rfl ?_
    first | refine r_fieldAddr ⟨_, 2, none⟩ rfl rfl T.fa_trade_list_1 rfl ?_ | refine r_fieldAddr _ rfl rfl T.fa_trade_list_1 rfl ?_
    refine r_store rfl rfl (pmA _ _ _) T.sz_L_trade_classes (by rfl) (by rfl) ?_
    refine hl_nil ?_
    refine inb_n ?_
    refine then_n ?_
    refine hc_region ?_
    refine r_add _ rfl rfl rfl rfl (by unfold I64; omega) ?_
    refine r_move rfl rfl ?_
    refine hl_nil ?_
    exact again _ (k + 1, (A', c'), og') ⟨by show k + 1 ≤ cs.length; omega, by show Grow _ _ _ _ _ (rows (masksN cs (k + 1))) _; rw [masks_succ]; exact hG'⟩ (by show cs.length - (k + 1) < cs.length - k; omega) ⟨rfl, rfl, rfl, rfl, rfl, trivial⟩ (List.Sublist.refl _) ⟨(by repeat constructor), (by repeat constructor), trivial⟩
  ·have hb2' := hb2; try simp at hb2'
   have hk2 : k = cs.length := by omega
   subst hk2
   refine hc_exit ?_
   refine then_exit ?_
   refine then_exit ?_
   refine inb_hit ?_
   refine then_n ?_
   refine hc_seq ?_
   refine hc_seq ?_
   refine hc_perm (pmB _ _ _) ?_
   refine hc_grown hG ?_
   clear hG
   refine hc_region ?_
   first | refine r_fieldAddr ⟨_, 1, none⟩ rfl rfl T.fa_api_Trades_1 rfl ?_ | refine r_fieldAddr _ rfl rfl T.fa_api_Trades_1 rfl ?_
   first | refine r_load rfl T.cell_L_api_Head rfl (cell_own (by repeat constructor) rfl) ?_ | refine r_load rfl T.cell_L_api_Head rfl (cell_blk (by repeat constructor) rfl) ?_ | refine r_load rfl T.cell_L_api_Head rfl (cell_row (by repeat constructor) (rows_get0 (by omega) rfl)) ?_ | refine r_load rfl T.cell_L_api_Head rfl (cell_row_f (by repeat constructor) (rows_get (by omega) rfl)) ?_ | refine r_load rfl T.cell_L_api_Head rfl (cell_rowg (by repeat constructor) rfl) ?_
   refine r_len_sl rfl T.u_L_api_Head rfl ?_
   refine r_move rfl rfl ?_
   refine hl_nil ?_
   refine then_n ?_
   refine hc_block ?_
   refine hc_outerF (by repeat constructor) ?_
   refine hc_loop (β := Nat × OutC × Hp) ⟨fun x => x.1 ≤ hs.length ∧ Grow T.trade_kind 1 x.2.1.1 x.1 x.2.1.2 (rows (kindsN hs x.1)) x.2.2, fun x => [(5, .pointer (some ⟨gB_1, 0, none⟩)), (54, .slice B hs.length cb), (55, int hs.length), (56, int x.1)], fun x => (gB_1, .cells #[.slice A cs.length ca, .slice B hs.length cb, .slice oa cs.length oc, .slice x.2.1.1 x.1 x.2.1.2] T.trade_list (0, 0)) :: x.2.2, fun _ => [Row oa (rows (masksN cs cs.length)), Row A (rows cs), RowsF B hs Hd.row, Row B (rows hs)]⟩ (fun x => hs.length - x.1) (0, (none, 0), []) ⟨Nat.zero_le _, Grow.nil _ _⟩ ⟨rfl, rfl, rfl, rfl, trivial⟩ ((List.nil_sublist _).cons_cons _) ⟨(by repeat constructor), (by repeat constructor), (by repeat constructor), (by repeat constructor), trivial⟩ fun x hx => ?_
   obtain ⟨k, ⟨ka, kc⟩, og2⟩ := x
   obtain ⟨hk, hG⟩ := hx
   simp only at hk hG
   refine hc_seq ?_
   refine hc_region ?_
   refine r_lss rfl rfl rfl ?_
   refine hl_nil ?_
   refine then_n ?_
   refine hc_seq ?_
   first | refine c_dec rfl (fun hb4 => ?_) (fun hb4 => ?_) | refine hc_cond rfl (fun hb4 => ?_) (fun hb4 => ?_)
   ·have hb4' := hb4; try simp at hb4'
    have hk2 : k < hs.length := by omega
    refine hc_skip ?_
    refine then_n ?_
    refine hc_seq ?_
    refine hc_block ?_
    refine hc_seq ?_
    refine hc_region ?_
    refine r_elem (α := Hd) hs k rfl T.u_L_api_Head T.sz_api_Head rfl rfl rfl (by repeat constructor) rfl hk2 (by decide) ?_
    refine r_loadS rfl T.row_api_Head T.sz_api_Head rfl rfl (cells_row (by repeat constructor) (rows_all (by omega))) ?_
    refine r_alloc rfl (fun _ => T.al_api_Head _) fun gA => ?_
    refine r_storeS rfl rfl (by first | exact .refl _ | exact perm2 _ _ _ | exact perm3 _ _ _ _ | exact perm4 _ _ _ _ _) T.sz_api_Head (by rfl) (by rfl) ?_
    refine hl_nil ?_
    refine then_n ?_
    refine hc_block ?_
    refine hc_seq ?_
    refine hc_letgo (rows [hs.getD k default]) ⟨[], List.append_nil _⟩ ?_
    refine hc_region ?_
    first | refine r_fieldAddr ⟨_, 2, none⟩ rfl rfl T.fa_api_Head_2 rfl ?_ | refine r_fieldAddr _ rfl rfl T.fa_api_Head_2 rfl ?_
    first | refine r_load rfl T.cell_int rfl (cell_own (by repeat constructor) rfl) ?_ | refine r_load rfl T.cell_int rfl (cell_blk (by repeat constructor) rfl) ?_ | refine r_load rfl T.cell_int rfl (cell_row (by repeat constructor) (rows_get0 (by omega) rfl)) ?_ | refine r_load rfl T.cell_int rfl (cell_row_f (by repeat constructor) (rows_get (by omega) rfl)) ?_ | refine r_load rfl T.cell_int rfl (cell_rowg (by repeat constructor) rfl) ?_
    refine r_neq rfl rfl rfl ?_
    refine r_assign rfl rfl ?_
    refine hl_nil ?_
    refine then_n ?_
    first | refine c_dec rfl (fun hb5 => ?_) (fun hb5 => ?_) | refine hc_cond rfl (fun hb5 => ?_) (fun hb5 => ?_)
    ·have hb5' := hb5; try simp at hb5'
     refine hc_drawW (og2) ([_]) (List.perm_append_comm (l₁ := [_])) 11 [10] mixed (by decide) (by decide) (by decide) rfl rfl rfl ?_
     apply hb_ex _ rfl rfl rfl
     ·intro w1
      refine r_move rfl rfl ?_
      refine hl_nil ?_
      exact qe_done rfl
     apply hb_ex _ rfl rfl rfl
     ·intro w1
      refine r_move rfl rfl ?_
      refine hl_nil ?_
      exact qe_done rfl
     apply hb_ex _ rfl rfl rfl
     ·intro w1
      refine r_nilCheck rfl rfl ?_
      refine hl_nil ?_
      exact qe_done rfl
     apply hb_ex _ rfl rfl rfl
     ·intro w1
      first | refine r_fieldAddr ⟨_, 3, none⟩ rfl rfl T.fa_trade_list_2 rfl ?_ | refine r_fieldAddr _ rfl rfl T.fa_trade_list_2 rfl ?_
      refine hl_nil ?_
      exact qe_done rfl
     apply hb_ex _ rfl rfl rfl
     ·intro w1
      first | refine r_load rfl T.cell_L_trade_kind rfl (cell_blk (by repeat constructor) rfl) ?_ | refine r_load rfl T.cell_L_trade_kind rfl (cell_own (by repeat constructor) rfl) ?_ | refine r_load rfl T.cell_L_trade_kind rfl (cell_row (by repeat constructor) (rows_get0 (by omega) rfl)) ?_ | refine r_load rfl T.cell_L_trade_kind rfl (cell_row_f (by repeat constructor) (rows_get (by omega) rfl)) ?_ | refine r_load rfl T.cell_L_trade_kind rfl (cell_rowg (by repeat constructor) rfl) ?_
      refine hl_nil ?_
      exact qe_done rfl
     apply hb_ex _ rfl rfl rfl
     ·intro w1
      first | refine r_fieldAddr ⟨_, 2, none⟩ rfl rfl T.fa_api_Head_2 rfl ?_ | refine r_fieldAddr _ rfl rfl T.fa_api_Head_2 rfl ?_
      refine hl_nil ?_
      exact qe_done rfl
     apply hb_ex _ rfl rfl rfl
     ·intro w1
      first | refine r_load rfl T.cell_int rfl (cell_blk (by repeat constructor) rfl) ?_ | refine r_load rfl T.cell_int rfl (cell_own (by repeat constructor) rfl) ?_ | refine r_load rfl T.cell_int rfl (cell_row (by repeat constructor) (rows_get0 (by omega) rfl)) ?_ | refine r_load rfl T.cell_int rfl (cell_row_f (by repeat constructor) (rows_get (by omega) rfl)) ?_ | refine r_load rfl T.cell_int rfl (cell_rowg (by repeat constructor) rfl) ?_
      refine hl_nil ?_
      exact qe_done rfl
     apply hb_ex _ rfl rfl rfl
     ·intro w1
      refine r_build _ rfl rfl (fun _ => T.bd_trade_pointer_0 ..) ?_
      refine hl_nil ?_
      exact qe_done rfl
     apply hb_ex _ rfl rfl rfl
     ·intro w1
      refine r_mkI rfl ⟨_, Try.underlying113, rfl⟩ rfl ?_
      refine hl_nil ?_
      exact qe_done rfl
     refine hb_vs ⟨Nat, fun _ => True, fun g => .slice (some ⟨g, 0, none⟩) 1 1, fun g => [Row (some ⟨g, 0, none⟩) (rows [Kd.ptr (hs.getD k default).2.2.1])]⟩ rfl rfl rfl ?_ ?_
     ·intro w1
      refine r_buildSlice _ rfl rfl (fun _ => T.bs_L_trade_kind_1 ..) fun gS => ?_
      refine hl_nil ?_
      refine hq_letgo (rows [Kd.ptr (hs.getD k default).2.2.1]) (List.prefix_refl _) ?_
      exact qv_done gS trivial rfl ⟨m0, trivial⟩
     refine hb_wr ⟨OutC × Hp, fun x => Grow T.trade_kind 1 x.1.1 (k + 1) x.1.2 (rows (kindsN hs k ++ [Kd.ptr (hs.getD k default).2.2.1])) x.2, fun x => .slice x.1.1 (k + 1) x.1.2, fun _ => [], fun x => x.2⟩ rfl rfl rfl ?_ ?_
     ·intro g9 _; intro w1
      refine r_append (k + 1) (rows (kindsN hs k ++ [Kd.ptr (hs.getD k default).2.2.1])) T.el_L_trade_kind rfl rfl rfl hG (hp' := []) (by rw [List.append_nil]) (Src.row (news := rows [Kd.ptr (hs.getD k default).2.2.1]) (m := 1) m0 rfl (rows_one _) (by decide)) rfl (rows_append _ _).symm (by unfold maxLen; omega) (by omega) fun A' c' og' hG' => ?_
      refine hl_nil ?_
      exact qw_done ((A', c'), og') hG' (fun _ => rfl) (by rw [List.append_nil]; exact .refl _) trivial
     refine hb_nil ⟨rfl, ?_⟩
     intro g9 _ x hx
     obtain ⟨⟨xa, xc⟩, xo⟩ := x
     simp only at hx
     refine r_nilCheck rfl rfl ?_
     first | refine r_fieldAddr ⟨_, 3, none⟩ rfl rfl T.fa_trade_list_2 rfl ?_ | refine r_fieldAddr _ rfl rfl T.fa_trade_list_2 rfl ?_
     refine r_store rfl rfl (pmC _ _) T.sz_L_trade_kind (by rfl) (by rfl) ?_
     refine hl_nil ?_
     refine inb_n ?_
     refine inb_n ?_
     refine then_n ?_
     refine hc_region ?_
     refine r_add _ rfl rfl rfl rfl (by unfold I64; omega) ?_
     refine r_move rfl rfl ?_
     refine hl_nil ?_
     exact again _ (k + 1, (xa, xc), xo) ⟨by show k + 1 ≤ hs.length; omega, by show Grow _ _ _ _ _ (rows (kindsN hs (k + 1))) _; rw [kinds_succ hk2, kindOf, if_pos hb5]; exact hx⟩ (by show hs.length - (k + 1) < hs.length - k; omega) ⟨rfl, rfl, rfl, rfl, trivial⟩ (List.Sublist.refl _) ⟨(by repeat constructor), (by repeat constructor), (by repeat constructor), (by repeat constructor), trivial⟩
    ·have hb5' := hb5; try simp at hb5'
     refine hc_seq ?_
     refine hc_region ?_
     first | refine r_fieldAddr ⟨_, 1, none⟩ rfl rfl T.fa_api_Head_1 rfl ?_ | refine r_fieldAddr _ rfl rfl T.fa_api_Head_1 rfl ?_
     first | refine r_load rfl T.cell_int rfl (cell_own (by repeat constructor) rfl) ?_ | refine r_load rfl T.cell_int rfl (cell_blk (by repeat constructor) rfl) ?_ | refine r_load rfl T.cell_int rfl (cell_row (by repeat constructor) (rows_get0 (by omega) rfl)) ?_ | refine r_load rfl T.cell_int rfl (cell_row_f (by repeat constructor) (rows_get (by omega) rfl)) ?_ | refine r_load rfl T.cell_int rfl (cell_rowg (by repeat constructor) rfl) ?_
     refine r_neq rfl rfl rfl ?_
     refine r_assign rfl rfl ?_
     refine hl_nil ?_
     refine then_n ?_
     first | refine c_dec rfl (fun hb6 => ?_) (fun hb6 => ?_) | refine hc_cond rfl (fun hb6 => ?_) (fun hb6 => ?_)
     ·have hb6' := hb6; try simp at hb6'
      refine hc_drawW (og2) ([_]) (List.perm_append_comm (l₁ := [_])) 13 [12] mixed (by decide) (by decide) (by decide) rfl rfl rfl ?_
      apply hb_ex _ rfl rfl rfl
      ·intro w1
       refine r_move rfl rfl ?_
       refine hl_nil ?_
       exact qe_done rfl
      apply hb_ex _ rfl rfl rfl
      ·intro w1
       refine r_move rfl rfl ?_
       refine hl_nil ?_
       exact qe_done rfl
      apply hb_ex _ rfl rfl rfl
      ·intro w1
       refine r_nilCheck rfl rfl ?_
       refine hl_nil ?_
       exact qe_done rfl
      apply hb_ex _ rfl rfl rfl
      ·intro w1
       first | refine r_fieldAddr ⟨_, 3, none⟩ rfl rfl T.fa_trade_list_2 rfl ?_ | refine r_fieldAddr _ rfl rfl T.fa_trade_list_2 rfl ?_
       refine hl_nil ?_
       exact qe_done rfl
      apply hb_ex _ rfl rfl rfl
      ·intro w1
       first | refine r_load rfl T.cell_L_trade_kind rfl (cell_blk (by repeat constructor) rfl) ?_ | refine r_load rfl T.cell_L_trade_kind rfl (cell_own (by repeat constructor) rfl) ?_ | refine r_load rfl T.cell_L_trade_kind rfl (cell_row (by repeat constructor) (rows_get0 (by omega) rfl)) ?_ | refine r_load rfl T.cell_L_trade_kind rfl (cell_row_f (by repeat constructor) (rows_get (by omega) rfl)) ?_ | refine r_load rfl T.cell_L_trade_kind rfl (cell_rowg (by repeat constructor) rfl) ?_
       refine hl_nil ?_
       exact qe_done rfl
      apply hb_ex _ rfl rfl rfl
      ·intro w1
       first | refine r_fieldAddr ⟨_, 1, none⟩ rfl rfl T.fa_api_Head_1 rfl ?_ | refine r_fieldAddr _ rfl rfl T.fa_api_Head_1 rfl ?_
       refine hl_nil ?_
       exact qe_done rfl
      apply hb_ex _ rfl rfl rfl
      ·intro w1
       first | refine r_load rfl T.cell_int rfl (cell_blk (by repeat constructor) rfl) ?_ | refine r_load rfl T.cell_int rfl (cell_own (by repeat constructor) rfl) ?_ | refine r_load rfl T.cell_int rfl (cell_row (by repeat constructor) (rows_get0 (by omega) rfl)) ?_ | refine r_load rfl T.cell_int rfl (cell_row_f (by repeat constructor) (rows_get (by omega) rfl)) ?_ | refine r_load rfl T.cell_int rfl (cell_rowg (by repeat constructor) rfl) ?_
       refine hl_nil ?_
       exact qe_done rfl
      apply hb_ex _ rfl rfl rfl
      ·intro w1
       first | refine r_fieldAddr ⟨_, 3, none⟩ rfl rfl T.fa_api_Head_3 rfl ?_ | refine r_fieldAddr _ rfl rfl T.fa_api_Head_3 rfl ?_
       refine hl_nil ?_
       exact qe_done rfl
      apply hb_ex _ rfl rfl rfl
      ·intro w1
       first | refine r_load rfl T.cell_ints rfl (cell_blk (by repeat constructor) rfl) ?_ | refine r_load rfl T.cell_ints rfl (cell_own (by repeat constructor) rfl) ?_ | refine r_load rfl T.cell_ints rfl (cell_row (by repeat constructor) (rows_get0 (by omega) rfl)) ?_ | refine r_load rfl T.cell_ints rfl (cell_row_f (by repeat constructor) (rows_get (by omega) rfl)) ?_ | refine r_load rfl T.cell_ints rfl (cell_rowg (by repeat constructor) rfl) ?_
       refine hl_nil ?_
       exact qe_done rfl
      apply hb_ex _ rfl rfl rfl
      ·intro w1
       refine r_build _ rfl rfl (fun _ => T.bd_trade_article_0_1 ..) ?_
       refine hl_nil ?_
       exact qe_done rfl
      apply hb_ex _ rfl rfl rfl
      ·intro w1
       refine r_mkI rfl ⟨_, Try.underlying103, rfl⟩ rfl ?_
       refine hl_nil ?_
       exact qe_done rfl
      refine hb_vs ⟨Nat, fun _ => True, fun g => .slice (some ⟨g, 0, none⟩) 1 1, fun g => [Row (some ⟨g, 0, none⟩) (rows [Kd.art (hs.getD k default).2.1 (hs.getD k default).2.2.2])]⟩ rfl rfl rfl ?_ ?_
      ·intro w1
       refine r_buildSlice _ rfl rfl (fun _ => T.bs_L_trade_kind_1 ..) fun gS => ?_
       refine hl_nil ?_
       refine hq_letgo (rows [Kd.art (hs.getD k default).2.1 (hs.getD k default).2.2.2]) (List.prefix_refl _) ?_
       exact qv_done gS trivial rfl ⟨m0, trivial⟩
      refine hb_wr ⟨OutC × Hp, fun x => Grow T.trade_kind 1 x.1.1 (k + 1) x.1.2 (rows (kindsN hs k ++ [Kd.art (hs.getD k default).2.1 (hs.getD k default).2.2.2])) x.2, fun x => .slice x.1.1 (k + 1) x.1.2, fun _ => [], fun x => x.2⟩ rfl rfl rfl ?_ ?_
      ·intro g9 _; intro w1
       refine r_append (k + 1) (rows (kindsN hs k ++ [Kd.art (hs.getD k default).2.1 (hs.getD k default).2.2.2])) T.el_L_trade_kind rfl rfl rfl hG (hp' := []) (by rw [List.append_nil]) (Src.row (news := rows [Kd.art (hs.getD k default).2.1 (hs.getD k default).2.2.2]) (m := 1) m0 rfl (rows_one _) (by decide)) rfl (rows_append _ _).symm (by unfold maxLen; omega) (by omega) fun A' c' og' hG' => ?_
       refine hl_nil ?_
       exact qw_done ((A', c'), og') hG' (fun _ => rfl) (by rw [List.append_nil]; exact .refl _) trivial
      refine hb_nil ⟨rfl, ?_⟩
      intro g9 _ x hx
      obtain ⟨⟨xa, xc⟩, xo⟩ := x
      simp only at hx
      refine r_nilCheck rfl rfl ?_
      first | refine r_fieldAddr ⟨_, 3, none⟩ rfl rfl T.fa_trade_list_2 rfl ?_ | refine r_fieldAddr _ rfl rfl T.fa_trade_list_2 rfl ?_
      refine r_store rfl rfl (pmC _ _) T.sz_L_trade_kind (by rfl) (by rfl) ?_
      refine hl_nil ?_
      refine inb_n ?_
      refine inb_n ?_
      refine then_n ?_
      refine hc_region ?_
      refine r_add _ rfl rfl rfl rfl (by unfold I64; omega) ?_
      refine r_move rfl rfl ?_
      refine hl_nil ?_
      exact again _ (k + 1, (xa, xc), xo) ⟨by show k + 1 ≤ hs.length; omega, by show Grow _ _ _ _ _ (rows (kindsN hs (k + 1))) _; rw [kinds_succ hk2, kindOf, if_neg hb5, if_pos hb6]; exact hx⟩ (by show hs.length - (k + 1) < hs.length - k; omega) ⟨rfl, rfl, rfl, rfl, trivial⟩ (List.Sublist.refl _) ⟨(by repeat constructor), (by repeat constructor), (by repeat constructor), (by repeat constructor), trivial⟩
     ·have hb6' := hb6; try simp at hb6'
      refine hc_drawW (og2) ([_]) (List.perm_append_comm (l₁ := [_])) 11 [10] mixed (by decide) (by decide) (by decide) rfl rfl rfl ?_
      apply hb_ex _ rfl rfl rfl
      ·intro w1
       refine r_move rfl rfl ?_
       refine hl_nil ?_
       exact qe_done rfl
      apply hb_ex _ rfl rfl rfl
      ·intro w1
       refine r_move rfl rfl ?_
       refine hl_nil ?_
       exact qe_done rfl
      apply hb_ex _ rfl rfl rfl
      ·intro w1
       refine r_nilCheck rfl rfl ?_
       refine hl_nil ?_
       exact qe_done rfl
      apply hb_ex _ rfl rfl rfl
      ·intro w1
       first | refine r_fieldAddr ⟨_, 3, none⟩ rfl rfl T.fa_trade_list_2 rfl ?_ | refine r_fieldAddr _ rfl rfl T.fa_trade_list_2 rfl ?_
       refine hl_nil ?_
       exact qe_done rfl
      apply hb_ex _ rfl rfl rfl
      ·intro w1
       first | refine r_load rfl T.cell_L_trade_kind rfl (cell_blk (by repeat constructor) rfl) ?_ | refine r_load rfl T.cell_L_trade_kind rfl (cell_own (by repeat constructor) rfl) ?_ | refine r_load rfl T.cell_L_trade_kind rfl (cell_row (by repeat constructor) (rows_get0 (by omega) rfl)) ?_ | refine r_load rfl T.cell_L_trade_kind rfl (cell_row_f (by repeat constructor) (rows_get (by omega) rfl)) ?_ | refine r_load rfl T.cell_L_trade_kind rfl (cell_rowg (by repeat constructor) rfl) ?_
       refine hl_nil ?_
       exact qe_done rfl
      apply hb_ex _ rfl rfl rfl
      ·intro w1
       first | refine r_fieldAddr ⟨_, 3, none⟩ rfl rfl T.fa_api_Head_3 rfl ?_ | refine r_fieldAddr _ rfl rfl T.fa_api_Head_3 rfl ?_
       refine hl_nil ?_
       exact qe_done rfl
      apply hb_ex _ rfl rfl rfl
      ·intro w1
       first | refine r_load rfl T.cell_ints rfl (cell_blk (by repeat constructor) rfl) ?_ | refine r_load rfl T.cell_ints rfl (cell_own (by repeat constructor) rfl) ?_ | refine r_load rfl T.cell_ints rfl (cell_row (by repeat constructor) (rows_get0 (by omega) rfl)) ?_ | refine r_load rfl T.cell_ints rfl (cell_row_f (by repeat constructor) (rows_get (by omega) rfl)) ?_ | refine r_load rfl T.cell_ints rfl (cell_rowg (by repeat constructor) rfl) ?_
       refine hl_nil ?_
       exact qe_done rfl
      apply hb_ex _ rfl rfl rfl
      ·intro w1
       refine r_build _ rfl rfl (fun _ => T.bd_trade_index_0 ..) ?_
       refine hl_nil ?_
       exact qe_done rfl
      apply hb_ex _ rfl rfl rfl
      ·intro w1
       refine r_mkI rfl ⟨_, Try.underlying115, rfl⟩ rfl ?_
       refine hl_nil ?_
       exact qe_done rfl
      refine hb_vs ⟨Nat, fun _ => True, fun g => .slice (some ⟨g, 0, none⟩) 1 1, fun g => [Row (some ⟨g, 0, none⟩) (rows [Kd.idx (hs.getD k default).2.2.2])]⟩ rfl rfl rfl ?_ ?_
      ·intro w1
       refine r_buildSlice _ rfl rfl (fun _ => T.bs_L_trade_kind_1 ..) fun gS => ?_
       refine hl_nil ?_
       refine hq_letgo (rows [Kd.idx (hs.getD k default).2.2.2]) (List.prefix_refl _) ?_
       exact qv_done gS trivial rfl ⟨m0, trivial⟩
      refine hb_wr ⟨OutC × Hp, fun x => Grow T.trade_kind 1 x.1.1 (k + 1) x.1.2 (rows (kindsN hs k ++ [Kd.idx (hs.getD k default).2.2.2])) x.2, fun x => .slice x.1.1 (k + 1) x.1.2, fun _ => [], fun x => x.2⟩ rfl rfl rfl ?_ ?_
      ·intro g9 _; intro w1
       refine r_append (k + 1) (rows (kindsN hs k ++ [Kd.idx (hs.getD k default).2.2.2])) T.el_L_trade_kind rfl rfl rfl hG (hp' := []) (by rw [List.append_nil]) (Src.row (news := rows [Kd.idx (hs.getD k default).2.2.2]) (m := 1) m0 rfl (rows_one _) (by decide)) rfl (rows_append _ _).symm (by unfold maxLen; omega) (by omega) fun A' c' og' hG' => ?_
       refine hl_nil ?_
       exact qw_done ((A', c'), og') hG' (fun _ => rfl) (by rw [List.append_nil]; exact .refl _) trivial
      refine hb_nil ⟨rfl, ?_⟩
      intro g9 _ x hx
      obtain ⟨⟨xa, xc⟩, xo⟩ := x
      simp only at hx
      refine r_nilCheck rfl rfl ?_
      first | refine r_fieldAddr ⟨_, 3, none⟩ rfl rfl T.fa_trade_list_2 rfl ?_ | refine r_fieldAddr _ rfl rfl T.fa_trade_list_2 rfl ?_
      refine r_store rfl rfl (pmC _ _) T.sz_L_trade_kind (by rfl) (by rfl) ?_
      refine hl_nil ?_
      refine inb_n ?_
      refine inb_n ?_
      refine then_n ?_
      refine hc_region ?_
      refine r_add _ rfl rfl rfl rfl (by unfold I64; omega) ?_
      refine r_move rfl rfl ?_
      refine hl_nil ?_
      exact again _ (k + 1, (xa, xc), xo) ⟨by show k + 1 ≤ hs.length; omega, by show Grow _ _ _ _ _ (rows (kindsN hs (k + 1))) _; rw [kinds_succ hk2, kindOf, if_neg hb5, if_neg hb6]; exact hx⟩ (by show hs.length - (k + 1) < hs.length - k; omega) ⟨rfl, rfl, rfl, rfl, trivial⟩ (List.Sublist.refl _) ⟨(by repeat constructor), (by repeat constructor), (by repeat constructor), (by repeat constructor), trivial⟩
   ·have hb4' := hb4; try simp at hb4'
    have hk2 : k = hs.length := by omega
    subst hk2
    refine hc_exit ?_
    refine then_exit ?_
    refine then_exit ?_
    refine inb_hit ?_
    refine then_n ?_
    refine hc_seq ?_
    refine hc_region ?_
    refine r_move rfl rfl ?_
    refine r_assign rfl rfl ?_
    refine r_assign rfl rfl ?_
    refine hl_nil ?_
    refine then_n ?_
    refine hc_ret ?_
    have h0 := Classical.not_not.1 hb1
    refine hq_letgo [.slice A cs.length ca, .slice B hs.length cb, .slice oa cs.length oc, .slice ka hs.length kc] (List.prefix_refl _) ?_
    refine hq_grown0 hG ?_
    exact ret2 (gB_1, (oa, oc), (ka, kc)) rfl rfl rfl (by show Value.tuple #[if checkT (trOf cs hs) = 0 then _ else _, int (checkT (trOf cs hs))] = _; rw [if_pos h0, h0]) rfl trivial (List.nil_sublist _) (by show LSub _ (if checkT (trOf cs hs) = 0 then _ else []); rw [if_pos h0]; exact ⟨(by repeat constructor), (by repeat constructor), (by repeat constructor), trivial⟩)

end Go.Proofs.Ytlpgheniajdkfaa
