/- The document: a heading dropped. -/
import Derived.Test.YtlpgheniajdkfaaGreatPnb
import Derived.Test.YtlpgheniajdkfaaGreatPm7
namespace Go.Proofs.YtlpgheniajdkfaaGreat
open Go Go.W
set_option linter.unusedVariables false
set_option linter.unusedSimpArgs false
set_option maxRecDepth 20000
attribute [local irreducible] HL HC HQ HB Row Rows2 Blk Facts

instance : El Bool where
  default := false
  cells b := [.bool b]
  sz := 1
  len _ := rfl
  one a u h := by simp at h; subst h; rfl
theorem arrB_set (l : List Bool) (k : Nat) (v : Bool) : (rows l).toArray.setIfInBounds (0 + k * 1) (.bool v) = (rows (l.set k v)).toArray := by
  rw [← rows_set1 rfl (.bool v) v rfl]
  simp
theorem arrB_take (l : List Bool) : (rows l).toArray.toList.take (l.length * 1) = rows l := by
  have h1 : (rows l).length = l.length := by rw [rows_len]; exact Nat.mul_one _
  rw [List.take_of_length_le (by simp [h1])]
def gonL (g : Nat → Bool) (n : Nat) : List Bool := (List.range n).map g
theorem gonL_len (g : Nat → Bool) (n : Nat) : (gonL g n).length = n := by unfold gonL; rw [List.length_map, List.length_range]
theorem gonL_get {g : Nat → Bool} {n k : Nat} (hk : k < n) : (gonL g n).getD k (@default Bool El.toInhabited) = g k := by
  unfold gonL
  rw [List.getD_eq_getElem?_getD, List.getElem?_map, List.getElem?_range hk]
  rfl
theorem gonL_el {g : Nat → Bool} {n i : Nat} (h : i < (gonL g n).length) : (gonL g n)[i] = g i := by
  have h2 : (gonL g n)[i]? = some (g i) := by
    unfold gonL
    rw [List.getElem?_map, List.getElem?_range (by rw [gonL_len] at h; exact h)]
    rfl
  rw [List.getElem?_eq_getElem h] at h2
  exact Option.some.inj h2
theorem gonL_set {g g' : Nat → Bool} {n k : Nat} {b : Bool} (hk : k < n) (h1 : g' k = b) (h2 : ∀ j, j ≠ k → g' j = g j) : (gonL g n).set k b = gonL g' n := by
  refine List.ext_getElem (by rw [List.length_set, gonL_len, gonL_len]) fun i hi hi2 => ?_
  rw [List.getElem_set, gonL_el, gonL_el]
  by_cases e : k = i
  · subst e; rw [if_pos rfl, h1]
  · rw [if_neg e, h2 i (fun e2 => e e2.symm)]
theorem gonL_fall {H : List PH} {g : Nat → Bool} {n k : Nat} (hk : k < n) (h : goneK H g k k = false) : (gonL (goneK H g k) n).set k (fallsB H (goneK H g k) k) = gonL (goneK H g (k + 1)) n :=
  gonL_set hk (by show (_ || (_ && _)) = _; rw [h, decide_eq_true rfl]; simp) fun j hj => by
    show (_ || (_ && _)) = _
    rw [decide_eq_false (fun e => hj e.symm), Bool.false_and, Bool.or_false]
theorem gonL_keep {H : List PH} {g : Nat → Bool} {n k : Nat} (hk : k < n) (h : goneK H g k k = true) : (gonL (goneK H g k) n).set k true = gonL (goneK H g (k + 1)) n :=
  gonL_set hk (goneS_up h) fun j hj => by
    show (_ || (_ && _)) = _
    rw [decide_eq_false (fun e => hj e.symm), Bool.false_and, Bool.or_false]
theorem gonL_one {n i : Nat} (hi : i < n) : (List.replicate n false).set i true = gonL (fun j => decide (i = j)) n := by
  have h1 : List.replicate n false = gonL (fun _ => false) n := by
    refine List.ext_getElem (by rw [List.length_replicate, gonL_len]) fun k h1 h2 => ?_
    rw [List.getElem_replicate, gonL_el]
  rw [h1]
  exact gonL_set hi (decide_eq_true rfl) fun j hj => decide_eq_false fun e => hj e.symm

set_option maxHeartbeats 1000000 in
theorem ref04_falls_meets {A B : Option Addr} {ca cb : Nat} (cs : List Cl) (hs : List Hd) (g : Nat → Bool) (gG i : Nat) (hok : TrOK (trOf cs hs)) (hi : i < hs.length) (ha : ∀ h ∈ hs, h.2.2.2.l.length ≤ 1000000) : Meets Tryz.prog F.ref04_falls [.agg #[.slice A cs.length ca, .slice B hs.length cb], .slice (some ⟨gG, 0, none⟩) hs.length hs.length, int i] { hpI := [(gG, Obj.cells (rows (gonL g hs.length)).toArray T.bool (0, 0))], LI := [RowsF B hs Hd.row], val := fun _ : Unit => .bool (fallsB (hs.map Hd.p) g i), hpO := fun _ => [(gG, Obj.cells (rows (gonL g hs.length)).toArray T.bool (0, 0))] } := by
 refine meets_intro F.ref04_falls_f rfl (Nat.le_of_ble_eq_true rfl) fun w0 => ?_
 refine hc_seq (hc_region ?_)
 refine r_box rfl rfl fun gB => ?_
 refine r_assign rfl rfl (hl_nil (then_n (hc_seq ?_)))
 have hln := hs_len cs hs
 have h6h := hok.h6
 rw [hln] at h6h
 have hSi := sees_ok hok i hi
 have hci := (hok.h i (by rw [hln]; exact hi)).c
 rw [show (trOf cs hs).hs.getD i default = (hs.getD i default).p from hd_get hi] at hci
 have hci : -1 ≤ (hs.getD i default).2.1 := hci.1
 have hai : ∀ a ∈ (hs.getD i default).2.2.2.l, 0 ≤ a ∧ a < (hs.length : Int) := fun a hm => by
   have h1 := also_in (hok.h i (by rw [hln]; exact hi)) a (by rw [show (trOf cs hs).hs.getD i default = (hs.getD i default).p from hd_get hi]; exact hm)
   rw [hln] at h1
   exact ⟨h1.1, h1.2.1⟩
 have hal := ha _ (getD_mem hi)
 have hfa := falls_at (g := g) hi
 refine hc_letgoB ?_
 refine hc_outerF (ps := hs) (A := B) (f := Hd.row) (by repeat constructor) ?_
 refine hc_innerF (p := (hs.getD i default)) (f := Hd.row) (ps := hs) (by repeat constructor) (getD_mem hi) ?_
 refine hc_region ?_
 refine r_fieldAddr ⟨_, 1, none⟩ rfl rfl T.fa_api_Trades_1 rfl ?_
 refine r_load rfl T.cell_L_api_Head rfl (cell_blk (by repeat constructor) rfl) ?_
 refine r_move rfl rfl ?_
 refine r_elem (α := Hd) hs i rfl T.u_L_api_Head T.sz_api_Head rfl rfl rfl (by repeat constructor) rfl hi (by decide) ?_
 refine r_loadS rfl T.row_api_Head T.sz_api_Head rfl rfl (cells_row (by repeat constructor) (rows_all (by omega))) ?_
 refine r_alloc rfl (fun _ => T.al_api_Head _) fun gA => ?_
 refine r_storeS rfl rfl (by first | exact .refl _ | exact perm2 _ _ _ | exact perm3 _ _ _ _ | exact perm4 _ _ _ _ _) T.sz_api_Head (by rfl) (by rfl) ?_
 refine hl_nil (then_n (hc_seq (hc_seq ?_)))
 refine hc_letgo (rows [(hs.getD i default)]) ⟨[], List.append_nil _⟩ ?_
 refine hc_region ?_
 refine r_fieldAddr ⟨_, 2, none⟩ rfl rfl T.fa_api_Head_2 rfl ?_
 refine r_load rfl T.cell_int rfl (cell_rowg (by repeat constructor) rfl) ?_
 refine r_geq rfl rfl rfl (hl_nil (then_n ?_))
 refine c_dec rfl (fun hb1 => ?_) (fun hb1 => ?_)
 ·have hb1' := hb1; try simp at hb1'
  rw [if_pos (show ¬ (hs.getD i default).2.2.1 = -1 by omega)] at hfa
  refine hc_seq (hc_region (r_move rfl rfl ?_))
  refine r_fieldAddr ⟨_, 2, none⟩ rfl rfl T.fa_api_Head_2 rfl ?_
  refine r_load rfl T.cell_int rfl (cell_rowg (by repeat constructor) rfl) ?_
  refine r_indexAddr_own (hs.getD i default).2.2.1.toNat (0 + (hs.getD i default).2.2.1.toNat * 1) rfl T.u_L_bool T.sz_bool rfl rfl (Int.toNat_of_nonneg (by omega)).symm (by omega) rfl ?_
  refine r_load (v := .bool (g (hs.getD i default).2.2.1.toNat)) rfl T.cell_bool rfl (cell_own (by repeat constructor) (own_el (i := (hs.getD i default).2.2.1.toNat) rfl (arrB_take (gonL g hs.length)) (by rw [gonL_len]; omega) (by omega) (by show [Value.bool _] = _; rw [gonL_get (by omega)]))) ?_
  refine r_assign rfl rfl (hl_nil (then_n (hc_ret (then_ret ?_))))
  exact ret1 () rfl (congrArg (fun b => some (Value.bool b)) (by rw [hfa])) rfl trivial (List.Sublist.refl _) trivial
 ·have hb1' := hb1; try simp at hb1'
  rw [if_neg (not_not_intro (show (hs.getD i default).2.2.1 = -1 by omega))] at hfa
  refine hc_skip (then_n (hc_seq (hc_seq (hc_region ?_))))
  refine r_fieldAddr ⟨_, 1, none⟩ rfl rfl T.fa_api_Head_1 rfl ?_
  refine r_load rfl T.cell_int rfl (cell_rowg (by repeat constructor) rfl) ?_
  refine r_geq rfl rfl rfl (hl_nil (then_n ?_))
  refine c_dec rfl (fun hb2 => ?_) (fun hb2 => ?_)
  ·have hb2' := hb2; try simp at hb2'
   rw [if_pos (show ¬ (hs.getD i default).2.1 = -1 by omega)] at hfa
   refine hc_seq (hc_region (r_assign rfl rfl (hl_nil (then_n (hc_ret (then_ret ?_))))))
   exact ret1 () rfl (congrArg (fun b => some (Value.bool b)) (by rw [hfa])) rfl trivial (List.Sublist.refl _) trivial
  ·have hb2' := hb2; try simp at hb2'
   rw [if_neg (not_not_intro (show (hs.getD i default).2.1 = -1 by omega))] at hfa
   refine hc_skip (then_n (hc_seq (hc_seq (hc_region (r_assign rfl rfl (hl_nil (then_n (hc_block ?_))))))))
   refine hc_loop (β := Nat) ⟨fun k => k ≤ (hs.getD i default).2.2.2.l.length ∧ (((hs.getD i default).2.2.2.l.take k).all fun a => g a.toNat) = true, fun k => [(1, .slice (some ⟨gG, 0, none⟩) hs.length hs.length), (7, .pointer (some ⟨gA, 0, none⟩)), (8, int k)], fun _ => [(gG, Obj.cells (rows (gonL g hs.length)).toArray T.bool (0, 0))], fun _ => [Row (some ⟨gA, 0, none⟩) (rows [(hs.getD i default)]), Hd.row (hs.getD i default)]⟩ (fun k => (hs.getD i default).2.2.2.l.length - k) 0 ⟨Nat.zero_le _, rfl⟩ ⟨rfl, rfl, rfl, trivial⟩ (List.Sublist.refl _) ⟨(by repeat constructor), (by repeat constructor), trivial⟩ fun j hj => ?_
   obtain ⟨hj, ht⟩ := hj
   refine hc_seq (hc_seq (hc_region (r_move rfl rfl ?_)))
   refine r_fieldAddr ⟨_, 3, none⟩ rfl rfl T.fa_api_Head_3 rfl ?_
   refine r_load rfl T.cell_ints rfl (cell_rowg (by repeat constructor) rfl) ?_
   refine r_len_sl rfl T.u_ints rfl ?_
   refine r_lss rfl rfl rfl (hl_nil (then_n ?_))
   refine c_dec rfl (fun hb3 => ?_) (fun hb3 => ?_)
   ·have hb3' := hb3; try simp at hb3'
    have hj2 : j < (hs.getD i default).2.2.2.l.length := by omega
    have haj := hai _ (getD_mem hj2)
    refine hc_skip (then_n (hc_seq (hc_block (hc_seq (hc_region (r_move rfl rfl ?_))))))
    refine r_fieldAddr ⟨_, 3, none⟩ rfl rfl T.fa_api_Head_3 rfl ?_
    refine r_load rfl T.cell_ints rfl (cell_rowg (by repeat constructor) rfl) ?_
    refine r_move rfl rfl ?_
    refine r_elem (α := Int) (hs.getD i default).2.2.2.l j rfl T.u_ints T.sz_int rfl rfl rfl (by repeat constructor) rfl hj2 (by decide) ?_
    refine r_load (v := int ((hs.getD i default).2.2.2.l.getD j default)) rfl T.cell_int rfl (cell_row (by repeat constructor) (rows_get0 hj2 rfl)) ?_
    refine r_indexAddr_own ((hs.getD i default).2.2.2.l.getD j default).toNat (0 + ((hs.getD i default).2.2.2.l.getD j default).toNat * 1) rfl T.u_L_bool T.sz_bool rfl rfl (Int.toNat_of_nonneg (by omega)).symm (by omega) rfl ?_
    refine r_load (v := .bool (g ((hs.getD i default).2.2.2.l.getD j default).toNat)) rfl T.cell_bool rfl (cell_own (by repeat constructor) (own_el (i := ((hs.getD i default).2.2.2.l.getD j default).toNat) rfl (arrB_take (gonL g hs.length)) (by rw [gonL_len]; omega) (by omega) (by show [Value.bool _] = _; rw [gonL_get (by omega)]))) ?_
    refine r_not rfl rfl (hl_nil (then_n ?_))
    refine hc_cond rfl (fun hb4 => ?_) (fun hb4 => ?_)
    ·have hb4' := hb4; try simp at hb4'
     have hga : g ((hs.getD i default).2.2.2.l.getD j default).toNat = false := by simpa using hb4
     refine hc_seq (hc_region (r_assign rfl rfl (hl_nil (then_n (hc_ret (inb_ret (then_ret (then_ret (inb_ret (then_ret ?_))))))))))
     exact ret1 () rfl (congrArg (fun b => some (Value.bool b)) (by rw [hfa]; exact (List.all_eq_false.2 ⟨_, getD_mem hj2, by rw [hga]; decide⟩).symm)) rfl trivial (List.Sublist.refl _) trivial
    ·have hb4' := hb4; try simp at hb4'
     have hga : g ((hs.getD i default).2.2.2.l.getD j default).toNat = true := by simpa using hb4
     refine hc_skip (inb_n (then_n (hc_region (r_move rfl rfl ?_))))
     refine r_add _ rfl rfl rfl rfl (by unfold I64; omega) ?_
     refine r_assign rfl rfl (hl_nil ?_)
     exact again _ (j + 1) ⟨by omega, by rw [take_succ_getD _ j hj2, List.all_append, ht, Bool.true_and, List.all_cons, hga]; rfl⟩ (by show (hs.getD i default).2.2.2.l.length - (j + 1) < (hs.getD i default).2.2.2.l.length - j; omega) ⟨rfl, rfl, rfl, trivial⟩ (List.Sublist.refl _) ⟨(by repeat constructor), (by repeat constructor), trivial⟩
   ·have hb3' := hb3; try simp at hb3'
    obtain rfl : j = (hs.getD i default).2.2.2.l.length := by omega
    rw [List.take_length] at ht
    refine hc_exit (then_exit (then_exit (inb_hit (then_n (hc_seq (hc_region (r_assign rfl rfl (hl_nil (then_n (hc_ret ?_))))))))))
    exact ret1 () rfl (congrArg (fun b => some (Value.bool b)) (by rw [hfa, ht])) rfl trivial (List.Sublist.refl _) trivial

set_option maxHeartbeats 2000000 in
theorem ref04_Drop_meets {A B : Option Addr} {ca cb : Nat} (cs : List Cl) (hs : List Hd) (h : Int) (hhl : hs.length ≤ 1000) (hcl0 : cs.length ≤ 1000) (hwc : ∀ x ∈ cs, x.1.length ≤ 1000) (hwh : ∀ h ∈ hs, h.1.length ≤ 1000) (ha : ∀ h ∈ hs, h.2.2.2.l.length ≤ 1000000) : Meets Tryz.prog F.ref04_Drop [.agg #[.slice A cs.length ca, .slice B hs.length cb], int h] { LI := [Row A (rows cs), RowsF B hs Hd.row], inv := fun x : OutR => TrIs (dropE (trOf cs hs) h).1 x, val := fun x => .tuple #[.agg #[.slice x.2.1.1 (dropE (trOf cs hs) h).1.cs.length x.2.1.2, .slice x.2.2.1 x.1.length x.2.2.2], int (dropE (trOf cs hs) h).2], LO := fun x => [Row x.2.1.1 (rows (dropE (trOf cs hs) h).1.cs), RowsF x.2.2.1 x.1 Hd.row] } := by
 refine meets_intro F.ref04_Drop_f rfl (Nat.le_of_ble_eq_true rfl) fun w0 => ?_
 refine hc_seq (hc_region ?_)
 refine r_box rfl rfl fun gB => ?_
 refine r_alloc rfl (fun _ => T.al_api_Trades _) fun gR => ?_
 refine r_assign rfl rfl (hl_nil (then_n (hc_seq (hc_seq ?_))))
 refine hc_perm (.swap _ _ _) ?_
 refine hc_letgoB (hc_region ?_)
 refine r_loadB rfl T.row_api_Trades T.sz_api_Trades rfl (by repeat constructor) (by rfl) ?_
 refine r_move rfl rfl ?_
 refine r_buildSlice _ rfl rfl (fun _ => T.bs_ints_1 ..) fun gS => ?_
 refine hl_letgo (rows [h]) (List.prefix_refl _) ?_
 refine hl_nilrow (α := Int) ?_
 refine hl_call F.ref04_asked_cb rfl rfl (ref04_asked_meets (C1 := none) (c1 := 0) cs hs ([] : List Int) [h] (by simp) (by simp) hhl hcl0 hwc hwh ha) (List.Perm.refl _) ⟨(by repeat constructor), (by repeat constructor), (by repeat constructor), (by repeat constructor), trivial⟩ fun _ _ => ?_
 refine r_assign rfl rfl (hl_nil (then_n (hc_seq (hc_region (r_move rfl rfl (r_neq rfl rfl rfl (hl_nil (then_n ?_))))))))
 refine c_dec rfl (fun hb1 => ?_) (fun hb1 => ?_)
 ·have hb1' := hb1; try simp at hb1'
  have hE : (dropE (trOf cs hs) h) = (⟨[], []⟩, askdE (trOf cs hs) [] [h]) := by rw [askd_h] at hb1 ⊢; rw [dropE, if_pos hb1]
  refine hc_seq (hc_region ?_)
  refine r_build [] rfl rfl (fun _ => T.bd_api_Trades_ ..) ?_
  refine r_move rfl rfl ?_
  refine r_storeS (cs := #[.slice none 0 0, .slice none 0 0]) rfl rfl (.refl _) T.sz_api_Trades (by rfl) (by rfl) ?_
  refine r_assign rfl rfl (hl_nil (then_n (hc_ret (then_ret ?_))))
  refine hq_nilrow (α := Cl) ?_
  refine hq_nilrow (α := Hd) ?_
  refine hq_facts (Fs := ([] : List Hd).map Hd.row) (by intro F hF; simp at hF) ?_
  refine hq_rowsF (A := none) (ps := ([] : List Hd)) (f := Hd.row) (by repeat constructor) (by repeat constructor) ?_
  exact ret_row_tmp ([], (none, 0), (none, 0)) rfl rfl rfl T.row_api_Trades T.sz_api_Trades rfl m0 (by show Value.tuple #[.agg #[.slice none (dropE (trOf cs hs) h).1.cs.length 0, .slice none 0 0], int (dropE (trOf cs hs) h).2] = _; rw [hE]; rfl) rfl (by show TrIs (dropE (trOf cs hs) h).1 _; rw [hE]; exact ⟨rfl, Nat.le_refl _, Nat.le_refl _⟩) (List.nil_sublist _) (by show LSub _ [Row none (rows (dropE (trOf cs hs) h).1.cs), RowsF none [] Hd.row]; rw [hE]; exact ⟨(by repeat constructor), (by repeat constructor), trivial⟩)
 ·have hb1' := hb1; try simp at hb1'
  rw [askd_h] at hb1
  have h0 := Classical.not_not.1 hb1
  have hch := ask_check h0
  have hin := ask_in h0 (List.mem_singleton.2 rfl)
  rw [hs_len] at hin
  have hok := tr_ok hch
  have h6 : cs.length ≤ 6 := hok.c6
  have h6h := hok.h6
  rw [hs_len] at h6h
  have hcl : ∀ i, i < cs.length → ClsOK cs i := hok.c
  have hln := hs_len cs hs
  have hS := sees_ok hok
  obtain ⟨i, hi⟩ := Int.eq_ofNat_of_zero_le hin.1
  subst hi
  have hE : (dropE (trOf cs hs) (i : Int)) = (dropT (trOf cs hs) i, 0) := by rw [dropE, if_neg hb1, Int.toNat_natCast]
  have hH : (hs.map Hd.p).length = hs.length := List.length_map ..
  refine hc_outerF (ps := hs) (A := B) (f := Hd.row) (by repeat constructor) ?_
  refine hc_skip (then_n (hc_seq (hc_region ?_)))
  refine r_fieldAddr ⟨_, 1, none⟩ rfl rfl T.fa_api_Trades_1 rfl ?_
  refine r_load rfl T.cell_L_api_Head rfl (cell_blk (by repeat constructor) rfl) ?_
  refine r_len_sl rfl T.u_L_api_Head rfl ?_
  refine r_make1 (n := hs.length) rfl T.u_L_bool T.zi_L_bool rfl rfl rfl rfl (by omega) (by omega) fun g5 => ?_
  rw [← rows_replicate (α := Bool) _ false _ rfl]
  refine r_assign rfl rfl (hl_nil (then_n (hc_seq (hc_region (r_move rfl rfl (r_move rfl rfl ?_))))))
  refine r_indexAddr_own i (0 + i * 1) rfl T.u_L_bool T.sz_bool rfl rfl rfl (by omega) rfl ?_
  refine r_store rfl rfl (.refl _) T.sz_bool (own_el (i := i) rfl (arrB_take (List.replicate hs.length false)) (by rw [List.length_replicate]; omega) (by omega) rfl) (by rfl) ?_
  rw [arrB_set, gonL_one (by omega)]
  refine hl_nil (then_n (hc_seq (hc_seq (hc_region (r_assign rfl rfl (hl_nil (then_n (hc_block ?_))))))))
  refine hc_loop (β := Nat) ⟨fun r => r ≤ hs.length, fun r => [(2, .pointer (some ⟨gB, 0, none⟩)), (4, .pointer (some ⟨gR, 0, none⟩)), (7, .slice (some ⟨g5, 0, none⟩) hs.length hs.length), (8, int r)], fun r => [(g5, Obj.cells (rows (gonL (goneR (hs.map Hd.p) (fun j => decide (i = j)) r) hs.length)).toArray T.bool (0, 0)), (gR, Obj.cells #[.slice none 0 0, .slice none 0 0] T.api_Trades (0, 0))], fun _ => [Row A (rows cs), Row B (rows hs), Blk gB (.cells #[.slice A cs.length ca, .slice B hs.length cb] T.api_Trades (0, 0)), RowsF B hs Hd.row]⟩ (fun r => hs.length - r) 0 (Nat.zero_le _) ⟨rfl, rfl, rfl, rfl, trivial⟩ (List.Sublist.refl _) ⟨(by repeat constructor), (by repeat constructor), (by repeat constructor), (by repeat constructor), trivial⟩ fun r hr => ?_
  simp only at hr
  refine hc_seq (hc_seq (hc_region (r_move rfl rfl ?_)))
  refine r_fieldAddr ⟨_, 1, none⟩ rfl rfl T.fa_api_Trades_1 rfl ?_
  refine r_load rfl T.cell_L_api_Head rfl (cell_blk (by repeat constructor) rfl) ?_
  refine r_len_sl rfl T.u_L_api_Head rfl ?_
  refine r_lss rfl rfl rfl (hl_nil (then_n ?_))
  refine c_dec rfl (fun hb2 => ?_) (fun hb2 => ?_)
  ·have hb2' := hb2; try simp at hb2'
   have hr2 : r < hs.length := by omega
   refine hc_skip (then_n (hc_seq (hc_block (hc_seq (hc_region (r_assign rfl rfl (hl_nil (then_n (hc_block ?_)))))))))
   refine hc_loop (β := Nat) ⟨fun k => k ≤ hs.length, fun k => [(2, .pointer (some ⟨gB, 0, none⟩)), (4, .pointer (some ⟨gR, 0, none⟩)), (7, .slice (some ⟨g5, 0, none⟩) hs.length hs.length), (8, int r), (9, int k)], fun k => [(g5, Obj.cells (rows (gonL (goneK (hs.map Hd.p) (goneR (hs.map Hd.p) (fun j => decide (i = j)) r) k) hs.length)).toArray T.bool (0, 0)), (gR, Obj.cells #[.slice none 0 0, .slice none 0 0] T.api_Trades (0, 0))], fun _ => [Row A (rows cs), Row B (rows hs), Blk gB (.cells #[.slice A cs.length ca, .slice B hs.length cb] T.api_Trades (0, 0)), RowsF B hs Hd.row]⟩ (fun k => hs.length - k) 0 (Nat.zero_le _) ⟨rfl, rfl, rfl, rfl, rfl, trivial⟩ (List.Sublist.refl _) ⟨(by repeat constructor), (by repeat constructor), (by repeat constructor), (by repeat constructor), trivial⟩ fun k hk => ?_
   simp only at hk
   refine hc_seq (hc_seq (hc_region (r_move rfl rfl ?_)))
   refine r_fieldAddr ⟨_, 1, none⟩ rfl rfl T.fa_api_Trades_1 rfl ?_
   refine r_load rfl T.cell_L_api_Head rfl (cell_blk (by repeat constructor) rfl) ?_
   refine r_len_sl rfl T.u_L_api_Head rfl ?_
   refine r_lss rfl rfl rfl (hl_nil (then_n ?_))
   refine c_dec rfl (fun hb3 => ?_) (fun hb3 => ?_)
   ·have hb3' := hb3; try simp at hb3'
    have hk2 : k < hs.length := by omega
    refine hc_skip (then_n (hc_seq (hc_block (hc_region (r_move rfl rfl (r_move rfl rfl (r_move rfl rfl (r_move rfl rfl ?_))))))))
    refine r_indexAddr_own k (0 + k * 1) rfl T.u_L_bool T.sz_bool rfl rfl rfl hk2 rfl ?_
    refine r_load (v := .bool ((goneK (hs.map Hd.p) (goneR (hs.map Hd.p) (fun j => decide (i = j)) r) k) k)) rfl T.cell_bool rfl (cell_own (by repeat constructor) (own_el (i := k) rfl (arrB_take (gonL (goneK (hs.map Hd.p) (goneR (hs.map Hd.p) (fun j => decide (i = j)) r) k) hs.length)) (by rw [gonL_len]; omega) (by omega) (by show [Value.bool _] = _; rw [gonL_get hk2]))) ?_
    refine r_move rfl rfl ?_
    refine g_split rfl rfl ?_ ?_
    ·intro hg1; have hg1' := hg1; try simp at hg1'
     have g12 : (goneK (hs.map Hd.p) (goneR (hs.map Hd.p) (fun j => decide (i = j)) r) k) k = false := by simpa using hg1
     refine g_yes rfl rfl hg1 ?_
     refine r_loadB rfl T.row_api_Trades T.sz_api_Trades rfl (by repeat constructor) (by rfl) ?_
     refine g_yes rfl rfl hg1 (r_move rfl rfl (g_yes rfl rfl hg1 (r_move rfl rfl (g_yes rfl rfl hg1 ?_))))
     refine hl_call F.ref04_falls_cb rfl rfl (ref04_falls_meets cs hs (goneK (hs.map Hd.p) (goneR (hs.map Hd.p) (fun j => decide (i = j)) r) k) g5 k hok hk2 ha) (hpR := [(gR, Obj.cells #[.slice none 0 0, .slice none 0 0] T.api_Trades (0, 0))]) (List.Perm.refl _) ⟨(by repeat constructor), trivial⟩ fun _ _ => ?_
     refine p_f rfl rfl (bf1 hg1) rfl ?_
     refine r_indexAddr_own k (0 + k * 1) rfl T.u_L_bool T.sz_bool rfl rfl rfl hk2 rfl ?_
     refine r_store rfl rfl (.refl _) T.sz_bool (own_el (i := k) rfl (arrB_take (gonL (goneK (hs.map Hd.p) (goneR (hs.map Hd.p) (fun j => decide (i = j)) r) k) hs.length)) (by rw [gonL_len]; exact hk2) (by omega) rfl) (by rfl) ?_
     first | rw [arrB_set, gonL_fall hk2 g12] | rw [arrB_set, gonL_keep hk2 g12]
     refine hl_nil (inb_n (then_n (hc_region (r_move rfl rfl ?_))))
     refine r_add _ rfl rfl rfl rfl (by unfold I64; omega) ?_
     refine r_assign rfl rfl (hl_nil ?_)
     exact again _ (k + 1) (by show k + 1 ≤ hs.length; omega) (by show hs.length - (k + 1) < hs.length - k; omega) ⟨rfl, rfl, rfl, rfl, rfl, trivial⟩ (List.Sublist.refl _) ⟨(by repeat constructor), (by repeat constructor), (by repeat constructor), (by repeat constructor), trivial⟩
    ·intro hg1; have hg1' := hg1; try simp at hg1'
     have g12 : (goneK (hs.map Hd.p) (goneR (hs.map Hd.p) (fun j => decide (i = j)) r) k) k = true := by simpa using hg1
     refine g_no rfl rfl rfl rfl rfl hg1 (g_no rfl rfl rfl rfl rfl hg1 (g_no rfl rfl rfl rfl rfl hg1 (g_no rfl rfl rfl rfl rfl hg1 ?_)))
     refine p_t rfl rfl (bt2 hg1) rfl ?_
     refine r_indexAddr_own k (0 + k * 1) rfl T.u_L_bool T.sz_bool rfl rfl rfl hk2 rfl ?_
     refine r_store rfl rfl (.refl _) T.sz_bool (own_el (i := k) rfl (arrB_take (gonL (goneK (hs.map Hd.p) (goneR (hs.map Hd.p) (fun j => decide (i = j)) r) k) hs.length)) (by rw [gonL_len]; exact hk2) (by omega) rfl) (by rfl) ?_
     first | rw [arrB_set, gonL_fall hk2 g12] | rw [arrB_set, gonL_keep hk2 g12]
     refine hl_nil (inb_n (then_n (hc_region (r_move rfl rfl ?_))))
     refine r_add _ rfl rfl rfl rfl (by unfold I64; omega) ?_
     refine r_assign rfl rfl (hl_nil ?_)
     exact again _ (k + 1) (by show k + 1 ≤ hs.length; omega) (by show hs.length - (k + 1) < hs.length - k; omega) ⟨rfl, rfl, rfl, rfl, rfl, trivial⟩ (List.Sublist.refl _) ⟨(by repeat constructor), (by repeat constructor), (by repeat constructor), (by repeat constructor), trivial⟩
   ·have hb3' := hb3; try simp at hb3'
    obtain rfl : k = hs.length := by omega
    refine hc_exit (then_exit (then_exit (inb_hit (inb_n (then_n (hc_region (r_move rfl rfl ?_)))))))
    refine r_add _ rfl rfl rfl rfl (by unfold I64; omega) ?_
    refine r_assign rfl rfl (hl_nil ?_)
    exact again _ (r + 1) (by show r + 1 ≤ hs.length; omega) (by show hs.length - (r + 1) < hs.length - r; omega) ⟨rfl, rfl, rfl, rfl, trivial⟩ (by show List.Sublist [(g5, Obj.cells (rows (gonL (goneK (hs.map Hd.p) (goneR (hs.map Hd.p) (fun j => decide (i = j)) r) (hs.map Hd.p).length) hs.length)).toArray T.bool (0, 0)), (gR, Obj.cells #[.slice none 0 0, .slice none 0 0] T.api_Trades (0, 0))] _; rw [hH]; exact List.Sublist.refl _) ⟨(by repeat constructor), (by repeat constructor), (by repeat constructor), (by repeat constructor), trivial⟩
  ·have hb2' := hb2; try simp at hb2'
   obtain rfl : r = hs.length := by omega
   have hgb : goneR (hs.map Hd.p) (fun j => decide (i = j)) hs.length = (goneB (hs.map Hd.p) i) := by unfold goneB; rw [hH]
   refine hc_exit (then_exit (then_exit (inb_hit (then_n (hc_seq ?_)))))
   show HC _ _ _ _ [(g5, Obj.cells (rows (gonL (goneR (hs.map Hd.p) (fun j => decide (i = j)) hs.length) hs.length)).toArray T.bool (0, 0)), (gR, Obj.cells #[.slice none 0 0, .slice none 0 0] T.api_Trades (0, 0))] _
   rw [hgb]
   refine hc_letgo (rows (gonL (goneB (hs.map Hd.p) i) hs.length)) ⟨[], List.append_nil _⟩ ?_
   refine hc_region ?_
   refine r_fieldAddr ⟨_, 1, none⟩ rfl rfl T.fa_api_Trades_1 rfl ?_
   refine r_load rfl T.cell_L_api_Head rfl (cell_blk (by repeat constructor) rfl) ?_
   refine r_len_sl rfl T.u_L_api_Head rfl ?_
   refine r_make1 (n := hs.length) rfl T.u_ints T.zi_ints rfl rfl rfl rfl (by omega) (by omega) fun g10 => ?_
   rw [← rows_replicate (α := Int) _ 0 _ rfl]
   refine r_assign rfl rfl (hl_nil (then_n (hc_seq (hc_region (r_assign rfl rfl (hl_nil (then_n (hc_seq (hc_seq (hc_region (r_assign rfl rfl ?_)))))))))))
   refine hl_nil (then_n (hc_block ?_))
   refine hc_loop (β := Nat) ⟨fun k => k ≤ hs.length, fun k => [(2, .pointer (some ⟨gB, 0, none⟩)), (4, .pointer (some ⟨gR, 0, none⟩)), (7, .slice (some ⟨g5, 0, none⟩) hs.length hs.length), (10, .slice (some ⟨g10, 0, none⟩) hs.length hs.length), (11, int (numN (goneB (hs.map Hd.p) i) k)), (12, int k)], fun k => [(g10, Obj.cells (rows (numL (goneB (hs.map Hd.p) i) k hs.length)).toArray T.int (0, 0)), (gR, Obj.cells #[.slice none 0 0, .slice none 0 0] T.api_Trades (0, 0))], fun _ => Row (some ⟨g5, 0, none⟩) (rows (gonL (goneB (hs.map Hd.p) i) hs.length)) :: [Row A (rows cs), Row B (rows hs), Blk gB (.cells #[.slice A cs.length ca, .slice B hs.length cb] T.api_Trades (0, 0)), RowsF B hs Hd.row]⟩ (fun k => hs.length - k) 0 (Nat.zero_le _) ⟨rfl, rfl, rfl, rfl, rfl, rfl, trivial⟩ (by show List.Sublist [(g10, Obj.cells (rows (numL (goneB (hs.map Hd.p) i) 0 hs.length)).toArray T.int (0, 0)), (gR, Obj.cells #[.slice none 0 0, .slice none 0 0] T.api_Trades (0, 0))] _; rw [numL_zero]; exact List.Sublist.refl _) ⟨(by repeat constructor), (by repeat constructor), (by repeat constructor), (by repeat constructor), (by repeat constructor), trivial⟩ fun k hk => ?_
   simp only at hk
   refine hc_seq (hc_seq (hc_region (r_move rfl rfl ?_)))
   refine r_fieldAddr ⟨_, 1, none⟩ rfl rfl T.fa_api_Trades_1 rfl ?_
   refine r_load rfl T.cell_L_api_Head rfl (cell_blk (by repeat constructor) rfl) ?_
   refine r_len_sl rfl T.u_L_api_Head rfl ?_
   refine r_lss rfl rfl rfl (hl_nil (then_n ?_))
   refine c_dec rfl (fun hb4 => ?_) (fun hb4 => ?_)
   ·have hb4' := hb4; try simp at hb4'
    have hk2 : k < hs.length := by omega
    have hnl := num_le (goneB (hs.map Hd.p) i) k
    have hns := num_succ (goneB (hs.map Hd.p) i) k
    refine hc_skip (then_n (hc_seq (hc_block (hc_seq (hc_region (r_move rfl rfl (r_move rfl rfl (r_move rfl rfl ?_))))))))
    refine r_indexAddr_own k (0 + k * 1) rfl T.u_ints T.sz_int rfl rfl rfl hk2 rfl ?_
    refine r_store rfl rfl (.refl _) T.sz_int (own_el rfl (arr_take (numL (goneB (hs.map Hd.p) i) k hs.length)) (by rw [numL_len]; exact hk2) (by omega) rfl) (by rfl) ?_
    rw [arr_set, numL_set hk2]
    refine hl_nil (then_n (hc_seq (hc_region (r_move rfl rfl (r_move rfl rfl ?_)))))
    refine r_elem (α := Bool) (gonL (goneB (hs.map Hd.p) i) hs.length) k rfl T.u_L_bool T.sz_bool rfl rfl rfl (by repeat constructor) (gonL_len _ _).symm (by rw [gonL_len]; exact hk2) (by decide) ?_
    refine r_load (v := .bool ((goneB (hs.map Hd.p) i) k)) rfl T.cell_bool rfl (cell_row (by repeat constructor) (rows_get0 (by rw [gonL_len]; exact hk2) (by rw [gonL_get hk2]; rfl))) ?_
    refine r_not rfl rfl (hl_nil (then_n ?_))
    refine hc_cond rfl (fun hb5 => ?_) (fun hb5 => ?_)
    ·have hb5' := hb5; try simp at hb5'
     have hg : (goneB (hs.map Hd.p) i) k = false := by simpa using hb5
     rw [if_neg (by rw [hg]; decide)] at hns
     refine hc_region (r_move rfl rfl ?_)
     refine r_add _ rfl rfl rfl rfl (by unfold I64; omega) ?_
     refine r_assign rfl rfl (hl_nil (inb_n (then_n (hc_region (r_move rfl rfl ?_)))))
     refine r_add _ rfl rfl rfl rfl (by unfold I64; omega) ?_
     refine r_assign rfl rfl (hl_nil ?_)
     exact again _ (k + 1) (by show k + 1 ≤ hs.length; omega) (by show hs.length - (k + 1) < hs.length - k; omega) ⟨rfl, rfl, rfl, rfl, congrArg (fun z : Int => some (int z)) (by show ((numN (goneB (hs.map Hd.p) i) k) : Int) + 1 = ((numN (goneB (hs.map Hd.p) i) (k + 1)) : Int); omega), rfl, trivial⟩ (List.Sublist.refl _) ⟨(by repeat constructor), (by repeat constructor), (by repeat constructor), (by repeat constructor), (by repeat constructor), trivial⟩
    ·have hb5' := hb5; try simp at hb5'
     have hg : (goneB (hs.map Hd.p) i) k = true := by simpa using hb5
     rw [if_pos hg] at hns
     refine hc_skip (inb_n (then_n (hc_region (r_move rfl rfl ?_))))
     refine r_add _ rfl rfl rfl rfl (by unfold I64; omega) ?_
     refine r_assign rfl rfl (hl_nil ?_)
     exact again _ (k + 1) (by show k + 1 ≤ hs.length; omega) (by show hs.length - (k + 1) < hs.length - k; omega) ⟨rfl, rfl, rfl, rfl, congrArg (fun z : Int => some (int z)) (by show ((numN (goneB (hs.map Hd.p) i) k) : Int) = ((numN (goneB (hs.map Hd.p) i) (k + 1)) : Int); omega), rfl, trivial⟩ (List.Sublist.refl _) ⟨(by repeat constructor), (by repeat constructor), (by repeat constructor), (by repeat constructor), (by repeat constructor), trivial⟩
   ·have hb4' := hb4; try simp at hb4'
    obtain rfl : k = hs.length := by omega
    refine hc_exit (then_exit (then_exit (inb_hit (then_n (hc_seq ?_)))))
    refine hc_letgo (rows (numL (goneB (hs.map Hd.p) i) hs.length hs.length)) ⟨[], List.append_nil _⟩ ?_
    refine hc_region ?_
    refine r_buildSlice _ rfl rfl (fun _ => T.bs_L_api_Class_0 ..) fun gS => ?_
    refine r_fieldAddr ⟨_, 0, none⟩ rfl rfl T.fa_api_Trades_0 rfl ?_
    refine r_load rfl T.cell_L_api_Class rfl (cell_blk (by repeat constructor) rfl) ?_
    refine r_append (hp' := [(gR, Obj.cells #[.slice none 0 0, .slice none 0 0] T.api_Trades (0, 0))]) cs.length (rows cs) T.el_L_api_Class rfl rfl rfl (Grow.new (cs := #[]) (n := 0) rfl (Nat.zero_le _)) (.refl _) (Src.row (by repeat constructor) (rows_len cs) (rows_one cs) (by decide)) (by omega) rfl (by unfold maxLen; omega) (by omega) fun xa xc xo hGc => ?_
    have hxc := hGc.le
    refine hl_grown hGc ?_
    clear hGc
    refine r_build _ rfl rfl (fun _ => T.bd_api_Trades_0 ..) ?_
    refine r_alloc rfl (fun _ => T.al_api_Trades _) fun g13 => ?_
    refine r_storeS (cs := #[.slice xa cs.length xc, .slice none 0 0]) rfl rfl (.refl _) T.sz_api_Trades (by rfl) (by rfl) ?_
    refine hl_nil (then_n (hc_seq (hc_seq (hc_region (r_assign rfl rfl (hl_nil (then_n (hc_block ?_))))))))
    refine hc_facts (Fs := ([] : List Hd).map Hd.row) (by intro F hF; simp at hF) ?_
    refine hc_loop (β := Nat × List Hd × OutC × Hp) ⟨fun x => x.1 ≤ hs.length ∧ x.2.1.map Hd.p = dropHs (hs.map Hd.p) (goneB (hs.map Hd.p) i) x.1 ∧ Grow T.api_Head 4 x.2.2.1.1 x.2.1.length x.2.2.1.2 (rows x.2.1) x.2.2.2, fun x => [(2, .pointer (some ⟨gB, 0, none⟩)), (4, .pointer (some ⟨gR, 0, none⟩)), (7, .slice (some ⟨g5, 0, none⟩) hs.length hs.length), (10, .slice (some ⟨g10, 0, none⟩) hs.length hs.length), (13, .pointer (some ⟨g13, 0, none⟩)), (14, int x.1)], fun x => (g13, Obj.cells #[.slice xa cs.length xc, .slice x.2.2.1.1 x.2.1.length x.2.2.1.2] T.api_Trades (0, 0)) :: (gR, Obj.cells #[.slice none 0 0, .slice none 0 0] T.api_Trades (0, 0)) :: x.2.2.2, fun x => [Row (some ⟨g5, 0, none⟩) (rows (gonL (goneB (hs.map Hd.p) i) hs.length)), Row (some ⟨g10, 0, none⟩) (rows (numL (goneB (hs.map Hd.p) i) hs.length hs.length)), Row xa (rows cs), Row B (rows hs), Blk gB (.cells #[.slice A cs.length ca, .slice B hs.length cb] T.api_Trades (0, 0)), RowsF B hs Hd.row, innersF x.2.1 Hd.row]⟩ (fun x => hs.length - x.1) (0, [], (none, 0), []) ⟨Nat.zero_le _, rfl, Grow.nil _ _⟩ ⟨rfl, rfl, rfl, rfl, rfl, rfl, trivial⟩ (List.Sublist.refl _) ⟨(by repeat constructor), (by repeat constructor), (by repeat constructor), (by repeat constructor), (by repeat constructor), (by repeat constructor), (by repeat constructor), trivial⟩ fun x hx => ?_
    obtain ⟨k, ys, ⟨yA, yC⟩, og⟩ := x
    obtain ⟨hk, hy, hG⟩ := hx
    simp only at hk hy hG
    have hyl : ys.length = (numN (goneB (hs.map Hd.p) i) k) := by have h1 := congrArg List.length hy; rw [List.length_map, dropHs_len] at h1; exact h1
    have hnl := num_le (goneB (hs.map Hd.p) i) k
    refine hc_seq (hc_seq (hc_region (r_move rfl rfl ?_)))
    refine r_fieldAddr ⟨_, 1, none⟩ rfl rfl T.fa_api_Trades_1 rfl ?_
    refine r_load rfl T.cell_L_api_Head rfl (cell_blk (by repeat constructor) rfl) ?_
    refine r_len_sl rfl T.u_L_api_Head rfl ?_
    refine r_lss rfl rfl rfl (hl_nil (then_n ?_))
    refine c_dec rfl (fun hb6 => ?_) (fun hb6 => ?_)
    ·have hb6' := hb6; try simp at hb6'
     have hk2 : k < hs.length := by omega
     have hSk := hS k hk2
     have hds := dropHs_succ (hs.map Hd.p) (goneB (hs.map Hd.p) i) k
     rw [hd_get hk2] at hds
     have hai : ∀ a ∈ (hs.getD k default).2.2.2.l, 0 ≤ a ∧ a < (hs.length : Int) := fun a hm => by
       have h1 := also_in (hok.h k (by rw [hln]; exact hk2)) a (by rw [show (trOf cs hs).hs.getD k default = (hs.getD k default).p from hd_get hk2]; exact hm)
       rw [hln] at h1
       exact ⟨h1.1, h1.2.1⟩
     have hal := ha _ (getD_mem hk2)
     refine hc_skip (then_n (hc_seq (hc_block (hc_seq (hc_seq (hc_region (r_move rfl rfl (r_move rfl rfl ?_))))))))
     refine r_elem (α := Bool) (gonL (goneB (hs.map Hd.p) i) hs.length) k rfl T.u_L_bool T.sz_bool rfl rfl rfl (by repeat constructor) (gonL_len _ _).symm (by rw [gonL_len]; exact hk2) (by decide) ?_
     refine r_load (v := .bool ((goneB (hs.map Hd.p) i) k)) rfl T.cell_bool rfl (cell_row (by repeat constructor) (rows_get0 (by rw [gonL_len]; exact hk2) (by rw [gonL_get hk2]; rfl))) ?_
     refine hl_nil (then_n ?_)
     refine hc_cond rfl (fun hb7 => ?_) (fun hb7 => ?_)
     ·have hb7' := hb7; try simp at hb7'
      have hg : (goneB (hs.map Hd.p) i) k = true := hb7
      rw [if_pos hg] at hds
      refine hc_exit (then_exit (inb_hit (then_n (hc_region (r_move rfl rfl ?_)))))
      refine r_add _ rfl rfl rfl rfl (by unfold I64; omega) ?_
      refine r_assign rfl rfl (hl_nil ?_)
      exact again _ (k + 1, ys, (yA, yC), og) ⟨by show k + 1 ≤ hs.length; omega, by show ys.map Hd.p = _; rw [hds]; exact hy, hG⟩ (by show hs.length - (k + 1) < hs.length - k; omega) ⟨rfl, rfl, rfl, rfl, rfl, rfl, trivial⟩ (List.Sublist.refl _) ⟨(by repeat constructor), (by repeat constructor), (by repeat constructor), (by repeat constructor), (by repeat constructor), (by repeat constructor), (by repeat constructor), trivial⟩
     ·have hb7' := hb7; try simp at hb7'
      have hg : (goneB (hs.map Hd.p) i) k = false := by simpa using hb7
      rw [if_neg (by rw [hg]; decide)] at hds
      refine hc_skip (then_n (hc_seq (hc_region ?_)))
      refine r_fieldAddr ⟨_, 1, none⟩ rfl rfl T.fa_api_Trades_1 rfl ?_
      refine r_load rfl T.cell_L_api_Head rfl (cell_blk (by repeat constructor) rfl) ?_
      refine r_move rfl rfl ?_
      refine r_elem (α := Hd) hs k rfl T.u_L_api_Head T.sz_api_Head rfl rfl rfl (by repeat constructor) rfl hk2 (by decide) ?_
      refine r_loadS rfl T.row_api_Head T.sz_api_Head rfl rfl (cells_row (by repeat constructor) (rows_all (by omega))) ?_
      refine r_alloc rfl (fun _ => T.al_api_Head _) fun g16 => ?_
      refine r_storeS (cs := #[str (hs.getD k default).1, int (hs.getD k default).2.1, int (hs.getD k default).2.2.1, .slice (hs.getD k default).2.2.2.a (hs.getD k default).2.2.2.l.length (hs.getD k default).2.2.2.c]) rfl rfl (.refl _) T.sz_api_Head (by rfl) (by rfl) ?_
      refine hl_nil (then_n ?_)
      refine hc_cut ⟨fun z : Int => z = (if 0 ≤ (hs.getD k default).2.2.1 then ((numN (goneB (hs.map Hd.p) i) (hs.getD k default).2.2.1.toNat) : Int) else (hs.getD k default).2.2.1), fun _ => [(2, .pointer (some ⟨gB, 0, none⟩)), (4, .pointer (some ⟨gR, 0, none⟩)), (7, .slice (some ⟨g5, 0, none⟩) hs.length hs.length), (10, .slice (some ⟨g10, 0, none⟩) hs.length hs.length), (13, .pointer (some ⟨g13, 0, none⟩)), (14, int k), (15, .pointer (some ⟨g16, 0, none⟩))], fun z => (g16, Obj.cells #[str (hs.getD k default).1, int (hs.getD k default).2.1, int z, .slice (hs.getD k default).2.2.2.a (hs.getD k default).2.2.2.l.length (hs.getD k default).2.2.2.c] T.api_Head (0, 0)) :: (g13, Obj.cells #[.slice xa cs.length xc, .slice yA ys.length yC] T.api_Trades (0, 0)) :: (gR, Obj.cells #[.slice none 0 0, .slice none 0 0] T.api_Trades (0, 0)) :: og, fun _ => [Row (some ⟨g5, 0, none⟩) (rows (gonL (goneB (hs.map Hd.p) i) hs.length)), Row (some ⟨g10, 0, none⟩) (rows (numL (goneB (hs.map Hd.p) i) hs.length hs.length)), Row xa (rows cs), Row B (rows hs), Blk gB (.cells #[.slice A cs.length ca, .slice B hs.length cb] T.api_Trades (0, 0)), RowsF B hs Hd.row, innersF ys Hd.row]⟩ ?_ ?_
      ·skip
       refine hc_seq (hc_region ?_)
       refine r_fieldAddr ⟨_, 2, none⟩ rfl rfl T.fa_api_Head_2 rfl ?_
       refine r_load rfl T.cell_int rfl (cell_own (by repeat constructor) rfl) ?_
       refine r_geq rfl rfl rfl (hl_nil (then_n ?_))
       refine c_dec rfl (fun hb8 => ?_) (fun hb8 => ?_)
       ·have hb8' := hb8; try simp at hb8'
        refine hc_region (r_move rfl rfl ?_)
        refine r_fieldAddr ⟨_, 2, none⟩ rfl rfl T.fa_api_Head_2 rfl ?_
        refine r_load rfl T.cell_int rfl (cell_own (by repeat constructor) rfl) ?_
        refine r_elem (α := Int) (numL (goneB (hs.map Hd.p) i) hs.length hs.length) (hs.getD k default).2.2.1.toNat rfl T.u_ints T.sz_int rfl rfl (Int.toNat_of_nonneg hb8).symm (by repeat constructor) (numL_len _ _ _).symm (by rw [numL_len]; omega) (by decide) ?_
        refine r_load (v := int ((numN (goneB (hs.map Hd.p) i) (hs.getD k default).2.2.1.toNat) : Int)) rfl T.cell_int rfl (cell_row (by repeat constructor) (rows_get0 (by rw [numL_len]; omega) (by rw [numL_at (by omega)]; rfl))) ?_
        refine r_fieldAddr ⟨_, 2, none⟩ rfl rfl T.fa_api_Head_2 rfl ?_
        refine r_store rfl rfl (.refl _) T.sz_int (by rfl) (by rfl) ?_
        refine hl_nil ?_
        exact cut_n _ ((numN (goneB (hs.map Hd.p) i) (hs.getD k default).2.2.1.toNat) : Int) (by show _ = _; rw [if_pos hb8]) ⟨rfl, rfl, rfl, rfl, rfl, rfl, rfl, trivial⟩ (List.Sublist.refl _) ⟨(by repeat constructor), (by repeat constructor), (by repeat constructor), (by repeat constructor), (by repeat constructor), (by repeat constructor), (by repeat constructor), trivial⟩
       ·have hb8' := hb8; try simp at hb8'
        refine hc_skip ?_
        exact cut_n _ (hs.getD k default).2.2.1 (by show _ = _; rw [if_neg hb8]) ⟨rfl, rfl, rfl, rfl, rfl, rfl, rfl, trivial⟩ (List.Sublist.refl _) ⟨(by repeat constructor), (by repeat constructor), (by repeat constructor), (by repeat constructor), (by repeat constructor), (by repeat constructor), (by repeat constructor), trivial⟩
      ·intro z hz
       have hz : z = _ := hz
       refine hc_seq (hc_region ?_)
       refine r_fieldAddr ⟨_, 3, none⟩ rfl rfl T.fa_api_Head_3 rfl ?_
       refine r_store rfl rfl (.refl _) T.sz_ints (by rfl) (by rfl) ?_
       refine hl_nil (then_n (hc_seq (hc_seq (hc_region (r_assign rfl rfl (hl_nil (then_n (hc_block ?_))))))))
       refine hc_innerF (p := (hs.getD k default)) (f := Hd.row) (ps := hs) (by repeat constructor) (getD_mem hk2) ?_
       refine hc_loop (β := Nat × OutC × Hp) ⟨fun x => x.1 ≤ (hs.getD k default).2.2.2.l.length ∧ Grow T.int 1 x.2.1.1 (dropA (goneB (hs.map Hd.p) i) ((hs.getD k default).2.2.2.l.take x.1)).length x.2.1.2 (rows (dropA (goneB (hs.map Hd.p) i) ((hs.getD k default).2.2.2.l.take x.1))) x.2.2, fun x => [(2, .pointer (some ⟨gB, 0, none⟩)), (4, .pointer (some ⟨gR, 0, none⟩)), (7, .slice (some ⟨g5, 0, none⟩) hs.length hs.length), (10, .slice (some ⟨g10, 0, none⟩) hs.length hs.length), (13, .pointer (some ⟨g13, 0, none⟩)), (14, int k), (15, .pointer (some ⟨g16, 0, none⟩)), (16, int x.1)], fun x => (g16, Obj.cells #[str (hs.getD k default).1, int (hs.getD k default).2.1, int z, .slice x.2.1.1 (dropA (goneB (hs.map Hd.p) i) ((hs.getD k default).2.2.2.l.take x.1)).length x.2.1.2] T.api_Head (0, 0)) :: (g13, Obj.cells #[.slice xa cs.length xc, .slice yA ys.length yC] T.api_Trades (0, 0)) :: (gR, Obj.cells #[.slice none 0 0, .slice none 0 0] T.api_Trades (0, 0)) :: (x.2.2 ++ og), fun _ => [Hd.row (hs.getD k default), Row (some ⟨g5, 0, none⟩) (rows (gonL (goneB (hs.map Hd.p) i) hs.length)), Row (some ⟨g10, 0, none⟩) (rows (numL (goneB (hs.map Hd.p) i) hs.length hs.length)), Row xa (rows cs), Row B (rows hs), Blk gB (.cells #[.slice A cs.length ca, .slice B hs.length cb] T.api_Trades (0, 0)), RowsF B hs Hd.row, innersF ys Hd.row]⟩ (fun x => (hs.getD k default).2.2.2.l.length - x.1) (0, (none, 0), []) ⟨Nat.zero_le _, Grow.nil _ _⟩ ⟨rfl, rfl, rfl, rfl, rfl, rfl, rfl, rfl, trivial⟩ (List.Sublist.refl _) ⟨(by repeat constructor), (by repeat constructor), (by repeat constructor), (by repeat constructor), (by repeat constructor), (by repeat constructor), (by repeat constructor), (by repeat constructor), trivial⟩ fun x hx => ?_
       obtain ⟨j, ⟨dA, dC⟩, og2⟩ := x
       obtain ⟨hj, hG5⟩ := hx
       simp only at hj hG5
       have hdl := dropA_len (goneB (hs.map Hd.p) i) ((hs.getD k default).2.2.2.l.take j)
       rw [List.length_take] at hdl
       refine hc_seq (hc_seq (hc_region (r_move rfl rfl ?_)))
       refine r_fieldAddr ⟨_, 1, none⟩ rfl rfl T.fa_api_Trades_1 rfl ?_
       refine r_load rfl T.cell_L_api_Head rfl (cell_blk (by repeat constructor) rfl) ?_
       refine r_move rfl rfl ?_
       refine r_elem (α := Hd) hs k rfl T.u_L_api_Head T.sz_api_Head rfl rfl rfl (by repeat constructor) rfl hk2 (by decide) ?_
       refine r_fieldAddr _ rfl rfl T.fa_api_Head_3 rfl ?_
       refine r_load (v := .slice (hs.getD k default).2.2.2.a (hs.getD k default).2.2.2.l.length (hs.getD k default).2.2.2.c) rfl T.cell_ints rfl (cell_row_f (by repeat constructor) (rows_get hk2 rfl)) ?_
       refine r_len_sl rfl T.u_ints rfl ?_
       refine r_lss rfl rfl rfl (hl_nil (then_n ?_))
       refine c_dec rfl (fun hb9 => ?_) (fun hb9 => ?_)
       ·have hb9' := hb9; try simp at hb9'
        have hj2 : j < (hs.getD k default).2.2.2.l.length := by omega
        have haj := hai _ (getD_mem hj2)
        have hda := dropA_succ (goneB (hs.map Hd.p) i) (hs.getD k default).2.2.2.l hj2
        obtain ⟨e, he⟩ := Int.eq_ofNat_of_zero_le haj.1
        have hel : e < hs.length := by omega
        rw [he, Int.toNat_natCast] at hda
        refine hc_skip (then_n (hc_seq (hc_block (hc_seq (hc_region ?_)))))
        refine r_fieldAddr ⟨_, 1, none⟩ rfl rfl T.fa_api_Trades_1 rfl ?_
        refine r_load rfl T.cell_L_api_Head rfl (cell_blk (by repeat constructor) rfl) ?_
        refine r_move rfl rfl ?_
        refine r_elem (α := Hd) hs k rfl T.u_L_api_Head T.sz_api_Head rfl rfl rfl (by repeat constructor) rfl hk2 (by decide) ?_
        refine r_fieldAddr _ rfl rfl T.fa_api_Head_3 rfl ?_
        refine r_load (v := .slice (hs.getD k default).2.2.2.a (hs.getD k default).2.2.2.l.length (hs.getD k default).2.2.2.c) rfl T.cell_ints rfl (cell_row_f (by repeat constructor) (rows_get hk2 rfl)) ?_
        refine r_move rfl rfl ?_
        refine r_elem (α := Int) (hs.getD k default).2.2.2.l j rfl T.u_ints T.sz_int rfl rfl rfl (by repeat constructor) rfl hj2 (by decide) ?_
        refine r_load (v := int (e : Int)) rfl T.cell_int rfl (cell_row (by repeat constructor) (rows_get0 hj2 (by rw [← he]; rfl))) ?_
        refine r_assign rfl rfl (hl_nil (then_n (hc_seq (hc_region (r_move rfl rfl (r_move rfl rfl ?_))))))
        refine r_elem (α := Bool) (gonL (goneB (hs.map Hd.p) i) hs.length) e rfl T.u_L_bool T.sz_bool rfl rfl rfl (by repeat constructor) (gonL_len _ _).symm (by rw [gonL_len]; exact hel) (by decide) ?_
        refine r_load (v := .bool ((goneB (hs.map Hd.p) i) e)) rfl T.cell_bool rfl (cell_row (by repeat constructor) (rows_get0 (by rw [gonL_len]; exact hel) (by rw [gonL_get hel]; rfl))) ?_
        refine r_not rfl rfl (hl_nil (then_n ?_))
        refine hc_cond rfl (fun hb10 => ?_) (fun hb10 => ?_)
        ·have hb10' := hb10; try simp at hb10'
         have hge : (goneB (hs.map Hd.p) i) e = false := by simpa using hb10
         rw [if_neg (by rw [hge]; decide)] at hda
         refine hc_draw 7 mixed (by decide) (by decide) rfl rfl ?_
         apply hb_ex _ rfl rfl rfl
         ·intro w1
          refine r_fieldAddr ⟨_, 3, none⟩ rfl rfl T.fa_api_Head_3 rfl ?_
          refine hl_nil ?_
          exact qe_done rfl
         apply hb_ex _ rfl rfl rfl
         ·intro w1
          refine r_load rfl T.cell_ints rfl (cell_blk (by repeat constructor) rfl) ?_
          refine hl_nil ?_
          exact qe_done rfl
         apply hb_ex _ rfl rfl rfl
         ·intro w1
          refine r_move rfl rfl (hl_nil ?_)
          exact qe_done rfl
         apply hb_ex _ rfl rfl rfl
         ·intro w1
          refine r_move rfl rfl (hl_nil ?_)
          exact qe_done rfl
         apply hb_ex _ rfl rfl rfl
         ·intro w1
          refine r_elem (α := Int) (numL (goneB (hs.map Hd.p) i) hs.length hs.length) e rfl T.u_ints T.sz_int rfl rfl rfl (List.mem_append_right _ (by repeat constructor)) (numL_len _ _ _).symm (by rw [numL_len]; omega) (by decide) ?_
          refine hl_nil ?_
          exact qe_done rfl
         apply hb_ex _ rfl rfl rfl
         ·intro w1
          refine r_load (v := int ((numN (goneB (hs.map Hd.p) i) e : Nat) : Int)) rfl T.cell_int rfl (cell_row (List.mem_append_right _ (by repeat constructor)) (rows_get0 (by rw [numL_len]; omega) (by rw [numL_at (by omega)]; rfl))) ?_
          refine hl_nil ?_
          exact qe_done rfl
         refine hb_vs ⟨Nat, fun _ => True, fun g => .slice (some ⟨g, 0, none⟩) 1 1, fun g => [Row (some ⟨g, 0, none⟩) (rows [((numN (goneB (hs.map Hd.p) i) e : Nat) : Int)])]⟩ rfl rfl rfl ?_ ?_
         ·intro w1
          refine r_buildSlice _ rfl rfl (fun _ => T.bs_ints_1 ..) fun gS => ?_
          refine hl_nil ?_
          refine hq_letgo (rows [((numN (goneB (hs.map Hd.p) i) e : Nat) : Int)]) (List.prefix_refl _) ?_
          exact qv_done gS trivial rfl ⟨m0, trivial⟩
         refine hb_nil ⟨rfl, ?_⟩
         intro g9 _
         refine r_append ((dropA (goneB (hs.map Hd.p) i) ((hs.getD k default).2.2.2.l.take j)).length + 1) (rows ((dropA (goneB (hs.map Hd.p) i) ((hs.getD k default).2.2.2.l.take j)) ++ [((numN (goneB (hs.map Hd.p) i) e : Nat) : Int)])) T.el_ints rfl rfl rfl hG5 (hp' := (g16, Obj.cells #[str (hs.getD k default).1, int (hs.getD k default).2.1, int z, .slice dA (dropA (goneB (hs.map Hd.p) i) ((hs.getD k default).2.2.2.l.take j)).length dC] T.api_Head (0, 0)) :: (g13, Obj.cells #[.slice xa cs.length xc, .slice yA ys.length yC] T.api_Trades (0, 0)) :: (gR, Obj.cells #[.slice none 0 0, .slice none 0 0] T.api_Trades (0, 0)) :: og) (show List.Perm ((g16, Obj.cells #[str (hs.getD k default).1, int (hs.getD k default).2.1, int z, .slice dA (dropA (goneB (hs.map Hd.p) i) ((hs.getD k default).2.2.2.l.take j)).length dC] T.api_Head (0, 0)) :: (g13, Obj.cells #[.slice xa cs.length xc, .slice yA ys.length yC] T.api_Trades (0, 0)) :: (gR, Obj.cells #[.slice none 0 0, .slice none 0 0] T.api_Trades (0, 0)) :: (og2 ++ og)) (og2 ++ ((g16, Obj.cells #[str (hs.getD k default).1, int (hs.getD k default).2.1, int z, .slice dA (dropA (goneB (hs.map Hd.p) i) ((hs.getD k default).2.2.2.l.take j)).length dC] T.api_Head (0, 0)) :: (g13, Obj.cells #[.slice xa cs.length xc, .slice yA ys.length yC] T.api_Trades (0, 0)) :: (gR, Obj.cells #[.slice none 0 0, .slice none 0 0] T.api_Trades (0, 0)) :: og)) from (perm_of fun p => by simp only [List.countP_append, List.countP_cons, List.countP_nil]; omega)) (Src.row (news := rows [((numN (goneB (hs.map Hd.p) i) e : Nat) : Int)]) (m := 1) m0 rfl (rows_one _) (by decide)) rfl (rows_append _ _).symm (by unfold maxLen; omega) (by omega) fun A' c' og' hG' => ?_
         refine r_fieldAddr ⟨_, 3, none⟩ rfl rfl T.fa_api_Head_3 rfl ?_
         refine r_store rfl rfl (show List.Perm (og' ++ ((g16, Obj.cells #[str (hs.getD k default).1, int (hs.getD k default).2.1, int z, .slice dA (dropA (goneB (hs.map Hd.p) i) ((hs.getD k default).2.2.2.l.take j)).length dC] T.api_Head (0, 0)) :: (g13, Obj.cells #[.slice xa cs.length xc, .slice yA ys.length yC] T.api_Trades (0, 0)) :: (gR, Obj.cells #[.slice none 0 0, .slice none 0 0] T.api_Trades (0, 0)) :: og)) ((g16, Obj.cells #[str (hs.getD k default).1, int (hs.getD k default).2.1, int z, .slice dA (dropA (goneB (hs.map Hd.p) i) ((hs.getD k default).2.2.2.l.take j)).length dC] T.api_Head (0, 0)) :: (og' ++ ((g13, Obj.cells #[.slice xa cs.length xc, .slice yA ys.length yC] T.api_Trades (0, 0)) :: (gR, Obj.cells #[.slice none 0 0, .slice none 0 0] T.api_Trades (0, 0)) :: og))) from (perm_of fun p => by simp only [List.countP_append, List.countP_cons, List.countP_nil]; omega)) T.sz_ints (by rfl) (by rfl) ?_
         refine hl_nil (inb_n (then_n (hc_region (r_move rfl rfl ?_))))
         refine r_add _ rfl rfl rfl rfl (by unfold I64; omega) ?_
         refine r_assign rfl rfl (hl_nil ?_)
         have hl1 : (dropA (goneB (hs.map Hd.p) i) ((hs.getD k default).2.2.2.l.take (j + 1))).length = (dropA (goneB (hs.map Hd.p) i) ((hs.getD k default).2.2.2.l.take j)).length + 1 := by rw [hda, List.length_append]; rfl
         refine hq_perm (show List.Perm ((g16, Obj.cells #[str (hs.getD k default).1, int (hs.getD k default).2.1, int z, .slice A' ((dropA (goneB (hs.map Hd.p) i) ((hs.getD k default).2.2.2.l.take j)).length + 1) c'] T.api_Head (0, 0)) :: (og' ++ ((g13, Obj.cells #[.slice xa cs.length xc, .slice yA ys.length yC] T.api_Trades (0, 0)) :: (gR, Obj.cells #[.slice none 0 0, .slice none 0 0] T.api_Trades (0, 0)) :: og))) ((g16, Obj.cells #[str (hs.getD k default).1, int (hs.getD k default).2.1, int z, .slice A' ((dropA (goneB (hs.map Hd.p) i) ((hs.getD k default).2.2.2.l.take j)).length + 1) c'] T.api_Head (0, 0)) :: (g13, Obj.cells #[.slice xa cs.length xc, .slice yA ys.length yC] T.api_Trades (0, 0)) :: (gR, Obj.cells #[.slice none 0 0, .slice none 0 0] T.api_Trades (0, 0)) :: (og' ++ og)) from (perm_of fun p => by simp only [List.countP_append, List.countP_cons, List.countP_nil]; omega)) ?_
         exact again _ (j + 1, (A', c'), og') ⟨by show j + 1 ≤ (hs.getD k default).2.2.2.l.length; omega, by show Grow _ _ _ (dropA (goneB (hs.map Hd.p) i) ((hs.getD k default).2.2.2.l.take (j + 1))).length _ (rows (dropA (goneB (hs.map Hd.p) i) ((hs.getD k default).2.2.2.l.take (j + 1)))) _; rw [hda, List.length_append]; exact hG'⟩ (by show (hs.getD k default).2.2.2.l.length - (j + 1) < (hs.getD k default).2.2.2.l.length - j; omega) ⟨rfl, rfl, rfl, rfl, rfl, rfl, rfl, rfl, trivial⟩ (by show List.Sublist ((g16, Obj.cells #[str (hs.getD k default).1, int (hs.getD k default).2.1, int z, .slice A' (dropA (goneB (hs.map Hd.p) i) ((hs.getD k default).2.2.2.l.take (j + 1))).length c'] T.api_Head (0, 0)) :: (g13, Obj.cells #[.slice xa cs.length xc, .slice yA ys.length yC] T.api_Trades (0, 0)) :: (gR, Obj.cells #[.slice none 0 0, .slice none 0 0] T.api_Trades (0, 0)) :: (og' ++ og)) _; rw [hl1]; exact List.Sublist.refl _) ⟨(by repeat constructor), (by repeat constructor), (by repeat constructor), (by repeat constructor), (by repeat constructor), (by repeat constructor), (by repeat constructor), (by repeat constructor), trivial⟩
        ·have hb10' := hb10; try simp at hb10'
         have hge : (goneB (hs.map Hd.p) i) e = true := by simpa using hb10
         rw [if_pos hge] at hda
         refine hc_skip (inb_n (then_n (hc_region (r_move rfl rfl ?_))))
         refine r_add _ rfl rfl rfl rfl (by unfold I64; omega) ?_
         refine r_assign rfl rfl (hl_nil ?_)
         exact again _ (j + 1, (dA, dC), og2) ⟨by show j + 1 ≤ (hs.getD k default).2.2.2.l.length; omega, by show Grow _ _ _ (dropA (goneB (hs.map Hd.p) i) ((hs.getD k default).2.2.2.l.take (j + 1))).length _ (rows (dropA (goneB (hs.map Hd.p) i) ((hs.getD k default).2.2.2.l.take (j + 1)))) _; rw [hda]; exact hG5⟩ (by show (hs.getD k default).2.2.2.l.length - (j + 1) < (hs.getD k default).2.2.2.l.length - j; omega) ⟨rfl, rfl, rfl, rfl, rfl, rfl, rfl, rfl, trivial⟩ (by show List.Sublist ((g16, Obj.cells #[str (hs.getD k default).1, int (hs.getD k default).2.1, int z, .slice dA (dropA (goneB (hs.map Hd.p) i) ((hs.getD k default).2.2.2.l.take (j + 1))).length dC] T.api_Head (0, 0)) :: (g13, Obj.cells #[.slice xa cs.length xc, .slice yA ys.length yC] T.api_Trades (0, 0)) :: (gR, Obj.cells #[.slice none 0 0, .slice none 0 0] T.api_Trades (0, 0)) :: (og2 ++ og)) _; rw [hda]; exact List.Sublist.refl _) ⟨(by repeat constructor), (by repeat constructor), (by repeat constructor), (by repeat constructor), (by repeat constructor), (by repeat constructor), (by repeat constructor), (by repeat constructor), trivial⟩
       ·have hb9' := hb9; try simp at hb9'
        obtain rfl : j = (hs.getD k default).2.2.2.l.length := by omega
        rw [List.take_length] at hG5 hdl
        refine hc_exit (then_exit (then_exit (inb_hit (then_n ?_))))
        refine hc_perm (show List.Perm ((g16, Obj.cells #[str (hs.getD k default).1, int (hs.getD k default).2.1, int z, .slice dA (dropA (goneB (hs.map Hd.p) i) ((hs.getD k default).2.2.2.l.take (hs.getD k default).2.2.2.l.length)).length dC] T.api_Head (0, 0)) :: (g13, Obj.cells #[.slice xa cs.length xc, .slice yA ys.length yC] T.api_Trades (0, 0)) :: (gR, Obj.cells #[.slice none 0 0, .slice none 0 0] T.api_Trades (0, 0)) :: (og2 ++ og)) (og2 ++ ((g16, Obj.cells #[str (hs.getD k default).1, int (hs.getD k default).2.1, int z, .slice dA (dropA (goneB (hs.map Hd.p) i) ((hs.getD k default).2.2.2.l.take (hs.getD k default).2.2.2.l.length)).length dC] T.api_Head (0, 0)) :: (g13, Obj.cells #[.slice xa cs.length xc, .slice yA ys.length yC] T.api_Trades (0, 0)) :: (gR, Obj.cells #[.slice none 0 0, .slice none 0 0] T.api_Trades (0, 0)) :: og)) from (perm_of fun p => by simp only [List.countP_append, List.countP_cons, List.countP_nil]; omega)) ?_
        rw [List.take_length]
        refine hc_grown hG5 (hc_region ?_)
        refine r_fieldAddr ⟨_, 1, none⟩ rfl rfl T.fa_api_Trades_1 rfl ?_
        refine r_load rfl T.cell_L_api_Head rfl (cell_own (by repeat constructor) rfl) ?_
        refine r_loadA rfl T.row_api_Head T.sz_api_Head rfl (by repeat constructor) (by rfl) ?_
        refine r_buildSlice _ rfl rfl (fun _ => T.bs_L_api_Head_1 ..) fun gS => ?_
        refine hl_letgo (rows [(((hs.getD k default).1, (hs.getD k default).2.1, z, ⟨dA, dC, (dropA (goneB (hs.map Hd.p) i) (hs.getD k default).2.2.2.l)⟩) : Hd)]) (List.prefix_refl _) ?_
        refine r_append (hp' := [(g16, Obj.cells #[str (hs.getD k default).1, int (hs.getD k default).2.1, int z, .slice dA (dropA (goneB (hs.map Hd.p) i) (hs.getD k default).2.2.2.l).length dC] T.api_Head (0, 0)), (g13, Obj.cells #[.slice xa cs.length xc, .slice yA ys.length yC] T.api_Trades (0, 0)), (gR, Obj.cells #[.slice none 0 0, .slice none 0 0] T.api_Trades (0, 0))]) (ys.length + 1) (rows (ys ++ [(((hs.getD k default).1, (hs.getD k default).2.1, z, ⟨dA, dC, (dropA (goneB (hs.map Hd.p) i) (hs.getD k default).2.2.2.l)⟩) : Hd)])) T.el_L_api_Head rfl rfl rfl hG (show List.Perm ((g16, Obj.cells #[str (hs.getD k default).1, int (hs.getD k default).2.1, int z, .slice dA (dropA (goneB (hs.map Hd.p) i) (hs.getD k default).2.2.2.l).length dC] T.api_Head (0, 0)) :: (g13, Obj.cells #[.slice xa cs.length xc, .slice yA ys.length yC] T.api_Trades (0, 0)) :: (gR, Obj.cells #[.slice none 0 0, .slice none 0 0] T.api_Trades (0, 0)) :: og) (og ++ [(g16, Obj.cells #[str (hs.getD k default).1, int (hs.getD k default).2.1, int z, .slice dA (dropA (goneB (hs.map Hd.p) i) (hs.getD k default).2.2.2.l).length dC] T.api_Head (0, 0)), (g13, Obj.cells #[.slice xa cs.length xc, .slice yA ys.length yC] T.api_Trades (0, 0)), (gR, Obj.cells #[.slice none 0 0, .slice none 0 0] T.api_Trades (0, 0))]) from (perm_of fun p => by simp only [List.countP_append, List.countP_cons, List.countP_nil]; omega)) (Src.row (news := rows [(((hs.getD k default).1, (hs.getD k default).2.1, z, ⟨dA, dC, (dropA (goneB (hs.map Hd.p) i) (hs.getD k default).2.2.2.l)⟩) : Hd)]) (m := 1) m0 rfl (rows_one _) (by decide)) rfl (rows_append _ _).symm (by unfold maxLen; omega) (by omega) fun A' c' og' hG' => ?_
        refine r_fieldAddr ⟨_, 1, none⟩ rfl rfl T.fa_api_Trades_1 rfl ?_
        refine r_store (hp' := og' ++ [(g16, Obj.cells #[str (hs.getD k default).1, int (hs.getD k default).2.1, int z, .slice dA (dropA (goneB (hs.map Hd.p) i) (hs.getD k default).2.2.2.l).length dC] T.api_Head (0, 0)), (gR, Obj.cells #[.slice none 0 0, .slice none 0 0] T.api_Trades (0, 0))]) rfl rfl (show List.Perm (og' ++ [(g16, Obj.cells #[str (hs.getD k default).1, int (hs.getD k default).2.1, int z, .slice dA (dropA (goneB (hs.map Hd.p) i) (hs.getD k default).2.2.2.l).length dC] T.api_Head (0, 0)), (g13, Obj.cells #[.slice xa cs.length xc, .slice yA ys.length yC] T.api_Trades (0, 0)), (gR, Obj.cells #[.slice none 0 0, .slice none 0 0] T.api_Trades (0, 0))]) ((g13, Obj.cells #[.slice xa cs.length xc, .slice yA ys.length yC] T.api_Trades (0, 0)) :: (og' ++ [(g16, Obj.cells #[str (hs.getD k default).1, int (hs.getD k default).2.1, int z, .slice dA (dropA (goneB (hs.map Hd.p) i) (hs.getD k default).2.2.2.l).length dC] T.api_Head (0, 0)), (gR, Obj.cells #[.slice none 0 0, .slice none 0 0] T.api_Trades (0, 0))])) from (perm_of fun p => by simp only [List.countP_append, List.countP_cons, List.countP_nil]; omega)) T.sz_L_api_Head (by rfl) (by rfl) ?_
        refine hl_facts (innerF_snoc (ps := ys) (f := Hd.row) (p := (((hs.getD k default).1, (hs.getD k default).2.1, z, ⟨dA, dC, (dropA (goneB (hs.map Hd.p) i) (hs.getD k default).2.2.2.l)⟩) : Hd)) (by repeat constructor) (by repeat constructor)) ?_
        refine hl_nil (inb_n (then_n (hc_region (r_move rfl rfl ?_))))
        refine r_add _ rfl rfl rfl rfl (by unfold I64; omega) ?_
        refine r_assign rfl rfl (hl_nil ?_)
        have hl1 : (ys ++ [(((hs.getD k default).1, (hs.getD k default).2.1, z, ⟨dA, dC, (dropA (goneB (hs.map Hd.p) i) (hs.getD k default).2.2.2.l)⟩) : Hd)]).length = ys.length + 1 := by simp
        refine hq_perm (show List.Perm ((g13, Obj.cells #[.slice xa cs.length xc, .slice A' (ys.length + 1) c'] T.api_Trades (0, 0)) :: (og' ++ [(g16, Obj.cells #[str (hs.getD k default).1, int (hs.getD k default).2.1, int z, .slice dA (dropA (goneB (hs.map Hd.p) i) (hs.getD k default).2.2.2.l).length dC] T.api_Head (0, 0)), (gR, Obj.cells #[.slice none 0 0, .slice none 0 0] T.api_Trades (0, 0))])) ((g16, Obj.cells #[str (hs.getD k default).1, int (hs.getD k default).2.1, int z, .slice dA (dropA (goneB (hs.map Hd.p) i) (hs.getD k default).2.2.2.l).length dC] T.api_Head (0, 0)) :: (g13, Obj.cells #[.slice xa cs.length xc, .slice A' (ys.length + 1) c'] T.api_Trades (0, 0)) :: (gR, Obj.cells #[.slice none 0 0, .slice none 0 0] T.api_Trades (0, 0)) :: og') from (perm_of fun p => by simp only [List.countP_append, List.countP_cons, List.countP_nil]; omega)) ?_
        exact again _ (k + 1, ys ++ [(((hs.getD k default).1, (hs.getD k default).2.1, z, ⟨dA, dC, (dropA (goneB (hs.map Hd.p) i) (hs.getD k default).2.2.2.l)⟩) : Hd)], (A', c'), og') ⟨by show k + 1 ≤ hs.length; omega, by show (ys ++ [_]).map Hd.p = _; rw [hds, List.map_append, hy]; congr 1; show [(_, _, z, _)] = [dropP _ _]; rw [hz]; rfl, by show Grow _ _ _ (ys ++ [_]).length _ _ _; rw [hl1]; exact hG'⟩ (by show hs.length - (k + 1) < hs.length - k; omega) ⟨rfl, rfl, rfl, rfl, rfl, rfl, trivial⟩ (by show List.Sublist ((g13, Obj.cells #[.slice xa cs.length xc, .slice A' (ys ++ [(((hs.getD k default).1, (hs.getD k default).2.1, z, ⟨dA, dC, (dropA (goneB (hs.map Hd.p) i) (hs.getD k default).2.2.2.l)⟩) : Hd)]).length c'] T.api_Trades (0, 0)) :: _) _; rw [hl1]; exact List.sublist_cons_self _ _) ⟨(by repeat constructor), (by repeat constructor), (by repeat constructor), (by repeat constructor), (by repeat constructor), (by repeat constructor), (by repeat constructor), trivial⟩
    ·have hb6' := hb6; try simp at hb6'
     obtain rfl : k = hs.length := by omega
     refine hc_exit (then_exit (then_exit (inb_hit (then_n (hc_seq ?_)))))
     refine hc_perm (show List.Perm ((g13, Obj.cells #[.slice xa cs.length xc, .slice yA ys.length yC] T.api_Trades (0, 0)) :: (gR, Obj.cells #[.slice none 0 0, .slice none 0 0] T.api_Trades (0, 0)) :: og) (og ++ [(g13, Obj.cells #[.slice xa cs.length xc, .slice yA ys.length yC] T.api_Trades (0, 0)), (gR, Obj.cells #[.slice none 0 0, .slice none 0 0] T.api_Trades (0, 0))]) from (perm_of fun p => by simp only [List.countP_append, List.countP_cons, List.countP_nil]; omega)) ?_
     have hGle := hG.le
     refine hc_grown hG ?_
     refine hc_rowsF (A := yA) (ps := ys) (f := Hd.row) (by repeat constructor) (by repeat constructor) ?_
     refine hc_region ?_
     refine r_loadA rfl T.row_api_Trades T.sz_api_Trades rfl (by repeat constructor) (by rfl) ?_
     refine r_storeS (cs := #[.slice xa cs.length xc, .slice yA ys.length yC]) rfl rfl (.swap _ _ _) T.sz_api_Trades (by rfl) (by rfl) ?_
     refine r_assign rfl rfl (hl_nil (then_n (hc_ret ?_)))
     exact ret_row_tmp (ys, (xa, xc), (yA, yC)) rfl rfl rfl T.row_api_Trades T.sz_api_Trades rfl m0 (by show Value.tuple #[.agg #[.slice xa (dropE (trOf cs hs) (i : Int)).1.cs.length xc, .slice yA ys.length yC], int (dropE (trOf cs hs) (i : Int)).2] = _; rw [hE]) rfl (by show TrIs (dropE (trOf cs hs) (i : Int)).1 _; rw [hE]; exact ⟨by show ys.map Hd.p = dropHs (hs.map Hd.p) (goneB (hs.map Hd.p) i) (hs.map Hd.p).length; rw [hH]; exact hy, hxc, hGle⟩) (List.nil_sublist _) (by show LSub _ [Row xa (rows (dropE (trOf cs hs) (i : Int)).1.cs), RowsF yA ys Hd.row]; rw [hE]; exact ⟨(by repeat constructor), (by repeat constructor), trivial⟩)

end Go.Proofs.YtlpgheniajdkfaaGreat
