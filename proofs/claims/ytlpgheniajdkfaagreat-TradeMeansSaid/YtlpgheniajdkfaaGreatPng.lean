/- The document's Means and Short; the walk of the statement TradeMeans. -/
import Derived.Test.YtlpgheniajdkfaaGreatPnf
import Derived.Test.YtlpgheniajdkfaaGreatPzh
namespace Go.Proofs.YtlpgheniajdkfaaGreat
open Go Go.W
set_option linter.unusedVariables false
set_option linter.unusedSimpArgs false
set_option maxRecDepth 20000
attribute [local irreducible] HL HC HQ HB Row Rows2 Blk Facts

theorem mayE_len (t : Tr) (b : Str) : (mayE t b).1.length ≤ 6 := by
  unfold mayE
  split
  · simp
  · rename_i h
    have hok := tr_ok (Classical.not_not.1 h)
    have h1 := mbK_len t b t.hs.length
    rw [mbK_all] at h1
    exact Nat.le_trans h1 hok.h6
theorem to_in {n : Nat} (hn : 0 < n) {z : Int} (h : ToInv ((n : Int) - 1) z) : ∃ zn : Nat, z = zn ∧ zn < n := by
  simp only [ToInv] at h
  obtain ⟨zn, rfl⟩ := Int.eq_ofNat_of_zero_le h.1
  refine ⟨zn, rfl, ?_⟩
  by_cases h1 : (1 : Int) ≤ (n : Int) - 1
  · have := h.2.1 h1; omega
  · have := h.2.2 (by omega); omega
theorem to_le {n : Nat} {z : Int} (h : ToInv (n : Int) z) : ∃ zn : Nat, z = zn ∧ zn ≤ n := by
  simp only [ToInv] at h
  obtain ⟨zn, rfl⟩ := Int.eq_ofNat_of_zero_le h.1
  refine ⟨zn, rfl, ?_⟩
  by_cases h1 : (1 : Int) ≤ (n : Int)
  · have := h.2.1 h1; omega
  · have := h.2.2 (by omega); omega
theorem arrS_set (l : List Str) (k : Nat) (v : Str) : (rows l).toArray.setIfInBounds (0 + k * 1) (str v) = (rows (l.set k v)).toArray := by
  rw [← rows_set1 rfl (str v) v rfl]
  simp
theorem arrS_take (l : List Str) : (rows l).toArray.toList.take (l.length * 1) = rows l := by
  have h1 : (rows l).length = l.length := by rw [rows_len]; exact Nat.mul_one _
  rw [List.take_of_length_le (by simp [h1])]

theorem ref04_Means_meets {A B : Option Addr} {ca cb : Nat} (cs : List Cl) (hs : List Hd) (b : Str) (i : Int) (hhl : hs.length ≤ 1000) (hcl0 : cs.length ≤ 1000) (hwc : ∀ x ∈ cs, x.1.length ≤ 1000) (hwh : ∀ h ∈ hs, h.1.length ≤ 1000) (ha : ∀ h ∈ hs, h.2.2.2.l.length ≤ 1000000) : Meets Tryz.prog F.ref04_Means [.agg #[.slice A cs.length ca, .slice B hs.length cb], str b, int i] { LI := [Row A (rows cs), RowsF B hs Hd.row], val := fun _ : Unit => .tuple #[int (meansE (trOf cs hs) b i).1, int (meansE (trOf cs hs) b i).2] } := by
 refine meets_intro F.ref04_Means_f rfl (Nat.le_of_ble_eq_true rfl) fun w0 => ?_
 refine hc_seq ?_
 refine hc_region ?_
 refine r_box rfl rfl fun gB => ?_
 refine r_assign rfl rfl ?_
 refine r_assign rfl rfl ?_
 refine hl_nil ?_
 refine then_n ?_
 refine hc_seq ?_
 refine hc_seq ?_
 refine hc_region ?_
 refine r_loadA rfl T.row_api_Trades T.sz_api_Trades rfl (by repeat constructor) (by rfl) ?_
 refine r_move rfl rfl ?_
 refine r_buildSlice _ rfl rfl (fun _ => T.bs_ints_1 ..) fun gS => ?_
 refine hl_letgo (rows [i]) (List.prefix_refl _) ?_
 refine hl_nilrow (α := Int) ?_
 refine hl_call F.ref04_asked_cb rfl rfl (ref04_asked_meets (C1 := none) (c1 := 0) cs hs ([] : List Int) [i] (by simp) (by simp) hhl hcl0 hwc hwh ha) (List.Perm.refl _) ⟨(by repeat constructor), (by repeat constructor), (by repeat constructor), (by repeat constructor), trivial⟩ fun _ _ => ?_
 refine r_assign rfl rfl ?_
 refine hl_nil ?_
 refine then_n ?_
 refine hc_seq ?_
 refine hc_region ?_
 refine r_move rfl rfl ?_
 refine r_neq rfl rfl rfl ?_
 refine hl_nil ?_
 refine then_n ?_
 refine c_dec rfl (fun hb1 => ?_) (fun hb1 => ?_)
 ·have hb1' := hb1; try simp at hb1'
  rw [askd_h] at hb1
  refine hc_seq ?_
  refine hc_region ?_
  refine r_move rfl rfl ?_
  refine r_assign rfl rfl ?_
  refine r_assign rfl rfl ?_
  refine hl_nil ?_
  refine then_n ?_
  refine hc_ret ?_
  refine then_ret ?_
  exact ret2 () rfl rfl rfl (by show Value.tuple #[int (meansE (trOf cs hs) b i).1, int (meansE (trOf cs hs) b i).2] = Value.tuple #[int 0, int (askdE (trOf cs hs) [] [i])]; rw [askd_h, show (meansE (trOf cs hs) b i) = (0, askE (trOf cs hs) [i]) by unfold meansE; rw [if_pos hb1]]) rfl trivial (List.nil_sublist _) trivial
 ·have hb1' := hb1; try simp at hb1'
  rw [askd_h] at hb1
  have h0 := Classical.not_not.1 hb1
  have hch := ask_check h0
  have hin := ask_in h0 (List.mem_singleton.2 rfl)
  rw [hs_len] at hin
  have hok := tr_ok hch
  have h6 : cs.length ≤ 6 := hok.c6
  have h6h := hok.h6
  rw [hs_len] at h6h
  have hcl : ∀ i, i < cs.length → ClsOK cs i := hok.c
  have hln := hs_len cs hs
  have hS := sees_ok hok
  refine hc_skip ?_
  refine then_n ?_
  refine hc_seq ?_
  refine hc_seq ?_
  have htr := is_tr hok (i := i.toNat) (by omega)
  rw [Int.toNat_of_nonneg hin.1] at htr
  refine hc_outerF (ps := hs) (A := B) (f := Hd.row) (by repeat constructor) ?_
  refine hc_region ?_
  refine r_fieldAddr ⟨_, 1, none⟩ rfl rfl T.fa_api_Trades_1 rfl ?_
  refine r_load rfl T.cell_L_api_Head rfl (cell_own (by repeat constructor) rfl) ?_
  refine r_move rfl rfl ?_
  refine r_elem (α := Hd) hs i.toNat rfl T.u_L_api_Head T.sz_api_Head rfl rfl (Int.toNat_of_nonneg hin.1).symm (by repeat constructor) rfl (by omega) (by decide) ?_
  refine r_fieldAddr _ rfl rfl T.fa_api_Head_1 rfl ?_
  refine r_load (v := int (hs.getD i.toNat default).2.1) rfl T.cell_int rfl (cell_row_f (by repeat constructor) (rows_get (by omega) rfl)) ?_
  refine r_lss rfl rfl rfl ?_
  refine hl_nil ?_
  refine then_n ?_
  refine c_dec rfl (fun hb2 => ?_) (fun hb2 => ?_)
  ·have hb2' := hb2; try simp at hb2'
   have h2 : isTrB (trOf cs hs) i = false := by rw [htr]; exact decide_eq_false (by omega)
   refine hc_seq ?_
   refine hc_region ?_
   refine r_assign rfl rfl ?_
   refine r_assign rfl rfl ?_
   refine hl_nil ?_
   refine then_n ?_
   refine hc_ret ?_
   refine then_ret ?_
   exact ret2 () rfl rfl rfl (by show Value.tuple #[int (meansE (trOf cs hs) b i).1, int (meansE (trOf cs hs) b i).2] = _; rw [show (meansE (trOf cs hs) b i) = (0, 8) by unfold meansE; rw [if_neg hb1, if_pos h2]]) rfl trivial (List.nil_sublist _) trivial
  ·have hb2' := hb2; try simp at hb2'
   have h2 : ¬ isTrB (trOf cs hs) i = false := by rw [htr, decide_eq_true (by omega)]; decide
   refine hc_skip ?_
   refine then_n ?_
   refine hc_seq ?_
   refine hc_region ?_
   refine r_loadA rfl T.row_api_Trades T.sz_api_Trades rfl (by repeat constructor) (by rfl) ?_
   refine r_move rfl rfl ?_
   refine hl_call F.ref04_may_cb rfl rfl (ref04_may_meets cs hs b hok) (List.Perm.refl _) ⟨(by repeat constructor), trivial⟩ fun y hy => ?_
   have hml : (mayT (trOf cs hs) b).length ≤ 6 := by
     have h1 := mbK_len (trOf cs hs) b (trOf cs hs).hs.length
     rw [mbK_all, hln] at h1
     omega
   refine r_assign rfl rfl ?_
   refine hl_nil ?_
   refine then_n ?_
   refine hc_seq ?_
   refine hc_seq ?_
   refine hc_region ?_
   refine r_move rfl rfl ?_
   refine r_move rfl rfl ?_
   refine hl_call F.ref04_has_cb rfl rfl (ref04_has_meets (mayT (trOf cs hs) b) i (by omega)) (List.Perm.refl _) ⟨(by repeat constructor), trivial⟩ fun z hz => ?_
   refine r_lss rfl rfl rfl ?_
   refine hl_nil ?_
   refine then_n ?_
   refine c_dec rfl (fun hb3 => ?_) (fun hb3 => ?_)
   ·have hb3' := hb3; try simp at hb3'
    have h3 : ¬ i ∈ mayT (trOf cs hs) b := fun hm => by have := hz.1.2 hm; omega
    refine hc_seq ?_
    refine hc_region ?_
    refine r_assign rfl rfl ?_
    refine r_assign rfl rfl ?_
    refine hl_nil ?_
    refine then_n ?_
    refine hc_ret ?_
    refine then_ret ?_
    exact ret2 () rfl rfl rfl (by show Value.tuple #[int (meansE (trOf cs hs) b i).1, int (meansE (trOf cs hs) b i).2] = _; rw [show (meansE (trOf cs hs) b i) = (2, 0) by unfold meansE; rw [if_neg hb1, if_neg h2, if_pos h3]]) rfl trivial (List.nil_sublist _) trivial
   ·have hb3' := hb3; try simp at hb3'
    have h3 : i ∈ mayT (trOf cs hs) b := hz.1.1 (by omega)
    have h4 : 0 < (mayT (trOf cs hs) b).length := List.length_pos_iff.2 (List.ne_nil_of_mem h3)
    refine hc_skip ?_
    refine then_n ?_
    refine hc_seq ?_
    refine hc_seq ?_
    refine hc_region ?_
    refine r_move rfl rfl ?_
    refine r_len_sl rfl T.u_ints rfl ?_
    refine r_gtr rfl rfl rfl ?_
    refine hl_nil ?_
    refine then_n ?_
    refine c_dec rfl (fun hb4 => ?_) (fun hb4 => ?_)
    ·have hb4' := hb4; try simp at hb4'
     refine hc_seq ?_
     refine hc_region ?_
     refine r_assign rfl rfl ?_
     refine r_assign rfl rfl ?_
     refine hl_nil ?_
     refine then_n ?_
     refine hc_ret ?_
     refine then_ret ?_
     exact ret2 () rfl rfl rfl (by show Value.tuple #[int (meansE (trOf cs hs) b i).1, int (meansE (trOf cs hs) b i).2] = _; rw [show (meansE (trOf cs hs) b i) = (3, 0) by unfold meansE; rw [if_neg hb1, if_neg h2, if_neg (not_not_intro h3), if_neg (by omega)]]) rfl trivial (List.nil_sublist _) trivial
    ·have hb4' := hb4; try simp at hb4'
     refine hc_skip ?_
     refine then_n ?_
     refine hc_seq ?_
     refine hc_region ?_
     refine r_assign rfl rfl ?_
     refine r_assign rfl rfl ?_
     refine hl_nil ?_
     refine then_n ?_
     refine hc_ret ?_
     exact ret2 () rfl rfl rfl (by show Value.tuple #[int (meansE (trOf cs hs) b i).1, int (meansE (trOf cs hs) b i).2] = _; rw [show (meansE (trOf cs hs) b i) = (1, 0) by unfold meansE; rw [if_neg hb1, if_neg h2, if_neg (not_not_intro h3), if_pos (by omega)]]) rfl trivial (List.nil_sublist _) trivial

theorem ref04_Short_meets {A B : Option Addr} {ca cb : Nat} (cs : List Cl) (hs : List Hd) (h : Int) (hhl : hs.length ≤ 1000) (hcl0 : cs.length ≤ 1000) (hwc : ∀ x ∈ cs, x.1.length ≤ 1000) (hwh : ∀ h ∈ hs, h.1.length ≤ 1000) (ha : ∀ h ∈ hs, h.2.2.2.l.length ≤ 1000000) : Meets Tryz.prog F.ref04_Short [.agg #[.slice A cs.length ca, .slice B hs.length cb], int h] { LI := [Row A (rows cs), RowsF B hs Hd.row], val := fun _ : Unit => .tuple #[str (shortE (trOf cs hs) h).1, int (shortE (trOf cs hs) h).2] } := by
 refine meets_intro F.ref04_Short_f rfl (Nat.le_of_ble_eq_true rfl) fun w0 => ?_
 refine hc_seq ?_
 refine hc_region ?_
 refine r_box rfl rfl fun gB => ?_
 refine r_assign rfl rfl ?_
 refine r_assign rfl rfl ?_
 refine hl_nil ?_
 refine then_n ?_
 refine hc_seq ?_
 refine hc_seq ?_
 refine hc_region ?_
 refine r_loadA rfl T.row_api_Trades T.sz_api_Trades rfl (by repeat constructor) (by rfl) ?_
 refine r_move rfl rfl ?_
 refine r_buildSlice _ rfl rfl (fun _ => T.bs_ints_1 ..) fun gS => ?_
 refine hl_letgo (rows [h]) (List.prefix_refl _) ?_
 refine hl_nilrow (α := Int) ?_
 refine hl_call F.ref04_asked_cb rfl rfl (ref04_asked_meets (C1 := none) (c1 := 0) cs hs ([] : List Int) [h] (by simp) (by simp) hhl hcl0 hwc hwh ha) (List.Perm.refl _) ⟨(by repeat constructor), (by repeat constructor), (by repeat constructor), (by repeat constructor), trivial⟩ fun _ _ => ?_
 refine r_assign rfl rfl ?_
 refine hl_nil ?_
 refine then_n ?_
 refine hc_seq ?_
 refine hc_region ?_
 refine r_move rfl rfl ?_
 refine r_neq rfl rfl rfl ?_
 refine hl_nil ?_
 refine then_n ?_
 refine c_dec rfl (fun hb1 => ?_) (fun hb1 => ?_)
 ·have hb1' := hb1; try simp at hb1'
  rw [askd_h] at hb1
  refine hc_seq ?_
  refine hc_region ?_
  refine r_move rfl rfl ?_
  refine r_assign rfl rfl ?_
  refine r_assign rfl rfl ?_
  refine hl_nil ?_
  refine then_n ?_
  refine hc_ret ?_
  refine then_ret ?_
  exact ret2 () rfl rfl rfl (by show Value.tuple #[str (shortE (trOf cs hs) h).1, int (shortE (trOf cs hs) h).2] = Value.tuple #[str [], int (askdE (trOf cs hs) [] [h])]; rw [askd_h, show (shortE (trOf cs hs) h) = ([], askE (trOf cs hs) [h]) by unfold shortE; rw [if_pos hb1]]) rfl trivial (List.nil_sublist _) trivial
 ·have hb1' := hb1; try simp at hb1'
  rw [askd_h] at hb1
  have h0 := Classical.not_not.1 hb1
  have hch := ask_check h0
  have hin := ask_in h0 (List.mem_singleton.2 rfl)
  rw [hs_len] at hin
  have hok := tr_ok hch
  have h6 : cs.length ≤ 6 := hok.c6
  have h6h := hok.h6
  rw [hs_len] at h6h
  have hcl : ∀ i, i < cs.length → ClsOK cs i := hok.c
  have hln := hs_len cs hs
  have hS := sees_ok hok
  refine hc_skip ?_
  refine then_n ?_
  refine hc_seq ?_
  have hT := shortT_of (cs := cs) hin.1 (show h < (hs.length : Int) by omega)
  have h12 := word_12 (head_word hok (show h.toNat < hs.length by omega))
  refine hc_outerF (ps := hs) (A := B) (f := Hd.row) (by repeat constructor) ?_
  refine hc_region ?_
  refine r_fieldAddr ⟨_, 1, none⟩ rfl rfl T.fa_api_Trades_1 rfl ?_
  refine r_load rfl T.cell_L_api_Head rfl (cell_own (by repeat constructor) rfl) ?_
  refine r_move rfl rfl ?_
  refine r_elem (α := Hd) hs h.toNat rfl T.u_L_api_Head T.sz_api_Head rfl rfl (Int.toNat_of_nonneg hin.1).symm (by repeat constructor) rfl (by omega) (by decide) ?_
  refine r_fieldAddr _ rfl rfl T.fa_api_Head_0 rfl ?_
  refine r_load (v := str (hs.getD h.toNat default).1) rfl T.cell_string rfl (cell_row_f (by repeat constructor) (rows_get (by omega) rfl)) ?_
  refine r_assign rfl rfl ?_
  refine hl_nil ?_
  refine then_n ?_
  refine hc_seq ?_
  refine hc_seq ?_
  refine hc_region ?_
  refine r_assign rfl rfl ?_
  refine hl_nil ?_
  refine then_n ?_
  refine hc_block ?_
  refine hc_loop (β := Nat) ⟨fun k => k ≤ (hs.getD h.toNat default).1.length + 1 ∧ (shortT (trOf cs hs) h) = shortN (trOf cs hs) (hs.getD h.toNat default).1 ((hs.getD h.toNat default).1.length + 1 - k) k, fun k => [(2, .pointer (some ⟨gB, 0, none⟩)), (7, str (hs.getD h.toNat default).1), (8, int k)], fun _ => [(gB, .cells #[.slice A cs.length ca, .slice B hs.length cb] T.api_Trades (0, 0))], fun _ => [Row A (rows cs), RowsF B hs Hd.row]⟩ (fun k => (hs.getD h.toNat default).1.length + 1 - k) 0 ⟨Nat.zero_le _, hT⟩ ⟨rfl, rfl, rfl, trivial⟩ (List.Sublist.refl _) ⟨(by repeat constructor), (by repeat constructor), trivial⟩ fun k hk => ?_
  obtain ⟨hk, ht⟩ := hk
  refine hc_seq ?_
  refine hc_seq ?_
  refine hc_region ?_
  refine r_move rfl rfl ?_
  refine r_move rfl rfl ?_
  refine r_len_str rfl T.u_string rfl ?_
  refine r_leq rfl rfl rfl ?_
  refine hl_nil ?_
  refine then_n ?_
  refine c_dec rfl (fun hb2 => ?_) (fun hb2 => ?_)
  ·have hb2' := hb2; try simp at hb2'
   rw [show (hs.getD h.toNat default).1.length + 1 - k = ((hs.getD h.toNat default).1.length - k) + 1 by omega, shortN] at ht
   refine hc_skip ?_
   refine then_n ?_
   refine hc_seq ?_
   refine hc_block ?_
   refine hc_seq ?_
   refine hc_draw 4 mixed (by decide) (by decide) rfl rfl ?_
   apply hb_ex _ rfl rfl rfl
   ·intro w1
    refine r_loadB rfl T.row_api_Trades T.sz_api_Trades rfl (by repeat constructor) (by rfl) ?_
    refine hl_nil ?_
    exact qe_done rfl
   apply hb_ex _ rfl rfl rfl
   ·intro w1
    refine r_move rfl rfl ?_
    refine hl_nil ?_
    exact qe_done rfl
   apply hb_ex _ rfl rfl rfl
   ·intro w1
    refine r_move rfl rfl ?_
    refine hl_nil ?_
    exact qe_done rfl
   apply hb_ex _ rfl rfl rfl
   ·intro w1
    refine r_sslice_hi k rfl T.u_string rfl rfl rfl (by omega) ?_
    refine hl_nil ?_
    exact qe_done rfl
   refine hb_nil ⟨rfl, ?_⟩
   refine hl_call F.ref04_may_cb rfl rfl (ref04_may_meets cs hs ((hs.getD h.toNat default).1.take k) hok) (List.Perm.refl _) ⟨(by repeat constructor), trivial⟩ fun y hy => ?_
   refine r_len_sl rfl T.u_ints rfl ?_
   refine r_eql rfl rfl rfl ?_
   refine hl_nil ?_
   refine then_n ?_
   refine c_dec rfl (fun hb3 => ?_) (fun hb3 => ?_)
   ·have hb3' := hb3; try simp at hb3'
    rw [if_pos (by omega)] at ht
    refine hc_seq ?_
    refine hc_region ?_
    refine r_move rfl rfl ?_
    refine r_move rfl rfl ?_
    refine r_sslice_hi k rfl T.u_string rfl rfl rfl (by omega) ?_
    refine r_assign rfl rfl ?_
    refine r_assign rfl rfl ?_
    refine hl_nil ?_
    refine then_n ?_
    refine hc_ret ?_
    refine inb_ret ?_
    refine then_ret ?_
    refine then_ret ?_
    refine inb_ret ?_
    refine then_ret ?_
    exact ret2 () rfl rfl rfl (by show Value.tuple #[str (shortE (trOf cs hs) h).1, int (shortE (trOf cs hs) h).2] = _; rw [show (shortE (trOf cs hs) h) = ((hs.getD h.toNat default).1.take k, 0) by unfold shortE; rw [if_neg (not_not_intro h0), ht]]) rfl trivial (List.nil_sublist _) trivial
   ·have hb3' := hb3; try simp at hb3'
    rw [if_neg (by omega)] at ht
    refine hc_skip ?_
    refine inb_n ?_
    refine then_n ?_
    refine hc_region ?_
    refine r_move rfl rfl ?_
    refine r_add _ rfl rfl rfl rfl (by unfold I64; omega) ?_
    refine r_assign rfl rfl ?_
    refine hl_nil ?_
    exact again _ (k + 1) ⟨by omega, by rw [ht, show (hs.getD h.toNat default).1.length + 1 - (k + 1) = (hs.getD h.toNat default).1.length - k by omega]⟩ (by show (hs.getD h.toNat default).1.length + 1 - (k + 1) < (hs.getD h.toNat default).1.length + 1 - k; omega) ⟨rfl, rfl, rfl, trivial⟩ (List.Sublist.refl _) ⟨(by repeat constructor), (by repeat constructor), trivial⟩
  ·have hb2' := hb2; try simp at hb2'
   rw [show (hs.getD h.toNat default).1.length + 1 - k = 0 by omega, shortN] at ht
   refine hc_exit ?_
   refine then_exit ?_
   refine then_exit ?_
   refine inb_hit ?_
   refine then_n ?_
   refine hc_seq ?_
   refine hc_region ?_
   refine r_assign rfl rfl ?_
   refine r_assign rfl rfl ?_
   refine hl_nil ?_
   refine then_n ?_
   refine hc_ret ?_
   exact ret2 () rfl rfl rfl (by show Value.tuple #[str (shortE (trOf cs hs) h).1, int (shortE (trOf cs hs) h).2] = _; rw [show (shortE (trOf cs hs) h) = ([], 11) by unfold shortE; rw [if_neg (not_not_intro h0), ht]]; rfl) rfl trivial (List.nil_sublist _) trivial

set_option maxHeartbeats 2000000 in
theorem law04_TradeMeans_meets {A0 B0 N : Option Addr} {ca0 cb0 nc : Nat} (cs0 : List Cl) (hs0 : List Hd) (h0 : Hd) (b : Str) (a : Int) (nums : List Int) (hca0 : cs0.length ≤ ca0 ∧ ca0 ≤ 9223372036854775807) (hcb0 : hs0.length ≤ cb0 ∧ cb0 ≤ 9223372036854775807) (hn : nums.length ≤ 9223372036854775807) : Meets Tryz.prog F.law04_TradeMeans [.agg #[.slice A0 cs0.length ca0, .slice B0 hs0.length cb0], .agg (El.cells h0).toArray, str b, int a, .slice N nums.length nc] { LI := [Row A0 (rows cs0), RowsF B0 hs0 Hd.row, Hd.row h0, Row N (rows nums)], val := fun _ : Unit => .bool true } := by
 refine meets_intro F.law04_TradeMeans_f rfl (Nat.le_of_ble_eq_true rfl) fun w0 => ?_
 refine hc_seq ?_
 refine hc_region ?_
 refine r_box rfl rfl fun gB => ?_
 refine r_box rfl rfl fun gC => ?_
 refine r_assign rfl rfl ?_
 refine hl_nil ?_
 refine then_n ?_
 refine hc_seq ?_
 refine hc_seq ?_
 refine hc_letgoB ?_
 refine hc_letgoB ?_
 refine hc_region ?_
 refine r_loadB rfl T.row_api_Trades T.sz_api_Trades rfl (by repeat constructor) (by rfl) ?_
 refine hl_call F.law04_short_cb rfl rfl (law04_short_meets cs0 hs0 (by omega) (by omega)) (List.Perm.refl _) ⟨(by repeat constructor), (by repeat constructor), trivial⟩ fun bs hbs => ?_
 refine r_not rfl rfl ?_
 refine r_move rfl rfl ?_
 refine g_split rfl rfl ?_ ?_
 ·intro hg1; have hg1' := hg1; try simp at hg1'
  have hbt : bs = true := by simpa using hg1
  obtain ⟨hc20, hh20, hha, hwc, hwh⟩ := hbs hbt
  refine g_yes rfl rfl hg1 ?_
  refine r_fieldAddr ⟨_, 0, none⟩ rfl rfl T.fa_api_Head_0 rfl ?_
  refine g_yes rfl rfl hg1 ?_
  refine r_load rfl T.cell_string rfl (cell_blk (by repeat constructor) rfl) ?_
  refine g_yes rfl rfl hg1 ?_
  refine r_len_str rfl T.u_string rfl ?_
  refine g_yes rfl rfl hg1 ?_
  refine r_gtr rfl rfl rfl ?_
  refine p_f rfl rfl (bf1 hg1) rfl ?_
  refine r_move rfl rfl ?_
  refine g_split rfl rfl ?_ ?_
  ·intro hg2; have hg2' := hg2; try simp at hg2'
   have hw40 : ¬ (40 : Int) < h0.1.length := of_decide_eq_false (eq_of_beq hg2)
   refine g_yes rfl rfl hg2 ?_
   refine r_fieldAddr ⟨_, 3, none⟩ rfl rfl T.fa_api_Head_3 rfl ?_
   refine g_yes rfl rfl hg2 ?_
   refine r_load rfl T.cell_ints rfl (cell_blk (by repeat constructor) rfl) ?_
   refine g_yes rfl rfl hg2 ?_
   refine r_len_sl rfl T.u_ints rfl ?_
   refine g_yes rfl rfl hg2 ?_
   refine r_gtr rfl rfl rfl ?_
   refine p_f rfl rfl (bf1 hg2) rfl ?_
   refine r_move rfl rfl ?_
   refine g_split rfl rfl ?_ ?_
   ·intro hg3; have hg3' := hg3; try simp at hg3'
    have ha20 : ¬ (20 : Int) < h0.2.2.2.l.length := of_decide_eq_false (eq_of_beq hg3)
    refine g_yes rfl rfl hg3 ?_
    refine r_move rfl rfl ?_
    refine g_yes rfl rfl hg3 ?_
    refine r_len_str rfl T.u_string rfl ?_
    refine g_yes rfl rfl hg3 ?_
    refine r_gtr rfl rfl rfl ?_
    refine p_f rfl rfl (bf1 hg3) rfl ?_
    refine hl_nil ?_
    refine then_n ?_
    refine c_dec rfl (fun hb1 => ?_) (fun hb1 => ?_)
    ·have hb1' := hb1; try simp at hb1'
     refine hc_seq ?_
     refine hc_region ?_
     refine hl_call F.law04_indexed_cb rfl rfl (law04_indexed_meets) (List.Perm.refl _) trivial fun _ _ => ?_
     refine r_assign rfl rfl ?_
     refine hl_nil ?_
     refine then_n ?_
     refine hc_ret ?_
     refine then_ret ?_
     exact ret1 () rfl rfl rfl trivial (List.nil_sublist _) trivial
    ·have hb1' := hb1; try simp at hb1'
     have hd0 : TdOK ((⟨A0, ca0, cs0⟩, ⟨B0, cb0, hs0⟩) : Td) := ⟨hca0.1, hcb0.1, hc20, hh20, hha, hwc, hwh⟩
     have hh0 : h0.2.2.2.l.length ≤ 1000000 := by omega
     have hhw0 : h0.1.length ≤ 1000 := by omega
     refine hc_skip ?_
     refine then_n ?_
     refine hc_seq ?_
     refine hc_region ?_
     refine r_move rfl rfl ?_
     refine hl_call F.kit_NewDice_cb rfl rfl (kit_NewDice_meets nums) (List.Perm.refl _) ⟨(by repeat constructor), trivial⟩ fun gd _ => ?_
     refine r_assign rfl rfl ?_
     refine hl_nil ?_
     refine then_n ?_
     refine hc_seq ?_
     refine hc_region ?_
     refine r_loadB rfl T.row_api_Trades T.sz_api_Trades rfl (by repeat constructor) (by rfl) ?_
     refine r_loadB rfl T.row_api_Head T.sz_api_Head rfl (by repeat constructor) (by rfl) ?_
     refine r_move rfl rfl ?_
     refine hl_facts (Fs := [Row ((⟨A0, ca0, cs0⟩, ⟨B0, cb0, hs0⟩) : Td).1.a (rows ((⟨A0, ca0, cs0⟩, ⟨B0, cb0, hs0⟩) : Td).1.l), RowsF ((⟨A0, ca0, cs0⟩, ⟨B0, cb0, hs0⟩) : Td).2.a ((⟨A0, ca0, cs0⟩, ⟨B0, cb0, hs0⟩) : Td).2.l Hd.row]) (by intro F hF; simp only [List.mem_cons, List.not_mem_nil, or_false] at hF; rcases hF with rfl | rfl; exact .inl (by repeat constructor); exact .inl (by repeat constructor)) ?_
     refine hl_call F.law04_lists_cb rfl rfl (law04_lists_meets (g := gd) (A := N) (c := nc) ((⟨A0, ca0, cs0⟩, ⟨B0, cb0, hs0⟩) : Td) h0 hn (dok0 nums) hd0 hh0 hhw0) (hpR := []) (List.Perm.refl _) ⟨(by repeat constructor), (by repeat constructor), (by repeat constructor), trivial⟩ fun x hx => ?_
     obtain ⟨sd, gl, d1, d2⟩ := x
     obtain ⟨hsd, ⟨hd1, hT1, h61⟩, hd2⟩ := hx
     simp only at hsd hd1 hT1 h61 hd2
     refine r_assign rfl rfl ?_
     refine hl_nil ?_
     refine then_n ?_
     refine hc_seq ?_
     refine hc_dup (F := RowsF (some ⟨gl, 0, none⟩) [((⟨A0, ca0, cs0⟩, ⟨B0, cb0, hs0⟩) : Td), d1, d2, d1] Td.row) (by repeat constructor) ?_
     obtain ⟨dl, hdl⟩ : ∃ dl : List Td, dl = [((⟨A0, ca0, cs0⟩, ⟨B0, cb0, hs0⟩) : Td), d1, d2, d1] := ⟨_, rfl⟩
     rw [← hdl]
     have hdl4 : dl.length = 4 := by rw [hdl]; rfl
     have hdal : ∀ d ∈ dl, TdOK d := by rw [hdl]; intro d hd; simp only [List.mem_cons, List.not_mem_nil, or_false] at hd; rcases hd with rfl | rfl | rfl | rfl; exact hd0; exact hd1; exact hd2; exact hd1
     have hdl1 := hdal _ (getD_mem (l := dl) (k := 1) (by omega))
     have hx1 := hdl1.c
     have hx2 := hdl1.h
     refine hc_outerF (ps := dl) (A := some ⟨gl, 0, none⟩) (f := Td.row) (by repeat constructor) ?_
     refine hc_region ?_
     refine r_move rfl rfl ?_
     refine r_elem (α := Td) dl 1 rfl T.u_L_api_Trades T.sz_api_Trades rfl rfl rfl (by repeat constructor) hdl4.symm (by omega) (by decide) ?_
     refine r_fieldAddr _ rfl rfl T.fa_api_Trades_1 rfl ?_
     refine r_load (v := .slice (dl.getD 1 default).2.a (dl.getD 1 default).2.l.length (dl.getD 1 default).2.c) rfl T.cell_L_api_Head rfl (cell_row_f (cs := rows dl) (by repeat constructor) (rows_get (by omega) rfl)) ?_
     refine r_len_sl rfl T.u_L_api_Head rfl ?_
     refine r_sub (((dl.getD 1 default).2.l.length : Int) - 1) rfl rfl rfl rfl (by unfold I64; omega) ?_
     refine r_assign rfl rfl ?_
     refine hl_nil ?_
     refine then_n ?_
     refine hc_seq ?_
     refine hc_region ?_
     refine r_move rfl rfl ?_
     refine r_move rfl rfl ?_
     refine r_move rfl rfl ?_
     refine hl_call F.kit_Dice_To_cb rfl rfl (kit_Dice_To_meets (((dl.getD 1 default).2.l.length : Int) - 1) hn hsd (by omega)) (List.Perm.refl _) ⟨(by repeat constructor), trivial⟩ fun x hx => ?_
     obtain ⟨sdz1, z1⟩ := x
     obtain ⟨hsdz1, hz1⟩ := hx
     simp only at hsdz1
     refine r_move rfl rfl ?_
     refine r_move rfl rfl ?_
     refine hl_call F.kit_Dice_To_cb rfl rfl (kit_Dice_To_meets (((dl.getD 1 default).2.l.length : Int) - 1) hn hsdz1 (by omega)) (List.Perm.refl _) ⟨(by repeat constructor), trivial⟩ fun x hx => ?_
     obtain ⟨sdz1z2, z2⟩ := x
     obtain ⟨hsdz1z2, hz2⟩ := hx
     simp only at hsdz1z2
     refine r_move rfl rfl ?_
     refine r_buildSlice _ rfl rfl (fun _ => T.bs_ints_4 ..) fun gS => ?_
     refine hl_letgo (rows ([a, z1, z2, a] : List Int)) (List.prefix_refl _) ?_
     refine r_move rfl rfl ?_
     refine r_move rfl rfl ?_
     refine r_buildSlice _ rfl rfl (fun _ => T.bs_strs_4 ..) fun gS2 => ?_
     refine r_assign rfl rfl ?_
     refine r_assign rfl rfl ?_
     refine hl_nil ?_
     refine then_n ?_
     refine hc_seq ?_
     refine hc_seq ?_
     obtain ⟨la, hla⟩ : ∃ l : List Int, l = [a, z1, z2, a] := ⟨_, rfl⟩
     rw [← hla]
     have hla4 : la.length = 4 := by rw [hla]; rfl
     refine hc_innerF (p := (dl.getD 1 default)) (f := Td.row) (ps := dl) (by repeat constructor) (getD_mem (by omega)) ?_
     refine hc_pick (F := RowsF (dl.getD 1 default).2.a (dl.getD 1 default).2.l Hd.row) (Fs := [Row (dl.getD 1 default).1.a (rows (dl.getD 1 default).1.l), RowsF (dl.getD 1 default).2.a (dl.getD 1 default).2.l Hd.row]) (by repeat constructor) (by simp) ?_
     refine hc_outerF (ps := (dl.getD 1 default).2.l) (A := (dl.getD 1 default).2.a) (f := Hd.row) (by repeat constructor) ?_
     refine hc_region ?_
     refine r_assign rfl rfl ?_
     refine hl_nil ?_
     refine then_n ?_
     refine hc_block ?_
     refine hc_loop (β := Nat × List Str × (Int × Int)) ⟨fun x => 1 ≤ x.1 ∧ x.1 ≤ 3 ∧ x.2.1.length = 4 ∧ DOK nums x.2.2, fun x => [(11, .pointer (some ⟨gd, 0, none⟩)), (12, .slice (some ⟨gl, 0, none⟩) 4 4), (13, int (((dl.getD 1 default).2.l.length : Int) - 1)), (14, .slice (some ⟨gS, 0, none⟩) 4 4), (15, .slice (some ⟨gS2, 0, none⟩) 4 4), (16, int x.1)], fun x => [(gS2, Obj.cells (rows x.2.1).toArray T.string (0, 0)), dice gd N nc nums x.2.2], fun _ => [Row (dl.getD 1 default).2.a (rows (dl.getD 1 default).2.l), Row (some ⟨gl, 0, none⟩) (rows dl), RowsF (some ⟨gl, 0, none⟩) dl Td.row, Row (some ⟨gS, 0, none⟩) (rows la), Row N (rows nums)]⟩ (fun x => 3 - x.1) (1, [b, [], [], b], sdz1z2) ⟨Nat.le_refl _, by show (1 : Nat) ≤ 3; decide, rfl, hsdz1z2⟩ ⟨rfl, rfl, rfl, rfl, rfl, rfl, trivial⟩ (List.Sublist.refl _) ⟨(by repeat constructor), (by repeat constructor), (by repeat constructor), (by repeat constructor), (by repeat constructor), trivial⟩ fun x hx => ?_
     obtain ⟨j, ws, s⟩ := x
     obtain ⟨hj1, hj3, hws4, hs⟩ := hx
     simp only at hj1 hj3 hws4 hs
     refine hc_seq ?_
     refine hc_seq ?_
     refine hc_region ?_
     refine r_move rfl rfl ?_
     refine r_lss rfl rfl rfl ?_
     refine r_move rfl rfl ?_
     refine g_split rfl rfl ?_ ?_
     ·intro hg4; have hg4' := hg4; try simp at hg4'
      have g8_3 : (j : Int) < 3 := of_decide_eq_true (eq_of_beq hg4)
      refine g_yes rfl rfl hg4 ?_
      refine r_move rfl rfl ?_
      refine g_yes rfl rfl hg4 ?_
      refine r_geq rfl rfl rfl ?_
      refine p_t rfl rfl (bt1 hg4) rfl ?_
      refine hl_nil ?_
      refine then_n ?_
      refine c_dec rfl (fun hb2 => ?_) (fun hb2 => ?_)
      ·have hb2' := hb2; try simp at hb2'
       have hn1 : 0 < (dl.getD 1 default).2.l.length := by omega
       refine hc_skip ?_
       refine then_n ?_
       refine hc_seq ?_
       refine hc_block ?_
       refine hc_seq ?_
       refine hc_drawW ([dice gd N nc nums s]) ([(gS2, Obj.cells (rows ws).toArray T.string (0, 0))]) (show List.Perm ([(gS2, Obj.cells (rows ws).toArray T.string (0, 0)), dice gd N nc nums s]) ([dice gd N nc nums s] ++ [(gS2, Obj.cells (rows ws).toArray T.string (0, 0))]) from (perm_of fun p => by simp only [List.countP_append, List.countP_cons, List.countP_nil]; omega)) 7 [6] mixed (by decide) (by decide) (by decide) rfl rfl rfl ?_
       apply hb_ex _ rfl rfl rfl
       ·intro w1
        refine r_move rfl rfl ?_
        refine hl_nil ?_
        exact qe_done rfl
       apply hb_ex _ rfl rfl rfl
       ·intro w1
        refine r_elem (α := Td) dl 1 rfl T.u_L_api_Trades T.sz_api_Trades rfl rfl rfl (by repeat constructor) hdl4.symm (by omega) (by decide) ?_
        refine hl_nil ?_
        exact qe_done rfl
       apply hb_ex _ rfl rfl rfl
       ·intro w1
        refine r_fieldAddr _ rfl rfl T.fa_api_Trades_1 rfl ?_
        refine hl_nil ?_
        exact qe_done rfl
       apply hb_ex _ rfl rfl rfl
       ·intro w1
        refine r_load (v := .slice (dl.getD 1 default).2.a (dl.getD 1 default).2.l.length (dl.getD 1 default).2.c) rfl T.cell_L_api_Head rfl (cell_row_f (cs := rows dl) (by repeat constructor) (rows_get (by omega) rfl)) ?_
        refine hl_nil ?_
        exact qe_done rfl
       apply hb_ex _ rfl rfl rfl
       ·intro w1
        refine r_move rfl rfl ?_
        refine hl_nil ?_
        exact qe_done rfl
       apply hb_ex _ rfl rfl rfl
       ·intro w1
        refine r_move rfl rfl ?_
        refine hl_nil ?_
        exact qe_done rfl
       refine hb_wr ⟨(Int × Int) × Int, fun x => DOK nums x.1 ∧ ToInv (((dl.getD 1 default).2.l.length : Int) - 1) x.2, fun x => int x.2, fun _ => [], fun x => [dice gd N nc nums x.1]⟩ rfl rfl rfl ?_ ?_
       ·intro w1
        refine hl_call F.kit_Dice_To_cb rfl rfl (kit_Dice_To_meets (((dl.getD 1 default).2.l.length : Int) - 1) hn hs (by omega)) (List.Perm.refl _) ⟨(by repeat constructor), trivial⟩ fun x hx => ?_
        refine hl_nil ?_
        exact qw_done x hx (fun _ => rfl) (List.Sublist.refl _) trivial
       refine hb_nil ⟨rfl, ?_⟩
       intro x hx
       obtain ⟨s2, z9⟩ := x
       have hs2 : DOK nums s2 := hx.1
       obtain ⟨zn, hze, hzl⟩ := to_in hn1 hx.2
       obtain ⟨w, hw⟩ : ∃ w : Str, w = ((dl.getD 1 default).2.l.getD zn default).1 := ⟨_, rfl⟩
       have hw2 : w.length ≤ 1000 := by rw [hw]; exact hdl1.wh _ (getD_mem hzl)
       clear hx
       refine r_elem (α := Hd) (dl.getD 1 default).2.l zn rfl T.u_L_api_Head T.sz_api_Head rfl rfl hze (by repeat constructor) rfl hzl (by decide) ?_
       refine r_fieldAddr _ rfl rfl T.fa_api_Head_0 rfl ?_
       refine r_load (v := str w) rfl T.cell_string rfl (cell_row_f (by repeat constructor) (rows_get hzl (by rw [hw]; rfl))) ?_
       refine r_assign rfl rfl ?_
       refine hl_nil ?_
       refine then_n ?_
       refine hc_region ?_
       refine r_move rfl rfl ?_
       refine r_move rfl rfl ?_
       refine r_move rfl rfl ?_
       refine r_move rfl rfl ?_
       refine r_move rfl rfl ?_
       refine r_len_str rfl T.u_string rfl ?_
       refine hl_call F.kit_Dice_To_cb rfl rfl (kit_Dice_To_meets (w.length : Int) hn hs2 (by omega)) (List.Perm.refl _) ⟨(by repeat constructor), trivial⟩ fun x hx => ?_
       obtain ⟨s3, z3⟩ := x
       obtain ⟨hs3, hz3⟩ := hx
       simp only at hs3 hz3
       obtain ⟨zn, hze, hzl⟩ := to_le hz3
       refine r_sslice_hi zn rfl T.u_string rfl rfl hze hzl ?_
       refine r_indexAddr_own j (0 + j * 1) rfl T.u_strs T.sz_string rfl rfl rfl (by omega) rfl ?_
       refine r_store rfl rfl (show List.Perm ([dice gd N nc nums s3] ++ [(gS2, Obj.cells (rows ws).toArray T.string (0, 0))]) ([(gS2, Obj.cells (rows ws).toArray T.string (0, 0)), dice gd N nc nums s3]) from (perm_of fun p => by simp only [List.countP_append, List.countP_cons, List.countP_nil]; omega)) T.sz_string (own_el rfl (arrS_take ws) (show j < ws.length by omega) (by omega) rfl) (by rfl) ?_
       rw [arrS_set]
       refine hl_nil ?_
       refine inb_n ?_
       refine then_n ?_
       refine hc_region ?_
       refine r_move rfl rfl ?_
       refine r_add _ rfl rfl rfl rfl (by unfold I64; omega) ?_
       refine r_assign rfl rfl ?_
       refine hl_nil ?_
       exact again _ (j + 1, ws.set j (w.take zn), s3) ⟨by show 1 ≤ j + 1; omega, by show j + 1 ≤ 3; omega, by show (ws.set j _).length = 4; rw [List.length_set]; exact hws4, hs3⟩ (by show 3 - (j + 1) < 3 - j; omega) ⟨rfl, rfl, rfl, rfl, rfl, rfl, trivial⟩ (List.Sublist.refl _) ⟨(by repeat constructor), (by repeat constructor), (by repeat constructor), (by repeat constructor), (by repeat constructor), trivial⟩
      ·have hb2' := hb2; try simp at hb2'
       refine hc_exit ?_
       refine then_exit ?_
       refine then_exit ?_
       refine inb_hit ?_
       refine then_n ?_
       refine hc_seq ?_
       refine hc_seq ?_
       refine hc_letgo (rows ws) ⟨[], List.append_nil _⟩ ?_
       refine hc_region ?_
       refine r_assign rfl rfl ?_
       refine hl_nil ?_
       refine then_n ?_
       refine hc_block ?_
       refine hc_loop (β := Nat) ⟨fun i => i ≤ 4, fun i => [(12, .slice (some ⟨gl, 0, none⟩) 4 4), (14, .slice (some ⟨gS, 0, none⟩) 4 4), (15, .slice (some ⟨gS2, 0, none⟩) 4 4), (18, int i)], fun _ => [], fun _ => [Row (some ⟨gl, 0, none⟩) (rows dl), RowsF (some ⟨gl, 0, none⟩) dl Td.row, Row (some ⟨gS, 0, none⟩) (rows la), Row (some ⟨gS2, 0, none⟩) (rows ws)]⟩ (fun i => 4 - i) 0 (Nat.zero_le _) ⟨rfl, rfl, rfl, rfl, trivial⟩ (List.nil_sublist _) ⟨(by repeat constructor), (by repeat constructor), (by repeat constructor), (by repeat constructor), trivial⟩ fun i hi => ?_
       simp only at hi
       refine hc_seq ?_
       refine hc_seq ?_
       refine hc_region ?_
       refine r_move rfl rfl ?_
       refine r_move rfl rfl ?_
       refine r_len_sl rfl T.u_L_api_Trades rfl ?_
       refine r_lss rfl rfl rfl ?_
       refine hl_nil ?_
       refine then_n ?_
       refine c_dec rfl (fun hb3 => ?_) (fun hb3 => ?_)
       ·have hb3' := hb3; try simp at hb3'
        have hi2 : i < 4 := by omega
        obtain ⟨d, hdd⟩ : ∃ d, d = dl.getD i default := ⟨_, rfl⟩
        have hdm : d ∈ dl := by rw [hdd]; exact getD_mem (by omega)
        have hdo := hdal d hdm
        have hd20 := hdo.c
        have hdh20 := hdo.h
        have hdha := hdo.ha
        refine hc_innerF (p := d) (f := Td.row) (ps := dl) (by repeat constructor) hdm ?_
        refine hc_pick (F := Row d.1.a (rows d.1.l)) (Fs := [Row d.1.a (rows d.1.l), RowsF d.2.a d.2.l Hd.row]) (by repeat constructor) (by simp) ?_
        refine hc_pick (F := RowsF d.2.a d.2.l Hd.row) (Fs := [Row d.1.a (rows d.1.l), RowsF d.2.a d.2.l Hd.row]) (by repeat constructor) (by simp) ?_
        refine hc_skip ?_
        refine then_n ?_
        refine hc_seq ?_
        refine hc_block ?_
        refine hc_seq ?_
        refine hc_region ?_
        refine r_move rfl rfl ?_
        refine r_move rfl rfl ?_
        refine r_elem (α := Td) dl i rfl T.u_L_api_Trades T.sz_api_Trades rfl rfl rfl (by repeat constructor) hdl4.symm (by omega) (by decide) ?_
        refine r_loadS (cs := El.cells d) rfl T.row_api_Trades T.sz_api_Trades rfl rfl (cells_row (by repeat constructor) (by rw [hdd]; exact rows_all (by omega))) ?_
        refine hl_call F.kit_DupTrades_cb rfl rfl (kit_DupTrades_any (A := d.1.a) (B := d.2.a) (ca := d.1.c) (cb := d.2.c) d.1.l d.2.l (by omega) (by omega) hdo.a hdo.b hdha) (hpR := []) (List.Perm.refl _) ⟨(by repeat constructor), (by repeat constructor), trivial⟩ fun x hD => ?_
        obtain ⟨⟨⟨a3, c3⟩, o3⟩, hs2, ⟨⟨a7, c7⟩, o7⟩⟩ := x
        have hp2 : hs2.map Hd.p = d.2.l.map Hd.p := hD.p
        have hDa : GrowE T.api_Class 2 a3 d.1.l.length c3 (rows d.1.l) o3 := hD.a
        have hDb : GrowE T.api_Head 4 a7 hs2.length c7 (rows hs2) o7 := hD.b
        have hl2 := p_len hp2
        have hc3 := hDa.le
        have hc7 := hDb.le
        clear hD
        refine hl_perm (show List.Perm ((o7 ++ o3) ++ []) (o3 ++ (o7 ++ [])) from (perm_of fun p => by simp only [List.countP_append, List.countP_cons, List.countP_nil]; omega)) ?_
        refine hl_grownE hDa ?_
        refine hl_grownE hDb ?_
        have hTs := tr_same (cs := d.1.l) hp2
        have ha2 := ha_same hp2 hdha
        have hwh2 := wh_same hp2 hdo.wh
        refine r_alloc rfl (fun _ => T.al_api_Trades _) fun gO => ?_
        refine r_storeS (cs := #[.slice a3 d.1.l.length c3, .slice a7 hs2.length c7]) rfl rfl (.refl _) T.sz_api_Trades (by rfl) (by rfl) ?_
        refine hl_nil ?_
        refine then_n ?_
        refine hc_seq ?_
        refine hc_letgoB ?_
        refine hc_rowsF (A := a7) (ps := hs2) (f := Hd.row) (by repeat constructor) (by repeat constructor) ?_
        have hP := trade_May_meets (A := a3) (B := a7) (ca := c3) (cb := c7) d.1.l hs2 (ws.getD i default) hc3 hc7 ha2
        have hL := trade_Means_meets (A := a3) (B := a7) (ca := c3) (cb := c7) d.1.l hs2 (ws.getD i default) (la.getD i default) hc3 hc7 ha2
        have hC := trade_Short_meets (A := a3) (B := a7) (ca := c3) (cb := c7) d.1.l hs2 (la.getD i default) hc3 hc7 ha2
        rw [hTs] at hP hL hC
        have hpl := mayE_len (trOf d.1.l d.2.l) (ws.getD i default)
        refine hc_draw 10 mixed (by decide) (by decide) rfl rfl ?_
        apply hb_ex _ rfl rfl rfl
        ·intro w1
         refine r_loadB rfl T.row_api_Trades T.sz_api_Trades rfl (by repeat constructor) (by rfl) ?_
         refine hl_nil ?_
         exact qe_done rfl
        apply hb_ex _ rfl rfl rfl
        ·intro w1
         refine r_move rfl rfl ?_
         refine hl_nil ?_
         exact qe_done rfl
        apply hb_ex _ rfl rfl rfl
        ·intro w1
         refine r_move rfl rfl ?_
         refine hl_nil ?_
         exact qe_done rfl
        apply hb_ex _ rfl rfl rfl
        ·intro w1
         refine r_elem (α := Str) ws i rfl T.u_strs T.sz_string rfl rfl rfl (by repeat constructor) hws4.symm (by omega) (by decide) ?_
         refine hl_nil ?_
         exact qe_done rfl
        apply hb_ex _ rfl rfl rfl
        ·intro w1
         refine r_load (v := str (ws.getD i default)) rfl T.cell_string rfl (cell_row (by repeat constructor) (rows_get0 (by omega) rfl)) ?_
         refine hl_nil ?_
         exact qe_done rfl
        refine hb_vs ⟨OutC, fun y => (mayE (trOf d.1.l d.2.l) (ws.getD i default)).1.length ≤ y.2, fun y => .tuple #[.slice y.1 (mayE (trOf d.1.l d.2.l) (ws.getD i default)).1.length y.2, int (mayE (trOf d.1.l d.2.l) (ws.getD i default)).2], fun y => [Row y.1 (rows (mayE (trOf d.1.l d.2.l) (ws.getD i default)).1)]⟩ rfl rfl rfl ?_ ?_
        ·intro w1
         refine hl_call F.trade_May_cb rfl rfl (hP) (List.Perm.refl _) ⟨(by repeat constructor), (by repeat constructor), trivial⟩ fun y hy => ?_
         refine hl_nil ?_
         exact qv_done y hy rfl ⟨m0, trivial⟩
        refine hb_vs ⟨OutC, fun y => (mayE (trOf d.1.l d.2.l) (ws.getD i default)).1.length ≤ y.2, fun y => .tuple #[.slice y.1 (mayE (trOf d.1.l d.2.l) (ws.getD i default)).1.length y.2, int (mayE (trOf d.1.l d.2.l) (ws.getD i default)).2], fun y => [Row y.1 (rows (mayE (trOf d.1.l d.2.l) (ws.getD i default)).1)]⟩ rfl rfl rfl ?_ ?_
        ·intro y hy; intro w1
         refine r_move rfl rfl ?_
         refine hl_nil ?_
         exact qv_done y hy rfl ⟨m0, trivial⟩
        refine hb_vs ⟨OutC, fun y => (mayE (trOf d.1.l d.2.l) (ws.getD i default)).1.length ≤ y.2, fun y => .slice y.1 (mayE (trOf d.1.l d.2.l) (ws.getD i default)).1.length y.2, fun y => [Row y.1 (rows (mayE (trOf d.1.l d.2.l) (ws.getD i default)).1)]⟩ rfl rfl rfl ?_ ?_
        ·intro y hy; intro w1
         refine r_extract rfl rfl rfl ?_
         refine hl_nil ?_
         exact qv_done y hy rfl ⟨m0, trivial⟩
        apply hb_ex _ rfl rfl rfl
        ·intro y hy; intro w1
         refine r_extract rfl rfl rfl ?_
         refine hl_nil ?_
         exact qe_done rfl
        refine hb_vs ⟨OutC, fun y => (mayE (trOf d.1.l d.2.l) (ws.getD i default)).1.length ≤ y.2, fun y => .slice y.1 (mayE (trOf d.1.l d.2.l) (ws.getD i default)).1.length y.2, fun y => [Row y.1 (rows (mayE (trOf d.1.l d.2.l) (ws.getD i default)).1)]⟩ rfl rfl rfl ?_ ?_
        ·intro y hy; intro w1
         refine r_assign rfl rfl ?_
         refine hl_nil ?_
         exact qv_done y hy rfl ⟨m0, trivial⟩
        refine hb_nil ⟨rfl, ?_⟩
        intro _ _ _ _ _ _ p hp
        refine r_assign rfl rfl ?_
        refine hl_nil ?_
        refine then_n ?_
        refine hc_seq ?_
        refine hc_draw 13 mixed (by decide) (by decide) rfl rfl ?_
        apply hb_ex _ rfl rfl rfl
        ·intro w1
         refine r_move rfl rfl ?_
         refine hl_nil ?_
         exact qe_done rfl
        apply hb_ex _ rfl rfl rfl
        ·intro w1
         refine r_move rfl rfl ?_
         refine hl_nil ?_
         exact qe_done rfl
        apply hb_ex _ rfl rfl rfl
        ·intro w1
         refine r_elem (α := Td) dl i rfl T.u_L_api_Trades T.sz_api_Trades rfl rfl rfl (by repeat constructor) hdl4.symm (by omega) (by decide) ?_
         refine hl_nil ?_
         exact qe_done rfl
        apply hb_ex _ rfl rfl rfl
        ·intro w1
         refine r_loadS (cs := El.cells d) rfl T.row_api_Trades T.sz_api_Trades rfl rfl (cells_row (by repeat constructor) (by rw [hdd]; exact rows_all (by omega))) ?_
         refine hl_nil ?_
         exact qe_done rfl
        apply hb_ex _ rfl rfl rfl
        ·intro w1
         refine r_move rfl rfl ?_
         refine hl_nil ?_
         exact qe_done rfl
        apply hb_ex _ rfl rfl rfl
        ·intro w1
         refine r_move rfl rfl ?_
         refine hl_nil ?_
         exact qe_done rfl
        apply hb_ex _ rfl rfl rfl
        ·intro w1
         refine r_elem (α := Str) ws i rfl T.u_strs T.sz_string rfl rfl rfl (by repeat constructor) hws4.symm (by omega) (by decide) ?_
         refine hl_nil ?_
         exact qe_done rfl
        apply hb_ex _ rfl rfl rfl
        ·intro w1
         refine r_load (v := str (ws.getD i default)) rfl T.cell_string rfl (cell_row (by repeat constructor) (rows_get0 (by omega) rfl)) ?_
         refine hl_nil ?_
         exact qe_done rfl
        refine hb_vs ⟨OutC, fun y => (mayE (trOf d.1.l d.2.l) (ws.getD i default)).1.length ≤ y.2, fun y => .tuple #[.slice y.1 (mayE (trOf d.1.l d.2.l) (ws.getD i default)).1.length y.2, int (mayE (trOf d.1.l d.2.l) (ws.getD i default)).2], fun y => [Row y.1 (rows (mayE (trOf d.1.l d.2.l) (ws.getD i default)).1)]⟩ rfl rfl rfl ?_ ?_
        ·intro w1
         refine hl_call F.ref04_May_cb rfl rfl (ref04_May_meets (A := d.1.a) (B := d.2.a) (ca := d.1.c) (cb := d.2.c) d.1.l d.2.l (ws.getD i default) (by omega) (by omega) hdo.wc hdo.wh hdha) (List.Perm.refl _) ⟨(by repeat constructor), (by repeat constructor), trivial⟩ fun y hy => ?_
         refine hl_nil ?_
         exact qv_done y hy rfl ⟨m0, trivial⟩
        refine hb_vs ⟨OutC, fun y => (mayE (trOf d.1.l d.2.l) (ws.getD i default)).1.length ≤ y.2, fun y => .tuple #[.slice y.1 (mayE (trOf d.1.l d.2.l) (ws.getD i default)).1.length y.2, int (mayE (trOf d.1.l d.2.l) (ws.getD i default)).2], fun y => [Row y.1 (rows (mayE (trOf d.1.l d.2.l) (ws.getD i default)).1)]⟩ rfl rfl rfl ?_ ?_
        ·intro y hy; intro w1
         refine r_move rfl rfl ?_
         refine hl_nil ?_
         exact qv_done y hy rfl ⟨m0, trivial⟩
        refine hb_vs ⟨OutC, fun y => (mayE (trOf d.1.l d.2.l) (ws.getD i default)).1.length ≤ y.2, fun y => .slice y.1 (mayE (trOf d.1.l d.2.l) (ws.getD i default)).1.length y.2, fun y => [Row y.1 (rows (mayE (trOf d.1.l d.2.l) (ws.getD i default)).1)]⟩ rfl rfl rfl ?_ ?_
        ·intro y hy; intro w1
         refine r_extract rfl rfl rfl ?_
         refine hl_nil ?_
         exact qv_done y hy rfl ⟨m0, trivial⟩
        apply hb_ex _ rfl rfl rfl
        ·intro y hy; intro w1
         refine r_extract rfl rfl rfl ?_
         refine hl_nil ?_
         exact qe_done rfl
        refine hb_vs ⟨OutC, fun y => (mayE (trOf d.1.l d.2.l) (ws.getD i default)).1.length ≤ y.2, fun y => .slice y.1 (mayE (trOf d.1.l d.2.l) (ws.getD i default)).1.length y.2, fun y => [Row y.1 (rows (mayE (trOf d.1.l d.2.l) (ws.getD i default)).1)]⟩ rfl rfl rfl ?_ ?_
        ·intro y hy; intro w1
         refine r_assign rfl rfl ?_
         refine hl_nil ?_
         exact qv_done y hy rfl ⟨m0, trivial⟩
        refine hb_nil ⟨rfl, ?_⟩
        intro _ _ _ _ _ _ q hq
        refine r_assign rfl rfl ?_
        refine hl_nil ?_
        refine then_n ?_
        refine hc_seq ?_
        refine hc_draw 14 mixed (by decide) (by decide) rfl rfl ?_
        apply hb_ex _ rfl rfl rfl
        ·intro w1
         refine r_loadB rfl T.row_api_Trades T.sz_api_Trades rfl (by repeat constructor) (by rfl) ?_
         refine hl_nil ?_
         exact qe_done rfl
        apply hb_ex _ rfl rfl rfl
        ·intro w1
         refine r_move rfl rfl ?_
         refine hl_nil ?_
         exact qe_done rfl
        apply hb_ex _ rfl rfl rfl
        ·intro w1
         refine r_move rfl rfl ?_
         refine hl_nil ?_
         exact qe_done rfl
        apply hb_ex _ rfl rfl rfl
        ·intro w1
         refine r_elem (α := Str) ws i rfl T.u_strs T.sz_string rfl rfl rfl (by repeat constructor) hws4.symm (by omega) (by decide) ?_
         refine hl_nil ?_
         exact qe_done rfl
        apply hb_ex _ rfl rfl rfl
        ·intro w1
         refine r_load (v := str (ws.getD i default)) rfl T.cell_string rfl (cell_row (by repeat constructor) (rows_get0 (by omega) rfl)) ?_
         refine hl_nil ?_
         exact qe_done rfl
        apply hb_ex _ rfl rfl rfl
        ·intro w1
         refine r_move rfl rfl ?_
         refine hl_nil ?_
         exact qe_done rfl
        apply hb_ex _ rfl rfl rfl
        ·intro w1
         refine r_move rfl rfl ?_
         refine hl_nil ?_
         exact qe_done rfl
        apply hb_ex _ rfl rfl rfl
        ·intro w1
         refine r_elem (α := Int) la i rfl T.u_ints T.sz_int rfl rfl rfl (by repeat constructor) hla4.symm (by omega) (by decide) ?_
         refine hl_nil ?_
         exact qe_done rfl
        apply hb_ex _ rfl rfl rfl
        ·intro w1
         refine r_load (v := int (la.getD i default)) rfl T.cell_int rfl (cell_row (by repeat constructor) (rows_get0 (by omega) rfl)) ?_
         refine hl_nil ?_
         exact qe_done rfl
        apply hb_ex _ rfl rfl rfl
        ·intro w1
         refine hl_call F.trade_Means_cb rfl rfl (hL) (List.Perm.refl _) ⟨(by repeat constructor), (by repeat constructor), trivial⟩ fun _ _ => ?_
         refine hl_nil ?_
         exact qe_done rfl
        apply hb_ex _ rfl rfl rfl
        ·intro w1
         refine r_move rfl rfl ?_
         refine hl_nil ?_
         exact qe_done rfl
        apply hb_ex _ rfl rfl rfl
        ·intro w1
         refine r_extract rfl rfl rfl ?_
         refine hl_nil ?_
         exact qe_done rfl
        apply hb_ex _ rfl rfl rfl
        ·intro w1
         refine r_extract rfl rfl rfl ?_
         refine hl_nil ?_
         exact qe_done rfl
        apply hb_ex _ rfl rfl rfl
        ·intro w1
         refine r_assign rfl rfl ?_
         refine hl_nil ?_
         exact qe_done rfl
        refine hb_nil ⟨rfl, ?_⟩
        refine r_assign rfl rfl ?_
        refine hl_nil ?_
        refine then_n ?_
        refine hc_seq ?_
        refine hc_draw 17 mixed (by decide) (by decide) rfl rfl ?_
        apply hb_ex _ rfl rfl rfl
        ·intro w1
         refine r_move rfl rfl ?_
         refine hl_nil ?_
         exact qe_done rfl
        apply hb_ex _ rfl rfl rfl
        ·intro w1
         refine r_move rfl rfl ?_
         refine hl_nil ?_
         exact qe_done rfl
        apply hb_ex _ rfl rfl rfl
        ·intro w1
         refine r_elem (α := Td) dl i rfl T.u_L_api_Trades T.sz_api_Trades rfl rfl rfl (by repeat constructor) hdl4.symm (by omega) (by decide) ?_
         refine hl_nil ?_
         exact qe_done rfl
        apply hb_ex _ rfl rfl rfl
        ·intro w1
         refine r_loadS (cs := El.cells d) rfl T.row_api_Trades T.sz_api_Trades rfl rfl (cells_row (by repeat constructor) (by rw [hdd]; exact rows_all (by omega))) ?_
         refine hl_nil ?_
         exact qe_done rfl
        apply hb_ex _ rfl rfl rfl
        ·intro w1
         refine r_move rfl rfl ?_
         refine hl_nil ?_
         exact qe_done rfl
        apply hb_ex _ rfl rfl rfl
        ·intro w1
         refine r_move rfl rfl ?_
         refine hl_nil ?_
         exact qe_done rfl
        apply hb_ex _ rfl rfl rfl
        ·intro w1
         refine r_elem (α := Str) ws i rfl T.u_strs T.sz_string rfl rfl rfl (by repeat constructor) hws4.symm (by omega) (by decide) ?_
         refine hl_nil ?_
         exact qe_done rfl
        apply hb_ex _ rfl rfl rfl
        ·intro w1
         refine r_load (v := str (ws.getD i default)) rfl T.cell_string rfl (cell_row (by repeat constructor) (rows_get0 (by omega) rfl)) ?_
         refine hl_nil ?_
         exact qe_done rfl
        apply hb_ex _ rfl rfl rfl
        ·intro w1
         refine r_move rfl rfl ?_
         refine hl_nil ?_
         exact qe_done rfl
        apply hb_ex _ rfl rfl rfl
        ·intro w1
         refine r_move rfl rfl ?_
         refine hl_nil ?_
         exact qe_done rfl
        apply hb_ex _ rfl rfl rfl
        ·intro w1
         refine r_elem (α := Int) la i rfl T.u_ints T.sz_int rfl rfl rfl (by repeat constructor) hla4.symm (by omega) (by decide) ?_
         refine hl_nil ?_
         exact qe_done rfl
        apply hb_ex _ rfl rfl rfl
        ·intro w1
         refine r_load (v := int (la.getD i default)) rfl T.cell_int rfl (cell_row (by repeat constructor) (rows_get0 (by omega) rfl)) ?_
         refine hl_nil ?_
         exact qe_done rfl
        apply hb_ex _ rfl rfl rfl
        ·intro w1
         refine hl_call F.ref04_Means_cb rfl rfl (ref04_Means_meets (A := d.1.a) (B := d.2.a) (ca := d.1.c) (cb := d.2.c) d.1.l d.2.l (ws.getD i default) (la.getD i default) (by omega) (by omega) hdo.wc hdo.wh hdha) (List.Perm.refl _) ⟨(by repeat constructor), (by repeat constructor), trivial⟩ fun _ _ => ?_
         refine hl_nil ?_
         exact qe_done rfl
        apply hb_ex _ rfl rfl rfl
        ·intro w1
         refine r_move rfl rfl ?_
         refine hl_nil ?_
         exact qe_done rfl
        apply hb_ex _ rfl rfl rfl
        ·intro w1
         refine r_extract rfl rfl rfl ?_
         refine hl_nil ?_
         exact qe_done rfl
        apply hb_ex _ rfl rfl rfl
        ·intro w1
         refine r_extract rfl rfl rfl ?_
         refine hl_nil ?_
         exact qe_done rfl
        apply hb_ex _ rfl rfl rfl
        ·intro w1
         refine r_assign rfl rfl ?_
         refine hl_nil ?_
         exact qe_done rfl
        refine hb_nil ⟨rfl, ?_⟩
        refine r_assign rfl rfl ?_
        refine hl_nil ?_
        refine then_n ?_
        refine hc_seq ?_
        refine hc_seq ?_
        refine hc_region ?_
        refine r_move rfl rfl ?_
        refine r_move rfl rfl ?_
        refine r_neq rfl rfl rfl ?_
        refine r_move rfl rfl ?_
        refine g_split rfl rfl ?_ ?_
        ·intro hg5; have hg5' := hg5; try simp at hg5'
         refine g_yes rfl rfl hg5 ?_
         refine r_move rfl rfl ?_
         refine g_yes rfl rfl hg5 ?_
         refine r_move rfl rfl ?_
         refine g_yes rfl rfl hg5 ?_
         refine r_neq rfl rfl rfl ?_
         refine p_f rfl rfl (bf1 hg5) rfl ?_
         refine r_move rfl rfl ?_
         refine g_split rfl rfl ?_ ?_
         ·intro hg6; have hg6' := hg6; try simp at hg6'
          refine g_yes rfl rfl hg6 ?_
          refine r_move rfl rfl ?_
          refine g_yes rfl rfl hg6 ?_
          refine r_move rfl rfl ?_
          refine g_yes rfl rfl hg6 ?_
          refine r_neq rfl rfl rfl ?_
          refine p_f rfl rfl (bf1 hg6) rfl ?_
          refine r_move rfl rfl ?_
          refine g_split rfl rfl ?_ ?_
          ·intro hg7; have hg7' := hg7; try simp at hg7'
           refine g_yes rfl rfl hg7 ?_
           refine r_move rfl rfl ?_
           refine g_yes rfl rfl hg7 ?_
           refine r_move rfl rfl ?_
           refine g_yes rfl rfl hg7 ?_
           refine hl_call F.kit_EqInts_cb rfl rfl (kit_EqInts_meets (mayE (trOf d.1.l d.2.l) (ws.getD i default)).1 (mayE (trOf d.1.l d.2.l) (ws.getD i default)).1 (by omega)) (List.Perm.refl _) ⟨(by repeat constructor), (by repeat constructor), trivial⟩ fun _ _ => ?_
           refine g_yes rfl rfl hg7 ?_
           refine r_not rfl rfl ?_
           refine p_f rfl rfl (bf1 hg7) rfl ?_
           refine hl_nil ?_
           refine then_n ?_
           refine hc_cond rfl (fun hb4 => ?_) (fun hb4 => ?_)
           ·have hb4' := hb4; try simp at hb4'
           ·have hb4' := hb4; try simp at hb4'
            refine hc_skip ?_
            refine then_n ?_
            refine hc_seq ?_
            refine hc_draw 10 mixed (by decide) (by decide) rfl rfl ?_
            apply hb_ex _ rfl rfl rfl
            ·intro w1
             refine r_loadB rfl T.row_api_Trades T.sz_api_Trades rfl (by repeat constructor) (by rfl) ?_
             refine hl_nil ?_
             exact qe_done rfl
            apply hb_ex _ rfl rfl rfl
            ·intro w1
             refine r_move rfl rfl ?_
             refine hl_nil ?_
             exact qe_done rfl
            apply hb_ex _ rfl rfl rfl
            ·intro w1
             refine r_move rfl rfl ?_
             refine hl_nil ?_
             exact qe_done rfl
            apply hb_ex _ rfl rfl rfl
            ·intro w1
             refine r_elem (α := Int) la i rfl T.u_ints T.sz_int rfl rfl rfl (by repeat constructor) hla4.symm (by omega) (by decide) ?_
             refine hl_nil ?_
             exact qe_done rfl
            apply hb_ex _ rfl rfl rfl
            ·intro w1
             refine r_load (v := int (la.getD i default)) rfl T.cell_int rfl (cell_row (by repeat constructor) (rows_get0 (by omega) rfl)) ?_
             refine hl_nil ?_
             exact qe_done rfl
            apply hb_ex _ rfl rfl rfl
            ·intro w1
             refine hl_call F.trade_Short_cb rfl rfl (hC) (List.Perm.refl _) ⟨(by repeat constructor), (by repeat constructor), trivial⟩ fun _ _ => ?_
             refine hl_nil ?_
             exact qe_done rfl
            apply hb_ex _ rfl rfl rfl
            ·intro w1
             refine r_move rfl rfl ?_
             refine hl_nil ?_
             exact qe_done rfl
            apply hb_ex _ rfl rfl rfl
            ·intro w1
             refine r_extract rfl rfl rfl ?_
             refine hl_nil ?_
             exact qe_done rfl
            apply hb_ex _ rfl rfl rfl
            ·intro w1
             refine r_extract rfl rfl rfl ?_
             refine hl_nil ?_
             exact qe_done rfl
            apply hb_ex _ rfl rfl rfl
            ·intro w1
             refine r_assign rfl rfl ?_
             refine hl_nil ?_
             exact qe_done rfl
            refine hb_nil ⟨rfl, ?_⟩
            refine r_assign rfl rfl ?_
            refine hl_nil ?_
            refine then_n ?_
            refine hc_seq ?_
            refine hc_draw 13 mixed (by decide) (by decide) rfl rfl ?_
            apply hb_ex _ rfl rfl rfl
            ·intro w1
             refine r_move rfl rfl ?_
             refine hl_nil ?_
             exact qe_done rfl
            apply hb_ex _ rfl rfl rfl
            ·intro w1
             refine r_move rfl rfl ?_
             refine hl_nil ?_
             exact qe_done rfl
            apply hb_ex _ rfl rfl rfl
            ·intro w1
             refine r_elem (α := Td) dl i rfl T.u_L_api_Trades T.sz_api_Trades rfl rfl rfl (by repeat constructor) hdl4.symm (by omega) (by decide) ?_
             refine hl_nil ?_
             exact qe_done rfl
            apply hb_ex _ rfl rfl rfl
            ·intro w1
             refine r_loadS (cs := El.cells d) rfl T.row_api_Trades T.sz_api_Trades rfl rfl (cells_row (by repeat constructor) (by rw [hdd]; exact rows_all (by omega))) ?_
             refine hl_nil ?_
             exact qe_done rfl
            apply hb_ex _ rfl rfl rfl
            ·intro w1
             refine r_move rfl rfl ?_
             refine hl_nil ?_
             exact qe_done rfl
            apply hb_ex _ rfl rfl rfl
            ·intro w1
             refine r_move rfl rfl ?_
             refine hl_nil ?_
             exact qe_done rfl
            apply hb_ex _ rfl rfl rfl
            ·intro w1
             refine r_elem (α := Int) la i rfl T.u_ints T.sz_int rfl rfl rfl (by repeat constructor) hla4.symm (by omega) (by decide) ?_
             refine hl_nil ?_
             exact qe_done rfl
            apply hb_ex _ rfl rfl rfl
            ·intro w1
             refine r_load (v := int (la.getD i default)) rfl T.cell_int rfl (cell_row (by repeat constructor) (rows_get0 (by omega) rfl)) ?_
             refine hl_nil ?_
             exact qe_done rfl
            apply hb_ex _ rfl rfl rfl
            ·intro w1
             refine hl_call F.ref04_Short_cb rfl rfl (ref04_Short_meets (A := d.1.a) (B := d.2.a) (ca := d.1.c) (cb := d.2.c) d.1.l d.2.l (la.getD i default) (by omega) (by omega) hdo.wc hdo.wh hdha) (List.Perm.refl _) ⟨(by repeat constructor), (by repeat constructor), trivial⟩ fun _ _ => ?_
             refine hl_nil ?_
             exact qe_done rfl
            apply hb_ex _ rfl rfl rfl
            ·intro w1
             refine r_move rfl rfl ?_
             refine hl_nil ?_
             exact qe_done rfl
            apply hb_ex _ rfl rfl rfl
            ·intro w1
             refine r_extract rfl rfl rfl ?_
             refine hl_nil ?_
             exact qe_done rfl
            apply hb_ex _ rfl rfl rfl
            ·intro w1
             refine r_extract rfl rfl rfl ?_
             refine hl_nil ?_
             exact qe_done rfl
            apply hb_ex _ rfl rfl rfl
            ·intro w1
             refine r_assign rfl rfl ?_
             refine hl_nil ?_
             exact qe_done rfl
            refine hb_nil ⟨rfl, ?_⟩
            refine r_assign rfl rfl ?_
            refine hl_nil ?_
            refine then_n ?_
            refine hc_seq ?_
            refine hc_draw 14 mixed (by decide) (by decide) rfl rfl ?_
            apply hb_ex _ rfl rfl rfl
            ·intro w1
             refine r_move rfl rfl ?_
             refine hl_nil ?_
             exact qe_done rfl
            apply hb_ex _ rfl rfl rfl
            ·intro w1
             refine r_move rfl rfl ?_
             refine hl_nil ?_
             exact qe_done rfl
            apply hb_ex _ rfl rfl rfl
            ·intro w1
             refine r_sneq rfl rfl rfl ?_
             refine hl_nil ?_
             exact qe_done rfl
            apply hb_ex _ rfl rfl rfl
            ·intro w1
             refine r_move rfl rfl ?_
             refine hl_nil ?_
             exact qe_done rfl
            refine hb_split (t := 206) (want := false) rfl ?_ ?_
            ·intro hg8; have hg8' := hg8; try simp at hg8'
             apply hb_ex _ rfl rfl rfl
             ·intro w1
              refine g_yes rfl rfl hg8 ?_
              refine r_move rfl rfl ?_
              refine hl_nil ?_
              exact qe_done rfl
             apply hb_ex _ rfl rfl rfl
             ·intro w1
              refine g_yes rfl rfl hg8 ?_
              refine r_move rfl rfl ?_
              refine hl_nil ?_
              exact qe_done rfl
             apply hb_ex _ rfl rfl rfl
             ·intro w1
              refine g_yes rfl rfl hg8 ?_
              refine r_neq rfl rfl rfl ?_
              refine hl_nil ?_
              exact qe_done rfl
             apply hb_ex _ rfl rfl rfl
             ·intro w1
              refine p_f rfl rfl (bf1 hg8) rfl ?_
              refine hl_nil ?_
              exact qe_done rfl
             apply hb_ex _ rfl rfl rfl
             ·intro w1
              refine r_move rfl rfl ?_
              refine hl_nil ?_
              exact qe_done rfl
             refine hb_split (t := 211) (want := false) rfl ?_ ?_
             ·intro hg9; have hg9' := hg9; try simp at hg9'
              apply hb_ex _ rfl rfl rfl
              ·intro w1
               refine g_yes rfl rfl hg9 ?_
               refine r_loadB rfl T.row_api_Trades T.sz_api_Trades rfl (by repeat constructor) (by rfl) ?_
               refine hl_nil ?_
               exact qe_done rfl
              apply hb_ex _ rfl rfl rfl
              ·intro w1
               refine g_yes rfl rfl hg9 ?_
               refine r_move rfl rfl ?_
               refine hl_nil ?_
               exact qe_done rfl
              apply hb_ex _ rfl rfl rfl
              ·intro w1
               refine g_yes rfl rfl hg9 ?_
               refine r_move rfl rfl ?_
               refine hl_nil ?_
               exact qe_done rfl
              apply hb_ex _ rfl rfl rfl
              ·intro w1
               refine g_yes rfl rfl hg9 ?_
               refine r_elem (α := Td) dl i rfl T.u_L_api_Trades T.sz_api_Trades rfl rfl rfl (by repeat constructor) hdl4.symm (by omega) (by decide) ?_
               refine hl_nil ?_
               exact qe_done rfl
              apply hb_ex _ rfl rfl rfl
              ·intro w1
               refine g_yes rfl rfl hg9 ?_
               refine r_loadS (cs := El.cells d) rfl T.row_api_Trades T.sz_api_Trades rfl rfl (cells_row (by repeat constructor) (by rw [hdd]; exact rows_all (by omega))) ?_
               refine hl_nil ?_
               exact qe_done rfl
              refine hb_nil ⟨rfl, ?_⟩
              refine g_yes rfl rfl hg9 ?_
              refine hl_call F.kit_EqTrades_cb rfl rfl (kit_EqTrades_meets (A := a3) (B := a7) (A2 := d.1.a) (B2 := d.2.a) (ca := c3) (cb := c7) (ca2 := d.1.c) (cb2 := d.2.c) d.1.l hs2 d.2.l hp2.symm (by omega) (by omega) ha2) (List.Perm.refl _) ⟨(by repeat constructor), (by repeat constructor), (by repeat constructor), (by repeat constructor), trivial⟩ fun _ _ => ?_
              refine g_yes rfl rfl hg9 ?_
              refine r_not rfl rfl ?_
              refine p_f rfl rfl (bf1 hg9) rfl ?_
              refine hl_nil ?_
              refine then_n ?_
              refine hc_cond rfl (fun hb5 => ?_) (fun hb5 => ?_)
              ·have hb5' := hb5; try simp at hb5'
              ·have hb5' := hb5; try simp at hb5'
               refine hc_skip ?_
               refine inb_n ?_
               refine then_n ?_
               refine hc_region ?_
               refine r_move rfl rfl ?_
               refine r_add _ rfl rfl rfl rfl (by unfold I64; omega) ?_
               refine r_assign rfl rfl ?_
               refine hl_nil ?_
               exact again _ (i + 1) (by show i + 1 ≤ 4; omega) (by show 4 - (i + 1) < 4 - i; omega) ⟨rfl, rfl, rfl, rfl, trivial⟩ (List.nil_sublist _) ⟨(by repeat constructor), (by repeat constructor), (by repeat constructor), (by repeat constructor), trivial⟩
             ·intro hg9; have hg9' := hg9; try simp at hg9'
            ·intro hg8; have hg8' := hg8; try simp at hg8'
          ·intro hg7; have hg7' := hg7; try simp at hg7'
         ·intro hg6; have hg6' := hg6; try simp at hg6'
        ·intro hg5; have hg5' := hg5; try simp at hg5'
       ·have hb3' := hb3; try simp at hb3'
        refine hc_exit ?_
        refine then_exit ?_
        refine then_exit ?_
        refine inb_hit ?_
        refine then_n ?_
        refine hc_seq ?_
        refine hc_region ?_
        refine hl_call F.law04_indexed_cb rfl rfl (law04_indexed_meets) (List.Perm.refl _) trivial fun _ _ => ?_
        refine r_assign rfl rfl ?_
        refine hl_nil ?_
        refine then_n ?_
        refine hc_ret ?_
        exact ret1 () rfl rfl rfl trivial (List.nil_sublist _) trivial
     ·intro hg4; have hg4' := hg4; try simp at hg4'
      have g8_3 : ¬ (j : Int) < 3 := of_decide_eq_false (bf2 hg4)
      refine g_no rfl rfl rfl rfl rfl hg4 ?_
      refine g_no rfl rfl rfl rfl rfl hg4 ?_
      refine p_f rfl rfl (bf2 hg4) rfl ?_
      refine hl_nil ?_
      refine then_n ?_
      refine c_f rfl rfl ?_
      refine hc_exit ?_
      refine then_exit ?_
      refine then_exit ?_
      refine inb_hit ?_
      refine then_n ?_
      refine hc_seq ?_
      refine hc_seq ?_
      refine hc_letgo (rows ws) ⟨[], List.append_nil _⟩ ?_
      refine hc_region ?_
      refine r_assign rfl rfl ?_
      refine hl_nil ?_
      refine then_n ?_
      refine hc_block ?_
      refine hc_loop (β := Nat) ⟨fun i => i ≤ 4, fun i => [(12, .slice (some ⟨gl, 0, none⟩) 4 4), (14, .slice (some ⟨gS, 0, none⟩) 4 4), (15, .slice (some ⟨gS2, 0, none⟩) 4 4), (18, int i)], fun _ => [], fun _ => [Row (some ⟨gl, 0, none⟩) (rows dl), RowsF (some ⟨gl, 0, none⟩) dl Td.row, Row (some ⟨gS, 0, none⟩) (rows la), Row (some ⟨gS2, 0, none⟩) (rows ws)]⟩ (fun i => 4 - i) 0 (Nat.zero_le _) ⟨rfl, rfl, rfl, rfl, trivial⟩ (List.nil_sublist _) ⟨(by repeat constructor), (by repeat constructor), (by repeat constructor), (by repeat constructor), trivial⟩ fun i hi => ?_
      simp only at hi
      refine hc_seq ?_
      refine hc_seq ?_
      refine hc_region ?_
      refine r_move rfl rfl ?_
      refine r_move rfl rfl ?_
      refine r_len_sl rfl T.u_L_api_Trades rfl ?_
      refine r_lss rfl rfl rfl ?_
      refine hl_nil ?_
      refine then_n ?_
      refine c_dec rfl (fun hb3 => ?_) (fun hb3 => ?_)
      ·have hb3' := hb3; try simp at hb3'
       have hi2 : i < 4 := by omega
       obtain ⟨d, hdd⟩ : ∃ d, d = dl.getD i default := ⟨_, rfl⟩
       have hdm : d ∈ dl := by rw [hdd]; exact getD_mem (by omega)
       have hdo := hdal d hdm
       have hd20 := hdo.c
       have hdh20 := hdo.h
       have hdha := hdo.ha
       refine hc_innerF (p := d) (f := Td.row) (ps := dl) (by repeat constructor) hdm ?_
       refine hc_pick (F := Row d.1.a (rows d.1.l)) (Fs := [Row d.1.a (rows d.1.l), RowsF d.2.a d.2.l Hd.row]) (by repeat constructor) (by simp) ?_
       refine hc_pick (F := RowsF d.2.a d.2.l Hd.row) (Fs := [Row d.1.a (rows d.1.l), RowsF d.2.a d.2.l Hd.row]) (by repeat constructor) (by simp) ?_
       refine hc_skip ?_
       refine then_n ?_
       refine hc_seq ?_
       refine hc_block ?_
       refine hc_seq ?_
       refine hc_region ?_
       refine r_move rfl rfl ?_
       refine r_move rfl rfl ?_
       refine r_elem (α := Td) dl i rfl T.u_L_api_Trades T.sz_api_Trades rfl rfl rfl (by repeat constructor) hdl4.symm (by omega) (by decide) ?_
       refine r_loadS (cs := El.cells d) rfl T.row_api_Trades T.sz_api_Trades rfl rfl (cells_row (by repeat constructor) (by rw [hdd]; exact rows_all (by omega))) ?_
       refine hl_call F.kit_DupTrades_cb rfl rfl (kit_DupTrades_any (A := d.1.a) (B := d.2.a) (ca := d.1.c) (cb := d.2.c) d.1.l d.2.l (by omega) (by omega) hdo.a hdo.b hdha) (hpR := []) (List.Perm.refl _) ⟨(by repeat constructor), (by repeat constructor), trivial⟩ fun x hD => ?_
       obtain ⟨⟨⟨a3, c3⟩, o3⟩, hs2, ⟨⟨a7, c7⟩, o7⟩⟩ := x
       have hp2 : hs2.map Hd.p = d.2.l.map Hd.p := hD.p
       have hDa : GrowE T.api_Class 2 a3 d.1.l.length c3 (rows d.1.l) o3 := hD.a
       have hDb : GrowE T.api_Head 4 a7 hs2.length c7 (rows hs2) o7 := hD.b
       have hl2 := p_len hp2
       have hc3 := hDa.le
       have hc7 := hDb.le
       clear hD
       refine hl_perm (show List.Perm ((o7 ++ o3) ++ []) (o3 ++ (o7 ++ [])) from (perm_of fun p => by simp only [List.countP_append, List.countP_cons, List.countP_nil]; omega)) ?_
       refine hl_grownE hDa ?_
       refine hl_grownE hDb ?_
       have hTs := tr_same (cs := d.1.l) hp2
       have ha2 := ha_same hp2 hdha
       have hwh2 := wh_same hp2 hdo.wh
       refine r_alloc rfl (fun _ => T.al_api_Trades _) fun gO => ?_
       refine r_storeS (cs := #[.slice a3 d.1.l.length c3, .slice a7 hs2.length c7]) rfl rfl (.refl _) T.sz_api_Trades (by rfl) (by rfl) ?_
       refine hl_nil ?_
       refine then_n ?_
       refine hc_seq ?_
       refine hc_letgoB ?_
       refine hc_rowsF (A := a7) (ps := hs2) (f := Hd.row) (by repeat constructor) (by repeat constructor) ?_
       have hP := trade_May_meets (A := a3) (B := a7) (ca := c3) (cb := c7) d.1.l hs2 (ws.getD i default) hc3 hc7 ha2
       have hL := trade_Means_meets (A := a3) (B := a7) (ca := c3) (cb := c7) d.1.l hs2 (ws.getD i default) (la.getD i default) hc3 hc7 ha2
       have hC := trade_Short_meets (A := a3) (B := a7) (ca := c3) (cb := c7) d.1.l hs2 (la.getD i default) hc3 hc7 ha2
       rw [hTs] at hP hL hC
       have hpl := mayE_len (trOf d.1.l d.2.l) (ws.getD i default)
       refine hc_draw 10 mixed (by decide) (by decide) rfl rfl ?_
       apply hb_ex _ rfl rfl rfl
       ·intro w1
        refine r_loadB rfl T.row_api_Trades T.sz_api_Trades rfl (by repeat constructor) (by rfl) ?_
        refine hl_nil ?_
        exact qe_done rfl
       apply hb_ex _ rfl rfl rfl
       ·intro w1
        refine r_move rfl rfl ?_
        refine hl_nil ?_
        exact qe_done rfl
       apply hb_ex _ rfl rfl rfl
       ·intro w1
        refine r_move rfl rfl ?_
        refine hl_nil ?_
        exact qe_done rfl
       apply hb_ex _ rfl rfl rfl
       ·intro w1
        refine r_elem (α := Str) ws i rfl T.u_strs T.sz_string rfl rfl rfl (by repeat constructor) hws4.symm (by omega) (by decide) ?_
        refine hl_nil ?_
        exact qe_done rfl
       apply hb_ex _ rfl rfl rfl
       ·intro w1
        refine r_load (v := str (ws.getD i default)) rfl T.cell_string rfl (cell_row (by repeat constructor) (rows_get0 (by omega) rfl)) ?_
        refine hl_nil ?_
        exact qe_done rfl
       refine hb_vs ⟨OutC, fun y => (mayE (trOf d.1.l d.2.l) (ws.getD i default)).1.length ≤ y.2, fun y => .tuple #[.slice y.1 (mayE (trOf d.1.l d.2.l) (ws.getD i default)).1.length y.2, int (mayE (trOf d.1.l d.2.l) (ws.getD i default)).2], fun y => [Row y.1 (rows (mayE (trOf d.1.l d.2.l) (ws.getD i default)).1)]⟩ rfl rfl rfl ?_ ?_
       ·intro w1
        refine hl_call F.trade_May_cb rfl rfl (hP) (List.Perm.refl _) ⟨(by repeat constructor), (by repeat constructor), trivial⟩ fun y hy => ?_
        refine hl_nil ?_
        exact qv_done y hy rfl ⟨m0, trivial⟩
       refine hb_vs ⟨OutC, fun y => (mayE (trOf d.1.l d.2.l) (ws.getD i default)).1.length ≤ y.2, fun y => .tuple #[.slice y.1 (mayE (trOf d.1.l d.2.l) (ws.getD i default)).1.length y.2, int (mayE (trOf d.1.l d.2.l) (ws.getD i default)).2], fun y => [Row y.1 (rows (mayE (trOf d.1.l d.2.l) (ws.getD i default)).1)]⟩ rfl rfl rfl ?_ ?_
       ·intro y hy; intro w1
        refine r_move rfl rfl ?_
        refine hl_nil ?_
        exact qv_done y hy rfl ⟨m0, trivial⟩
       refine hb_vs ⟨OutC, fun y => (mayE (trOf d.1.l d.2.l) (ws.getD i default)).1.length ≤ y.2, fun y => .slice y.1 (mayE (trOf d.1.l d.2.l) (ws.getD i default)).1.length y.2, fun y => [Row y.1 (rows (mayE (trOf d.1.l d.2.l) (ws.getD i default)).1)]⟩ rfl rfl rfl ?_ ?_
       ·intro y hy; intro w1
        refine r_extract rfl rfl rfl ?_
        refine hl_nil ?_
        exact qv_done y hy rfl ⟨m0, trivial⟩
       apply hb_ex _ rfl rfl rfl
       ·intro y hy; intro w1
        refine r_extract rfl rfl rfl ?_
        refine hl_nil ?_
        exact qe_done rfl
       refine hb_vs ⟨OutC, fun y => (mayE (trOf d.1.l d.2.l) (ws.getD i default)).1.length ≤ y.2, fun y => .slice y.1 (mayE (trOf d.1.l d.2.l) (ws.getD i default)).1.length y.2, fun y => [Row y.1 (rows (mayE (trOf d.1.l d.2.l) (ws.getD i default)).1)]⟩ rfl rfl rfl ?_ ?_
       ·intro y hy; intro w1
        refine r_assign rfl rfl ?_
        refine hl_nil ?_
        exact qv_done y hy rfl ⟨m0, trivial⟩
       refine hb_nil ⟨rfl, ?_⟩
       intro _ _ _ _ _ _ p hp
       refine r_assign rfl rfl ?_
       refine hl_nil ?_
       refine then_n ?_
       refine hc_seq ?_
       refine hc_draw 13 mixed (by decide) (by decide) rfl rfl ?_
       apply hb_ex _ rfl rfl rfl
       ·intro w1
        refine r_move rfl rfl ?_
        refine hl_nil ?_
        exact qe_done rfl
       apply hb_ex _ rfl rfl rfl
       ·intro w1
        refine r_move rfl rfl ?_
        refine hl_nil ?_
        exact qe_done rfl
       apply hb_ex _ rfl rfl rfl
       ·intro w1
        refine r_elem (α := Td) dl i rfl T.u_L_api_Trades T.sz_api_Trades rfl rfl rfl (by repeat constructor) hdl4.symm (by omega) (by decide) ?_
        refine hl_nil ?_
        exact qe_done rfl
       apply hb_ex _ rfl rfl rfl
       ·intro w1
        refine r_loadS (cs := El.cells d) rfl T.row_api_Trades T.sz_api_Trades rfl rfl (cells_row (by repeat constructor) (by rw [hdd]; exact rows_all (by omega))) ?_
        refine hl_nil ?_
        exact qe_done rfl
       apply hb_ex _ rfl rfl rfl
       ·intro w1
        refine r_move rfl rfl ?_
        refine hl_nil ?_
        exact qe_done rfl
       apply hb_ex _ rfl rfl rfl
       ·intro w1
        refine r_move rfl rfl ?_
        refine hl_nil ?_
        exact qe_done rfl
       apply hb_ex _ rfl rfl rfl
       ·intro w1
        refine r_elem (α := Str) ws i rfl T.u_strs T.sz_string rfl rfl rfl (by repeat constructor) hws4.symm (by omega) (by decide) ?_
        refine hl_nil ?_
        exact qe_done rfl
       apply hb_ex _ rfl rfl rfl
       ·intro w1
        refine r_load (v := str (ws.getD i default)) rfl T.cell_string rfl (cell_row (by repeat constructor) (rows_get0 (by omega) rfl)) ?_
        refine hl_nil ?_
        exact qe_done rfl
       refine hb_vs ⟨OutC, fun y => (mayE (trOf d.1.l d.2.l) (ws.getD i default)).1.length ≤ y.2, fun y => .tuple #[.slice y.1 (mayE (trOf d.1.l d.2.l) (ws.getD i default)).1.length y.2, int (mayE (trOf d.1.l d.2.l) (ws.getD i default)).2], fun y => [Row y.1 (rows (mayE (trOf d.1.l d.2.l) (ws.getD i default)).1)]⟩ rfl rfl rfl ?_ ?_
       ·intro w1
        refine hl_call F.ref04_May_cb rfl rfl (ref04_May_meets (A := d.1.a) (B := d.2.a) (ca := d.1.c) (cb := d.2.c) d.1.l d.2.l (ws.getD i default) (by omega) (by omega) hdo.wc hdo.wh hdha) (List.Perm.refl _) ⟨(by repeat constructor), (by repeat constructor), trivial⟩ fun y hy => ?_
        refine hl_nil ?_
        exact qv_done y hy rfl ⟨m0, trivial⟩
       refine hb_vs ⟨OutC, fun y => (mayE (trOf d.1.l d.2.l) (ws.getD i default)).1.length ≤ y.2, fun y => .tuple #[.slice y.1 (mayE (trOf d.1.l d.2.l) (ws.getD i default)).1.length y.2, int (mayE (trOf d.1.l d.2.l) (ws.getD i default)).2], fun y => [Row y.1 (rows (mayE (trOf d.1.l d.2.l) (ws.getD i default)).1)]⟩ rfl rfl rfl ?_ ?_
       ·intro y hy; intro w1
        refine r_move rfl rfl ?_
        refine hl_nil ?_
        exact qv_done y hy rfl ⟨m0, trivial⟩
       refine hb_vs ⟨OutC, fun y => (mayE (trOf d.1.l d.2.l) (ws.getD i default)).1.length ≤ y.2, fun y => .slice y.1 (mayE (trOf d.1.l d.2.l) (ws.getD i default)).1.length y.2, fun y => [Row y.1 (rows (mayE (trOf d.1.l d.2.l) (ws.getD i default)).1)]⟩ rfl rfl rfl ?_ ?_
       ·intro y hy; intro w1
        refine r_extract rfl rfl rfl ?_
        refine hl_nil ?_
        exact qv_done y hy rfl ⟨m0, trivial⟩
       apply hb_ex _ rfl rfl rfl
       ·intro y hy; intro w1
        refine r_extract rfl rfl rfl ?_
        refine hl_nil ?_
        exact qe_done rfl
       refine hb_vs ⟨OutC, fun y => (mayE (trOf d.1.l d.2.l) (ws.getD i default)).1.length ≤ y.2, fun y => .slice y.1 (mayE (trOf d.1.l d.2.l) (ws.getD i default)).1.length y.2, fun y => [Row y.1 (rows (mayE (trOf d.1.l d.2.l) (ws.getD i default)).1)]⟩ rfl rfl rfl ?_ ?_
       ·intro y hy; intro w1
        refine r_assign rfl rfl ?_
        refine hl_nil ?_
        exact qv_done y hy rfl ⟨m0, trivial⟩
       refine hb_nil ⟨rfl, ?_⟩
       intro _ _ _ _ _ _ q hq
       refine r_assign rfl rfl ?_
       refine hl_nil ?_
       refine then_n ?_
       refine hc_seq ?_
       refine hc_draw 14 mixed (by decide) (by decide) rfl rfl ?_
       apply hb_ex _ rfl rfl rfl
       ·intro w1
        refine r_loadB rfl T.row_api_Trades T.sz_api_Trades rfl (by repeat constructor) (by rfl) ?_
        refine hl_nil ?_
        exact qe_done rfl
       apply hb_ex _ rfl rfl rfl
       ·intro w1
        refine r_move rfl rfl ?_
        refine hl_nil ?_
        exact qe_done rfl
       apply hb_ex _ rfl rfl rfl
       ·intro w1
        refine r_move rfl rfl ?_
        refine hl_nil ?_
        exact qe_done rfl
       apply hb_ex _ rfl rfl rfl
       ·intro w1
        refine r_elem (α := Str) ws i rfl T.u_strs T.sz_string rfl rfl rfl (by repeat constructor) hws4.symm (by omega) (by decide) ?_
        refine hl_nil ?_
        exact qe_done rfl
       apply hb_ex _ rfl rfl rfl
       ·intro w1
        refine r_load (v := str (ws.getD i default)) rfl T.cell_string rfl (cell_row (by repeat constructor) (rows_get0 (by omega) rfl)) ?_
        refine hl_nil ?_
        exact qe_done rfl
       apply hb_ex _ rfl rfl rfl
       ·intro w1
        refine r_move rfl rfl ?_
        refine hl_nil ?_
        exact qe_done rfl
       apply hb_ex _ rfl rfl rfl
       ·intro w1
        refine r_move rfl rfl ?_
        refine hl_nil ?_
        exact qe_done rfl
       apply hb_ex _ rfl rfl rfl
       ·intro w1
        refine r_elem (α := Int) la i rfl T.u_ints T.sz_int rfl rfl rfl (by repeat constructor) hla4.symm (by omega) (by decide) ?_
        refine hl_nil ?_
        exact qe_done rfl
       apply hb_ex _ rfl rfl rfl
       ·intro w1
        refine r_load (v := int (la.getD i default)) rfl T.cell_int rfl (cell_row (by repeat constructor) (rows_get0 (by omega) rfl)) ?_
        refine hl_nil ?_
        exact qe_done rfl
       apply hb_ex _ rfl rfl rfl
       ·intro w1
        refine hl_call F.trade_Means_cb rfl rfl (hL) (List.Perm.refl _) ⟨(by repeat constructor), (by repeat constructor), trivial⟩ fun _ _ => ?_
        refine hl_nil ?_
        exact qe_done rfl
       apply hb_ex _ rfl rfl rfl
       ·intro w1
        refine r_move rfl rfl ?_
        refine hl_nil ?_
        exact qe_done rfl
       apply hb_ex _ rfl rfl rfl
       ·intro w1
        refine r_extract rfl rfl rfl ?_
        refine hl_nil ?_
        exact qe_done rfl
       apply hb_ex _ rfl rfl rfl
       ·intro w1
        refine r_extract rfl rfl rfl ?_
        refine hl_nil ?_
        exact qe_done rfl
       apply hb_ex _ rfl rfl rfl
       ·intro w1
        refine r_assign rfl rfl ?_
        refine hl_nil ?_
        exact qe_done rfl
       refine hb_nil ⟨rfl, ?_⟩
       refine r_assign rfl rfl ?_
       refine hl_nil ?_
       refine then_n ?_
       refine hc_seq ?_
       refine hc_draw 17 mixed (by decide) (by decide) rfl rfl ?_
       apply hb_ex _ rfl rfl rfl
       ·intro w1
        refine r_move rfl rfl ?_
        refine hl_nil ?_
        exact qe_done rfl
       apply hb_ex _ rfl rfl rfl
       ·intro w1
        refine r_move rfl rfl ?_
        refine hl_nil ?_
        exact qe_done rfl
       apply hb_ex _ rfl rfl rfl
       ·intro w1
        refine r_elem (α := Td) dl i rfl T.u_L_api_Trades T.sz_api_Trades rfl rfl rfl (by repeat constructor) hdl4.symm (by omega) (by decide) ?_
        refine hl_nil ?_
        exact qe_done rfl
       apply hb_ex _ rfl rfl rfl
       ·intro w1
        refine r_loadS (cs := El.cells d) rfl T.row_api_Trades T.sz_api_Trades rfl rfl (cells_row (by repeat constructor) (by rw [hdd]; exact rows_all (by omega))) ?_
        refine hl_nil ?_
        exact qe_done rfl
       apply hb_ex _ rfl rfl rfl
       ·intro w1
        refine r_move rfl rfl ?_
        refine hl_nil ?_
        exact qe_done rfl
       apply hb_ex _ rfl rfl rfl
       ·intro w1
        refine r_move rfl rfl ?_
        refine hl_nil ?_
        exact qe_done rfl
       apply hb_ex _ rfl rfl rfl
       ·intro w1
        refine r_elem (α := Str) ws i rfl T.u_strs T.sz_string rfl rfl rfl (by repeat constructor) hws4.symm (by omega) (by decide) ?_
        refine hl_nil ?_
        exact qe_done rfl
       apply hb_ex _ rfl rfl rfl
       ·intro w1
        refine r_load (v := str (ws.getD i default)) rfl T.cell_string rfl (cell_row (by repeat constructor) (rows_get0 (by omega) rfl)) ?_
        refine hl_nil ?_
        exact qe_done rfl
       apply hb_ex _ rfl rfl rfl
       ·intro w1
        refine r_move rfl rfl ?_
        refine hl_nil ?_
        exact qe_done rfl
       apply hb_ex _ rfl rfl rfl
       ·intro w1
        refine r_move rfl rfl ?_
        refine hl_nil ?_
        exact qe_done rfl
       apply hb_ex _ rfl rfl rfl
       ·intro w1
        refine r_elem (α := Int) la i rfl T.u_ints T.sz_int rfl rfl rfl (by repeat constructor) hla4.symm (by omega) (by decide) ?_
        refine hl_nil ?_
        exact qe_done rfl
       apply hb_ex _ rfl rfl rfl
       ·intro w1
        refine r_load (v := int (la.getD i default)) rfl T.cell_int rfl (cell_row (by repeat constructor) (rows_get0 (by omega) rfl)) ?_
        refine hl_nil ?_
        exact qe_done rfl
       apply hb_ex _ rfl rfl rfl
       ·intro w1
        refine hl_call F.ref04_Means_cb rfl rfl (ref04_Means_meets (A := d.1.a) (B := d.2.a) (ca := d.1.c) (cb := d.2.c) d.1.l d.2.l (ws.getD i default) (la.getD i default) (by omega) (by omega) hdo.wc hdo.wh hdha) (List.Perm.refl _) ⟨(by repeat constructor), (by repeat constructor), trivial⟩ fun _ _ => ?_
        refine hl_nil ?_
        exact qe_done rfl
       apply hb_ex _ rfl rfl rfl
       ·intro w1
        refine r_move rfl rfl ?_
        refine hl_nil ?_
        exact qe_done rfl
       apply hb_ex _ rfl rfl rfl
       ·intro w1
        refine r_extract rfl rfl rfl ?_
        refine hl_nil ?_
        exact qe_done rfl
       apply hb_ex _ rfl rfl rfl
       ·intro w1
        refine r_extract rfl rfl rfl ?_
        refine hl_nil ?_
        exact qe_done rfl
       apply hb_ex _ rfl rfl rfl
       ·intro w1
        refine r_assign rfl rfl ?_
        refine hl_nil ?_
        exact qe_done rfl
       refine hb_nil ⟨rfl, ?_⟩
       refine r_assign rfl rfl ?_
       refine hl_nil ?_
       refine then_n ?_
       refine hc_seq ?_
       refine hc_seq ?_
       refine hc_region ?_
       refine r_move rfl rfl ?_
       refine r_move rfl rfl ?_
       refine r_neq rfl rfl rfl ?_
       refine r_move rfl rfl ?_
       refine g_split rfl rfl ?_ ?_
       ·intro hg10; have hg10' := hg10; try simp at hg10'
        refine g_yes rfl rfl hg10 ?_
        refine r_move rfl rfl ?_
        refine g_yes rfl rfl hg10 ?_
        refine r_move rfl rfl ?_
        refine g_yes rfl rfl hg10 ?_
        refine r_neq rfl rfl rfl ?_
        refine p_f rfl rfl (bf1 hg10) rfl ?_
        refine r_move rfl rfl ?_
        refine g_split rfl rfl ?_ ?_
        ·intro hg11; have hg11' := hg11; try simp at hg11'
         refine g_yes rfl rfl hg11 ?_
         refine r_move rfl rfl ?_
         refine g_yes rfl rfl hg11 ?_
         refine r_move rfl rfl ?_
         refine g_yes rfl rfl hg11 ?_
         refine r_neq rfl rfl rfl ?_
         refine p_f rfl rfl (bf1 hg11) rfl ?_
         refine r_move rfl rfl ?_
         refine g_split rfl rfl ?_ ?_
         ·intro hg12; have hg12' := hg12; try simp at hg12'
          refine g_yes rfl rfl hg12 ?_
          refine r_move rfl rfl ?_
          refine g_yes rfl rfl hg12 ?_
          refine r_move rfl rfl ?_
          refine g_yes rfl rfl hg12 ?_
          refine hl_call F.kit_EqInts_cb rfl rfl (kit_EqInts_meets (mayE (trOf d.1.l d.2.l) (ws.getD i default)).1 (mayE (trOf d.1.l d.2.l) (ws.getD i default)).1 (by omega)) (List.Perm.refl _) ⟨(by repeat constructor), (by repeat constructor), trivial⟩ fun _ _ => ?_
          refine g_yes rfl rfl hg12 ?_
          refine r_not rfl rfl ?_
          refine p_f rfl rfl (bf1 hg12) rfl ?_
          refine hl_nil ?_
          refine then_n ?_
          refine hc_cond rfl (fun hb4 => ?_) (fun hb4 => ?_)
          ·have hb4' := hb4; try simp at hb4'
          ·have hb4' := hb4; try simp at hb4'
           refine hc_skip ?_
           refine then_n ?_
           refine hc_seq ?_
           refine hc_draw 10 mixed (by decide) (by decide) rfl rfl ?_
           apply hb_ex _ rfl rfl rfl
           ·intro w1
            refine r_loadB rfl T.row_api_Trades T.sz_api_Trades rfl (by repeat constructor) (by rfl) ?_
            refine hl_nil ?_
            exact qe_done rfl
           apply hb_ex _ rfl rfl rfl
           ·intro w1
            refine r_move rfl rfl ?_
            refine hl_nil ?_
            exact qe_done rfl
           apply hb_ex _ rfl rfl rfl
           ·intro w1
            refine r_move rfl rfl ?_
            refine hl_nil ?_
            exact qe_done rfl
           apply hb_ex _ rfl rfl rfl
           ·intro w1
            refine r_elem (α := Int) la i rfl T.u_ints T.sz_int rfl rfl rfl (by repeat constructor) hla4.symm (by omega) (by decide) ?_
            refine hl_nil ?_
            exact qe_done rfl
           apply hb_ex _ rfl rfl rfl
           ·intro w1
            refine r_load (v := int (la.getD i default)) rfl T.cell_int rfl (cell_row (by repeat constructor) (rows_get0 (by omega) rfl)) ?_
            refine hl_nil ?_
            exact qe_done rfl
           apply hb_ex _ rfl rfl rfl
           ·intro w1
            refine hl_call F.trade_Short_cb rfl rfl (hC) (List.Perm.refl _) ⟨(by repeat constructor), (by repeat constructor), trivial⟩ fun _ _ => ?_
            refine hl_nil ?_
            exact qe_done rfl
           apply hb_ex _ rfl rfl rfl
           ·intro w1
            refine r_move rfl rfl ?_
            refine hl_nil ?_
            exact qe_done rfl
           apply hb_ex _ rfl rfl rfl
           ·intro w1
            refine r_extract rfl rfl rfl ?_
            refine hl_nil ?_
            exact qe_done rfl
           apply hb_ex _ rfl rfl rfl
           ·intro w1
            refine r_extract rfl rfl rfl ?_
            refine hl_nil ?_
            exact qe_done rfl
           apply hb_ex _ rfl rfl rfl
           ·intro w1
            refine r_assign rfl rfl ?_
            refine hl_nil ?_
            exact qe_done rfl
           refine hb_nil ⟨rfl, ?_⟩
           refine r_assign rfl rfl ?_
           refine hl_nil ?_
           refine then_n ?_
           refine hc_seq ?_
           refine hc_draw 13 mixed (by decide) (by decide) rfl rfl ?_
           apply hb_ex _ rfl rfl rfl
           ·intro w1
            refine r_move rfl rfl ?_
            refine hl_nil ?_
            exact qe_done rfl
           apply hb_ex _ rfl rfl rfl
           ·intro w1
            refine r_move rfl rfl ?_
            refine hl_nil ?_
            exact qe_done rfl
           apply hb_ex _ rfl rfl rfl
           ·intro w1
            refine r_elem (α := Td) dl i rfl T.u_L_api_Trades T.sz_api_Trades rfl rfl rfl (by repeat constructor) hdl4.symm (by omega) (by decide) ?_
            refine hl_nil ?_
            exact qe_done rfl
           apply hb_ex _ rfl rfl rfl
           ·intro w1
            refine r_loadS (cs := El.cells d) rfl T.row_api_Trades T.sz_api_Trades rfl rfl (cells_row (by repeat constructor) (by rw [hdd]; exact rows_all (by omega))) ?_
            refine hl_nil ?_
            exact qe_done rfl
           apply hb_ex _ rfl rfl rfl
           ·intro w1
            refine r_move rfl rfl ?_
            refine hl_nil ?_
            exact qe_done rfl
           apply hb_ex _ rfl rfl rfl
           ·intro w1
            refine r_move rfl rfl ?_
            refine hl_nil ?_
            exact qe_done rfl
           apply hb_ex _ rfl rfl rfl
           ·intro w1
            refine r_elem (α := Int) la i rfl T.u_ints T.sz_int rfl rfl rfl (by repeat constructor) hla4.symm (by omega) (by decide) ?_
            refine hl_nil ?_
            exact qe_done rfl
           apply hb_ex _ rfl rfl rfl
           ·intro w1
            refine r_load (v := int (la.getD i default)) rfl T.cell_int rfl (cell_row (by repeat constructor) (rows_get0 (by omega) rfl)) ?_
            refine hl_nil ?_
            exact qe_done rfl
           apply hb_ex _ rfl rfl rfl
           ·intro w1
            refine hl_call F.ref04_Short_cb rfl rfl (ref04_Short_meets (A := d.1.a) (B := d.2.a) (ca := d.1.c) (cb := d.2.c) d.1.l d.2.l (la.getD i default) (by omega) (by omega) hdo.wc hdo.wh hdha) (List.Perm.refl _) ⟨(by repeat constructor), (by repeat constructor), trivial⟩ fun _ _ => ?_
            refine hl_nil ?_
            exact qe_done rfl
           apply hb_ex _ rfl rfl rfl
           ·intro w1
            refine r_move rfl rfl ?_
            refine hl_nil ?_
            exact qe_done rfl
           apply hb_ex _ rfl rfl rfl
           ·intro w1
            refine r_extract rfl rfl rfl ?_
            refine hl_nil ?_
            exact qe_done rfl
           apply hb_ex _ rfl rfl rfl
           ·intro w1
            refine r_extract rfl rfl rfl ?_
            refine hl_nil ?_
            exact qe_done rfl
           apply hb_ex _ rfl rfl rfl
           ·intro w1
            refine r_assign rfl rfl ?_
            refine hl_nil ?_
            exact qe_done rfl
           refine hb_nil ⟨rfl, ?_⟩
           refine r_assign rfl rfl ?_
           refine hl_nil ?_
           refine then_n ?_
           refine hc_seq ?_
           refine hc_draw 14 mixed (by decide) (by decide) rfl rfl ?_
           apply hb_ex _ rfl rfl rfl
           ·intro w1
            refine r_move rfl rfl ?_
            refine hl_nil ?_
            exact qe_done rfl
           apply hb_ex _ rfl rfl rfl
           ·intro w1
            refine r_move rfl rfl ?_
            refine hl_nil ?_
            exact qe_done rfl
           apply hb_ex _ rfl rfl rfl
           ·intro w1
            refine r_sneq rfl rfl rfl ?_
            refine hl_nil ?_
            exact qe_done rfl
           apply hb_ex _ rfl rfl rfl
           ·intro w1
            refine r_move rfl rfl ?_
            refine hl_nil ?_
            exact qe_done rfl
           refine hb_split (t := 206) (want := false) rfl ?_ ?_
           ·intro hg13; have hg13' := hg13; try simp at hg13'
            apply hb_ex _ rfl rfl rfl
            ·intro w1
             refine g_yes rfl rfl hg13 ?_
             refine r_move rfl rfl ?_
             refine hl_nil ?_
             exact qe_done rfl
            apply hb_ex _ rfl rfl rfl
            ·intro w1
             refine g_yes rfl rfl hg13 ?_
             refine r_move rfl rfl ?_
             refine hl_nil ?_
             exact qe_done rfl
            apply hb_ex _ rfl rfl rfl
            ·intro w1
             refine g_yes rfl rfl hg13 ?_
             refine r_neq rfl rfl rfl ?_
             refine hl_nil ?_
             exact qe_done rfl
            apply hb_ex _ rfl rfl rfl
            ·intro w1
             refine p_f rfl rfl (bf1 hg13) rfl ?_
             refine hl_nil ?_
             exact qe_done rfl
            apply hb_ex _ rfl rfl rfl
            ·intro w1
             refine r_move rfl rfl ?_
             refine hl_nil ?_
             exact qe_done rfl
            refine hb_split (t := 211) (want := false) rfl ?_ ?_
            ·intro hg14; have hg14' := hg14; try simp at hg14'
             apply hb_ex _ rfl rfl rfl
             ·intro w1
              refine g_yes rfl rfl hg14 ?_
              refine r_loadB rfl T.row_api_Trades T.sz_api_Trades rfl (by repeat constructor) (by rfl) ?_
              refine hl_nil ?_
              exact qe_done rfl
             apply hb_ex _ rfl rfl rfl
             ·intro w1
              refine g_yes rfl rfl hg14 ?_
              refine r_move rfl rfl ?_
              refine hl_nil ?_
              exact qe_done rfl
             apply hb_ex _ rfl rfl rfl
             ·intro w1
              refine g_yes rfl rfl hg14 ?_
              refine r_move rfl rfl ?_
              refine hl_nil ?_
              exact qe_done rfl
             apply hb_ex _ rfl rfl rfl
             ·intro w1
              refine g_yes rfl rfl hg14 ?_
              refine r_elem (α := Td) dl i rfl T.u_L_api_Trades T.sz_api_Trades rfl rfl rfl (by repeat constructor) hdl4.symm (by omega) (by decide) ?_
              refine hl_nil ?_
              exact qe_done rfl
             apply hb_ex _ rfl rfl rfl
             ·intro w1
              refine g_yes rfl rfl hg14 ?_
              refine r_loadS (cs := El.cells d) rfl T.row_api_Trades T.sz_api_Trades rfl rfl (cells_row (by repeat constructor) (by rw [hdd]; exact rows_all (by omega))) ?_
              refine hl_nil ?_
              exact qe_done rfl
             refine hb_nil ⟨rfl, ?_⟩
             refine g_yes rfl rfl hg14 ?_
             refine hl_call F.kit_EqTrades_cb rfl rfl (kit_EqTrades_meets (A := a3) (B := a7) (A2 := d.1.a) (B2 := d.2.a) (ca := c3) (cb := c7) (ca2 := d.1.c) (cb2 := d.2.c) d.1.l hs2 d.2.l hp2.symm (by omega) (by omega) ha2) (List.Perm.refl _) ⟨(by repeat constructor), (by repeat constructor), (by repeat constructor), (by repeat constructor), trivial⟩ fun _ _ => ?_
             refine g_yes rfl rfl hg14 ?_
             refine r_not rfl rfl ?_
             refine p_f rfl rfl (bf1 hg14) rfl ?_
             refine hl_nil ?_
             refine then_n ?_
             refine hc_cond rfl (fun hb5 => ?_) (fun hb5 => ?_)
             ·have hb5' := hb5; try simp at hb5'
             ·have hb5' := hb5; try simp at hb5'
              refine hc_skip ?_
              refine inb_n ?_
              refine then_n ?_
              refine hc_region ?_
              refine r_move rfl rfl ?_
              refine r_add _ rfl rfl rfl rfl (by unfold I64; omega) ?_
              refine r_assign rfl rfl ?_
              refine hl_nil ?_
              exact again _ (i + 1) (by show i + 1 ≤ 4; omega) (by show 4 - (i + 1) < 4 - i; omega) ⟨rfl, rfl, rfl, rfl, trivial⟩ (List.nil_sublist _) ⟨(by repeat constructor), (by repeat constructor), (by repeat constructor), (by repeat constructor), trivial⟩
            ·intro hg14; have hg14' := hg14; try simp at hg14'
           ·intro hg13; have hg13' := hg13; try simp at hg13'
         ·intro hg12; have hg12' := hg12; try simp at hg12'
        ·intro hg11; have hg11' := hg11; try simp at hg11'
       ·intro hg10; have hg10' := hg10; try simp at hg10'
      ·have hb3' := hb3; try simp at hb3'
       refine hc_exit ?_
       refine then_exit ?_
       refine then_exit ?_
       refine inb_hit ?_
       refine then_n ?_
       refine hc_seq ?_
       refine hc_region ?_
       refine hl_call F.law04_indexed_cb rfl rfl (law04_indexed_meets) (List.Perm.refl _) trivial fun _ _ => ?_
       refine r_assign rfl rfl ?_
       refine hl_nil ?_
       refine then_n ?_
       refine hc_ret ?_
       exact ret1 () rfl rfl rfl trivial (List.nil_sublist _) trivial
   ·intro hg3; have hg3' := hg3; try simp at hg3'
    refine g_no rfl rfl rfl rfl rfl hg3 ?_
    refine g_no rfl rfl rfl rfl rfl hg3 ?_
    refine g_no rfl rfl rfl rfl rfl hg3 ?_
    refine p_t rfl rfl (bt2 hg3) rfl ?_
    refine hl_nil ?_
    refine then_n ?_
    refine c_t rfl rfl ?_
    refine hc_seq ?_
    refine hc_region ?_
    refine hl_call F.law04_indexed_cb rfl rfl (law04_indexed_meets) (List.Perm.refl _) trivial fun _ _ => ?_
    refine r_assign rfl rfl ?_
    refine hl_nil ?_
    refine then_n ?_
    refine hc_ret ?_
    refine then_ret ?_
    exact ret1 () rfl rfl rfl trivial (List.nil_sublist _) trivial
  ·intro hg2; have hg2' := hg2; try simp at hg2'
   refine g_no rfl rfl rfl rfl rfl hg2 ?_
   refine g_no rfl rfl rfl rfl rfl hg2 ?_
   refine g_no rfl rfl rfl rfl rfl hg2 ?_
   refine g_no rfl rfl rfl rfl rfl hg2 ?_
   refine p_t rfl rfl (bt2 hg2) rfl ?_
   refine r_move rfl rfl ?_
   refine g_no rfl rfl rfl rfl rfl rfl ?_
   refine g_no rfl rfl rfl rfl rfl rfl ?_
   refine g_no rfl rfl rfl rfl rfl rfl ?_
   refine p_t rfl rfl rfl rfl ?_
   refine hl_nil ?_
   refine then_n ?_
   refine c_t rfl rfl ?_
   refine hc_seq ?_
   refine hc_region ?_
   refine hl_call F.law04_indexed_cb rfl rfl (law04_indexed_meets) (List.Perm.refl _) trivial fun _ _ => ?_
   refine r_assign rfl rfl ?_
   refine hl_nil ?_
   refine then_n ?_
   refine hc_ret ?_
   refine then_ret ?_
   exact ret1 () rfl rfl rfl trivial (List.nil_sublist _) trivial
 ·intro hg1; have hg1' := hg1; try simp at hg1'
  refine g_no rfl rfl rfl rfl rfl hg1 ?_
  refine g_no rfl rfl rfl rfl rfl hg1 ?_
  refine g_no rfl rfl rfl rfl rfl hg1 ?_
  refine g_no rfl rfl rfl rfl rfl hg1 ?_
  refine p_t rfl rfl (bt2 hg1) rfl ?_
  refine r_move rfl rfl ?_
  refine g_no rfl rfl rfl rfl rfl rfl ?_
  refine g_no rfl rfl rfl rfl rfl rfl ?_
  refine g_no rfl rfl rfl rfl rfl rfl ?_
  refine g_no rfl rfl rfl rfl rfl rfl ?_
  refine p_t rfl rfl rfl rfl ?_
  refine r_move rfl rfl ?_
  refine g_no rfl rfl rfl rfl rfl rfl ?_
  refine g_no rfl rfl rfl rfl rfl rfl ?_
  refine g_no rfl rfl rfl rfl rfl rfl ?_
  refine p_t rfl rfl rfl rfl ?_
  refine hl_nil ?_
  refine then_n ?_
  refine c_t rfl rfl ?_
  refine hc_seq ?_
  refine hc_region ?_
  refine hl_call F.law04_indexed_cb rfl rfl (law04_indexed_meets) (List.Perm.refl _) trivial fun _ _ => ?_
  refine r_assign rfl rfl ?_
  refine hl_nil ?_
  refine then_n ?_
  refine hc_ret ?_
  refine then_ret ?_
  exact ret1 () rfl rfl rfl trivial (List.nil_sublist _) trivial

end Go.Proofs.YtlpgheniajdkfaaGreat
