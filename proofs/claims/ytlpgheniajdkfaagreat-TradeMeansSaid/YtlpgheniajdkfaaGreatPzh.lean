/- Means. -/
import Derived.Test.YtlpgheniajdkfaaGreatPm5
namespace Go.Proofs.YtlpgheniajdkfaaGreat
open Go Go.W
set_option linter.unusedVariables false
set_option linter.unusedSimpArgs false
set_option maxRecDepth 20000
attribute [local irreducible] HL HC HQ HB Row Rows2 Blk Facts

def meansE (t : Tr) (b : Str) (i : Int) : Int × Int := if ¬ askE t [i] = 0 then (0, askE t [i]) else if isTrB t i = false then (0, 8) else if ¬ i ∈ mayT t b then (2, 0) else if (mayT t b).length = 1 then (1, 0) else (3, 0)

theorem slices_Index_ints_meets {A : Option Addr} {c : Nat} (l : List Int) (s : Int) (hl : l.length ≤ 1000000) : Meets Tryz.prog F.slices_Index_ints [.slice A l.length c, int s] { LI := [Row A (rows l)], inv := fun z : Int => AtInv l s z, val := fun z => int z } := by
 refine meets_intro F.slices_Index_ints_f rfl (Nat.le_of_ble_eq_true rfl) fun w0 => ?_
 refine hc_seq ?_
 refine hc_region ?_
 refine r_assign rfl rfl ?_
 refine hl_nil ?_
 refine then_n ?_
 refine hc_seq ?_
 refine hc_seq ?_
 refine hc_region ?_
 refine r_move rfl rfl ?_
 refine r_len_sl rfl T.u_ints rfl ?_
 refine r_move rfl rfl ?_
 refine hl_nil ?_
 refine then_n ?_
 refine hc_block ?_
 refine hc_loop (β := Nat) ⟨fun k => k ≤ l.length ∧ s ∉ l.take k, fun k => [(0, .slice A l.length c), (1, int s), (7, int l.length), (8, int k)], fun _ => [], fun _ => [Row A (rows l)]⟩ (fun k => l.length - k) 0 ⟨Nat.zero_le _, by simp⟩ ⟨rfl, rfl, rfl, rfl, trivial⟩ (List.nil_sublist _) ⟨(by repeat constructor), trivial⟩ fun k hk => ?_
 obtain ⟨hk, ht⟩ := hk
 refine hc_seq ?_
 refine hc_region ?_
 refine r_lss rfl rfl rfl ?_
 refine hl_nil ?_
 refine then_n ?_
 refine hc_seq ?_
 refine c_dec rfl (fun hb1 => ?_) (fun hb1 => ?_)
 ·have hb1' := hb1; try simp at hb1'
  have hk2 : k < l.length := by omega
  refine hc_skip ?_
  refine then_n ?_
  refine hc_seq ?_
  refine hc_block ?_
  refine hc_seq ?_
  refine hc_region ?_
  refine r_move rfl rfl ?_
  refine r_assign rfl rfl ?_
  refine hl_nil ?_
  refine then_n ?_
  refine hc_seq ?_
  refine hc_region ?_
  refine r_move rfl rfl ?_
  refine r_move rfl rfl ?_
  refine r_move rfl rfl ?_
  refine r_elem (α := Int) _ _ rfl T.u_ints T.sz_int rfl rfl rfl (by repeat constructor) rfl (by omega) (by decide) ?_
  refine r_load rfl T.cell_int rfl (cell_row (by repeat constructor) (rows_get0 (by omega) rfl)) ?_
  refine r_eql rfl rfl rfl ?_
  refine hl_nil ?_
  refine then_n ?_
  refine c_dec rfl (fun hb2 => ?_) (fun hb2 => ?_)
  ·have hb2' := hb2; try simp at hb2'
   refine hc_seq ?_
   refine hc_region ?_
   refine r_move rfl rfl ?_
   refine r_assign rfl rfl ?_
   refine hl_nil ?_
   refine then_n ?_
   refine hc_ret ?_
   refine inb_ret ?_
   refine then_ret ?_
   refine then_ret ?_
   refine inb_ret ?_
   refine then_ret ?_
   exact ret1 (k : Int) rfl rfl rfl (at_found hk2 hb2.symm ht) (List.nil_sublist _) trivial
  ·have hb2' := hb2; try simp at hb2'
   refine hc_skip ?_
   refine inb_n ?_
   refine then_n ?_
   refine hc_region ?_
   refine r_add _ rfl rfl rfl rfl (by unfold I64; omega) ?_
   refine r_move rfl rfl ?_
   refine hl_nil ?_
   exact again _ (k + 1) ⟨by omega, by rw [take_succ_getD l k hk2]; simp only [List.mem_append, List.mem_singleton, not_or]; exact ⟨ht, hb2⟩⟩ (by show l.length - (k + 1) < l.length - k; omega) ⟨rfl, rfl, rfl, rfl, trivial⟩ (List.nil_sublist _) ⟨(by repeat constructor), trivial⟩
 ·have hb1' := hb1; try simp at hb1'
  obtain rfl : k = l.length := by omega
  rw [List.take_length] at ht
  refine hc_exit ?_
  refine then_exit ?_
  refine then_exit ?_
  refine inb_hit ?_
  refine then_n ?_
  refine hc_seq ?_
  refine hc_region ?_
  refine r_assign rfl rfl ?_
  refine hl_nil ?_
  refine then_n ?_
  refine hc_ret ?_
  exact ret1 (-1) rfl rfl rfl (at_none ht) (List.nil_sublist _) trivial

theorem slices_Contains_ints_meets {A : Option Addr} {c : Nat} (l : List Int) (s : Int) (hl : l.length ≤ 1000000) : Meets Tryz.prog F.slices_Contains_ints [.slice A l.length c, int s] { LI := [Row A (rows l)], val := fun _ : Unit => .bool (decide (s ∈ l)) } := by
 refine meets_intro F.slices_Contains_ints_f rfl (Nat.le_of_ble_eq_true rfl) fun w0 => ?_
 refine hc_seq ?_
 refine hc_region ?_
 refine r_assign rfl rfl ?_
 refine hl_nil ?_
 refine then_n ?_
 refine hc_seq ?_
 refine hc_region ?_
 refine r_move rfl rfl ?_
 refine r_move rfl rfl ?_
 refine hl_call F.slices_Index_ints_cb rfl rfl (slices_Index_ints_meets l s hl) (List.Perm.refl _) ⟨(by repeat constructor), trivial⟩ fun z hz => ?_
 refine r_geq rfl rfl rfl ?_
 refine r_assign rfl rfl ?_
 refine hl_nil ?_
 refine then_n ?_
 refine hc_ret ?_
 exact ret1 () rfl (congrArg (fun b => some (Value.bool b)) (decide_eq_decide.2 hz.1)) rfl trivial (List.nil_sublist _) trivial

set_option maxHeartbeats 1000000 in
theorem trade_Means_meets {A B : Option Addr} {ca cb : Nat} (cs : List Cl) (hs : List Hd) (b : Str) (i : Int) (hca : cs.length ≤ ca) (hcb : hs.length ≤ cb) (ha : ∀ h ∈ hs, h.2.2.2.l.length ≤ 1000000) : Meets Tryz.prog F.trade_Means [.agg #[.slice A cs.length ca, .slice B hs.length cb], str b, int i] { LI := [Row A (rows cs), RowsF B hs Hd.row], val := fun _ : Unit => .tuple #[int (meansE (trOf cs hs) b i).1, int (meansE (trOf cs hs) b i).2] } := by
 refine meets_intro F.trade_Means_f rfl (Nat.le_of_ble_eq_true rfl) fun w0 => ?_
 refine hc_seq ?_
 refine hc_region ?_
 refine r_box rfl rfl fun gB => ?_
 refine r_assign rfl rfl ?_
 refine r_assign rfl rfl ?_
 refine hl_nil ?_
 refine then_n ?_
 refine hc_cut ⟨fun _ : Nat × OutC × OutC => True, fun x => [(1, str b), (2, int i), (3, .pointer (some ⟨gB, 0, none⟩)), (8, if askE (trOf cs hs) [i] = 0 then .pointer (some ⟨x.1, 0, none⟩) else .pointer none), (9, int (askE (trOf cs hs) [i]))], fun _ => [(gB, .cells #[.slice A cs.length ca, .slice B hs.length cb] T.api_Trades (0, 0))], fun x => (if askE (trOf cs hs) [i] = 0 then beginL cs hs A ca B cb x else []) ++ [Row A (rows cs), RowsF B hs Hd.row]⟩ ?_ ?_
 ·skip
  refine hc_region ?_
  refine r_loadA rfl T.row_api_Trades T.sz_api_Trades rfl (by repeat constructor) (by rfl) ?_
  refine r_move rfl rfl ?_
  refine r_buildSlice _ rfl rfl (fun _ => T.bs_ints_1 ..) fun gS => ?_
  refine hl_letgo (rows [i]) (List.prefix_refl _) ?_
  refine hl_call F.trade_ask_cb rfl rfl (trade_ask_meets cs hs [i] hca hcb ha (by simp)) (List.Perm.refl _) ⟨(by repeat constructor), (by repeat constructor), (by repeat constructor), trivial⟩ fun x _ => ?_
  refine r_move rfl rfl ?_
  refine r_extract rfl rfl rfl ?_
  refine r_extract rfl rfl rfl ?_
  refine r_assign rfl rfl ?_
  refine r_assign rfl rfl ?_
  refine hl_nil ?_
  exact cut_n _ x trivial ⟨rfl, rfl, rfl, rfl, rfl, trivial⟩ (List.Sublist.refl _) (LSub.of_mem fun F hF => (List.mem_append.1 hF).elim (fun h1 => List.mem_append_left _ h1) (fun h2 => List.mem_append_right _ (List.mem_cons_of_mem _ h2)))
 ·refine fun x _ => ?_
  dsimp only
  refine hc_seq ?_
  refine hc_block ?_
  refine hc_seq ?_
  refine hc_region ?_
  refine r_move rfl rfl ?_
  refine r_neq rfl rfl rfl ?_
  refine r_assign rfl rfl ?_
  refine hl_nil ?_
  refine then_n ?_
  refine c_dec rfl (fun hb1 => ?_) (fun hb1 => ?_)
  ·have hb1' := hb1; try simp at hb1'
   refine hc_seq ?_
   refine hc_region ?_
   refine r_move rfl rfl ?_
   refine r_assign rfl rfl ?_
   refine r_assign rfl rfl ?_
   refine hl_nil ?_
   refine then_n ?_
   refine hc_ret ?_
   refine inb_ret ?_
   refine then_ret ?_
   exact ret2 () rfl rfl rfl (by show Value.tuple #[int (meansE (trOf cs hs) b i).1, int (meansE (trOf cs hs) b i).2] = _; rw [show meansE (trOf cs hs) b i = (0, askE (trOf cs hs) [i]) by unfold meansE; rw [if_pos hb1]]) rfl trivial (List.nil_sublist _) trivial
  ·have hb1' := hb1; try simp at hb1'
   have h0 := Classical.not_not.1 hb1
   rw [if_pos h0, if_pos h0]
   have hch := ask_check h0
   have hin := ask_in h0 (List.mem_singleton.2 rfl)
   rw [hs_len] at hin
   have hok := tr_ok hch
   have h6 : cs.length ≤ 6 := hok.c6
   have h6h := hok.h6
   rw [hs_len] at h6h
   have hcl : ∀ i, i < cs.length → ClsOK cs i := hok.c
   obtain ⟨gl, ⟨oa, oc⟩, ⟨ka, kc⟩⟩ := x
   have hln := hs_len cs hs
   show HC _ _ _ _ _ [Row (some ⟨gl, 0, none⟩) [.slice A cs.length ca, .slice B hs.length cb, .slice oa cs.length oc, .slice ka hs.length kc], Row oa (rows (masksN cs cs.length)), Row ka (rows (kindsN hs hs.length)), Row A (rows cs), RowsF B hs Hd.row]
   refine hc_outerF (ps := hs) (A := B) (f := Hd.row) (by repeat constructor) ?_
   refine hc_seq ?_
   refine hc_region ?_
   refine r_move rfl rfl ?_
   refine r_move rfl rfl ?_
   refine hl_call F.trade_list_isTrade_cb rfl rfl (trade_list_isTrade_meets (A := A) (B := B) (oa := oa) (ka := ka) (ca := ca) (cb := cb) (oc := oc) (kc := kc) (gl := gl) cs hs i hin.1 (by omega) (by omega)) (List.Perm.refl _) ⟨(by repeat constructor), (by repeat constructor), trivial⟩ fun _ _ => ?_
   refine r_not rfl rfl ?_
   refine r_assign rfl rfl ?_
   refine hl_nil ?_
   refine then_n ?_
   refine hc_cond rfl (fun hb2 => ?_) (fun hb2 => ?_)
   ·have hb2' := hb2; try simp at hb2'
    have h2 : isTrB (trOf cs hs) i = false := by simpa using hb2
    refine hc_seq ?_
    refine hc_region ?_
    refine r_assign rfl rfl ?_
    refine r_assign rfl rfl ?_
    refine hl_nil ?_
    refine then_n ?_
    refine hc_ret ?_
    refine inb_ret ?_
    refine then_ret ?_
    exact ret2 () rfl rfl rfl (by show Value.tuple #[int (meansE (trOf cs hs) b i).1, int (meansE (trOf cs hs) b i).2] = _; rw [show meansE (trOf cs hs) b i = (0, 8) by unfold meansE; rw [if_neg hb1, if_pos h2]]) rfl trivial (List.nil_sublist _) trivial
   ·have hb2' := hb2; try simp at hb2'
    have h2 : ¬ isTrB (trOf cs hs) i = false := fun e => by rw [e] at hb2; cases hb2
    refine hc_skip ?_
    refine inb_n ?_
    refine then_n ?_
    refine hc_seq ?_
    refine hc_region ?_
    refine r_move rfl rfl ?_
    refine r_move rfl rfl ?_
    refine hl_call F.trade_list_may_cb rfl rfl (trade_list_may_meets (A := A) (B := B) (oa := oa) (ka := ka) (ca := ca) (cb := cb) (oc := oc) (kc := kc) (gl := gl) cs hs b hok) (List.Perm.refl _) ⟨(by repeat constructor), (by repeat constructor), (by repeat constructor), trivial⟩ fun y hy => ?_
    have hml : (mayT (trOf cs hs) b).length ≤ 6 := by
      unfold mayT
      rw [List.length_map]
      refine Nat.le_trans (List.length_filter_le _ _) ?_
      rw [List.length_range, hln]
      omega
    refine r_assign rfl rfl ?_
    refine hl_nil ?_
    refine then_n ?_
    refine hc_seq ?_
    refine hc_block ?_
    refine hc_seq ?_
    refine hc_region ?_
    refine r_move rfl rfl ?_
    refine r_move rfl rfl ?_
    refine hl_call F.slices_Contains_ints_cb rfl rfl (slices_Contains_ints_meets (mayT (trOf cs hs) b) i (by omega)) (List.Perm.refl _) ⟨(by repeat constructor), trivial⟩ fun _ _ => ?_
    refine r_not rfl rfl ?_
    refine r_assign rfl rfl ?_
    refine hl_nil ?_
    refine then_n ?_
    refine hc_cond rfl (fun hb3 => ?_) (fun hb3 => ?_)
    ·have hb3' := hb3; try simp at hb3'
     have h3 : ¬ i ∈ mayT (trOf cs hs) b := by simpa using hb3
     refine hc_seq ?_
     refine hc_region ?_
     refine r_assign rfl rfl ?_
     refine r_assign rfl rfl ?_
     refine hl_nil ?_
     refine then_n ?_
     refine hc_ret ?_
     refine inb_ret ?_
     refine then_ret ?_
     exact ret2 () rfl rfl rfl (by show Value.tuple #[int (meansE (trOf cs hs) b i).1, int (meansE (trOf cs hs) b i).2] = _; rw [show meansE (trOf cs hs) b i = (2, 0) by unfold meansE; rw [if_neg hb1, if_neg h2, if_pos h3]]) rfl trivial (List.nil_sublist _) trivial
    ·have hb3' := hb3; try simp at hb3'
     have h3 : ¬ ¬ i ∈ mayT (trOf cs hs) b := fun e => by rw [decide_eq_false e] at hb3; cases hb3
     refine hc_seq ?_
     refine hc_region ?_
     refine r_move rfl rfl ?_
     refine r_len_sl rfl T.u_ints rfl ?_
     refine r_eql rfl rfl rfl ?_
     refine r_assign rfl rfl ?_
     refine hl_nil ?_
     refine then_n ?_
     refine c_dec rfl (fun hb4 => ?_) (fun hb4 => ?_)
     ·have hb4' := hb4; try simp at hb4'
      refine hc_seq ?_
      refine hc_region ?_
      refine r_assign rfl rfl ?_
      refine r_assign rfl rfl ?_
      refine hl_nil ?_
      refine then_n ?_
      refine hc_ret ?_
      refine inb_ret ?_
      refine then_ret ?_
      exact ret2 () rfl rfl rfl (by show Value.tuple #[int (meansE (trOf cs hs) b i).1, int (meansE (trOf cs hs) b i).2] = _; rw [show meansE (trOf cs hs) b i = (1, 0) by unfold meansE; rw [if_neg hb1, if_neg h2, if_neg h3, if_pos (by omega)]]) rfl trivial (List.nil_sublist _) trivial
     ·have hb4' := hb4; try simp at hb4'
      refine hc_skip ?_
      refine inb_n ?_
      refine then_n ?_
      refine hc_seq ?_
      refine hc_region ?_
      refine r_assign rfl rfl ?_
      refine r_assign rfl rfl ?_
      refine hl_nil ?_
      refine then_n ?_
      refine hc_ret ?_
      exact ret2 () rfl rfl rfl (by show Value.tuple #[int (meansE (trOf cs hs) b i).1, int (meansE (trOf cs hs) b i).2] = _; rw [show meansE (trOf cs hs) b i = (3, 0) by unfold meansE; rw [if_neg hb1, if_neg h2, if_neg h3, if_neg (by omega)]]) rfl trivial (List.nil_sublist _) trivial

end Go.Proofs.YtlpgheniajdkfaaGreat
