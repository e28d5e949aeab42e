/- Steps, Hidden; what a heading leads to. -/
import Derived.Test.YtlpgheniajdkfaaPbk
namespace Go.Proofs.Ytlpgheniajdkfaa
open Go Go.W
set_option linter.unusedVariables false
set_option linter.unusedSimpArgs false
set_option maxRecDepth 20000
attribute [local irreducible] HL HC HQ HB Row Rows2 Blk Facts

def stepsE (t : Tr) (h : Int) : List Int × Int := if ¬ askE t [h] = 0 then ([], askE t [h]) else (stepsT t h, 0)
def hiB (t : Tr) (h s : Int) (i : Nat) : Bool := isTrB t (i : Int) && !decide (0 ≤ (stepsT t h).getD i default ∧ (stepsT t h).getD i default ≤ s)
def hiK (t : Tr) (h s : Int) (k : Nat) : List Int := ((List.range k).filter (hiB t h s)).map fun i : Nat => (i : Int)
def hiddenT (t : Tr) (h s : Int) : List Int := hiK t h s t.hs.length
def hiddenE (t : Tr) (h s : Int) : List Int × Int := if ¬ askE t [h] = 0 then ([], askE t [h]) else if 0 ≤ s ∧ s ≤ 6 then (hiddenT t h s, 0) else ([], 1)
theorem hiK_succ (t : Tr) (h s : Int) (k : Nat) : hiK t h s (k + 1) = if hiB t h s k = true then hiK t h s k ++ [(k : Int)] else hiK t h s k := by
  unfold hiK
  rw [List.range_succ, List.filter_append, List.map_append, List.filter_cons, List.filter_nil]
  by_cases e : hiB t h s k = true
  · rw [if_pos e, if_pos e]; rfl
  · rw [if_neg e, if_neg e]; simp
theorem hiK_len (t : Tr) (h s : Int) (k : Nat) : (hiK t h s k).length ≤ k := by
  unfold hiK
  rw [List.length_map]
  exact Nat.le_trans (List.length_filter_le _ _) (by simp)
theorem steps_len (t : Tr) (h : Int) : (stepsT t h).length = t.hs.length := by unfold stepsT; rw [List.length_map, List.length_range]

theorem trade_Steps_meets {A B : Option Addr} {ca cb : Nat} (cs : List Cl) (hs : List Hd) (h : Int) (hca : cs.length ≤ ca) (hcb : hs.length ≤ cb) (ha : ∀ h ∈ hs, h.2.2.2.l.length ≤ 1000000) : Meets Try.prog F.trade_Steps [.agg #[.slice A cs.length ca, .slice B hs.length cb], int h] { LI := [Row A (rows cs), RowsF B hs Hd.row], inv := fun x : OutC => (stepsE (trOf cs hs) h).1.length ≤ x.2, val := fun x => .tuple #[.slice x.1 (stepsE (trOf cs hs) h).1.length x.2, int (stepsE (trOf cs hs) h).2], LO := fun x => [Row x.1 (rows (stepsE (trOf cs hs) h).1)] } := by
 refine meets_intro F.trade_Steps_f rfl (Nat.le_of_ble_eq_true rfl) fun w0 => ?_
 refine hc_seq ?_
 refine hc_region ?_
 refine r_box rfl rfl fun gB => ?_
 refine r_assign rfl rfl ?_
 refine r_assign rfl rfl ?_
 refine hl_nil ?_
 refine then_n ?_
 refine hc_cut ⟨fun _ : Nat × OutC × OutC => True, fun x => [(1, int h), (2, .pointer (some ⟨gB, 0, none⟩)), (6, if askE (trOf cs hs) [h] = 0 then .pointer (some ⟨x.1, 0, none⟩) else .pointer none), (7, int (askE (trOf cs hs) [h]))], fun _ => [(gB, .cells #[.slice A cs.length ca, .slice B hs.length cb] T.api_Trades (0, 0))], fun x => (if askE (trOf cs hs) [h] = 0 then beginL cs hs A ca B cb x else []) ++ [Row A (rows cs), RowsF B hs Hd.row]⟩ ?_ ?_
 ·skip
  refine hc_region ?_
  first | refine r_loadA rfl T.row_api_Trades T.sz_api_Trades rfl (by repeat constructor) (by rfl) ?_ | refine r_loadB rfl T.row_api_Trades T.sz_api_Trades rfl (by repeat constructor) (by rfl) ?_ | refine r_loadS rfl T.row_api_Trades T.sz_api_Trades rfl rfl (cells_row (by repeat constructor) (rows_all (by omega))) ?_
  refine r_move rfl rfl ?_
  refine r_buildSlice _ rfl rfl (fun _ => T.bs_ints_1 ..) fun gS => ?_
  refine hl_letgo (rows [h]) (List.prefix_refl _) ?_
  refine hl_call F.trade_ask_cb rfl rfl (trade_ask_meets cs hs [h] hca hcb ha (by simp)) (List.Perm.refl _) ⟨(by repeat constructor), (by repeat constructor), (by repeat constructor), trivial⟩ fun x _ => ?_
  refine r_move rfl rfl ?_
  refine r_extract rfl rfl rfl ?_
  refine r_extract rfl rfl rfl ?_
  refine r_assign rfl rfl ?_
  refine r_assign rfl rfl ?_
  refine hl_nil ?_
  exact cut_n _ x trivial ⟨rfl, rfl, rfl, rfl, trivial⟩ (List.Sublist.refl _) (LSub.of_mem fun F hF => (List.mem_append.1 hF).elim (fun h1 => List.mem_append_left _ h1) (fun h2 => List.mem_append_right _ (List.mem_cons_of_mem _ h2)))
 ·refine fun x _ => ?_
  dsimp only
  refine hc_seq ?_
  refine hc_seq ?_
  refine hc_region ?_
  refine r_move rfl rfl ?_
  refine r_neq rfl rfl rfl ?_
  refine hl_nil ?_
  refine then_n ?_
  first | refine c_dec rfl (fun hb1 => ?_) (fun hb1 => ?_) | refine hc_cond rfl (fun hb1 => ?_) (fun hb1 => ?_)
  ·have hb1' := hb1; try simp at hb1'
   have hE : stepsE (trOf cs hs) h = ([], askE (trOf cs hs) [h]) := by rw [stepsE, if_pos hb1]
   refine hc_seq ?_
   refine hc_region ?_
   refine r_move rfl rfl ?_
   refine r_assign rfl rfl ?_
   refine r_assign rfl rfl ?_
   refine hl_nil ?_
   refine then_n ?_
   refine hc_ret ?_
   refine then_ret ?_
   refine hq_nilrow (α := Int) ?_
   exact ret2 (none, 0) rfl rfl rfl (by show Value.tuple #[.slice none (stepsE (trOf cs hs) h).1.length 0, int (stepsE (trOf cs hs) h).2] = _; rw [hE]; rfl) rfl (by show (stepsE (trOf cs hs) h).1.length ≤ 0; rw [hE]; exact Nat.le_refl _) (List.nil_sublist _) (by show LSub _ [Row none (rows (stepsE (trOf cs hs) h).1)]; rw [hE]; exact ⟨m0, trivial⟩)
  ·have hb1' := hb1; try simp at hb1'
   have h0 := Classical.not_not.1 hb1
   rw [if_pos h0, if_pos h0]
   have hch := ask_check h0
   have hin := ask_in h0 (List.mem_singleton.2 rfl)
   rw [hs_len] at hin
   obtain ⟨i, hi⟩ := Int.eq_ofNat_of_zero_le hin.1
   have hok := tr_ok hch
   have h6 : cs.length ≤ 6 := hok.c6
   have h6h := hok.h6
   rw [hs_len] at h6h
   have hcl : ∀ i, i < cs.length → ClsOK cs i := hok.c
   obtain ⟨gl, ⟨oa, oc⟩, ⟨ka, kc⟩⟩ := x
   have hln := hs_len cs hs
   show HC _ _ _ _ _ [Row (some ⟨gl, 0, none⟩) [.slice A cs.length ca, .slice B hs.length cb, .slice oa cs.length oc, .slice ka hs.length kc], Row oa (rows (masksN cs cs.length)), Row ka (rows (kindsN hs hs.length)), Row A (rows cs), RowsF B hs Hd.row]
   refine hc_skip ?_
   refine then_n ?_
   refine hc_seq ?_
   refine hc_region ?_
   refine r_move rfl rfl ?_
   refine r_move rfl rfl ?_
   have hE : stepsE (trOf cs hs) h = (stepsT (trOf cs hs) h, 0) := by rw [stepsE, if_neg hb1]
   subst hi
   refine hl_call F.trade_list_steps_cb rfl rfl (trade_list_steps_meets (A := A) (B := B) (oa := oa) (ka := ka) (ca := ca) (cb := cb) (oc := oc) (kc := kc) (gl := gl) cs hs i hok (by omega)) (List.Perm.refl _) ⟨(by repeat constructor), (by repeat constructor), (by repeat constructor), trivial⟩ fun y hy => ?_
   refine r_assign rfl rfl ?_
   refine r_assign rfl rfl ?_
   refine hl_nil ?_
   refine then_n ?_
   refine hc_ret ?_
   exact ret2 y rfl rfl rfl (by show Value.tuple #[.slice y.1 (stepsE (trOf cs hs) (i : Int)).1.length y.2, int (stepsE (trOf cs hs) (i : Int)).2] = _; rw [hE]) rfl (by show (stepsE (trOf cs hs) (i : Int)).1.length ≤ y.2; rw [hE]; exact hy) (List.nil_sublist _) (by show LSub _ [Row y.1 (rows (stepsE (trOf cs hs) (i : Int)).1)]; rw [hE]; exact ⟨m0, trivial⟩)

set_option maxHeartbeats 1000000 in
theorem trade_Hidden_meets {A B : Option Addr} {ca cb : Nat} (cs : List Cl) (hs : List Hd) (h s : Int) (hca : cs.length ≤ ca) (hcb : hs.length ≤ cb) (ha : ∀ h ∈ hs, h.2.2.2.l.length ≤ 1000000) : Meets Try.prog F.trade_Hidden [.agg #[.slice A cs.length ca, .slice B hs.length cb], int h, int s] { LI := [Row A (rows cs), RowsF B hs Hd.row], inv := fun x : OutC => (hiddenE (trOf cs hs) h s).1.length ≤ x.2, val := fun x => .tuple #[.slice x.1 (hiddenE (trOf cs hs) h s).1.length x.2, int (hiddenE (trOf cs hs) h s).2], LO := fun x => [Row x.1 (rows (hiddenE (trOf cs hs) h s).1)] } := by
 refine meets_intro F.trade_Hidden_f rfl (Nat.le_of_ble_eq_true rfl) fun w0 => ?_
 refine hc_seq ?_
 refine hc_region ?_
 refine r_box rfl rfl fun gB => ?_
 refine r_assign rfl rfl ?_
 refine r_assign rfl rfl ?_
 refine hl_nil ?_
 refine then_n ?_
 refine hc_cut ⟨fun _ : Nat × OutC × OutC => True, fun x => [(1, int h), (2, int s), (3, .pointer (some ⟨gB, 0, none⟩)), (8, if askE (trOf cs hs) [h] = 0 then .pointer (some ⟨x.1, 0, none⟩) else .pointer none), (9, int (askE (trOf cs hs) [h]))], fun _ => [(gB, .cells #[.slice A cs.length ca, .slice B hs.length cb] T.api_Trades (0, 0))], fun x => (if askE (trOf cs hs) [h] = 0 then beginL cs hs A ca B cb x else []) ++ [Row A (rows cs), RowsF B hs Hd.row]⟩ ?_ ?_
 ·skip
  refine hc_region ?_
  first | refine r_loadA rfl T.row_api_Trades T.sz_api_Trades rfl (by repeat constructor) (by rfl) ?_ | refine r_loadB rfl T.row_api_Trades T.sz_api_Trades rfl (by repeat constructor) (by rfl) ?_ | refine r_loadS rfl T.row_api_Trades T.sz_api_Trades rfl rfl (cells_row (by repeat constructor) (rows_all (by omega))) ?_
  refine r_move rfl rfl ?_
  refine r_buildSlice _ rfl rfl (fun _ => T.bs_ints_1 ..) fun gS => ?_
  refine hl_letgo (rows [h]) (List.prefix_refl _) ?_
  refine hl_call F.trade_ask_cb rfl rfl (trade_ask_meets cs hs [h] hca hcb ha (by simp)) (List.Perm.refl _) ⟨(by repeat constructor), (by repeat constructor), (by repeat constructor), trivial⟩ fun x _ => ?_
  refine r_move rfl rfl ?_
  refine r_extract rfl rfl rfl ?_
  refine r_extract rfl rfl rfl ?_
  refine r_assign rfl rfl ?_
  refine r_assign rfl rfl ?_
  refine hl_nil ?_
  exact cut_n _ x trivial ⟨rfl, rfl, rfl, rfl, rfl, trivial⟩ (List.Sublist.refl _) (LSub.of_mem fun F hF => (List.mem_append.1 hF).elim (fun h1 => List.mem_append_left _ h1) (fun h2 => List.mem_append_right _ (List.mem_cons_of_mem _ h2)))
 ·refine fun x _ => ?_
  dsimp only
  refine hc_seq ?_
  refine hc_block ?_
  refine hc_seq ?_
  refine hc_region ?_
  refine r_move rfl rfl ?_
  refine r_neq rfl rfl rfl ?_
  refine r_assign rfl rfl ?_
  refine hl_nil ?_
  refine then_n ?_
  first | refine c_dec rfl (fun hb1 => ?_) (fun hb1 => ?_) | refine hc_cond rfl (fun hb1 => ?_) (fun hb1 => ?_)
  ·have hb1' := hb1; try simp at hb1'
   have hE : hiddenE (trOf cs hs) h s = ([], askE (trOf cs hs) [h]) := by rw [hiddenE, if_pos hb1]
   refine hc_seq ?_
   refine hc_region ?_
   refine r_move rfl rfl ?_
   refine r_assign rfl rfl ?_
   refine r_assign rfl rfl ?_
   refine hl_nil ?_
   refine then_n ?_
   refine hc_ret ?_
   refine inb_ret ?_
   refine then_ret ?_
   refine hq_nilrow (α := Int) ?_
   exact ret2 (none, 0) rfl rfl rfl (by show Value.tuple #[.slice none (hiddenE (trOf cs hs) h s).1.length 0, int (hiddenE (trOf cs hs) h s).2] = _; rw [hE]; rfl) rfl (by show (hiddenE (trOf cs hs) h s).1.length ≤ 0; rw [hE]; exact Nat.le_refl _) (List.nil_sublist _) (by show LSub _ [Row none (rows (hiddenE (trOf cs hs) h s).1)]; rw [hE]; exact ⟨m0, trivial⟩)
  ·have hb1' := hb1; try simp at hb1'
   have h0 := Classical.not_not.1 hb1
   rw [if_pos h0, if_pos h0]
   have hch := ask_check h0
   have hin := ask_in h0 (List.mem_singleton.2 rfl)
   rw [hs_len] at hin
   obtain ⟨i, hi⟩ := Int.eq_ofNat_of_zero_le hin.1
   have hok := tr_ok hch
   have h6 : cs.length ≤ 6 := hok.c6
   have h6h := hok.h6
   rw [hs_len] at h6h
   have hcl : ∀ i, i < cs.length → ClsOK cs i := hok.c
   obtain ⟨gl, ⟨oa, oc⟩, ⟨ka, kc⟩⟩ := x
   have hln := hs_len cs hs
   show HC _ _ _ _ _ [Row (some ⟨gl, 0, none⟩) [.slice A cs.length ca, .slice B hs.length cb, .slice oa cs.length oc, .slice ka hs.length kc], Row oa (rows (masksN cs cs.length)), Row ka (rows (kindsN hs hs.length)), Row A (rows cs), RowsF B hs Hd.row]
   refine hc_seq ?_
   refine hc_region ?_
   refine r_move rfl rfl ?_
   refine hl_call F.trade_between_cb rfl rfl (trade_between_meets _ _ _) (List.Perm.refl _) trivial fun _ _ => ?_
   refine r_not rfl rfl ?_
   refine r_assign rfl rfl ?_
   refine hl_nil ?_
   refine then_n ?_
   first | refine c_dec rfl (fun hb2 => ?_) (fun hb2 => ?_) | refine hc_cond rfl (fun hb2 => ?_) (fun hb2 => ?_)
   ·have hb2' := hb2; try simp at hb2'
    have hE : hiddenE (trOf cs hs) h s = ([], 1) := by rw [hiddenE, if_neg hb1, if_neg (nbw hb2)]
    refine hc_seq ?_
    refine hc_region ?_
    refine r_assign rfl rfl ?_
    refine r_assign rfl rfl ?_
    refine hl_nil ?_
    refine then_n ?_
    refine hc_ret ?_
    refine inb_ret ?_
    refine then_ret ?_
    refine hq_nilrow (α := Int) ?_
    exact ret2 (none, 0) rfl rfl rfl (by show Value.tuple #[.slice none (hiddenE (trOf cs hs) h s).1.length 0, int (hiddenE (trOf cs hs) h s).2] = _; rw [hE]; rfl) rfl (by show (hiddenE (trOf cs hs) h s).1.length ≤ 0; rw [hE]; exact Nat.le_refl _) (List.nil_sublist _) (by show LSub _ [Row none (rows (hiddenE (trOf cs hs) h s).1)]; rw [hE]; exact ⟨m0, trivial⟩)
   ·have hb2' := hb2; try simp at hb2'
    have hrc : 0 ≤ s ∧ s ≤ 6 := bw hb2
    have hE : hiddenE (trOf cs hs) h s = (hiddenT (trOf cs hs) h s, 0) := by rw [hiddenE, if_neg hb1, if_pos hrc]
    subst hi
    refine hc_skip ?_
    refine inb_n ?_
    refine then_n ?_
    refine hc_seq ?_
    refine hc_region ?_
    refine r_assign rfl rfl ?_
    refine hl_nil ?_
    refine then_n ?_
    refine hc_seq ?_
    refine hc_seq ?_
    refine hc_region ?_
    refine r_move rfl rfl ?_
    refine r_move rfl rfl ?_
    refine hl_call F.trade_list_steps_cb rfl rfl (trade_list_steps_meets (A := A) (B := B) (oa := oa) (ka := ka) (ca := ca) (cb := cb) (oc := oc) (kc := kc) (gl := gl) cs hs i hok (by omega)) (List.Perm.refl _) ⟨(by repeat constructor), (by repeat constructor), (by repeat constructor), trivial⟩ fun y hy => ?_
    refine r_len_sl rfl T.u_ints rfl ?_
    refine r_move rfl rfl ?_
    refine hl_nil ?_
    refine then_n ?_
    refine hc_block ?_
    have hsl := steps_len (trOf cs hs) (i : Int)
    rw [hln] at hsl
    refine hc_loop (β := Nat × OutC × Hp) ⟨fun x => x.1 ≤ hs.length ∧ Grow T.int 1 x.2.1.1 (hiK (trOf cs hs) (i : Int) s x.1).length x.2.1.2 (rows (hiK (trOf cs hs) (i : Int) s x.1)) x.2.2, fun x => [(2, int s), (8, .pointer (some ⟨gl, 0, none⟩)), (10, .slice x.2.1.1 (hiK (trOf cs hs) (i : Int) s x.1).length x.2.1.2), (30, .slice y.1 (stepsT (trOf cs hs) (i : Int)).length y.2), (31, int (stepsT (trOf cs hs) (i : Int)).length), (32, int x.1)], fun x => x.2.2, fun _ => [Row (some ⟨gl, 0, none⟩) [.slice A cs.length ca, .slice B hs.length cb, .slice oa cs.length oc, .slice ka hs.length kc], Row ka (rows (kindsN hs hs.length)), Row y.1 (rows (stepsT (trOf cs hs) (i : Int)))]⟩ (fun x => hs.length - x.1) (0, (none, 0), []) ⟨Nat.zero_le _, Grow.nil _ _⟩ ⟨rfl, rfl, rfl, rfl, rfl, rfl, trivial⟩ (List.nil_sublist _) ⟨(by repeat constructor), (by repeat constructor), (by repeat constructor), trivial⟩ fun x hx => ?_
    obtain ⟨k, ⟨na, nc⟩, og⟩ := x
    obtain ⟨hk, hG⟩ := hx
    simp only at hk hG
    refine hc_seq ?_
    refine hc_region ?_
    refine r_lss rfl rfl rfl ?_
    refine hl_nil ?_
    refine then_n ?_
    refine hc_seq ?_
    first | refine c_dec rfl (fun hb3 => ?_) (fun hb3 => ?_) | refine hc_cond rfl (fun hb3 => ?_) (fun hb3 => ?_)
    ·have hb3' := hb3; try simp at hb3'
     have hk2 : k < hs.length := by omega
     have hkl : k < (stepsT (trOf cs hs) (i : Int)).length := by omega
     have hul := hiK_len (trOf cs hs) (i : Int) s k
     have huc := hiK_succ (trOf cs hs) (i : Int) s k
     refine hc_skip ?_
     refine then_n ?_
     refine hc_seq ?_
     refine hc_block ?_
     refine hc_seq ?_
     refine hc_region ?_
     refine r_move rfl rfl ?_
     refine r_elem (α := Int) (stepsT (trOf cs hs) (i : Int)) k rfl T.u_ints T.sz_int rfl rfl rfl (by repeat constructor) rfl hkl (by decide) ?_
     refine r_load (v := int ((stepsT (trOf cs hs) (i : Int)).getD k default)) rfl T.cell_int rfl (cell_row (by repeat constructor) (rows_get0 hkl rfl)) ?_
     refine r_assign rfl rfl ?_
     refine r_assign rfl rfl ?_
     refine hl_nil ?_
     refine then_n ?_
     refine hc_cut ⟨fun _ : Unit => True, fun _ => [(2, int s), (8, .pointer (some ⟨gl, 0, none⟩)), (10, .slice (na, nc).1 (hiK (trOf cs hs) (i : Int) s k).length (na, nc).2), (30, .slice y.1 (stepsT (trOf cs hs) (i : Int)).length y.2), (31, int (stepsT (trOf cs hs) (i : Int)).length), (32, int k), (11, int k), (45, .bool (hiB (trOf cs hs) (i : Int) s k))], fun _ => og, fun _ => [Row (some ⟨gl, 0, none⟩) [.slice A cs.length ca, .slice B hs.length cb, .slice oa cs.length oc, .slice ka hs.length kc], Row ka (rows (kindsN hs hs.length)), Row y.1 (rows (stepsT (trOf cs hs) (i : Int)))]⟩ ?_ ?_
     ·skip
      refine hc_region ?_
      refine r_move rfl rfl ?_
      refine r_move rfl rfl ?_
      refine hl_call F.trade_list_isTrade_cb rfl rfl (trade_list_isTrade_meets (A := A) (B := B) (oa := oa) (ka := ka) (ca := ca) (cb := cb) (oc := oc) (kc := kc) (gl := gl) cs hs (k : Int) (by omega) (by omega) (by omega)) (hpR := og) (List.Perm.refl _) ⟨(by repeat constructor), (by repeat constructor), trivial⟩ fun _ _ => ?_
      refine r_move rfl rfl ?_
      refine g_split rfl rfl ?_ ?_
      ·intro hg1; have hg1' := hg1; try simp at hg1'
       have hA : isTrB (trOf cs hs) (k : Int) = true := by simpa using hg1
       refine g_yes rfl rfl hg1 ?_
       refine r_move rfl rfl ?_
       refine g_yes rfl rfl hg1 ?_
       refine r_move rfl rfl ?_
       refine g_yes rfl rfl hg1 ?_
       refine hl_call F.trade_between_cb rfl rfl (trade_between_meets _ _ _) (List.Perm.refl _) trivial fun _ _ => ?_
       refine g_yes rfl rfl hg1 ?_
       refine r_not rfl rfl ?_
       refine p_t rfl rfl (bt1 hg1) rfl ?_
       refine hl_nil ?_
       exact cut_n _ () trivial ⟨rfl, rfl, rfl, rfl, rfl, rfl, rfl, congrArg (fun b => some (Value.bool b)) (by unfold hiB; rw [hA, Bool.true_and]), trivial⟩ (List.Sublist.refl _) ⟨(by repeat constructor), (by repeat constructor), (by repeat constructor), trivial⟩
      ·intro hg1; have hg1' := hg1; try simp at hg1'
       have hA : isTrB (trOf cs hs) (k : Int) = false := by simpa using hg1
       refine g_no rfl rfl rfl rfl rfl hg1 ?_
       refine g_no rfl rfl rfl rfl rfl hg1 ?_
       refine g_no rfl rfl rfl rfl rfl hg1 ?_
       refine g_no rfl rfl rfl rfl rfl hg1 ?_
       refine p_f rfl rfl (bf2 hg1) rfl ?_
       refine hl_nil ?_
       exact cut_n _ () trivial ⟨rfl, rfl, rfl, rfl, rfl, rfl, rfl, congrArg (fun b => some (Value.bool b)) (by unfold hiB; rw [hA, Bool.false_and]), trivial⟩ (List.Sublist.refl _) ⟨(by repeat constructor), (by repeat constructor), (by repeat constructor), trivial⟩
     ·refine fun _ _ => ?_
      first | refine c_dec rfl (fun hb4 => ?_) (fun hb4 => ?_) | refine hc_cond rfl (fun hb4 => ?_) (fun hb4 => ?_)
      ·have hb4' := hb4; try simp at hb4'
       rw [if_pos hb4] at huc
       refine hc_region ?_
       refine r_move rfl rfl ?_
       refine r_move rfl rfl ?_
       refine r_buildSlice _ rfl rfl (fun _ => T.bs_ints_1 ..) fun gS => ?_
       refine hl_letgo (rows [(k : Int)]) (List.prefix_refl _) ?_
       refine r_append ((hiK (trOf cs hs) (i : Int) s k).length + 1) (rows ((hiK (trOf cs hs) (i : Int) s k) ++ [(k : Int)])) T.el_ints rfl rfl rfl hG (hp' := []) (by first | (rw [List.append_nil]; done) | (rw [List.append_nil]; exact List.Perm.refl _)) (Src.row (news := rows [(k : Int)]) (m := 1) m0 rfl (rows_one _) (by decide)) rfl (rows_append _ _).symm (by unfold maxLen; omega) (by omega) fun A' c' og' hG' => ?_
       refine r_assign rfl rfl ?_
       refine hl_nil ?_
       refine inb_n ?_
       refine then_n ?_
       refine hc_region ?_
       refine r_add _ rfl rfl rfl rfl (by unfold I64; omega) ?_
       refine r_move rfl rfl ?_
       refine hl_nil ?_
       exact again _ (k + 1, (A', c'), og') ⟨by show k + 1 ≤ hs.length; omega, by show Grow _ _ _ (hiK (trOf cs hs) (i : Int) s (k + 1)).length _ (rows (hiK (trOf cs hs) (i : Int) s (k + 1))) _; rw [huc, List.length_append]; exact hG'⟩ (by show hs.length - (k + 1) < hs.length - k; omega) ⟨rfl, rfl, by show some (Value.slice A' ((hiK (trOf cs hs) (i : Int) s k).length + 1) c') = some (Value.slice A' (hiK (trOf cs hs) (i : Int) s (k + 1)).length c'); rw [huc, List.length_append]; rfl, rfl, rfl, rfl, trivial⟩ (List.sublist_append_left _ _) ⟨(by repeat constructor), (by repeat constructor), (by repeat constructor), trivial⟩
      ·have hb4' := hb4; try simp at hb4'
       rw [if_neg (by rw [hb4]; decide)] at huc
       refine hc_skip ?_
       refine inb_n ?_
       refine then_n ?_
       refine hc_region ?_
       refine r_add _ rfl rfl rfl rfl (by unfold I64; omega) ?_
       refine r_move rfl rfl ?_
       refine hl_nil ?_
       exact again _ (k + 1, (na, nc), og) ⟨by show k + 1 ≤ hs.length; omega, by show Grow _ _ _ (hiK (trOf cs hs) (i : Int) s (k + 1)).length _ (rows (hiK (trOf cs hs) (i : Int) s (k + 1))) _; rw [huc]; exact hG⟩ (by show hs.length - (k + 1) < hs.length - k; omega) ⟨rfl, rfl, by show some (Value.slice na (hiK (trOf cs hs) (i : Int) s k).length nc) = some (Value.slice na (hiK (trOf cs hs) (i : Int) s (k + 1)).length nc); rw [huc], rfl, rfl, rfl, trivial⟩ (List.Sublist.refl _) ⟨(by repeat constructor), (by repeat constructor), (by repeat constructor), trivial⟩
    ·have hb3' := hb3; try simp at hb3'
     obtain rfl : k = hs.length := by omega
     have hG2 := hG
     rw [show (hiK (trOf cs hs) (i : Int) s hs.length) = hiddenT (trOf cs hs) (i : Int) s from by unfold hiddenT; rw [hln]] at hG2
     refine hc_exit ?_
     refine then_exit ?_
     refine then_exit ?_
     refine inb_hit ?_
     refine then_n ?_
     refine hc_seq ?_
     refine hc_region ?_
     refine r_move rfl rfl ?_
     refine r_assign rfl rfl ?_
     refine r_assign rfl rfl ?_
     refine hl_nil ?_
     refine then_n ?_
     refine hc_ret ?_
     refine hq_grown0 hG2 ?_
     exact ret2 (na, nc) rfl rfl rfl (by show Value.tuple #[.slice na (hiddenE (trOf cs hs) (i : Int) s).1.length nc, int (hiddenE (trOf cs hs) (i : Int) s).2] = Value.tuple #[.slice na (hiK (trOf cs hs) (i : Int) s hs.length).length nc, int 0]; rw [hE, show (hiK (trOf cs hs) (i : Int) s hs.length) = hiddenT (trOf cs hs) (i : Int) s from by unfold hiddenT; rw [hln]]) rfl (by show (hiddenE (trOf cs hs) (i : Int) s).1.length ≤ nc; rw [hE]; exact hG2.le) (List.nil_sublist _) (by show LSub _ [Row na (rows (hiddenE (trOf cs hs) (i : Int) s).1)]; rw [hE]; exact ⟨m0, trivial⟩)

theorem steps_is {A B : Option Addr} {ca cb : Nat} (cs : List Cl) (hs : List Hd) (h : Int) (hca : cs.length ≤ ca) (hcb : hs.length ≤ cb) (ha : ∀ h ∈ hs, h.2.2.2.l.length ≤ 1000000) (h0 : checkT (trOf cs hs) = 0) (hh : 0 ≤ h ∧ h ≤ ((trOf cs hs).hs.length : Int) - 1) : Meets Try.prog F.trade_Steps [.agg #[.slice A cs.length ca, .slice B hs.length cb], int h] { LI := [Row A (rows cs), RowsF B hs Hd.row], inv := fun x : OutC => (stepsT (trOf cs hs) h).length ≤ x.2, val := fun x => .tuple #[.slice x.1 (stepsT (trOf cs hs) h).length x.2, int 0], LO := fun x => [Row x.1 (rows (stepsT (trOf cs hs) h))] } := by
  have hm := trade_Steps_meets (A := A) (B := B) (ca := ca) (cb := cb) cs hs h hca hcb ha
  rw [show stepsE (trOf cs hs) h = (stepsT (trOf cs hs) h, 0) by rw [stepsE, if_neg (not_not_intro (ask_one h0 hh))]] at hm
  exact hm
theorem hidden_is {A B : Option Addr} {ca cb : Nat} (cs : List Cl) (hs : List Hd) (h s : Int) (hca : cs.length ≤ ca) (hcb : hs.length ≤ cb) (ha : ∀ h ∈ hs, h.2.2.2.l.length ≤ 1000000) (h0 : checkT (trOf cs hs) = 0) (hh : 0 ≤ h ∧ h ≤ ((trOf cs hs).hs.length : Int) - 1) (hsx : 0 ≤ s ∧ s ≤ 6) : Meets Try.prog F.trade_Hidden [.agg #[.slice A cs.length ca, .slice B hs.length cb], int h, int s] { LI := [Row A (rows cs), RowsF B hs Hd.row], inv := fun x : OutC => (hiddenT (trOf cs hs) h s).length ≤ x.2, val := fun x => .tuple #[.slice x.1 (hiddenT (trOf cs hs) h s).length x.2, int 0], LO := fun x => [Row x.1 (rows (hiddenT (trOf cs hs) h s))] } := by
  have hm := trade_Hidden_meets (A := A) (B := B) (ca := ca) (cb := cb) cs hs h s hca hcb ha
  rw [show hiddenE (trOf cs hs) h s = (hiddenT (trOf cs hs) h s, 0) by rw [hiddenE, if_neg (not_not_intro (ask_one h0 hh)), if_pos hsx]] at hm
  exact hm

theorem law04_leads_meets {A B : Option Addr} {ca cb : Nat} (cs : List Cl) (hs : List Hd) (i k : Nat) (hi : i < hs.length) (ha : ∀ h ∈ hs, h.2.2.2.l.length ≤ 1000000) : Meets Try.prog F.law04_leads [.agg #[.slice A cs.length ca, .slice B hs.length cb], int i, int k] { LI := [RowsF B hs Hd.row], val := fun _ : Unit => .bool (nextB (trOf cs hs) i k) } := by
 refine meets_intro F.law04_leads_f rfl (Nat.le_of_ble_eq_true rfl) fun w0 => ?_
 refine hc_seq ?_
 refine hc_region ?_
 refine r_box rfl rfl fun gB => ?_
 refine r_assign rfl rfl ?_
 refine hl_nil ?_
 refine then_n ?_
 refine hc_seq ?_
 have hnx : nextB (trOf cs hs) i k = (decide ((hs.getD i default).2.2.1 = (k : Int)) || decide ((k : Int) ∈ (hs.getD i default).2.2.2.l)) := by
   unfold nextB
   rw [show (trOf cs hs).hs.getD i default = (hs.getD i default).p from hd_get hi]
   rfl
 have hal := ha _ (getD_mem hi)
 refine hc_outerF (ps := hs) (A := B) (f := Hd.row) (by repeat constructor) ?_
 refine hc_region ?_
 first | refine r_fieldAddr ⟨_, 1, none⟩ rfl rfl T.fa_api_Trades_1 rfl ?_ | refine r_fieldAddr _ rfl rfl T.fa_api_Trades_1 rfl ?_
 first | refine r_load rfl T.cell_L_api_Head rfl (cell_own (by repeat constructor) rfl) ?_ | refine r_load rfl T.cell_L_api_Head rfl (cell_blk (by repeat constructor) rfl) ?_ | refine r_load rfl T.cell_L_api_Head rfl (cell_row (by repeat constructor) (rows_get0 (by omega) rfl)) ?_ | refine r_load rfl T.cell_L_api_Head rfl (cell_row_f (by repeat constructor) (rows_get (by omega) rfl)) ?_ | refine r_load rfl T.cell_L_api_Head rfl (cell_rowg (by repeat constructor) rfl) ?_
 refine r_move rfl rfl ?_
 refine r_elem (α := Hd) hs i rfl T.u_L_api_Head T.sz_api_Head rfl rfl rfl (by repeat constructor) rfl hi (by decide) ?_
 first | refine r_fieldAddr ⟨_, 2, none⟩ rfl rfl T.fa_api_Head_2 rfl ?_ | refine r_fieldAddr _ rfl rfl T.fa_api_Head_2 rfl ?_
 refine r_load (v := int (hs.getD i default).2.2.1) rfl T.cell_int rfl (cell_row_f (by repeat constructor) (rows_get hi rfl)) ?_
 refine r_move rfl rfl ?_
 refine r_eql rfl rfl rfl ?_
 refine r_move rfl rfl ?_
 refine g_split rfl rfl ?_ ?_
 ·intro hg1; have hg1' := hg1; try simp at hg1'
  have hA : ¬ (hs.getD i default).2.2.1 = (k : Int) := of_decide_eq_false (eq_of_beq hg1)
  refine g_yes rfl rfl hg1 ?_
  first | refine r_fieldAddr ⟨_, 1, none⟩ rfl rfl T.fa_api_Trades_1 rfl ?_ | refine r_fieldAddr _ rfl rfl T.fa_api_Trades_1 rfl ?_
  refine g_yes rfl rfl hg1 ?_
  first | refine r_load rfl T.cell_L_api_Head rfl (cell_own (by repeat constructor) rfl) ?_ | refine r_load rfl T.cell_L_api_Head rfl (cell_blk (by repeat constructor) rfl) ?_ | refine r_load rfl T.cell_L_api_Head rfl (cell_row (by repeat constructor) (rows_get0 (by omega) rfl)) ?_ | refine r_load rfl T.cell_L_api_Head rfl (cell_row_f (by repeat constructor) (rows_get (by omega) rfl)) ?_ | refine r_load rfl T.cell_L_api_Head rfl (cell_rowg (by repeat constructor) rfl) ?_
  refine g_yes rfl rfl hg1 ?_
  refine r_move rfl rfl ?_
  refine g_yes rfl rfl hg1 ?_
  refine r_elem (α := Hd) hs i rfl T.u_L_api_Head T.sz_api_Head rfl rfl rfl (by repeat constructor) rfl hi (by decide) ?_
  refine g_yes rfl rfl hg1 ?_
  first | refine r_fieldAddr ⟨_, 3, none⟩ rfl rfl T.fa_api_Head_3 rfl ?_ | refine r_fieldAddr _ rfl rfl T.fa_api_Head_3 rfl ?_
  refine g_yes rfl rfl hg1 ?_
  refine r_load (v := .slice (hs.getD i default).2.2.2.a (hs.getD i default).2.2.2.l.length (hs.getD i default).2.2.2.c) rfl T.cell_ints rfl (cell_row_f (by repeat constructor) (rows_get hi rfl)) ?_
  refine g_yes rfl rfl hg1 ?_
  refine r_move rfl rfl ?_
  refine hl_innerF (p := hs.getD i default) (f := Hd.row) (ps := hs) (by repeat constructor) (getD_mem hi) ?_
  refine g_yes rfl rfl hg1 ?_
  refine hl_call F.kit_Index_cb rfl rfl (kit_Index_meets (hs.getD i default).2.2.2.l (k : Int) hal) (hpR := [_]) (List.Perm.refl _) ⟨(by repeat constructor), trivial⟩ fun z hz => ?_
  refine g_yes rfl rfl hg1 ?_
  refine r_geq rfl rfl rfl ?_
  refine p_f rfl rfl (bf1 hg1) rfl ?_
  refine r_assign rfl rfl ?_
  refine hl_nil ?_
  refine then_n ?_
  refine hc_ret ?_
  exact ret1 () rfl (congrArg (fun b => some (Value.bool b)) (by rw [hnx, decide_eq_false hA, Bool.false_or]; exact decide_eq_decide.2 hz.1)) rfl trivial (List.nil_sublist _) trivial
 ·intro hg1; have hg1' := hg1; try simp at hg1'
  have hA : (hs.getD i default).2.2.1 = (k : Int) := Classical.byContradiction fun e => by rw [decide_eq_false e] at hg1; cases hg1
  refine g_no rfl rfl rfl rfl rfl hg1 ?_
  refine g_no rfl rfl rfl rfl rfl hg1 ?_
  refine g_no rfl rfl rfl rfl rfl hg1 ?_
  refine g_no rfl rfl rfl rfl rfl hg1 ?_
  refine g_no rfl rfl rfl rfl rfl hg1 ?_
  refine g_no rfl rfl rfl rfl rfl hg1 ?_
  refine g_no rfl rfl rfl rfl rfl hg1 ?_
  refine hl_innerF (p := hs.getD i default) (f := Hd.row) (ps := hs) (by repeat constructor) (getD_mem hi) ?_
  refine g_no rfl rfl rfl rfl rfl hg1 ?_
  refine g_no rfl rfl rfl rfl rfl hg1 ?_
  refine p_t rfl rfl (bt2 hg1) rfl ?_
  refine r_assign rfl rfl ?_
  refine hl_nil ?_
  refine then_n ?_
  refine hc_ret ?_
  exact ret1 () rfl (congrArg (fun b => some (Value.bool b)) (by rw [hnx, decide_eq_true hA, Bool.true_or])) rfl trivial (List.nil_sublist _) trivial

end Go.Proofs.Ytlpgheniajdkfaa
