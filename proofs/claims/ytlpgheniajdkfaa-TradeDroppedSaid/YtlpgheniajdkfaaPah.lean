/- May, Short. -/
import Derived.Test.YtlpgheniajdkfaaPag
namespace Go.Proofs.Ytlpgheniajdkfaa
open Go Go.W
set_option linter.unusedVariables false
set_option linter.unusedSimpArgs false
set_option maxRecDepth 20000
attribute [local irreducible] HL HC HQ HB Row Rows2 Blk Facts

def mayE (t : Tr) (b : Str) : List Int × Int := if ¬ checkT t = 0 then ([], checkT t) else (mayT t b, 0)

theorem trade_May_meets {A B : Option Addr} {ca cb : Nat} (cs : List Cl) (hs : List Hd) (b : Str) (hca : cs.length ≤ ca) (hcb : hs.length ≤ cb) (ha : ∀ h ∈ hs, h.2.2.2.l.length ≤ 1000000) : Meets Try.prog F.trade_May [.agg #[.slice A cs.length ca, .slice B hs.length cb], str b] { LI := [Row A (rows cs), RowsF B hs Hd.row], inv := fun x : OutC => (mayE (trOf cs hs) b).1.length ≤ x.2, val := fun x => .tuple #[.slice x.1 (mayE (trOf cs hs) b).1.length x.2, int (mayE (trOf cs hs) b).2], LO := fun x => [Row x.1 (rows (mayE (trOf cs hs) b).1)] } := by
 refine meets_intro F.trade_May_f rfl (Nat.le_of_ble_eq_true rfl) fun w0 => ?_
 refine hc_seq ?_
 refine hc_region ?_
 refine r_box rfl rfl fun gB => ?_
 refine r_assign rfl rfl ?_
 refine r_assign rfl rfl ?_
 refine hl_nil ?_
 refine then_n ?_
 refine hc_cut ⟨fun _ : Nat × OutC × OutC => True, fun x => [(1, str b), (2, .pointer (some ⟨gB, 0, none⟩)), (6, if checkT (trOf cs hs) = 0 then .pointer (some ⟨x.1, 0, none⟩) else .pointer none), (7, int (checkT (trOf cs hs)))], fun _ => [(gB, .cells #[.slice A cs.length ca, .slice B hs.length cb] T.api_Trades (0, 0))], fun x => (if checkT (trOf cs hs) = 0 then beginL cs hs A ca B cb x else []) ++ [Row A (rows cs), RowsF B hs Hd.row]⟩ ?_ ?_
 ·skip
  refine hc_region ?_
  first | refine r_loadA rfl T.row_api_Trades T.sz_api_Trades rfl (by repeat constructor) (by rfl) ?_ | refine r_loadB rfl T.row_api_Trades T.sz_api_Trades rfl (by repeat constructor) (by rfl) ?_ | refine r_loadS rfl T.row_api_Trades T.sz_api_Trades rfl rfl (cells_row (by repeat constructor) (rows_all (by omega))) ?_
  refine hl_call F.trade_begin_cb rfl rfl (trade_begin_meets cs hs hca hcb ha) (List.Perm.refl _) ⟨(by repeat constructor), (by repeat constructor), trivial⟩ fun x _ => ?_
  refine r_move rfl rfl ?_
  refine r_extract rfl rfl rfl ?_
  refine r_extract rfl rfl rfl ?_
  refine r_assign rfl rfl ?_
  refine r_assign rfl rfl ?_
  refine hl_nil ?_
  exact cut_n _ x trivial ⟨rfl, rfl, rfl, rfl, trivial⟩ (List.Sublist.refl _) (LSub.of_mem fun F h => h)
 ·refine fun x _ => ?_
  dsimp only
  refine hc_seq ?_
  refine hc_seq ?_
  refine hc_region ?_
  refine r_move rfl rfl ?_
  refine r_neq rfl rfl rfl ?_
  refine hl_nil ?_
  refine then_n ?_
  first | refine c_dec rfl (fun hb1 => ?_) (fun hb1 => ?_) | refine hc_cond rfl (fun hb1 => ?_) (fun hb1 => ?_)
  ·have hb1' := hb1; try simp at hb1'
   have hE : mayE (trOf cs hs) b = ([], checkT (trOf cs hs)) := by rw [mayE, if_pos hb1]
   refine hc_seq ?_
   refine hc_region ?_
   refine r_move rfl rfl ?_
   refine r_assign rfl rfl ?_
   refine r_assign rfl rfl ?_
   refine hl_nil ?_
   refine then_n ?_
   refine hc_ret ?_
   refine then_ret ?_
   refine hq_nilrow (α := Int) ?_
   exact ret2 (none, 0) rfl rfl rfl (by show Value.tuple #[.slice none (mayE (trOf cs hs) b).1.length 0, int (mayE (trOf cs hs) b).2] = _; rw [hE]; rfl) rfl (by show (mayE (trOf cs hs) b).1.length ≤ 0; rw [hE]; exact Nat.le_refl _) (List.nil_sublist _) (by show LSub _ [Row none (rows (mayE (trOf cs hs) b).1)]; rw [hE]; exact ⟨m0, trivial⟩)
  ·have hb1' := hb1; try simp at hb1'
   have h0 := Classical.not_not.1 hb1
   rw [if_pos h0, if_pos h0]
   have hok := tr_ok h0
   have h6 : cs.length ≤ 6 := hok.c6
   have h6h := hok.h6
   rw [hs_len] at h6h
   have hcl : ∀ i, i < cs.length → ClsOK cs i := hok.c
   obtain ⟨gl, ⟨oa, oc⟩, ⟨ka, kc⟩⟩ := x
   have hE : mayE (trOf cs hs) b = (mayT (trOf cs hs) b, 0) := by rw [mayE, if_neg hb1]
   show HC _ _ _ _ _ [Row (some ⟨gl, 0, none⟩) [.slice A cs.length ca, .slice B hs.length cb, .slice oa cs.length oc, .slice ka hs.length kc], Row oa (rows (masksN cs cs.length)), Row ka (rows (kindsN hs hs.length)), Row A (rows cs), RowsF B hs Hd.row]
   refine hc_outerF (by repeat constructor) ?_
   refine hc_skip ?_
   refine then_n ?_
   refine hc_seq ?_
   refine hc_region ?_
   refine r_move rfl rfl ?_
   refine r_move rfl rfl ?_
   refine hl_call F.trade_list_may_cb rfl rfl (trade_list_may_meets (A := A) (B := B) (oa := oa) (oc := oc) (ka := ka) (kc := kc) (gl := gl) (ca := ca) (cb := cb) cs hs (b) hok) (List.Perm.refl _) ⟨(by repeat constructor), (by repeat constructor), (by repeat constructor), trivial⟩ fun y hy => ?_
   refine r_assign rfl rfl ?_
   refine r_assign rfl rfl ?_
   refine hl_nil ?_
   refine then_n ?_
   refine hc_ret ?_
   exact ret2 y rfl rfl rfl (by show Value.tuple #[.slice y.1 (mayE (trOf cs hs) b).1.length y.2, int (mayE (trOf cs hs) b).2] = _; rw [hE]) rfl (by show (mayE (trOf cs hs) b).1.length ≤ y.2; rw [hE]; exact hy) (List.nil_sublist _) (by show LSub _ [Row y.1 (rows (mayE (trOf cs hs) b).1)]; rw [hE]; exact ⟨m0, trivial⟩)

theorem next_az {s : Str} (h : s.all azB = true) {k : Nat} (hk : k < s.length) : nextP s k = k + 1 := by
  have h1 := List.all_eq_true.1 h _ (List.getElem_mem hk)
  simp only [azB, Bool.and_eq_true, decide_eq_true_eq] at h1
  rw [nextP, if_pos hk, dec_small (List.getElem?_eq_getElem hk) (by omega)]
theorem word_az {s : Str} (h : wordB s = true) : s.all azB = true := by
  unfold wordB at h
  simp only [Bool.and_eq_true] at h
  exact h.2.2.2.2
theorem word_12 {s : Str} (h : wordB s = true) : s.length ≤ 12 := by
  unfold wordB at h
  simp only [Bool.and_eq_true, decide_eq_true_eq] at h
  exact h.2.1
theorem head_word {cs : List Cl} {hs : List Hd} (hok : TrOK (trOf cs hs)) {i : Nat} (hi : i < hs.length) : wordB (hs.getD i default).1 = true := by
  have := (hok.h i (by rw [hs_len]; exact hi)).w
  simp only [trOf, hd_get hi] at this
  exact this
theorem shortT_of {cs : List Cl} {hs : List Hd} {h : Int} (h0 : 0 ≤ h) (hh : h < (hs.length : Int)) : shortT (trOf cs hs) h = shortN (trOf cs hs) (hs.getD h.toNat default).1 ((hs.getD h.toNat default).1.length + 1) 0 := by
  unfold shortT
  simp only [trOf, hd_get (show h.toNat < hs.length by omega)]
  rfl
def shortE (t : Tr) (h : Int) : Str × Int := if ¬ askE t [h] = 0 then ([], askE t [h]) else match shortT t h with | none => ([], 11) | some s => (s, 0)

theorem trade_list_short_meets {A B oa ka : Option Addr} {ca cb oc kc gl : Nat} (cs : List Cl) (hs : List Hd) (h : Int) (h0 : 0 ≤ h) (hh : h < (hs.length : Int)) (hok : TrOK (trOf cs hs)) : Meets Try.prog F.trade_list_short [.pointer (some ⟨gl, 0, none⟩), int h] { LI := [Row (some ⟨gl, 0, none⟩) [.slice A cs.length ca, .slice B hs.length cb, .slice oa cs.length oc, .slice ka hs.length kc], Row ka (rows (kindsN hs hs.length)), Row B (rows hs)], val := fun _ : Unit => .tuple #[str ((shortT (trOf cs hs) h).getD (hs.getD h.toNat default).1), .bool (shortT (trOf cs hs) h).isSome] } := by
 refine meets_intro F.trade_list_short_f rfl (Nat.le_of_ble_eq_true rfl) fun w0 => ?_
 refine hc_seq ?_
 refine hc_region ?_
 refine r_assign rfl rfl ?_
 refine r_assign rfl rfl ?_
 refine hl_nil ?_
 refine then_n ?_
 refine hc_seq ?_
 refine hc_region ?_
 refine r_move rfl rfl ?_
 refine r_nilCheck rfl rfl ?_
 first | refine r_fieldAddr ⟨_, 0, none⟩ rfl rfl T.fa_trade_list_0 rfl ?_ | refine r_fieldAddr _ rfl rfl T.fa_trade_list_0 rfl ?_
 first | refine r_fieldAddr ⟨_, 1, none⟩ rfl rfl T.fa_api_Trades_1 rfl ?_ | refine r_fieldAddr _ rfl rfl T.fa_api_Trades_1 rfl ?_
 first | refine r_load rfl T.cell_L_api_Head rfl (cell_own (by repeat constructor) rfl) ?_ | refine r_load rfl T.cell_L_api_Head rfl (cell_blk (by repeat constructor) rfl) ?_ | refine r_load rfl T.cell_L_api_Head rfl (cell_row (by repeat constructor) (rows_get0 (by omega) rfl)) ?_ | refine r_load rfl T.cell_L_api_Head rfl (cell_row_f (by repeat constructor) (rows_get (by omega) rfl)) ?_ | refine r_load rfl T.cell_L_api_Head rfl (cell_rowg (by repeat constructor) rfl) ?_
 refine r_move rfl rfl ?_
 refine r_elem (α := Hd) hs h.toNat rfl T.u_L_api_Head T.sz_api_Head rfl rfl (Int.toNat_of_nonneg h0).symm (by repeat constructor) rfl (by omega) (by decide) ?_
 first | refine r_fieldAddr ⟨_, 0, none⟩ rfl rfl T.fa_api_Head_0 rfl ?_ | refine r_fieldAddr _ rfl rfl T.fa_api_Head_0 rfl ?_
 refine r_load (v := str (hs.getD h.toNat default).1) rfl T.cell_string rfl (cell_row (by repeat constructor) (rows_get0 (by omega) rfl)) ?_
 refine r_assign rfl rfl ?_
 refine hl_nil ?_
 refine then_n ?_
 refine hc_seq ?_
 refine hc_seq ?_
 have hw := head_word hok (show h.toNat < hs.length by omega)
 have haz := word_az hw
 have h12 := word_12 hw
 have hT := shortT_of (cs := cs) h0 hh
 -- (hs.getD h.toNat default).1 = s at *
 refine hc_region ?_
 refine r_move rfl rfl ?_
 refine r_rangeS rfl T.u_string rfl fun gI => ?_
 refine hl_nil ?_
 refine then_n ?_
 refine hc_block ?_
 refine hc_loop (β := Nat) ⟨fun k => k ≤ (hs.getD h.toNat default).1.length ∧ shortT (trOf cs hs) h = shortN (trOf cs hs) (hs.getD h.toNat default).1 ((hs.getD h.toNat default).1.length + 1 - k) k, fun k => [(0, .pointer (some ⟨gl, 0, none⟩)), (6, str (hs.getD h.toNat default).1), (18, .pointer (some ⟨gI, 0, none⟩))], fun k => [(gI, iter (hs.getD h.toNat default).1 k)], fun _ => [Row (some ⟨gl, 0, none⟩) [.slice A cs.length ca, .slice B hs.length cb, .slice oa cs.length oc, .slice ka hs.length kc], Row ka (rows (kindsN hs hs.length)), Row B (rows hs)]⟩ (fun k => (hs.getD h.toNat default).1.length - k) 0 ⟨Nat.zero_le _, hT⟩ ⟨rfl, rfl, rfl, trivial⟩ (List.Sublist.refl _) ⟨(by repeat constructor), (by repeat constructor), (by repeat constructor), trivial⟩ fun k hk => ?_
 obtain ⟨hk, ht⟩ := hk
 refine hc_seq ?_
 refine hc_region ?_
 refine r_nextS rfl rfl (.refl _) ?_
 refine r_ext0 rfl rfl ?_
 refine hl_nil ?_
 refine then_n ?_
 refine hc_seq ?_
 first | refine c_dec rfl (fun hb1 => ?_) (fun hb1 => ?_) | refine hc_cond rfl (fun hb1 => ?_) (fun hb1 => ?_)
 ·have hb1' := hb1; try simp at hb1'
  rw [show (hs.getD h.toNat default).1.length + 1 - k = ((hs.getD h.toNat default).1.length - k) + 1 by omega, shortN] at ht
  have hnx := next_az haz hb1
  refine hc_skip ?_
  refine then_n ?_
  refine hc_block ?_
  refine hc_seq ?_
  refine hc_region ?_
  refine r_ext1 rfl rfl hb1 ?_
  refine r_assign rfl rfl ?_
  refine hl_nil ?_
  refine then_n ?_
  refine hc_seq ?_
  refine hc_region ?_
  refine r_move rfl rfl ?_
  refine r_move rfl rfl ?_
  refine r_move rfl rfl ?_
  refine r_sslice_hi k rfl T.u_string rfl rfl rfl (by omega) ?_
  refine hl_call F.trade_list_may_cb rfl rfl (trade_list_may_meets (A := A) (B := B) (oa := oa) (oc := oc) (ka := ka) (kc := kc) (gl := gl) (ca := ca) (cb := cb) cs hs ((hs.getD h.toNat default).1.take k) hok) (List.Perm.refl _) ⟨(by repeat constructor), (by repeat constructor), (by repeat constructor), trivial⟩ fun y hy => ?_
  refine r_len_sl rfl T.u_ints rfl ?_
  refine r_eql rfl rfl rfl ?_
  refine hl_nil ?_
  refine then_n ?_
  first | refine c_dec rfl (fun hb2 => ?_) (fun hb2 => ?_) | refine hc_cond rfl (fun hb2 => ?_) (fun hb2 => ?_)
  ·have hb2' := hb2; try simp at hb2'
   rw [if_pos (by omega)] at ht
   refine hc_seq ?_
   refine hc_region ?_
   refine r_move rfl rfl ?_
   refine r_move rfl rfl ?_
   refine r_sslice_hi k rfl T.u_string rfl rfl rfl (by omega) ?_
   refine r_assign rfl rfl ?_
   refine r_assign rfl rfl ?_
   refine hl_nil ?_
   refine then_n ?_
   refine hc_ret ?_
   refine inb_ret ?_
   refine then_ret ?_
   refine inb_ret ?_
   refine then_ret ?_
   exact ret2 () rfl rfl rfl (by show Value.tuple #[str ((shortT (trOf cs hs) h).getD (hs.getD h.toNat default).1), .bool (shortT (trOf cs hs) h).isSome] = _; rw [ht]; rfl) rfl trivial (List.nil_sublist _) trivial
  ·have hb2' := hb2; try simp at hb2'
   rw [if_neg (by omega)] at ht
   refine hc_skip ?_
   refine inb_n ?_
   refine again _ (k + 1) ⟨by omega, by rw [ht, show (hs.getD h.toNat default).1.length + 1 - (k + 1) = (hs.getD h.toNat default).1.length - k by omega]⟩ (by show (hs.getD h.toNat default).1.length - (k + 1) < (hs.getD h.toNat default).1.length - k; omega) ⟨rfl, rfl, rfl, trivial⟩ ?_ ⟨(by repeat constructor), (by repeat constructor), (by repeat constructor), trivial⟩
   rw [hnx]
   exact (List.Sublist.refl _)
 ·have hb1' := hb1; try simp at hb1'
  have hk2 : k = (hs.getD h.toNat default).1.length := by omega
  rw [hk2, show (hs.getD h.toNat default).1.length + 1 - (hs.getD h.toNat default).1.length = 0 + 1 by omega, shortN, List.take_length] at ht
  refine hc_exit ?_
  refine then_exit ?_
  refine then_exit ?_
  refine inb_hit ?_
  refine then_n ?_
  refine hc_seq ?_
  refine hc_region ?_
  refine r_move rfl rfl ?_
  refine r_move rfl rfl ?_
  refine r_move rfl rfl ?_
  refine hl_call F.trade_list_may_cb rfl rfl (trade_list_may_meets (A := A) (B := B) (oa := oa) (oc := oc) (ka := ka) (kc := kc) (gl := gl) (ca := ca) (cb := cb) cs hs (hs.getD h.toNat default).1 hok) (List.Perm.refl _) ⟨(by repeat constructor), (by repeat constructor), (by repeat constructor), trivial⟩ fun y hy => ?_
  refine r_len_sl rfl T.u_ints rfl ?_
  refine r_eql rfl rfl rfl ?_
  refine r_assign rfl rfl ?_
  refine r_assign rfl rfl ?_
  refine hl_nil ?_
  refine then_n ?_
  refine hc_ret ?_
  have hv : ((shortT (trOf cs hs) h).getD (hs.getD h.toNat default).1, (shortT (trOf cs hs) h).isSome) = ((hs.getD h.toNat default).1, decide (((mayT (trOf cs hs) (hs.getD h.toNat default).1).length : Int) = 1)) := by
    rw [ht]
    by_cases h1 : (mayT (trOf cs hs) (hs.getD h.toNat default).1).length = 1
    · rw [if_pos h1, decide_eq_true (by omega)]; rfl
    · rw [if_neg h1, shortN, decide_eq_false (by omega)]; rfl
  exact ret2 () rfl rfl rfl (by show Value.tuple #[str ((shortT (trOf cs hs) h).getD (hs.getD h.toNat default).1), .bool (shortT (trOf cs hs) h).isSome] = _; rw [show (shortT (trOf cs hs) h).getD (hs.getD h.toNat default).1 = (hs.getD h.toNat default).1 from congrArg Prod.fst hv, show (shortT (trOf cs hs) h).isSome = _ from congrArg Prod.snd hv]) rfl trivial (List.nil_sublist _) trivial

theorem trade_Short_meets {A B : Option Addr} {ca cb : Nat} (cs : List Cl) (hs : List Hd) (h : Int) (hca : cs.length ≤ ca) (hcb : hs.length ≤ cb) (ha : ∀ h ∈ hs, h.2.2.2.l.length ≤ 1000000) : Meets Try.prog F.trade_Short [.agg #[.slice A cs.length ca, .slice B hs.length cb], int h] { LI := [Row A (rows cs), RowsF B hs Hd.row], val := fun _ : Unit => .tuple #[str (shortE (trOf cs hs) h).1, int (shortE (trOf cs hs) h).2] } := by
 refine meets_intro F.trade_Short_f rfl (Nat.le_of_ble_eq_true rfl) fun w0 => ?_
 refine hc_seq ?_
 refine hc_region ?_
 refine r_box rfl rfl fun gB => ?_
 refine r_assign rfl rfl ?_
 refine r_assign rfl rfl ?_
 refine hl_nil ?_
 refine then_n ?_
 refine hc_cut ⟨fun _ : Nat × OutC × OutC => True, fun x => [(1, int h), (2, .pointer (some ⟨gB, 0, none⟩)), (6, if askE (trOf cs hs) [h] = 0 then .pointer (some ⟨x.1, 0, none⟩) else .pointer none), (7, int (askE (trOf cs hs) [h]))], fun _ => [(gB, .cells #[.slice A cs.length ca, .slice B hs.length cb] T.api_Trades (0, 0))], fun x => (if askE (trOf cs hs) [h] = 0 then beginL cs hs A ca B cb x else []) ++ [Row A (rows cs), RowsF B hs Hd.row]⟩ ?_ ?_
 ·skip
  refine hc_region ?_
  first | refine r_loadA rfl T.row_api_Trades T.sz_api_Trades rfl (by repeat constructor) (by rfl) ?_ | refine r_loadB rfl T.row_api_Trades T.sz_api_Trades rfl (by repeat constructor) (by rfl) ?_ | refine r_loadS rfl T.row_api_Trades T.sz_api_Trades rfl rfl (cells_row (by repeat constructor) (rows_all (by omega))) ?_
  refine r_move rfl rfl ?_
  refine r_buildSlice _ rfl rfl (fun _ => T.bs_ints_1 ..) fun gS => ?_
  refine hl_letgo (rows [h]) (List.prefix_refl _) ?_
  refine hl_call F.trade_ask_cb rfl rfl (trade_ask_meets cs hs [h] hca hcb ha (by simp)) (List.Perm.refl _) ⟨(by repeat constructor), (by repeat constructor), (by repeat constructor), trivial⟩ fun x _ => ?_
  refine r_move rfl rfl ?_
  refine r_extract rfl rfl rfl ?_
  refine r_extract rfl rfl rfl ?_
  refine r_assign rfl rfl ?_
  refine r_assign rfl rfl ?_
  refine hl_nil ?_
  exact cut_n _ x trivial ⟨rfl, rfl, rfl, rfl, trivial⟩ (List.Sublist.refl _) (LSub.of_mem fun F hF => (List.mem_append.1 hF).elim (fun h1 => List.mem_append_left _ h1) (fun h2 => List.mem_append_right _ (List.mem_cons_of_mem _ h2)))
 ·refine fun x _ => ?_
  dsimp only
  refine hc_seq ?_
  refine hc_seq ?_
  refine hc_region ?_
  refine r_move rfl rfl ?_
  refine r_neq rfl rfl rfl ?_
  refine hl_nil ?_
  refine then_n ?_
  first | refine c_dec rfl (fun hb1 => ?_) (fun hb1 => ?_) | refine hc_cond rfl (fun hb1 => ?_) (fun hb1 => ?_)
  ·have hb1' := hb1; try simp at hb1'
   refine hc_seq ?_
   refine hc_region ?_
   refine r_move rfl rfl ?_
   refine r_assign rfl rfl ?_
   refine r_assign rfl rfl ?_
   refine hl_nil ?_
   refine then_n ?_
   refine hc_ret ?_
   refine then_ret ?_
   exact ret2 () rfl rfl rfl (by show Value.tuple #[str (shortE (trOf cs hs) h).1, int (shortE (trOf cs hs) h).2] = _; rw [shortE, if_pos hb1]; rfl) rfl trivial (List.nil_sublist _) trivial
  ·have hb1' := hb1; try simp at hb1'
   have h0 := Classical.not_not.1 hb1
   rw [if_pos h0, if_pos h0]
   have hch := ask_check h0
   have hin := ask_in h0 (List.mem_singleton.2 rfl)
   rw [hs_len] at hin
   have hok := tr_ok hch
   have h6 : cs.length ≤ 6 := hok.c6
   have h6h := hok.h6
   rw [hs_len] at h6h
   have hcl : ∀ i, i < cs.length → ClsOK cs i := hok.c
   obtain ⟨gl, ⟨oa, oc⟩, ⟨ka, kc⟩⟩ := x
   show HC _ _ _ _ _ [Row (some ⟨gl, 0, none⟩) [.slice A cs.length ca, .slice B hs.length cb, .slice oa cs.length oc, .slice ka hs.length kc], Row oa (rows (masksN cs cs.length)), Row ka (rows (kindsN hs hs.length)), Row A (rows cs), RowsF B hs Hd.row]
   refine hc_outerF (by repeat constructor) ?_
   refine hc_skip ?_
   refine then_n ?_
   refine hc_seq ?_
   refine hc_region ?_
   refine r_move rfl rfl ?_
   refine r_move rfl rfl ?_
   refine hl_call F.trade_list_short_cb rfl rfl (trade_list_short_meets (A := A) (B := B) (oa := oa) (oc := oc) (ka := ka) (kc := kc) (gl := gl) (ca := ca) (cb := cb) cs hs h hin.1 (by omega) hok) (List.Perm.refl _) ⟨(by repeat constructor), (by repeat constructor), (by repeat constructor), trivial⟩ fun _ _ => ?_
   refine r_move rfl rfl ?_
   refine r_extract rfl rfl rfl ?_
   refine r_extract rfl rfl rfl ?_
   refine r_assign rfl rfl ?_
   refine r_assign rfl rfl ?_
   refine hl_nil ?_
   refine then_n ?_
   refine hc_seq ?_
   refine hc_seq ?_
   refine hc_region ?_
   refine r_move rfl rfl ?_
   refine r_not rfl rfl ?_
   refine hl_nil ?_
   refine then_n ?_
   first | refine c_dec rfl (fun hb2 => ?_) (fun hb2 => ?_) | refine hc_cond rfl (fun hb2 => ?_) (fun hb2 => ?_)
   ·have hb2' := hb2; try simp at hb2'
    have h2 : shortT (trOf cs hs) h = none := by cases e : shortT (trOf cs hs) h with
     | none => rfl
     | some s => rw [e] at hb2; cases hb2
    refine hc_seq ?_
    refine hc_region ?_
    refine r_assign rfl rfl ?_
    refine r_assign rfl rfl ?_
    refine hl_nil ?_
    refine then_n ?_
    refine hc_ret ?_
    refine then_ret ?_
    exact ret2 () rfl rfl rfl (by show Value.tuple #[str (shortE (trOf cs hs) h).1, int (shortE (trOf cs hs) h).2] = _; rw [shortE, if_neg hb1, h2]; rfl) rfl trivial (List.nil_sublist _) trivial
   ·have hb2' := hb2; try simp at hb2'
    obtain ⟨s, hs2⟩ : ∃ s, shortT (trOf cs hs) h = some s := by cases e : shortT (trOf cs hs) h with
     | none => rw [e] at hb2; cases hb2
     | some s => exact ⟨s, rfl⟩
    refine hc_skip ?_
    refine then_n ?_
    refine hc_seq ?_
    refine hc_region ?_
    refine r_move rfl rfl ?_
    refine r_assign rfl rfl ?_
    refine r_assign rfl rfl ?_
    refine hl_nil ?_
    refine then_n ?_
    refine hc_ret ?_
    exact ret2 () rfl rfl rfl (by show Value.tuple #[str (shortE (trOf cs hs) h).1, int (shortE (trOf cs hs) h).2] = Value.tuple #[str ((shortT (trOf cs hs) h).getD (hs.getD h.toNat default).1), int 0]; rw [shortE, if_neg hb1, hs2]; rfl) rfl trivial (List.nil_sublist _) trivial

end Go.Proofs.Ytlpgheniajdkfaa
