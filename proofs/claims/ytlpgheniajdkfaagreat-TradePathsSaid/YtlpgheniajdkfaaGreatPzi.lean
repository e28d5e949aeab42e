/- Path, Under. -/
import Derived.Test.YtlpgheniajdkfaaGreatPm5
namespace Go.Proofs.YtlpgheniajdkfaaGreat
open Go Go.W
set_option linter.unusedVariables false
set_option linter.unusedSimpArgs false
set_option maxRecDepth 20000
attribute [local irreducible] HL HC HQ HB Row Rows2 Blk Facts

def pathE (t : Tr) (c : Int) : List Int × Int := if ¬ checkT t = 0 then ([], checkT t) else if 0 ≤ c ∧ c ≤ (t.cs.length : Int) - 1 then (pathT t.cs c, 0) else ([], 3)
def underE (t : Tr) (c : Int) : List Int × Int := if ¬ checkT t = 0 then ([], checkT t) else if 0 ≤ c ∧ c ≤ (t.cs.length : Int) - 1 then (underT t c, 0) else ([], 3)
def uB (t : Tr) (c : Int) (i : Nat) : Bool := decide (¬ (t.hs.getD i default).2.1 = -1) && decide (c ∈ pathT t.cs (t.hs.getD i default).2.1)
def underK (t : Tr) (c : Int) (k : Nat) : List Int := ((List.range k).filter (uB t c)).map fun i : Nat => (i : Int)
theorem underK_all (t : Tr) (c : Int) : underK t c t.hs.length = underT t c := rfl
theorem underK_succ (t : Tr) (c : Int) (k : Nat) : underK t c (k + 1) = if uB t c k = true then underK t c k ++ [(k : Int)] else underK t c k := by
  unfold underK
  rw [List.range_succ, List.filter_append, List.map_append, List.filter_cons, List.filter_nil]
  by_cases h : uB t c k = true
  · rw [if_pos h, if_pos h]; rfl
  · rw [if_neg h, if_neg h]; simp
theorem underK_len (t : Tr) (c : Int) (k : Nat) : (underK t c k).length ≤ k := by
  unfold underK
  rw [List.length_map]
  exact Nat.le_trans (List.length_filter_le _ _) (by simp)
theorem cls_in {cs : List Cl} {hs : List Hd} (hok : TrOK (trOf cs hs)) {i : Nat} (hi : i < hs.length) : -1 ≤ (hs.getD i default).2.1 ∧ (hs.getD i default).2.1 < (cs.length : Int) := by
  have hc := (hok.h i (by rw [hs_len]; exact hi)).c
  rw [show (trOf cs hs).hs.getD i default = (hs.getD i default).p from hd_get hi] at hc
  exact hc
theorem art_is {cs : List Cl} {hs : List Hd} (hok : TrOK (trOf cs hs)) {i : Nat} (hi : i < hs.length) : (kindOf (hs.getD i default)).isA = decide (¬ (hs.getD i default).2.1 = -1) := by
  rw [isA_of]
  by_cases h : (hs.getD i default).2.1 = -1
  · rw [decide_eq_false (not_not_intro h), Bool.and_false]
  · have hk := (hok.h i (by rw [hs_len]; exact hi)).kinds
    rw [show (trOf cs hs).hs.getD i default = (hs.getD i default).p from hd_get hi] at hk
    have h1 : (hs.getD i default).2.2.1 = -1 := by
      rcases hk with ⟨_, h1, _⟩ | ⟨h1, _⟩ | ⟨h1, _⟩
      · exact absurd h1 h
      · exact h1
      · exact h1
    rw [decide_eq_true h1, Bool.true_and]
theorem art_cls {h : Hd} (hA : (kindOf h).isA = true) : (kindOf h).cls = h.2.1 := by
  rw [isA_of, Bool.and_eq_true, decide_eq_true_eq, decide_eq_true_eq] at hA
  unfold kindOf
  rw [if_neg (not_not_intro hA.1), if_pos hA.2]
  rfl
theorem uB_at {cs : List Cl} {hs : List Hd} (c : Int) {i : Nat} (hi : i < hs.length) : uB (trOf cs hs) c i = (decide (¬ (hs.getD i default).2.1 = -1) && decide (c ∈ pathT cs (hs.getD i default).2.1)) := by
  unfold uB
  rw [show (trOf cs hs).hs.getD i default = (hs.getD i default).p from hd_get hi]
  rfl

theorem trade_Path_meets {A B : Option Addr} {ca cb : Nat} (cs : List Cl) (hs : List Hd) (c : Int) (hca : cs.length ≤ ca) (hcb : hs.length ≤ cb) (ha : ∀ h ∈ hs, h.2.2.2.l.length ≤ 1000000) : Meets Tryz.prog F.trade_Path [.agg #[.slice A cs.length ca, .slice B hs.length cb], int c] { LI := [Row A (rows cs), RowsF B hs Hd.row], inv := fun x : OutC => (pathE (trOf cs hs) c).1.length ≤ x.2, val := fun x => .tuple #[.slice x.1 (pathE (trOf cs hs) c).1.length x.2, int (pathE (trOf cs hs) c).2], LO := fun x => [Row x.1 (rows (pathE (trOf cs hs) c).1)] } := by
 refine meets_intro F.trade_Path_f rfl (Nat.le_of_ble_eq_true rfl) fun w0 => ?_
 refine hc_seq ?_
 refine hc_region ?_
 refine r_box rfl rfl fun gB => ?_
 refine r_assign rfl rfl ?_
 refine r_assign rfl rfl ?_
 refine hl_nil ?_
 refine then_n ?_
 refine hc_cut ⟨fun _ : Nat × OutC × OutC => True, fun x => [(1, int c), (2, .pointer (some ⟨gB, 0, none⟩)), (6, if checkT (trOf cs hs) = 0 then .pointer (some ⟨x.1, 0, none⟩) else .pointer none), (7, int (checkT (trOf cs hs)))], fun _ => [(gB, .cells #[.slice A cs.length ca, .slice B hs.length cb] T.api_Trades (0, 0))], fun x => (if checkT (trOf cs hs) = 0 then beginL cs hs A ca B cb x else []) ++ [Row A (rows cs), RowsF B hs Hd.row]⟩ ?_ ?_
 ·skip
  refine hc_region ?_
  refine r_loadA rfl T.row_api_Trades T.sz_api_Trades rfl (by repeat constructor) (by rfl) ?_
  refine hl_call F.trade_begin_cb rfl rfl (trade_begin_meets cs hs hca hcb ha) (List.Perm.refl _) ⟨(by repeat constructor), (by repeat constructor), trivial⟩ fun x _ => ?_
  refine r_move rfl rfl ?_
  refine r_extract rfl rfl rfl ?_
  refine r_extract rfl rfl rfl ?_
  refine r_assign rfl rfl ?_
  refine r_assign rfl rfl ?_
  refine hl_nil ?_
  exact cut_n _ x trivial ⟨rfl, rfl, rfl, rfl, trivial⟩ (List.Sublist.refl _) (LSub.of_mem fun F h => h)
 ·refine fun x _ => ?_
  dsimp only
  refine hc_seq ?_
  refine hc_block ?_
  refine hc_seq ?_
  refine hc_region ?_
  refine r_move rfl rfl ?_
  refine r_neq rfl rfl rfl ?_
  refine r_assign rfl rfl ?_
  refine hl_nil ?_
  refine then_n ?_
  refine c_dec rfl (fun hb1 => ?_) (fun hb1 => ?_)
  ·have hb1' := hb1; try simp at hb1'
   have hE : pathE (trOf cs hs) c = ([], checkT (trOf cs hs)) := by rw [pathE, if_pos hb1]
   refine hc_seq ?_
   refine hc_region ?_
   refine r_move rfl rfl ?_
   refine r_assign rfl rfl ?_
   refine r_assign rfl rfl ?_
   refine hl_nil ?_
   refine then_n ?_
   refine hc_ret ?_
   refine inb_ret ?_
   refine then_ret ?_
   refine hq_nilrow (α := Int) ?_
   exact ret2 (none, 0) rfl rfl rfl (by show Value.tuple #[.slice none (pathE (trOf cs hs) c).1.length 0, int (pathE (trOf cs hs) c).2] = _; rw [hE]; rfl) rfl (by show (pathE (trOf cs hs) c).1.length ≤ 0; rw [hE]; exact Nat.le_refl _) (List.nil_sublist _) (by show LSub _ [Row none (rows (pathE (trOf cs hs) c).1)]; rw [hE]; exact ⟨m0, trivial⟩)
  ·have hb1' := hb1; try simp at hb1'
   have h0 := Classical.not_not.1 hb1
   rw [if_pos h0, if_pos h0]
   have hok := tr_ok h0
   have h6 : cs.length ≤ 6 := hok.c6
   have h6h := hok.h6
   rw [hs_len] at h6h
   have hcl : ∀ i, i < cs.length → ClsOK cs i := hok.c
   obtain ⟨gl, ⟨oa, oc⟩, ⟨ka, kc⟩⟩ := x
   show HC _ _ _ _ _ [Row (some ⟨gl, 0, none⟩) [.slice A cs.length ca, .slice B hs.length cb, .slice oa cs.length oc, .slice ka hs.length kc], Row oa (rows (masksN cs cs.length)), Row ka (rows (kindsN hs hs.length)), Row A (rows cs), RowsF B hs Hd.row]
   refine hc_seq ?_
   refine hc_region ?_
   refine r_move rfl rfl ?_
   refine r_fieldAddr ⟨_, 0, none⟩ rfl rfl T.fa_api_Trades_0 rfl ?_
   refine r_load rfl T.cell_L_api_Class rfl (cell_own (by repeat constructor) rfl) ?_
   refine r_len_sl rfl T.u_L_api_Class rfl ?_
   refine r_sub _ rfl rfl rfl rfl (by unfold I64; omega) ?_
   refine hl_call F.trade_between_cb rfl rfl (trade_between_meets _ _ _) (List.Perm.refl _) trivial fun _ _ => ?_
   refine r_not rfl rfl ?_
   refine r_assign rfl rfl ?_
   refine hl_nil ?_
   refine then_n ?_
   refine hc_cond rfl (fun hb2 => ?_) (fun hb2 => ?_)
   ·have hb2' := hb2; try simp at hb2'
    have hE : pathE (trOf cs hs) c = ([], 3) := by rw [pathE, if_neg hb1, if_neg (nbw hb2)]
    refine hc_seq ?_
    refine hc_region ?_
    refine r_assign rfl rfl ?_
    refine r_assign rfl rfl ?_
    refine hl_nil ?_
    refine then_n ?_
    refine hc_ret ?_
    refine inb_ret ?_
    refine then_ret ?_
    refine hq_nilrow (α := Int) ?_
    exact ret2 (none, 0) rfl rfl rfl (by show Value.tuple #[.slice none (pathE (trOf cs hs) c).1.length 0, int (pathE (trOf cs hs) c).2] = _; rw [hE]; rfl) rfl (by show (pathE (trOf cs hs) c).1.length ≤ 0; rw [hE]; exact Nat.le_refl _) (List.nil_sublist _) (by show LSub _ [Row none (rows (pathE (trOf cs hs) c).1)]; rw [hE]; exact ⟨m0, trivial⟩)
   ·have hb2' := hb2; try simp at hb2'
    have hin : 0 ≤ c ∧ c ≤ (cs.length : Int) - 1 := bw hb2
    have hE : pathE (trOf cs hs) c = (pathT cs c, 0) := by rw [pathE, if_neg hb1]; exact if_pos hin
    refine hc_skip ?_
    refine inb_n ?_
    refine then_n ?_
    refine hc_seq ?_
    refine hc_region ?_
    refine r_move rfl rfl ?_
    refine r_move rfl rfl ?_
    refine hl_call F.trade_list_path_cb rfl rfl (trade_list_path_meets (A := A) (B := B) (oa := oa) (oc := oc) (ka := ka) (kc := kc) (gl := gl) (ca := ca) (cb := cb) cs hs c hin.1 (by omega) h6 hcl) (List.Perm.refl _) ⟨(by repeat constructor), (by repeat constructor), trivial⟩ fun y hy => ?_
    refine r_assign rfl rfl ?_
    refine r_assign rfl rfl ?_
    refine hl_nil ?_
    refine then_n ?_
    refine hc_ret ?_
    exact ret2 y rfl rfl rfl (by show Value.tuple #[.slice y.1 (pathE (trOf cs hs) c).1.length y.2, int (pathE (trOf cs hs) c).2] = _; rw [hE]) rfl (by show (pathE (trOf cs hs) c).1.length ≤ y.2; rw [hE]; exact hy) (List.nil_sublist _) (by show LSub _ [Row y.1 (rows (pathE (trOf cs hs) c).1)]; rw [hE]; exact ⟨m0, trivial⟩)

set_option maxHeartbeats 1000000 in
theorem trade_Under_meets {A B : Option Addr} {ca cb : Nat} (cs : List Cl) (hs : List Hd) (c : Int) (hca : cs.length ≤ ca) (hcb : hs.length ≤ cb) (ha : ∀ h ∈ hs, h.2.2.2.l.length ≤ 1000000) : Meets Tryz.prog F.trade_Under [.agg #[.slice A cs.length ca, .slice B hs.length cb], int c] { LI := [Row A (rows cs), RowsF B hs Hd.row], inv := fun x : OutC => (underE (trOf cs hs) c).1.length ≤ x.2, val := fun x => .tuple #[.slice x.1 (underE (trOf cs hs) c).1.length x.2, int (underE (trOf cs hs) c).2], LO := fun x => [Row x.1 (rows (underE (trOf cs hs) c).1)] } := by
 refine meets_intro F.trade_Under_f rfl (Nat.le_of_ble_eq_true rfl) fun w0 => ?_
 refine hc_seq ?_
 refine hc_region ?_
 refine r_box rfl rfl fun gB => ?_
 refine r_assign rfl rfl ?_
 refine r_assign rfl rfl ?_
 refine hl_nil ?_
 refine then_n ?_
 refine hc_cut ⟨fun _ : Nat × OutC × OutC => True, fun x => [(1, int c), (2, .pointer (some ⟨gB, 0, none⟩)), (6, if checkT (trOf cs hs) = 0 then .pointer (some ⟨x.1, 0, none⟩) else .pointer none), (7, int (checkT (trOf cs hs)))], fun _ => [(gB, .cells #[.slice A cs.length ca, .slice B hs.length cb] T.api_Trades (0, 0))], fun x => (if checkT (trOf cs hs) = 0 then beginL cs hs A ca B cb x else []) ++ [Row A (rows cs), RowsF B hs Hd.row]⟩ ?_ ?_
 ·skip
  refine hc_region ?_
  refine r_loadA rfl T.row_api_Trades T.sz_api_Trades rfl (by repeat constructor) (by rfl) ?_
  refine hl_call F.trade_begin_cb rfl rfl (trade_begin_meets cs hs hca hcb ha) (List.Perm.refl _) ⟨(by repeat constructor), (by repeat constructor), trivial⟩ fun x _ => ?_
  refine r_move rfl rfl ?_
  refine r_extract rfl rfl rfl ?_
  refine r_extract rfl rfl rfl ?_
  refine r_assign rfl rfl ?_
  refine r_assign rfl rfl ?_
  refine hl_nil ?_
  exact cut_n _ x trivial ⟨rfl, rfl, rfl, rfl, trivial⟩ (List.Sublist.refl _) (LSub.of_mem fun F h => h)
 ·refine fun x _ => ?_
  dsimp only
  refine hc_seq ?_
  refine hc_block ?_
  refine hc_seq ?_
  refine hc_region ?_
  refine r_move rfl rfl ?_
  refine r_neq rfl rfl rfl ?_
  refine r_assign rfl rfl ?_
  refine hl_nil ?_
  refine then_n ?_
  refine c_dec rfl (fun hb1 => ?_) (fun hb1 => ?_)
  ·have hb1' := hb1; try simp at hb1'
   have hE : underE (trOf cs hs) c = ([], checkT (trOf cs hs)) := by rw [underE, if_pos hb1]
   refine hc_seq ?_
   refine hc_region ?_
   refine r_move rfl rfl ?_
   refine r_assign rfl rfl ?_
   refine r_assign rfl rfl ?_
   refine hl_nil ?_
   refine then_n ?_
   refine hc_ret ?_
   refine inb_ret ?_
   refine then_ret ?_
   refine hq_nilrow (α := Int) ?_
   exact ret2 (none, 0) rfl rfl rfl (by show Value.tuple #[.slice none (underE (trOf cs hs) c).1.length 0, int (underE (trOf cs hs) c).2] = _; rw [hE]; rfl) rfl (by show (underE (trOf cs hs) c).1.length ≤ 0; rw [hE]; exact Nat.le_refl _) (List.nil_sublist _) (by show LSub _ [Row none (rows (underE (trOf cs hs) c).1)]; rw [hE]; exact ⟨m0, trivial⟩)
  ·have hb1' := hb1; try simp at hb1'
   have h0 := Classical.not_not.1 hb1
   rw [if_pos h0, if_pos h0]
   have hok := tr_ok h0
   have h6 : cs.length ≤ 6 := hok.c6
   have h6h := hok.h6
   rw [hs_len] at h6h
   have hcl : ∀ i, i < cs.length → ClsOK cs i := hok.c
   obtain ⟨gl, ⟨oa, oc⟩, ⟨ka, kc⟩⟩ := x
   show HC _ _ _ _ _ [Row (some ⟨gl, 0, none⟩) [.slice A cs.length ca, .slice B hs.length cb, .slice oa cs.length oc, .slice ka hs.length kc], Row oa (rows (masksN cs cs.length)), Row ka (rows (kindsN hs hs.length)), Row A (rows cs), RowsF B hs Hd.row]
   refine hc_seq ?_
   refine hc_region ?_
   refine r_move rfl rfl ?_
   refine r_fieldAddr ⟨_, 0, none⟩ rfl rfl T.fa_api_Trades_0 rfl ?_
   refine r_load rfl T.cell_L_api_Class rfl (cell_own (by repeat constructor) rfl) ?_
   refine r_len_sl rfl T.u_L_api_Class rfl ?_
   refine r_sub _ rfl rfl rfl rfl (by unfold I64; omega) ?_
   refine hl_call F.trade_between_cb rfl rfl (trade_between_meets _ _ _) (List.Perm.refl _) trivial fun _ _ => ?_
   refine r_not rfl rfl ?_
   refine r_assign rfl rfl ?_
   refine hl_nil ?_
   refine then_n ?_
   refine hc_cond rfl (fun hb2 => ?_) (fun hb2 => ?_)
   ·have hb2' := hb2; try simp at hb2'
    have hE : underE (trOf cs hs) c = ([], 3) := by rw [underE, if_neg hb1, if_neg (nbw hb2)]
    refine hc_seq ?_
    refine hc_region ?_
    refine r_assign rfl rfl ?_
    refine r_assign rfl rfl ?_
    refine hl_nil ?_
    refine then_n ?_
    refine hc_ret ?_
    refine inb_ret ?_
    refine then_ret ?_
    refine hq_nilrow (α := Int) ?_
    exact ret2 (none, 0) rfl rfl rfl (by show Value.tuple #[.slice none (underE (trOf cs hs) c).1.length 0, int (underE (trOf cs hs) c).2] = _; rw [hE]; rfl) rfl (by show (underE (trOf cs hs) c).1.length ≤ 0; rw [hE]; exact Nat.le_refl _) (List.nil_sublist _) (by show LSub _ [Row none (rows (underE (trOf cs hs) c).1)]; rw [hE]; exact ⟨m0, trivial⟩)
   ·have hb2' := hb2; try simp at hb2'
    have hin : 0 ≤ c ∧ c ≤ (cs.length : Int) - 1 := bw hb2
    have hE : underE (trOf cs hs) c = (underT (trOf cs hs) c, 0) := by rw [underE, if_neg hb1]; exact if_pos hin
    have hln := hs_len cs hs
    refine hc_skip ?_
    refine inb_n ?_
    refine then_n ?_
    refine hc_seq ?_
    refine hc_region ?_
    refine r_assign rfl rfl ?_
    refine hl_nil ?_
    refine then_n ?_
    refine hc_seq ?_
    refine hc_seq ?_
    refine hc_region ?_
    refine r_move rfl rfl ?_
    refine r_nilCheck rfl rfl ?_
    refine r_fieldAddr ⟨_, 3, none⟩ rfl rfl T.fa_trade_list_2 rfl ?_
    refine r_load rfl T.cell_L_trade_kind rfl (cell_rowg (by repeat constructor) rfl) ?_
    refine r_len_sl rfl T.u_L_trade_kind rfl ?_
    refine r_move rfl rfl ?_
    refine hl_nil ?_
    refine then_n ?_
    refine hc_block ?_
    refine hc_loop (β := Nat × OutC × Hp) ⟨fun x => x.1 ≤ hs.length ∧ Grow T.int 1 x.2.1.1 (underK (trOf cs hs) c x.1).length x.2.1.2 (rows (underK (trOf cs hs) c x.1)) x.2.2, fun x => [(1, int c), (6, .pointer (some ⟨gl, 0, none⟩)), (8, .slice x.2.1.1 (underK (trOf cs hs) c x.1).length x.2.1.2), (33, .slice ka hs.length kc), (34, int hs.length), (35, int x.1)], fun x => x.2.2, fun _ => [Row (some ⟨gl, 0, none⟩) [.slice A cs.length ca, .slice B hs.length cb, .slice oa cs.length oc, .slice ka hs.length kc], Row oa (rows (masksN cs cs.length)), Row ka (rows (kindsN hs hs.length))]⟩ (fun x => hs.length - x.1) (0, (none, 0), []) ⟨Nat.zero_le _, Grow.nil _ _⟩ ⟨rfl, rfl, rfl, rfl, rfl, rfl, trivial⟩ (List.nil_sublist _) ⟨(by repeat constructor), (by repeat constructor), (by repeat constructor), trivial⟩ fun x hx => ?_
    obtain ⟨k, ⟨na, nc⟩, og⟩ := x
    obtain ⟨hk, hG⟩ := hx
    simp only at hk hG
    refine hc_seq ?_
    refine hc_region ?_
    refine r_lss rfl rfl rfl ?_
    refine hl_nil ?_
    refine then_n ?_
    refine hc_seq ?_
    refine c_dec rfl (fun hb3 => ?_) (fun hb3 => ?_)
    ·have hb3' := hb3; try simp at hb3'
     have hk2 : k < hs.length := by omega
     have hul := underK_len (trOf cs hs) c k
     have huc := underK_succ (trOf cs hs) c k
     have hua := uB_at (cs := cs) c hk2
     have hia := art_is hok hk2
     have hcc := cls_in hok hk2
     have hac := art_cls (h := hs.getD k default)
     refine hc_skip ?_
     refine then_n ?_
     refine hc_seq ?_
     refine hc_block ?_
     refine hc_seq ?_
     refine hc_region ?_
     refine r_move rfl rfl ?_
     refine r_elem (α := Kd) (kindsN hs hs.length) k rfl T.u_L_trade_kind T.sz_trade_kind rfl rfl rfl (by repeat constructor) (kinds_len (Nat.le_refl _)).symm (by rw [kinds_len (Nat.le_refl _)]; exact hk2) (by decide) ?_
     refine r_load (v := (kindOf (hs.getD k default)).v) rfl T.cell_trade_kind rfl (cell_row (by repeat constructor) (rows_get0 (by rw [kinds_len (Nat.le_refl _)]; exact hk2) (by rw [kind_get hk2]; rfl))) ?_
     refine r_assign rfl rfl ?_
     refine r_assign rfl rfl ?_
     refine hl_nil ?_
     refine then_n ?_
     refine hc_seq ?_
     refine hc_region ?_
     refine r_move rfl rfl ?_
     refine r_asA (kd := (kindOf (hs.getD k default))) rfl rfl rfl ?_
     refine r_move rfl rfl ?_
     refine r_extract rfl rfl rfl ?_
     refine r_extract rfl rfl rfl ?_
     refine r_alloc rfl (fun _ => T.al_trade_article _) fun gA => ?_
     refine r_storeS (cs := #[int (kindOf (hs.getD k default)).cls, .slice (kindOf (hs.getD k default)).als.a (kindOf (hs.getD k default)).als.l.length (kindOf (hs.getD k default)).als.c]) rfl rfl (.refl _) T.sz_trade_article (by rfl) (by rfl) ?_
     refine r_assign rfl rfl ?_
     refine hl_nil ?_
     refine then_n ?_
     refine hc_cut ⟨fun _ : Unit => True, fun _ => [(1, int c), (6, .pointer (some ⟨gl, 0, none⟩)), (8, .slice (na, nc).1 (underK (trOf cs hs) c k).length (na, nc).2), (33, .slice ka hs.length kc), (34, int hs.length), (35, int k), (9, int k), (57, .bool (uB (trOf cs hs) c k))], fun _ => og, fun _ => [Row (some ⟨gl, 0, none⟩) [.slice A cs.length ca, .slice B hs.length cb, .slice oa cs.length oc, .slice ka hs.length kc], Row oa (rows (masksN cs cs.length)), Row ka (rows (kindsN hs hs.length))]⟩ ?_ ?_
     ·skip
      refine hc_letgoB ?_
      refine hc_drawW (og) ([]) (by first | (rw [List.append_nil]; done) | (rw [List.append_nil]; exact List.Perm.refl _)) 11 [] mixed (by decide) (by decide) (by decide) rfl rfl rfl ?_
      apply hb_ex _ rfl rfl rfl
      ·intro w1
       refine r_move rfl rfl ?_
       refine hl_nil ?_
       exact qe_done rfl
      apply hb_ex _ rfl rfl rfl
      ·intro w1
       refine r_move rfl rfl ?_
       refine hl_nil ?_
       exact qe_done rfl
      refine hb_split (t := 46) (want := true) rfl ?_ ?_
      ·intro hg1; have hg1' := hg1; try simp at hg1'
       have hA : (kindOf (hs.getD k default)).isA = true := by simpa using hg1
       have hcl2 := hac hA
       rw [hia, decide_eq_true_eq] at hA
       have hnn : 0 ≤ (hs.getD k default).2.1 := by omega
       apply hb_ex _ rfl rfl rfl
       ·intro w1
        refine g_yes rfl rfl hg1 ?_
        refine r_move rfl rfl ?_
        refine hl_nil ?_
        exact qe_done rfl
       apply hb_ex _ rfl rfl rfl
       ·intro w1
        refine g_yes rfl rfl hg1 ?_
        refine r_nilCheck rfl rfl ?_
        refine hl_nil ?_
        exact qe_done rfl
       apply hb_ex _ rfl rfl rfl
       ·intro w1
        refine g_yes rfl rfl hg1 ?_
        refine r_fieldAddr ⟨_, 2, none⟩ rfl rfl T.fa_trade_list_1 rfl ?_
        refine hl_nil ?_
        exact qe_done rfl
       apply hb_ex _ rfl rfl rfl
       ·intro w1
        refine g_yes rfl rfl hg1 ?_
        refine r_load rfl T.cell_L_trade_classes rfl (cell_rowg (by repeat constructor) rfl) ?_
        refine hl_nil ?_
        exact qe_done rfl
       apply hb_ex _ rfl rfl rfl
       ·intro w1
        refine g_yes rfl rfl hg1 ?_
        refine r_fieldAddr ⟨_, 0, none⟩ rfl rfl T.fa_trade_article_0 rfl ?_
        refine hl_nil ?_
        exact qe_done rfl
       apply hb_ex _ rfl rfl rfl
       ·intro w1
        refine g_yes rfl rfl hg1 ?_
        refine r_load rfl T.cell_int rfl (cell_blk (by repeat constructor) rfl) ?_
        refine hl_nil ?_
        exact qe_done rfl
       apply hb_ex _ rfl rfl rfl
       ·intro w1
        refine g_yes rfl rfl hg1 ?_
        refine r_elem (α := Nat) (masksN cs cs.length) (hs.getD k default).2.1.toNat rfl T.u_L_trade_classes T.sz_trade_classes rfl rfl (by rw [hcl2]; exact (Int.toNat_of_nonneg hnn).symm) (by repeat constructor) (masks_len _ _).symm (by rw [masks_len]; omega) (by decide) ?_
        refine hl_nil ?_
        exact qe_done rfl
       apply hb_ex _ rfl rfl rfl
       ·intro w1
        refine g_yes rfl rfl hg1 ?_
        refine r_load (v := u8 (maskOf (pathT cs (hs.getD k default).2.1))) rfl T.cell_trade_classes rfl (cell_row (by repeat constructor) (rows_get0 (by rw [masks_len]; omega) (by rw [masks_get (by omega), Int.toNat_of_nonneg hnn]; rfl))) ?_
        refine hl_nil ?_
        exact qe_done rfl
       apply hb_ex _ rfl rfl rfl
       ·intro w1
        refine g_yes rfl rfl hg1 ?_
        refine r_move rfl rfl ?_
        refine hl_nil ?_
        exact qe_done rfl
       refine hb_nil ⟨rfl, ?_⟩
       refine g_yes rfl rfl hg1 ?_
       refine hl_call (vs := [u8 (maskOf (pathT cs (hs.getD k default).2.1)), int (c.toNat : Int)]) F.trade_classes_has_cb rfl (by rw [Int.toNat_of_nonneg hin.1]; rfl) (trade_classes_has_meets (maskOf (pathT cs (hs.getD k default).2.1)) c.toNat (mask_path h6 hcl hcc.2) (by omega)) (List.Perm.refl _) trivial fun _ _ => ?_
       refine p_t rfl rfl (bt1 hg1) rfl ?_
       refine hl_nil ?_
       exact cut_n _ () trivial ⟨rfl, rfl, rfl, rfl, rfl, rfl, rfl, congrArg (fun b => some (Value.bool b)) (by rw [hua, decide_eq_true hA, Bool.true_and, mask_test (fun x hx => ((path_asc cs hcl (hs.getD k default).2.1.toNat _ (Nat.le_refl _) hcc.2).2 x hx).1), Int.toNat_of_nonneg hin.1]), trivial⟩ (by first | (rw [List.append_nil]; exact List.Sublist.refl _) | (show List.Sublist og (og ++ []); rw [List.append_nil]; exact List.Sublist.refl _)) ⟨(by repeat constructor), (by repeat constructor), (by repeat constructor), trivial⟩
      ·intro hg1; have hg1' := hg1; try simp at hg1'
       have hA : (kindOf (hs.getD k default)).isA = false := by simpa using hg1
       rw [hia] at hA
       apply hb_ex _ rfl rfl rfl
       ·intro w1
        refine g_no rfl rfl rfl rfl rfl hg1 ?_
        refine hl_nil ?_
        exact qe_done rfl
       apply hb_ex _ rfl rfl rfl
       ·intro w1
        refine g_no rfl rfl rfl rfl rfl hg1 ?_
        refine hl_nil ?_
        exact qe_done rfl
       apply hb_ex _ rfl rfl rfl
       ·intro w1
        refine g_no rfl rfl rfl rfl rfl hg1 ?_
        refine hl_nil ?_
        exact qe_done rfl
       apply hb_ex _ rfl rfl rfl
       ·intro w1
        refine g_no rfl rfl rfl rfl rfl hg1 ?_
        refine hl_nil ?_
        exact qe_done rfl
       apply hb_ex _ rfl rfl rfl
       ·intro w1
        refine g_no rfl rfl rfl rfl rfl hg1 ?_
        refine hl_nil ?_
        exact qe_done rfl
       apply hb_ex _ rfl rfl rfl
       ·intro w1
        refine g_no rfl rfl rfl rfl rfl hg1 ?_
        refine hl_nil ?_
        exact qe_done rfl
       apply hb_ex _ rfl rfl rfl
       ·intro w1
        refine g_no rfl rfl rfl rfl rfl hg1 ?_
        refine hl_nil ?_
        exact qe_done rfl
       apply hb_ex _ rfl rfl rfl
       ·intro w1
        refine g_no rfl rfl rfl rfl rfl hg1 ?_
        refine hl_nil ?_
        exact qe_done rfl
       apply hb_ex _ rfl rfl rfl
       ·intro w1
        refine g_no rfl rfl rfl rfl rfl hg1 ?_
        refine hl_nil ?_
        exact qe_done rfl
       refine hb_nil ⟨rfl, ?_⟩
       refine g_no rfl rfl rfl rfl rfl hg1 ?_
       refine p_f rfl rfl (bf2 hg1) rfl ?_
       refine hl_nil ?_
       exact cut_n _ () trivial ⟨rfl, rfl, rfl, rfl, rfl, rfl, rfl, congrArg (fun b => some (Value.bool b)) (by rw [hua, hA, Bool.false_and]), trivial⟩ (by first | (rw [List.append_nil]; exact List.Sublist.refl _) | (show List.Sublist og (og ++ []); rw [List.append_nil]; exact List.Sublist.refl _)) ⟨(by repeat constructor), (by repeat constructor), (by repeat constructor), trivial⟩
     ·refine fun _ _ => ?_
      refine hc_cond rfl (fun hb4 => ?_) (fun hb4 => ?_)
      ·have hb4' := hb4; try simp at hb4'
       rw [if_pos hb4] at huc
       refine hc_region ?_
       refine r_move rfl rfl ?_
       refine r_move rfl rfl ?_
       refine r_buildSlice _ rfl rfl (fun _ => T.bs_ints_1 ..) fun gS => ?_
       refine hl_letgo (rows [(k : Int)]) (List.prefix_refl _) ?_
       refine r_append ((underK (trOf cs hs) c k).length + 1) (rows ((underK (trOf cs hs) c k) ++ [(k : Int)])) T.el_ints rfl rfl rfl hG (hp' := []) (by first | (rw [List.append_nil]; done) | (rw [List.append_nil]; exact List.Perm.refl _)) (Src.row (news := rows [(k : Int)]) (m := 1) m0 rfl (rows_one _) (by decide)) rfl (rows_append _ _).symm (by unfold maxLen; omega) (by omega) fun A' c' og' hG' => ?_
       refine r_assign rfl rfl ?_
       refine hl_nil ?_
       refine inb_n ?_
       refine then_n ?_
       refine hc_region ?_
       refine r_add _ rfl rfl rfl rfl (by unfold I64; omega) ?_
       refine r_move rfl rfl ?_
       refine hl_nil ?_
       exact again _ (k + 1, (A', c'), og') ⟨by show k + 1 ≤ hs.length; omega, by show Grow _ _ _ (underK (trOf cs hs) c (k + 1)).length _ (rows (underK (trOf cs hs) c (k + 1))) _; rw [huc, List.length_append]; exact hG'⟩ (by show hs.length - (k + 1) < hs.length - k; omega) ⟨rfl, rfl, by show some (Value.slice A' ((underK (trOf cs hs) c k).length + 1) c') = some (Value.slice A' (underK (trOf cs hs) c (k + 1)).length c'); rw [huc, List.length_append]; rfl, rfl, rfl, rfl, trivial⟩ (List.sublist_append_left _ _) ⟨(by repeat constructor), (by repeat constructor), (by repeat constructor), trivial⟩
      ·have hb4' := hb4; try simp at hb4'
       rw [if_neg (by rw [hb4]; decide)] at huc
       refine hc_skip ?_
       refine inb_n ?_
       refine then_n ?_
       refine hc_region ?_
       refine r_add _ rfl rfl rfl rfl (by unfold I64; omega) ?_
       refine r_move rfl rfl ?_
       refine hl_nil ?_
       exact again _ (k + 1, (na, nc), og) ⟨by show k + 1 ≤ hs.length; omega, by show Grow _ _ _ (underK (trOf cs hs) c (k + 1)).length _ (rows (underK (trOf cs hs) c (k + 1))) _; rw [huc]; exact hG⟩ (by show hs.length - (k + 1) < hs.length - k; omega) ⟨rfl, rfl, by show some (Value.slice na (underK (trOf cs hs) c k).length nc) = some (Value.slice na (underK (trOf cs hs) c (k + 1)).length nc); rw [huc], rfl, rfl, rfl, trivial⟩ (List.Sublist.refl _) ⟨(by repeat constructor), (by repeat constructor), (by repeat constructor), trivial⟩
    ·have hb3' := hb3; try simp at hb3'
     obtain rfl : k = hs.length := by omega
     have hG2 := hG
     rw [show (underK (trOf cs hs) c hs.length) = underT (trOf cs hs) c from by rw [← underK_all, hln]] at hG2
     refine hc_exit ?_
     refine then_exit ?_
     refine then_exit ?_
     refine inb_hit ?_
     refine then_n ?_
     refine hc_seq ?_
     refine hc_region ?_
     refine r_move rfl rfl ?_
     refine r_assign rfl rfl ?_
     refine r_assign rfl rfl ?_
     refine hl_nil ?_
     refine then_n ?_
     refine hc_ret ?_
     refine hq_grown0 hG2 ?_
     exact ret2 (na, nc) rfl rfl rfl (by show Value.tuple #[.slice na (underE (trOf cs hs) c).1.length nc, int (underE (trOf cs hs) c).2] = Value.tuple #[.slice na (underK (trOf cs hs) c hs.length).length nc, int 0]; rw [hE, show (underK (trOf cs hs) c hs.length) = underT (trOf cs hs) c from by rw [← underK_all, hln]]) rfl (by show (underE (trOf cs hs) c).1.length ≤ nc; rw [hE]; exact hG2.le) (List.nil_sublist _) (by show LSub _ [Row na (rows (underE (trOf cs hs) c).1)]; rw [hE]; exact ⟨m0, trivial⟩)

theorem path_is {A B : Option Addr} {ca cb : Nat} (cs : List Cl) (hs : List Hd) (c : Int) (hca : cs.length ≤ ca) (hcb : hs.length ≤ cb) (ha : ∀ h ∈ hs, h.2.2.2.l.length ≤ 1000000) (h0 : checkT (trOf cs hs) = 0) (hc : 0 ≤ c ∧ c ≤ (cs.length : Int) - 1) : Meets Tryz.prog F.trade_Path [.agg #[.slice A cs.length ca, .slice B hs.length cb], int c] { LI := [Row A (rows cs), RowsF B hs Hd.row], inv := fun x : OutC => (pathT cs c).length ≤ x.2, val := fun x => .tuple #[.slice x.1 (pathT cs c).length x.2, int 0], LO := fun x => [Row x.1 (rows (pathT cs c))] } := by
  have h := trade_Path_meets (A := A) (B := B) (ca := ca) (cb := cb) cs hs c hca hcb ha
  rw [show pathE (trOf cs hs) c = (pathT cs c, 0) by rw [pathE, if_neg (not_not_intro h0)]; exact if_pos hc] at h
  exact h
theorem under_is {A B : Option Addr} {ca cb : Nat} (cs : List Cl) (hs : List Hd) (c : Int) (hca : cs.length ≤ ca) (hcb : hs.length ≤ cb) (ha : ∀ h ∈ hs, h.2.2.2.l.length ≤ 1000000) (h0 : checkT (trOf cs hs) = 0) (hc : 0 ≤ c ∧ c ≤ (cs.length : Int) - 1) : Meets Tryz.prog F.trade_Under [.agg #[.slice A cs.length ca, .slice B hs.length cb], int c] { LI := [Row A (rows cs), RowsF B hs Hd.row], inv := fun x : OutC => (underT (trOf cs hs) c).length ≤ x.2, val := fun x => .tuple #[.slice x.1 (underT (trOf cs hs) c).length x.2, int 0], LO := fun x => [Row x.1 (rows (underT (trOf cs hs) c))] } := by
  have h := trade_Under_meets (A := A) (B := B) (ca := ca) (cb := cb) cs hs c hca hcb ha
  rw [show underE (trOf cs hs) c = (underT (trOf cs hs) c, 0) by rw [underE, if_neg (not_not_intro h0)]; exact if_pos hc] at h
  exact h

end Go.Proofs.YtlpgheniajdkfaaGreat
