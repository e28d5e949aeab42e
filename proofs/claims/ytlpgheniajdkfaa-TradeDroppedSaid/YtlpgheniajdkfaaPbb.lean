/- Join; the examples that every statement of the layer asks for. -/
import Derived.Test.YtlpgheniajdkfaaPba
import Derived.Test.YtlpgheniajdkfaaPaq
namespace Go.Proofs.Ytlpgheniajdkfaa
open Go Go.W
set_option linter.unusedVariables false
set_option linter.unusedSimpArgs false
set_option maxRecDepth 20000
attribute [local irreducible] HL HC HQ HB Row Rows2 Blk Facts

def joinE (t : Tr) (h s : Int) : List (List Int) × Int := if ¬ askE t [h] = 0 then ([], askE t [h]) else if ¬ (0 ≤ s ∧ s ≤ 6) then ([], 1) else if (joinT t h s).isSome = false then ([], 11) else (pairsOf ((joinT t h s).getD []), 0)

set_option maxHeartbeats 1000000 in
theorem trade_Join_meets {A B : Option Addr} {ca cb : Nat} (cs : List Cl) (hs : List Hd) (h s : Int) (hca : cs.length ≤ ca) (hcb : hs.length ≤ cb) (ha : ∀ h ∈ hs, h.2.2.2.l.length ≤ 1000000) : Meets Try.prog F.trade_Join [.agg #[.slice A cs.length ca, .slice B hs.length cb], int h, int s] { LI := [Row A (rows cs), RowsF B hs Hd.row], inv := fun x : OutS => lsts x.1 = (joinE (trOf cs hs) h s).1, val := fun x => .tuple #[.slice x.2.1 x.1.length x.2.2, int (joinE (trOf cs hs) h s).2], LO := fun x => [Rows2 x.2.1 x.1] } := by
 refine meets_intro F.trade_Join_f rfl (Nat.le_of_ble_eq_true rfl) fun w0 => ?_
 refine hc_seq ?_
 refine hc_region ?_
 refine r_box rfl rfl fun gB => ?_
 refine r_assign rfl rfl ?_
 refine r_assign rfl rfl ?_
 refine hl_nil ?_
 refine then_n ?_
 refine hc_cut ⟨fun _ : Nat × OutC × OutC => True, fun x => [(1, int h), (2, int s), (3, .pointer (some ⟨gB, 0, none⟩)), (8, if askE (trOf cs hs) [h] = 0 then .pointer (some ⟨x.1, 0, none⟩) else .pointer none), (9, int (askE (trOf cs hs) [h]))], fun _ => [(gB, .cells #[.slice A cs.length ca, .slice B hs.length cb] T.api_Trades (0, 0))], fun x => (if askE (trOf cs hs) [h] = 0 then beginL cs hs A ca B cb x else []) ++ [Row A (rows cs), RowsF B hs Hd.row]⟩ ?_ ?_
 ·skip
  refine hc_region ?_
  first | refine r_loadA rfl T.row_api_Trades T.sz_api_Trades rfl (by repeat constructor) (by rfl) ?_ | refine r_loadB rfl T.row_api_Trades T.sz_api_Trades rfl (by repeat constructor) (by rfl) ?_ | refine r_loadS rfl T.row_api_Trades T.sz_api_Trades rfl rfl (cells_row (by repeat constructor) (rows_all (by omega))) ?_
  refine r_move rfl rfl ?_
  refine r_buildSlice _ rfl rfl (fun _ => T.bs_ints_1 ..) fun gS => ?_
  refine hl_letgo (rows [h]) (List.prefix_refl _) ?_
  refine hl_call F.trade_ask_cb rfl rfl (trade_ask_meets cs hs [h] hca hcb ha (by simp)) (List.Perm.refl _) ⟨(by repeat constructor), (by repeat constructor), (by repeat constructor), trivial⟩ fun x _ => ?_
  refine r_move rfl rfl ?_
  refine r_extract rfl rfl rfl ?_
  refine r_extract rfl rfl rfl ?_
  refine r_assign rfl rfl ?_
  refine r_assign rfl rfl ?_
  refine hl_nil ?_
  exact cut_n _ x trivial ⟨rfl, rfl, rfl, rfl, rfl, trivial⟩ (List.Sublist.refl _) (LSub.of_mem fun F hF => (List.mem_append.1 hF).elim (fun h1 => List.mem_append_left _ h1) (fun h2 => List.mem_append_right _ (List.mem_cons_of_mem _ h2)))
 ·refine fun x _ => ?_
  dsimp only
  refine hc_seq ?_
  refine hc_block ?_
  refine hc_seq ?_
  refine hc_region ?_
  refine r_move rfl rfl ?_
  refine r_neq rfl rfl rfl ?_
  refine r_assign rfl rfl ?_
  refine hl_nil ?_
  refine then_n ?_
  first | refine c_dec rfl (fun hb1 => ?_) (fun hb1 => ?_) | refine hc_cond rfl (fun hb1 => ?_) (fun hb1 => ?_)
  ·have hb1' := hb1; try simp at hb1'
   refine hc_seq ?_
   refine hc_region ?_
   refine r_move rfl rfl ?_
   refine r_assign rfl rfl ?_
   refine r_assign rfl rfl ?_
   refine hl_nil ?_
   refine then_n ?_
   refine hc_ret ?_
   refine inb_ret ?_
   refine then_ret ?_
   refine hq_nilrow (α := Sl Int) ?_
   refine hq_facts (Fs := ([] : List (Sl Int)).map fun p => Row p.a (rows p.l)) (by intro F hF; simp at hF) ?_
   refine hq_rows2F (A := none) (ps := ([] : List (Sl Int))) (by repeat constructor) (by repeat constructor) ?_
   have hE : (joinE (trOf cs hs) h s) = ([], askE (trOf cs hs) [h]) := by unfold joinE; rw [if_pos hb1]
   exact ret2 (([] : List (Sl Int)), (none, 0)) rfl rfl rfl (by show Value.tuple #[.slice none 0 0, int ((joinE (trOf cs hs) h s)).2] = _; rw [hE]) rfl (by show [] = ((joinE (trOf cs hs) h s)).1; rw [hE]) (List.nil_sublist _) ⟨m0, trivial⟩
  ·have hb1' := hb1; try simp at hb1'
   have h0 := Classical.not_not.1 hb1
   rw [if_pos h0, if_pos h0]
   have hch := ask_check h0
   have hin := ask_in h0 (List.mem_singleton.2 rfl)
   rw [hs_len] at hin
   have hok := tr_ok hch
   have h6 : cs.length ≤ 6 := hok.c6
   have h6h := hok.h6
   rw [hs_len] at h6h
   have hcl : ∀ i, i < cs.length → ClsOK cs i := hok.c
   obtain ⟨gl, ⟨oa, oc⟩, ⟨ka, kc⟩⟩ := x
   show HC _ _ _ _ _ [Row (some ⟨gl, 0, none⟩) [.slice A cs.length ca, .slice B hs.length cb, .slice oa cs.length oc, .slice ka hs.length kc], Row oa (rows (masksN cs cs.length)), Row ka (rows (kindsN hs hs.length)), Row A (rows cs), RowsF B hs Hd.row]
   refine hc_seq ?_
   refine hc_region ?_
   refine r_move rfl rfl ?_
   refine hl_call F.trade_between_cb rfl rfl (trade_between_meets _ _ _) (List.Perm.refl _) trivial fun _ _ => ?_
   refine r_not rfl rfl ?_
   refine r_assign rfl rfl ?_
   refine hl_nil ?_
   refine then_n ?_
   first | refine c_dec rfl (fun hb2 => ?_) (fun hb2 => ?_) | refine hc_cond rfl (fun hb2 => ?_) (fun hb2 => ?_)
   ·have hb2' := hb2; try simp at hb2'
    have h2 : ¬ (0 ≤ s ∧ s ≤ 6) := fun e => by rw [decide_eq_true e] at hb2; cases hb2
    refine hc_seq ?_
    refine hc_region ?_
    refine r_assign rfl rfl ?_
    refine r_assign rfl rfl ?_
    refine hl_nil ?_
    refine then_n ?_
    refine hc_ret ?_
    refine inb_ret ?_
    refine then_ret ?_
    refine hq_nilrow (α := Sl Int) ?_
    refine hq_facts (Fs := ([] : List (Sl Int)).map fun p => Row p.a (rows p.l)) (by intro F hF; simp at hF) ?_
    refine hq_rows2F (A := none) (ps := ([] : List (Sl Int))) (by repeat constructor) (by repeat constructor) ?_
    have hE : (joinE (trOf cs hs) h s) = ([], 1) := by unfold joinE; rw [if_neg hb1, if_pos h2]
    exact ret2 (([] : List (Sl Int)), (none, 0)) rfl rfl rfl (by show Value.tuple #[.slice none 0 0, int ((joinE (trOf cs hs) h s)).2] = _; rw [hE]) rfl (by show [] = ((joinE (trOf cs hs) h s)).1; rw [hE]) (List.nil_sublist _) ⟨m0, trivial⟩
   ·have hb2' := hb2; try simp at hb2'
    have h2 : 0 ≤ s ∧ s ≤ 6 := by simpa using hb2
    obtain ⟨sn, rfl⟩ : ∃ sn : Nat, s = (sn : Int) := ⟨s.toNat, by omega⟩
    obtain ⟨hn, rfl⟩ : ∃ hn : Nat, h = (hn : Int) := ⟨h.toNat, by omega⟩
    refine hc_skip ?_
    refine inb_n ?_
    refine then_n ?_
    refine hc_seq ?_
    refine hc_region ?_
    refine r_move rfl rfl ?_
    refine r_move rfl rfl ?_
    refine r_move rfl rfl ?_
    refine hl_call F.trade_list_join_cb rfl rfl (trade_list_join_meets (A := A) (B := B) (oa := oa) (ka := ka) (ca := ca) (cb := cb) (oc := oc) (kc := kc) (gl := gl) cs hs hn sn hok (by omega) (by omega)) (List.Perm.refl _) ⟨(by repeat constructor), (by repeat constructor), (by repeat constructor), trivial⟩ fun y hy => ?_
    refine r_move rfl rfl ?_
    refine r_extract rfl rfl rfl ?_
    refine r_extract rfl rfl rfl ?_
    refine r_assign rfl rfl ?_
    refine r_assign rfl rfl ?_
    refine hl_nil ?_
    refine then_n ?_
    refine hc_seq ?_
    refine hc_seq ?_
    refine hc_region ?_
    refine r_move rfl rfl ?_
    refine r_not rfl rfl ?_
    refine hl_nil ?_
    refine then_n ?_
    first | refine c_dec rfl (fun hb3 => ?_) (fun hb3 => ?_) | refine hc_cond rfl (fun hb3 => ?_) (fun hb3 => ?_)
    ·have hb3' := hb3; try simp at hb3'
     have h3 : (joinT (trOf cs hs) (hn : Int) (sn : Int)).isSome = false := by simpa using hb3
     refine hc_seq ?_
     refine hc_region ?_
     refine r_assign rfl rfl ?_
     refine r_assign rfl rfl ?_
     refine hl_nil ?_
     refine then_n ?_
     refine hc_ret ?_
     refine then_ret ?_
     refine hq_nilrow (α := Sl Int) ?_
     refine hq_facts (Fs := ([] : List (Sl Int)).map fun p => Row p.a (rows p.l)) (by intro F hF; simp at hF) ?_
     refine hq_rows2F (A := none) (ps := ([] : List (Sl Int))) (by repeat constructor) (by repeat constructor) ?_
     have hE : (joinE (trOf cs hs) (hn : Int) (sn : Int)) = ([], 11) := by unfold joinE; rw [if_neg hb1, if_neg (fun e => e h2), if_pos h3]
     exact ret2 (([] : List (Sl Int)), (none, 0)) rfl rfl rfl (by show Value.tuple #[.slice none 0 0, int ((joinE (trOf cs hs) (hn : Int) (sn : Int))).2] = _; rw [hE]) rfl (by show [] = ((joinE (trOf cs hs) (hn : Int) (sn : Int))).1; rw [hE]) (List.nil_sublist _) ⟨m0, trivial⟩
    ·have hb3' := hb3; try simp at hb3'
     have h3 : ¬ (joinT (trOf cs hs) (hn : Int) (sn : Int)).isSome = false := fun e => by rw [e] at hb3; cases hb3
     refine hc_skip ?_
     refine then_n ?_
     refine hc_seq ?_
     refine hc_region ?_
     refine r_move rfl rfl ?_
     refine r_assign rfl rfl ?_
     refine r_assign rfl rfl ?_
     refine hl_nil ?_
     refine then_n ?_
     refine hc_ret ?_
     have hE : joinE (trOf cs hs) (hn : Int) (sn : Int) = (pairsOf ((joinT (trOf cs hs) (hn : Int) (sn : Int)).getD []), 0) := by unfold joinE; rw [if_neg hb1, if_neg (fun e => e h2), if_neg h3]
     exact ret2 y rfl rfl rfl (by show Value.tuple #[.slice y.2.1 y.1.length y.2.2, int (joinE (trOf cs hs) (hn : Int) (sn : Int)).2] = _; rw [hE]; rfl) rfl (by show lsts y.1 = (joinE (trOf cs hs) (hn : Int) (sn : Int)).1; rw [hE]; exact hy) (List.nil_sublist _) ⟨m0, trivial⟩

def shT : Tr := ⟨shopsC, (shopsH 0 0).map Hd.p⟩
def laT : Tr := ⟨shopsC, (laterH 0).map Hd.p⟩
theorem sh_of (a b : Nat) : trOf shopsC (shopsH a b) = shT := rfl
theorem la_of (a : Nat) : trOf shopsC (laterH a) = laT := rfl
theorem ix_least : leastE shT 1 0 = (0, 0) := by kernel_rfl
theorem ix_follow : followE shT 5 = (3, 2, 0) := by kernel_rfl
theorem ix_join : joinE shT 3 2 = ([[2, 4], [3, 2]], 0) := by kernel_rfl
theorem ix_may : mayE shT [109] = ([3, 4], 0) := by kernel_rfl
theorem ix_short : shortE shT 1 = ([98, 111], 0) := by kernel_rfl
theorem ix_compare : compareE shT laT = ([([99, 111, 110, 102, 101, 99, 116, 105, 111, 110, 101, 114], 1), ([104, 97, 116, 116, 101, 114], 3), ([105, 114, 111, 110, 109, 111, 110, 103, 101, 114], 2)], 0) := by kernel_rfl

end Go.Proofs.Ytlpgheniajdkfaa
