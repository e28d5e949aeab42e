/- The references that are free, exactly. -/
import Derived.Test.YtlpgheniajdkfaaGreatPnw
namespace Go.Proofs.YtlpgheniajdkfaaGreat
open Go Go.W
set_option linter.unusedVariables false
set_option linter.unusedSimpArgs false
set_option maxRecDepth 20000
attribute [local irreducible] HL HC HQ HB Row Rows2 Blk Facts


set_option maxHeartbeats 2000000 in
theorem law04_free_is {A B : Option Addr} {ca cb : Nat} (cs : List Cl) (hs : List Hd) (hok : TrOK (trOf cs hs)) (hca : cs.length ≤ ca) (hcb : hs.length ≤ cb) (ha : ∀ h ∈ hs, h.2.2.2.l.length ≤ 1000000) : Meets Tryz.prog F.law04_free [.agg #[.slice A cs.length ca, .slice B hs.length cb]] { LI := [Row A (rows cs), RowsF B hs Hd.row], inv := fun x : OutS => lsts x.1 = pairsOf (freeT (trOf cs hs)), val := fun x => .slice x.2.1 x.1.length x.2.2, LO := fun x => [Rows2 x.2.1 x.1] } := by
 refine meets_intro F.law04_free_f rfl (Nat.le_of_ble_eq_true rfl) fun w0 => ?_
 refine hc_seq (hc_region ?_)
 refine r_box rfl rfl fun gB => ?_
 refine r_assign rfl rfl (hl_nil (then_n (hc_seq (hc_region (r_assign rfl rfl (hl_nil (then_n (hc_seq (hc_seq ?_)))))))))
 have h6h := hok.h6
 have hln := hs_len cs hs
 rw [hln] at h6h
 have hS := sees_ok hok
 refine hc_letgoB ?_
 refine hc_outerF (ps := hs) (A := B) (f := Hd.row) (by repeat constructor) ?_
 refine hc_facts (Fs := ([] : List (Sl Int)).map (fun p : Sl Int => Row p.a (rows p.l))) (by intro F hF; simp at hF) ?_
 refine hc_region (r_assign rfl rfl (hl_nil (then_n (hc_block ?_))))
 refine hc_loop (β := Nat × List (Sl Int) × OutC × Hp) ⟨fun x => x.1 ≤ hs.length ∧ Grow T.ints 1 x.2.2.1.1 x.2.1.length x.2.2.1.2 (rows x.2.1) x.2.2.2 ∧ lsts x.2.1 = pairsOf (frK (trOf cs hs) x.1), fun x => [(1, .pointer (some ⟨gB, 0, none⟩)), (3, .slice x.2.2.1.1 x.2.1.length x.2.2.1.2), (4, int x.1)], fun x => x.2.2.2, fun x => [Row B (rows hs), Blk gB (.cells #[.slice A cs.length ca, .slice B hs.length cb] T.api_Trades (0, 0)), Row A (rows cs), RowsF B hs Hd.row, innersF x.2.1 (fun p : Sl Int => Row p.a (rows p.l))]⟩ (fun x => hs.length - x.1) (0, [], (none, 0), []) ⟨Nat.zero_le _, Grow.nil _ _, rfl⟩ ⟨rfl, rfl, rfl, trivial⟩ (List.nil_sublist _) ⟨(by repeat constructor), (by repeat constructor), (by repeat constructor), (by repeat constructor), (by repeat constructor), trivial⟩ fun x hx => ?_
 obtain ⟨i, ps, ⟨na, nc⟩, og⟩ := x
 obtain ⟨hi, hG, hps⟩ := hx
 simp only at hi hG hps
 refine hc_seq (hc_seq (hc_region (r_move rfl rfl ?_)))
 refine r_fieldAddr ⟨_, 1, none⟩ rfl rfl T.fa_api_Trades_1 rfl ?_
 refine r_load rfl T.cell_L_api_Head rfl (cell_blk (by repeat constructor) rfl) ?_
 refine r_len_sl rfl T.u_L_api_Head rfl ?_
 refine r_lss rfl rfl rfl (hl_nil (then_n ?_))
 refine c_dec rfl (fun hb1 => ?_) (fun hb1 => ?_)
 ·have hb1' := hb1; try simp at hb1'
  have hi2 : i < hs.length := by omega
  have hSi := (hS i hi2).1
  have hal := ha _ (getD_mem hi2)
  refine hc_skip (then_n (hc_seq (hc_block (hc_seq (hc_region (r_assign rfl rfl (hl_nil (then_n (hc_block ?_)))))))))
  refine hc_loop (β := Nat × List (Sl Int) × OutC × Hp) ⟨fun x => x.1 ≤ hs.length ∧ Grow T.ints 1 x.2.2.1.1 x.2.1.length x.2.2.1.2 (rows x.2.1) x.2.2.2 ∧ lsts x.2.1 = pairsOf (frJ (trOf cs hs) i x.1), fun x => [(1, .pointer (some ⟨gB, 0, none⟩)), (3, .slice x.2.2.1.1 x.2.1.length x.2.2.1.2), (4, int i), (5, int x.1)], fun x => x.2.2.2, fun x => [Row B (rows hs), Blk gB (.cells #[.slice A cs.length ca, .slice B hs.length cb] T.api_Trades (0, 0)), Row A (rows cs), RowsF B hs Hd.row, innersF x.2.1 (fun p : Sl Int => Row p.a (rows p.l))]⟩ (fun x => hs.length - x.1) (0, ps, (na, nc), og) ⟨Nat.zero_le _, hG, by show lsts ps = pairsOf (frJ (trOf cs hs) i 0); rw [frJ_zero]; exact hps⟩ ⟨rfl, rfl, rfl, rfl, trivial⟩ (List.Sublist.refl _) ⟨(by repeat constructor), (by repeat constructor), (by repeat constructor), (by repeat constructor), (by repeat constructor), trivial⟩ fun x hx => ?_
  clear hG hps
  obtain ⟨k, ps, ⟨na, nc⟩, og⟩ := x
  obtain ⟨hk, hG, hps⟩ := hx
  simp only at hk hG hps
  have hpl := ps_len hps
  have hjl := frJ_len (trOf cs hs) i k
  rw [hln] at hjl
  have hin6 : i * hs.length ≤ 6 * 6 := Nat.mul_le_mul (by omega) h6h
  refine hc_seq (hc_seq (hc_region (r_move rfl rfl ?_)))
  refine r_fieldAddr ⟨_, 1, none⟩ rfl rfl T.fa_api_Trades_1 rfl ?_
  refine r_load rfl T.cell_L_api_Head rfl (cell_blk (by repeat constructor) rfl) ?_
  refine r_len_sl rfl T.u_L_api_Head rfl ?_
  refine r_lss rfl rfl rfl (hl_nil (then_n ?_))
  refine c_dec rfl (fun hb2 => ?_) (fun hb2 => ?_)
  ·have hb2' := hb2; try simp at hb2'
   have hk2 : k < hs.length := by omega
   refine hc_skip (then_n (hc_seq (hc_block (hc_seq (hc_region (r_move rfl rfl (r_move rfl rfl (r_neq rfl rfl rfl (r_move rfl rfl ?_)))))))))
   refine g_split rfl rfl ?_ ?_
   ·intro hg1; have hg1' := hg1; try simp at hg1'
    have g8_4 : ¬ (i : Int) = (k : Int) := of_decide_eq_true (eq_of_beq hg1)
    refine g_yes rfl rfl hg1 ?_
    refine r_fieldAddr ⟨_, 1, none⟩ rfl rfl T.fa_api_Trades_1 rfl ?_
    refine g_yes rfl rfl hg1 ?_
    refine r_load rfl T.cell_L_api_Head rfl (cell_blk (by repeat constructor) rfl) ?_
    refine g_yes rfl rfl hg1 (r_move rfl rfl (g_yes rfl rfl hg1 ?_))
    refine r_elem (α := Hd) hs i rfl T.u_L_api_Head T.sz_api_Head rfl rfl rfl (by repeat constructor) rfl hi2 (by decide) ?_
    refine g_yes rfl rfl hg1 (r_fieldAddr _ rfl rfl T.fa_api_Head_2 rfl (g_yes rfl rfl hg1 ?_))
    refine r_load (v := int (hs.getD i default).2.2.1) rfl T.cell_int rfl (cell_row_f (by repeat constructor) (rows_get hi2 rfl)) ?_
    refine g_yes rfl rfl hg1 (r_lss rfl rfl rfl ?_)
    refine p_t rfl rfl (bt1 hg1) rfl ?_
    refine r_move rfl rfl ?_
    refine g_split rfl rfl ?_ ?_
    ·intro hg2; have hg2' := hg2; try simp at hg2'
     have g8_13 : (hs.getD i default).2.2.1 < 0 := of_decide_eq_true (eq_of_beq hg2)
     refine g_yes rfl rfl hg2 ?_
     refine r_fieldAddr ⟨_, 1, none⟩ rfl rfl T.fa_api_Trades_1 rfl ?_
     refine g_yes rfl rfl hg2 ?_
     refine r_load rfl T.cell_L_api_Head rfl (cell_blk (by repeat constructor) rfl) ?_
     refine g_yes rfl rfl hg2 (r_move rfl rfl (g_yes rfl rfl hg2 ?_))
     refine r_elem (α := Hd) hs i rfl T.u_L_api_Head T.sz_api_Head rfl rfl rfl (by repeat constructor) rfl hi2 (by decide) ?_
     refine g_yes rfl rfl hg2 (r_fieldAddr _ rfl rfl T.fa_api_Head_3 rfl (g_yes rfl rfl hg2 ?_))
     refine r_load (v := .slice (hs.getD i default).2.2.2.a (hs.getD i default).2.2.2.l.length (hs.getD i default).2.2.2.c) rfl T.cell_ints rfl (cell_row_f (by repeat constructor) (rows_get hi2 rfl)) ?_
     refine g_yes rfl rfl hg2 (r_move rfl rfl (g_yes rfl rfl hg2 ?_))
     refine hl_innerF (p := (hs.getD i default)) (f := Hd.row) (ps := hs) (by repeat constructor) (getD_mem hi2) ?_
     refine hl_call F.kit_Index_cb rfl rfl (kit_Index_meets (hs.getD i default).2.2.2.l (k : Int) hal) (hpR := og) (List.Perm.refl _) ⟨(by repeat constructor), trivial⟩ fun z hz => ?_
     refine g_yes rfl rfl hg2 (r_lss rfl rfl rfl ?_)
     refine p_t rfl rfl (bt1 hg2) rfl ?_
     refine hl_nil (then_n ?_)
     refine c_dec rfl (fun hb3 => ?_) (fun hb3 => ?_)
     ·have hb3' := hb3; try simp at hb3'
      have hf : FreeP hs i k := ⟨hi2, hk2, by omega, g8_13, fun hm => by have := hz.1.2 hm; omega⟩
      have hj := frJ_yes (cs := cs) hSi hf
      refine hc_region (r_move rfl rfl (r_move rfl rfl (r_move rfl rfl ?_)))
      refine r_buildSlice _ rfl rfl (fun _ => T.bs_ints_2 ..) fun gS => ?_
      refine hl_letgo (rows [(i : Int), (k : Int)]) (List.prefix_refl _) ?_
      refine r_buildSlice _ rfl rfl (fun _ => T.bs_intss_1 ..) fun gS2 => ?_
      refine hl_letgo (rows [(⟨some ⟨gS, 0, none⟩, 2, [(i : Int), (k : Int)]⟩ : Sl Int)]) (List.prefix_refl _) ?_
      refine r_append (ps.length + 1) (rows (ps ++ [(⟨some ⟨gS, 0, none⟩, 2, [(i : Int), (k : Int)]⟩ : Sl Int)])) T.el_intss rfl rfl rfl hG (hp' := []) (by first | (rw [List.append_nil]; done) | (rw [List.append_nil]; exact List.Perm.refl _)) (Src.row (news := rows [(⟨some ⟨gS, 0, none⟩, 2, [(i : Int), (k : Int)]⟩ : Sl Int)]) (m := 1) m0 rfl (rows_one _) (by decide)) rfl (rows_append _ _).symm (by unfold maxLen; omega) (by omega) fun A' c' og' hG' => ?_
      refine r_assign rfl rfl (hl_nil (inb_n (then_n (hc_region (r_move rfl rfl ?_)))))
      refine r_add _ rfl rfl rfl rfl (by unfold I64; omega) ?_
      refine r_assign rfl rfl (hl_nil ?_)
      refine hq_facts (innerF_snoc (ps := ps) (f := (fun p : Sl Int => Row p.a (rows p.l))) (p := (⟨some ⟨gS, 0, none⟩, 2, [(i : Int), (k : Int)]⟩ : Sl Int)) (by repeat constructor) (by repeat constructor)) ?_
      exact again _ (k + 1, ps ++ [(⟨some ⟨gS, 0, none⟩, 2, [(i : Int), (k : Int)]⟩ : Sl Int)], (A', c'), og') ⟨by show k + 1 ≤ hs.length; omega, by show Grow _ _ _ (ps ++ [_]).length _ _ _; rw [List.length_append]; exact hG', by show lsts (ps ++ [_]) = pairsOf (frJ (trOf cs hs) i (k + 1)); rw [hj, pairs_snoc, ← hps, lsts, List.map_append]; rfl⟩ (by show hs.length - (k + 1) < hs.length - k; omega) ⟨rfl, by show some (Value.slice A' (ps.length + 1) c') = some (Value.slice A' (ps ++ [_]).length c'); rw [List.length_append]; rfl, rfl, rfl, trivial⟩ (List.sublist_append_left _ _) ⟨(by repeat constructor), (by repeat constructor), (by repeat constructor), (by repeat constructor), (by repeat constructor), trivial⟩
     ·have hb3' := hb3; try simp at hb3'
      have hm : (k : Int) ∈ (hs.getD i default).2.2.2.l := hz.1.1 (by omega)
      refine hc_skip (inb_n (then_n (hc_region (r_move rfl rfl ?_))))
      refine r_add _ rfl rfl rfl rfl (by unfold I64; omega) ?_
      refine r_assign rfl rfl (hl_nil ?_)
      have hj := frJ_no (cs := cs) (k := k) hi2 (.inr (.inr hm))
      exact again _ (k + 1, ps, (na, nc), og) ⟨by show k + 1 ≤ hs.length; omega, hG, by show lsts ps = pairsOf (frJ (trOf cs hs) i (k + 1)); rw [hj]; exact hps⟩ (by show hs.length - (k + 1) < hs.length - k; omega) ⟨rfl, rfl, rfl, rfl, trivial⟩ (List.Sublist.refl _) ⟨(by repeat constructor), (by repeat constructor), (by repeat constructor), (by repeat constructor), (by repeat constructor), trivial⟩
    ·intro hg2; have hg2' := hg2; try simp at hg2'
     have g8_13 : ¬ (hs.getD i default).2.2.1 < 0 := of_decide_eq_false (bf2 hg2)
     refine g_no rfl rfl rfl rfl rfl hg2 (g_no rfl rfl rfl rfl rfl hg2 (g_no rfl rfl rfl rfl rfl hg2 (g_no rfl rfl rfl rfl rfl hg2 (g_no rfl rfl rfl rfl rfl hg2 (g_no rfl rfl rfl rfl rfl hg2 (g_no rfl rfl rfl rfl rfl hg2 (g_no rfl rfl rfl rfl rfl hg2 (g_no rfl rfl rfl rfl rfl hg2 ?_))))))))
     refine p_f rfl rfl (bf2 hg2) rfl ?_
     refine hl_nil (then_n (c_f rfl rfl (hc_skip (inb_n (then_n (hc_region (r_move rfl rfl ?_)))))))
     refine r_add _ rfl rfl rfl rfl (by unfold I64; omega) ?_
     refine r_assign rfl rfl (hl_nil ?_)
     have hj := frJ_no (cs := cs) (k := k) hi2 (.inr (.inl g8_13))
     exact again _ (k + 1, ps, (na, nc), og) ⟨by show k + 1 ≤ hs.length; omega, hG, by show lsts ps = pairsOf (frJ (trOf cs hs) i (k + 1)); rw [hj]; exact hps⟩ (by show hs.length - (k + 1) < hs.length - k; omega) ⟨rfl, rfl, rfl, rfl, trivial⟩ (List.Sublist.refl _) ⟨(by repeat constructor), (by repeat constructor), (by repeat constructor), (by repeat constructor), (by repeat constructor), trivial⟩
   ·intro hg1; have hg1' := hg1; try simp at hg1'
    have g8_4 : ¬ ¬ (i : Int) = (k : Int) := of_decide_eq_false (bf2 hg1)
    refine g_no rfl rfl rfl rfl rfl hg1 (g_no rfl rfl rfl rfl rfl hg1 (g_no rfl rfl rfl rfl rfl hg1 (g_no rfl rfl rfl rfl rfl hg1 (g_no rfl rfl rfl rfl rfl hg1 (g_no rfl rfl rfl rfl rfl hg1 (g_no rfl rfl rfl rfl rfl hg1 ?_))))))
    refine p_f rfl rfl (bf2 hg1) rfl ?_
    refine r_move rfl rfl (g_no rfl rfl rfl rfl rfl rfl (g_no rfl rfl rfl rfl rfl rfl (g_no rfl rfl rfl rfl rfl rfl (g_no rfl rfl rfl rfl rfl rfl (g_no rfl rfl rfl rfl rfl rfl (g_no rfl rfl rfl rfl rfl rfl (g_no rfl rfl rfl rfl rfl rfl (g_no rfl rfl rfl rfl rfl rfl (g_no rfl rfl rfl rfl rfl rfl (p_f rfl rfl rfl rfl (hl_nil ?_)))))))))))
    refine then_n (c_f rfl rfl (hc_skip (inb_n (then_n (hc_region (r_move rfl rfl ?_))))))
    refine r_add _ rfl rfl rfl rfl (by unfold I64; omega) ?_
    refine r_assign rfl rfl (hl_nil ?_)
    have hj := frJ_no (cs := cs) (k := k) hi2 (.inl (by have := Classical.not_not.1 g8_4; omega))
    exact again _ (k + 1, ps, (na, nc), og) ⟨by show k + 1 ≤ hs.length; omega, hG, by show lsts ps = pairsOf (frJ (trOf cs hs) i (k + 1)); rw [hj]; exact hps⟩ (by show hs.length - (k + 1) < hs.length - k; omega) ⟨rfl, rfl, rfl, rfl, trivial⟩ (List.Sublist.refl _) ⟨(by repeat constructor), (by repeat constructor), (by repeat constructor), (by repeat constructor), (by repeat constructor), trivial⟩
  ·have hb2' := hb2; try simp at hb2'
   obtain rfl : k = hs.length := by omega
   have hje := frJ_end (trOf cs hs) i
   rw [hln] at hje
   rw [hje] at hps
   refine hc_exit (then_exit (then_exit (inb_hit (inb_n (then_n (hc_region (r_move rfl rfl ?_)))))))
   refine r_add _ rfl rfl rfl rfl (by unfold I64; omega) ?_
   refine r_assign rfl rfl (hl_nil ?_)
   exact again _ (i + 1, ps, (na, nc), og) ⟨by show i + 1 ≤ hs.length; omega, hG, hps⟩ (by show hs.length - (i + 1) < hs.length - i; omega) ⟨rfl, rfl, rfl, trivial⟩ (List.Sublist.refl _) ⟨(by repeat constructor), (by repeat constructor), (by repeat constructor), (by repeat constructor), (by repeat constructor), trivial⟩
 ·have hb1' := hb1; try simp at hb1'
  obtain rfl : i = hs.length := by omega
  refine hc_exit (then_exit (then_exit (inb_hit (then_n (hc_seq (hc_region (r_move rfl rfl (r_assign rfl rfl (hl_nil (then_n (hc_ret ?_)))))))))))
  refine hq_grown0 hG ?_
  refine hq_rows2F (A := na) (ps := ps) (by repeat constructor) (by repeat constructor) ?_
  exact ret1 (ps, (na, nc)) rfl rfl rfl (by show lsts ps = pairsOf (freeT (trOf cs hs)); rw [free_frK, hln]; exact hps) (List.nil_sublist _) ⟨m0, trivial⟩

end Go.Proofs.YtlpgheniajdkfaaGreat
