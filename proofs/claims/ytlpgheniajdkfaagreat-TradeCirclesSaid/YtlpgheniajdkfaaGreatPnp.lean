/- Circles and Follow of the program and of the document. -/
import Derived.Test.YtlpgheniajdkfaaGreatPno
import Derived.Test.YtlpgheniajdkfaaGreatPnb
namespace Go.Proofs.YtlpgheniajdkfaaGreat
open Go Go.W
set_option linter.unusedVariables false
set_option linter.unusedSimpArgs false
set_option maxRecDepth 20000
attribute [local irreducible] HL HC HQ HB Row Rows2 Blk Facts


theorem trade_Circles_meets {A B : Option Addr} {ca cb : Nat} (cs : List Cl) (hs : List Hd) (hca : cs.length ≤ ca) (hcb : hs.length ≤ cb) (ha : ∀ h ∈ hs, h.2.2.2.l.length ≤ 1000000) : Meets Tryz.prog F.trade_Circles [.agg #[.slice A cs.length ca, .slice B hs.length cb]] { LI := [Row A (rows cs), RowsF B hs Hd.row], inv := fun x : OutS => lsts x.1 = (circlesE (trOf cs hs)).1, val := fun x => .tuple #[.slice x.2.1 x.1.length x.2.2, int (circlesE (trOf cs hs)).2], LO := fun x => [Rows2 x.2.1 x.1] } := by
 refine meets_intro F.trade_Circles_f rfl (Nat.le_of_ble_eq_true rfl) fun w0 => ?_
 refine hc_seq (hc_region ?_)
 refine r_box rfl rfl fun gB => ?_
 refine r_assign rfl rfl (r_assign rfl rfl (hl_nil (then_n ?_)))
 refine hc_cut ⟨fun _ : Nat × OutC × OutC => True, fun x => [(1, .pointer (some ⟨gB, 0, none⟩)), (4, if checkT (trOf cs hs) = 0 then .pointer (some ⟨x.1, 0, none⟩) else .pointer none), (5, int (checkT (trOf cs hs)))], fun _ => [(gB, .cells #[.slice A cs.length ca, .slice B hs.length cb] T.api_Trades (0, 0))], fun x => (if checkT (trOf cs hs) = 0 then beginL cs hs A ca B cb x else []) ++ [Row A (rows cs), RowsF B hs Hd.row]⟩ ?_ ?_
 ·skip
  refine hc_region ?_
  refine r_loadA rfl T.row_api_Trades T.sz_api_Trades rfl (by repeat constructor) (by rfl) ?_
  refine hl_call F.trade_begin_cb rfl rfl (trade_begin_meets cs hs hca hcb ha) (List.Perm.refl _) ⟨(by repeat constructor), (by repeat constructor), trivial⟩ fun x _ => ?_
  refine r_move rfl rfl (r_extract rfl rfl rfl (r_extract rfl rfl rfl (r_assign rfl rfl (r_assign rfl rfl (hl_nil ?_)))))
  exact cut_n _ x trivial ⟨rfl, rfl, rfl, trivial⟩ (List.Sublist.refl _) (LSub.of_mem fun F h => h)
 ·refine fun x _ => ?_
  dsimp only
  refine hc_seq (hc_seq (hc_region (r_move rfl rfl (r_neq rfl rfl rfl (hl_nil (then_n ?_))))))
  refine c_dec rfl (fun hb1 => ?_) (fun hb1 => ?_)
  ·have hb1' := hb1; try simp at hb1'
   refine hc_seq (hc_region (r_move rfl rfl (r_assign rfl rfl (r_assign rfl rfl (hl_nil (then_n (hc_ret (then_ret ?_))))))))
   refine hq_nilrow (α := Sl Int) ?_
   refine hq_facts (Fs := ([] : List (Sl Int)).map fun p => Row p.a (rows p.l)) (by intro F hF; simp at hF) ?_
   refine hq_rows2F (A := none) (ps := ([] : List (Sl Int))) (by repeat constructor) (by repeat constructor) ?_
   have hE : (circlesE (trOf cs hs)) = ([], checkT (trOf cs hs)) := by unfold circlesE; rw [if_pos hb1]
   exact ret2 (([] : List (Sl Int)), (none, 0)) rfl rfl rfl (by show Value.tuple #[.slice none 0 0, int ((circlesE (trOf cs hs))).2] = _; rw [hE]) rfl (by show [] = ((circlesE (trOf cs hs))).1; rw [hE]) (List.nil_sublist _) ⟨m0, trivial⟩
  ·have hb1' := hb1; try simp at hb1'
   have h0 := Classical.not_not.1 hb1
   rw [if_pos h0, if_pos h0]
   have hok := tr_ok h0
   have h6 : cs.length ≤ 6 := hok.c6
   have h6h := hok.h6
   rw [hs_len] at h6h
   have hcl : ∀ i, i < cs.length → ClsOK cs i := hok.c
   obtain ⟨gl, ⟨oa, oc⟩, ⟨ka, kc⟩⟩ := x
   have hE : (circlesE (trOf cs hs)) = ((cirK (hs.map Hd.p) hs.length), 0) := by unfold circlesE; rw [if_neg hb1, hs_len]
   show HC _ _ _ _ _ [Row (some ⟨gl, 0, none⟩) [.slice A cs.length ca, .slice B hs.length cb, .slice oa cs.length oc, .slice ka hs.length kc], Row oa (rows (masksN cs cs.length)), Row ka (rows (kindsN hs hs.length)), Row A (rows cs), RowsF B hs Hd.row]
   refine hc_skip (then_n (hc_seq (hc_region (r_move rfl rfl ?_))))
   refine hl_call F.trade_list_circles_cb rfl rfl (trade_list_circles_meets (A := A) (B := B) (oa := oa) (ka := ka) (ca := ca) (cb := cb) (oc := oc) (kc := kc) (gl := gl) cs hs hok) (List.Perm.refl _) ⟨(by repeat constructor), (by repeat constructor), trivial⟩ fun y hy => ?_
   refine r_assign rfl rfl (r_assign rfl rfl (hl_nil (then_n (hc_ret ?_))))
   exact ret2 y rfl rfl rfl (by show Value.tuple #[.slice y.2.1 y.1.length y.2.2, int (circlesE (trOf cs hs)).2] = _; rw [hE]) rfl (by show lsts y.1 = (circlesE (trOf cs hs)).1; rw [hE]; exact hy) (List.nil_sublist _) ⟨m0, trivial⟩

set_option maxHeartbeats 1000000 in
theorem ref04_Circles_meets {A B : Option Addr} {ca cb : Nat} (cs : List Cl) (hs : List Hd) (hhl : hs.length ≤ 1000) (hcl0 : cs.length ≤ 1000) (hwc : ∀ x ∈ cs, x.1.length ≤ 1000) (hwh : ∀ h ∈ hs, h.1.length ≤ 1000) (ha : ∀ h ∈ hs, h.2.2.2.l.length ≤ 1000000) : Meets Tryz.prog F.ref04_Circles [.agg #[.slice A cs.length ca, .slice B hs.length cb]] { LI := [Row A (rows cs), RowsF B hs Hd.row], inv := fun x : OutS => lsts x.1 = (circlesE (trOf cs hs)).1, val := fun x => .tuple #[.slice x.2.1 x.1.length x.2.2, int (circlesE (trOf cs hs)).2], LO := fun x => [Rows2 x.2.1 x.1] } := by
 refine meets_intro F.ref04_Circles_f rfl (Nat.le_of_ble_eq_true rfl) fun w0 => ?_
 refine hc_seq (hc_region ?_)
 refine r_box rfl rfl fun gB => ?_
 refine r_assign rfl rfl (r_assign rfl rfl (hl_nil (then_n (hc_seq (hc_seq (hc_letgoB (hc_region ?_)))))))
 refine r_loadB rfl T.row_api_Trades T.sz_api_Trades rfl (by repeat constructor) (by rfl) ?_
 refine hl_call F.ref04_Check_cb rfl rfl (ref04_Check_meets cs hs hhl hcl0 hwc hwh ha) (List.Perm.refl _) ⟨(by repeat constructor), (by repeat constructor), trivial⟩ fun _ _ => ?_
 refine r_assign rfl rfl (hl_nil (then_n (hc_seq (hc_region (r_move rfl rfl (r_neq rfl rfl rfl (hl_nil (then_n ?_))))))))
 refine c_dec rfl (fun hb1 => ?_) (fun hb1 => ?_)
 ·have hb1' := hb1; try simp at hb1'
  refine hc_seq (hc_region (r_move rfl rfl (r_assign rfl rfl (r_assign rfl rfl (hl_nil (then_n (hc_ret (then_ret ?_))))))))
  refine hq_nilrow (α := Sl Int) ?_
  refine hq_facts (Fs := ([] : List (Sl Int)).map fun p => Row p.a (rows p.l)) (by intro F hF; simp at hF) ?_
  refine hq_rows2F (A := none) (ps := ([] : List (Sl Int))) (by repeat constructor) (by repeat constructor) ?_
  have hE : (circlesE (trOf cs hs)) = ([], checkT (trOf cs hs)) := by unfold circlesE; rw [if_pos hb1]
  exact ret2 (([] : List (Sl Int)), (none, 0)) rfl rfl rfl (by show Value.tuple #[.slice none 0 0, int ((circlesE (trOf cs hs))).2] = _; rw [hE]) rfl (by show [] = ((circlesE (trOf cs hs))).1; rw [hE]) (List.nil_sublist _) ⟨m0, trivial⟩
 ·have hb1' := hb1; try simp at hb1'
  have hok := tr_ok (Classical.not_not.1 hb1)
  have hE : (circlesE (trOf cs hs)) = ((cirK (hs.map Hd.p) hs.length), 0) := by unfold circlesE; rw [if_neg hb1, hs_len]
  have h6h := hok.h6
  have hln := hs_len cs hs
  rw [hln] at h6h
  have hS0 := sees_ok hok
  have hS := see_p hok
  have hH : (hs.map Hd.p).length = hs.length := List.length_map ..
  refine hc_outerF (ps := hs) (A := B) (f := Hd.row) (by repeat constructor) ?_
  refine hc_facts (Fs := ([] : List (Sl Int)).map (fun p : Sl Int => Row p.a (rows p.l))) (by intro F hF; simp at hF) ?_
  refine hc_skip (then_n (hc_seq (hc_region (r_assign rfl rfl (hl_nil (then_n (hc_seq (hc_seq (hc_region (r_assign rfl rfl (hl_nil ?_)))))))))))
  refine then_n (hc_block ?_)
  refine hc_loop (β := Nat × List (Sl Int) × OutC × Hp) ⟨fun x => x.1 ≤ hs.length ∧ Grow T.ints 1 x.2.2.1.1 x.2.1.length x.2.2.1.2 (rows x.2.1) x.2.2.2 ∧ lsts x.2.1 = (cirK (hs.map Hd.p) x.1), fun x => [(1, .pointer (some ⟨gB, 0, none⟩)), (5, .slice x.2.2.1.1 x.2.1.length x.2.2.1.2), (6, int x.1)], fun x => x.2.2.2, fun x => [Facts (x.2.1.map (fun p : Sl Int => Row p.a (rows p.l))), Row B (rows hs), Blk gB (.cells #[.slice A cs.length ca, .slice B hs.length cb] T.api_Trades (0, 0)), RowsF B hs Hd.row]⟩ (fun x => hs.length - x.1) (0, [], (none, 0), []) ⟨Nat.zero_le _, Grow.nil _ _, rfl⟩ ⟨rfl, rfl, rfl, trivial⟩ (List.nil_sublist _) ⟨(by repeat constructor), (by repeat constructor), (by repeat constructor), (by repeat constructor), trivial⟩ fun x hx => ?_
  obtain ⟨i, ps, ⟨na, nc⟩, og⟩ := x
  obtain ⟨hi, hG, hps⟩ := hx
  simp only at hi hG hps
  have hpl : ps.length ≤ i := by have h1 := congrArg List.length hps; rw [lsts, List.length_map] at h1; have := cirK_len (hs.map Hd.p) i; omega
  refine hc_seq (hc_seq (hc_region (r_move rfl rfl ?_)))
  refine r_fieldAddr ⟨_, 1, none⟩ rfl rfl T.fa_api_Trades_1 rfl ?_
  refine r_load rfl T.cell_L_api_Head rfl (cell_blk (by repeat constructor) rfl) ?_
  refine r_len_sl rfl T.u_L_api_Head rfl ?_
  refine r_lss rfl rfl rfl (hl_nil (then_n ?_))
  refine c_dec rfl (fun hb2 => ?_) (fun hb2 => ?_)
  ·have hb2' := hb2; try simp at hb2'
   have hi2 : i < hs.length := by omega
   have hiz : 0 ≤ (i : Int) ∧ (i : Int) < ((hs.map Hd.p).length : Int) := ⟨by omega, by rw [hH]; omega⟩
   have hos1 : (hs.getD i default).2.2.1 = (orb (hs.map Hd.p) (i : Int) 1) := by rw [show (1 : Nat) = 0 + 1 from rfl, orb_succ, orb_zero]; unfold seeZ; rw [if_neg (by omega), Int.toNat_natCast, hd_get hi2]; rfl
   refine hc_skip (then_n (hc_seq (hc_block (hc_seq (hc_region (r_move rfl rfl ?_))))))
   refine r_buildSlice _ rfl rfl (fun _ => T.bs_ints_1 ..) fun gS => ?_
   refine r_assign rfl rfl (hl_nil (then_n (hc_seq (hc_region ?_))))
   refine r_fieldAddr ⟨_, 1, none⟩ rfl rfl T.fa_api_Trades_1 rfl ?_
   refine r_load rfl T.cell_L_api_Head rfl (cell_blk (by repeat constructor) rfl) ?_
   refine r_move rfl rfl ?_
   refine r_elem (α := Hd) hs i rfl T.u_L_api_Head T.sz_api_Head rfl rfl rfl (by repeat constructor) rfl hi2 (by decide) ?_
   refine r_fieldAddr _ rfl rfl T.fa_api_Head_2 rfl ?_
   refine r_load (v := int (hs.getD i default).2.2.1) rfl T.cell_int rfl (cell_row_f (by repeat constructor) (rows_get hi2 rfl)) ?_
   refine r_assign rfl rfl (hl_nil (then_n ?_))
   refine hc_cut ⟨fun x : (Nat × Int) × OutC × Hp => ((x.1.2 = (i : Int) ∧ Cyc (hs.map Hd.p) (i : Int) x.1.1) ∨ (¬ x.1.2 = (i : Int) ∧ ∀ j, 1 ≤ j → j ≤ (hs.map Hd.p).length → ¬ (orb (hs.map Hd.p) (i : Int) j) = (i : Int))) ∧ 1 ≤ x.1.1 ∧ x.1.1 ≤ hs.length + 1 ∧ Grow T.int 1 x.2.1.1 (pthN (hs.map Hd.p) (i : Int) x.1.1).length x.2.1.2 (rows (pthN (hs.map Hd.p) (i : Int) x.1.1)) x.2.2, fun x => [(1, .pointer (some ⟨gB, 0, none⟩)), (5, .slice (na, nc).1 ps.length (na, nc).2), (6, int i), (7, .slice x.2.1.1 (pthN (hs.map Hd.p) (i : Int) x.1.1).length x.2.1.2), (8, int x.1.2)], fun x => x.2.2 ++ og, fun x => [Facts (ps.map (fun p : Sl Int => Row p.a (rows p.l))), Row B (rows hs), Blk gB (.cells #[.slice A cs.length ca, .slice B hs.length cb] T.api_Trades (0, 0)), RowsF B hs Hd.row]⟩ ?_ ?_
   ·skip
    refine hc_seq (hc_region (r_assign rfl rfl (hl_nil (then_n (hc_block ?_)))))
    have hp1 : (pthN (hs.map Hd.p) (i : Int) 1) = [(i : Int)] := rfl
    refine hc_loop (β := Nat × OutC × Hp) ⟨fun x => x.1 ≤ hs.length ∧ Grow T.int 1 x.2.1.1 (pthN (hs.map Hd.p) (i : Int) (x.1 + 1)).length x.2.1.2 (rows (pthN (hs.map Hd.p) (i : Int) (x.1 + 1))) x.2.2 ∧ ∀ j, 1 ≤ j → j ≤ x.1 → ¬ (orb (hs.map Hd.p) (i : Int) j) = (i : Int), fun x => [(1, .pointer (some ⟨gB, 0, none⟩)), (5, .slice (na, nc).1 ps.length (na, nc).2), (6, int i), (7, .slice x.2.1.1 (pthN (hs.map Hd.p) (i : Int) (x.1 + 1)).length x.2.1.2), (8, int (orb (hs.map Hd.p) (i : Int) (x.1 + 1))), (9, int x.1)], fun x => x.2.2 ++ og, fun _ => [Facts (ps.map (fun p : Sl Int => Row p.a (rows p.l))), Row B (rows hs), Blk gB (.cells #[.slice A cs.length ca, .slice B hs.length cb] T.api_Trades (0, 0)), RowsF B hs Hd.row]⟩ (fun x => hs.length - x.1) (0, (some ⟨gS, 0, none⟩, 1), [(gS, Obj.cells #[int (i : Int)] T.int (0, 0))]) ⟨Nat.zero_le _, Grow.new (cs := #[int (i : Int)]) (n := 1) rfl (by decide), fun j h1 h2 => by have h2 : j ≤ 0 := h2; omega⟩ ⟨rfl, rfl, rfl, rfl, congrArg (fun z : Int => some (int z)) hos1, rfl, trivial⟩ (List.Sublist.refl _) ⟨(by repeat constructor), (by repeat constructor), (by repeat constructor), (by repeat constructor), trivial⟩ fun x hx => ?_
    obtain ⟨r, ⟨da, dc⟩, og2⟩ := x
    obtain ⟨hr, hG2, hne⟩ := hx
    simp only at hr hG2 hne
    have hpn := pthN_len (hs.map Hd.p) (i : Int) (r + 1)
    have hob := orb_bd hS hiz (r + 1)
    rw [hH] at hob
    have hpsc := pthN_succ (hs.map Hd.p) (i : Int) (r + 1)
    refine hc_seq (hc_seq (hc_region (r_move rfl rfl ?_)))
    refine r_fieldAddr ⟨_, 1, none⟩ rfl rfl T.fa_api_Trades_1 rfl ?_
    refine r_load rfl T.cell_L_api_Head rfl (cell_blk (by repeat constructor) rfl) ?_
    refine r_len_sl rfl T.u_L_api_Head rfl ?_
    refine r_lss rfl rfl rfl (r_move rfl rfl ?_)
    refine g_split rfl rfl ?_ ?_
    ·intro hg1; have hg1' := hg1; try simp at hg1'
     have g11_6 : (r : Int) < hs.length := of_decide_eq_true (eq_of_beq hg1)
     refine g_yes rfl rfl hg1 (r_move rfl rfl (g_yes rfl rfl hg1 (r_geq rfl rfl rfl ?_)))
     refine p_t rfl rfl (bt1 hg1) rfl ?_
     refine r_move rfl rfl ?_
     refine g_split rfl rfl ?_ ?_
     ·intro hg2; have hg2' := hg2; try simp at hg2'
      have g11_10 : 0 ≤ (orb (hs.map Hd.p) (i : Int) (r + 1)) := of_decide_eq_true (eq_of_beq hg2)
      refine g_yes rfl rfl hg2 (r_move rfl rfl (g_yes rfl rfl hg2 (r_move rfl rfl (g_yes rfl rfl hg2 (r_neq rfl rfl rfl ?_)))))
      refine p_t rfl rfl (bt1 hg2) rfl ?_
      refine hl_nil (then_n ?_)
      refine c_dec rfl (fun hb3 => ?_) (fun hb3 => ?_)
      ·have hb3' := hb3; try simp at hb3'
       have hosc := orb_succ (hs.map Hd.p) (i : Int) (r + 1)
       unfold seeZ at hosc
       rw [if_neg (by omega), hd_get (by omega)] at hosc
       have hosc2 : (hs.getD (orb (hs.map Hd.p) (i : Int) (r + 1)).toNat default).2.2.1 = (orb (hs.map Hd.p) (i : Int) (r + 1 + 1)) := hosc.symm
       refine hc_skip (then_n (hc_seq (hc_block ?_)))
       refine hc_drawW (og2 ++ og) ([]) (by rw [List.append_nil]) 11 [10, 3] mixed (by decide) (by decide) (by decide) rfl rfl rfl ?_
       apply hb_ex _ rfl rfl rfl
       ·intro w1
        refine r_move rfl rfl (hl_nil ?_)
        exact qe_done rfl
       apply hb_ex _ rfl rfl rfl
       ·intro w1
        refine r_move rfl rfl (hl_nil ?_)
        exact qe_done rfl
       refine hb_vs ⟨Nat, fun _ => True, fun g => .slice (some ⟨g, 0, none⟩) 1 1, fun g => [Row (some ⟨g, 0, none⟩) (rows [(orb (hs.map Hd.p) (i : Int) (r + 1))])]⟩ rfl rfl rfl ?_ ?_
       ·intro w1
        refine r_buildSlice _ rfl rfl (fun _ => T.bs_ints_1 ..) fun gS => ?_
        refine hl_nil ?_
        refine hq_letgo (rows [(orb (hs.map Hd.p) (i : Int) (r + 1))]) (List.prefix_refl _) ?_
        exact qv_done gS trivial rfl ⟨m0, trivial⟩
       refine hb_wr ⟨OutC × Hp, fun x => Grow T.int 1 x.1.1 (pthN (hs.map Hd.p) (i : Int) (r + 1 + 1)).length x.1.2 (rows (pthN (hs.map Hd.p) (i : Int) (r + 1 + 1))) x.2, fun x => .slice x.1.1 (pthN (hs.map Hd.p) (i : Int) (r + 1 + 1)).length x.1.2, fun _ => [], fun x => x.2 ++ og⟩ rfl rfl rfl ?_ ?_
       ·intro g9 _; intro w1
        refine r_append ((pthN (hs.map Hd.p) (i : Int) (r + 1)).length + 1) (rows ((pthN (hs.map Hd.p) (i : Int) (r + 1)) ++ [(orb (hs.map Hd.p) (i : Int) (r + 1))])) T.el_ints rfl rfl rfl hG2 (hp' := og) (List.Perm.refl _) (Src.row (news := rows [(orb (hs.map Hd.p) (i : Int) (r + 1))]) (m := 1) m0 rfl (rows_one _) (by decide)) rfl (rows_append _ _).symm (by unfold maxLen; omega) (by omega) fun A' c' og' hG' => ?_
        refine hl_nil ?_
        exact qw_done ((A', c'), og') (by show Grow _ _ _ _ _ (rows _) _; rw [hpsc, List.length_append]; exact hG') (fun _ => by rw [hpsc, List.length_append]; rfl) (List.Sublist.refl _) trivial
       apply hb_ex _ rfl rfl rfl
       ·intro w1
        refine r_fieldAddr ⟨_, 1, none⟩ rfl rfl T.fa_api_Trades_1 rfl ?_
        refine hl_nil ?_
        exact qe_done rfl
       apply hb_ex _ rfl rfl rfl
       ·intro w1
        refine r_load rfl T.cell_L_api_Head rfl (cell_blk (by repeat constructor) rfl) ?_
        refine hl_nil ?_
        exact qe_done rfl
       apply hb_ex _ rfl rfl rfl
       ·intro w1
        refine r_move rfl rfl (hl_nil ?_)
        exact qe_done rfl
       apply hb_ex _ rfl rfl rfl
       ·intro w1
        refine r_elem (α := Hd) hs (orb (hs.map Hd.p) (i : Int) (r + 1)).toNat rfl T.u_L_api_Head T.sz_api_Head rfl rfl (Int.toNat_of_nonneg g11_10).symm (by repeat constructor) rfl (by omega) (by decide) ?_
        refine hl_nil ?_
        exact qe_done rfl
       apply hb_ex _ rfl rfl rfl
       ·intro w1
        refine r_fieldAddr _ rfl rfl T.fa_api_Head_2 rfl (hl_nil ?_)
        exact qe_done rfl
       apply hb_ex _ rfl rfl rfl
       ·intro w1
        refine r_load (v := int (hs.getD (orb (hs.map Hd.p) (i : Int) (r + 1)).toNat default).2.2.1) rfl T.cell_int rfl (cell_row_f (by repeat constructor) (rows_get (by omega) rfl)) ?_
        refine hl_nil ?_
        exact qe_done rfl
       refine hb_wr ⟨OutC × Hp, fun x => Grow T.int 1 x.1.1 (pthN (hs.map Hd.p) (i : Int) (r + 1 + 1)).length x.1.2 (rows (pthN (hs.map Hd.p) (i : Int) (r + 1 + 1))) x.2, fun x => .slice x.1.1 (pthN (hs.map Hd.p) (i : Int) (r + 1 + 1)).length x.1.2, fun _ => [], fun x => x.2 ++ og⟩ rfl rfl rfl ?_ ?_
       ·intro x hx; intro w1
        refine r_assign rfl rfl (hl_nil ?_)
        exact qw_done x hx (fun _ => rfl) (List.Sublist.refl _) trivial
       refine hb_nil ⟨rfl, ?_⟩
       clear hG2
       intro _ _ _ _ x6 hG2
       obtain ⟨⟨da, dc⟩, og2⟩ := x6
       simp only at hG2
       refine r_assign rfl rfl (hl_nil (inb_n (then_n (hc_region (r_move rfl rfl ?_)))))
       refine r_add _ rfl rfl rfl rfl (by unfold I64; omega) ?_
       refine r_assign rfl rfl (hl_nil ?_)
       exact again _ (r + 1, (da, dc), og2) ⟨by show r + 1 ≤ hs.length; omega, hG2, fun j h1 h2 => by rcases Nat.lt_or_ge r j with h3 | h3; rw [show j = r + 1 by have h2 : j ≤ r + 1 := h2; omega]; exact hb3; exact hne j h1 h3⟩ (by show hs.length - (r + 1) < hs.length - r; omega) ⟨rfl, rfl, rfl, rfl, congrArg (fun z : Int => some (int z)) hosc2, rfl, trivial⟩ (by first | exact List.Sublist.refl _ | (rw [List.append_nil]; exact List.Sublist.refl _)) ⟨(by repeat constructor), (by repeat constructor), (by repeat constructor), (by repeat constructor), trivial⟩
      ·have hb3' := hb3; try simp at hb3'
       refine hc_exit (then_exit (then_exit (inb_hit ?_)))
       exact cut_n _ ((r + 1, (orb (hs.map Hd.p) (i : Int) (r + 1))), (da, dc), og2) ⟨.inl ⟨Classical.not_not.1 hb3, by show 1 ≤ r + 1; omega, Classical.not_not.1 hb3, fun j h1 h2 => hne j h1 (by have h2 : j < r + 1 := h2; omega)⟩, by show 1 ≤ r + 1; omega, by show r + 1 ≤ hs.length + 1; omega, hG2⟩ ⟨rfl, rfl, rfl, rfl, rfl, trivial⟩ (by first | exact List.Sublist.refl _ | (rw [List.append_nil]; exact List.Sublist.refl _)) ⟨(by repeat constructor), (by repeat constructor), (by repeat constructor), (by repeat constructor), trivial⟩
     ·intro hg2; have hg2' := hg2; try simp at hg2'
      have g11_10 : ¬ 0 ≤ (orb (hs.map Hd.p) (i : Int) (r + 1)) := of_decide_eq_false (bf2 hg2)
      refine g_no rfl rfl rfl rfl rfl hg2 (g_no rfl rfl rfl rfl rfl hg2 (g_no rfl rfl rfl rfl rfl hg2 ?_))
      refine p_f rfl rfl (bf2 hg2) rfl ?_
      refine hl_nil (then_n (c_f rfl rfl (hc_exit (then_exit (then_exit (inb_hit ?_))))))
      exact cut_n _ ((r + 1, (orb (hs.map Hd.p) (i : Int) (r + 1))), (da, dc), og2) ⟨.inr ⟨by show ¬ (orb (hs.map Hd.p) (i : Int) (r + 1)) = (i : Int); omega, fun j h1 h2 => by rcases Nat.lt_or_ge r j with h3 | h3; rcases Nat.lt_or_ge (r + 1) j with h4 | h4; have h5 := orb_neg (H := (hs.map Hd.p)) (i := (i : Int)) (k := r + 1) (by omega) (j - (r + 2)); rw [show r + 1 + 1 + (j - (r + 2)) = j by omega] at h5; omega; rw [show j = r + 1 by omega]; omega; exact hne j h1 h3⟩, by show 1 ≤ r + 1; omega, by show r + 1 ≤ hs.length + 1; omega, hG2⟩ ⟨rfl, rfl, rfl, rfl, rfl, trivial⟩ (by first | exact List.Sublist.refl _ | (rw [List.append_nil]; exact List.Sublist.refl _)) ⟨(by repeat constructor), (by repeat constructor), (by repeat constructor), (by repeat constructor), trivial⟩
    ·intro hg1; have hg1' := hg1; try simp at hg1'
     have g11_6 : ¬ (r : Int) < hs.length := of_decide_eq_false (bf2 hg1)
     refine g_no rfl rfl rfl rfl rfl hg1 (g_no rfl rfl rfl rfl rfl hg1 ?_)
     refine p_f rfl rfl (bf2 hg1) rfl ?_
     refine r_move rfl rfl (g_no rfl rfl rfl rfl rfl rfl (g_no rfl rfl rfl rfl rfl rfl (g_no rfl rfl rfl rfl rfl rfl (p_f rfl rfl rfl rfl (hl_nil (then_n (c_f rfl rfl (hc_exit (then_exit (then_exit (inb_hit ?_)))))))))))
     exact cut_n _ ((r + 1, (orb (hs.map Hd.p) (i : Int) (r + 1))), (da, dc), og2) ⟨.inr ⟨fun e => by have h3 := cyc_le hS hiz (m := r + 1) ⟨by omega, e, fun j h1 h2 => hne j h1 (by omega)⟩; rw [hH] at h3; omega, fun j h1 h2 => hne j h1 (by omega)⟩, by show 1 ≤ r + 1; omega, by show r + 1 ≤ hs.length + 1; omega, hG2⟩ ⟨rfl, rfl, rfl, rfl, rfl, trivial⟩ (by first | exact List.Sublist.refl _ | (rw [List.append_nil]; exact List.Sublist.refl _)) ⟨(by repeat constructor), (by repeat constructor), (by repeat constructor), (by repeat constructor), trivial⟩
   ·intro x hx
    obtain ⟨⟨m, z⟩, ⟨A2, c2⟩, og2⟩ := x
    obtain ⟨hcz, hm1, hm6, hG2⟩ := hx
    simp only at hcz hm1 hm6 hG2
    have hpm := pthN_len (hs.map Hd.p) (i : Int) m
    refine hc_seq (hc_seq (hc_region (r_move rfl rfl (r_move rfl rfl (r_neq rfl rfl rfl (hl_nil (then_n ?_)))))))
    refine c_dec rfl (fun hb4 => ?_) (fun hb4 => ?_)
    ·have hb4' := hb4; try simp at hb4'
     have hno := cirI_no (hcz.resolve_left (fun e => hb4 e.1)).2
     refine hc_exit (then_exit (inb_hit (then_n (hc_region (r_move rfl rfl ?_)))))
     refine r_add _ rfl rfl rfl rfl (by unfold I64; omega) ?_
     refine r_assign rfl rfl (hl_nil ?_)
     have hn := cirK_succ (hs.map Hd.p) i
     rw [show cirI (hs.map Hd.p) (i : Int) = none from hno, Option.toList_none, List.append_nil] at hn
     exact again _ (i + 1, ps, (na, nc), og) ⟨by show i + 1 ≤ hs.length; omega, hG, by show lsts ps = _; rw [hps, hn]⟩ (by show hs.length - (i + 1) < hs.length - i; omega) ⟨rfl, rfl, rfl, trivial⟩ (List.sublist_append_right _ _) ⟨(by repeat constructor), (by repeat constructor), (by repeat constructor), (by repeat constructor), trivial⟩
    ·have hb4' := hb4; try simp at hb4'
     have hzi := Classical.not_not.1 hb4
     have hcy := (hcz.resolve_right (fun e => e.1 hzi)).2
     have hat := cirI_at hS hiz hcy
     have hcm := cyc_le hS hiz hcy
     refine hc_skip (then_n (hc_seq ?_))
     have hG2c := hG2.le
     refine hc_grown hG2 (hc_region (r_assign rfl rfl (hl_nil (then_n (hc_seq (hc_seq (hc_region (r_assign rfl rfl (hl_nil (then_n (hc_block ?_)))))))))))
     refine hc_loop (β := Nat × OutC × Hp) ⟨fun x => x.1 ≤ hs.length ∧ Grow T.int 1 x.2.1.1 (cirF (hs.map Hd.p) (i : Int) m x.1).length x.2.1.2 (rows (cirF (hs.map Hd.p) (i : Int) m x.1)) x.2.2, fun x => [(1, .pointer (some ⟨gB, 0, none⟩)), (5, .slice (na, nc).1 ps.length (na, nc).2), (6, int i), (7, .slice A2 (pthN (hs.map Hd.p) (i : Int) m).length c2), (10, .slice x.2.1.1 (cirF (hs.map Hd.p) (i : Int) m x.1).length x.2.1.2), (11, int x.1)], fun x => x.2.2 ++ og, fun _ => (Row A2 (rows (pthN (hs.map Hd.p) (i : Int) m)) :: [Facts (ps.map (fun p : Sl Int => Row p.a (rows p.l))), Row B (rows hs), Blk gB (.cells #[.slice A cs.length ca, .slice B hs.length cb] T.api_Trades (0, 0)), RowsF B hs Hd.row])⟩ (fun x => hs.length - x.1) (0, (none, 0), []) ⟨Nat.zero_le _, Grow.nil _ _⟩ ⟨rfl, rfl, rfl, rfl, rfl, rfl, trivial⟩ (List.Sublist.refl _) ⟨(by repeat constructor), (by repeat constructor), (by repeat constructor), (by repeat constructor), (by repeat constructor), trivial⟩ fun x hx => ?_
     obtain ⟨k, ⟨ea, ec⟩, og3⟩ := x
     obtain ⟨hk, hG3⟩ := hx
     simp only at hk hG3
     have hfl := cirF_len (H := (hs.map Hd.p)) (i := (i : Int)) (m := m) k
     refine hc_seq (hc_seq (hc_region (r_move rfl rfl ?_)))
     refine r_fieldAddr ⟨_, 1, none⟩ rfl rfl T.fa_api_Trades_1 rfl ?_
     refine r_load rfl T.cell_L_api_Head rfl (cell_blk (by repeat constructor) rfl) ?_
     refine r_len_sl rfl T.u_L_api_Head rfl ?_
     refine r_lss rfl rfl rfl (hl_nil (then_n ?_))
     refine c_dec rfl (fun hb5 => ?_) (fun hb5 => ?_)
     ·have hb5' := hb5; try simp at hb5'
      have hk2 : k < hs.length := by omega
      have hfs := cirF_succ (H := (hs.map Hd.p)) (i := (i : Int)) (m := m) k
      refine hc_skip (then_n (hc_seq (hc_block (hc_seq (hc_region (r_move rfl rfl (r_move rfl rfl ?_)))))))
      refine hl_call F.ref04_has_cb rfl rfl (ref04_has_meets (pthN (hs.map Hd.p) (i : Int) m) (k : Int) (by omega)) (hpR := og3 ++ og) (List.Perm.refl _) ⟨(by repeat constructor), trivial⟩ fun z2 hz2 => ?_
      refine r_geq rfl rfl rfl (hl_nil (then_n ?_))
      refine c_dec rfl (fun hb6 => ?_) (fun hb6 => ?_)
      ·have hb6' := hb6; try simp at hb6'
       rw [if_pos (hz2.1.1 hb6)] at hfs
       refine hc_region (r_move rfl rfl (r_move rfl rfl ?_))
       refine r_buildSlice _ rfl rfl (fun _ => T.bs_ints_1 ..) fun gS => ?_
       refine hl_letgo (rows [(k : Int)]) (List.prefix_refl _) ?_
       refine r_append ((cirF (hs.map Hd.p) (i : Int) m k).length + 1) (rows ((cirF (hs.map Hd.p) (i : Int) m k) ++ [(k : Int)])) T.el_ints rfl rfl rfl hG3 (hp' := og) (List.Perm.refl _) (Src.row (news := rows [(k : Int)]) (m := 1) m0 rfl (rows_one _) (by decide)) rfl (rows_append _ _).symm (by unfold maxLen; omega) (by omega) fun A' c' og' hG' => ?_
       refine r_assign rfl rfl (hl_nil (inb_n (then_n (hc_region (r_move rfl rfl ?_)))))
       refine r_add _ rfl rfl rfl rfl (by unfold I64; omega) ?_
       refine r_assign rfl rfl (hl_nil ?_)
       exact again _ (k + 1, (A', c'), og') ⟨by show k + 1 ≤ hs.length; omega, by show Grow _ _ _ (cirF (hs.map Hd.p) (i : Int) m (k + 1)).length _ (rows (cirF (hs.map Hd.p) (i : Int) m (k + 1))) _; rw [hfs, List.length_append]; exact hG'⟩ (by show hs.length - (k + 1) < hs.length - k; omega) ⟨rfl, rfl, rfl, rfl, by show some (Value.slice A' ((cirF (hs.map Hd.p) (i : Int) m k).length + 1) c') = some (Value.slice A' (cirF (hs.map Hd.p) (i : Int) m (k + 1)).length c'); rw [hfs, List.length_append]; rfl, rfl, trivial⟩ (List.Sublist.refl _) ⟨(by repeat constructor), (by repeat constructor), (by repeat constructor), (by repeat constructor), (by repeat constructor), trivial⟩
      ·have hb6' := hb6; try simp at hb6'
       rw [if_neg (fun hm => hb6 (hz2.1.2 hm))] at hfs
       refine hc_skip (inb_n (then_n (hc_region (r_move rfl rfl ?_))))
       refine r_add _ rfl rfl rfl rfl (by unfold I64; omega) ?_
       refine r_assign rfl rfl (hl_nil ?_)
       exact again _ (k + 1, (ea, ec), og3) ⟨by show k + 1 ≤ hs.length; omega, by show Grow _ _ _ (cirF (hs.map Hd.p) (i : Int) m (k + 1)).length _ (rows (cirF (hs.map Hd.p) (i : Int) m (k + 1))) _; rw [hfs]; exact hG3⟩ (by show hs.length - (k + 1) < hs.length - k; omega) ⟨rfl, rfl, rfl, rfl, by show some (Value.slice ea (cirF (hs.map Hd.p) (i : Int) m k).length ec) = some (Value.slice ea (cirF (hs.map Hd.p) (i : Int) m (k + 1)).length ec); rw [hfs], rfl, trivial⟩ (List.Sublist.refl _) ⟨(by repeat constructor), (by repeat constructor), (by repeat constructor), (by repeat constructor), (by repeat constructor), trivial⟩
     ·have hb5' := hb5; try simp at hb5'
      obtain rfl : k = hs.length := by omega
      have hce : (cirF (hs.map Hd.p) (i : Int) m hs.length) = (cirL (hs.map Hd.p) (i : Int) m) := by unfold cirL; rw [hH]
      have hcp := cirL_pos hS hiz hcy
      have hcl : 0 < (cirF (hs.map Hd.p) (i : Int) m hs.length).length := by rw [hce]; exact hcp
      have hhd := head_of hS hiz hcy
      rw [← hce] at hhd
      refine hc_exit (then_exit (then_exit (inb_hit (then_n (hc_seq (hc_grown hG3 (hc_region (r_move rfl rfl ?_))))))))
      refine r_elem (α := Int) (cirF (hs.map Hd.p) (i : Int) m hs.length) 0 rfl T.u_ints T.sz_int rfl rfl rfl (by repeat constructor) rfl hcl (by decide) ?_
      refine r_load (v := int ((cirF (hs.map Hd.p) (i : Int) m hs.length).getD 0 default)) rfl T.cell_int rfl (cell_row (by repeat constructor) (rows_get0 hcl rfl)) ?_
      refine r_move rfl rfl (r_eql rfl rfl rfl (hl_nil (then_n ?_)))
      refine c_dec rfl (fun hb7 => ?_) (fun hb7 => ?_)
      ·have hb7' := hb7; try simp at hb7'
       rw [if_pos (hhd.1 hb7)] at hat
       refine hc_region (r_move rfl rfl (r_move rfl rfl ?_))
       refine r_buildSlice _ rfl rfl (fun _ => T.bs_intss_1 ..) fun gS => ?_
       refine hl_letgo (rows [(⟨ea, ec, (cirF (hs.map Hd.p) (i : Int) m hs.length)⟩ : Sl Int)]) (List.prefix_refl _) ?_
       refine r_append (ps.length + 1) (rows (ps ++ [(⟨ea, ec, (cirF (hs.map Hd.p) (i : Int) m hs.length)⟩ : Sl Int)])) T.el_intss rfl rfl rfl hG (hp' := []) (by first | (rw [List.append_nil]; done) | (rw [List.append_nil]; exact List.Perm.refl _)) (Src.row (news := rows [(⟨ea, ec, (cirF (hs.map Hd.p) (i : Int) m hs.length)⟩ : Sl Int)]) (m := 1) m0 rfl (rows_one _) (by decide)) rfl (rows_append _ _).symm (by unfold maxLen; omega) (by omega) fun A' c' og' hG' => ?_
       refine r_assign rfl rfl (hl_nil (inb_n (then_n (hc_region (r_move rfl rfl ?_)))))
       refine r_add _ rfl rfl rfl rfl (by unfold I64; omega) ?_
       refine r_assign rfl rfl (hl_nil ?_)
       have hn := cirK_succ (hs.map Hd.p) i
       rw [hat] at hn
       refine hq_facts (innerF_snoc (ps := ps) (f := (fun p : Sl Int => Row p.a (rows p.l))) (p := (⟨ea, ec, (cirF (hs.map Hd.p) (i : Int) m hs.length)⟩ : Sl Int)) (by repeat constructor) (by repeat constructor)) ?_
       exact again _ (i + 1, ps ++ [(⟨ea, ec, (cirF (hs.map Hd.p) (i : Int) m hs.length)⟩ : Sl Int)], (A', c'), og') ⟨by show i + 1 ≤ hs.length; omega, by show Grow _ _ _ (ps ++ [_]).length _ _ _; rw [List.length_append]; exact hG', by show lsts (ps ++ [_]) = _; rw [hn, ← hce, lsts, List.map_append, ← hps]; rfl⟩ (by show hs.length - (i + 1) < hs.length - i; omega) ⟨rfl, by show some (Value.slice A' (ps.length + 1) c') = some (Value.slice A' (ps ++ [_]).length c'); rw [List.length_append]; rfl, rfl, trivial⟩ (List.sublist_append_left _ _) ⟨(by repeat constructor), (by repeat constructor), (by repeat constructor), (by repeat constructor), trivial⟩
      ·have hb7' := hb7; try simp at hb7'
       rw [if_neg (fun e => hb7 (hhd.2 e))] at hat
       refine hc_skip (inb_n (then_n (hc_region (r_move rfl rfl ?_))))
       refine r_add _ rfl rfl rfl rfl (by unfold I64; omega) ?_
       refine r_assign rfl rfl (hl_nil ?_)
       have hn := cirK_succ (hs.map Hd.p) i
       rw [show cirI (hs.map Hd.p) (i : Int) = none from hat, Option.toList_none, List.append_nil] at hn
       exact again _ (i + 1, ps, (na, nc), og) ⟨by show i + 1 ≤ hs.length; omega, hG, by show lsts ps = _; rw [hps, hn]⟩ (by show hs.length - (i + 1) < hs.length - i; omega) ⟨rfl, rfl, rfl, trivial⟩ (List.Sublist.refl _) ⟨(by repeat constructor), (by repeat constructor), (by repeat constructor), (by repeat constructor), trivial⟩
  ·have hb2' := hb2; try simp at hb2'
   obtain rfl : i = hs.length := by omega
   refine hc_exit (then_exit (then_exit (inb_hit (then_n (hc_seq (hc_region (r_move rfl rfl (r_assign rfl rfl (r_assign rfl rfl (hl_nil (then_n ?_)))))))))))
   refine hc_ret (hq_grown0 hG ?_)
   refine hq_rows2F (A := na) (ps := ps) (by repeat constructor) (by repeat constructor) ?_
   exact ret2 (ps, (na, nc)) rfl rfl rfl (by show Value.tuple #[.slice na ps.length nc, int (circlesE (trOf cs hs)).2] = _; rw [hE]) rfl (by show lsts ps = (circlesE (trOf cs hs)).1; rw [hE]; exact hps) (List.nil_sublist _) ⟨m0, trivial⟩

theorem ref04_follow_meets {A B : Option Addr} {ca cb : Nat} (cs : List Cl) (hs : List Hd) (h : Int) (h0 : 0 ≤ h) (hh : h < (hs.length : Int)) (hl : hs.length ≤ 6) (hS : SeesOK hs) : Meets Tryz.prog F.ref04_follow [.agg #[.slice A cs.length ca, .slice B hs.length cb], int h] { LI := [RowsF B hs Hd.row], val := fun _ : Unit => folR (followT (trOf cs hs) h) } := by
 refine meets_intro F.ref04_follow_f rfl (Nat.le_of_ble_eq_true rfl) fun w0 => ?_
 refine hc_seq (hc_region ?_)
 refine r_box rfl rfl fun gB => ?_
 refine r_assign rfl rfl (r_assign rfl rfl (r_assign rfl rfl (hl_nil (then_n (hc_seq (hc_seq ?_))))))
 refine hc_outerF (ps := hs) (A := B) (f := Hd.row) (by repeat constructor) ?_
 refine hc_region (r_assign rfl rfl (hl_nil (then_n (hc_block ?_))))
 refine hc_loop (β := Nat × Int) ⟨fun x => x.1 ≤ hs.length + 1 ∧ 0 ≤ x.2 ∧ x.2 < (hs.length : Int) ∧ (followT (trOf cs hs) h) = followN (hs.map Hd.p) (hs.length + 1 - x.1) x.2 (x.1 : Int), fun x => [(1, int x.2), (2, .pointer (some ⟨gB, 0, none⟩)), (7, int x.1)], fun _ => [(gB, .cells #[.slice A cs.length ca, .slice B hs.length cb] T.api_Trades (0, 0))], fun _ => [Row B (rows hs)]⟩ (fun x => hs.length + 1 - x.1) (0, h) ⟨Nat.zero_le _, h0, hh, by rw [followT, hs_len]; rfl⟩ ⟨rfl, rfl, rfl, trivial⟩ (List.Sublist.refl _) ⟨(by repeat constructor), trivial⟩ fun x hx => ?_
 obtain ⟨k, y⟩ := x
 obtain ⟨hk, h0, hy, ht⟩ := hx
 simp only at hk h0 hy ht
 refine hc_seq (hc_seq (hc_region (r_move rfl rfl ?_)))
 refine r_fieldAddr ⟨_, 1, none⟩ rfl rfl T.fa_api_Trades_1 rfl ?_
 refine r_load rfl T.cell_L_api_Head rfl (cell_own (by repeat constructor) rfl) ?_
 refine r_len_sl rfl T.u_L_api_Head rfl ?_
 refine r_leq rfl rfl rfl (hl_nil (then_n ?_))
 refine c_dec rfl (fun hb1 => ?_) (fun hb1 => ?_)
 ·have hb1' := hb1; try simp at hb1'
  have hk2 : k < hs.length + 1 := by omega
  rw [show hs.length + 1 - k = (hs.length - k) + 1 by omega, followN, hd_get (show y.toNat < hs.length by omega), p_see] at ht
  have hsy := hS y.toNat (by omega)
  refine hc_skip (then_n (hc_seq (hc_block (hc_seq (hc_seq (hc_region ?_))))))
  refine r_fieldAddr ⟨_, 1, none⟩ rfl rfl T.fa_api_Trades_1 rfl ?_
  refine r_load rfl T.cell_L_api_Head rfl (cell_own (by repeat constructor) rfl) ?_
  refine r_move rfl rfl ?_
  refine r_elem (α := Hd) hs y.toNat rfl T.u_L_api_Head T.sz_api_Head rfl rfl (Int.toNat_of_nonneg h0).symm (by repeat constructor) rfl (by omega) (by decide) ?_
  refine r_fieldAddr _ rfl rfl T.fa_api_Head_2 rfl ?_
  refine r_load (v := int (hs.getD y.toNat default).2.2.1) rfl T.cell_int rfl (cell_row_f (by repeat constructor) (rows_get (by omega) rfl)) ?_
  refine r_lss rfl rfl rfl (hl_nil (then_n ?_))
  refine c_dec rfl (fun hb2 => ?_) (fun hb2 => ?_)
  ·have hb2' := hb2; try simp at hb2'
   rw [if_pos (show (hs.getD y.toNat default).2.2.1 = -1 by omega)] at ht
   refine hc_seq (hc_region (r_move rfl rfl (r_move rfl rfl (r_assign rfl rfl (r_assign rfl rfl (r_assign rfl rfl (hl_nil (then_n (hc_ret (then_ret (inb_ret ?_)))))))))))
   refine then_ret (then_ret (inb_ret (then_ret ?_)))
   exact ret3 () rfl rfl rfl rfl (by show folR (followT (trOf cs hs) h) = _; rw [ht]; rfl) rfl trivial (List.nil_sublist _) trivial
  ·have hb2' := hb2; try simp at hb2'
   rw [if_neg (show ¬ (hs.getD y.toNat default).2.2.1 = -1 by omega)] at ht
   refine hc_skip (then_n (hc_region ?_))
   refine r_fieldAddr ⟨_, 1, none⟩ rfl rfl T.fa_api_Trades_1 rfl ?_
   refine r_load rfl T.cell_L_api_Head rfl (cell_own (by repeat constructor) rfl) ?_
   refine r_move rfl rfl ?_
   refine r_elem (α := Hd) hs y.toNat rfl T.u_L_api_Head T.sz_api_Head rfl rfl (Int.toNat_of_nonneg h0).symm (by repeat constructor) rfl (by omega) (by decide) ?_
   refine r_fieldAddr _ rfl rfl T.fa_api_Head_2 rfl ?_
   refine r_load (v := int (hs.getD y.toNat default).2.2.1) rfl T.cell_int rfl (cell_row_f (by repeat constructor) (rows_get (by omega) rfl)) ?_
   refine r_assign rfl rfl (hl_nil (inb_n (then_n (hc_region (r_move rfl rfl ?_)))))
   refine r_add _ rfl rfl rfl rfl (by unfold I64; omega) ?_
   refine r_assign rfl rfl (hl_nil ?_)
   exact again _ (k + 1, (hs.getD y.toNat default).2.2.1) ⟨by show k + 1 ≤ hs.length + 1; omega, by show 0 ≤ (hs.getD y.toNat default).2.2.1; omega, hsy.2, by show _ = followN _ (hs.length + 1 - (k + 1)) _ _; rw [ht, Nat.add_sub_add_right]; rfl⟩ (by show hs.length + 1 - (k + 1) < hs.length + 1 - k; omega) ⟨rfl, rfl, rfl, trivial⟩ (List.Sublist.refl _) ⟨(by repeat constructor), trivial⟩
 ·have hb1' := hb1; try simp at hb1'
  have hk2 : k = hs.length + 1 := by omega
  rw [hk2, Nat.sub_self, followN] at ht
  refine hc_exit (then_exit (then_exit (inb_hit (then_n (hc_seq (hc_region (r_assign rfl rfl (r_assign rfl rfl (r_assign rfl rfl (hl_nil (then_n ?_)))))))))))
  refine hc_ret ?_
  exact ret3 () rfl rfl rfl rfl (by show folR (followT (trOf cs hs) h) = _; rw [ht]; rfl) rfl trivial (List.nil_sublist _) trivial

theorem ref04_Follow_meets {A B : Option Addr} {ca cb : Nat} (cs : List Cl) (hs : List Hd) (h : Int) (hhl : hs.length ≤ 1000) (hcl0 : cs.length ≤ 1000) (hwc : ∀ x ∈ cs, x.1.length ≤ 1000) (hwh : ∀ h ∈ hs, h.1.length ≤ 1000) (ha : ∀ h ∈ hs, h.2.2.2.l.length ≤ 1000000) : Meets Tryz.prog F.ref04_Follow [.agg #[.slice A cs.length ca, .slice B hs.length cb], int h] { LI := [Row A (rows cs), RowsF B hs Hd.row], val := fun _ : Unit => .tuple #[int (followE (trOf cs hs) h).1, int (followE (trOf cs hs) h).2.1, int (followE (trOf cs hs) h).2.2] } := by
 refine meets_intro F.ref04_Follow_f rfl (Nat.le_of_ble_eq_true rfl) fun w0 => ?_
 refine hc_seq (hc_region ?_)
 refine r_box rfl rfl fun gB => ?_
 refine r_assign rfl rfl (r_assign rfl rfl (r_assign rfl rfl (hl_nil (then_n (hc_seq (hc_seq (hc_region ?_)))))))
 refine r_loadA rfl T.row_api_Trades T.sz_api_Trades rfl (by repeat constructor) (by rfl) ?_
 refine r_move rfl rfl ?_
 refine r_buildSlice _ rfl rfl (fun _ => T.bs_ints_1 ..) fun gS => ?_
 refine hl_letgo (rows [h]) (List.prefix_refl _) ?_
 refine hl_nilrow (α := Int) ?_
 refine hl_call F.ref04_asked_cb rfl rfl (ref04_asked_meets (C1 := none) (c1 := 0) cs hs ([] : List Int) [h] (by simp) (by simp) hhl hcl0 hwc hwh ha) (List.Perm.refl _) ⟨(by repeat constructor), (by repeat constructor), (by repeat constructor), (by repeat constructor), trivial⟩ fun _ _ => ?_
 refine r_assign rfl rfl (hl_nil (then_n (hc_seq (hc_region (r_move rfl rfl (r_neq rfl rfl rfl (hl_nil (then_n ?_))))))))
 refine c_dec rfl (fun hb1 => ?_) (fun hb1 => ?_)
 ·have hb1' := hb1; try simp at hb1'
  rw [askd_h] at hb1
  refine hc_seq (hc_region (r_move rfl rfl (r_assign rfl rfl (r_assign rfl rfl (r_assign rfl rfl (hl_nil (then_n (hc_ret (then_ret ?_)))))))))
  exact ret3 () rfl rfl rfl rfl (by show Value.tuple #[int (followE (trOf cs hs) h).1, int (followE (trOf cs hs) h).2.1, int (followE (trOf cs hs) h).2.2] = _; rw [followE, if_pos hb1, askd_h]) rfl trivial (List.nil_sublist _) trivial
 ·have hb1' := hb1; try simp at hb1'
  rw [askd_h] at hb1
  have h0 := Classical.not_not.1 hb1
  have hch := ask_check h0
  have hin := ask_in h0 (List.mem_singleton.2 rfl)
  rw [hs_len] at hin
  have hok := tr_ok hch
  have h6 : cs.length ≤ 6 := hok.c6
  have h6h := hok.h6
  rw [hs_len] at h6h
  have hcl : ∀ i, i < cs.length → ClsOK cs i := hok.c
  have hln := hs_len cs hs
  have hS := sees_ok hok
  refine hc_skip (then_n (hc_seq (hc_region ?_)))
  refine r_loadA rfl T.row_api_Trades T.sz_api_Trades rfl (by repeat constructor) (by rfl) ?_
  refine r_move rfl rfl ?_
  refine hl_call F.ref04_follow_cb rfl rfl (ref04_follow_meets cs hs h hin.1 (by omega) (by omega) hS) (List.Perm.refl _) ⟨(by repeat constructor), trivial⟩ fun _ _ => ?_
  refine r_move rfl rfl ?_
  refine r_extract (vs := #[int ((followT (trOf cs hs) h).getD (0, 0)).1, int ((followT (trOf cs hs) h).getD (0, 0)).2, .bool (followT (trOf cs hs) h).isSome]) rfl rfl rfl ?_
  refine r_extract (vs := #[int ((followT (trOf cs hs) h).getD (0, 0)).1, int ((followT (trOf cs hs) h).getD (0, 0)).2, .bool (followT (trOf cs hs) h).isSome]) rfl rfl rfl ?_
  refine r_extract (vs := #[int ((followT (trOf cs hs) h).getD (0, 0)).1, int ((followT (trOf cs hs) h).getD (0, 0)).2, .bool (followT (trOf cs hs) h).isSome]) rfl rfl rfl ?_
  refine r_assign rfl rfl (r_assign rfl rfl (r_assign rfl rfl (hl_nil (then_n (hc_seq (hc_seq (hc_region (r_move rfl rfl (r_not rfl rfl (hl_nil (then_n ?_)))))))))))
  refine hc_cond rfl (fun hb2 => ?_) (fun hb2 => ?_)
  ·have hb2' := hb2; try simp at hb2'
   have h2 : (followT (trOf cs hs) h).isSome = false := by simpa using hb2
   refine hc_seq (hc_region (r_assign rfl rfl (r_assign rfl rfl (r_assign rfl rfl (hl_nil (then_n (hc_ret (then_ret ?_))))))))
   exact ret3 () rfl rfl rfl rfl (by show Value.tuple #[int (followE (trOf cs hs) h).1, int (followE (trOf cs hs) h).2.1, int (followE (trOf cs hs) h).2.2] = _; rw [followE, if_neg hb1, if_pos h2]) rfl trivial (List.nil_sublist _) trivial
  ·have hb2' := hb2; try simp at hb2'
   have h2 : ¬ (followT (trOf cs hs) h).isSome = false := fun e => by rw [e] at hb2; cases hb2
   refine hc_skip (then_n (hc_seq (hc_region (r_move rfl rfl (r_move rfl rfl (r_assign rfl rfl (r_assign rfl rfl (r_assign rfl rfl (hl_nil (then_n (hc_ret ?_)))))))))))
   exact ret3 () rfl rfl rfl rfl (by show Value.tuple #[int (followE (trOf cs hs) h).1, int (followE (trOf cs hs) h).2.1, int (followE (trOf cs hs) h).2.2] = _; rw [followE, if_neg hb1, if_neg h2]; rfl) rfl trivial (List.nil_sublist _) trivial

end Go.Proofs.YtlpgheniajdkfaaGreat
