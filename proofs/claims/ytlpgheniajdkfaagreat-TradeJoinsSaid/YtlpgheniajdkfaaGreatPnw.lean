/- Joins of the document: the walk of Join. -/
import Derived.Test.YtlpgheniajdkfaaGreatPnv
namespace Go.Proofs.YtlpgheniajdkfaaGreat
open Go Go.W
set_option linter.unusedVariables false
set_option linter.unusedSimpArgs false
set_option maxRecDepth 20000
attribute [local irreducible] HL HC HQ HB Row Rows2 Blk Facts

def frJ (t : Tr) (i k : Nat) : List Rf := frK t i ++ (if (t.hs.getD i default).2.2.1 = -1 then frI t i k else [])
theorem frJ_zero (t : Tr) (i : Nat) : frJ t i 0 = frK t i := by
  unfold frJ
  split
  · exact List.append_nil _
  · exact List.append_nil _
theorem frJ_end (t : Tr) (i : Nat) : frJ t i t.hs.length = frK t (i + 1) := (frK_succ t i).symm
theorem frJ_len (t : Tr) (i k : Nat) : (frJ t i k).length ≤ i * t.hs.length + k := by
  unfold frJ
  have h1 := frK_len t i
  have h2 := frI_len t i k
  rw [List.length_append]
  split
  · omega
  · simp only [List.length_nil]; omega
theorem frJ_yes {cs : List Cl} {hs : List Hd} {i k : Nat} (hse : -1 ≤ (hs.getD i default).2.2.1) (hf : FreeP hs i k) : frJ (trOf cs hs) i (k + 1) = frJ (trOf cs hs) i k ++ [((i : Int), (k : Int))] := by
  have h1 := hf.s
  have h3 : (trOf cs hs).hs.getD i default = (hs.getD i default).p := hd_get hf.il
  have h2 : ((trOf cs hs).hs.getD i default).2.2.1 = -1 := by
    rw [h3]
    show (hs.getD i default).2.2.1 = -1
    omega
  unfold frJ
  rw [if_pos h2, if_pos h2, frI_succ, if_pos, List.append_assoc]
  rw [Bool.and_eq_true, decide_eq_true_eq, Bool.not_eq_true']
  refine ⟨fun e => hf.ne e.symm, ?_⟩
  unfold nextB
  rw [h3, Bool.or_eq_false_iff, decide_eq_false_iff_not, decide_eq_false_iff_not]
  exact ⟨fun e => by have e2 : (hs.getD i default).2.2.1 = (k : Int) := e; omega, hf.a⟩
theorem frJ_no {cs : List Cl} {hs : List Hd} {i k : Nat} (hi : i < hs.length) (h : i = k ∨ ¬ (hs.getD i default).2.2.1 < 0 ∨ (k : Int) ∈ (hs.getD i default).2.2.2.l) : frJ (trOf cs hs) i (k + 1) = frJ (trOf cs hs) i k := by
  have h3 : (trOf cs hs).hs.getD i default = (hs.getD i default).p := hd_get hi
  unfold frJ
  by_cases h2 : ((trOf cs hs).hs.getD i default).2.2.1 = -1
  · rw [if_pos h2, if_pos h2, frI_succ, if_neg]
    rw [Bool.and_eq_true, decide_eq_true_eq, Bool.not_eq_true']
    rintro ⟨h4, h5⟩
    unfold nextB at h5
    rw [h3, Bool.or_eq_false_iff, decide_eq_false_iff_not, decide_eq_false_iff_not] at h5
    rw [h3] at h2
    have h6 : (hs.getD i default).2.2.1 = -1 := h2
    rcases h with h | h | h
    · exact h4 h.symm
    · omega
    · exact h5.2 h
  · rw [if_neg h2, if_neg h2]

set_option maxHeartbeats 2000000 in
theorem ref04_Join_meets {A B : Option Addr} {ca cb : Nat} (cs : List Cl) (hs : List Hd) (h s : Int) (hhl : hs.length ≤ 1000) (hcl0 : cs.length ≤ 1000) (hwc : ∀ x ∈ cs, x.1.length ≤ 1000) (hwh : ∀ h ∈ hs, h.1.length ≤ 1000) (ha : ∀ h ∈ hs, h.2.2.2.l.length ≤ 1000000) : Meets Tryz.prog F.ref04_Join [.agg #[.slice A cs.length ca, .slice B hs.length cb], int h, int s] { LI := [Row A (rows cs), RowsF B hs Hd.row], inv := fun x : OutS => lsts x.1 = (joinE (trOf cs hs) h s).1, val := fun x => .tuple #[.slice x.2.1 x.1.length x.2.2, int (joinE (trOf cs hs) h s).2], LO := fun x => [Rows2 x.2.1 x.1] } := by
 refine meets_intro F.ref04_Join_f rfl (Nat.le_of_ble_eq_true rfl) fun w0 => ?_
 refine hc_seq (hc_region ?_)
 refine r_box rfl rfl fun gB => ?_
 refine r_assign rfl rfl (r_assign rfl rfl (hl_nil (then_n (hc_seq (hc_seq (hc_letgoB (hc_region ?_)))))))
 refine r_loadB rfl T.row_api_Trades T.sz_api_Trades rfl (by repeat constructor) (by rfl) ?_
 refine r_move rfl rfl (r_move rfl rfl ?_)
 refine hl_call F.ref04_counted_cb rfl rfl (ref04_counted_meets cs hs h s hhl hcl0 hwc hwh ha) (List.Perm.refl _) ⟨(by repeat constructor), (by repeat constructor), trivial⟩ fun _ _ => ?_
 refine r_assign rfl rfl (hl_nil (then_n (hc_seq (hc_region (r_move rfl rfl (r_neq rfl rfl rfl (hl_nil (then_n ?_))))))))
 refine c_dec rfl (fun hb1 => ?_) (fun hb1 => ?_)
 ·have hb1' := hb1; try simp at hb1'
  refine hc_seq (hc_region (r_move rfl rfl (r_assign rfl rfl (r_assign rfl rfl (hl_nil (then_n (hc_ret (then_ret ?_))))))))
  refine hq_nilrow (α := Sl Int) ?_
  refine hq_facts (Fs := ([] : List (Sl Int)).map fun p => Row p.a (rows p.l)) (by intro F hF; simp at hF) ?_
  refine hq_rows2F (A := none) (ps := ([] : List (Sl Int))) (by repeat constructor) (by repeat constructor) ?_
  have hE : (joinE (trOf cs hs) h s) = ([], (if ¬ askE (trOf cs hs) [h] = 0 then askE (trOf cs hs) [h] else if 0 ≤ s ∧ s ≤ 6 then 0 else 1)) := by unfold joinE; by_cases h1 : askE (trOf cs hs) [h] = 0; rw [if_neg (not_not_intro h1), if_neg (not_not_intro h1)]; rw [if_neg (not_not_intro h1)] at hb1; by_cases h2 : 0 ≤ s ∧ s ≤ 6; rw [if_pos h2] at hb1; exact absurd rfl hb1; rw [if_pos h2, if_neg h2]; rw [if_pos h1, if_pos h1]
  exact ret2 (([] : List (Sl Int)), (none, 0)) rfl rfl rfl (by show Value.tuple #[.slice none 0 0, int (joinE (trOf cs hs) h s).2] = _; rw [hE]) rfl (by show [] = (joinE (trOf cs hs) h s).1; rw [hE]) (List.nil_sublist _) ⟨m0, trivial⟩
 ·have hb1' := hb1; try simp at hb1'
  have hb1 := Classical.not_not.1 hb1
  have h0 : askE (trOf cs hs) [h] = 0 := Classical.byContradiction fun h1 => by rw [if_pos h1] at hb1; exact h1 hb1
  rw [if_neg (not_not_intro h0)] at hb1
  have hs6 : 0 ≤ s ∧ s ≤ 6 := Classical.byContradiction fun h1 => by rw [if_neg h1] at hb1; cases hb1
  have hch := ask_check h0
  have hin := ask_in h0 (List.mem_singleton.2 rfl)
  rw [hs_len] at hin
  have hok := tr_ok hch
  have h6h := hok.h6
  have hln := hs_len cs hs
  rw [hln] at h6h
  have hS := sees_ok hok
  obtain ⟨s, rfl⟩ : ∃ q : Nat, s = (q : Int) := ⟨s.toNat, by omega⟩
  obtain ⟨h, rfl⟩ : ∃ q : Nat, h = (q : Int) := ⟨h.toNat, by omega⟩
  have hh : h < hs.length := by omega
  refine hc_outerF (ps := hs) (A := B) (f := Hd.row) (by repeat constructor) ?_
  refine hc_facts (Fs := ([] : List (Sl Int)).map (fun p : Sl Int => Row p.a (rows p.l))) (by intro F hF; simp at hF) ?_
  have hbc0 : hs.length ≤ cb ∨ ¬ hs.length ≤ cb := Classical.em _
  refine hc_skip (then_n (hc_seq (hc_region (r_assign rfl rfl (hl_nil (then_n (hc_seq (hc_region ?_))))))))
  refine r_loadB rfl T.row_api_Trades T.sz_api_Trades rfl (by repeat constructor) (by rfl) ?_
  refine r_alloc rfl (fun _ => T.al_api_Trades _) fun gW => ?_
  refine r_storeS (cs := #[.slice A cs.length ca, .slice B hs.length cb]) rfl rfl (.refl _) T.sz_api_Trades (by rfl) (by rfl) ?_
  refine hl_nil (then_n (hc_seq (hc_seq (hc_region (r_assign rfl rfl (hl_nil (then_n (hc_block ?_))))))))
  refine hc_loop (β := Nat × List (Sl Int) × OutC × Hp × (List Hd × OutC)) ⟨fun x => x.1 ≤ hs.length ∧ Grow T.ints 1 x.2.2.1.1 x.2.1.length x.2.2.1.2 (rows x.2.1) x.2.2.2.1 ∧ lsts x.2.1 = pairsOf (frK (trOf cs hs) x.1) ∧ Adds cs hs (frK (trOf cs hs) x.1) x.2.2.2.2.1, fun x => [(1, int (h : Int)), (2, int (s : Int)), (3, .pointer (some ⟨gB, 0, none⟩)), (9, .slice x.2.2.1.1 x.2.1.length x.2.2.1.2), (10, .pointer (some ⟨gW, 0, none⟩)), (11, int x.1)], fun x => (gW, Obj.cells #[.slice A cs.length ca, .slice x.2.2.2.2.2.1 x.2.2.2.2.1.length x.2.2.2.2.2.2] T.api_Trades (0, 0)) :: x.2.2.2.1, fun x => [Facts (x.2.1.map (fun p : Sl Int => Row p.a (rows p.l))), RowsF x.2.2.2.2.2.1 x.2.2.2.2.1 Hd.row, Row B (rows hs), Blk gB (.cells #[.slice A cs.length ca, .slice B hs.length cb] T.api_Trades (0, 0)), Row A (rows cs), RowsF B hs Hd.row]⟩ (fun x => hs.length - x.1) (0, [], (none, 0), [], hs, (B, cb)) ⟨Nat.zero_le _, Grow.nil _ _, rfl, adds_nil hok ha⟩ ⟨rfl, rfl, rfl, rfl, rfl, rfl, trivial⟩ (List.Sublist.refl _) ⟨(by repeat constructor), (by repeat constructor), (by repeat constructor), (by repeat constructor), (by repeat constructor), (by repeat constructor), trivial⟩ fun x hxx => ?_
  obtain ⟨i, ps, ⟨na, nc⟩, og, hx, ⟨bx, bc⟩⟩ := x
  obtain ⟨hi, hG, hps, hA⟩ := hxx
  simp only at hi hG hps hA
  refine hc_seq (hc_seq (hc_region (r_move rfl rfl ?_)))
  refine r_fieldAddr ⟨_, 1, none⟩ rfl rfl T.fa_api_Trades_1 rfl ?_
  refine r_load rfl T.cell_L_api_Head rfl (cell_blk (by repeat constructor) rfl) ?_
  refine r_len_sl rfl T.u_L_api_Head rfl ?_
  refine r_lss rfl rfl rfl (hl_nil (then_n ?_))
  refine c_dec rfl (fun hb2 => ?_) (fun hb2 => ?_)
  ·have hb2' := hb2; try simp at hb2'
   have hi2 : i < hs.length := by omega
   have hSi := (hS i hi2).1
   have hal := ha _ (getD_mem hi2)
   refine hc_skip (then_n (hc_seq (hc_block (hc_seq (hc_region (r_assign rfl rfl (hl_nil (then_n (hc_block ?_)))))))))
   refine hc_loop (β := Nat × List (Sl Int) × OutC × Hp × (List Hd × OutC)) ⟨fun x => x.1 ≤ hs.length ∧ Grow T.ints 1 x.2.2.1.1 x.2.1.length x.2.2.1.2 (rows x.2.1) x.2.2.2.1 ∧ lsts x.2.1 = pairsOf (frJ (trOf cs hs) i x.1) ∧ Adds cs hs (frJ (trOf cs hs) i x.1) x.2.2.2.2.1, fun x => [(1, int (h : Int)), (2, int (s : Int)), (3, .pointer (some ⟨gB, 0, none⟩)), (9, .slice x.2.2.1.1 x.2.1.length x.2.2.1.2), (10, .pointer (some ⟨gW, 0, none⟩)), (11, int i), (12, int x.1)], fun x => (gW, Obj.cells #[.slice A cs.length ca, .slice x.2.2.2.2.2.1 x.2.2.2.2.1.length x.2.2.2.2.2.2] T.api_Trades (0, 0)) :: x.2.2.2.1, fun x => [Facts (x.2.1.map (fun p : Sl Int => Row p.a (rows p.l))), RowsF x.2.2.2.2.2.1 x.2.2.2.2.1 Hd.row, Row B (rows hs), Blk gB (.cells #[.slice A cs.length ca, .slice B hs.length cb] T.api_Trades (0, 0)), Row A (rows cs), RowsF B hs Hd.row]⟩ (fun x => hs.length - x.1) (0, ps, (na, nc), og, hx, (bx, bc)) ⟨Nat.zero_le _, hG, by show lsts ps = pairsOf (frJ (trOf cs hs) i 0); rw [frJ_zero]; exact hps, by show Adds cs hs (frJ (trOf cs hs) i 0) hx; rw [frJ_zero]; exact hA⟩ ⟨rfl, rfl, rfl, rfl, rfl, rfl, rfl, trivial⟩ (List.Sublist.refl _) ⟨(by repeat constructor), (by repeat constructor), (by repeat constructor), (by repeat constructor), (by repeat constructor), (by repeat constructor), trivial⟩ fun x hxx => ?_
   clear hG hps hA
   obtain ⟨k, ps, ⟨na, nc⟩, og, hx, ⟨bx, bc⟩⟩ := x
   obtain ⟨hk, hG, hps, hA⟩ := hxx
   simp only at hk hG hps hA
   have hpl := ps_len hps
   have hjl := frJ_len (trOf cs hs) i k
   rw [hln] at hjl
   have hin6 : i * hs.length ≤ 6 * 6 := Nat.mul_le_mul (by omega) h6h
   refine hc_seq (hc_seq (hc_region (r_move rfl rfl ?_)))
   refine r_fieldAddr ⟨_, 1, none⟩ rfl rfl T.fa_api_Trades_1 rfl ?_
   refine r_load rfl T.cell_L_api_Head rfl (cell_blk (by repeat constructor) rfl) ?_
   refine r_len_sl rfl T.u_L_api_Head rfl ?_
   refine r_lss rfl rfl rfl (hl_nil (then_n ?_))
   refine c_dec rfl (fun hb3 => ?_) (fun hb3 => ?_)
   ·have hb3' := hb3; try simp at hb3'
    have hk2 : k < hs.length := by omega
    refine hc_skip (then_n (hc_seq (hc_block (hc_seq (hc_region (r_move rfl rfl (r_move rfl rfl (r_neq rfl rfl rfl (r_move rfl rfl ?_)))))))))
    refine g_split rfl rfl ?_ ?_
    ·intro hg1; have hg1' := hg1; try simp at hg1'
     have g12_4 : ¬ (i : Int) = (k : Int) := of_decide_eq_true (eq_of_beq hg1)
     refine g_yes rfl rfl hg1 ?_
     refine r_fieldAddr ⟨_, 1, none⟩ rfl rfl T.fa_api_Trades_1 rfl ?_
     refine g_yes rfl rfl hg1 ?_
     refine r_load rfl T.cell_L_api_Head rfl (cell_blk (by repeat constructor) rfl) ?_
     refine g_yes rfl rfl hg1 (r_move rfl rfl (g_yes rfl rfl hg1 ?_))
     refine r_elem (α := Hd) hs i rfl T.u_L_api_Head T.sz_api_Head rfl rfl rfl (by repeat constructor) rfl hi2 (by decide) ?_
     refine g_yes rfl rfl hg1 (r_fieldAddr _ rfl rfl T.fa_api_Head_2 rfl (g_yes rfl rfl hg1 ?_))
     refine r_load (v := int (hs.getD i default).2.2.1) rfl T.cell_int rfl (cell_row_f (by repeat constructor) (rows_get hi2 rfl)) ?_
     refine g_yes rfl rfl hg1 (r_lss rfl rfl rfl ?_)
     refine p_t rfl rfl (bt1 hg1) rfl ?_
     refine r_move rfl rfl ?_
     refine g_split rfl rfl ?_ ?_
     ·intro hg2; have hg2' := hg2; try simp at hg2'
      have g12_13 : (hs.getD i default).2.2.1 < 0 := of_decide_eq_true (eq_of_beq hg2)
      refine g_yes rfl rfl hg2 ?_
      refine r_fieldAddr ⟨_, 1, none⟩ rfl rfl T.fa_api_Trades_1 rfl ?_
      refine g_yes rfl rfl hg2 ?_
      refine r_load rfl T.cell_L_api_Head rfl (cell_blk (by repeat constructor) rfl) ?_
      refine g_yes rfl rfl hg2 (r_move rfl rfl (g_yes rfl rfl hg2 ?_))
      refine r_elem (α := Hd) hs i rfl T.u_L_api_Head T.sz_api_Head rfl rfl rfl (by repeat constructor) rfl hi2 (by decide) ?_
      refine g_yes rfl rfl hg2 (r_fieldAddr _ rfl rfl T.fa_api_Head_3 rfl (g_yes rfl rfl hg2 ?_))
      refine r_load (v := .slice (hs.getD i default).2.2.2.a (hs.getD i default).2.2.2.l.length (hs.getD i default).2.2.2.c) rfl T.cell_ints rfl (cell_row_f (by repeat constructor) (rows_get hi2 rfl)) ?_
      refine g_yes rfl rfl hg2 (r_move rfl rfl (g_yes rfl rfl hg2 ?_))
      refine hl_innerF (p := hs.getD i default) (f := Hd.row) (ps := hs) (by repeat constructor) (getD_mem hi2) ?_
      refine hl_call F.ref04_has_cb rfl rfl (ref04_has_meets (hs.getD i default).2.2.2.l (k : Int) hal) (hpR := (gW, Obj.cells #[.slice A cs.length ca, .slice bx hx.length bc] T.api_Trades (0, 0)) :: og) (List.Perm.refl _) ⟨(by repeat constructor), trivial⟩ fun z hz => ?_
      refine g_yes rfl rfl hg2 (r_lss rfl rfl rfl ?_)
      refine p_t rfl rfl (bt1 hg2) rfl ?_
      refine hl_nil (then_n ?_)
      refine c_dec rfl (fun hb4 => ?_) (fun hb4 => ?_)
      ·have hb4' := hb4; try simp at hb4'
       have hf : FreeP hs i k := ⟨hi2, hk2, by omega, g12_13, fun hm => by have := hz.1.2 hm; omega⟩
       have hj := frJ_yes (cs := cs) hSi hf
       have hnb : ((i : Int), (k : Int)) ∉ (frJ (trOf cs hs) i k) := fun hm => by
         unfold frJ at hm
         rcases List.mem_append.1 hm with h1 | h1
         ·unfold frK at h1
          obtain ⟨a, ha1, h2⟩ := List.mem_flatMap.1 h1
          have := List.mem_range.1 ha1
          split at h2
          ·obtain ⟨c, _, e⟩ := List.mem_map.1 h2
           have e2 : (a : Int) = (i : Int) := congrArg Prod.fst e
           omega
          ·cases h2
         ·split at h1
          ·obtain ⟨c, hc, e⟩ := List.mem_map.1 h1
           have e2 : (c : Int) = (k : Int) := congrArg Prod.snd e
           have := List.mem_range.1 (List.mem_filter.1 hc).1
           omega
          ·cases h1
       refine hc_drawW (og) ([(gW, Obj.cells #[.slice A cs.length ca, .slice bx hx.length bc] T.api_Trades (0, 0))]) (show List.Perm ((gW, Obj.cells #[.slice A cs.length ca, .slice bx hx.length bc] T.api_Trades (0, 0)) :: og) (og ++ [(gW, Obj.cells #[.slice A cs.length ca, .slice bx hx.length bc] T.api_Trades (0, 0))]) from (perm_of fun p => by simp only [List.countP_append, List.countP_cons, List.countP_nil]; omega)) 9 [5] mixed (by decide) (by decide) (by decide) rfl rfl rfl ?_
       apply hb_ex _ rfl rfl rfl
       ·intro w1
        refine r_move rfl rfl (hl_nil ?_)
        exact qe_done rfl
       apply hb_ex _ rfl rfl rfl
       ·intro w1
        refine r_move rfl rfl (hl_nil ?_)
        exact qe_done rfl
       apply hb_ex _ rfl rfl rfl
       ·intro w1
        refine r_move rfl rfl (hl_nil ?_)
        exact qe_done rfl
       refine hb_vs ⟨Nat, fun _ => True, fun g => .slice (some ⟨g, 0, none⟩) 2 2, fun g => [Row (some ⟨g, 0, none⟩) (rows [(i : Int), (k : Int)])]⟩ rfl rfl rfl ?_ ?_
       ·intro w1
        refine r_buildSlice _ rfl rfl (fun _ => T.bs_ints_2 ..) fun gS => ?_
        refine hl_nil ?_
        refine hq_letgo (rows [(i : Int), (k : Int)]) (List.prefix_refl _) ?_
        exact qv_done gS trivial rfl ⟨m0, trivial⟩
       refine hb_vs ⟨Nat × Nat, fun _ => True, fun g => .slice (some ⟨g.1, 0, none⟩) 1 1, fun g => [Row (some ⟨g.1, 0, none⟩) (rows [(⟨some ⟨g.2, 0, none⟩, 2, [(i : Int), (k : Int)]⟩ : Sl Int)]), Row (some ⟨g.2, 0, none⟩) (rows [(i : Int), (k : Int)])]⟩ rfl rfl rfl ?_ ?_
       ·intro g3 _; intro w1
        refine r_buildSlice _ rfl rfl (fun _ => T.bs_intss_1 ..) fun gS => ?_
        refine hl_nil ?_
        refine hq_letgo (rows [(⟨some ⟨g3, 0, none⟩, 2, [(i : Int), (k : Int)]⟩ : Sl Int)]) (List.prefix_refl _) ?_
        exact qv_done (gS, g3) trivial rfl ⟨m0, (by repeat constructor), trivial⟩
       refine hb_wr ⟨((OutC × Hp) × Nat), fun x => Grow T.ints 1 x.1.1.1 (ps.length + 1) x.1.1.2 (rows (ps ++ [(⟨some ⟨x.2, 0, none⟩, 2, [(i : Int), (k : Int)]⟩ : Sl Int)])) x.1.2, fun x => .slice x.1.1.1 (ps.length + 1) x.1.1.2, fun x => [Row (some ⟨x.2, 0, none⟩) (rows [(i : Int), (k : Int)])], fun x => x.1.2⟩ rfl rfl rfl ?_ ?_
       ·intro g4 _; intro w1
        refine r_append (ps.length + 1) (rows (ps ++ [(⟨some ⟨g4.2, 0, none⟩, 2, [(i : Int), (k : Int)]⟩ : Sl Int)])) T.el_intss rfl rfl rfl hG (hp' := []) (by rw [List.append_nil]) (Src.row (news := rows [(⟨some ⟨g4.2, 0, none⟩, 2, [(i : Int), (k : Int)]⟩ : Sl Int)]) (m := 1) (by repeat constructor) rfl (rows_one _) (by decide)) rfl (rows_append _ _).symm (by unfold maxLen; omega) (by omega) fun A' c' og' hG' => ?_
        refine hl_nil ?_
        exact qw_done (((A', c'), og'), g4.2) hG' (fun _ => rfl) (by rw [List.append_nil]; exact List.Sublist.refl _) ⟨(by repeat constructor), trivial⟩
       apply hb_ex _ rfl rfl rfl
       ·intro w1
        refine r_loadB rfl T.row_api_Trades T.sz_api_Trades rfl (by repeat constructor) (by rfl) ?_
        refine hl_nil ?_
        exact qe_done rfl
       apply hb_ex _ rfl rfl rfl
       ·intro w1
        refine r_move rfl rfl (hl_nil ?_)
        exact qe_done rfl
       apply hb_ex _ rfl rfl rfl
       ·intro w1
        refine r_move rfl rfl (hl_nil ?_)
        exact qe_done rfl
       refine hb_nil ⟨rfl, ?_⟩
       intro _ _ _ _ w hw
       obtain ⟨⟨⟨A', c'⟩, og'⟩, g3⟩ := w
       have hG' : Grow T.ints 1 A' (ps.length + 1) c' (rows (ps ++ [(⟨some ⟨g3, 0, none⟩, 2, [(i : Int), (k : Int)]⟩ : Sl Int)])) og' := hw
       refine hl_call F.ref04_With_cb rfl rfl (ref04_With_meets (A := A) (B := bx) (ca := ca) (cb := bc) cs hx i k (by have := hA.len; omega) (by have := hA.len; omega) (by have := hA.len; omega) hA.ha) (hpR := og' ++ [(gW, Obj.cells #[.slice A cs.length ca, .slice bx hx.length bc] T.api_Trades (0, 0))]) (List.Perm.refl _) ⟨(by repeat constructor), (by repeat constructor), trivial⟩ fun y hy => ?_
       have hA2 := adds_one hA hf hnb hy.1
       obtain ⟨h2, b2, c2⟩ := y
       simp only at hA2
       refine r_assign rfl rfl ?_
       refine r_storeS (hp' := og') (cs := #[.slice A cs.length ca, .slice b2 h2.length c2]) rfl rfl (show List.Perm (og' ++ [(gW, Obj.cells #[.slice A cs.length ca, .slice bx hx.length bc] T.api_Trades (0, 0))]) ((gW, Obj.cells #[.slice A cs.length ca, .slice bx hx.length bc] T.api_Trades (0, 0)) :: og') from (perm_of fun p => by simp only [List.countP_append, List.countP_cons, List.countP_nil]; omega)) T.sz_api_Trades (by rfl) (by rfl) ?_
       refine hl_nil (inb_n (then_n (hc_region (r_move rfl rfl ?_))))
       refine r_add _ rfl rfl rfl rfl (by unfold I64; omega) ?_
       refine r_assign rfl rfl (hl_nil ?_)
       refine hq_facts (innerF_snoc (ps := ps) (f := (fun p : Sl Int => Row p.a (rows p.l))) (p := (⟨some ⟨g3, 0, none⟩, 2, [(i : Int), (k : Int)]⟩ : Sl Int)) (by repeat constructor) (by repeat constructor)) ?_
       exact again _ (k + 1, ps ++ [(⟨some ⟨g3, 0, none⟩, 2, [(i : Int), (k : Int)]⟩ : Sl Int)], (A', c'), og', h2, (b2, c2)) ⟨by show k + 1 ≤ hs.length; omega, by show Grow _ _ _ (ps ++ [_]).length _ _ _; rw [List.length_append]; exact hG', by show lsts (ps ++ [_]) = pairsOf (frJ (trOf cs hs) i (k + 1)); rw [hj, pairs_snoc, ← hps, lsts, List.map_append]; rfl, by show Adds cs hs (frJ (trOf cs hs) i (k + 1)) h2; rw [hj]; exact hA2⟩ (by show hs.length - (k + 1) < hs.length - k; omega) ⟨rfl, rfl, rfl, by show some (Value.slice A' (ps.length + 1) c') = some (Value.slice A' (ps ++ [_]).length c'); rw [List.length_append]; rfl, rfl, rfl, rfl, trivial⟩ (List.Sublist.refl _) ⟨(by repeat constructor), (by repeat constructor), (by repeat constructor), (by repeat constructor), (by repeat constructor), (by repeat constructor), trivial⟩
      ·have hb4' := hb4; try simp at hb4'
       have hm : (k : Int) ∈ (hs.getD i default).2.2.2.l := hz.1.1 (by omega)
       refine hc_skip (inb_n (then_n (hc_region (r_move rfl rfl ?_))))
       refine r_add _ rfl rfl rfl rfl (by unfold I64; omega) ?_
       refine r_assign rfl rfl (hl_nil ?_)
       have hj := frJ_no (cs := cs) (k := k) hi2 (.inr (.inr hm))
       exact again _ (k + 1, ps, (na, nc), og, hx, (bx, bc)) ⟨by show k + 1 ≤ hs.length; omega, hG, by show lsts ps = pairsOf (frJ (trOf cs hs) i (k + 1)); rw [hj]; exact hps, by show Adds cs hs (frJ (trOf cs hs) i (k + 1)) hx; rw [hj]; exact hA⟩ (by show hs.length - (k + 1) < hs.length - k; omega) ⟨rfl, rfl, rfl, rfl, rfl, rfl, rfl, trivial⟩ (List.Sublist.refl _) ⟨(by repeat constructor), (by repeat constructor), (by repeat constructor), (by repeat constructor), (by repeat constructor), (by repeat constructor), trivial⟩
     ·intro hg2; have hg2' := hg2; try simp at hg2'
      have g12_13 : ¬ (hs.getD i default).2.2.1 < 0 := of_decide_eq_false (bf2 hg2)
      refine g_no rfl rfl rfl rfl rfl hg2 (g_no rfl rfl rfl rfl rfl hg2 (g_no rfl rfl rfl rfl rfl hg2 (g_no rfl rfl rfl rfl rfl hg2 (g_no rfl rfl rfl rfl rfl hg2 (g_no rfl rfl rfl rfl rfl hg2 (g_no rfl rfl rfl rfl rfl hg2 (g_no rfl rfl rfl rfl rfl hg2 (g_no rfl rfl rfl rfl rfl hg2 ?_))))))))
      refine p_f rfl rfl (bf2 hg2) rfl ?_
      refine hl_nil (then_n (c_f rfl rfl (hc_skip (inb_n (then_n (hc_region (r_move rfl rfl ?_)))))))
      refine r_add _ rfl rfl rfl rfl (by unfold I64; omega) ?_
      refine r_assign rfl rfl (hl_nil ?_)
      have hj := frJ_no (cs := cs) (k := k) hi2 (.inr (.inl g12_13))
      exact again _ (k + 1, ps, (na, nc), og, hx, (bx, bc)) ⟨by show k + 1 ≤ hs.length; omega, hG, by show lsts ps = pairsOf (frJ (trOf cs hs) i (k + 1)); rw [hj]; exact hps, by show Adds cs hs (frJ (trOf cs hs) i (k + 1)) hx; rw [hj]; exact hA⟩ (by show hs.length - (k + 1) < hs.length - k; omega) ⟨rfl, rfl, rfl, rfl, rfl, rfl, rfl, trivial⟩ (List.Sublist.refl _) ⟨(by repeat constructor), (by repeat constructor), (by repeat constructor), (by repeat constructor), (by repeat constructor), (by repeat constructor), trivial⟩
    ·intro hg1; have hg1' := hg1; try simp at hg1'
     have g12_4 : ¬ ¬ (i : Int) = (k : Int) := of_decide_eq_false (bf2 hg1)
     refine g_no rfl rfl rfl rfl rfl hg1 (g_no rfl rfl rfl rfl rfl hg1 (g_no rfl rfl rfl rfl rfl hg1 (g_no rfl rfl rfl rfl rfl hg1 (g_no rfl rfl rfl rfl rfl hg1 (g_no rfl rfl rfl rfl rfl hg1 (g_no rfl rfl rfl rfl rfl hg1 ?_))))))
     refine p_f rfl rfl (bf2 hg1) rfl ?_
     refine r_move rfl rfl (g_no rfl rfl rfl rfl rfl rfl (g_no rfl rfl rfl rfl rfl rfl (g_no rfl rfl rfl rfl rfl rfl (g_no rfl rfl rfl rfl rfl rfl (g_no rfl rfl rfl rfl rfl rfl (g_no rfl rfl rfl rfl rfl rfl (g_no rfl rfl rfl rfl rfl rfl (g_no rfl rfl rfl rfl rfl rfl (g_no rfl rfl rfl rfl rfl rfl (p_f rfl rfl rfl rfl (hl_nil ?_)))))))))))
     refine then_n (c_f rfl rfl (hc_skip (inb_n (then_n (hc_region (r_move rfl rfl ?_))))))
     refine r_add _ rfl rfl rfl rfl (by unfold I64; omega) ?_
     refine r_assign rfl rfl (hl_nil ?_)
     have hj := frJ_no (cs := cs) (k := k) hi2 (.inl (by have := Classical.not_not.1 g12_4; omega))
     exact again _ (k + 1, ps, (na, nc), og, hx, (bx, bc)) ⟨by show k + 1 ≤ hs.length; omega, hG, by show lsts ps = pairsOf (frJ (trOf cs hs) i (k + 1)); rw [hj]; exact hps, by show Adds cs hs (frJ (trOf cs hs) i (k + 1)) hx; rw [hj]; exact hA⟩ (by show hs.length - (k + 1) < hs.length - k; omega) ⟨rfl, rfl, rfl, rfl, rfl, rfl, rfl, trivial⟩ (List.Sublist.refl _) ⟨(by repeat constructor), (by repeat constructor), (by repeat constructor), (by repeat constructor), (by repeat constructor), (by repeat constructor), trivial⟩
   ·have hb3' := hb3; try simp at hb3'
    obtain rfl : k = hs.length := by omega
    have hje := frJ_end (trOf cs hs) i
    rw [hln] at hje
    rw [hje] at hps hA
    refine hc_exit (then_exit (then_exit (inb_hit (inb_n (then_n (hc_region (r_move rfl rfl ?_)))))))
    refine r_add _ rfl rfl rfl rfl (by unfold I64; omega) ?_
    refine r_assign rfl rfl (hl_nil ?_)
    exact again _ (i + 1, ps, (na, nc), og, hx, (bx, bc)) ⟨by show i + 1 ≤ hs.length; omega, hG, hps, hA⟩ (by show hs.length - (i + 1) < hs.length - i; omega) ⟨rfl, rfl, rfl, rfl, rfl, rfl, trivial⟩ (List.Sublist.refl _) ⟨(by repeat constructor), (by repeat constructor), (by repeat constructor), (by repeat constructor), (by repeat constructor), (by repeat constructor), trivial⟩
  ·have hb2' := hb2; try simp at hb2'
   obtain rfl : i = hs.length := by omega
   refine hc_exit (then_exit (then_exit (inb_hit (then_n (hc_seq (hc_seq ?_))))))
   have hfr : frK (trOf cs hs) hs.length = freeT (trOf cs hs) := by rw [free_frK, hln]
   rw [hfr] at hps hA
   have hfl := free_len (t := (trOf cs hs)) (by rw [hln]; exact h6h)
   have hhf := hid_fine hA (h := h) (s := s) hh
   refine hc_region ?_
   refine r_loadA rfl T.row_api_Trades T.sz_api_Trades rfl (by repeat constructor) (by rfl) ?_
   refine r_move rfl rfl (r_move rfl rfl ?_)
   refine hl_call F.ref04_hidden_cb rfl rfl (ref04_hidden_meets (A := A) (B := bx) (ca := ca) (cb := bc) cs hx h (s : Int) hA.ok (by have := hA.len; omega) hA.ha) (hpR := (gW, Obj.cells #[.slice A cs.length ca, .slice bx hx.length bc] T.api_Trades (0, 0)) :: og) (List.Perm.refl _) ⟨(by repeat constructor), trivial⟩ fun y hy => ?_
   refine r_len_sl rfl T.u_ints rfl ?_
   refine r_gtr rfl rfl rfl (hl_nil (then_n ?_))
   refine c_dec rfl (fun hb5 => ?_) (fun hb5 => ?_)
   ·have hb5' := hb5; try simp at hb5'
    have hf : fineB (trOf cs hs) (h : Int) (s : Int) (freeT (trOf cs hs)) = false := by
      cases e : fineB (trOf cs hs) (h : Int) (s : Int) (freeT (trOf cs hs)) with
      | false => rfl
      | true => have := hhf.2 e; omega
    refine hc_seq (hc_region (r_assign rfl rfl (r_assign rfl rfl (hl_nil (then_n (hc_ret (then_ret ?_)))))))
    refine hq_nilrow (α := Sl Int) ?_
    refine hq_facts (Fs := ([] : List (Sl Int)).map fun p => Row p.a (rows p.l)) (by intro F hF; simp at hF) ?_
    refine hq_rows2F (A := none) (ps := ([] : List (Sl Int))) (by repeat constructor) (by repeat constructor) ?_
    have hE : (joinE (trOf cs hs) (h : Int) (s : Int)) = ([], 11) := by unfold joinE; rw [if_neg (not_not_intro h0), if_neg (not_not_intro hs6), join_no hf]; rfl
    exact ret2 (([] : List (Sl Int)), (none, 0)) rfl rfl rfl (by show Value.tuple #[.slice none 0 0, int (joinE (trOf cs hs) (h : Int) (s : Int)).2] = _; rw [hE]) rfl (by show [] = (joinE (trOf cs hs) (h : Int) (s : Int)).1; rw [hE]) (List.nil_sublist _) ⟨m0, trivial⟩
   ·have hb5' := hb5; try simp at hb5'
    have hf : fineB (trOf cs hs) (h : Int) (s : Int) (freeT (trOf cs hs)) = true := hhf.1 (by omega)
    refine hc_skip (then_n (hc_seq ?_))
    refine hc_perm (hp' := og ++ [(gW, Obj.cells #[.slice A cs.length ca, .slice bx hx.length bc] T.api_Trades (0, 0))]) (show List.Perm ((gW, Obj.cells #[.slice A cs.length ca, .slice bx hx.length bc] T.api_Trades (0, 0)) :: og) (og ++ [(gW, Obj.cells #[.slice A cs.length ca, .slice bx hx.length bc] T.api_Trades (0, 0))]) from (perm_of fun p => by simp only [List.countP_append, List.countP_cons, List.countP_nil]; omega)) ?_
    refine hc_grown hG ?_
    refine hc_rows2F (A := na) (ps := ps) (by repeat constructor) (by repeat constructor) ?_
    refine hc_region (r_assign rfl rfl (hl_nil (then_n (hc_block ?_))))
    refine hc_loop (β := Nat) ⟨fun m => ∀ q, q < m → growQ (fineB (trOf cs hs) (h : Int) (s : Int)) q [] (freeT (trOf cs hs)) = none, fun m => [(1, int (h : Int)), (2, int (s : Int)), (3, .pointer (some ⟨gB, 0, none⟩)), (9, .slice (na, nc).1 ps.length (na, nc).2), (13, int m)], fun _ => [], fun _ => [Blk gB (.cells #[.slice A cs.length ca, .slice B hs.length cb] T.api_Trades (0, 0)), Row A (rows cs), RowsF B hs Hd.row, Rows2 na ps]⟩ (fun m => 38 - m) 0 (fun q hq => by have hq : q < 0 := hq; omega) ⟨rfl, rfl, rfl, rfl, rfl, trivial⟩ (List.nil_sublist _) ⟨(by repeat constructor), (by repeat constructor), (by repeat constructor), (by repeat constructor), trivial⟩ fun m hm => ?_
    simp only at hm
    have hml : m < (freeT (trOf cs hs)).length + 1 := by
      apply Classical.byContradiction
      intro hn
      exact join_end hf fun q hq => hm q (by omega)
    refine hc_seq (hc_block (hc_seq (hc_region ?_)))
    refine r_loadB rfl T.row_api_Trades T.sz_api_Trades rfl (by repeat constructor) (by rfl) ?_
    refine r_move rfl rfl (r_move rfl rfl (r_move rfl rfl (r_move rfl rfl ?_)))
    refine hl_call F.ref04_first_cb rfl rfl (ref04_first_meets (A := A) (FA := na) (ca := ca) (fc := nc) cs hs (freeT (trOf cs hs)) ps h s rfl hfl hps hh (by omega) h6h m hs B cb [] 0 (adds_nil hok ha) (fun r hr => by cases hr) (Nat.zero_le _) (by omega)) (hpR := []) (List.Perm.refl _) ⟨(by repeat constructor), (by repeat constructor), (by repeat constructor), trivial⟩ fun y hy => ?_
    refine r_move rfl rfl (r_extract rfl rfl rfl (r_extract rfl rfl rfl (r_assign rfl rfl (r_assign rfl rfl (hl_nil (then_n (hc_seq (hc_region (r_move rfl rfl (hl_nil (then_n ?_)))))))))))
    refine hc_cond rfl (fun hb6 => ?_) (fun hb6 => ?_)
    ·have hb6' := hb6; try simp at hb6'
     have hq0 : fstQ (fineB (trOf cs hs) (h : Int) (s : Int)) m [] ((freeT (trOf cs hs)).drop 0) = growQ (fineB (trOf cs hs) (h : Int) (s : Int)) m [] (freeT (trOf cs hs)) := by rw [List.drop_zero, fstQ_grow]
     have hb9 : (fstQ (fineB (trOf cs hs) (h : Int) (s : Int)) m [] ((freeT (trOf cs hs)).drop 0)).isSome = true := hb6
     rw [hq0] at hb9
     obtain ⟨c, hc⟩ := Option.isSome_iff_exists.1 hb9
     have hy1 : lsts y.1 = pairsOf ((fstQ (fineB (trOf cs hs) (h : Int) (s : Int)) m [] ((freeT (trOf cs hs)).drop 0)).getD []) := hy
     rw [hq0, hc] at hy1
     have hJ := join_at hf hml hm hc
     have hE : (joinE (trOf cs hs) (h : Int) (s : Int)) = (pairsOf c, 0) := by unfold joinE; rw [if_neg (not_not_intro h0), if_neg (not_not_intro hs6), hJ]; rfl
     refine hc_seq (hc_region (r_move rfl rfl (r_assign rfl rfl (r_assign rfl rfl (hl_nil (then_n (hc_ret (inb_ret (then_ret (then_ret (inb_ret ?_)))))))))))
     exact ret2 y rfl rfl rfl (by show Value.tuple #[.slice y.2.1 y.1.length y.2.2, int (joinE (trOf cs hs) (h : Int) (s : Int)).2] = _; rw [hE]; rfl) rfl (by show lsts y.1 = (joinE (trOf cs hs) (h : Int) (s : Int)).1; rw [hE]; exact hy1) (List.nil_sublist _) ⟨(by repeat constructor), trivial⟩
    ·have hb6' := hb6; try simp at hb6'
     have hq0 : fstQ (fineB (trOf cs hs) (h : Int) (s : Int)) m [] ((freeT (trOf cs hs)).drop 0) = growQ (fineB (trOf cs hs) (h : Int) (s : Int)) m [] (freeT (trOf cs hs)) := by rw [List.drop_zero, fstQ_grow]
     have hb9 : ¬ (fstQ (fineB (trOf cs hs) (h : Int) (s : Int)) m [] ((freeT (trOf cs hs)).drop 0)).isSome = true := fun e => by first | exact hb6 e | (rw [e] at hb6; cases hb6)
     rw [hq0] at hb9
     have hn0 : growQ (fineB (trOf cs hs) (h : Int) (s : Int)) m [] (freeT (trOf cs hs)) = none := by cases e : growQ (fineB (trOf cs hs) (h : Int) (s : Int)) m [] (freeT (trOf cs hs)) with | none => rfl | some c => rw [e] at hb9; exact absurd rfl hb9
     refine hc_skip (inb_n (then_n (hc_region (r_move rfl rfl ?_))))
     refine r_add _ rfl rfl rfl rfl (by unfold I64; omega) ?_
     refine r_assign rfl rfl (hl_nil ?_)
     exact again _ (m + 1) (fun q hq => by rcases Nat.lt_or_ge q m with h1 | h1; exact hm q h1; rw [show q = m by have hq : q < m + 1 := hq; omega]; exact hn0) (by show 38 - (m + 1) < 38 - m; omega) ⟨rfl, rfl, rfl, rfl, rfl, trivial⟩ (List.nil_sublist _) ⟨(by repeat constructor), (by repeat constructor), (by repeat constructor), (by repeat constructor), trivial⟩

end Go.Proofs.YtlpgheniajdkfaaGreat
