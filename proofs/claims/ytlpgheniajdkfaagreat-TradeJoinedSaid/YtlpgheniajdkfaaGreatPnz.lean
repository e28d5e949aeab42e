/- References added, one after the other. -/
import Derived.Test.YtlpgheniajdkfaaGreatPny
namespace Go.Proofs.YtlpgheniajdkfaaGreat
open Go Go.W
set_option linter.unusedVariables false
set_option linter.unusedSimpArgs false
set_option maxRecDepth 20000
attribute [local irreducible] HL HC HQ HB Row Rows2 Blk Facts

theorem adds_copy {cs : List Cl} {hs hs2 : List Hd} (hok : TrOK (trOf cs hs)) (ha : ∀ h ∈ hs, h.2.2.2.l.length ≤ 1000000) (hp : hs2.map Hd.p = hs.map Hd.p) : Adds cs hs [] hs2 := by
  have hl : hs2.length = hs.length := p_len hp
  have ht : trOf cs hs2 = trOf cs hs := congrArg (Tr.mk cs) hp
  refine ⟨by rw [ht]; exact hok, hl, fun j hj => ?_, fun j => by rw [ht], fun x y hx hy => ?_, fun h hh => ?_⟩
  · exact congrArg (fun q : PH => q.2.2.1) (p_at hp (show j < hs2.length by omega))
  · have h1 : (hs2.getD x default).2.2.2.l = (hs.getD x default).2.2.2.l := congrArg (fun q : PH => q.2.2.2) (p_at hp (show x < hs2.length by omega))
    rw [h1]
    simp
  · have h1 : h.p ∈ hs.map Hd.p := by rw [← hp]; exact List.mem_map_of_mem hh
    obtain ⟨x, hx, e⟩ := List.mem_map.1 h1
    have e2 : x.2.2.2.l = h.2.2.2.l := congrArg (fun q : PH => q.2.2.2) e
    rw [← e2]
    exact ha x hx


set_option maxHeartbeats 2000000 in
theorem law04_added_is {R : Option Addr} {rc : Nat} {A B : Option Addr} {ca cb : Nat} (cs : List Cl) (hs : List Hd) (l : List Rf) (ps : List (Sl Int)) (hps : lsts ps = pairsOf l) (hlf : ∀ r ∈ l, r ∈ freeT (trOf cs hs)) (hln : l.Nodup) (h36 : l.length ≤ 36) (hok : TrOK (trOf cs hs)) (hpos : 0 < hs.length) (hca : cs.length ≤ ca) (hcb : hs.length ≤ cb) (ha : ∀ h ∈ hs, h.2.2.2.l.length ≤ 1000000) : Meets Tryz.prog F.law04_added [.agg #[.slice A cs.length ca, .slice B hs.length cb], .slice R ps.length rc] { LI := [Row A (rows cs), RowsF B hs Hd.row, Rows2 R ps], inv := fun x : OutA => Adds cs hs l x.1 ∧ cs.length ≤ x.2.1.2 ∧ x.1.length ≤ x.2.2.2, val := fun x => .agg #[.slice x.2.1.1 cs.length x.2.1.2, .slice x.2.2.1 x.1.length x.2.2.2], LO := fun x => [Row x.2.1.1 (rows cs), RowsF x.2.2.1 x.1 Hd.row] } := by
 refine meets_intro F.law04_added_f rfl (Nat.le_of_ble_eq_true rfl) fun w0 => ?_
 refine hc_seq (hc_region ?_)
 refine r_box rfl rfl fun gB => ?_
 refine r_alloc rfl (fun _ => T.al_api_Trades _) fun gA => ?_
 refine hl_nil (then_n (hc_seq ?_))
 have h6 : cs.length ≤ 6 := hok.c6
 have h6h := hok.h6
 rw [hs_len] at h6h
 have hpn := ps_len hps
 refine hc_region ?_
 refine r_loadA rfl T.row_api_Trades T.sz_api_Trades rfl (by repeat constructor) (by rfl) ?_
 refine hl_call F.kit_DupTrades_cb rfl rfl (kit_DupTrades_meets cs hs h6 h6h hca hcb ha) (hpR := [_, _]) (List.Perm.refl _) ⟨(by repeat constructor), (by repeat constructor), trivial⟩ fun x hD => ?_
 obtain ⟨⟨⟨a3, c3⟩, o3⟩, hs2, ⟨⟨a7, c7⟩, o7⟩⟩ := x
 change DupOK cs hs (((a3, c3), o3), hs2, ((a7, c7), o7)) at hD
 have hp2 : hs2.map Hd.p = hs.map Hd.p := hD.p
 have hDa : GrowE T.api_Class 2 a3 cs.length c3 (rows cs) o3 := hD.a
 have hDb : GrowE T.api_Head 4 a7 hs2.length c7 (rows hs2) o7 := hD.b
 have hl2 := p_len hp2
 obtain ⟨g7, cur, rfl, rfl, hcl, hcm, hcs, hct⟩ := hDb.blk (show 0 < hs2.length by omega)
 clear hD hDb
 refine r_alloc rfl (fun _ => T.al_api_Trades _) fun g5 => ?_
 refine r_storeS (cs := #[.slice a3 cs.length c3, .slice (some ⟨g7, 0, none⟩) hs2.length c7]) rfl rfl (.refl _) T.sz_api_Trades (by rfl) (by rfl) ?_
 refine hl_nil (then_n (hc_seq (hc_seq (hc_letgoB ?_))))
 refine hc_perm (show List.Perm (([(g7, Obj.cells cur T.api_Head (0, 0))] ++ o3) ++ [(gA, Obj.cells #[.slice none 0 0, .slice none 0 0] T.api_Trades (0, 0)), (gB, Obj.cells #[.slice A cs.length ca, .slice B hs.length cb] T.api_Trades (0, 0))]) (o3 ++ ([(g7, Obj.cells cur T.api_Head (0, 0))] ++ [(gA, Obj.cells #[.slice none 0 0, .slice none 0 0] T.api_Trades (0, 0)), (gB, Obj.cells #[.slice A cs.length ca, .slice B hs.length cb] T.api_Trades (0, 0))])) from (perm_of fun p => by simp only [List.countP_append, List.countP_cons, List.countP_nil]; omega)) ?_
 refine hc_grownE hDa (hc_region (r_assign rfl rfl (hl_nil (then_n (hc_block ?_)))))
 refine hc_loop (β := Nat × List Hd × Array Value) ⟨fun x => x.1 ≤ l.length ∧ Adds cs hs (l.take x.1) x.2.1 ∧ x.2.2.size = c7 * 4 ∧ x.2.2.toList.take (x.2.1.length * 4) = rows x.2.1, fun x => [(1, .slice R ps.length rc), (4, .pointer (some ⟨gA, 0, none⟩)), (5, .pointer (some ⟨g5, 0, none⟩)), (6, int x.1)], fun x => [(g7, Obj.cells x.2.2 T.api_Head (0, 0)), (gA, Obj.cells #[.slice none 0 0, .slice none 0 0] T.api_Trades (0, 0))], fun x => [Row a3 (rows cs), Blk g5 (.cells #[.slice a3 cs.length c3, .slice (some ⟨g7, 0, none⟩) hs2.length c7] T.api_Trades (0, 0)), Rows2 R ps, innersF x.2.1 Hd.row]⟩ (fun x => l.length - x.1) (0, hs2, cur) ⟨Nat.zero_le _, adds_copy hok ha hp2, hcs, hct⟩ ⟨rfl, rfl, rfl, rfl, trivial⟩ (List.Sublist.cons_cons _ (List.Sublist.cons_cons _ (List.nil_sublist _))) ⟨(by repeat constructor), (by repeat constructor), (by repeat constructor), (by repeat constructor), trivial⟩ fun x hxx => ?_
 clear hcs hct
 obtain ⟨r, hx, cur⟩ := x
 obtain ⟨hr, hA, hcs, hct⟩ := hxx
 simp only at hr hA hcs hct
 have hxl := hA.len
 refine hc_seq (hc_seq (hc_region (r_move rfl rfl (r_move rfl rfl ?_))))
 refine r_len_sl rfl T.u_intss rfl ?_
 refine r_lss rfl rfl rfl (hl_nil (then_n ?_))
 refine c_dec rfl (fun hb1 => ?_) (fun hb1 => ?_)
 ·have hb1' := hb1; try simp at hb1'
  have hr2 : r < l.length := by omega
  have hrp : r < ps.length := by omega
  obtain ⟨i, k, hrr, hf⟩ := free_is (cs := cs) (hs := hs) (r := (l.getD r default)) (hlf _ (getD_mem hr2))
  have hpl : (ps.getD r default).l = [(i : Int), (k : Int)] := by have h9 := ps_at hps hr2; rw [hrr] at h9; exact h9
  have hnb : ((i : Int), (k : Int)) ∉ l.take r := by rw [← hrr]; exact not_in hln hr2 (fun _ h => h)
  have hil := hf.il
  have hkl := hf.kl
  have htk : l.take (r + 1) = l.take r ++ [((i : Int), (k : Int))] := by rw [take_succ_getD l r hr2, hrr]
  have hal := hA.ha _ (getD_mem (show i < hx.length by omega))
  refine hc_skip (then_n (hc_seq (hc_block (hc_seq (hc_region (r_assign rfl rfl (hl_nil (then_n (hc_seq (hc_seq (hc_region ?_)))))))))))
  refine r_assign rfl rfl (hl_nil (then_n (hc_block ?_)))
  refine hc_loop (β := Nat × OutC × Hp) ⟨fun x => x.1 ≤ hx.length ∧ Grow T.int 1 x.2.1.1 (alsoK hx i k x.1).length x.2.1.2 (rows (alsoK hx i k x.1)) x.2.2, fun x => [(1, .slice R ps.length rc), (4, .pointer (some ⟨gA, 0, none⟩)), (5, .pointer (some ⟨g5, 0, none⟩)), (6, int r), (7, .slice x.2.1.1 (alsoK hx i k x.1).length x.2.1.2), (8, int x.1)], fun x => x.2.2 ++ [(g7, Obj.cells cur T.api_Head (0, 0)), (gA, Obj.cells #[.slice none 0 0, .slice none 0 0] T.api_Trades (0, 0))], fun _ => [Row a3 (rows cs), Blk g5 (.cells #[.slice a3 cs.length c3, .slice (some ⟨g7, 0, none⟩) hs2.length c7] T.api_Trades (0, 0)), Rows2 R ps, innersF hx Hd.row]⟩ (fun x => hx.length - x.1) (0, (none, 0), []) ⟨Nat.zero_le _, Grow.nil _ _⟩ ⟨rfl, rfl, rfl, rfl, rfl, rfl, trivial⟩ (List.Sublist.refl _) ⟨(by repeat constructor), (by repeat constructor), (by repeat constructor), (by repeat constructor), trivial⟩ fun x hxx => ?_
  obtain ⟨j, ⟨na, nc⟩, og⟩ := x
  obtain ⟨hj, hG⟩ := hxx
  simp only at hj hG
  have hul := alsoK_len hx i k j
  have huc := alsoK_succ hx i k j
  refine hc_seq (hc_seq (hc_region (r_move rfl rfl ?_)))
  refine r_fieldAddr ⟨_, 1, none⟩ rfl rfl T.fa_api_Trades_1 rfl ?_
  refine r_load rfl T.cell_L_api_Head rfl (cell_blk (by repeat constructor) rfl) ?_
  refine r_len_sl rfl T.u_L_api_Head rfl ?_
  refine r_lss rfl rfl rfl (hl_nil (then_n ?_))
  refine c_dec rfl (fun hb2 => ?_) (fun hb2 => ?_)
  ·have hb2' := hb2; try simp at hb2'
   have hj2 : j < hx.length := by omega
   refine hc_skip (then_n (hc_seq (hc_block ?_)))
   refine hc_cut ⟨fun _ : Unit => True, fun _ => [(1, .slice R ps.length rc), (4, .pointer (some ⟨gA, 0, none⟩)), (5, .pointer (some ⟨g5, 0, none⟩)), (6, int r), (7, .slice (na, nc).1 (alsoK hx i k j).length (na, nc).2), (8, int j), (47, .bool (aB hx i k j))], fun _ => og ++ [(g7, Obj.cells cur T.api_Head (0, 0)), (gA, Obj.cells #[.slice none 0 0, .slice none 0 0] T.api_Trades (0, 0))], fun _ => [Row a3 (rows cs), Blk g5 (.cells #[.slice a3 cs.length c3, .slice (some ⟨g7, 0, none⟩) hs2.length c7] T.api_Trades (0, 0)), Rows2 R ps, innersF hx Hd.row]⟩ ?_ ?_
   ·skip
    refine hc_drawW (og) ([(g7, Obj.cells cur T.api_Head (0, 0)), (gA, Obj.cells #[.slice none 0 0, .slice none 0 0] T.api_Trades (0, 0))]) (List.Perm.refl _) 21 [] mixed (by decide) (by decide) (by decide) rfl rfl rfl ?_
    apply hb_ex _ rfl rfl rfl
    ·intro w1
     refine r_move rfl rfl (hl_nil ?_)
     exact qe_done rfl
    apply hb_ex _ rfl rfl rfl
    ·intro w1
     refine r_move rfl rfl (hl_nil ?_)
     exact qe_done rfl
    apply hb_ex _ rfl rfl rfl
    ·intro w1
     refine r_move rfl rfl (hl_nil ?_)
     exact qe_done rfl
    apply hb_ex _ rfl rfl rfl
    ·intro w1
     refine hl_outer (A := R) (ps := ps) (by repeat constructor) ?_
     refine r_elem (α := Sl Int) ps r rfl T.u_intss T.sz_ints rfl rfl rfl (by repeat constructor) rfl hrp (by decide) ?_
     refine hl_nil ?_
     exact qe_done rfl
    apply hb_ex _ rfl rfl rfl
    ·intro w1
     refine hl_outer (A := R) (ps := ps) (by repeat constructor) ?_
     refine r_load (v := .slice (ps.getD r default).a (ps.getD r default).l.length (ps.getD r default).c) rfl T.cell_ints rfl (cell_row (by repeat constructor) (rows_get0 hrp rfl)) ?_
     refine hl_nil ?_
     exact qe_done rfl
    apply hb_ex _ rfl rfl rfl
    ·intro w1
     refine hl_inner (A := R) (ps := ps) (p := (ps.getD r default)) (by repeat constructor) (getD_mem hrp) ?_
     refine r_elem (α := Int) (ps.getD r default).l 1 rfl T.u_ints T.sz_int rfl rfl rfl (by repeat constructor) rfl (by rw [hpl]; show 1 < 2; decide) (by decide) ?_
     refine hl_nil ?_
     exact qe_done rfl
    apply hb_ex _ rfl rfl rfl
    ·intro w1
     refine hl_inner (A := R) (ps := ps) (p := (ps.getD r default)) (by repeat constructor) (getD_mem hrp) ?_
     refine r_load (v := int (k : Int)) rfl T.cell_int rfl (cell_row (by repeat constructor) (rows_get0 (by rw [hpl]; show 1 < 2; decide) (by rw [hpl]; rfl))) ?_
     refine hl_nil ?_
     exact qe_done rfl
    apply hb_ex _ rfl rfl rfl
    ·intro w1
     refine r_eql rfl rfl rfl (hl_nil ?_)
     exact qe_done rfl
    apply hb_ex _ rfl rfl rfl
    ·intro w1
     refine r_move rfl rfl (hl_nil ?_)
     exact qe_done rfl
    refine hb_split (t := 32) (want := false) rfl ?_ ?_
    ·intro hg1; have hg1' := hg1; try simp at hg1'
     have g9 : ¬ (j : Int) = (k : Int) := of_decide_eq_false (eq_of_beq hg1)
     apply hb_ex _ rfl rfl rfl
     ·intro w1
      refine g_yes rfl rfl hg1 ?_
      refine r_fieldAddr ⟨_, 1, none⟩ rfl rfl T.fa_api_Trades_1 rfl ?_
      refine hl_nil ?_
      exact qe_done rfl
     apply hb_ex _ rfl rfl rfl
     ·intro w1
      refine g_yes rfl rfl hg1 ?_
      refine r_load rfl T.cell_L_api_Head rfl (cell_blk (by repeat constructor) rfl) ?_
      refine hl_nil ?_
      exact qe_done rfl
     apply hb_ex _ rfl rfl rfl
     ·intro w1
      refine g_yes rfl rfl hg1 (r_move rfl rfl (hl_nil ?_))
      exact qe_done rfl
     apply hb_ex _ rfl rfl rfl
     ·intro w1
      refine g_yes rfl rfl hg1 (r_move rfl rfl (hl_nil ?_))
      exact qe_done rfl
     apply hb_ex _ rfl rfl rfl
     ·intro w1
      refine g_yes rfl rfl hg1 ?_
      refine hl_outer (A := R) (ps := ps) (by repeat constructor) ?_
      refine r_elem (α := Sl Int) ps r rfl T.u_intss T.sz_ints rfl rfl rfl (by repeat constructor) rfl hrp (by decide) ?_
      refine hl_nil ?_
      exact qe_done rfl
     apply hb_ex _ rfl rfl rfl
     ·intro w1
      refine g_yes rfl rfl hg1 ?_
      refine hl_outer (A := R) (ps := ps) (by repeat constructor) ?_
      refine r_load (v := .slice (ps.getD r default).a (ps.getD r default).l.length (ps.getD r default).c) rfl T.cell_ints rfl (cell_row (by repeat constructor) (rows_get0 hrp rfl)) ?_
      refine hl_nil ?_
      exact qe_done rfl
     apply hb_ex _ rfl rfl rfl
     ·intro w1
      refine g_yes rfl rfl hg1 ?_
      refine hl_inner (A := R) (ps := ps) (p := (ps.getD r default)) (by repeat constructor) (getD_mem hrp) ?_
      refine r_elem (α := Int) (ps.getD r default).l 0 rfl T.u_ints T.sz_int rfl rfl rfl (by repeat constructor) rfl (by rw [hpl]; show 0 < 2; decide) (by decide) ?_
      refine hl_nil ?_
      exact qe_done rfl
     apply hb_ex _ rfl rfl rfl
     ·intro w1
      refine g_yes rfl rfl hg1 ?_
      refine hl_inner (A := R) (ps := ps) (p := (ps.getD r default)) (by repeat constructor) (getD_mem hrp) ?_
      refine r_load (v := int (i : Int)) rfl T.cell_int rfl (cell_row (by repeat constructor) (rows_get0 (by rw [hpl]; show 0 < 2; decide) (by rw [hpl]; rfl))) ?_
      refine hl_nil ?_
      exact qe_done rfl
     apply hb_ex _ rfl rfl rfl
     ·intro w1
      refine g_yes rfl rfl hg1 ?_
      refine r_indexAddr_own i (0 + i * 4) rfl T.u_L_api_Head T.sz_api_Head rfl rfl rfl (by omega) rfl ?_
      refine hl_nil ?_
      exact qe_done rfl
     apply hb_ex _ rfl rfl rfl
     ·intro w1
      refine g_yes rfl rfl hg1 (r_fieldAddr _ rfl rfl T.fa_api_Head_3 rfl (hl_nil ?_))
      exact qe_done rfl
     apply hb_ex _ rfl rfl rfl
     ·intro w1
      refine g_yes rfl rfl hg1 ?_
      refine r_load (v := .slice (hx.getD i default).2.2.2.a (hx.getD i default).2.2.2.l.length (hx.getD i default).2.2.2.c) rfl T.cell_ints rfl (cell_blk (by repeat constructor) (own_f (α := Hd) (f := 3) hct (show i < hx.length by omega) (by rw [Nat.zero_add]; rfl) rfl)) ?_
      refine hl_nil ?_
      exact qe_done rfl
     apply hb_ex _ rfl rfl rfl
     ·intro w1
      refine g_yes rfl rfl hg1 (r_move rfl rfl (hl_nil ?_))
      exact qe_done rfl
     refine hb_nil ⟨rfl, ?_⟩
     refine g_yes rfl rfl hg1 ?_
     refine hl_pick (F := Hd.row (hx.getD i default)) (Fs := hx.map Hd.row) (by repeat constructor) (List.mem_map.2 ⟨_, getD_mem (by omega), rfl⟩) ?_
     refine hl_call F.kit_Index_cb rfl rfl (kit_Index_meets (hx.getD i default).2.2.2.l (j : Int) hal) (List.Perm.refl _) ⟨(by repeat constructor), trivial⟩ fun z hz => ?_
     refine g_yes rfl rfl hg1 (r_geq rfl rfl rfl ?_)
     refine p_f rfl rfl (bf1 hg1) rfl ?_
     refine hl_nil ?_
     exact cut_n _ () trivial ⟨rfl, rfl, rfl, rfl, rfl, rfl, congrArg (fun b => some (Value.bool b)) (by unfold aB; rw [decide_eq_false g9, Bool.false_or]; exact decide_eq_decide.2 hz.1), trivial⟩ (List.Sublist.refl _) ⟨(by repeat constructor), (by repeat constructor), (by repeat constructor), (by repeat constructor), trivial⟩
    ·intro hg1; have hg1' := hg1; try simp at hg1'
     have g9 : (j : Int) = (k : Int) := Classical.byContradiction fun e => by rw [decide_eq_false e] at hg1; cases hg1
     apply hb_ex _ rfl rfl rfl
     ·intro w1
      refine g_no rfl rfl rfl rfl rfl hg1 (hl_nil ?_)
      exact qe_done rfl
     apply hb_ex _ rfl rfl rfl
     ·intro w1
      refine g_no rfl rfl rfl rfl rfl hg1 (hl_nil ?_)
      exact qe_done rfl
     apply hb_ex _ rfl rfl rfl
     ·intro w1
      refine g_no rfl rfl rfl rfl rfl hg1 (hl_nil ?_)
      exact qe_done rfl
     apply hb_ex _ rfl rfl rfl
     ·intro w1
      refine g_no rfl rfl rfl rfl rfl hg1 (hl_nil ?_)
      exact qe_done rfl
     apply hb_ex _ rfl rfl rfl
     ·intro w1
      refine g_no rfl rfl rfl rfl rfl hg1 (hl_nil ?_)
      exact qe_done rfl
     apply hb_ex _ rfl rfl rfl
     ·intro w1
      refine g_no rfl rfl rfl rfl rfl hg1 (hl_nil ?_)
      exact qe_done rfl
     apply hb_ex _ rfl rfl rfl
     ·intro w1
      refine g_no rfl rfl rfl rfl rfl hg1 (hl_nil ?_)
      exact qe_done rfl
     apply hb_ex _ rfl rfl rfl
     ·intro w1
      refine g_no rfl rfl rfl rfl rfl hg1 (hl_nil ?_)
      exact qe_done rfl
     apply hb_ex _ rfl rfl rfl
     ·intro w1
      refine g_no rfl rfl rfl rfl rfl hg1 (hl_nil ?_)
      exact qe_done rfl
     apply hb_ex _ rfl rfl rfl
     ·intro w1
      refine g_no rfl rfl rfl rfl rfl hg1 (hl_nil ?_)
      exact qe_done rfl
     apply hb_ex _ rfl rfl rfl
     ·intro w1
      refine g_no rfl rfl rfl rfl rfl hg1 (hl_nil ?_)
      exact qe_done rfl
     apply hb_ex _ rfl rfl rfl
     ·intro w1
      refine g_no rfl rfl rfl rfl rfl hg1 (hl_nil ?_)
      exact qe_done rfl
     refine hb_nil ⟨rfl, ?_⟩
     refine g_no rfl rfl rfl rfl rfl hg1 (g_no rfl rfl rfl rfl rfl hg1 ?_)
     refine p_t rfl rfl (bt2 hg1) rfl ?_
     refine hl_nil ?_
     exact cut_n _ () trivial ⟨rfl, rfl, rfl, rfl, rfl, rfl, congrArg (fun b => some (Value.bool b)) (by unfold aB; rw [decide_eq_true g9, Bool.true_or]), trivial⟩ (List.Sublist.refl _) ⟨(by repeat constructor), (by repeat constructor), (by repeat constructor), (by repeat constructor), trivial⟩
   ·refine fun _ _ => ?_
    refine hc_cond rfl (fun hb3 => ?_) (fun hb3 => ?_)
    ·have hb3' := hb3; try simp at hb3'
     rw [if_pos hb3] at huc
     refine hc_region (r_move rfl rfl (r_move rfl rfl ?_))
     refine r_buildSlice _ rfl rfl (fun _ => T.bs_ints_1 ..) fun gS => ?_
     refine hl_letgo (rows [(j : Int)]) (List.prefix_refl _) ?_
     refine r_append ((alsoK hx i k j).length + 1) (rows ((alsoK hx i k j) ++ [(j : Int)])) T.el_ints rfl rfl rfl hG (hp' := [(g7, Obj.cells cur T.api_Head (0, 0)), (gA, Obj.cells #[.slice none 0 0, .slice none 0 0] T.api_Trades (0, 0))]) (List.Perm.refl _) (Src.row (news := rows [(j : Int)]) (m := 1) m0 rfl (rows_one _) (by decide)) rfl (rows_append _ _).symm (by unfold maxLen; omega) (by omega) fun A' c' og' hG' => ?_
     refine r_assign rfl rfl (hl_nil (inb_n (then_n (hc_region (r_move rfl rfl ?_)))))
     refine r_add _ rfl rfl rfl rfl (by unfold I64; omega) ?_
     refine r_assign rfl rfl (hl_nil ?_)
     exact again _ (j + 1, (A', c'), og') ⟨by show j + 1 ≤ hx.length; omega, by show Grow _ _ _ (alsoK hx i k (j + 1)).length _ (rows (alsoK hx i k (j + 1))) _; rw [huc, List.length_append]; exact hG'⟩ (by show hx.length - (j + 1) < hx.length - j; omega) ⟨rfl, rfl, rfl, rfl, by show some (Value.slice A' ((alsoK hx i k j).length + 1) c') = some (Value.slice A' (alsoK hx i k (j + 1)).length c'); rw [huc, List.length_append]; rfl, rfl, trivial⟩ (List.Sublist.refl _) ⟨(by repeat constructor), (by repeat constructor), (by repeat constructor), (by repeat constructor), trivial⟩
    ·have hb3' := hb3; try simp at hb3'
     rw [if_neg (by rw [hb3]; decide)] at huc
     refine hc_skip (inb_n (then_n (hc_region (r_move rfl rfl ?_))))
     refine r_add _ rfl rfl rfl rfl (by unfold I64; omega) ?_
     refine r_assign rfl rfl (hl_nil ?_)
     exact again _ (j + 1, (na, nc), og) ⟨by show j + 1 ≤ hx.length; omega, by show Grow _ _ _ (alsoK hx i k (j + 1)).length _ (rows (alsoK hx i k (j + 1))) _; rw [huc]; exact hG⟩ (by show hx.length - (j + 1) < hx.length - j; omega) ⟨rfl, rfl, rfl, rfl, by show some (Value.slice na (alsoK hx i k j).length nc) = some (Value.slice na (alsoK hx i k (j + 1)).length nc); rw [huc], rfl, trivial⟩ (List.Sublist.refl _) ⟨(by repeat constructor), (by repeat constructor), (by repeat constructor), (by repeat constructor), trivial⟩
  ·have hb2' := hb2; try simp at hb2'
   obtain rfl : j = hx.length := by omega
   refine hc_exit (then_exit (then_exit (inb_hit (then_n (hc_grown hG ?_)))))
   refine hc_draw 9 mixed (by decide) (by decide) rfl rfl ?_
   apply hb_ex _ rfl rfl rfl
   ·intro w1
    refine r_fieldAddr ⟨_, 1, none⟩ rfl rfl T.fa_api_Trades_1 rfl ?_
    refine hl_nil ?_
    exact qe_done rfl
   apply hb_ex _ rfl rfl rfl
   ·intro w1
    refine r_load rfl T.cell_L_api_Head rfl (cell_blk (by repeat constructor) rfl) ?_
    refine hl_nil ?_
    exact qe_done rfl
   apply hb_ex _ rfl rfl rfl
   ·intro w1
    refine r_move rfl rfl (hl_nil ?_)
    exact qe_done rfl
   apply hb_ex _ rfl rfl rfl
   ·intro w1
    refine r_move rfl rfl (hl_nil ?_)
    exact qe_done rfl
   apply hb_ex _ rfl rfl rfl
   ·intro w1
    refine hl_outer (A := R) (ps := ps) (by repeat constructor) ?_
    refine r_elem (α := Sl Int) ps r rfl T.u_intss T.sz_ints rfl rfl rfl (by repeat constructor) rfl hrp (by decide) ?_
    refine hl_nil ?_
    exact qe_done rfl
   apply hb_ex _ rfl rfl rfl
   ·intro w1
    refine hl_outer (A := R) (ps := ps) (by repeat constructor) ?_
    refine r_load (v := .slice (ps.getD r default).a (ps.getD r default).l.length (ps.getD r default).c) rfl T.cell_ints rfl (cell_row (by repeat constructor) (rows_get0 hrp rfl)) ?_
    refine hl_nil ?_
    exact qe_done rfl
   apply hb_ex _ rfl rfl rfl
   ·intro w1
    refine hl_inner (A := R) (ps := ps) (p := (ps.getD r default)) (by repeat constructor) (getD_mem hrp) ?_
    refine r_elem (α := Int) (ps.getD r default).l 0 rfl T.u_ints T.sz_int rfl rfl rfl (by repeat constructor) rfl (by rw [hpl]; show 0 < 2; decide) (by decide) ?_
    refine hl_nil ?_
    exact qe_done rfl
   apply hb_ex _ rfl rfl rfl
   ·intro w1
    refine hl_inner (A := R) (ps := ps) (p := (ps.getD r default)) (by repeat constructor) (getD_mem hrp) ?_
    refine r_load (v := int (i : Int)) rfl T.cell_int rfl (cell_row (by repeat constructor) (rows_get0 (by rw [hpl]; show 0 < 2; decide) (by rw [hpl]; rfl))) ?_
    refine hl_nil ?_
    exact qe_done rfl
   apply hb_ex _ rfl rfl rfl
   ·intro w1
    refine r_move rfl rfl (hl_nil ?_)
    exact qe_done rfl
   refine hb_nil ⟨rfl, ?_⟩
   refine r_indexAddr_own i (0 + i * 4) rfl T.u_L_api_Head T.sz_api_Head rfl rfl rfl (by omega) rfl ?_
   refine r_fieldAddr _ rfl rfl T.fa_api_Head_3 rfl ?_
   refine r_store rfl rfl (.refl _) T.sz_ints (own_f (α := Hd) (f := 3) hct (show i < hx.length by omega) (by rw [Nat.zero_add]; rfl) rfl) (by rfl) ?_
   refine hl_nil (inb_n (then_n (hc_region (r_move rfl rfl ?_))))
   refine r_add _ rfl rfl rfl rfl (by unfold I64; omega) ?_
   refine r_assign rfl rfl (hl_nil ?_)
   have hsl : (hx.set i ((hx.getD i default).1, (hx.getD i default).2.1, (hx.getD i default).2.2.1, (⟨na, nc, (alsoK hx i k hx.length)⟩ : Sl Int))).length = hx.length := List.length_set ..
   refine hq_facts (Fs := (hx.set i ((hx.getD i default).1, (hx.getD i default).2.1, (hx.getD i default).2.2.1, (⟨na, nc, (alsoK hx i k hx.length)⟩ : Sl Int))).map Hd.row) (innerF_set (by repeat constructor) (by repeat constructor)) ?_
   exact again _ (r + 1, hx.set i ((hx.getD i default).1, (hx.getD i default).2.1, (hx.getD i default).2.2.1, (⟨na, nc, (alsoK hx i k hx.length)⟩ : Sl Int)), (cur.setIfInBounds (0 + i * 4 + 3) (.slice na (alsoK hx i k hx.length).length nc))) ⟨by show r + 1 ≤ l.length; omega, by show Adds cs hs (l.take (r + 1)) _; rw [htk]; exact adds_one hA hf hnb (by show (hx.set i _).map Hd.p = _; rw [List.map_set]; rfl), by show (Array.setIfInBounds _ _ _).size = _; rw [Array.size_setIfInBounds]; exact hcs, by show (Array.setIfInBounds cur _ _).toList.take _ = _; rw [Nat.zero_add]; exact take_setf (α := Hd) (f := 3) (by decide) (by omega) rfl hct⟩ (by show l.length - (r + 1) < l.length - r; omega) ⟨rfl, rfl, rfl, rfl, trivial⟩ (List.Sublist.refl _) ⟨(by repeat constructor), (by repeat constructor), (by repeat constructor), (by repeat constructor), trivial⟩
 ·have hb1' := hb1; try simp at hb1'
  obtain rfl : r = l.length := by omega
  rw [List.take_length] at hA
  refine hc_exit (then_exit (then_exit (inb_hit (then_n (hc_seq (hc_region ?_))))))
  refine r_loadB rfl T.row_api_Trades T.sz_api_Trades rfl (by repeat constructor) (by rfl) ?_
  refine r_storeS (cs := #[.slice a3 cs.length c3, .slice (some ⟨g7, 0, none⟩) hs2.length c7]) rfl rfl (.swap _ _ _) T.sz_api_Trades (by rfl) (by rfl) ?_
  refine hl_nil (then_n (hc_ret ?_))
  have hGx : Grow T.api_Head 4 (some ⟨g7, 0, none⟩) hx.length c7 (rows hx) [(g7, Obj.cells cur T.api_Head (0, 0))] := ⟨by rw [rows_len]; rfl, .inr ⟨g7, _, rfl, rfl, by omega, hcm, hcs, hct⟩⟩
  refine hq_perm (hp' := [(g7, Obj.cells cur T.api_Head (0, 0))] ++ [(gA, _)]) (.swap _ _ _) ?_
  refine hq_grown hGx ?_
  refine hq_rowsF (A := some ⟨g7, 0, none⟩) (ps := hx) (f := Hd.row) (by repeat constructor) (by repeat constructor) ?_
  refine ret_row (hx, (a3, c3), (some ⟨g7, 0, none⟩, c7)) rfl rfl T.row_api_Trades T.sz_api_Trades rfl m0 (by show Value.agg #[.slice a3 cs.length c3, .slice (some ⟨g7, 0, none⟩) hx.length c7] = _; rw [hxl, ← hl2]) rfl ⟨hA, hDa.le, by show hx.length ≤ c7; omega⟩ (List.nil_sublist _) ⟨(by repeat constructor), (by repeat constructor), trivial⟩

end Go.Proofs.YtlpgheniajdkfaaGreat
