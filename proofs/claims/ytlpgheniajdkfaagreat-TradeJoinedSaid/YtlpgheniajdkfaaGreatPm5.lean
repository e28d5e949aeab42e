/- DupTrades. -/
import Derived.Test.YtlpgheniajdkfaaGreatPm4
import Derived.Test.YtlpgheniajdkfaaGreatWr
namespace Go.Proofs.YtlpgheniajdkfaaGreat
open Go Go.W
set_option linter.unusedVariables false
set_option linter.unusedSimpArgs false
set_option maxRecDepth 20000
attribute [local irreducible] HL HC HQ HB Row Rows2 Blk Facts

theorem innerF_set {α : Type} {ps : List α} {f : α → Fact} {L : List Fact} {k : Nat} {p : α} (h : innersF ps f ∈ L) (h2 : f p ∈ L) : ∀ F ∈ (ps.set k p).map f, F ∈ L ∨ ∃ Gs, Facts Gs ∈ L ∧ F ∈ Gs := by
  intro F hF
  obtain ⟨q, hq, rfl⟩ := List.mem_map.1 hF
  rcases List.mem_or_eq_of_mem_set hq with hq | rfl
  · exact .inr ⟨_, h, List.mem_map.2 ⟨q, hq, rfl⟩⟩
  · exact .inl h2
abbrev OutD := (OutC × Hp) × List Hd × (OutC × Hp)
/-- Copies of classes and headings that may be written. -/
structure DupOK (cs : List Cl) (hs : List Hd) (x : OutD) : Prop where
  a : GrowE T.api_Class 2 x.1.1.1 cs.length x.1.1.2 (rows cs) x.1.2
  b : GrowE T.api_Head 4 x.2.2.1.1 x.2.1.length x.2.2.1.2 (rows x.2.1) x.2.2.2
  p : x.2.1.map Hd.p = hs.map Hd.p
theorem p_set {hs hs2 : List Hd} {k : Nat} {h : Hd} (hp : hs2.map Hd.p = hs.map Hd.p) (hk : k < hs2.length) (he : h.p = (hs2.getD k default).p) : (hs2.set k h).map Hd.p = hs.map Hd.p := by
  rw [← hp, List.map_set, he]
  refine List.ext_getElem (by simp) fun i h1 h2 => ?_
  rw [List.getElem_set]
  split
  · rename_i e; subst e; rw [getD_at hk, List.getElem_map]
  · rfl
theorem p_len {hs hs2 : List Hd} (hp : hs2.map Hd.p = hs.map Hd.p) : hs2.length = hs.length := by
  have := congrArg List.length hp
  simpa using this
theorem p_at {hs hs2 : List Hd} (hp : hs2.map Hd.p = hs.map Hd.p) {k : Nat} (hk : k < hs2.length) : (hs2.getD k default).p = (hs.getD k default).p := by
  have h1 := p_len hp
  have h2 : (hs2.map Hd.p)[k]? = (hs.map Hd.p)[k]? := by rw [hp]
  rw [List.getElem?_map, List.getElem?_map, List.getElem?_eq_getElem hk, List.getElem?_eq_getElem (show k < hs.length by omega)] at h2
  rw [getD_at hk, getD_at (show k < hs.length by omega)]
  simpa using h2

set_option maxHeartbeats 2000000 in
theorem kit_DupTrades_meets {A B : Option Addr} {ca cb : Nat} (cs : List Cl) (hs : List Hd) (h6 : cs.length ≤ 6) (h6h : hs.length ≤ 6) (hca : cs.length ≤ ca) (hcb : hs.length ≤ cb)  (ha : ∀ h ∈ hs, h.2.2.2.l.length ≤ 1000000) : Meets Tryz.prog F.kit_DupTrades [.agg #[.slice A cs.length ca, .slice B hs.length cb]] { LI := [Row A (rows cs), RowsF B hs Hd.row], inv := fun x : OutD => DupOK cs hs x, val := fun x => .agg #[.slice x.1.1.1 cs.length x.1.1.2, .slice x.2.2.1.1 x.2.1.length x.2.2.1.2], hpO := fun x => x.2.2.2 ++ x.1.2, LO := fun x => [innersF x.2.1 Hd.row] } := by
 refine meets_intro F.kit_DupTrades_f rfl (Nat.le_of_ble_eq_true rfl) fun w0 => ?_
 refine hc_seq (hc_region ?_)
 refine r_box rfl rfl fun gB => ?_
 refine r_alloc rfl (fun _ => T.al_api_Trades _) fun gR => ?_
 refine hl_nil (then_n (hc_seq ?_))
 refine hc_outerF (ps := hs) (A := B) (f := Hd.row) (by repeat constructor) ?_
 refine hc_drawW ([]) (_) (.refl _) 9 [] mixed (by decide) (by decide) (by decide) rfl rfl rfl ?_
 refine hb_vs ⟨Nat, fun _ => True, fun g => .slice (some ⟨g, 0, none⟩) 0 0, fun _ => []⟩ rfl rfl rfl ?_ ?_
 ·intro w1
  refine r_buildSlice [] rfl rfl (fun _ => T.bs_L_api_Class_0 ..) fun gS => ?_
  refine hl_nil ?_
  refine hq_letgo (rows ([] : List Cl)) ⟨[], rfl⟩ ?_
  exact qv_done gS trivial rfl trivial
 apply hb_ex _ rfl rfl rfl
 ·intro w1
  refine r_fieldAddr ⟨_, 0, none⟩ rfl rfl T.fa_api_Trades_0 rfl ?_
  refine hl_nil ?_
  exact qe_done rfl
 apply hb_ex _ rfl rfl rfl
 ·intro w1
  refine r_load rfl T.cell_L_api_Class rfl (cell_blk (by repeat constructor) rfl) ?_
  refine hl_nil ?_
  exact qe_done rfl
 refine hb_ad ⟨OutC × Hp, fun x => GrowE T.api_Class 2 x.1.1 cs.length x.1.2 (rows cs) x.2, fun x => .slice x.1.1 cs.length x.1.2, fun _ => [], fun x => x.2⟩ rfl rfl rfl ?_ ?_
 ·intro g0 _; intro w1
  refine r_append_new T.el_L_api_Class rfl rfl rfl (Src.row (news := rows cs) (m := cs.length) (by repeat constructor) (rows_len _) (rows_one _) (by decide)) (by unfold maxLen; omega) (by omega) fun A' c' og' hG' => ?_
  refine hl_nil ?_
  exact qw_done ((A', c'), og') hG' (fun _ => rfl) (by rw [List.append_nil]; exact List.Sublist.refl _) trivial
 refine hb_vs ⟨Nat, fun _ => True, fun g => .slice (some ⟨g, 0, none⟩) 0 0, fun _ => []⟩ rfl rfl rfl ?_ ?_
 ·intro w1
  refine r_buildSlice [] rfl rfl (fun _ => T.bs_L_api_Head_0 ..) fun gS => ?_
  refine hl_nil ?_
  refine hq_letgo (rows ([] : List Hd)) ⟨[], rfl⟩ ?_
  exact qv_done gS trivial rfl trivial
 apply hb_ex _ rfl rfl rfl
 ·intro w1
  refine r_fieldAddr ⟨_, 1, none⟩ rfl rfl T.fa_api_Trades_1 rfl ?_
  refine hl_nil ?_
  exact qe_done rfl
 apply hb_ex _ rfl rfl rfl
 ·intro w1
  refine r_load rfl T.cell_L_api_Head rfl (cell_blk (by repeat constructor) rfl) ?_
  refine hl_nil ?_
  exact qe_done rfl
 refine hb_ad ⟨OutC × Hp, fun x => GrowE T.api_Head 4 x.1.1 hs.length x.1.2 (rows hs) x.2, fun x => .slice x.1.1 hs.length x.1.2, fun _ => [], fun x => x.2⟩ rfl rfl rfl ?_ ?_
 ·intro g4 _; intro w1
  refine r_append_new T.el_L_api_Head rfl rfl rfl (Src.row (news := rows hs) (m := hs.length) (by repeat constructor) (rows_len _) (rows_one _) (by decide)) (by unfold maxLen; omega) (by omega) fun A' c' og' hG' => ?_
  refine hl_nil ?_
  exact qw_done ((A', c'), og') hG' (fun _ => rfl) (by rw [List.append_nil]; exact List.Sublist.refl _) trivial
 apply hb_ex _ rfl rfl rfl
 ·intro w1
  refine r_fieldAddr ⟨_, 0, none⟩ rfl rfl T.fa_api_Trades_0 rfl ?_
  refine hl_nil ?_
  exact qe_done rfl
 refine hb_nil ⟨rfl, ?_⟩
 intro g0 _ x3 hx3 g4 _ x7 hx7
 obtain ⟨⟨a3, c3⟩, o3⟩ := x3
 obtain ⟨⟨a7, c7⟩, o7⟩ := x7
 change GrowE T.api_Class 2 a3 cs.length c3 (rows cs) o3 at hx3
 change GrowE T.api_Head 4 a7 hs.length c7 (rows hs) o7 at hx7
 refine hl_perm (show List.Perm ((o7 ++ (o3 ++ [])) ++ [(gR, Obj.cells #[.slice none 0 0, .slice none 0 0] T.api_Trades (0, 0)), (gB, Obj.cells #[.slice A cs.length ca, .slice B hs.length cb] T.api_Trades (0, 0))]) ((gB, Obj.cells #[.slice A cs.length ca, .slice B hs.length cb] T.api_Trades (0, 0)) :: (gR, Obj.cells #[.slice none 0 0, .slice none 0 0] T.api_Trades (0, 0)) :: (o7 ++ o3)) from (perm_of fun p => by simp only [List.countP_append, List.countP_cons, List.countP_nil]; omega)) ?_
 refine r_store rfl rfl (.refl _) T.sz_L_api_Class (by rfl) (by rfl) ?_
 refine r_fieldAddr ⟨_, 1, none⟩ rfl rfl T.fa_api_Trades_1 rfl ?_
 refine r_store rfl rfl (.refl _) T.sz_L_api_Head (by rfl) (by rfl) ?_
 refine hl_nil (then_n (hc_seq (hc_seq ?_)))
 refine hc_innersF (ps := hs) (A := B) (f := Hd.row) (by repeat constructor) ?_
 refine hc_region (r_assign rfl rfl (hl_nil (then_n (hc_block ?_))))
 refine hc_loop (β := Nat × List Hd × Hp) ⟨fun x => x.1 ≤ hs.length ∧ x.2.1.map Hd.p = hs.map Hd.p ∧ GrowE T.api_Head 4 a7 x.2.1.length c7 (rows x.2.1) x.2.2, fun x => [(1, .pointer (some ⟨gB, 0, none⟩)), (2, .pointer (some ⟨gR, 0, none⟩)), (3, int x.1)], fun x => (gB, Obj.cells #[.slice a3 cs.length c3, .slice a7 hs.length c7] T.api_Trades (0, 0)) :: (gR, Obj.cells #[.slice none 0 0, .slice none 0 0] T.api_Trades (0, 0)) :: (x.2.2 ++ o3), fun x => [innersF x.2.1 Hd.row]⟩ (fun x => hs.length - x.1) (0, hs, o7) ⟨Nat.zero_le _, rfl, hx7⟩ ⟨rfl, rfl, rfl, trivial⟩ (List.Sublist.refl _) ⟨(by repeat constructor), trivial⟩ fun x hx => ?_
 clear hx7
 obtain ⟨k, hs2, og⟩ := x
 obtain ⟨hk, hp2, hG⟩ := hx
 simp only at hk hp2 hG
 have hl2 := p_len hp2
 refine hc_seq (hc_seq (hc_region (r_move rfl rfl ?_)))
 refine r_fieldAddr ⟨_, 1, none⟩ rfl rfl T.fa_api_Trades_1 rfl ?_
 refine r_load rfl T.cell_L_api_Head rfl (cell_own (by repeat constructor) rfl) ?_
 refine r_len_sl rfl T.u_L_api_Head rfl ?_
 refine r_lss rfl rfl rfl (hl_nil (then_n ?_))
 refine c_dec rfl (fun hb1 => ?_) (fun hb1 => ?_)
 ·have hb1' := hb1; try simp at hb1'
  have hk2 : k < hs.length := by omega
  have hk3 : k < hs2.length := by omega
  have hpa := p_at hp2 hk3
  have hal : (hs2.getD k default).2.2.2.l.length ≤ 1000000 := by
    have h1 := ha _ (getD_mem hk2)
    rw [show (hs2.getD k default).2.2.2.l = (hs.getD k default).2.2.2.l from congrArg (fun q : PH => q.2.2.2) hpa]
    exact h1
  obtain ⟨g7, cur, rfl, rfl, hcl, hcm, hcs, hct⟩ := hG.blk (by omega)
  clear hG
  refine hc_skip (then_n (hc_seq (hc_block ?_)))
  refine hc_drawW (o3) ([(gB, Obj.cells #[.slice a3 cs.length c3, .slice (some ⟨g7, 0, none⟩) hs.length c7] T.api_Trades (0, 0)), (gR, Obj.cells #[.slice none 0 0, .slice none 0 0] T.api_Trades (0, 0)), (g7, Obj.cells cur T.api_Head (0, 0))]) (show List.Perm ((gB, Obj.cells #[.slice a3 cs.length c3, .slice (some ⟨g7, 0, none⟩) hs.length c7] T.api_Trades (0, 0)) :: (gR, Obj.cells #[.slice none 0 0, .slice none 0 0] T.api_Trades (0, 0)) :: ([(g7, Obj.cells cur T.api_Head (0, 0))] ++ o3)) (o3 ++ [(gB, Obj.cells #[.slice a3 cs.length c3, .slice (some ⟨g7, 0, none⟩) hs.length c7] T.api_Trades (0, 0)), (gR, Obj.cells #[.slice none 0 0, .slice none 0 0] T.api_Trades (0, 0)), (g7, Obj.cells cur T.api_Head (0, 0))]) from (perm_of fun p => by simp only [List.countP_append, List.countP_cons, List.countP_nil]; omega)) 10 [] mixed (by decide) (by decide) (by decide) rfl rfl rfl ?_
  apply hb_ex _ rfl rfl rfl
  ·intro w1
   refine r_fieldAddr ⟨_, 1, none⟩ rfl rfl T.fa_api_Trades_1 rfl ?_
   refine hl_nil ?_
   exact qe_done rfl
  apply hb_ex _ rfl rfl rfl
  ·intro w1
   refine r_load rfl T.cell_L_api_Head rfl (cell_blk (by repeat constructor) rfl) ?_
   refine hl_nil ?_
   exact qe_done rfl
  apply hb_ex _ rfl rfl rfl
  ·intro w1
   refine r_move rfl rfl (hl_nil ?_)
   exact qe_done rfl
  apply hb_ex _ rfl rfl rfl
  ·intro w1
   refine r_fieldAddr ⟨_, 1, none⟩ rfl rfl T.fa_api_Trades_1 rfl ?_
   refine hl_nil ?_
   exact qe_done rfl
  apply hb_ex _ rfl rfl rfl
  ·intro w1
   refine r_load rfl T.cell_L_api_Head rfl (cell_blk (by repeat constructor) rfl) ?_
   refine hl_nil ?_
   exact qe_done rfl
  apply hb_ex _ rfl rfl rfl
  ·intro w1
   refine r_move rfl rfl (hl_nil ?_)
   exact qe_done rfl
  apply hb_ex _ rfl rfl rfl
  ·intro w1
   refine r_indexAddr_own k (0 + k * 4) rfl T.u_L_api_Head T.sz_api_Head rfl rfl rfl hk2 rfl ?_
   refine hl_nil ?_
   exact qe_done rfl
  apply hb_ex _ rfl rfl rfl
  ·intro w1
   refine r_fieldAddr _ rfl rfl T.fa_api_Head_3 rfl (hl_nil ?_)
   exact qe_done rfl
  apply hb_ex _ rfl rfl rfl
  ·intro w1
   refine r_load (v := .slice (hs2.getD k default).2.2.2.a (hs2.getD k default).2.2.2.l.length (hs2.getD k default).2.2.2.c) rfl T.cell_ints rfl (cell_blk (by repeat constructor) (own_f (α := Hd) (f := 3) hct hk3 (by rw [Nat.zero_add]; rfl) rfl)) ?_
   refine hl_nil ?_
   exact qe_done rfl
  refine hb_vs ⟨OutC, fun z => (hs2.getD k default).2.2.2.l.length ≤ z.2, fun z => .slice z.1 (hs2.getD k default).2.2.2.l.length z.2, fun z => [Row z.1 (rows (hs2.getD k default).2.2.2.l)]⟩ rfl rfl rfl ?_ ?_
  ·intro w1
   refine hl_pick (F := Hd.row (hs2.getD k default)) (Fs := hs2.map Hd.row) (by repeat constructor) (List.mem_map.2 ⟨_, getD_mem hk3, rfl⟩) ?_
   refine hl_call F.kit_DupInts_cb rfl rfl (kit_DupInts_meets (hs2.getD k default).2.2.2.l hal) (List.Perm.refl _) ⟨(by repeat constructor), trivial⟩ fun z hz => ?_
   refine hl_nil ?_
   exact qv_done z hz rfl ⟨m0, trivial⟩
  refine hb_nil ⟨rfl, ?_⟩
  intro z hz
  refine r_indexAddr_own k (0 + k * 4) rfl T.u_L_api_Head T.sz_api_Head rfl rfl rfl hk2 rfl ?_
  refine r_fieldAddr _ rfl rfl T.fa_api_Head_3 rfl ?_
  refine r_store rfl rfl (show List.Perm (o3 ++ [(gB, Obj.cells #[.slice a3 cs.length c3, .slice (some ⟨g7, 0, none⟩) hs.length c7] T.api_Trades (0, 0)), (gR, Obj.cells #[.slice none 0 0, .slice none 0 0] T.api_Trades (0, 0)), (g7, Obj.cells cur T.api_Head (0, 0))]) ((g7, Obj.cells cur T.api_Head (0, 0)) :: (gB, Obj.cells #[.slice a3 cs.length c3, .slice (some ⟨g7, 0, none⟩) hs.length c7] T.api_Trades (0, 0)) :: (gR, Obj.cells #[.slice none 0 0, .slice none 0 0] T.api_Trades (0, 0)) :: o3) from (perm_of fun p => by simp only [List.countP_append, List.countP_cons, List.countP_nil]; omega)) T.sz_ints (own_f (α := Hd) (f := 3) hct hk3 (by rw [Nat.zero_add]; rfl) rfl) (by rfl) ?_
  refine hl_nil (inb_n (then_n (hc_region (r_move rfl rfl ?_))))
  refine r_add _ rfl rfl rfl rfl (by unfold I64; omega) ?_
  refine r_assign rfl rfl (hl_nil ?_)
  refine hq_facts (Fs := (hs2.set k ((hs2.getD k default).1, (hs2.getD k default).2.1, (hs2.getD k default).2.2.1, (⟨z.1, z.2, (hs2.getD k default).2.2.2.l⟩ : Sl Int))).map Hd.row) (innerF_set (by repeat constructor) (by repeat constructor)) ?_
  refine hq_perm (show List.Perm ((g7, Obj.cells (cur.setIfInBounds (0 + k * 4 + 3) (.slice z.1 (hs2.getD k default).2.2.2.l.length z.2)) T.api_Head (0, 0)) :: (gB, Obj.cells #[.slice a3 cs.length c3, .slice (some ⟨g7, 0, none⟩) hs.length c7] T.api_Trades (0, 0)) :: (gR, Obj.cells #[.slice none 0 0, .slice none 0 0] T.api_Trades (0, 0)) :: o3) ((gB, Obj.cells #[.slice a3 cs.length c3, .slice (some ⟨g7, 0, none⟩) hs.length c7] T.api_Trades (0, 0)) :: (gR, Obj.cells #[.slice none 0 0, .slice none 0 0] T.api_Trades (0, 0)) :: ([(g7, Obj.cells (cur.setIfInBounds (0 + k * 4 + 3) (.slice z.1 (hs2.getD k default).2.2.2.l.length z.2)) T.api_Head (0, 0))] ++ o3)) from (perm_of fun p => by simp only [List.countP_append, List.countP_cons, List.countP_nil]; omega)) ?_
  exact again _ (k + 1, hs2.set k ((hs2.getD k default).1, (hs2.getD k default).2.1, (hs2.getD k default).2.2.1, (⟨z.1, z.2, (hs2.getD k default).2.2.2.l⟩ : Sl Int)), [(g7, Obj.cells (cur.setIfInBounds (0 + k * 4 + 3) (.slice z.1 (hs2.getD k default).2.2.2.l.length z.2)) T.api_Head (0, 0))]) ⟨by show k + 1 ≤ hs.length; omega, p_set hp2 hk3 rfl, .inl ⟨by rw [rows_len]; rfl, .inr ⟨g7, _, rfl, rfl, by show (hs2.set k _).length ≤ c7; rw [List.length_set]; exact hcl, hcm, by rw [Array.size_setIfInBounds]; exact hcs, by rw [Nat.zero_add]; exact take_setf (α := Hd) (f := 3) (by decide) hk3 rfl hct⟩⟩⟩ (by show hs.length - (k + 1) < hs.length - k; omega) ⟨rfl, rfl, rfl, trivial⟩ (List.Sublist.refl _) ⟨(by repeat constructor), trivial⟩
 ·have hb1' := hb1; try simp at hb1'
  obtain rfl : k = hs.length := by omega
  refine hc_exit (then_exit (then_exit (inb_hit (then_n (hc_seq (hc_region ?_))))))
  refine r_loadA rfl T.row_api_Trades T.sz_api_Trades rfl (by repeat constructor) (by rfl) ?_
  refine r_storeS (cs := #[.slice a3 cs.length c3, .slice a7 hs.length c7]) rfl rfl (.swap _ _ _) T.sz_api_Trades (by rfl) (by rfl) ?_
  refine hl_nil (then_n (hc_ret ?_))
  refine ret_row (((a3, c3), o3), hs2, ((a7, c7), og)) rfl rfl T.row_api_Trades T.sz_api_Trades rfl m0 (by show Value.agg #[.slice a3 cs.length c3, .slice a7 hs2.length c7] = _; rw [hl2]) rfl ⟨hx3, hG, hp2⟩ (List.Sublist.cons _ (List.Sublist.cons _ (List.Sublist.refl _))) ⟨m0, trivial⟩

end Go.Proofs.YtlpgheniajdkfaaGreat
