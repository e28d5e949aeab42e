/- DupTrades, free references, one more. -/
import Derived.Test.YtlpgheniajdkfaaPbg
import Derived.Test.YtlpgheniajdkfaaWr
namespace Go.Proofs.Ytlpgheniajdkfaa
open Go Go.W
set_option linter.unusedVariables false
set_option linter.unusedSimpArgs false
set_option maxRecDepth 20000
attribute [local irreducible] HL HC HQ HB Row Rows2 Blk Facts

theorem innerF_set {α : Type} {ps : List α} {f : α → Fact} {L : List Fact} {k : Nat} {p : α} (h : innersF ps f ∈ L) (h2 : f p ∈ L) : ∀ F ∈ (ps.set k p).map f, F ∈ L ∨ ∃ Gs, Facts Gs ∈ L ∧ F ∈ Gs := by
  intro F hF
  obtain ⟨q, hq, rfl⟩ := List.mem_map.1 hF
  rcases List.mem_or_eq_of_mem_set hq with hq | rfl
  · exact .inr ⟨_, h, List.mem_map.2 ⟨q, hq, rfl⟩⟩
  · exact .inl h2
abbrev OutD := (OutC × Hp) × List Hd × (OutC × Hp)
/-- Copies of classes and headings that may be written. -/
structure DupOK (cs : List Cl) (hs : List Hd) (x : OutD) : Prop where
  a : GrowE T.api_Class 2 x.1.1.1 cs.length x.1.1.2 (rows cs) x.1.2
  b : GrowE T.api_Head 4 x.2.2.1.1 x.2.1.length x.2.2.1.2 (rows x.2.1) x.2.2.2
  p : x.2.1.map Hd.p = hs.map Hd.p
theorem p_set {hs hs2 : List Hd} {k : Nat} {h : Hd} (hp : hs2.map Hd.p = hs.map Hd.p) (hk : k < hs2.length) (he : h.p = (hs2.getD k default).p) : (hs2.set k h).map Hd.p = hs.map Hd.p := by
  rw [← hp, List.map_set, he]
  refine List.ext_getElem (by simp) fun i h1 h2 => ?_
  rw [List.getElem_set]
  split
  · rename_i e; subst e; rw [getD_at hk, List.getElem_map]
  · rfl
theorem p_len {hs hs2 : List Hd} (hp : hs2.map Hd.p = hs.map Hd.p) : hs2.length = hs.length := by
  have := congrArg List.length hp
  simpa using this
theorem p_at {hs hs2 : List Hd} (hp : hs2.map Hd.p = hs.map Hd.p) {k : Nat} (hk : k < hs2.length) : (hs2.getD k default).p = (hs.getD k default).p := by
  have h1 := p_len hp
  have h2 : (hs2.map Hd.p)[k]? = (hs.map Hd.p)[k]? := by rw [hp]
  rw [List.getElem?_map, List.getElem?_map, List.getElem?_eq_getElem hk, List.getElem?_eq_getElem (show k < hs.length by omega)] at h2
  rw [getD_at hk, getD_at (show k < hs.length by omega)]
  simpa using h2

set_option maxHeartbeats 2000000 in
theorem kit_DupTrades_meets {A B : Option Addr} {ca cb : Nat} (cs : List Cl) (hs : List Hd) (h6 : cs.length ≤ 6) (h6h : hs.length ≤ 6) (hca : cs.length ≤ ca) (hcb : hs.length ≤ cb)  (ha : ∀ h ∈ hs, h.2.2.2.l.length ≤ 1000000) : Meets Try.prog F.kit_DupTrades [.agg #[.slice A cs.length ca, .slice B hs.length cb]] { LI := [Row A (rows cs), RowsF B hs Hd.row], inv := fun x : OutD => DupOK cs hs x, val := fun x => .agg #[.slice x.1.1.1 cs.length x.1.1.2, .slice x.2.2.1.1 x.2.1.length x.2.2.1.2], hpO := fun x => x.2.2.2 ++ x.1.2, LO := fun x => [innersF x.2.1 Hd.row] } := by
 refine meets_intro F.kit_DupTrades_f rfl (Nat.le_of_ble_eq_true rfl) fun w0 => ?_
 refine hc_seq ?_
 refine hc_region ?_
 refine r_box rfl rfl fun gB => ?_
 refine r_alloc rfl (fun _ => T.al_api_Trades _) fun gR => ?_
 refine hl_nil ?_
 refine then_n ?_
 refine hc_seq ?_
 refine hc_outerF (ps := hs) (A := B) (f := Hd.row) (by repeat constructor) ?_
 refine hc_drawW ([]) (_) (.refl _) 9 [] mixed (by decide) (by decide) (by decide) rfl rfl rfl ?_
 refine hb_vs ⟨Nat, fun _ => True, fun g => .slice (some ⟨g, 0, none⟩) 0 0, fun _ => []⟩ rfl rfl rfl ?_ ?_
 ·intro w1
  refine r_buildSlice [] rfl rfl (fun _ => T.bs_L_api_Class_0 ..) fun gS => ?_
  refine hl_nil ?_
  refine hq_letgo (rows ([] : List Cl)) ⟨[], rfl⟩ ?_
  exact qv_done gS trivial rfl trivial
 apply hb_ex _ rfl rfl rfl
 ·intro w1
  first | refine r_fieldAddr ⟨_, 0, none⟩ rfl rfl T.fa_api_Trades_0 rfl ?_ | refine r_fieldAddr _ rfl rfl T.fa_api_Trades_0 rfl ?_
  refine hl_nil ?_
  exact qe_done rfl
 apply hb_ex _ rfl rfl rfl
 ·intro w1
  first | refine r_load rfl T.cell_L_api_Class rfl (cell_blk (by repeat constructor) rfl) ?_ | refine r_load rfl T.cell_L_api_Class rfl (cell_own (by repeat constructor) rfl) ?_ | refine r_load rfl T.cell_L_api_Class rfl (cell_row (by repeat constructor) (rows_get0 (by omega) rfl)) ?_ | refine r_load rfl T.cell_L_api_Class rfl (cell_row_f (by repeat constructor) (rows_get (by omega) rfl)) ?_ | refine r_load rfl T.cell_L_api_Class rfl (cell_rowg (by repeat constructor) rfl) ?_
  refine hl_nil ?_
  exact qe_done rfl
 refine hb_ad ⟨OutC × Hp, fun x => GrowE T.api_Class 2 x.1.1 cs.length x.1.2 (rows cs) x.2, fun x => .slice x.1.1 cs.length x.1.2, fun _ => [], fun x => x.2⟩ rfl rfl rfl ?_ ?_
 ·intro g0 _; intro w1
  refine r_append_new T.el_L_api_Class rfl rfl rfl (Src.row (news := rows cs) (m := cs.length) (by repeat constructor) (rows_len _) (rows_one _) (by decide)) (by unfold maxLen; omega) (by omega) fun A' c' og' hG' => ?_
  refine hl_nil ?_
  exact qw_done ((A', c'), og') hG' (fun _ => rfl) (by rw [List.append_nil]; exact List.Sublist.refl _) trivial
 refine hb_vs ⟨Nat, fun _ => True, fun g => .slice (some ⟨g, 0, none⟩) 0 0, fun _ => []⟩ rfl rfl rfl ?_ ?_
 ·intro w1
  refine r_buildSlice [] rfl rfl (fun _ => T.bs_L_api_Head_0 ..) fun gS => ?_
  refine hl_nil ?_
  refine hq_letgo (rows ([] : List Hd)) ⟨[], rfl⟩ ?_
  exact qv_done gS trivial rfl trivial
 apply hb_ex _ rfl rfl rfl
 ·intro w1
  first | refine r_fieldAddr ⟨_, 1, none⟩ rfl rfl T.fa_api_Trades_1 rfl ?_ | refine r_fieldAddr _ rfl rfl T.fa_api_Trades_1 rfl ?_
  refine hl_nil ?_
  exact qe_done rfl
 apply hb_ex _ rfl rfl rfl
 ·intro w1
  first | refine r_load rfl T.cell_L_api_Head rfl (cell_blk (by repeat constructor) rfl) ?_ | refine r_load rfl T.cell_L_api_Head rfl (cell_own (by repeat constructor) rfl) ?_ | refine r_load rfl T.cell_L_api_Head rfl (cell_row (by repeat constructor) (rows_get0 (by omega) rfl)) ?_ | refine r_load rfl T.cell_L_api_Head rfl (cell_row_f (by repeat constructor) (rows_get (by omega) rfl)) ?_ | refine r_load rfl T.cell_L_api_Head rfl (cell_rowg (by repeat constructor) rfl) ?_
  refine hl_nil ?_
  exact qe_done rfl
 refine hb_ad ⟨OutC × Hp, fun x => GrowE T.api_Head 4 x.1.1 hs.length x.1.2 (rows hs) x.2, fun x => .slice x.1.1 hs.length x.1.2, fun _ => [], fun x => x.2⟩ rfl rfl rfl ?_ ?_
 ·intro g4 _; intro w1
  refine r_append_new T.el_L_api_Head rfl rfl rfl (Src.row (news := rows hs) (m := hs.length) (by repeat constructor) (rows_len _) (rows_one _) (by decide)) (by unfold maxLen; omega) (by omega) fun A' c' og' hG' => ?_
  refine hl_nil ?_
  exact qw_done ((A', c'), og') hG' (fun _ => rfl) (by rw [List.append_nil]; exact List.Sublist.refl _) trivial
 apply hb_ex _ rfl rfl rfl
 ·intro w1
  first | refine r_fieldAddr ⟨_, 0, none⟩ rfl rfl T.fa_api_Trades_0 rfl ?_ | refine r_fieldAddr _ rfl rfl T.fa_api_Trades_0 rfl ?_
  refine hl_nil ?_
  exact qe_done rfl
 refine hb_nil ⟨rfl, ?_⟩
 intro g0 _ x3 hx3 g4 _ x7 hx7
 obtain ⟨⟨a3, c3⟩, o3⟩ := x3
 obtain ⟨⟨a7, c7⟩, o7⟩ := x7
 change GrowE T.api_Class 2 a3 cs.length c3 (rows cs) o3 at hx3
 change GrowE T.api_Head 4 a7 hs.length c7 (rows hs) o7 at hx7
 refine hl_perm (show List.Perm ((o7 ++ (o3 ++ [])) ++ [(gR, Obj.cells #[.slice none 0 0, .slice none 0 0] T.api_Trades (0, 0)), (gB, Obj.cells #[.slice A cs.length ca, .slice B hs.length cb] T.api_Trades (0, 0))]) ((gB, Obj.cells #[.slice A cs.length ca, .slice B hs.length cb] T.api_Trades (0, 0)) :: (gR, Obj.cells #[.slice none 0 0, .slice none 0 0] T.api_Trades (0, 0)) :: (o7 ++ o3)) from (perm_of fun p => by simp only [List.countP_append, List.countP_cons, List.countP_nil]; omega)) ?_
 refine r_store rfl rfl (.refl _) T.sz_L_api_Class (by rfl) (by rfl) ?_
 first | refine r_fieldAddr ⟨_, 1, none⟩ rfl rfl T.fa_api_Trades_1 rfl ?_ | refine r_fieldAddr _ rfl rfl T.fa_api_Trades_1 rfl ?_
 refine r_store rfl rfl (.refl _) T.sz_L_api_Head (by rfl) (by rfl) ?_
 refine hl_nil ?_
 refine then_n ?_
 refine hc_seq ?_
 refine hc_seq ?_
 refine hc_innersF (ps := hs) (A := B) (f := Hd.row) (by repeat constructor) ?_
 refine hc_region ?_
 refine r_assign rfl rfl ?_
 refine hl_nil ?_
 refine then_n ?_
 refine hc_block ?_
 refine hc_loop (β := Nat × List Hd × Hp) ⟨fun x => x.1 ≤ hs.length ∧ x.2.1.map Hd.p = hs.map Hd.p ∧ GrowE T.api_Head 4 a7 x.2.1.length c7 (rows x.2.1) x.2.2, fun x => [(1, .pointer (some ⟨gB, 0, none⟩)), (2, .pointer (some ⟨gR, 0, none⟩)), (3, int x.1)], fun x => (gB, Obj.cells #[.slice a3 cs.length c3, .slice a7 hs.length c7] T.api_Trades (0, 0)) :: (gR, Obj.cells #[.slice none 0 0, .slice none 0 0] T.api_Trades (0, 0)) :: (x.2.2 ++ o3), fun x => [innersF x.2.1 Hd.row]⟩ (fun x => hs.length - x.1) (0, hs, o7) ⟨Nat.zero_le _, rfl, hx7⟩ ⟨rfl, rfl, rfl, trivial⟩ (List.Sublist.refl _) ⟨(by repeat constructor), trivial⟩ fun x hx => ?_
 clear hx7
 obtain ⟨k, hs2, og⟩ := x
 obtain ⟨hk, hp2, hG⟩ := hx
 simp only at hk hp2 hG
 have hl2 := p_len hp2
 refine hc_seq ?_
 refine hc_seq ?_
 refine hc_region ?_
 refine r_move rfl rfl ?_
 first | refine r_fieldAddr ⟨_, 1, none⟩ rfl rfl T.fa_api_Trades_1 rfl ?_ | refine r_fieldAddr _ rfl rfl T.fa_api_Trades_1 rfl ?_
 first | refine r_load rfl T.cell_L_api_Head rfl (cell_own (by repeat constructor) rfl) ?_ | refine r_load rfl T.cell_L_api_Head rfl (cell_blk (by repeat constructor) rfl) ?_ | refine r_load rfl T.cell_L_api_Head rfl (cell_row (by repeat constructor) (rows_get0 (by omega) rfl)) ?_ | refine r_load rfl T.cell_L_api_Head rfl (cell_row_f (by repeat constructor) (rows_get (by omega) rfl)) ?_ | refine r_load rfl T.cell_L_api_Head rfl (cell_rowg (by repeat constructor) rfl) ?_
 refine r_len_sl rfl T.u_L_api_Head rfl ?_
 refine r_lss rfl rfl rfl ?_
 refine hl_nil ?_
 refine then_n ?_
 first | refine c_dec rfl (fun hb1 => ?_) (fun hb1 => ?_) | refine hc_cond rfl (fun hb1 => ?_) (fun hb1 => ?_)
 ·have hb1' := hb1; try simp at hb1'
  have hk2 : k < hs.length := by omega
  have hk3 : k < hs2.length := by omega
  have hpa := p_at hp2 hk3
  have hal : (hs2.getD k default).2.2.2.l.length ≤ 1000000 := by
    have h1 := ha _ (getD_mem hk2)
    rw [show (hs2.getD k default).2.2.2.l = (hs.getD k default).2.2.2.l from congrArg (fun q : PH => q.2.2.2) hpa]
    exact h1
  obtain ⟨g7, cur, rfl, rfl, hcl, hcm, hcs, hct⟩ := hG.blk (by omega)
  clear hG
  refine hc_skip ?_
  refine then_n ?_
  refine hc_seq ?_
  refine hc_block ?_
  refine hc_drawW (o3) ([(gB, Obj.cells #[.slice a3 cs.length c3, .slice (some ⟨g7, 0, none⟩) hs.length c7] T.api_Trades (0, 0)), (gR, Obj.cells #[.slice none 0 0, .slice none 0 0] T.api_Trades (0, 0)), (g7, Obj.cells cur T.api_Head (0, 0))]) (show List.Perm ((gB, Obj.cells #[.slice a3 cs.length c3, .slice (some ⟨g7, 0, none⟩) hs.length c7] T.api_Trades (0, 0)) :: (gR, Obj.cells #[.slice none 0 0, .slice none 0 0] T.api_Trades (0, 0)) :: ([(g7, Obj.cells cur T.api_Head (0, 0))] ++ o3)) (o3 ++ [(gB, Obj.cells #[.slice a3 cs.length c3, .slice (some ⟨g7, 0, none⟩) hs.length c7] T.api_Trades (0, 0)), (gR, Obj.cells #[.slice none 0 0, .slice none 0 0] T.api_Trades (0, 0)), (g7, Obj.cells cur T.api_Head (0, 0))]) from (perm_of fun p => by simp only [List.countP_append, List.countP_cons, List.countP_nil]; omega)) 10 [] mixed (by decide) (by decide) (by decide) rfl rfl rfl ?_
  apply hb_ex _ rfl rfl rfl
  ·intro w1
   first | refine r_fieldAddr ⟨_, 1, none⟩ rfl rfl T.fa_api_Trades_1 rfl ?_ | refine r_fieldAddr _ rfl rfl T.fa_api_Trades_1 rfl ?_
   refine hl_nil ?_
   exact qe_done rfl
  apply hb_ex _ rfl rfl rfl
  ·intro w1
   first | refine r_load rfl T.cell_L_api_Head rfl (cell_blk (by repeat constructor) rfl) ?_ | refine r_load rfl T.cell_L_api_Head rfl (cell_own (by repeat constructor) rfl) ?_ | refine r_load rfl T.cell_L_api_Head rfl (cell_row (by repeat constructor) (rows_get0 (by omega) rfl)) ?_ | refine r_load rfl T.cell_L_api_Head rfl (cell_row_f (by repeat constructor) (rows_get (by omega) rfl)) ?_ | refine r_load rfl T.cell_L_api_Head rfl (cell_rowg (by repeat constructor) rfl) ?_
   refine hl_nil ?_
   exact qe_done rfl
  apply hb_ex _ rfl rfl rfl
  ·intro w1
   refine r_move rfl rfl ?_
   refine hl_nil ?_
   exact qe_done rfl
  apply hb_ex _ rfl rfl rfl
  ·intro w1
   first | refine r_fieldAddr ⟨_, 1, none⟩ rfl rfl T.fa_api_Trades_1 rfl ?_ | refine r_fieldAddr _ rfl rfl T.fa_api_Trades_1 rfl ?_
   refine hl_nil ?_
   exact qe_done rfl
  apply hb_ex _ rfl rfl rfl
  ·intro w1
   first | refine r_load rfl T.cell_L_api_Head rfl (cell_blk (by repeat constructor) rfl) ?_ | refine r_load rfl T.cell_L_api_Head rfl (cell_own (by repeat constructor) rfl) ?_ | refine r_load rfl T.cell_L_api_Head rfl (cell_row (by repeat constructor) (rows_get0 (by omega) rfl)) ?_ | refine r_load rfl T.cell_L_api_Head rfl (cell_row_f (by repeat constructor) (rows_get (by omega) rfl)) ?_ | refine r_load rfl T.cell_L_api_Head rfl (cell_rowg (by repeat constructor) rfl) ?_
   refine hl_nil ?_
   exact qe_done rfl
  apply hb_ex _ rfl rfl rfl
  ·intro w1
   refine r_move rfl rfl ?_
   refine hl_nil ?_
   exact qe_done rfl
  apply hb_ex _ rfl rfl rfl
  ·intro w1
   refine r_indexAddr_own k (0 + k * 4) rfl T.u_L_api_Head T.sz_api_Head rfl rfl rfl hk2 rfl ?_
   refine hl_nil ?_
   exact qe_done rfl
  apply hb_ex _ rfl rfl rfl
  ·intro w1
   first | refine r_fieldAddr ⟨_, 3, none⟩ rfl rfl T.fa_api_Head_3 rfl ?_ | refine r_fieldAddr _ rfl rfl T.fa_api_Head_3 rfl ?_
   refine hl_nil ?_
   exact qe_done rfl
  apply hb_ex _ rfl rfl rfl
  ·intro w1
   refine r_load (v := .slice (hs2.getD k default).2.2.2.a (hs2.getD k default).2.2.2.l.length (hs2.getD k default).2.2.2.c) rfl T.cell_ints rfl (cell_blk (by repeat constructor) (own_f (α := Hd) (f := 3) hct hk3 (by rw [Nat.zero_add]; rfl) rfl)) ?_
   refine hl_nil ?_
   exact qe_done rfl
  refine hb_vs ⟨OutC, fun z => (hs2.getD k default).2.2.2.l.length ≤ z.2, fun z => .slice z.1 (hs2.getD k default).2.2.2.l.length z.2, fun z => [Row z.1 (rows (hs2.getD k default).2.2.2.l)]⟩ rfl rfl rfl ?_ ?_
  ·intro w1
   refine hl_pick (F := Hd.row (hs2.getD k default)) (Fs := hs2.map Hd.row) (by repeat constructor) (List.mem_map.2 ⟨_, getD_mem hk3, rfl⟩) ?_
   refine hl_call F.kit_DupInts_cb rfl rfl (kit_DupInts_meets (hs2.getD k default).2.2.2.l hal) (List.Perm.refl _) ⟨(by repeat constructor), trivial⟩ fun z hz => ?_
   refine hl_nil ?_
   exact qv_done z hz rfl ⟨m0, trivial⟩
  refine hb_nil ⟨rfl, ?_⟩
  intro z hz
  refine r_indexAddr_own k (0 + k * 4) rfl T.u_L_api_Head T.sz_api_Head rfl rfl rfl hk2 rfl ?_
  first | refine r_fieldAddr ⟨_, 3, none⟩ rfl rfl T.fa_api_Head_3 rfl ?_ | refine r_fieldAddr _ rfl rfl T.fa_api_Head_3 rfl ?_
  refine r_store rfl rfl (show List.Perm (o3 ++ [(gB, Obj.cells #[.slice a3 cs.length c3, .slice (some ⟨g7, 0, none⟩) hs.length c7] T.api_Trades (0, 0)), (gR, Obj.cells #[.slice none 0 0, .slice none 0 0] T.api_Trades (0, 0)), (g7, Obj.cells cur T.api_Head (0, 0))]) ((g7, Obj.cells cur T.api_Head (0, 0)) :: (gB, Obj.cells #[.slice a3 cs.length c3, .slice (some ⟨g7, 0, none⟩) hs.length c7] T.api_Trades (0, 0)) :: (gR, Obj.cells #[.slice none 0 0, .slice none 0 0] T.api_Trades (0, 0)) :: o3) from (perm_of fun p => by simp only [List.countP_append, List.countP_cons, List.countP_nil]; omega)) T.sz_ints (own_f (α := Hd) (f := 3) hct hk3 (by rw [Nat.zero_add]; rfl) rfl) (by rfl) ?_
  refine hl_nil ?_
  refine inb_n ?_
  refine then_n ?_
  refine hc_region ?_
  refine r_move rfl rfl ?_
  refine r_add _ rfl rfl rfl rfl (by unfold I64; omega) ?_
  refine r_assign rfl rfl ?_
  refine hl_nil ?_
  refine hq_facts (Fs := (hs2.set k ((hs2.getD k default).1, (hs2.getD k default).2.1, (hs2.getD k default).2.2.1, (⟨z.1, z.2, (hs2.getD k default).2.2.2.l⟩ : Sl Int))).map Hd.row) (innerF_set (by repeat constructor) (by repeat constructor)) ?_
  refine hq_perm (show List.Perm ((g7, Obj.cells (cur.setIfInBounds (0 + k * 4 + 3) (.slice z.1 (hs2.getD k default).2.2.2.l.length z.2)) T.api_Head (0, 0)) :: (gB, Obj.cells #[.slice a3 cs.length c3, .slice (some ⟨g7, 0, none⟩) hs.length c7] T.api_Trades (0, 0)) :: (gR, Obj.cells #[.slice none 0 0, .slice none 0 0] T.api_Trades (0, 0)) :: o3) ((gB, Obj.cells #[.slice a3 cs.length c3, .slice (some ⟨g7, 0, none⟩) hs.length c7] T.api_Trades (0, 0)) :: (gR, Obj.cells #[.slice none 0 0, .slice none 0 0] T.api_Trades (0, 0)) :: ([(g7, Obj.cells (cur.setIfInBounds (0 + k * 4 + 3) (.slice z.1 (hs2.getD k default).2.2.2.l.length z.2)) T.api_Head (0, 0))] ++ o3)) from (perm_of fun p => by simp only [List.countP_append, List.countP_cons, List.countP_nil]; omega)) ?_
  exact again _ (k + 1, hs2.set k ((hs2.getD k default).1, (hs2.getD k default).2.1, (hs2.getD k default).2.2.1, (⟨z.1, z.2, (hs2.getD k default).2.2.2.l⟩ : Sl Int)), [(g7, Obj.cells (cur.setIfInBounds (0 + k * 4 + 3) (.slice z.1 (hs2.getD k default).2.2.2.l.length z.2)) T.api_Head (0, 0))]) ⟨by show k + 1 ≤ hs.length; omega, p_set hp2 hk3 rfl, .inl ⟨by rw [rows_len]; rfl, .inr ⟨g7, _, rfl, rfl, by show (hs2.set k _).length ≤ c7; rw [List.length_set]; exact hcl, hcm, by rw [Array.size_setIfInBounds]; exact hcs, by rw [Nat.zero_add]; exact take_setf (α := Hd) (f := 3) (by decide) hk3 rfl hct⟩⟩⟩ (by show hs.length - (k + 1) < hs.length - k; omega) ⟨rfl, rfl, rfl, trivial⟩ (List.Sublist.refl _) ⟨(by repeat constructor), trivial⟩
 ·have hb1' := hb1; try simp at hb1'
  obtain rfl : k = hs.length := by omega
  refine hc_exit ?_
  refine then_exit ?_
  refine then_exit ?_
  refine inb_hit ?_
  refine then_n ?_
  refine hc_seq ?_
  refine hc_region ?_
  first | refine r_loadA rfl T.row_api_Trades T.sz_api_Trades rfl (by repeat constructor) (by rfl) ?_ | refine r_loadB rfl T.row_api_Trades T.sz_api_Trades rfl (by repeat constructor) (by rfl) ?_ | refine r_loadS rfl T.row_api_Trades T.sz_api_Trades rfl rfl (cells_row (by repeat constructor) (rows_all (by omega))) ?_
  refine r_storeS (cs := #[.slice a3 cs.length c3, .slice a7 hs.length c7]) rfl rfl (.swap _ _ _) T.sz_api_Trades (by rfl) (by rfl) ?_
  refine hl_nil ?_
  refine then_n ?_
  refine hc_ret ?_
  refine ret_row (((a3, c3), o3), hs2, ((a7, c7), og)) rfl rfl T.row_api_Trades T.sz_api_Trades rfl m0 (by show Value.agg #[.slice a3 cs.length c3, .slice a7 hs2.length c7] = _; rw [hl2]) rfl ⟨hx3, hG, hp2⟩ (List.Sublist.cons _ (List.Sublist.cons _ (List.Sublist.refl _))) ⟨m0, trivial⟩

/-- A reference that may be added. -/
structure FreeP (hs : List Hd) (i k : Nat) : Prop where
  il : i < hs.length
  kl : k < hs.length
  ne : ¬ i = k
  s : (hs.getD i default).2.2.1 < 0
  a : ¬ (k : Int) ∈ (hs.getD i default).2.2.2.l
def FreeL (hs : List Hd) (p : Sl Int) : Prop := ∃ i k : Nat, p.l = [(i : Int), (k : Int)] ∧ FreeP hs i k
abbrev OutS2 := List (Sl Int) × OutC

set_option maxHeartbeats 2000000 in
theorem law04_free_meets {A B : Option Addr} {ca cb : Nat} (cs : List Cl) (hs : List Hd) (h6h : hs.length ≤ 6) (hca : cs.length ≤ ca) (hcb : hs.length ≤ cb) (ha : ∀ h ∈ hs, h.2.2.2.l.length ≤ 1000000) : Meets Try.prog F.law04_free [.agg #[.slice A cs.length ca, .slice B hs.length cb]] { LI := [Row A (rows cs), RowsF B hs Hd.row], inv := fun x : OutS2 => x.1.length ≤ 36 ∧ ∀ p ∈ x.1, FreeL hs p, val := fun x => .slice x.2.1 x.1.length x.2.2, LO := fun x => [Rows2 x.2.1 x.1] } := by
 refine meets_intro F.law04_free_f rfl (Nat.le_of_ble_eq_true rfl) fun w0 => ?_
 refine hc_seq ?_
 refine hc_region ?_
 refine r_box rfl rfl fun gB => ?_
 refine r_assign rfl rfl ?_
 refine hl_nil ?_
 refine then_n ?_
 refine hc_seq ?_
 refine hc_region ?_
 refine r_assign rfl rfl ?_
 refine hl_nil ?_
 refine then_n ?_
 refine hc_seq ?_
 refine hc_seq ?_
 refine hc_letgoB ?_
 refine hc_outerF (ps := hs) (A := B) (f := Hd.row) (by repeat constructor) ?_
 refine hc_facts (Fs := ([] : List (Sl Int)).map (fun p : Sl Int => Row p.a (rows p.l))) (by intro F hF; simp at hF) ?_
 refine hc_region ?_
 refine r_assign rfl rfl ?_
 refine hl_nil ?_
 refine then_n ?_
 refine hc_block ?_
 refine hc_loop (β := Nat × List (Sl Int) × OutC × Hp) ⟨fun x => x.1 ≤ hs.length ∧ Grow T.ints 1 x.2.2.1.1 x.2.1.length x.2.2.1.2 (rows x.2.1) x.2.2.2 ∧ x.2.1.length ≤ x.1 * 6 ∧ ∀ p ∈ x.2.1, FreeL hs p, fun x => [(1, .pointer (some ⟨gB, 0, none⟩)), (3, .slice x.2.2.1.1 x.2.1.length x.2.2.1.2), (4, int x.1)], fun x => x.2.2.2, fun x => [Row B (rows hs), Blk gB (.cells #[.slice A cs.length ca, .slice B hs.length cb] T.api_Trades (0, 0)), Row A (rows cs), RowsF B hs Hd.row, innersF x.2.1 (fun p : Sl Int => Row p.a (rows p.l))]⟩ (fun x => hs.length - x.1) (0, [], (none, 0), []) ⟨Nat.zero_le _, Grow.nil _ _, Nat.zero_le _, fun p hp => by cases hp⟩ ⟨rfl, rfl, rfl, trivial⟩ (List.nil_sublist _) ⟨(by repeat constructor), (by repeat constructor), (by repeat constructor), (by repeat constructor), (by repeat constructor), trivial⟩ fun x hx => ?_
 obtain ⟨i, ps, ⟨na, nc⟩, og⟩ := x
 obtain ⟨hi, hG, hpl, hps⟩ := hx
 simp only at hi hG hpl hps
 refine hc_seq ?_
 refine hc_seq ?_
 refine hc_region ?_
 refine r_move rfl rfl ?_
 first | refine r_fieldAddr ⟨_, 1, none⟩ rfl rfl T.fa_api_Trades_1 rfl ?_ | refine r_fieldAddr _ rfl rfl T.fa_api_Trades_1 rfl ?_
 first | refine r_load rfl T.cell_L_api_Head rfl (cell_own (by repeat constructor) rfl) ?_ | refine r_load rfl T.cell_L_api_Head rfl (cell_blk (by repeat constructor) rfl) ?_ | refine r_load rfl T.cell_L_api_Head rfl (cell_row (by repeat constructor) (rows_get0 (by omega) rfl)) ?_ | refine r_load rfl T.cell_L_api_Head rfl (cell_row_f (by repeat constructor) (rows_get (by omega) rfl)) ?_ | refine r_load rfl T.cell_L_api_Head rfl (cell_rowg (by repeat constructor) rfl) ?_
 refine r_len_sl rfl T.u_L_api_Head rfl ?_
 refine r_lss rfl rfl rfl ?_
 refine hl_nil ?_
 refine then_n ?_
 first | refine c_dec rfl (fun hb1 => ?_) (fun hb1 => ?_) | refine hc_cond rfl (fun hb1 => ?_) (fun hb1 => ?_)
 ·have hb1' := hb1; try simp at hb1'
  have hi2 : i < hs.length := by omega
  refine hc_skip ?_
  refine then_n ?_
  refine hc_seq ?_
  refine hc_block ?_
  refine hc_seq ?_
  refine hc_region ?_
  refine r_assign rfl rfl ?_
  refine hl_nil ?_
  refine then_n ?_
  refine hc_block ?_
  refine hc_loop (β := Nat × List (Sl Int) × OutC × Hp) ⟨fun x => x.1 ≤ hs.length ∧ Grow T.ints 1 x.2.2.1.1 x.2.1.length x.2.2.1.2 (rows x.2.1) x.2.2.2 ∧ x.2.1.length ≤ i * 6 + x.1 ∧ ∀ p ∈ x.2.1, FreeL hs p, fun x => [(1, .pointer (some ⟨gB, 0, none⟩)), (3, .slice x.2.2.1.1 x.2.1.length x.2.2.1.2), (4, int i), (5, int x.1)], fun x => x.2.2.2, fun x => [Row B (rows hs), Blk gB (.cells #[.slice A cs.length ca, .slice B hs.length cb] T.api_Trades (0, 0)), Row A (rows cs), RowsF B hs Hd.row, innersF x.2.1 (fun p : Sl Int => Row p.a (rows p.l))]⟩ (fun x => hs.length - x.1) (0, ps, (na, nc), og) ⟨Nat.zero_le _, hG, hpl, hps⟩ ⟨rfl, rfl, rfl, rfl, trivial⟩ (List.Sublist.refl _) ⟨(by repeat constructor), (by repeat constructor), (by repeat constructor), (by repeat constructor), (by repeat constructor), trivial⟩ fun x hx => ?_
  clear hG hpl hps
  obtain ⟨k, ps, ⟨na, nc⟩, og⟩ := x
  obtain ⟨hk, hG, hpl, hps⟩ := hx
  simp only at hk hG hpl hps
  refine hc_seq ?_
  refine hc_seq ?_
  refine hc_region ?_
  refine r_move rfl rfl ?_
  first | refine r_fieldAddr ⟨_, 1, none⟩ rfl rfl T.fa_api_Trades_1 rfl ?_ | refine r_fieldAddr _ rfl rfl T.fa_api_Trades_1 rfl ?_
  first | refine r_load rfl T.cell_L_api_Head rfl (cell_own (by repeat constructor) rfl) ?_ | refine r_load rfl T.cell_L_api_Head rfl (cell_blk (by repeat constructor) rfl) ?_ | refine r_load rfl T.cell_L_api_Head rfl (cell_row (by repeat constructor) (rows_get0 (by omega) rfl)) ?_ | refine r_load rfl T.cell_L_api_Head rfl (cell_row_f (by repeat constructor) (rows_get (by omega) rfl)) ?_ | refine r_load rfl T.cell_L_api_Head rfl (cell_rowg (by repeat constructor) rfl) ?_
  refine r_len_sl rfl T.u_L_api_Head rfl ?_
  refine r_lss rfl rfl rfl ?_
  refine hl_nil ?_
  refine then_n ?_
  first | refine c_dec rfl (fun hb2 => ?_) (fun hb2 => ?_) | refine hc_cond rfl (fun hb2 => ?_) (fun hb2 => ?_)
  ·have hb2' := hb2; try simp at hb2'
   have hk2 : k < hs.length := by omega
   have hal := ha _ (getD_mem hi2)
   refine hc_skip ?_
   refine then_n ?_
   refine hc_seq ?_
   refine hc_block ?_
   refine hc_cut ⟨fun b : Bool => b = true → FreeP hs i k, fun b => [(1, .pointer (some ⟨gB, 0, none⟩)), (3, .slice na ps.length nc), (4, int i), (5, int k), (42, .bool b)], fun _ => og, fun _ => [Row B (rows hs), Blk gB (.cells #[.slice A cs.length ca, .slice B hs.length cb] T.api_Trades (0, 0)), Row A (rows cs), RowsF B hs Hd.row, innersF ps (fun p : Sl Int => Row p.a (rows p.l))]⟩ ?_ ?_
   ·skip
    refine hc_region ?_
    refine r_move rfl rfl ?_
    refine r_move rfl rfl ?_
    refine r_neq rfl rfl rfl ?_
    refine r_move rfl rfl ?_
    refine g_split rfl rfl ?_ ?_
    ·intro hg1; have hg1' := hg1; try simp at hg1'
     have g4 : ¬ (i : Int) = (k : Int) := of_decide_eq_true (eq_of_beq hg1)
     refine g_yes rfl rfl hg1 ?_
     first | refine r_fieldAddr ⟨_, 1, none⟩ rfl rfl T.fa_api_Trades_1 rfl ?_ | refine r_fieldAddr _ rfl rfl T.fa_api_Trades_1 rfl ?_
     refine g_yes rfl rfl hg1 ?_
     first | refine r_load rfl T.cell_L_api_Head rfl (cell_own (by repeat constructor) rfl) ?_ | refine r_load rfl T.cell_L_api_Head rfl (cell_blk (by repeat constructor) rfl) ?_ | refine r_load rfl T.cell_L_api_Head rfl (cell_row (by repeat constructor) (rows_get0 (by omega) rfl)) ?_ | refine r_load rfl T.cell_L_api_Head rfl (cell_row_f (by repeat constructor) (rows_get (by omega) rfl)) ?_ | refine r_load rfl T.cell_L_api_Head rfl (cell_rowg (by repeat constructor) rfl) ?_
     refine g_yes rfl rfl hg1 ?_
     refine r_move rfl rfl ?_
     refine g_yes rfl rfl hg1 ?_
     refine r_elem (α := Hd) hs i rfl T.u_L_api_Head T.sz_api_Head rfl rfl rfl (by repeat constructor) rfl hi2 (by decide) ?_
     refine g_yes rfl rfl hg1 ?_
     first | refine r_fieldAddr ⟨_, 2, none⟩ rfl rfl T.fa_api_Head_2 rfl ?_ | refine r_fieldAddr _ rfl rfl T.fa_api_Head_2 rfl ?_
     refine g_yes rfl rfl hg1 ?_
     refine r_load (v := int (hs.getD i default).2.2.1) rfl T.cell_int rfl (cell_row_f (by repeat constructor) (rows_get hi2 rfl)) ?_
     refine g_yes rfl rfl hg1 ?_
     refine r_lss rfl rfl rfl ?_
     refine p_t rfl rfl (bt1 hg1) rfl ?_
     refine r_move rfl rfl ?_
     refine g_split rfl rfl ?_ ?_
     ·intro hg2; have hg2' := hg2; try simp at hg2'
      have g13 : (hs.getD i default).2.2.1 < 0 := of_decide_eq_true (eq_of_beq hg2)
      refine g_yes rfl rfl hg2 ?_
      first | refine r_fieldAddr ⟨_, 1, none⟩ rfl rfl T.fa_api_Trades_1 rfl ?_ | refine r_fieldAddr _ rfl rfl T.fa_api_Trades_1 rfl ?_
      refine g_yes rfl rfl hg2 ?_
      first | refine r_load rfl T.cell_L_api_Head rfl (cell_own (by repeat constructor) rfl) ?_ | refine r_load rfl T.cell_L_api_Head rfl (cell_blk (by repeat constructor) rfl) ?_ | refine r_load rfl T.cell_L_api_Head rfl (cell_row (by repeat constructor) (rows_get0 (by omega) rfl)) ?_ | refine r_load rfl T.cell_L_api_Head rfl (cell_row_f (by repeat constructor) (rows_get (by omega) rfl)) ?_ | refine r_load rfl T.cell_L_api_Head rfl (cell_rowg (by repeat constructor) rfl) ?_
      refine g_yes rfl rfl hg2 ?_
      refine r_move rfl rfl ?_
      refine g_yes rfl rfl hg2 ?_
      refine r_elem (α := Hd) hs i rfl T.u_L_api_Head T.sz_api_Head rfl rfl rfl (by repeat constructor) rfl hi2 (by decide) ?_
      refine g_yes rfl rfl hg2 ?_
      first | refine r_fieldAddr ⟨_, 3, none⟩ rfl rfl T.fa_api_Head_3 rfl ?_ | refine r_fieldAddr _ rfl rfl T.fa_api_Head_3 rfl ?_
      refine g_yes rfl rfl hg2 ?_
      refine r_load (v := .slice (hs.getD i default).2.2.2.a (hs.getD i default).2.2.2.l.length (hs.getD i default).2.2.2.c) rfl T.cell_ints rfl (cell_row_f (by repeat constructor) (rows_get hi2 rfl)) ?_
      refine g_yes rfl rfl hg2 ?_
      refine r_move rfl rfl ?_
      refine hl_innerF (p := (hs.getD i default)) (f := Hd.row) (ps := hs) (by repeat constructor) (getD_mem hi2) ?_
      refine g_yes rfl rfl hg2 ?_
      refine hl_call F.kit_Index_cb rfl rfl (kit_Index_meets (hs.getD i default).2.2.2.l (k : Int) hal) (hpR := og) (List.Perm.refl _) ⟨(by repeat constructor), trivial⟩ fun z hz => ?_
      refine g_yes rfl rfl hg2 ?_
      refine r_lss rfl rfl rfl ?_
      refine p_t rfl rfl (bt1 hg2) rfl ?_
      refine hl_nil ?_
      exact cut_n _ (decide (z < 0)) (fun e => ⟨hi2, hk2, by omega, g13, fun hm => by have h1 := hz.1.2 hm; have h2 := of_decide_eq_true e; omega⟩) ⟨rfl, rfl, rfl, rfl, rfl, trivial⟩ (List.Sublist.refl _) ⟨(by repeat constructor), (by repeat constructor), (by repeat constructor), (by repeat constructor), (by repeat constructor), trivial⟩
     ·intro hg2; have hg2' := hg2; try simp at hg2'
      refine g_no rfl rfl rfl rfl rfl hg2 ?_
      refine g_no rfl rfl rfl rfl rfl hg2 ?_
      refine g_no rfl rfl rfl rfl rfl hg2 ?_
      refine g_no rfl rfl rfl rfl rfl hg2 ?_
      refine g_no rfl rfl rfl rfl rfl hg2 ?_
      refine g_no rfl rfl rfl rfl rfl hg2 ?_
      refine g_no rfl rfl rfl rfl rfl hg2 ?_
      refine hl_innerF (p := (hs.getD i default)) (f := Hd.row) (ps := hs) (by repeat constructor) (getD_mem hi2) ?_
      refine g_no rfl rfl rfl rfl rfl hg2 ?_
      refine g_no rfl rfl rfl rfl rfl hg2 ?_
      refine p_f rfl rfl (bf2 hg2) rfl ?_
      refine hl_nil ?_
      exact cut_n _ false (fun e => by cases e) ⟨rfl, rfl, rfl, rfl, rfl, trivial⟩ (List.Sublist.refl _) ⟨(by repeat constructor), (by repeat constructor), (by repeat constructor), (by repeat constructor), (by repeat constructor), trivial⟩
    ·intro hg1; have hg1' := hg1; try simp at hg1'
     refine g_no rfl rfl rfl rfl rfl hg1 ?_
     refine g_no rfl rfl rfl rfl rfl hg1 ?_
     refine g_no rfl rfl rfl rfl rfl hg1 ?_
     refine g_no rfl rfl rfl rfl rfl hg1 ?_
     refine g_no rfl rfl rfl rfl rfl hg1 ?_
     refine g_no rfl rfl rfl rfl rfl hg1 ?_
     refine g_no rfl rfl rfl rfl rfl hg1 ?_
     refine p_f rfl rfl (bf2 hg1) rfl ?_
     refine r_move rfl rfl ?_
     refine g_no rfl rfl rfl rfl rfl rfl ?_
     refine g_no rfl rfl rfl rfl rfl rfl ?_
     refine g_no rfl rfl rfl rfl rfl rfl ?_
     refine g_no rfl rfl rfl rfl rfl rfl ?_
     refine g_no rfl rfl rfl rfl rfl rfl ?_
     refine g_no rfl rfl rfl rfl rfl rfl ?_
     refine g_no rfl rfl rfl rfl rfl rfl ?_
     refine hl_innerF (p := (hs.getD i default)) (f := Hd.row) (ps := hs) (by repeat constructor) (getD_mem hi2) ?_
     refine g_no rfl rfl rfl rfl rfl rfl ?_
     refine g_no rfl rfl rfl rfl rfl rfl ?_
     refine p_f rfl rfl rfl rfl ?_
     refine hl_nil ?_
     exact cut_n _ false (fun e => by cases e) ⟨rfl, rfl, rfl, rfl, rfl, trivial⟩ (List.Sublist.refl _) ⟨(by repeat constructor), (by repeat constructor), (by repeat constructor), (by repeat constructor), (by repeat constructor), trivial⟩
   ·intro b hb
    first | refine c_dec rfl (fun hb3 => ?_) (fun hb3 => ?_) | refine hc_cond rfl (fun hb3 => ?_) (fun hb3 => ?_)
    ·have hb3' := hb3; try simp at hb3'
     have hfp := hb hb3
     refine hc_region ?_
     refine r_move rfl rfl ?_
     refine r_move rfl rfl ?_
     refine r_move rfl rfl ?_
     refine r_buildSlice _ rfl rfl (fun _ => T.bs_ints_2 ..) fun gS => ?_
     refine hl_letgo (rows [(i : Int), (k : Int)]) (List.prefix_refl _) ?_
     refine r_buildSlice _ rfl rfl (fun _ => T.bs_intss_1 ..) fun gS2 => ?_
     refine hl_letgo (rows [(⟨some ⟨gS, 0, none⟩, 2, [(i : Int), (k : Int)]⟩ : Sl Int)]) (List.prefix_refl _) ?_
     refine r_append (ps.length + 1) (rows (ps ++ [(⟨some ⟨gS, 0, none⟩, 2, [(i : Int), (k : Int)]⟩ : Sl Int)])) T.el_intss rfl rfl rfl hG (hp' := []) (by first | (rw [List.append_nil]; done) | (rw [List.append_nil]; exact List.Perm.refl _)) (Src.row (news := rows [(⟨some ⟨gS, 0, none⟩, 2, [(i : Int), (k : Int)]⟩ : Sl Int)]) (m := 1) m0 rfl (rows_one _) (by decide)) rfl (rows_append _ _).symm (by unfold maxLen; omega) (by omega) fun A' c' og' hG' => ?_
     refine r_assign rfl rfl ?_
     refine hl_nil ?_
     refine inb_n ?_
     refine then_n ?_
     refine hc_region ?_
     refine r_move rfl rfl ?_
     refine r_add _ rfl rfl rfl rfl (by unfold I64; omega) ?_
     refine r_assign rfl rfl ?_
     refine hl_nil ?_
     refine hq_facts (innerF_snoc (ps := ps) (f := (fun p : Sl Int => Row p.a (rows p.l))) (p := (⟨some ⟨gS, 0, none⟩, 2, [(i : Int), (k : Int)]⟩ : Sl Int)) (by repeat constructor) (by repeat constructor)) ?_
     exact again _ (k + 1, ps ++ [(⟨some ⟨gS, 0, none⟩, 2, [(i : Int), (k : Int)]⟩ : Sl Int)], (A', c'), og') ⟨by show k + 1 ≤ hs.length; omega, by show Grow _ _ _ (ps ++ [_]).length _ _ _; rw [List.length_append]; exact hG', by show (ps ++ [_]).length ≤ i * 6 + (k + 1); rw [List.length_append, List.length_singleton]; omega, fun p hp => by rcases List.mem_append.1 hp with h1 | h1; exact hps p h1; rw [List.mem_singleton] at h1; subst h1; exact ⟨i, k, rfl, hfp⟩⟩ (by show hs.length - (k + 1) < hs.length - k; omega) ⟨rfl, by show some (Value.slice A' (ps.length + 1) c') = some (Value.slice A' (ps ++ [_]).length c'); rw [List.length_append]; rfl, rfl, rfl, trivial⟩ (List.sublist_append_left _ _) ⟨(by repeat constructor), (by repeat constructor), (by repeat constructor), (by repeat constructor), (by repeat constructor), trivial⟩
    ·have hb3' := hb3; try simp at hb3'
     refine hc_skip ?_
     refine inb_n ?_
     refine then_n ?_
     refine hc_region ?_
     refine r_move rfl rfl ?_
     refine r_add _ rfl rfl rfl rfl (by unfold I64; omega) ?_
     refine r_assign rfl rfl ?_
     refine hl_nil ?_
     exact again _ (k + 1, ps, (na, nc), og) ⟨by show k + 1 ≤ hs.length; omega, hG, by show ps.length ≤ i * 6 + (k + 1); omega, hps⟩ (by show hs.length - (k + 1) < hs.length - k; omega) ⟨rfl, rfl, rfl, rfl, trivial⟩ (List.Sublist.refl _) ⟨(by repeat constructor), (by repeat constructor), (by repeat constructor), (by repeat constructor), (by repeat constructor), trivial⟩
  ·have hb2' := hb2; try simp at hb2'
   obtain rfl : k = hs.length := by omega
   refine hc_exit ?_
   refine then_exit ?_
   refine then_exit ?_
   refine inb_hit ?_
   refine inb_n ?_
   refine then_n ?_
   refine hc_region ?_
   refine r_move rfl rfl ?_
   refine r_add _ rfl rfl rfl rfl (by unfold I64; omega) ?_
   refine r_assign rfl rfl ?_
   refine hl_nil ?_
   exact again _ (i + 1, ps, (na, nc), og) ⟨by show i + 1 ≤ hs.length; omega, hG, by show ps.length ≤ (i + 1) * 6; omega, hps⟩ (by show hs.length - (i + 1) < hs.length - i; omega) ⟨rfl, rfl, rfl, trivial⟩ (List.Sublist.refl _) ⟨(by repeat constructor), (by repeat constructor), (by repeat constructor), (by repeat constructor), (by repeat constructor), trivial⟩
 ·have hb1' := hb1; try simp at hb1'
  obtain rfl : i = hs.length := by omega
  refine hc_exit ?_
  refine then_exit ?_
  refine then_exit ?_
  refine inb_hit ?_
  refine then_n ?_
  refine hc_seq ?_
  refine hc_region ?_
  refine r_move rfl rfl ?_
  refine r_assign rfl rfl ?_
  refine hl_nil ?_
  refine then_n ?_
  refine hc_ret ?_
  refine hq_grown0 hG ?_
  refine hq_rows2F (A := na) (ps := ps) (by repeat constructor) (by repeat constructor) ?_
  exact ret1 (ps, (na, nc)) rfl rfl rfl ⟨by show ps.length ≤ 36; omega, hps⟩ (List.nil_sublist _) ⟨m0, trivial⟩

def aB (hs : List Hd) (i k j : Nat) : Bool := decide ((j : Int) = (k : Int)) || decide ((j : Int) ∈ (hs.getD i default).2.2.2.l)
def alsoK (hs : List Hd) (i k m : Nat) : List Int := ((List.range m).filter (aB hs i k)).map fun j : Nat => (j : Int)
theorem alsoK_succ (hs : List Hd) (i k m : Nat) : alsoK hs i k (m + 1) = if aB hs i k m = true then alsoK hs i k m ++ [(m : Int)] else alsoK hs i k m := by
  unfold alsoK
  rw [List.range_succ, List.filter_append, List.map_append, List.filter_cons, List.filter_nil]
  by_cases e : aB hs i k m = true
  · rw [if_pos e, if_pos e]; rfl
  · rw [if_neg e, if_neg e]; simp
theorem alsoK_len (hs : List Hd) (i k m : Nat) : (alsoK hs i k m).length ≤ m := by
  unfold alsoK
  rw [List.length_map]
  exact Nat.le_trans (List.length_filter_le _ _) (by simp)
def addP (hs : List Hd) (i k : Nat) : PH := ((hs.getD i default).1, (hs.getD i default).2.1, (hs.getD i default).2.2.1, alsoK hs i k hs.length)
/-- The headings with one reference more. -/
def AddOK (hs : List Hd) (i k : Nat) (hs' : List Hd) : Prop := hs'.map Hd.p = (hs.map Hd.p).set i (addP hs i k)
abbrev OutA := List Hd × OutC × OutC

set_option maxHeartbeats 2000000 in
theorem law04_added_meets {R : Option Addr} {rc : Nat} {p : Sl Int} {A B : Option Addr} {ca cb : Nat} (cs : List Cl) (hs : List Hd) (i k : Nat) (hf : FreeP hs i k) (hpl : p.l = [(i : Int), (k : Int)]) (h6 : cs.length ≤ 6) (h6h : hs.length ≤ 6) (hca : cs.length ≤ ca) (hcb : hs.length ≤ cb) (ha : ∀ h ∈ hs, h.2.2.2.l.length ≤ 1000000) : Meets Try.prog F.law04_added [.agg #[.slice A cs.length ca, .slice B hs.length cb], .slice R 1 rc] { LI := [Row A (rows cs), RowsF B hs Hd.row, Row R (rows [p]), Row p.a (rows p.l)], inv := fun x : OutA => AddOK hs i k x.1 ∧ cs.length ≤ x.2.1.2 ∧ x.1.length ≤ x.2.2.2, val := fun x => .agg #[.slice x.2.1.1 cs.length x.2.1.2, .slice x.2.2.1 x.1.length x.2.2.2], LO := fun x => [Row x.2.1.1 (rows cs), RowsF x.2.2.1 x.1 Hd.row] } := by
 refine meets_intro F.law04_added_f rfl (Nat.le_of_ble_eq_true rfl) fun w0 => ?_
 refine hc_seq ?_
 refine hc_region ?_
 refine r_box rfl rfl fun gB => ?_
 refine r_alloc rfl (fun _ => T.al_api_Trades _) fun gA => ?_
 refine hl_nil ?_
 refine then_n ?_
 refine hc_seq ?_
 refine hc_region ?_
 first | refine r_loadA rfl T.row_api_Trades T.sz_api_Trades rfl (by repeat constructor) (by rfl) ?_ | refine r_loadB rfl T.row_api_Trades T.sz_api_Trades rfl (by repeat constructor) (by rfl) ?_ | refine r_loadS rfl T.row_api_Trades T.sz_api_Trades rfl rfl (cells_row (by repeat constructor) (rows_all (by omega))) ?_
 refine hl_call F.kit_DupTrades_cb rfl rfl (kit_DupTrades_meets cs hs h6 h6h hca hcb ha) (hpR := [_, _]) (List.Perm.refl _) ⟨(by repeat constructor), (by repeat constructor), trivial⟩ fun x hD => ?_
 obtain ⟨⟨⟨a3, c3⟩, o3⟩, hs2, ⟨⟨a7, c7⟩, o7⟩⟩ := x
 change DupOK cs hs (((a3, c3), o3), hs2, ((a7, c7), o7)) at hD
 have hp2 : hs2.map Hd.p = hs.map Hd.p := hD.p
 have hDa : GrowE T.api_Class 2 a3 cs.length c3 (rows cs) o3 := hD.a
 have hDb : GrowE T.api_Head 4 a7 hs2.length c7 (rows hs2) o7 := hD.b
 have hl2 := p_len hp2
 have hil := hf.il
 obtain ⟨g7, cur, rfl, rfl, hcl, hcm, hcs, hct⟩ := hDb.blk (show 0 < hs2.length by omega)
 clear hD hDb
 refine r_alloc rfl (fun _ => T.al_api_Trades _) fun g5 => ?_
 refine r_storeS (cs := #[.slice a3 cs.length c3, .slice (some ⟨g7, 0, none⟩) hs2.length c7]) rfl rfl (.refl _) T.sz_api_Trades (by rfl) (by rfl) ?_
 refine hl_nil ?_
 refine then_n ?_
 refine hc_seq ?_
 refine hc_seq ?_
 refine hc_letgoB ?_
 refine hc_perm (show List.Perm (([(g7, Obj.cells cur T.api_Head (0, 0))] ++ o3) ++ [(gA, Obj.cells #[.slice none 0 0, .slice none 0 0] T.api_Trades (0, 0)), (gB, Obj.cells #[.slice A cs.length ca, .slice B hs.length cb] T.api_Trades (0, 0))]) (o3 ++ ([(g7, Obj.cells cur T.api_Head (0, 0))] ++ [(gA, Obj.cells #[.slice none 0 0, .slice none 0 0] T.api_Trades (0, 0)), (gB, Obj.cells #[.slice A cs.length ca, .slice B hs.length cb] T.api_Trades (0, 0))])) from (perm_of fun p => by simp only [List.countP_append, List.countP_cons, List.countP_nil]; omega)) ?_
 refine hc_grownE hDa ?_
 refine hc_region ?_
 refine r_assign rfl rfl ?_
 refine hl_nil ?_
 refine then_n ?_
 refine hc_block ?_
 refine hc_loop (β := Nat × List Hd × Array Value) ⟨fun x => x.1 ≤ 1 ∧ (x.1 = 0 → x.2.1.map Hd.p = hs.map Hd.p) ∧ (x.1 = 1 → AddOK hs i k x.2.1) ∧ x.2.1.length = hs.length ∧ x.2.2.size = c7 * 4 ∧ x.2.2.toList.take (x.2.1.length * 4) = rows x.2.1, fun x => [(1, .slice R 1 rc), (4, .pointer (some ⟨gA, 0, none⟩)), (5, .pointer (some ⟨g5, 0, none⟩)), (6, int x.1)], fun x => [(g7, Obj.cells x.2.2 T.api_Head (0, 0)), (gA, Obj.cells #[.slice none 0 0, .slice none 0 0] T.api_Trades (0, 0))], fun x => [Row a3 (rows cs), Blk g5 (.cells #[.slice a3 cs.length c3, .slice (some ⟨g7, 0, none⟩) hs2.length c7] T.api_Trades (0, 0)), Row R (rows [p]), Row p.a (rows p.l), innersF x.2.1 Hd.row]⟩ (fun x => 1 - x.1) (0, hs2, cur) ⟨Nat.zero_le _, fun _ => hp2, fun h => absurd h (by show ¬ (0 : Nat) = 1; decide), hl2, hcs, hct⟩ ⟨rfl, rfl, rfl, rfl, trivial⟩ (List.Sublist.cons_cons _ (List.Sublist.cons_cons _ (List.nil_sublist _))) ⟨(by repeat constructor), (by repeat constructor), (by repeat constructor), (by repeat constructor), (by repeat constructor), trivial⟩ fun x hxx => ?_
 obtain ⟨r, hx, cur⟩ := x
 obtain ⟨hr, hp0, hp1, hxl, hcs, hct⟩ := hxx
 simp only at hr hp0 hp1 hxl hcs hct
 refine hc_seq ?_
 refine hc_seq ?_
 refine hc_region ?_
 refine r_move rfl rfl ?_
 refine r_move rfl rfl ?_
 refine r_len_sl rfl T.u_intss rfl ?_
 refine r_lss rfl rfl rfl ?_
 refine hl_nil ?_
 refine then_n ?_
 first | refine c_dec rfl (fun hb1 => ?_) (fun hb1 => ?_) | refine hc_cond rfl (fun hb1 => ?_) (fun hb1 => ?_)
 ·have hb1' := hb1; try simp at hb1'
  obtain rfl : r = 0 := by omega
  have hpx := hp0 rfl
  have hpa := p_at hpx (show i < hx.length by omega)
  have hll : (hx.getD i default).2.2.2.l = (hs.getD i default).2.2.2.l := congrArg (fun q : PH => q.2.2.2) hpa
  have hal : (hx.getD i default).2.2.2.l.length ≤ 1000000 := by rw [hll]; exact ha _ (getD_mem hil)
  refine hc_skip ?_
  refine then_n ?_
  refine hc_seq ?_
  refine hc_block ?_
  refine hc_seq ?_
  refine hc_region ?_
  refine r_assign rfl rfl ?_
  refine hl_nil ?_
  refine then_n ?_
  refine hc_seq ?_
  refine hc_seq ?_
  refine hc_region ?_
  refine r_assign rfl rfl ?_
  refine hl_nil ?_
  refine then_n ?_
  refine hc_block ?_
  refine hc_loop (β := Nat × OutC × Hp) ⟨fun x => x.1 ≤ hs.length ∧ Grow T.int 1 x.2.1.1 (alsoK hs i k x.1).length x.2.1.2 (rows (alsoK hs i k x.1)) x.2.2, fun x => [(1, .slice R 1 rc), (4, .pointer (some ⟨gA, 0, none⟩)), (5, .pointer (some ⟨g5, 0, none⟩)), (6, int (0 : Nat)), (7, .slice x.2.1.1 (alsoK hs i k x.1).length x.2.1.2), (8, int x.1)], fun x => x.2.2 ++ [(g7, Obj.cells cur T.api_Head (0, 0)), (gA, Obj.cells #[.slice none 0 0, .slice none 0 0] T.api_Trades (0, 0))], fun _ => [Row a3 (rows cs), Blk g5 (.cells #[.slice a3 cs.length c3, .slice (some ⟨g7, 0, none⟩) hs2.length c7] T.api_Trades (0, 0)), Row R (rows [p]), Row p.a (rows p.l), innersF hx Hd.row]⟩ (fun x => hs.length - x.1) (0, (none, 0), []) ⟨Nat.zero_le _, Grow.nil _ _⟩ ⟨rfl, rfl, rfl, rfl, rfl, rfl, trivial⟩ (List.Sublist.refl _) ⟨(by repeat constructor), (by repeat constructor), (by repeat constructor), (by repeat constructor), (by repeat constructor), trivial⟩ fun x hxx => ?_
  obtain ⟨j, ⟨na, nc⟩, og⟩ := x
  obtain ⟨hj, hG⟩ := hxx
  simp only at hj hG
  have hul := alsoK_len hs i k j
  have huc := alsoK_succ hs i k j
  refine hc_seq ?_
  refine hc_seq ?_
  refine hc_region ?_
  refine r_move rfl rfl ?_
  first | refine r_fieldAddr ⟨_, 1, none⟩ rfl rfl T.fa_api_Trades_1 rfl ?_ | refine r_fieldAddr _ rfl rfl T.fa_api_Trades_1 rfl ?_
  first | refine r_load rfl T.cell_L_api_Head rfl (cell_own (by repeat constructor) rfl) ?_ | refine r_load rfl T.cell_L_api_Head rfl (cell_blk (by repeat constructor) rfl) ?_ | refine r_load rfl T.cell_L_api_Head rfl (cell_row (by repeat constructor) (rows_get0 (by omega) rfl)) ?_ | refine r_load rfl T.cell_L_api_Head rfl (cell_row_f (by repeat constructor) (rows_get (by omega) rfl)) ?_ | refine r_load rfl T.cell_L_api_Head rfl (cell_rowg (by repeat constructor) rfl) ?_
  refine r_len_sl rfl T.u_L_api_Head rfl ?_
  refine r_lss rfl rfl rfl ?_
  refine hl_nil ?_
  refine then_n ?_
  first | refine c_dec rfl (fun hb2 => ?_) (fun hb2 => ?_) | refine hc_cond rfl (fun hb2 => ?_) (fun hb2 => ?_)
  ·have hb2' := hb2; try simp at hb2'
   have hj2 : j < hs.length := by omega
   refine hc_skip ?_
   refine then_n ?_
   refine hc_seq ?_
   refine hc_block ?_
   refine hc_cut ⟨fun _ : Unit => True, fun _ => [(1, .slice R 1 rc), (4, .pointer (some ⟨gA, 0, none⟩)), (5, .pointer (some ⟨g5, 0, none⟩)), (6, int (0 : Nat)), (7, .slice (na, nc).1 (alsoK hs i k j).length (na, nc).2), (8, int j), (47, .bool (aB hs i k j))], fun _ => og ++ [(g7, Obj.cells cur T.api_Head (0, 0)), (gA, Obj.cells #[.slice none 0 0, .slice none 0 0] T.api_Trades (0, 0))], fun _ => [Row a3 (rows cs), Blk g5 (.cells #[.slice a3 cs.length c3, .slice (some ⟨g7, 0, none⟩) hs2.length c7] T.api_Trades (0, 0)), Row R (rows [p]), Row p.a (rows p.l), innersF hx Hd.row]⟩ ?_ ?_
   ·skip
    refine hc_drawW (og) ([(g7, Obj.cells cur T.api_Head (0, 0)), (gA, Obj.cells #[.slice none 0 0, .slice none 0 0] T.api_Trades (0, 0))]) (List.Perm.refl _) 21 [] mixed (by decide) (by decide) (by decide) rfl rfl rfl ?_
    apply hb_ex _ rfl rfl rfl
    ·intro w1
     refine r_move rfl rfl ?_
     refine hl_nil ?_
     exact qe_done rfl
    apply hb_ex _ rfl rfl rfl
    ·intro w1
     refine r_move rfl rfl ?_
     refine hl_nil ?_
     exact qe_done rfl
    apply hb_ex _ rfl rfl rfl
    ·intro w1
     refine r_move rfl rfl ?_
     refine hl_nil ?_
     exact qe_done rfl
    apply hb_ex _ rfl rfl rfl
    ·intro w1
     refine r_elem (α := Sl Int) [p] 0 rfl T.u_intss T.sz_ints rfl rfl rfl (by repeat constructor) rfl (by simp) (by decide) ?_
     refine hl_nil ?_
     exact qe_done rfl
    apply hb_ex _ rfl rfl rfl
    ·intro w1
     refine r_load (v := .slice p.a p.l.length p.c) rfl T.cell_ints rfl (cell_row (by repeat constructor) (rows_get0 (l := [p]) (i := 0) (by simp) rfl)) ?_
     refine hl_nil ?_
     exact qe_done rfl
    apply hb_ex _ rfl rfl rfl
    ·intro w1
     refine r_elem (α := Int) p.l 1 rfl T.u_ints T.sz_int rfl rfl rfl (by repeat constructor) rfl (by rw [hpl]; simp) (by decide) ?_
     refine hl_nil ?_
     exact qe_done rfl
    apply hb_ex _ rfl rfl rfl
    ·intro w1
     refine r_load (v := int (k : Int)) rfl T.cell_int rfl (cell_row (by repeat constructor) (rows_get0 (by rw [hpl]; simp) (by rw [hpl]; rfl))) ?_
     refine hl_nil ?_
     exact qe_done rfl
    apply hb_ex _ rfl rfl rfl
    ·intro w1
     refine r_eql rfl rfl rfl ?_
     refine hl_nil ?_
     exact qe_done rfl
    apply hb_ex _ rfl rfl rfl
    ·intro w1
     refine r_move rfl rfl ?_
     refine hl_nil ?_
     exact qe_done rfl
    refine hb_split (t := 32) (want := false) rfl ?_ ?_
    ·intro hg1; have hg1' := hg1; try simp at hg1'
     have g9 : ¬ (j : Int) = (k : Int) := of_decide_eq_false (eq_of_beq hg1)
     apply hb_ex _ rfl rfl rfl
     ·intro w1
      refine g_yes rfl rfl hg1 ?_
      first | refine r_fieldAddr ⟨_, 1, none⟩ rfl rfl T.fa_api_Trades_1 rfl ?_ | refine r_fieldAddr _ rfl rfl T.fa_api_Trades_1 rfl ?_
      refine hl_nil ?_
      exact qe_done rfl
     apply hb_ex _ rfl rfl rfl
     ·intro w1
      refine g_yes rfl rfl hg1 ?_
      first | refine r_load rfl T.cell_L_api_Head rfl (cell_blk (by repeat constructor) rfl) ?_ | refine r_load rfl T.cell_L_api_Head rfl (cell_own (by repeat constructor) rfl) ?_ | refine r_load rfl T.cell_L_api_Head rfl (cell_row (by repeat constructor) (rows_get0 (by omega) rfl)) ?_ | refine r_load rfl T.cell_L_api_Head rfl (cell_row_f (by repeat constructor) (rows_get (by omega) rfl)) ?_ | refine r_load rfl T.cell_L_api_Head rfl (cell_rowg (by repeat constructor) rfl) ?_
      refine hl_nil ?_
      exact qe_done rfl
     apply hb_ex _ rfl rfl rfl
     ·intro w1
      refine g_yes rfl rfl hg1 ?_
      refine r_move rfl rfl ?_
      refine hl_nil ?_
      exact qe_done rfl
     apply hb_ex _ rfl rfl rfl
     ·intro w1
      refine g_yes rfl rfl hg1 ?_
      refine r_move rfl rfl ?_
      refine hl_nil ?_
      exact qe_done rfl
     apply hb_ex _ rfl rfl rfl
     ·intro w1
      refine g_yes rfl rfl hg1 ?_
      refine r_elem (α := Sl Int) [p] 0 rfl T.u_intss T.sz_ints rfl rfl rfl (by repeat constructor) rfl (by simp) (by decide) ?_
      refine hl_nil ?_
      exact qe_done rfl
     apply hb_ex _ rfl rfl rfl
     ·intro w1
      refine g_yes rfl rfl hg1 ?_
      refine r_load (v := .slice p.a p.l.length p.c) rfl T.cell_ints rfl (cell_row (by repeat constructor) (rows_get0 (l := [p]) (i := 0) (by simp) rfl)) ?_
      refine hl_nil ?_
      exact qe_done rfl
     apply hb_ex _ rfl rfl rfl
     ·intro w1
      refine g_yes rfl rfl hg1 ?_
      refine r_elem (α := Int) p.l 0 rfl T.u_ints T.sz_int rfl rfl rfl (by repeat constructor) rfl (by rw [hpl]; simp) (by decide) ?_
      refine hl_nil ?_
      exact qe_done rfl
     apply hb_ex _ rfl rfl rfl
     ·intro w1
      refine g_yes rfl rfl hg1 ?_
      refine r_load (v := int (i : Int)) rfl T.cell_int rfl (cell_row (by repeat constructor) (rows_get0 (by rw [hpl]; simp) (by rw [hpl]; rfl))) ?_
      refine hl_nil ?_
      exact qe_done rfl
     apply hb_ex _ rfl rfl rfl
     ·intro w1
      refine g_yes rfl rfl hg1 ?_
      refine r_indexAddr_own i (0 + i * 4) rfl T.u_L_api_Head T.sz_api_Head rfl rfl rfl (by omega) rfl ?_
      refine hl_nil ?_
      exact qe_done rfl
     apply hb_ex _ rfl rfl rfl
     ·intro w1
      refine g_yes rfl rfl hg1 ?_
      first | refine r_fieldAddr ⟨_, 3, none⟩ rfl rfl T.fa_api_Head_3 rfl ?_ | refine r_fieldAddr _ rfl rfl T.fa_api_Head_3 rfl ?_
      refine hl_nil ?_
      exact qe_done rfl
     apply hb_ex _ rfl rfl rfl
     ·intro w1
      refine g_yes rfl rfl hg1 ?_
      refine r_load (v := .slice (hx.getD i default).2.2.2.a (hx.getD i default).2.2.2.l.length (hx.getD i default).2.2.2.c) rfl T.cell_ints rfl (cell_blk (by repeat constructor) (own_f (α := Hd) (f := 3) hct (show i < hx.length by omega) (by rw [Nat.zero_add]; rfl) rfl)) ?_
      refine hl_nil ?_
      exact qe_done rfl
     apply hb_ex _ rfl rfl rfl
     ·intro w1
      refine g_yes rfl rfl hg1 ?_
      refine r_move rfl rfl ?_
      refine hl_nil ?_
      exact qe_done rfl
     refine hb_nil ⟨rfl, ?_⟩
     refine g_yes rfl rfl hg1 ?_
     refine hl_pick (F := Hd.row (hx.getD i default)) (Fs := hx.map Hd.row) (by repeat constructor) (List.mem_map.2 ⟨_, getD_mem (by omega), rfl⟩) ?_
     refine hl_call F.kit_Index_cb rfl rfl (kit_Index_meets (hx.getD i default).2.2.2.l (j : Int) hal) (List.Perm.refl _) ⟨(by repeat constructor), trivial⟩ fun z hz => ?_
     refine g_yes rfl rfl hg1 ?_
     refine r_geq rfl rfl rfl ?_
     refine p_f rfl rfl (bf1 hg1) rfl ?_
     refine hl_nil ?_
     exact cut_n _ () trivial ⟨rfl, rfl, rfl, rfl, rfl, rfl, congrArg (fun b => some (Value.bool b)) (by unfold aB; rw [decide_eq_false g9, Bool.false_or, ← hll]; exact decide_eq_decide.2 hz.1), trivial⟩ (List.Sublist.refl _) ⟨(by repeat constructor), (by repeat constructor), (by repeat constructor), (by repeat constructor), (by repeat constructor), trivial⟩
    ·intro hg1; have hg1' := hg1; try simp at hg1'
     have g9 : (j : Int) = (k : Int) := Classical.byContradiction fun e => by rw [decide_eq_false e] at hg1; cases hg1
     apply hb_ex _ rfl rfl rfl
     ·intro w1
      refine g_no rfl rfl rfl rfl rfl hg1 ?_
      refine hl_nil ?_
      exact qe_done rfl
     apply hb_ex _ rfl rfl rfl
     ·intro w1
      refine g_no rfl rfl rfl rfl rfl hg1 ?_
      refine hl_nil ?_
      exact qe_done rfl
     apply hb_ex _ rfl rfl rfl
     ·intro w1
      refine g_no rfl rfl rfl rfl rfl hg1 ?_
      refine hl_nil ?_
      exact qe_done rfl
     apply hb_ex _ rfl rfl rfl
     ·intro w1
      refine g_no rfl rfl rfl rfl rfl hg1 ?_
      refine hl_nil ?_
      exact qe_done rfl
     apply hb_ex _ rfl rfl rfl
     ·intro w1
      refine g_no rfl rfl rfl rfl rfl hg1 ?_
      refine hl_nil ?_
      exact qe_done rfl
     apply hb_ex _ rfl rfl rfl
     ·intro w1
      refine g_no rfl rfl rfl rfl rfl hg1 ?_
      refine hl_nil ?_
      exact qe_done rfl
     apply hb_ex _ rfl rfl rfl
     ·intro w1
      refine g_no rfl rfl rfl rfl rfl hg1 ?_
      refine hl_nil ?_
      exact qe_done rfl
     apply hb_ex _ rfl rfl rfl
     ·intro w1
      refine g_no rfl rfl rfl rfl rfl hg1 ?_
      refine hl_nil ?_
      exact qe_done rfl
     apply hb_ex _ rfl rfl rfl
     ·intro w1
      refine g_no rfl rfl rfl rfl rfl hg1 ?_
      refine hl_nil ?_
      exact qe_done rfl
     apply hb_ex _ rfl rfl rfl
     ·intro w1
      refine g_no rfl rfl rfl rfl rfl hg1 ?_
      refine hl_nil ?_
      exact qe_done rfl
     apply hb_ex _ rfl rfl rfl
     ·intro w1
      refine g_no rfl rfl rfl rfl rfl hg1 ?_
      refine hl_nil ?_
      exact qe_done rfl
     apply hb_ex _ rfl rfl rfl
     ·intro w1
      refine g_no rfl rfl rfl rfl rfl hg1 ?_
      refine hl_nil ?_
      exact qe_done rfl
     refine hb_nil ⟨rfl, ?_⟩
     refine g_no rfl rfl rfl rfl rfl hg1 ?_
     refine g_no rfl rfl rfl rfl rfl hg1 ?_
     refine p_t rfl rfl (bt2 hg1) rfl ?_
     refine hl_nil ?_
     exact cut_n _ () trivial ⟨rfl, rfl, rfl, rfl, rfl, rfl, congrArg (fun b => some (Value.bool b)) (by unfold aB; rw [decide_eq_true g9, Bool.true_or]), trivial⟩ (List.Sublist.refl _) ⟨(by repeat constructor), (by repeat constructor), (by repeat constructor), (by repeat constructor), (by repeat constructor), trivial⟩
   ·refine fun _ _ => ?_
    first | refine c_dec rfl (fun hb3 => ?_) (fun hb3 => ?_) | refine hc_cond rfl (fun hb3 => ?_) (fun hb3 => ?_)
    ·have hb3' := hb3; try simp at hb3'
     rw [if_pos hb3] at huc
     refine hc_region ?_
     refine r_move rfl rfl ?_
     refine r_move rfl rfl ?_
     refine r_buildSlice _ rfl rfl (fun _ => T.bs_ints_1 ..) fun gS => ?_
     refine hl_letgo (rows [(j : Int)]) (List.prefix_refl _) ?_
     refine r_append ((alsoK hs i k j).length + 1) (rows ((alsoK hs i k j) ++ [(j : Int)])) T.el_ints rfl rfl rfl hG (hp' := [(g7, Obj.cells cur T.api_Head (0, 0)), (gA, Obj.cells #[.slice none 0 0, .slice none 0 0] T.api_Trades (0, 0))]) (List.Perm.refl _) (Src.row (news := rows [(j : Int)]) (m := 1) m0 rfl (rows_one _) (by decide)) rfl (rows_append _ _).symm (by unfold maxLen; omega) (by omega) fun A' c' og' hG' => ?_
     refine r_assign rfl rfl ?_
     refine hl_nil ?_
     refine inb_n ?_
     refine then_n ?_
     refine hc_region ?_
     refine r_move rfl rfl ?_
     refine r_add _ rfl rfl rfl rfl (by unfold I64; omega) ?_
     refine r_assign rfl rfl ?_
     refine hl_nil ?_
     exact again _ (j + 1, (A', c'), og') ⟨by show j + 1 ≤ hs.length; omega, by show Grow _ _ _ (alsoK hs i k (j + 1)).length _ (rows (alsoK hs i k (j + 1))) _; rw [huc, List.length_append]; exact hG'⟩ (by show hs.length - (j + 1) < hs.length - j; omega) ⟨rfl, rfl, rfl, rfl, by show some (Value.slice A' ((alsoK hs i k j).length + 1) c') = some (Value.slice A' (alsoK hs i k (j + 1)).length c'); rw [huc, List.length_append]; rfl, rfl, trivial⟩ (List.Sublist.refl _) ⟨(by repeat constructor), (by repeat constructor), (by repeat constructor), (by repeat constructor), (by repeat constructor), trivial⟩
    ·have hb3' := hb3; try simp at hb3'
     rw [if_neg (by rw [hb3]; decide)] at huc
     refine hc_skip ?_
     refine inb_n ?_
     refine then_n ?_
     refine hc_region ?_
     refine r_move rfl rfl ?_
     refine r_add _ rfl rfl rfl rfl (by unfold I64; omega) ?_
     refine r_assign rfl rfl ?_
     refine hl_nil ?_
     exact again _ (j + 1, (na, nc), og) ⟨by show j + 1 ≤ hs.length; omega, by show Grow _ _ _ (alsoK hs i k (j + 1)).length _ (rows (alsoK hs i k (j + 1))) _; rw [huc]; exact hG⟩ (by show hs.length - (j + 1) < hs.length - j; omega) ⟨rfl, rfl, rfl, rfl, by show some (Value.slice na (alsoK hs i k j).length nc) = some (Value.slice na (alsoK hs i k (j + 1)).length nc); rw [huc], rfl, trivial⟩ (List.Sublist.refl _) ⟨(by repeat constructor), (by repeat constructor), (by repeat constructor), (by repeat constructor), (by repeat constructor), trivial⟩
  ·have hb2' := hb2; try simp at hb2'
   obtain rfl : j = hs.length := by omega
   refine hc_exit ?_
   refine then_exit ?_
   refine then_exit ?_
   refine inb_hit ?_
   refine then_n ?_
   refine hc_grown hG ?_
   refine hc_draw 9 mixed (by decide) (by decide) rfl rfl ?_
   apply hb_ex _ rfl rfl rfl
   ·intro w1
    first | refine r_fieldAddr ⟨_, 1, none⟩ rfl rfl T.fa_api_Trades_1 rfl ?_ | refine r_fieldAddr _ rfl rfl T.fa_api_Trades_1 rfl ?_
    refine hl_nil ?_
    exact qe_done rfl
   apply hb_ex _ rfl rfl rfl
   ·intro w1
    first | refine r_load rfl T.cell_L_api_Head rfl (cell_blk (by repeat constructor) rfl) ?_ | refine r_load rfl T.cell_L_api_Head rfl (cell_own (by repeat constructor) rfl) ?_ | refine r_load rfl T.cell_L_api_Head rfl (cell_row (by repeat constructor) (rows_get0 (by omega) rfl)) ?_ | refine r_load rfl T.cell_L_api_Head rfl (cell_row_f (by repeat constructor) (rows_get (by omega) rfl)) ?_ | refine r_load rfl T.cell_L_api_Head rfl (cell_rowg (by repeat constructor) rfl) ?_
    refine hl_nil ?_
    exact qe_done rfl
   apply hb_ex _ rfl rfl rfl
   ·intro w1
    refine r_move rfl rfl ?_
    refine hl_nil ?_
    exact qe_done rfl
   apply hb_ex _ rfl rfl rfl
   ·intro w1
    refine r_move rfl rfl ?_
    refine hl_nil ?_
    exact qe_done rfl
   apply hb_ex _ rfl rfl rfl
   ·intro w1
    refine r_elem (α := Sl Int) [p] 0 rfl T.u_intss T.sz_ints rfl rfl rfl (by repeat constructor) rfl (by simp) (by decide) ?_
    refine hl_nil ?_
    exact qe_done rfl
   apply hb_ex _ rfl rfl rfl
   ·intro w1
    refine r_load (v := .slice p.a p.l.length p.c) rfl T.cell_ints rfl (cell_row (by repeat constructor) (rows_get0 (l := [p]) (i := 0) (by simp) rfl)) ?_
    refine hl_nil ?_
    exact qe_done rfl
   apply hb_ex _ rfl rfl rfl
   ·intro w1
    refine r_elem (α := Int) p.l 0 rfl T.u_ints T.sz_int rfl rfl rfl (by repeat constructor) rfl (by rw [hpl]; simp) (by decide) ?_
    refine hl_nil ?_
    exact qe_done rfl
   apply hb_ex _ rfl rfl rfl
   ·intro w1
    refine r_load (v := int (i : Int)) rfl T.cell_int rfl (cell_row (by repeat constructor) (rows_get0 (by rw [hpl]; simp) (by rw [hpl]; rfl))) ?_
    refine hl_nil ?_
    exact qe_done rfl
   apply hb_ex _ rfl rfl rfl
   ·intro w1
    refine r_move rfl rfl ?_
    refine hl_nil ?_
    exact qe_done rfl
   refine hb_nil ⟨rfl, ?_⟩
   refine r_indexAddr_own i (0 + i * 4) rfl T.u_L_api_Head T.sz_api_Head rfl rfl rfl (by omega) rfl ?_
   first | refine r_fieldAddr ⟨_, 3, none⟩ rfl rfl T.fa_api_Head_3 rfl ?_ | refine r_fieldAddr _ rfl rfl T.fa_api_Head_3 rfl ?_
   refine r_store rfl rfl (.refl _) T.sz_ints (own_f (α := Hd) (f := 3) hct (show i < hx.length by omega) (by rw [Nat.zero_add]; rfl) rfl) (by rfl) ?_
   refine hl_nil ?_
   refine inb_n ?_
   refine then_n ?_
   refine hc_region ?_
   refine r_move rfl rfl ?_
   refine r_add _ rfl rfl rfl rfl (by unfold I64; omega) ?_
   refine r_assign rfl rfl ?_
   refine hl_nil ?_
   refine hq_facts (Fs := (hx.set i ((hx.getD i default).1, (hx.getD i default).2.1, (hx.getD i default).2.2.1, (⟨na, nc, (alsoK hs i k hs.length)⟩ : Sl Int))).map Hd.row) (innerF_set (by repeat constructor) (by repeat constructor)) ?_
   exact again _ (1, hx.set i ((hx.getD i default).1, (hx.getD i default).2.1, (hx.getD i default).2.2.1, (⟨na, nc, (alsoK hs i k hs.length)⟩ : Sl Int)), (cur.setIfInBounds (0 + i * 4 + 3) (.slice na (alsoK hs i k hs.length).length nc))) ⟨Nat.le_refl _, fun h => absurd h (by show ¬ (1 : Nat) = 0; decide), fun _ => by show (hx.set i _).map Hd.p = _; rw [List.map_set, hpx]; congr 1; show (_, _, _, _) = addP hs i k; unfold addP; rw [show (hx.getD i default).1 = (hs.getD i default).1 from congrArg (fun q : PH => q.1) hpa, show (hx.getD i default).2.1 = (hs.getD i default).2.1 from congrArg (fun q : PH => q.2.1) hpa, show (hx.getD i default).2.2.1 = (hs.getD i default).2.2.1 from congrArg (fun q : PH => q.2.2.1) hpa], by show (hx.set i _).length = hs.length; rw [List.length_set]; exact hxl, by show (Array.setIfInBounds _ _ _).size = _; rw [Array.size_setIfInBounds]; exact hcs, by show (Array.setIfInBounds cur _ _).toList.take _ = _; rw [Nat.zero_add]; exact take_setf (α := Hd) (f := 3) (by decide) (by omega) rfl hct⟩ (by show 1 - 1 < 1 - 0; omega) ⟨rfl, rfl, rfl, rfl, trivial⟩ (List.Sublist.refl _) ⟨(by repeat constructor), (by repeat constructor), (by repeat constructor), (by repeat constructor), (by repeat constructor), trivial⟩
 ·have hb1' := hb1; try simp at hb1'
  obtain rfl : r = 1 := by omega
  have hA1 := hp1 rfl
  refine hc_exit ?_
  refine then_exit ?_
  refine then_exit ?_
  refine inb_hit ?_
  refine then_n ?_
  refine hc_seq ?_
  refine hc_region ?_
  first | refine r_loadA rfl T.row_api_Trades T.sz_api_Trades rfl (by repeat constructor) (by rfl) ?_ | refine r_loadB rfl T.row_api_Trades T.sz_api_Trades rfl (by repeat constructor) (by rfl) ?_ | refine r_loadS rfl T.row_api_Trades T.sz_api_Trades rfl rfl (cells_row (by repeat constructor) (rows_all (by omega))) ?_
  refine r_storeS (cs := #[.slice a3 cs.length c3, .slice (some ⟨g7, 0, none⟩) hs2.length c7]) rfl rfl (.swap _ _ _) T.sz_api_Trades (by rfl) (by rfl) ?_
  refine hl_nil ?_
  refine then_n ?_
  refine hc_ret ?_
  have hGx : Grow T.api_Head 4 (some ⟨g7, 0, none⟩) hx.length c7 (rows hx) [(g7, Obj.cells cur T.api_Head (0, 0))] := ⟨by rw [rows_len]; rfl, .inr ⟨g7, _, rfl, rfl, by omega, hcm, hcs, hct⟩⟩
  refine hq_perm (hp' := [(g7, Obj.cells cur T.api_Head (0, 0))] ++ [(gA, _)]) (.swap _ _ _) ?_
  refine hq_grown hGx ?_
  refine hq_rowsF (A := some ⟨g7, 0, none⟩) (ps := hx) (f := Hd.row) (by repeat constructor) (by repeat constructor) ?_
  refine ret_row (hx, (a3, c3), (some ⟨g7, 0, none⟩, c7)) rfl rfl T.row_api_Trades T.sz_api_Trades rfl m0 (by show Value.agg #[.slice a3 cs.length c3, .slice (some ⟨g7, 0, none⟩) hx.length c7] = _; rw [hxl, ← hl2]) rfl ⟨hA1, hDa.le, by show hx.length ≤ c7; omega⟩ (List.nil_sublist _) ⟨(by repeat constructor), (by repeat constructor), trivial⟩

end Go.Proofs.Ytlpgheniajdkfaa
