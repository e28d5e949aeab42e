/- Trades as they lie, in rows of them; equal trades; short ones; the lists of trades that statements try. -/
import Derived.Test.YtlpgheniajdkfaaGreatPm5
namespace Go.Proofs.YtlpgheniajdkfaaGreat
open Go Go.W
set_option linter.unusedVariables false
set_option linter.unusedSimpArgs false
set_option maxRecDepth 20000
attribute [local irreducible] HL HC HQ HB Row Rows2 Blk Facts

abbrev Td := Sl Cl × Sl Hd
instance : El Td where
  default := (⟨none, 0, []⟩, ⟨none, 0, []⟩)
  cells m := [.slice m.1.a m.1.l.length m.1.c, .slice m.2.a m.2.l.length m.2.c]
  sz := 2
  len _ := rfl
  one a u h := by simp at h; rcases h with h | h <;> subst h <;> rfl
/-- What trades lean on. -/
abbrev Td.row (d : Td) : Fact := Facts [Row d.1.a (rows d.1.l), RowsF d.2.a d.2.l Hd.row]
structure TdOK (d : Td) : Prop where
  a : d.1.l.length ≤ d.1.c
  b : d.2.l.length ≤ d.2.c
  c : d.1.l.length ≤ 20
  h : d.2.l.length ≤ 20
  ha : ∀ h ∈ d.2.l, h.2.2.2.l.length ≤ 1000000
  wc : ∀ x ∈ d.1.l, x.1.length ≤ 1000
  wh : ∀ h ∈ d.2.l, h.1.length ≤ 1000
theorem wc_ok {cs : List Cl} {hs : List Hd} (hok : TrOK (trOf cs hs)) : ∀ x ∈ cs, x.1.length ≤ 1000 := by
  intro x hx
  obtain ⟨i, hi, rfl⟩ := List.getElem_of_mem hx
  have h1 := word_12 (hok.c i hi).w
  rw [show (trOf cs hs).cs.getD i default = cs[i] from getD_at hi] at h1
  omega
theorem wh_ok {cs : List Cl} {hs : List Hd} (hok : TrOK (trOf cs hs)) : ∀ h ∈ hs, h.1.length ≤ 1000 := by
  intro x hx
  obtain ⟨i, hi, rfl⟩ := List.getElem_of_mem hx
  have h1 := word_12 (head_word hok hi)
  rw [getD_at hi] at h1
  omega
theorem wh_same {hs hs2 : List Hd} (hp : hs2.map Hd.p = hs.map Hd.p) (ha : ∀ h ∈ hs, h.1.length ≤ 1000) : ∀ h ∈ hs2, h.1.length ≤ 1000 := by
  intro h hh
  have h1 : h.p ∈ hs.map Hd.p := by rw [← hp]; exact List.mem_map_of_mem hh
  obtain ⟨x, hx, e⟩ := List.mem_map.1 h1
  have e2 : x.1 = h.1 := congrArg (fun q : PH => q.1) e
  rw [← e2]
  exact ha x hx
theorem tr_same {cs : List Cl} {hs hs2 : List Hd} (hp : hs2.map Hd.p = hs.map Hd.p) : trOf cs hs2 = trOf cs hs := congrArg (Tr.mk cs) hp
theorem ha_same {hs hs2 : List Hd} (hp : hs2.map Hd.p = hs.map Hd.p) (ha : ∀ h ∈ hs, h.2.2.2.l.length ≤ 1000000) : ∀ h ∈ hs2, h.2.2.2.l.length ≤ 1000000 := by
  intro h hh
  have h1 : h.p ∈ hs.map Hd.p := by rw [← hp]; exact List.mem_map_of_mem hh
  obtain ⟨x, hx, e⟩ := List.mem_map.1 h1
  have e2 : x.2.2.2.l = h.2.2.2.l := congrArg (fun q : PH => q.2.2.2) e
  rw [← e2]
  exact ha x hx

set_option maxHeartbeats 2000000 in
theorem kit_DupTrades_any {A B : Option Addr} {ca cb : Nat} (cs : List Cl) (hs : List Hd) (h6 : cs.length ≤ 1000) (h6h : hs.length ≤ 1000) (hca : cs.length ≤ ca) (hcb : hs.length ≤ cb)  (ha : ∀ h ∈ hs, h.2.2.2.l.length ≤ 1000000) : Meets Tryz.prog F.kit_DupTrades [.agg #[.slice A cs.length ca, .slice B hs.length cb]] { LI := [Row A (rows cs), RowsF B hs Hd.row], inv := fun x : OutD => DupOK cs hs x, val := fun x => .agg #[.slice x.1.1.1 cs.length x.1.1.2, .slice x.2.2.1.1 x.2.1.length x.2.2.1.2], hpO := fun x => x.2.2.2 ++ x.1.2, LO := fun x => [innersF x.2.1 Hd.row] } := by
 refine meets_intro F.kit_DupTrades_f rfl (Nat.le_of_ble_eq_true rfl) fun w0 => ?_
 refine hc_seq (hc_region ?_)
 refine r_box rfl rfl fun gB => ?_
 refine r_alloc rfl (fun _ => T.al_api_Trades _) fun gR => ?_
 refine hl_nil (then_n (hc_seq ?_))
 refine hc_outerF (ps := hs) (A := B) (f := Hd.row) (by repeat constructor) ?_
 refine hc_drawW ([]) (_) (.refl _) 9 [] mixed (by decide) (by decide) (by decide) rfl rfl rfl ?_
 refine hb_vs ⟨Nat, fun _ => True, fun g => .slice (some ⟨g, 0, none⟩) 0 0, fun _ => []⟩ rfl rfl rfl ?_ ?_
 ·intro w1
  refine r_buildSlice [] rfl rfl (fun _ => T.bs_L_api_Class_0 ..) fun gS => ?_
  refine hl_nil ?_
  refine hq_letgo (rows ([] : List Cl)) ⟨[], rfl⟩ ?_
  exact qv_done gS trivial rfl trivial
 apply hb_ex _ rfl rfl rfl
 ·intro w1
  refine r_fieldAddr ⟨_, 0, none⟩ rfl rfl T.fa_api_Trades_0 rfl ?_
  refine hl_nil ?_
  exact qe_done rfl
 apply hb_ex _ rfl rfl rfl
 ·intro w1
  refine r_load rfl T.cell_L_api_Class rfl (cell_blk (by repeat constructor) rfl) ?_
  refine hl_nil ?_
  exact qe_done rfl
 refine hb_ad ⟨OutC × Hp, fun x => GrowE T.api_Class 2 x.1.1 cs.length x.1.2 (rows cs) x.2, fun x => .slice x.1.1 cs.length x.1.2, fun _ => [], fun x => x.2⟩ rfl rfl rfl ?_ ?_
 ·intro g0 _; intro w1
  refine r_append_new T.el_L_api_Class rfl rfl rfl (Src.row (news := rows cs) (m := cs.length) (by repeat constructor) (rows_len _) (rows_one _) (by decide)) (by unfold maxLen; omega) (by omega) fun A' c' og' hG' => ?_
  refine hl_nil ?_
  exact qw_done ((A', c'), og') hG' (fun _ => rfl) (by rw [List.append_nil]; exact List.Sublist.refl _) trivial
 refine hb_vs ⟨Nat, fun _ => True, fun g => .slice (some ⟨g, 0, none⟩) 0 0, fun _ => []⟩ rfl rfl rfl ?_ ?_
 ·intro w1
  refine r_buildSlice [] rfl rfl (fun _ => T.bs_L_api_Head_0 ..) fun gS => ?_
  refine hl_nil ?_
  refine hq_letgo (rows ([] : List Hd)) ⟨[], rfl⟩ ?_
  exact qv_done gS trivial rfl trivial
 apply hb_ex _ rfl rfl rfl
 ·intro w1
  refine r_fieldAddr ⟨_, 1, none⟩ rfl rfl T.fa_api_Trades_1 rfl ?_
  refine hl_nil ?_
  exact qe_done rfl
 apply hb_ex _ rfl rfl rfl
 ·intro w1
  refine r_load rfl T.cell_L_api_Head rfl (cell_blk (by repeat constructor) rfl) ?_
  refine hl_nil ?_
  exact qe_done rfl
 refine hb_ad ⟨OutC × Hp, fun x => GrowE T.api_Head 4 x.1.1 hs.length x.1.2 (rows hs) x.2, fun x => .slice x.1.1 hs.length x.1.2, fun _ => [], fun x => x.2⟩ rfl rfl rfl ?_ ?_
 ·intro g4 _; intro w1
  refine r_append_new T.el_L_api_Head rfl rfl rfl (Src.row (news := rows hs) (m := hs.length) (by repeat constructor) (rows_len _) (rows_one _) (by decide)) (by unfold maxLen; omega) (by omega) fun A' c' og' hG' => ?_
  refine hl_nil ?_
  exact qw_done ((A', c'), og') hG' (fun _ => rfl) (by rw [List.append_nil]; exact List.Sublist.refl _) trivial
 apply hb_ex _ rfl rfl rfl
 ·intro w1
  refine r_fieldAddr ⟨_, 0, none⟩ rfl rfl T.fa_api_Trades_0 rfl ?_
  refine hl_nil ?_
  exact qe_done rfl
 refine hb_nil ⟨rfl, ?_⟩
 intro g0 _ x3 hx3 g4 _ x7 hx7
 obtain ⟨⟨a3, c3⟩, o3⟩ := x3
 obtain ⟨⟨a7, c7⟩, o7⟩ := x7
 change GrowE T.api_Class 2 a3 cs.length c3 (rows cs) o3 at hx3
 change GrowE T.api_Head 4 a7 hs.length c7 (rows hs) o7 at hx7
 refine hl_perm (show List.Perm ((o7 ++ (o3 ++ [])) ++ [(gR, Obj.cells #[.slice none 0 0, .slice none 0 0] T.api_Trades (0, 0)), (gB, Obj.cells #[.slice A cs.length ca, .slice B hs.length cb] T.api_Trades (0, 0))]) ((gB, Obj.cells #[.slice A cs.length ca, .slice B hs.length cb] T.api_Trades (0, 0)) :: (gR, Obj.cells #[.slice none 0 0, .slice none 0 0] T.api_Trades (0, 0)) :: (o7 ++ o3)) from (perm_of fun p => by simp only [List.countP_append, List.countP_cons, List.countP_nil]; omega)) ?_
 refine r_store rfl rfl (.refl _) T.sz_L_api_Class (by rfl) (by rfl) ?_
 refine r_fieldAddr ⟨_, 1, none⟩ rfl rfl T.fa_api_Trades_1 rfl ?_
 refine r_store rfl rfl (.refl _) T.sz_L_api_Head (by rfl) (by rfl) ?_
 refine hl_nil (then_n (hc_seq (hc_seq ?_)))
 refine hc_innersF (ps := hs) (A := B) (f := Hd.row) (by repeat constructor) ?_
 refine hc_region (r_assign rfl rfl (hl_nil (then_n (hc_block ?_))))
 refine hc_loop (β := Nat × List Hd × Hp) ⟨fun x => x.1 ≤ hs.length ∧ x.2.1.map Hd.p = hs.map Hd.p ∧ GrowE T.api_Head 4 a7 x.2.1.length c7 (rows x.2.1) x.2.2, fun x => [(1, .pointer (some ⟨gB, 0, none⟩)), (2, .pointer (some ⟨gR, 0, none⟩)), (3, int x.1)], fun x => (gB, Obj.cells #[.slice a3 cs.length c3, .slice a7 hs.length c7] T.api_Trades (0, 0)) :: (gR, Obj.cells #[.slice none 0 0, .slice none 0 0] T.api_Trades (0, 0)) :: (x.2.2 ++ o3), fun x => [innersF x.2.1 Hd.row]⟩ (fun x => hs.length - x.1) (0, hs, o7) ⟨Nat.zero_le _, rfl, hx7⟩ ⟨rfl, rfl, rfl, trivial⟩ (List.Sublist.refl _) ⟨(by repeat constructor), trivial⟩ fun x hx => ?_
 clear hx7
 obtain ⟨k, hs2, og⟩ := x
 obtain ⟨hk, hp2, hG⟩ := hx
 simp only at hk hp2 hG
 have hl2 := p_len hp2
 refine hc_seq (hc_seq (hc_region (r_move rfl rfl ?_)))
 refine r_fieldAddr ⟨_, 1, none⟩ rfl rfl T.fa_api_Trades_1 rfl ?_
 refine r_load rfl T.cell_L_api_Head rfl (cell_own (by repeat constructor) rfl) ?_
 refine r_len_sl rfl T.u_L_api_Head rfl ?_
 refine r_lss rfl rfl rfl (hl_nil (then_n ?_))
 refine c_dec rfl (fun hb1 => ?_) (fun hb1 => ?_)
 ·have hb1' := hb1; try simp at hb1'
  have hk2 : k < hs.length := by omega
  have hk3 : k < hs2.length := by omega
  have hpa := p_at hp2 hk3
  have hal : (hs2.getD k default).2.2.2.l.length ≤ 1000000 := by
    have h1 := ha _ (getD_mem hk2)
    rw [show (hs2.getD k default).2.2.2.l = (hs.getD k default).2.2.2.l from congrArg (fun q : PH => q.2.2.2) hpa]
    exact h1
  obtain ⟨g7, cur, rfl, rfl, hcl, hcm, hcs, hct⟩ := hG.blk (by omega)
  clear hG
  refine hc_skip (then_n (hc_seq (hc_block ?_)))
  refine hc_drawW (o3) ([(gB, Obj.cells #[.slice a3 cs.length c3, .slice (some ⟨g7, 0, none⟩) hs.length c7] T.api_Trades (0, 0)), (gR, Obj.cells #[.slice none 0 0, .slice none 0 0] T.api_Trades (0, 0)), (g7, Obj.cells cur T.api_Head (0, 0))]) (show List.Perm ((gB, Obj.cells #[.slice a3 cs.length c3, .slice (some ⟨g7, 0, none⟩) hs.length c7] T.api_Trades (0, 0)) :: (gR, Obj.cells #[.slice none 0 0, .slice none 0 0] T.api_Trades (0, 0)) :: ([(g7, Obj.cells cur T.api_Head (0, 0))] ++ o3)) (o3 ++ [(gB, Obj.cells #[.slice a3 cs.length c3, .slice (some ⟨g7, 0, none⟩) hs.length c7] T.api_Trades (0, 0)), (gR, Obj.cells #[.slice none 0 0, .slice none 0 0] T.api_Trades (0, 0)), (g7, Obj.cells cur T.api_Head (0, 0))]) from (perm_of fun p => by simp only [List.countP_append, List.countP_cons, List.countP_nil]; omega)) 10 [] mixed (by decide) (by decide) (by decide) rfl rfl rfl ?_
  apply hb_ex _ rfl rfl rfl
  ·intro w1
   refine r_fieldAddr ⟨_, 1, none⟩ rfl rfl T.fa_api_Trades_1 rfl ?_
   refine hl_nil ?_
   exact qe_done rfl
  apply hb_ex _ rfl rfl rfl
  ·intro w1
   refine r_load rfl T.cell_L_api_Head rfl (cell_blk (by repeat constructor) rfl) ?_
   refine hl_nil ?_
   exact qe_done rfl
  apply hb_ex _ rfl rfl rfl
  ·intro w1
   refine r_move rfl rfl (hl_nil ?_)
   exact qe_done rfl
  apply hb_ex _ rfl rfl rfl
  ·intro w1
   refine r_fieldAddr ⟨_, 1, none⟩ rfl rfl T.fa_api_Trades_1 rfl ?_
   refine hl_nil ?_
   exact qe_done rfl
  apply hb_ex _ rfl rfl rfl
  ·intro w1
   refine r_load rfl T.cell_L_api_Head rfl (cell_blk (by repeat constructor) rfl) ?_
   refine hl_nil ?_
   exact qe_done rfl
  apply hb_ex _ rfl rfl rfl
  ·intro w1
   refine r_move rfl rfl (hl_nil ?_)
   exact qe_done rfl
  apply hb_ex _ rfl rfl rfl
  ·intro w1
   refine r_indexAddr_own k (0 + k * 4) rfl T.u_L_api_Head T.sz_api_Head rfl rfl rfl hk2 rfl ?_
   refine hl_nil ?_
   exact qe_done rfl
  apply hb_ex _ rfl rfl rfl
  ·intro w1
   refine r_fieldAddr _ rfl rfl T.fa_api_Head_3 rfl (hl_nil ?_)
   exact qe_done rfl
  apply hb_ex _ rfl rfl rfl
  ·intro w1
   refine r_load (v := .slice (hs2.getD k default).2.2.2.a (hs2.getD k default).2.2.2.l.length (hs2.getD k default).2.2.2.c) rfl T.cell_ints rfl (cell_blk (by repeat constructor) (own_f (α := Hd) (f := 3) hct hk3 (by rw [Nat.zero_add]; rfl) rfl)) ?_
   refine hl_nil ?_
   exact qe_done rfl
  refine hb_vs ⟨OutC, fun z => (hs2.getD k default).2.2.2.l.length ≤ z.2, fun z => .slice z.1 (hs2.getD k default).2.2.2.l.length z.2, fun z => [Row z.1 (rows (hs2.getD k default).2.2.2.l)]⟩ rfl rfl rfl ?_ ?_
  ·intro w1
   refine hl_pick (F := Hd.row (hs2.getD k default)) (Fs := hs2.map Hd.row) (by repeat constructor) (List.mem_map.2 ⟨_, getD_mem hk3, rfl⟩) ?_
   refine hl_call F.kit_DupInts_cb rfl rfl (kit_DupInts_meets (hs2.getD k default).2.2.2.l hal) (List.Perm.refl _) ⟨(by repeat constructor), trivial⟩ fun z hz => ?_
   refine hl_nil ?_
   exact qv_done z hz rfl ⟨m0, trivial⟩
  refine hb_nil ⟨rfl, ?_⟩
  intro z hz
  refine r_indexAddr_own k (0 + k * 4) rfl T.u_L_api_Head T.sz_api_Head rfl rfl rfl hk2 rfl ?_
  refine r_fieldAddr _ rfl rfl T.fa_api_Head_3 rfl ?_
  refine r_store rfl rfl (show List.Perm (o3 ++ [(gB, Obj.cells #[.slice a3 cs.length c3, .slice (some ⟨g7, 0, none⟩) hs.length c7] T.api_Trades (0, 0)), (gR, Obj.cells #[.slice none 0 0, .slice none 0 0] T.api_Trades (0, 0)), (g7, Obj.cells cur T.api_Head (0, 0))]) ((g7, Obj.cells cur T.api_Head (0, 0)) :: (gB, Obj.cells #[.slice a3 cs.length c3, .slice (some ⟨g7, 0, none⟩) hs.length c7] T.api_Trades (0, 0)) :: (gR, Obj.cells #[.slice none 0 0, .slice none 0 0] T.api_Trades (0, 0)) :: o3) from (perm_of fun p => by simp only [List.countP_append, List.countP_cons, List.countP_nil]; omega)) T.sz_ints (own_f (α := Hd) (f := 3) hct hk3 (by rw [Nat.zero_add]; rfl) rfl) (by rfl) ?_
  refine hl_nil (inb_n (then_n (hc_region (r_move rfl rfl ?_))))
  refine r_add _ rfl rfl rfl rfl (by unfold I64; omega) ?_
  refine r_assign rfl rfl (hl_nil ?_)
  refine hq_facts (Fs := (hs2.set k ((hs2.getD k default).1, (hs2.getD k default).2.1, (hs2.getD k default).2.2.1, (⟨z.1, z.2, (hs2.getD k default).2.2.2.l⟩ : Sl Int))).map Hd.row) (innerF_set (by repeat constructor) (by repeat constructor)) ?_
  refine hq_perm (show List.Perm ((g7, Obj.cells (cur.setIfInBounds (0 + k * 4 + 3) (.slice z.1 (hs2.getD k default).2.2.2.l.length z.2)) T.api_Head (0, 0)) :: (gB, Obj.cells #[.slice a3 cs.length c3, .slice (some ⟨g7, 0, none⟩) hs.length c7] T.api_Trades (0, 0)) :: (gR, Obj.cells #[.slice none 0 0, .slice none 0 0] T.api_Trades (0, 0)) :: o3) ((gB, Obj.cells #[.slice a3 cs.length c3, .slice (some ⟨g7, 0, none⟩) hs.length c7] T.api_Trades (0, 0)) :: (gR, Obj.cells #[.slice none 0 0, .slice none 0 0] T.api_Trades (0, 0)) :: ([(g7, Obj.cells (cur.setIfInBounds (0 + k * 4 + 3) (.slice z.1 (hs2.getD k default).2.2.2.l.length z.2)) T.api_Head (0, 0))] ++ o3)) from (perm_of fun p => by simp only [List.countP_append, List.countP_cons, List.countP_nil]; omega)) ?_
  exact again _ (k + 1, hs2.set k ((hs2.getD k default).1, (hs2.getD k default).2.1, (hs2.getD k default).2.2.1, (⟨z.1, z.2, (hs2.getD k default).2.2.2.l⟩ : Sl Int)), [(g7, Obj.cells (cur.setIfInBounds (0 + k * 4 + 3) (.slice z.1 (hs2.getD k default).2.2.2.l.length z.2)) T.api_Head (0, 0))]) ⟨by show k + 1 ≤ hs.length; omega, p_set hp2 hk3 rfl, .inl ⟨by rw [rows_len]; rfl, .inr ⟨g7, _, rfl, rfl, by show (hs2.set k _).length ≤ c7; rw [List.length_set]; exact hcl, hcm, by rw [Array.size_setIfInBounds]; exact hcs, by rw [Nat.zero_add]; exact take_setf (α := Hd) (f := 3) (by decide) hk3 rfl hct⟩⟩⟩ (by show hs.length - (k + 1) < hs.length - k; omega) ⟨rfl, rfl, rfl, trivial⟩ (List.Sublist.refl _) ⟨(by repeat constructor), trivial⟩
 ·have hb1' := hb1; try simp at hb1'
  obtain rfl : k = hs.length := by omega
  refine hc_exit (then_exit (then_exit (inb_hit (then_n (hc_seq (hc_region ?_))))))
  refine r_loadA rfl T.row_api_Trades T.sz_api_Trades rfl (by repeat constructor) (by rfl) ?_
  refine r_storeS (cs := #[.slice a3 cs.length c3, .slice a7 hs.length c7]) rfl rfl (.swap _ _ _) T.sz_api_Trades (by rfl) (by rfl) ?_
  refine hl_nil (then_n (hc_ret ?_))
  refine ret_row (((a3, c3), o3), hs2, ((a7, c7), og)) rfl rfl T.row_api_Trades T.sz_api_Trades rfl m0 (by show Value.agg #[.slice a3 cs.length c3, .slice a7 hs2.length c7] = _; rw [hl2]) rfl ⟨hx3, hG, hp2⟩ (List.Sublist.cons _ (List.Sublist.cons _ (List.Sublist.refl _))) ⟨m0, trivial⟩

set_option maxHeartbeats 1000000 in
theorem kit_EqTrades_meets {A B A2 B2 : Option Addr} {ca cb ca2 cb2 : Nat} (cs : List Cl) (hs hs2 : List Hd) (hp : hs2.map Hd.p = hs.map Hd.p) (hc : cs.length ≤ 1000) (hh : hs.length ≤ 1000) (ha : ∀ h ∈ hs, h.2.2.2.l.length ≤ 1000000) : Meets Tryz.prog F.kit_EqTrades [.agg #[.slice A cs.length ca, .slice B hs.length cb], .agg #[.slice A2 cs.length ca2, .slice B2 hs2.length cb2]] { LI := [Row A (rows cs), RowsF B hs Hd.row, Row A2 (rows cs), RowsF B2 hs2 Hd.row], val := fun _ : Unit => .bool true } := by
 refine meets_intro F.kit_EqTrades_f rfl (Nat.le_of_ble_eq_true rfl) fun w0 => ?_
 refine hc_seq (hc_region ?_)
 refine r_box rfl rfl fun gB => ?_
 refine r_box rfl rfl fun gC => ?_
 refine r_assign rfl rfl (hl_nil (then_n (hc_seq (hc_seq ?_))))
 have hl := p_len hp
 refine hc_letgoB (hc_letgoB (hc_region ?_))
 refine r_fieldAddr ⟨_, 0, none⟩ rfl rfl T.fa_api_Trades_0 rfl ?_
 refine r_load rfl T.cell_L_api_Class rfl (cell_blk (by repeat constructor) rfl) ?_
 refine r_len_sl rfl T.u_L_api_Class rfl ?_
 refine r_fieldAddr ⟨_, 0, none⟩ rfl rfl T.fa_api_Trades_0 rfl ?_
 refine r_load rfl T.cell_L_api_Class rfl (cell_blk (by repeat constructor) rfl) ?_
 refine r_len_sl rfl T.u_L_api_Class rfl ?_
 refine r_neq rfl rfl rfl (r_move rfl rfl ?_)
 refine g_split rfl rfl ?_ ?_
 ·intro hg1; have hg1' := hg1; try simp at hg1'
  refine g_yes rfl rfl hg1 ?_
  refine r_fieldAddr ⟨_, 1, none⟩ rfl rfl T.fa_api_Trades_1 rfl ?_
  refine g_yes rfl rfl hg1 ?_
  refine r_load rfl T.cell_L_api_Head rfl (cell_blk (by repeat constructor) rfl) ?_
  refine g_yes rfl rfl hg1 ?_
  refine r_len_sl rfl T.u_L_api_Head rfl ?_
  refine g_yes rfl rfl hg1 ?_
  refine r_fieldAddr ⟨_, 1, none⟩ rfl rfl T.fa_api_Trades_1 rfl ?_
  refine g_yes rfl rfl hg1 ?_
  refine r_load rfl T.cell_L_api_Head rfl (cell_blk (by repeat constructor) rfl) ?_
  refine g_yes rfl rfl hg1 ?_
  refine r_len_sl rfl T.u_L_api_Head rfl ?_
  refine g_yes rfl rfl hg1 (r_neq rfl rfl rfl ?_)
  refine p_f rfl rfl (bf1 hg1) rfl ?_
  refine hl_nil (then_n ?_)
  refine c_dec rfl (fun hb1 => ?_) (fun hb1 => ?_)
  ·exact absurd (by omega) hb1
  ·have hb1' := hb1; try simp at hb1'
   refine hc_skip (then_n (hc_seq (hc_seq (hc_region (r_assign rfl rfl (hl_nil (then_n (hc_block ?_))))))))
   refine hc_loop (β := Nat) ⟨fun k => k ≤ cs.length, fun k => [(2, .pointer (some ⟨gB, 0, none⟩)), (3, .pointer (some ⟨gC, 0, none⟩)), (5, int k)], fun _ => [], fun _ => [Blk gC (.cells #[.slice A2 cs.length ca2, .slice B2 hs2.length cb2] T.api_Trades (0, 0)), Blk gB (.cells #[.slice A cs.length ca, .slice B hs.length cb] T.api_Trades (0, 0)), Row A (rows cs), RowsF B hs Hd.row, Row A2 (rows cs), RowsF B2 hs2 Hd.row]⟩ (fun k => cs.length - k) 0 (Nat.zero_le _) ⟨rfl, rfl, rfl, trivial⟩ (List.nil_sublist _) ⟨(by repeat constructor), (by repeat constructor), (by repeat constructor), (by repeat constructor), (by repeat constructor), (by repeat constructor), trivial⟩ fun k hk => ?_
   simp only at hk
   refine hc_seq (hc_seq (hc_region (r_move rfl rfl ?_)))
   refine r_fieldAddr ⟨_, 0, none⟩ rfl rfl T.fa_api_Trades_0 rfl ?_
   refine r_load rfl T.cell_L_api_Class rfl (cell_blk (by repeat constructor) rfl) ?_
   refine r_len_sl rfl T.u_L_api_Class rfl ?_
   refine r_lss rfl rfl rfl (hl_nil (then_n ?_))
   refine c_dec rfl (fun hb2 => ?_) (fun hb2 => ?_)
   ·have hb2' := hb2; try simp at hb2'
    have hk2 : k < cs.length := by omega
    refine hc_skip (then_n (hc_seq (hc_block (hc_seq ?_))))
    refine hc_draw 10 mixed (by decide) (by decide) rfl rfl ?_
    apply hb_ex _ rfl rfl rfl
    ·intro w1
     refine r_fieldAddr ⟨_, 0, none⟩ rfl rfl T.fa_api_Trades_0 rfl ?_
     refine hl_nil ?_
     exact qe_done rfl
    apply hb_ex _ rfl rfl rfl
    ·intro w1
     refine r_load rfl T.cell_L_api_Class rfl (cell_blk (by repeat constructor) rfl) ?_
     refine hl_nil ?_
     exact qe_done rfl
    apply hb_ex _ rfl rfl rfl
    ·intro w1
     refine r_move rfl rfl (hl_nil ?_)
     exact qe_done rfl
    apply hb_ex _ rfl rfl rfl
    ·intro w1
     refine r_elem (α := Cl) cs k rfl T.u_L_api_Class T.sz_api_Class rfl rfl rfl (by repeat constructor) rfl hk2 (by decide) ?_
     refine hl_nil ?_
     exact qe_done rfl
    apply hb_ex _ rfl rfl rfl
    ·intro w1
     refine r_loadS rfl T.row_api_Class T.sz_api_Class rfl rfl (cells_row (by repeat constructor) (rows_all (by omega))) ?_
     refine hl_nil ?_
     exact qe_done rfl
    apply hb_ex _ rfl rfl rfl
    ·intro w1
     refine r_fieldAddr ⟨_, 0, none⟩ rfl rfl T.fa_api_Trades_0 rfl ?_
     refine hl_nil ?_
     exact qe_done rfl
    apply hb_ex _ rfl rfl rfl
    ·intro w1
     refine r_load rfl T.cell_L_api_Class rfl (cell_blk (by repeat constructor) rfl) ?_
     refine hl_nil ?_
     exact qe_done rfl
    apply hb_ex _ rfl rfl rfl
    ·intro w1
     refine r_move rfl rfl (hl_nil ?_)
     exact qe_done rfl
    apply hb_ex _ rfl rfl rfl
    ·intro w1
     refine r_elem (α := Cl) cs k rfl T.u_L_api_Class T.sz_api_Class rfl rfl rfl (by repeat constructor) rfl hk2 (by decide) ?_
     refine hl_nil ?_
     exact qe_done rfl
    apply hb_ex _ rfl rfl rfl
    ·intro w1
     refine r_loadS rfl T.row_api_Class T.sz_api_Class rfl rfl (cells_row (by repeat constructor) (rows_all (by omega))) ?_
     refine hl_nil ?_
     exact qe_done rfl
    refine hb_nil ⟨rfl, ?_⟩
    refine r_bin _ rfl rfl rfl (fun _ => T.eqg_api_Class ..) (fun _ => T.neq_api_Class ..) ?_
    refine hl_nil (then_n ?_)
    refine c_dec rfl (fun hb3 => ?_) (fun hb3 => ?_)
    ·exact absurd rfl hb3
    ·have hb3' := hb3; try simp at hb3'
     refine hc_skip (inb_n (then_n (hc_region (r_move rfl rfl ?_))))
     refine r_add _ rfl rfl rfl rfl (by unfold I64; omega) ?_
     refine r_assign rfl rfl (hl_nil ?_)
     exact again _ (k + 1) (by show k + 1 ≤ cs.length; omega) (by show cs.length - (k + 1) < cs.length - k; omega) ⟨rfl, rfl, rfl, trivial⟩ (List.nil_sublist _) ⟨(by repeat constructor), (by repeat constructor), (by repeat constructor), (by repeat constructor), (by repeat constructor), (by repeat constructor), trivial⟩
   ·have hb2' := hb2; try simp at hb2'
    refine hc_exit (then_exit (then_exit (inb_hit (then_n (hc_seq (hc_seq (hc_region (r_assign rfl rfl (hl_nil (then_n (hc_block ?_)))))))))))
    refine hc_outerF (ps := hs) (A := B) (f := Hd.row) (by repeat constructor) ?_
    refine hc_outerF (ps := hs2) (A := B2) (f := Hd.row) (by repeat constructor) ?_
    refine hc_loop (β := Nat) ⟨fun k => k ≤ hs.length, fun k => [(2, .pointer (some ⟨gB, 0, none⟩)), (3, .pointer (some ⟨gC, 0, none⟩)), (6, int k)], fun _ => [], fun _ => [Row B2 (rows hs2), Row B (rows hs), Blk gC (.cells #[.slice A2 cs.length ca2, .slice B2 hs2.length cb2] T.api_Trades (0, 0)), Blk gB (.cells #[.slice A cs.length ca, .slice B hs.length cb] T.api_Trades (0, 0)), Row A (rows cs), RowsF B hs Hd.row, Row A2 (rows cs), RowsF B2 hs2 Hd.row]⟩ (fun k => hs.length - k) 0 (Nat.zero_le _) ⟨rfl, rfl, rfl, trivial⟩ (List.nil_sublist _) ⟨(by repeat constructor), (by repeat constructor), (by repeat constructor), (by repeat constructor), (by repeat constructor), (by repeat constructor), (by repeat constructor), (by repeat constructor), trivial⟩ fun k hk => ?_
    simp only at hk
    refine hc_seq (hc_seq (hc_region (r_move rfl rfl ?_)))
    refine r_fieldAddr ⟨_, 1, none⟩ rfl rfl T.fa_api_Trades_1 rfl ?_
    refine r_load rfl T.cell_L_api_Head rfl (cell_blk (by repeat constructor) rfl) ?_
    refine r_len_sl rfl T.u_L_api_Head rfl ?_
    refine r_lss rfl rfl rfl (hl_nil (then_n ?_))
    refine c_dec rfl (fun hb4 => ?_) (fun hb4 => ?_)
    ·have hb4' := hb4; try simp at hb4'
     have hk2 : k < hs.length := by omega
     have hk3 : k < hs2.length := by omega
     have he := p_at hp hk3
     have e1 : (hs.getD k default).1 = (hs2.getD k default).1 := (congrArg (fun q : PH => q.1) he).symm
     have e2 : (hs.getD k default).2.1 = (hs2.getD k default).2.1 := (congrArg (fun q : PH => q.2.1) he).symm
     have e3 : (hs.getD k default).2.2.1 = (hs2.getD k default).2.2.1 := (congrArg (fun q : PH => q.2.2.1) he).symm
     have e4 : (hs.getD k default).2.2.2.l = (hs2.getD k default).2.2.2.l := (congrArg (fun q : PH => q.2.2.2) he).symm
     have hal := ha _ (getD_mem hk2)
     refine hc_skip (then_n (hc_seq (hc_block (hc_seq ?_))))
     refine hc_drawW ([]) ([]) (List.Perm.refl _) 13 [12, 10] mixed (by decide) (by decide) (by decide) rfl rfl rfl ?_
     apply hb_ex _ rfl rfl rfl
     ·intro w1
      refine r_fieldAddr ⟨_, 1, none⟩ rfl rfl T.fa_api_Trades_1 rfl ?_
      refine hl_nil ?_
      exact qe_done rfl
     apply hb_ex _ rfl rfl rfl
     ·intro w1
      refine r_load rfl T.cell_L_api_Head rfl (cell_blk (by repeat constructor) rfl) ?_
      refine hl_nil ?_
      exact qe_done rfl
     apply hb_ex _ rfl rfl rfl
     ·intro w1
      refine r_move rfl rfl (hl_nil ?_)
      exact qe_done rfl
     apply hb_ex _ rfl rfl rfl
     ·intro w1
      refine r_elem (α := Hd) hs k rfl T.u_L_api_Head T.sz_api_Head rfl rfl rfl (by repeat constructor) rfl hk2 (by decide) ?_
      refine hl_nil ?_
      exact qe_done rfl
     apply hb_ex _ rfl rfl rfl
     ·intro w1
      refine r_loadS rfl T.row_api_Head T.sz_api_Head rfl rfl (cells_row (by repeat constructor) (rows_all (by omega))) ?_
      refine hl_nil ?_
      exact qe_done rfl
     apply hb_ex _ rfl rfl rfl
     ·intro w1
      refine r_fieldAddr ⟨_, 1, none⟩ rfl rfl T.fa_api_Trades_1 rfl ?_
      refine hl_nil ?_
      exact qe_done rfl
     apply hb_ex _ rfl rfl rfl
     ·intro w1
      refine r_load rfl T.cell_L_api_Head rfl (cell_blk (by repeat constructor) rfl) ?_
      refine hl_nil ?_
      exact qe_done rfl
     apply hb_ex _ rfl rfl rfl
     ·intro w1
      refine r_move rfl rfl (hl_nil ?_)
      exact qe_done rfl
     apply hb_ex _ rfl rfl rfl
     ·intro w1
      refine r_elem (α := Hd) hs2 k rfl T.u_L_api_Head T.sz_api_Head rfl rfl rfl (by repeat constructor) rfl hk3 (by decide) ?_
      refine hl_nil ?_
      exact qe_done rfl
     apply hb_ex _ rfl rfl rfl
     ·intro w1
      refine r_loadS rfl T.row_api_Head T.sz_api_Head rfl rfl (cells_row (by repeat constructor) (rows_all (by omega))) ?_
      refine hl_nil ?_
      exact qe_done rfl
     refine hb_wr ⟨Nat, fun _ => True, fun g => .pointer (some ⟨g, 0, none⟩), fun _ => [], fun g => [(g, Obj.cells #[str [], int 0, int 0, .slice none 0 0] T.api_Head (0, 0))]⟩ rfl rfl rfl ?_ ?_
     ·intro w1
      refine r_alloc rfl (fun _ => T.al_api_Head _) fun gA => ?_
      refine hl_nil ?_
      exact qw_done gA trivial (fun _ => rfl) (List.Sublist.refl _) trivial
     refine hb_ad ⟨Nat, fun _ => True, fun g => .pointer (some ⟨g, 0, none⟩), fun _ => [], fun g => [(g, Obj.cells #[str [], int 0, int 0, .slice none 0 0] T.api_Head (0, 0))]⟩ rfl rfl rfl ?_ ?_
     ·intro w1
      refine r_alloc rfl (fun _ => T.al_api_Head _) fun gA => ?_
      refine hl_nil ?_
      exact qw_done gA trivial (fun _ => rfl) (List.Sublist.refl _) trivial
     refine hb_stL ⟨Nat, fun _ => True, fun _ => undef, fun _ => [], fun g => [(g, Obj.cells #[str (hs.getD k default).1, int (hs.getD k default).2.1, int (hs.getD k default).2.2.1, .slice (hs.getD k default).2.2.2.a (hs.getD k default).2.2.2.l.length (hs.getD k default).2.2.2.c] T.api_Head (0, 0))]⟩ [(7, 0)] rfl rfl rfl ?_ ?_
     ·intro ρ; intro x7 hx7 hr7 _; intro w1
      refine r_storeS (cs := #[str (hs.getD k default).1, int (hs.getD k default).2.1, int (hs.getD k default).2.2.1, .slice (hs.getD k default).2.2.2.a (hs.getD k default).2.2.2.l.length (hs.getD k default).2.2.2.c]) rfl rfl (.refl _) T.sz_api_Head (by rfl) (by rfl) ?_
      refine hl_nil ?_
      exact ql_done x7 trivial (fun h => by cases h) (fun p hp => by simp at hp; subst hp; exact hr7 rfl) (List.Sublist.refl _) trivial
     refine hb_nil ⟨rfl, ?_⟩
     intro x7 _ x8 _ y7 _ hl7
     obtain rfl : x7 = y7 := ptr_inj (hl7 (7, 0) (by simp) rfl _ rfl)
     refine hl_perm (hp' := [(x8, Obj.cells #[str [], int 0, int 0, .slice none 0 0] T.api_Head (0, 0)), (x7, Obj.cells #[str (hs.getD k default).1, int (hs.getD k default).2.1, int (hs.getD k default).2.2.1, .slice (hs.getD k default).2.2.2.a (hs.getD k default).2.2.2.l.length (hs.getD k default).2.2.2.c] T.api_Head (0, 0))]) (show List.Perm (([(x7, Obj.cells #[str (hs.getD k default).1, int (hs.getD k default).2.1, int (hs.getD k default).2.2.1, .slice (hs.getD k default).2.2.2.a (hs.getD k default).2.2.2.l.length (hs.getD k default).2.2.2.c] T.api_Head (0, 0))] ++ ([(x8, Obj.cells #[str [], int 0, int 0, .slice none 0 0] T.api_Head (0, 0))] ++ [])) ++ []) ([(x8, Obj.cells #[str [], int 0, int 0, .slice none 0 0] T.api_Head (0, 0)), (x7, Obj.cells #[str (hs.getD k default).1, int (hs.getD k default).2.1, int (hs.getD k default).2.2.1, .slice (hs.getD k default).2.2.2.a (hs.getD k default).2.2.2.l.length (hs.getD k default).2.2.2.c] T.api_Head (0, 0))]) from (perm_of fun p => by simp only [List.countP_append, List.countP_cons, List.countP_nil]; omega)) ?_
     refine r_storeS rfl rfl (by first | exact .refl _ | exact perm2 _ _ _ | exact perm3 _ _ _ _ | exact perm4 _ _ _ _ _) T.sz_api_Head (by rfl) (by rfl) ?_
     refine hl_nil (then_n (hc_seq ?_))
     refine hc_letgo (rows [(hs2.getD k default)]) ⟨[], List.append_nil _⟩ ?_
     refine hc_letgo (rows [(hs.getD k default)]) ⟨[], List.append_nil _⟩ ?_
     refine hc_innerF (p := (hs.getD k default)) (f := Hd.row) (ps := hs) (by repeat constructor) (getD_mem hk2) ?_
     refine hc_innerF (p := (hs2.getD k default)) (f := Hd.row) (ps := hs2) (by repeat constructor) (getD_mem hk3) ?_
     refine hc_region ?_
     refine r_fieldAddr ⟨_, 0, none⟩ rfl rfl T.fa_api_Head_0 rfl ?_
     refine r_load rfl T.cell_string rfl (cell_rowg (by repeat constructor) rfl) ?_
     refine r_fieldAddr ⟨_, 0, none⟩ rfl rfl T.fa_api_Head_0 rfl ?_
     refine r_load rfl T.cell_string rfl (cell_rowg (by repeat constructor) rfl) ?_
     refine r_sneq rfl rfl rfl (r_move rfl rfl ?_)
     refine g_split rfl rfl ?_ ?_
     ·intro hg2; have hg2' := hg2; try simp at hg2'
      refine g_yes rfl rfl hg2 ?_
      refine r_fieldAddr ⟨_, 1, none⟩ rfl rfl T.fa_api_Head_1 rfl ?_
      refine g_yes rfl rfl hg2 ?_
      refine r_load rfl T.cell_int rfl (cell_rowg (by repeat constructor) rfl) ?_
      refine g_yes rfl rfl hg2 ?_
      refine r_fieldAddr ⟨_, 1, none⟩ rfl rfl T.fa_api_Head_1 rfl ?_
      refine g_yes rfl rfl hg2 ?_
      refine r_load rfl T.cell_int rfl (cell_rowg (by repeat constructor) rfl) ?_
      refine g_yes rfl rfl hg2 (r_neq rfl rfl rfl ?_)
      refine p_f rfl rfl (bf1 hg2) rfl ?_
      refine r_move rfl rfl ?_
      refine g_split rfl rfl ?_ ?_
      ·intro hg3; have hg3' := hg3; try simp at hg3'
       refine g_yes rfl rfl hg3 ?_
       refine r_fieldAddr ⟨_, 2, none⟩ rfl rfl T.fa_api_Head_2 rfl ?_
       refine g_yes rfl rfl hg3 ?_
       refine r_load rfl T.cell_int rfl (cell_rowg (by repeat constructor) rfl) ?_
       refine g_yes rfl rfl hg3 ?_
       refine r_fieldAddr ⟨_, 2, none⟩ rfl rfl T.fa_api_Head_2 rfl ?_
       refine g_yes rfl rfl hg3 ?_
       refine r_load rfl T.cell_int rfl (cell_rowg (by repeat constructor) rfl) ?_
       refine g_yes rfl rfl hg3 (r_neq rfl rfl rfl ?_)
       refine p_f rfl rfl (bf1 hg3) rfl ?_
       refine r_move rfl rfl ?_
       refine g_split rfl rfl ?_ ?_
       ·intro hg4; have hg4' := hg4; try simp at hg4'
        refine g_yes rfl rfl hg4 ?_
        refine r_fieldAddr ⟨_, 3, none⟩ rfl rfl T.fa_api_Head_3 rfl ?_
        refine g_yes rfl rfl hg4 ?_
        refine r_load rfl T.cell_ints rfl (cell_rowg (by repeat constructor) rfl) ?_
        refine g_yes rfl rfl hg4 ?_
        refine r_fieldAddr ⟨_, 3, none⟩ rfl rfl T.fa_api_Head_3 rfl ?_
        refine g_yes rfl rfl hg4 ?_
        refine r_load rfl T.cell_ints rfl (cell_rowg (by repeat constructor) rfl) ?_
        refine g_yes rfl rfl hg4 ?_
        refine hl_call F.kit_EqInts_cb rfl rfl (kit_EqInts_meets (hs.getD k default).2.2.2.l (hs2.getD k default).2.2.2.l (by omega)) (List.Perm.refl _) ⟨(by repeat constructor), (by repeat constructor), trivial⟩ fun _ _ => ?_
        refine g_yes rfl rfl hg4 (r_not rfl rfl ?_)
        refine p_f rfl rfl (bf1 hg4) rfl ?_
        refine hl_nil (then_n ?_)
        refine hc_cond rfl (fun hb5 => ?_) (fun hb5 => ?_)
        ·exfalso; first | exact hb5 e4 | (rw [e4] at hb5; simp at hb5)
        ·have hb5' := hb5; try simp at hb5'
         refine hc_skip (inb_n (then_n (hc_region (r_move rfl rfl ?_))))
         refine r_add _ rfl rfl rfl rfl (by unfold I64; omega) ?_
         refine r_assign rfl rfl (hl_nil ?_)
         exact again _ (k + 1) (by show k + 1 ≤ hs.length; omega) (by show hs.length - (k + 1) < hs.length - k; omega) ⟨rfl, rfl, rfl, trivial⟩ (List.nil_sublist _) ⟨(by repeat constructor), (by repeat constructor), (by repeat constructor), (by repeat constructor), (by repeat constructor), (by repeat constructor), (by repeat constructor), (by repeat constructor), trivial⟩
       ·intro hg4; have hg4' := hg4; try simp at hg4'
        exfalso; rw [e3] at hg4; simp at hg4
      ·intro hg3; have hg3' := hg3; try simp at hg3'
       exfalso; rw [e2] at hg3; simp at hg3
     ·intro hg2; have hg2' := hg2; try simp at hg2'
      exfalso; rw [e1] at hg2; simp at hg2
    ·have hb4' := hb4; try simp at hb4'
     refine hc_exit (then_exit (then_exit (inb_hit (then_n (hc_seq (hc_region (r_assign rfl rfl (hl_nil (then_n (hc_ret ?_))))))))))
     exact ret1 () rfl rfl rfl trivial (List.nil_sublist _) trivial
 ·intro hg1; have hg1' := hg1; try simp at hg1'

theorem law04_short_meets {A B : Option Addr} {ca cb : Nat} (cs : List Cl) (hs : List Hd) (hc : cs.length ≤ 9223372036854775807) (hh : hs.length ≤ 9223372036854775807) : Meets Tryz.prog F.law04_short [.agg #[.slice A cs.length ca, .slice B hs.length cb]] { LI := [Row A (rows cs), RowsF B hs Hd.row], inv := fun b : Bool => b = true → cs.length ≤ 20 ∧ hs.length ≤ 20 ∧ (∀ h ∈ hs, h.2.2.2.l.length ≤ 1000000) ∧ (∀ x ∈ cs, x.1.length ≤ 1000) ∧ ∀ h ∈ hs, h.1.length ≤ 1000, val := fun b => .bool b } := by
 refine meets_intro F.law04_short_f rfl (Nat.le_of_ble_eq_true rfl) fun w0 => ?_
 refine hc_seq (hc_region ?_)
 refine r_box rfl rfl fun gB => ?_
 refine r_assign rfl rfl (hl_nil (then_n (hc_seq (hc_seq (hc_letgoB (hc_region ?_))))))
 refine r_fieldAddr ⟨_, 0, none⟩ rfl rfl T.fa_api_Trades_0 rfl ?_
 refine r_load rfl T.cell_L_api_Class rfl (cell_blk (by repeat constructor) rfl) ?_
 refine r_len_sl rfl T.u_L_api_Class rfl ?_
 refine r_gtr rfl rfl rfl (r_move rfl rfl ?_)
 refine g_split rfl rfl ?_ ?_
 ·intro hg1; have hg1' := hg1; try simp at hg1'
  have g5 : ¬ (20 : Int) < cs.length := of_decide_eq_false (eq_of_beq hg1)
  refine g_yes rfl rfl hg1 ?_
  refine r_fieldAddr ⟨_, 1, none⟩ rfl rfl T.fa_api_Trades_1 rfl ?_
  refine g_yes rfl rfl hg1 ?_
  refine r_load rfl T.cell_L_api_Head rfl (cell_blk (by repeat constructor) rfl) ?_
  refine g_yes rfl rfl hg1 ?_
  refine r_len_sl rfl T.u_L_api_Head rfl ?_
  refine g_yes rfl rfl hg1 (r_gtr rfl rfl rfl ?_)
  refine p_f rfl rfl (bf1 hg1) rfl ?_
  refine hl_nil (then_n ?_)
  refine c_dec rfl (fun hb1 => ?_) (fun hb1 => ?_)
  ·have hb1' := hb1; try simp at hb1'
   refine hc_seq (hc_region (r_assign rfl rfl (hl_nil (then_n (hc_ret (then_ret ?_))))))
   exact ret1 false rfl rfl rfl (fun h => by cases h) (List.nil_sublist _) trivial
  ·have hb1' := hb1; try simp at hb1'
   have hc20 : cs.length ≤ 20 := by omega
   have hh20 : hs.length ≤ 20 := by omega
   refine hc_skip (then_n (hc_seq (hc_seq (hc_region (r_assign rfl rfl (hl_nil (then_n (hc_block ?_))))))))
   refine hc_loop (β := Nat) ⟨fun k => k ≤ cs.length ∧ ∀ j, j < k → (cs.getD j default).1.length ≤ 40, fun k => [(1, .pointer (some ⟨gB, 0, none⟩)), (3, int k)], fun _ => [], fun _ => [Blk gB (.cells #[.slice A cs.length ca, .slice B hs.length cb] T.api_Trades (0, 0)), Row A (rows cs), RowsF B hs Hd.row]⟩ (fun k => cs.length - k) 0 ⟨Nat.zero_le _, fun j hj => by omega⟩ ⟨rfl, rfl, trivial⟩ (List.nil_sublist _) ⟨(by repeat constructor), (by repeat constructor), (by repeat constructor), trivial⟩ fun k hk => ?_
   obtain ⟨hk, hjc⟩ := hk
   refine hc_seq (hc_seq (hc_region (r_move rfl rfl ?_)))
   refine r_fieldAddr ⟨_, 0, none⟩ rfl rfl T.fa_api_Trades_0 rfl ?_
   refine r_load rfl T.cell_L_api_Class rfl (cell_blk (by repeat constructor) rfl) ?_
   refine r_len_sl rfl T.u_L_api_Class rfl ?_
   refine r_lss rfl rfl rfl (hl_nil (then_n ?_))
   refine c_dec rfl (fun hb2 => ?_) (fun hb2 => ?_)
   ·have hb2' := hb2; try simp at hb2'
    have hk2 : k < cs.length := by omega
    refine hc_skip (then_n (hc_seq (hc_block (hc_seq (hc_region ?_)))))
    refine r_fieldAddr ⟨_, 0, none⟩ rfl rfl T.fa_api_Trades_0 rfl ?_
    refine r_load rfl T.cell_L_api_Class rfl (cell_blk (by repeat constructor) rfl) ?_
    refine r_move rfl rfl ?_
    refine r_elem (α := Cl) cs k rfl T.u_L_api_Class T.sz_api_Class rfl rfl rfl (by repeat constructor) rfl hk2 (by decide) ?_
    refine r_fieldAddr _ rfl rfl T.fa_api_Class_0 rfl ?_
    refine r_load (v := str (cs.getD k default).1) rfl T.cell_string rfl (cell_row_f (by repeat constructor) (rows_get hk2 rfl)) ?_
    refine r_len_str rfl T.u_string rfl ?_
    refine r_gtr rfl rfl rfl (hl_nil (then_n ?_))
    refine c_dec rfl (fun hb3 => ?_) (fun hb3 => ?_)
    ·have hb3' := hb3; try simp at hb3'
     refine hc_seq (hc_region (r_assign rfl rfl (hl_nil (then_n (hc_ret (inb_ret (then_ret (then_ret (inb_ret (then_ret ?_))))))))))
     exact ret1 false rfl rfl rfl (fun h => by cases h) (List.nil_sublist _) trivial
    ·have hb3' := hb3; try simp at hb3'
     refine hc_skip (inb_n (then_n (hc_region (r_move rfl rfl ?_))))
     refine r_add _ rfl rfl rfl rfl (by unfold I64; omega) ?_
     refine r_assign rfl rfl (hl_nil ?_)
     exact again _ (k + 1) ⟨by show k + 1 ≤ cs.length; omega, fun j hjk => by rcases Nat.lt_or_ge j k with h1 | h1; exact hjc j h1; rw [show j = k by omega]; omega⟩ (by show cs.length - (k + 1) < cs.length - k; omega) ⟨rfl, rfl, trivial⟩ (List.nil_sublist _) ⟨(by repeat constructor), (by repeat constructor), (by repeat constructor), trivial⟩
   ·have hb2' := hb2; try simp at hb2'
    obtain rfl : k = cs.length := by omega
    refine hc_exit (then_exit (then_exit (inb_hit (then_n (hc_seq (hc_seq (hc_region (r_assign rfl rfl (hl_nil (then_n (hc_block ?_)))))))))))
    refine hc_outerF (ps := hs) (A := B) (f := Hd.row) (by repeat constructor) ?_
    refine hc_loop (β := Nat) ⟨fun k => k ≤ hs.length ∧ ∀ j, j < k → (hs.getD j default).2.2.2.l.length ≤ 20 ∧ (hs.getD j default).1.length ≤ 40, fun k => [(1, .pointer (some ⟨gB, 0, none⟩)), (4, int k)], fun _ => [], fun _ => Row B (rows hs) :: [Blk gB (.cells #[.slice A cs.length ca, .slice B hs.length cb] T.api_Trades (0, 0)), Row A (rows cs), RowsF B hs Hd.row]⟩ (fun k => hs.length - k) 0 ⟨Nat.zero_le _, fun j hj => by omega⟩ ⟨rfl, rfl, trivial⟩ (List.nil_sublist _) ⟨(by repeat constructor), (by repeat constructor), (by repeat constructor), (by repeat constructor), trivial⟩ fun k hk => ?_
    obtain ⟨hk, hj⟩ := hk
    refine hc_seq (hc_seq (hc_region (r_move rfl rfl ?_)))
    refine r_fieldAddr ⟨_, 1, none⟩ rfl rfl T.fa_api_Trades_1 rfl ?_
    refine r_load rfl T.cell_L_api_Head rfl (cell_blk (by repeat constructor) rfl) ?_
    refine r_len_sl rfl T.u_L_api_Head rfl ?_
    refine r_lss rfl rfl rfl (hl_nil (then_n ?_))
    refine c_dec rfl (fun hb4 => ?_) (fun hb4 => ?_)
    ·have hb4' := hb4; try simp at hb4'
     have hk2 : k < hs.length := by omega
     refine hc_skip (then_n (hc_seq (hc_block (hc_seq (hc_region ?_)))))
     refine r_fieldAddr ⟨_, 1, none⟩ rfl rfl T.fa_api_Trades_1 rfl ?_
     refine r_load rfl T.cell_L_api_Head rfl (cell_blk (by repeat constructor) rfl) ?_
     refine r_move rfl rfl ?_
     refine r_elem (α := Hd) hs k rfl T.u_L_api_Head T.sz_api_Head rfl rfl rfl (by repeat constructor) rfl hk2 (by decide) ?_
     refine r_fieldAddr _ rfl rfl T.fa_api_Head_0 rfl ?_
     refine r_load (v := str (hs.getD k default).1) rfl T.cell_string rfl (cell_row_f (by repeat constructor) (rows_get hk2 rfl)) ?_
     refine r_len_str rfl T.u_string rfl ?_
     refine r_gtr rfl rfl rfl (r_move rfl rfl ?_)
     refine g_split rfl rfl ?_ ?_
     ·intro hg2; have hg2' := hg2; try simp at hg2'
      have g9 : ¬ (40 : Int) < (hs.getD k default).1.length := of_decide_eq_false (eq_of_beq hg2)
      refine g_yes rfl rfl hg2 ?_
      refine r_fieldAddr ⟨_, 1, none⟩ rfl rfl T.fa_api_Trades_1 rfl ?_
      refine g_yes rfl rfl hg2 ?_
      refine r_load rfl T.cell_L_api_Head rfl (cell_blk (by repeat constructor) rfl) ?_
      refine g_yes rfl rfl hg2 (r_move rfl rfl (g_yes rfl rfl hg2 ?_))
      refine r_elem (α := Hd) hs k rfl T.u_L_api_Head T.sz_api_Head rfl rfl rfl (by repeat constructor) rfl hk2 (by decide) ?_
      refine g_yes rfl rfl hg2 (r_fieldAddr _ rfl rfl T.fa_api_Head_3 rfl (g_yes rfl rfl hg2 ?_))
      refine r_load (v := .slice (hs.getD k default).2.2.2.a (hs.getD k default).2.2.2.l.length (hs.getD k default).2.2.2.c) rfl T.cell_ints rfl (cell_row_f (by repeat constructor) (rows_get hk2 rfl)) ?_
      refine g_yes rfl rfl hg2 ?_
      refine r_len_sl rfl T.u_ints rfl ?_
      refine g_yes rfl rfl hg2 (r_gtr rfl rfl rfl ?_)
      refine p_f rfl rfl (bf1 hg2) rfl ?_
      refine hl_nil (then_n ?_)
      refine c_dec rfl (fun hb5 => ?_) (fun hb5 => ?_)
      ·have hb5' := hb5; try simp at hb5'
       refine hc_seq (hc_region (r_assign rfl rfl (hl_nil (then_n (hc_ret (inb_ret (then_ret (then_ret (inb_ret (then_ret ?_))))))))))
       exact ret1 false rfl rfl rfl (fun h => by cases h) (List.nil_sublist _) trivial
      ·have hb5' := hb5; try simp at hb5'
       refine hc_skip (inb_n (then_n (hc_region (r_move rfl rfl ?_))))
       refine r_add _ rfl rfl rfl rfl (by unfold I64; omega) ?_
       refine r_assign rfl rfl (hl_nil ?_)
       exact again _ (k + 1) ⟨by show k + 1 ≤ hs.length; omega, fun j hjk => by rcases Nat.lt_or_ge j k with h1 | h1; exact hj j h1; rw [show j = k by omega]; omega⟩ (by show hs.length - (k + 1) < hs.length - k; omega) ⟨rfl, rfl, trivial⟩ (List.nil_sublist _) ⟨(by repeat constructor), (by repeat constructor), (by repeat constructor), (by repeat constructor), trivial⟩
     ·intro hg2; have hg2' := hg2; try simp at hg2'
      refine g_no rfl rfl rfl rfl rfl hg2 (g_no rfl rfl rfl rfl rfl hg2 (g_no rfl rfl rfl rfl rfl hg2 (g_no rfl rfl rfl rfl rfl hg2 (g_no rfl rfl rfl rfl rfl hg2 (g_no rfl rfl rfl rfl rfl hg2 (g_no rfl rfl rfl rfl rfl hg2 (g_no rfl rfl rfl rfl rfl hg2 ?_)))))))
      refine p_t rfl rfl (bt2 hg2) rfl ?_
      refine hl_nil (then_n (c_t rfl rfl (hc_seq (hc_region (r_assign rfl rfl (hl_nil (then_n (hc_ret (inb_ret (then_ret (then_ret ?_)))))))))))
      refine inb_ret (then_ret ?_)
      exact ret1 false rfl rfl rfl (fun h => by cases h) (List.nil_sublist _) trivial
    ·have hb4' := hb4; try simp at hb4'
     obtain rfl : k = hs.length := by omega
     refine hc_exit (then_exit (then_exit (inb_hit (then_n (hc_seq (hc_region (r_assign rfl rfl (hl_nil (then_n (hc_ret ?_))))))))))
     exact ret1 true rfl rfl rfl (fun _ => ⟨hc20, hh20, fun h hm => by obtain ⟨j, hjl, rfl⟩ := List.getElem_of_mem hm; have h1 := hj j hjl; rw [getD_at hjl] at h1; omega, fun x hm => by obtain ⟨j, hjl, rfl⟩ := List.getElem_of_mem hm; have h1 := hjc j hjl; rw [getD_at hjl] at h1; omega, fun h hm => by obtain ⟨j, hjl, rfl⟩ := List.getElem_of_mem hm; have h1 := hj j hjl; rw [getD_at hjl] at h1; omega⟩) (List.nil_sublist _) trivial
 ·intro hg1; have hg1' := hg1; try simp at hg1'
  refine g_no rfl rfl rfl rfl rfl hg1 (g_no rfl rfl rfl rfl rfl hg1 (g_no rfl rfl rfl rfl rfl hg1 (g_no rfl rfl rfl rfl rfl hg1 ?_)))
  refine p_t rfl rfl (bt2 hg1) rfl ?_
  refine hl_nil (then_n (c_t rfl rfl (hc_seq (hc_region (r_assign rfl rfl (hl_nil (then_n (hc_ret (then_ret ?_)))))))))
  exact ret1 false rfl rfl rfl (fun h => by cases h) (List.nil_sublist _) trivial


end Go.Proofs.YtlpgheniajdkfaaGreat
