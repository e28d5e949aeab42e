/- Editions compared. -/
import Derived.Test.YtlpgheniajdkfaaPat
namespace Go.Proofs.Ytlpgheniajdkfaa
open Go Go.W
set_option linter.unusedVariables false
set_option linter.unusedSimpArgs false
set_option maxRecDepth 20000
attribute [local irreducible] HL HC HQ HB Row Rows2 Blk Facts

def compareE (a b : Tr) : List Cl × Int := if ¬ checkT a = 0 then ([], checkT a) else if ¬ checkT b = 0 then ([], checkT b) else (compareT a b, 0)
theorem words_of (hs : List Hd) (cs : List Cl) : wordsT (trOf cs hs) = hs.map (·.1) := by
  show (hs.map Hd.p).map _ = _
  rw [List.map_map]
  rfl
theorem move_eq (a b : Tr) (s : Str) : moveN a b s = if ((namesN a s).isSome && !(namesN b s).isSome) = true then some (s, 1) else if ((namesN b s).isSome && !(namesN a s).isSome) = true then some (s, 2) else if (namesN a s).getD [] = (namesN b s).getD [] then none else some (s, 3) := by
  unfold moveN
  cases namesN a s <;> cases namesN b s <;> simp
theorem names_len {cs : List Cl} {hs : List Hd} (hok : TrOK (trOf cs hs)) (s : Str) : ((namesN (trOf cs hs) s).getD []).length ≤ 6 := by
  rw [names_of]
  cases hf : hs.find? (hitB s) with
  | none => simp
  | some h =>
    have hm : h ∈ hs := List.mem_of_find?_eq_some hf
    obtain ⟨i, hi, rfl⟩ := List.getElem_of_mem hm
    have hc := (hok.h i (by rw [hs_len]; exact hi)).c
    have he : hs.getD i default = hs[i] := getD_at hi
    simp only [trOf, hd_get hi] at hc
    rw [he] at hc
    show ((pathT cs hs[i].2.1).map (nameOf cs)).length ≤ 6
    rw [List.length_map]
    have hcl : ∀ i, i < cs.length → ClsOK cs i := hok.c
    have h6 : cs.length ≤ 6 := hok.c6
    have h1 := congrArg List.length (path_bits (c := hs[i].2.1) h6 hcl hc.2)
    have h2 := mayK_len (maskOf (pathT cs hs[i].2.1)) cs.length
    omega
theorem out_step {f : Str → Option Cl} {r : List Str} {k : Nat} (hk : k < r.length) : (r.take (k + 1)).filterMap f = (r.take k).filterMap f ++ (f (wat r k)).toList := by
  rw [take_succ_getD r k hk, List.filterMap_append]
  congr 1
theorem an_y {x y : Bool} (h : (x == true) = true) : y = (x && y) := by cases x <;> simp_all
theorem an_n {x y : Bool} (h : (x == true) = false) : false = (x && y) := by cases x <;> simp_all
theorem sort_words {hs hs2 : List Hd} {cs cs2 : List Cl} {l r : List Str} (h1 : l.Perm ((hs ++ hs2).map (·.1))) (h2 : DedW l r) : r = sortU (wordsT (trOf cs hs) ++ wordsT (trOf cs2 hs2)) := by
  refine asc_uniq h2.1 (sortU_sorted _) fun x => ?_
  rw [sortU_mem, words_of, words_of, ← List.map_append, h2.2]
  exact h1.mem_iff

theorem slices_Clone_meets {A : Option Addr} {c : Nat} (l : List Hd) (hl : l.length ≤ 1000000) : Meets Try.prog F.slices_Clone [.slice A l.length c] { LI := [Row A (rows l)], inv := fun x : OutC × Hp => Grow T.api_Head 4 x.1.1 l.length x.1.2 (rows l) x.2, val := fun x => .slice x.1.1 l.length x.1.2, hpO := fun x => x.2 } := by
 refine meets_intro F.slices_Clone_f rfl (Nat.le_of_ble_eq_true rfl) fun w0 => ?_
 refine hc_seq ?_
 refine hc_region ?_
 refine r_assign rfl rfl ?_
 refine hl_nil ?_
 refine then_n ?_
 refine hc_seq ?_
 refine hc_seq ?_
 refine hc_region ?_
 refine r_move rfl rfl ?_
 refine r_eqlnil rfl T.u_L_api_Head rfl rfl ?_
 refine hl_nil ?_
 refine then_n ?_
 refine hc_cond rfl (fun hb1 => ?_) (fun hb1 => ?_)
 ·have hb1' := hb1; try simp at hb1'
  have hA : A = none := by cases A with | none => rfl | some a => cases hb1
  subst hA
  refine hc_pure (φ := l = []) (fun w hw => row_none (by decide) (hw.fs (Row none (rows l)) m0)) fun hl0 => ?_
  subst hl0
  refine hc_seq ?_
  refine hc_region ?_
  refine r_assign rfl rfl ?_
  refine hl_nil ?_
  refine then_n ?_
  refine hc_ret ?_
  refine then_ret ?_
  exact ret1 ((none, 0), []) rfl rfl rfl (Grow.nil _ _) (.refl _) trivial
 ·have hb1' := hb1; try simp at hb1'
  refine hc_skip ?_
  refine then_n ?_
  refine hc_seq ?_
  refine hc_region ?_
  refine r_buildSlice _ rfl rfl (fun _ => T.bs_L_api_Head_0 ..) fun gS => ?_
  refine r_move rfl rfl ?_
  refine r_append l.length (rows l) T.el_L_api_Head rfl rfl rfl (Grow.new (cs := #[]) (n := 0) rfl (Nat.zero_le _)) (.refl _) (Src.row m0 (rows_len l) (rows_one l) (by decide)) (by omega) rfl (by unfold maxLen; omega) (by omega) fun A' c' og' hG => ?_
  refine r_assign rfl rfl ?_
  refine hl_nil ?_
  refine then_n ?_
  refine hc_ret ?_
  exact ret1 ((A', c'), og') rfl rfl rfl hG (List.sublist_append_left _ _) trivial

set_option maxHeartbeats 1000000 in
theorem trade_Compare_meets {A B A2 B2 : Option Addr} {ca cb ca2 cb2 : Nat} (cs : List Cl) (hs : List Hd) (cs2 : List Cl) (hs2 : List Hd) (hca : cs.length ≤ ca) (hcb : hs.length ≤ cb) (ha : ∀ h ∈ hs, h.2.2.2.l.length ≤ 1000000) (hca2 : cs2.length ≤ ca2) (hcb2 : hs2.length ≤ cb2) (ha2 : ∀ h ∈ hs2, h.2.2.2.l.length ≤ 1000000) :
    Meets Try.prog F.trade_Compare [.agg #[.slice A cs.length ca, .slice B hs.length cb], .agg #[.slice A2 cs2.length ca2, .slice B2 hs2.length cb2]] { LI := [Row A (rows cs), RowsF B hs Hd.row, Row A2 (rows cs2), RowsF B2 hs2 Hd.row], inv := fun x : OutC => ((compareE (trOf cs hs) (trOf cs2 hs2))).1.length ≤ x.2, val := fun x => .tuple #[.slice x.1 ((compareE (trOf cs hs) (trOf cs2 hs2))).1.length x.2, int ((compareE (trOf cs hs) (trOf cs2 hs2))).2], LO := fun x => [Row x.1 (rows ((compareE (trOf cs hs) (trOf cs2 hs2))).1)] } := by
 refine meets_intro F.trade_Compare_f rfl (Nat.le_of_ble_eq_true rfl) fun w0 => ?_
 refine hc_seq ?_
 refine hc_region ?_
 refine r_box rfl rfl fun gB => ?_
 refine r_box rfl rfl fun gB2 => ?_
 refine r_assign rfl rfl ?_
 refine r_assign rfl rfl ?_
 refine hl_nil ?_
 refine then_n ?_
 refine hc_cut ⟨fun _ : Nat × OutC × OutC => True, fun x => [(2, .pointer (some ⟨gB, 0, none⟩)), (3, .pointer (some ⟨gB2, 0, none⟩)), (6, if checkT (trOf cs hs) = 0 then .pointer (some ⟨x.1, 0, none⟩) else .pointer none), (7, int (checkT (trOf cs hs)))], fun _ => [(gB2, .cells #[.slice A2 cs2.length ca2, .slice B2 hs2.length cb2] T.api_Trades (0, 0)), (gB, .cells #[.slice A cs.length ca, .slice B hs.length cb] T.api_Trades (0, 0))], fun x => (if checkT (trOf cs hs) = 0 then beginL cs hs A ca B cb x else []) ++ [Row A (rows cs), RowsF B hs Hd.row, Row A2 (rows cs2), RowsF B2 hs2 Hd.row]⟩ ?_ ?_
 ·skip
  refine hc_region ?_
  first | refine r_loadA rfl T.row_api_Trades T.sz_api_Trades rfl (by repeat constructor) (by rfl) ?_ | refine r_loadB rfl T.row_api_Trades T.sz_api_Trades rfl (by repeat constructor) (by rfl) ?_ | refine r_loadS rfl T.row_api_Trades T.sz_api_Trades rfl rfl (cells_row (by repeat constructor) (rows_all (by omega))) ?_
  refine hl_call F.trade_begin_cb rfl rfl (trade_begin_meets cs hs hca hcb ha) (List.Perm.refl _) ⟨(by repeat constructor), (by repeat constructor), trivial⟩ fun x _ => ?_
  refine r_move rfl rfl ?_
  refine r_extract rfl rfl rfl ?_
  refine r_extract rfl rfl rfl ?_
  refine r_assign rfl rfl ?_
  refine r_assign rfl rfl ?_
  refine hl_nil ?_
  exact cut_n _ x trivial ⟨rfl, rfl, rfl, rfl, trivial⟩ (List.Sublist.refl _) (LSub.of_mem fun F h => h)
 ·refine fun x _ => ?_
  dsimp only
  refine hc_seq ?_
  refine hc_seq ?_
  refine hc_region ?_
  refine r_move rfl rfl ?_
  refine r_neq rfl rfl rfl ?_
  refine hl_nil ?_
  refine then_n ?_
  first | refine c_dec rfl (fun hb1 => ?_) (fun hb1 => ?_) | refine hc_cond rfl (fun hb1 => ?_) (fun hb1 => ?_)
  ·have hb1' := hb1; try simp at hb1'
   refine hc_seq ?_
   refine hc_region ?_
   refine r_move rfl rfl ?_
   refine r_assign rfl rfl ?_
   refine r_assign rfl rfl ?_
   refine hl_nil ?_
   refine then_n ?_
   refine hc_ret ?_
   refine then_ret ?_
   refine hq_nilrow (α := Cl) ?_
   have hE : (compareE (trOf cs hs) (trOf cs2 hs2)) = ([], checkT (trOf cs hs)) := by unfold compareE; rw [if_pos hb1]
   exact ret2 (none, 0) rfl rfl rfl (by show Value.tuple #[.slice none ((compareE (trOf cs hs) (trOf cs2 hs2))).1.length 0, int ((compareE (trOf cs hs) (trOf cs2 hs2))).2] = _; rw [hE]; rfl) rfl (by show ((compareE (trOf cs hs) (trOf cs2 hs2))).1.length ≤ 0; rw [hE]; exact Nat.le_refl _) (List.nil_sublist _) (by show LSub _ [Row none (rows ((compareE (trOf cs hs) (trOf cs2 hs2))).1)]; rw [hE]; exact ⟨m0, trivial⟩)
  ·have hb1' := hb1; try simp at hb1'
   have h0 := Classical.not_not.1 hb1
   rw [if_pos h0, if_pos h0]
   have hok := tr_ok h0
   have h6 : cs.length ≤ 6 := hok.c6
   have h6h := hok.h6
   rw [hs_len] at h6h
   have hcl : ∀ i, i < cs.length → ClsOK cs i := hok.c
   obtain ⟨gl, ⟨oa, oc⟩, ⟨ka, kc⟩⟩ := x
   show HC _ _ _ _ _ [Row (some ⟨gl, 0, none⟩) [.slice A cs.length ca, .slice B hs.length cb, .slice oa cs.length oc, .slice ka hs.length kc], Row oa (rows (masksN cs cs.length)), Row ka (rows (kindsN hs hs.length)), Row A (rows cs), RowsF B hs Hd.row, Row A2 (rows cs2), RowsF B2 hs2 Hd.row]
   refine hc_skip ?_
   refine then_n ?_
   refine hc_cut ⟨fun _ : Nat × OutC × OutC => True, fun x => [(2, .pointer (some ⟨gB, 0, none⟩)), (3, .pointer (some ⟨gB2, 0, none⟩)), (6, .pointer (some ⟨gl, 0, none⟩)), (8, if checkT (trOf cs2 hs2) = 0 then .pointer (some ⟨x.1, 0, none⟩) else .pointer none), (7, int (checkT (trOf cs2 hs2)))], fun _ => [(gB2, .cells #[.slice A2 cs2.length ca2, .slice B2 hs2.length cb2] T.api_Trades (0, 0)), (gB, .cells #[.slice A cs.length ca, .slice B hs.length cb] T.api_Trades (0, 0))], fun x => (if checkT (trOf cs2 hs2) = 0 then beginL cs2 hs2 A2 ca2 B2 cb2 x else []) ++ [Row (some ⟨gl, 0, none⟩) [.slice A cs.length ca, .slice B hs.length cb, .slice oa cs.length oc, .slice ka hs.length kc], Row oa (rows (masksN cs cs.length)), Row ka (rows (kindsN hs hs.length)), Row A (rows cs), RowsF B hs Hd.row, Row A2 (rows cs2), RowsF B2 hs2 Hd.row]⟩ ?_ ?_
   ·skip
    refine hc_region ?_
    first | refine r_loadA rfl T.row_api_Trades T.sz_api_Trades rfl (by repeat constructor) (by rfl) ?_ | refine r_loadB rfl T.row_api_Trades T.sz_api_Trades rfl (by repeat constructor) (by rfl) ?_ | refine r_loadS rfl T.row_api_Trades T.sz_api_Trades rfl rfl (cells_row (by repeat constructor) (rows_all (by omega))) ?_
    refine hl_call F.trade_begin_cb rfl rfl (trade_begin_meets cs2 hs2 hca2 hcb2 ha2) (List.Perm.refl _) ⟨(by repeat constructor), (by repeat constructor), trivial⟩ fun x _ => ?_
    refine r_move rfl rfl ?_
    refine r_extract rfl rfl rfl ?_
    refine r_extract rfl rfl rfl ?_
    refine r_assign rfl rfl ?_
    refine r_assign rfl rfl ?_
    refine hl_nil ?_
    exact cut_n _ x trivial ⟨rfl, rfl, rfl, rfl, rfl, trivial⟩ (List.Sublist.refl _) (LSub.of_mem fun F h => h)
   ·refine fun x _ => ?_
    dsimp only
    refine hc_seq ?_
    refine hc_seq ?_
    refine hc_region ?_
    refine r_move rfl rfl ?_
    refine r_neq rfl rfl rfl ?_
    refine hl_nil ?_
    refine then_n ?_
    first | refine c_dec rfl (fun hb2 => ?_) (fun hb2 => ?_) | refine hc_cond rfl (fun hb2 => ?_) (fun hb2 => ?_)
    ·have hb2' := hb2; try simp at hb2'
     refine hc_seq ?_
     refine hc_region ?_
     refine r_move rfl rfl ?_
     refine r_assign rfl rfl ?_
     refine r_assign rfl rfl ?_
     refine hl_nil ?_
     refine then_n ?_
     refine hc_ret ?_
     refine then_ret ?_
     refine hq_nilrow (α := Cl) ?_
     have hE : (compareE (trOf cs hs) (trOf cs2 hs2)) = ([], checkT (trOf cs2 hs2)) := by unfold compareE; rw [if_neg hb1, if_pos hb2]
     exact ret2 (none, 0) rfl rfl rfl (by show Value.tuple #[.slice none ((compareE (trOf cs hs) (trOf cs2 hs2))).1.length 0, int ((compareE (trOf cs hs) (trOf cs2 hs2))).2] = _; rw [hE]; rfl) rfl (by show ((compareE (trOf cs hs) (trOf cs2 hs2))).1.length ≤ 0; rw [hE]; exact Nat.le_refl _) (List.nil_sublist _) (by show LSub _ [Row none (rows ((compareE (trOf cs hs) (trOf cs2 hs2))).1)]; rw [hE]; exact ⟨m0, trivial⟩)
    ·have hb2' := hb2; try simp at hb2'
     have h02 := Classical.not_not.1 hb2
     rw [if_pos h02, if_pos h02]
     have hok2 := tr_ok h02
     have h62 : cs2.length ≤ 6 := hok2.c6
     have h6h2 := hok2.h6
     rw [hs_len] at h6h2
     have hcl2 : ∀ i, i < cs2.length → ClsOK cs2 i := hok2.c
     obtain ⟨gl2, ⟨oa2, oc2⟩, ⟨ka2, kc2⟩⟩ := x
     have hE : (compareE (trOf cs hs) (trOf cs2 hs2)) = (compareT (trOf cs hs) (trOf cs2 hs2), 0) := by unfold compareE; rw [if_neg hb1, if_neg hb2]
     show HC _ _ _ _ _ [Row (some ⟨gl2, 0, none⟩) [.slice A2 cs2.length ca2, .slice B2 hs2.length cb2, .slice oa2 cs2.length oc2, .slice ka2 hs2.length kc2], Row oa2 (rows (masksN cs2 cs2.length)), Row ka2 (rows (kindsN hs2 hs2.length)), Row (some ⟨gl, 0, none⟩) [.slice A cs.length ca, .slice B hs.length cb, .slice oa cs.length oc, .slice ka hs.length kc], Row oa (rows (masksN cs cs.length)), Row ka (rows (kindsN hs hs.length)), Row A (rows cs), RowsF B hs Hd.row, Row A2 (rows cs2), RowsF B2 hs2 Hd.row]
     refine hc_outerF (ps := hs) (A := B) (f := Hd.row) (by repeat constructor) ?_
     refine hc_outerF (ps := hs2) (A := B2) (f := Hd.row) (by repeat constructor) ?_
     refine hc_skip ?_
     refine then_n ?_
     refine hc_seq ?_
     refine hc_region ?_
     refine r_assign rfl rfl ?_
     refine hl_nil ?_
     refine then_n ?_
     refine hc_seq ?_
     refine hc_seq ?_
     refine hc_drawW ([]) (_) (List.Perm.refl _) 8 [5, 2] mixed (by decide) (by decide) (by decide) rfl rfl rfl ?_
     apply hb_ex _ rfl rfl rfl
     ·intro w1
      first | refine r_fieldAddr ⟨_, 1, none⟩ rfl rfl T.fa_api_Trades_1 rfl ?_ | refine r_fieldAddr _ rfl rfl T.fa_api_Trades_1 rfl ?_
      refine hl_nil ?_
      exact qe_done rfl
     apply hb_ex _ rfl rfl rfl
     ·intro w1
      first | refine r_load rfl T.cell_L_api_Head rfl (cell_blk (by repeat constructor) rfl) ?_ | refine r_load rfl T.cell_L_api_Head rfl (cell_own (by repeat constructor) rfl) ?_ | refine r_load rfl T.cell_L_api_Head rfl (cell_row (by repeat constructor) (rows_get0 (by omega) rfl)) ?_ | refine r_load rfl T.cell_L_api_Head rfl (cell_row_f (by repeat constructor) (rows_get (by omega) rfl)) ?_ | refine r_load rfl T.cell_L_api_Head rfl (cell_rowg (by repeat constructor) rfl) ?_
      refine hl_nil ?_
      exact qe_done rfl
     refine hb_wr ⟨OutC × Hp, fun x => Grow T.api_Head 4 x.1.1 hs.length x.1.2 (rows hs) x.2, fun x => .slice x.1.1 hs.length x.1.2, fun _ => [], fun x => x.2⟩ rfl rfl rfl ?_ ?_
     ·intro w1
      refine hl_call F.slices_Clone_cb rfl rfl (slices_Clone_meets hs (by omega)) (List.Perm.refl _) ⟨(by repeat constructor), trivial⟩ fun x hx => ?_
      refine hl_nil ?_
      exact qw_done x hx (fun _ => rfl) (List.sublist_append_left _ _) trivial
     apply hb_ex _ rfl rfl rfl
     ·intro w1
      first | refine r_fieldAddr ⟨_, 1, none⟩ rfl rfl T.fa_api_Trades_1 rfl ?_ | refine r_fieldAddr _ rfl rfl T.fa_api_Trades_1 rfl ?_
      refine hl_nil ?_
      exact qe_done rfl
     apply hb_ex _ rfl rfl rfl
     ·intro w1
      first | refine r_load rfl T.cell_L_api_Head rfl (cell_blk (by repeat constructor) rfl) ?_ | refine r_load rfl T.cell_L_api_Head rfl (cell_own (by repeat constructor) rfl) ?_ | refine r_load rfl T.cell_L_api_Head rfl (cell_row (by repeat constructor) (rows_get0 (by omega) rfl)) ?_ | refine r_load rfl T.cell_L_api_Head rfl (cell_row_f (by repeat constructor) (rows_get (by omega) rfl)) ?_ | refine r_load rfl T.cell_L_api_Head rfl (cell_rowg (by repeat constructor) rfl) ?_
      refine hl_nil ?_
      exact qe_done rfl
     refine hb_wr ⟨OutC × Hp, fun x => Grow T.api_Head 4 x.1.1 (hs ++ hs2).length x.1.2 (rows (hs ++ hs2)) x.2, fun x => .slice x.1.1 (hs ++ hs2).length x.1.2, fun _ => [], fun x => x.2⟩ rfl rfl rfl ?_ ?_
     ·intro x0 hx0; intro w1
      refine r_append (hs ++ hs2).length (rows (hs ++ hs2)) T.el_L_api_Head rfl rfl rfl hx0 (hp' := []) (by first | (rw [List.append_nil]; done) | (rw [List.append_nil]; exact List.Perm.refl _)) (Src.row (news := rows hs2) (m := hs2.length) (by repeat constructor) (rows_len hs2) (rows_one hs2) (by decide)) List.length_append.symm (rows_append _ _).symm (by unfold maxLen; rw [List.length_append]; omega) (by rw [List.length_append]; omega) fun A' c' og' hG' => ?_
      refine hl_nil ?_
      exact qw_done ((A', c'), og') hG' (fun _ => rfl) (List.sublist_append_left _ _) trivial
     apply hb_ex _ rfl rfl rfl
     ·intro x hx; intro w1
      refine r_len_sl rfl T.u_L_api_Head rfl ?_
      refine hl_nil ?_
      exact qe_done rfl
     apply hb_ex _ rfl rfl rfl
     ·intro w1
      refine r_move rfl rfl ?_
      refine hl_nil ?_
      exact qe_done rfl
     refine hb_nil ⟨rfl, ?_⟩
     intro x0 hx0 x hx
     obtain ⟨⟨Ah, ch⟩, ogh⟩ := x
     refine hl_grown hx ?_
     clear hx hx0
     refine hl_nil ?_
     refine then_n ?_
     refine hc_block ?_
     have hHl : (hs ++ hs2).length ≤ 12 := by rw [List.length_append]; omega
     generalize hws : ((hs ++ hs2).map (fun h : Hd => h.1)) = ws
     have hwl : ws.length = (hs ++ hs2).length := by rw [← hws]; exact List.length_map ..
     have hwat : ∀ i, i < (hs ++ hs2).length → wat ws i = ((hs ++ hs2).getD i default).1 := fun i hi => by
       rw [← hws]; unfold wat
       rw [getD_at (by rw [List.length_map]; exact hi), getD_at hi, List.getElem_map]
     refine hc_loop (β := Nat × OutC × Hp) ⟨fun x => x.1 ≤ (hs ++ hs2).length ∧ Grow T.string 1 x.2.1.1 x.1 x.2.1.2 (rows (ws.take x.1)) x.2.2, fun x => [(6, .pointer (some ⟨gl, 0, none⟩)), (8, .pointer (some ⟨gl2, 0, none⟩)), (9, .slice x.2.1.1 x.1 x.2.1.2), (40, .slice Ah (hs ++ hs2).length ch), (41, int (hs ++ hs2).length), (42, int x.1)], fun x => x.2.2, fun _ => Row Ah (rows (hs ++ hs2)) :: [Row (some ⟨gl, 0, none⟩) [.slice A cs.length ca, .slice B hs.length cb, .slice oa cs.length oc, .slice ka hs.length kc], Row oa (rows (masksN cs cs.length)), Row A (rows cs), Row B (rows hs), Row (some ⟨gl2, 0, none⟩) [.slice A2 cs2.length ca2, .slice B2 hs2.length cb2, .slice oa2 cs2.length oc2, .slice ka2 hs2.length kc2], Row oa2 (rows (masksN cs2 cs2.length)), Row A2 (rows cs2), Row B2 (rows hs2)]⟩ (fun x => (hs ++ hs2).length - x.1) (0, (none, 0), []) ⟨Nat.zero_le _, Grow.nil _ _⟩ ⟨rfl, rfl, rfl, rfl, rfl, rfl, trivial⟩ (List.nil_sublist _) ⟨(by repeat constructor), (by repeat constructor), (by repeat constructor), (by repeat constructor), (by repeat constructor), (by repeat constructor), (by repeat constructor), (by repeat constructor), (by repeat constructor), trivial⟩ fun x hx => ?_
     obtain ⟨k, ⟨na, nc⟩, og⟩ := x
     obtain ⟨hk, hG⟩ := hx
     simp only at hk hG
     refine hc_seq ?_
     refine hc_region ?_
     refine r_lss rfl rfl rfl ?_
     refine hl_nil ?_
     refine then_n ?_
     refine hc_seq ?_
     first | refine c_dec rfl (fun hb3 => ?_) (fun hb3 => ?_) | refine hc_cond rfl (fun hb3 => ?_) (fun hb3 => ?_)
     ·have hb3' := hb3; try simp at hb3'
      have hk2 : k < (hs ++ hs2).length := by omega
      refine hc_skip ?_
      refine then_n ?_
      refine hc_seq ?_
      refine hc_block ?_
      refine hc_seq ?_
      refine hc_region ?_
      refine r_elem (α := Hd) (hs ++ hs2) k rfl T.u_L_api_Head T.sz_api_Head rfl rfl rfl (by repeat constructor) rfl hk2 (by decide) ?_
      refine r_loadS rfl T.row_api_Head T.sz_api_Head rfl rfl (cells_row (by repeat constructor) (rows_all (by omega))) ?_
      refine r_alloc rfl (fun _ => T.al_api_Head _) fun gA => ?_
      refine r_storeS rfl rfl (by first | exact .refl _ | exact perm2 _ _ _ | exact perm3 _ _ _ _ | exact perm4 _ _ _ _ _) T.sz_api_Head (by rfl) (by rfl) ?_
      refine hl_nil ?_
      refine then_n ?_
      refine hc_letgo (rows [(hs ++ hs2).getD k default]) ⟨[], List.append_nil _⟩ ?_
      refine hc_region ?_
      refine r_move rfl rfl ?_
      first | refine r_fieldAddr ⟨_, 0, none⟩ rfl rfl T.fa_api_Head_0 rfl ?_ | refine r_fieldAddr _ rfl rfl T.fa_api_Head_0 rfl ?_
      first | refine r_load rfl T.cell_string rfl (cell_own (by repeat constructor) rfl) ?_ | refine r_load rfl T.cell_string rfl (cell_blk (by repeat constructor) rfl) ?_ | refine r_load rfl T.cell_string rfl (cell_row (by repeat constructor) (rows_get0 (by omega) rfl)) ?_ | refine r_load rfl T.cell_string rfl (cell_row_f (by repeat constructor) (rows_get (by omega) rfl)) ?_ | refine r_load rfl T.cell_string rfl (cell_rowg (by repeat constructor) rfl) ?_
      refine r_buildSlice _ rfl rfl (fun _ => T.bs_strs_1 ..) fun gS => ?_
      refine hl_letgo (rows [((hs ++ hs2).getD k default).1]) (List.prefix_refl _) ?_
      refine r_append (k + 1) (rows (ws.take k ++ [((hs ++ hs2).getD k default).1])) T.el_strs rfl rfl rfl hG (hp' := []) (by first | (rw [List.append_nil]; done) | (rw [List.append_nil]; exact List.Perm.refl _)) (Src.row (news := rows [((hs ++ hs2).getD k default).1]) (m := 1) m0 rfl (rows_one _) (by decide)) rfl (rows_append _ _).symm (by unfold maxLen; omega) (by omega) fun A' c' og' hG' => ?_
      refine r_assign rfl rfl ?_
      refine hl_nil ?_
      refine inb_n ?_
      refine then_n ?_
      refine hc_region ?_
      refine r_add _ rfl rfl rfl rfl (by unfold I64; omega) ?_
      refine r_move rfl rfl ?_
      refine hl_nil ?_
      exact again _ (k + 1, (A', c'), og') ⟨by show k + 1 ≤ (hs ++ hs2).length; omega, by show Grow _ _ _ _ _ (rows (ws.take (k + 1))) _; rw [take_succ_getD ws k (by omega)]; rw [← hwat k hk2] at hG'; exact hG'⟩ (by show (hs ++ hs2).length - (k + 1) < (hs ++ hs2).length - k; omega) ⟨rfl, rfl, rfl, rfl, rfl, rfl, trivial⟩ (List.sublist_append_left _ _) ⟨(by repeat constructor), (by repeat constructor), (by repeat constructor), (by repeat constructor), (by repeat constructor), (by repeat constructor), (by repeat constructor), (by repeat constructor), (by repeat constructor), trivial⟩
     ·have hb3' := hb3; try simp at hb3'
      have hk2 : k = ws.length := by omega
      subst hk2
      rw [List.take_length] at hG
      refine hc_exit ?_
      refine then_exit ?_
      refine then_exit ?_
      refine inb_hit ?_
      refine then_n ?_
      refine hc_seq ?_
      refine hc_region ?_
      refine r_move rfl rfl ?_
      refine hl_call (hpR := []) F.slices_SortFunc_strs_cb rfl rfl (slices_SortFunc_strs_meets ws og hG (by omega)) (by first | (rw [List.append_nil]; done) | (rw [List.append_nil]; exact List.Perm.refl _)) trivial fun x hx => ?_
      clear hG
      obtain ⟨l, og1⟩ := x
      obtain ⟨hsrt, hG⟩ := hx
      simp only at hsrt hG
      have hll : l.length = ws.length := hsrt.1.length_eq
      refine hl_nil ?_
      refine then_n ?_
      refine hc_seq ?_
      refine hc_region ?_
      refine r_assign rfl rfl ?_
      refine hl_nil ?_
      refine then_n ?_
      refine hc_seq ?_
      refine hc_seq ?_
      refine hc_region ?_
      refine r_move rfl rfl ?_
      refine hl_call (hpR := []) (vs := [.slice na l.length nc]) F.slices_Compact_strs_cb rfl (by rw [hll]; rfl) (slices_Compact_strs_meets l og1 hG hsrt.2 (by omega)) (List.Perm.refl _) trivial fun x hx => ?_
      clear hG
      obtain ⟨r, og2⟩ := x
      obtain ⟨⟨hD, hrn⟩, hG⟩ := hx
      simp only at hD hG hrn
      have hr := sort_words (cs := cs) (cs2 := cs2) (by rw [hws]; exact hsrt.1) hD
      have hrl : r.length ≤ nc := hG.le
      have hrc := hG.cap_le
      refine hl_grown hG ?_
      clear hG
      refine r_len_sl rfl T.u_strs rfl ?_
      refine r_move rfl rfl ?_
      refine hl_nil ?_
      refine then_n ?_
      refine hc_block ?_
      generalize na = A3 at *
      generalize nc = c3 at *
      refine hc_loop (β := Nat × OutC × Hp) ⟨fun x => x.1 ≤ r.length ∧ Grow T.api_Move 2 x.2.1.1 ((r.take (x.1)).filterMap (moveN (trOf cs hs) (trOf cs2 hs2))).length x.2.1.2 (rows ((r.take (x.1)).filterMap (moveN (trOf cs hs) (trOf cs2 hs2)))) x.2.2, fun x => [(6, .pointer (some ⟨gl, 0, none⟩)), (8, .pointer (some ⟨gl2, 0, none⟩)), (12, .slice x.2.1.1 ((r.take (x.1)).filterMap (moveN (trOf cs hs) (trOf cs2 hs2))).length x.2.1.2), (55, .slice A3 r.length c3), (56, int r.length), (57, int x.1)], fun x => x.2.2, fun _ => (Row A3 (rows r) :: [Row (some ⟨gl, 0, none⟩) [.slice A cs.length ca, .slice B hs.length cb, .slice oa cs.length oc, .slice ka hs.length kc], Row oa (rows (masksN cs cs.length)), Row A (rows cs), Row B (rows hs), Row (some ⟨gl2, 0, none⟩) [.slice A2 cs2.length ca2, .slice B2 hs2.length cb2, .slice oa2 cs2.length oc2, .slice ka2 hs2.length kc2], Row oa2 (rows (masksN cs2 cs2.length)), Row A2 (rows cs2), Row B2 (rows hs2)])⟩ (fun x => r.length - x.1) (0, (none, 0), []) ⟨Nat.zero_le _, Grow.nil _ _⟩ ⟨rfl, rfl, rfl, rfl, rfl, rfl, trivial⟩ (List.nil_sublist _) ⟨(by repeat constructor), (by repeat constructor), (by repeat constructor), (by repeat constructor), (by repeat constructor), (by repeat constructor), (by repeat constructor), (by repeat constructor), (by repeat constructor), trivial⟩ fun x hx => ?_
      obtain ⟨k, ⟨na, nc⟩, og⟩ := x
      obtain ⟨hk, hG⟩ := hx
      simp only at hk hG
      have hol : ((r.take (k)).filterMap (moveN (trOf cs hs) (trOf cs2 hs2))).length ≤ k := Nat.le_trans (List.length_filterMap_le _ _) (by rw [List.length_take]; omega)
      refine hc_seq ?_
      refine hc_region ?_
      refine r_lss rfl rfl rfl ?_
      refine hl_nil ?_
      refine then_n ?_
      refine hc_seq ?_
      first | refine c_dec rfl (fun hb4 => ?_) (fun hb4 => ?_) | refine hc_cond rfl (fun hb4 => ?_) (fun hb4 => ?_)
      ·have hb4' := hb4; try simp at hb4'
       have hk2 : k < r.length := by omega
       refine hc_skip ?_
       refine then_n ?_
       refine hc_seq ?_
       refine hc_block ?_
       refine hc_seq ?_
       refine hc_region ?_
       refine r_elem (α := Str) r k rfl T.u_strs T.sz_string rfl rfl rfl (by repeat constructor) rfl hk2 (by decide) ?_
       refine r_load (v := str (wat r k)) rfl T.cell_string rfl (cell_row (by repeat constructor) (rows_get0 hk2 rfl)) ?_
       refine r_assign rfl rfl ?_
       refine hl_nil ?_
       refine then_n ?_
       refine hc_seq ?_
       refine hc_region ?_
       refine r_move rfl rfl ?_
       refine r_move rfl rfl ?_
       refine hl_call F.trade_list_names_cb rfl rfl (trade_list_names_meets (A := A) (B := B) (oa := oa) (ka := ka) (ca := ca) (cb := cb) (oc := oc) (kc := kc) (gl := gl) cs hs (wat r k) hok) (List.Perm.refl _) ⟨(by repeat constructor), (by repeat constructor), (by repeat constructor), (by repeat constructor), trivial⟩ fun y1 hy1 => ?_
       refine r_move rfl rfl ?_
       refine r_extract rfl rfl rfl ?_
       refine r_extract rfl rfl rfl ?_
       refine r_assign rfl rfl ?_
       refine r_assign rfl rfl ?_
       refine hl_nil ?_
       refine then_n ?_
       refine hc_seq ?_
       refine hc_region ?_
       refine r_move rfl rfl ?_
       refine r_move rfl rfl ?_
       refine hl_call F.trade_list_names_cb rfl rfl (trade_list_names_meets (A := A2) (B := B2) (oa := oa2) (ka := ka2) (ca := ca2) (cb := cb2) (oc := oc2) (kc := kc2) (gl := gl2) cs2 hs2 (wat r k) hok2) (List.Perm.refl _) ⟨(by repeat constructor), (by repeat constructor), (by repeat constructor), (by repeat constructor), trivial⟩ fun y2 hy2 => ?_
       refine r_move rfl rfl ?_
       refine r_extract rfl rfl rfl ?_
       refine r_extract rfl rfl rfl ?_
       refine r_assign rfl rfl ?_
       refine r_assign rfl rfl ?_
       refine hl_nil ?_
       refine then_n ?_
       refine hc_block ?_
       refine hc_cut ⟨fun _ : Unit => True, fun _ => [(6, .pointer (some ⟨gl, 0, none⟩)), (8, .pointer (some ⟨gl2, 0, none⟩)), (12, .slice na ((r.take (k)).filterMap (moveN (trOf cs hs) (trOf cs2 hs2))).length nc), (55, .slice A3 r.length c3), (56, int r.length), (57, int k), (14, str (wat r k)), (15, .slice y1.1 ((namesN (trOf cs hs) (wat r k)).getD []).length y1.2), (16, .bool (namesN (trOf cs hs) (wat r k)).isSome), (17, .slice y2.1 ((namesN (trOf cs2 hs2) (wat r k)).getD []).length y2.2), (18, .bool (namesN (trOf cs2 hs2) (wat r k)).isSome), (73, .bool ((namesN (trOf cs hs) (wat r k)).isSome && !(namesN (trOf cs2 hs2) (wat r k)).isSome))], fun _ => og, fun _ => (Row y2.1 (rows ((namesN (trOf cs2 hs2) (wat r k)).getD [])) :: Row y1.1 (rows ((namesN (trOf cs hs) (wat r k)).getD [])) :: (Row A3 (rows r) :: [Row (some ⟨gl, 0, none⟩) [.slice A cs.length ca, .slice B hs.length cb, .slice oa cs.length oc, .slice ka hs.length kc], Row oa (rows (masksN cs cs.length)), Row A (rows cs), Row B (rows hs), Row (some ⟨gl2, 0, none⟩) [.slice A2 cs2.length ca2, .slice B2 hs2.length cb2, .slice oa2 cs2.length oc2, .slice ka2 hs2.length kc2], Row oa2 (rows (masksN cs2 cs2.length)), Row A2 (rows cs2), Row B2 (rows hs2)]))⟩ ?_ ?_
       ·skip
        refine hc_region ?_
        refine r_move rfl rfl ?_
        refine r_move rfl rfl ?_
        refine g_split rfl rfl ?_ ?_
        ·intro hg1; have hg1' := hg1; try simp at hg1'
         refine g_yes rfl rfl hg1 ?_
         refine r_move rfl rfl ?_
         refine g_yes rfl rfl hg1 ?_
         refine r_not rfl rfl ?_
         refine p_t rfl rfl (bt1 hg1) rfl ?_
         refine r_assign rfl rfl ?_
         refine hl_nil ?_
         exact cut_n _ () trivial ⟨rfl, rfl, rfl, rfl, rfl, rfl, rfl, rfl, rfl, rfl, rfl, congrArg (fun b => some (Value.bool b)) (by exact an_y hg1), trivial⟩ (List.Sublist.refl _) ⟨(by repeat constructor), (by repeat constructor), (by repeat constructor), (by repeat constructor), (by repeat constructor), (by repeat constructor), (by repeat constructor), (by repeat constructor), (by repeat constructor), (by repeat constructor), (by repeat constructor), trivial⟩
        ·intro hg1; have hg1' := hg1; try simp at hg1'
         refine g_no rfl rfl rfl rfl rfl hg1 ?_
         refine g_no rfl rfl rfl rfl rfl hg1 ?_
         refine p_f rfl rfl (bf2 hg1) rfl ?_
         refine r_assign rfl rfl ?_
         refine hl_nil ?_
         exact cut_n _ () trivial ⟨rfl, rfl, rfl, rfl, rfl, rfl, rfl, rfl, rfl, rfl, rfl, congrArg (fun b => some (Value.bool b)) (by exact an_n hg1), trivial⟩ (List.Sublist.refl _) ⟨(by repeat constructor), (by repeat constructor), (by repeat constructor), (by repeat constructor), (by repeat constructor), (by repeat constructor), (by repeat constructor), (by repeat constructor), (by repeat constructor), (by repeat constructor), (by repeat constructor), trivial⟩
       ·refine fun _ _ => ?_
        first | refine c_dec rfl (fun hb5 => ?_) (fun hb5 => ?_) | refine hc_cond rfl (fun hb5 => ?_) (fun hb5 => ?_)
        ·have hb5' := hb5; try simp at hb5'
         refine hc_region ?_
         refine r_move rfl rfl ?_
         refine r_move rfl rfl ?_
         refine r_build _ rfl rfl (fun _ => T.bd_api_Move_0_1 ..) ?_
         refine r_buildSlice _ rfl rfl (fun _ => T.bs_L_api_Move_1 ..) fun gS => ?_
         refine hl_letgo (rows [((wat r k, (1 : Int)) : Cl)]) (List.prefix_refl _) ?_
         refine r_append (((r.take (k)).filterMap (moveN (trOf cs hs) (trOf cs2 hs2))).length + 1) (rows (((r.take (k)).filterMap (moveN (trOf cs hs) (trOf cs2 hs2))) ++ [((wat r k, (1 : Int)) : Cl)])) T.el_L_api_Move rfl rfl rfl hG (hp' := []) (by first | (rw [List.append_nil]; done) | (rw [List.append_nil]; exact List.Perm.refl _)) (Src.row (news := rows [((wat r k, (1 : Int)) : Cl)]) (m := 1) m0 rfl (rows_one _) (by decide)) rfl (rows_append _ _).symm (by unfold maxLen; omega) (by omega) fun A' c' og' hG' => ?_
         refine r_assign rfl rfl ?_
         refine hl_nil ?_
         refine inb_n ?_
         refine inb_n ?_
         refine then_n ?_
         refine hc_region ?_
         refine r_add _ rfl rfl rfl rfl (by unfold I64; omega) ?_
         refine r_move rfl rfl ?_
         refine hl_nil ?_
         have hst := out_step (f := moveN (trOf cs hs) (trOf cs2 hs2)) hk2
         rw [show moveN (trOf cs hs) (trOf cs2 hs2) (wat r k) = some (wat r k, 1) from by rw [move_eq]; rw [if_pos hb5]] at hst
         exact again _ (k + 1, (A', c'), og') ⟨by show k + 1 ≤ r.length; omega, by show Grow _ _ _ ((r.take (k + 1)).filterMap (moveN (trOf cs hs) (trOf cs2 hs2))).length _ (rows ((r.take (k + 1)).filterMap (moveN (trOf cs hs) (trOf cs2 hs2)))) _; rw [hst]; rw [List.length_append]; exact hG'⟩ (by show r.length - (k + 1) < r.length - k; omega) ⟨rfl, rfl, (by show some (Value.slice A' (((r.take (k)).filterMap (moveN (trOf cs hs) (trOf cs2 hs2))).length + 1) c') = some (Value.slice A' ((r.take (k + 1)).filterMap (moveN (trOf cs hs) (trOf cs2 hs2))).length c'); rw [hst, List.length_append]; rfl), rfl, rfl, rfl, trivial⟩ (List.sublist_append_left _ _) ⟨(by repeat constructor), (by repeat constructor), (by repeat constructor), (by repeat constructor), (by repeat constructor), (by repeat constructor), (by repeat constructor), (by repeat constructor), (by repeat constructor), trivial⟩
        ·have hb5' := hb5; try simp at hb5'
         refine hc_cut ⟨fun _ : Unit => True, fun _ => [(6, .pointer (some ⟨gl, 0, none⟩)), (8, .pointer (some ⟨gl2, 0, none⟩)), (12, .slice na ((r.take (k)).filterMap (moveN (trOf cs hs) (trOf cs2 hs2))).length nc), (55, .slice A3 r.length c3), (56, int r.length), (57, int k), (14, str (wat r k)), (15, .slice y1.1 ((namesN (trOf cs hs) (wat r k)).getD []).length y1.2), (16, .bool (namesN (trOf cs hs) (wat r k)).isSome), (17, .slice y2.1 ((namesN (trOf cs2 hs2) (wat r k)).getD []).length y2.2), (18, .bool (namesN (trOf cs2 hs2) (wat r k)).isSome), (84, .bool ((namesN (trOf cs2 hs2) (wat r k)).isSome && !(namesN (trOf cs hs) (wat r k)).isSome))], fun _ => og, fun _ => (Row y2.1 (rows ((namesN (trOf cs2 hs2) (wat r k)).getD [])) :: Row y1.1 (rows ((namesN (trOf cs hs) (wat r k)).getD [])) :: (Row A3 (rows r) :: [Row (some ⟨gl, 0, none⟩) [.slice A cs.length ca, .slice B hs.length cb, .slice oa cs.length oc, .slice ka hs.length kc], Row oa (rows (masksN cs cs.length)), Row A (rows cs), Row B (rows hs), Row (some ⟨gl2, 0, none⟩) [.slice A2 cs2.length ca2, .slice B2 hs2.length cb2, .slice oa2 cs2.length oc2, .slice ka2 hs2.length kc2], Row oa2 (rows (masksN cs2 cs2.length)), Row A2 (rows cs2), Row B2 (rows hs2)]))⟩ ?_ ?_
         ·skip
          refine hc_region ?_
          refine r_move rfl rfl ?_
          refine r_move rfl rfl ?_
          refine g_split rfl rfl ?_ ?_
          ·intro hg2; have hg2' := hg2; try simp at hg2'
           refine g_yes rfl rfl hg2 ?_
           refine r_move rfl rfl ?_
           refine g_yes rfl rfl hg2 ?_
           refine r_not rfl rfl ?_
           refine p_t rfl rfl (bt1 hg2) rfl ?_
           refine r_assign rfl rfl ?_
           refine hl_nil ?_
           exact cut_n _ () trivial ⟨rfl, rfl, rfl, rfl, rfl, rfl, rfl, rfl, rfl, rfl, rfl, congrArg (fun b => some (Value.bool b)) (by exact an_y hg2), trivial⟩ (List.Sublist.refl _) ⟨(by repeat constructor), (by repeat constructor), (by repeat constructor), (by repeat constructor), (by repeat constructor), (by repeat constructor), (by repeat constructor), (by repeat constructor), (by repeat constructor), (by repeat constructor), (by repeat constructor), trivial⟩
          ·intro hg2; have hg2' := hg2; try simp at hg2'
           refine g_no rfl rfl rfl rfl rfl hg2 ?_
           refine g_no rfl rfl rfl rfl rfl hg2 ?_
           refine p_f rfl rfl (bf2 hg2) rfl ?_
           refine r_assign rfl rfl ?_
           refine hl_nil ?_
           exact cut_n _ () trivial ⟨rfl, rfl, rfl, rfl, rfl, rfl, rfl, rfl, rfl, rfl, rfl, congrArg (fun b => some (Value.bool b)) (by exact an_n hg2), trivial⟩ (List.Sublist.refl _) ⟨(by repeat constructor), (by repeat constructor), (by repeat constructor), (by repeat constructor), (by repeat constructor), (by repeat constructor), (by repeat constructor), (by repeat constructor), (by repeat constructor), (by repeat constructor), (by repeat constructor), trivial⟩
         ·refine fun _ _ => ?_
          first | refine c_dec rfl (fun hb6 => ?_) (fun hb6 => ?_) | refine hc_cond rfl (fun hb6 => ?_) (fun hb6 => ?_)
          ·have hb6' := hb6; try simp at hb6'
           refine hc_region ?_
           refine r_move rfl rfl ?_
           refine r_move rfl rfl ?_
           refine r_build _ rfl rfl (fun _ => T.bd_api_Move_0_1 ..) ?_
           refine r_buildSlice _ rfl rfl (fun _ => T.bs_L_api_Move_1 ..) fun gS => ?_
           refine hl_letgo (rows [((wat r k, (2 : Int)) : Cl)]) (List.prefix_refl _) ?_
           refine r_append (((r.take (k)).filterMap (moveN (trOf cs hs) (trOf cs2 hs2))).length + 1) (rows (((r.take (k)).filterMap (moveN (trOf cs hs) (trOf cs2 hs2))) ++ [((wat r k, (2 : Int)) : Cl)])) T.el_L_api_Move rfl rfl rfl hG (hp' := []) (by first | (rw [List.append_nil]; done) | (rw [List.append_nil]; exact List.Perm.refl _)) (Src.row (news := rows [((wat r k, (2 : Int)) : Cl)]) (m := 1) m0 rfl (rows_one _) (by decide)) rfl (rows_append _ _).symm (by unfold maxLen; omega) (by omega) fun A' c' og' hG' => ?_
           refine r_assign rfl rfl ?_
           refine hl_nil ?_
           refine inb_n ?_
           refine inb_n ?_
           refine then_n ?_
           refine hc_region ?_
           refine r_add _ rfl rfl rfl rfl (by unfold I64; omega) ?_
           refine r_move rfl rfl ?_
           refine hl_nil ?_
           have hst := out_step (f := moveN (trOf cs hs) (trOf cs2 hs2)) hk2
           rw [show moveN (trOf cs hs) (trOf cs2 hs2) (wat r k) = some (wat r k, 2) from by rw [move_eq]; rw [if_neg (by rw [hb5]; decide), if_pos hb6]] at hst
           exact again _ (k + 1, (A', c'), og') ⟨by show k + 1 ≤ r.length; omega, by show Grow _ _ _ ((r.take (k + 1)).filterMap (moveN (trOf cs hs) (trOf cs2 hs2))).length _ (rows ((r.take (k + 1)).filterMap (moveN (trOf cs hs) (trOf cs2 hs2)))) _; rw [hst]; rw [List.length_append]; exact hG'⟩ (by show r.length - (k + 1) < r.length - k; omega) ⟨rfl, rfl, (by show some (Value.slice A' (((r.take (k)).filterMap (moveN (trOf cs hs) (trOf cs2 hs2))).length + 1) c') = some (Value.slice A' ((r.take (k + 1)).filterMap (moveN (trOf cs hs) (trOf cs2 hs2))).length c'); rw [hst, List.length_append]; rfl), rfl, rfl, rfl, trivial⟩ (List.sublist_append_left _ _) ⟨(by repeat constructor), (by repeat constructor), (by repeat constructor), (by repeat constructor), (by repeat constructor), (by repeat constructor), (by repeat constructor), (by repeat constructor), (by repeat constructor), trivial⟩
          ·have hb6' := hb6; try simp at hb6'
           refine hc_seq ?_
           refine hc_region ?_
           refine r_move rfl rfl ?_
           refine r_move rfl rfl ?_
           refine hl_call F.slices_Equal_strs_cb rfl rfl (slices_Equal_strs_meets ((namesN (trOf cs hs) (wat r k)).getD []) ((namesN (trOf cs2 hs2) (wat r k)).getD []) (Nat.le_trans (names_len hok (wat r k)) (by decide))) (List.Perm.refl _) ⟨(by repeat constructor), (by repeat constructor), trivial⟩ fun _ _ => ?_
           refine r_not rfl rfl ?_
           refine r_assign rfl rfl ?_
           refine hl_nil ?_
           refine then_n ?_
           first | refine c_dec rfl (fun hb7 => ?_) (fun hb7 => ?_) | refine hc_cond rfl (fun hb7 => ?_) (fun hb7 => ?_)
           ·have hb7' := hb7; try simp at hb7'
            refine hc_region ?_
            refine r_move rfl rfl ?_
            refine r_move rfl rfl ?_
            refine r_build _ rfl rfl (fun _ => T.bd_api_Move_0_1 ..) ?_
            refine r_buildSlice _ rfl rfl (fun _ => T.bs_L_api_Move_1 ..) fun gS => ?_
            refine hl_letgo (rows [((wat r k, (3 : Int)) : Cl)]) (List.prefix_refl _) ?_
            refine r_append (((r.take (k)).filterMap (moveN (trOf cs hs) (trOf cs2 hs2))).length + 1) (rows (((r.take (k)).filterMap (moveN (trOf cs hs) (trOf cs2 hs2))) ++ [((wat r k, (3 : Int)) : Cl)])) T.el_L_api_Move rfl rfl rfl hG (hp' := []) (by first | (rw [List.append_nil]; done) | (rw [List.append_nil]; exact List.Perm.refl _)) (Src.row (news := rows [((wat r k, (3 : Int)) : Cl)]) (m := 1) m0 rfl (rows_one _) (by decide)) rfl (rows_append _ _).symm (by unfold maxLen; omega) (by omega) fun A' c' og' hG' => ?_
            refine r_assign rfl rfl ?_
            refine hl_nil ?_
            refine inb_n ?_
            refine inb_n ?_
            refine then_n ?_
            refine hc_region ?_
            refine r_add _ rfl rfl rfl rfl (by unfold I64; omega) ?_
            refine r_move rfl rfl ?_
            refine hl_nil ?_
            have hst := out_step (f := moveN (trOf cs hs) (trOf cs2 hs2)) hk2
            rw [show moveN (trOf cs hs) (trOf cs2 hs2) (wat r k) = some (wat r k, 3) from by rw [move_eq]; rw [if_neg (by rw [hb5]; decide), if_neg (by rw [hb6]; decide), if_neg (by simpa using hb7)]] at hst
            exact again _ (k + 1, (A', c'), og') ⟨by show k + 1 ≤ r.length; omega, by show Grow _ _ _ ((r.take (k + 1)).filterMap (moveN (trOf cs hs) (trOf cs2 hs2))).length _ (rows ((r.take (k + 1)).filterMap (moveN (trOf cs hs) (trOf cs2 hs2)))) _; rw [hst]; rw [List.length_append]; exact hG'⟩ (by show r.length - (k + 1) < r.length - k; omega) ⟨rfl, rfl, (by show some (Value.slice A' (((r.take (k)).filterMap (moveN (trOf cs hs) (trOf cs2 hs2))).length + 1) c') = some (Value.slice A' ((r.take (k + 1)).filterMap (moveN (trOf cs hs) (trOf cs2 hs2))).length c'); rw [hst, List.length_append]; rfl), rfl, rfl, rfl, trivial⟩ (List.sublist_append_left _ _) ⟨(by repeat constructor), (by repeat constructor), (by repeat constructor), (by repeat constructor), (by repeat constructor), (by repeat constructor), (by repeat constructor), (by repeat constructor), (by repeat constructor), trivial⟩
           ·have hb7' := hb7; try simp at hb7'
            refine hc_skip ?_
            refine inb_n ?_
            refine inb_n ?_
            refine then_n ?_
            refine hc_region ?_
            refine r_add _ rfl rfl rfl rfl (by unfold I64; omega) ?_
            refine r_move rfl rfl ?_
            refine hl_nil ?_
            have hst := out_step (f := moveN (trOf cs hs) (trOf cs2 hs2)) hk2
            rw [show moveN (trOf cs hs) (trOf cs2 hs2) (wat r k) = none from by rw [move_eq]; rw [if_neg (by rw [hb5]; decide), if_neg (by rw [hb6]; decide), if_pos (by simpa using hb7)]] at hst
            rw [Option.toList_none, List.append_nil] at hst
            exact again _ (k + 1, (na, nc), og) ⟨by show k + 1 ≤ r.length; omega, by show Grow _ _ _ ((r.take (k + 1)).filterMap (moveN (trOf cs hs) (trOf cs2 hs2))).length _ (rows ((r.take (k + 1)).filterMap (moveN (trOf cs hs) (trOf cs2 hs2)))) _; rw [hst]; exact hG⟩ (by show r.length - (k + 1) < r.length - k; omega) ⟨rfl, rfl, (by show some (Value.slice na ((r.take (k)).filterMap (moveN (trOf cs hs) (trOf cs2 hs2))).length nc) = some (Value.slice na ((r.take (k + 1)).filterMap (moveN (trOf cs hs) (trOf cs2 hs2))).length nc); rw [hst]), rfl, rfl, rfl, trivial⟩ (List.Sublist.refl _) ⟨(by repeat constructor), (by repeat constructor), (by repeat constructor), (by repeat constructor), (by repeat constructor), (by repeat constructor), (by repeat constructor), (by repeat constructor), (by repeat constructor), trivial⟩
      ·have hb4' := hb4; try simp at hb4'
       have hk2 : k = r.length := by omega
       subst hk2
       refine hc_exit ?_
       refine then_exit ?_
       refine then_exit ?_
       refine inb_hit ?_
       refine then_n ?_
       refine hc_seq ?_
       refine hc_region ?_
       refine r_move rfl rfl ?_
       refine r_assign rfl rfl ?_
       refine r_assign rfl rfl ?_
       refine hl_nil ?_
       refine then_n ?_
       refine hc_ret ?_
       have hle := hG.le
       refine hq_grown0 hG ?_
       have hO : ((r.take (r.length)).filterMap (moveN (trOf cs hs) (trOf cs2 hs2))) = ((compareE (trOf cs hs) (trOf cs2 hs2))).1 := by rw [hE, List.take_length, hr]; rfl
       rw [hO] at hle ⊢
       exact ret2 (na, nc) rfl rfl rfl (by show Value.tuple #[.slice na ((compareE (trOf cs hs) (trOf cs2 hs2))).1.length nc, int ((compareE (trOf cs hs) (trOf cs2 hs2))).2] = _; rw [hE]) rfl (by show ((compareE (trOf cs hs) (trOf cs2 hs2))).1.length ≤ nc; exact hle) (List.nil_sublist _) ⟨m0, trivial⟩

end Go.Proofs.Ytlpgheniajdkfaa
