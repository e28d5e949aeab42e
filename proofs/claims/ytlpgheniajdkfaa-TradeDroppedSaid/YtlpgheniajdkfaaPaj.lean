/- The names of the classes above a heading; equal lists of words. -/
import Derived.Test.YtlpgheniajdkfaaPai
namespace Go.Proofs.Ytlpgheniajdkfaa
open Go Go.W
set_option linter.unusedVariables false
set_option linter.unusedSimpArgs false
set_option maxRecDepth 20000
attribute [local irreducible] HL HC HQ HB Row Rows2 Blk Facts

/-- The heading is the one that is looked for. -/
def hitB (s : Str) (h : Hd) : Bool := decide (h.1 = s) && decide (¬ h.2.1 = -1)
theorem hit_no1 {s : Str} {x : Hd} (h : ¬ x.1 = s) : hitB s x = false := by unfold hitB; rw [decide_eq_false h]; rfl
theorem hit_no2 {s : Str} {x : Hd} (h : x.2.1 = -1) : hitB s x = false := by unfold hitB; simp [h]
theorem hit_yes {s : Str} {x : Hd} (h : x.1 = s) (h2 : ¬ x.2.1 = -1) : hitB s x = true := by unfold hitB; simp [h, h2]
def nameOf (cs : List Cl) (c : Int) : Str := (cs.getD c.toNat default).1
theorem names_of (cs : List Cl) (hs : List Hd) (s : Str) : namesN (trOf cs hs) s = (hs.find? (hitB s)).map fun h => (pathT cs h.2.1).map (nameOf cs) := by
  unfold namesN
  show ((hs.map Hd.p).find? _).map _ = _
  rw [List.find?_map, Option.map_map]
  rfl
theorem names_at {cs : List Cl} {hs : List Hd} {s : Str} {k : Nat} (hk : k < hs.length) (h1 : hitB s (hs.getD k default) = true) (ht : ∀ i, i < k → hitB s (hs.getD i default) = false) : namesN (trOf cs hs) s = some ((pathT cs (hs.getD k default).2.1).map (nameOf cs)) := by
  rw [names_of]
  have : hs.find? (hitB s) = some (hs.getD k default) := by
    rw [List.find?_eq_some_iff_getElem]
    refine ⟨h1, k, hk, (getD_at hk).symm, fun j hj => ?_⟩
    have := ht j hj
    rw [getD_at (by omega)] at this
    simp [this]
  rw [this]
  rfl
theorem names_no {cs : List Cl} {hs : List Hd} {s : Str} (ht : ∀ i, i < hs.length → hitB s (hs.getD i default) = false) : namesN (trOf cs hs) s = none := by
  rw [names_of]
  have : hs.find? (hitB s) = none := by
    rw [List.find?_eq_none]
    intro x hx
    obtain ⟨i, hi, rfl⟩ := List.getElem_of_mem hx
    have := ht i hi
    rw [getD_at hi] at this
    simp [this]
  rw [this]
  rfl
theorem hit_next {s : Str} {hs : List Hd} {k : Nat} (ht : ∀ i, i < k → hitB s (hs.getD i default) = false) (h : hitB s (hs.getD k default) = false) : ∀ i, i < k + 1 → hitB s (hs.getD i default) = false := fun i hi => by
  rcases Nat.lt_or_ge i k with h1 | h1
  · exact ht i h1
  · rw [show i = k by omega]; exact h

set_option maxHeartbeats 1000000 in
theorem trade_list_names_meets {A B oa ka : Option Addr} {ca cb oc kc gl : Nat} (cs : List Cl) (hs : List Hd) (s : Str) (hok : TrOK (trOf cs hs)) : Meets Try.prog F.trade_list_names [.pointer (some ⟨gl, 0, none⟩), str s] { LI := [Row (some ⟨gl, 0, none⟩) [.slice A cs.length ca, .slice B hs.length cb, .slice oa cs.length oc, .slice ka hs.length kc], Row oa (rows (masksN cs cs.length)), Row A (rows cs), Row B (rows hs)], inv := fun x : OutC => ((namesN (trOf cs hs) s).getD []).length ≤ x.2, val := fun x => .tuple #[.slice x.1 ((namesN (trOf cs hs) s).getD []).length x.2, .bool (namesN (trOf cs hs) s).isSome], LO := fun x => [Row x.1 (rows ((namesN (trOf cs hs) s).getD []))] } := by
 refine meets_intro F.trade_list_names_f rfl (Nat.le_of_ble_eq_true rfl) fun w0 => ?_
 refine hc_seq ?_
 refine hc_region ?_
 refine r_assign rfl rfl ?_
 refine r_assign rfl rfl ?_
 refine hl_nil ?_
 refine then_n ?_
 refine hc_seq ?_
 refine hc_seq ?_
 have h6 : cs.length ≤ 6 := hok.c6
 have h6h := hok.h6
 rw [hs_len] at h6h
 have hcl : ∀ i, i < cs.length → ClsOK cs i := hok.c
 refine hc_region ?_
 refine r_move rfl rfl ?_
 refine r_nilCheck rfl rfl ?_
 first | refine r_fieldAddr ⟨_, 0, none⟩ rfl rfl T.fa_trade_list_0 rfl ?_ | refine r_fieldAddr _ rfl rfl T.fa_trade_list_0 rfl ?_
 first | refine r_fieldAddr ⟨_, 1, none⟩ rfl rfl T.fa_api_Trades_1 rfl ?_ | refine r_fieldAddr _ rfl rfl T.fa_api_Trades_1 rfl ?_
 first | refine r_load rfl T.cell_L_api_Head rfl (cell_own (by repeat constructor) rfl) ?_ | refine r_load rfl T.cell_L_api_Head rfl (cell_blk (by repeat constructor) rfl) ?_ | refine r_load rfl T.cell_L_api_Head rfl (cell_row (by repeat constructor) (rows_get0 (by omega) rfl)) ?_ | refine r_load rfl T.cell_L_api_Head rfl (cell_row_f (by repeat constructor) (rows_get (by omega) rfl)) ?_ | refine r_load rfl T.cell_L_api_Head rfl (cell_rowg (by repeat constructor) rfl) ?_
 refine r_len_sl rfl T.u_L_api_Head rfl ?_
 refine r_move rfl rfl ?_
 refine hl_nil ?_
 refine then_n ?_
 refine hc_block ?_
 refine hc_loop (β := Nat) ⟨fun k => k ≤ hs.length ∧ ∀ i, i < k → hitB s (hs.getD i default) = false, fun k => [(0, .pointer (some ⟨gl, 0, none⟩)), (1, str s), (15, .slice B hs.length cb), (16, int hs.length), (17, int k)], fun _ => [], fun _ => [Row (some ⟨gl, 0, none⟩) [.slice A cs.length ca, .slice B hs.length cb, .slice oa cs.length oc, .slice ka hs.length kc], Row oa (rows (masksN cs cs.length)), Row A (rows cs), Row B (rows hs)]⟩ (fun k => hs.length - k) 0 ⟨Nat.zero_le _, fun i hi => by omega⟩ ⟨rfl, rfl, rfl, rfl, rfl, trivial⟩ (List.nil_sublist _) ⟨(by repeat constructor), (by repeat constructor), (by repeat constructor), (by repeat constructor), trivial⟩ fun k hk => ?_
 obtain ⟨hk, ht⟩ := hk
 refine hc_seq ?_
 refine hc_region ?_
 refine r_lss rfl rfl rfl ?_
 refine hl_nil ?_
 refine then_n ?_
 refine hc_seq ?_
 first | refine c_dec rfl (fun hb1 => ?_) (fun hb1 => ?_) | refine hc_cond rfl (fun hb1 => ?_) (fun hb1 => ?_)
 ·have hb1' := hb1; try simp at hb1'
  have hk2 : k < hs.length := by omega
  have hcc : -1 ≤ (hs.getD k default).2.1 ∧ (hs.getD k default).2.1 < (cs.length : Int) := by
    have := (hok.h k (by rw [hs_len]; exact hk2)).c
    simp only [trOf, hd_get hk2] at this
    exact this
  refine hc_skip ?_
  refine then_n ?_
  refine hc_seq ?_
  refine hc_block ?_
  refine hc_seq ?_
  refine hc_region ?_
  refine r_elem (α := Hd) _ _ rfl T.u_L_api_Head T.sz_api_Head rfl rfl rfl (by repeat constructor) rfl (by omega) (by decide) ?_
  refine r_loadS rfl T.row_api_Head T.sz_api_Head rfl rfl (cells_row (by repeat constructor) (rows_all (by omega))) ?_
  refine r_alloc rfl (fun _ => T.al_api_Head _) fun gA => ?_
  refine r_storeS rfl rfl (by first | exact .refl _ | exact perm2 _ _ _ | exact perm3 _ _ _ _ | exact perm4 _ _ _ _ _) T.sz_api_Head (by rfl) (by rfl) ?_
  refine hl_nil ?_
  refine then_n ?_
  refine hc_seq ?_
  refine hc_seq ?_
  refine hc_letgo (rows [hs.getD k default]) ⟨[], List.append_nil _⟩ ?_
  refine hc_region ?_
  first | refine r_fieldAddr ⟨_, 0, none⟩ rfl rfl T.fa_api_Head_0 rfl ?_ | refine r_fieldAddr _ rfl rfl T.fa_api_Head_0 rfl ?_
  first | refine r_load rfl T.cell_string rfl (cell_own (by repeat constructor) rfl) ?_ | refine r_load rfl T.cell_string rfl (cell_blk (by repeat constructor) rfl) ?_ | refine r_load rfl T.cell_string rfl (cell_row (by repeat constructor) (rows_get0 (by omega) rfl)) ?_ | refine r_load rfl T.cell_string rfl (cell_row_f (by repeat constructor) (rows_get (by omega) rfl)) ?_ | refine r_load rfl T.cell_string rfl (cell_rowg (by repeat constructor) rfl) ?_
  refine r_move rfl rfl ?_
  refine r_sneq rfl rfl rfl ?_
  refine r_move rfl rfl ?_
  refine g_split rfl rfl ?_ ?_
  ·intro hg1; have hg1' := hg1; try simp at hg1'
   have e1 : (hs.getD k default).1 = s := by simp only [beq_iff_eq, decide_eq_false_iff_not] at hg1; exact Classical.not_not.1 hg1
   refine g_yes rfl rfl hg1 ?_
   first | refine r_fieldAddr ⟨_, 1, none⟩ rfl rfl T.fa_api_Head_1 rfl ?_ | refine r_fieldAddr _ rfl rfl T.fa_api_Head_1 rfl ?_
   refine g_yes rfl rfl hg1 ?_
   first | refine r_load rfl T.cell_int rfl (cell_own (by repeat constructor) rfl) ?_ | refine r_load rfl T.cell_int rfl (cell_blk (by repeat constructor) rfl) ?_ | refine r_load rfl T.cell_int rfl (cell_row (by repeat constructor) (rows_get0 (by omega) rfl)) ?_ | refine r_load rfl T.cell_int rfl (cell_row_f (by repeat constructor) (rows_get (by omega) rfl)) ?_ | refine r_load rfl T.cell_int rfl (cell_rowg (by repeat constructor) rfl) ?_
   refine g_yes rfl rfl hg1 ?_
   refine r_eql rfl rfl rfl ?_
   refine p_f rfl rfl (bf1 hg1) rfl ?_
   refine hl_nil ?_
   refine then_n ?_
   first | refine c_dec rfl (fun hb2 => ?_) (fun hb2 => ?_) | refine hc_cond rfl (fun hb2 => ?_) (fun hb2 => ?_)
   ·have hb2' := hb2; try simp at hb2'
    have hh : hitB s (hs.getD k default) = false := hit_no2 hb2
    refine hc_exit ?_
    refine then_exit ?_
    refine inb_hit ?_
    refine then_n ?_
    refine hc_region ?_
    refine r_add _ rfl rfl rfl rfl (by unfold I64; omega) ?_
    refine r_move rfl rfl ?_
    refine hl_nil ?_
    exact again _ (k + 1) ⟨by omega, hit_next ht hh⟩ (by show hs.length - (k + 1) < hs.length - k; omega) ⟨rfl, rfl, rfl, rfl, rfl, trivial⟩ (List.nil_sublist _) ⟨(by repeat constructor), (by repeat constructor), (by repeat constructor), (by repeat constructor), trivial⟩
   ·have hb2' := hb2; try simp at hb2'
    have hh : hitB s (hs.getD k default) = true := hit_yes e1 hb2
    have hN := names_at (cs := cs) hk2 hh ht
    refine hc_skip ?_
    refine then_n ?_
    refine hc_seq ?_
    refine hc_region ?_
    refine r_assign rfl rfl ?_
    refine hl_nil ?_
    refine then_n ?_
    refine hc_seq ?_
    refine hc_seq ?_
    refine hc_region ?_
    refine r_move rfl rfl ?_
    first | refine r_fieldAddr ⟨_, 1, none⟩ rfl rfl T.fa_api_Head_1 rfl ?_ | refine r_fieldAddr _ rfl rfl T.fa_api_Head_1 rfl ?_
    first | refine r_load rfl T.cell_int rfl (cell_own (by repeat constructor) rfl) ?_ | refine r_load rfl T.cell_int rfl (cell_blk (by repeat constructor) rfl) ?_ | refine r_load rfl T.cell_int rfl (cell_row (by repeat constructor) (rows_get0 (by omega) rfl)) ?_ | refine r_load rfl T.cell_int rfl (cell_row_f (by repeat constructor) (rows_get (by omega) rfl)) ?_ | refine r_load rfl T.cell_int rfl (cell_rowg (by repeat constructor) rfl) ?_
    refine hl_call F.trade_list_path_cb rfl rfl (trade_list_path_meets (A := A) (B := B) (oa := oa) (oc := oc) (ka := ka) (kc := kc) (gl := gl) (ca := ca) (cb := cb) cs hs (hs.getD k default).2.1 (by omega) hcc.2 h6 hcl) (List.Perm.refl _) ⟨(by repeat constructor), (by repeat constructor), trivial⟩ fun y hy => ?_
    obtain ⟨ya, yc⟩ := y
    have hps := path_small h6 hcl hcc.2
    have hpa := path_asc cs hcl (hs.getD k default).2.1.toNat _ (Nat.le_refl _) hcc.2
    have hpl : (pathT cs (hs.getD k default).2.1).length ≤ 6 := by
      have := congrArg List.length (path_bits h6 hcl hcc.2)
      have h2 := mayK_len (maskOf (pathT cs (hs.getD k default).2.1)) cs.length
      omega
    refine r_len_sl rfl T.u_ints rfl ?_
    refine r_move rfl rfl ?_
    refine hl_nil ?_
    refine then_n ?_
    refine hc_block ?_
    refine hc_loop (β := Nat × OutC × Hp) ⟨fun x => x.1 ≤ (pathT cs (hs.getD k default).2.1).length ∧ Grow T.string 1 x.2.1.1 x.1 x.2.1.2 (rows (((pathT cs (hs.getD k default).2.1).take (x.1)).map (nameOf cs))) x.2.2, fun x => [(0, .pointer (some ⟨gl, 0, none⟩)), (8, .slice x.2.1.1 x.1 x.2.1.2), (33, .slice ya (pathT cs (hs.getD k default).2.1).length yc), (34, int (pathT cs (hs.getD k default).2.1).length), (35, int x.1)], fun x => x.2.2, fun _ => Row ya (rows (pathT cs (hs.getD k default).2.1)) :: [Row (some ⟨gl, 0, none⟩) [.slice A cs.length ca, .slice B hs.length cb, .slice oa cs.length oc, .slice ka hs.length kc], Row oa (rows (masksN cs cs.length)), Row A (rows cs), Row B (rows hs)]⟩ (fun x => (pathT cs (hs.getD k default).2.1).length - x.1) (0, (none, 0), []) ⟨Nat.zero_le _, Grow.nil _ _⟩ ⟨rfl, rfl, rfl, rfl, rfl, trivial⟩ (List.nil_sublist _) ⟨(by repeat constructor), (by repeat constructor), (by repeat constructor), (by repeat constructor), (by repeat constructor), trivial⟩ fun x hx => ?_
    obtain ⟨j, ⟨na, nc⟩, og⟩ := x
    obtain ⟨hj, hG⟩ := hx
    simp only at hj hG
    refine hc_seq ?_
    refine hc_region ?_
    refine r_lss rfl rfl rfl ?_
    refine hl_nil ?_
    refine then_n ?_
    refine hc_seq ?_
    first | refine c_dec rfl (fun hb3 => ?_) (fun hb3 => ?_) | refine hc_cond rfl (fun hb3 => ?_) (fun hb3 => ?_)
    ·have hb3' := hb3; try simp at hb3'
     have hj2 : j < (pathT cs (hs.getD k default).2.1).length := by omega
     have hcj := hpa.2 _ (getD_mem hj2)
     refine hc_skip ?_
     refine then_n ?_
     refine hc_seq ?_
     refine hc_block ?_
     refine hc_seq ?_
     refine hc_region ?_
     refine r_elem (α := Int) (pathT cs (hs.getD k default).2.1) j rfl T.u_ints T.sz_int rfl rfl rfl (by repeat constructor) rfl hj2 (by decide) ?_
     refine r_load (v := int ((pathT cs (hs.getD k default).2.1).getD j default)) rfl T.cell_int rfl (cell_row (by repeat constructor) (rows_get0 hj2 rfl)) ?_
     refine r_assign rfl rfl ?_
     refine hl_nil ?_
     refine then_n ?_
     refine hc_region ?_
     refine r_move rfl rfl ?_
     refine r_move rfl rfl ?_
     refine r_nilCheck rfl rfl ?_
     first | refine r_fieldAddr ⟨_, 0, none⟩ rfl rfl T.fa_trade_list_0 rfl ?_ | refine r_fieldAddr _ rfl rfl T.fa_trade_list_0 rfl ?_
     first | refine r_fieldAddr ⟨_, 0, none⟩ rfl rfl T.fa_api_Trades_0 rfl ?_ | refine r_fieldAddr _ rfl rfl T.fa_api_Trades_0 rfl ?_
     first | refine r_load rfl T.cell_L_api_Class rfl (cell_own (by repeat constructor) rfl) ?_ | refine r_load rfl T.cell_L_api_Class rfl (cell_blk (by repeat constructor) rfl) ?_ | refine r_load rfl T.cell_L_api_Class rfl (cell_row (by repeat constructor) (rows_get0 (by omega) rfl)) ?_ | refine r_load rfl T.cell_L_api_Class rfl (cell_row_f (by repeat constructor) (rows_get (by omega) rfl)) ?_ | refine r_load rfl T.cell_L_api_Class rfl (cell_rowg (by repeat constructor) rfl) ?_
     refine r_move rfl rfl ?_
     refine r_elem (α := Cl) cs ((pathT cs (hs.getD k default).2.1).getD j default).toNat rfl T.u_L_api_Class T.sz_api_Class rfl rfl (Int.toNat_of_nonneg hcj.1).symm (by repeat constructor) rfl (by omega) (by decide) ?_
     first | refine r_fieldAddr ⟨_, 0, none⟩ rfl rfl T.fa_api_Class_0 rfl ?_ | refine r_fieldAddr _ rfl rfl T.fa_api_Class_0 rfl ?_
     refine r_load (v := str (nameOf cs ((pathT cs (hs.getD k default).2.1).getD j default))) rfl T.cell_string rfl (cell_row (by repeat constructor) (rows_get0 (by omega) rfl)) ?_
     refine r_buildSlice _ rfl rfl (fun _ => T.bs_strs_1 ..) fun gS => ?_
     refine hl_letgo (rows [nameOf cs ((pathT cs (hs.getD k default).2.1).getD j default)]) (List.prefix_refl _) ?_
     refine r_append (j + 1) (rows ((((pathT cs (hs.getD k default).2.1).take (j)).map (nameOf cs)) ++ [nameOf cs ((pathT cs (hs.getD k default).2.1).getD j default)])) T.el_strs rfl rfl rfl hG (hp' := []) (by first | (rw [List.append_nil]; done) | (rw [List.append_nil]; exact List.Perm.refl _)) (Src.row (news := rows [nameOf cs ((pathT cs (hs.getD k default).2.1).getD j default)]) (m := 1) m0 rfl (rows_one _) (by decide)) rfl (rows_append _ _).symm (by unfold maxLen; omega) (by omega) fun A' c' og' hG' => ?_
     refine r_assign rfl rfl ?_
     refine hl_nil ?_
     refine inb_n ?_
     refine then_n ?_
     refine hc_region ?_
     refine r_add _ rfl rfl rfl rfl (by unfold I64; omega) ?_
     refine r_move rfl rfl ?_
     refine hl_nil ?_
     exact again _ (j + 1, (A', c'), og') ⟨by show j + 1 ≤ (pathT cs (hs.getD k default).2.1).length; omega, by show Grow _ _ _ _ _ (rows (((pathT cs (hs.getD k default).2.1).take (j + 1)).map (nameOf cs))) _; rw [take_succ_getD _ _ hj2, List.map_append]; exact hG'⟩ (by show (pathT cs (hs.getD k default).2.1).length - (j + 1) < (pathT cs (hs.getD k default).2.1).length - j; omega) ⟨rfl, rfl, rfl, rfl, rfl, trivial⟩ (List.sublist_append_left _ _) ⟨(by repeat constructor), (by repeat constructor), (by repeat constructor), (by repeat constructor), (by repeat constructor), trivial⟩
    ·have hb3' := hb3; try simp at hb3'
     have hj2 : j = (pathT cs (hs.getD k default).2.1).length := by omega
     subst hj2
     rw [List.take_length] at hG
     refine hc_exit ?_
     refine then_exit ?_
     refine then_exit ?_
     refine inb_hit ?_
     refine then_n ?_
     refine hc_seq ?_
     refine hc_region ?_
     refine r_move rfl rfl ?_
     refine r_assign rfl rfl ?_
     refine r_assign rfl rfl ?_
     refine hl_nil ?_
     refine then_n ?_
     refine hc_ret ?_
     refine inb_ret ?_
     refine then_ret ?_
     refine then_ret ?_
     refine inb_ret ?_
     refine then_ret ?_
     have hgl : ((namesN (trOf cs hs) s).getD []).length = (pathT cs (hs.getD k default).2.1).length := by rw [hN]; exact List.length_map ..
     refine hq_grown0 hG ?_
     exact ret2 (na, nc) rfl rfl rfl (by show Value.tuple #[.slice na ((namesN (trOf cs hs) s).getD []).length nc, .bool (namesN (trOf cs hs) s).isSome] = _; rw [hgl, hN]; rfl) rfl (by show ((namesN (trOf cs hs) s).getD []).length ≤ nc; rw [hgl]; exact hG.le) (List.nil_sublist _) (by show LSub _ [Row na (rows ((namesN (trOf cs hs) s).getD []))]; rw [hN]; exact ⟨m0, trivial⟩)
  ·intro hg1; have hg1' := hg1; try simp at hg1'
   have e1 : ¬ (hs.getD k default).1 = s := fun e => by rw [decide_eq_false (not_not_intro e)] at hg1; cases hg1
   refine g_no rfl rfl rfl rfl rfl hg1 ?_
   refine g_no rfl rfl rfl rfl rfl hg1 ?_
   refine g_no rfl rfl rfl rfl rfl hg1 ?_
   refine p_t rfl rfl (bt2 hg1) rfl ?_
   refine hl_nil ?_
   refine then_n ?_
   refine c_t rfl rfl ?_
   refine hc_exit ?_
   refine then_exit ?_
   refine inb_hit ?_
   refine then_n ?_
   refine hc_region ?_
   refine r_add _ rfl rfl rfl rfl (by unfold I64; omega) ?_
   refine r_move rfl rfl ?_
   refine hl_nil ?_
   exact again _ (k + 1) ⟨by omega, hit_next ht (hit_no1 e1)⟩ (by show hs.length - (k + 1) < hs.length - k; omega) ⟨rfl, rfl, rfl, rfl, rfl, trivial⟩ (List.nil_sublist _) ⟨(by repeat constructor), (by repeat constructor), (by repeat constructor), (by repeat constructor), trivial⟩
 ·have hb1' := hb1; try simp at hb1'
  have hk2 : k = hs.length := by omega
  subst hk2
  have hN := names_no (cs := cs) ht
  refine hc_exit ?_
  refine then_exit ?_
  refine then_exit ?_
  refine inb_hit ?_
  refine then_n ?_
  refine hc_seq ?_
  refine hc_region ?_
  refine r_assign rfl rfl ?_
  refine r_assign rfl rfl ?_
  refine hl_nil ?_
  refine then_n ?_
  refine hc_ret ?_
  refine hq_nilrow (α := Str) ?_
  exact ret2 (none, 0) rfl rfl rfl (by show Value.tuple #[.slice none ((namesN (trOf cs hs) s).getD []).length 0, .bool (namesN (trOf cs hs) s).isSome] = _; rw [hN]; rfl) rfl (by show ((namesN (trOf cs hs) s).getD []).length ≤ 0; rw [hN]; exact Nat.le_refl _) (List.nil_sublist _) (by show LSub _ [Row none (rows ((namesN (trOf cs hs) s).getD []))]; rw [hN]; exact ⟨m0, trivial⟩)

end Go.Proofs.Ytlpgheniajdkfaa
