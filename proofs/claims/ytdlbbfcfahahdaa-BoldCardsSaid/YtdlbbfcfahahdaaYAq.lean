/- Texts of this claim, one behind another. -/
import Derived.ProofKit
import Derived.OpenShut
import Derived.ShutString
import Derived.ChangeOld
import Derived.Below
import Derived.SliceStrings
import Derived.ChangeSlices
import Derived.Deep.Slices
import Derived.Deep.Strs
import Derived.Conc.LeavingOf
import Derived.Test.YtdlbbfcfahahdaaYAp
import Derived.Test.YtdlbbfcfahahdaaYAf
import Derived.Test.YtdlbbfcfahahdaaYAe
import Derived.Test.YtdlbbfcfahahdaaYAa
set_option linter.unusedVariables false
set_option linter.unusedSimpArgs false
section
namespace Go.Proofs.Ytdlbbfcfahahdaa
open Go Go.W
set_option maxRecDepth 20000
attribute [local irreducible] HL HC HQ HB Row Rows2 Blk Facts
theorem fill_len8 (cs : List Cd) (room : Int) : (fillE cs room).1.length ≤ 8 := by
  by_cases h0 : cardsE cs room = 0
  · have hk := cards_ok9 h0
    have h1 := fillO_len (cs := cs) (room := room) hk.2.2.1 cs.length; rw [fill_e h0]; show (fillO cs room cs.length).1.length ≤ 8
    omega
  · rw [fillE, if_pos h0]; exact Nat.zero_le _
theorem exact_len8 (cs : List Cd) (room : Int) : (exactE cs room).1.length ≤ 8 := by
  unfold exactE
  split
  · exact Nat.zero_le _
  · rename_i h1
    have h0 := Classical.not_not.1 h1
    split
    · exact Nat.zero_le _
    · rename_i h2
      unfold exactL at h2 ⊢
      rcases bestL_is tot_X (l := (handsK cs room (2 ^ cs.length)).filter fun x => decide (x.2.1 = room)) (fun x hx y hy => ex_inj (mem_exact.1 hx) (mem_exact.1 hy)) with ⟨h3, _⟩ | ⟨_, h3⟩
      · exact absurd h3 h2
      · obtain ⟨c, h4, h5, _⟩ := mem_exact.1 h3.1
        have h6 := h4.length_le; have h7 := (cards_ok9 h0).1; rw [upI_len] at h6; rw [h5]; show c.length ≤ 8
        omega
theorem law09_BoldCards_meets {R A : Option Addr} {rc cn : Nat} (rs : List Cd) (r0 : Int) (nums : List Int) (hrl : rs.length ≤ 9223372036854775807) (hn : nums.length ≤ 9223372036854775807) : Meets Try.prog F.law09_BoldCards [.slice R rs.length rc, int r0, .slice A nums.length cn] { LI := [Row R (rows rs), Row A (rows nums)], val := fun _ : Unit => .bool true } := by
 refine meets_intro F.law09_BoldCards_f rfl (Nat.le_of_ble_eq_true rfl) fun w0 => ?_; refine hc_seq (hc_region (r_assign rfl rfl (hl_nil (then_n (hc_seq (hc_seq (hc_region (r_move rfl rfl ?_)))))))); refine r_len_sl rfl T.u_L_api_Card rfl ?_; refine r_gtr rfl rfl rfl (hl_nil (then_n ?_)); refine c_dec rfl (fun hb1 => ?_) (fun hb1 => ?_)
 ·have hb1' := hb1; try simp at hb1'
  refine hc_seq (hc_region ?_); refine hl_call F.law09_paying_cb rfl rfl (law09_paying_meets) (List.Perm.refl _) trivial fun _ _ => ?_; refine r_assign rfl rfl (hl_nil (then_n (hc_ret (then_ret ?_)))); exact ret1 () rfl rfl rfl trivial (List.nil_sublist _) trivial
 ·have hb1' := hb1; try simp at hb1'
  have hr20 : rs.length ≤ 20 := by omega
  refine hc_skip (then_n (hc_seq (hc_region (r_move rfl rfl ?_)))); refine hl_call F.kit_NewDice_cb rfl rfl (kit_NewDice_meets nums) (List.Perm.refl _) ⟨mB, trivial⟩ fun g _ => ?_; refine r_assign rfl rfl (hl_nil (then_n (hc_seq (hc_region (r_move rfl rfl ?_))))); refine hl_call F.kit_CardsOf_cb rfl rfl (kit_CardsOf_meets 6 hn (dok0 nums) (by decide)) (List.Perm.refl _) ⟨mB, trivial⟩ fun xs1 hs1 => ?_; obtain ⟨s1, y⟩ := xs1; obtain ⟨hs1, hy⟩ := hs1; simp only at hs1; obtain ⟨cs, cA, cC⟩ := y; obtain ⟨h6, hcs, hcap⟩ := hy; simp only at h6 hcs hcap; refine r_assign rfl rfl (hl_nil (then_n (hc_seq (hc_region (r_move rfl rfl (r_move rfl rfl (r_move rfl rfl ?_))))))); refine r_buildSlice _ rfl rfl (fun _ => T.bs_L_L_api_Card_3 ..) fun gL => ?_; refine hl_letgo (rows ([⟨R, rc, rs⟩, ⟨cA, cC, cs⟩, ⟨cA, cC, cs⟩] : List (Sl Cd))) (List.prefix_refl _) ?_; refine r_move rfl rfl (r_move rfl rfl ?_); refine hl_call F.kit_Dice_To_cb rfl rfl (kit_Dice_To_meets (20) hn hs1 (by omega)) (List.Perm.refl _) ⟨mB, trivial⟩ fun xs2 hs2 => ?_; obtain ⟨s2, z⟩ := xs2; obtain ⟨hs2, hz⟩ := hs2; simp only at hs2; have hz : 0 ≤ z ∧ z ≤ 20 := to_bd hz (by omega); refine r_move rfl rfl ?_; refine r_buildSlice _ rfl rfl (fun _ => T.bs_ints_3 ..) fun gI => ?_; refine hl_letgo (rows ([r0, z, r0] : List Int)) (List.prefix_refl _) ?_; refine r_assign rfl rfl (r_assign rfl rfl (hl_nil (then_n (hc_seq (hc_seq ?_))))); refine hc_rows2 (A := some ⟨gL, 0, none⟩) (ps := ([⟨R, rc, rs⟩, ⟨cA, cC, cs⟩, ⟨cA, cC, cs⟩] : List (Sl Cd))) mB (by intro p hp; simp only [List.mem_cons, List.not_mem_nil, or_false] at hp; rcases hp with rfl | rfl | rfl; exact mB; exact mB; exact mB) ?_; obtain ⟨dl, hdl⟩ : ∃ l : List (Sl Cd), l = ([⟨R, rc, rs⟩, ⟨cA, cC, cs⟩, ⟨cA, cC, cs⟩] : List (Sl Cd)) := ⟨_, rfl⟩; rw [← hdl]; obtain ⟨il, hil⟩ : ∃ l : List Int, l = ([r0, z, r0] : List Int) := ⟨_, rfl⟩; rw [← hil]; have hdl3 : dl.length = 3 := by rw [hdl]; rfl
  have hil3 : il.length = 3 := by rw [hil]; rfl
  have hdal : ∀ d ∈ dl, d.l.length ≤ 1000000 := by rw [hdl]; intro p hp; simp only [List.mem_cons, List.not_mem_nil, or_false] at hp; rcases hp with rfl | rfl | rfl; (show rs.length ≤ 1000000; omega); (show cs.length ≤ 1000000; omega); (show cs.length ≤ 1000000; omega)
  refine hc_region (r_assign rfl rfl (hl_nil (then_n (hc_block ?_)))); refine hc_loop (β := Nat) ⟨fun i => i ≤ 3, fun i => [(9, .slice (some ⟨gL, 0, none⟩) 3 3), (10, .slice (some ⟨gI, 0, none⟩) 3 3), (11, int i)], fun _ => [], fun _ => [Row (some ⟨gL, 0, none⟩) (rows dl), Rows2 (some ⟨gL, 0, none⟩) dl, Row (some ⟨gI, 0, none⟩) (rows il)]⟩ (fun i => 3 - i) 0 (Nat.zero_le _) ⟨rfl, rfl, rfl, trivial⟩ (List.nil_sublist _) ⟨mB, mB, mB, trivial⟩ fun i hi => ?_; simp only at hi; refine hc_seq (hc_seq (hc_region (r_move rfl rfl (r_move rfl rfl ?_)))); refine r_len_sl rfl T.u_L_L_api_Card rfl ?_; refine r_lss rfl rfl rfl (hl_nil (then_n ?_)); refine c_dec rfl (fun hb2 => ?_) (fun hb2 => ?_)
  ·have hb2' := hb2; try simp at hb2'
   have hi2 : i < 3 := by omega
   obtain ⟨d, hdd⟩ : ∃ d, d = dl.getD i default := ⟨_, rfl⟩; have hdm : d ∈ dl := by rw [hdd]; exact getD_mem (by omega)
   have hd1 := hdal d hdm; refine hc_inner (ps := dl) (p := d) mB hdm ?_; have hfl := fill_len8 d.l (il.getD i default); have hxl := exact_len8 d.l (il.getD i default); refine hc_skip (then_n (hc_seq (hc_block (hc_seq (hc_region ?_))))); refine r_buildSlice [] rfl rfl (fun _ => T.bs_L_api_Card_0 ..) fun gS => ?_; refine r_move rfl rfl (r_move rfl rfl ?_); refine r_elem (α := Sl Cd) dl i rfl T.u_L_L_api_Card T.sz_L_api_Card rfl rfl rfl mB hdl3.symm (by omega) (by decide) ?_; refine r_load (v := .slice d.a d.l.length d.c) rfl T.cell_L_api_Card rfl (cell_row mB (by rw [hdd]; exact rows_get0 (by omega) rfl)) ?_; refine r_append (hp' := []) d.l.length (rows d.l) T.el_L_api_Card rfl rfl rfl (Grow.new (cs := #[]) (n := 0) rfl (Nat.zero_le _)) (.refl _) (Src.row (news := rows d.l) (m := d.l.length) mB (rows_len _) (rows_one _) (by decide)) (by omega) rfl (by unfold maxLen; omega) (by omega) fun A3 c3 og3 hG3 => ?_; refine r_assign rfl rfl (hl_nil (then_n (hc_seq (hc_grown hG3 (hc_region (r_move rfl rfl (r_move rfl rfl (r_move rfl rfl ?_)))))))); refine r_elem (α := Int) il i rfl T.u_ints T.sz_int rfl rfl rfl mB hil3.symm (by omega) (by decide) ?_; refine r_load (v := int (il.getD i default)) rfl T.cell_int rfl (cell_row mB (rows_get0 (by omega) rfl)) ?_; refine hl_call F.bold_Fill_cb rfl rfl (bold_Fill_meets (A := A3) (ca := c3) d.l (il.getD i default) hd1) (List.Perm.refl _) ⟨mB, trivial⟩ fun x1 _ => ?_; obtain ⟨a1, c1⟩ := x1; refine r_move rfl rfl (r_extract rfl rfl rfl (r_extract rfl rfl rfl (r_extract rfl rfl rfl (r_assign rfl rfl (r_assign rfl rfl (r_assign rfl rfl (hl_nil (then_n (hc_seq ?_))))))))); refine hc_draw 15 mixed (by decide) (by decide) rfl rfl ?_; refine hb_ex _ rfl rfl rfl (fun w1 => r_move rfl rfl (hl_nil (qe_done rfl))) ?_; refine hb_ex _ rfl rfl rfl (fun w1 => r_move rfl rfl (hl_nil (qe_done rfl))) ?_; refine hb_ex _ rfl rfl rfl (fun w1 => r_elem (α := Sl Cd) dl i rfl T.u_L_L_api_Card T.sz_L_api_Card rfl rfl rfl mB hdl3.symm (by omega) (by decide) (hl_nil (qe_done rfl))) ?_; refine hb_ex _ rfl rfl rfl (fun w1 => r_load (v := .slice d.a d.l.length d.c) rfl T.cell_L_api_Card rfl (cell_row mB (by rw [hdd]; exact rows_get0 (by omega) rfl)) (hl_nil (qe_done rfl))) ?_; refine hb_ex _ rfl rfl rfl (fun w1 => r_move rfl rfl (hl_nil (qe_done rfl))) ?_; refine hb_ex _ rfl rfl rfl (fun w1 => r_move rfl rfl (hl_nil (qe_done rfl))) ?_; refine hb_ex _ rfl rfl rfl (fun w1 => r_elem (α := Int) il i rfl T.u_ints T.sz_int rfl rfl rfl mB hil3.symm (by omega) (by decide) (hl_nil (qe_done rfl))) ?_; refine hb_ex _ rfl rfl rfl (fun w1 => r_load (v := int (il.getD i default)) rfl T.cell_int rfl (cell_row mB (rows_get0 (by omega) rfl)) (hl_nil (qe_done rfl))) ?_; refine hb_vs ⟨OutC, fun _ => True, fun y => .tuple #[.slice y.1 (fillE d.l (il.getD i default)).1.length y.2, int (fillE d.l (il.getD i default)).2.1, int (fillE d.l (il.getD i default)).2.2], fun y => [Row y.1 (rows (fillE d.l (il.getD i default)).1)]⟩ rfl rfl rfl ?_ ?_
   ·intro w1; refine hl_call F.ref09_Fill_cb rfl rfl (ref09_Fill_meets (A := d.a) (ca := d.c) d.l (il.getD i default) hd1) (List.Perm.refl _) ⟨mB, trivial⟩ fun y _ => ?_; refine hl_nil ?_; exact qv_done y trivial rfl ⟨m0, trivial⟩
   refine hb_vs ⟨OutC, fun _ => True, fun y => .tuple #[.slice y.1 (fillE d.l (il.getD i default)).1.length y.2, int (fillE d.l (il.getD i default)).2.1, int (fillE d.l (il.getD i default)).2.2], fun y => [Row y.1 (rows (fillE d.l (il.getD i default)).1)]⟩ rfl rfl rfl ?_ ?_
   ·intro y hy; intro w1; refine r_move rfl rfl (hl_nil ?_); exact qv_done y hy rfl ⟨m0, trivial⟩
   refine hb_vs ⟨OutC, fun _ => True, fun y => .slice y.1 (fillE d.l (il.getD i default)).1.length y.2, fun y => [Row y.1 (rows (fillE d.l (il.getD i default)).1)]⟩ rfl rfl rfl ?_ ?_
   ·intro y hy; intro w1; refine r_extract rfl rfl rfl (hl_nil ?_); exact qv_done y hy rfl ⟨m0, trivial⟩
   apply hb_ex _ rfl rfl rfl
   ·intro y hy; intro w1; refine r_extract rfl rfl rfl (hl_nil ?_); exact qe_done rfl
   apply hb_ex _ rfl rfl rfl
   ·intro y hy; intro w1; refine r_extract rfl rfl rfl (hl_nil ?_); exact qe_done rfl
   refine hb_vs ⟨OutC, fun _ => True, fun y => .slice y.1 (fillE d.l (il.getD i default)).1.length y.2, fun y => [Row y.1 (rows (fillE d.l (il.getD i default)).1)]⟩ rfl rfl rfl ?_ ?_
   ·intro y hy; intro w1; refine r_assign rfl rfl (hl_nil ?_); exact qv_done y hy rfl ⟨m0, trivial⟩
   refine hb_ex _ rfl rfl rfl (fun w1 => r_assign rfl rfl (hl_nil (qe_done rfl))) ?_; refine hb_nil ⟨rfl, ?_⟩; intro _ _ _ _ _ _ q1 _; refine r_assign rfl rfl (hl_nil (then_n (hc_seq (hc_region (r_move rfl rfl (r_move rfl rfl (r_move rfl rfl ?_))))))); refine r_elem (α := Int) il i rfl T.u_ints T.sz_int rfl rfl rfl mB hil3.symm (by omega) (by decide) ?_; refine r_load (v := int (il.getD i default)) rfl T.cell_int rfl (cell_row mB (rows_get0 (by omega) rfl)) ?_; refine hl_call F.bold_Exact_cb rfl rfl (bold_Exact_meets (A := A3) (ca := c3) d.l (il.getD i default) hd1) (List.Perm.refl _) ⟨mB, trivial⟩ fun x2 _ => ?_; obtain ⟨a2, c2⟩ := x2; refine r_move rfl rfl (r_extract rfl rfl rfl (r_extract rfl rfl rfl (r_assign rfl rfl (r_assign rfl rfl (hl_nil (then_n (hc_seq ?_))))))); refine hc_draw 13 mixed (by decide) (by decide) rfl rfl ?_; refine hb_ex _ rfl rfl rfl (fun w1 => r_move rfl rfl (hl_nil (qe_done rfl))) ?_; refine hb_ex _ rfl rfl rfl (fun w1 => r_move rfl rfl (hl_nil (qe_done rfl))) ?_; refine hb_ex _ rfl rfl rfl (fun w1 => r_elem (α := Sl Cd) dl i rfl T.u_L_L_api_Card T.sz_L_api_Card rfl rfl rfl mB hdl3.symm (by omega) (by decide) (hl_nil (qe_done rfl))) ?_; refine hb_ex _ rfl rfl rfl (fun w1 => r_load (v := .slice d.a d.l.length d.c) rfl T.cell_L_api_Card rfl (cell_row mB (by rw [hdd]; exact rows_get0 (by omega) rfl)) (hl_nil (qe_done rfl))) ?_; refine hb_ex _ rfl rfl rfl (fun w1 => r_move rfl rfl (hl_nil (qe_done rfl))) ?_; refine hb_ex _ rfl rfl rfl (fun w1 => r_move rfl rfl (hl_nil (qe_done rfl))) ?_; refine hb_ex _ rfl rfl rfl (fun w1 => r_elem (α := Int) il i rfl T.u_ints T.sz_int rfl rfl rfl mB hil3.symm (by omega) (by decide) (hl_nil (qe_done rfl))) ?_; refine hb_ex _ rfl rfl rfl (fun w1 => r_load (v := int (il.getD i default)) rfl T.cell_int rfl (cell_row mB (rows_get0 (by omega) rfl)) (hl_nil (qe_done rfl))) ?_; refine hb_vs ⟨OutC, fun _ => True, fun y => .tuple #[.slice y.1 (exactE d.l (il.getD i default)).1.length y.2, int (exactE d.l (il.getD i default)).2], fun y => [Row y.1 (rows (exactE d.l (il.getD i default)).1)]⟩ rfl rfl rfl ?_ ?_
   ·intro w1; refine hl_call F.ref09_Exact_cb rfl rfl (ref09_Exact_meets (A := d.a) (ca := d.c) d.l (il.getD i default) hd1) (List.Perm.refl _) ⟨mB, trivial⟩ fun y _ => ?_; refine hl_nil ?_; exact qv_done y trivial rfl ⟨m0, trivial⟩
   refine hb_vs ⟨OutC, fun _ => True, fun y => .tuple #[.slice y.1 (exactE d.l (il.getD i default)).1.length y.2, int (exactE d.l (il.getD i default)).2], fun y => [Row y.1 (rows (exactE d.l (il.getD i default)).1)]⟩ rfl rfl rfl ?_ ?_
   ·intro y hy; intro w1; refine r_move rfl rfl (hl_nil ?_); exact qv_done y hy rfl ⟨m0, trivial⟩
   refine hb_vs ⟨OutC, fun _ => True, fun y => .slice y.1 (exactE d.l (il.getD i default)).1.length y.2, fun y => [Row y.1 (rows (exactE d.l (il.getD i default)).1)]⟩ rfl rfl rfl ?_ ?_
   ·intro y hy; intro w1; refine r_extract rfl rfl rfl (hl_nil ?_); exact qv_done y hy rfl ⟨m0, trivial⟩
   apply hb_ex _ rfl rfl rfl
   ·intro y hy; intro w1; refine r_extract rfl rfl rfl (hl_nil ?_); exact qe_done rfl
   refine hb_vs ⟨OutC, fun _ => True, fun y => .slice y.1 (exactE d.l (il.getD i default)).1.length y.2, fun y => [Row y.1 (rows (exactE d.l (il.getD i default)).1)]⟩ rfl rfl rfl ?_ ?_
   ·intro y hy; intro w1; refine r_assign rfl rfl (hl_nil ?_); exact qv_done y hy rfl ⟨m0, trivial⟩
   refine hb_nil ⟨rfl, ?_⟩; intro _ _ _ _ _ _ q2 _; refine r_assign rfl rfl (hl_nil (then_n (hc_seq (hc_region (r_move rfl rfl (r_move rfl rfl (r_neq rfl rfl rfl (r_move rfl rfl ?_)))))))); refine g_split rfl rfl ?_ ?_
   ·intro hg1; have hg1' := hg1; try simp at hg1'
    refine g_yes rfl rfl hg1 (r_move rfl rfl (g_yes rfl rfl hg1 (r_move rfl rfl (g_yes rfl rfl hg1 (r_neq rfl rfl rfl ?_))))); refine p_f rfl rfl (bf1 hg1) rfl ?_; refine r_move rfl rfl ?_; refine g_split rfl rfl ?_ ?_
    ·intro hg2; have hg2' := hg2; try simp at hg2'
     refine g_yes rfl rfl hg2 (r_move rfl rfl (g_yes rfl rfl hg2 (r_move rfl rfl (g_yes rfl rfl hg2 (r_neq rfl rfl rfl ?_))))); refine p_f rfl rfl (bf1 hg2) rfl ?_; refine r_move rfl rfl ?_; refine g_split rfl rfl ?_ ?_
     ·intro hg3; have hg3' := hg3; try simp at hg3'
      refine g_yes rfl rfl hg3 (r_move rfl rfl (g_yes rfl rfl hg3 (r_move rfl rfl (g_yes rfl rfl hg3 ?_)))); refine hl_call F.kit_EqInts_cb rfl rfl (kit_EqInts_meets (fillE d.l (il.getD i default)).1 (fillE d.l (il.getD i default)).1 (by omega)) (List.Perm.refl _) ⟨mB, mB, trivial⟩ fun _ _ => ?_; refine g_yes rfl rfl hg3 (r_not rfl rfl ?_); refine p_f rfl rfl (bf1 hg3) rfl ?_; refine r_move rfl rfl ?_; refine g_split rfl rfl ?_ ?_
      ·intro hg4; have hg4' := hg4; try simp at hg4'
       refine g_yes rfl rfl hg4 (r_move rfl rfl (g_yes rfl rfl hg4 (r_move rfl rfl (g_yes rfl rfl hg4 ?_)))); refine hl_call F.kit_EqInts_cb rfl rfl (kit_EqInts_meets (exactE d.l (il.getD i default)).1 (exactE d.l (il.getD i default)).1 (by omega)) (List.Perm.refl _) ⟨mB, mB, trivial⟩ fun _ _ => ?_; refine g_yes rfl rfl hg4 (r_not rfl rfl ?_); refine p_f rfl rfl (bf1 hg4) rfl ?_; refine r_move rfl rfl ?_; refine g_split rfl rfl ?_ ?_
       ·intro hg5; have hg5' := hg5; try simp at hg5'
        refine g_yes rfl rfl hg5 (r_move rfl rfl (g_yes rfl rfl hg5 (r_move rfl rfl (g_yes rfl rfl hg5 (r_move rfl rfl (g_yes rfl rfl hg5 ?_)))))); refine r_elem (α := Sl Cd) dl i rfl T.u_L_L_api_Card T.sz_L_api_Card rfl rfl rfl mB hdl3.symm (by omega) (by decide) ?_; refine g_yes rfl rfl hg5 ?_; refine r_load (v := .slice d.a d.l.length d.c) rfl T.cell_L_api_Card rfl (cell_row mB (by rw [hdd]; exact rows_get0 (by omega) rfl)) ?_; refine g_yes rfl rfl hg5 ?_; refine hl_call F.kit_EqCards_cb rfl rfl (kit_EqCards_meets d.l d.l (by omega)) (List.Perm.refl _) ⟨mB, mB, trivial⟩ fun _ _ => ?_; refine g_yes rfl rfl hg5 (r_not rfl rfl ?_); refine p_f rfl rfl (bf1 hg5) rfl ?_; refine hl_nil (then_n ?_); refine hc_cond rfl (fun hb3 => ?_) (fun hb3 => ?_)
        ·have hb3' := hb3; try simp at hb3'
        ·have hb3' := hb3; try simp at hb3'
         refine hc_skip (inb_n (then_n (hc_region (r_move rfl rfl ?_)))); refine r_add _ rfl rfl rfl rfl (by unfold I64; omega) ?_; refine r_assign rfl rfl (hl_nil ?_); exact again _ (i + 1) (by show i + 1 ≤ 3; omega) (by show 3 - (i + 1) < 3 - i; omega) ⟨rfl, rfl, rfl, trivial⟩ (List.nil_sublist _) ⟨mB, mB, mB, trivial⟩
       ·intro hg5; have hg5' := hg5; try simp at hg5'
      ·intro hg4; have hg4' := hg4; try simp at hg4'
     ·intro hg3; have hg3' := hg3; try simp at hg3'
    ·intro hg2; have hg2' := hg2; try simp at hg2'
   ·intro hg1; have hg1' := hg1; try simp at hg1'
  ·have hb2' := hb2; try simp at hb2'
   refine hc_exit (then_exit (then_exit (inb_hit (then_n (hc_seq (hc_region ?_)))))); refine hl_call F.law09_paying_cb rfl rfl (law09_paying_meets) (List.Perm.refl _) trivial fun _ _ => ?_; refine r_assign rfl rfl (hl_nil (then_n (hc_ret ?_))); exact ret1 () rfl rfl rfl trivial (List.nil_sublist _) trivial
end Go.Proofs.Ytdlbbfcfahahdaa
end
section
namespace Go.Proofs.Ytdlbbfcfahahdaa
open Go Go.W
set_option maxRecDepth 20000
attribute [local irreducible] HL HC HQ HB Row Rows2 Blk Facts
abbrev OutS := (OutC × Hp) × (OutC × Hp)
structure DupS (ss : List Int) (xs : List Ad) (x : OutS) : Prop where
  a : Grow T.int 1 x.1.1.1 ss.length x.1.1.2 (rows ss) x.1.2
  b : GrowE T.api_Advert 3 x.2.1.1 xs.length x.2.1.2 (rows xs) x.2.2
def priceE (c : Ch) (ss : List Int) (xs : List Ad) (i : Int) : Int × Int := if ¬ chkS c ss xs = 0 then (0, chkS c ss xs) else if ¬ (0 ≤ i ∧ i ≤ (xs.length : Int) - 1) then (0, 3) else (priceN c (xs.getD i.toNat default), 0)
def owesK : List Int → List Cd → List Int × Int
  | b, [] => (b, 0)
  | b, r :: rs => if ¬ (0 ≤ r.1 ∧ r.1 ≤ (b.length : Int) - 1) then ([], 3) else if ¬ (0 ≤ r.2 ∧ r.2 ≤ 99999) then ([], 1) else owesK (b.set r.1.toNat (b.getD r.1.toNat default - r.2)) rs
def owesE (c : Ch) (ss : List Int) (xs : List Ad) (rs : List Cd) : List Int × Int := if ¬ chkS c ss xs = 0 then ([], chkS c ss xs) else if 8 < rs.length then ([], 6) else owesK (numsN 103 c ss xs) rs
end Go.Proofs.Ytdlbbfcfahahdaa
end
section
namespace Go.Proofs.Ytdlbbfcfahahdaa
open Go Go.W
set_option maxRecDepth 20000
attribute [local irreducible] HL HC HQ HB Row Rows2 Blk Facts
def chgB (c : Ch) : Bool := decide (0 ≤ c.1 ∧ c.1 ≤ 999) && decide (0 ≤ c.2.1 ∧ c.2.1 ≤ 999) && decide (0 ≤ c.2.2.1 ∧ c.2.2.1 ≤ 999) && decide (0 ≤ c.2.2.2.1 ∧ c.2.2.2.1 ≤ 999) && decide (0 ≤ c.2.2.2.2.1 ∧ c.2.2.2.2.1 ≤ 50) && decide (1 ≤ c.2.2.2.2.2 ∧ c.2.2.2.2.2 ≤ 5)
def bilL (c : Ch) (ss : List Int) (xs : List Ad) (k : Nat) : List Int := (List.range k).map (bilN c ss xs)
end Go.Proofs.Ytdlbbfcfahahdaa
end
section
namespace Go.Proofs.Ytdlbbfcfahahdaa
open Go Go.W
set_option maxRecDepth 20000
attribute [local irreducible] HL HC HQ HB Row Rows2 Blk Facts
abbrev sumsL (c : Ch) (xs : List Ad) (n k : Nat) : List Int := (List.range n).map (sumK c xs k)
end Go.Proofs.Ytdlbbfcfahahdaa
end
section
namespace Go.Proofs.Ytdlbbfcfahahdaa
open Go Go.W
set_option maxRecDepth 20000
attribute [local irreducible] HL HC HQ HB Row Rows2 Blk Facts
end Go.Proofs.Ytdlbbfcfahahdaa
end
section
namespace Go.W
open Go Go.RowKit
def GoQ {β : Type} (s : Sta β) (μ : β → Nat) (m : Option Nat) (l : Nat) (c : Cx) (Q : Exit → Act → World → Prop) : Exit → Act → World → Prop
  | .goto l', a, w => l' = l ∧ ∃ y, s.inv y ∧ (∀ k, m = some k → μ y < k) ∧ Ok c a (s.fr y) ∧ WI c.b w (s.hp y) (s.L y)
  | e, a, w => Q e a w
section
variable {c : Cx} {Q : Exit → Act → World → Prop} {fr : Fr} {hp : Hp} {L : List Fact}
end
end Go.W
end
section
namespace Go.Proofs.Ytdlbbfcfahahdaa
open Go Go.W
set_option maxRecDepth 20000
attribute [local irreducible] HL HC HQ HB Row Rows2 Blk Facts
def bilA (c : Ch) (ss : List Int) (xs : List Ad) (y : Ad) : Int := bilN c ss (xs ++ [y]) y.1.toNat
def chStep (c : Ch) (ss : List Int) (xs : List Ad) (o : Option (Ad × Int)) (y : Ad) : Option (Ad × Int) :=
  if ¬ adErr ss.length y = 0 then o else match o with
    | none => some (y, bilA c ss xs y)
    | some z => if bilA c ss xs y < z.2 then some (y, bilA c ss xs y) else some z
def xA : Option (Ad × Int) → Ad
  | none => (0, 0, 0)
  | some z => z.1
def xB : Option (Ad × Int) → Int
  | none => 0
  | some z => z.2
def chIn (c : Ch) (ss : List Int) (xs : List Ad) (cu ln : Int) (kd : Nat) (o : Option (Ad × Int)) (i : Nat) : Option (Ad × Int) := (List.range i).foldl (fun o (j : Nat) => chStep c ss xs o (cu, (kd : Int), ln + (j : Int))) o
def chOut (c : Ch) (ss : List Int) (xs : List Ad) (cu ln : Int) (k : Nat) : Option (Ad × Int) := (List.range k).foldl (fun o kd => chIn c ss xs cu ln (kd + 1) o (7 - ln).toNat) none
def cheapE (c : Ch) (ss : List Int) (xs : List Ad) (cu ln : Int) : Ad × Int × Int :=
  if ¬ chkS c ss xs = 0 then ((0, 0, 0), 0, chkS c ss xs) else if ¬ (0 ≤ cu ∧ cu ≤ (ss.length : Int) - 1) then ((0, 0, 0), 0, 3) else if ¬ (1 ≤ ln ∧ ln ≤ 6) then ((0, 0, 0), 0, 1) else if 8 ≤ xs.length then ((0, 0, 0), 0, 6)
  else (xA (chOut c ss xs cu ln 3), xB (chOut c ss xs cu ln 3), 0)
def chAt (c : Ch) (ss : List Int) (xs : List Ad) (cu ln : Int) (x : Nat × Nat) : Option (Ad × Int) := chIn c ss xs cu ln (x.1 + 1) (chOut c ss xs cu ln x.1) x.2
end Go.Proofs.Ytdlbbfcfahahdaa
end
section
namespace Go.Proofs.Ytdlbbfcfahahdaa
open Go Go.W
set_option maxRecDepth 20000
attribute [local irreducible] HL HC HQ HB Row Rows2 Blk Facts
def xC : Option (Ad × Int) → Int
  | none => -1
  | some z => z.2
def chItem (cu ln : Int) (kd j : Nat) : Ad := (cu, (kd : Int), ln + (j : Int))
def chList (cu ln : Int) (k : Nat) : List Ad := (List.range k).flatMap fun kd => (List.range (7 - ln).toNat).map fun j => chItem cu ln (kd + 1) j
def chNN (o : Option (Ad × Int)) : Prop := ∀ z, o = some z → 0 ≤ z.2
end Go.Proofs.Ytdlbbfcfahahdaa
end
section
namespace Go.Proofs.Ytdlbbfcfahahdaa
open Go Go.W
set_option maxRecDepth 20000
attribute [local irreducible] HL HC HQ HB Row Rows2 Blk Facts
abbrev Sx := Ch × Sl Int × Sl Ad
instance : El Sx where
  default := ((0, 0, 0, 0, 0, 0), ⟨none, 0, []⟩, ⟨none, 0, []⟩)
  cells x := [int x.1.1, int x.1.2.1, int x.1.2.2.1, int x.1.2.2.2.1, int x.1.2.2.2.2.1, int x.1.2.2.2.2.2, .slice x.2.1.a x.2.1.l.length x.2.1.c, .slice x.2.2.a x.2.2.l.length x.2.2.c]
  sz := 8
  len _ := rfl
  one a u h := by simp at h; rcases h with h | h | h | h | h | h | h | h <;> subst h <;> rfl
abbrev Sx.row (d : Sx) : Fact := Facts [Row d.2.1.a (rows d.2.1.l), Row d.2.2.a (rows d.2.2.l)]
end Go.Proofs.Ytdlbbfcfahahdaa
end
section
namespace Go.W
open Go Go.RowKit Go.ChangeShapes Go.WideShapes
section
variable {H : Type} {enc : TypeId × Value → H} {P : Program} {w : World} {base : Nat} {spare : Nat → Bool} {held : Bool}
theorem row_of {α : Type} [El α] (h1 : El.sz α = 1) {a : Addr} {l : List α} (h : ∀ j (hj : j < l.length), ∃ v, El.cells l[j] = [v] ∧ w.cell? (a.add j) = some v) : (Row (some a) (rows l)).P w := by
  intro j u hu; refine ⟨a, rfl, ?_⟩
  have hj : j < l.length := by
    have := (List.getElem?_eq_some_iff.1 hu).1; rw [rows_len, h1, Nat.mul_one] at this; exact this
  obtain ⟨v, hv, hc⟩ := h j hj; have h2 := rows_get (l := l) (i := j) (j := 0) (v := v) hj (by simp [List.getD_eq_getElem?_getD, hj, hv]); rw [h1] at h2; simp only [Nat.mul_one, Nat.add_zero] at h2; rw [hu] at h2
  cases h2
  exact hc
theorem in_ints {t e : TypeId} {A : Option Addr} {n c fuel : Nat} {x : DataW H × List MemPlace} (ht : P.underlying t = some (.slice e)) (he : P.underlying e = some (.int .i64)) (hc : P.cellsOf e = 1)
    (h : DataW.trod enc P w base spare held fuel t [.slice A n c] = some x) : ∃ l : List Int, n = l.length ∧ l.length ≤ c ∧ c ≤ maxLen ∧ (Row A (rows l)).P w ∧ ∀ z ∈ l, I64 z := by
  rcases open_ints ht he hc h with ⟨hcs, _⟩ | ⟨a, len, cap, zs, hcs, _, hl, hm, hlen, _, hcell, hwf⟩
  · simp at hcs
    obtain ⟨rfl, rfl, rfl⟩ := hcs; exact ⟨[], rfl, Nat.le_refl _, by unfold maxLen; omega, Row.nil _ _, by intro z hz; simp at hz⟩
  · simp at hcs
    obtain ⟨rfl, rfl, rfl⟩ := hcs; have hle : n ≤ zs.length := by rw [hlen]; split <;> omega
    have hlen2 : (zs.take n).length = n := by rw [List.length_take]; omega
    refine ⟨zs.take n, hlen2.symm, by rw [hlen2]; exact hl, hm, row_of rfl fun j hj => ?_, fun z hz => ?_⟩
    · rw [hlen2] at hj
      refine ⟨int zs[j], by simp [El.cells], ?_⟩; rw [hcell j (by omega)]
      simp [List.getD_eq_getElem?_getD, show j < zs.length by omega]
    · have := hwf z (List.mem_of_mem_take hz)
      simp [Lit.wf, IntKind.min, IntKind.max, IntKind.signed, IntKind.bits] at this
      exact ⟨by omega, by omega⟩
theorem law_calls {f : Nat} {args : List Value} {LI : List Fact} (h : Meets P f args ({ LI := LI, val := fun _ : Unit => .bool true } : Con Unit)) (hL : ∀ F ∈ LI, F.P w) : CallsB P f args.toArray w fun v w' => v = .bool true ∧ Below w.heap.size w w' := by
  refine (h w ⟨Ext.refl _ _, by simp, by simp, by simp, hL, by simp, fun F hF k hk => .inr (.inr ⟨F, hF, hk⟩)⟩).mono fun v w' hp => ?_; obtain ⟨_, rfl, _, hwi⟩ := hp; exact ⟨rfl, hwi.ext.below⟩
end
end Go.W
end
section
namespace Go.W
open Go Go.RowKit Go.ChangeShapes Go.WideShapes Go.Deep
section
variable {H : Type} {enc : TypeId × Value → H} {P : Program} {w : World} {base : Nat} {spare : Nat → Bool} {held : Bool}
theorem row_ofN {α : Type} [El α] (h0 : 0 < El.sz α) {a : Addr} {l : List α} (h : ∀ j, j < l.length → ∀ i v, (El.cells (l.getD j default))[i]? = some v → w.cell? (a.add (j * El.sz α + i)) = some v) : (Row (some a) (rows l)).P w := by
  intro k u hu; refine ⟨a, rfl, ?_⟩; have hk := (List.getElem?_eq_some_iff.1 hu).1; rw [rows_len] at hk; have hj : k / El.sz α < l.length := Nat.div_lt_of_lt_mul (by rw [Nat.mul_comm]; exact hk); have hd : k / El.sz α * El.sz α + k % El.sz α = k := by rw [Nat.mul_comm]; exact Nat.div_add_mod _ _
  have h2 := rows_get' l (k / El.sz α) (k % El.sz α) hj (Nat.mod_lt _ h0); rw [hd, hu] at h2; have := h _ hj _ _ h2.symm
  rwa [hd] at this
end
end Go.W
end
section
namespace Go.Proofs.Ytdlbbfcfahahdaa
open Go Go.W Go.RowKit Go.ChangeShapes Go.WideShapes Go.Deep
set_option maxRecDepth 20000
attribute [local irreducible] HL HC HQ HB Row Rows2 Blk Facts
section
variable {H : Type} {enc : TypeId × Value → H} {P : Program} {w : World} {base : Nat} {spare : Nat → Bool} {held : Bool}
theorem in_recs {t e : TypeId} {f0 f1 : Field} {v : Value} {fuel : Nat} {x : DataW H × List MemPlace} (ht : P.underlying t = some (.slice e)) (he : P.underlying e = some (.struct #[f0, f1])) (ce : P.cellsOf e = 2)
    (o0 : f0.offset = 0) (o1 : f1.offset = 1) (c0 : P.cellsOf f0.type = 1) (c1 : P.cellsOf f1.type = 1) (t0 : P.underlying f0.type = some (.int .i64)) (t1 : P.underlying f1.type = some (.int .i64))
    (h : DataW.trod enc P w base spare held fuel t [v] = some x) : ∃ A c, ∃ l : List Cd, v = .slice A l.length c ∧ l.length ≤ c ∧ c ≤ maxLen ∧ (Row A (rows l)).P w := by
  rcases open_slice ht h with ⟨hcs, _⟩ | ⟨a, len, cap, m, n', D, Pl, hcs, _, hl, hm, hmm, _, hx⟩
  · simp at hcs
    subst hcs; exact ⟨none, 0, [], rfl, Nat.le_refl _, by unfold maxLen; omega, Row.nil _ _⟩
  · simp at hcs
    subst hcs; have hlm : len ≤ m := by rw [hmm]; split <;> omega
    have each : ∀ i, i < len → ∃ q : Cd, ∀ k v, (El.cells q)[k]? = some v → w.cell? (a.add (i * 2 + k)) = some v := by
      intro i hi; obtain ⟨cs', h1, h2⟩ := hx i (by omega); rw [ce] at h1; obtain ⟨_, hlen, hcell⟩ := World.cells?_some h1; obtain ⟨y0, y1, k, _, _, g0, g1⟩ := trod_struct2 he h2
      match cs', hlen with
      | [v0, v1], _ =>
        simp [o0, o1, c0, c1] at g0 g1
        obtain ⟨z0, e0, _, _⟩ := DataW.trod_int t0 g0; obtain ⟨z1, e1, _, _⟩ := DataW.trod_int t1 g1
        simp at e0 e1
        subst e0 e1; refine ⟨(z0, z1), fun k v hv => ?_⟩; have hk : k < 2 := (List.getElem?_eq_some_iff.1 hv).1; have hc := hcell k hk; rw [add_add] at hc; rw [hc, ← hv]
        rfl
    obtain ⟨q, hq⟩ := choose_lt each; refine ⟨some a, cap, (List.range len).map q, by simp, by simpa using hl, hm, row_ofN (by decide) fun j hj i v hv => ?_⟩
    simp at hj
    refine hq j hj i v ?_; rw [← hv]
    simp [List.getD_eq_getElem?_getD, hj]
end
theorem in_cards {H : Type} {enc : TypeId × Value → H} {w : World} {base : Nat} {spare : Nat → Bool} {held : Bool} {v : Value} {fuel : Nat} {x : DataW H × List MemPlace} (h : DataW.trod enc Try.prog w base spare held fuel T.L_api_Card [v] = some x) :
    ∃ A c, ∃ l : List Cd, v = .slice A l.length c ∧ l.length ≤ c ∧ c ≤ maxLen ∧ (Row A (rows l)).P w :=
  in_recs Try.underlying49 Try.underlying107 (by kernel_rfl) rfl rfl (by kernel_rfl) (by kernel_rfl) Try.underlying3 Try.underlying3 h
end Go.Proofs.Ytdlbbfcfahahdaa
end
section
namespace Go.W
open Go Go.Conc
theorem Lv.at {P : Program} {fr : Frame} {w : World} {v : Value} (h : Lv P fr w v) (d : Nat) : Lv P fr (w.at d) v :=
  ⟨h.1, h.2.1, h.2.2.1, h.2.2.2.elim fun fn x => ⟨fn, x.1, fun d' => x.2 d'⟩⟩
theorem run_of {P : Program} {f : FuncId} {fn : Func} {t : Tmp} {args : Array Value} {W : World} {R : Value → World → Prop} (hf : P.funcs[f]? = some fn) (hres : fn.results = #[.tmp t]) (hin : P.inits.idxOf? f = none)
    (h : CallsB P f args W R) (hat : ∀ v w d, R v w → R v (w.at d)) :
    ∃ M last o w' t', runNT P (M + 1) (solo (G (Frame.enter P f args .normal) []) W) #[] = (.ended o w', t') ∧ runN P M (solo (G (Frame.enter P f args .normal) []) W) = .next last ∧ step P last = .ended o w' ∧ Conc.Good P R last o w' t' := by
  have hco := h [] (fun g w => ∃ v fr, g = G fr [] ∧ fr.fn = f ∧ Lv P fr w v ∧ R v w) (fun fr v w' hfr hR hl => co_done fun d => ⟨v, fr, rfl, hfr, hl.at d, hat _ _ _ hR⟩); obtain ⟨N, gs, g, w, sl, t0, q, B, r, h0, hL, hP, v, fr, rfl, hfr, hl, hR⟩ := hco W.drawn #[G (Frame.enter P f args .normal) []] none #[] (fun _ => 0) 0 rfl (leavers_one P _) past_nil
  have hG : Goes P true AtRel (fun _ _ es => ∀ e ∈ es, EvL noS B e) (AtEnd P noS B R) 0 (G fr []) w := by
    rintro w₁ ⟨d, rfl⟩; refine ⟨rfl, v, #[], ?_, by simp, hat _ _ _ hR⟩; obtain ⟨hm, hd, hn, fn', hf', hr⟩ := hl.at d; rw [hfr, hf] at hf'; obtain rfl := Option.some.inj hf'; have hf2 : P.funcs[fr.fn]? = some fn := by rw [hfr]; exact hf
    have hin2 : P.inits.idxOf? fr.fn = none := by rw [hfr]; exact hin
    have he : (results fn fr.tmps).events P (w.at d) #[] = #[] := events_results_tmp hres _ _; have hr0 : (results fn fr.tmps).run P (w.at d) = .ok v (w.at d) := hr d
    simp [G, stepG, unwind, doReturn, hn, hd, hm, hf2, hr0, he, hin2, GStep.after, seen]
  obtain ⟨M, last, o, w', t', e1, e2, e3, e4⟩ := beside_ends (P := P) (Post := R) (sl := sl) (fun _ _ _ h => h) h0 hL hP hG; have hrun : runNT P N (solo (G (Frame.enter P f args .normal) []) W) #[] = (.next (crowd gs w sl), t0) := r; refine ⟨N + M, last, o, w', t', ?_, ?_, e3, e4⟩
  · rw [Nat.add_assoc, runNT_two hrun]; exact e1
  · rw [runN_add, ← runNT_fst P _ _ #[], hrun]; exact e2
end Go.W
end
