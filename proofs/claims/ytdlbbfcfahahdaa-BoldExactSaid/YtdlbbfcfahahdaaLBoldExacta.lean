/- Texts of this claim, one behind another. -/

import Derived.Test.YtdlbbfcfahahdaaLAp
section
namespace Go.Proofs.Ytdlbbfcfahahdaa
open Go Go.W
set_option linter.unusedVariables false
set_option linter.unusedSimpArgs false
set_option maxRecDepth 20000
attribute [local irreducible] HL HC HQ HB Row Rows2 Blk Facts
theorem combos_sorted : ∀ (k : Nat) (l : List Int), l.Pairwise (· < ·) → (combos k l).Pairwise fun a b => cmpIs a b < 0
  | 0, l, _ => by rw [combos]; exact List.pairwise_singleton _ _
  | k + 1, [], _ => by rw [combos]; exact .nil
  | k + 1, x :: l, h => by
    rw [List.pairwise_cons] at h
    rw [combos, List.pairwise_append]
    refine ⟨List.pairwise_map.2 ((combos_sorted k l h.2).imp fun h2 => (cmpIs_cons ..).2 (.inr ⟨rfl, h2⟩)), combos_sorted (k + 1) l h.2, fun a ha b hb => ?_⟩
    obtain ⟨c, hc, rfl⟩ := List.mem_map.1 ha
    cases b with
    | nil => have := combos_size hb; cases this
    | cons y b => exact (cmpIs_cons ..).2 (.inl (h.1 y ((combos_sub hb).subset (List.mem_cons_self ..))))
theorem upI_lt (n : Nat) : (upI 0 n).Pairwise (· < ·) := by
  unfold upI
  rw [Nat.sub_zero, ← List.range_eq_range']
  exact List.pairwise_map.2 (List.pairwise_lt_range.imp fun h => by omega)
def ExS (cs : List Cd) (room : Int) (x : Hn) : Prop := ∃ c, c.Sublist (upI 0 cs.length) ∧ x = handL cs c ∧ (handL cs c).2.1 = room
theorem mem_exact {cs : List Cd} {room : Int} {x : Hn} : x ∈ (handsK cs room (2 ^ cs.length)).filter (fun x => decide (x.2.1 = room)) ↔ ExS cs room x := by
  rw [List.mem_filter, hand_fit, decide_eq_true_eq]
  exact ⟨fun ⟨⟨c, h1, h2, h3⟩, h4⟩ => ⟨c, h1, h2, by rw [← h2]; exact h4⟩, fun ⟨c, h1, h2, h3⟩ => ⟨⟨c, h1, h2, by rw [h3]; exact Int.le_refl _⟩, by rw [h2]; exact h3⟩⟩
theorem ex_inj {cs : List Cd} {room : Int} {x y : Hn} (hx : ExS cs room x) (hy : ExS cs room y) (h : x.1 = y.1) : x = y := by
  obtain ⟨c, _, rfl, _⟩ := hx
  obtain ⟨d, _, rfl, _⟩ := hy
  exact handL_inj h
theorem exact_some {cs : List Cd} {room : Int} {b : Hn} (h0 : cardsE cs room = 0) (h : BestIs ordX (ExS cs room) b) : exactE cs room = (b.1, 0) := by
  unfold exactE exactL
  rw [if_neg (fun e => e h0)]
  rcases bestL_is tot_X (l := (handsK cs room (2 ^ cs.length)).filter fun x => decide (x.2.1 = room)) (fun x hx y hy => ex_inj (mem_exact.1 hx) (mem_exact.1 hy)) with ⟨_, h2⟩ | ⟨h1, h2⟩
  · have h3 := mem_exact.2 h.1
    rw [h2] at h3; cases h3
  · rw [h1, if_neg (by decide)]
    have h3 := best_uniq tot_X (S := ExS cs room) (S' := ExS cs room) ⟨mem_exact.1 h2.1, fun x hx => h2.2 x (mem_exact.2 hx)⟩ h (fun x => Iff.rfl) fun x y hx hy => ex_inj hx hy
    rw [h3]
theorem exact_none {cs : List Cd} {room : Int} (h0 : cardsE cs room = 0) (h : ∀ c : List Int, c.Sublist (upI 0 cs.length) → ¬ (handL cs c).2.1 = room) : exactE cs room = ([], 11) := by
  unfold exactE exactL
  rw [if_neg (fun e => e h0)]
  rcases bestL_is tot_X (l := (handsK cs room (2 ^ cs.length)).filter fun x => decide (x.2.1 = room)) (fun x hx y hy => ex_inj (mem_exact.1 hx) (mem_exact.1 hy)) with ⟨h1, _⟩ | ⟨h1, h2⟩
  · rw [if_pos h1]
  · obtain ⟨c, h3, _, h4⟩ := mem_exact.1 h2.1
    exact absurd h4 (h c h3)
theorem first_best {cs : List Cd} {room : Int} {m i : Nat} (hi : i < (combos m (upI 0 cs.length)).length) (h1 : ∀ c : List Int, c.Sublist (upI 0 cs.length) → c.length < m → ¬ (handL cs c).2.1 = room) (h2 : ∀ j, j < i → ¬ (handL cs ((combos m (upI 0 cs.length)).getD j default)).2.1 = room) (h : (handL cs ((combos m (upI 0 cs.length)).getD i default)).2.1 = room) : BestIs ordX (ExS cs room) (handL cs ((combos m (upI 0 cs.length)).getD i default)) := by
  have hc := getD_mem hi
  refine ⟨⟨_, combos_sub hc, rfl, h⟩, fun x hx => ?_⟩
  obtain ⟨d, h3, rfl, h4⟩ := hx
  rw [ordX_lt]
  show ¬ (d.length < ((combos m (upI 0 cs.length)).getD i default).length ∨ (d.length = ((combos m (upI 0 cs.length)).getD i default).length ∧ cmpIs d ((combos m (upI 0 cs.length)).getD i default) < 0))
  rw [combos_size hc]
  rintro (h5 | ⟨h5, h6⟩)
  · exact h1 d h3 h5 h4
  · have h7 := combos_mem h3
    rw [h5] at h7
    obtain ⟨j, hj, e⟩ := List.getElem_of_mem h7
    rcases Nat.lt_trichotomy j i with h8 | h8 | h8
    · exact h2 j h8 (by rw [getD_at hj, e]; exact h4)
    · subst h8
      rw [getD_at hj, e] at h6
      exact cmpIs_irr _ h6
    · have h9 := List.pairwise_iff_getElem.1 (combos_sorted m _ (upI_lt cs.length)) i j hi hj h8
      rw [e, ← getD_at hi] at h9
      exact cmpIs_irr _ (cmpIs_trans h6 h9)
theorem fill_lines {cs : List Cd} {room : Int} (hr : 0 ≤ room) {c : List Int} (hc : c.Sublist (upI 0 cs.length)) (h : (handL cs c).2.1 = room) : (handL cs c).2.2 ≤ (fillB cs room).2.2 ∧ ((handL cs c).2.2 < (fillB cs room).2.2 ∨ (linL cs (fillB cs room).1).sum = room) := by
  have h0 := fillB_best (cs := cs) hr
  have hf : FitS cs room (handL cs c) := ⟨c, hc, rfl, by omega⟩
  have h1 := fill_dear hr hf
  have h2 := h0.2 _ hf
  rw [ordF_lt] at h2
  obtain ⟨d, h3, h4, h5⟩ := h0.1
  have h6 : (fillB cs room).2.1 = (linL cs (fillB cs room).1).sum := by rw [h4]; rfl
  rw [h4] at h6 h2 h1 ⊢
  refine ⟨h1, ?_⟩
  omega
theorem fill_in {cs : List Cd} {room : Int} (hr : 0 ≤ room) : (fillB cs room).1.Sublist (upI 0 cs.length) := by
  obtain ⟨d, h3, h4, h5⟩ := (fillB_best (cs := cs) hr).1
  rw [h4]; exact h3
set_option maxHeartbeats 2000000 in
theorem law09_BoldExact_meets {A : Option Addr} {cn : Nat} (nums : List Int) (hn : nums.length ≤ 9223372036854775807) : Meets Try.prog F.law09_BoldExact [.slice A nums.length cn] { LI := [Row A (rows nums)], val := fun _ : Unit => .bool true } := by
 refine meets_intro F.law09_BoldExact_f rfl (Nat.le_of_ble_eq_true rfl) fun w0 => ?_
 refine hc_seq (hc_region (r_assign rfl rfl (hl_nil (then_n (hc_seq (hc_region (r_move rfl rfl ?_)))))))
 refine hl_call F.kit_NewDice_cb rfl rfl (kit_NewDice_meets nums) (List.Perm.refl _) ⟨mB, trivial⟩ fun g _ => ?_
 refine r_assign rfl rfl (hl_nil (then_n (hc_seq (hc_region (r_move rfl rfl ?_)))))
 refine hl_call F.kit_CardsOf_cb rfl rfl (kit_CardsOf_meets 6 hn (dok0 nums) (by decide)) (List.Perm.refl _) ⟨mB, trivial⟩ fun xs1 hs1 => ?_
 obtain ⟨s1, y⟩ := xs1
 obtain ⟨hs1, hy⟩ := hs1
 simp only at hs1
 obtain ⟨cs, cA, cC⟩ := y
 obtain ⟨h6, hcs, hcap⟩ := hy
 simp only at h6 hcs hcap
 have hcd := made_cd hcs
 clear hcs
 refine r_move rfl rfl ?_
 refine hl_call F.kit_Dice_To_cb rfl rfl (kit_Dice_To_meets (20) hn hs1 (by omega)) (List.Perm.refl _) ⟨mB, trivial⟩ fun xs2 hs2 => ?_
 obtain ⟨s2, z⟩ := xs2
 obtain ⟨hs2, hz⟩ := hs2
 simp only at hs2
 have hz : 0 ≤ z ∧ z ≤ 20 := to_bd hz (by omega)
 refine r_assign rfl rfl (r_assign rfl rfl (hl_nil (then_n (hc_seq ?_))))
 have h0 := cards_e (cs := cs) (room := z) (by omega) hcd (by omega)
 refine hc_region (r_move rfl rfl (r_move rfl rfl ?_))
 refine hl_call F.bold_Exact_cb rfl rfl (bold_Exact_meets cs z (by omega)) (List.Perm.refl _) ⟨mB, trivial⟩ fun x1 _ => ?_
 obtain ⟨a1, c1⟩ := x1
 refine r_move rfl rfl (r_extract rfl rfl rfl (r_extract rfl rfl rfl (r_assign rfl rfl (r_assign rfl rfl (hl_nil (then_n (hc_seq (hc_region (r_move rfl rfl (r_move rfl rfl ?_))))))))))
 refine hl_call F.bold_Fill_cb rfl rfl (fill_is cs z (by omega) hcd (by omega) rfl) (List.Perm.refl _) ⟨mB, trivial⟩ fun x2 _ => ?_
 obtain ⟨a2, c2⟩ := x2
 have hfi := fill_in (cs := cs) (room := z) (by omega)
 have hfl : (fillB cs z).1.length ≤ cs.length := by have := hfi.length_le; rw [upI_len] at this; omega
 have hfb : ∀ v ∈ (fillB cs z).1, 0 ≤ v ∧ v < (cs.length : Int) := fun v hv => by have := upI_mem (hfi.subset hv); omega
 refine r_move rfl rfl (r_extract rfl rfl rfl (r_extract rfl rfl rfl (r_extract rfl rfl rfl (r_assign rfl rfl (r_assign rfl rfl (r_assign rfl rfl (hl_nil (then_n (hc_seq (hc_seq (hc_region ?_)))))))))))
 refine r_move rfl rfl (r_neq rfl rfl rfl (r_move rfl rfl ?_))
 refine g_split rfl rfl ?_ ?_
 ·intro hg1; have hg1' := hg1; try simp at hg1'
  refine g_yes rfl rfl hg1 (r_move rfl rfl (g_yes rfl rfl hg1 ?_))
  refine r_len_sl rfl T.u_ints rfl ?_
  refine g_yes rfl rfl hg1 (r_move rfl rfl (g_yes rfl rfl hg1 ?_))
  refine r_len_sl rfl T.u_L_api_Card rfl ?_
  refine g_yes rfl rfl hg1 (r_gtr rfl rfl rfl ?_)
  refine p_f rfl rfl (bf1 hg1) rfl ?_
  refine hl_nil (then_n ?_)
  first | refine c_dec rfl (fun hb1 => ?_) (fun hb1 => ?_) | refine hc_cond rfl (fun hb1 => ?_) (fun hb1 => ?_)
  ·all_goals ((try simp only at hb1); omega)
  ·have hb1' := hb1; try simp at hb1'
   refine hc_skip (then_n (hc_seq (hc_seq (hc_region (r_assign rfl rfl (hl_nil (then_n (hc_block ?_))))))))
   refine hc_loop (β := Nat) ⟨fun k => k ≤ (fillB cs z).1.length, fun k => [(4, .slice cA cs.length cC), (5, int z), (6, .slice a1 (exactE cs z).1.length c1), (7, int (exactE cs z).2), (8, .slice a2 (fillB cs z).1.length c2), (9, int (fillB cs z).2.2), (11, int k)], fun _ => [], fun _ => [Row a2 (rows (fillB cs z).1), Row a1 (rows (exactE cs z).1), Row cA (rows cs)]⟩ (fun k => (fillB cs z).1.length - k) 0 (Nat.zero_le _) ⟨rfl, rfl, rfl, rfl, rfl, rfl, rfl, trivial⟩ (List.nil_sublist _) ⟨mB, mB, mB, trivial⟩ fun k hk => ?_
   simp only at hk
   refine hc_seq (hc_seq (hc_region (r_move rfl rfl (r_move rfl rfl ?_))))
   refine r_len_sl rfl T.u_ints rfl ?_
   refine r_lss rfl rfl rfl (hl_nil (then_n ?_))
   first | refine c_dec rfl (fun hb2 => ?_) (fun hb2 => ?_) | refine hc_cond rfl (fun hb2 => ?_) (fun hb2 => ?_)
   ·have hb2' := hb2; try simp at hb2'
    have hk2 : k < (fillB cs z).1.length := by omega
    have hkb := hfb _ (getD_mem hk2)
    have hkb2 := hkb
    try simp at hkb2
    refine hc_skip (then_n (hc_seq (hc_block (hc_seq (hc_region (r_move rfl rfl (r_move rfl rfl ?_)))))))
    refine r_elem (α := Int) (fillB cs z).1 k rfl T.u_ints T.sz_int rfl rfl rfl mB rfl (hk2) (by decide) ?_
    refine r_load (v := int ((fillB cs z).1.getD k default)) rfl T.cell_int rfl (cell_row mB (rows_get0 (hk2) rfl)) ?_
    refine r_lss rfl rfl rfl (r_move rfl rfl ?_)
    refine g_split rfl rfl ?_ ?_
    ·intro hg2; have hg2' := hg2; try simp at hg2'
     refine g_yes rfl rfl hg2 (r_move rfl rfl (g_yes rfl rfl hg2 (r_move rfl rfl (g_yes rfl rfl hg2 ?_))))
     refine r_elem (α := Int) (fillB cs z).1 k rfl T.u_ints T.sz_int rfl rfl rfl mB rfl (hk2) (by decide) ?_
     refine g_yes rfl rfl hg2 ?_
     refine r_load (v := int ((fillB cs z).1.getD k default)) rfl T.cell_int rfl (cell_row mB (rows_get0 (hk2) rfl)) ?_
     refine g_yes rfl rfl hg2 (r_move rfl rfl (g_yes rfl rfl hg2 ?_))
     refine r_len_sl rfl T.u_L_api_Card rfl ?_
     refine g_yes rfl rfl hg2 (r_geq rfl rfl rfl ?_)
     refine p_f rfl rfl (bf1 hg2) rfl ?_
     refine hl_nil (then_n ?_)
     first | refine c_dec rfl (fun hb3 => ?_) (fun hb3 => ?_) | refine hc_cond rfl (fun hb3 => ?_) (fun hb3 => ?_)
     ·all_goals omega
     ·have hb3' := hb3; try simp at hb3'
      refine hc_skip (inb_n (then_n (hc_region (r_move rfl rfl ?_))))
      refine r_add _ rfl rfl rfl rfl (by unfold I64; omega) ?_
      refine r_assign rfl rfl (hl_nil ?_)
      exact again _ (k + 1) (by show k + 1 ≤ (fillB cs z).1.length; omega) (by show (fillB cs z).1.length - (k + 1) < (fillB cs z).1.length - k; omega) ⟨rfl, rfl, rfl, rfl, rfl, rfl, rfl, trivial⟩ (.refl _) ⟨mB, mB, mB, trivial⟩
    ·intro hg2; have hg2' := hg2; try simp at hg2'
     all_goals omega
   ·have hb2' := hb2; try simp at hb2'
    refine hc_exit (then_exit (then_exit (inb_hit (then_n (hc_seq (hc_seq (hc_region (r_assign rfl rfl (hl_nil (then_n (hc_block ?_)))))))))))
    refine hc_loop (β := Nat) ⟨fun m => m ≤ cs.length + 1 ∧ ∀ c : List Int, c.Sublist (upI 0 cs.length) → c.length < m → ¬ (handL cs c).2.1 = z, fun m => [(4, .slice cA cs.length cC), (5, int z), (6, .slice a1 (exactE cs z).1.length c1), (7, int (exactE cs z).2), (8, .slice a2 (fillB cs z).1.length c2), (9, int (fillB cs z).2.2), (12, int m)], fun _ => [], fun _ => [Row a2 (rows (fillB cs z).1), Row a1 (rows (exactE cs z).1), Row cA (rows cs)]⟩ (fun m => cs.length + 1 - m) 0 ⟨Nat.zero_le _, fun c _ h => absurd h (Nat.not_lt_zero _)⟩ ⟨rfl, rfl, rfl, rfl, rfl, rfl, rfl, trivial⟩ (.refl _) ⟨mB, mB, mB, trivial⟩ fun m hm => ?_
    obtain ⟨hm, hno⟩ := hm
    refine hc_seq (hc_seq (hc_region (r_move rfl rfl (r_move rfl rfl ?_))))
    refine r_len_sl rfl T.u_L_api_Card rfl ?_
    refine r_leq rfl rfl rfl (hl_nil (then_n ?_))
    first | refine c_dec rfl (fun hb4 => ?_) (fun hb4 => ?_) | refine hc_cond rfl (fun hb4 => ?_) (fun hb4 => ?_)
    ·have hb4' := hb4; try simp at hb4'
     have hm2 : m ≤ cs.length := by omega
     refine hc_skip (then_n (hc_seq (hc_block (hc_seq (hc_region (r_move rfl rfl ?_))))))
     refine r_len_sl rfl T.u_L_api_Card rfl ?_
     refine r_move rfl rfl ?_
     refine hl_call F.kit_Subsets_cb rfl rfl (kit_Subsets_meets cs.length m (by omega) (by omega)) (List.Perm.refl _) trivial fun y hz2 => ?_
     obtain ⟨zp, ZA, zc⟩ := y
     change lsts zp = _ at hz2
     have hzl : zp.length = (combos m (upI 0 cs.length)).length := by rw [← lsts_len, hz2]
     have hzb : zp.length ≤ 64 := by have h9 := combos_pow (upI 0 cs.length) m; rw [upI_len] at h9; have h8 : 2 ^ (cs.length - 0) ≤ 2 ^ 6 := Nat.pow_le_pow_right (by decide) (by omega); omega
     refine r_assign rfl rfl (hl_nil (then_n (hc_seq (hc_region (r_assign rfl rfl (hl_nil (then_n (hc_block ?_))))))))
     refine hc_loop (β := Nat) ⟨fun i => i ≤ zp.length ∧ ∀ j, j < i → ¬ (handL cs ((combos m (upI 0 cs.length)).getD j default)).2.1 = z, fun i => [(4, .slice cA cs.length cC), (5, int z), (6, .slice a1 (exactE cs z).1.length c1), (7, int (exactE cs z).2), (8, .slice a2 (fillB cs z).1.length c2), (9, int (fillB cs z).2.2), (12, int m), (13, .slice ZA zp.length zc), (14, int i)], fun _ => [], fun _ => [Rows2 ZA zp, Row a2 (rows (fillB cs z).1), Row a1 (rows (exactE cs z).1), Row cA (rows cs)]⟩ (fun i => zp.length - i) 0 ⟨Nat.zero_le _, fun j h => absurd h (Nat.not_lt_zero _)⟩ ⟨rfl, rfl, rfl, rfl, rfl, rfl, rfl, rfl, rfl, trivial⟩ (.refl _) ⟨mB, mB, mB, mB, trivial⟩ fun i hi => ?_
     obtain ⟨hi, hnj⟩ := hi
     refine hc_seq (hc_seq (hc_region (r_move rfl rfl (r_move rfl rfl ?_))))
     refine r_len_sl rfl T.u_intss rfl ?_
     refine r_lss rfl rfl rfl (hl_nil (then_n ?_))
     first | refine c_dec rfl (fun hb5 => ?_) (fun hb5 => ?_) | refine hc_cond rfl (fun hb5 => ?_) (fun hb5 => ?_)
     ·have hb5' := hb5; try simp at hb5'
      have hi2 : i < zp.length := by omega
      have hcl : i < (combos m (upI 0 cs.length)).length := by omega
      have hpl : (zp.getD i default).l = (combos m (upI 0 cs.length)).getD i default := by rw [← lsts_at zp hi2, hz2]; rfl
      have hpc : (zp.getD i default).l ∈ (combos m (upI 0 cs.length)) := by rw [hpl]; exact getD_mem hcl
      have hps := combos_sub hpc
      have hpb : ∀ v ∈ (zp.getD i default).l, 0 ≤ v ∧ v < (cs.length : Int) := fun v hv => by have := upI_mem (hps.subset hv); omega
      have hplen : (zp.getD i default).l.length ≤ cs.length := by have := hps.length_le; rw [upI_len] at this; omega
      refine hc_skip (then_n (hc_seq (hc_block (hc_seq (hc_region (r_move rfl rfl (r_move rfl rfl (r_move rfl rfl ?_))))))))
      refine hl_outer (A := ZA) (ps := zp) mB ?_
      refine r_elem (α := Sl Int) zp i rfl T.u_intss T.sz_ints rfl rfl rfl mB rfl hi2 (by decide) ?_
      refine r_load (v := .slice (zp.getD i default).a (zp.getD i default).l.length (zp.getD i default).c) rfl T.cell_ints rfl (cell_row mB (rows_get0 hi2 rfl)) ?_
      refine hl_inner (A := ZA) (ps := zp) (p := (zp.getD i default)) mB (getD_mem hi2) ?_
      refine hl_call F.law09_sums_cb rfl rfl (law09_sums_meets cs (zp.getD i default).l hcd hpb (by omega) rfl) (List.Perm.refl _) ⟨mB, mB, trivial⟩ fun _ _ => ?_
      refine r_move rfl rfl (r_extract rfl rfl rfl (r_extract rfl rfl rfl (r_assign rfl rfl (r_assign rfl rfl (hl_nil (then_n (hc_seq (hc_region (r_move rfl rfl (r_move rfl rfl (r_eql rfl rfl rfl ?_)))))))))))
      refine hl_nil (then_n ?_)
      first | refine c_dec rfl (fun hb6 => ?_) (fun hb6 => ?_) | refine hc_cond rfl (fun hb6 => ?_) (fun hb6 => ?_)
      ·have hb6' := hb6; try simp at hb6'
       have hlin : (handL cs (zp.getD i default).l).2.1 = z := hb6
       have hbest := first_best hcl hno hnj (by rw [← hpl]; exact hlin)
       rw [← hpl] at hbest
       have hEx := exact_some h0 hbest
       have he1 : (exactE cs z).1 = (zp.getD i default).l := by rw [hEx]; rfl
       have he2 : (exactE cs z).2 = 0 := by rw [hEx]
       have hpr := fill_lines (room := z) (by omega) hps hlin
       have hp1 : (priL cs (zp.getD i default).l).sum ≤ (fillB cs z).2.2 := hpr.1
       have hp2 : (priL cs (zp.getD i default).l).sum < (fillB cs z).2.2 ∨ (linL cs (fillB cs z).1).sum = z := hpr.2
       have hp1s := hp1
       try simp at hp1s
       have hp2s := hp2
       try simp at hp2s
       refine hc_seq (hc_region (r_move rfl rfl (r_move rfl rfl ?_)))
       refine hl_call F.law09_sums_cb rfl rfl (law09_sums_meets cs (fillB cs z).1 hcd hfb (by omega) rfl) (List.Perm.refl _) ⟨mB, mB, trivial⟩ fun _ _ => ?_
       refine r_move rfl rfl (r_extract rfl rfl rfl (r_extract rfl rfl rfl (r_assign rfl rfl (r_assign rfl rfl (hl_nil (then_n (hc_seq (hc_region (r_move rfl rfl (r_eql rfl rfl rfl (r_move rfl rfl ?_)))))))))))
       refine g_split rfl rfl ?_ ?_
       ·intro hg3; have hg3' := hg3; try simp at hg3'
        refine g_yes rfl rfl hg3 (r_move rfl rfl (g_yes rfl rfl hg3 (r_move rfl rfl (g_yes rfl rfl hg3 (r_move rfl rfl (g_yes rfl rfl hg3 ?_))))))
        refine hl_outer (A := ZA) (ps := zp) mB ?_
        refine r_elem (α := Sl Int) zp i rfl T.u_intss T.sz_ints rfl rfl rfl mB rfl hi2 (by decide) ?_
        refine g_yes rfl rfl hg3 ?_
        refine r_load (v := .slice (zp.getD i default).a (zp.getD i default).l.length (zp.getD i default).c) rfl T.cell_ints rfl (cell_row mB (rows_get0 hi2 rfl)) ?_
        refine hl_inner (A := ZA) (ps := zp) (p := (zp.getD i default)) mB (getD_mem hi2) ?_
        refine g_yes rfl rfl hg3 ?_
        refine hl_call F.kit_EqInts_cb rfl rfl (kit_EqInts_meets (exactE cs z).1 (zp.getD i default).l (by rw [he1]; omega)) (List.Perm.refl _) ⟨mB, mB, trivial⟩ fun _ _ => ?_
        rw [decide_eq_true he1]
        refine p_t rfl rfl (bt1 hg3) rfl ?_
        refine r_move rfl rfl ?_
        refine g_split rfl rfl ?_ ?_
        ·intro hg4; have hg4' := hg4; try simp at hg4'
         refine g_yes rfl rfl hg4 (r_move rfl rfl (g_yes rfl rfl hg4 (r_move rfl rfl (g_yes rfl rfl hg4 (r_geq rfl rfl rfl ?_)))))
         refine p_t rfl rfl (bt1 hg4) rfl ?_
         refine r_move rfl rfl ?_
         refine g_split rfl rfl ?_ ?_
         ·intro hg5; have hg5' := hg5; try simp at hg5'
          refine g_yes rfl rfl hg5 (r_move rfl rfl (g_yes rfl rfl hg5 (r_move rfl rfl (g_yes rfl rfl hg5 (r_gtr rfl rfl rfl (g_yes rfl rfl hg5 (r_move rfl rfl ?_)))))))
          refine g_split rfl rfl ?_ ?_
          ·intro hg6; have hg6' := hg6; try simp at hg6'
           refine g_yes rfl rfl hg6 (r_move rfl rfl (g_yes rfl rfl hg6 (r_move rfl rfl (g_yes rfl rfl hg6 (r_eql rfl rfl rfl (g_yes rfl rfl hg5 ?_))))))
           refine p_f rfl rfl (bf1 hg6) rfl ?_
           refine p_t rfl rfl (bt1 hg5) rfl ?_
           refine r_move rfl rfl ?_
           refine g_split rfl rfl ?_ ?_
           ·intro hg7; have hg7' := hg7; try simp at hg7'
            refine g_yes rfl rfl hg7 ?_
            refine hl_call F.law09_paying_cb rfl rfl (law09_paying_meets) (List.Perm.refl _) trivial fun _ _ => ?_
            refine p_t rfl rfl (bt1 hg7) rfl ?_
            refine r_assign rfl rfl (hl_nil (then_n (hc_ret (inb_ret (then_ret (then_ret (inb_ret (inb_ret (then_ret (then_ret (inb_ret ?_)))))))))))
            refine then_ret ?_
            exact ret1 () rfl rfl rfl trivial (List.nil_sublist _) trivial
           ·intro hg7; have hg7' := hg7; try simp at hg7'
            all_goals omega
          ·intro hg6; have hg6' := hg6; try simp at hg6'
           refine g_no rfl rfl rfl rfl rfl hg6 (g_no rfl rfl rfl rfl rfl hg6 (g_no rfl rfl rfl rfl rfl hg6 (g_yes rfl rfl hg5 ?_)))
           refine p_t rfl rfl (bt2 hg6) rfl ?_
           refine p_t rfl rfl (bt1 hg5) rfl ?_
           refine r_move rfl rfl (g_yes rfl rfl rfl ?_)
           refine hl_call F.law09_paying_cb rfl rfl (law09_paying_meets) (List.Perm.refl _) trivial fun _ _ => ?_
           refine p_t rfl rfl rfl rfl (r_assign rfl rfl (hl_nil (then_n (hc_ret (inb_ret (then_ret (then_ret (inb_ret (inb_ret (then_ret (then_ret ?_)))))))))))
           refine inb_ret (then_ret ?_)
           exact ret1 () rfl rfl rfl trivial (List.nil_sublist _) trivial
         ·intro hg5; have hg5' := hg5; try simp at hg5'
          all_goals omega
        ·intro hg4; have hg4' := hg4; try simp at hg4'
         all_goals (first | exact absurd rfl hg4 | cases hg4)
       ·intro hg3; have hg3' := hg3; try simp at hg3'
        all_goals omega
      ·have hb6' := hb6; try simp at hb6'
       refine hc_skip (inb_n (then_n (hc_region (r_move rfl rfl ?_))))
       refine r_add _ rfl rfl rfl rfl (by unfold I64; omega) ?_
       refine r_assign rfl rfl (hl_nil ?_)
       exact again _ (i + 1) ⟨by show i + 1 ≤ zp.length; omega, fun j hj => (Nat.lt_or_ge j i).elim (hnj j) fun h => by
         have e : j = i := by omega
         rw [e, ← hpl]
         exact hb6⟩ (by show zp.length - (i + 1) < zp.length - i; omega) ⟨rfl, rfl, rfl, rfl, rfl, rfl, rfl, rfl, rfl, trivial⟩ (.refl _) ⟨mB, mB, mB, mB, trivial⟩
     ·have hb5' := hb5; try simp at hb5'
      obtain rfl : i = zp.length := by omega
      refine hc_exit (then_exit (then_exit (inb_hit (inb_n (then_n (hc_region (r_move rfl rfl ?_)))))))
      refine r_add _ rfl rfl rfl rfl (by unfold I64; omega) ?_
      refine r_assign rfl rfl (hl_nil ?_)
      exact again _ (m + 1) ⟨by show m + 1 ≤ cs.length + 1; omega, fun c hc hl => (Nat.lt_or_ge c.length m).elim (hno c hc) fun h => by
        have h5 := combos_mem hc
        rw [show c.length = m by omega] at h5
        obtain ⟨j, hj, e⟩ := List.getElem_of_mem h5
        have h6 := hnj j (by omega)
        rw [getD_at hj, e] at h6
        exact h6⟩ (by show cs.length + 1 - (m + 1) < cs.length + 1 - m; omega) ⟨rfl, rfl, rfl, rfl, rfl, rfl, rfl, trivial⟩ (.refl _) ⟨mB, mB, mB, trivial⟩
    ·have hb4' := hb4; try simp at hb4'
     have hEx := exact_none h0 (fun c hc => hno c hc (by have := hc.length_le; rw [upI_len] at this; omega))
     have he1 : (exactE cs z).1.length = 0 := by rw [hEx]; rfl
     have he2 : (exactE cs z).2 = 11 := by rw [hEx]
     have he3 : (exactE cs z).1 = [] := by rw [hEx]
     refine hc_exit (then_exit (then_exit (inb_hit (then_n (hc_seq (hc_region (r_move rfl rfl (r_eql rfl rfl rfl (r_move rfl rfl ?_)))))))))
     refine g_split rfl rfl ?_ ?_
     ·intro hg8; have hg8' := hg8; try simp at hg8'
      refine g_yes rfl rfl hg8 (r_move rfl rfl (g_yes rfl rfl hg8 ?_))
      refine r_len_sl rfl T.u_ints rfl ?_
      refine g_yes rfl rfl hg8 (r_eql rfl rfl rfl ?_)
      refine p_t rfl rfl (bt1 hg8) rfl ?_
      refine r_move rfl rfl ?_
      refine g_split rfl rfl ?_ ?_
      ·intro hg9; have hg9' := hg9; try simp at hg9'
       refine g_yes rfl rfl hg9 ?_
       refine hl_call F.law09_paying_cb rfl rfl (law09_paying_meets) (List.Perm.refl _) trivial fun _ _ => ?_
       refine p_t rfl rfl (bt1 hg9) rfl ?_
       refine r_assign rfl rfl (hl_nil (then_n (hc_ret ?_)))
       exact ret1 () rfl rfl rfl trivial (List.nil_sublist _) trivial
      ·intro hg9; have hg9' := hg9; try simp at hg9'
       all_goals exact absurd he3 (by simpa using hg9)
     ·intro hg8; have hg8' := hg8; try simp at hg8'
      all_goals omega
 ·intro hg1; have hg1' := hg1; try simp at hg1'
end Go.Proofs.Ytdlbbfcfahahdaa
end
