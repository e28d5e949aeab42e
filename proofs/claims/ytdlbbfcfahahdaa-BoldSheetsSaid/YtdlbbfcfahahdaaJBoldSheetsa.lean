/- Texts of this claim, one behind another. -/

import Derived.Test.YtdlbbfcfahahdaaJAo
section
namespace Go.Proofs.Ytdlbbfcfahahdaa
open Go Go.W
set_option linter.unusedVariables false
set_option linter.unusedSimpArgs false
set_option maxRecDepth 20000
attribute [local irreducible] HL HC HQ HB Row Rows2 Blk Facts
theorem mul_mid {n p q : Int} (hn : 0 ≤ n) (hp : 1 ≤ p) (hq : 1 ≤ q) : (0 ≤ n * p ∧ n * p ≤ n * (p * q)) ∧ n * p * q = n * (p * q) := by
  have h1 : 0 ≤ n * p := Int.mul_nonneg hn (by omega)
  have h2 := Int.mul_le_mul_of_nonneg_left hq h1
  rw [Int.mul_one] at h2
  exact ⟨⟨h1, by rw [← Int.mul_assoc]; exact h2⟩, Int.mul_assoc ..⟩
theorem ref09_within_meets (n lo hi : Int) : Meets Try.prog F.ref09_within [int n, int lo, int hi] { val := fun _ : Unit => .bool (decide (lo ≤ n ∧ n ≤ hi)) } := by
 refine meets_intro F.ref09_within_f rfl (Nat.le_of_ble_eq_true rfl) fun w0 => ?_
 refine hc_seq (hc_region (r_assign rfl rfl (hl_nil (then_n (hc_seq (hc_region (r_move rfl rfl (r_move rfl rfl (r_geq rfl rfl rfl (r_move rfl rfl ?_))))))))))
 refine g_split rfl rfl ?_ ?_
 ·intro hg1; have hg1' := hg1; try simp at hg1'
  refine g_yes rfl rfl hg1 (r_move rfl rfl (g_yes rfl rfl hg1 (r_move rfl rfl (g_yes rfl rfl hg1 (r_leq rfl rfl rfl ?_)))))
  refine p_t rfl rfl (bt1 hg1) rfl ?_
  refine r_assign rfl rfl (hl_nil (then_n (hc_ret ?_)))
  exact ret1 () rfl (congrArg (fun b => some (Value.bool b)) (by simp [hg1'])) rfl trivial (List.nil_sublist _) trivial
 ·intro hg1; have hg1' := hg1; try simp at hg1'
  refine g_no rfl rfl rfl rfl rfl hg1 (g_no rfl rfl rfl rfl rfl hg1 (g_no rfl rfl rfl rfl rfl hg1 ?_))
  refine p_f rfl rfl (bf2 hg1) rfl ?_
  refine r_assign rfl rfl (hl_nil (then_n (hc_ret ?_)))
  exact ret1 () rfl (congrArg (fun b => some (Value.bool b)) (by simp [Int.not_le.2 hg1'])) rfl trivial (List.nil_sublist _) trivial
theorem ref09_Sheets_meets (l p q : Int) : Meets Try.prog F.ref09_Sheets [int l, int p, int q] { val := fun _ : Unit => .tuple #[int (sheetsE l p q).1, int (sheetsE l p q).2.1, int (sheetsE l p q).2.2] } := by
 refine meets_intro F.ref09_Sheets_f rfl (Nat.le_of_ble_eq_true rfl) fun w0 => ?_
 refine hc_seq (hc_region (r_assign rfl rfl (r_assign rfl rfl (r_assign rfl rfl (hl_nil (then_n (hc_seq (hc_seq (hc_region (r_move rfl rfl ?_))))))))))
 refine hl_call F.ref09_within_cb rfl rfl (ref09_within_meets _ _ _) (List.Perm.refl _) trivial fun _ _ => ?_
 refine r_not rfl rfl (r_move rfl rfl ?_)
 refine g_split rfl rfl ?_ ?_
 ·intro hg1; have hg1' := hg1; try simp at hg1'
  refine g_yes rfl rfl hg1 (r_move rfl rfl (g_yes rfl rfl hg1 ?_))
  refine hl_call F.ref09_within_cb rfl rfl (ref09_within_meets _ _ _) (List.Perm.refl _) trivial fun _ _ => ?_
  refine g_yes rfl rfl hg1 (r_not rfl rfl ?_)
  refine p_f rfl rfl (bf1 hg1) rfl ?_
  refine r_move rfl rfl ?_
  refine g_split rfl rfl ?_ ?_
  ·intro hg2; have hg2' := hg2; try simp at hg2'
   refine g_yes rfl rfl hg2 (r_move rfl rfl (g_yes rfl rfl hg2 ?_))
   refine hl_call F.ref09_within_cb rfl rfl (ref09_within_meets _ _ _) (List.Perm.refl _) trivial fun _ _ => ?_
   refine g_yes rfl rfl hg2 (r_not rfl rfl ?_)
   refine p_f rfl rfl (bf1 hg2) rfl ?_
   refine hl_nil (then_n ?_)
   first | refine c_dec rfl (fun hb1 => ?_) (fun hb1 => ?_) | refine hc_cond rfl (fun hb1 => ?_) (fun hb1 => ?_)
   ·have hb1' := hb1; try simp at hb1'
    refine hc_seq (hc_region (r_assign rfl rfl (r_assign rfl rfl (r_assign rfl rfl (hl_nil (then_n (hc_ret (then_ret ?_))))))))
    exact ret3 () rfl rfl rfl rfl (by show Value.tuple #[int (sheetsE l p q).1, int (sheetsE l p q).2.1, int (sheetsE l p q).2.2] = _; unfold sheetsE; rw [if_pos (by omega)]) rfl trivial (List.nil_sublist _) trivial
   ·have hb1' := hb1; try simp at hb1'
    have hq2 := nbf hb1
    have hm := mul_1 hg2' hq2
    have hs := sheet_bd hg1'.1 hm.1
    have hmm := mul_mid (p := p) (q := q) hs.1.1 hg2'.1 hq2.1
    refine hc_skip (then_n (hc_seq (hc_region (r_move rfl rfl (r_move rfl rfl (r_move rfl rfl ?_))))))
    refine r_mul _ rfl rfl rfl rfl (by unfold I64; omega) ?_
    refine r_add _ rfl rfl rfl rfl (by unfold I64; omega) ?_
    refine r_sub _ rfl rfl rfl rfl (by unfold I64; omega) ?_
    refine r_move rfl rfl (r_move rfl rfl ?_)
    refine r_mul _ rfl rfl rfl rfl (by unfold I64; omega) ?_
    refine r_quo ((l + p * q - 1).tdiv (p * q)) rfl rfl rfl (by omega) (IntWalk.i64_in _ (by omega)) ?_
    refine r_assign rfl rfl (hl_nil (then_n (hc_seq (hc_region (r_move rfl rfl (r_move rfl rfl (r_move rfl rfl ?_)))))))
    refine r_mul _ rfl rfl rfl rfl (by unfold I64; omega) ?_
    refine r_move rfl rfl ?_
    refine r_mul _ rfl rfl rfl rfl (by unfold I64; omega) ?_
    refine r_move rfl rfl ?_
    refine r_sub _ rfl rfl rfl rfl (by unfold I64; omega) ?_
    refine r_assign rfl rfl (r_assign rfl rfl (r_assign rfl rfl (hl_nil (then_n (hc_ret ?_)))))
    exact ret3 () rfl rfl rfl rfl (by show Value.tuple #[int (sheetsE l p q).1, int (sheetsE l p q).2.1, int (sheetsE l p q).2.2] = _; unfold sheetsE; rw [if_neg (by omega)] <;> (first | rfl | rw [hmm.2])) rfl trivial (List.nil_sublist _) trivial
  ·intro hg2; have hg2' := hg2; try simp at hg2'
   refine g_no rfl rfl rfl rfl rfl hg2 (g_no rfl rfl rfl rfl rfl hg2 (g_no rfl rfl rfl rfl rfl hg2 ?_))
   refine p_t rfl rfl (bt2 hg2) rfl ?_
   refine hl_nil (then_n (c_t rfl rfl (hc_seq (hc_region (r_assign rfl rfl (r_assign rfl rfl (r_assign rfl rfl (hl_nil (then_n (hc_ret (then_ret ?_)))))))))))
   exact ret3 () rfl rfl rfl rfl (by show Value.tuple #[int (sheetsE l p q).1, int (sheetsE l p q).2.1, int (sheetsE l p q).2.2] = _; unfold sheetsE; rw [if_pos (by omega)]) rfl trivial (List.nil_sublist _) trivial
 ·intro hg1; have hg1' := hg1; try simp at hg1'
  refine g_no rfl rfl rfl rfl rfl hg1 (g_no rfl rfl rfl rfl rfl hg1 (g_no rfl rfl rfl rfl rfl hg1 ?_))
  refine p_t rfl rfl (bt2 hg1) rfl ?_
  refine r_move rfl rfl (g_no rfl rfl rfl rfl rfl rfl (g_no rfl rfl rfl rfl rfl rfl (g_no rfl rfl rfl rfl rfl rfl (p_t rfl rfl rfl rfl (hl_nil (then_n (c_t rfl rfl (hc_seq (hc_region (r_assign rfl rfl (r_assign rfl rfl ?_)))))))))))
  refine r_assign rfl rfl (hl_nil (then_n (hc_ret (then_ret ?_))))
  exact ret3 () rfl rfl rfl rfl (by show Value.tuple #[int (sheetsE l p q).1, int (sheetsE l p q).2.1, int (sheetsE l p q).2.2] = _; unfold sheetsE; rw [if_pos (by omega)]) rfl trivial (List.nil_sublist _) trivial
end Go.Proofs.Ytdlbbfcfahahdaa
end
section
namespace Go.Proofs.Ytdlbbfcfahahdaa
open Go Go.W
set_option linter.unusedVariables false
set_option linter.unusedSimpArgs false
set_option maxRecDepth 20000
attribute [local irreducible] HL HC HQ HB Row Rows2 Blk Facts
theorem law09_BoldSheets_meets {A : Option Addr} {c : Nat} (l p q : Int) (nums : List Int) (hn : nums.length ≤ 9223372036854775807) : Meets Try.prog F.law09_BoldSheets [int l, int p, int q, .slice A nums.length c] { LI := [Row A (rows nums)], val := fun _ : Unit => .bool true } := by
 refine meets_intro F.law09_BoldSheets_f rfl (Nat.le_of_ble_eq_true rfl) fun w0 => ?_
 refine hc_seq (hc_region (r_assign rfl rfl (hl_nil (then_n (hc_seq (hc_region (r_move rfl rfl ?_)))))))
 refine hl_call F.kit_NewDice_cb rfl rfl (kit_NewDice_meets nums) (List.Perm.refl _) ⟨mB, trivial⟩ fun g _ => ?_
 refine r_assign rfl rfl (hl_nil (then_n (hc_seq (hc_region (r_move rfl rfl ?_)))))
 refine hl_call F.kit_Dice_From_cb rfl rfl (kit_Dice_From_meets 1 200 hn (dok0 nums) (by decide)) (List.Perm.refl _) ⟨mB, trivial⟩ fun x hx => ?_
 obtain ⟨s1, z1⟩ := x
 obtain ⟨hs1, hz1⟩ := hx
 simp only [FromInv, ToInv] at hz1
 refine r_move rfl rfl ?_
 refine hl_call F.kit_Dice_From_cb rfl rfl (kit_Dice_From_meets 1 64 hn hs1 (by decide)) (List.Perm.refl _) ⟨mB, trivial⟩ fun x hx => ?_
 obtain ⟨s2, z2⟩ := x
 obtain ⟨hs2, hz2⟩ := hx
 simp only [FromInv, ToInv] at hz2
 refine r_assign rfl rfl (r_assign rfl rfl (hl_nil (then_n (hc_seq (hc_region (r_move rfl rfl (r_move rfl rfl ?_)))))))
 have hm := mul_1 (a := z1) (b := z2) (A := 200) (B := 64) (by omega) (by omega)
 refine hl_call F.kit_Dice_To_cb rfl rfl (kit_Dice_To_meets 100000 hn hs2 (by decide)) (List.Perm.refl _) ⟨mB, trivial⟩ fun x hx => ?_
 obtain ⟨s3, z3⟩ := x
 obtain ⟨hs3, hz3⟩ := hx
 simp only [FromInv, ToInv] at hz3
 refine r_move rfl rfl (r_move rfl rfl ?_)
 refine r_mul (z1 * z2) rfl rfl rfl rfl (by unfold I64; omega) ?_
 refine r_move rfl rfl (r_move rfl rfl ?_)
 refine r_mul (z1 * z2) rfl rfl rfl rfl (by unfold I64; omega) ?_
 refine r_add (z1 * z2 + 1) rfl rfl rfl rfl (by unfold I64; omega) ?_
 refine r_move rfl rfl ?_
 refine r_buildSlice _ rfl rfl (fun _ => T.bs_ints_5 ..) fun g1 => ?_
 refine hl_letgo (rows ([l, z3, z1 * z2, z1 * z2 + 1, l] : List Int)) (List.prefix_refl _) ?_
 refine r_move rfl rfl (r_move rfl rfl (r_move rfl rfl (r_move rfl rfl (r_move rfl rfl ?_))))
 refine r_buildSlice _ rfl rfl (fun _ => T.bs_ints_5 ..) fun g2 => ?_
 refine hl_letgo (rows ([p, z1, z1, z1, z1] : List Int)) (List.prefix_refl _) ?_
 refine r_move rfl rfl (r_move rfl rfl (r_move rfl rfl (r_move rfl rfl (r_move rfl rfl ?_))))
 refine r_buildSlice _ rfl rfl (fun _ => T.bs_ints_5 ..) fun g3 => ?_
 refine hl_letgo (rows ([q, z2, z2, z2, z2] : List Int)) (List.prefix_refl _) ?_
 refine r_assign rfl rfl (r_assign rfl rfl (r_assign rfl rfl (hl_nil (then_n (hc_seq (hc_seq (hc_region (r_assign rfl rfl (hl_nil (then_n (hc_block ?_)))))))))))
 refine hc_loop (β := Nat) ⟨fun k => k ≤ 5, fun k => [(12, .slice (some ⟨g1, 0, none⟩) 5 5), (13, .slice (some ⟨g2, 0, none⟩) 5 5), (14, .slice (some ⟨g3, 0, none⟩) 5 5), (15, int k)], fun _ => [], fun _ => [Row (some ⟨g1, 0, none⟩) (rows ([l, z3, z1 * z2, z1 * z2 + 1, l] : List Int)), Row (some ⟨g2, 0, none⟩) (rows ([p, z1, z1, z1, z1] : List Int)), Row (some ⟨g3, 0, none⟩) (rows ([q, z2, z2, z2, z2] : List Int))]⟩ (fun k => 5 - k) 0 (Nat.zero_le _) ⟨rfl, rfl, rfl, rfl, trivial⟩ (List.nil_sublist _) ⟨mB, mB, mB, trivial⟩ fun k hk => ?_
 simp only at hk
 refine hc_seq (hc_seq (hc_region (r_move rfl rfl (r_move rfl rfl ?_))))
 refine r_len_sl rfl T.u_ints rfl ?_
 refine r_lss rfl rfl rfl (hl_nil (then_n ?_))
 refine c_dec rfl (fun hb1 => ?_) (fun hb1 => ?_)
 ·have hb1' := hb1; try simp at hb1'
  have hk2 : k < 5 := by omega
  refine hc_skip (then_n (hc_seq (hc_block (hc_seq ?_))))
  refine hc_draw 19 mixed (by decide) (by decide) rfl rfl ?_
  refine hb_ex _ rfl rfl rfl (fun w1 => r_move rfl rfl (hl_nil (qe_done rfl))) ?_
  refine hb_ex _ rfl rfl rfl (fun w1 => r_move rfl rfl (hl_nil (qe_done rfl))) ?_
  refine hb_ex _ rfl rfl rfl (fun w1 => r_elem (α := Int) [l, z3, z1 * z2, z1 * z2 + 1, l] k rfl T.u_ints T.sz_int rfl rfl rfl mB rfl (show k < ([l, z3, z1 * z2, z1 * z2 + 1, l] : List Int).length from hk2) (by decide) (hl_nil (qe_done rfl))) ?_
  refine hb_ex _ rfl rfl rfl (fun w1 => r_load (v := int (([l, z3, z1 * z2, z1 * z2 + 1, l] : List Int).getD k default)) rfl T.cell_int rfl (cell_row mB (rows_get0 (show k < ([l, z3, z1 * z2, z1 * z2 + 1, l] : List Int).length from hk2) rfl)) (hl_nil (qe_done rfl))) ?_
  refine hb_ex _ rfl rfl rfl (fun w1 => r_move rfl rfl (hl_nil (qe_done rfl))) ?_
  refine hb_ex _ rfl rfl rfl (fun w1 => r_move rfl rfl (hl_nil (qe_done rfl))) ?_
  refine hb_ex _ rfl rfl rfl (fun w1 => r_elem (α := Int) [p, z1, z1, z1, z1] k rfl T.u_ints T.sz_int rfl rfl rfl mB rfl (show k < ([p, z1, z1, z1, z1] : List Int).length from hk2) (by decide) (hl_nil (qe_done rfl))) ?_
  refine hb_ex _ rfl rfl rfl (fun w1 => r_load (v := int (([p, z1, z1, z1, z1] : List Int).getD k default)) rfl T.cell_int rfl (cell_row mB (rows_get0 (show k < ([p, z1, z1, z1, z1] : List Int).length from hk2) rfl)) (hl_nil (qe_done rfl))) ?_
  refine hb_ex _ rfl rfl rfl (fun w1 => r_move rfl rfl (hl_nil (qe_done rfl))) ?_
  refine hb_ex _ rfl rfl rfl (fun w1 => r_move rfl rfl (hl_nil (qe_done rfl))) ?_
  refine hb_ex _ rfl rfl rfl (fun w1 => r_elem (α := Int) [q, z2, z2, z2, z2] k rfl T.u_ints T.sz_int rfl rfl rfl mB rfl (show k < ([q, z2, z2, z2, z2] : List Int).length from hk2) (by decide) (hl_nil (qe_done rfl))) ?_
  refine hb_ex _ rfl rfl rfl (fun w1 => r_load (v := int (([q, z2, z2, z2, z2] : List Int).getD k default)) rfl T.cell_int rfl (cell_row mB (rows_get0 (show k < ([q, z2, z2, z2, z2] : List Int).length from hk2) rfl)) (hl_nil (qe_done rfl))) ?_
  refine hb_ex _ rfl rfl rfl (fun w1 => hl_call F.bold_Sheets_cb rfl rfl (bold_Sheets_meets (([l, z3, z1 * z2, z1 * z2 + 1, l] : List Int).getD k default) (([p, z1, z1, z1, z1] : List Int).getD k default) (([q, z2, z2, z2, z2] : List Int).getD k default)) (List.Perm.refl _) trivial fun _ _ => (hl_nil (qe_done rfl))) ?_
  refine hb_ex _ rfl rfl rfl (fun w1 => r_move rfl rfl (hl_nil (qe_done rfl))) ?_
  refine hb_ex _ rfl rfl rfl (fun w1 => r_extract rfl rfl rfl (hl_nil (qe_done rfl))) ?_
  refine hb_ex _ rfl rfl rfl (fun w1 => r_extract rfl rfl rfl (hl_nil (qe_done rfl))) ?_
  refine hb_ex _ rfl rfl rfl (fun w1 => r_extract rfl rfl rfl (hl_nil (qe_done rfl))) ?_
  refine hb_ex _ rfl rfl rfl (fun w1 => r_assign rfl rfl (hl_nil (qe_done rfl))) ?_
  refine hb_ex _ rfl rfl rfl (fun w1 => r_assign rfl rfl (hl_nil (qe_done rfl))) ?_
  refine hb_nil ⟨rfl, ?_⟩
  refine r_assign rfl rfl (hl_nil (then_n (hc_seq ?_)))
  refine hc_draw 19 mixed (by decide) (by decide) rfl rfl ?_
  refine hb_ex _ rfl rfl rfl (fun w1 => r_move rfl rfl (hl_nil (qe_done rfl))) ?_
  refine hb_ex _ rfl rfl rfl (fun w1 => r_move rfl rfl (hl_nil (qe_done rfl))) ?_
  refine hb_ex _ rfl rfl rfl (fun w1 => r_elem (α := Int) [l, z3, z1 * z2, z1 * z2 + 1, l] k rfl T.u_ints T.sz_int rfl rfl rfl mB rfl (show k < ([l, z3, z1 * z2, z1 * z2 + 1, l] : List Int).length from hk2) (by decide) (hl_nil (qe_done rfl))) ?_
  refine hb_ex _ rfl rfl rfl (fun w1 => r_load (v := int (([l, z3, z1 * z2, z1 * z2 + 1, l] : List Int).getD k default)) rfl T.cell_int rfl (cell_row mB (rows_get0 (show k < ([l, z3, z1 * z2, z1 * z2 + 1, l] : List Int).length from hk2) rfl)) (hl_nil (qe_done rfl))) ?_
  refine hb_ex _ rfl rfl rfl (fun w1 => r_move rfl rfl (hl_nil (qe_done rfl))) ?_
  refine hb_ex _ rfl rfl rfl (fun w1 => r_move rfl rfl (hl_nil (qe_done rfl))) ?_
  refine hb_ex _ rfl rfl rfl (fun w1 => r_elem (α := Int) [p, z1, z1, z1, z1] k rfl T.u_ints T.sz_int rfl rfl rfl mB rfl (show k < ([p, z1, z1, z1, z1] : List Int).length from hk2) (by decide) (hl_nil (qe_done rfl))) ?_
  refine hb_ex _ rfl rfl rfl (fun w1 => r_load (v := int (([p, z1, z1, z1, z1] : List Int).getD k default)) rfl T.cell_int rfl (cell_row mB (rows_get0 (show k < ([p, z1, z1, z1, z1] : List Int).length from hk2) rfl)) (hl_nil (qe_done rfl))) ?_
  refine hb_ex _ rfl rfl rfl (fun w1 => r_move rfl rfl (hl_nil (qe_done rfl))) ?_
  refine hb_ex _ rfl rfl rfl (fun w1 => r_move rfl rfl (hl_nil (qe_done rfl))) ?_
  refine hb_ex _ rfl rfl rfl (fun w1 => r_elem (α := Int) [q, z2, z2, z2, z2] k rfl T.u_ints T.sz_int rfl rfl rfl mB rfl (show k < ([q, z2, z2, z2, z2] : List Int).length from hk2) (by decide) (hl_nil (qe_done rfl))) ?_
  refine hb_ex _ rfl rfl rfl (fun w1 => r_load (v := int (([q, z2, z2, z2, z2] : List Int).getD k default)) rfl T.cell_int rfl (cell_row mB (rows_get0 (show k < ([q, z2, z2, z2, z2] : List Int).length from hk2) rfl)) (hl_nil (qe_done rfl))) ?_
  refine hb_ex _ rfl rfl rfl (fun w1 => hl_call F.ref09_Sheets_cb rfl rfl (ref09_Sheets_meets (([l, z3, z1 * z2, z1 * z2 + 1, l] : List Int).getD k default) (([p, z1, z1, z1, z1] : List Int).getD k default) (([q, z2, z2, z2, z2] : List Int).getD k default)) (List.Perm.refl _) trivial fun _ _ => (hl_nil (qe_done rfl))) ?_
  refine hb_ex _ rfl rfl rfl (fun w1 => r_move rfl rfl (hl_nil (qe_done rfl))) ?_
  refine hb_ex _ rfl rfl rfl (fun w1 => r_extract rfl rfl rfl (hl_nil (qe_done rfl))) ?_
  refine hb_ex _ rfl rfl rfl (fun w1 => r_extract rfl rfl rfl (hl_nil (qe_done rfl))) ?_
  refine hb_ex _ rfl rfl rfl (fun w1 => r_extract rfl rfl rfl (hl_nil (qe_done rfl))) ?_
  refine hb_ex _ rfl rfl rfl (fun w1 => r_assign rfl rfl (hl_nil (qe_done rfl))) ?_
  refine hb_ex _ rfl rfl rfl (fun w1 => r_assign rfl rfl (hl_nil (qe_done rfl))) ?_
  refine hb_nil ⟨rfl, ?_⟩
  refine r_assign rfl rfl (hl_nil (then_n (hc_seq (hc_region (r_move rfl rfl (r_move rfl rfl (r_neq rfl rfl rfl (r_move rfl rfl ?_))))))))
  refine g_split rfl rfl ?_ ?_
  ·intro hg1; have hg1' := hg1; try simp at hg1'
   refine g_yes rfl rfl hg1 (r_move rfl rfl (g_yes rfl rfl hg1 (r_move rfl rfl (g_yes rfl rfl hg1 (r_neq rfl rfl rfl ?_)))))
   refine p_f rfl rfl (bf1 hg1) rfl ?_
   refine r_move rfl rfl ?_
   refine g_split rfl rfl ?_ ?_
   ·intro hg2; have hg2' := hg2; try simp at hg2'
    refine g_yes rfl rfl hg2 (r_move rfl rfl (g_yes rfl rfl hg2 (r_move rfl rfl (g_yes rfl rfl hg2 (r_neq rfl rfl rfl ?_)))))
    refine p_f rfl rfl (bf1 hg2) rfl ?_
    refine hl_nil (then_n ?_)
    refine c_dec rfl (fun hb2 => ?_) (fun hb2 => ?_)
    ·exact absurd rfl hb2
    ·have hb2' := hb2; try simp at hb2'
     refine hc_skip (inb_n (then_n (hc_region (r_move rfl rfl ?_))))
     refine r_add _ rfl rfl rfl rfl (by unfold I64; omega) ?_
     refine r_assign rfl rfl (hl_nil ?_)
     exact again _ (k + 1) (by show k + 1 ≤ 5; omega) (by show 5 - (k + 1) < 5 - k; omega) ⟨rfl, rfl, rfl, rfl, trivial⟩ (List.nil_sublist _) ⟨mB, mB, mB, trivial⟩
   ·intro hg2; have hg2' := hg2; try simp at hg2'
  ·intro hg1; have hg1' := hg1; try simp at hg1'
 ·have hb1' := hb1; try simp at hb1'
  refine hc_exit (then_exit (then_exit (inb_hit (then_n (hc_seq (hc_region ?_))))))
  refine hl_call F.law09_paying_cb rfl rfl (law09_paying_meets) (List.Perm.refl _) trivial fun _ _ => ?_
  refine r_assign rfl rfl (hl_nil (then_n (hc_ret ?_)))
  exact ret1 () rfl rfl rfl trivial (List.nil_sublist _) trivial
end Go.Proofs.Ytdlbbfcfahahdaa
end
