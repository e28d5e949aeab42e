/- Texts of this claim, one behind another. -/

import Derived.Test.YtdlbbfcfahahdaaUAp
import Derived.Test.YtdlbbfcfahahdaaUAf
set_option linter.unusedVariables false
set_option linter.unusedSimpArgs false
section
namespace Go.Proofs.Ytdlbbfcfahahdaa
open Go Go.W
set_option maxRecDepth 20000
attribute [local irreducible] HL HC HQ HB Row Rows2 Blk Facts
theorem mul_00 {a b A B : Int} (ha : 0 ≤ a ∧ a ≤ A) (hb : 0 ≤ b ∧ b ≤ B) : 0 ≤ a * b ∧ a * b ≤ A * B := ⟨Int.mul_nonneg ha.1 hb.1, Int.mul_le_mul ha.2 hb.2 hb.1 (by omega)⟩
theorem any_cut2 {α : Type} [Inhabited α] {p : α → Bool} {l : List α} {k : Nat} (hk : k < l.length) : (l.take (k + 1)).any p = ((l.take k).any p || p (l.getD k default)) := by
  rw [List.take_succ_eq_append_getElem hk, List.any_append, getD_at hk]
  simp
def chgB (c : Ch) : Bool := decide (0 ≤ c.1 ∧ c.1 ≤ 999) && decide (0 ≤ c.2.1 ∧ c.2.1 ≤ 999) && decide (0 ≤ c.2.2.1 ∧ c.2.2.1 ≤ 999) && decide (0 ≤ c.2.2.2.1 ∧ c.2.2.2.1 ≤ 999) && decide (0 ≤ c.2.2.2.2.1 ∧ c.2.2.2.2.1 ≤ 50) && decide (1 ≤ c.2.2.2.2.2 ∧ c.2.2.2.2.2 ≤ 5)
theorem chk_chg (c : Ch) (ss : List Int) (xs : List Ad) : chkS c ss xs = if chgB c = false then 1 else if ss.length = 0 then 7 else if 5 < ss.length then 6 else if ¬ ∀ s ∈ ss, 0 ≤ s ∧ s ≤ 9 then 1 else if 8 < xs.length then 6 else firstE ss.length xs := by
  unfold chkS
  by_cases h1 : ∀ v ∈ chQ c, 0 ≤ v ∧ v ≤ 999
  · rw [if_neg (Classical.not_not.2 h1)]
    have q1 := h1 c.1 (by simp [chQ])
    have q2 := h1 c.2.1 (by simp [chQ])
    have q3 := h1 c.2.2.1 (by simp [chQ])
    have q4 := h1 c.2.2.2.1 (by simp [chQ])
    by_cases h2 : ¬ (0 ≤ c.2.2.2.2.1 ∧ c.2.2.2.2.1 ≤ 50) ∨ ¬ (1 ≤ c.2.2.2.2.2 ∧ c.2.2.2.2.2 ≤ 5)
    · rw [if_pos h2, if_pos]
      unfold chgB
      rw [decide_eq_true q1, decide_eq_true q2, decide_eq_true q3, decide_eq_true q4]
      rcases h2 with h2 | h2
      · rw [decide_eq_false h2]; simp
      · rw [decide_eq_false h2]; simp
    · rw [if_neg h2]
      have h3 : (0 ≤ c.2.2.2.2.1 ∧ c.2.2.2.2.1 ≤ 50) ∧ (1 ≤ c.2.2.2.2.2 ∧ c.2.2.2.2.2 ≤ 5) := by omega
      have hc : ¬ chgB c = false := by
        unfold chgB
        rw [decide_eq_true q1, decide_eq_true q2, decide_eq_true q3, decide_eq_true q4, decide_eq_true h3.1, decide_eq_true h3.2]
        decide
      rw [if_neg hc]
  · rw [if_pos h1, if_pos]
    unfold chgB
    refine Bool.eq_false_iff.2 fun e => h1 fun v hv => ?_
    simp only [Bool.and_eq_true, decide_eq_true_eq] at e
    simp only [chQ, List.mem_cons, List.not_mem_nil, or_false] at hv
    rcases hv with rfl | rfl | rfl | rfl <;> omega
def bilL (c : Ch) (ss : List Int) (xs : List Ad) (k : Nat) : List Int := (List.range k).map (bilN c ss xs)
theorem bilL_succ (c : Ch) (ss : List Int) (xs : List Ad) (k : Nat) : bilL c ss xs (k + 1) = bilL c ss xs k ++ [bilN c ss xs k] := by
  unfold bilL; rw [List.range_succ, List.map_append]; rfl
theorem bilL_len (c : Ch) (ss : List Int) (xs : List Ad) (k : Nat) : (bilL c ss xs k).length = k := by simp [bilL]
theorem bilL_all (c : Ch) (ss : List Int) (xs : List Ad) : bilL c ss xs ss.length = numsN 103 c ss xs := List.map_congr_left fun i _ => (if_pos rfl).symm
theorem off_cnt {ss : List Int} {xs : List Ad} {s : Int} {k : Nat} : ((List.range (k + 1)).filter (hereB ss xs s)).length = ((List.range k).filter (hereB ss xs s)).length + if hereB ss xs s k = true then 1 else 0 := by
  rw [List.range_succ, List.filter_append, List.length_append]
  by_cases e : hereB ss xs s k = true
  · rw [if_pos e]; simp [e]
  · rw [if_neg e]; simp [e]
theorem ref09_checkCharges_meets (c : Ch) : Meets Try.prog F.ref09_checkCharges [chV c] { val := fun _ : Unit => int (if chgB c = false then 1 else 0) } := by
 refine meets_intro F.ref09_checkCharges_f rfl (Nat.le_of_ble_eq_true rfl) fun w0 => ?_
 refine hc_seq (hc_region ?_)
 refine r_box rfl rfl fun gB => ?_
 refine r_assign rfl rfl (hl_nil (then_n (hc_seq ?_)))
 refine hc_cut ⟨fun x : Bool => x = !chgB c, fun x => [(36, .bool x)], fun _ => [], fun _ => []⟩ ?_ ?_
 ·skip
  refine hc_region ?_
  refine r_fieldAddr ⟨_, 0, none⟩ rfl rfl T.fa_api_Charges_0 rfl ?_
  refine r_load rfl T.cell_int rfl (cell_own mB rfl) ?_
  refine hl_call F.ref09_within_cb rfl rfl (ref09_within_meets _ _ _) (List.Perm.refl _) trivial fun _ _ => ?_
  refine r_not rfl rfl (r_move rfl rfl ?_)
  refine g_split rfl rfl ?_ ?_
  ·intro hg1; have hg1' := hg1; try simp at hg1'
   refine g_yes rfl rfl hg1 ?_
   refine r_fieldAddr ⟨_, 1, none⟩ rfl rfl T.fa_api_Charges_1 rfl ?_
   refine g_yes rfl rfl hg1 ?_
   refine r_load rfl T.cell_int rfl (cell_own mB rfl) ?_
   refine g_yes rfl rfl hg1 ?_
   refine hl_call F.ref09_within_cb rfl rfl (ref09_within_meets _ _ _) (List.Perm.refl _) trivial fun _ _ => ?_
   refine g_yes rfl rfl hg1 (r_not rfl rfl ?_)
   refine p_f rfl rfl (bf1 hg1) rfl ?_
   refine r_move rfl rfl ?_
   refine g_split rfl rfl ?_ ?_
   ·intro hg2; have hg2' := hg2; try simp at hg2'
    refine g_yes rfl rfl hg2 ?_
    refine r_fieldAddr ⟨_, 2, none⟩ rfl rfl T.fa_api_Charges_2 rfl ?_
    refine g_yes rfl rfl hg2 ?_
    refine r_load rfl T.cell_int rfl (cell_own mB rfl) ?_
    refine g_yes rfl rfl hg2 ?_
    refine hl_call F.ref09_within_cb rfl rfl (ref09_within_meets _ _ _) (List.Perm.refl _) trivial fun _ _ => ?_
    refine g_yes rfl rfl hg2 (r_not rfl rfl ?_)
    refine p_f rfl rfl (bf1 hg2) rfl ?_
    refine r_move rfl rfl ?_
    refine g_split rfl rfl ?_ ?_
    ·intro hg3; have hg3' := hg3; try simp at hg3'
     refine g_yes rfl rfl hg3 ?_
     refine r_fieldAddr ⟨_, 3, none⟩ rfl rfl T.fa_api_Charges_3 rfl ?_
     refine g_yes rfl rfl hg3 ?_
     refine r_load rfl T.cell_int rfl (cell_own mB rfl) ?_
     refine g_yes rfl rfl hg3 ?_
     refine hl_call F.ref09_within_cb rfl rfl (ref09_within_meets _ _ _) (List.Perm.refl _) trivial fun _ _ => ?_
     refine g_yes rfl rfl hg3 (r_not rfl rfl ?_)
     refine p_f rfl rfl (bf1 hg3) rfl ?_
     refine r_move rfl rfl ?_
     refine g_split rfl rfl ?_ ?_
     ·intro hg4; have hg4' := hg4; try simp at hg4'
      refine g_yes rfl rfl hg4 ?_
      refine r_fieldAddr ⟨_, 4, none⟩ rfl rfl T.fa_api_Charges_4 rfl ?_
      refine g_yes rfl rfl hg4 ?_
      refine r_load rfl T.cell_int rfl (cell_own mB rfl) ?_
      refine g_yes rfl rfl hg4 ?_
      refine hl_call F.ref09_within_cb rfl rfl (ref09_within_meets _ _ _) (List.Perm.refl _) trivial fun _ _ => ?_
      refine g_yes rfl rfl hg4 (r_not rfl rfl ?_)
      refine p_f rfl rfl (bf1 hg4) rfl ?_
      refine r_move rfl rfl ?_
      refine g_split rfl rfl ?_ ?_
      ·intro hg5; have hg5' := hg5; try simp at hg5'
       refine g_yes rfl rfl hg5 ?_
       refine r_fieldAddr ⟨_, 5, none⟩ rfl rfl T.fa_api_Charges_5 rfl ?_
       refine g_yes rfl rfl hg5 ?_
       refine r_load rfl T.cell_int rfl (cell_own mB rfl) ?_
       refine g_yes rfl rfl hg5 ?_
       refine hl_call F.ref09_within_cb rfl rfl (ref09_within_meets _ _ _) (List.Perm.refl _) trivial fun _ _ => ?_
       refine g_yes rfl rfl hg5 (r_not rfl rfl ?_)
       refine p_f rfl rfl (bf1 hg5) rfl ?_
       refine hl_nil ?_
       exact cut_n _ _ (by simp_all [chgB] <;> omega) ⟨rfl, trivial⟩ (List.nil_sublist _) trivial
      ·intro hg5; have hg5' := hg5; try simp at hg5'
       refine g_no rfl rfl rfl rfl rfl hg5 (g_no rfl rfl rfl rfl rfl hg5 (g_no rfl rfl rfl rfl rfl hg5 (g_no rfl rfl rfl rfl rfl hg5 ?_)))
       refine p_t rfl rfl (bt2 hg5) rfl ?_
       refine hl_nil ?_
       exact cut_n _ _ (by simp_all [chgB] <;> omega) ⟨rfl, trivial⟩ (List.nil_sublist _) trivial
     ·intro hg4; have hg4' := hg4; try simp at hg4'
      refine g_no rfl rfl rfl rfl rfl hg4 (g_no rfl rfl rfl rfl rfl hg4 (g_no rfl rfl rfl rfl rfl hg4 (g_no rfl rfl rfl rfl rfl hg4 ?_)))
      refine p_t rfl rfl (bt2 hg4) rfl ?_
      refine r_move rfl rfl (g_no rfl rfl rfl rfl rfl rfl (g_no rfl rfl rfl rfl rfl rfl (g_no rfl rfl rfl rfl rfl rfl (g_no rfl rfl rfl rfl rfl rfl (p_t rfl rfl rfl rfl (hl_nil ?_))))))
      exact cut_n _ _ (by simp_all [chgB] <;> omega) ⟨rfl, trivial⟩ (List.nil_sublist _) trivial
    ·intro hg3; have hg3' := hg3; try simp at hg3'
     refine g_no rfl rfl rfl rfl rfl hg3 (g_no rfl rfl rfl rfl rfl hg3 (g_no rfl rfl rfl rfl rfl hg3 (g_no rfl rfl rfl rfl rfl hg3 ?_)))
     refine p_t rfl rfl (bt2 hg3) rfl ?_
     refine r_move rfl rfl (g_no rfl rfl rfl rfl rfl rfl (g_no rfl rfl rfl rfl rfl rfl (g_no rfl rfl rfl rfl rfl rfl (g_no rfl rfl rfl rfl rfl rfl (p_t rfl rfl rfl rfl (r_move rfl rfl (g_no rfl rfl rfl rfl rfl rfl (g_no rfl rfl rfl rfl rfl rfl (g_no rfl rfl rfl rfl rfl rfl (g_no rfl rfl rfl rfl rfl rfl (p_t rfl rfl rfl rfl ?_)))))))))))
     refine hl_nil ?_
     exact cut_n _ _ (by simp_all [chgB] <;> omega) ⟨rfl, trivial⟩ (List.nil_sublist _) trivial
   ·intro hg2; have hg2' := hg2; try simp at hg2'
    refine g_no rfl rfl rfl rfl rfl hg2 (g_no rfl rfl rfl rfl rfl hg2 (g_no rfl rfl rfl rfl rfl hg2 (g_no rfl rfl rfl rfl rfl hg2 ?_)))
    refine p_t rfl rfl (bt2 hg2) rfl ?_
    refine r_move rfl rfl (g_no rfl rfl rfl rfl rfl rfl (g_no rfl rfl rfl rfl rfl rfl (g_no rfl rfl rfl rfl rfl rfl (g_no rfl rfl rfl rfl rfl rfl (p_t rfl rfl rfl rfl (r_move rfl rfl (g_no rfl rfl rfl rfl rfl rfl (g_no rfl rfl rfl rfl rfl rfl (g_no rfl rfl rfl rfl rfl rfl (g_no rfl rfl rfl rfl rfl rfl (p_t rfl rfl rfl rfl ?_)))))))))))
    refine r_move rfl rfl (g_no rfl rfl rfl rfl rfl rfl (g_no rfl rfl rfl rfl rfl rfl (g_no rfl rfl rfl rfl rfl rfl (g_no rfl rfl rfl rfl rfl rfl (p_t rfl rfl rfl rfl (hl_nil ?_))))))
    exact cut_n _ _ (by simp_all [chgB] <;> omega) ⟨rfl, trivial⟩ (List.nil_sublist _) trivial
  ·intro hg1; have hg1' := hg1; try simp at hg1'
   refine g_no rfl rfl rfl rfl rfl hg1 (g_no rfl rfl rfl rfl rfl hg1 (g_no rfl rfl rfl rfl rfl hg1 (g_no rfl rfl rfl rfl rfl hg1 ?_)))
   refine p_t rfl rfl (bt2 hg1) rfl ?_
   refine r_move rfl rfl (g_no rfl rfl rfl rfl rfl rfl (g_no rfl rfl rfl rfl rfl rfl (g_no rfl rfl rfl rfl rfl rfl (g_no rfl rfl rfl rfl rfl rfl (p_t rfl rfl rfl rfl (r_move rfl rfl (g_no rfl rfl rfl rfl rfl rfl (g_no rfl rfl rfl rfl rfl rfl (g_no rfl rfl rfl rfl rfl rfl (g_no rfl rfl rfl rfl rfl rfl (p_t rfl rfl rfl rfl ?_)))))))))))
   refine r_move rfl rfl (g_no rfl rfl rfl rfl rfl rfl (g_no rfl rfl rfl rfl rfl rfl (g_no rfl rfl rfl rfl rfl rfl (g_no rfl rfl rfl rfl rfl rfl (p_t rfl rfl rfl rfl (r_move rfl rfl (g_no rfl rfl rfl rfl rfl rfl (g_no rfl rfl rfl rfl rfl rfl (g_no rfl rfl rfl rfl rfl rfl (g_no rfl rfl rfl rfl rfl rfl (p_t rfl rfl rfl rfl ?_)))))))))))
   refine hl_nil ?_
   exact cut_n _ _ (by simp_all [chgB] <;> omega) ⟨rfl, trivial⟩ (List.nil_sublist _) trivial
 ·rintro x rfl
  refine hc_cond rfl (fun hb1 => ?_) (fun hb1 => ?_)
  ·have hb1' := hb1; try simp at hb1'
   refine hc_seq (hc_region (r_assign rfl rfl (hl_nil (then_n (hc_ret (then_ret ?_))))))
   exact ret1 () rfl (by show some _ = some (int (if chgB c = false then 1 else 0)); have hf : chgB c = false := (by simpa using hb1); rw [if_pos hf]) rfl trivial (List.nil_sublist _) trivial
  ·have hb1' := hb1; try simp at hb1'
   refine hc_skip (then_n (hc_seq (hc_region (r_assign rfl rfl (hl_nil (then_n (hc_ret ?_)))))))
   exact ret1 () rfl (by show some _ = some (int (if chgB c = false then 1 else 0)); have hf : chgB c = true := (by simpa using hb1); rw [if_neg (by rw [hf]; decide)]) rfl trivial (List.nil_sublist _) trivial
theorem ref09_CheckAdvert_meets (c : Ch) (ps : Sl Int) (qs : Sl Ad) (x : Ad) (hn : ps.l.length ≤ 1000000) : Meets Try.prog F.ref09_CheckAdvert [saV c ps qs, adV x] { LI := saL ps qs, val := fun _ : Unit => int (adErr ps.l.length x) } := by
 refine meets_intro F.ref09_CheckAdvert_f rfl (Nat.le_of_ble_eq_true rfl) fun w0 => ?_
 refine hc_seq (hc_region ?_)
 refine r_box rfl rfl fun gB => ?_
 refine r_box rfl rfl fun gC => ?_
 refine r_assign rfl rfl (hl_nil (then_n (hc_seq (hc_seq (hc_region ?_)))))
 refine r_fieldAddr ⟨_, 0, none⟩ rfl rfl T.fa_api_Advert_0 rfl ?_
 refine r_load rfl T.cell_int rfl (cell_own mB rfl) ?_
 refine r_fieldAddr ⟨_, 6, none⟩ rfl rfl T.fa_api_Sales_1 rfl ?_
 refine r_load rfl T.cell_ints rfl (cell_own mB rfl) ?_
 refine r_len_sl rfl T.u_ints rfl ?_
 refine r_sub _ rfl rfl rfl rfl (by unfold I64; omega) ?_
 refine hl_call F.ref09_within_cb rfl rfl (ref09_within_meets _ _ _) (List.Perm.refl _) trivial fun _ _ => ?_
 refine r_not rfl rfl (hl_nil (then_n ?_))
 refine hc_cond rfl (fun hb1 => ?_) (fun hb1 => ?_)
 ·have hb1' := hb1; try simp at hb1'
  refine hc_seq (hc_region (r_assign rfl rfl (hl_nil (then_n (hc_ret (then_ret ?_))))))
  exact ret1 () rfl (by show some _ = some (int (adErr ps.l.length x)); unfold adErr; rw [if_pos (by omega)]) rfl trivial (List.nil_sublist _) trivial
 ·have hb1' := hb1; try simp at hb1'
  refine hc_skip (then_n (hc_seq (hc_seq (hc_region ?_))))
  refine r_fieldAddr ⟨_, 1, none⟩ rfl rfl T.fa_api_Advert_1 rfl ?_
  refine r_load rfl T.cell_int rfl (cell_own mB rfl) ?_
  refine hl_call F.ref09_within_cb rfl rfl (ref09_within_meets _ _ _) (List.Perm.refl _) trivial fun _ _ => ?_
  refine r_not rfl rfl (hl_nil (then_n ?_))
  refine hc_cond rfl (fun hb2 => ?_) (fun hb2 => ?_)
  ·have hb2' := hb2; try simp at hb2'
   refine hc_seq (hc_region (r_assign rfl rfl (hl_nil (then_n (hc_ret (then_ret ?_))))))
   exact ret1 () rfl (by show some _ = some (int (adErr ps.l.length x)); unfold adErr; rw [if_neg (by omega), if_pos (by omega)]) rfl trivial (List.nil_sublist _) trivial
  ·have hb2' := hb2; try simp at hb2'
   refine hc_skip (then_n (hc_seq (hc_seq (hc_region ?_))))
   refine r_fieldAddr ⟨_, 2, none⟩ rfl rfl T.fa_api_Advert_2 rfl ?_
   refine r_load rfl T.cell_int rfl (cell_own mB rfl) ?_
   refine hl_call F.ref09_within_cb rfl rfl (ref09_within_meets _ _ _) (List.Perm.refl _) trivial fun _ _ => ?_
   refine r_not rfl rfl (r_move rfl rfl ?_)
   refine g_split rfl rfl ?_ ?_
   ·intro hg1; have hg1' := hg1; try simp at hg1'
    refine g_yes rfl rfl hg1 ?_
    refine r_fieldAddr ⟨_, 1, none⟩ rfl rfl T.fa_api_Advert_1 rfl ?_
    refine g_yes rfl rfl hg1 ?_
    refine r_load rfl T.cell_int rfl (cell_own mB rfl) ?_
    refine g_yes rfl rfl hg1 (r_eql rfl rfl rfl (g_yes rfl rfl hg1 (r_move rfl rfl ?_)))
    refine g_split rfl rfl ?_ ?_
    ·intro hg2; have hg2' := hg2; try simp at hg2'
     refine g_yes rfl rfl hg2 ?_
     refine r_fieldAddr ⟨_, 2, none⟩ rfl rfl T.fa_api_Advert_2 rfl ?_
     refine g_yes rfl rfl hg2 ?_
     refine r_load rfl T.cell_int rfl (cell_own mB rfl) ?_
     refine g_yes rfl rfl hg2 (r_neq rfl rfl rfl (g_yes rfl rfl hg1 ?_))
     refine p_t rfl rfl (bt1 hg2) rfl ?_
     refine p_f rfl rfl (bf1 hg1) rfl ?_
     refine hl_nil (then_n ?_)
     refine c_dec rfl (fun hb3 => ?_) (fun hb3 => ?_)
     ·have hb3' := hb3; try simp at hb3'
      refine hc_seq (hc_region (r_assign rfl rfl (hl_nil (then_n (hc_ret (then_ret ?_))))))
      exact ret1 () rfl (by show some _ = some (int (adErr ps.l.length x)); unfold adErr; rw [if_neg (by omega), if_neg (by omega), if_pos (by omega)]) rfl trivial (List.nil_sublist _) trivial
     ·have hb3' := hb3; try simp at hb3'
      refine hc_skip (then_n (hc_seq (hc_region (r_assign rfl rfl (hl_nil (then_n (hc_ret ?_)))))))
      exact ret1 () rfl (by show some _ = some (int (adErr ps.l.length x)); unfold adErr; rw [if_neg (by omega), if_neg (by omega), if_neg (by omega)]) rfl trivial (List.nil_sublist _) trivial
    ·intro hg2; have hg2' := hg2; try simp at hg2'
     refine g_no rfl rfl rfl rfl rfl hg2 (g_no rfl rfl rfl rfl rfl hg2 (g_no rfl rfl rfl rfl rfl hg2 (g_yes rfl rfl hg1 ?_)))
     refine p_f rfl rfl (bf2 hg2) rfl ?_
     refine p_f rfl rfl (bf1 hg1) rfl ?_
     refine hl_nil (then_n (c_f rfl rfl (hc_skip (then_n (hc_seq (hc_region (r_assign rfl rfl (hl_nil (then_n (hc_ret ?_))))))))))
     exact ret1 () rfl (by show some _ = some (int (adErr ps.l.length x)); unfold adErr; rw [if_neg (by omega), if_neg (by omega), if_neg (by omega)]) rfl trivial (List.nil_sublist _) trivial
   ·intro hg1; have hg1' := hg1; try simp at hg1'
    refine g_no rfl rfl rfl rfl rfl hg1 (g_no rfl rfl rfl rfl rfl hg1 (g_no rfl rfl rfl rfl rfl hg1 (g_no rfl rfl rfl rfl rfl hg1 (g_und rfl rfl rfl rfl rfl rfl (g_und rfl rfl rfl rfl rfl rfl (g_und rfl rfl rfl rfl rfl rfl (g_no rfl rfl rfl rfl rfl hg1 ?_)))))))
    refine p_t rfl rfl (bt2 hg1) rfl ?_
    refine hl_nil (then_n (c_t rfl rfl (hc_seq (hc_region (r_assign rfl rfl (hl_nil (then_n (hc_ret (then_ret ?_)))))))))
    exact ret1 () rfl (by show some _ = some (int (adErr ps.l.length x)); unfold adErr; rw [if_neg (by omega), if_neg (by omega), if_pos (by omega)]) rfl trivial (List.nil_sublist _) trivial
theorem ref09_Check_meets (c : Ch) (ps : Sl Int) (qs : Sl Ad) (hn : ps.l.length ≤ 1000000) (hm : qs.l.length ≤ 1000000) : Meets Try.prog F.ref09_Check [saV c ps qs] { LI := saL ps qs, val := fun _ : Unit => int (chkS c ps.l qs.l) } := by
 refine meets_intro F.ref09_Check_f rfl (Nat.le_of_ble_eq_true rfl) fun w0 => ?_
 refine hc_seq (hc_region ?_)
 refine r_box rfl rfl fun gB => ?_
 refine r_assign rfl rfl (hl_nil (then_n (hc_seq (hc_seq (hc_region ?_)))))
 refine r_fieldAddr ⟨_, 0, none⟩ rfl rfl T.fa_api_Sales_0 rfl ?_
 refine r_loadS (cs := [int c.1, int c.2.1, int c.2.2.1, int c.2.2.2.1, int c.2.2.2.2.1, int c.2.2.2.2.2]) rfl T.row_api_Charges T.sz_api_Charges rfl rfl (cells_own (o := 0) mB (cells_pre rfl)) ?_
 refine hl_call F.ref09_checkCharges_cb rfl rfl (ref09_checkCharges_meets c) (List.Perm.refl _) trivial fun _ _ => ?_
 refine r_assign rfl rfl (hl_nil (then_n (hc_seq (hc_region (r_move rfl rfl (r_neq rfl rfl rfl (hl_nil (then_n ?_))))))))
 refine c_dec rfl (fun hb1 => ?_) (fun hb1 => ?_)
 ·have hb1' := hb1; try simp at hb1'
  have hch : chgB c = false := Classical.byContradiction fun e => hb1 (if_neg e)
  refine hc_seq (hc_region (r_move rfl rfl (r_assign rfl rfl (hl_nil (then_n (hc_ret (then_ret ?_)))))))
  exact ret1 () rfl (by show some _ = some (int (chkS c ps.l qs.l)); rw [chk_chg]; rw [if_pos hch, if_pos hch]) rfl trivial (List.nil_sublist _) trivial
 ·have hb1' := hb1; try simp at hb1'
  have hch : ¬ chgB c = false := fun e => by rw [if_pos e] at hb1; exact hb1 (by decide)
  refine hc_skip (then_n (hc_seq (hc_seq (hc_region ?_))))
  refine r_fieldAddr ⟨_, 6, none⟩ rfl rfl T.fa_api_Sales_1 rfl ?_
  refine r_load rfl T.cell_ints rfl (cell_own mB rfl) ?_
  refine r_len_sl rfl T.u_ints rfl ?_
  refine r_eql rfl rfl rfl (hl_nil (then_n ?_))
  refine c_dec rfl (fun hb2 => ?_) (fun hb2 => ?_)
  ·have hb2' := hb2; try simp at hb2'
   refine hc_seq (hc_region (r_assign rfl rfl (hl_nil (then_n (hc_ret (then_ret ?_))))))
   exact ret1 () rfl (by show some _ = some (int (chkS c ps.l qs.l)); rw [chk_chg]; rw [if_neg hch, if_pos (by omega)]) rfl trivial (List.nil_sublist _) trivial
  ·have hb2' := hb2; try simp at hb2'
   refine hc_skip (then_n (hc_seq (hc_seq (hc_region ?_))))
   refine r_fieldAddr ⟨_, 6, none⟩ rfl rfl T.fa_api_Sales_1 rfl ?_
   refine r_load rfl T.cell_ints rfl (cell_own mB rfl) ?_
   refine r_len_sl rfl T.u_ints rfl ?_
   refine r_gtr rfl rfl rfl (hl_nil (then_n ?_))
   refine c_dec rfl (fun hb3 => ?_) (fun hb3 => ?_)
   ·have hb3' := hb3; try simp at hb3'
    refine hc_seq (hc_region (r_assign rfl rfl (hl_nil (then_n (hc_ret (then_ret ?_))))))
    exact ret1 () rfl (by show some _ = some (int (chkS c ps.l qs.l)); rw [chk_chg]; rw [if_neg hch, if_neg (by omega), if_pos (by omega)]) rfl trivial (List.nil_sublist _) trivial
   ·have hb3' := hb3; try simp at hb3'
    refine hc_skip (then_n (hc_seq (hc_seq (hc_region (r_assign rfl rfl (hl_nil (then_n (hc_block ?_))))))))
    refine hc_loop (β := Nat) ⟨fun k => k ≤ ps.l.length ∧ ∀ j, j < k → (fun v : Int => 0 ≤ v ∧ v ≤ 9) (ps.l.getD j default), fun k => [(1, .pointer (some ⟨gB, 0, none⟩)), (4, int k)], fun _ => [(gB, Obj.cells (saC c ps qs) T.api_Sales (0, 0))], fun _ => saL ps qs⟩ (fun k => ps.l.length - k) 0 ⟨Nat.zero_le _, fun j hj => absurd hj (Nat.not_lt_zero j)⟩ ⟨rfl, rfl, trivial⟩ (.refl _) ⟨mB, mB, trivial⟩ fun k hk => ?_
    obtain ⟨hk, hq3⟩ := hk
    refine hc_seq (hc_seq (hc_region (r_move rfl rfl ?_)))
    refine r_fieldAddr ⟨_, 6, none⟩ rfl rfl T.fa_api_Sales_1 rfl ?_
    refine r_load rfl T.cell_ints rfl (cell_own mB rfl) ?_
    refine r_len_sl rfl T.u_ints rfl ?_
    refine r_lss rfl rfl rfl (hl_nil (then_n ?_))
    refine c_dec rfl (fun hb4 => ?_) (fun hb4 => ?_)
    ·have hb4' := hb4; try simp at hb4'
     have hk6 : k < ps.l.length := by omega
     refine hc_skip (then_n (hc_seq (hc_block (hc_seq (hc_region ?_)))))
     refine r_fieldAddr ⟨_, 6, none⟩ rfl rfl T.fa_api_Sales_1 rfl ?_
     refine r_load rfl T.cell_ints rfl (cell_own mB rfl) ?_
     refine r_move rfl rfl ?_
     refine r_elem (α := Int) ps.l k rfl T.u_ints T.sz_int rfl rfl rfl mB rfl (hk6) (by decide) ?_
     refine r_load (v := int (ps.l.getD k default)) rfl T.cell_int rfl (cell_row mB (rows_get0 (hk6) rfl)) ?_
     refine hl_call F.ref09_within_cb rfl rfl (ref09_within_meets _ _ _) (List.Perm.refl _) trivial fun _ _ => ?_
     refine r_not rfl rfl (hl_nil (then_n ?_))
     refine hc_cond rfl (fun hb5 => ?_) (fun hb5 => ?_)
     ·have hb5' := hb5; try simp at hb5'
      refine hc_seq (hc_region (r_assign rfl rfl (hl_nil (then_n (hc_ret (inb_ret (then_ret (then_ret (inb_ret (then_ret ?_))))))))))
      exact ret1 () rfl (by show some _ = some (int (chkS c ps.l qs.l)); rw [chk_chg]; rw [if_neg hch, if_neg (by omega), if_neg (by omega), if_pos (nall_at (p := fun v : Int => 0 ≤ v ∧ v ≤ 9) hk6 (nbt hb5))]) rfl trivial (List.nil_sublist _) trivial
     ·have hb5' := hb5; try simp at hb5'
      refine hc_skip (inb_n (then_n (hc_region (r_move rfl rfl ?_))))
      refine r_add _ rfl rfl rfl rfl (by unfold I64; omega) ?_
      refine r_assign rfl rfl (hl_nil ?_)
      exact again _ (k + 1) ⟨by show k + 1 ≤ ps.l.length; omega, fun j hj => (Nat.lt_succ_iff_lt_or_eq.1 hj).elim (hq3 j) fun e => by subst e; exact nbf hb5⟩ (by show ps.l.length - (k + 1) < ps.l.length - k; omega) ⟨rfl, rfl, trivial⟩ (.refl _) ⟨mB, mB, trivial⟩
    ·have hb4' := hb4; try simp at hb4'
     obtain rfl : k = ps.l.length := by omega
     have hq3 := all_take (l := ps.l) (p := fun v : Int => 0 ≤ v ∧ v ≤ 9) hq3
     refine hc_exit (then_exit (then_exit (inb_hit (then_n (hc_seq (hc_seq (hc_region ?_)))))))
     refine r_fieldAddr ⟨_, 7, none⟩ rfl rfl T.fa_api_Sales_2 rfl ?_
     refine r_load rfl T.cell_L_api_Advert rfl (cell_own mB rfl) ?_
     refine r_len_sl rfl T.u_L_api_Advert rfl ?_
     refine r_gtr rfl rfl rfl (hl_nil (then_n ?_))
     refine c_dec rfl (fun hb6 => ?_) (fun hb6 => ?_)
     ·have hb6' := hb6; try simp at hb6'
      refine hc_seq (hc_region (r_assign rfl rfl (hl_nil (then_n (hc_ret (then_ret ?_))))))
      exact ret1 () rfl (by show some _ = some (int (chkS c ps.l qs.l)); rw [chk_chg]; rw [if_neg hch, if_neg (by omega), if_neg (by omega), if_neg (Classical.not_not.2 hq3), if_pos (by omega)]) rfl trivial (List.nil_sublist _) trivial
     ·have hb6' := hb6; try simp at hb6'
      refine hc_skip (then_n (hc_seq (hc_seq (hc_region (r_assign rfl rfl (hl_nil (then_n (hc_block ?_))))))))
      refine hc_loop (β := Nat) ⟨fun k => k ≤ qs.l.length ∧ firstE ps.l.length qs.l = firstE ps.l.length (qs.l.drop k), fun k => [(1, .pointer (some ⟨gB, 0, none⟩)), (5, int k)], fun _ => [(gB, Obj.cells (saC c ps qs) T.api_Sales (0, 0))], fun _ => saL ps qs⟩ (fun k => qs.l.length - k) 0 ⟨Nat.zero_le _, rfl⟩ ⟨rfl, rfl, trivial⟩ (.refl _) ⟨mB, mB, trivial⟩ fun k hk => ?_
      obtain ⟨hk, hfe⟩ := hk
      refine hc_seq (hc_seq (hc_region (r_move rfl rfl ?_)))
      refine r_fieldAddr ⟨_, 7, none⟩ rfl rfl T.fa_api_Sales_2 rfl ?_
      refine r_load rfl T.cell_L_api_Advert rfl (cell_own mB rfl) ?_
      refine r_len_sl rfl T.u_L_api_Advert rfl ?_
      refine r_lss rfl rfl rfl (hl_nil (then_n ?_))
      refine c_dec rfl (fun hb7 => ?_) (fun hb7 => ?_)
      ·have hb7' := hb7; try simp at hb7'
       have hk9 : k < qs.l.length := by omega
       refine hc_skip (then_n (hc_seq (hc_block (hc_seq ?_))))
       refine hc_draw 6 mixed (by decide) (by decide) rfl rfl ?_
       refine hb_ex _ rfl rfl rfl (fun w1 => r_loadB rfl T.row_api_Sales T.sz_api_Sales rfl mB (by rfl) (hl_nil (qe_done rfl))) ?_
       refine hb_ex _ rfl rfl rfl (fun w1 => r_fieldAddr ⟨_, 7, none⟩ rfl rfl T.fa_api_Sales_2 rfl (hl_nil (qe_done rfl))) ?_
       refine hb_ex _ rfl rfl rfl (fun w1 => r_load rfl T.cell_L_api_Advert rfl (cell_blk mB rfl) (hl_nil (qe_done rfl))) ?_
       refine hb_ex _ rfl rfl rfl (fun w1 => r_move rfl rfl (hl_nil (qe_done rfl))) ?_
       refine hb_ex _ rfl rfl rfl (fun w1 => r_elem (α := Ad) qs.l k rfl T.u_L_api_Advert T.sz_api_Advert rfl rfl rfl mB rfl (hk9) (by decide) (hl_nil (qe_done rfl))) ?_
       refine hb_ex _ rfl rfl rfl (fun w1 => r_loadS rfl T.row_api_Advert T.sz_api_Advert rfl rfl (cells_row mB (rows_all (by omega))) (hl_nil (qe_done rfl))) ?_
       refine hb_nil ⟨rfl, ?_⟩
       refine hl_call F.ref09_CheckAdvert_cb rfl rfl (ref09_CheckAdvert_meets c ps qs (qs.l.getD k default) hn) (List.Perm.refl _) ⟨mB, mB, trivial⟩ fun _ _ => ?_
       refine r_assign rfl rfl (hl_nil (then_n (hc_seq (hc_region (r_move rfl rfl (r_neq rfl rfl rfl (hl_nil (then_n ?_))))))))
       refine c_dec rfl (fun hb8 => ?_) (fun hb8 => ?_)
       ·have hb8' := hb8; try simp at hb8'
        refine hc_seq (hc_region (r_move rfl rfl (r_assign rfl rfl (hl_nil (then_n (hc_ret (inb_ret (then_ret (then_ret (inb_ret (then_ret ?_)))))))))))
        exact ret1 () rfl (by show some _ = some (int (chkS c ps.l qs.l)); rw [chk_chg]; rw [if_neg hch, if_neg (by omega), if_neg (by omega), if_neg (Classical.not_not.2 hq3), if_neg (by omega), hfe, firstE_drop _ hk9, if_pos hb8]) rfl trivial (List.nil_sublist _) trivial
       ·have hb8' := hb8; try simp at hb8'
        refine hc_skip (inb_n (then_n (hc_region (r_move rfl rfl ?_))))
        refine r_add _ rfl rfl rfl rfl (by unfold I64; omega) ?_
        refine r_assign rfl rfl (hl_nil ?_)
        exact again _ (k + 1) ⟨by show k + 1 ≤ qs.l.length; omega, by rw [hfe, firstE_drop _ hk9, if_neg hb8]⟩ (by show qs.l.length - (k + 1) < qs.l.length - k; omega) ⟨rfl, rfl, trivial⟩ (.refl _) ⟨mB, mB, trivial⟩
      ·have hb7' := hb7; try simp at hb7'
       obtain rfl : k = qs.l.length := by omega
       refine hc_exit (then_exit (then_exit (inb_hit (then_n (hc_seq (hc_region (r_assign rfl rfl (hl_nil (then_n (hc_ret ?_))))))))))
       exact ret1 () rfl (by show some _ = some (int (chkS c ps.l qs.l)); rw [chk_chg]; rw [if_neg hch, if_neg (by omega), if_neg (by omega), if_neg (Classical.not_not.2 hq3), if_neg (by omega), hfe, List.drop_length]; rfl) rfl trivial (List.nil_sublist _) trivial
theorem ref09_price_meets (c : Ch) (x : Ad) (hc : ChOK c) (hl : 1 ≤ x.2.2 ∧ x.2.2 ≤ 6) : Meets Try.prog F.ref09_price [chV c, adV x] { val := fun _ : Unit => int (priceN c x) } := by
 obtain ⟨q1, q2, q3, q4, q5, q6⟩ := hc
 have m1 := mul_00 (a := x.2.2 - 1) (A := 5) (by omega) q3
 have m2 := mul_00 (a := x.2.2) (A := 6) (by omega) q4
 refine meets_intro F.ref09_price_f rfl (Nat.le_of_ble_eq_true rfl) fun w0 => ?_
 refine hc_seq (hc_region ?_)
 refine r_box rfl rfl fun gB => ?_
 refine r_box rfl rfl fun gC => ?_
 refine r_assign rfl rfl (hl_nil (then_n (hc_seq (hc_seq (hc_region ?_)))))
 refine r_fieldAddr ⟨_, 1, none⟩ rfl rfl T.fa_api_Advert_1 rfl ?_
 refine r_load rfl T.cell_int rfl (cell_own mB rfl) ?_
 refine hl_nil (then_n (hc_block (hc_seq (hc_region (r_eql rfl rfl rfl (r_assign rfl rfl (hl_nil (then_n ?_))))))))
 refine c_dec rfl (fun hb1 => ?_) (fun hb1 => ?_)
 ·have hb1' := hb1; try simp at hb1'
  refine hc_seq (hc_region ?_)
  refine r_fieldAddr ⟨_, 0, none⟩ rfl rfl T.fa_api_Charges_0 rfl ?_
  refine r_load rfl T.cell_int rfl (cell_own mB rfl) ?_
  refine r_assign rfl rfl (hl_nil (then_n (hc_ret (inb_ret (then_ret ?_)))))
  exact ret1 () rfl (by show some _ = some (int (priceN c x)); unfold priceN; rw [if_pos hb1]; rfl) rfl trivial (List.nil_sublist _) trivial
 ·have hb1' := hb1; try simp at hb1'
  refine hc_seq (hc_region (r_eql rfl rfl rfl (r_assign rfl rfl (hl_nil (then_n ?_)))))
  refine c_dec rfl (fun hb2 => ?_) (fun hb2 => ?_)
  ·have hb2' := hb2; try simp at hb2'
   refine hc_seq (hc_region ?_)
   refine r_fieldAddr ⟨_, 1, none⟩ rfl rfl T.fa_api_Charges_1 rfl ?_
   refine r_load rfl T.cell_int rfl (cell_own mB rfl) ?_
   refine r_fieldAddr ⟨_, 2, none⟩ rfl rfl T.fa_api_Advert_2 rfl ?_
   refine r_load rfl T.cell_int rfl (cell_own mB rfl) ?_
   refine r_sub _ rfl rfl rfl rfl (by unfold I64; omega) ?_
   refine r_fieldAddr ⟨_, 2, none⟩ rfl rfl T.fa_api_Charges_2 rfl ?_
   refine r_load rfl T.cell_int rfl (cell_own mB rfl) ?_
   refine r_mul ((x.2.2 - 1) * c.2.2.1) rfl rfl rfl rfl (by unfold I64; omega) ?_
   refine r_add (c.2.1 + (x.2.2 - 1) * c.2.2.1) rfl rfl rfl rfl (by unfold I64; omega) ?_
   refine r_assign rfl rfl (hl_nil (then_n (hc_ret (inb_ret (then_ret ?_)))))
   exact ret1 () rfl (by show some _ = some (int (priceN c x)); unfold priceN; rw [if_neg hb1, if_pos hb2]) rfl trivial (List.nil_sublist _) trivial
  ·have hb2' := hb2; try simp at hb2'
   refine hc_skip (inb_n (then_n (hc_seq (hc_region ?_))))
   refine r_fieldAddr ⟨_, 2, none⟩ rfl rfl T.fa_api_Advert_2 rfl ?_
   refine r_load rfl T.cell_int rfl (cell_own mB rfl) ?_
   refine r_fieldAddr ⟨_, 3, none⟩ rfl rfl T.fa_api_Charges_3 rfl ?_
   refine r_load rfl T.cell_int rfl (cell_own mB rfl) ?_
   refine r_mul (x.2.2 * c.2.2.2.1) rfl rfl rfl rfl (by unfold I64; omega) ?_
   refine r_assign rfl rfl (hl_nil (then_n (hc_ret ?_)))
   exact ret1 () rfl (by show some _ = some (int (priceN c x)); unfold priceN; rw [if_neg hb1, if_neg hb2]) rfl trivial (List.nil_sublist _) trivial
theorem ref09_Sum_meets (c : Ch) (ps : Sl Int) (qs : Sl Ad) (i : Nat) (h : SaOK c ps.l qs.l) : Meets Try.prog F.ref09_Sum [saV c ps qs, int i] { LI := saL ps qs, val := fun _ : Unit => int (sumN c qs.l i) } := by
 have hx8 := h.x8
 refine meets_intro F.ref09_Sum_f rfl (Nat.le_of_ble_eq_true rfl) fun w0 => ?_
 refine hc_seq (hc_region ?_)
 refine r_box rfl rfl fun gB => ?_
 refine r_assign rfl rfl (hl_nil (then_n (hc_seq (hc_letgoB (hc_region (r_assign rfl rfl (hl_nil (then_n (hc_seq (hc_seq (hc_region ?_)))))))))))
 refine r_assign rfl rfl (hl_nil (then_n (hc_block ?_)))
 refine hc_loop (β := Nat) ⟨fun k => k ≤ qs.l.length, fun k => [(1, int i), (2, .pointer (some ⟨gB, 0, none⟩)), (5, int (sumK c qs.l k i)), (6, int k)], fun _ => [], fun _ => Blk gB (.cells (saC c ps qs) T.api_Sales (0, 0)) :: saL ps qs⟩ (fun k => qs.l.length - k) 0 (Nat.zero_le _) ⟨rfl, rfl, rfl, rfl, trivial⟩ (.refl _) ⟨mB, mB, mB, trivial⟩ fun k hk => ?_
 simp only at hk
 have hsb := sumK_bd h i k hk
 refine hc_seq (hc_seq (hc_region (r_move rfl rfl ?_)))
 refine r_fieldAddr ⟨_, 7, none⟩ rfl rfl T.fa_api_Sales_2 rfl ?_
 refine r_load rfl T.cell_L_api_Advert rfl (cell_blk mB rfl) ?_
 refine r_len_sl rfl T.u_L_api_Advert rfl ?_
 refine r_lss rfl rfl rfl (hl_nil (then_n ?_))
 refine c_dec rfl (fun hb1 => ?_) (fun hb1 => ?_)
 ·have hb1' := hb1; try simp at hb1'
  have hk2 : k < qs.l.length := by omega
  have hxk := h.ad _ (getD_mem hk2)
  have hpb := price_bd h.ch hxk.2.2
  have hsu := sumK_succ c hk2 i
  refine hc_skip (then_n (hc_seq (hc_block (hc_seq (hc_region ?_)))))
  refine r_fieldAddr ⟨_, 7, none⟩ rfl rfl T.fa_api_Sales_2 rfl ?_
  refine r_load rfl T.cell_L_api_Advert rfl (cell_blk mB rfl) ?_
  refine r_move rfl rfl ?_
  refine r_elem (α := Ad) qs.l k rfl T.u_L_api_Advert T.sz_api_Advert rfl rfl rfl mB rfl (hk2) (by decide) ?_
  refine r_fieldAddr _ rfl rfl T.fa_api_Advert_0 rfl ?_
  refine r_load rfl T.cell_int rfl (cell_row mB (rows_get0 (by omega) rfl)) ?_
  refine r_move rfl rfl (r_eql rfl rfl rfl (hl_nil (then_n ?_)))
  refine c_dec rfl (fun hb2 => ?_) (fun hb2 => ?_)
  ·have hb2' := hb2; try simp at hb2'
   rw [if_pos hb2] at hsu
   refine hc_draw 9 mixed (by decide) (by decide) rfl rfl ?_
   refine hb_ex _ rfl rfl rfl (fun w1 => r_move rfl rfl (hl_nil (qe_done rfl))) ?_
   refine hb_ex _ rfl rfl rfl (fun w1 => r_fieldAddr ⟨_, 0, none⟩ rfl rfl T.fa_api_Sales_0 rfl (hl_nil (qe_done rfl))) ?_
   refine hb_ex _ rfl rfl rfl (fun w1 => r_loadS (cs := [int c.1, int c.2.1, int c.2.2.1, int c.2.2.2.1, int c.2.2.2.2.1, int c.2.2.2.2.2]) rfl T.row_api_Charges T.sz_api_Charges rfl rfl (cells_blk (o := 0) mB (cells_pre rfl)) (hl_nil (qe_done rfl))) ?_
   refine hb_ex _ rfl rfl rfl (fun w1 => r_fieldAddr ⟨_, 7, none⟩ rfl rfl T.fa_api_Sales_2 rfl (hl_nil (qe_done rfl))) ?_
   refine hb_ex _ rfl rfl rfl (fun w1 => r_load rfl T.cell_L_api_Advert rfl (cell_blk mB rfl) (hl_nil (qe_done rfl))) ?_
   refine hb_ex _ rfl rfl rfl (fun w1 => r_move rfl rfl (hl_nil (qe_done rfl))) ?_
   refine hb_ex _ rfl rfl rfl (fun w1 => r_elem (α := Ad) qs.l k rfl T.u_L_api_Advert T.sz_api_Advert rfl rfl rfl mB rfl (hk2) (by decide) (hl_nil (qe_done rfl))) ?_
   refine hb_ex _ rfl rfl rfl (fun w1 => r_loadS rfl T.row_api_Advert T.sz_api_Advert rfl rfl (cells_row mB (rows_all (by omega))) (hl_nil (qe_done rfl))) ?_
   refine hb_ex _ rfl rfl rfl (fun w1 => hl_call F.ref09_price_cb rfl rfl (ref09_price_meets c (qs.l.getD k default) h.ch hxk.2.2) (List.Perm.refl _) trivial fun _ _ => (hl_nil (qe_done rfl))) ?_
   refine hb_nil ⟨rfl, ?_⟩
   refine r_add _ rfl rfl rfl rfl (by unfold I64; omega) ?_
   refine r_assign rfl rfl (hl_nil (inb_n (then_n (hc_region (r_move rfl rfl ?_)))))
   refine r_add _ rfl rfl rfl rfl (by unfold I64; omega) ?_
   refine r_assign rfl rfl (hl_nil ?_)
   exact again _ (k + 1) (by show k + 1 ≤ qs.l.length; omega) (by show qs.l.length - (k + 1) < qs.l.length - k; omega) ⟨rfl, rfl, congrArg (fun z => some (int z)) hsu.symm, rfl, trivial⟩ (.refl _) ⟨mB, mB, mB, trivial⟩
  ·have hb2' := hb2; try simp at hb2'
   rw [if_neg hb2] at hsu
   refine hc_skip (inb_n (then_n (hc_region (r_move rfl rfl ?_))))
   refine r_add _ rfl rfl rfl rfl (by unfold I64; omega) ?_
   refine r_assign rfl rfl (hl_nil ?_)
   exact again _ (k + 1) (by show k + 1 ≤ qs.l.length; omega) (by show qs.l.length - (k + 1) < qs.l.length - k; omega) ⟨rfl, rfl, congrArg (fun z => some (int z)) hsu.symm, rfl, trivial⟩ (.refl _) ⟨mB, mB, mB, trivial⟩
 ·have hb1' := hb1; try simp at hb1'
  obtain rfl : k = qs.l.length := by omega
  refine hc_exit (then_exit (then_exit (inb_hit (then_n (hc_seq (hc_region (r_move rfl rfl (r_assign rfl rfl (hl_nil (then_n (hc_ret ?_)))))))))))
  exact ret1 () rfl (by show some _ = some (int (sumN c qs.l i)); rfl) rfl trivial (List.nil_sublist _) trivial
theorem ref09_Off_meets (c : Ch) (ps : Sl Int) (qs : Sl Ad) (s : Int) (hn : ps.l.length ≤ 1000000) (hm : qs.l.length ≤ 1000000) : Meets Try.prog F.ref09_Off [saV c ps qs, int s] { LI := saL ps qs, val := fun _ : Unit => .bool (offB c ps.l qs.l s) } := by
 refine meets_intro F.ref09_Off_f rfl (Nat.le_of_ble_eq_true rfl) fun w0 => ?_
 refine hc_seq (hc_region ?_)
 refine r_box rfl rfl fun gB => ?_
 refine r_assign rfl rfl (hl_nil (then_n (hc_seq (hc_letgoB (hc_region (r_assign rfl rfl (hl_nil (then_n (hc_seq (hc_seq (hc_region ?_)))))))))))
 refine r_assign rfl rfl (hl_nil (then_n (hc_block ?_)))
 refine hc_loop (β := Nat) ⟨fun k => k ≤ ps.l.length, fun k => [(1, int s), (2, .pointer (some ⟨gB, 0, none⟩)), (5, int ((List.range k).filter (hereB ps.l qs.l s)).length), (6, int k)], fun _ => [], fun _ => Blk gB (.cells (saC c ps qs) T.api_Sales (0, 0)) :: saL ps qs⟩ (fun k => ps.l.length - k) 0 (Nat.zero_le _) ⟨rfl, rfl, rfl, rfl, trivial⟩ (.refl _) ⟨mB, mB, mB, trivial⟩ fun k hk => ?_
 simp only at hk
 have hcl : ((List.range k).filter (hereB ps.l qs.l s)).length ≤ k := Nat.le_trans (List.length_filter_le _ _) (by simp)
 refine hc_seq (hc_seq (hc_region (r_move rfl rfl ?_)))
 refine r_fieldAddr ⟨_, 6, none⟩ rfl rfl T.fa_api_Sales_1 rfl ?_
 refine r_load rfl T.cell_ints rfl (cell_blk mB rfl) ?_
 refine r_len_sl rfl T.u_ints rfl ?_
 refine r_lss rfl rfl rfl (hl_nil (then_n ?_))
 refine c_dec rfl (fun hb1 => ?_) (fun hb1 => ?_)
 ·have hb1' := hb1; try simp at hb1'
  have hk2 : k < ps.l.length := by omega
  have hsu := off_cnt (ss := ps.l) (xs := qs.l) (s := s) (k := k)
  refine hc_skip (then_n (hc_seq (hc_block (hc_seq (hc_region (r_assign rfl rfl (hl_nil (then_n (hc_seq (hc_seq (hc_region ?_)))))))))))
  refine r_assign rfl rfl (hl_nil (then_n (hc_block ?_)))
  refine hc_loop (β := Nat) ⟨fun j => j ≤ qs.l.length, fun j => [(1, int s), (2, .pointer (some ⟨gB, 0, none⟩)), (5, int ((List.range k).filter (hereB ps.l qs.l s)).length), (6, int k), (7, .bool ((qs.l.take j).any fun x => decide (x.1 = (k : Int)))), (8, int j)], fun _ => [], fun _ => Blk gB (.cells (saC c ps qs) T.api_Sales (0, 0)) :: saL ps qs⟩ (fun j => qs.l.length - j) 0 (Nat.zero_le _) ⟨rfl, rfl, rfl, rfl, rfl, rfl, trivial⟩ (.refl _) ⟨mB, mB, mB, trivial⟩ fun j hj => ?_
  simp only at hj
  refine hc_seq (hc_seq (hc_region (r_move rfl rfl ?_)))
  refine r_fieldAddr ⟨_, 7, none⟩ rfl rfl T.fa_api_Sales_2 rfl ?_
  refine r_load rfl T.cell_L_api_Advert rfl (cell_blk mB rfl) ?_
  refine r_len_sl rfl T.u_L_api_Advert rfl ?_
  refine r_lss rfl rfl rfl (hl_nil (then_n ?_))
  refine c_dec rfl (fun hb2 => ?_) (fun hb2 => ?_)
  ·have hb2' := hb2; try simp at hb2'
   have hj2 : j < qs.l.length := by omega
   have hcut := any_cut2 (p := fun x : Ad => decide (x.1 = (k : Int))) hj2
   refine hc_skip (then_n (hc_seq (hc_block (hc_region (r_move rfl rfl (r_move rfl rfl ?_))))))
   refine g_split rfl rfl ?_ ?_
   ·intro hg1; have hg1' := hg1; try simp at hg1'
    have qa : ((qs.l.take j).any fun x => decide (x.1 = (k : Int))) = false := by simpa using hg1
    refine g_yes rfl rfl hg1 ?_
    refine r_fieldAddr ⟨_, 7, none⟩ rfl rfl T.fa_api_Sales_2 rfl ?_
    refine g_yes rfl rfl hg1 ?_
    refine r_load rfl T.cell_L_api_Advert rfl (cell_blk mB rfl) ?_
    refine g_yes rfl rfl hg1 (r_move rfl rfl (g_yes rfl rfl hg1 ?_))
    refine r_elem (α := Ad) qs.l j rfl T.u_L_api_Advert T.sz_api_Advert rfl rfl rfl mB rfl (hj2) (by decide) ?_
    refine g_yes rfl rfl hg1 (r_fieldAddr _ rfl rfl T.fa_api_Advert_0 rfl (g_yes rfl rfl hg1 ?_))
    refine r_load rfl T.cell_int rfl (cell_row mB (rows_get0 (by omega) rfl)) ?_
    refine g_yes rfl rfl hg1 (r_move rfl rfl (g_yes rfl rfl hg1 (r_eql rfl rfl rfl ?_)))
    refine p_f rfl rfl (bf1 hg1) rfl ?_
    refine r_assign rfl rfl (hl_nil (inb_n (then_n (hc_region (r_move rfl rfl ?_)))))
    refine r_add _ rfl rfl rfl rfl (by unfold I64; omega) ?_
    refine r_assign rfl rfl (hl_nil ?_)
    exact again _ (j + 1) (by show j + 1 ≤ qs.l.length; omega) (by show qs.l.length - (j + 1) < qs.l.length - j; omega) ⟨rfl, rfl, rfl, rfl, congrArg (fun x => some (Value.bool x)) (show decide ((qs.l.getD j default).1 = (k : Int)) = ((qs.l.take (j + 1)).any fun x => decide (x.1 = (k : Int))) by rw [hcut, qa, Bool.false_or]), rfl, trivial⟩ (.refl _) ⟨mB, mB, mB, trivial⟩
   ·intro hg1; have hg1' := hg1; try simp at hg1'
    have qa : ((qs.l.take j).any fun x => decide (x.1 = (k : Int))) = true := by simpa using hg1
    refine g_no rfl rfl rfl rfl rfl hg1 (g_no rfl rfl rfl rfl rfl hg1 (g_no rfl rfl rfl rfl rfl hg1 (g_no rfl rfl rfl rfl rfl hg1 (g_no rfl rfl rfl rfl rfl hg1 (g_no rfl rfl rfl rfl rfl hg1 (g_no rfl rfl rfl rfl rfl hg1 (g_no rfl rfl rfl rfl rfl hg1 ?_)))))))
    refine p_t rfl rfl (bt2 hg1) rfl ?_
    refine r_assign rfl rfl (hl_nil (inb_n (then_n (hc_region (r_move rfl rfl ?_)))))
    refine r_add _ rfl rfl rfl rfl (by unfold I64; omega) ?_
    refine r_assign rfl rfl (hl_nil ?_)
    exact again _ (j + 1) (by show j + 1 ≤ qs.l.length; omega) (by show qs.l.length - (j + 1) < qs.l.length - j; omega) ⟨rfl, rfl, rfl, rfl, congrArg (fun x => some (Value.bool x)) (show true = ((qs.l.take (j + 1)).any fun x => decide (x.1 = (k : Int))) by rw [hcut, qa, Bool.true_or]), rfl, trivial⟩ (.refl _) ⟨mB, mB, mB, trivial⟩
  ·have hb2' := hb2; try simp at hb2'
   obtain rfl : j = qs.l.length := by omega
   refine hc_exit (then_exit (then_exit (inb_hit (then_n ?_))))
   refine hc_cut ⟨fun x : Bool => x = hereB ps.l qs.l s k, fun x => [(1, int s), (2, .pointer (some ⟨gB, 0, none⟩)), (5, int ((List.range k).filter (hereB ps.l qs.l s)).length), (6, int k), (43, .bool x)], fun _ => [], fun _ => Blk gB (.cells (saC c ps qs) T.api_Sales (0, 0)) :: saL ps qs⟩ ?_ ?_
   ·skip
    refine hc_region (r_move rfl rfl (r_move rfl rfl ?_))
    refine g_split rfl rfl ?_ ?_
    ·intro hg2; have hg2' := hg2; try simp at hg2'
     have qb : ((qs.l.take qs.l.length).any fun x => decide (x.1 = (k : Int))) = true := eq_of_beq hg2
     refine g_yes rfl rfl hg2 ?_
     refine r_fieldAddr ⟨_, 6, none⟩ rfl rfl T.fa_api_Sales_1 rfl ?_
     refine g_yes rfl rfl hg2 ?_
     refine r_load rfl T.cell_ints rfl (cell_blk mB rfl) ?_
     refine g_yes rfl rfl hg2 (r_move rfl rfl (g_yes rfl rfl hg2 ?_))
     refine r_elem (α := Int) ps.l k rfl T.u_ints T.sz_int rfl rfl rfl mB rfl (hk2) (by decide) ?_
     refine g_yes rfl rfl hg2 ?_
     refine r_load (v := int (ps.l.getD k default)) rfl T.cell_int rfl (cell_row mB (rows_get0 (hk2) rfl)) ?_
     refine g_yes rfl rfl hg2 (r_move rfl rfl (g_yes rfl rfl hg2 (r_eql rfl rfl rfl ?_)))
     refine p_t rfl rfl (bt1 hg2) rfl ?_
     refine hl_nil ?_
     exact cut_n _ (decide (ps.l.getD k default = s)) (by rw [List.take_length] at qb; show _ = hereB ps.l qs.l s k; unfold hereB; rw [qb, Bool.true_and]) ⟨rfl, rfl, rfl, rfl, rfl, trivial⟩ (.refl _) ⟨mB, mB, mB, trivial⟩
    ·intro hg2; have hg2' := hg2; try simp at hg2'
     have qb : ((qs.l.take qs.l.length).any fun x => decide (x.1 = (k : Int))) = false := bf2 hg2
     refine g_no rfl rfl rfl rfl rfl hg2 (g_no rfl rfl rfl rfl rfl hg2 (g_no rfl rfl rfl rfl rfl hg2 (g_no rfl rfl rfl rfl rfl hg2 (g_no rfl rfl rfl rfl rfl hg2 (g_no rfl rfl rfl rfl rfl hg2 (g_no rfl rfl rfl rfl rfl hg2 ?_))))))
     refine p_f rfl rfl (bf2 hg2) rfl ?_
     refine hl_nil ?_
     exact cut_n _ false (by rw [List.take_length] at qb; show _ = hereB ps.l qs.l s k; unfold hereB; rw [qb, Bool.false_and]) ⟨rfl, rfl, rfl, rfl, rfl, trivial⟩ (.refl _) ⟨mB, mB, mB, trivial⟩
   ·rintro x rfl
    refine hc_cond rfl (fun hb3 => ?_) (fun hb3 => ?_)
    ·have hb3' := hb3; try simp at hb3'
     rw [if_pos hb3] at hsu
     refine hc_region (r_move rfl rfl ?_)
     refine r_add _ rfl rfl rfl rfl (by unfold I64; omega) ?_
     refine r_assign rfl rfl (hl_nil (inb_n (then_n (hc_region (r_move rfl rfl ?_)))))
     refine r_add _ rfl rfl rfl rfl (by unfold I64; omega) ?_
     refine r_assign rfl rfl (hl_nil ?_)
     exact again _ (k + 1) (by show k + 1 ≤ ps.l.length; omega) (by show ps.l.length - (k + 1) < ps.l.length - k; omega) ⟨rfl, rfl, congrArg (fun z => some (int z)) (show (((List.range k).filter (hereB ps.l qs.l s)).length : Int) + 1 = (((List.range (k + 1)).filter (hereB ps.l qs.l s)).length : Int) by rw [hsu]; omega), rfl, trivial⟩ (.refl _) ⟨mB, mB, mB, trivial⟩
    ·have hb3' := hb3; try simp at hb3'
     rw [if_neg (by rw [hb3]; decide)] at hsu
     refine hc_skip (inb_n (then_n (hc_region (r_move rfl rfl ?_))))
     refine r_add _ rfl rfl rfl rfl (by unfold I64; omega) ?_
     refine r_assign rfl rfl (hl_nil ?_)
     exact again _ (k + 1) (by show k + 1 ≤ ps.l.length; omega) (by show ps.l.length - (k + 1) < ps.l.length - k; omega) ⟨rfl, rfl, congrArg (fun z : Nat => some (int (z : Int))) hsu.symm, rfl, trivial⟩ (.refl _) ⟨mB, mB, mB, trivial⟩
 ·have hb1' := hb1; try simp at hb1'
  obtain rfl : k = ps.l.length := by omega
  refine hc_exit (then_exit (then_exit (inb_hit (then_n (hc_seq (hc_region (r_move rfl rfl ?_)))))))
  refine r_fieldAddr ⟨_, 0, none⟩ rfl rfl T.fa_api_Sales_0 rfl ?_
  refine r_fieldAddr ⟨_, 5, none⟩ rfl rfl T.fa_api_Charges_5 rfl ?_
  refine r_load rfl T.cell_int rfl (cell_blk mB rfl) ?_
  refine r_geq rfl rfl rfl (r_assign rfl rfl (hl_nil (then_n (hc_ret ?_))))
  exact ret1 () rfl rfl rfl trivial (List.nil_sublist _) trivial
theorem ref09_Bill_meets (c : Ch) (ps : Sl Int) (qs : Sl Ad) (i : Nat) (hi : i < ps.l.length) (h : SaOK c ps.l qs.l) : Meets Try.prog F.ref09_Bill [saV c ps qs, int i] { LI := saL ps qs, val := fun _ : Unit => int (bilN c ps.l qs.l i) } := by
 have hx8 := h.x8
 have hn5 := h.n5
 have hsb := (sumK_bd h i qs.l.length (Nat.le_refl _))
 have hs : sumN c qs.l i = sumK c qs.l qs.l.length i := rfl
 rw [← hs] at hsb
 have ho := h.ch.2.2.2.2.1
 have hm := mul_00 (a := sumN c qs.l i) (b := 100 - c.2.2.2.2.1) (A := 48000) (B := 100) (by omega) (by omega)
 refine meets_intro F.ref09_Bill_f rfl (Nat.le_of_ble_eq_true rfl) fun w0 => ?_
 refine hc_seq (hc_region ?_)
 refine r_box rfl rfl fun gB => ?_
 refine r_assign rfl rfl (hl_nil (then_n (hc_seq (hc_letgoB (hc_region ?_)))))
 refine r_loadB rfl T.row_api_Sales T.sz_api_Sales rfl mB (by rfl) ?_
 refine r_move rfl rfl ?_
 refine hl_call F.ref09_Sum_cb rfl rfl (ref09_Sum_meets c ps qs i h) (List.Perm.refl _) ⟨mB, mB, trivial⟩ fun _ _ => ?_
 refine r_assign rfl rfl (hl_nil (then_n (hc_seq (hc_seq ?_))))
 refine hc_draw 6 mixed (by decide) (by decide) rfl rfl ?_
 refine hb_ex _ rfl rfl rfl (fun w1 => r_loadB rfl T.row_api_Sales T.sz_api_Sales rfl mB (by rfl) (hl_nil (qe_done rfl))) ?_
 refine hb_ex _ rfl rfl rfl (fun w1 => r_fieldAddr ⟨_, 6, none⟩ rfl rfl T.fa_api_Sales_1 rfl (hl_nil (qe_done rfl))) ?_
 refine hb_ex _ rfl rfl rfl (fun w1 => r_load rfl T.cell_ints rfl (cell_blk mB rfl) (hl_nil (qe_done rfl))) ?_
 refine hb_ex _ rfl rfl rfl (fun w1 => r_move rfl rfl (hl_nil (qe_done rfl))) ?_
 refine hb_ex _ rfl rfl rfl (fun w1 => r_elem (α := Int) ps.l i rfl T.u_ints T.sz_int rfl rfl rfl mB rfl (hi) (by decide) (hl_nil (qe_done rfl))) ?_
 refine hb_ex _ rfl rfl rfl (fun w1 => r_load (v := int (ps.l.getD i default)) rfl T.cell_int rfl (cell_row mB (rows_get0 (hi) rfl)) (hl_nil (qe_done rfl))) ?_
 refine hb_nil ⟨rfl, ?_⟩
 refine hl_call F.ref09_Off_cb rfl rfl (ref09_Off_meets c ps qs (ps.l.getD i default) (by omega) (by omega)) (List.Perm.refl _) ⟨mB, mB, trivial⟩ fun _ _ => ?_
 refine hl_nil (then_n ?_)
 refine c_dec rfl (fun hb1 => ?_) (fun hb1 => ?_)
 ·have hb1' := hb1; try simp at hb1'
  refine hc_seq (hc_region (r_move rfl rfl ?_))
  refine r_fieldAddr ⟨_, 0, none⟩ rfl rfl T.fa_api_Sales_0 rfl ?_
  refine r_fieldAddr ⟨_, 4, none⟩ rfl rfl T.fa_api_Charges_4 rfl ?_
  refine r_load rfl T.cell_int rfl (cell_blk mB rfl) ?_
  refine r_sub _ rfl rfl rfl rfl (by unfold I64; omega) ?_
  refine r_mul (sumN c qs.l i * (100 - c.2.2.2.2.1)) rfl rfl rfl rfl (by unfold I64; omega) ?_
  refine r_add (sumN c qs.l i * (100 - c.2.2.2.2.1) + 99) rfl rfl rfl rfl (by unfold I64; omega) ?_
  have hq : 0 ≤ (sumN c qs.l i * (100 - c.2.2.2.2.1) + 99).tdiv 100 ∧ (sumN c qs.l i * (100 - c.2.2.2.2.1) + 99).tdiv 100 ≤ 100000 := by rw [Int.tdiv_eq_ediv_of_nonneg (by omega)]; omega
  refine r_quo ((sumN c qs.l i * (100 - c.2.2.2.2.1) + 99).tdiv 100) rfl rfl rfl (by omega) (IntWalk.i64_in _ (by omega)) ?_
  refine r_assign rfl rfl (hl_nil (then_n (hc_ret (then_ret ?_))))
  exact ret1 () rfl (by show some _ = some (int (bilN c ps.l qs.l i)); unfold bilN; rw [if_pos (show offB c ps.l qs.l (ps.l.getD i default) = true from decide_eq_true hb1)]; rfl) rfl trivial (List.nil_sublist _) trivial
 ·have hb1' := hb1; try simp at hb1'
  refine hc_skip (then_n (hc_seq (hc_region (r_move rfl rfl (r_assign rfl rfl (hl_nil (then_n (hc_ret ?_))))))))
  exact ret1 () rfl (by show some _ = some (int (bilN c ps.l qs.l i)); unfold bilN; rw [if_neg (show ¬ offB c ps.l qs.l (ps.l.getD i default) = true from fun e => hb1 (of_decide_eq_true e))]) rfl trivial (List.nil_sublist _) trivial
theorem ref09_Bills_meets (c : Ch) (ps : Sl Int) (qs : Sl Ad) (hn : ps.l.length ≤ 1000000) (hm : qs.l.length ≤ 1000000) : Meets Try.prog F.ref09_Bills [saV c ps qs] { LI := saL ps qs, inv := fun x : OutC × Hp => Grow T.int 1 x.1.1 (billsE c ps.l qs.l).1.length x.1.2 (rows (billsE c ps.l qs.l).1) x.2, val := fun x => .tuple #[.slice x.1.1 (billsE c ps.l qs.l).1.length x.1.2, int (billsE c ps.l qs.l).2], hpO := fun x => x.2 } := by
 refine meets_intro F.ref09_Bills_f rfl (Nat.le_of_ble_eq_true rfl) fun w0 => ?_
 refine hc_seq (hc_region ?_)
 refine r_box rfl rfl fun gB => ?_
 refine r_assign rfl rfl (r_assign rfl rfl (hl_nil (then_n (hc_seq (hc_seq (hc_letgoB (hc_region ?_)))))))
 refine r_loadB rfl T.row_api_Sales T.sz_api_Sales rfl mB (by rfl) ?_
 refine hl_call F.ref09_Check_cb rfl rfl (ref09_Check_meets c ps qs hn hm) (List.Perm.refl _) ⟨mB, mB, trivial⟩ fun _ _ => ?_
 refine r_assign rfl rfl (hl_nil (then_n (hc_seq (hc_region (r_move rfl rfl (r_neq rfl rfl rfl (hl_nil (then_n ?_))))))))
 refine c_dec rfl (fun hb1 => ?_) (fun hb1 => ?_)
 ·have hb1' := hb1; try simp at hb1'
  refine hc_seq (hc_region (r_move rfl rfl (r_assign rfl rfl (r_assign rfl rfl (hl_nil (then_n (hc_ret (then_ret ?_))))))))
  have hE : (billsE c ps.l qs.l) = ([], chkS c ps.l qs.l) := by rw [billsE, if_pos hb1]
  exact ret2 ((none, 0), []) rfl rfl rfl (by show Value.tuple #[.slice none (billsE c ps.l qs.l).1.length 0, int (billsE c ps.l qs.l).2] = _; rw [hE]; rfl) rfl (by show Grow _ _ none (billsE c ps.l qs.l).1.length 0 (rows (billsE c ps.l qs.l).1) []; rw [hE]; exact Grow.nil _ _) (List.nil_sublist _) trivial
 ·have hb1' := hb1; try simp at hb1'
  have h0 : chkS c ps.l qs.l = 0 := Classical.not_not.1 hb1
  have hsa := sa_ok h0
  have hn5 := hsa.n5
  refine hc_skip (then_n (hc_seq (hc_region (r_assign rfl rfl (hl_nil (then_n (hc_seq (hc_seq (hc_region (r_assign rfl rfl (hl_nil ?_)))))))))))
  refine then_n (hc_block ?_)
  refine hc_loop (β := Nat × OutC × Hp) ⟨fun x => x.1 ≤ ps.l.length ∧ Grow T.int 1 x.2.1.1 (bilL c ps.l qs.l x.1).length x.2.1.2 (rows (bilL c ps.l qs.l x.1)) x.2.2, fun x => [(1, .pointer (some ⟨gB, 0, none⟩)), (5, .slice x.2.1.1 (bilL c ps.l qs.l x.1).length x.2.1.2), (6, int x.1)], fun x => x.2.2, fun _ => Blk gB (.cells (saC c ps qs) T.api_Sales (0, 0)) :: saL ps qs⟩ (fun x => ps.l.length - x.1) (0, (none, 0), []) ⟨Nat.zero_le _, Grow.nil _ _⟩ ⟨rfl, rfl, rfl, trivial⟩ (List.nil_sublist _) ⟨mB, mB, mB, trivial⟩ fun x hx => ?_
  obtain ⟨k, ⟨na, nc⟩, og⟩ := x
  obtain ⟨hk, hG⟩ := hx
  simp only at hk hG
  have hbl := bilL_len c ps.l qs.l k
  refine hc_seq (hc_seq (hc_region (r_move rfl rfl ?_)))
  refine r_fieldAddr ⟨_, 6, none⟩ rfl rfl T.fa_api_Sales_1 rfl ?_
  refine r_load rfl T.cell_ints rfl (cell_blk mB rfl) ?_
  refine r_len_sl rfl T.u_ints rfl ?_
  refine r_lss rfl rfl rfl (hl_nil (then_n ?_))
  refine c_dec rfl (fun hb2 => ?_) (fun hb2 => ?_)
  ·have hb2' := hb2; try simp at hb2'
   have hk2 : k < ps.l.length := by omega
   refine hc_skip (then_n (hc_seq (hc_block (hc_region (r_move rfl rfl ?_)))))
   refine r_loadB rfl T.row_api_Sales T.sz_api_Sales rfl mB (by rfl) ?_
   refine r_move rfl rfl ?_
   refine hl_call F.ref09_Bill_cb rfl rfl (ref09_Bill_meets c ps qs k hk2 hsa) (List.Perm.refl _) ⟨mB, mB, trivial⟩ fun _ _ => ?_
   refine r_buildSlice _ rfl rfl (fun _ => T.bs_ints_1 ..) fun gS => ?_
   refine hl_letgo (rows [bilN c ps.l qs.l k]) (List.prefix_refl _) ?_
   refine r_append (hp' := []) ((bilL c ps.l qs.l k).length + 1) (rows ((bilL c ps.l qs.l k) ++ [bilN c ps.l qs.l k])) T.el_ints rfl rfl rfl hG (show List.Perm og (og ++ []) from by rw [List.append_nil]) (Src.row (news := rows [bilN c ps.l qs.l k]) (m := 1) mB rfl (rows_one _) (by decide)) rfl (rows_append _ _).symm (by unfold maxLen; omega) (by omega) fun A' c' og' hG' => ?_
   refine r_assign rfl rfl (hl_nil (inb_n (then_n (hc_region (r_move rfl rfl ?_)))))
   refine r_add _ rfl rfl rfl rfl (by unfold I64; omega) ?_
   refine r_assign rfl rfl (hl_nil ?_)
   have hs := bilL_succ c ps.l qs.l k
   have hs2 : (bilL c ps.l qs.l (k + 1)).length = (bilL c ps.l qs.l k).length + 1 := by rw [hs, List.length_append]; rfl
   refine hq_perm (hp' := og') (show List.Perm (og' ++ []) og' from by rw [List.append_nil]) ?_
   exact again _ (k + 1, (A', c'), og') ⟨by show k + 1 ≤ ps.l.length; omega, by show Grow _ _ _ (bilL c ps.l qs.l (k + 1)).length _ (rows (bilL c ps.l qs.l (k + 1))) _; rw [hs2, hs]; exact hG'⟩ (by show ps.l.length - (k + 1) < ps.l.length - k; omega) ⟨rfl, congrArg (fun n => some (Value.slice A' n c')) hs2.symm, rfl, trivial⟩ (.refl _) ⟨mB, mB, mB, trivial⟩
  ·have hb2' := hb2; try simp at hb2'
   obtain rfl : k = ps.l.length := by omega
   rw [bilL_all] at hG hbl
   refine hc_exit (then_exit (then_exit (inb_hit (then_n (hc_seq (hc_region (r_move rfl rfl (r_assign rfl rfl (r_assign rfl rfl (hl_nil (then_n ?_)))))))))))
   refine hc_ret ?_
   have hE : (billsE c ps.l qs.l) = (numsN 103 c ps.l qs.l, 0) := by rw [billsE, if_neg hb1]
   exact ret2 ((na, nc), og) rfl rfl rfl (by show Value.tuple #[.slice na (billsE c ps.l qs.l).1.length nc, int (billsE c ps.l qs.l).2] = Value.tuple #[.slice na (bilL c ps.l qs.l ps.l.length).length nc, int 0]; rw [hE, bilL_all]) rfl (by show Grow _ _ na (billsE c ps.l qs.l).1.length nc (rows (billsE c ps.l qs.l).1) og; rw [hE]; exact hG) (.refl _) trivial
theorem law09_large_meets (c : Ch) (ps : Sl Int) (qs : Sl Ad) : Meets Try.prog F.law09_large [saV c ps qs] { LI := saL ps qs, val := fun _ : Unit => .bool (decide (20 < ps.l.length ∨ 20 < qs.l.length)) } := by
 refine meets_intro F.law09_large_f rfl (Nat.le_of_ble_eq_true rfl) fun w0 => ?_
 refine hc_seq (hc_region ?_)
 refine r_box rfl rfl fun gB => ?_
 refine r_assign rfl rfl (hl_nil (then_n (hc_seq (hc_region ?_))))
 refine r_fieldAddr ⟨_, 6, none⟩ rfl rfl T.fa_api_Sales_1 rfl ?_
 refine r_load rfl T.cell_ints rfl (cell_own mB rfl) ?_
 refine r_len_sl rfl T.u_ints rfl ?_
 refine r_gtr rfl rfl rfl (r_move rfl rfl ?_)
 refine g_split rfl rfl ?_ ?_
 ·intro hg1; have hg1' := hg1; try simp at hg1'
  refine g_yes rfl rfl hg1 ?_
  refine r_fieldAddr ⟨_, 7, none⟩ rfl rfl T.fa_api_Sales_2 rfl ?_
  refine g_yes rfl rfl hg1 ?_
  refine r_load rfl T.cell_L_api_Advert rfl (cell_own mB rfl) ?_
  refine g_yes rfl rfl hg1 ?_
  refine r_len_sl rfl T.u_L_api_Advert rfl ?_
  refine g_yes rfl rfl hg1 (r_gtr rfl rfl rfl ?_)
  refine p_f rfl rfl (bf1 hg1) rfl ?_
  refine r_assign rfl rfl (hl_nil (then_n (hc_ret ?_)))
  exact ret1 () rfl (congrArg (fun b => some (Value.bool b)) (decide_eq_decide.2 (by omega))) rfl trivial (List.nil_sublist _) trivial
 ·intro hg1; have hg1' := hg1; try simp at hg1'
  refine g_no rfl rfl rfl rfl rfl hg1 (g_no rfl rfl rfl rfl rfl hg1 (g_no rfl rfl rfl rfl rfl hg1 (g_no rfl rfl rfl rfl rfl hg1 ?_)))
  refine p_t rfl rfl (bt2 hg1) rfl ?_
  refine r_assign rfl rfl (hl_nil (then_n (hc_ret ?_)))
  exact ret1 () rfl (congrArg (fun b => some (Value.bool b)) (decide_eq_true (by omega)).symm) rfl trivial (List.nil_sublist _) trivial
end Go.Proofs.Ytdlbbfcfahahdaa
end
section
namespace Go.Proofs.Ytdlbbfcfahahdaa
open Go Go.W
set_option maxRecDepth 20000
attribute [local irreducible] HL HC HQ HB Row Rows2 Blk Facts
abbrev sumsL (c : Ch) (xs : List Ad) (n k : Nat) : List Int := (List.range n).map (sumK c xs k)
end Go.Proofs.Ytdlbbfcfahahdaa
end
section
namespace Go.Proofs.Ytdlbbfcfahahdaa
open Go Go.W
set_option maxRecDepth 20000
attribute [local irreducible] HL HC HQ HB Row Rows2 Blk Facts
end Go.Proofs.Ytdlbbfcfahahdaa
end
section
namespace Go.W
open Go Go.RowKit
def GoQ {β : Type} (s : Sta β) (μ : β → Nat) (m : Option Nat) (l : Nat) (c : Cx) (Q : Exit → Act → World → Prop) : Exit → Act → World → Prop
  | .goto l', a, w => l' = l ∧ ∃ y, s.inv y ∧ (∀ k, m = some k → μ y < k) ∧ Ok c a (s.fr y) ∧ WI c.b w (s.hp y) (s.L y)
  | e, a, w => Q e a w
section
variable {c : Cx} {Q : Exit → Act → World → Prop} {fr : Fr} {hp : Hp} {L : List Fact}
end
end Go.W
end
section
namespace Go.Proofs.Ytdlbbfcfahahdaa
open Go Go.W
set_option maxRecDepth 20000
attribute [local irreducible] HL HC HQ HB Row Rows2 Blk Facts
def bilA (c : Ch) (ss : List Int) (xs : List Ad) (y : Ad) : Int := bilN c ss (xs ++ [y]) y.1.toNat
def chStep (c : Ch) (ss : List Int) (xs : List Ad) (o : Option (Ad × Int)) (y : Ad) : Option (Ad × Int) :=
  if ¬ adErr ss.length y = 0 then o else match o with
    | none => some (y, bilA c ss xs y)
    | some z => if bilA c ss xs y < z.2 then some (y, bilA c ss xs y) else some z
def xA : Option (Ad × Int) → Ad
  | none => (0, 0, 0)
  | some z => z.1
def xB : Option (Ad × Int) → Int
  | none => 0
  | some z => z.2
def chIn (c : Ch) (ss : List Int) (xs : List Ad) (cu ln : Int) (kd : Nat) (o : Option (Ad × Int)) (i : Nat) : Option (Ad × Int) := (List.range i).foldl (fun o (j : Nat) => chStep c ss xs o (cu, (kd : Int), ln + (j : Int))) o
def chOut (c : Ch) (ss : List Int) (xs : List Ad) (cu ln : Int) (k : Nat) : Option (Ad × Int) := (List.range k).foldl (fun o kd => chIn c ss xs cu ln (kd + 1) o (7 - ln).toNat) none
def cheapE (c : Ch) (ss : List Int) (xs : List Ad) (cu ln : Int) : Ad × Int × Int :=
  if ¬ chkS c ss xs = 0 then ((0, 0, 0), 0, chkS c ss xs) else if ¬ (0 ≤ cu ∧ cu ≤ (ss.length : Int) - 1) then ((0, 0, 0), 0, 3) else if ¬ (1 ≤ ln ∧ ln ≤ 6) then ((0, 0, 0), 0, 1) else if 8 ≤ xs.length then ((0, 0, 0), 0, 6)
  else (xA (chOut c ss xs cu ln 3), xB (chOut c ss xs cu ln 3), 0)
def chAt (c : Ch) (ss : List Int) (xs : List Ad) (cu ln : Int) (x : Nat × Nat) : Option (Ad × Int) := chIn c ss xs cu ln (x.1 + 1) (chOut c ss xs cu ln x.1) x.2
end Go.Proofs.Ytdlbbfcfahahdaa
end
section
namespace Go.Proofs.Ytdlbbfcfahahdaa
open Go Go.W
set_option maxRecDepth 20000
attribute [local irreducible] HL HC HQ HB Row Rows2 Blk Facts
def xC : Option (Ad × Int) → Int
  | none => -1
  | some z => z.2
def chItem (cu ln : Int) (kd j : Nat) : Ad := (cu, (kd : Int), ln + (j : Int))
def chList (cu ln : Int) (k : Nat) : List Ad := (List.range k).flatMap fun kd => (List.range (7 - ln).toNat).map fun j => chItem cu ln (kd + 1) j
def chNN (o : Option (Ad × Int)) : Prop := ∀ z, o = some z → 0 ≤ z.2
end Go.Proofs.Ytdlbbfcfahahdaa
end
section
namespace Go.Proofs.Ytdlbbfcfahahdaa
open Go Go.W
set_option maxRecDepth 20000
attribute [local irreducible] HL HC HQ HB Row Rows2 Blk Facts
abbrev Sx := Ch × Sl Int × Sl Ad
instance : El Sx where
  default := ((0, 0, 0, 0, 0, 0), ⟨none, 0, []⟩, ⟨none, 0, []⟩)
  cells x := [int x.1.1, int x.1.2.1, int x.1.2.2.1, int x.1.2.2.2.1, int x.1.2.2.2.2.1, int x.1.2.2.2.2.2, .slice x.2.1.a x.2.1.l.length x.2.1.c, .slice x.2.2.a x.2.2.l.length x.2.2.c]
  sz := 8
  len _ := rfl
  one a u h := by simp at h; rcases h with h | h | h | h | h | h | h | h <;> subst h <;> rfl
abbrev Sx.row (d : Sx) : Fact := Facts [Row d.2.1.a (rows d.2.1.l), Row d.2.2.a (rows d.2.2.l)]
theorem bills_err (c : Ch) (ss : List Int) (xs : List Ad) : (billsE c ss xs).2 = chkS c ss xs := by
  unfold billsE
  by_cases h : ¬ chkS c ss xs = 0
  · rw [if_pos h]
  · rw [if_neg h]; exact (Classical.not_not.1 h).symm
theorem bills_ok {c : Ch} {ss : List Int} {xs : List Ad} (h : chkS c ss xs = 0) : billsE c ss xs = (numsN 103 c ss xs, 0) := by
  rw [billsE, if_neg (fun e => e h)]
theorem ref09_Owes_meets {R : Option Addr} {rc : Nat} (c : Ch) (ps : Sl Int) (qs : Sl Ad) (rs : List Cd) (hn : ps.l.length ≤ 1000000) (hm : qs.l.length ≤ 1000000) (hr : rs.length ≤ 1000000) : Meets Try.prog F.ref09_Owes [saV c ps qs, .slice R rs.length rc] { LI := Row R (rows rs) :: saL ps qs, inv := fun x : OutC => (owesE c ps.l qs.l rs).1.length ≤ x.2, val := fun x => .tuple #[.slice x.1 (owesE c ps.l qs.l rs).1.length x.2, int (owesE c ps.l qs.l rs).2], LO := fun x => [Row x.1 (rows (owesE c ps.l qs.l rs).1)] } := by
 refine meets_intro F.ref09_Owes_f rfl (Nat.le_of_ble_eq_true rfl) fun w0 => ?_
 refine hc_seq (hc_region ?_)
 refine r_box rfl rfl fun gB => ?_
 refine r_assign rfl rfl (r_assign rfl rfl (hl_nil (then_n (hc_seq (hc_letgoB (hc_region ?_))))))
 refine r_loadB rfl T.row_api_Sales T.sz_api_Sales rfl mB (by rfl) ?_
 refine hl_call F.ref09_Bills_cb rfl rfl (ref09_Bills_meets c ps qs hn hm) (List.Perm.refl _) ⟨mB, mB, trivial⟩ fun y hy => ?_
 obtain ⟨⟨ba, bc⟩, bo⟩ := y
 change Grow T.int 1 ba (billsE c ps.l qs.l).1.length bc (rows (billsE c ps.l qs.l).1) bo at hy
 refine r_move rfl rfl (r_extract rfl rfl rfl (r_extract rfl rfl rfl (r_assign rfl rfl (r_assign rfl rfl (hl_nil (then_n (hc_seq (hc_seq (hc_region (r_move rfl rfl (r_neq rfl rfl rfl ?_)))))))))))
 refine hl_nil (then_n ?_)
 refine c_dec rfl (fun hb1 => ?_) (fun hb1 => ?_)
 ·have hb1' := hb1; try simp at hb1'
  rw [bills_err] at hb1
  refine hc_seq (hc_region (r_move rfl rfl (r_assign rfl rfl (r_assign rfl rfl (hl_nil (then_n (hc_ret (then_ret ?_))))))))
  refine hq_nilrow (α := Int) ?_
  have hE : (owesE c ps.l qs.l rs) = ([], chkS c ps.l qs.l) := by rw [owesE, if_pos hb1]
  exact ret2 (none, 0) rfl rfl rfl (by show Value.tuple #[.slice none (owesE c ps.l qs.l rs).1.length 0, int (owesE c ps.l qs.l rs).2] = _; rw [hE, bills_err]; rfl) rfl (by show (owesE c ps.l qs.l rs).1.length ≤ 0; rw [hE]; exact Nat.le_refl _) (List.nil_sublist _) (by show LSub _ [Row none (rows (owesE c ps.l qs.l rs).1)]; rw [hE]; exact ⟨m0, trivial⟩)
 ·have hb1' := hb1; try simp at hb1'
  rw [bills_err] at hb1
  have h0 : chkS c ps.l qs.l = 0 := Classical.not_not.1 hb1
  have hsa := sa_ok h0
  have hn5 := hsa.n5
  have hn1 := hsa.n1
  have hE := bills_ok h0
  rw [hE] at hy
  have hbl : (billsE c ps.l qs.l).1.length = ps.l.length := by rw [hE]; exact nums_len ..
  refine hc_skip (then_n (hc_seq (hc_seq (hc_region (r_move rfl rfl ?_)))))
  refine r_len_sl rfl T.u_L_api_Receipt rfl ?_
  refine r_gtr rfl rfl rfl (hl_nil (then_n ?_))
  refine c_dec rfl (fun hb2 => ?_) (fun hb2 => ?_)
  ·have hb2' := hb2; try simp at hb2'
   have hb2 : 8 < rs.length := by omega
   refine hc_seq (hc_region (r_assign rfl rfl (r_assign rfl rfl (hl_nil (then_n (hc_ret (then_ret ?_)))))))
   refine hq_nilrow (α := Int) ?_
   have hE : (owesE c ps.l qs.l rs) = ([], 6) := by rw [owesE, if_neg hb1, if_pos hb2]
   exact ret2 (none, 0) rfl rfl rfl (by show Value.tuple #[.slice none (owesE c ps.l qs.l rs).1.length 0, int (owesE c ps.l qs.l rs).2] = _; rw [hE]; rfl) rfl (by show (owesE c ps.l qs.l rs).1.length ≤ 0; rw [hE]; exact Nat.le_refl _) (List.nil_sublist _) (by show LSub _ [Row none (rows (owesE c ps.l qs.l rs).1)]; rw [hE]; exact ⟨m0, trivial⟩)
  ·have hb2' := hb2; try simp at hb2'
   have hb2 : ¬ 8 < rs.length := by omega
   refine hc_skip (then_n (hc_seq (hc_seq (hc_region (r_assign rfl rfl (hl_nil (then_n (hc_block ?_))))))))
   obtain ⟨g7, cur0, rfl, rfl, hcl, hcm, hcs0, hct0⟩ := (show GrowE T.int 1 ba (numsN 103 c ps.l qs.l).length bc (rows (numsN 103 c ps.l qs.l)) bo from .inl hy).blk (by rw [nums_len]; omega)
   refine hc_loop (β := Nat × List Int × Array Value) ⟨fun x => x.1 ≤ rs.length ∧ x.2.1.length = ps.l.length ∧ (∀ v ∈ x.2.1, -(100000 * (x.1 : Int)) ≤ v ∧ v ≤ 1000000000) ∧ owesK (numsN 103 c ps.l qs.l) rs = owesK x.2.1 (rs.drop x.1) ∧ x.2.2.size = bc * 1 ∧ x.2.2.toList.take (x.2.1.length * 1) = rows x.2.1, fun x => [(1, .slice R rs.length rc), (2, .pointer (some ⟨gB, 0, none⟩)), (6, .slice (some ⟨g7, 0, none⟩) ps.l.length bc), (8, int x.1)], fun x => [(g7, Obj.cells x.2.2 T.int (0, 0))], fun _ => Blk gB (.cells (saC c ps qs) T.api_Sales (0, 0)) :: Row R (rows rs) :: saL ps qs⟩ (fun x => rs.length - x.1) (0, numsN 103 c ps.l qs.l, cur0) ⟨Nat.zero_le _, nums_len .., fun v hv => by have := nums_bd hsa v hv; omega, rfl, hcs0, hct0⟩ ⟨rfl, rfl, congrArg (fun n => some (Value.slice (some ⟨g7, 0, none⟩) n bc)) hbl, rfl, trivial⟩ (.cons_cons _ (List.nil_sublist _)) ⟨mB, mB, mB, mB, trivial⟩ fun x hx => ?_
   obtain ⟨k, bs, cur⟩ := x
   obtain ⟨hk, hbs, hbb, hoe, hcs, hct⟩ := hx
   simp only at hk hbs hbb hoe hcs hct
   rw [nums_len] at hcl
   refine hc_seq (hc_seq (hc_region (r_move rfl rfl (r_move rfl rfl ?_))))
   refine r_len_sl rfl T.u_L_api_Receipt rfl ?_
   refine r_lss rfl rfl rfl (hl_nil (then_n ?_))
   refine c_dec rfl (fun hb3 => ?_) (fun hb3 => ?_)
   ·have hb3' := hb3; try simp at hb3'
    have hk3 : k < rs.length := by omega
    refine hc_skip (then_n (hc_seq (hc_block (hc_seq (hc_seq ?_)))))
    refine hc_draw 9 mixed (by decide) (by decide) rfl rfl ?_
    refine hb_ex _ rfl rfl rfl (fun w1 => r_move rfl rfl (hl_nil (qe_done rfl))) ?_
    refine hb_ex _ rfl rfl rfl (fun w1 => r_move rfl rfl (hl_nil (qe_done rfl))) ?_
    refine hb_ex _ rfl rfl rfl (fun w1 => r_elem (α := Cd) rs k rfl T.u_L_api_Receipt T.sz_api_Receipt rfl rfl rfl mB rfl (hk3) (by decide) (hl_nil (qe_done rfl))) ?_
    refine hb_ex _ rfl rfl rfl (fun w1 => r_fieldAddr _ rfl rfl T.fa_api_Receipt_0 rfl (hl_nil (qe_done rfl))) ?_
    refine hb_ex _ rfl rfl rfl (fun w1 => r_load rfl T.cell_int rfl (cell_row mB (rows_get0 (by omega) rfl)) (hl_nil (qe_done rfl))) ?_
    refine hb_ex _ rfl rfl rfl (fun w1 => r_fieldAddr ⟨_, 6, none⟩ rfl rfl T.fa_api_Sales_1 rfl (hl_nil (qe_done rfl))) ?_
    refine hb_ex _ rfl rfl rfl (fun w1 => r_load rfl T.cell_ints rfl (cell_blk mB rfl) (hl_nil (qe_done rfl))) ?_
    refine hb_ex _ rfl rfl rfl (fun w1 => r_len_sl rfl T.u_ints rfl (hl_nil (qe_done rfl))) ?_
    refine hb_ex _ rfl rfl rfl (fun w1 => r_sub _ rfl rfl rfl rfl (by unfold I64; omega) (hl_nil (qe_done rfl))) ?_
    refine hb_nil ⟨rfl, ?_⟩
    refine hl_call F.ref09_within_cb rfl rfl (ref09_within_meets _ _ _) (List.Perm.refl _) trivial fun _ _ => ?_
    refine r_not rfl rfl (hl_nil (then_n ?_))
    refine hc_cond rfl (fun hb4 => ?_) (fun hb4 => ?_)
    ·have hb4' := hb4; try simp at hb4'
     refine hc_seq (hc_region (r_assign rfl rfl (r_assign rfl rfl (hl_nil (then_n (hc_ret (then_ret (inb_ret (then_ret (then_ret (inb_ret ?_)))))))))))
     refine then_ret ?_
     refine hq_nilrow (α := Int) ?_
     have hE : (owesE c ps.l qs.l rs) = ([], 3) := by rw [owesE, if_neg hb1, if_neg hb2, hoe, owesK_drop _ hk3]; rw [if_pos (by rw [hbs]; exact nbt hb4)]
     exact ret2 (none, 0) rfl rfl rfl (by show Value.tuple #[.slice none (owesE c ps.l qs.l rs).1.length 0, int (owesE c ps.l qs.l rs).2] = _; rw [hE]; rfl) rfl (by show (owesE c ps.l qs.l rs).1.length ≤ 0; rw [hE]; exact Nat.le_refl _) (List.nil_sublist _) (by show LSub _ [Row none (rows (owesE c ps.l qs.l rs).1)]; rw [hE]; exact ⟨m0, trivial⟩)
    ·have hb4' := hb4; try simp at hb4'
     refine hc_skip (then_n (hc_seq (hc_seq (hc_region (r_move rfl rfl (r_move rfl rfl ?_))))))
     refine r_elem (α := Cd) rs k rfl T.u_L_api_Receipt T.sz_api_Receipt rfl rfl rfl mB rfl (hk3) (by decide) ?_
     refine r_fieldAddr _ rfl rfl T.fa_api_Receipt_1 rfl ?_
     refine r_load rfl T.cell_int rfl (cell_row_f mB (rows_get (by omega) rfl)) ?_
     refine hl_call F.ref09_within_cb rfl rfl (ref09_within_meets _ _ _) (List.Perm.refl _) trivial fun _ _ => ?_
     refine r_not rfl rfl (hl_nil (then_n ?_))
     refine hc_cond rfl (fun hb5 => ?_) (fun hb5 => ?_)
     ·have hb5' := hb5; try simp at hb5'
      refine hc_seq (hc_region (r_assign rfl rfl (r_assign rfl rfl (hl_nil (then_n (hc_ret (then_ret (inb_ret (then_ret (then_ret (inb_ret ?_)))))))))))
      refine then_ret ?_
      refine hq_nilrow (α := Int) ?_
      have hE : (owesE c ps.l qs.l rs) = ([], 1) := by rw [owesE, if_neg hb1, if_neg hb2, hoe, owesK_drop _ hk3]; rw [if_neg (by rw [hbs]; exact Classical.not_not.2 (nbf hb4)), if_pos (nbt hb5)]
      exact ret2 (none, 0) rfl rfl rfl (by show Value.tuple #[.slice none (owesE c ps.l qs.l rs).1.length 0, int (owesE c ps.l qs.l rs).2] = _; rw [hE]; rfl) rfl (by show (owesE c ps.l qs.l rs).1.length ≤ 0; rw [hE]; exact Nat.le_refl _) (List.nil_sublist _) (by show LSub _ [Row none (rows (owesE c ps.l qs.l rs).1)]; rw [hE]; exact ⟨m0, trivial⟩)
     ·have hb5' := hb5; try simp at hb5'
      have h4 := nbf hb4
      have h5 := nbf hb5
      obtain ⟨m, hme⟩ := Int.eq_ofNat_of_zero_le h4.1
      have hm2 : m < ps.l.length := by omega
      have hm3 : m < bs.length := by omega
      have hvb := hbb _ (getD_mem hm3)
      have hkk : k < 9 := by omega
      refine hc_skip (then_n ?_)
      refine hc_drawW ([(g7, Obj.cells cur T.int (0, 0))]) ([]) (.refl _) 20 [1000013] mixed (by decide) (by decide) (by decide) rfl rfl rfl ?_
      refine hb_ex _ rfl rfl rfl (fun w1 => r_move rfl rfl (hl_nil (qe_done rfl))) ?_
      refine hb_ex _ rfl rfl rfl (fun w1 => r_move rfl rfl (hl_nil (qe_done rfl))) ?_
      refine hb_ex _ rfl rfl rfl (fun w1 => r_move rfl rfl (hl_nil (qe_done rfl))) ?_
      refine hb_ex _ rfl rfl rfl (fun w1 => r_elem (α := Cd) rs k rfl T.u_L_api_Receipt T.sz_api_Receipt rfl rfl rfl mB rfl (hk3) (by decide) (hl_nil (qe_done rfl))) ?_
      refine hb_ex _ rfl rfl rfl (fun w1 => r_fieldAddr _ rfl rfl T.fa_api_Receipt_0 rfl (hl_nil (qe_done rfl))) ?_
      refine hb_ex _ rfl rfl rfl (fun w1 => r_load rfl T.cell_int rfl (cell_row mB (rows_get0 (by omega) rfl)) (hl_nil (qe_done rfl))) ?_
      refine hb_ex _ rfl rfl rfl (fun w1 => r_move rfl rfl (hl_nil (qe_done rfl))) ?_
      refine hb_ex _ rfl rfl rfl (fun w1 => r_move rfl rfl (hl_nil (qe_done rfl))) ?_
      refine hb_ex _ rfl rfl rfl (fun w1 => r_move rfl rfl (hl_nil (qe_done rfl))) ?_
      refine hb_ex _ rfl rfl rfl (fun w1 => r_elem (α := Cd) rs k rfl T.u_L_api_Receipt T.sz_api_Receipt rfl rfl rfl mB rfl (hk3) (by decide) (hl_nil (qe_done rfl))) ?_
      refine hb_ex _ rfl rfl rfl (fun w1 => r_fieldAddr _ rfl rfl T.fa_api_Receipt_0 rfl (hl_nil (qe_done rfl))) ?_
      refine hb_ex _ rfl rfl rfl (fun w1 => r_load rfl T.cell_int rfl (cell_row mB (rows_get0 (by omega) rfl)) (hl_nil (qe_done rfl))) ?_
      refine hb_ex _ rfl rfl rfl (fun w1 => r_indexAddr_own m (0 + m * 1) rfl T.u_ints T.sz_int rfl rfl hme hm2 rfl (hl_nil (qe_done rfl))) ?_
      refine hb_rd (int (bs.getD m default)) rfl rfl rfl ?_ ?_
      ·intro w1
       refine r_load (v := int (bs.getD m default)) rfl T.cell_int rfl (cell_blk mB (own_f (α := Int) (f := 0) hct hm3 (by rw [Nat.zero_add]; rfl) rfl)) ?_
       refine hl_nil ?_
       exact qe_done rfl
      refine hb_ex _ rfl rfl rfl (fun w1 => r_move rfl rfl (hl_nil (qe_done rfl))) ?_
      refine hb_ex _ rfl rfl rfl (fun w1 => r_move rfl rfl (hl_nil (qe_done rfl))) ?_
      refine hb_ex _ rfl rfl rfl (fun w1 => r_elem (α := Cd) rs k rfl T.u_L_api_Receipt T.sz_api_Receipt rfl rfl rfl mB rfl (hk3) (by decide) (hl_nil (qe_done rfl))) ?_
      refine hb_ex _ rfl rfl rfl (fun w1 => r_fieldAddr _ rfl rfl T.fa_api_Receipt_1 rfl (hl_nil (qe_done rfl))) ?_
      refine hb_ex _ rfl rfl rfl (fun w1 => r_load rfl T.cell_int rfl (cell_row_f mB (rows_get (by omega) rfl)) (hl_nil (qe_done rfl))) ?_
      apply hb_ex _ rfl rfl rfl
      ·intro w1
       intro _ _
       refine r_sub (bs.getD m default - (rs.getD k default).2) rfl rfl rfl rfl (by unfold I64; omega) ?_
       refine hl_nil ?_
       exact qe_done rfl
      refine hb_nil ⟨rfl, ?_⟩
      intro _ _
      refine r_indexAddr_own m (0 + m * 1) rfl T.u_ints T.sz_int rfl rfl hme hm2 rfl ?_
      refine r_store (u := int (bs.getD m default)) rfl rfl (.refl _) T.sz_int (own_f (α := Int) (f := 0) hct hm3 (by rw [Nat.zero_add]; rfl) rfl) (by rfl) ?_
      refine hl_nil (inb_n (then_n (hc_region (r_move rfl rfl ?_))))
      refine r_add _ rfl rfl rfl rfl (by unfold I64; omega) ?_
      refine r_assign rfl rfl (hl_nil ?_)
      exact again _ (k + 1, (bs.set m (bs.getD m default - (rs.getD k default).2)), cur.setIfInBounds (0 + m * 1) (int (bs.getD m default - (rs.getD k default).2))) ⟨by show k + 1 ≤ rs.length; omega, by show ((bs.set m (bs.getD m default - (rs.getD k default).2))).length = _; rw [List.length_set]; exact hbs, by show ∀ v ∈ (bs.set m (bs.getD m default - (rs.getD k default).2)), -(100000 * ((k + 1 : Nat) : Int)) ≤ v ∧ v ≤ 1000000000; exact set_bd hbb (by omega) (by omega), by show _ = owesK (bs.set m (bs.getD m default - (rs.getD k default).2)) (rs.drop (k + 1)); rw [hoe, owesK_drop _ hk3, if_neg (by rw [hbs]; exact Classical.not_not.2 h4), if_neg (Classical.not_not.2 h5), hme, Int.toNat_natCast], by show (Array.setIfInBounds _ _ _).size = _; rw [Array.size_setIfInBounds]; exact hcs, by show (Array.setIfInBounds cur _ _).toList.take (((bs.set m (bs.getD m default - (rs.getD k default).2))).length * 1) = _; rw [Nat.zero_add]; exact take_setf (α := Int) (f := 0) (by decide) hm3 rfl hct⟩ (by show rs.length - (k + 1) < rs.length - k; omega) ⟨rfl, rfl, rfl, rfl, trivial⟩ (.refl _) ⟨mB, mB, mB, mB, trivial⟩
   ·have hb3' := hb3; try simp at hb3'
    obtain rfl : k = rs.length := by omega
    rw [List.drop_length, owesK] at hoe
    refine hc_exit (then_exit (then_exit (inb_hit (then_n (hc_seq ?_)))))
    have hlb : bs.length ≤ bc := by omega
    refine hc_grown (A := some ⟨g7, 0, none⟩) (n := bs.length) (cap := bc) (xs := rows bs) (og := [(g7, Obj.cells cur T.int (0, 0))]) (e := T.int) (sz := 1) ⟨by rw [rows_len]; rfl, .inr ⟨g7, cur, rfl, rfl, hlb, hcm, hcs, hct⟩⟩ ?_
    refine hc_region (r_move rfl rfl (r_assign rfl rfl (r_assign rfl rfl (hl_nil (then_n (hc_ret ?_))))))
    have hE2 : (owesE c ps.l qs.l rs) = (bs, 0) := by rw [owesE, if_neg hb1, if_neg hb2, hoe]
    exact ret2 (some ⟨g7, 0, none⟩, bc) rfl rfl rfl (by show Value.tuple #[.slice (some ⟨g7, 0, none⟩) (owesE c ps.l qs.l rs).1.length bc, int (owesE c ps.l qs.l rs).2] = _; rw [hE2]; show Value.tuple #[.slice (some ⟨g7, 0, none⟩) bs.length bc, int 0] = _; rw [hbs]) rfl (by show (owesE c ps.l qs.l rs).1.length ≤ bc; rw [hE2]; exact hlb) (List.nil_sublist _) (by show LSub _ [Row (some ⟨g7, 0, none⟩) (rows (owesE c ps.l qs.l rs).1)]; rw [hE2]; exact ⟨m0, trivial⟩)
theorem kit_EqSales_meets {pA qA : Option Addr} {pC qC : Nat} (c : Ch) (ps : Sl Int) (qs : Sl Ad) (hn : ps.l.length ≤ 1000000) (hm : qs.l.length ≤ 1000000) : Meets Try.prog F.kit_EqSales [saV c ps qs, saV c ⟨pA, pC, ps.l⟩ ⟨qA, qC, qs.l⟩] { LI := [Row ps.a (rows ps.l), Row qs.a (rows qs.l), Row pA (rows ps.l), Row qA (rows qs.l)], val := fun _ : Unit => .bool true } := by
 refine meets_intro F.kit_EqSales_f rfl (Nat.le_of_ble_eq_true rfl) fun w0 => ?_
 refine hc_seq (hc_region ?_)
 refine r_box rfl rfl fun gB => ?_
 refine r_box rfl rfl fun gC => ?_
 refine r_assign rfl rfl (hl_nil (then_n (hc_seq (hc_seq (hc_letgoB (hc_letgoB (hc_region ?_)))))))
 refine r_fieldAddr ⟨_, 0, none⟩ rfl rfl T.fa_api_Sales_0 rfl ?_
 refine r_loadS (cs := [int c.1, int c.2.1, int c.2.2.1, int c.2.2.2.1, int c.2.2.2.2.1, int c.2.2.2.2.2]) rfl T.row_api_Charges T.sz_api_Charges rfl rfl (cells_blk (o := 0) mB (cells_pre rfl)) ?_
 refine r_fieldAddr ⟨_, 0, none⟩ rfl rfl T.fa_api_Sales_0 rfl ?_
 refine r_loadS (cs := [int c.1, int c.2.1, int c.2.2.1, int c.2.2.2.1, int c.2.2.2.2.1, int c.2.2.2.2.2]) rfl T.row_api_Charges T.sz_api_Charges rfl rfl (cells_blk (o := 0) mB (cells_pre rfl)) ?_
 refine r_bin _ rfl rfl rfl (fun _ => T.eqg_api_Charges ..) (fun _ => T.neq_api_Charges ..) ?_
 refine r_move rfl rfl ?_
 refine g_split rfl rfl ?_ ?_
 ·intro hg1; have hg1' := hg1; try simp at hg1'
  refine g_yes rfl rfl hg1 ?_
  refine r_fieldAddr ⟨_, 6, none⟩ rfl rfl T.fa_api_Sales_1 rfl ?_
  refine g_yes rfl rfl hg1 ?_
  refine r_load rfl T.cell_ints rfl (cell_blk mB rfl) ?_
  refine g_yes rfl rfl hg1 ?_
  refine r_fieldAddr ⟨_, 6, none⟩ rfl rfl T.fa_api_Sales_1 rfl ?_
  refine g_yes rfl rfl hg1 ?_
  refine r_load rfl T.cell_ints rfl (cell_blk mB rfl) ?_
  refine g_yes rfl rfl hg1 ?_
  refine hl_call F.kit_EqInts_cb rfl rfl (kit_EqInts_meets ps.l ps.l (by omega)) (List.Perm.refl _) ⟨mB, mB, trivial⟩ fun _ _ => ?_
  refine g_yes rfl rfl hg1 (r_not rfl rfl ?_)
  refine p_f rfl rfl (bf1 hg1) rfl ?_
  refine r_move rfl rfl ?_
  refine g_split rfl rfl ?_ ?_
  ·intro hg2; have hg2' := hg2; try simp at hg2'
   refine g_yes rfl rfl hg2 ?_
   refine r_fieldAddr ⟨_, 7, none⟩ rfl rfl T.fa_api_Sales_2 rfl ?_
   refine g_yes rfl rfl hg2 ?_
   refine r_load rfl T.cell_L_api_Advert rfl (cell_blk mB rfl) ?_
   refine g_yes rfl rfl hg2 ?_
   refine r_len_sl rfl T.u_L_api_Advert rfl ?_
   refine g_yes rfl rfl hg2 ?_
   refine r_fieldAddr ⟨_, 7, none⟩ rfl rfl T.fa_api_Sales_2 rfl ?_
   refine g_yes rfl rfl hg2 ?_
   refine r_load rfl T.cell_L_api_Advert rfl (cell_blk mB rfl) ?_
   refine g_yes rfl rfl hg2 ?_
   refine r_len_sl rfl T.u_L_api_Advert rfl ?_
   refine g_yes rfl rfl hg2 (r_neq rfl rfl rfl ?_)
   refine p_f rfl rfl (bf1 hg2) rfl ?_
   refine hl_nil (then_n ?_)
   refine c_dec rfl (fun hb1 => ?_) (fun hb1 => ?_)
   ·have hb1' := hb1; try simp at hb1'
   ·have hb1' := hb1; try simp at hb1'
    refine hc_skip (then_n (hc_seq (hc_seq (hc_region (r_assign rfl rfl (hl_nil (then_n (hc_block ?_))))))))
    refine hc_loop (β := Nat) ⟨fun k => k ≤ qs.l.length, fun k => [(2, .pointer (some ⟨gB, 0, none⟩)), (3, .pointer (some ⟨gC, 0, none⟩)), (5, int k)], fun _ => [], fun _ => [Blk gC (.cells (saC c ⟨pA, pC, ps.l⟩ ⟨qA, qC, qs.l⟩) T.api_Sales (0, 0)), Blk gB (.cells (saC c ps qs) T.api_Sales (0, 0)), Row ps.a (rows ps.l), Row qs.a (rows qs.l), Row pA (rows ps.l), Row qA (rows qs.l)]⟩ (fun k => qs.l.length - k) 0 (Nat.zero_le _) ⟨rfl, rfl, rfl, trivial⟩ (List.nil_sublist _) ⟨mB, mB, mB, mB, mB, mB, trivial⟩ fun k hk => ?_
    simp only at hk
    refine hc_seq (hc_seq (hc_region (r_move rfl rfl ?_)))
    refine r_fieldAddr ⟨_, 7, none⟩ rfl rfl T.fa_api_Sales_2 rfl ?_
    refine r_load rfl T.cell_L_api_Advert rfl (cell_blk mB rfl) ?_
    refine r_len_sl rfl T.u_L_api_Advert rfl ?_
    refine r_lss rfl rfl rfl (hl_nil (then_n ?_))
    refine c_dec rfl (fun hb2 => ?_) (fun hb2 => ?_)
    ·have hb2' := hb2; try simp at hb2'
     have hk2 : k < qs.l.length := by omega
     refine hc_skip (then_n (hc_seq (hc_block (hc_seq ?_))))
     refine hc_draw 10 mixed (by decide) (by decide) rfl rfl ?_
     refine hb_ex _ rfl rfl rfl (fun w1 => r_fieldAddr ⟨_, 7, none⟩ rfl rfl T.fa_api_Sales_2 rfl (hl_nil (qe_done rfl))) ?_
     refine hb_ex _ rfl rfl rfl (fun w1 => r_load rfl T.cell_L_api_Advert rfl (cell_blk mB rfl) (hl_nil (qe_done rfl))) ?_
     refine hb_ex _ rfl rfl rfl (fun w1 => r_move rfl rfl (hl_nil (qe_done rfl))) ?_
     refine hb_ex _ rfl rfl rfl (fun w1 => r_elem (α := Ad) qs.l k rfl T.u_L_api_Advert T.sz_api_Advert rfl rfl rfl mB rfl (hk2) (by decide) (hl_nil (qe_done rfl))) ?_
     refine hb_ex _ rfl rfl rfl (fun w1 => r_loadS rfl T.row_api_Advert T.sz_api_Advert rfl rfl (cells_row mB (rows_all (by omega))) (hl_nil (qe_done rfl))) ?_
     refine hb_ex _ rfl rfl rfl (fun w1 => r_fieldAddr ⟨_, 7, none⟩ rfl rfl T.fa_api_Sales_2 rfl (hl_nil (qe_done rfl))) ?_
     refine hb_ex _ rfl rfl rfl (fun w1 => r_load rfl T.cell_L_api_Advert rfl (cell_blk mB rfl) (hl_nil (qe_done rfl))) ?_
     refine hb_ex _ rfl rfl rfl (fun w1 => r_move rfl rfl (hl_nil (qe_done rfl))) ?_
     refine hb_ex _ rfl rfl rfl (fun w1 => r_elem (α := Ad) qs.l k rfl T.u_L_api_Advert T.sz_api_Advert rfl rfl rfl mB rfl (hk2) (by decide) (hl_nil (qe_done rfl))) ?_
     refine hb_ex _ rfl rfl rfl (fun w1 => r_loadS rfl T.row_api_Advert T.sz_api_Advert rfl rfl (cells_row mB (rows_all (by omega))) (hl_nil (qe_done rfl))) ?_
     refine hb_nil ⟨rfl, ?_⟩
     refine r_bin _ rfl rfl rfl (fun _ => T.eqg_api_Advert ..) (fun _ => T.neq_api_Advert ..) ?_
     refine hl_nil (then_n ?_)
     refine c_dec rfl (fun hb3 => ?_) (fun hb3 => ?_)
     ·exact absurd rfl hb3
     ·have hb3' := hb3; try simp at hb3'
      refine hc_skip (inb_n (then_n (hc_region (r_move rfl rfl ?_))))
      refine r_add _ rfl rfl rfl rfl (by unfold I64; omega) ?_
      refine r_assign rfl rfl (hl_nil ?_)
      exact again _ (k + 1) (by show k + 1 ≤ qs.l.length; omega) (by show qs.l.length - (k + 1) < qs.l.length - k; omega) ⟨rfl, rfl, rfl, trivial⟩ (List.nil_sublist _) ⟨mB, mB, mB, mB, mB, mB, trivial⟩
    ·have hb2' := hb2; try simp at hb2'
     refine hc_exit (then_exit (then_exit (inb_hit (then_n (hc_seq (hc_region (r_assign rfl rfl (hl_nil (then_n (hc_ret ?_))))))))))
     exact ret1 () rfl rfl rfl trivial (List.nil_sublist _) trivial
  ·intro hg2; have hg2' := hg2; try simp at hg2'
 ·intro hg1; have hg1' := hg1; try simp at hg1'
end Go.Proofs.Ytdlbbfcfahahdaa
end
