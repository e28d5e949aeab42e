/- The walk of the statement ProofLines. -/
import Derived.Test.YtpbbgbjidhffoaaPri
import Derived.Test.YtpbbgbjidhffoaaPre
namespace Go.Proofs.Ytpbbgbjidhffoaa
open Go Go.W
set_option linter.unusedVariables false
set_option linter.unusedSimpArgs false
set_option maxRecDepth 20000
attribute [local irreducible] HL HC HQ HB Row Rows2 Blk Facts

theorem ins_succ {l : List Mk} {k : Nat} (h : k < l.length) : insM (l.take (k + 1)) = insM (l.take k) + (if (l.getD k default).1 = 1 then 1 else 0) := by
  rw [take_succ_getD l k h]
  unfold insM
  rw [List.filter_append, List.length_append]
  congr 1
  by_cases h3 : (l.getD k default).1 = 1
  · rw [if_pos h3, List.filter_cons_of_pos (by simpa using h3)]; rfl
  · rw [if_neg h3, List.filter_cons_of_neg (by simpa using h3)]; rfl
theorem outs_succ {l : List Mk} {k : Nat} (h : k < l.length) : outsM (l.take (k + 1)) = outsM (l.take k) + (if (l.getD k default).1 = 3 then 1 else 0) := by
  rw [take_succ_getD l k h]
  unfold outsM
  rw [List.filter_append, List.length_append]
  congr 1
  by_cases h3 : (l.getD k default).1 = 3
  · rw [if_pos h3, List.filter_cons_of_pos (by simpa using h3)]; rfl
  · rw [if_neg h3, List.filter_cons_of_neg (by simpa using h3)]; rfl
theorem ins_le (l : List Mk) : insM l ≤ l.length := List.length_filter_le _ _
theorem outs_le (l : List Mk) : outsM l ≤ l.length := List.length_filter_le _ _
theorem cost_le (l : List Mk) : costM l ≤ l.length := List.length_filter_le _ _
theorem named_succ {l : List Mk} {k : Nat} (i : Nat) (h : k < l.length) : namedM (l.take (k + 1)) i = (namedM (l.take k) i || (decide ((l.getD k default).2.1 = (i : Int)) && decide (¬ (l.getD k default).1 = 1))) := by
  rw [take_succ_getD l k h]
  unfold namedM
  rw [List.any_append]
  simp only [List.any_cons, List.any_nil, Bool.or_false]
theorem kept_succ (p : List Str) (l : List Mk) (i : Nat) : keptF p l 0 (i + 1) = keptF p l 0 i ++ (if namedM l i = true then [] else [p.getD i default]) := by
  unfold keptF
  rw [List.range'_1_concat, List.filter_append, List.map_append]
  congr 1
  rw [Nat.zero_add]
  by_cases h : namedM l i = true
  · rw [if_pos h, List.filter_cons_of_neg (by simp [h])]; rfl
  · rw [if_neg h, List.filter_cons_of_pos (by simpa using h)]; rfl
theorem kept_le (p : List Str) (l : List Mk) (n : Nat) : (keptF p l 0 n).length ≤ n := by
  unfold keptF
  rw [List.length_map]
  exact Nat.le_trans (List.length_filter_le _ _) (by simp)


set_option maxHeartbeats 2000000 in
theorem law07_ProofLines_meets {N : Option Addr} {cn : Nat} (nums : List Int) (hn : nums.length ≤ 9223372036854775807) :
    Meets Try.prog F.law07_ProofLines [.slice N nums.length cn] { LI := [Row N (rows nums)], val := fun _ : Unit => .bool true } := by
  refine meets_intro F.law07_ProofLines_f rfl (Nat.le_of_ble_eq_true rfl) fun w0 => ?_
  refine hc_seq ?_
  refine hc_region ?_
  refine r_assign rfl rfl ?_
  refine hl_nil ?_
  refine then_n ?_
  refine hc_seq ?_
  refine hc_region ?_
  refine r_move rfl rfl ?_
  refine hl_call F.kit_NewDice_cb rfl rfl (kit_NewDice_meets nums) (List.Perm.refl _) ⟨m0, trivial⟩ fun gd _ => ?_
  refine r_assign rfl rfl ?_
  refine hl_nil ?_
  refine then_n ?_
  refine hc_seq ?_
  refine hc_region ?_
  refine r_move rfl rfl ?_
  refine hl_call F.kit_PageOf_cb rfl rfl (kit_PageOf_meets 6 hn (dok0 nums) (by omega)) (.refl _) ⟨(by repeat constructor), trivial⟩ fun r hr => ?_
  obtain ⟨s1, x, ox⟩ := r
  obtain ⟨hs1, hxn, hxo, hxc⟩ := hr
  simp only at hxn hxc hxo
  have hjx : (s1, x, ox).snd.fst.length = x.length := rfl
  refine r_assign rfl rfl ?_
  refine hl_nil ?_
  refine then_n ?_
  refine hc_seq ?_
  refine hc_region ?_
  refine r_move rfl rfl ?_
  refine r_move rfl rfl ?_
  refine r_len_sl rfl T.u_strs rfl ?_
  refine hl_call F.kit_MarksOf_cb rfl rfl (kit_MarksOf_meets x.length 12 hn hs1 (by omega)) (.refl _) ⟨(by repeat constructor), trivial⟩ fun r hr => ?_
  obtain ⟨s2, y, oy⟩ := r
  obtain ⟨hs2, hyn, hyo, hyc⟩ := hr
  simp only at hyn hyc hyo
  have hjy : (s2, y, oy).snd.fst.length = y.length := rfl
  refine r_assign rfl rfl ?_
  refine hl_nil ?_
  refine then_n ?_
  refine hc_seq ?_
  refine hc_region ?_
  refine r_move rfl rfl ?_
  refine r_len_sl rfl T.u_strs rfl ?_
  refine r_assign rfl rfl ?_
  refine hl_nil ?_
  refine then_n ?_
  refine hc_cut ⟨fun _ : Unit => True, fun _ => [(4, .slice ox.1 x.length ox.2), (5, .slice oy.1 y.length oy.2), (6, int ((x.length : Int) + insM y - outsM y))], fun _ => [], fun _ => [Row ox.1 (rows x), Row oy.1 (rows y)]⟩ ?_ ?_
  · skip
    refine hc_seq ?_
    refine hc_region ?_
    refine r_assign rfl rfl ?_
    refine hl_nil ?_
    refine then_n ?_
    refine hc_block ?_
    refine hc_loop (β := Nat) ⟨fun i => i ≤ y.length, fun i => [(4, .slice ox.1 x.length ox.2), (5, .slice oy.1 y.length oy.2), (6, int ((x.length : Int) + insM (y.take i) - outsM (y.take i))), (7, int i)], fun _ => [], fun _ => [Row ox.1 (rows x), Row oy.1 (rows y)]⟩ (fun i => y.length - i) 0 (Nat.zero_le _) ⟨rfl, rfl, congrArg (fun n => some (int n)) (by simp [insM, outsM]), rfl, trivial⟩ (List.nil_sublist _) ⟨(by repeat constructor), (by repeat constructor), trivial⟩ fun i hi => ?_
    simp only at hi
    refine hc_seq ?_
    refine hc_seq ?_
    refine hc_region ?_
    refine r_move rfl rfl ?_
    refine r_move rfl rfl ?_
    refine r_len_sl rfl T.u_L_api_Mark rfl ?_
    refine r_lss rfl rfl rfl ?_
    refine hl_nil ?_
    refine then_n ?_
    first | refine c_dec rfl (fun hb1 => ?_) (fun hb1 => ?_) | refine hc_cond rfl (fun hb1 => ?_) (fun hb1 => ?_)
    · have hb1' := hb1; try simp at hb1'
      have hi2 : i < y.length := by omega
      have hn1 := ins_le (y.take i)
      have hn2 := outs_le (y.take i)
      rw [List.length_take] at hn1 hn2
      refine hc_skip ?_
      refine then_n ?_
      refine hc_seq ?_
      refine hc_block ?_
      refine hc_seq ?_
      refine hc_region ?_
      refine r_move rfl rfl ?_
      refine r_move rfl rfl ?_
      refine r_elem (α := Mk) _ _ rfl T.u_L_api_Mark T.sz_api_Mark rfl rfl rfl (by repeat constructor) rfl (by omega) (by decide) ?_
      first | refine r_fieldAddr ⟨_, 0, none⟩ rfl rfl T.fa_api_Mark_0 rfl ?_ | refine r_fieldAddr _ rfl rfl T.fa_api_Mark_0 rfl ?_
      refine r_load rfl T.cell_int rfl (cell_row (by repeat constructor) (rows_get0 (by omega) rfl)) ?_
      refine hl_nil ?_
      refine then_n ?_
      refine hc_block ?_
      refine hc_seq ?_
      refine hc_region ?_
      refine r_eql rfl rfl rfl ?_
      refine r_assign rfl rfl ?_
      refine hl_nil ?_
      refine then_n ?_
      first | refine c_dec rfl (fun hb2 => ?_) (fun hb2 => ?_) | refine hc_cond rfl (fun hb2 => ?_) (fun hb2 => ?_)
      · have hb2' := hb2; try simp at hb2'
        refine hc_region ?_
        refine r_move rfl rfl ?_
        refine r_add _ rfl rfl rfl rfl (by unfold I64; omega) ?_
        refine r_assign rfl rfl ?_
        refine hl_nil ?_
        refine inb_n ?_
        refine inb_n ?_
        refine then_n ?_
        refine hc_region ?_
        refine r_move rfl rfl ?_
        refine r_add _ rfl rfl rfl rfl (by unfold I64; omega) ?_
        refine r_assign rfl rfl ?_
        refine hl_nil ?_
        refine again _ (i + 1) (by show i + 1 ≤ y.length; omega) (by show y.length - (i + 1) < y.length - i; omega) ⟨rfl, rfl, ?_, rfl, trivial⟩ (List.nil_sublist _) ⟨(by repeat constructor), (by repeat constructor), trivial⟩
        show some (int _) = some (int ((x.length : Int) + (insM (y.take (i + 1)) : Nat) - (outsM (y.take (i + 1)) : Nat)))
        refine congrArg (fun n => some (int n)) ?_
        rw [ins_succ hi2, outs_succ hi2, if_pos hb2, if_neg (show ¬ (y.getD i default).1 = 3 by omega)]
        omega
      · have hb2' := hb2; try simp at hb2'
        refine hc_seq ?_
        refine hc_region ?_
        refine r_eql rfl rfl rfl ?_
        refine r_assign rfl rfl ?_
        refine hl_nil ?_
        refine then_n ?_
        first | refine c_dec rfl (fun hb3 => ?_) (fun hb3 => ?_) | refine hc_cond rfl (fun hb3 => ?_) (fun hb3 => ?_)
        · have hb3' := hb3; try simp at hb3'
          refine hc_region ?_
          refine r_move rfl rfl ?_
          refine r_sub _ rfl rfl rfl rfl (by unfold I64; omega) ?_
          refine r_assign rfl rfl ?_
          refine hl_nil ?_
          refine inb_n ?_
          refine inb_n ?_
          refine then_n ?_
          refine hc_region ?_
          refine r_move rfl rfl ?_
          refine r_add _ rfl rfl rfl rfl (by unfold I64; omega) ?_
          refine r_assign rfl rfl ?_
          refine hl_nil ?_
          refine again _ (i + 1) (by show i + 1 ≤ y.length; omega) (by show y.length - (i + 1) < y.length - i; omega) ⟨rfl, rfl, ?_, rfl, trivial⟩ (List.nil_sublist _) ⟨(by repeat constructor), (by repeat constructor), trivial⟩
          show some (int _) = some (int ((x.length : Int) + (insM (y.take (i + 1)) : Nat) - (outsM (y.take (i + 1)) : Nat)))
          refine congrArg (fun n => some (int n)) ?_
          rw [ins_succ hi2, outs_succ hi2, if_neg hb2, if_pos hb3]
          omega
        · have hb3' := hb3; try simp at hb3'
          refine hc_skip ?_
          refine inb_n ?_
          refine inb_n ?_
          refine then_n ?_
          refine hc_region ?_
          refine r_move rfl rfl ?_
          refine r_add _ rfl rfl rfl rfl (by unfold I64; omega) ?_
          refine r_assign rfl rfl ?_
          refine hl_nil ?_
          refine again _ (i + 1) (by show i + 1 ≤ y.length; omega) (by show y.length - (i + 1) < y.length - i; omega) ⟨rfl, rfl, ?_, rfl, trivial⟩ (List.nil_sublist _) ⟨(by repeat constructor), (by repeat constructor), trivial⟩
          show some (int _) = some (int ((x.length : Int) + (insM (y.take (i + 1)) : Nat) - (outsM (y.take (i + 1)) : Nat)))
          refine congrArg (fun n => some (int n)) ?_
          rw [ins_succ hi2, outs_succ hi2, if_neg hb2, if_neg hb3]
          omega
    · have hb1' := hb1; try simp at hb1'
      have hi2 : i = y.length := by omega
      subst hi2
      refine hc_exit ?_
      refine then_exit ?_
      refine then_exit ?_
      refine inb_hit ?_
      exact cut_n _ () trivial ⟨rfl, rfl, congrArg (fun l : List Mk => some (int ((x.length : Int) + insM l - outsM l))) List.take_length, trivial⟩ (List.nil_sublist _) ⟨(by repeat constructor), (by repeat constructor), trivial⟩
  · intro _ _
    refine hc_seq ?_
    have hpx := page_ok hxo (by omega)
    have hck := check_ok hpx hyo (by omega)
    have hL := lines_ok (p := x) (asc_of hyo.ch) hyo.v
    have hL1 := hL.len
    have hL2 := hL.kept
    have hL3 := hL.sum
    have hap : applyP x y = if 6 < (madeP x y).length then ([], 6) else (madeP x y, 0) := by rw [applyP, if_neg (not_not_intro hck)]
    have hco : costR x y = ((costM y : Int), 0) := by rw [costR, if_neg (not_not_intro hck)]
    generalize hR : applyP x y = R at *
    refine hc_region ?_
    refine r_move rfl rfl ?_
    refine r_move rfl rfl ?_
    have hd1 := proof_Apply_meets (A := ox.1) (ca := ox.2) (B := oy.1) (cb := oy.2) x y hxc
    rw [hR] at hd1
    refine hl_call F.proof_Apply_cb rfl rfl (hd1) (List.Perm.refl _) ⟨(by repeat constructor), (by repeat constructor), trivial⟩ fun oz hoz => ?_
    refine r_move rfl rfl ?_
    refine r_extract rfl rfl rfl ?_
    refine r_extract rfl rfl rfl ?_
    refine r_assign rfl rfl ?_
    refine r_assign rfl rfl ?_
    refine hl_nil ?_
    refine then_n ?_
    refine hc_seq ?_
    refine hc_region ?_
    refine r_move rfl rfl ?_
    refine r_move rfl rfl ?_
    have hd2 := proof_Cost_meets (A := ox.1) (ca := ox.2) (B := oy.1) (cb := oy.2) x y
    rw [hco] at hd2
    refine hl_call F.proof_Cost_cb rfl rfl (hd2) (List.Perm.refl _) ⟨(by repeat constructor), (by repeat constructor), trivial⟩ fun _ _ => ?_
    refine r_move rfl rfl ?_
    refine r_extract rfl rfl rfl ?_
    refine r_extract rfl rfl rfl ?_
    refine r_assign rfl rfl ?_
    refine r_assign rfl rfl ?_
    refine hl_nil ?_
    refine then_n ?_
    refine hc_seq ?_
    refine hc_seq ?_
    refine hc_region ?_
    refine r_move rfl rfl ?_
    refine r_neq rfl rfl rfl ?_
    refine r_move rfl rfl ?_
    refine g_split rfl rfl ?_ ?_
    · intro hg1; have hg1' := hg1; try simp at hg1'
      refine g_yes rfl rfl (by first | rfl | assumption | exact gy (by assumption) | exact gy2 (by assumption)) ?_
      refine r_move rfl rfl ?_
      refine g_yes rfl rfl (by first | rfl | assumption | exact gy (by assumption) | exact gy2 (by assumption)) ?_
      refine r_lss rfl rfl rfl ?_
      refine p_f rfl rfl (by first | rfl | assumption | exact bf1 (by assumption) | exact bf2 (by assumption)) rfl ?_
      refine r_move rfl rfl ?_
      refine g_split rfl rfl ?_ ?_
      · intro hg2; have hg2' := hg2; try simp at hg2'
        refine g_yes rfl rfl (by first | rfl | assumption | exact gy (by assumption) | exact gy2 (by assumption)) ?_
        refine r_move rfl rfl ?_
        refine g_yes rfl rfl (by first | rfl | assumption | exact gy (by assumption) | exact gy2 (by assumption)) ?_
        refine r_move rfl rfl ?_
        refine g_yes rfl rfl (by first | rfl | assumption | exact gy (by assumption) | exact gy2 (by assumption)) ?_
        refine r_len_sl rfl T.u_L_api_Mark rfl ?_
        refine g_yes rfl rfl (by first | rfl | assumption | exact gy (by assumption) | exact gy2 (by assumption)) ?_
        refine r_gtr rfl rfl rfl ?_
        refine p_f rfl rfl (by first | rfl | assumption | exact bf1 (by assumption) | exact bf2 (by assumption)) rfl ?_
        refine hl_nil ?_
        refine then_n ?_
        first | refine c_dec rfl (fun hb4 => ?_) (fun hb4 => ?_) | refine hc_cond rfl (fun hb4 => ?_) (fun hb4 => ?_)
        · have h := cost_le y
          omega
        · have hb4' := hb4; try simp at hb4'
          refine hc_skip ?_
          refine then_n ?_
          refine hc_seq ?_
          refine hc_seq ?_
          refine hc_region ?_
          refine r_move rfl rfl ?_
          refine r_gtr rfl rfl rfl ?_
          refine hl_nil ?_
          refine then_n ?_
          first | refine c_dec rfl (fun hb5 => ?_) (fun hb5 => ?_) | refine hc_cond rfl (fun hb5 => ?_) (fun hb5 => ?_)
          · have hb5' := hb5; try simp at hb5'
            have hR2 : R = ([], 6) := by rw [hap, if_pos (by omega)]
            subst hR2
            refine hc_seq ?_
            refine hc_region ?_
            refine r_move rfl rfl ?_
            refine r_eql rfl rfl rfl ?_
            refine r_move rfl rfl ?_
            refine g_split rfl rfl ?_ ?_
            · intro hg3; have hg3' := hg3; try simp at hg3'
              refine g_yes rfl rfl (by first | rfl | assumption | exact gy (by assumption) | exact gy2 (by assumption)) ?_
              refine r_move rfl rfl ?_
              refine g_yes rfl rfl (by first | rfl | assumption | exact gy (by assumption) | exact gy2 (by assumption)) ?_
              refine r_len_sl rfl T.u_strs rfl ?_
              refine g_yes rfl rfl (by first | rfl | assumption | exact gy (by assumption) | exact gy2 (by assumption)) ?_
              refine r_eql rfl rfl rfl ?_
              refine p_t rfl rfl (by first | rfl | assumption | exact bt1 (by assumption) | exact bt2 (by assumption)) rfl ?_
              refine r_move rfl rfl ?_
              refine g_split rfl rfl ?_ ?_
              · intro hg4; have hg4' := hg4; try simp at hg4'
                refine g_yes rfl rfl (by first | rfl | assumption | exact gy (by assumption) | exact gy2 (by assumption)) ?_
                refine hl_call F.law07_correcting_cb rfl rfl (law07_correcting_meets) (List.Perm.refl _) trivial fun _ _ => ?_
                refine p_t rfl rfl (by first | rfl | assumption | exact bt1 (by assumption) | exact bt2 (by assumption)) rfl ?_
                refine r_assign rfl rfl ?_
                refine hl_nil ?_
                refine then_n ?_
                refine hc_ret ?_
                refine then_ret ?_
                exact ret1 () rfl rfl rfl trivial (List.nil_sublist _) trivial
              · intro hg4; have hg4' := hg4; try simp at hg4'
            · intro hg3; have hg3' := hg3; try simp at hg3'
          · have hb5' := hb5; try simp at hb5'
            have hR2 : R = (madeP x y, 0) := by rw [hap, if_neg (by omega)]
            subst hR2
            refine hc_skip ?_
            refine then_n ?_
            refine hc_seq ?_
            refine hc_region ?_
            refine r_assign rfl rfl ?_
            refine hl_nil ?_
            refine then_n ?_
            refine hc_seq ?_
            refine hc_seq ?_
            refine hc_region ?_
            refine r_assign rfl rfl ?_
            refine hl_nil ?_
            refine then_n ?_
            refine hc_block ?_
            refine hc_loop (β := Nat × OutC × Hp) ⟨fun ⟨i, o, og⟩ => i ≤ x.length ∧ GrowS o (keptF x y 0 i) og, fun ⟨i, o, og⟩ => [(4, .slice ox.1 x.length ox.2), (5, .slice oy.1 y.length oy.2), (6, int ((x.length : Int) + insM y - outsM y)), (8, .slice oz.1 (madeP x y).length oz.2), (9, int 0), (10, int (costM y : Nat)), (12, .slice o.1 (keptF x y 0 i).length o.2), (13, int i)], fun ⟨i, o, og⟩ => og, fun _ => [Row ox.1 (rows x), Row oy.1 (rows y), Row oz.1 (rows (madeP x y))]⟩ (fun z => x.length - z.1) (0, (none, 0), []) ⟨Nat.zero_le _, Grow.nil _ _⟩ ⟨rfl, rfl, rfl, rfl, rfl, rfl, rfl, rfl, trivial⟩ (List.nil_sublist _) ⟨(by repeat constructor), (by repeat constructor), (by repeat constructor), trivial⟩ fun z hz => ?_
            obtain ⟨i, o, og⟩ := z
            obtain ⟨hi, hG⟩ := hz
            have hkl := kept_le x y i
            refine hc_seq ?_
            refine hc_seq ?_
            refine hc_region ?_
            refine r_move rfl rfl ?_
            refine r_move rfl rfl ?_
            refine r_len_sl rfl T.u_strs rfl ?_
            refine r_lss rfl rfl rfl ?_
            refine hl_nil ?_
            refine then_n ?_
            first | refine c_dec rfl (fun hb6 => ?_) (fun hb6 => ?_) | refine hc_cond rfl (fun hb6 => ?_) (fun hb6 => ?_)
            · have hb6' := hb6; try simp at hb6'
              have hi2 : i < x.length := by omega
              have hks := kept_succ x y i
              refine hc_skip ?_
              refine then_n ?_
              refine hc_seq ?_
              refine hc_block ?_
              refine hc_seq ?_
              refine hc_region ?_
              refine r_assign rfl rfl ?_
              refine hl_nil ?_
              refine then_n ?_
              refine hc_cut ⟨fun _ : Unit => True, fun _ => [(4, .slice ox.1 x.length ox.2), (5, .slice oy.1 y.length oy.2), (6, int ((x.length : Int) + insM y - outsM y)), (8, .slice oz.1 (madeP x y).length oz.2), (9, int 0), (10, int (costM y : Nat)), (12, .slice o.1 (keptF x y 0 i).length o.2), (13, int i), (14, .bool (namedM y i))], fun _ => og, fun _ => [Row ox.1 (rows x), Row oy.1 (rows y), Row oz.1 (rows (madeP x y))]⟩ ?_ ?_
              · skip
                refine hc_seq ?_
                refine hc_region ?_
                refine r_assign rfl rfl ?_
                refine hl_nil ?_
                refine then_n ?_
                refine hc_block ?_
                refine hc_loop (β := Nat) ⟨fun k => k ≤ y.length, fun k => [(4, .slice ox.1 x.length ox.2), (5, .slice oy.1 y.length oy.2), (6, int ((x.length : Int) + insM y - outsM y)), (8, .slice oz.1 (madeP x y).length oz.2), (9, int 0), (10, int (costM y : Nat)), (12, .slice o.1 (keptF x y 0 i).length o.2), (13, int i), (14, .bool (namedM (y.take k) i)), (15, int k)], fun _ => og, fun _ => [Row ox.1 (rows x), Row oy.1 (rows y), Row oz.1 (rows (madeP x y))]⟩ (fun k => y.length - k) 0 (Nat.zero_le _) ⟨rfl, rfl, rfl, rfl, rfl, rfl, rfl, rfl, rfl, rfl, trivial⟩ (.refl _) ⟨(by repeat constructor), (by repeat constructor), (by repeat constructor), trivial⟩ fun k hk => ?_
                simp only at hk
                refine hc_seq ?_
                refine hc_seq ?_
                refine hc_region ?_
                refine r_move rfl rfl ?_
                refine r_move rfl rfl ?_
                refine r_len_sl rfl T.u_L_api_Mark rfl ?_
                refine r_lss rfl rfl rfl ?_
                refine hl_nil ?_
                refine then_n ?_
                first | refine c_dec rfl (fun hb7 => ?_) (fun hb7 => ?_) | refine hc_cond rfl (fun hb7 => ?_) (fun hb7 => ?_)
                · have hb7' := hb7; try simp at hb7'
                  have hk2 : k < y.length := by omega
                  have hns := named_succ i hk2
                  refine hc_skip ?_
                  refine then_n ?_
                  refine hc_seq ?_
                  refine hc_block ?_
                  refine hc_region ?_
                  refine r_move rfl rfl ?_
                  refine r_move rfl rfl ?_
                  refine g_split rfl rfl ?_ ?_
                  · intro hg5; have hg5' := hg5; try simp at hg5'
                    rw [bf1 hg5, Bool.false_or] at hns
                    refine g_yes rfl rfl (by first | rfl | assumption | exact gy (by assumption) | exact gy2 (by assumption)) ?_
                    refine r_move rfl rfl ?_
                    refine g_yes rfl rfl (by first | rfl | assumption | exact gy (by assumption) | exact gy2 (by assumption)) ?_
                    refine r_move rfl rfl ?_
                    refine g_yes rfl rfl (by first | rfl | assumption | exact gy (by assumption) | exact gy2 (by assumption)) ?_
                    refine r_elem (α := Mk) _ _ rfl T.u_L_api_Mark T.sz_api_Mark rfl rfl rfl (by repeat constructor) rfl (by omega) (by decide) ?_
                    refine g_yes rfl rfl (by first | rfl | assumption | exact gy (by assumption) | exact gy2 (by assumption)) ?_
                    first | refine r_fieldAddr ⟨_, 1, none⟩ rfl rfl T.fa_api_Mark_1 rfl ?_ | refine r_fieldAddr _ rfl rfl T.fa_api_Mark_1 rfl ?_
                    refine g_yes rfl rfl (by first | rfl | assumption | exact gy (by assumption) | exact gy2 (by assumption)) ?_
                    refine r_load rfl T.cell_int rfl (cell_row_f (by repeat constructor) (rows_get (by omega) rfl)) ?_
                    refine g_yes rfl rfl (by first | rfl | assumption | exact gy (by assumption) | exact gy2 (by assumption)) ?_
                    refine r_move rfl rfl ?_
                    refine g_yes rfl rfl (by first | rfl | assumption | exact gy (by assumption) | exact gy2 (by assumption)) ?_
                    refine r_eql rfl rfl rfl ?_
                    refine g_yes rfl rfl (by first | rfl | assumption | exact gy (by assumption) | exact gy2 (by assumption)) ?_
                    refine r_move rfl rfl ?_
                    refine g_split rfl rfl ?_ ?_
                    · intro hg6; have hg6' := hg6; try simp at hg6'
                      rw [bt1 hg6, Bool.true_and] at hns
                      refine g_yes rfl rfl (by first | rfl | assumption | exact gy (by assumption) | exact gy2 (by assumption)) ?_
                      refine r_move rfl rfl ?_
                      refine g_yes rfl rfl (by first | rfl | assumption | exact gy (by assumption) | exact gy2 (by assumption)) ?_
                      refine r_move rfl rfl ?_
                      refine g_yes rfl rfl (by first | rfl | assumption | exact gy (by assumption) | exact gy2 (by assumption)) ?_
                      refine r_elem (α := Mk) _ _ rfl T.u_L_api_Mark T.sz_api_Mark rfl rfl rfl (by repeat constructor) rfl (by omega) (by decide) ?_
                      refine g_yes rfl rfl (by first | rfl | assumption | exact gy (by assumption) | exact gy2 (by assumption)) ?_
                      first | refine r_fieldAddr ⟨_, 0, none⟩ rfl rfl T.fa_api_Mark_0 rfl ?_ | refine r_fieldAddr _ rfl rfl T.fa_api_Mark_0 rfl ?_
                      refine g_yes rfl rfl (by first | rfl | assumption | exact gy (by assumption) | exact gy2 (by assumption)) ?_
                      refine r_load rfl T.cell_int rfl (cell_row (by repeat constructor) (rows_get0 (by omega) rfl)) ?_
                      refine g_yes rfl rfl (by first | rfl | assumption | exact gy (by assumption) | exact gy2 (by assumption)) ?_
                      refine r_neq rfl rfl rfl ?_
                      refine g_yes rfl rfl (by first | rfl | assumption | exact gy (by assumption) | exact gy2 (by assumption)) ?_
                      refine p_t rfl rfl (by first | rfl | assumption | exact bt1 (by assumption) | exact bt2 (by assumption)) rfl ?_
                      refine p_f rfl rfl (by first | rfl | assumption | exact bf1 (by assumption) | exact bf2 (by assumption)) rfl ?_
                      refine r_assign rfl rfl ?_
                      refine hl_nil ?_
                      refine inb_n ?_
                      refine then_n ?_
                      refine hc_region ?_
                      refine r_move rfl rfl ?_
                      refine r_add _ rfl rfl rfl rfl (by unfold I64; omega) ?_
                      refine r_assign rfl rfl ?_
                      refine hl_nil ?_
                      refine again _ (k + 1) (by show k + 1 ≤ y.length; omega) (by show y.length - (k + 1) < y.length - k; omega) ⟨rfl, rfl, rfl, rfl, rfl, rfl, rfl, rfl, ?_, rfl, trivial⟩ (.refl _) ⟨(by repeat constructor), (by repeat constructor), (by repeat constructor), trivial⟩
                      exact congrArg (fun b => some (Value.bool b)) (by rw [hns])
                    · intro hg6; have hg6' := hg6; try simp at hg6'
                      rw [bf2 hg6, Bool.false_and] at hns
                      refine g_no rfl rfl rfl rfl rfl (by first | rfl | assumption | exact gn (by assumption) | exact gn2 (by assumption)) ?_
                      refine g_no rfl rfl rfl rfl rfl (by first | rfl | assumption | exact gn (by assumption) | exact gn2 (by assumption)) ?_
                      refine g_no rfl rfl rfl rfl rfl (by first | rfl | assumption | exact gn (by assumption) | exact gn2 (by assumption)) ?_
                      refine g_no rfl rfl rfl rfl rfl (by first | rfl | assumption | exact gn (by assumption) | exact gn2 (by assumption)) ?_
                      refine g_no rfl rfl rfl rfl rfl (by first | rfl | assumption | exact gn (by assumption) | exact gn2 (by assumption)) ?_
                      refine g_no rfl rfl rfl rfl rfl (by first | rfl | assumption | exact gn (by assumption) | exact gn2 (by assumption)) ?_
                      refine g_yes rfl rfl (by first | rfl | assumption | exact gy (by assumption) | exact gy2 (by assumption)) ?_
                      refine p_f rfl rfl (by first | rfl | assumption | exact bf1 (by assumption) | exact bf2 (by assumption)) rfl ?_
                      refine p_f rfl rfl (by first | rfl | assumption | exact bf1 (by assumption) | exact bf2 (by assumption)) rfl ?_
                      refine r_assign rfl rfl ?_
                      refine hl_nil ?_
                      refine inb_n ?_
                      refine then_n ?_
                      refine hc_region ?_
                      refine r_move rfl rfl ?_
                      refine r_add _ rfl rfl rfl rfl (by unfold I64; omega) ?_
                      refine r_assign rfl rfl ?_
                      refine hl_nil ?_
                      refine again _ (k + 1) (by show k + 1 ≤ y.length; omega) (by show y.length - (k + 1) < y.length - k; omega) ⟨rfl, rfl, rfl, rfl, rfl, rfl, rfl, rfl, ?_, rfl, trivial⟩ (.refl _) ⟨(by repeat constructor), (by repeat constructor), (by repeat constructor), trivial⟩
                      exact congrArg (fun b => some (Value.bool b)) (by rw [hns])
                  · intro hg5; have hg5' := hg5; try simp at hg5'
                    have hnt : namedM (y.take k) i = true := bt2 hg5
                    rw [hnt, Bool.true_or] at hns
                    refine g_no rfl rfl rfl rfl rfl (by first | rfl | assumption | exact gn (by assumption) | exact gn2 (by assumption)) ?_
                    refine g_no rfl rfl rfl rfl rfl (by first | rfl | assumption | exact gn (by assumption) | exact gn2 (by assumption)) ?_
                    refine g_no rfl rfl rfl rfl rfl (by first | rfl | assumption | exact gn (by assumption) | exact gn2 (by assumption)) ?_
                    refine g_no rfl rfl rfl rfl rfl (by first | rfl | assumption | exact gn (by assumption) | exact gn2 (by assumption)) ?_
                    refine g_no rfl rfl rfl rfl rfl (by first | rfl | assumption | exact gn (by assumption) | exact gn2 (by assumption)) ?_
                    refine g_no rfl rfl rfl rfl rfl (by first | rfl | assumption | exact gn (by assumption) | exact gn2 (by assumption)) ?_
                    refine g_no rfl rfl rfl rfl rfl (by first | rfl | assumption | exact gn (by assumption) | exact gn2 (by assumption)) ?_
                    refine g_no rfl rfl rfl rfl rfl (by first | rfl | assumption | exact gn (by assumption) | exact gn2 (by assumption)) ?_
                    refine g_und rfl rfl rfl rfl rfl rfl ?_
                    refine g_und rfl rfl rfl rfl rfl rfl ?_
                    refine g_und rfl rfl rfl rfl rfl rfl ?_
                    refine g_und rfl rfl rfl rfl rfl rfl ?_
                    refine g_und rfl rfl rfl rfl rfl rfl ?_
                    refine g_und rfl rfl rfl rfl rfl rfl ?_
                    refine g_no rfl rfl rfl rfl rfl (by first | rfl | assumption | exact gn (by assumption) | exact gn2 (by assumption)) ?_
                    refine p_t rfl rfl (by first | rfl | assumption | exact bt1 (by assumption) | exact bt2 (by assumption)) rfl ?_
                    refine r_assign rfl rfl ?_
                    refine hl_nil ?_
                    refine inb_n ?_
                    refine then_n ?_
                    refine hc_region ?_
                    refine r_move rfl rfl ?_
                    refine r_add _ rfl rfl rfl rfl (by unfold I64; omega) ?_
                    refine r_assign rfl rfl ?_
                    refine hl_nil ?_
                    refine again _ (k + 1) (by show k + 1 ≤ y.length; omega) (by show y.length - (k + 1) < y.length - k; omega) ⟨rfl, rfl, rfl, rfl, rfl, rfl, rfl, rfl, ?_, rfl, trivial⟩ (.refl _) ⟨(by repeat constructor), (by repeat constructor), (by repeat constructor), trivial⟩
                    exact congrArg (fun b => some (Value.bool b)) (by rw [hns])
                · have hb7' := hb7; try simp at hb7'
                  have hk2 : k = y.length := by omega
                  subst hk2
                  refine hc_exit ?_
                  refine then_exit ?_
                  refine then_exit ?_
                  refine inb_hit ?_
                  exact cut_n _ () trivial ⟨rfl, rfl, rfl, rfl, rfl, rfl, rfl, rfl, congrArg (fun l : List Mk => some (Value.bool (namedM l i))) List.take_length, trivial⟩ (.refl _) ⟨(by repeat constructor), (by repeat constructor), (by repeat constructor), trivial⟩
              · intro _ _
                refine hc_seq ?_
                refine hc_region ?_
                refine r_move rfl rfl ?_
                refine r_not rfl rfl ?_
                refine hl_nil ?_
                refine then_n ?_
                first | refine c_dec rfl (fun hb8 => ?_) (fun hb8 => ?_) | refine hc_cond rfl (fun hb8 => ?_) (fun hb8 => ?_)
                · have hb8' := hb8; try simp at hb8'
                  have hnn : ¬ namedM y i = true := by simpa using hb8'
                  rw [if_neg hnn] at hks
                  refine hc_region ?_
                  refine r_move rfl rfl ?_
                  refine r_move rfl rfl ?_
                  refine r_move rfl rfl ?_
                  refine r_elem (α := Str) _ _ rfl T.u_strs T.sz_string rfl rfl rfl (by repeat constructor) rfl (by omega) (by decide) ?_
                  refine r_load rfl T.cell_string rfl (cell_row (by repeat constructor) (rows_get0 (by omega) rfl)) ?_
                  refine r_buildSlice _ rfl rfl (fun _ => T.bs_strs_1 ..) fun gS => ?_
                  refine r_append ((keptF x y 0 i).length + 1) (rows (keptF x y 0 (i + 1))) T.el_strs rfl rfl rfl hG (List.perm_append_comm (l₁ := [_])) (Src.own (cs := #[str (x.getD i default)]) (m := 1) (List.mem_append_right _ m0) rfl rfl) rfl (by rw [hks]; exact (rows_append _ [x.getD i default]).symm) (by unfold maxLen; omega) (by omega) fun A' c' og' hG' => ?_
                  refine r_assign rfl rfl ?_
                  refine hl_nil ?_
                  refine inb_n ?_
                  refine then_n ?_
                  refine hc_region ?_
                  refine r_move rfl rfl ?_
                  refine r_add _ rfl rfl rfl rfl (by unfold I64; omega) ?_
                  refine r_assign rfl rfl ?_
                  refine hl_nil ?_
                  have hkl2 : (keptF x y 0 (i + 1)).length = (keptF x y 0 i).length + 1 := by rw [hks, len_snoc]
                  exact again _ (i + 1, (A', c'), og') ⟨by omega, by unfold GrowS; rw [hkl2]; exact hG'⟩ (by show x.length - (i + 1) < x.length - i; omega) ⟨rfl, rfl, rfl, rfl, rfl, rfl, by rw [hkl2]; rfl, rfl, trivial⟩ (List.sublist_append_left _ _) ⟨(by repeat constructor), (by repeat constructor), (by repeat constructor), trivial⟩
                · have hb8' := hb8; try simp at hb8'
                  have hnn : namedM y i = true := by simpa using hb8'
                  rw [if_pos hnn, List.append_nil] at hks
                  refine hc_skip ?_
                  refine inb_n ?_
                  refine then_n ?_
                  refine hc_region ?_
                  refine r_move rfl rfl ?_
                  refine r_add _ rfl rfl rfl rfl (by unfold I64; omega) ?_
                  refine r_assign rfl rfl ?_
                  refine hl_nil ?_
                  exact again _ (i + 1, o, og) ⟨by omega, by rw [hks]; exact hG⟩ (by show x.length - (i + 1) < x.length - i; omega) ⟨rfl, rfl, rfl, rfl, rfl, rfl, by rw [hks]; rfl, rfl, trivial⟩ (.refl _) ⟨(by repeat constructor), (by repeat constructor), (by repeat constructor), trivial⟩
            · have hb6' := hb6; try simp at hb6'
              have hi2 : i = x.length := by omega
              subst hi2
              refine hc_exit ?_
              refine then_exit ?_
              refine then_exit ?_
              refine inb_hit ?_
              refine then_n ?_
              refine hc_seq ?_
              refine hc_grown0 hG ?_
              refine hc_region ?_
              refine r_move rfl rfl ?_
              refine r_eql rfl rfl rfl ?_
              refine r_move rfl rfl ?_
              refine g_split rfl rfl ?_ ?_
              · intro hg7; have hg7' := hg7; try simp at hg7'
                refine g_yes rfl rfl (by first | rfl | assumption | exact gy (by assumption) | exact gy2 (by assumption)) ?_
                refine r_move rfl rfl ?_
                refine g_yes rfl rfl (by first | rfl | assumption | exact gy (by assumption) | exact gy2 (by assumption)) ?_
                refine r_len_sl rfl T.u_strs rfl ?_
                refine g_yes rfl rfl (by first | rfl | assumption | exact gy (by assumption) | exact gy2 (by assumption)) ?_
                refine r_move rfl rfl ?_
                refine g_yes rfl rfl (by first | rfl | assumption | exact gy (by assumption) | exact gy2 (by assumption)) ?_
                refine r_eql rfl rfl rfl ?_
                refine p_t rfl rfl (by first | rfl | assumption | exact bt1 (by assumption) | exact bt2 (by assumption)) rfl ?_
                refine r_move rfl rfl ?_
                refine g_split rfl rfl ?_ ?_
                · intro hg8; have hg8' := hg8; try simp at hg8'
                  refine g_yes rfl rfl (by first | rfl | assumption | exact gy (by assumption) | exact gy2 (by assumption)) ?_
                  refine r_move rfl rfl ?_
                  refine g_yes rfl rfl (by first | rfl | assumption | exact gy (by assumption) | exact gy2 (by assumption)) ?_
                  refine r_move rfl rfl ?_
                  refine g_yes rfl rfl (by first | rfl | assumption | exact gy (by assumption) | exact gy2 (by assumption)) ?_
                  refine hl_call F.law07_within_cb rfl rfl (law07_within_meets (keptF x y 0 x.length) (madeP x y) (by omega) (by omega)) (List.Perm.refl _) ⟨(by repeat constructor), (by repeat constructor), trivial⟩ fun _ _ => ?_
                  refine p_t rfl rfl (by first | rfl | assumption | exact bt1 (by assumption) | exact bt2 (by assumption)) rfl ?_
                  refine r_move rfl rfl ?_
                  refine g_split rfl rfl ?_ ?_
                  · intro hg9; have hg9' := hg9; try simp at hg9'
                    refine g_yes rfl rfl (by first | rfl | assumption | exact gy (by assumption) | exact gy2 (by assumption)) ?_
                    refine r_move rfl rfl ?_
                    refine g_yes rfl rfl (by first | rfl | assumption | exact gy (by assumption) | exact gy2 (by assumption)) ?_
                    refine r_len_sl rfl T.u_strs rfl ?_
                    refine g_yes rfl rfl (by first | rfl | assumption | exact gy (by assumption) | exact gy2 (by assumption)) ?_
                    refine r_move rfl rfl ?_
                    refine g_yes rfl rfl (by first | rfl | assumption | exact gy (by assumption) | exact gy2 (by assumption)) ?_
                    refine r_add _ rfl rfl rfl rfl (by unfold I64; omega) ?_
                    refine g_yes rfl rfl (by first | rfl | assumption | exact gy (by assumption) | exact gy2 (by assumption)) ?_
                    refine r_move rfl rfl ?_
                    refine g_yes rfl rfl (by first | rfl | assumption | exact gy (by assumption) | exact gy2 (by assumption)) ?_
                    refine r_eql rfl rfl rfl ?_
                    refine p_t rfl rfl (by first | rfl | assumption | exact bt1 (by assumption) | exact bt2 (by assumption)) rfl ?_
                    refine r_move rfl rfl ?_
                    refine g_split rfl rfl ?_ ?_
                    · intro hg10; have hg10' := hg10; try simp at hg10'
                      refine g_yes rfl rfl (by first | rfl | assumption | exact gy (by assumption) | exact gy2 (by assumption)) ?_
                      refine hl_call F.law07_correcting_cb rfl rfl (law07_correcting_meets) (List.Perm.refl _) trivial fun _ _ => ?_
                      refine p_t rfl rfl (by first | rfl | assumption | exact bt1 (by assumption) | exact bt2 (by assumption)) rfl ?_
                      refine r_assign rfl rfl ?_
                      refine hl_nil ?_
                      refine then_n ?_
                      refine hc_ret ?_
                      exact ret1 () rfl rfl rfl trivial (List.nil_sublist _) trivial
                    · intro hg10; have hg10' := hg10; try simp at hg10'
                      all_goals (have h := of_decide_eq_false (bf2 hg10); omega)
                  · intro hg9; have hg9' := hg9; try simp at hg9'
                    all_goals (exact absurd hL2 (of_decide_eq_false (bf2 hg9)))
                · intro hg8; have hg8' := hg8; try simp at hg8'
                  all_goals (have h := of_decide_eq_false (bf2 hg8); omega)
              · intro hg7; have hg7' := hg7; try simp at hg7'
      · intro hg2; have hg2' := hg2; try simp at hg2'
        all_goals (have h := of_decide_eq_true (bt2 hg2); omega)
    · intro hg1; have hg1' := hg1; try simp at hg1'

end Go.Proofs.Ytpbbgbjidhffoaa
