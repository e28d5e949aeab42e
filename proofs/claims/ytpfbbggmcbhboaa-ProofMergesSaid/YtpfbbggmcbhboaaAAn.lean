/- Texts. -/

import Derived.Test.YtpfbbggmcbhboaaAAl
import Derived.Test.YtpfbbggmcbhboaaAAm
import Derived.Test.YtpfbbggmcbhboaaAAf
set_option linter.unusedVariables false
set_option linter.unusedSimpArgs false
section
namespace Go.Proofs.Ytpfbbggmcbhboaa
open Go Go.W
set_option maxRecDepth 20000
attribute [local irreducible] HL HC HQ HB Row Rows2 Blk Facts
def GrowK (o : OutC) (l : List Mk) (og : Hp) : Prop := Grow T.api_Mark 3 o.1 l.length o.2 (rows l) og
theorem GrowK.le {o : OutC} {l : List Mk} {og : Hp} (h : GrowK o l og) : l.length ≤ o.2 := Grow.le h
abbrev dkL (x : DeskR) : List Fact := [Blk x.d (.cells (dkC x.m0 x.m1 x.q0 x.q1) T.proof_desk (0, 0)), Blk x.m0 (mapO int x.li0 x.ci0), Blk x.m1 (mapO int x.li1 x.ci1), Blk x.q0 (mapO int x.ll0 x.cl0), Blk x.q1 (mapO int x.ll1 x.cl1), Facts x.Ls]
theorem moreA_take {ws vs : List Str} {j : Nat} (h : j < vs.length) : ((vs.take (j + 1)).filter fun w => !decide (w ∈ ws)) = ((vs.take j).filter fun w => !decide (w ∈ ws)) ++ (if vs.getD j default ∈ ws then [] else [vs.getD j default]) := by
  rw [take_succ_getD vs j h, List.filter_append]
  congr 1
  by_cases e : vs.getD j default ∈ ws
  · rw [if_pos e, List.filter_cons_of_neg (by rw [decide_eq_true e]; decide), List.filter_nil]
  · rw [if_neg e, List.filter_cons_of_pos (by rw [decide_eq_false e]; rfl), List.filter_nil]
theorem clash_of {xs ys : List Mk} {k : Int} (h1 : (lastAt xs k).isSome = true) (h2 : (lastAt ys k).isSome = true) : clashA xs ys k = !decide ((lastAt xs k).getD default = (lastAt ys k).getD default) := by
  obtain ⟨m, e1⟩ := Option.isSome_iff_exists.1 h1; obtain ⟨m', e2⟩ := Option.isSome_iff_exists.1 h2
  simp [clashA, e1, e2]
theorem clash_x {xs ys : List Mk} {k : Int} (h1 : (lastAt xs k).isSome = false) : clashA xs ys k = false := by
  cases e1 : lastAt xs k with
  | none => simp [clashA, e1]
  | some m => rw [e1] at h1; cases h1
theorem clash_y {xs ys : List Mk} {k : Int} (h1 : (lastAt ys k).isSome = false) : clashA xs ys k = false := by
  cases e1 : lastAt ys k with
  | none => cases e2 : lastAt xs k <;> simp [clashA, e1, e2]
  | some m => rw [e1] at h1; cases h1
theorem lastL_x {xs ys : List Mk} {k : Int} (h : (lastAt xs k).isSome = true) : lastL xs ys k = [(lastAt xs k).getD default] := by
  obtain ⟨m, e1⟩ := Option.isSome_iff_exists.1 h
  simp [lastL, e1]
theorem lastL_y {xs ys : List Mk} {k : Int} (h : (lastAt xs k).isSome = false) (h2 : (lastAt ys k).isSome = true) : lastL xs ys k = [(lastAt ys k).getD default] := by
  obtain ⟨m, e1⟩ := Option.isSome_iff_exists.1 h2
  cases e2 : lastAt xs k with
  | none => simp [lastL, e1, e2]
  | some m => rw [e2] at h; cases h
theorem lastL_n {xs ys : List Mk} {k : Int} (h : (lastAt xs k).isSome = false) (h2 : (lastAt ys k).isSome = false) : lastL xs ys k = [] := by
  cases e2 : lastAt xs k with
  | none =>
    cases e1 : lastAt ys k with
    | none => simp [lastL, e1, e2]
    | some m => rw [e1] at h2; cases h2
  | some m => rw [e2] at h; cases h
theorem mergeO_next {xs ys out oj ok o2 : List Mk} {k : Nat} (hM : mergeO xs ys k = some out) (hc : clashA xs ys k = false) (hOj : out ++ (insAt xs k).map (lineM k) = oj) (hOk : oj ++ ((insAt ys k).filter fun w => !decide (w ∈ insAt xs k)).map (lineM k) = ok) (e : ok ++ lastL xs ys k = o2) : mergeO xs ys (k + 1) = some o2 := by
  rw [mergeO, hM]
  simp only
  rw [if_neg (by rw [hc]; decide), ← e, ← hOk, ← hOj]; unfold lineA moreA; simp only [List.append_assoc]
theorem lines_take {ws : List Str} {j : Nat} {k : Int} (h : j < ws.length) : ((ws.take (j + 1)).map (lineM k)) = (ws.take j).map (lineM k) ++ [lineM k (ws.getD j default)] := by
  rw [take_succ_getD ws j h, List.map_append]; rfl
theorem proof_Merge_meets {A B C : Option Addr} {ca cb cc : Nat} (p : List Str) (xs ys : List Mk) :
    Meets Try.prog F.proof_Merge [.slice A p.length ca, .slice B xs.length cb, .slice C ys.length cc] { outErr (mergeP p xs ys) with LI := [Row A (rows p), Row B (rows xs), Row C (rows ys)] } := by
 refine meets_intro F.proof_Merge_f rfl (Nat.le_of_ble_eq_true rfl) fun w0 => ?_; refine hc_seq (hc_region (r_assign rfl rfl (r_assign rfl rfl (hl_nil (then_n (hc_seq (hc_seq (hc_region (r_move rfl rfl (r_move rfl rfl ?_)))))))))); refine hl_call F.proof_checked_cb rfl rfl (proof_checked_meets p xs) (.refl _) ⟨m0, m1, trivial⟩ fun _ _ => ?_; refine r_assign rfl rfl (hl_nil (then_n (hc_seq (hc_region (r_move rfl rfl (r_neq rfl rfl rfl (hl_nil (then_n ?_))))))))
 first | refine c_dec rfl (fun hb1 => ?_) (fun hb1 => ?_) | refine hc_cond rfl (fun hb1 => ?_) (fun hb1 => ?_)
 ·have hb1' := hb1; try simp at hb1'
  have e : mergeP p xs ys = ([], checkErr p xs) := by rw [mergeP, if_pos hb1]
  rw [e]; refine hc_seq (hc_region (r_move rfl rfl (r_assign rfl rfl (r_assign rfl rfl (hl_nil (then_n (hc_ret (then_ret ?_)))))))); refine hq_nilrow (α := Mk) ?_; exact ret2 (none, 0) rfl rfl rfl rfl rfl (Nat.le_refl _) (List.nil_sublist _) ⟨m0, trivial⟩
 ·have hb1' := hb1; try simp at hb1'
  have h0 : checkErr p xs = 0 := by omega
  obtain ⟨hp6, hl, hV⟩ := checkErr_zero h0; refine hc_skip (then_n (hc_seq (hc_seq (hc_region (r_move rfl rfl (r_move rfl rfl ?_)))))); refine hl_call F.proof_marksError_cb rfl rfl (proof_marksError_meets ys (by omega)) (.refl _) ⟨m2, trivial⟩ fun _ _ => ?_; refine r_assign rfl rfl (hl_nil (then_n (hc_seq (hc_region (r_move rfl rfl (r_neq rfl rfl rfl (hl_nil (then_n ?_))))))))
  first | refine c_dec rfl (fun hb2 => ?_) (fun hb2 => ?_) | refine hc_cond rfl (fun hb2 => ?_) (fun hb2 => ?_)
  ·have hb2' := hb2; try simp at hb2'
   have e : mergeP p xs ys = ([], marksErr p.length ys) := by rw [mergeP, if_neg hb1, if_pos hb2]
   rw [e]; refine hc_seq (hc_region (r_move rfl rfl (r_assign rfl rfl (r_assign rfl rfl (hl_nil (then_n (hc_ret (then_ret ?_)))))))); refine hq_nilrow (α := Mk) ?_; exact ret2 (none, 0) rfl rfl rfl rfl rfl (Nat.le_refl _) (List.nil_sublist _) ⟨m0, trivial⟩
  ·have hb2' := hb2; try simp at hb2'
   have hy12 : ys.length ≤ 12 := by
     have h0 : marksErr p.length ys = 0 := by omega
     unfold marksErr at h0
     split at h0 <;> omega
   refine hc_skip (then_n (hc_seq (hc_region (r_move rfl rfl (r_move rfl rfl ?_))))); refine hl_call F.proof_collect_cb rfl rfl (proof_collect_meets xs ys (by omega) (by omega)) (List.Perm.refl _) ⟨m1, m2, trivial⟩ fun x hx => ?_; obtain ⟨hI0, hI1, hL0, hL1⟩ := hx; refine r_assign rfl rfl (hl_nil (then_n (hc_seq (hc_region (r_assign rfl rfl (hl_nil (then_n (hc_seq (hc_seq (hc_region (r_move rfl rfl ?_))))))))))); refine r_len_sl rfl T.u_strs rfl ?_; refine r_add ((p.length + 1 : Nat) : Int) rfl rfl rfl (by omega) (by unfold I64; omega) ?_; refine r_move rfl rfl (hl_nil (then_n (hc_block ?_))); refine hc_loop (β := Nat × List Mk × OutC × Hp) ⟨fun ⟨k, out, o, og⟩ => k ≤ p.length + 1 ∧ mergeO xs ys k = some out ∧ GrowK o out og, fun ⟨k, out, o, og⟩ => [(10, ptrB x.d), (38, int ((p.length + 1 : Nat) : Int)), (39, int (k : Nat)), (11, .slice o.1 out.length o.2)], fun ⟨k, out, o, og⟩ => og, fun _ => dkL x⟩ (fun z => p.length + 1 - z.1) (0, [], (none, 0), []) ⟨Nat.zero_le _, rfl, Grow.nil _ _⟩ ⟨rfl, rfl, rfl, rfl, trivial⟩ (.refl _) (LSub.of_mem fun F hF => List.mem_append.2 (.inl hF)) fun z hz => ?_; obtain ⟨k, out, o, og⟩ := z; obtain ⟨hk, hM, hG⟩ := hz; have hlen := mergeO_len hM; have hlen : out.length ≤ 7 * 25 := Nat.le_trans hlen (Nat.mul_le_mul (by omega) (by omega)); have hk : k ≤ p.length + 1 := hk; have hG : GrowK o out og := hG; refine hc_seq (hc_region (r_lss rfl rfl rfl (hl_nil (then_n (hc_seq ?_)))))
   first | refine c_dec rfl (fun hb3 => ?_) (fun hb3 => ?_) | refine hc_cond rfl (fun hb3 => ?_) (fun hb3 => ?_)
   ·have hb3' := hb3; try simp at hb3'
    have hk2 : k < p.length + 1 := by omega
    have hw0 := insAt_len xs (k : Int); have hw1 := insAt_len ys (k : Int); refine hc_skip (then_n (hc_seq (hc_block (hc_seq (hc_region (r_move rfl rfl (r_assign rfl rfl (hl_nil (then_n (hc_seq (hc_seq ?_))))))))))); refine hc_region (r_move rfl rfl (r_nilCheck rfl rfl ?_)); refine r_fieldAddr ⟨x.d, 0, none⟩ rfl rfl T.fa_proof_desk_0 rfl ?_; refine r_indexArr (o := 0) 0 0 rfl T.u_A2_map_int_L_string T.sz_map_int_L_string rfl rfl rfl (by omega) rfl ?_; refine r_load (v := .map (some x.m0)) rfl T.cell_map_int_L_string rfl (cell_blk (by repeat constructor) rfl) ?_; refine r_move rfl rfl ?_; refine r_lookIn (k := (k : Int)) hI0 (by repeat constructor) rfl rfl rfl rfl (map_blk (by repeat constructor)) fun A0 c0 => ?_; refine r_len_sl rfl T.u_strs rfl ?_; refine r_move rfl rfl (hl_nil (then_n (hc_block ?_))); refine hc_loop (β := Nat × List Mk × OutC × Hp) ⟨fun ⟨j, oj, o, og⟩ => j ≤ (insAt xs k).length ∧ out ++ ((insAt xs k).take j).map (lineM k) = oj ∧ GrowK o oj og, fun ⟨j, oj, o, og⟩ => [(10, ptrB x.d), (38, int ((p.length + 1 : Nat) : Int)), (39, int (k : Nat)), (12, int (k : Nat)), (48, .slice A0 (insAt xs k).length c0), (49, int (insAt xs k).length), (50, int (j : Nat)), (11, .slice o.1 oj.length o.2)], fun ⟨j, oj, o, og⟩ => og, fun _ => Row A0 (rows (insAt xs k)) :: dkL x⟩ (fun z => (insAt xs k).length - z.1) (0, out, o, og) ⟨Nat.zero_le _, by rw [List.take_zero, List.map_nil, List.append_nil], hG⟩ ⟨rfl, rfl, rfl, rfl, rfl, rfl, rfl, rfl, trivial⟩ (.refl _) (by repeat constructor) fun z hz => ?_; obtain ⟨j, oj, o, og⟩ := z; obtain ⟨hj, hOj, hG⟩ := hz; have hj : j ≤ (insAt xs k).length := hj; have hG : GrowK o oj og := hG; have hlj : oj.length ≤ 7 * 25 + 12 := by rw [← hOj, List.length_append, List.length_map, List.length_take]; omega
    refine hc_seq (hc_region (r_lss rfl rfl rfl (hl_nil (then_n (hc_seq ?_)))))
    first | refine c_dec rfl (fun hb4 => ?_) (fun hb4 => ?_) | refine hc_cond rfl (fun hb4 => ?_) (fun hb4 => ?_)
    ·have hb4' := hb4; try simp at hb4'
     have hj2 : j < (insAt xs k).length := by omega
     refine hc_skip (then_n (hc_seq (hc_block (hc_seq (hc_region ?_))))); refine r_elem (α := Str) _ _ rfl T.u_strs T.sz_string rfl rfl rfl mB rfl (by omega) (by decide) ?_; refine r_load rfl T.cell_string rfl (cell_row mB (rows_get0 (by omega) rfl)) ?_; refine r_assign rfl rfl (hl_nil (then_n (hc_region (r_move rfl rfl (r_move rfl rfl (r_move rfl rfl ?_)))))); refine r_build _ rfl rfl (fun _ => T.bd_api_Mark_0_1_2 ..) ?_; refine r_buildSlice _ rfl rfl (fun _ => T.bs_L_api_Mark_1 ..) fun gS => ?_; refine r_append (oj.length + 1) (rows (oj ++ [lineM k ((insAt xs k).getD j default)])) T.el_L_api_Mark rfl rfl rfl hG (List.perm_append_comm (l₁ := [_])) (Src.own (cs := #[int (lineM k ((insAt xs k).getD j default)).1, int (lineM k ((insAt xs k).getD j default)).2.1, str (lineM k ((insAt xs k).getD j default)).2.2]) (m := 1) (List.mem_append_right _ m0) rfl rfl) rfl (by rw [rows_append]; rfl) (by unfold maxLen; omega) (by omega) fun A' c' og' hG' => ?_; refine r_assign rfl rfl (hl_nil (inb_n (then_n (hc_region ?_)))); refine r_add _ rfl rfl rfl rfl (by unfold I64; omega) ?_; refine r_move rfl rfl (hl_nil ?_); have e2 : out ++ ((insAt xs k).take (j + 1)).map (lineM k) = oj ++ [lineM k ((insAt xs k).getD j default)] := by rw [lines_take hj2, ← List.append_assoc, hOj]
     refine again _ (j + 1, oj ++ [lineM k ((insAt xs k).getD j default)], (A', c'), og') ⟨by omega, e2, by show Grow _ _ _ _ _ _ _; rw [List.length_append]; exact hG'⟩ (by show (insAt xs k).length - (j + 1) < (insAt xs k).length - j; omega) ⟨rfl, rfl, rfl, rfl, rfl, rfl, rfl, by show some (Value.slice A' (oj.length + 1) c') = some (Value.slice A' (oj ++ [_]).length c'); rw [List.length_append]; rfl, trivial⟩ (List.sublist_append_left _ _) (by repeat constructor)
    ·have hb4' := hb4; try simp at hb4'
     have hj2 : j = (insAt xs k).length := by omega
     subst hj2; rw [List.take_length] at hOj; refine hc_exit (then_exit (then_exit (inb_hit (then_n (hc_seq (hc_seq (hc_region (r_move rfl rfl (r_nilCheck rfl rfl ?_))))))))); refine r_fieldAddr ⟨x.d, 0, none⟩ rfl rfl T.fa_proof_desk_0 rfl ?_; refine r_indexArr (o := 0) 1 1 rfl T.u_A2_map_int_L_string T.sz_map_int_L_string rfl rfl rfl (by omega) rfl ?_; refine r_load (v := .map (some x.m1)) rfl T.cell_map_int_L_string rfl (cell_blk (by repeat constructor) rfl) ?_; refine r_move rfl rfl ?_; refine r_lookIn (k := (k : Int)) hI1 (by repeat constructor) rfl rfl rfl rfl (map_blk (by repeat constructor)) fun A1 c1 => ?_; refine r_len_sl rfl T.u_strs rfl ?_; refine r_move rfl rfl (hl_nil (then_n (hc_block ?_))); refine hc_loop (β := Nat × List Mk × OutC × Hp) ⟨fun ⟨j, ok, o, og⟩ => j ≤ (insAt ys k).length ∧ oj ++ (((insAt ys k).take j).filter fun w => !decide (w ∈ insAt xs k)).map (lineM k) = ok ∧ GrowK o ok og, fun ⟨j, ok, o, og⟩ => [(10, ptrB x.d), (38, int ((p.length + 1 : Nat) : Int)), (39, int (k : Nat)), (12, int (k : Nat)), (67, .slice A1 (insAt ys k).length c1), (68, int (insAt ys k).length), (69, int (j : Nat)), (11, .slice o.1 ok.length o.2)], fun ⟨j, ok, o, og⟩ => og, fun _ => Row A1 (rows (insAt ys k)) :: dkL x⟩ (fun z => (insAt ys k).length - z.1) (0, oj, o, og) ⟨Nat.zero_le _, by rw [List.take_zero, List.filter_nil, List.map_nil, List.append_nil], hG⟩ ⟨rfl, rfl, rfl, rfl, rfl, rfl, rfl, rfl, trivial⟩ (.refl _) (by repeat constructor) fun z hz => ?_; obtain ⟨j, ok, o, og⟩ := z; obtain ⟨hj, hOk, hG⟩ := hz; have hj : j ≤ (insAt ys k).length := hj; have hG : GrowK o ok og := hG
     have hlk : ok.length ≤ 7 * 25 + 24 := by
       have h5 : (((insAt ys k).take j).filter fun w => !decide (w ∈ insAt xs k)).length ≤ ((insAt ys k).take j).length := List.length_filter_le _ _; rw [← hOk, List.length_append, List.length_map]; rw [List.length_take] at h5
       omega
     refine hc_seq (hc_region (r_lss rfl rfl rfl (hl_nil (then_n (hc_seq ?_)))))
     first | refine c_dec rfl (fun hb5 => ?_) (fun hb5 => ?_) | refine hc_cond rfl (fun hb5 => ?_) (fun hb5 => ?_)
     ·have hb5' := hb5; try simp at hb5'
      have hj2 : j < (insAt ys k).length := by omega
      have hmt := moreA_take (ws := insAt xs k) hj2; refine hc_skip (then_n (hc_seq (hc_block (hc_seq (hc_region ?_))))); refine r_elem (α := Str) _ _ rfl T.u_strs T.sz_string rfl rfl rfl mB rfl (by omega) (by decide) ?_; refine r_load rfl T.cell_string rfl (cell_row mB (rows_get0 (by omega) rfl)) ?_; refine r_assign rfl rfl (hl_nil (then_n (hc_seq (hc_region (r_move rfl rfl (r_nilCheck rfl rfl ?_)))))); refine r_fieldAddr ⟨x.d, 0, none⟩ rfl rfl T.fa_proof_desk_0 rfl ?_; refine r_indexArr (o := 0) 0 0 rfl T.u_A2_map_int_L_string T.sz_map_int_L_string rfl rfl rfl (by omega) rfl ?_; refine r_load (v := .map (some x.m0)) rfl T.cell_map_int_L_string rfl (cell_blk (by repeat constructor) rfl) ?_; refine r_move rfl rfl ?_; refine r_lookIn (k := (k : Int)) hI0 (by repeat constructor) rfl rfl rfl rfl (map_blk (by repeat constructor)) fun A2 c2 => ?_; refine r_move rfl rfl ?_; refine hl_call F.slices_Contains_strs_cb rfl rfl (slices_Contains_strs_meets (insAt xs k) ((insAt ys k).getD j default) (by omega)) (List.Perm.refl _) ⟨m0, trivial⟩ fun _ _ => ?_; refine r_not rfl rfl (hl_nil (then_n ?_))
      first | refine c_dec rfl (fun hb6 => ?_) (fun hb6 => ?_) | refine hc_cond rfl (fun hb6 => ?_) (fun hb6 => ?_)
      ·have hb6' := hb6; try simp at hb6'
       refine hc_region (r_move rfl rfl (r_move rfl rfl (r_move rfl rfl ?_))); refine r_build _ rfl rfl (fun _ => T.bd_api_Mark_0_1_2 ..) ?_; refine r_buildSlice _ rfl rfl (fun _ => T.bs_L_api_Mark_1 ..) fun gS => ?_; refine r_append (ok.length + 1) (rows (ok ++ [lineM k ((insAt ys k).getD j default)])) T.el_L_api_Mark rfl rfl rfl hG (List.perm_append_comm (l₁ := [_])) (Src.own (cs := #[int (lineM k ((insAt ys k).getD j default)).1, int (lineM k ((insAt ys k).getD j default)).2.1, str (lineM k ((insAt ys k).getD j default)).2.2]) (m := 1) (List.mem_append_right _ m0) rfl rfl) rfl (by rw [rows_append]; rfl) (by unfold maxLen; omega) (by omega) fun A' c' og' hG' => ?_; refine r_assign rfl rfl (hl_nil (inb_n (then_n (hc_region ?_)))); refine r_add _ rfl rfl rfl rfl (by unfold I64; omega) ?_; refine r_move rfl rfl (hl_nil ?_); have e2 : oj ++ (((insAt ys k).take (j + 1)).filter fun w => !decide (w ∈ insAt xs k)).map (lineM k) = ok ++ [lineM k ((insAt ys k).getD j default)] := by rw [hmt, if_neg (by simpa using hb6), List.map_append, ← List.append_assoc, hOk]; rfl
       refine again _ (j + 1, ok ++ [lineM k ((insAt ys k).getD j default)], (A', c'), og') ⟨by omega, e2, by show Grow _ _ _ _ _ _ _; rw [List.length_append]; exact hG'⟩ (by show (insAt ys k).length - (j + 1) < (insAt ys k).length - j; omega) ⟨rfl, rfl, rfl, rfl, rfl, rfl, rfl, by show some (Value.slice A' (ok.length + 1) c') = some (Value.slice A' (ok ++ [_]).length c'); rw [List.length_append]; rfl, trivial⟩ (List.sublist_append_left _ _) (by repeat constructor)
      ·have hb6' := hb6; try simp at hb6'
       refine hc_skip (inb_n (then_n (hc_region ?_))); refine r_add _ rfl rfl rfl rfl (by unfold I64; omega) ?_; refine r_move rfl rfl (hl_nil ?_); have e2 : oj ++ (((insAt ys k).take (j + 1)).filter fun w => !decide (w ∈ insAt xs k)).map (lineM k) = ok := by rw [hmt, if_pos (by simpa using hb6'), List.append_nil, hOk]
       refine again _ (j + 1, ok, o, og) ⟨by omega, e2, hG⟩ (by show (insAt ys k).length - (j + 1) < (insAt ys k).length - j; omega) ⟨rfl, rfl, rfl, rfl, rfl, rfl, rfl, rfl, trivial⟩ (.refl _) (by repeat constructor)
     ·have hb5' := hb5; try simp at hb5'
      have hj2 : j = (insAt ys k).length := by omega
      subst hj2; rw [List.take_length] at hOk; refine hc_exit (then_exit (then_exit (inb_hit (then_n (hc_seq (hc_region (r_move rfl rfl (r_nilCheck rfl rfl ?_)))))))); refine r_fieldAddr ⟨x.d, 2, none⟩ rfl rfl T.fa_proof_desk_1 rfl ?_; refine r_indexArr (o := 2) 0 2 rfl T.u_A2_map_int_api_Mark T.sz_map_int_api_Mark rfl rfl rfl (by omega) rfl ?_; refine r_load (v := .map (some x.q0)) rfl T.cell_map_int_api_Mark rfl (cell_blk (by repeat constructor) rfl) ?_; refine r_move rfl rfl ?_; refine r_lookLast (k := (k : Int)) hL0 rfl rfl rfl rfl (map_blk (by repeat constructor)) ?_; refine r_move rfl rfl (r_extract rfl rfl rfl (r_extract rfl rfl rfl ?_)); refine r_alloc rfl (fun _ => T.al_api_Mark _) fun gA => ?_; refine r_storeS rfl rfl (by first | exact .refl _ | exact perm2 _ _ _ | exact perm3 _ _ _ _ | exact perm4 _ _ _ _ _) T.sz_api_Mark (by rfl) (by rfl) ?_; refine r_assign rfl rfl (hl_nil (then_n (hc_seq (hc_region (r_move rfl rfl (r_nilCheck rfl rfl ?_)))))); refine r_fieldAddr ⟨x.d, 2, none⟩ rfl rfl T.fa_proof_desk_1 rfl ?_; refine r_indexArr (o := 2) 1 3 rfl T.u_A2_map_int_api_Mark T.sz_map_int_api_Mark rfl rfl rfl (by omega) rfl ?_; refine r_load (v := .map (some x.q1)) rfl T.cell_map_int_api_Mark rfl (cell_blk (by repeat constructor) rfl) ?_; refine r_move rfl rfl ?_; refine r_lookLast (k := (k : Int)) hL1 rfl rfl rfl rfl (map_blk (by repeat constructor)) ?_; refine r_move rfl rfl (r_extract rfl rfl rfl (r_extract rfl rfl rfl ?_)); refine r_alloc rfl (fun _ => T.al_api_Mark _) fun gA => ?_; refine r_storeS rfl rfl (by first | exact .refl _ | exact perm2 _ _ _ | exact perm3 _ _ _ _ | exact perm4 _ _ _ _ _) T.sz_api_Mark (by rfl) (by rfl) ?_; refine r_assign rfl rfl (hl_nil (then_n (hc_block (hc_seq (hc_region (r_move rfl rfl (r_move rfl rfl ?_))))))); refine g_split rfl rfl ?_ ?_
      ·intro hg1; have hg1' := hg1; try simp at hg1'
       refine g_yes rfl rfl hg1 (r_move rfl rfl ?_); refine p_t rfl rfl (bt1 hg1) rfl ?_; refine r_move rfl rfl ?_; refine g_split rfl rfl ?_ ?_
       ·intro hg2; have hg2' := hg2; try simp at hg2'
        refine g_yes rfl rfl hg2 ?_
        first | refine r_loadA rfl T.row_api_Mark T.sz_api_Mark rfl mB (by rfl) ?_ | refine r_loadB rfl T.row_api_Mark T.sz_api_Mark rfl mB (by rfl) ?_ | refine r_loadS rfl T.row_api_Mark T.sz_api_Mark rfl rfl (cells_row mB (rows_all (by omega))) ?_
        refine g_yes rfl rfl hg2 ?_
        first | refine r_loadA rfl T.row_api_Mark T.sz_api_Mark rfl mB (by rfl) ?_ | refine r_loadB rfl T.row_api_Mark T.sz_api_Mark rfl mB (by rfl) ?_ | refine r_loadS rfl T.row_api_Mark T.sz_api_Mark rfl rfl (cells_row mB (rows_all (by omega))) ?_
        refine g_yes rfl rfl hg2 ?_; refine r_bin _ rfl rfl rfl (fun _ => T.eqg_api_Mark ..) (fun _ => T.neq_api_Mark ..) ?_; refine p_t rfl rfl (bt1 hg2) rfl ?_; refine r_assign rfl rfl (hl_nil (then_n ?_))
        first | refine c_dec rfl (fun hb7 => ?_) (fun hb7 => ?_) | refine hc_cond rfl (fun hb7 => ?_) (fun hb7 => ?_)
        ·have hb7' := hb7; try simp at hb7'
         refine hc_seq (hc_region (r_assign rfl rfl (r_assign rfl rfl (hl_nil (then_n (hc_ret (inb_ret (inb_ret (then_ret (then_ret (inb_ret ?_))))))))))); refine then_ret ?_; have hc : clashA xs ys k = true := by rw [clash_of hg1' hg2', decide_eq_false (fun e => hb7 (by rw [e]))]; rfl
         have e : mergeP p xs ys = ([], 9) := by rw [mergeP, if_neg hb1, if_neg hb2, mergeO_none (n := k + 1) (by omega) (by rw [mergeO, hM]; simp only; rw [if_pos hc])]
         rw [e]; refine hq_nilrow (α := Mk) ?_; exact ret2 (none, 0) rfl rfl rfl rfl rfl (Nat.le_refl _) (List.nil_sublist _) ⟨m0, trivial⟩
        ·have hb7' := hb7; try simp at hb7'
         refine hc_seq (hc_region (r_move rfl rfl (r_assign rfl rfl (hl_nil (then_n ?_))))); refine c_t rfl (bt1 hg1) ?_; refine hc_region (r_move rfl rfl ?_)
         first | refine r_loadA rfl T.row_api_Mark T.sz_api_Mark rfl mB (by rfl) ?_ | refine r_loadB rfl T.row_api_Mark T.sz_api_Mark rfl mB (by rfl) ?_ | refine r_loadS rfl T.row_api_Mark T.sz_api_Mark rfl rfl (cells_row mB (rows_all (by omega))) ?_
         refine r_buildSlice _ rfl rfl (fun _ => T.bs_L_api_Mark_1 ..) fun gS => ?_; refine r_append (ok.length + 1) (rows (ok ++ [(lastAt xs k).getD default])) T.el_L_api_Mark rfl rfl rfl hG (List.perm_append_comm (l₁ := [_, _, _])) (Src.own (cs := #[int ((lastAt xs k).getD default).1, int ((lastAt xs k).getD default).2.1, str ((lastAt xs k).getD default).2.2]) (m := 1) (List.mem_append_right _ m0) rfl rfl) rfl (by rw [rows_append]; rfl) (by unfold maxLen; omega) (by omega) fun A' c' og' hG' => ?_; refine r_assign rfl rfl (hl_nil (inb_n (inb_n (then_n (hc_region ?_))))); refine r_add _ rfl rfl rfl rfl (by unfold I64; omega) ?_; refine r_move rfl rfl (hl_nil ?_); have hM2 := mergeO_next hM (by rw [clash_of hg1' hg2', decide_eq_true (Classical.not_not.1 hb7)]; rfl) hOj hOk (congrArg (ok ++ ·) (lastL_x hg1')); exact again _ (k + 1, ok ++ [(lastAt xs k).getD default], (A', c'), og') ⟨by omega, hM2, by show Grow _ _ _ _ _ _ _; rw [List.length_append]; exact hG'⟩ (by show p.length + 1 - (k + 1) < p.length + 1 - k; omega) ⟨rfl, rfl, rfl, by show some (Value.slice A' (ok.length + 1) c') = some (Value.slice A' (ok ++ [_]).length c'); rw [List.length_append]; rfl, trivial⟩ (List.sublist_append_left _ _) (by repeat constructor)
       ·intro hg2; have hg2' := hg2; try simp at hg2'
        refine g_no rfl rfl rfl rfl rfl hg2 (g_no rfl rfl rfl rfl rfl hg2 (g_no rfl rfl rfl rfl rfl hg2 ?_)); refine p_f rfl rfl (bf2 hg2) rfl ?_; refine r_assign rfl rfl (hl_nil (then_n (c_f rfl rfl (hc_seq (hc_region (r_move rfl rfl (r_assign rfl rfl (hl_nil (then_n ?_))))))))); refine c_t rfl (bt1 hg1) ?_; refine hc_region (r_move rfl rfl ?_)
        first | refine r_loadA rfl T.row_api_Mark T.sz_api_Mark rfl mB (by rfl) ?_ | refine r_loadB rfl T.row_api_Mark T.sz_api_Mark rfl mB (by rfl) ?_ | refine r_loadS rfl T.row_api_Mark T.sz_api_Mark rfl rfl (cells_row mB (rows_all (by omega))) ?_
        refine r_buildSlice _ rfl rfl (fun _ => T.bs_L_api_Mark_1 ..) fun gS => ?_; refine r_append (ok.length + 1) (rows (ok ++ [(lastAt xs k).getD default])) T.el_L_api_Mark rfl rfl rfl hG (List.perm_append_comm (l₁ := [_, _, _])) (Src.own (cs := #[int ((lastAt xs k).getD default).1, int ((lastAt xs k).getD default).2.1, str ((lastAt xs k).getD default).2.2]) (m := 1) (List.mem_append_right _ m0) rfl rfl) rfl (by rw [rows_append]; rfl) (by unfold maxLen; omega) (by omega) fun A' c' og' hG' => ?_; refine r_assign rfl rfl (hl_nil (inb_n (inb_n (then_n (hc_region ?_))))); refine r_add _ rfl rfl rfl rfl (by unfold I64; omega) ?_; refine r_move rfl rfl (hl_nil ?_); have hg2f : (lastAt ys k).isSome = false := by simpa using hg2
        have hM2 := mergeO_next hM (clash_y hg2f) hOj hOk (congrArg (ok ++ ·) (lastL_x hg1')); exact again _ (k + 1, ok ++ [(lastAt xs k).getD default], (A', c'), og') ⟨by omega, hM2, by show Grow _ _ _ _ _ _ _; rw [List.length_append]; exact hG'⟩ (by show p.length + 1 - (k + 1) < p.length + 1 - k; omega) ⟨rfl, rfl, rfl, by show some (Value.slice A' (ok.length + 1) c') = some (Value.slice A' (ok ++ [_]).length c'); rw [List.length_append]; rfl, trivial⟩ (List.sublist_append_left _ _) (by repeat constructor)
      ·intro hg1; have hg1' := hg1; try simp at hg1'
       refine g_no rfl rfl rfl rfl rfl hg1 ?_; refine p_f rfl rfl (bf2 hg1) rfl ?_; refine r_move rfl rfl (g_no rfl rfl rfl rfl rfl rfl (g_no rfl rfl rfl rfl rfl rfl (g_no rfl rfl rfl rfl rfl rfl (p_f rfl rfl rfl rfl (r_assign rfl rfl (hl_nil (then_n (c_f rfl rfl (hc_seq (hc_region (r_move rfl rfl ?_))))))))))); refine r_assign rfl rfl (hl_nil (then_n ?_)); refine c_f rfl (bf2 hg1) ?_; refine hc_seq (hc_region (r_move rfl rfl (r_assign rfl rfl (hl_nil (then_n ?_)))))
       first | refine c_dec rfl (fun hb9 => ?_) (fun hb9 => ?_) | refine hc_cond rfl (fun hb9 => ?_) (fun hb9 => ?_)
       ·have hb9' := hb9; try simp at hb9'
        refine hc_region (r_move rfl rfl ?_)
        first | refine r_loadA rfl T.row_api_Mark T.sz_api_Mark rfl mB (by rfl) ?_ | refine r_loadB rfl T.row_api_Mark T.sz_api_Mark rfl mB (by rfl) ?_ | refine r_loadS rfl T.row_api_Mark T.sz_api_Mark rfl rfl (cells_row mB (rows_all (by omega))) ?_
        refine r_buildSlice _ rfl rfl (fun _ => T.bs_L_api_Mark_1 ..) fun gS => ?_; refine r_append (ok.length + 1) (rows (ok ++ [(lastAt ys k).getD default])) T.el_L_api_Mark rfl rfl rfl hG (List.perm_append_comm (l₁ := [_, _, _])) (Src.own (cs := #[int ((lastAt ys k).getD default).1, int ((lastAt ys k).getD default).2.1, str ((lastAt ys k).getD default).2.2]) (m := 1) (List.mem_append_right _ m0) rfl rfl) rfl (by rw [rows_append]; rfl) (by unfold maxLen; omega) (by omega) fun A' c' og' hG' => ?_; refine r_assign rfl rfl (hl_nil (inb_n (inb_n (then_n (hc_region ?_))))); refine r_add _ rfl rfl rfl rfl (by unfold I64; omega) ?_; refine r_move rfl rfl (hl_nil ?_); have hg1f : (lastAt xs k).isSome = false := by simpa using hg1
        have hM2 := mergeO_next hM (clash_x hg1f) hOj hOk (congrArg (ok ++ ·) (lastL_y hg1f (by simpa using hb9))); exact again _ (k + 1, ok ++ [(lastAt ys k).getD default], (A', c'), og') ⟨by omega, hM2, by show Grow _ _ _ _ _ _ _; rw [List.length_append]; exact hG'⟩ (by show p.length + 1 - (k + 1) < p.length + 1 - k; omega) ⟨rfl, rfl, rfl, by show some (Value.slice A' (ok.length + 1) c') = some (Value.slice A' (ok ++ [_]).length c'); rw [List.length_append]; rfl, trivial⟩ (List.sublist_append_left _ _) (by repeat constructor)
       ·have hb9' := hb9; try simp at hb9'
        refine hc_skip (inb_n (inb_n (then_n (hc_region ?_)))); refine r_add _ rfl rfl rfl rfl (by unfold I64; omega) ?_; refine r_move rfl rfl (hl_nil ?_); have hg1f : (lastAt xs k).isSome = false := by simpa using hg1
        have hM2 := mergeO_next hM (clash_x hg1f) hOj hOk ((congrArg (ok ++ ·) (lastL_n hg1f (by simpa using hb9))).trans (List.append_nil _)); exact again _ (k + 1, ok, o, og) ⟨by omega, hM2, hG⟩ (by show p.length + 1 - (k + 1) < p.length + 1 - k; omega) ⟨rfl, rfl, rfl, rfl, trivial⟩ (List.sublist_append_right [_, _] _) (by repeat constructor)
   ·have hb3' := hb3; try simp at hb3'
    have hk2 : k = p.length + 1 := by omega
    subst hk2; refine hc_exit (then_exit (then_exit (inb_hit (then_n (hc_seq (hc_seq (hc_region (r_move rfl rfl ?_)))))))); refine r_len_sl rfl T.u_L_api_Mark rfl ?_; refine r_gtr rfl rfl rfl (hl_nil (then_n ?_))
    first | refine c_dec rfl (fun hb10 => ?_) (fun hb10 => ?_) | refine hc_cond rfl (fun hb10 => ?_) (fun hb10 => ?_)
    ·have hb10' := hb10; try simp at hb10'
     refine hc_seq (hc_region (r_assign rfl rfl (r_assign rfl rfl (hl_nil (then_n (hc_ret (then_ret ?_))))))); have e : mergeP p xs ys = ([], 6) := by rw [mergeP, if_neg hb1, if_neg hb2, hM]; simp only; rw [if_pos (by omega)]
     rw [e]; refine hq_nilrow (α := Mk) ?_; exact ret2 (none, 0) rfl rfl rfl rfl rfl (Nat.le_refl _) (List.nil_sublist _) ⟨m0, trivial⟩
    ·have hb10' := hb10; try simp at hb10'
     refine hc_skip (then_n (hc_seq (hc_region (r_move rfl rfl (r_assign rfl rfl (r_assign rfl rfl (hl_nil (then_n (hc_ret ?_))))))))); have e : mergeP p xs ys = (out, 0) := by rw [mergeP, if_neg hb1, if_neg hb2, hM]; simp only; rw [if_neg (by omega)]
     rw [e]; refine hq_grown0 hG ?_; exact ret2 o rfl rfl rfl rfl rfl hG.le (.refl _) ⟨m0, trivial⟩
end Go.Proofs.Ytpfbbggmcbhboaa
end
section
namespace Go.Proofs.Ytpfbbggmcbhboaa
open Go Go.W
set_option maxRecDepth 20000
attribute [local irreducible] HL HC HQ HB Row Rows2 Blk Facts
def insM (xs : List Mk) (k : Int) : List Mk := xs.filter fun m => decide (m.2.1 = k ∧ m.1 = 1)
def othM (xs : List Mk) (k : Int) : List Mk := xs.filter fun m => decide (m.2.1 = k ∧ m.1 ≠ 1)
theorem insM_take {xs : List Mk} {i : Nat} (k : Int) (h : i < xs.length) : insM (xs.take (i + 1)) k = insM (xs.take i) k ++ (if (xs.getD i default).2.1 = k ∧ (xs.getD i default).1 = 1 then [xs.getD i default] else []) := by
  rw [take_succ_getD xs i h]; unfold insM; rw [List.filter_append]
  congr 1
  generalize xs.getD i default = m
  by_cases e : m.2.1 = k ∧ m.1 = 1 <;> simp [e]
theorem othM_take {xs : List Mk} {i : Nat} (k : Int) (h : i < xs.length) : othM (xs.take (i + 1)) k = othM (xs.take i) k ++ (if (xs.getD i default).2.1 = k ∧ (xs.getD i default).1 ≠ 1 then [xs.getD i default] else []) := by
  rw [take_succ_getD xs i h]; unfold othM; rw [List.filter_append]
  congr 1
  generalize xs.getD i default = m
  by_cases e : m.2.1 = k ∧ m.1 ≠ 1 <;> simp [e]
theorem insM_len (xs : List Mk) (k : Int) : (insM xs k).length ≤ xs.length := List.length_filter_le _ _
theorem othM_len (xs : List Mk) (k : Int) : (othM xs k).length ≤ xs.length := List.length_filter_le _ _
theorem ref07_at_meets {A : Option Addr} {ca : Nat} (xs : List Mk) (k : Int) (hl : xs.length ≤ 1000000) :
    Meets Try.prog F.ref07_at [.slice A xs.length ca, int k] { LI := [Row A (rows xs)], val := fun x : OutC × OutC => .tuple #[.slice x.1.1 (insM xs k).length x.1.2, .slice x.2.1 (othM xs k).length x.2.2], inv := fun x => (insM xs k).length ≤ x.1.2 ∧ (othM xs k).length ≤ x.2.2, LO := fun x => [Row x.1.1 (rows (insM xs k)), Row x.2.1 (rows (othM xs k))] } := by
 refine meets_intro F.ref07_at_f rfl (Nat.le_of_ble_eq_true rfl) fun w0 => ?_; refine hc_seq (hc_region (r_assign rfl rfl (r_assign rfl rfl (hl_nil (then_n (hc_seq (hc_region (r_assign rfl rfl (r_assign rfl rfl (hl_nil (then_n ?_))))))))))); refine hc_seq (hc_seq (hc_region (r_assign rfl rfl (hl_nil (then_n (hc_block ?_)))))); refine hc_loop (β := Nat × (OutC × Hp) × (OutC × Hp)) ⟨fun ⟨i, x, y⟩ => i ≤ xs.length ∧ GrowK x.1 (insM (xs.take i) k) x.2 ∧ GrowK y.1 (othM (xs.take i) k) y.2, fun ⟨i, x, y⟩ => [(0, .slice A xs.length ca), (1, int k), (6, .slice x.1.1 (insM (xs.take i) k).length x.1.2), (7, .slice y.1.1 (othM (xs.take i) k).length y.1.2), (8, int (i : Nat))], fun ⟨i, x, y⟩ => x.2 ++ y.2, fun _ => [Row A (rows xs)]⟩ (fun z => xs.length - z.1) (0, ((none, 0), []), ((none, 0), [])) ⟨Nat.zero_le _, Grow.nil _ _, Grow.nil _ _⟩ ⟨rfl, rfl, rfl, rfl, rfl, trivial⟩ (.refl _) ⟨m0, trivial⟩ fun z hz => ?_; obtain ⟨i, ⟨o1, og1⟩, ⟨o2, og2⟩⟩ := z; obtain ⟨hi, hG1, hG2⟩ := hz; have hi : i ≤ xs.length := hi; have hG1 : GrowK o1 (insM (xs.take i) k) og1 := hG1; have hG2 : GrowK o2 (othM (xs.take i) k) og2 := hG2; have hl1 := insM_len (xs.take i) k; have hl2 := othM_len (xs.take i) k; rw [List.length_take] at hl1 hl2; refine hc_seq (hc_seq (hc_region (r_move rfl rfl (r_move rfl rfl ?_)))); refine r_len_sl rfl T.u_L_api_Mark rfl ?_; refine r_lss rfl rfl rfl (hl_nil (then_n ?_))
 first | refine c_dec rfl (fun hb1 => ?_) (fun hb1 => ?_) | refine hc_cond rfl (fun hb1 => ?_) (fun hb1 => ?_)
 ·have hb1' := hb1; try simp at hb1'
  have hi2 : i < xs.length := by omega
  have h1 := insM_take k hi2; have h2 := othM_take k hi2; refine hc_skip (then_n (hc_seq (hc_block (hc_block (hc_seq (hc_region (r_move rfl rfl (r_move rfl rfl ?_)))))))); refine r_elem (α := Mk) _ _ rfl T.u_L_api_Mark T.sz_api_Mark rfl rfl rfl mB rfl (by omega) (by decide) ?_
  first | refine r_fieldAddr ⟨_, 1, none⟩ rfl rfl T.fa_api_Mark_1 rfl ?_ | refine r_fieldAddr _ rfl rfl T.fa_api_Mark_1 rfl ?_
  refine r_load rfl T.cell_int rfl (cell_row_f mB (rows_get (by omega) rfl)) ?_; refine r_move rfl rfl (r_neq rfl rfl rfl (r_assign rfl rfl (hl_nil (then_n ?_))))
  first | refine c_dec rfl (fun hb2 => ?_) (fun hb2 => ?_) | refine hc_cond rfl (fun hb2 => ?_) (fun hb2 => ?_)
  ·have hb2' := hb2; try simp at hb2'
   refine hc_skip (inb_n (inb_n (then_n (hc_region (r_move rfl rfl ?_))))); refine r_add _ rfl rfl rfl rfl (by unfold I64; omega) ?_; refine r_assign rfl rfl (hl_nil ?_); have e1 : insM (xs.take (i + 1)) k = insM (xs.take i) k := by rw [h1, if_neg (fun h => hb2 h.1), List.append_nil]
   have e2 : othM (xs.take (i + 1)) k = othM (xs.take i) k := by rw [h2, if_neg (fun h => hb2 h.1), List.append_nil]
   exact again _ (i + 1, (o1, og1), (o2, og2)) ⟨by omega, by rw [e1]; exact hG1, by rw [e2]; exact hG2⟩ (by show xs.length - (i + 1) < xs.length - i; omega) ⟨rfl, rfl, by show some (Value.slice o1.1 (insM (xs.take i) k).length o1.2) = some (Value.slice o1.1 (insM (xs.take (i + 1)) k).length o1.2); rw [e1], by show some (Value.slice o2.1 (othM (xs.take i) k).length o2.2) = some (Value.slice o2.1 (othM (xs.take (i + 1)) k).length o2.2); rw [e2], rfl, trivial⟩ (.refl _) ⟨m0, trivial⟩
  ·have hb2' := hb2; try simp at hb2'
   refine hc_seq (hc_region (r_move rfl rfl (r_move rfl rfl ?_))); refine r_elem (α := Mk) _ _ rfl T.u_L_api_Mark T.sz_api_Mark rfl rfl rfl mB rfl (by omega) (by decide) ?_
   first | refine r_fieldAddr ⟨_, 0, none⟩ rfl rfl T.fa_api_Mark_0 rfl ?_ | refine r_fieldAddr _ rfl rfl T.fa_api_Mark_0 rfl ?_
   refine r_load rfl T.cell_int rfl (cell_row mB (rows_get0 (by omega) rfl)) ?_; refine r_eql rfl rfl rfl (r_assign rfl rfl (hl_nil (then_n ?_)))
   first | refine c_dec rfl (fun hb3 => ?_) (fun hb3 => ?_) | refine hc_cond rfl (fun hb3 => ?_) (fun hb3 => ?_)
   ·have hb3' := hb3; try simp at hb3'
    refine hc_region (r_move rfl rfl (r_move rfl rfl (r_move rfl rfl ?_))); refine r_elem (α := Mk) _ _ rfl T.u_L_api_Mark T.sz_api_Mark rfl rfl rfl mB rfl (by omega) (by decide) ?_; refine r_loadS rfl T.row_api_Mark T.sz_api_Mark rfl rfl (cells_row mB (rows_all (by omega))) ?_; refine r_buildSlice _ rfl rfl (fun _ => T.bs_L_api_Mark_1 ..) fun gS => ?_; refine r_append ((insM (xs.take i) k).length + 1) (rows ((insM (xs.take i) k) ++ [xs.getD i default])) T.el_L_api_Mark rfl rfl rfl hG1 List.perm_middle.symm (Src.own (cs := #[int (xs.getD i default).1, int (xs.getD i default).2.1, str (xs.getD i default).2.2]) (m := 1) (List.mem_append_right _ m0) rfl rfl) rfl (by rw [rows_append]; rfl) (by unfold maxLen; omega) (by omega) fun A' c' og' hG' => ?_; refine r_assign rfl rfl (hl_nil (inb_n (inb_n (then_n (hc_region (r_move rfl rfl ?_)))))); refine r_add _ rfl rfl rfl rfl (by unfold I64; omega) ?_; refine r_assign rfl rfl (hl_nil ?_); have e1 : insM (xs.take (i + 1)) k = insM (xs.take i) k ++ [xs.getD i default] := by rw [h1, if_pos ⟨Classical.not_not.1 hb2, hb3⟩]
    have e2 : othM (xs.take (i + 1)) k = othM (xs.take i) k := by rw [h2, if_neg (fun h => h.2 hb3), List.append_nil]
    exact again _ (i + 1, ((A', c'), og'), (o2, og2)) ⟨by omega, by show Grow _ _ _ _ _ _ _; rw [e1, List.length_append]; exact hG', by rw [e2]; exact hG2⟩ (by show xs.length - (i + 1) < xs.length - i; omega) ⟨rfl, rfl, by show some (Value.slice A' ((insM (xs.take i) k).length + 1) c') = some (Value.slice A' (insM (xs.take (i + 1)) k).length c'); rw [e1, List.length_append]; rfl, by show some (Value.slice o2.1 (othM (xs.take i) k).length o2.2) = some (Value.slice o2.1 (othM (xs.take (i + 1)) k).length o2.2); rw [e2], rfl, trivial⟩ (List.Sublist.append_left (List.sublist_cons_self _ _) _) ⟨m0, trivial⟩
   ·have hb3' := hb3; try simp at hb3'
    refine hc_region (r_move rfl rfl (r_move rfl rfl (r_move rfl rfl ?_))); refine r_elem (α := Mk) _ _ rfl T.u_L_api_Mark T.sz_api_Mark rfl rfl rfl mB rfl (by omega) (by decide) ?_; refine r_loadS rfl T.row_api_Mark T.sz_api_Mark rfl rfl (cells_row mB (rows_all (by omega))) ?_; refine r_buildSlice _ rfl rfl (fun _ => T.bs_L_api_Mark_1 ..) fun gS => ?_; refine r_append ((othM (xs.take i) k).length + 1) (rows ((othM (xs.take i) k) ++ [xs.getD i default])) T.el_L_api_Mark rfl rfl rfl hG2 ((List.perm_append_comm.cons _).trans List.perm_middle.symm) (Src.own (cs := #[int (xs.getD i default).1, int (xs.getD i default).2.1, str (xs.getD i default).2.2]) (m := 1) (List.mem_append_right _ m0) rfl rfl) rfl (by rw [rows_append]; rfl) (by unfold maxLen; omega) (by omega) fun A' c' og' hG' => ?_; refine r_assign rfl rfl (hl_nil (inb_n (inb_n (then_n (hc_region (r_move rfl rfl ?_)))))); refine r_add _ rfl rfl rfl rfl (by unfold I64; omega) ?_; refine r_assign rfl rfl (hl_nil ?_); have e1 : insM (xs.take (i + 1)) k = insM (xs.take i) k := by rw [h1, if_neg (fun h => hb3 h.2), List.append_nil]
    have e2 : othM (xs.take (i + 1)) k = othM (xs.take i) k ++ [xs.getD i default] := by rw [h2, if_pos ⟨Classical.not_not.1 hb2, hb3⟩]
    refine hq_perm (List.perm_middle.trans (List.perm_append_comm.cons _)) ?_; exact again _ (i + 1, (o1, og1), ((A', c'), og')) ⟨by omega, by rw [e1]; exact hG1, by show Grow _ _ _ _ _ _ _; rw [e2, List.length_append]; exact hG'⟩ (by show xs.length - (i + 1) < xs.length - i; omega) ⟨rfl, rfl, by show some (Value.slice o1.1 (insM (xs.take i) k).length o1.2) = some (Value.slice o1.1 (insM (xs.take (i + 1)) k).length o1.2); rw [e1], by show some (Value.slice A' ((othM (xs.take i) k).length + 1) c') = some (Value.slice A' (othM (xs.take (i + 1)) k).length c'); rw [e2, List.length_append]; rfl, rfl, trivial⟩ (List.sublist_cons_self _ _) ⟨m0, trivial⟩
 ·have hb1' := hb1; try simp at hb1'
  have hi2 : i = xs.length := by omega
  subst hi2; rw [List.take_length] at hG1 hG2; refine hc_exit (then_exit (then_exit (inb_hit (then_n (hc_seq (hc_region (r_move rfl rfl (r_move rfl rfl (r_assign rfl rfl (r_assign rfl rfl (hl_nil ?_))))))))))); refine then_n (hc_ret (hq_grown hG1 (hq_grown0 hG2 ?_))); exact ret2 (o1, o2) rfl (by show some (Value.slice o1.1 (insM (xs.take xs.length) k).length o1.2) = some (.slice o1.1 (insM xs k).length o1.2); rw [List.take_length]) (by show some (Value.slice o2.1 (othM (xs.take xs.length) k).length o2.2) = some (.slice o2.1 (othM xs k).length o2.2); rw [List.take_length]) rfl rfl ⟨hG1.le, hG2.le⟩ (.refl _) ⟨m1, m0, trivial⟩
end Go.Proofs.Ytpfbbggmcbhboaa
end
section
namespace Go.Proofs.Ytpfbbggmcbhboaa
open Go Go.W
set_option maxRecDepth 20000
attribute [local irreducible] HL HC HQ HB Row Rows2 Blk Facts
def clashR (xs ys : List Mk) (k : Int) : Bool := decide (0 < (othM xs k).length ∧ 0 < (othM ys k).length ∧ ¬ (othM xs k).getD 0 default = (othM ys k).getD 0 default)
def moreR (ws vs : List Mk) : List Mk := vs.filter fun m => !decide (m ∈ ws)
def lastR (xs ys : List Mk) (k : Int) : List Mk := if (othM xs k).length = 0 then othM ys k else othM xs k
def lineRef (xs ys : List Mk) (k : Int) : List Mk := insM xs k ++ moreR (insM xs k) (insM ys k) ++ lastR xs ys k
def mergeQ (xs ys : List Mk) : Nat → Option (List Mk)
  | 0 => some []
  | n + 1 => match mergeQ xs ys n with
    | none => none
    | some out => if clashR xs ys n = true then none else some (out ++ lineRef xs ys n)
def mergeR (p : List Str) (xs ys : List Mk) : List Mk × Int :=
  if ¬ pageErr p = 0 then ([], pageErr p) else if ¬ marksErr p.length xs = 0 then ([], marksErr p.length xs) else if ¬ marksErr p.length ys = 0 then ([], marksErr p.length ys)
  else match mergeQ xs ys (p.length + 1) with
    | none => ([], 9)
    | some out => if 12 < out.length then ([], 6) else (out, 0)
theorem mergeQ_none {xs ys : List Mk} : ∀ {n m : Nat}, n ≤ m → mergeQ xs ys n = none → mergeQ xs ys m = none
  | n, m, h, hn => by
    induction h with
    | refl => exact hn
    | step _ ih => rw [mergeQ, ih]
theorem moreR_len (ws vs : List Mk) : (moreR ws vs).length ≤ vs.length := List.length_filter_le _ _
theorem lastR_len (xs ys : List Mk) (k : Int) : (lastR xs ys k).length ≤ xs.length + ys.length := by
  have h1 := othM_len xs k; have h2 := othM_len ys k; unfold lastR
  split <;> omega
theorem mergeQ_len {xs ys : List Mk} : ∀ {n : Nat} {out : List Mk}, mergeQ xs ys n = some out → out.length ≤ n * (2 * (xs.length + ys.length))
  | 0, out, h => by
    rw [mergeQ] at h
    injection h with h
    rw [← h]; simp
  | n + 1, out, h => by
    rw [mergeQ] at h
    cases hm : mergeQ xs ys n with
    | none => rw [hm] at h; cases h
    | some o =>
      rw [hm] at h; simp only at h
      split at h
      · cases h
      · injection h with h
        have h0 := mergeQ_len hm; have h1 := insM_len xs n; have h2 := insM_len ys n; have h3 := moreR_len (insM xs n) (insM ys n); have h4 := lastR_len xs ys n; rw [← h, List.length_append, Nat.add_mul, Nat.one_mul]; unfold lineRef; simp only [List.length_append]
        omega
theorem moreR_take {ws vs : List Mk} {j : Nat} (h : j < vs.length) : moreR ws (vs.take (j + 1)) = moreR ws (vs.take j) ++ (if vs.getD j default ∈ ws then [] else [vs.getD j default]) := by
  rw [take_succ_getD vs j h]; unfold moreR; rw [List.filter_append]
  congr 1
  generalize vs.getD j default = m
  by_cases e : m ∈ ws <;> simp [e]
theorem mem_take1 {ws : List Mk} {i : Nat} {m : Mk} (h : i < ws.length) (hn : ¬ m ∈ ws.take i) : decide (ws.getD i default = m) = decide (m ∈ ws.take (i + 1)) := by
  rw [take_succ_getD ws i h]; generalize ws.getD i default = x; refine decide_eq_decide.2 ⟨fun e => List.mem_append.2 (.inr (by rw [e]; exact List.mem_cons_self ..)), fun hm => ?_⟩
  rcases List.mem_append.1 hm with h1 | h1
  · exact absurd h1 hn
  · rcases List.mem_cons.1 h1 with h2 | h2
    · exact h2.symm
    · cases h2
theorem mem_take2 {ws : List Mk} {i : Nat} {m : Mk} (h : i < ws.length) (hy : m ∈ ws.take i) : true = decide (m ∈ ws.take (i + 1)) := by
  rw [take_succ_getD ws i h]; exact (decide_eq_true (List.mem_append.2 (.inl hy))).symm
theorem mergeQ_next {xs ys out oi oj o2 : List Mk} {k : Nat} (hM : mergeQ xs ys k = some out) (hc : clashR xs ys k = false) (hOi : out ++ insM xs k = oi) (hOj : oi ++ moreR (insM xs k) (insM ys k) = oj) (e : oj ++ lastR xs ys k = o2) : mergeQ xs ys (k + 1) = some o2 := by
  rw [mergeQ, hM]
  simp only
  rw [if_neg (by rw [hc]; decide), ← e, ← hOj, ← hOi]; unfold lineRef; simp only [List.append_assoc]
theorem pageErr_len {p : List Str} (h : pageErr p = 0) : p.length ≤ 6 := by
  unfold pageErr at h
  split at h <;> omega
theorem marksErr_len {n : Nat} {l : List Mk} (h : marksErr n l = 0) : l.length ≤ 12 := by
  unfold marksErr at h
  split at h <;> omega
theorem ref07_Merge_meets {A B C : Option Addr} {ca cb cc : Nat} (p : List Str) (xs ys : List Mk) :
    Meets Try.prog F.ref07_Merge [.slice A p.length ca, .slice B xs.length cb, .slice C ys.length cc] { outErr (mergeR p xs ys) with LI := [Row A (rows p), Row B (rows xs), Row C (rows ys)] } := by
 refine meets_intro F.ref07_Merge_f rfl (Nat.le_of_ble_eq_true rfl) fun w0 => ?_; refine hc_seq (hc_region (r_assign rfl rfl (r_assign rfl rfl (hl_nil (then_n (hc_seq (hc_seq (hc_region (r_move rfl rfl ?_))))))))); refine hl_call F.ref07_Check_cb rfl rfl (ref07_Check_meets p) (.refl _) ⟨m0, trivial⟩ fun _ _ => ?_; refine r_assign rfl rfl (hl_nil (then_n (hc_seq (hc_region (r_move rfl rfl (r_neq rfl rfl rfl (hl_nil (then_n ?_))))))))
 first | refine c_dec rfl (fun hb1 => ?_) (fun hb1 => ?_) | refine hc_cond rfl (fun hb1 => ?_) (fun hb1 => ?_)
 ·have hb1' := hb1; try simp at hb1'
  have e : mergeR p xs ys = ([], pageErr p) := by rw [mergeR, if_pos hb1]
  rw [e]; refine hc_seq (hc_region (r_move rfl rfl (r_assign rfl rfl (r_assign rfl rfl (hl_nil (then_n (hc_ret (then_ret ?_)))))))); refine hq_nilrow (α := Mk) ?_; exact ret2 (none, 0) rfl rfl rfl rfl rfl (Nat.le_refl _) (List.nil_sublist _) ⟨m0, trivial⟩
 ·have hb1' := hb1; try simp at hb1'
  have hp6 := pageErr_len (Classical.not_not.1 hb1); refine hc_skip (then_n (hc_seq (hc_seq (hc_region (r_move rfl rfl ?_))))); refine r_len_sl rfl T.u_strs rfl ?_; refine r_move rfl rfl ?_; refine hl_call F.ref07_checkMarks_cb rfl rfl (ref07_checkMarks_meets xs (by omega)) (List.Perm.refl _) ⟨m1, trivial⟩ fun _ _ => ?_; refine r_assign rfl rfl (hl_nil (then_n (hc_seq (hc_region (r_move rfl rfl (r_neq rfl rfl rfl (hl_nil (then_n ?_))))))))
  first | refine c_dec rfl (fun hb2 => ?_) (fun hb2 => ?_) | refine hc_cond rfl (fun hb2 => ?_) (fun hb2 => ?_)
  ·have hb2' := hb2; try simp at hb2'
   have e : mergeR p xs ys = ([], marksErr p.length xs) := by rw [mergeR, if_neg hb1, if_pos hb2]
   rw [e]; refine hc_seq (hc_region (r_move rfl rfl (r_assign rfl rfl (r_assign rfl rfl (hl_nil (then_n (hc_ret (then_ret ?_)))))))); refine hq_nilrow (α := Mk) ?_; exact ret2 (none, 0) rfl rfl rfl rfl rfl (Nat.le_refl _) (List.nil_sublist _) ⟨m0, trivial⟩
  ·have hb2' := hb2; try simp at hb2'
   have hx12 := marksErr_len (Classical.not_not.1 hb2); refine hc_skip (then_n (hc_seq (hc_seq (hc_region (r_move rfl rfl ?_))))); refine r_len_sl rfl T.u_strs rfl ?_; refine r_move rfl rfl ?_; refine hl_call F.ref07_checkMarks_cb rfl rfl (ref07_checkMarks_meets ys (by omega)) (List.Perm.refl _) ⟨m2, trivial⟩ fun _ _ => ?_; refine r_assign rfl rfl (hl_nil (then_n (hc_seq (hc_region (r_move rfl rfl (r_neq rfl rfl rfl (hl_nil (then_n ?_))))))))
   first | refine c_dec rfl (fun hb3 => ?_) (fun hb3 => ?_) | refine hc_cond rfl (fun hb3 => ?_) (fun hb3 => ?_)
   ·have hb3' := hb3; try simp at hb3'
    have e : mergeR p xs ys = ([], marksErr p.length ys) := by rw [mergeR, if_neg hb1, if_neg hb2, if_pos hb3]
    rw [e]; refine hc_seq (hc_region (r_move rfl rfl (r_assign rfl rfl (r_assign rfl rfl (hl_nil (then_n (hc_ret (then_ret ?_)))))))); refine hq_nilrow (α := Mk) ?_; exact ret2 (none, 0) rfl rfl rfl rfl rfl (Nat.le_refl _) (List.nil_sublist _) ⟨m0, trivial⟩
   ·have hb3' := hb3; try simp at hb3'
    have hy12 := marksErr_len (Classical.not_not.1 hb3); refine hc_skip (then_n (hc_seq (hc_region (r_assign rfl rfl (hl_nil (then_n (hc_seq (hc_seq (hc_region (r_assign rfl rfl (hl_nil ?_))))))))))); refine then_n (hc_block ?_); refine hc_loop (β := Nat × List Mk × OutC × Hp) ⟨fun ⟨k, out, o, og⟩ => k ≤ p.length + 1 ∧ mergeQ xs ys k = some out ∧ GrowK o out og, fun ⟨k, out, o, og⟩ => [(0, .slice A p.length ca), (1, .slice B xs.length cb), (2, .slice C ys.length cc), (12, int (k : Nat)), (11, .slice o.1 out.length o.2)], fun ⟨k, out, o, og⟩ => og, fun _ => [Row A (rows p), Row B (rows xs), Row C (rows ys)]⟩ (fun z => p.length + 1 - z.1) (0, [], (none, 0), []) ⟨Nat.zero_le _, rfl, Grow.nil _ _⟩ ⟨rfl, rfl, rfl, rfl, rfl, trivial⟩ (.refl _) (by repeat constructor) fun z hz => ?_; obtain ⟨k, out, o, og⟩ := z; obtain ⟨hk, hM, hG⟩ := hz; have hlen := mergeQ_len hM; have hlen : out.length ≤ 7 * 48 := Nat.le_trans hlen (Nat.mul_le_mul (by omega) (by omega)); have hk : k ≤ p.length + 1 := hk; have hG : GrowK o out og := hG; refine hc_seq (hc_seq (hc_region (r_move rfl rfl (r_move rfl rfl ?_)))); refine r_len_sl rfl T.u_strs rfl ?_; refine r_leq rfl rfl rfl (hl_nil (then_n ?_))
    first | refine c_dec rfl (fun hb4 => ?_) (fun hb4 => ?_) | refine hc_cond rfl (fun hb4 => ?_) (fun hb4 => ?_)
    ·have hb4' := hb4; try simp at hb4'
     have hk2 : k ≤ p.length := by omega
     have hi0 := insM_len xs (k : Int); have hi1 := insM_len ys (k : Int); have hj0 := othM_len xs (k : Int); have hj1 := othM_len ys (k : Int); refine hc_skip (then_n (hc_seq (hc_block (hc_seq (hc_region (r_move rfl rfl (r_move rfl rfl ?_))))))); refine hl_call F.ref07_at_cb rfl rfl (ref07_at_meets xs (k : Int) (by omega)) (List.Perm.refl _) ⟨m1, trivial⟩ fun u hu => ?_; refine r_move rfl rfl (r_extract rfl rfl rfl (r_extract rfl rfl rfl (r_assign rfl rfl (r_assign rfl rfl (hl_nil (then_n (hc_seq (hc_region (r_move rfl rfl (r_move rfl rfl ?_)))))))))); refine hl_call F.ref07_at_cb rfl rfl (ref07_at_meets ys (k : Int) (by omega)) (List.Perm.refl _) ⟨by repeat constructor, trivial⟩ fun v hv => ?_; refine r_move rfl rfl (r_extract rfl rfl rfl (r_extract rfl rfl rfl (r_assign rfl rfl (r_assign rfl rfl (hl_nil (then_n ?_)))))); refine hc_cut ⟨fun _ : Unit => clashR xs ys k = false, fun _ => [(0, .slice A p.length ca), (1, .slice B xs.length cb), (2, .slice C ys.length cc), (12, int (k : Nat)), (11, .slice o.1 out.length o.2), (13, .slice u.1.1 (insM xs k).length u.1.2), (14, .slice u.2.1 (othM xs k).length u.2.2), (15, .slice v.1.1 (insM ys k).length v.1.2), (16, .slice v.2.1 (othM ys k).length v.2.2)], fun _ => og, fun _ => [Row u.1.1 (rows (insM xs k)), Row u.2.1 (rows (othM xs k)), Row v.1.1 (rows (insM ys k)), Row v.2.1 (rows (othM ys k)), Row A (rows p), Row B (rows xs), Row C (rows ys)]⟩ ?_ ?_
     ·skip
      refine hc_seq ?_; refine hc_draw 15 mixed (by decide) (by decide) rfl rfl ?_; refine hb_ex _ rfl rfl rfl (fun w1 => r_move rfl rfl (hl_nil (qe_done rfl))) ?_; refine hb_ex _ rfl rfl rfl (fun w1 => r_len_sl rfl T.u_L_api_Mark rfl (hl_nil (qe_done rfl))) ?_; refine hb_ex _ rfl rfl rfl (fun w1 => r_gtr rfl rfl rfl (hl_nil (qe_done rfl))) ?_; refine hb_ex _ rfl rfl rfl (fun w1 => r_move rfl rfl (hl_nil (qe_done rfl))) ?_; refine hb_split (t := 60) (want := true) rfl ?_ ?_
      ·intro hg1; have hg1' := hg1; try simp at hg1'
       apply hb_ex _ rfl rfl rfl
       ·intro w1; refine g_yes rfl rfl hg1 (r_move rfl rfl (hl_nil ?_)); exact qe_done rfl
       apply hb_ex _ rfl rfl rfl
       ·intro w1; refine g_yes rfl rfl hg1 ?_; refine r_len_sl rfl T.u_L_api_Mark rfl ?_; refine hl_nil ?_; exact qe_done rfl
       apply hb_ex _ rfl rfl rfl
       ·intro w1; refine g_yes rfl rfl hg1 (r_gtr rfl rfl rfl (hl_nil ?_)); exact qe_done rfl
       refine hb_ex _ rfl rfl rfl (fun w1 => p_t rfl rfl (bt1 hg1) rfl (hl_nil (qe_done rfl))) ?_; refine hb_ex _ rfl rfl rfl (fun w1 => r_move rfl rfl (hl_nil (qe_done rfl))) ?_; refine hb_split (t := 65) (want := true) rfl ?_ ?_
       ·intro hg2; have hg2' := hg2; try simp at hg2'
        apply hb_ex _ rfl rfl rfl
        ·intro w1; refine g_yes rfl rfl hg2 (r_move rfl rfl (hl_nil ?_)); exact qe_done rfl
        apply hb_ex _ rfl rfl rfl
        ·intro w1; refine g_yes rfl rfl hg2 ?_; refine r_elem (α := Mk) (othM xs k) 0 rfl T.u_L_api_Mark T.sz_api_Mark rfl rfl rfl (List.mem_append_right _ (by repeat constructor)) rfl (by simpa using hg1) (by decide) ?_; refine hl_nil ?_; exact qe_done rfl
        apply hb_ex _ rfl rfl rfl
        ·intro w1; refine g_yes rfl rfl hg2 ?_; refine r_loadS rfl T.row_api_Mark T.sz_api_Mark rfl rfl (cells_row (List.mem_append_right _ (by repeat constructor)) (rows_all (l := othM xs k) (i := 0) (by simpa using hg1))) ?_; refine hl_nil ?_; exact qe_done rfl
        apply hb_ex _ rfl rfl rfl
        ·intro w1; refine g_yes rfl rfl hg2 (r_move rfl rfl (hl_nil ?_)); exact qe_done rfl
        apply hb_ex _ rfl rfl rfl
        ·intro w1; refine g_yes rfl rfl hg2 ?_; refine r_elem (α := Mk) (othM ys k) 0 rfl T.u_L_api_Mark T.sz_api_Mark rfl rfl rfl (List.mem_append_right _ (by repeat constructor)) rfl (by simpa using hg2) (by decide) ?_; refine hl_nil ?_; exact qe_done rfl
        apply hb_ex _ rfl rfl rfl
        ·intro w1; refine g_yes rfl rfl hg2 ?_; refine r_loadS rfl T.row_api_Mark T.sz_api_Mark rfl rfl (cells_row (List.mem_append_right _ (by repeat constructor)) (rows_all (l := othM ys k) (i := 0) (by simpa using hg2))) ?_; refine hl_nil ?_; exact qe_done rfl
        refine hb_nil ⟨rfl, ?_⟩; refine g_yes rfl rfl hg2 ?_; refine r_bin _ rfl rfl rfl (fun _ => T.eqg_api_Mark ..) (fun _ => T.neq_api_Mark ..) ?_; refine p_t rfl rfl (bt1 hg2) rfl ?_; refine hl_nil (then_n ?_)
        first | refine c_dec rfl (fun hb5 => ?_) (fun hb5 => ?_) | refine hc_cond rfl (fun hb5 => ?_) (fun hb5 => ?_)
        ·have hb5' := hb5; try simp at hb5'
         have hcl : clashR xs ys k = true := decide_eq_true ⟨by simpa using hg1, by simpa using hg2, hb5⟩; refine hc_seq (hc_region (r_assign rfl rfl (r_assign rfl rfl (hl_nil (then_n (hc_ret (then_ret (inb_ret (then_ret (then_ret (inb_ret ?_))))))))))); refine then_ret ?_; have e : mergeR p xs ys = ([], 9) := by rw [mergeR, if_neg hb1, if_neg hb2, if_neg hb3, mergeQ_none (n := k + 1) (by omega) (by rw [mergeQ, hM]; simp only; rw [if_pos hcl])]
         rw [e]; refine hq_nilrow (α := Mk) ?_; exact ret2 (none, 0) rfl rfl rfl rfl rfl (Nat.le_refl _) (List.nil_sublist _) ⟨m0, trivial⟩
        ·have hb5' := hb5; try simp at hb5'
         refine hc_skip ?_; exact cut_n _ () (decide_eq_false (fun h => h.2.2 (Classical.not_not.1 hb5))) ⟨rfl, rfl, rfl, rfl, rfl, rfl, rfl, rfl, rfl, trivial⟩ (.refl _) (by repeat constructor)
       ·intro hg2; have hg2' := hg2; try simp at hg2'
        refine hb_ex _ rfl rfl rfl (fun w1 => g_no rfl rfl rfl rfl rfl hg2 (hl_nil (qe_done rfl))) ?_; refine hb_ex _ rfl rfl rfl (fun w1 => g_no rfl rfl rfl rfl rfl hg2 (hl_nil (qe_done rfl))) ?_; refine hb_ex _ rfl rfl rfl (fun w1 => g_no rfl rfl rfl rfl rfl hg2 (hl_nil (qe_done rfl))) ?_; refine hb_ex _ rfl rfl rfl (fun w1 => g_no rfl rfl rfl rfl rfl hg2 (hl_nil (qe_done rfl))) ?_; refine hb_ex _ rfl rfl rfl (fun w1 => g_no rfl rfl rfl rfl rfl hg2 (hl_nil (qe_done rfl))) ?_; refine hb_ex _ rfl rfl rfl (fun w1 => g_no rfl rfl rfl rfl rfl hg2 (hl_nil (qe_done rfl))) ?_; refine hb_nil ⟨rfl, ?_⟩; refine g_no rfl rfl rfl rfl rfl hg2 ?_; refine p_f rfl rfl (bf2 hg2) rfl ?_; refine hl_nil (then_n (c_f rfl rfl (hc_skip ?_))); have g2 : ¬ 0 < (othM ys k).length := by simpa using hg2
        exact cut_n _ () (decide_eq_false (fun h => g2 h.2.1)) ⟨rfl, rfl, rfl, rfl, rfl, rfl, rfl, rfl, rfl, trivial⟩ (.refl _) (by repeat constructor)
      ·intro hg1; have hg1' := hg1; try simp at hg1'
       refine hb_ex _ rfl rfl rfl (fun w1 => g_no rfl rfl rfl rfl rfl hg1 (hl_nil (qe_done rfl))) ?_; refine hb_ex _ rfl rfl rfl (fun w1 => g_no rfl rfl rfl rfl rfl hg1 (hl_nil (qe_done rfl))) ?_; refine hb_ex _ rfl rfl rfl (fun w1 => g_no rfl rfl rfl rfl rfl hg1 (hl_nil (qe_done rfl))) ?_; refine hb_ex _ rfl rfl rfl (fun w1 => p_f rfl rfl (bf2 hg1) rfl (hl_nil (qe_done rfl))) ?_; refine hb_ex _ rfl rfl rfl (fun w1 => r_move rfl rfl (hl_nil (qe_done rfl))) ?_; refine hb_ex _ rfl rfl rfl (fun w1 => g_no rfl rfl rfl rfl rfl rfl (hl_nil (qe_done rfl))) ?_; refine hb_ex _ rfl rfl rfl (fun w1 => g_no rfl rfl rfl rfl rfl rfl (hl_nil (qe_done rfl))) ?_; refine hb_ex _ rfl rfl rfl (fun w1 => g_no rfl rfl rfl rfl rfl rfl (hl_nil (qe_done rfl))) ?_; refine hb_ex _ rfl rfl rfl (fun w1 => g_no rfl rfl rfl rfl rfl rfl (hl_nil (qe_done rfl))) ?_; refine hb_ex _ rfl rfl rfl (fun w1 => g_no rfl rfl rfl rfl rfl rfl (hl_nil (qe_done rfl))) ?_; refine hb_ex _ rfl rfl rfl (fun w1 => g_no rfl rfl rfl rfl rfl rfl (hl_nil (qe_done rfl))) ?_; refine hb_nil ⟨rfl, ?_⟩; refine g_no rfl rfl rfl rfl rfl rfl (p_f rfl rfl rfl rfl (hl_nil (then_n (c_f rfl rfl (hc_skip ?_))))); have g1 : ¬ 0 < (othM xs k).length := by simpa using hg1
       exact cut_n _ () (decide_eq_false (fun h => g1 h.1)) ⟨rfl, rfl, rfl, rfl, rfl, rfl, rfl, rfl, rfl, trivial⟩ (.refl _) (by repeat constructor)
     ·refine fun _ hcl => ?_; refine hc_seq (hc_region (r_move rfl rfl (r_move rfl rfl ?_))); refine r_append (out.length + (insM xs k).length) (rows (out ++ insM xs k)) T.el_L_api_Mark rfl rfl rfl hG (hp' := []) (by rw [List.append_nil]) (Src.row (news := rows (insM xs k)) (by repeat constructor) (rows_len _) (rows_one _) (by decide)) rfl (rows_append _ _).symm (by unfold maxLen; omega) (by omega) fun A' c' og' hG' => ?_; refine r_assign rfl rfl (hl_nil (then_n (hc_seq (hc_seq (hc_region (r_assign rfl rfl (hl_nil (then_n (hc_block ?_))))))))); refine hc_loop (β := Nat × List Mk × OutC × Hp) ⟨fun ⟨j, oj, o, og⟩ => j ≤ (insM ys k).length ∧ (out ++ insM xs k) ++ moreR (insM xs k) ((insM ys k).take j) = oj ∧ GrowK o oj og, fun ⟨j, oj, o, og⟩ => [(0, .slice A p.length ca), (1, .slice B xs.length cb), (2, .slice C ys.length cc), (12, int (k : Nat)), (11, .slice o.1 oj.length o.2), (13, .slice u.1.1 (insM xs k).length u.1.2), (14, .slice u.2.1 (othM xs k).length u.2.2), (15, .slice v.1.1 (insM ys k).length v.1.2), (16, .slice v.2.1 (othM ys k).length v.2.2), (17, int (j : Nat))], fun ⟨j, oj, o, og⟩ => og, fun _ => [Row u.1.1 (rows (insM xs k)), Row u.2.1 (rows (othM xs k)), Row v.1.1 (rows (insM ys k)), Row v.2.1 (rows (othM ys k)), Row A (rows p), Row B (rows xs), Row C (rows ys)]⟩ (fun z => (insM ys k).length - z.1) (0, out ++ insM xs k, (A', c'), og') ⟨Nat.zero_le _, by rw [List.take_zero]; unfold moreR; rw [List.filter_nil, List.append_nil], by show Grow _ _ _ _ _ _ _; rw [List.length_append]; exact hG'⟩ ⟨rfl, rfl, rfl, rfl, by show some (Value.slice A' (out.length + (insM xs k).length) c') = some (Value.slice A' (out ++ insM xs k).length c'); rw [List.length_append], rfl, rfl, rfl, rfl, rfl, trivial⟩ (List.sublist_append_left _ _) (by repeat constructor) fun z hz => ?_; obtain ⟨j, oj, o, og⟩ := z; obtain ⟨hj, hOj, hG⟩ := hz; have hj : j ≤ (insM ys k).length := hj; have hG : GrowK o oj og := hG
      have hlj : oj.length ≤ 7 * 48 + 24 := by
        have h5 := moreR_len (insM xs k) ((insM ys k).take j); rw [← hOj, List.length_append, List.length_append]; rw [List.length_take] at h5
        omega
      refine hc_seq (hc_seq (hc_region (r_move rfl rfl (r_move rfl rfl ?_)))); refine r_len_sl rfl T.u_L_api_Mark rfl ?_; refine r_lss rfl rfl rfl (hl_nil (then_n ?_))
      first | refine c_dec rfl (fun hb6 => ?_) (fun hb6 => ?_) | refine hc_cond rfl (fun hb6 => ?_) (fun hb6 => ?_)
      ·have hb6' := hb6; try simp at hb6'
       have hj2 : j < (insM ys k).length := by omega
       have hmt := moreR_take (ws := insM xs k) hj2; refine hc_skip (then_n (hc_seq (hc_block (hc_seq (hc_region (r_assign rfl rfl (hl_nil (then_n (hc_seq (hc_seq (hc_region ?_))))))))))); refine r_assign rfl rfl (hl_nil (then_n (hc_block ?_))); refine hc_loop (β := Nat) ⟨fun i => i ≤ (insM xs k).length, fun i => [(0, .slice A p.length ca), (1, .slice B xs.length cb), (2, .slice C ys.length cc), (12, int (k : Nat)), (11, .slice o.1 oj.length o.2), (13, .slice u.1.1 (insM xs k).length u.1.2), (14, .slice u.2.1 (othM xs k).length u.2.2), (15, .slice v.1.1 (insM ys k).length v.1.2), (16, .slice v.2.1 (othM ys k).length v.2.2), (17, int (j : Nat)), (18, .bool (decide (((insM ys k).getD j default) ∈ (insM xs k).take i))), (19, int (i : Nat))], fun i => og, fun _ => [Row u.1.1 (rows (insM xs k)), Row u.2.1 (rows (othM xs k)), Row v.1.1 (rows (insM ys k)), Row v.2.1 (rows (othM ys k)), Row A (rows p), Row B (rows xs), Row C (rows ys)]⟩ (fun i => (insM xs k).length - i) 0 (Nat.zero_le _) ⟨rfl, rfl, rfl, rfl, rfl, rfl, rfl, rfl, rfl, rfl, congrArg (fun b => some (Value.bool b)) (decide_eq_false (by rw [List.take_zero]; exact List.not_mem_nil)).symm, rfl, trivial⟩ (.refl _) (by repeat constructor) fun i hi => ?_; have hi : i ≤ (insM xs k).length := hi; refine hc_seq (hc_seq (hc_region (r_move rfl rfl (r_move rfl rfl ?_)))); refine r_len_sl rfl T.u_L_api_Mark rfl ?_; refine r_lss rfl rfl rfl (hl_nil (then_n ?_))
       first | refine c_dec rfl (fun hb7 => ?_) (fun hb7 => ?_) | refine hc_cond rfl (fun hb7 => ?_) (fun hb7 => ?_)
       ·have hb7' := hb7; try simp at hb7'
        have hi2 : i < (insM xs k).length := by omega
        refine hc_skip (then_n (hc_seq (hc_block ?_))); refine hc_draw 10 mixed (by decide) (by decide) rfl rfl ?_; refine hb_ex _ rfl rfl rfl (fun w1 => r_move rfl rfl (hl_nil (qe_done rfl))) ?_; refine hb_ex _ rfl rfl rfl (fun w1 => r_move rfl rfl (hl_nil (qe_done rfl))) ?_; refine hb_split (t := 90) (want := false) rfl ?_ ?_
        ·intro hg3; have hg3' := hg3; try simp at hg3'
         apply hb_ex _ rfl rfl rfl
         ·intro w1; refine g_yes rfl rfl hg3 (r_move rfl rfl (hl_nil ?_)); exact qe_done rfl
         apply hb_ex _ rfl rfl rfl
         ·intro w1; refine g_yes rfl rfl hg3 (r_move rfl rfl (hl_nil ?_)); exact qe_done rfl
         apply hb_ex _ rfl rfl rfl
         ·intro w1; refine g_yes rfl rfl hg3 ?_; refine r_elem (α := Mk) (insM xs k) i rfl T.u_L_api_Mark T.sz_api_Mark rfl rfl rfl (List.mem_append_right _ (by repeat constructor)) rfl (by omega) (by decide) ?_; refine hl_nil ?_; exact qe_done rfl
         apply hb_ex _ rfl rfl rfl
         ·intro w1; refine g_yes rfl rfl hg3 ?_; refine r_loadS rfl T.row_api_Mark T.sz_api_Mark rfl rfl (cells_row (List.mem_append_right _ (by repeat constructor)) (rows_all (l := insM xs k) (i := i) (by omega))) ?_; refine hl_nil ?_; exact qe_done rfl
         apply hb_ex _ rfl rfl rfl
         ·intro w1; refine g_yes rfl rfl hg3 (r_move rfl rfl (hl_nil ?_)); exact qe_done rfl
         apply hb_ex _ rfl rfl rfl
         ·intro w1; refine g_yes rfl rfl hg3 (r_move rfl rfl (hl_nil ?_)); exact qe_done rfl
         apply hb_ex _ rfl rfl rfl
         ·intro w1; refine g_yes rfl rfl hg3 ?_; refine r_elem (α := Mk) (insM ys k) j rfl T.u_L_api_Mark T.sz_api_Mark rfl rfl rfl (List.mem_append_right _ (by repeat constructor)) rfl (by omega) (by decide) ?_; refine hl_nil ?_; exact qe_done rfl
         apply hb_ex _ rfl rfl rfl
         ·intro w1; refine g_yes rfl rfl hg3 ?_; refine r_loadS rfl T.row_api_Mark T.sz_api_Mark rfl rfl (cells_row (List.mem_append_right _ (by repeat constructor)) (rows_all (l := insM ys k) (i := j) (by omega))) ?_; refine hl_nil ?_; exact qe_done rfl
         refine hb_nil ⟨rfl, ?_⟩; refine g_yes rfl rfl hg3 ?_; refine r_bin _ rfl rfl rfl (fun _ => T.eqg_api_Mark ..) (fun _ => T.eql_api_Mark ..) ?_; refine p_f rfl rfl (bf1 hg3) rfl ?_; refine r_assign rfl rfl (hl_nil (inb_n (then_n (hc_region (r_move rfl rfl ?_))))); refine r_add _ rfl rfl rfl rfl (by unfold I64; omega) ?_; refine r_assign rfl rfl (hl_nil ?_); have hn : ¬ ((insM ys k).getD j default) ∈ (insM xs k).take i := by simpa using hg3
         exact again _ (i + 1) (by show i + 1 ≤ (insM xs k).length; omega) (by show (insM xs k).length - (i + 1) < (insM xs k).length - i; omega) ⟨rfl, rfl, rfl, rfl, rfl, rfl, rfl, rfl, rfl, rfl, congrArg (fun b => some (Value.bool b)) (mem_take1 hi2 hn), rfl, trivial⟩ (.refl _) (by repeat constructor)
        ·intro hg3; have hg3' := hg3; try simp at hg3'
         refine hb_ex _ rfl rfl rfl (fun w1 => g_no rfl rfl rfl rfl rfl hg3 (hl_nil (qe_done rfl))) ?_; refine hb_ex _ rfl rfl rfl (fun w1 => g_no rfl rfl rfl rfl rfl hg3 (hl_nil (qe_done rfl))) ?_; refine hb_ex _ rfl rfl rfl (fun w1 => g_no rfl rfl rfl rfl rfl hg3 (hl_nil (qe_done rfl))) ?_; refine hb_ex _ rfl rfl rfl (fun w1 => g_no rfl rfl rfl rfl rfl hg3 (hl_nil (qe_done rfl))) ?_; refine hb_ex _ rfl rfl rfl (fun w1 => g_no rfl rfl rfl rfl rfl hg3 (hl_nil (qe_done rfl))) ?_; refine hb_ex _ rfl rfl rfl (fun w1 => g_no rfl rfl rfl rfl rfl hg3 (hl_nil (qe_done rfl))) ?_; refine hb_ex _ rfl rfl rfl (fun w1 => g_no rfl rfl rfl rfl rfl hg3 (hl_nil (qe_done rfl))) ?_; refine hb_ex _ rfl rfl rfl (fun w1 => g_no rfl rfl rfl rfl rfl hg3 (hl_nil (qe_done rfl))) ?_; refine hb_nil ⟨rfl, ?_⟩; refine g_no rfl rfl rfl rfl rfl hg3 ?_; refine p_t rfl rfl (bt2 hg3) rfl ?_; refine r_assign rfl rfl (hl_nil (inb_n (then_n (hc_region (r_move rfl rfl ?_))))); refine r_add _ rfl rfl rfl rfl (by unfold I64; omega) ?_; refine r_assign rfl rfl (hl_nil ?_); have hy : ((insM ys k).getD j default) ∈ (insM xs k).take i := by simpa using hg3
         exact again _ (i + 1) (by show i + 1 ≤ (insM xs k).length; omega) (by show (insM xs k).length - (i + 1) < (insM xs k).length - i; omega) ⟨rfl, rfl, rfl, rfl, rfl, rfl, rfl, rfl, rfl, rfl, congrArg (fun b => some (Value.bool b)) (mem_take2 hi2 hy), rfl, trivial⟩ (.refl _) (by repeat constructor)
       ·have hb7' := hb7; try simp at hb7'
        have hi2 : i = (insM xs k).length := by omega
        subst hi2; refine hc_exit (then_exit (then_exit (inb_hit (then_n (hc_seq (hc_region (r_move rfl rfl (r_not rfl rfl (hl_nil (then_n ?_))))))))))
        first | refine c_dec rfl (fun hb8 => ?_) (fun hb8 => ?_) | refine hc_cond rfl (fun hb8 => ?_) (fun hb8 => ?_)
        ·have hb8' := hb8; try simp at hb8'
         refine hc_region (r_move rfl rfl (r_move rfl rfl (r_move rfl rfl ?_))); refine r_elem (α := Mk) _ _ rfl T.u_L_api_Mark T.sz_api_Mark rfl rfl rfl mB rfl (by omega) (by decide) ?_; refine r_loadS rfl T.row_api_Mark T.sz_api_Mark rfl rfl (cells_row mB (rows_all (by omega))) ?_; refine r_buildSlice _ rfl rfl (fun _ => T.bs_L_api_Mark_1 ..) fun gS => ?_; refine r_append (oj.length + 1) (rows (oj ++ [((insM ys k).getD j default)])) T.el_L_api_Mark rfl rfl rfl hG (List.perm_append_comm (l₁ := [_])) (Src.own (cs := #[int ((insM ys k).getD j default).1, int ((insM ys k).getD j default).2.1, str ((insM ys k).getD j default).2.2]) (m := 1) (List.mem_append_right _ m0) rfl rfl) rfl (by rw [rows_append]; rfl) (by unfold maxLen; omega) (by omega) fun A' c' og' hG' => ?_; refine r_assign rfl rfl (hl_nil (inb_n (then_n (hc_region (r_move rfl rfl ?_))))); refine r_add _ rfl rfl rfl rfl (by unfold I64; omega) ?_; refine r_assign rfl rfl (hl_nil ?_); have hn : ¬ ((insM ys k).getD j default) ∈ insM xs k := by simpa using hb8
         have e2 : (out ++ insM xs k) ++ moreR (insM xs k) ((insM ys k).take (j + 1)) = oj ++ [((insM ys k).getD j default)] := by rw [hmt, if_neg hn, ← List.append_assoc, hOj]
         exact again _ (j + 1, oj ++ [((insM ys k).getD j default)], (A', c'), og') ⟨by omega, e2, by show Grow _ _ _ _ _ _ _; rw [List.length_append]; exact hG'⟩ (by show (insM ys k).length - (j + 1) < (insM ys k).length - j; omega) ⟨rfl, rfl, rfl, rfl, by show some (Value.slice A' (oj.length + 1) c') = some (Value.slice A' (oj ++ [_]).length c'); rw [List.length_append]; rfl, rfl, rfl, rfl, rfl, rfl, trivial⟩ (List.sublist_append_left _ _) (by repeat constructor)
        ·have hb8' := hb8; try simp at hb8'
         refine hc_skip (inb_n (then_n (hc_region (r_move rfl rfl ?_)))); refine r_add _ rfl rfl rfl rfl (by unfold I64; omega) ?_; refine r_assign rfl rfl (hl_nil ?_); have hy : ((insM ys k).getD j default) ∈ insM xs k := by simpa using hb8
         have e2 : (out ++ insM xs k) ++ moreR (insM xs k) ((insM ys k).take (j + 1)) = oj := by rw [hmt, if_pos hy, List.append_nil, hOj]
         exact again _ (j + 1, oj, o, og) ⟨by omega, e2, hG⟩ (by show (insM ys k).length - (j + 1) < (insM ys k).length - j; omega) ⟨rfl, rfl, rfl, rfl, rfl, rfl, rfl, rfl, rfl, rfl, trivial⟩ (.refl _) (by repeat constructor)
      ·have hb6' := hb6; try simp at hb6'
       have hj2 : j = (insM ys k).length := by omega
       subst hj2; rw [List.take_length] at hOj; refine hc_exit (then_exit (then_exit (inb_hit (then_n (hc_seq (hc_seq (hc_region (r_move rfl rfl ?_)))))))); refine r_len_sl rfl T.u_L_api_Mark rfl ?_; refine r_eql rfl rfl rfl (hl_nil (then_n ?_))
       first | refine c_dec rfl (fun hb9 => ?_) (fun hb9 => ?_) | refine hc_cond rfl (fun hb9 => ?_) (fun hb9 => ?_)
       ·have hb9' := hb9; try simp at hb9'
        refine hc_region (r_move rfl rfl (r_assign rfl rfl (hl_nil (then_n (hc_region (r_move rfl rfl (r_move rfl rfl ?_))))))); refine r_append (oj.length + (othM ys k).length) (rows (oj ++ othM ys k)) T.el_L_api_Mark rfl rfl rfl hG (hp' := []) (by rw [List.append_nil]) (Src.row (news := rows (othM ys k)) (by repeat constructor) (rows_len _) (rows_one _) (by decide)) rfl (rows_append _ _).symm (by unfold maxLen; omega) (by omega) fun A' c' og' hG' => ?_; refine r_assign rfl rfl (hl_nil (inb_n (then_n (hc_region (r_move rfl rfl ?_))))); refine r_add _ rfl rfl rfl rfl (by unfold I64; omega) ?_; refine r_assign rfl rfl (hl_nil ?_); have h0 : (othM xs k).length = 0 := by simpa using hb9
        have hM2 := mergeQ_next hM hcl rfl hOj (o2 := oj ++ othM ys k) (by rw [lastR, if_pos h0]); exact again _ (k + 1, oj ++ othM ys k, (A', c'), og') ⟨by omega, hM2, by show Grow _ _ _ _ _ _ _; rw [List.length_append]; exact hG'⟩ (by show p.length + 1 - (k + 1) < p.length + 1 - k; omega) ⟨rfl, rfl, rfl, rfl, by show some (Value.slice A' (oj.length + (othM ys k).length) c') = some (Value.slice A' (oj ++ othM ys k).length c'); rw [List.length_append], trivial⟩ (List.sublist_append_left _ _) (by repeat constructor)
       ·have hb9' := hb9; try simp at hb9'
        refine hc_skip (then_n (hc_region (r_move rfl rfl (r_move rfl rfl ?_)))); refine r_append (oj.length + (othM xs k).length) (rows (oj ++ othM xs k)) T.el_L_api_Mark rfl rfl rfl hG (hp' := []) (by rw [List.append_nil]) (Src.row (news := rows (othM xs k)) (by repeat constructor) (rows_len _) (rows_one _) (by decide)) rfl (rows_append _ _).symm (by unfold maxLen; omega) (by omega) fun A' c' og' hG' => ?_; refine r_assign rfl rfl (hl_nil (inb_n (then_n (hc_region (r_move rfl rfl ?_))))); refine r_add _ rfl rfl rfl rfl (by unfold I64; omega) ?_; refine r_assign rfl rfl (hl_nil ?_); have h0 : ¬ (othM xs k).length = 0 := by simpa using hb9
        have hM2 := mergeQ_next hM hcl rfl hOj (o2 := oj ++ othM xs k) (by rw [lastR, if_neg h0]); exact again _ (k + 1, oj ++ othM xs k, (A', c'), og') ⟨by omega, hM2, by show Grow _ _ _ _ _ _ _; rw [List.length_append]; exact hG'⟩ (by show p.length + 1 - (k + 1) < p.length + 1 - k; omega) ⟨rfl, rfl, rfl, rfl, by show some (Value.slice A' (oj.length + (othM xs k).length) c') = some (Value.slice A' (oj ++ othM xs k).length c'); rw [List.length_append], trivial⟩ (List.sublist_append_left _ _) (by repeat constructor)
    ·have hb4' := hb4; try simp at hb4'
     have hk2 : k = p.length + 1 := by omega
     subst hk2; refine hc_exit (then_exit (then_exit (inb_hit (then_n (hc_seq (hc_seq (hc_region (r_move rfl rfl ?_)))))))); refine r_len_sl rfl T.u_L_api_Mark rfl ?_; refine r_gtr rfl rfl rfl (hl_nil (then_n ?_))
     first | refine c_dec rfl (fun hb10 => ?_) (fun hb10 => ?_) | refine hc_cond rfl (fun hb10 => ?_) (fun hb10 => ?_)
     ·have hb10' := hb10; try simp at hb10'
      refine hc_seq (hc_region (r_assign rfl rfl (r_assign rfl rfl (hl_nil (then_n (hc_ret (then_ret ?_))))))); have e : mergeR p xs ys = ([], 6) := by rw [mergeR, if_neg hb1, if_neg hb2, if_neg hb3, hM]; simp only; rw [if_pos (by omega)]
      rw [e]; refine hq_nilrow (α := Mk) ?_; exact ret2 (none, 0) rfl rfl rfl rfl rfl (Nat.le_refl _) (List.nil_sublist _) ⟨m0, trivial⟩
     ·have hb10' := hb10; try simp at hb10'
      refine hc_skip (then_n (hc_seq (hc_region (r_move rfl rfl (r_assign rfl rfl (r_assign rfl rfl (hl_nil (then_n (hc_ret ?_))))))))); have e : mergeR p xs ys = (out, 0) := by rw [mergeR, if_neg hb1, if_neg hb2, if_neg hb3, hM]; simp only; rw [if_neg (by omega)]
      rw [e]; refine hq_grown0 hG ?_; exact ret2 o rfl rfl rfl rfl rfl hG.le (.refl _) ⟨m0, trivial⟩
end Go.Proofs.Ytpfbbggmcbhboaa
end
section
namespace Go.Proofs.Ytpfbbggmcbhboaa
open Go Go.W
set_option maxRecDepth 20000
attribute [local irreducible] HL HC HQ HB Row Rows2 Blk Facts
def stockN (ps : List (Sl Str)) (s : Str) : Nat := ps.foldl (fun n p => max n (countN p.l s)) 0
theorem originN_take {ps : List (Sl Str)} {s : Str} {n : Nat} : ∀ k, k ≤ n → n ≤ ps.length → originN (ps.take n) s k = originN ps s k
  | 0, _, _ => rfl
  | k + 1, h, h2 => by
    have : (ps.take n).getD k default = ps.getD k default := by
      rw [getD_at (by rw [List.length_take]; omega), getD_at (by omega), List.getElem_take]
    rw [originN, originN, this, originN_take k (by omega) h2]
theorem origin_take_meets {A : Option Addr} {c : Nat} {ps : List (Sl Str)} (s : Str) {n : Nat} (hn : n ≤ ps.length) (hl : ps.length ≤ 1000000) (hp : ∀ p ∈ ps, p.l.length ≤ 1000000) : Meets Try.prog F.proof_origin [.slice A n c, str s] { LI := [Rows2 A (ps.take n)], val := fun _ : Unit => int (originN ps s n) } := by
  have h := proof_origin_meets (A := A) (c := c) (ps.take n) s (by rw [List.length_take]; omega) (fun q hq => hp q (List.mem_of_mem_take hq)); rw [List.length_take, Nat.min_eq_left hn, originN_take _ (Nat.le_refl _) hn] at h; exact h
theorem applyP_len (p : List Str) (l : List Mk) : (applyP p l).1.length ≤ 6 := by
  unfold applyP
  split
  · simp
  · split
    · simp
    · simp only; omega
def lastP (ps : List (Sl Str)) : Sl Str := ps.getD (ps.length - 1) default
def flawP (ps : List (Sl Str)) (r : List Str) (m : Mk) : Int × Int := (if m.1 = 3 then 1 else if ¬ m.2.2 ∈ r ∧ 0 ≤ originN ps m.2.2 (ps.length - 1) then 2 else 3, m.2.1)
def flawR (ps : List (Sl Str)) (r : List Str) (m : Mk) : Int × Int := (if m.1 = 3 then 1 else if countN r m.2.2 = 0 ∧ 0 < stockN (ps.take (ps.length - 1)) m.2.2 then 2 else 3, m.2.1)
def lookP (ps : List (Sl Str)) (l : List Mk) (p : List Str) : (Int × Int) × Int :=
  if ¬ yearsErr (years ps) = 0 then ((0, 0), yearsErr (years ps)) else if ps.length = 0 then ((0, 0), 7)
  else if ¬ (applyP (lastP ps).l l).2 = 0 then ((0, 0), (applyP (lastP ps).l l).2) else if ¬ pageErr p = 0 then ((0, 0), pageErr p)
  else if (diffP (applyP (lastP ps).l l).1 p 0 0).2.length = 0 then ((0, 0), 0)
  else (flawP ps (applyP (lastP ps).l l).1 ((diffP (applyP (lastP ps).l l).1 p 0 0).2.getD 0 default), 0)
def lookR (ps : List (Sl Str)) (l : List Mk) (p : List Str) : (Int × Int) × Int :=
  if ¬ yearsErr (years ps) = 0 then ((0, 0), yearsErr (years ps)) else if ps.length = 0 then ((0, 0), 7)
  else if ¬ (applyR (lastP ps).l l).2 = 0 then ((0, 0), (applyR (lastP ps).l l).2)
  else if ¬ (diffE (applyR (lastP ps).l l).1 p (diffR (applyR (lastP ps).l l).1 p 0 0)).2 = 0 then ((0, 0), (diffE (applyR (lastP ps).l l).1 p (diffR (applyR (lastP ps).l l).1 p 0 0)).2)
  else if (diffE (applyR (lastP ps).l l).1 p (diffR (applyR (lastP ps).l l).1 p 0 0)).1.length = 0 then ((0, 0), 0)
  else (flawR ps (applyR (lastP ps).l l).1 ((diffE (applyR (lastP ps).l l).1 p (diffR (applyR (lastP ps).l l).1 p 0 0)).1.getD 0 default), 0)
def lookV (r : (Int × Int) × Int) : Value := .tuple #[.agg #[int r.1.1, int r.1.2], int r.2]
theorem proof_Look_meets {A B C : Option Addr} {ca cb cc : Nat} (ps : List (Sl Str)) (l : List Mk) (p : List Str) (hca : ps.length ≤ ca) (hcap : ∀ q ∈ ps, q.l.length ≤ q.c) : Meets Try.prog F.proof_Look [.slice A ps.length ca, .slice B l.length cb, .slice C p.length cc] { LI := [Rows2 A ps, Row B (rows l), Row C (rows p)], val := fun _ : Unit => lookV (lookP ps l p) } := by
 refine meets_intro F.proof_Look_f rfl (Nat.le_of_ble_eq_true rfl) fun w0 => ?_; refine hc_seq (hc_region ?_); refine r_alloc rfl (fun _ => T.al_api_Flaw _) fun gA => ?_; refine r_assign rfl rfl (hl_nil (then_n (hc_seq (hc_seq (hc_region (r_move rfl rfl ?_)))))); refine hl_call F.proof_yearsError_cb rfl rfl (proof_yearsError_meets ps) (List.Perm.refl _) ⟨m0, trivial⟩ fun _ _ => ?_; refine r_assign rfl rfl (hl_nil (then_n (hc_seq (hc_region (r_move rfl rfl (r_neq rfl rfl rfl (hl_nil (then_n ?_))))))))
 first | refine c_dec rfl (fun hb1 => ?_) (fun hb1 => ?_) | refine hc_cond rfl (fun hb1 => ?_) (fun hb1 => ?_)
 ·have hb1' := hb1; try simp at hb1'
  have e : lookP ps l p = ((0, 0), yearsErr (years ps)) := by rw [lookP, if_pos hb1]
  rw [e]; refine hc_seq (hc_region ?_); refine r_build _ rfl rfl (fun _ => T.bd_api_Flaw_ ..) ?_; refine r_move rfl rfl ?_; refine r_storeS rfl rfl (by first | exact .refl _ | exact perm2 _ _ _ | exact perm3 _ _ _ _ | exact perm4 _ _ _ _ _) T.sz_api_Flaw (by rfl) (by rfl) ?_; refine r_assign rfl rfl (hl_nil (then_n (hc_ret (then_ret ?_)))); exact ret_row_tmp () rfl rfl rfl T.row_api_Flaw T.sz_api_Flaw rfl m0 rfl rfl trivial (List.nil_sublist _) trivial
 ·have hb1' := hb1; try simp at hb1'
  obtain ⟨h3, h4⟩ := yearsErr_zero (Classical.not_not.1 hb1); refine hc_skip (then_n (hc_seq (hc_seq (hc_region (r_move rfl rfl ?_))))); refine r_len_sl rfl T.u_pages rfl ?_; refine r_eql rfl rfl rfl (hl_nil (then_n ?_))
  first | refine c_dec rfl (fun hb2 => ?_) (fun hb2 => ?_) | refine hc_cond rfl (fun hb2 => ?_) (fun hb2 => ?_)
  ·have hb2' := hb2; try simp at hb2'
   have e : lookP ps l p = ((0, 0), 7) := by rw [lookP, if_neg hb1, if_pos (by omega)]
   rw [e]; refine hc_seq (hc_region ?_); refine r_build _ rfl rfl (fun _ => T.bd_api_Flaw_ ..) ?_; refine r_storeS rfl rfl (by first | exact .refl _ | exact perm2 _ _ _ | exact perm3 _ _ _ _ | exact perm4 _ _ _ _ _) T.sz_api_Flaw (by rfl) (by rfl) ?_; refine r_assign rfl rfl (hl_nil (then_n (hc_ret (then_ret ?_)))); exact ret_row_tmp () rfl rfl rfl T.row_api_Flaw T.sz_api_Flaw rfl m0 rfl rfl trivial (List.nil_sublist _) trivial
  ·have hb2' := hb2; try simp at hb2'
   have hb2 : ¬ ps.length = 0 := by omega
   have hmem : lastP ps ∈ ps := getD_mem (by omega); refine hc_skip (then_n (hc_seq (hc_region (r_move rfl rfl ?_)))); refine r_len_sl rfl T.u_pages rfl ?_; refine r_sub ((ps.length - 1 : Nat) : Int) rfl rfl rfl (by omega) (by unfold I64; omega) ?_; refine r_assign rfl rfl (hl_nil (then_n (hc_seq (hc_outer m0 (hc_region (r_move rfl rfl (r_move rfl rfl ?_))))))); refine r_elem (α := Sl Str) ps (ps.length - 1) rfl T.u_pages T.sz_strs rfl rfl rfl m0 rfl (by omega) (by decide) ?_; refine r_load rfl T.cell_strs rfl (cell_row mB (rows_get0 (by omega) rfl)) ?_; refine r_move rfl rfl ?_; refine hl_inner (p := lastP ps) m1 hmem ?_; refine hl_call F.proof_Apply_cb rfl rfl (proof_Apply_meets (lastP ps).l l (hcap _ hmem)) (List.Perm.refl _) ⟨m0, m3, trivial⟩ fun x hx => ?_; have hx : (applyP (lastP ps).l l).1.length ≤ x.2 := hx; have hal := applyP_len (lastP ps).l l; refine r_move rfl rfl (r_extract rfl rfl rfl (r_extract rfl rfl rfl (r_assign rfl rfl (r_assign rfl rfl (hl_nil (then_n (hc_seq (hc_seq (hc_region (r_move rfl rfl (r_neq rfl rfl rfl ?_))))))))))); refine hl_nil (then_n ?_)
   first | refine c_dec rfl (fun hb3 => ?_) (fun hb3 => ?_) | refine hc_cond rfl (fun hb3 => ?_) (fun hb3 => ?_)
   ·have hb3' := hb3; try simp at hb3'
    have e : lookP ps l p = ((0, 0), (applyP (lastP ps).l l).2) := by rw [lookP, if_neg hb1, if_neg hb2, if_pos hb3]
    rw [e]; refine hc_seq (hc_region ?_); refine r_build _ rfl rfl (fun _ => T.bd_api_Flaw_ ..) ?_; refine r_move rfl rfl ?_; refine r_storeS rfl rfl (by first | exact .refl _ | exact perm2 _ _ _ | exact perm3 _ _ _ _ | exact perm4 _ _ _ _ _) T.sz_api_Flaw (by rfl) (by rfl) ?_; refine r_assign rfl rfl (hl_nil (then_n (hc_ret (then_ret ?_)))); exact ret_row_tmp () rfl rfl rfl T.row_api_Flaw T.sz_api_Flaw rfl m0 rfl rfl trivial (List.nil_sublist _) trivial
   ·have hb3' := hb3; try simp at hb3'
    refine hc_skip (then_n (hc_seq (hc_seq (hc_region (r_move rfl rfl ?_))))); refine hl_call F.proof_Check_cb rfl rfl (proof_Check_meets p) (List.Perm.refl _) ⟨m5, trivial⟩ fun _ _ => ?_; refine r_assign rfl rfl (hl_nil (then_n (hc_seq (hc_region (r_move rfl rfl (r_neq rfl rfl rfl (hl_nil (then_n ?_))))))))
    first | refine c_dec rfl (fun hb4 => ?_) (fun hb4 => ?_) | refine hc_cond rfl (fun hb4 => ?_) (fun hb4 => ?_)
    ·have hb4' := hb4; try simp at hb4'
     have e : lookP ps l p = ((0, 0), pageErr p) := by rw [lookP, if_neg hb1, if_neg hb2, if_neg hb3, if_pos hb4]
     rw [e]; refine hc_seq (hc_region ?_); refine r_build _ rfl rfl (fun _ => T.bd_api_Flaw_ ..) ?_; refine r_move rfl rfl ?_; refine r_storeS rfl rfl (by first | exact .refl _ | exact perm2 _ _ _ | exact perm3 _ _ _ _ | exact perm4 _ _ _ _ _) T.sz_api_Flaw (by rfl) (by rfl) ?_; refine r_assign rfl rfl (hl_nil (then_n (hc_ret (then_ret ?_)))); exact ret_row_tmp () rfl rfl rfl T.row_api_Flaw T.sz_api_Flaw rfl m0 rfl rfl trivial (List.nil_sublist _) trivial
    ·have hb4' := hb4; try simp at hb4'
     have hp6 := pageErr_zero (Classical.not_not.1 hb4); refine hc_skip (then_n (hc_seq (hc_region (r_move rfl rfl (r_move rfl rfl ?_))))); refine hl_call F.proof_diff_cb rfl rfl (proof_diff_meets (applyP (lastP ps).l l).1 p (by omega) (by omega)) (List.Perm.refl _) ⟨m0, m5, trivial⟩ fun y _ => ?_; refine r_assign rfl rfl (hl_nil (then_n (hc_seq (hc_seq (hc_region (r_move rfl rfl ?_)))))); refine r_len_sl rfl T.u_L_api_Mark rfl ?_; refine r_eql rfl rfl rfl (hl_nil (then_n ?_))
     first | refine c_dec rfl (fun hb5 => ?_) (fun hb5 => ?_) | refine hc_cond rfl (fun hb5 => ?_) (fun hb5 => ?_)
     ·have hb5' := hb5; try simp at hb5'
      have e : lookP ps l p = ((0, 0), 0) := by rw [lookP, if_neg hb1, if_neg hb2, if_neg hb3, if_neg hb4, if_pos (by omega)]
      rw [e]; refine hc_seq (hc_region ?_); refine r_build _ rfl rfl (fun _ => T.bd_api_Flaw_ ..) ?_; refine r_storeS rfl rfl (by first | exact .refl _ | exact perm2 _ _ _ | exact perm3 _ _ _ _ | exact perm4 _ _ _ _ _) T.sz_api_Flaw (by rfl) (by rfl) ?_; refine r_assign rfl rfl (hl_nil (then_n (hc_ret (then_ret ?_)))); exact ret_row_tmp () rfl rfl rfl T.row_api_Flaw T.sz_api_Flaw rfl m0 rfl rfl trivial (List.nil_sublist _) trivial
     ·have hb5' := hb5; try simp at hb5'
      have hb5 : ¬ (diffP (applyP (lastP ps).l l).1 p 0 0).2.length = 0 := by omega
      have e : lookP ps l p = (flawP ps (applyP (lastP ps).l l).1 ((diffP (applyP (lastP ps).l l).1 p 0 0).2.getD 0 default), 0) := by rw [lookP, if_neg hb1, if_neg hb2, if_neg hb3, if_neg hb4, if_neg hb5]
      rw [e]; refine hc_skip (then_n (hc_seq (hc_region (r_move rfl rfl ?_)))); refine r_elem (α := Mk) (diffP (applyP (lastP ps).l l).1 p 0 0).2 0 rfl T.u_L_api_Mark T.sz_api_Mark rfl rfl rfl m0 rfl (by omega) (by decide) ?_; refine r_loadS rfl T.row_api_Mark T.sz_api_Mark rfl rfl (cells_row m0 (rows_all (l := (diffP (applyP (lastP ps).l l).1 p 0 0).2) (i := 0) (by omega))) ?_; refine r_alloc rfl (fun _ => T.al_api_Mark _) fun gA => ?_; refine r_storeS rfl rfl (by first | exact .refl _ | exact perm2 _ _ _ | exact perm3 _ _ _ _ | exact perm4 _ _ _ _ _) T.sz_api_Mark (by rfl) (by rfl) ?_; refine hl_nil (then_n (hc_seq (hc_region (r_assign rfl rfl (hl_nil (then_n (hc_seq (hc_block (hc_seq ?_))))))))); generalize ((diffP (applyP (lastP ps).l l).1 p 0 0).2.getD 0 default) = m at *; generalize (applyP (lastP ps).l l) = r at *; obtain ⟨mk, ma, mt⟩ := m; refine hc_region ?_
      first | refine r_fieldAddr ⟨_, 0, none⟩ rfl rfl T.fa_api_Mark_0 rfl ?_ | refine r_fieldAddr _ rfl rfl T.fa_api_Mark_0 rfl ?_
      first | refine r_load rfl T.cell_int rfl (cell_own mB rfl) ?_ | refine r_load rfl T.cell_int rfl (cell_blk mB rfl) ?_ | refine r_load rfl T.cell_int rfl (cell_row mB (rows_get0 (by omega) rfl)) ?_ | refine r_load rfl T.cell_int rfl (cell_row_f mB (rows_get (by omega) rfl)) ?_
      refine r_eql rfl rfl rfl (r_assign rfl rfl (hl_nil (then_n ?_)))
      first | refine c_dec rfl (fun hb6 => ?_) (fun hb6 => ?_) | refine hc_cond rfl (fun hb6 => ?_) (fun hb6 => ?_)
      ·have hb6' := hb6; try simp at hb6'
       simp only at hb6; refine hc_region (r_assign rfl rfl (hl_nil (inb_n (then_n (hc_seq (hc_region (r_move rfl rfl ?_)))))))
       first | refine r_fieldAddr ⟨_, 1, none⟩ rfl rfl T.fa_api_Mark_1 rfl ?_ | refine r_fieldAddr _ rfl rfl T.fa_api_Mark_1 rfl ?_
       first | refine r_load rfl T.cell_int rfl (cell_own mB rfl) ?_ | refine r_load rfl T.cell_int rfl (cell_blk mB rfl) ?_ | refine r_load rfl T.cell_int rfl (cell_row mB (rows_get0 (by omega) rfl)) ?_ | refine r_load rfl T.cell_int rfl (cell_row_f mB (rows_get (by omega) rfl)) ?_
       refine r_build _ rfl rfl (fun _ => T.bd_api_Flaw_0_1 ..) ?_; refine r_storeS rfl rfl (by first | exact .refl _ | exact perm2 _ _ _ | exact perm3 _ _ _ _ | exact perm4 _ _ _ _ _) T.sz_api_Flaw (by rfl) (by rfl) ?_; refine r_assign rfl rfl (hl_nil (then_n (hc_ret ?_))); exact ret_row_tmp () rfl rfl rfl T.row_api_Flaw T.sz_api_Flaw rfl m0 (by rw [lookV, flawP, if_pos hb6]) rfl trivial (List.nil_sublist _) trivial
      ·have hb6' := hb6; try simp at hb6'
       refine hc_seq ?_; refine hc_draw 11 mixed (by decide) (by decide) rfl rfl ?_; refine hb_ex _ rfl rfl rfl (fun w1 => r_move rfl rfl (hl_nil (qe_done rfl))) ?_
       apply hb_ex _ rfl rfl rfl
       ·intro w1
        first | refine r_fieldAddr ⟨_, 2, none⟩ rfl rfl T.fa_api_Mark_2 rfl ?_ | refine r_fieldAddr _ rfl rfl T.fa_api_Mark_2 rfl ?_
        refine hl_nil ?_; exact qe_done rfl
       apply hb_ex _ rfl rfl rfl
       ·intro w1
        first | refine r_load rfl T.cell_string rfl (cell_blk mB rfl) ?_ | refine r_load rfl T.cell_string rfl (cell_own mB rfl) ?_ | refine r_load rfl T.cell_string rfl (cell_row mB (rows_get0 (by omega) rfl)) ?_ | refine r_load rfl T.cell_string rfl (cell_row_f mB (rows_get (by omega) rfl)) ?_
        refine hl_nil ?_; exact qe_done rfl
       refine hb_ex _ rfl rfl rfl (fun w1 => hl_call F.slices_Contains_strs_cb rfl rfl (slices_Contains_strs_meets r.1 mt (by omega)) (List.Perm.refl _) ⟨m3, trivial⟩ fun _ _ => (hl_nil (qe_done rfl))) ?_; refine hb_ex _ rfl rfl rfl (fun w1 => r_not rfl rfl (hl_nil (qe_done rfl))) ?_; refine hb_ex _ rfl rfl rfl (fun w1 => r_move rfl rfl (hl_nil (qe_done rfl))) ?_; refine hb_split (t := 68) (want := true) rfl ?_ ?_
       ·intro hg1; have hg1' := hg1; try simp at hg1'
        apply hb_ex _ rfl rfl rfl
        ·intro w1; refine g_yes rfl rfl hg1 (r_move rfl rfl (hl_nil ?_)); exact qe_done rfl
        apply hb_ex _ rfl rfl rfl
        ·intro w1; refine g_yes rfl rfl hg1 (r_move rfl rfl (hl_nil ?_)); exact qe_done rfl
        apply hb_ex _ rfl rfl rfl
        ·intro w1; refine g_yes rfl rfl hg1 ?_; refine r_slice_hi (ps.length - 1) rfl T.u_pages T.sz_strs rfl rfl rfl (by omega) ?_; refine hl_nil ?_; exact qe_done rfl
        apply hb_ex _ rfl rfl rfl
        ·intro w1; refine g_yes rfl rfl hg1 ?_
         first | refine r_fieldAddr ⟨_, 2, none⟩ rfl rfl T.fa_api_Mark_2 rfl ?_ | refine r_fieldAddr _ rfl rfl T.fa_api_Mark_2 rfl ?_
         refine hl_nil ?_; exact qe_done rfl
        apply hb_ex _ rfl rfl rfl
        ·intro w1; refine g_yes rfl rfl hg1 ?_
         first | refine r_load rfl T.cell_string rfl (cell_blk mB rfl) ?_ | refine r_load rfl T.cell_string rfl (cell_own mB rfl) ?_ | refine r_load rfl T.cell_string rfl (cell_row mB (rows_get0 (by omega) rfl)) ?_ | refine r_load rfl T.cell_string rfl (cell_row_f mB (rows_get (by omega) rfl)) ?_
         refine hl_nil ?_; exact qe_done rfl
        refine hb_nil ⟨rfl, ?_⟩; refine g_yes rfl rfl hg1 ?_; refine hl_take2 (A := A) (ps := ps) (ps.length - 1) m4 ?_; refine hl_call (vs := [.slice A (ps.length - 1) ca, str mt]) F.proof_origin_cb rfl rfl (origin_take_meets mt (by omega) (by omega) (fun q hq => by have := h4 q hq; omega)) (List.Perm.refl _) ⟨m0, trivial⟩ fun _ _ => ?_; refine g_yes rfl rfl hg1 (r_geq rfl rfl rfl ?_); refine p_t rfl rfl (bt1 hg1) rfl ?_; refine r_assign rfl rfl (hl_nil (then_n ?_))
        first | refine c_dec rfl (fun hb7 => ?_) (fun hb7 => ?_) | refine hc_cond rfl (fun hb7 => ?_) (fun hb7 => ?_)
        ·have hb7' := hb7; try simp at hb7'
         refine hc_region (r_assign rfl rfl (hl_nil (inb_n (then_n (hc_seq (hc_region (r_move rfl rfl ?_)))))))
         first | refine r_fieldAddr ⟨_, 1, none⟩ rfl rfl T.fa_api_Mark_1 rfl ?_ | refine r_fieldAddr _ rfl rfl T.fa_api_Mark_1 rfl ?_
         first | refine r_load rfl T.cell_int rfl (cell_own mB rfl) ?_ | refine r_load rfl T.cell_int rfl (cell_blk mB rfl) ?_ | refine r_load rfl T.cell_int rfl (cell_row mB (rows_get0 (by omega) rfl)) ?_ | refine r_load rfl T.cell_int rfl (cell_row_f mB (rows_get (by omega) rfl)) ?_
         refine r_build _ rfl rfl (fun _ => T.bd_api_Flaw_0_1 ..) ?_; refine r_storeS rfl rfl (by first | exact .refl _ | exact perm2 _ _ _ | exact perm3 _ _ _ _ | exact perm4 _ _ _ _ _) T.sz_api_Flaw (by rfl) (by rfl) ?_; refine r_assign rfl rfl (hl_nil (then_n (hc_ret ?_))); exact ret_row_tmp () rfl rfl rfl T.row_api_Flaw T.sz_api_Flaw rfl m0 (by rw [lookV, flawP, if_neg hb6, if_pos (by simpa using ⟨hg1', hb7⟩)]) rfl trivial (List.nil_sublist _) trivial
        ·have hb7' := hb7; try simp at hb7'
         refine hc_skip (inb_n (then_n (hc_seq (hc_region (r_move rfl rfl ?_)))))
         first | refine r_fieldAddr ⟨_, 1, none⟩ rfl rfl T.fa_api_Mark_1 rfl ?_ | refine r_fieldAddr _ rfl rfl T.fa_api_Mark_1 rfl ?_
         first | refine r_load rfl T.cell_int rfl (cell_own mB rfl) ?_ | refine r_load rfl T.cell_int rfl (cell_blk mB rfl) ?_ | refine r_load rfl T.cell_int rfl (cell_row mB (rows_get0 (by omega) rfl)) ?_ | refine r_load rfl T.cell_int rfl (cell_row_f mB (rows_get (by omega) rfl)) ?_
         refine r_build _ rfl rfl (fun _ => T.bd_api_Flaw_0_1 ..) ?_; refine r_storeS rfl rfl (by first | exact .refl _ | exact perm2 _ _ _ | exact perm3 _ _ _ _ | exact perm4 _ _ _ _ _) T.sz_api_Flaw (by rfl) (by rfl) ?_; refine r_assign rfl rfl (hl_nil (then_n (hc_ret ?_))); exact ret_row_tmp () rfl rfl rfl T.row_api_Flaw T.sz_api_Flaw rfl m0 (by rw [lookV, flawP, if_neg hb6, if_neg (by simp_all)]) rfl trivial (List.nil_sublist _) trivial
       ·intro hg1; have hg1' := hg1; try simp at hg1'
        refine hb_ex _ rfl rfl rfl (fun w1 => g_no rfl rfl rfl rfl rfl hg1 (hl_nil (qe_done rfl))) ?_; refine hb_ex _ rfl rfl rfl (fun w1 => g_no rfl rfl rfl rfl rfl hg1 (hl_nil (qe_done rfl))) ?_; refine hb_ex _ rfl rfl rfl (fun w1 => g_no rfl rfl rfl rfl rfl hg1 (hl_nil (qe_done rfl))) ?_; refine hb_ex _ rfl rfl rfl (fun w1 => g_no rfl rfl rfl rfl rfl hg1 (hl_nil (qe_done rfl))) ?_; refine hb_ex _ rfl rfl rfl (fun w1 => g_no rfl rfl rfl rfl rfl hg1 (hl_nil (qe_done rfl))) ?_; refine hb_nil ⟨rfl, ?_⟩; refine g_no rfl rfl rfl rfl rfl hg1 (g_no rfl rfl rfl rfl rfl hg1 ?_); refine p_f rfl rfl (bf2 hg1) rfl ?_; refine r_assign rfl rfl (hl_nil (then_n (c_f rfl rfl (hc_skip (inb_n (then_n (hc_seq (hc_region (r_move rfl rfl ?_)))))))))
        first | refine r_fieldAddr ⟨_, 1, none⟩ rfl rfl T.fa_api_Mark_1 rfl ?_ | refine r_fieldAddr _ rfl rfl T.fa_api_Mark_1 rfl ?_
        first | refine r_load rfl T.cell_int rfl (cell_own mB rfl) ?_ | refine r_load rfl T.cell_int rfl (cell_blk mB rfl) ?_ | refine r_load rfl T.cell_int rfl (cell_row mB (rows_get0 (by omega) rfl)) ?_ | refine r_load rfl T.cell_int rfl (cell_row_f mB (rows_get (by omega) rfl)) ?_
        refine r_build _ rfl rfl (fun _ => T.bd_api_Flaw_0_1 ..) ?_; refine r_storeS rfl rfl (by first | exact .refl _ | exact perm2 _ _ _ | exact perm3 _ _ _ _ | exact perm4 _ _ _ _ _) T.sz_api_Flaw (by rfl) (by rfl) ?_; refine r_assign rfl rfl (hl_nil (then_n (hc_ret ?_))); exact ret_row_tmp () rfl rfl rfl T.row_api_Flaw T.sz_api_Flaw rfl m0 (by rw [lookV, flawP, if_neg hb6, if_neg (by simp_all)]) rfl trivial (List.nil_sublist _) trivial
end Go.Proofs.Ytpfbbggmcbhboaa
end
