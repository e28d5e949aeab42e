/- Texts. -/

import Derived.Test.YtpfbbggmcbhboaaBAk
import Derived.Test.YtpfbbggmcbhboaaBAl
import Derived.Test.YtpfbbggmcbhboaaBAf
set_option linter.unusedVariables false
set_option linter.unusedSimpArgs false
section
namespace Go.Proofs.Ytpfbbggmcbhboaa
open Go Go.W
set_option maxRecDepth 20000
attribute [local irreducible] HL HC HQ HB Row Rows2 Blk Facts
def GrowK (o : OutC) (l : List Mk) (og : Hp) : Prop := Grow T.api_Mark 3 o.1 l.length o.2 (rows l) og
theorem GrowK.le {o : OutC} {l : List Mk} {og : Hp} (h : GrowK o l og) : l.length ≤ o.2 := Grow.le h
abbrev dkL (x : DeskR) : List Fact := [Blk x.d (.cells (dkC x.m0 x.m1 x.q0 x.q1) T.proof_desk (0, 0)), Blk x.m0 (mapO int x.li0 x.ci0), Blk x.m1 (mapO int x.li1 x.ci1), Blk x.q0 (mapO int x.ll0 x.cl0), Blk x.q1 (mapO int x.ll1 x.cl1), Facts x.Ls]
theorem moreA_take {ws vs : List Str} {j : Nat} (h : j < vs.length) : ((vs.take (j + 1)).filter fun w => !decide (w ∈ ws)) = ((vs.take j).filter fun w => !decide (w ∈ ws)) ++ (if vs.getD j default ∈ ws then [] else [vs.getD j default]) := by
  rw [take_succ_getD vs j h, List.filter_append]
  congr 1
  by_cases e : vs.getD j default ∈ ws
  · rw [if_pos e, List.filter_cons_of_neg (by rw [decide_eq_true e]; decide), List.filter_nil]
  · rw [if_neg e, List.filter_cons_of_pos (by rw [decide_eq_false e]; rfl), List.filter_nil]
theorem clash_of {xs ys : List Mk} {k : Int} (h1 : (lastAt xs k).isSome = true) (h2 : (lastAt ys k).isSome = true) : clashA xs ys k = !decide ((lastAt xs k).getD default = (lastAt ys k).getD default) := by
  obtain ⟨m, e1⟩ := Option.isSome_iff_exists.1 h1; obtain ⟨m', e2⟩ := Option.isSome_iff_exists.1 h2
  simp [clashA, e1, e2]
theorem clash_x {xs ys : List Mk} {k : Int} (h1 : (lastAt xs k).isSome = false) : clashA xs ys k = false := by
  cases e1 : lastAt xs k with
  | none => simp [clashA, e1]
  | some m => rw [e1] at h1; cases h1
theorem clash_y {xs ys : List Mk} {k : Int} (h1 : (lastAt ys k).isSome = false) : clashA xs ys k = false := by
  cases e1 : lastAt ys k with
  | none => cases e2 : lastAt xs k <;> simp [clashA, e1, e2]
  | some m => rw [e1] at h1; cases h1
theorem lastL_x {xs ys : List Mk} {k : Int} (h : (lastAt xs k).isSome = true) : lastL xs ys k = [(lastAt xs k).getD default] := by
  obtain ⟨m, e1⟩ := Option.isSome_iff_exists.1 h
  simp [lastL, e1]
theorem lastL_y {xs ys : List Mk} {k : Int} (h : (lastAt xs k).isSome = false) (h2 : (lastAt ys k).isSome = true) : lastL xs ys k = [(lastAt ys k).getD default] := by
  obtain ⟨m, e1⟩ := Option.isSome_iff_exists.1 h2
  cases e2 : lastAt xs k with
  | none => simp [lastL, e1, e2]
  | some m => rw [e2] at h; cases h
theorem lastL_n {xs ys : List Mk} {k : Int} (h : (lastAt xs k).isSome = false) (h2 : (lastAt ys k).isSome = false) : lastL xs ys k = [] := by
  cases e2 : lastAt xs k with
  | none =>
    cases e1 : lastAt ys k with
    | none => simp [lastL, e1, e2]
    | some m => rw [e1] at h2; cases h2
  | some m => rw [e2] at h; cases h
theorem mergeO_next {xs ys out oj ok o2 : List Mk} {k : Nat} (hM : mergeO xs ys k = some out) (hc : clashA xs ys k = false) (hOj : out ++ (insAt xs k).map (lineM k) = oj) (hOk : oj ++ ((insAt ys k).filter fun w => !decide (w ∈ insAt xs k)).map (lineM k) = ok) (e : ok ++ lastL xs ys k = o2) : mergeO xs ys (k + 1) = some o2 := by
  rw [mergeO, hM]
  simp only
  rw [if_neg (by rw [hc]; decide), ← e, ← hOk, ← hOj]; unfold lineA moreA; simp only [List.append_assoc]
theorem lines_take {ws : List Str} {j : Nat} {k : Int} (h : j < ws.length) : ((ws.take (j + 1)).map (lineM k)) = (ws.take j).map (lineM k) ++ [lineM k (ws.getD j default)] := by
  rw [take_succ_getD ws j h, List.map_append]; rfl
theorem proof_Merge_meets {A B C : Option Addr} {ca cb cc : Nat} (p : List Str) (xs ys : List Mk) :
    Meets Try.prog F.proof_Merge [.slice A p.length ca, .slice B xs.length cb, .slice C ys.length cc] { outErr (mergeP p xs ys) with LI := [Row A (rows p), Row B (rows xs), Row C (rows ys)] } := by
 refine meets_intro F.proof_Merge_f rfl (Nat.le_of_ble_eq_true rfl) fun w0 => ?_; refine hc_seq (hc_region (r_assign rfl rfl (r_assign rfl rfl (hl_nil (then_n (hc_seq (hc_seq (hc_region (r_move rfl rfl (r_move rfl rfl ?_)))))))))); refine hl_call F.proof_checked_cb rfl rfl (proof_checked_meets p xs) (.refl _) ⟨m0, m1, trivial⟩ fun _ _ => ?_; refine r_assign rfl rfl (hl_nil (then_n (hc_seq (hc_region (r_move rfl rfl (r_neq rfl rfl rfl (hl_nil (then_n ?_))))))))
 first | refine c_dec rfl (fun hb1 => ?_) (fun hb1 => ?_) | refine hc_cond rfl (fun hb1 => ?_) (fun hb1 => ?_)
 ·have hb1' := hb1; try simp at hb1'
  have e : mergeP p xs ys = ([], checkErr p xs) := by rw [mergeP, if_pos hb1]
  rw [e]; refine hc_seq (hc_region (r_move rfl rfl (r_assign rfl rfl (r_assign rfl rfl (hl_nil (then_n (hc_ret (then_ret ?_)))))))); refine hq_nilrow (α := Mk) ?_; exact ret2 (none, 0) rfl rfl rfl rfl rfl (Nat.le_refl _) (List.nil_sublist _) ⟨m0, trivial⟩
 ·have hb1' := hb1; try simp at hb1'
  have h0 : checkErr p xs = 0 := by omega
  obtain ⟨hp6, hl, hV⟩ := checkErr_zero h0; refine hc_skip (then_n (hc_seq (hc_seq (hc_region (r_move rfl rfl (r_move rfl rfl ?_)))))); refine hl_call F.proof_marksError_cb rfl rfl (proof_marksError_meets ys (by omega)) (.refl _) ⟨m2, trivial⟩ fun _ _ => ?_; refine r_assign rfl rfl (hl_nil (then_n (hc_seq (hc_region (r_move rfl rfl (r_neq rfl rfl rfl (hl_nil (then_n ?_))))))))
  first | refine c_dec rfl (fun hb2 => ?_) (fun hb2 => ?_) | refine hc_cond rfl (fun hb2 => ?_) (fun hb2 => ?_)
  ·have hb2' := hb2; try simp at hb2'
   have e : mergeP p xs ys = ([], marksErr p.length ys) := by rw [mergeP, if_neg hb1, if_pos hb2]
   rw [e]; refine hc_seq (hc_region (r_move rfl rfl (r_assign rfl rfl (r_assign rfl rfl (hl_nil (then_n (hc_ret (then_ret ?_)))))))); refine hq_nilrow (α := Mk) ?_; exact ret2 (none, 0) rfl rfl rfl rfl rfl (Nat.le_refl _) (List.nil_sublist _) ⟨m0, trivial⟩
  ·have hb2' := hb2; try simp at hb2'
   have hy12 : ys.length ≤ 12 := by
     have h0 : marksErr p.length ys = 0 := by omega
     unfold marksErr at h0
     split at h0 <;> omega
   refine hc_skip (then_n (hc_seq (hc_region (r_move rfl rfl (r_move rfl rfl ?_))))); refine hl_call F.proof_collect_cb rfl rfl (proof_collect_meets xs ys (by omega) (by omega)) (List.Perm.refl _) ⟨m1, m2, trivial⟩ fun x hx => ?_; obtain ⟨hI0, hI1, hL0, hL1⟩ := hx; refine r_assign rfl rfl (hl_nil (then_n (hc_seq (hc_region (r_assign rfl rfl (hl_nil (then_n (hc_seq (hc_seq (hc_region (r_move rfl rfl ?_))))))))))); refine r_len_sl rfl T.u_strs rfl ?_; refine r_add ((p.length + 1 : Nat) : Int) rfl rfl rfl (by omega) (by unfold I64; omega) ?_; refine r_move rfl rfl (hl_nil (then_n (hc_block ?_))); refine hc_loop (β := Nat × List Mk × OutC × Hp) ⟨fun ⟨k, out, o, og⟩ => k ≤ p.length + 1 ∧ mergeO xs ys k = some out ∧ GrowK o out og, fun ⟨k, out, o, og⟩ => [(10, ptrB x.d), (38, int ((p.length + 1 : Nat) : Int)), (39, int (k : Nat)), (11, .slice o.1 out.length o.2)], fun ⟨k, out, o, og⟩ => og, fun _ => dkL x⟩ (fun z => p.length + 1 - z.1) (0, [], (none, 0), []) ⟨Nat.zero_le _, rfl, Grow.nil _ _⟩ ⟨rfl, rfl, rfl, rfl, trivial⟩ (.refl _) (LSub.of_mem fun F hF => List.mem_append.2 (.inl hF)) fun z hz => ?_; obtain ⟨k, out, o, og⟩ := z; obtain ⟨hk, hM, hG⟩ := hz; have hlen := mergeO_len hM; have hlen : out.length ≤ 7 * 25 := Nat.le_trans hlen (Nat.mul_le_mul (by omega) (by omega)); have hk : k ≤ p.length + 1 := hk; have hG : GrowK o out og := hG; refine hc_seq (hc_region (r_lss rfl rfl rfl (hl_nil (then_n (hc_seq ?_)))))
   first | refine c_dec rfl (fun hb3 => ?_) (fun hb3 => ?_) | refine hc_cond rfl (fun hb3 => ?_) (fun hb3 => ?_)
   ·have hb3' := hb3; try simp at hb3'
    have hk2 : k < p.length + 1 := by omega
    have hw0 := insAt_len xs (k : Int); have hw1 := insAt_len ys (k : Int); refine hc_skip (then_n (hc_seq (hc_block (hc_seq (hc_region (r_move rfl rfl (r_assign rfl rfl (hl_nil (then_n (hc_seq (hc_seq ?_))))))))))); refine hc_region (r_move rfl rfl (r_nilCheck rfl rfl ?_)); refine r_fieldAddr ⟨x.d, 0, none⟩ rfl rfl T.fa_proof_desk_0 rfl ?_; refine r_indexArr (o := 0) 0 0 rfl T.u_A2_map_int_L_string T.sz_map_int_L_string rfl rfl rfl (by omega) rfl ?_; refine r_load (v := .map (some x.m0)) rfl T.cell_map_int_L_string rfl (cell_blk (by repeat constructor) rfl) ?_; refine r_move rfl rfl ?_; refine r_lookIn (k := (k : Int)) hI0 (by repeat constructor) rfl rfl rfl rfl (map_blk (by repeat constructor)) fun A0 c0 => ?_; refine r_len_sl rfl T.u_strs rfl ?_; refine r_move rfl rfl (hl_nil (then_n (hc_block ?_))); refine hc_loop (β := Nat × List Mk × OutC × Hp) ⟨fun ⟨j, oj, o, og⟩ => j ≤ (insAt xs k).length ∧ out ++ ((insAt xs k).take j).map (lineM k) = oj ∧ GrowK o oj og, fun ⟨j, oj, o, og⟩ => [(10, ptrB x.d), (38, int ((p.length + 1 : Nat) : Int)), (39, int (k : Nat)), (12, int (k : Nat)), (48, .slice A0 (insAt xs k).length c0), (49, int (insAt xs k).length), (50, int (j : Nat)), (11, .slice o.1 oj.length o.2)], fun ⟨j, oj, o, og⟩ => og, fun _ => Row A0 (rows (insAt xs k)) :: dkL x⟩ (fun z => (insAt xs k).length - z.1) (0, out, o, og) ⟨Nat.zero_le _, by rw [List.take_zero, List.map_nil, List.append_nil], hG⟩ ⟨rfl, rfl, rfl, rfl, rfl, rfl, rfl, rfl, trivial⟩ (.refl _) (by repeat constructor) fun z hz => ?_; obtain ⟨j, oj, o, og⟩ := z; obtain ⟨hj, hOj, hG⟩ := hz; have hj : j ≤ (insAt xs k).length := hj; have hG : GrowK o oj og := hG; have hlj : oj.length ≤ 7 * 25 + 12 := by rw [← hOj, List.length_append, List.length_map, List.length_take]; omega
    refine hc_seq (hc_region (r_lss rfl rfl rfl (hl_nil (then_n (hc_seq ?_)))))
    first | refine c_dec rfl (fun hb4 => ?_) (fun hb4 => ?_) | refine hc_cond rfl (fun hb4 => ?_) (fun hb4 => ?_)
    ·have hb4' := hb4; try simp at hb4'
     have hj2 : j < (insAt xs k).length := by omega
     refine hc_skip (then_n (hc_seq (hc_block (hc_seq (hc_region ?_))))); refine r_elem (α := Str) _ _ rfl T.u_strs T.sz_string rfl rfl rfl mB rfl (by omega) (by decide) ?_; refine r_load rfl T.cell_string rfl (cell_row mB (rows_get0 (by omega) rfl)) ?_; refine r_assign rfl rfl (hl_nil (then_n (hc_region (r_move rfl rfl (r_move rfl rfl (r_move rfl rfl ?_)))))); refine r_build _ rfl rfl (fun _ => T.bd_api_Mark_0_1_2 ..) ?_; refine r_buildSlice _ rfl rfl (fun _ => T.bs_L_api_Mark_1 ..) fun gS => ?_; refine r_append (oj.length + 1) (rows (oj ++ [lineM k ((insAt xs k).getD j default)])) T.el_L_api_Mark rfl rfl rfl hG (List.perm_append_comm (l₁ := [_])) (Src.own (cs := #[int (lineM k ((insAt xs k).getD j default)).1, int (lineM k ((insAt xs k).getD j default)).2.1, str (lineM k ((insAt xs k).getD j default)).2.2]) (m := 1) (List.mem_append_right _ m0) rfl rfl) rfl (by rw [rows_append]; rfl) (by unfold maxLen; omega) (by omega) fun A' c' og' hG' => ?_; refine r_assign rfl rfl (hl_nil (inb_n (then_n (hc_region ?_)))); refine r_add _ rfl rfl rfl rfl (by unfold I64; omega) ?_; refine r_move rfl rfl (hl_nil ?_); have e2 : out ++ ((insAt xs k).take (j + 1)).map (lineM k) = oj ++ [lineM k ((insAt xs k).getD j default)] := by rw [lines_take hj2, ← List.append_assoc, hOj]
     refine again _ (j + 1, oj ++ [lineM k ((insAt xs k).getD j default)], (A', c'), og') ⟨by omega, e2, by show Grow _ _ _ _ _ _ _; rw [List.length_append]; exact hG'⟩ (by show (insAt xs k).length - (j + 1) < (insAt xs k).length - j; omega) ⟨rfl, rfl, rfl, rfl, rfl, rfl, rfl, by show some (Value.slice A' (oj.length + 1) c') = some (Value.slice A' (oj ++ [_]).length c'); rw [List.length_append]; rfl, trivial⟩ (List.sublist_append_left _ _) (by repeat constructor)
    ·have hb4' := hb4; try simp at hb4'
     have hj2 : j = (insAt xs k).length := by omega
     subst hj2; rw [List.take_length] at hOj; refine hc_exit (then_exit (then_exit (inb_hit (then_n (hc_seq (hc_seq (hc_region (r_move rfl rfl (r_nilCheck rfl rfl ?_))))))))); refine r_fieldAddr ⟨x.d, 0, none⟩ rfl rfl T.fa_proof_desk_0 rfl ?_; refine r_indexArr (o := 0) 1 1 rfl T.u_A2_map_int_L_string T.sz_map_int_L_string rfl rfl rfl (by omega) rfl ?_; refine r_load (v := .map (some x.m1)) rfl T.cell_map_int_L_string rfl (cell_blk (by repeat constructor) rfl) ?_; refine r_move rfl rfl ?_; refine r_lookIn (k := (k : Int)) hI1 (by repeat constructor) rfl rfl rfl rfl (map_blk (by repeat constructor)) fun A1 c1 => ?_; refine r_len_sl rfl T.u_strs rfl ?_; refine r_move rfl rfl (hl_nil (then_n (hc_block ?_))); refine hc_loop (β := Nat × List Mk × OutC × Hp) ⟨fun ⟨j, ok, o, og⟩ => j ≤ (insAt ys k).length ∧ oj ++ (((insAt ys k).take j).filter fun w => !decide (w ∈ insAt xs k)).map (lineM k) = ok ∧ GrowK o ok og, fun ⟨j, ok, o, og⟩ => [(10, ptrB x.d), (38, int ((p.length + 1 : Nat) : Int)), (39, int (k : Nat)), (12, int (k : Nat)), (67, .slice A1 (insAt ys k).length c1), (68, int (insAt ys k).length), (69, int (j : Nat)), (11, .slice o.1 ok.length o.2)], fun ⟨j, ok, o, og⟩ => og, fun _ => Row A1 (rows (insAt ys k)) :: dkL x⟩ (fun z => (insAt ys k).length - z.1) (0, oj, o, og) ⟨Nat.zero_le _, by rw [List.take_zero, List.filter_nil, List.map_nil, List.append_nil], hG⟩ ⟨rfl, rfl, rfl, rfl, rfl, rfl, rfl, rfl, trivial⟩ (.refl _) (by repeat constructor) fun z hz => ?_; obtain ⟨j, ok, o, og⟩ := z; obtain ⟨hj, hOk, hG⟩ := hz; have hj : j ≤ (insAt ys k).length := hj; have hG : GrowK o ok og := hG
     have hlk : ok.length ≤ 7 * 25 + 24 := by
       have h5 : (((insAt ys k).take j).filter fun w => !decide (w ∈ insAt xs k)).length ≤ ((insAt ys k).take j).length := List.length_filter_le _ _; rw [← hOk, List.length_append, List.length_map]; rw [List.length_take] at h5
       omega
     refine hc_seq (hc_region (r_lss rfl rfl rfl (hl_nil (then_n (hc_seq ?_)))))
     first | refine c_dec rfl (fun hb5 => ?_) (fun hb5 => ?_) | refine hc_cond rfl (fun hb5 => ?_) (fun hb5 => ?_)
     ·have hb5' := hb5; try simp at hb5'
      have hj2 : j < (insAt ys k).length := by omega
      have hmt := moreA_take (ws := insAt xs k) hj2; refine hc_skip (then_n (hc_seq (hc_block (hc_seq (hc_region ?_))))); refine r_elem (α := Str) _ _ rfl T.u_strs T.sz_string rfl rfl rfl mB rfl (by omega) (by decide) ?_; refine r_load rfl T.cell_string rfl (cell_row mB (rows_get0 (by omega) rfl)) ?_; refine r_assign rfl rfl (hl_nil (then_n (hc_seq (hc_region (r_move rfl rfl (r_nilCheck rfl rfl ?_)))))); refine r_fieldAddr ⟨x.d, 0, none⟩ rfl rfl T.fa_proof_desk_0 rfl ?_; refine r_indexArr (o := 0) 0 0 rfl T.u_A2_map_int_L_string T.sz_map_int_L_string rfl rfl rfl (by omega) rfl ?_; refine r_load (v := .map (some x.m0)) rfl T.cell_map_int_L_string rfl (cell_blk (by repeat constructor) rfl) ?_; refine r_move rfl rfl ?_; refine r_lookIn (k := (k : Int)) hI0 (by repeat constructor) rfl rfl rfl rfl (map_blk (by repeat constructor)) fun A2 c2 => ?_; refine r_move rfl rfl ?_; refine hl_call F.slices_Contains_strs_cb rfl rfl (slices_Contains_strs_meets (insAt xs k) ((insAt ys k).getD j default) (by omega)) (List.Perm.refl _) ⟨m0, trivial⟩ fun _ _ => ?_; refine r_not rfl rfl (hl_nil (then_n ?_))
      first | refine c_dec rfl (fun hb6 => ?_) (fun hb6 => ?_) | refine hc_cond rfl (fun hb6 => ?_) (fun hb6 => ?_)
      ·have hb6' := hb6; try simp at hb6'
       refine hc_region (r_move rfl rfl (r_move rfl rfl (r_move rfl rfl ?_))); refine r_build _ rfl rfl (fun _ => T.bd_api_Mark_0_1_2 ..) ?_; refine r_buildSlice _ rfl rfl (fun _ => T.bs_L_api_Mark_1 ..) fun gS => ?_; refine r_append (ok.length + 1) (rows (ok ++ [lineM k ((insAt ys k).getD j default)])) T.el_L_api_Mark rfl rfl rfl hG (List.perm_append_comm (l₁ := [_])) (Src.own (cs := #[int (lineM k ((insAt ys k).getD j default)).1, int (lineM k ((insAt ys k).getD j default)).2.1, str (lineM k ((insAt ys k).getD j default)).2.2]) (m := 1) (List.mem_append_right _ m0) rfl rfl) rfl (by rw [rows_append]; rfl) (by unfold maxLen; omega) (by omega) fun A' c' og' hG' => ?_; refine r_assign rfl rfl (hl_nil (inb_n (then_n (hc_region ?_)))); refine r_add _ rfl rfl rfl rfl (by unfold I64; omega) ?_; refine r_move rfl rfl (hl_nil ?_); have e2 : oj ++ (((insAt ys k).take (j + 1)).filter fun w => !decide (w ∈ insAt xs k)).map (lineM k) = ok ++ [lineM k ((insAt ys k).getD j default)] := by rw [hmt, if_neg (by simpa using hb6), List.map_append, ← List.append_assoc, hOk]; rfl
       refine again _ (j + 1, ok ++ [lineM k ((insAt ys k).getD j default)], (A', c'), og') ⟨by omega, e2, by show Grow _ _ _ _ _ _ _; rw [List.length_append]; exact hG'⟩ (by show (insAt ys k).length - (j + 1) < (insAt ys k).length - j; omega) ⟨rfl, rfl, rfl, rfl, rfl, rfl, rfl, by show some (Value.slice A' (ok.length + 1) c') = some (Value.slice A' (ok ++ [_]).length c'); rw [List.length_append]; rfl, trivial⟩ (List.sublist_append_left _ _) (by repeat constructor)
      ·have hb6' := hb6; try simp at hb6'
       refine hc_skip (inb_n (then_n (hc_region ?_))); refine r_add _ rfl rfl rfl rfl (by unfold I64; omega) ?_; refine r_move rfl rfl (hl_nil ?_); have e2 : oj ++ (((insAt ys k).take (j + 1)).filter fun w => !decide (w ∈ insAt xs k)).map (lineM k) = ok := by rw [hmt, if_pos (by simpa using hb6'), List.append_nil, hOk]
       refine again _ (j + 1, ok, o, og) ⟨by omega, e2, hG⟩ (by show (insAt ys k).length - (j + 1) < (insAt ys k).length - j; omega) ⟨rfl, rfl, rfl, rfl, rfl, rfl, rfl, rfl, trivial⟩ (.refl _) (by repeat constructor)
     ·have hb5' := hb5; try simp at hb5'
      have hj2 : j = (insAt ys k).length := by omega
      subst hj2; rw [List.take_length] at hOk; refine hc_exit (then_exit (then_exit (inb_hit (then_n (hc_seq (hc_region (r_move rfl rfl (r_nilCheck rfl rfl ?_)))))))); refine r_fieldAddr ⟨x.d, 2, none⟩ rfl rfl T.fa_proof_desk_1 rfl ?_; refine r_indexArr (o := 2) 0 2 rfl T.u_A2_map_int_api_Mark T.sz_map_int_api_Mark rfl rfl rfl (by omega) rfl ?_; refine r_load (v := .map (some x.q0)) rfl T.cell_map_int_api_Mark rfl (cell_blk (by repeat constructor) rfl) ?_; refine r_move rfl rfl ?_; refine r_lookLast (k := (k : Int)) hL0 rfl rfl rfl rfl (map_blk (by repeat constructor)) ?_; refine r_move rfl rfl (r_extract rfl rfl rfl (r_extract rfl rfl rfl ?_)); refine r_alloc rfl (fun _ => T.al_api_Mark _) fun gA => ?_; refine r_storeS rfl rfl (by first | exact .refl _ | exact perm2 _ _ _ | exact perm3 _ _ _ _ | exact perm4 _ _ _ _ _) T.sz_api_Mark (by rfl) (by rfl) ?_; refine r_assign rfl rfl (hl_nil (then_n (hc_seq (hc_region (r_move rfl rfl (r_nilCheck rfl rfl ?_)))))); refine r_fieldAddr ⟨x.d, 2, none⟩ rfl rfl T.fa_proof_desk_1 rfl ?_; refine r_indexArr (o := 2) 1 3 rfl T.u_A2_map_int_api_Mark T.sz_map_int_api_Mark rfl rfl rfl (by omega) rfl ?_; refine r_load (v := .map (some x.q1)) rfl T.cell_map_int_api_Mark rfl (cell_blk (by repeat constructor) rfl) ?_; refine r_move rfl rfl ?_; refine r_lookLast (k := (k : Int)) hL1 rfl rfl rfl rfl (map_blk (by repeat constructor)) ?_; refine r_move rfl rfl (r_extract rfl rfl rfl (r_extract rfl rfl rfl ?_)); refine r_alloc rfl (fun _ => T.al_api_Mark _) fun gA => ?_; refine r_storeS rfl rfl (by first | exact .refl _ | exact perm2 _ _ _ | exact perm3 _ _ _ _ | exact perm4 _ _ _ _ _) T.sz_api_Mark (by rfl) (by rfl) ?_; refine r_assign rfl rfl (hl_nil (then_n (hc_block (hc_seq (hc_region (r_move rfl rfl (r_move rfl rfl ?_))))))); refine g_split rfl rfl ?_ ?_
      ·intro hg1; have hg1' := hg1; try simp at hg1'
       refine g_yes rfl rfl hg1 (r_move rfl rfl ?_); refine p_t rfl rfl (bt1 hg1) rfl ?_; refine r_move rfl rfl ?_; refine g_split rfl rfl ?_ ?_
       ·intro hg2; have hg2' := hg2; try simp at hg2'
        refine g_yes rfl rfl hg2 ?_
        first | refine r_loadA rfl T.row_api_Mark T.sz_api_Mark rfl mB (by rfl) ?_ | refine r_loadB rfl T.row_api_Mark T.sz_api_Mark rfl mB (by rfl) ?_ | refine r_loadS rfl T.row_api_Mark T.sz_api_Mark rfl rfl (cells_row mB (rows_all (by omega))) ?_
        refine g_yes rfl rfl hg2 ?_
        first | refine r_loadA rfl T.row_api_Mark T.sz_api_Mark rfl mB (by rfl) ?_ | refine r_loadB rfl T.row_api_Mark T.sz_api_Mark rfl mB (by rfl) ?_ | refine r_loadS rfl T.row_api_Mark T.sz_api_Mark rfl rfl (cells_row mB (rows_all (by omega))) ?_
        refine g_yes rfl rfl hg2 ?_; refine r_bin _ rfl rfl rfl (fun _ => T.eqg_api_Mark ..) (fun _ => T.neq_api_Mark ..) ?_; refine p_t rfl rfl (bt1 hg2) rfl ?_; refine r_assign rfl rfl (hl_nil (then_n ?_))
        first | refine c_dec rfl (fun hb7 => ?_) (fun hb7 => ?_) | refine hc_cond rfl (fun hb7 => ?_) (fun hb7 => ?_)
        ·have hb7' := hb7; try simp at hb7'
         refine hc_seq (hc_region (r_assign rfl rfl (r_assign rfl rfl (hl_nil (then_n (hc_ret (inb_ret (inb_ret (then_ret (then_ret (inb_ret ?_))))))))))); refine then_ret ?_; have hc : clashA xs ys k = true := by rw [clash_of hg1' hg2', decide_eq_false (fun e => hb7 (by rw [e]))]; rfl
         have e : mergeP p xs ys = ([], 9) := by rw [mergeP, if_neg hb1, if_neg hb2, mergeO_none (n := k + 1) (by omega) (by rw [mergeO, hM]; simp only; rw [if_pos hc])]
         rw [e]; refine hq_nilrow (α := Mk) ?_; exact ret2 (none, 0) rfl rfl rfl rfl rfl (Nat.le_refl _) (List.nil_sublist _) ⟨m0, trivial⟩
        ·have hb7' := hb7; try simp at hb7'
         refine hc_seq (hc_region (r_move rfl rfl (r_assign rfl rfl (hl_nil (then_n ?_))))); refine c_t rfl (bt1 hg1) ?_; refine hc_region (r_move rfl rfl ?_)
         first | refine r_loadA rfl T.row_api_Mark T.sz_api_Mark rfl mB (by rfl) ?_ | refine r_loadB rfl T.row_api_Mark T.sz_api_Mark rfl mB (by rfl) ?_ | refine r_loadS rfl T.row_api_Mark T.sz_api_Mark rfl rfl (cells_row mB (rows_all (by omega))) ?_
         refine r_buildSlice _ rfl rfl (fun _ => T.bs_L_api_Mark_1 ..) fun gS => ?_; refine r_append (ok.length + 1) (rows (ok ++ [(lastAt xs k).getD default])) T.el_L_api_Mark rfl rfl rfl hG (List.perm_append_comm (l₁ := [_, _, _])) (Src.own (cs := #[int ((lastAt xs k).getD default).1, int ((lastAt xs k).getD default).2.1, str ((lastAt xs k).getD default).2.2]) (m := 1) (List.mem_append_right _ m0) rfl rfl) rfl (by rw [rows_append]; rfl) (by unfold maxLen; omega) (by omega) fun A' c' og' hG' => ?_; refine r_assign rfl rfl (hl_nil (inb_n (inb_n (then_n (hc_region ?_))))); refine r_add _ rfl rfl rfl rfl (by unfold I64; omega) ?_; refine r_move rfl rfl (hl_nil ?_); have hM2 := mergeO_next hM (by rw [clash_of hg1' hg2', decide_eq_true (Classical.not_not.1 hb7)]; rfl) hOj hOk (congrArg (ok ++ ·) (lastL_x hg1')); exact again _ (k + 1, ok ++ [(lastAt xs k).getD default], (A', c'), og') ⟨by omega, hM2, by show Grow _ _ _ _ _ _ _; rw [List.length_append]; exact hG'⟩ (by show p.length + 1 - (k + 1) < p.length + 1 - k; omega) ⟨rfl, rfl, rfl, by show some (Value.slice A' (ok.length + 1) c') = some (Value.slice A' (ok ++ [_]).length c'); rw [List.length_append]; rfl, trivial⟩ (List.sublist_append_left _ _) (by repeat constructor)
       ·intro hg2; have hg2' := hg2; try simp at hg2'
        refine g_no rfl rfl rfl rfl rfl hg2 (g_no rfl rfl rfl rfl rfl hg2 (g_no rfl rfl rfl rfl rfl hg2 ?_)); refine p_f rfl rfl (bf2 hg2) rfl ?_; refine r_assign rfl rfl (hl_nil (then_n (c_f rfl rfl (hc_seq (hc_region (r_move rfl rfl (r_assign rfl rfl (hl_nil (then_n ?_))))))))); refine c_t rfl (bt1 hg1) ?_; refine hc_region (r_move rfl rfl ?_)
        first | refine r_loadA rfl T.row_api_Mark T.sz_api_Mark rfl mB (by rfl) ?_ | refine r_loadB rfl T.row_api_Mark T.sz_api_Mark rfl mB (by rfl) ?_ | refine r_loadS rfl T.row_api_Mark T.sz_api_Mark rfl rfl (cells_row mB (rows_all (by omega))) ?_
        refine r_buildSlice _ rfl rfl (fun _ => T.bs_L_api_Mark_1 ..) fun gS => ?_; refine r_append (ok.length + 1) (rows (ok ++ [(lastAt xs k).getD default])) T.el_L_api_Mark rfl rfl rfl hG (List.perm_append_comm (l₁ := [_, _, _])) (Src.own (cs := #[int ((lastAt xs k).getD default).1, int ((lastAt xs k).getD default).2.1, str ((lastAt xs k).getD default).2.2]) (m := 1) (List.mem_append_right _ m0) rfl rfl) rfl (by rw [rows_append]; rfl) (by unfold maxLen; omega) (by omega) fun A' c' og' hG' => ?_; refine r_assign rfl rfl (hl_nil (inb_n (inb_n (then_n (hc_region ?_))))); refine r_add _ rfl rfl rfl rfl (by unfold I64; omega) ?_; refine r_move rfl rfl (hl_nil ?_); have hg2f : (lastAt ys k).isSome = false := by simpa using hg2
        have hM2 := mergeO_next hM (clash_y hg2f) hOj hOk (congrArg (ok ++ ·) (lastL_x hg1')); exact again _ (k + 1, ok ++ [(lastAt xs k).getD default], (A', c'), og') ⟨by omega, hM2, by show Grow _ _ _ _ _ _ _; rw [List.length_append]; exact hG'⟩ (by show p.length + 1 - (k + 1) < p.length + 1 - k; omega) ⟨rfl, rfl, rfl, by show some (Value.slice A' (ok.length + 1) c') = some (Value.slice A' (ok ++ [_]).length c'); rw [List.length_append]; rfl, trivial⟩ (List.sublist_append_left _ _) (by repeat constructor)
      ·intro hg1; have hg1' := hg1; try simp at hg1'
       refine g_no rfl rfl rfl rfl rfl hg1 ?_; refine p_f rfl rfl (bf2 hg1) rfl ?_; refine r_move rfl rfl (g_no rfl rfl rfl rfl rfl rfl (g_no rfl rfl rfl rfl rfl rfl (g_no rfl rfl rfl rfl rfl rfl (p_f rfl rfl rfl rfl (r_assign rfl rfl (hl_nil (then_n (c_f rfl rfl (hc_seq (hc_region (r_move rfl rfl ?_))))))))))); refine r_assign rfl rfl (hl_nil (then_n ?_)); refine c_f rfl (bf2 hg1) ?_; refine hc_seq (hc_region (r_move rfl rfl (r_assign rfl rfl (hl_nil (then_n ?_)))))
       first | refine c_dec rfl (fun hb9 => ?_) (fun hb9 => ?_) | refine hc_cond rfl (fun hb9 => ?_) (fun hb9 => ?_)
       ·have hb9' := hb9; try simp at hb9'
        refine hc_region (r_move rfl rfl ?_)
        first | refine r_loadA rfl T.row_api_Mark T.sz_api_Mark rfl mB (by rfl) ?_ | refine r_loadB rfl T.row_api_Mark T.sz_api_Mark rfl mB (by rfl) ?_ | refine r_loadS rfl T.row_api_Mark T.sz_api_Mark rfl rfl (cells_row mB (rows_all (by omega))) ?_
        refine r_buildSlice _ rfl rfl (fun _ => T.bs_L_api_Mark_1 ..) fun gS => ?_; refine r_append (ok.length + 1) (rows (ok ++ [(lastAt ys k).getD default])) T.el_L_api_Mark rfl rfl rfl hG (List.perm_append_comm (l₁ := [_, _, _])) (Src.own (cs := #[int ((lastAt ys k).getD default).1, int ((lastAt ys k).getD default).2.1, str ((lastAt ys k).getD default).2.2]) (m := 1) (List.mem_append_right _ m0) rfl rfl) rfl (by rw [rows_append]; rfl) (by unfold maxLen; omega) (by omega) fun A' c' og' hG' => ?_; refine r_assign rfl rfl (hl_nil (inb_n (inb_n (then_n (hc_region ?_))))); refine r_add _ rfl rfl rfl rfl (by unfold I64; omega) ?_; refine r_move rfl rfl (hl_nil ?_); have hg1f : (lastAt xs k).isSome = false := by simpa using hg1
        have hM2 := mergeO_next hM (clash_x hg1f) hOj hOk (congrArg (ok ++ ·) (lastL_y hg1f (by simpa using hb9))); exact again _ (k + 1, ok ++ [(lastAt ys k).getD default], (A', c'), og') ⟨by omega, hM2, by show Grow _ _ _ _ _ _ _; rw [List.length_append]; exact hG'⟩ (by show p.length + 1 - (k + 1) < p.length + 1 - k; omega) ⟨rfl, rfl, rfl, by show some (Value.slice A' (ok.length + 1) c') = some (Value.slice A' (ok ++ [_]).length c'); rw [List.length_append]; rfl, trivial⟩ (List.sublist_append_left _ _) (by repeat constructor)
       ·have hb9' := hb9; try simp at hb9'
        refine hc_skip (inb_n (inb_n (then_n (hc_region ?_)))); refine r_add _ rfl rfl rfl rfl (by unfold I64; omega) ?_; refine r_move rfl rfl (hl_nil ?_); have hg1f : (lastAt xs k).isSome = false := by simpa using hg1
        have hM2 := mergeO_next hM (clash_x hg1f) hOj hOk ((congrArg (ok ++ ·) (lastL_n hg1f (by simpa using hb9))).trans (List.append_nil _)); exact again _ (k + 1, ok, o, og) ⟨by omega, hM2, hG⟩ (by show p.length + 1 - (k + 1) < p.length + 1 - k; omega) ⟨rfl, rfl, rfl, rfl, trivial⟩ (List.sublist_append_right [_, _] _) (by repeat constructor)
   ·have hb3' := hb3; try simp at hb3'
    have hk2 : k = p.length + 1 := by omega
    subst hk2; refine hc_exit (then_exit (then_exit (inb_hit (then_n (hc_seq (hc_seq (hc_region (r_move rfl rfl ?_)))))))); refine r_len_sl rfl T.u_L_api_Mark rfl ?_; refine r_gtr rfl rfl rfl (hl_nil (then_n ?_))
    first | refine c_dec rfl (fun hb10 => ?_) (fun hb10 => ?_) | refine hc_cond rfl (fun hb10 => ?_) (fun hb10 => ?_)
    ·have hb10' := hb10; try simp at hb10'
     refine hc_seq (hc_region (r_assign rfl rfl (r_assign rfl rfl (hl_nil (then_n (hc_ret (then_ret ?_))))))); have e : mergeP p xs ys = ([], 6) := by rw [mergeP, if_neg hb1, if_neg hb2, hM]; simp only; rw [if_pos (by omega)]
     rw [e]; refine hq_nilrow (α := Mk) ?_; exact ret2 (none, 0) rfl rfl rfl rfl rfl (Nat.le_refl _) (List.nil_sublist _) ⟨m0, trivial⟩
    ·have hb10' := hb10; try simp at hb10'
     refine hc_skip (then_n (hc_seq (hc_region (r_move rfl rfl (r_assign rfl rfl (r_assign rfl rfl (hl_nil (then_n (hc_ret ?_))))))))); have e : mergeP p xs ys = (out, 0) := by rw [mergeP, if_neg hb1, if_neg hb2, hM]; simp only; rw [if_neg (by omega)]
     rw [e]; refine hq_grown0 hG ?_; exact ret2 o rfl rfl rfl rfl rfl hG.le (.refl _) ⟨m0, trivial⟩
end Go.Proofs.Ytpfbbggmcbhboaa
end
section
namespace Go.Proofs.Ytpfbbggmcbhboaa
open Go Go.W
set_option maxRecDepth 20000
attribute [local irreducible] HL HC HQ HB Row Rows2 Blk Facts
def insM (xs : List Mk) (k : Int) : List Mk := xs.filter fun m => decide (m.2.1 = k ∧ m.1 = 1)
def othM (xs : List Mk) (k : Int) : List Mk := xs.filter fun m => decide (m.2.1 = k ∧ m.1 ≠ 1)
end Go.Proofs.Ytpfbbggmcbhboaa
end
section
namespace Go.Proofs.Ytpfbbggmcbhboaa
open Go Go.W
set_option maxRecDepth 20000
attribute [local irreducible] HL HC HQ HB Row Rows2 Blk Facts
def clashR (xs ys : List Mk) (k : Int) : Bool := decide (0 < (othM xs k).length ∧ 0 < (othM ys k).length ∧ ¬ (othM xs k).getD 0 default = (othM ys k).getD 0 default)
def moreR (ws vs : List Mk) : List Mk := vs.filter fun m => !decide (m ∈ ws)
def lastR (xs ys : List Mk) (k : Int) : List Mk := if (othM xs k).length = 0 then othM ys k else othM xs k
def lineRef (xs ys : List Mk) (k : Int) : List Mk := insM xs k ++ moreR (insM xs k) (insM ys k) ++ lastR xs ys k
def mergeQ (xs ys : List Mk) : Nat → Option (List Mk)
  | 0 => some []
  | n + 1 => match mergeQ xs ys n with
    | none => none
    | some out => if clashR xs ys n = true then none else some (out ++ lineRef xs ys n)
def mergeR (p : List Str) (xs ys : List Mk) : List Mk × Int :=
  if ¬ pageErr p = 0 then ([], pageErr p) else if ¬ marksErr p.length xs = 0 then ([], marksErr p.length xs) else if ¬ marksErr p.length ys = 0 then ([], marksErr p.length ys)
  else match mergeQ xs ys (p.length + 1) with
    | none => ([], 9)
    | some out => if 12 < out.length then ([], 6) else (out, 0)
theorem mergeQ_none {xs ys : List Mk} : ∀ {n m : Nat}, n ≤ m → mergeQ xs ys n = none → mergeQ xs ys m = none
  | n, m, h, hn => by
    induction h with
    | refl => exact hn
    | step _ ih => rw [mergeQ, ih]
theorem moreR_len (ws vs : List Mk) : (moreR ws vs).length ≤ vs.length := List.length_filter_le _ _
theorem marksErr_len {n : Nat} {l : List Mk} (h : marksErr n l = 0) : l.length ≤ 12 := by
  unfold marksErr at h
  split at h <;> omega
end Go.Proofs.Ytpfbbggmcbhboaa
end
section
namespace Go.Proofs.Ytpfbbggmcbhboaa
open Go Go.W
set_option maxRecDepth 20000
attribute [local irreducible] HL HC HQ HB Row Rows2 Blk Facts
def stockN (ps : List (Sl Str)) (s : Str) : Nat := ps.foldl (fun n p => max n (countN p.l s)) 0
theorem originN_take {ps : List (Sl Str)} {s : Str} {n : Nat} : ∀ k, k ≤ n → n ≤ ps.length → originN (ps.take n) s k = originN ps s k
  | 0, _, _ => rfl
  | k + 1, h, h2 => by
    have : (ps.take n).getD k default = ps.getD k default := by
      rw [getD_at (by rw [List.length_take]; omega), getD_at (by omega), List.getElem_take]
    rw [originN, originN, this, originN_take k (by omega) h2]
theorem origin_take_meets {A : Option Addr} {c : Nat} {ps : List (Sl Str)} (s : Str) {n : Nat} (hn : n ≤ ps.length) (hl : ps.length ≤ 1000000) (hp : ∀ p ∈ ps, p.l.length ≤ 1000000) : Meets Try.prog F.proof_origin [.slice A n c, str s] { LI := [Rows2 A (ps.take n)], val := fun _ : Unit => int (originN ps s n) } := by
  have h := proof_origin_meets (A := A) (c := c) (ps.take n) s (by rw [List.length_take]; omega) (fun q hq => hp q (List.mem_of_mem_take hq)); rw [List.length_take, Nat.min_eq_left hn, originN_take _ (Nat.le_refl _) hn] at h; exact h
theorem applyP_len (p : List Str) (l : List Mk) : (applyP p l).1.length ≤ 6 := by
  unfold applyP
  split
  · simp
  · split
    · simp
    · simp only; omega
def lastP (ps : List (Sl Str)) : Sl Str := ps.getD (ps.length - 1) default
def flawP (ps : List (Sl Str)) (r : List Str) (m : Mk) : Int × Int := (if m.1 = 3 then 1 else if ¬ m.2.2 ∈ r ∧ 0 ≤ originN ps m.2.2 (ps.length - 1) then 2 else 3, m.2.1)
def flawR (ps : List (Sl Str)) (r : List Str) (m : Mk) : Int × Int := (if m.1 = 3 then 1 else if countN r m.2.2 = 0 ∧ 0 < stockN (ps.take (ps.length - 1)) m.2.2 then 2 else 3, m.2.1)
def lookP (ps : List (Sl Str)) (l : List Mk) (p : List Str) : (Int × Int) × Int :=
  if ¬ yearsErr (years ps) = 0 then ((0, 0), yearsErr (years ps)) else if ps.length = 0 then ((0, 0), 7)
  else if ¬ (applyP (lastP ps).l l).2 = 0 then ((0, 0), (applyP (lastP ps).l l).2) else if ¬ pageErr p = 0 then ((0, 0), pageErr p)
  else if (diffP (applyP (lastP ps).l l).1 p 0 0).2.length = 0 then ((0, 0), 0)
  else (flawP ps (applyP (lastP ps).l l).1 ((diffP (applyP (lastP ps).l l).1 p 0 0).2.getD 0 default), 0)
def lookR (ps : List (Sl Str)) (l : List Mk) (p : List Str) : (Int × Int) × Int :=
  if ¬ yearsErr (years ps) = 0 then ((0, 0), yearsErr (years ps)) else if ps.length = 0 then ((0, 0), 7)
  else if ¬ (applyR (lastP ps).l l).2 = 0 then ((0, 0), (applyR (lastP ps).l l).2)
  else if ¬ (diffE (applyR (lastP ps).l l).1 p (diffR (applyR (lastP ps).l l).1 p 0 0)).2 = 0 then ((0, 0), (diffE (applyR (lastP ps).l l).1 p (diffR (applyR (lastP ps).l l).1 p 0 0)).2)
  else if (diffE (applyR (lastP ps).l l).1 p (diffR (applyR (lastP ps).l l).1 p 0 0)).1.length = 0 then ((0, 0), 0)
  else (flawR ps (applyR (lastP ps).l l).1 ((diffE (applyR (lastP ps).l l).1 p (diffR (applyR (lastP ps).l l).1 p 0 0)).1.getD 0 default), 0)
def lookV (r : (Int × Int) × Int) : Value := .tuple #[.agg #[int r.1.1, int r.1.2], int r.2]
theorem proof_Look_meets {A B C : Option Addr} {ca cb cc : Nat} (ps : List (Sl Str)) (l : List Mk) (p : List Str) (hca : ps.length ≤ ca) (hcap : ∀ q ∈ ps, q.l.length ≤ q.c) : Meets Try.prog F.proof_Look [.slice A ps.length ca, .slice B l.length cb, .slice C p.length cc] { LI := [Rows2 A ps, Row B (rows l), Row C (rows p)], val := fun _ : Unit => lookV (lookP ps l p) } := by
 refine meets_intro F.proof_Look_f rfl (Nat.le_of_ble_eq_true rfl) fun w0 => ?_; refine hc_seq (hc_region ?_); refine r_alloc rfl (fun _ => T.al_api_Flaw _) fun gA => ?_; refine r_assign rfl rfl (hl_nil (then_n (hc_seq (hc_seq (hc_region (r_move rfl rfl ?_)))))); refine hl_call F.proof_yearsError_cb rfl rfl (proof_yearsError_meets ps) (List.Perm.refl _) ⟨m0, trivial⟩ fun _ _ => ?_; refine r_assign rfl rfl (hl_nil (then_n (hc_seq (hc_region (r_move rfl rfl (r_neq rfl rfl rfl (hl_nil (then_n ?_))))))))
 first | refine c_dec rfl (fun hb1 => ?_) (fun hb1 => ?_) | refine hc_cond rfl (fun hb1 => ?_) (fun hb1 => ?_)
 ·have hb1' := hb1; try simp at hb1'
  have e : lookP ps l p = ((0, 0), yearsErr (years ps)) := by rw [lookP, if_pos hb1]
  rw [e]; refine hc_seq (hc_region ?_); refine r_build _ rfl rfl (fun _ => T.bd_api_Flaw_ ..) ?_; refine r_move rfl rfl ?_; refine r_storeS rfl rfl (by first | exact .refl _ | exact perm2 _ _ _ | exact perm3 _ _ _ _ | exact perm4 _ _ _ _ _) T.sz_api_Flaw (by rfl) (by rfl) ?_; refine r_assign rfl rfl (hl_nil (then_n (hc_ret (then_ret ?_)))); exact ret_row_tmp () rfl rfl rfl T.row_api_Flaw T.sz_api_Flaw rfl m0 rfl rfl trivial (List.nil_sublist _) trivial
 ·have hb1' := hb1; try simp at hb1'
  obtain ⟨h3, h4⟩ := yearsErr_zero (Classical.not_not.1 hb1); refine hc_skip (then_n (hc_seq (hc_seq (hc_region (r_move rfl rfl ?_))))); refine r_len_sl rfl T.u_pages rfl ?_; refine r_eql rfl rfl rfl (hl_nil (then_n ?_))
  first | refine c_dec rfl (fun hb2 => ?_) (fun hb2 => ?_) | refine hc_cond rfl (fun hb2 => ?_) (fun hb2 => ?_)
  ·have hb2' := hb2; try simp at hb2'
   have e : lookP ps l p = ((0, 0), 7) := by rw [lookP, if_neg hb1, if_pos (by omega)]
   rw [e]; refine hc_seq (hc_region ?_); refine r_build _ rfl rfl (fun _ => T.bd_api_Flaw_ ..) ?_; refine r_storeS rfl rfl (by first | exact .refl _ | exact perm2 _ _ _ | exact perm3 _ _ _ _ | exact perm4 _ _ _ _ _) T.sz_api_Flaw (by rfl) (by rfl) ?_; refine r_assign rfl rfl (hl_nil (then_n (hc_ret (then_ret ?_)))); exact ret_row_tmp () rfl rfl rfl T.row_api_Flaw T.sz_api_Flaw rfl m0 rfl rfl trivial (List.nil_sublist _) trivial
  ·have hb2' := hb2; try simp at hb2'
   have hb2 : ¬ ps.length = 0 := by omega
   have hmem : lastP ps ∈ ps := getD_mem (by omega); refine hc_skip (then_n (hc_seq (hc_region (r_move rfl rfl ?_)))); refine r_len_sl rfl T.u_pages rfl ?_; refine r_sub ((ps.length - 1 : Nat) : Int) rfl rfl rfl (by omega) (by unfold I64; omega) ?_; refine r_assign rfl rfl (hl_nil (then_n (hc_seq (hc_outer m0 (hc_region (r_move rfl rfl (r_move rfl rfl ?_))))))); refine r_elem (α := Sl Str) ps (ps.length - 1) rfl T.u_pages T.sz_strs rfl rfl rfl m0 rfl (by omega) (by decide) ?_; refine r_load rfl T.cell_strs rfl (cell_row mB (rows_get0 (by omega) rfl)) ?_; refine r_move rfl rfl ?_; refine hl_inner (p := lastP ps) m1 hmem ?_; refine hl_call F.proof_Apply_cb rfl rfl (proof_Apply_meets (lastP ps).l l (hcap _ hmem)) (List.Perm.refl _) ⟨m0, m3, trivial⟩ fun x hx => ?_; have hx : (applyP (lastP ps).l l).1.length ≤ x.2 := hx; have hal := applyP_len (lastP ps).l l; refine r_move rfl rfl (r_extract rfl rfl rfl (r_extract rfl rfl rfl (r_assign rfl rfl (r_assign rfl rfl (hl_nil (then_n (hc_seq (hc_seq (hc_region (r_move rfl rfl (r_neq rfl rfl rfl ?_))))))))))); refine hl_nil (then_n ?_)
   first | refine c_dec rfl (fun hb3 => ?_) (fun hb3 => ?_) | refine hc_cond rfl (fun hb3 => ?_) (fun hb3 => ?_)
   ·have hb3' := hb3; try simp at hb3'
    have e : lookP ps l p = ((0, 0), (applyP (lastP ps).l l).2) := by rw [lookP, if_neg hb1, if_neg hb2, if_pos hb3]
    rw [e]; refine hc_seq (hc_region ?_); refine r_build _ rfl rfl (fun _ => T.bd_api_Flaw_ ..) ?_; refine r_move rfl rfl ?_; refine r_storeS rfl rfl (by first | exact .refl _ | exact perm2 _ _ _ | exact perm3 _ _ _ _ | exact perm4 _ _ _ _ _) T.sz_api_Flaw (by rfl) (by rfl) ?_; refine r_assign rfl rfl (hl_nil (then_n (hc_ret (then_ret ?_)))); exact ret_row_tmp () rfl rfl rfl T.row_api_Flaw T.sz_api_Flaw rfl m0 rfl rfl trivial (List.nil_sublist _) trivial
   ·have hb3' := hb3; try simp at hb3'
    refine hc_skip (then_n (hc_seq (hc_seq (hc_region (r_move rfl rfl ?_))))); refine hl_call F.proof_Check_cb rfl rfl (proof_Check_meets p) (List.Perm.refl _) ⟨m5, trivial⟩ fun _ _ => ?_; refine r_assign rfl rfl (hl_nil (then_n (hc_seq (hc_region (r_move rfl rfl (r_neq rfl rfl rfl (hl_nil (then_n ?_))))))))
    first | refine c_dec rfl (fun hb4 => ?_) (fun hb4 => ?_) | refine hc_cond rfl (fun hb4 => ?_) (fun hb4 => ?_)
    ·have hb4' := hb4; try simp at hb4'
     have e : lookP ps l p = ((0, 0), pageErr p) := by rw [lookP, if_neg hb1, if_neg hb2, if_neg hb3, if_pos hb4]
     rw [e]; refine hc_seq (hc_region ?_); refine r_build _ rfl rfl (fun _ => T.bd_api_Flaw_ ..) ?_; refine r_move rfl rfl ?_; refine r_storeS rfl rfl (by first | exact .refl _ | exact perm2 _ _ _ | exact perm3 _ _ _ _ | exact perm4 _ _ _ _ _) T.sz_api_Flaw (by rfl) (by rfl) ?_; refine r_assign rfl rfl (hl_nil (then_n (hc_ret (then_ret ?_)))); exact ret_row_tmp () rfl rfl rfl T.row_api_Flaw T.sz_api_Flaw rfl m0 rfl rfl trivial (List.nil_sublist _) trivial
    ·have hb4' := hb4; try simp at hb4'
     have hp6 := pageErr_zero (Classical.not_not.1 hb4); refine hc_skip (then_n (hc_seq (hc_region (r_move rfl rfl (r_move rfl rfl ?_))))); refine hl_call F.proof_diff_cb rfl rfl (proof_diff_meets (applyP (lastP ps).l l).1 p (by omega) (by omega)) (List.Perm.refl _) ⟨m0, m5, trivial⟩ fun y _ => ?_; refine r_assign rfl rfl (hl_nil (then_n (hc_seq (hc_seq (hc_region (r_move rfl rfl ?_)))))); refine r_len_sl rfl T.u_L_api_Mark rfl ?_; refine r_eql rfl rfl rfl (hl_nil (then_n ?_))
     first | refine c_dec rfl (fun hb5 => ?_) (fun hb5 => ?_) | refine hc_cond rfl (fun hb5 => ?_) (fun hb5 => ?_)
     ·have hb5' := hb5; try simp at hb5'
      have e : lookP ps l p = ((0, 0), 0) := by rw [lookP, if_neg hb1, if_neg hb2, if_neg hb3, if_neg hb4, if_pos (by omega)]
      rw [e]; refine hc_seq (hc_region ?_); refine r_build _ rfl rfl (fun _ => T.bd_api_Flaw_ ..) ?_; refine r_storeS rfl rfl (by first | exact .refl _ | exact perm2 _ _ _ | exact perm3 _ _ _ _ | exact perm4 _ _ _ _ _) T.sz_api_Flaw (by rfl) (by rfl) ?_; refine r_assign rfl rfl (hl_nil (then_n (hc_ret (then_ret ?_)))); exact ret_row_tmp () rfl rfl rfl T.row_api_Flaw T.sz_api_Flaw rfl m0 rfl rfl trivial (List.nil_sublist _) trivial
     ·have hb5' := hb5; try simp at hb5'
      have hb5 : ¬ (diffP (applyP (lastP ps).l l).1 p 0 0).2.length = 0 := by omega
      have e : lookP ps l p = (flawP ps (applyP (lastP ps).l l).1 ((diffP (applyP (lastP ps).l l).1 p 0 0).2.getD 0 default), 0) := by rw [lookP, if_neg hb1, if_neg hb2, if_neg hb3, if_neg hb4, if_neg hb5]
      rw [e]; refine hc_skip (then_n (hc_seq (hc_region (r_move rfl rfl ?_)))); refine r_elem (α := Mk) (diffP (applyP (lastP ps).l l).1 p 0 0).2 0 rfl T.u_L_api_Mark T.sz_api_Mark rfl rfl rfl m0 rfl (by omega) (by decide) ?_; refine r_loadS rfl T.row_api_Mark T.sz_api_Mark rfl rfl (cells_row m0 (rows_all (l := (diffP (applyP (lastP ps).l l).1 p 0 0).2) (i := 0) (by omega))) ?_; refine r_alloc rfl (fun _ => T.al_api_Mark _) fun gA => ?_; refine r_storeS rfl rfl (by first | exact .refl _ | exact perm2 _ _ _ | exact perm3 _ _ _ _ | exact perm4 _ _ _ _ _) T.sz_api_Mark (by rfl) (by rfl) ?_; refine hl_nil (then_n (hc_seq (hc_region (r_assign rfl rfl (hl_nil (then_n (hc_seq (hc_block (hc_seq ?_))))))))); generalize ((diffP (applyP (lastP ps).l l).1 p 0 0).2.getD 0 default) = m at *; generalize (applyP (lastP ps).l l) = r at *; obtain ⟨mk, ma, mt⟩ := m; refine hc_region ?_
      first | refine r_fieldAddr ⟨_, 0, none⟩ rfl rfl T.fa_api_Mark_0 rfl ?_ | refine r_fieldAddr _ rfl rfl T.fa_api_Mark_0 rfl ?_
      first | refine r_load rfl T.cell_int rfl (cell_own mB rfl) ?_ | refine r_load rfl T.cell_int rfl (cell_blk mB rfl) ?_ | refine r_load rfl T.cell_int rfl (cell_row mB (rows_get0 (by omega) rfl)) ?_ | refine r_load rfl T.cell_int rfl (cell_row_f mB (rows_get (by omega) rfl)) ?_
      refine r_eql rfl rfl rfl (r_assign rfl rfl (hl_nil (then_n ?_)))
      first | refine c_dec rfl (fun hb6 => ?_) (fun hb6 => ?_) | refine hc_cond rfl (fun hb6 => ?_) (fun hb6 => ?_)
      ·have hb6' := hb6; try simp at hb6'
       simp only at hb6; refine hc_region (r_assign rfl rfl (hl_nil (inb_n (then_n (hc_seq (hc_region (r_move rfl rfl ?_)))))))
       first | refine r_fieldAddr ⟨_, 1, none⟩ rfl rfl T.fa_api_Mark_1 rfl ?_ | refine r_fieldAddr _ rfl rfl T.fa_api_Mark_1 rfl ?_
       first | refine r_load rfl T.cell_int rfl (cell_own mB rfl) ?_ | refine r_load rfl T.cell_int rfl (cell_blk mB rfl) ?_ | refine r_load rfl T.cell_int rfl (cell_row mB (rows_get0 (by omega) rfl)) ?_ | refine r_load rfl T.cell_int rfl (cell_row_f mB (rows_get (by omega) rfl)) ?_
       refine r_build _ rfl rfl (fun _ => T.bd_api_Flaw_0_1 ..) ?_; refine r_storeS rfl rfl (by first | exact .refl _ | exact perm2 _ _ _ | exact perm3 _ _ _ _ | exact perm4 _ _ _ _ _) T.sz_api_Flaw (by rfl) (by rfl) ?_; refine r_assign rfl rfl (hl_nil (then_n (hc_ret ?_))); exact ret_row_tmp () rfl rfl rfl T.row_api_Flaw T.sz_api_Flaw rfl m0 (by rw [lookV, flawP, if_pos hb6]) rfl trivial (List.nil_sublist _) trivial
      ·have hb6' := hb6; try simp at hb6'
       refine hc_seq ?_; refine hc_draw 11 mixed (by decide) (by decide) rfl rfl ?_; refine hb_ex _ rfl rfl rfl (fun w1 => r_move rfl rfl (hl_nil (qe_done rfl))) ?_
       apply hb_ex _ rfl rfl rfl
       ·intro w1
        first | refine r_fieldAddr ⟨_, 2, none⟩ rfl rfl T.fa_api_Mark_2 rfl ?_ | refine r_fieldAddr _ rfl rfl T.fa_api_Mark_2 rfl ?_
        refine hl_nil ?_; exact qe_done rfl
       apply hb_ex _ rfl rfl rfl
       ·intro w1
        first | refine r_load rfl T.cell_string rfl (cell_blk mB rfl) ?_ | refine r_load rfl T.cell_string rfl (cell_own mB rfl) ?_ | refine r_load rfl T.cell_string rfl (cell_row mB (rows_get0 (by omega) rfl)) ?_ | refine r_load rfl T.cell_string rfl (cell_row_f mB (rows_get (by omega) rfl)) ?_
        refine hl_nil ?_; exact qe_done rfl
       refine hb_ex _ rfl rfl rfl (fun w1 => hl_call F.slices_Contains_strs_cb rfl rfl (slices_Contains_strs_meets r.1 mt (by omega)) (List.Perm.refl _) ⟨m3, trivial⟩ fun _ _ => (hl_nil (qe_done rfl))) ?_; refine hb_ex _ rfl rfl rfl (fun w1 => r_not rfl rfl (hl_nil (qe_done rfl))) ?_; refine hb_ex _ rfl rfl rfl (fun w1 => r_move rfl rfl (hl_nil (qe_done rfl))) ?_; refine hb_split (t := 68) (want := true) rfl ?_ ?_
       ·intro hg1; have hg1' := hg1; try simp at hg1'
        apply hb_ex _ rfl rfl rfl
        ·intro w1; refine g_yes rfl rfl hg1 (r_move rfl rfl (hl_nil ?_)); exact qe_done rfl
        apply hb_ex _ rfl rfl rfl
        ·intro w1; refine g_yes rfl rfl hg1 (r_move rfl rfl (hl_nil ?_)); exact qe_done rfl
        apply hb_ex _ rfl rfl rfl
        ·intro w1; refine g_yes rfl rfl hg1 ?_; refine r_slice_hi (ps.length - 1) rfl T.u_pages T.sz_strs rfl rfl rfl (by omega) ?_; refine hl_nil ?_; exact qe_done rfl
        apply hb_ex _ rfl rfl rfl
        ·intro w1; refine g_yes rfl rfl hg1 ?_
         first | refine r_fieldAddr ⟨_, 2, none⟩ rfl rfl T.fa_api_Mark_2 rfl ?_ | refine r_fieldAddr _ rfl rfl T.fa_api_Mark_2 rfl ?_
         refine hl_nil ?_; exact qe_done rfl
        apply hb_ex _ rfl rfl rfl
        ·intro w1; refine g_yes rfl rfl hg1 ?_
         first | refine r_load rfl T.cell_string rfl (cell_blk mB rfl) ?_ | refine r_load rfl T.cell_string rfl (cell_own mB rfl) ?_ | refine r_load rfl T.cell_string rfl (cell_row mB (rows_get0 (by omega) rfl)) ?_ | refine r_load rfl T.cell_string rfl (cell_row_f mB (rows_get (by omega) rfl)) ?_
         refine hl_nil ?_; exact qe_done rfl
        refine hb_nil ⟨rfl, ?_⟩; refine g_yes rfl rfl hg1 ?_; refine hl_take2 (A := A) (ps := ps) (ps.length - 1) m4 ?_; refine hl_call (vs := [.slice A (ps.length - 1) ca, str mt]) F.proof_origin_cb rfl rfl (origin_take_meets mt (by omega) (by omega) (fun q hq => by have := h4 q hq; omega)) (List.Perm.refl _) ⟨m0, trivial⟩ fun _ _ => ?_; refine g_yes rfl rfl hg1 (r_geq rfl rfl rfl ?_); refine p_t rfl rfl (bt1 hg1) rfl ?_; refine r_assign rfl rfl (hl_nil (then_n ?_))
        first | refine c_dec rfl (fun hb7 => ?_) (fun hb7 => ?_) | refine hc_cond rfl (fun hb7 => ?_) (fun hb7 => ?_)
        ·have hb7' := hb7; try simp at hb7'
         refine hc_region (r_assign rfl rfl (hl_nil (inb_n (then_n (hc_seq (hc_region (r_move rfl rfl ?_)))))))
         first | refine r_fieldAddr ⟨_, 1, none⟩ rfl rfl T.fa_api_Mark_1 rfl ?_ | refine r_fieldAddr _ rfl rfl T.fa_api_Mark_1 rfl ?_
         first | refine r_load rfl T.cell_int rfl (cell_own mB rfl) ?_ | refine r_load rfl T.cell_int rfl (cell_blk mB rfl) ?_ | refine r_load rfl T.cell_int rfl (cell_row mB (rows_get0 (by omega) rfl)) ?_ | refine r_load rfl T.cell_int rfl (cell_row_f mB (rows_get (by omega) rfl)) ?_
         refine r_build _ rfl rfl (fun _ => T.bd_api_Flaw_0_1 ..) ?_; refine r_storeS rfl rfl (by first | exact .refl _ | exact perm2 _ _ _ | exact perm3 _ _ _ _ | exact perm4 _ _ _ _ _) T.sz_api_Flaw (by rfl) (by rfl) ?_; refine r_assign rfl rfl (hl_nil (then_n (hc_ret ?_))); exact ret_row_tmp () rfl rfl rfl T.row_api_Flaw T.sz_api_Flaw rfl m0 (by rw [lookV, flawP, if_neg hb6, if_pos (by simpa using ⟨hg1', hb7⟩)]) rfl trivial (List.nil_sublist _) trivial
        ·have hb7' := hb7; try simp at hb7'
         refine hc_skip (inb_n (then_n (hc_seq (hc_region (r_move rfl rfl ?_)))))
         first | refine r_fieldAddr ⟨_, 1, none⟩ rfl rfl T.fa_api_Mark_1 rfl ?_ | refine r_fieldAddr _ rfl rfl T.fa_api_Mark_1 rfl ?_
         first | refine r_load rfl T.cell_int rfl (cell_own mB rfl) ?_ | refine r_load rfl T.cell_int rfl (cell_blk mB rfl) ?_ | refine r_load rfl T.cell_int rfl (cell_row mB (rows_get0 (by omega) rfl)) ?_ | refine r_load rfl T.cell_int rfl (cell_row_f mB (rows_get (by omega) rfl)) ?_
         refine r_build _ rfl rfl (fun _ => T.bd_api_Flaw_0_1 ..) ?_; refine r_storeS rfl rfl (by first | exact .refl _ | exact perm2 _ _ _ | exact perm3 _ _ _ _ | exact perm4 _ _ _ _ _) T.sz_api_Flaw (by rfl) (by rfl) ?_; refine r_assign rfl rfl (hl_nil (then_n (hc_ret ?_))); exact ret_row_tmp () rfl rfl rfl T.row_api_Flaw T.sz_api_Flaw rfl m0 (by rw [lookV, flawP, if_neg hb6, if_neg (by simp_all)]) rfl trivial (List.nil_sublist _) trivial
       ·intro hg1; have hg1' := hg1; try simp at hg1'
        refine hb_ex _ rfl rfl rfl (fun w1 => g_no rfl rfl rfl rfl rfl hg1 (hl_nil (qe_done rfl))) ?_; refine hb_ex _ rfl rfl rfl (fun w1 => g_no rfl rfl rfl rfl rfl hg1 (hl_nil (qe_done rfl))) ?_; refine hb_ex _ rfl rfl rfl (fun w1 => g_no rfl rfl rfl rfl rfl hg1 (hl_nil (qe_done rfl))) ?_; refine hb_ex _ rfl rfl rfl (fun w1 => g_no rfl rfl rfl rfl rfl hg1 (hl_nil (qe_done rfl))) ?_; refine hb_ex _ rfl rfl rfl (fun w1 => g_no rfl rfl rfl rfl rfl hg1 (hl_nil (qe_done rfl))) ?_; refine hb_nil ⟨rfl, ?_⟩; refine g_no rfl rfl rfl rfl rfl hg1 (g_no rfl rfl rfl rfl rfl hg1 ?_); refine p_f rfl rfl (bf2 hg1) rfl ?_; refine r_assign rfl rfl (hl_nil (then_n (c_f rfl rfl (hc_skip (inb_n (then_n (hc_seq (hc_region (r_move rfl rfl ?_)))))))))
        first | refine r_fieldAddr ⟨_, 1, none⟩ rfl rfl T.fa_api_Mark_1 rfl ?_ | refine r_fieldAddr _ rfl rfl T.fa_api_Mark_1 rfl ?_
        first | refine r_load rfl T.cell_int rfl (cell_own mB rfl) ?_ | refine r_load rfl T.cell_int rfl (cell_blk mB rfl) ?_ | refine r_load rfl T.cell_int rfl (cell_row mB (rows_get0 (by omega) rfl)) ?_ | refine r_load rfl T.cell_int rfl (cell_row_f mB (rows_get (by omega) rfl)) ?_
        refine r_build _ rfl rfl (fun _ => T.bd_api_Flaw_0_1 ..) ?_; refine r_storeS rfl rfl (by first | exact .refl _ | exact perm2 _ _ _ | exact perm3 _ _ _ _ | exact perm4 _ _ _ _ _) T.sz_api_Flaw (by rfl) (by rfl) ?_; refine r_assign rfl rfl (hl_nil (then_n (hc_ret ?_))); exact ret_row_tmp () rfl rfl rfl T.row_api_Flaw T.sz_api_Flaw rfl m0 (by rw [lookV, flawP, if_neg hb6, if_neg (by simp_all)]) rfl trivial (List.nil_sublist _) trivial
end Go.Proofs.Ytpfbbggmcbhboaa
end
section
namespace Go.Proofs.Ytpfbbggmcbhboaa
open Go Go.W
set_option maxRecDepth 20000
attribute [local irreducible] HL HC HQ HB Row Rows2 Blk Facts
theorem find_succ {α : Type} {f : Nat → Option α} {k : Nat} (h : (List.range k).findSome? f = none) (h1 : f k = none) : (List.range (k + 1)).findSome? f = none := by
  rw [List.range_succ, List.findSome?_append, h]; simp [h1]
theorem find_at {α : Type} {f : Nat → Option α} {k n : Nat} {x : α} (hk : k < n) (h : (List.range k).findSome? f = none) (h1 : f k = some x) : (List.range n).findSome? f = some x := by
  have e : List.range n = List.range (k + 1) ++ (List.range (n - (k + 1))).map (fun i => (k + 1) + i) := by
    have := List.range_add (n := k + 1) (m := n - (k + 1)); rw [← this]
    congr 1
    omega
  rw [e, List.range_succ, List.findSome?_append, List.findSome?_append, h]
  simp [h1]
def growF (n : Nat) (p : List Int → Bool) : Nat → List Int → Option (List Int)
  | 0, l => if p l = true then some l else none
  | d + 1, l => (List.range n).findSome? fun i : Nat => if (i : Int) ∈ l then none else growF n p d (l ++ [(i : Int)])
def InR (n : Nat) (l : List Int) : Prop := ∀ i ∈ l, 0 ≤ i ∧ i < (n : Int)
theorem InR.snoc {n : Nat} {l : List Int} {i : Nat} (h : InR n l) (hi : i < n) : InR n (l ++ [(i : Int)]) := by
  intro x hx
  rcases List.mem_append.1 hx with hx | hx
  · exact h x hx
  · simp at hx; omega
abbrev GrowI (o : OutC) (l : List Int) (og : Hp) : Prop := Grow T.int 1 o.1 l.length o.2 (rows l) og
theorem slices_Clone_ints_meets {A : Option Addr} {c : Nat} (l : List Int) (hl : l.length ≤ 1000000) : Meets Try.prog F.slices_Clone_ints [.slice A l.length c] { LI := [Row A (rows l)], inv := fun x : OutC × Hp => GrowI x.1 l x.2, val := fun x => .slice x.1.1 l.length x.1.2, hpO := fun x => x.2 } := by
 refine meets_intro F.slices_Clone_ints_f rfl (Nat.le_of_ble_eq_true rfl) fun w0 => ?_; refine hc_seq (hc_region (r_assign rfl rfl (hl_nil (then_n (hc_seq (hc_seq (hc_region (r_move rfl rfl (r_eqlnil rfl T.u_ints rfl rfl (hl_nil (then_n ?_))))))))))); refine hc_cond rfl (fun hb1 => ?_) (fun hb1 => ?_)
 ·have hb1' := hb1; try simp at hb1'
  have hA : A = none := by cases A with | none => rfl | some a => cases hb1
  subst hA; refine hc_pure (φ := l = []) (fun w hw => row_none (by decide) (hw.fs (Row none (rows l)) m0)) fun hl0 => ?_; subst hl0; refine hc_seq (hc_region (r_assign rfl rfl (hl_nil (then_n (hc_ret (then_ret ?_)))))); exact ret1 ((none, 0), []) rfl rfl rfl (Grow.nil _ _) (.refl _) trivial
 ·have hb1' := hb1; try simp at hb1'
  refine hc_skip (then_n (hc_seq (hc_region ?_))); refine r_buildSlice _ rfl rfl (fun _ => T.bs_ints_0 ..) fun gS => ?_; refine r_move rfl rfl ?_; refine r_append l.length (rows l) T.el_ints rfl rfl rfl (Grow.new (cs := #[]) (n := 0) rfl (Nat.zero_le _)) (.refl _) (Src.row m0 (rows_len l) (rows_one l) (by decide)) (by omega) rfl (by unfold maxLen; omega) (by omega) fun A' c' og' hG => ?_; refine r_assign rfl rfl (hl_nil (then_n (hc_ret ?_))); exact ret1 ((A', c'), og') rfl rfl rfl hG (List.sublist_append_left _ _) trivial
section
variable (lb : Nat) (rc : Option Code → Loop) (R0 : Hp) (R1 : List Int → OutC → Hp) (LI0 : List Fact) (p : List Int → Bool)
def yCon (o : List Int) (A : Option Addr) (c : Nat) : Con Unit :=
  { hpI := (lb, .loop (rc none)) :: R0, LI := Row A (rows o) :: LI0, val := fun _ => .bool (!(p o)), hpO := fun _ => if p o = true then (lb, .loop (rc (some .ret))) :: R1 o (A, c) else (lb, .loop (rc none)) :: R0 }
abbrev OrdO := Option (List Int × OutC)
def ordR (x : OrdO) : Hp := match x with | none => R0 | some y => R1 y.1 y.2
def ordL (x : OrdO) : List Fact := match x with | none => [] | some y => [Row y.2.1 (rows y.1)]
def ordJ (x : OrdO) : Option Code := match x with | none => none | some _ => some .ret
def ordCon (LI : List Fact) (q : Option (List Int)) (val : OrdO → Value) : Con OrdO :=
  { hpI := (lb, .loop (rc none)) :: R0, LI := LI ++ LI0, inv := fun x => q = x.map (·.1), val := val, hpO := fun x => (lb, .loop (rc (ordJ x))) :: ordR R0 R1 x, LO := ordL }
end
def boxN (g : Nat) (n : Int) : Fact := Blk g (.cells #[int n] T.int (0, 0))
def boxF (g : Nat) (v : Value) : Fact := Blk g (.cells #[v] T.func_L_int_bool (0, 0))
def ptr (g : Nat) : Value := .pointer (some ⟨g, 0, none⟩)
def growV (gn gy gg : Nat) : Value := .func (.func F.proof_orders_1_1) #[] [ptr gn, ptr gy, ptr gg].toArray
theorem proof_orders_1_1_meets {lb : Nat} {rc : Option Code → Loop} {R0 : Hp} {R1 : List Int → OutC → Hp} {LI0 : List Fact} {p : List Int → Bool} {n : Nat} {gn gy gg : Nat} (hn : n ≤ 1000) (hY : ∀ (o : List Int) (A : Option Addr) (c : Nat), o.length = n → InR n o → MeetsY Try.prog lb [.slice A o.length c] (yCon lb rc R0 R1 LI0 p o A c)) :
    ∀ (d : Nat) (l : List Int) (A : Option Addr) (c : Nat), l.length + d = n → InR n l → Meets Try.prog F.proof_orders_1_1 [.slice A l.length c, ptr gn, ptr gy, ptr gg] (ordCon lb rc R0 R1 LI0 [Row A (rows l), boxN gn n, boxF gy (yieldV lb), boxF gg (growV gn gy gg)] (growF n p d l) (fun x => .bool x.isNone)) := by
 intro d
 induction d using Nat.strongRecOn
 rename_i d ih
 intro l A c hd hR; refine meets_intro F.proof_orders_1_1_f rfl (Nat.le_of_ble_eq_true rfl) fun w0 => ?_; refine hc_seq (hc_region (r_assign rfl rfl (hl_nil (then_n (hc_seq (hc_seq (hc_region (r_move rfl rfl ?_)))))))); refine r_len_sl rfl T.u_ints rfl ?_
 first | refine r_load rfl T.cell_int rfl (cell_own mB rfl) ?_ | refine r_load rfl T.cell_int rfl (cell_blk mB rfl) ?_ | refine r_load rfl T.cell_int rfl (cell_row mB (rows_get0 (by omega) rfl)) ?_ | refine r_load rfl T.cell_int rfl (cell_row_f mB (rows_get (by omega) rfl)) ?_
 refine r_eql rfl rfl rfl (hl_nil (then_n ?_))
 first | refine c_dec rfl (fun hb1 => ?_) (fun hb1 => ?_) | refine hc_cond rfl (fun hb1 => ?_) (fun hb1 => ?_)
 ·have hb1' := hb1; try simp at hb1'
  have h0 : d = 0 := by omega
  subst h0; have hlen : l.length = n := by omega
  refine hc_seq (hc_region ?_)
  first | refine r_load rfl T.cell_func_L_int_bool rfl (cell_own mB rfl) ?_ | refine r_load rfl T.cell_func_L_int_bool rfl (cell_blk mB rfl) ?_ | refine r_load rfl T.cell_func_L_int_bool rfl (cell_row mB (rows_get0 (by omega) rfl)) ?_ | refine r_load rfl T.cell_func_L_int_bool rfl (cell_row_f mB (rows_get (by omega) rfl)) ?_
  refine r_move rfl rfl ?_; refine hl_yield (k := yCon lb rc R0 R1 LI0 p l A c) rfl rfl rfl (hY l A c hlen hR) (hpR := []) (by rw [List.append_nil]; exact .refl _) ⟨m0, (LSub.of_mem fun F hF => by repeat (first | exact hF | apply List.Mem.tail))⟩ fun _ _ => ?_; refine r_assign rfl rfl (hl_nil (then_n (hc_ret (then_ret ?_))))
  by_cases hp : p l = true
  · exact ret1 (some (l, (A, c))) rfl (by show some (Value.bool (!(p l))) = some (Value.bool false); rw [hp]; rfl) rfl (by show growF n p 0 l = some l; rw [growF, if_pos hp]) (by show List.Sublist _ ((if p l = true then _ else _) ++ []); rw [if_pos hp, List.append_nil]; exact .refl _) ⟨m0, trivial⟩
  · exact ret1 none rfl (by show some (Value.bool (!(p l))) = some (Value.bool true); rw [Bool.eq_false_iff.2 hp]; rfl) rfl (by show growF n p 0 l = none; rw [growF, if_neg hp]) (by show List.Sublist _ ((if p l = true then _ else _) ++ []); rw [if_neg hp, List.append_nil]; exact .refl _) trivial
 ·have hb1' := hb1; try simp at hb1'
  obtain ⟨d0, rfl⟩ : ∃ d0, d = d0 + 1 := ⟨d - 1, by omega⟩; refine hc_skip (then_n (hc_seq (hc_seq (hc_region ?_))))
  first | refine r_load rfl T.cell_int rfl (cell_own mB rfl) ?_ | refine r_load rfl T.cell_int rfl (cell_blk mB rfl) ?_ | refine r_load rfl T.cell_int rfl (cell_row mB (rows_get0 (by omega) rfl)) ?_ | refine r_load rfl T.cell_int rfl (cell_row_f mB (rows_get (by omega) rfl)) ?_
  refine r_move rfl rfl (hl_nil (then_n (hc_block ?_))); refine hc_loop (β := Nat) ⟨fun k => k ≤ n ∧ (List.range k).findSome? (fun i : Nat => if (i : Int) ∈ l then none else growF n p d0 (l ++ [(i : Int)])) = none, fun k => [(0, .slice A l.length c), (1, ptr gn), (2, ptr gy), (3, ptr gg), (14, int n), (15, int k)], fun _ => (lb, .loop (rc none)) :: R0, fun _ => [Row A (rows l), boxN gn n, boxF gy (yieldV lb), boxF gg (growV gn gy gg)] ++ LI0⟩ (fun k => n - k) 0 ⟨Nat.zero_le _, rfl⟩ ⟨rfl, rfl, rfl, rfl, rfl, rfl, trivial⟩ (.refl _) ⟨m0, m1, m2, m3, (LSub.of_mem fun F hF => by repeat (first | exact hF | apply List.Mem.tail))⟩ fun k hk => ?_; obtain ⟨hk, ht⟩ := hk; refine hc_seq (hc_region (r_lss rfl rfl rfl (hl_nil (then_n (hc_seq ?_)))))
  first | refine c_dec rfl (fun hb2 => ?_) (fun hb2 => ?_) | refine hc_cond rfl (fun hb2 => ?_) (fun hb2 => ?_)
  ·have hb2' := hb2; try simp at hb2'
   have hk2 : k < n := by omega
   refine hc_skip (then_n (hc_seq (hc_block (hc_seq (hc_region (r_move rfl rfl (r_assign rfl rfl (hl_nil (then_n (hc_seq ?_)))))))))); refine hc_drawW ([]) (_) (.refl _) 11 [10, 7] mixed (by decide) (by decide) (by decide) rfl rfl rfl ?_; refine hb_ex _ rfl rfl rfl (fun w1 => r_move rfl rfl (hl_nil (qe_done rfl))) ?_; refine hb_ex _ rfl rfl rfl (fun w1 => r_move rfl rfl (hl_nil (qe_done rfl))) ?_; refine hb_ex _ rfl rfl rfl (fun w1 => hl_call F.slices_Contains_ints_cb rfl rfl (slices_Contains_ints_meets l (k : Int) (by omega)) (.refl _) ⟨.tail _ (List.mem_append_right _ m0), trivial⟩ fun _ _ => (hl_nil (qe_done rfl))) ?_; refine hb_ex _ rfl rfl rfl (fun w1 => r_not rfl rfl (hl_nil (qe_done rfl))) ?_; refine hb_ex _ rfl rfl rfl (fun w1 => r_move rfl rfl (hl_nil (qe_done rfl))) ?_; refine hb_split (t := 22) (want := true) rfl ?_ ?_
   ·intro hg1; have hg1' := hg1; try simp at hg1'
    have hni : ¬ (k : Int) ∈ l := by simpa using hg1
    apply hb_ex _ rfl rfl rfl
    ·intro w1; refine g_yes rfl rfl hg1 ?_; refine r_load rfl T.cell_func_L_int_bool rfl (cell_blk (.tail _ (List.mem_append_right _ m3)) rfl) ?_; refine hl_nil ?_; exact qe_done rfl
    apply hb_ex _ rfl rfl rfl
    ·intro w1; refine g_yes rfl rfl hg1 (r_move rfl rfl (hl_nil ?_)); exact qe_done rfl
    refine hb_wr ⟨OutC × Hp, fun x => GrowI x.1 l x.2, fun x => .slice x.1.1 l.length x.1.2, fun _ => [], fun x => x.2⟩ rfl rfl rfl ?_ ?_
    ·intro w1; refine g_yes rfl rfl hg1 ?_; refine hl_call F.slices_Clone_ints_cb rfl rfl (slices_Clone_ints_meets l (by omega)) (.refl _) ⟨m0, trivial⟩ fun x hx => ?_; refine hl_nil ?_; exact qw_done x hx (fun _ => rfl) (by rw [List.append_nil]; exact .refl _) trivial
    apply hb_ex _ rfl rfl rfl
    ·intro w1; refine g_yes rfl rfl hg1 (r_move rfl rfl (hl_nil ?_)); exact qe_done rfl
    refine hb_vs ⟨Nat, fun _ => True, fun g1 => .slice (some ⟨g1, 0, none⟩) 1 1, fun g1 => [Row (some ⟨g1, 0, none⟩) (rows [(k : Int)])]⟩ rfl rfl rfl ?_ ?_
    ·intro w1; refine g_yes rfl rfl hg1 ?_; refine r_buildSlice _ rfl rfl (fun _ => T.bs_ints_1 ..) fun gS => ?_; refine hl_nil ?_; refine hq_letgo (rows [(k : Int)]) (List.prefix_refl _) ?_; exact qv_done gS trivial rfl ⟨m0, trivial⟩
    refine hb_wr ⟨OutC × Hp, fun x => Grow T.int 1 x.1.1 (l.length + 1) x.1.2 (rows (l ++ [(k : Int)])) x.2, fun x => .slice x.1.1 (l.length + 1) x.1.2, fun _ => [], fun x => x.2⟩ rfl rfl rfl ?_ ?_
    ·intro x7 hx7 g9 _; intro w1; refine g_yes rfl rfl hg1 ?_; refine r_append (l.length + 1) (rows (l ++ [(k : Int)])) T.el_ints rfl rfl rfl hx7 (hp' := []) (by rw [List.append_nil]) (Src.row (news := rows [(k : Int)]) (m := 1) m0 rfl (rows_one _) (by decide)) rfl (rows_append l [(k : Int)]).symm (by unfold maxLen; omega) (by omega) fun A' c' og' hG' => ?_; refine hl_nil ?_; exact qw_done ((A', c'), og') hG' (fun _ => rfl) (by rw [List.append_nil]; exact .refl _) trivial
    refine hb_nil ⟨rfl, ?_⟩; intro x7 hx7 g9 _ x10 hx10; refine g_yes rfl rfl hg1 ?_; have ihk := ih d0 (by omega) (l ++ [(k : Int)]) x10.1.1 x10.1.2 (by rw [len_snoc]; omega) (hR.snoc hk2); rw [len_snoc] at ihk; refine hl_grown hx10 ?_; refine hl_callv (vs := [.slice x10.1.1 (l.length + 1) x10.1.2]) (cap := [ptr gn, ptr gy, ptr gg]) F.proof_orders_1_1_cb rfl rfl rfl ihk (hpR := []) (by rw [List.append_nil]; exact .refl _) ⟨m0, m3, m4, m5, (LSub.of_mem fun F hF => by repeat (first | exact hF | apply List.Mem.tail))⟩ fun y hy => ?_; have hy : growF n p d0 (l ++ [(k : Int)]) = y.map (·.1) := hy; refine g_yes rfl rfl hg1 (r_not rfl rfl ?_); refine p_t rfl rfl (bt1 hg1) rfl ?_; refine hl_nil (then_n ?_)
    first | refine c_dec rfl (fun hb3 => ?_) (fun hb3 => ?_) | refine hc_cond rfl (fun hb3 => ?_) (fun hb3 => ?_)
    ·have hb3' := hb3; try simp at hb3'
     obtain ⟨z, rfl⟩ : ∃ z, y = some z := by cases y with | none => cases hb3 | some z => exact ⟨z, rfl⟩
     refine hc_seq (hc_region (r_assign rfl rfl (hl_nil (then_n (hc_ret (inb_ret (then_ret (then_ret (inb_ret (then_ret ?_)))))))))); exact ret1 (some z) rfl rfl rfl (find_at hk2 ht (by rw [if_neg hni, hy]; rfl)) (by rw [List.append_nil]; exact .refl _) ⟨m0, trivial⟩
    ·have hb3' := hb3; try simp at hb3'
     have hyn : y = none := by cases y with | none => rfl | some z => cases hb3
     subst hyn; refine hc_skip (inb_n (then_n (hc_region ?_))); refine r_add _ rfl rfl rfl rfl (by unfold I64; omega) ?_; refine r_move rfl rfl (hl_nil ?_); exact again _ (k + 1) ⟨by omega, find_succ ht (by rw [if_neg hni, hy]; rfl)⟩ (by show n - (k + 1) < n - k; omega) ⟨rfl, rfl, rfl, rfl, rfl, rfl, trivial⟩ (by rw [List.append_nil]; exact .refl _) ⟨mB, mB, mB, mB, (LSub.of_mem fun F hF => by repeat (first | exact hF | apply List.Mem.tail))⟩
   ·intro hg1; have hg1' := hg1; try simp at hg1'
    have hin : (k : Int) ∈ l := by simpa using hg1
    refine hb_ex _ rfl rfl rfl (fun w1 => g_no rfl rfl rfl rfl rfl hg1 (hl_nil (qe_done rfl))) ?_; refine hb_ex _ rfl rfl rfl (fun w1 => g_no rfl rfl rfl rfl rfl hg1 (hl_nil (qe_done rfl))) ?_; refine hb_wr ⟨Unit, fun _ => True, fun _ => undef, fun _ => [], fun _ => []⟩ rfl rfl rfl ?_ ?_
    ·intro w1; refine g_no rfl rfl rfl rfl rfl hg1 (hl_nil ?_); exact qw_done () trivial (fun _ => rfl) (.refl _) trivial
    refine hb_ex _ rfl rfl rfl (fun w1 => g_no rfl rfl rfl rfl rfl hg1 (hl_nil (qe_done rfl))) ?_; refine hb_ex _ rfl rfl rfl (fun w1 => g_no rfl rfl rfl rfl rfl hg1 (hl_nil (qe_done rfl))) ?_; refine hb_wr ⟨Unit, fun _ => True, fun _ => undef, fun _ => [], fun _ => []⟩ rfl rfl rfl ?_ ?_
    ·intro _ _; intro w1; refine g_no rfl rfl rfl rfl rfl hg1 (hl_nil ?_); exact qw_done () trivial (fun _ => rfl) (.refl _) trivial
    refine hb_nil ⟨rfl, ?_⟩; intro _ _ _ _; refine g_no rfl rfl rfl rfl rfl hg1 (g_no rfl rfl rfl rfl rfl hg1 ?_); refine p_f rfl rfl (bf2 hg1) rfl ?_; refine hl_nil (then_n (c_f rfl rfl (hc_skip (inb_n (then_n (hc_region ?_)))))); refine r_add _ rfl rfl rfl rfl (by unfold I64; omega) ?_; refine r_move rfl rfl (hl_nil ?_); exact again _ (k + 1) ⟨by omega, find_succ ht (by rw [if_pos hin])⟩ (by show n - (k + 1) < n - k; omega) ⟨rfl, rfl, rfl, rfl, rfl, rfl, trivial⟩ (.refl _) ⟨mB, mB, mB, mB, (LSub.of_mem fun F hF => by repeat (first | exact hF | apply List.Mem.tail))⟩
  ·have hb2' := hb2; try simp at hb2'
   have hk2 : k = n := by omega
   subst hk2; refine hc_exit (then_exit (then_exit (inb_hit (then_n (hc_seq (hc_region (r_assign rfl rfl (hl_nil (then_n (hc_ret ?_)))))))))); exact ret1 none rfl rfl rfl ht (.refl _) trivial
theorem proof_orders_1_meets {lb : Nat} {rc : Option Code → Loop} {R0 : Hp} {R1 : List Int → OutC → Hp} {LI0 : List Fact} {p : List Int → Bool} {n : Nat} {gn : Nat} (hn : n ≤ 1000) (hY : ∀ (o : List Int) (A : Option Addr) (c : Nat), o.length = n → InR n o → MeetsY Try.prog lb [.slice A o.length c] (yCon lb rc R0 R1 LI0 p o A c)) : Meets Try.prog F.proof_orders_1 [yieldV lb, ptr gn] (ordCon lb rc R0 R1 LI0 [boxN gn n] (growF n p n []) (fun _ => .tuple #[])) := by
 refine meets_intro F.proof_orders_1_f rfl (Nat.le_of_ble_eq_true rfl) fun w0 => ?_; refine hc_seq (hc_region ?_); refine r_box rfl rfl fun gy => ?_; refine hl_nil (then_n (hc_seq (hc_region ?_))); refine r_alloc rfl (fun _ => T.al_func_L_int_bool _) fun gg => ?_; refine hl_nil (then_n (hc_seq (hc_region (r_makeFunc rfl rfl rfl ?_)))); refine r_store rfl rfl (.refl _) T.sz_func_L_int_bool (by rfl) (by rfl) ?_; refine hl_nil (then_n (hc_letgoB (hc_letgoB (hc_region ?_))))
 first | refine r_load rfl T.cell_func_L_int_bool rfl (cell_own mB rfl) ?_ | refine r_load rfl T.cell_func_L_int_bool rfl (cell_blk mB rfl) ?_ | refine r_load rfl T.cell_func_L_int_bool rfl (cell_row mB (rows_get0 (by omega) rfl)) ?_ | refine r_load rfl T.cell_func_L_int_bool rfl (cell_row_f mB (rows_get (by omega) rfl)) ?_
 refine hl_nilrow (α := Int) ?_; refine hl_callv (vs := [.slice none 0 0]) (cap := [ptr gn, ptr gy, ptr gg]) F.proof_orders_1_1_cb rfl rfl rfl (proof_orders_1_1_meets hn hY n [] none 0 (by simp) (by intro x hx; simp at hx)) (hpR := []) (by rw [List.append_nil]; exact .refl _) ⟨m0, m3, m1, m2, (LSub.of_mem fun F hF => by repeat (first | exact hF | apply List.Mem.tail))⟩ fun y hy => ?_; refine hl_nil ?_; exact ret0n y rfl rfl rfl hy (by rw [List.append_nil]; exact .refl _) (LSub.of_mem fun F hF => List.mem_append_left _ hF)
theorem proof_orders_meets (n : Int) : Meets Try.prog F.proof_orders [int n] { val := fun g : Nat => .func (.func F.proof_orders_1) #[] [ptr g].toArray, LO := fun g => [boxN g n] } := by
 refine meets_intro F.proof_orders_f rfl (Nat.le_of_ble_eq_true rfl) fun w0 => ?_; refine hc_seq (hc_region ?_); refine r_box rfl rfl fun gn => ?_; refine r_assign rfl rfl (hl_nil (then_n (hc_seq (hc_region (r_makeFunc rfl rfl rfl (r_assign rfl rfl (hl_nil (then_n (hc_ret (hq_letgoB ?_)))))))))); exact ret1 gn rfl rfl rfl trivial (.refl _) ⟨m0, trivial⟩
def orderOK (l : List Mk) (most : Int) : Int → List Int → Bool
  | _, [] => true
  | n, i :: r => if most < n + growsM (l.getD i.toNat default) then false else orderOK l most (n + growsM (l.getD i.toNat default)) r
def stepsP (p : List Str) (l : List Mk) (most : Int) : List Int × Int :=
  if ¬ checkErr p l = 0 then ([], checkErr p l) else if 5 < l.length then ([], 6) else if most < 0 then ([], 1) else if most < p.length then ([], 12)
  else ((growF l.length (orderOK l most p.length) l.length []).getD [], if (growF l.length (orderOK l most p.length) l.length []).isSome then 0 else 11)
theorem order_drop {l : List Mk} {most m : Int} {o : List Int} {k : Nat} (hk : k < o.length) : orderOK l most m (o.drop k) = if most < m + growsM (l.getD (o.getD k default).toNat default) then false else orderOK l most (m + growsM (l.getD (o.getD k default).toNat default)) (o.drop (k + 1)) := by
  rw [List.drop_eq_getElem_cons hk, orderOK, getD_at hk]
def cellI (g : Nat) (v : Value) : Nat × Obj := (g, .cells #[v] T.ints (0, 0))
def cellE (g : Nat) (e : Int) : Nat × Obj := (g, .cells #[int e] T.api_Errno (0, 0))
theorem proof_Steps_meets {A B : Option Addr} {ca cb : Nat} (p : List Str) (l : List Mk) (most : Int) : Meets Try.prog F.proof_Steps [.slice A p.length ca, .slice B l.length cb, int most] { outE (stepsP p l most) with LI := [Row A (rows p), Row B (rows l)] } := by
 refine meetsM_intro F.proof_Steps_f rfl (Nat.le_of_ble_eq_true rfl) fun w0 => ?_; refine hc_seq (hc_region ?_); refine r_box rfl rfl fun g3 => ?_; refine r_box rfl rfl fun g4 => ?_; refine r_box rfl rfl fun g5 => ?_; refine r_alloc rfl (fun _ => T.al_ints _) fun g6 => ?_; refine r_alloc rfl (fun _ => T.al_api_Errno _) fun g7 => ?_; refine hl_nil (then_n (hc_scope (hc_seq (hc_seq ?_)))); refine hc_perm (List.reverse_perm _).symm ?_; refine hc_letgoB (hc_letgoB (hc_letgoB (hc_region ?_)))
 first | refine r_load rfl T.cell_strs rfl (cell_own mB rfl) ?_ | refine r_load rfl T.cell_strs rfl (cell_blk mB rfl) ?_ | refine r_load rfl T.cell_strs rfl (cell_row mB (rows_get0 (by omega) rfl)) ?_ | refine r_load rfl T.cell_strs rfl (cell_row_f mB (rows_get (by omega) rfl)) ?_
 first | refine r_load rfl T.cell_L_api_Mark rfl (cell_own mB rfl) ?_ | refine r_load rfl T.cell_L_api_Mark rfl (cell_blk mB rfl) ?_ | refine r_load rfl T.cell_L_api_Mark rfl (cell_row mB (rows_get0 (by omega) rfl)) ?_ | refine r_load rfl T.cell_L_api_Mark rfl (cell_row_f mB (rows_get (by omega) rfl)) ?_
 refine hl_call F.proof_checked_cb rfl rfl (proof_checked_meets p l) (List.Perm.refl _) ⟨m3, m4, trivial⟩ fun _ _ => ?_; refine r_assign rfl rfl (hl_nil (then_n (hc_seq (hc_region (r_move rfl rfl (r_neq rfl rfl rfl (hl_nil (then_n ?_))))))))
 first | refine c_dec rfl (fun hb1 => ?_) (fun hb1 => ?_) | refine hc_cond rfl (fun hb1 => ?_) (fun hb1 => ?_)
 ·have hb1' := hb1; try simp at hb1'
  have e : stepsP p l most = ([], checkErr p l) := by rw [stepsP, if_pos hb1]
  rw [e]; refine hc_seq (hc_region (r_move rfl rfl ?_)); refine r_store rfl rfl (by first | exact .refl _ | exact perm2 _ _ _ | exact perm3 _ _ _ _ | exact perm4 _ _ _ _ _) T.sz_ints (by rfl) (by rfl) ?_; refine r_store rfl rfl (by first | exact .refl _ | exact perm2 _ _ _ | exact perm3 _ _ _ _ | exact perm4 _ _ _ _ _) T.sz_api_Errno (by rfl) (by rfl) ?_; refine hl_nil (then_n (hc_ret (then_ret (ng_ret ?_)))); refine hq_nilrow (α := Int) ?_; exact ret_marks [] (none, 0) rfl (.refl _) (res_cells2 rfl rfl rfl T.cell_ints T.cell_api_Errno (cell_own mB rfl) (cell_own mB rfl)) rfl trivial (List.nil_sublist _) ⟨m0, trivial⟩
 ·have hb1' := hb1; try simp at hb1'
  obtain ⟨hp6, hl12, hV⟩ := checkErr_zero (Classical.not_not.1 hb1); refine hc_skip (then_n (hc_seq (hc_block (hc_seq (hc_region ?_)))))
  first | refine r_load rfl T.cell_L_api_Mark rfl (cell_own mB rfl) ?_ | refine r_load rfl T.cell_L_api_Mark rfl (cell_blk mB rfl) ?_ | refine r_load rfl T.cell_L_api_Mark rfl (cell_row mB (rows_get0 (by omega) rfl)) ?_ | refine r_load rfl T.cell_L_api_Mark rfl (cell_row_f mB (rows_get (by omega) rfl)) ?_
  refine r_len_sl rfl T.u_L_api_Mark rfl ?_; refine r_gtr rfl rfl rfl (r_assign rfl rfl (hl_nil (then_n ?_)))
  first | refine c_dec rfl (fun hb2 => ?_) (fun hb2 => ?_) | refine hc_cond rfl (fun hb2 => ?_) (fun hb2 => ?_)
  ·have hb2' := hb2; try simp at hb2'
   have e : stepsP p l most = ([], 6) := by rw [stepsP, if_neg hb1, if_pos (by omega)]
   rw [e]; refine hc_seq (hc_region ?_); refine r_store rfl rfl (by first | exact .refl _ | exact perm2 _ _ _ | exact perm3 _ _ _ _ | exact perm4 _ _ _ _ _) T.sz_ints (by rfl) (by rfl) ?_; refine r_store rfl rfl (by first | exact .refl _ | exact perm2 _ _ _ | exact perm3 _ _ _ _ | exact perm4 _ _ _ _ _) T.sz_api_Errno (by rfl) (by rfl) ?_; refine hl_nil (then_n (hc_ret (inb_ret (then_ret (ng_ret ?_))))); refine hq_nilrow (α := Int) ?_; exact ret_marks [] (none, 0) rfl (.refl _) (res_cells2 rfl rfl rfl T.cell_ints T.cell_api_Errno (cell_own mB rfl) (cell_own mB rfl)) rfl trivial (List.nil_sublist _) ⟨m0, trivial⟩
  ·have hb2' := hb2; try simp at hb2'
   have hb2 : ¬ 5 < l.length := by omega
   refine hc_seq (hc_region ?_)
   first | refine r_load rfl T.cell_int rfl (cell_own mB rfl) ?_ | refine r_load rfl T.cell_int rfl (cell_blk mB rfl) ?_ | refine r_load rfl T.cell_int rfl (cell_row mB (rows_get0 (by omega) rfl)) ?_ | refine r_load rfl T.cell_int rfl (cell_row_f mB (rows_get (by omega) rfl)) ?_
   refine r_lss rfl rfl rfl (r_assign rfl rfl (hl_nil (then_n ?_)))
   first | refine c_dec rfl (fun hb3 => ?_) (fun hb3 => ?_) | refine hc_cond rfl (fun hb3 => ?_) (fun hb3 => ?_)
   ·have hb3' := hb3; try simp at hb3'
    have e : stepsP p l most = ([], 1) := by rw [stepsP, if_neg hb1, if_neg hb2, if_pos hb3]
    rw [e]; refine hc_seq (hc_region ?_); refine r_store rfl rfl (by first | exact .refl _ | exact perm2 _ _ _ | exact perm3 _ _ _ _ | exact perm4 _ _ _ _ _) T.sz_ints (by rfl) (by rfl) ?_; refine r_store rfl rfl (by first | exact .refl _ | exact perm2 _ _ _ | exact perm3 _ _ _ _ | exact perm4 _ _ _ _ _) T.sz_api_Errno (by rfl) (by rfl) ?_; refine hl_nil (then_n (hc_ret (inb_ret (then_ret (ng_ret ?_))))); refine hq_nilrow (α := Int) ?_; exact ret_marks [] (none, 0) rfl (.refl _) (res_cells2 rfl rfl rfl T.cell_ints T.cell_api_Errno (cell_own mB rfl) (cell_own mB rfl)) rfl trivial (List.nil_sublist _) ⟨m0, trivial⟩
   ·have hb3' := hb3; try simp at hb3'
    refine hc_seq (hc_region ?_)
    first | refine r_load rfl T.cell_strs rfl (cell_own mB rfl) ?_ | refine r_load rfl T.cell_strs rfl (cell_blk mB rfl) ?_ | refine r_load rfl T.cell_strs rfl (cell_row mB (rows_get0 (by omega) rfl)) ?_ | refine r_load rfl T.cell_strs rfl (cell_row_f mB (rows_get (by omega) rfl)) ?_
    refine r_len_sl rfl T.u_strs rfl ?_
    first | refine r_load rfl T.cell_int rfl (cell_own mB rfl) ?_ | refine r_load rfl T.cell_int rfl (cell_blk mB rfl) ?_ | refine r_load rfl T.cell_int rfl (cell_row mB (rows_get0 (by omega) rfl)) ?_ | refine r_load rfl T.cell_int rfl (cell_row_f mB (rows_get (by omega) rfl)) ?_
    refine r_gtr rfl rfl rfl (r_assign rfl rfl (hl_nil (then_n ?_)))
    first | refine c_dec rfl (fun hb4 => ?_) (fun hb4 => ?_) | refine hc_cond rfl (fun hb4 => ?_) (fun hb4 => ?_)
    ·have hb4' := hb4; try simp at hb4'
     have e : stepsP p l most = ([], 12) := by rw [stepsP, if_neg hb1, if_neg hb2, if_neg hb3, if_pos hb4]
     rw [e]; refine hc_seq (hc_region ?_); refine r_store rfl rfl (by first | exact .refl _ | exact perm2 _ _ _ | exact perm3 _ _ _ _ | exact perm4 _ _ _ _ _) T.sz_ints (by rfl) (by rfl) ?_; refine r_store rfl rfl (by first | exact .refl _ | exact perm2 _ _ _ | exact perm3 _ _ _ _ | exact perm4 _ _ _ _ _) T.sz_api_Errno (by rfl) (by rfl) ?_; refine hl_nil (then_n (hc_ret (inb_ret (then_ret (ng_ret ?_))))); refine hq_nilrow (α := Int) ?_; exact ret_marks [] (none, 0) rfl (.refl _) (res_cells2 rfl rfl rfl T.cell_ints T.cell_api_Errno (cell_own mB rfl) (cell_own mB rfl)) rfl trivial (List.nil_sublist _) ⟨m0, trivial⟩
    ·have hb4' := hb4; try simp at hb4'
     have e : stepsP p l most = ((growF l.length (orderOK l most p.length) l.length []).getD [], if (growF l.length (orderOK l most p.length) l.length []).isSome then 0 else 11) := by rw [stepsP, if_neg hb1, if_neg hb2, if_neg hb3, if_neg hb4]
     rw [e]; refine hc_skip (inb_n (then_n (hc_seq (hc_label (then_n (hc_seq (hc_seq (hc_region ?_))))))))
     first | refine r_load rfl T.cell_L_api_Mark rfl (cell_own mB rfl) ?_ | refine r_load rfl T.cell_L_api_Mark rfl (cell_blk mB rfl) ?_ | refine r_load rfl T.cell_L_api_Mark rfl (cell_row mB (rows_get0 (by omega) rfl)) ?_ | refine r_load rfl T.cell_L_api_Mark rfl (cell_row_f mB (rows_get (by omega) rfl)) ?_
     refine r_len_sl rfl T.u_L_api_Mark rfl ?_; refine hl_call F.proof_orders_cb rfl rfl (proof_orders_meets l.length) (List.Perm.refl _) trivial fun gn _ => ?_; refine hl_nil (then_n (hc_block ?_)); refine hc_rangeFunc (β := OrdO) (cap := [ptr gn]) (hpR := []) [cellI g6 (.slice none 0 0), cellE g7 0] ([boxN gn l.length] ++ [Row A (rows p), Row B (rows l), Blk g3 (.cells #[.slice A p.length ca] T.strs (0, 0)), Blk g4 (.cells #[.slice B l.length cb] T.L_api_Mark (0, 0)), Blk g5 (.cells #[int most] T.int (0, 0))]) (fun x => growF l.length (orderOK l most p.length) l.length [] = x.map (·.1)) (fun _ => .tuple #[]) ordJ (ordR [cellI g6 (.slice none 0 0), cellE g7 0] (fun o out => [cellI g6 (.slice out.1 o.length out.2), cellE g7 0])) ordL rfl F.proof_orders_1_cb (.refl _) ⟨m0, m4, m5, m3, m2, m1, trivial⟩ ?_ ?_ ?_
     ·intro lb d fn tmps hsz hfr; refine proof_orders_1_meets (lb := lb) (rc := recL fn tmps #[34] _ _ d) (R0 := [cellI g6 (.slice none 0 0), cellE g7 0]) (R1 := (fun o out => [cellI g6 (.slice out.1 o.length out.2), cellE g7 0])) (LI0 := [Row A (rows p), Row B (rows l), Blk g3 (.cells #[.slice A p.length ca] T.strs (0, 0)), Blk g4 (.cells #[.slice B l.length cb] T.L_api_Mark (0, 0)), Blk g5 (.cells #[int most] T.int (0, 0))]) (p := (orderOK l most p.length)) (n := l.length) (by omega) (fun o A2 c2 hlo hio => ?_); refine meetsY_intro m0 hsz hfr rfl (by intro t ht; simp at ht; subst ht; exact Nat.lt_of_lt_of_le (show 34 < 61 by decide) (Nat.le_refl _)) fun w => ?_; refine hc_regionR rfl (r_assign rfl rfl (hl_nil ?_)); refine then_begin (.refl _) ?_; refine hc_block (hc_seq (hc_regionR rfl ?_))
      first | refine r_load rfl T.cell_strs rfl (cell_own mB rfl) ?_ | refine r_load rfl T.cell_strs rfl (cell_blk mB rfl) ?_ | refine r_load rfl T.cell_strs rfl (cell_row mB (rows_get0 (by omega) rfl)) ?_ | refine r_load rfl T.cell_strs rfl (cell_row_f mB (rows_get (by omega) rfl)) ?_
      refine r_len_sl rfl T.u_strs rfl ?_; refine r_assign rfl rfl (hl_nil (then_n (hc_seq (hc_seq (hc_regionR rfl (r_move rfl rfl ?_)))))); refine r_len_sl rfl T.u_ints rfl ?_; refine r_move rfl rfl (hl_nil (then_n (hc_block ?_))); refine hc_loop (β := Nat × Int) ⟨fun ⟨k, m⟩ => k ≤ o.length ∧ orderOK l most p.length o = orderOK l most m (o.drop k) ∧ -(k : Int) ≤ m ∧ m ≤ 6 + k, fun ⟨k, m⟩ => [(3, ptr g3), (4, ptr g4), (5, ptr g5), (6, ptr g6), (7, ptr g7), (9, .slice A2 o.length c2), (10, int m), (37, .slice A2 o.length c2), (38, int o.length), (39, int k)], fun _ => (lb, .loop (recB fn tmps #[34] _ _ d)) :: [cellI g6 (.slice none 0 0), cellE g7 0], fun _ => [Row A2 (rows o), Row A (rows p), Row B (rows l), Blk g3 (.cells #[.slice A p.length ca] T.strs (0, 0)), Blk g4 (.cells #[.slice B l.length cb] T.L_api_Mark (0, 0)), Blk g5 (.cells #[int most] T.int (0, 0))]⟩ (fun x => o.length - x.1) (0, (p.length : Int)) ⟨Nat.zero_le _, rfl, by omega, by omega⟩ ⟨rfl, rfl, rfl, rfl, rfl, rfl, rfl, rfl, rfl, rfl, trivial⟩ (.refl _) ⟨m0, m1, m2, m3, m4, m5, trivial⟩ fun x hx => ?_; obtain ⟨k, m⟩ := x; obtain ⟨hk, hq, hm1, hm2⟩ := hx; refine hc_seq (hc_regionR rfl (r_lss rfl rfl rfl (hl_nil (then_n (hc_seq ?_)))))
      first | refine c_dec rfl (fun hb5 => ?_) (fun hb5 => ?_) | refine hc_cond rfl (fun hb5 => ?_) (fun hb5 => ?_)
      ·have hb5' := hb5; try simp at hb5'
       have hk2 : k < o.length := by omega
       have hio2 := hio _ (getD_mem hk2); have e2 : m + -1 = m - 1 := rfl; refine hc_skip (then_n (hc_seq (hc_block (hc_seq (hc_regionR rfl ?_))))); refine r_elem (α := Int) _ _ rfl T.u_ints T.sz_int rfl rfl rfl mB rfl (by omega) (by decide) ?_; refine r_load rfl T.cell_int rfl (cell_row mB (rows_get0 (by omega) rfl)) ?_; refine r_assign rfl rfl (hl_nil (then_n (hc_seq (hc_seq (hc_regionR rfl ?_)))))
       first | refine r_load rfl T.cell_L_api_Mark rfl (cell_own mB rfl) ?_ | refine r_load rfl T.cell_L_api_Mark rfl (cell_blk mB rfl) ?_ | refine r_load rfl T.cell_L_api_Mark rfl (cell_row mB (rows_get0 (by omega) rfl)) ?_ | refine r_load rfl T.cell_L_api_Mark rfl (cell_row_f mB (rows_get (by omega) rfl)) ?_
       refine r_move rfl rfl ?_; refine r_elem (α := Mk) l (o.getD k default).toNat rfl T.u_L_api_Mark T.sz_api_Mark rfl rfl (by omega) m2 rfl (by omega) (by decide) ?_
       first | refine r_fieldAddr ⟨_, 0, none⟩ rfl rfl T.fa_api_Mark_0 rfl ?_ | refine r_fieldAddr _ rfl rfl T.fa_api_Mark_0 rfl ?_
       refine r_load rfl T.cell_int rfl (cell_row mB (rows_get0 (by omega) rfl)) ?_; refine hl_nil (then_n (hc_block (hc_seq (hc_regionR rfl (r_eql rfl rfl rfl (r_assign rfl rfl (hl_nil (then_n ?_))))))))
       first | refine c_dec rfl (fun hb6 => ?_) (fun hb6 => ?_) | refine hc_cond rfl (fun hb6 => ?_) (fun hb6 => ?_)
       ·have hb6' := hb6; try simp at hb6'
        have hgr : growsM (l.getD (o.getD k default).toNat default) = 1 := by rw [growsM, if_pos hb6]
        refine hc_regionR rfl (r_move rfl rfl ?_); refine r_add _ rfl rfl rfl rfl (by unfold I64; omega) ?_; refine r_assign rfl rfl (hl_nil (inb_n (then_n (hc_seq (hc_regionR rfl (r_move rfl rfl ?_))))))
        first | refine r_load rfl T.cell_int rfl (cell_own mB rfl) ?_ | refine r_load rfl T.cell_int rfl (cell_blk mB rfl) ?_ | refine r_load rfl T.cell_int rfl (cell_row mB (rows_get0 (by omega) rfl)) ?_ | refine r_load rfl T.cell_int rfl (cell_row_f mB (rows_get (by omega) rfl)) ?_
        refine r_gtr rfl rfl rfl (hl_nil (then_n ?_))
        first | refine c_dec rfl (fun hb8 => ?_) (fun hb8 => ?_) | refine hc_cond rfl (fun hb8 => ?_) (fun hb8 => ?_)
        ·have hb8' := hb8; try simp at hb8'
         refine hc_exit (inb_miss rfl (then_exit (then_exit (inb_miss rfl (then_exit (inb_hit ?_)))))); have hf : orderOK l most p.length o = false := by rw [hq, order_drop hk2, hgr, if_pos hb8]
         exact rp_n () (.refl _) rfl (by show Value.bool (!(orderOK l most p.length o)) = _; rw [hf]; rfl) trivial (by show List.Sublist (if orderOK l most p.length o = true then _ else _) _; rw [if_neg (by rw [hf]; decide)]; exact .refl _) trivial
        ·have hb8' := hb8; try simp at hb8'
         refine hc_skip (inb_n (then_n (hc_regionR rfl ?_))); refine r_add _ rfl rfl rfl rfl (by unfold I64; omega) ?_; refine r_move rfl rfl (hl_nil ?_); exact again _ (k + 1, m + 1) ⟨by omega, by rw [hq, order_drop hk2]; rw [hgr, if_neg hb8], by omega, by omega⟩ (by show o.length - (k + 1) < o.length - k; omega) ⟨rfl, rfl, rfl, rfl, rfl, rfl, rfl, rfl, rfl, rfl, trivial⟩ (.refl _) ⟨m0, m1, m2, m3, m4, m5, trivial⟩
       ·have hb6' := hb6; try simp at hb6'
        refine hc_seq (hc_regionR rfl (r_eql rfl rfl rfl (r_assign rfl rfl (hl_nil (then_n ?_)))))
        first | refine c_dec rfl (fun hb7 => ?_) (fun hb7 => ?_) | refine hc_cond rfl (fun hb7 => ?_) (fun hb7 => ?_)
        ·have hb7' := hb7; try simp at hb7'
         have hgr : growsM (l.getD (o.getD k default).toNat default) = -1 := by rw [growsM, if_neg hb6, if_pos hb7]
         refine hc_regionR rfl (r_move rfl rfl ?_); refine r_sub _ rfl rfl rfl rfl (by unfold I64; omega) ?_; refine r_assign rfl rfl (hl_nil (inb_n (then_n (hc_seq (hc_regionR rfl (r_move rfl rfl ?_))))))
         first | refine r_load rfl T.cell_int rfl (cell_own mB rfl) ?_ | refine r_load rfl T.cell_int rfl (cell_blk mB rfl) ?_ | refine r_load rfl T.cell_int rfl (cell_row mB (rows_get0 (by omega) rfl)) ?_ | refine r_load rfl T.cell_int rfl (cell_row_f mB (rows_get (by omega) rfl)) ?_
         refine r_gtr rfl rfl rfl (hl_nil (then_n ?_))
         first | refine c_dec rfl (fun hb8 => ?_) (fun hb8 => ?_) | refine hc_cond rfl (fun hb8 => ?_) (fun hb8 => ?_)
         ·have hb8' := hb8; try simp at hb8'
          refine hc_exit (inb_miss rfl (then_exit (then_exit (inb_miss rfl (then_exit (inb_hit ?_)))))); have hf : orderOK l most p.length o = false := by rw [hq, order_drop hk2, hgr, e2, if_pos hb8]
          exact rp_n () (.refl _) rfl (by show Value.bool (!(orderOK l most p.length o)) = _; rw [hf]; rfl) trivial (by show List.Sublist (if orderOK l most p.length o = true then _ else _) _; rw [if_neg (by rw [hf]; decide)]; exact .refl _) trivial
         ·have hb8' := hb8; try simp at hb8'
          refine hc_skip (inb_n (then_n (hc_regionR rfl ?_))); refine r_add _ rfl rfl rfl rfl (by unfold I64; omega) ?_; refine r_move rfl rfl (hl_nil ?_); exact again _ (k + 1, m - 1) ⟨by omega, by rw [hq, order_drop hk2]; rw [hgr, e2, if_neg hb8], by omega, by omega⟩ (by show o.length - (k + 1) < o.length - k; omega) ⟨rfl, rfl, rfl, rfl, rfl, rfl, rfl, rfl, rfl, rfl, trivial⟩ (.refl _) ⟨m0, m1, m2, m3, m4, m5, trivial⟩
        ·have hb7' := hb7; try simp at hb7'
         have hgr : growsM (l.getD (o.getD k default).toNat default) = 0 := by rw [growsM, if_neg hb6, if_neg hb7]
         refine hc_skip (inb_n (then_n (hc_seq (hc_regionR rfl (r_move rfl rfl ?_)))))
         first | refine r_load rfl T.cell_int rfl (cell_own mB rfl) ?_ | refine r_load rfl T.cell_int rfl (cell_blk mB rfl) ?_ | refine r_load rfl T.cell_int rfl (cell_row mB (rows_get0 (by omega) rfl)) ?_ | refine r_load rfl T.cell_int rfl (cell_row_f mB (rows_get (by omega) rfl)) ?_
         refine r_gtr rfl rfl rfl (hl_nil (then_n ?_))
         first | refine c_dec rfl (fun hb8 => ?_) (fun hb8 => ?_) | refine hc_cond rfl (fun hb8 => ?_) (fun hb8 => ?_)
         ·have hb8' := hb8; try simp at hb8'
          refine hc_exit (inb_miss rfl (then_exit (then_exit (inb_miss rfl (then_exit (inb_hit ?_)))))); have hf : orderOK l most p.length o = false := by rw [hq, order_drop hk2, hgr, Int.add_zero, if_pos hb8]
          exact rp_n () (.refl _) rfl (by show Value.bool (!(orderOK l most p.length o)) = _; rw [hf]; rfl) trivial (by show List.Sublist (if orderOK l most p.length o = true then _ else _) _; rw [if_neg (by rw [hf]; decide)]; exact .refl _) trivial
         ·have hb8' := hb8; try simp at hb8'
          refine hc_skip (inb_n (then_n (hc_regionR rfl ?_))); refine r_add _ rfl rfl rfl rfl (by unfold I64; omega) ?_; refine r_move rfl rfl (hl_nil ?_); exact again _ (k + 1, m) ⟨by omega, by rw [hq, order_drop hk2]; rw [hgr, Int.add_zero, if_neg hb8], by omega, by omega⟩ (by show o.length - (k + 1) < o.length - k; omega) ⟨rfl, rfl, rfl, rfl, rfl, rfl, rfl, rfl, rfl, rfl, trivial⟩ (.refl _) ⟨m0, m1, m2, m3, m4, m5, trivial⟩
      ·have hb5' := hb5; try simp at hb5'
       have hk2 : k = o.length := by omega
       refine hc_exit (then_exit (then_exit (inb_hit (then_n (hc_seq (hc_regionR rfl (r_move rfl rfl ?_))))))); refine r_store rfl rfl (by first | exact .refl _ | exact perm2 _ _ _ | exact perm3 _ _ _ _ | exact perm4 _ _ _ _ _) T.sz_ints (by rfl) (by rfl) ?_; refine r_store rfl rfl (by first | exact .refl _ | exact perm2 _ _ _ | exact perm3 _ _ _ _ | exact perm4 _ _ _ _ _) T.sz_api_Errno (by rfl) (by rfl) ?_; refine hl_nil (then_n (hc_ret (inb_ret ?_))); have ht : orderOK l most p.length o = true := by rw [hq, hk2, List.drop_length]; rfl
       refine rp_ret (hp' := [cellI g6 (.slice A2 o.length c2), cellE g7 0]) () (List.reverse_perm _).symm rfl (by show Value.bool (!(orderOK l most p.length o)) = _; rw [ht]; rfl) trivial (by show List.Sublist (if orderOK l most p.length o = true then _ else _) _; rw [if_pos ht]; exact .refl _) trivial
     ·intro x d hx hp; obtain rfl : x = none := by cases x with | none => rfl | some y => cases hp
      refine inb_n (then_n (hc_seq (hc_region ?_))); refine r_store rfl rfl (by first | exact .refl _ | exact perm2 _ _ _ | exact perm3 _ _ _ _ | exact perm4 _ _ _ _ _) T.sz_ints (by rfl) (by rfl) ?_; refine r_store rfl rfl (by first | exact .refl _ | exact perm2 _ _ _ | exact perm3 _ _ _ _ | exact perm4 _ _ _ _ _) T.sz_api_Errno (by rfl) (by rfl) ?_; refine hl_nil (then_n (hc_ret (ng_ret ?_))); have hx : growF l.length (orderOK l most p.length) l.length [] = none := hx; rw [hx]; refine hq_nilrow (α := Int) ?_; exact ret_marks [d] (none, 0) rfl (List.reverse_perm _).symm (res_cells2 rfl rfl rfl T.cell_ints T.cell_api_Errno (cell_own mB rfl) (cell_own mB rfl)) rfl trivial (List.nil_sublist _) ⟨m0, trivial⟩
     ·intro x d j hx hp; obtain ⟨y, rfl⟩ : ∃ y, x = some y := by cases x with | none => cases hp | some y => exact ⟨y, rfl⟩
      cases hp
      refine hc_ret (inb_ret (then_ret (ng_ret ?_))); have hx : growF l.length (orderOK l most p.length) l.length [] = some y.1 := hx; rw [hx]; exact ret_marks [d] y.2 rfl (.refl _) (res_cells2 rfl rfl rfl T.cell_ints T.cell_api_Errno (cell_own mB rfl) (cell_own mB rfl)) rfl trivial (List.nil_sublist _) ⟨m0, trivial⟩
def stepsF (l : List Mk) (most : Int) : Nat → List Int → Int → Option (List Int)
  | 0, done, _ => some done
  | d + 1, done, lines => (List.range l.length).findSome? fun i : Nat => if (i : Int) ∈ done ∨ most < lines + growsM (l.getD i default) then none else stepsF l most d (done ++ [(i : Int)]) (lines + growsM (l.getD i default))
def outB (r : Option (List Int)) : Con OutC := { val := fun x => .tuple #[.slice x.1 (r.getD []).length x.2, .bool r.isSome], LO := fun x => [Row x.1 (rows (r.getD []))] }
def stepsR (p : List Str) (l : List Mk) (most : Int) : List Int × Int :=
  if ¬ checkErr p l = 0 then ([], checkErr p l) else if 5 < l.length then ([], 6) else if most < 0 then ([], 1) else if most < p.length then ([], 12)
  else if (stepsF l most l.length [] p.length).isSome then ((stepsF l most l.length [] p.length).getD [], 0) else ([], 11)
end Go.Proofs.Ytpfbbggmcbhboaa
end
