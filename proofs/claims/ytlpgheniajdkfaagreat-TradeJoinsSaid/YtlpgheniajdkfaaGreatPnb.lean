/- The document's checks, its questions, its paths: what they answer is what the program's answer. -/
import Derived.Test.YtlpgheniajdkfaaGreatPna
namespace Go.Proofs.YtlpgheniajdkfaaGreat
open Go Go.W
set_option linter.unusedVariables false
set_option linter.unusedSimpArgs false
set_option maxRecDepth 20000
attribute [local irreducible] HL HC HQ HB Row Rows2 Blk Facts

theorem mem_take_lt {α : Type} [Inhabited α] {l : List α} {k i : Nat} (hk : k < i) (hi : i ≤ l.length) : l.getD k default ∈ l.take i := by
  rw [getD_at (show k < l.length by omega), List.mem_take_iff_getElem]
  exact ⟨k, by omega, rfl⟩
theorem kind_ref {p : PH} (h1 : -1 ≤ p.2.2.1) (h2 : -1 ≤ p.2.1) : kindBad p = (decide (0 ≤ p.2.2.1) == (decide (0 ≤ p.2.1) || decide ((0 : Int) < p.2.2.2.length))) := by
  unfold kindBad
  rw [show decide (¬ p.2.2.1 = -1) = decide (0 ≤ p.2.2.1) from decide_eq_decide.2 (by omega), show decide (¬ p.2.1 = -1) = decide (0 ≤ p.2.1) from decide_eq_decide.2 (by omega), show decide (p.2.2.1 = -1) = !decide (0 ≤ p.2.2.1) by rw [← decide_not]; exact decide_eq_decide.2 (by omega), show decide (p.2.1 = -1) = !decide (0 ≤ p.2.1) by rw [← decide_not]; exact decide_eq_decide.2 (by omega), show decide (p.2.2.2.length = 0) = !decide ((0 : Int) < p.2.2.2.length) by rw [← decide_not]; exact decide_eq_decide.2 (by omega), show decide (0 < p.2.2.2.length) = decide ((0 : Int) < p.2.2.2.length) from decide_eq_decide.2 (by omega)]
  cases decide (0 ≤ p.2.2.1) <;> cases decide (0 ≤ p.2.1) <;> cases decide ((0 : Int) < p.2.2.2.length) <;> rfl
def askdE (t : Tr) (l1 l2 : List Int) : Int := if ¬ checkT t = 0 then checkT t else if l1.all (fun x => decide (0 ≤ x ∧ x ≤ (t.cs.length : Int) - 1)) then (if l2.all (fun x => decide (0 ≤ x ∧ x ≤ (t.hs.length : Int) - 1)) then 0 else 3) else 3
theorem askd_h (t : Tr) (h : Int) : askdE t [] [h] = askE t [h] := by unfold askdE askE; rfl
theorem all_step {l : List Int} {P : Int → Bool} {k : Nat} (hk : k < l.length) (h : (l.take k).all P = true) (h1 : P (l.getD k default) = true) : (l.take (k + 1)).all P = true := by
  rw [take_succ_getD l k hk, List.all_append, h, Bool.true_and, List.all_cons, h1]; rfl
theorem all_no {l : List Int} {P : Int → Bool} {k : Nat} (hk : k < l.length) (h1 : P (l.getD k default) = false) : ¬ l.all P = true := fun e => by
  rw [List.all_eq_true.1 e _ (getD_mem hk)] at h1; cases h1
/-- The last number of a list that is in another one. -/
def lastC (p q : List Int) : Nat → Int
  | 0 => -1
  | k + 1 => if p.getD k default ∈ q then p.getD k default else lastC p q k

theorem ref04_Word_meets (s : Str) (hl : s.length ≤ 1000) : Meets Tryz.prog F.ref04_Word [str s] { val := fun _ : Unit => .bool (wordB s) } := by
 refine meets_intro F.ref04_Word_f rfl (Nat.le_of_ble_eq_true rfl) fun w0 => ?_
 refine hc_seq (hc_region (r_assign rfl rfl (hl_nil (then_n (hc_seq (hc_seq (hc_region (r_assign rfl rfl (hl_nil (then_n (hc_block ?_)))))))))))
 refine hc_loop (β := Nat) ⟨fun k => k ≤ s.length ∧ (s.take k).all azB = true, fun k => [(0, str s), (3, int k)], fun _ => [], fun _ => []⟩ (fun k => s.length - k) 0 ⟨Nat.zero_le _, rfl⟩ ⟨rfl, rfl, trivial⟩ (List.nil_sublist _) trivial fun k hk => ?_
 obtain ⟨hk, ht⟩ := hk
 refine hc_seq (hc_seq (hc_region (r_move rfl rfl (r_move rfl rfl ?_))))
 refine r_len_str rfl T.u_string rfl ?_
 refine r_lss rfl rfl rfl (hl_nil (then_n ?_))
 refine c_dec rfl (fun hb1 => ?_) (fun hb1 => ?_)
 ·have hb1' := hb1; try simp at hb1'
  have hk2 : k < s.length := by omega
  refine hc_skip (then_n (hc_seq (hc_block (hc_seq (hc_region (r_move rfl rfl (r_move rfl rfl ?_)))))))
  refine r_index_str k rfl T.u_string rfl rfl rfl (List.getElem?_eq_getElem hk2) ?_
  refine r_lss rfl rfl rfl (r_move rfl rfl ?_)
  refine g_split rfl rfl ?_ ?_
  ·intro hg1; have hg1' := hg1; try simp at hg1'
   have g5 : ¬ (s[k].toNat : Int) < 97 := of_decide_eq_false (eq_of_beq hg1)
   refine g_yes rfl rfl hg1 (r_move rfl rfl (g_yes rfl rfl hg1 (r_move rfl rfl (g_yes rfl rfl hg1 ?_))))
   refine r_index_str k rfl T.u_string rfl rfl rfl (List.getElem?_eq_getElem hk2) ?_
   refine g_yes rfl rfl hg1 (r_gtr rfl rfl rfl ?_)
   refine p_f rfl rfl (bf1 hg1) rfl ?_
   refine hl_nil (then_n ?_)
   refine c_dec rfl (fun hb2 => ?_) (fun hb2 => ?_)
   ·have hb2' := hb2; try simp at hb2'
    refine hc_seq (hc_region (r_assign rfl rfl (hl_nil (then_n (hc_ret (inb_ret (then_ret (then_ret (inb_ret (then_ret ?_))))))))))
    exact ret1 () rfl (congrArg (fun b => some (Value.bool b)) (by exact (wordB_bad hk2 (.inr (by omega))).symm)) rfl trivial (List.nil_sublist _) trivial
   ·have hb2' := hb2; try simp at hb2'
    refine hc_skip (inb_n (then_n (hc_region (r_move rfl rfl ?_))))
    refine r_add _ rfl rfl rfl rfl (by unfold I64; omega) ?_
    refine r_assign rfl rfl (hl_nil ?_)
    exact again _ (k + 1) ⟨by show k + 1 ≤ s.length; omega, all_next hk2 ht ⟨by omega, by omega⟩⟩ (by show s.length - (k + 1) < s.length - k; omega) ⟨rfl, rfl, trivial⟩ (List.nil_sublist _) trivial
  ·intro hg1; have hg1' := hg1; try simp at hg1'
   have g5 : (s[k].toNat : Int) < 97 := Classical.byContradiction fun e => by rw [decide_eq_false e] at hg1; cases hg1
   refine g_no rfl rfl rfl rfl rfl hg1 (g_no rfl rfl rfl rfl rfl hg1 (g_no rfl rfl rfl rfl rfl hg1 (g_no rfl rfl rfl rfl rfl hg1 ?_)))
   refine p_t rfl rfl (bt2 hg1) rfl ?_
   refine hl_nil (then_n (c_t rfl rfl (hc_seq (hc_region (r_assign rfl rfl (hl_nil (then_n (hc_ret (inb_ret (then_ret (then_ret ?_)))))))))))
   refine inb_ret (then_ret ?_)
   exact ret1 () rfl (congrArg (fun b => some (Value.bool b)) (by exact (wordB_bad hk2 (.inl (by omega))).symm)) rfl trivial (List.nil_sublist _) trivial
 ·have hb1' := hb1; try simp at hb1'
  obtain rfl : k = s.length := by omega
  rw [List.take_length] at ht
  refine hc_exit (then_exit (then_exit (inb_hit (then_n (hc_seq (hc_region (r_move rfl rfl ?_)))))))
  refine r_len_str rfl T.u_string rfl ?_
  refine r_geq rfl rfl rfl (r_move rfl rfl ?_)
  refine g_split rfl rfl ?_ ?_
  ·intro hg2; have hg2' := hg2; try simp at hg2'
   have g4 : (1 : Int) ≤ s.length := of_decide_eq_true (eq_of_beq hg2)
   refine g_yes rfl rfl hg2 (r_move rfl rfl (g_yes rfl rfl hg2 ?_))
   refine r_len_str rfl T.u_string rfl ?_
   refine g_yes rfl rfl hg2 (r_leq rfl rfl rfl ?_)
   refine p_t rfl rfl (bt1 hg2) rfl ?_
   refine r_move rfl rfl ?_
   refine g_split rfl rfl ?_ ?_
   ·intro hg3; have hg3' := hg3; try simp at hg3'
    have g9 : (s.length : Int) ≤ 12 := of_decide_eq_true (eq_of_beq hg3)
    refine g_yes rfl rfl hg3 (r_move rfl rfl (g_yes rfl rfl hg3 (r_sneq rfl rfl rfl ?_)))
    refine p_t rfl rfl (bt1 hg3) rfl ?_
    refine r_move rfl rfl ?_
    refine g_split rfl rfl ?_ ?_
    ·intro hg4; have hg4' := hg4; try simp at hg4'
     have g13 : ¬ s = wClass := of_decide_eq_true (eq_of_beq hg4)
     refine g_yes rfl rfl hg4 (r_move rfl rfl (g_yes rfl rfl hg4 (r_sneq rfl rfl rfl ?_)))
     refine p_t rfl rfl (bt1 hg4) rfl ?_
     refine r_assign rfl rfl (hl_nil (then_n (hc_ret ?_)))
     exact ret1 () rfl (congrArg (fun b => some (Value.bool b)) (by unfold wordB; rw [decide_eq_true (show 0 < s.length by omega), decide_eq_true (show s.length ≤ 12 by omega), decide_eq_true g13, ht, Bool.true_and, Bool.true_and, Bool.true_and, Bool.and_true]; rfl)) rfl trivial (List.nil_sublist _) trivial
    ·intro hg4; have hg4' := hg4; try simp at hg4'
     have g13 : s = wClass := Classical.not_not.1 (of_decide_eq_false (bf2 hg4))
     refine g_no rfl rfl rfl rfl rfl hg4 (g_no rfl rfl rfl rfl rfl hg4 ?_)
     refine p_f rfl rfl (bf2 hg4) rfl ?_
     refine r_assign rfl rfl (hl_nil (then_n (hc_ret ?_)))
     exact ret1 () rfl (congrArg (fun b => some (Value.bool b)) (by rw [g13]; decide)) rfl trivial (List.nil_sublist _) trivial
   ·intro hg3; have hg3' := hg3; try simp at hg3'
    have g9 : ¬ (s.length : Int) ≤ 12 := of_decide_eq_false (bf2 hg3)
    refine g_no rfl rfl rfl rfl rfl hg3 (g_no rfl rfl rfl rfl rfl hg3 ?_)
    refine p_f rfl rfl (bf2 hg3) rfl ?_
    refine r_move rfl rfl (g_no rfl rfl rfl rfl rfl rfl (g_no rfl rfl rfl rfl rfl rfl (p_f rfl rfl rfl rfl (r_assign rfl rfl (hl_nil (then_n (hc_ret ?_)))))))
    exact ret1 () rfl (congrArg (fun b => some (Value.bool b)) (by unfold wordB; rw [decide_eq_false (show ¬ s.length ≤ 12 by omega)]; simp)) rfl trivial (List.nil_sublist _) trivial
  ·intro hg2; have hg2' := hg2; try simp at hg2'
   have g4 : ¬ (1 : Int) ≤ s.length := of_decide_eq_false (bf2 hg2)
   refine g_no rfl rfl rfl rfl rfl hg2 (g_no rfl rfl rfl rfl rfl hg2 (g_no rfl rfl rfl rfl rfl hg2 ?_))
   refine p_f rfl rfl (bf2 hg2) rfl ?_
   refine r_move rfl rfl (g_no rfl rfl rfl rfl rfl rfl (g_no rfl rfl rfl rfl rfl rfl (p_f rfl rfl rfl rfl (r_move rfl rfl (g_no rfl rfl rfl rfl rfl rfl (g_no rfl rfl rfl rfl rfl rfl (p_f rfl rfl rfl rfl (r_assign rfl rfl (hl_nil (then_n (hc_ret ?_)))))))))))
   exact ret1 () rfl (congrArg (fun b => some (Value.bool b)) (by unfold wordB; rw [decide_eq_false (show ¬ 0 < s.length by omega)]; rfl)) rfl trivial (List.nil_sublist _) trivial

theorem ref04_checkClass_meets {A B : Option Addr} {ca cb : Nat} (cs : List Cl) (hs : List Hd) (i : Nat) (hi : i < cs.length) (hw : ∀ x ∈ cs, x.1.length ≤ 1000) (hcl : cs.length ≤ 1000) : Meets Tryz.prog F.ref04_checkClass [.agg #[.slice A cs.length ca, .slice B hs.length cb], int i] { LI := [Row A (rows cs)], val := fun _ : Unit => int (clsErr cs i) } := by
 refine meets_intro F.ref04_checkClass_f rfl (Nat.le_of_ble_eq_true rfl) fun w0 => ?_
 refine hc_seq (hc_region ?_)
 refine r_box rfl rfl fun gB => ?_
 refine r_assign rfl rfl (hl_nil (then_n (hc_seq (hc_region ?_))))
 refine r_fieldAddr ⟨_, 0, none⟩ rfl rfl T.fa_api_Trades_0 rfl ?_
 refine r_load rfl T.cell_L_api_Class rfl (cell_own (by repeat constructor) rfl) ?_
 refine r_move rfl rfl ?_
 refine r_elem (α := Cl) cs i rfl T.u_L_api_Class T.sz_api_Class rfl rfl rfl (by repeat constructor) rfl hi (by decide) ?_
 refine r_loadS rfl T.row_api_Class T.sz_api_Class rfl rfl (cells_row (by repeat constructor) (rows_all (by omega))) ?_
 refine r_alloc rfl (fun _ => T.al_api_Class _) fun gA => ?_
 refine r_storeS rfl rfl (by first | exact .refl _ | exact perm2 _ _ _ | exact perm3 _ _ _ _ | exact perm4 _ _ _ _ _) T.sz_api_Class (by rfl) (by rfl) ?_
 refine hl_nil (then_n (hc_seq (hc_seq ?_)))
 refine hc_letgo (rows [(cs.getD i default)]) ⟨[], List.append_nil _⟩ ?_
 refine hc_region ?_
 refine r_fieldAddr ⟨_, 0, none⟩ rfl rfl T.fa_api_Class_0 rfl ?_
 refine r_load rfl T.cell_string rfl (cell_rowg (by repeat constructor) rfl) ?_
 refine hl_call F.ref04_Word_cb rfl rfl (ref04_Word_meets (cs.getD i default).1 (hw _ (getD_mem hi))) (List.Perm.refl _) trivial fun _ _ => ?_
 refine r_not rfl rfl (hl_nil (then_n ?_))
 refine hc_cond rfl (fun hb1 => ?_) (fun hb1 => ?_)
 ·have hb1' := hb1; try simp at hb1'
  have h1 : wordB (cs.getD i default).1 = false := by simpa using hb1
  refine hc_seq (hc_region (r_assign rfl rfl (hl_nil (then_n (hc_ret (then_ret ?_))))))
  exact ret1 () rfl (congrArg (fun b => some (int b)) (by rw [clsErr, if_pos h1])) rfl trivial (List.nil_sublist _) trivial
 ·have hb1' := hb1; try simp at hb1'
  have h1 : ¬ wordB (cs.getD i default).1 = false := by simpa using hb1
  refine hc_skip (then_n (hc_seq (hc_seq (hc_region (r_assign rfl rfl (hl_nil (then_n (hc_block ?_))))))))
  refine hc_loop (β := Nat) ⟨fun k => k ≤ i ∧ (cs.getD i default).1 ∉ (cs.take k).map (·.1), fun k => [(1, int i), (2, .pointer (some ⟨gB, 0, none⟩)), (5, .pointer (some ⟨gA, 0, none⟩)), (6, int k)], fun _ => [(gB, .cells #[.slice A cs.length ca, .slice B hs.length cb] T.api_Trades (0, 0))], fun _ => [Row (some ⟨gA, 0, none⟩) (rows [(cs.getD i default)]), Row A (rows cs)]⟩ (fun k => i - k) 0 ⟨Nat.zero_le _, by simp⟩ ⟨rfl, rfl, rfl, rfl, trivial⟩ (List.Sublist.refl _) ⟨(by repeat constructor), (by repeat constructor), trivial⟩ fun k hk => ?_
  obtain ⟨hk, ht⟩ := hk
  refine hc_seq (hc_seq (hc_region (r_move rfl rfl (r_move rfl rfl (r_lss rfl rfl rfl (hl_nil (then_n ?_)))))))
  refine c_dec rfl (fun hb2 => ?_) (fun hb2 => ?_)
  ·have hb2' := hb2; try simp at hb2'
   have hk2 : k < i := by omega
   have hkl : k < cs.length := by omega
   refine hc_skip (then_n (hc_seq (hc_block (hc_seq ?_))))
   refine hc_draw 8 mixed (by decide) (by decide) rfl rfl ?_
   apply hb_ex _ rfl rfl rfl
   ·intro w1
    refine r_fieldAddr ⟨_, 0, none⟩ rfl rfl T.fa_api_Trades_0 rfl ?_
    refine hl_nil ?_
    exact qe_done rfl
   apply hb_ex _ rfl rfl rfl
   ·intro w1
    refine r_load rfl T.cell_L_api_Class rfl (cell_blk (by repeat constructor) rfl) ?_
    refine hl_nil ?_
    exact qe_done rfl
   apply hb_ex _ rfl rfl rfl
   ·intro w1
    refine r_move rfl rfl (hl_nil ?_)
    exact qe_done rfl
   apply hb_ex _ rfl rfl rfl
   ·intro w1
    refine r_elem (α := Cl) cs k rfl T.u_L_api_Class T.sz_api_Class rfl rfl rfl (by repeat constructor) rfl hkl (by decide) ?_
    refine hl_nil ?_
    exact qe_done rfl
   apply hb_ex _ rfl rfl rfl
   ·intro w1
    refine r_fieldAddr _ rfl rfl T.fa_api_Class_0 rfl (hl_nil ?_)
    exact qe_done rfl
   apply hb_ex _ rfl rfl rfl
   ·intro w1
    refine r_load (v := str (cs.getD k default).1) rfl T.cell_string rfl (cell_row_f (by repeat constructor) (rows_get hkl rfl)) ?_
    refine hl_nil ?_
    exact qe_done rfl
   apply hb_ex _ rfl rfl rfl
   ·intro w1
    refine r_fieldAddr ⟨_, 0, none⟩ rfl rfl T.fa_api_Class_0 rfl ?_
    refine hl_nil ?_
    exact qe_done rfl
   apply hb_ex _ rfl rfl rfl
   ·intro w1
    refine r_load rfl T.cell_string rfl (cell_rowg (by repeat constructor) rfl) ?_
    refine hl_nil ?_
    exact qe_done rfl
   refine hb_nil ⟨rfl, ?_⟩
   refine r_seql rfl rfl rfl (hl_nil (then_n ?_))
   refine c_dec rfl (fun hb3 => ?_) (fun hb3 => ?_)
   ·have hb3' := hb3; try simp at hb3'
    refine hc_seq (hc_region (r_assign rfl rfl (hl_nil (then_n (hc_ret (inb_ret (then_ret (then_ret (inb_ret (then_ret ?_))))))))))
    exact ret1 () rfl (congrArg (fun b => some (int b)) (by rw [clsErr, if_neg h1, if_pos (List.mem_map.2 ⟨_, mem_take_lt hk2 (Nat.le_of_lt hi), hb3⟩)])) rfl trivial (List.nil_sublist _) trivial
   ·have hb3' := hb3; try simp at hb3'
    refine hc_skip (inb_n (then_n (hc_region (r_move rfl rfl ?_))))
    refine r_add _ rfl rfl rfl rfl (by unfold I64; omega) ?_
    refine r_assign rfl rfl (hl_nil ?_)
    exact again _ (k + 1) ⟨by omega, idx_next (·.1) hkl ht hb3⟩ (by show i - (k + 1) < i - k; omega) ⟨rfl, rfl, rfl, rfl, trivial⟩ (List.Sublist.refl _) ⟨(by repeat constructor), (by repeat constructor), trivial⟩
  ·have hb2' := hb2; try simp at hb2'
   have hki : k = i := by omega
   rw [hki] at ht
   refine hc_exit (then_exit (then_exit (inb_hit (then_n (hc_seq (hc_seq (hc_region ?_)))))))
   refine r_fieldAddr ⟨_, 1, none⟩ rfl rfl T.fa_api_Class_1 rfl ?_
   refine r_load rfl T.cell_int rfl (cell_rowg (by repeat constructor) rfl) ?_
   refine r_lss rfl rfl rfl (r_move rfl rfl ?_)
   refine g_split rfl rfl ?_ ?_
   ·intro hg1; have hg1' := hg1; try simp at hg1'
    have g4 : ¬ (cs.getD i default).2 < -1 := of_decide_eq_false (eq_of_beq hg1)
    refine g_yes rfl rfl hg1 ?_
    refine r_fieldAddr ⟨_, 1, none⟩ rfl rfl T.fa_api_Class_1 rfl ?_
    refine g_yes rfl rfl hg1 ?_
    refine r_load rfl T.cell_int rfl (cell_rowg (by repeat constructor) rfl) ?_
    refine g_yes rfl rfl hg1 ?_
    refine r_fieldAddr ⟨_, 0, none⟩ rfl rfl T.fa_api_Trades_0 rfl ?_
    refine g_yes rfl rfl hg1 ?_
    refine r_load rfl T.cell_L_api_Class rfl (cell_own (by repeat constructor) rfl) ?_
    refine g_yes rfl rfl hg1 ?_
    refine r_len_sl rfl T.u_L_api_Class rfl ?_
    refine g_yes rfl rfl hg1 (r_geq rfl rfl rfl ?_)
    refine p_f rfl rfl (bf1 hg1) rfl ?_
    refine hl_nil (then_n ?_)
    refine c_dec rfl (fun hb4 => ?_) (fun hb4 => ?_)
    ·have hb4' := hb4; try simp at hb4'
     refine hc_seq (hc_region (r_assign rfl rfl (hl_nil (then_n (hc_ret (then_ret ?_))))))
     exact ret1 () rfl (congrArg (fun b => some (int b)) (by rw [clsErr, if_neg h1, if_neg ht, if_pos (by omega)])) rfl trivial (List.nil_sublist _) trivial
    ·have hb4' := hb4; try simp at hb4'
     refine hc_skip (then_n (hc_seq (hc_seq (hc_region ?_))))
     refine r_fieldAddr ⟨_, 1, none⟩ rfl rfl T.fa_api_Class_1 rfl ?_
     refine r_load rfl T.cell_int rfl (cell_rowg (by repeat constructor) rfl) ?_
     refine r_move rfl rfl (r_geq rfl rfl rfl (hl_nil (then_n ?_)))
     refine c_dec rfl (fun hb5 => ?_) (fun hb5 => ?_)
     ·have hb5' := hb5; try simp at hb5'
      refine hc_seq (hc_region (r_assign rfl rfl (hl_nil (then_n (hc_ret (then_ret ?_))))))
      exact ret1 () rfl (congrArg (fun b => some (int b)) (by rw [clsErr, if_neg h1, if_neg ht, if_neg (by omega), if_pos (by omega)])) rfl trivial (List.nil_sublist _) trivial
     ·have hb5' := hb5; try simp at hb5'
      refine hc_skip (then_n (hc_seq (hc_region (r_assign rfl rfl (hl_nil (then_n (hc_ret ?_)))))))
      exact ret1 () rfl (congrArg (fun b => some (int b)) (by rw [clsErr, if_neg h1, if_neg ht, if_neg (by omega), if_neg (by omega)])) rfl trivial (List.nil_sublist _) trivial
   ·intro hg1; have hg1' := hg1; try simp at hg1'
    have g4 : (cs.getD i default).2 < -1 := Classical.byContradiction fun e => by rw [decide_eq_false e] at hg1; cases hg1
    refine g_no rfl rfl rfl rfl rfl hg1 (g_no rfl rfl rfl rfl rfl hg1 (g_no rfl rfl rfl rfl rfl hg1 (g_no rfl rfl rfl rfl rfl hg1 (g_no rfl rfl rfl rfl rfl hg1 (g_no rfl rfl rfl rfl rfl hg1 ?_)))))
    refine p_t rfl rfl (bt2 hg1) rfl ?_
    refine hl_nil (then_n (c_t rfl rfl (hc_seq (hc_region (r_assign rfl rfl (hl_nil (then_n (hc_ret (then_ret ?_)))))))))
    exact ret1 () rfl (congrArg (fun b => some (int b)) (by rw [clsErr, if_neg h1, if_neg ht, if_pos (by omega)])) rfl trivial (List.nil_sublist _) trivial

set_option maxHeartbeats 2000000 in
theorem ref04_checkHead_meets {A B : Option Addr} {ca cb : Nat} (cs : List Cl) (hs : List Hd) (i : Nat) (hi : i < hs.length) (hw : ∀ h ∈ hs, h.1.length ≤ 1000) (hhl : hs.length ≤ 1000) (ha : ∀ h ∈ hs, h.2.2.2.l.length ≤ 1000000) : Meets Tryz.prog F.ref04_checkHead [.agg #[.slice A cs.length ca, .slice B hs.length cb], int i] { LI := [RowsF B hs Hd.row], val := fun _ : Unit => int (headErr (trOf cs hs) i) } := by
 refine meets_intro F.ref04_checkHead_f rfl (Nat.le_of_ble_eq_true rfl) fun w0 => ?_
 refine hc_seq (hc_region ?_)
 refine r_box rfl rfl fun gB => ?_
 refine r_assign rfl rfl (hl_nil (then_n (hc_seq ?_)))
 refine hc_outerF (ps := hs) (A := B) (f := Hd.row) (by repeat constructor) ?_
 refine hc_innerF (p := (hs.getD i default)) (f := Hd.row) (ps := hs) (by repeat constructor) (getD_mem hi) ?_
 have hal := ha _ (getD_mem hi)
 refine hc_region ?_
 refine r_fieldAddr ⟨_, 1, none⟩ rfl rfl T.fa_api_Trades_1 rfl ?_
 refine r_load rfl T.cell_L_api_Head rfl (cell_own (by repeat constructor) rfl) ?_
 refine r_move rfl rfl ?_
 refine r_elem (α := Hd) hs i rfl T.u_L_api_Head T.sz_api_Head rfl rfl rfl (by repeat constructor) rfl hi (by decide) ?_
 refine r_loadS rfl T.row_api_Head T.sz_api_Head rfl rfl (cells_row (by repeat constructor) (rows_all (by omega))) ?_
 refine r_alloc rfl (fun _ => T.al_api_Head _) fun gA => ?_
 refine r_storeS rfl rfl (by first | exact .refl _ | exact perm2 _ _ _ | exact perm3 _ _ _ _ | exact perm4 _ _ _ _ _) T.sz_api_Head (by rfl) (by rfl) ?_
 refine hl_nil (then_n (hc_seq (hc_seq ?_)))
 refine hc_letgo (rows [(hs.getD i default)]) ⟨[], List.append_nil _⟩ ?_
 refine hc_region ?_
 refine r_fieldAddr ⟨_, 0, none⟩ rfl rfl T.fa_api_Head_0 rfl ?_
 refine r_load rfl T.cell_string rfl (cell_rowg (by repeat constructor) rfl) ?_
 refine hl_call F.ref04_Word_cb rfl rfl (ref04_Word_meets (hs.getD i default).1 (hw _ (getD_mem hi))) (List.Perm.refl _) trivial fun _ _ => ?_
 refine r_not rfl rfl (hl_nil (then_n ?_))
 refine hc_cond rfl (fun hb1 => ?_) (fun hb1 => ?_)
 ·have hb1' := hb1; try simp at hb1'
  have h1 : wordB (hs.getD i default).1 = false := by simpa using hb1
  refine hc_seq (hc_region (r_assign rfl rfl (hl_nil (then_n (hc_ret (then_ret ?_))))))
  exact ret1 () rfl (congrArg (fun b => some (int b)) (by rw [headErr_of cs hs hi, if_pos h1])) rfl trivial (List.nil_sublist _) trivial
 ·have hb1' := hb1; try simp at hb1'
  have h1 : ¬ wordB (hs.getD i default).1 = false := by simpa using hb1
  refine hc_skip (then_n (hc_seq (hc_seq (hc_region (r_assign rfl rfl (hl_nil (then_n (hc_block ?_))))))))
  refine hc_loop (β := Nat) ⟨fun k => k ≤ i ∧ (hs.getD i default).1 ∉ (hs.take k).map (·.1), fun k => [(1, int i), (2, .pointer (some ⟨gB, 0, none⟩)), (5, .pointer (some ⟨gA, 0, none⟩)), (6, int k)], fun _ => [(gB, .cells #[.slice A cs.length ca, .slice B hs.length cb] T.api_Trades (0, 0))], fun _ => [Row (some ⟨gA, 0, none⟩) (rows [(hs.getD i default)]), Hd.row (hs.getD i default), Row B (rows hs), RowsF B hs Hd.row]⟩ (fun k => i - k) 0 ⟨Nat.zero_le _, by simp⟩ ⟨rfl, rfl, rfl, rfl, trivial⟩ (List.Sublist.refl _) ⟨(by repeat constructor), (by repeat constructor), (by repeat constructor), (by repeat constructor), trivial⟩ fun k hk => ?_
  obtain ⟨hk, ht⟩ := hk
  refine hc_seq (hc_seq (hc_region (r_move rfl rfl (r_move rfl rfl (r_lss rfl rfl rfl (hl_nil (then_n ?_)))))))
  refine c_dec rfl (fun hb2 => ?_) (fun hb2 => ?_)
  ·have hb2' := hb2; try simp at hb2'
   have hk2 : k < i := by omega
   have hkl : k < hs.length := by omega
   refine hc_skip (then_n (hc_seq (hc_block (hc_seq ?_))))
   refine hc_draw 8 mixed (by decide) (by decide) rfl rfl ?_
   apply hb_ex _ rfl rfl rfl
   ·intro w1
    refine r_fieldAddr ⟨_, 1, none⟩ rfl rfl T.fa_api_Trades_1 rfl ?_
    refine hl_nil ?_
    exact qe_done rfl
   apply hb_ex _ rfl rfl rfl
   ·intro w1
    refine r_load rfl T.cell_L_api_Head rfl (cell_blk (by repeat constructor) rfl) ?_
    refine hl_nil ?_
    exact qe_done rfl
   apply hb_ex _ rfl rfl rfl
   ·intro w1
    refine r_move rfl rfl (hl_nil ?_)
    exact qe_done rfl
   apply hb_ex _ rfl rfl rfl
   ·intro w1
    refine r_elem (α := Hd) hs k rfl T.u_L_api_Head T.sz_api_Head rfl rfl rfl (by repeat constructor) rfl hkl (by decide) ?_
    refine hl_nil ?_
    exact qe_done rfl
   apply hb_ex _ rfl rfl rfl
   ·intro w1
    refine r_fieldAddr _ rfl rfl T.fa_api_Head_0 rfl (hl_nil ?_)
    exact qe_done rfl
   apply hb_ex _ rfl rfl rfl
   ·intro w1
    refine r_load (v := str (hs.getD k default).1) rfl T.cell_string rfl (cell_row_f (by repeat constructor) (rows_get hkl rfl)) ?_
    refine hl_nil ?_
    exact qe_done rfl
   apply hb_ex _ rfl rfl rfl
   ·intro w1
    refine r_fieldAddr ⟨_, 0, none⟩ rfl rfl T.fa_api_Head_0 rfl ?_
    refine hl_nil ?_
    exact qe_done rfl
   apply hb_ex _ rfl rfl rfl
   ·intro w1
    refine r_load rfl T.cell_string rfl (cell_rowg (by repeat constructor) rfl) ?_
    refine hl_nil ?_
    exact qe_done rfl
   refine hb_nil ⟨rfl, ?_⟩
   refine r_seql rfl rfl rfl (hl_nil (then_n ?_))
   refine c_dec rfl (fun hb3 => ?_) (fun hb3 => ?_)
   ·have hb3' := hb3; try simp at hb3'
    refine hc_seq (hc_region (r_assign rfl rfl (hl_nil (then_n (hc_ret (inb_ret (then_ret (then_ret (inb_ret (then_ret ?_))))))))))
    exact ret1 () rfl (congrArg (fun b => some (int b)) (by rw [headErr_of cs hs hi, if_neg h1, if_pos (List.mem_map.2 ⟨_, mem_take_lt hk2 (Nat.le_of_lt hi), hb3⟩)])) rfl trivial (List.nil_sublist _) trivial
   ·have hb3' := hb3; try simp at hb3'
    refine hc_skip (inb_n (then_n (hc_region (r_move rfl rfl ?_))))
    refine r_add _ rfl rfl rfl rfl (by unfold I64; omega) ?_
    refine r_assign rfl rfl (hl_nil ?_)
    exact again _ (k + 1) ⟨by omega, idx_next (·.1) hkl ht hb3⟩ (by show i - (k + 1) < i - k; omega) ⟨rfl, rfl, rfl, rfl, trivial⟩ (List.Sublist.refl _) ⟨(by repeat constructor), (by repeat constructor), (by repeat constructor), (by repeat constructor), trivial⟩
  ·have hb2' := hb2; try simp at hb2'
   have hki : k = i := by omega
   rw [hki] at ht
   refine hc_exit (then_exit (then_exit (inb_hit (then_n (hc_seq ?_)))))
   refine hc_cut ⟨fun _ : Unit => True, fun _ => [(1, int i), (2, .pointer (some ⟨gB, 0, none⟩)), (5, .pointer (some ⟨gA, 0, none⟩)), (45, .bool (decide (0 < i ∧ (hs.getD i default).1 < (hs.getD (i - 1) default).1)))], fun _ => [(gB, .cells #[.slice A cs.length ca, .slice B hs.length cb] T.api_Trades (0, 0))], fun _ => [Row (some ⟨gA, 0, none⟩) (rows [(hs.getD i default)]), Hd.row (hs.getD i default), Row B (rows hs), RowsF B hs Hd.row]⟩ ?_ ?_
   ·skip
    refine hc_draw 12 mixed (by decide) (by decide) rfl rfl ?_
    apply hb_ex _ rfl rfl rfl
    ·intro w1
     refine r_move rfl rfl (hl_nil ?_)
     exact qe_done rfl
    apply hb_ex _ rfl rfl rfl
    ·intro w1
     refine r_gtr rfl rfl rfl (hl_nil ?_)
     exact qe_done rfl
    apply hb_ex _ rfl rfl rfl
    ·intro w1
     refine r_move rfl rfl (hl_nil ?_)
     exact qe_done rfl
    refine hb_split (t := 34) (want := true) rfl ?_ ?_
    ·intro hg1; have hg1' := hg1; try simp at hg1'
     have g3 : (0 : Int) < i := of_decide_eq_true (eq_of_beq hg1)
     have hi1 : i - 1 < hs.length := by omega
     apply hb_ex _ rfl rfl rfl
     ·intro w1
      refine g_yes rfl rfl hg1 ?_
      refine r_fieldAddr ⟨_, 0, none⟩ rfl rfl T.fa_api_Head_0 rfl ?_
      refine hl_nil ?_
      exact qe_done rfl
     apply hb_ex _ rfl rfl rfl
     ·intro w1
      refine g_yes rfl rfl hg1 ?_
      refine r_load rfl T.cell_string rfl (cell_rowg (by repeat constructor) rfl) ?_
      refine hl_nil ?_
      exact qe_done rfl
     apply hb_ex _ rfl rfl rfl
     ·intro w1
      refine g_yes rfl rfl hg1 ?_
      refine r_fieldAddr ⟨_, 1, none⟩ rfl rfl T.fa_api_Trades_1 rfl ?_
      refine hl_nil ?_
      exact qe_done rfl
     apply hb_ex _ rfl rfl rfl
     ·intro w1
      refine g_yes rfl rfl hg1 ?_
      refine r_load rfl T.cell_L_api_Head rfl (cell_blk (by repeat constructor) rfl) ?_
      refine hl_nil ?_
      exact qe_done rfl
     apply hb_ex _ rfl rfl rfl
     ·intro w1
      refine g_yes rfl rfl hg1 (r_move rfl rfl (hl_nil ?_))
      exact qe_done rfl
     apply hb_ex _ rfl rfl rfl
     ·intro w1
      refine g_yes rfl rfl hg1 ?_
      refine r_sub ((i - 1 : Nat) : Int) rfl rfl rfl (by omega) (by unfold I64; omega) ?_
      refine hl_nil ?_
      exact qe_done rfl
     apply hb_ex _ rfl rfl rfl
     ·intro w1
      refine g_yes rfl rfl hg1 ?_
      refine r_elem (α := Hd) hs (i - 1) rfl T.u_L_api_Head T.sz_api_Head rfl rfl rfl (by repeat constructor) rfl hi1 (by decide) ?_
      refine hl_nil ?_
      exact qe_done rfl
     apply hb_ex _ rfl rfl rfl
     ·intro w1
      refine g_yes rfl rfl hg1 (r_fieldAddr _ rfl rfl T.fa_api_Head_0 rfl (hl_nil ?_))
      exact qe_done rfl
     apply hb_ex _ rfl rfl rfl
     ·intro w1
      refine g_yes rfl rfl hg1 ?_
      refine r_load (v := str (hs.getD (i - 1) default).1) rfl T.cell_string rfl (cell_row_f (by repeat constructor) (rows_get hi1 rfl)) ?_
      refine hl_nil ?_
      exact qe_done rfl
     refine hb_nil ⟨rfl, ?_⟩
     refine g_yes rfl rfl hg1 (r_slss rfl rfl rfl ?_)
     refine p_t rfl rfl (bt1 hg1) rfl ?_
     refine hl_nil ?_
     exact cut_n _ () trivial ⟨rfl, rfl, rfl, congrArg (fun b => some (Value.bool b)) (by rw [str_lt_dec]; exact decide_eq_decide.2 ⟨fun e => ⟨by omega, e⟩, fun e => e.2⟩), trivial⟩ (List.Sublist.refl _) ⟨(by repeat constructor), (by repeat constructor), (by repeat constructor), (by repeat constructor), trivial⟩
    ·intro hg1; have hg1' := hg1; try simp at hg1'
     have g3 : ¬ (0 : Int) < i := of_decide_eq_false (bf2 hg1)
     apply hb_ex _ rfl rfl rfl
     ·intro w1
      refine g_no rfl rfl rfl rfl rfl hg1 (hl_nil ?_)
      exact qe_done rfl
     apply hb_ex _ rfl rfl rfl
     ·intro w1
      refine g_no rfl rfl rfl rfl rfl hg1 (hl_nil ?_)
      exact qe_done rfl
     apply hb_ex _ rfl rfl rfl
     ·intro w1
      refine g_no rfl rfl rfl rfl rfl hg1 (hl_nil ?_)
      exact qe_done rfl
     apply hb_ex _ rfl rfl rfl
     ·intro w1
      refine g_no rfl rfl rfl rfl rfl hg1 (hl_nil ?_)
      exact qe_done rfl
     apply hb_ex _ rfl rfl rfl
     ·intro w1
      refine g_no rfl rfl rfl rfl rfl hg1 (hl_nil ?_)
      exact qe_done rfl
     apply hb_ex _ rfl rfl rfl
     ·intro w1
      refine g_no rfl rfl rfl rfl rfl hg1 (hl_nil ?_)
      exact qe_done rfl
     apply hb_ex _ rfl rfl rfl
     ·intro w1
      refine g_no rfl rfl rfl rfl rfl hg1 (hl_nil ?_)
      exact qe_done rfl
     apply hb_ex _ rfl rfl rfl
     ·intro w1
      refine g_no rfl rfl rfl rfl rfl hg1 (hl_nil ?_)
      exact qe_done rfl
     apply hb_ex _ rfl rfl rfl
     ·intro w1
      refine g_no rfl rfl rfl rfl rfl hg1 (hl_nil ?_)
      exact qe_done rfl
     refine hb_nil ⟨rfl, ?_⟩
     refine g_no rfl rfl rfl rfl rfl hg1 ?_
     refine p_f rfl rfl (bf2 hg1) rfl ?_
     refine hl_nil ?_
     exact cut_n _ () trivial ⟨rfl, rfl, rfl, congrArg (fun b => some (Value.bool b)) (by exact (decide_eq_false (by omega)).symm), trivial⟩ (List.Sublist.refl _) ⟨(by repeat constructor), (by repeat constructor), (by repeat constructor), (by repeat constructor), trivial⟩
   ·refine fun _ _ => ?_
    refine c_dec rfl (fun hb4 => ?_) (fun hb4 => ?_)
    ·have hb4' := hb4; try simp at hb4'
     refine hc_seq (hc_region (r_assign rfl rfl (hl_nil (then_n (hc_ret (then_ret ?_))))))
     exact ret1 () rfl (congrArg (fun b => some (int b)) (by rw [headErr_of cs hs hi, if_neg h1, if_neg ht, if_pos hb4])) rfl trivial (List.nil_sublist _) trivial
    ·have hb4' := hb4; try simp at hb4'
     refine hc_skip (then_n (hc_seq (hc_seq (hc_region ?_))))
     refine r_fieldAddr ⟨_, 1, none⟩ rfl rfl T.fa_api_Head_1 rfl ?_
     refine r_load rfl T.cell_int rfl (cell_rowg (by repeat constructor) rfl) ?_
     refine r_lss rfl rfl rfl (r_move rfl rfl ?_)
     refine g_split rfl rfl ?_ ?_
     ·intro hg2; have hg2' := hg2; try simp at hg2'
      have g11_4 : ¬ (hs.getD i default).2.1 < -1 := of_decide_eq_false (eq_of_beq hg2)
      refine g_yes rfl rfl hg2 ?_
      refine r_fieldAddr ⟨_, 1, none⟩ rfl rfl T.fa_api_Head_1 rfl ?_
      refine g_yes rfl rfl hg2 ?_
      refine r_load rfl T.cell_int rfl (cell_rowg (by repeat constructor) rfl) ?_
      refine g_yes rfl rfl hg2 ?_
      refine r_fieldAddr ⟨_, 0, none⟩ rfl rfl T.fa_api_Trades_0 rfl ?_
      refine g_yes rfl rfl hg2 ?_
      refine r_load rfl T.cell_L_api_Class rfl (cell_own (by repeat constructor) rfl) ?_
      refine g_yes rfl rfl hg2 ?_
      refine r_len_sl rfl T.u_L_api_Class rfl ?_
      refine g_yes rfl rfl hg2 (r_geq rfl rfl rfl ?_)
      refine p_f rfl rfl (bf1 hg2) rfl ?_
      refine hl_nil (then_n ?_)
      refine c_dec rfl (fun hb5 => ?_) (fun hb5 => ?_)
      ·have hb5' := hb5; try simp at hb5'
       refine hc_seq (hc_region (r_assign rfl rfl (hl_nil (then_n (hc_ret (then_ret ?_))))))
       exact ret1 () rfl (congrArg (fun b => some (int b)) (by rw [headErr_of cs hs hi, if_neg h1, if_neg ht, if_neg hb4, if_pos (by omega)])) rfl trivial (List.nil_sublist _) trivial
      ·have hb5' := hb5; try simp at hb5'
       refine hc_skip (then_n (hc_seq (hc_seq (hc_region ?_))))
       refine r_fieldAddr ⟨_, 2, none⟩ rfl rfl T.fa_api_Head_2 rfl ?_
       refine r_load rfl T.cell_int rfl (cell_rowg (by repeat constructor) rfl) ?_
       refine r_lss rfl rfl rfl (r_move rfl rfl ?_)
       refine g_split rfl rfl ?_ ?_
       ·intro hg3; have hg3' := hg3; try simp at hg3'
        have g13_4 : ¬ (hs.getD i default).2.2.1 < -1 := of_decide_eq_false (eq_of_beq hg3)
        refine g_yes rfl rfl hg3 ?_
        refine r_fieldAddr ⟨_, 2, none⟩ rfl rfl T.fa_api_Head_2 rfl ?_
        refine g_yes rfl rfl hg3 ?_
        refine r_load rfl T.cell_int rfl (cell_rowg (by repeat constructor) rfl) ?_
        refine g_yes rfl rfl hg3 ?_
        refine r_fieldAddr ⟨_, 1, none⟩ rfl rfl T.fa_api_Trades_1 rfl ?_
        refine g_yes rfl rfl hg3 ?_
        refine r_load rfl T.cell_L_api_Head rfl (cell_own (by repeat constructor) rfl) ?_
        refine g_yes rfl rfl hg3 ?_
        refine r_len_sl rfl T.u_L_api_Head rfl ?_
        refine g_yes rfl rfl hg3 (r_geq rfl rfl rfl ?_)
        refine p_f rfl rfl (bf1 hg3) rfl ?_
        refine hl_nil (then_n ?_)
        refine c_dec rfl (fun hb6 => ?_) (fun hb6 => ?_)
        ·have hb6' := hb6; try simp at hb6'
         refine hc_seq (hc_region (r_assign rfl rfl (hl_nil (then_n (hc_ret (then_ret ?_))))))
         exact ret1 () rfl (congrArg (fun b => some (int b)) (by rw [headErr_of cs hs hi, if_neg h1, if_neg ht, if_neg hb4, if_pos (by omega)])) rfl trivial (List.nil_sublist _) trivial
        ·have hb6' := hb6; try simp at hb6'
         refine hc_skip (then_n (hc_seq (hc_seq (hc_region ?_))))
         refine r_fieldAddr ⟨_, 2, none⟩ rfl rfl T.fa_api_Head_2 rfl ?_
         refine r_load rfl T.cell_int rfl (cell_rowg (by repeat constructor) rfl) ?_
         refine r_move rfl rfl (r_eql rfl rfl rfl (hl_nil (then_n ?_)))
         refine c_dec rfl (fun hb7 => ?_) (fun hb7 => ?_)
         ·have hb7' := hb7; try simp at hb7'
          refine hc_seq (hc_region (r_assign rfl rfl (hl_nil (then_n (hc_ret (then_ret ?_))))))
          exact ret1 () rfl (congrArg (fun b => some (int b)) (by rw [headErr_of cs hs hi, if_neg h1, if_neg ht, if_neg hb4, if_neg (by omega), if_pos (by omega)])) rfl trivial (List.nil_sublist _) trivial
         ·have hb7' := hb7; try simp at hb7'
          have hH : headErr (trOf cs hs) i = if ¬ firstE (alsoErr hs.length i (hs.getD i default).2.2.2.l) (hs.getD i default).2.2.2.l.length = 0 then firstE (alsoErr hs.length i (hs.getD i default).2.2.2.l) (hs.getD i default).2.2.2.l.length else if kindBad (hs.getD i default).p = true then 8 else 0 := by rw [headErr_of cs hs hi, if_neg h1, if_neg ht, if_neg hb4, if_neg (by omega), if_neg (by omega)]
          have hkr := kind_ref (p := (hs.getD i default).p) (show -1 ≤ (hs.getD i default).2.2.1 by omega) (show -1 ≤ (hs.getD i default).2.1 by omega)
          clear ht
          refine hc_skip (then_n (hc_seq (hc_seq (hc_region (r_assign rfl rfl (hl_nil (then_n (hc_block ?_))))))))
          refine hc_loop (β := Nat) ⟨fun k => k ≤ (hs.getD i default).2.2.2.l.length ∧ firstE (alsoErr hs.length i (hs.getD i default).2.2.2.l) k = 0, fun k => [(1, int i), (2, .pointer (some ⟨gB, 0, none⟩)), (5, .pointer (some ⟨gA, 0, none⟩)), (7, int k)], fun _ => [(gB, .cells #[.slice A cs.length ca, .slice B hs.length cb] T.api_Trades (0, 0))], fun _ => [Row (some ⟨gA, 0, none⟩) (rows [(hs.getD i default)]), Hd.row (hs.getD i default), Row B (rows hs), RowsF B hs Hd.row]⟩ (fun k => (hs.getD i default).2.2.2.l.length - k) 0 ⟨Nat.zero_le _, rfl⟩ ⟨rfl, rfl, rfl, rfl, trivial⟩ (List.Sublist.refl _) ⟨(by repeat constructor), (by repeat constructor), (by repeat constructor), (by repeat constructor), trivial⟩ fun k hk => ?_
          obtain ⟨hk, ht⟩ := hk
          refine hc_seq (hc_seq (hc_region (r_move rfl rfl ?_)))
          refine r_fieldAddr ⟨_, 3, none⟩ rfl rfl T.fa_api_Head_3 rfl ?_
          refine r_load (v := .slice (hs.getD i default).2.2.2.a (hs.getD i default).2.2.2.l.length (hs.getD i default).2.2.2.c) rfl T.cell_ints rfl (cell_rowg (by repeat constructor) rfl) ?_
          refine r_len_sl rfl T.u_ints rfl ?_
          refine r_lss rfl rfl rfl (hl_nil (then_n ?_))
          refine c_dec rfl (fun hb8 => ?_) (fun hb8 => ?_)
          ·have hb8' := hb8; try simp at hb8'
           have hk2 : k < (hs.getD i default).2.2.2.l.length := by omega
           refine hc_skip (then_n (hc_seq (hc_block (hc_seq (hc_seq ?_)))))
           refine hc_draw 15 mixed (by decide) (by decide) rfl rfl ?_
           apply hb_ex _ rfl rfl rfl
           ·intro w1
            refine r_fieldAddr ⟨_, 3, none⟩ rfl rfl T.fa_api_Head_3 rfl ?_
            refine hl_nil ?_
            exact qe_done rfl
           apply hb_ex _ rfl rfl rfl
           ·intro w1
            refine r_load (v := .slice (hs.getD i default).2.2.2.a (hs.getD i default).2.2.2.l.length (hs.getD i default).2.2.2.c) rfl T.cell_ints rfl (cell_rowg (by repeat constructor) rfl) ?_
            refine hl_nil ?_
            exact qe_done rfl
           apply hb_ex _ rfl rfl rfl
           ·intro w1
            refine r_move rfl rfl (hl_nil ?_)
            exact qe_done rfl
           apply hb_ex _ rfl rfl rfl
           ·intro w1
            refine r_elem (α := Int) (hs.getD i default).2.2.2.l (k) rfl T.u_ints T.sz_int rfl rfl rfl (by repeat constructor) rfl hk2 (by decide) ?_
            refine hl_nil ?_
            exact qe_done rfl
           apply hb_ex _ rfl rfl rfl
           ·intro w1
            refine r_load (v := int ((hs.getD i default).2.2.2.l.getD (k) default)) rfl T.cell_int rfl (cell_row (by repeat constructor) (rows_get0 hk2 rfl)) ?_
            refine hl_nil ?_
            exact qe_done rfl
           apply hb_ex _ rfl rfl rfl
           ·intro w1
            refine r_lss rfl rfl rfl (hl_nil ?_)
            exact qe_done rfl
           apply hb_ex _ rfl rfl rfl
           ·intro w1
            refine r_move rfl rfl (hl_nil ?_)
            exact qe_done rfl
           refine hb_split (t := 85) (want := false) rfl ?_ ?_
           ·intro hg4; have hg4' := hg4; try simp at hg4'
            have g20_7 : ¬ (hs.getD i default).2.2.2.l.getD k default < 0 := of_decide_eq_false (eq_of_beq hg4)
            apply hb_ex _ rfl rfl rfl
            ·intro w1
             refine g_yes rfl rfl hg4 ?_
             refine r_fieldAddr ⟨_, 3, none⟩ rfl rfl T.fa_api_Head_3 rfl ?_
             refine hl_nil ?_
             exact qe_done rfl
            apply hb_ex _ rfl rfl rfl
            ·intro w1
             refine g_yes rfl rfl hg4 ?_
             refine r_load (v := .slice (hs.getD i default).2.2.2.a (hs.getD i default).2.2.2.l.length (hs.getD i default).2.2.2.c) rfl T.cell_ints rfl (cell_rowg (by repeat constructor) rfl) ?_
             refine hl_nil ?_
             exact qe_done rfl
            apply hb_ex _ rfl rfl rfl
            ·intro w1
             refine g_yes rfl rfl hg4 (r_move rfl rfl (hl_nil ?_))
             exact qe_done rfl
            apply hb_ex _ rfl rfl rfl
            ·intro w1
             refine g_yes rfl rfl hg4 ?_
             refine r_elem (α := Int) (hs.getD i default).2.2.2.l (k) rfl T.u_ints T.sz_int rfl rfl rfl (by repeat constructor) rfl hk2 (by decide) ?_
             refine hl_nil ?_
             exact qe_done rfl
            apply hb_ex _ rfl rfl rfl
            ·intro w1
             refine g_yes rfl rfl hg4 ?_
             refine r_load (v := int ((hs.getD i default).2.2.2.l.getD (k) default)) rfl T.cell_int rfl (cell_row (by repeat constructor) (rows_get0 hk2 rfl)) ?_
             refine hl_nil ?_
             exact qe_done rfl
            apply hb_ex _ rfl rfl rfl
            ·intro w1
             refine g_yes rfl rfl hg4 ?_
             refine r_fieldAddr ⟨_, 1, none⟩ rfl rfl T.fa_api_Trades_1 rfl ?_
             refine hl_nil ?_
             exact qe_done rfl
            apply hb_ex _ rfl rfl rfl
            ·intro w1
             refine g_yes rfl rfl hg4 ?_
             refine r_load rfl T.cell_L_api_Head rfl (cell_blk (by repeat constructor) rfl) ?_
             refine hl_nil ?_
             exact qe_done rfl
            apply hb_ex _ rfl rfl rfl
            ·intro w1
             refine g_yes rfl rfl hg4 ?_
             refine r_len_sl rfl T.u_L_api_Head rfl ?_
             refine hl_nil ?_
             exact qe_done rfl
            refine hb_nil ⟨rfl, ?_⟩
            refine g_yes rfl rfl hg4 (r_geq rfl rfl rfl ?_)
            refine p_f rfl rfl (bf1 hg4) rfl ?_
            refine hl_nil (then_n ?_)
            refine c_dec rfl (fun hb9 => ?_) (fun hb9 => ?_)
            ·have hb9' := hb9; try simp at hb9'
             refine hc_seq (hc_region (r_assign rfl rfl (hl_nil (then_n (hc_ret (then_ret (inb_ret (then_ret (then_ret (inb_ret (then_ret ?_)))))))))))
             exact ret1 () rfl (congrArg (fun b => some (int b)) (by have he : (alsoErr hs.length i (hs.getD i default).2.2.2.l) k = 3 := (by unfold alsoErr; rw [if_pos (by omega)]); rw [hH, firstE_stop ht (by rw [he]; omega) _ hk2, if_pos (by rw [he]; omega), he])) rfl trivial (List.nil_sublist _) trivial
            ·have hb9' := hb9; try simp at hb9'
             refine hc_skip (then_n (hc_seq (hc_seq (hc_region ?_))))
             refine r_fieldAddr ⟨_, 3, none⟩ rfl rfl T.fa_api_Head_3 rfl ?_
             refine r_load (v := .slice (hs.getD i default).2.2.2.a (hs.getD i default).2.2.2.l.length (hs.getD i default).2.2.2.c) rfl T.cell_ints rfl (cell_rowg (by repeat constructor) rfl) ?_
             refine r_move rfl rfl ?_
             refine r_elem (α := Int) (hs.getD i default).2.2.2.l (k) rfl T.u_ints T.sz_int rfl rfl rfl (by repeat constructor) rfl hk2 (by decide) ?_
             refine r_load (v := int ((hs.getD i default).2.2.2.l.getD (k) default)) rfl T.cell_int rfl (cell_row (by repeat constructor) (rows_get0 hk2 rfl)) ?_
             refine r_move rfl rfl (r_eql rfl rfl rfl (hl_nil (then_n ?_)))
             refine c_dec rfl (fun hb10 => ?_) (fun hb10 => ?_)
             ·have hb10' := hb10; try simp at hb10'
              refine hc_seq (hc_region (r_assign rfl rfl (hl_nil (then_n (hc_ret (then_ret (inb_ret (then_ret (then_ret (inb_ret (then_ret ?_)))))))))))
              exact ret1 () rfl (congrArg (fun b => some (int b)) (by have he : (alsoErr hs.length i (hs.getD i default).2.2.2.l) k = 9 := (by unfold alsoErr; rw [if_neg (by omega), if_pos hb10]); rw [hH, firstE_stop ht (by rw [he]; omega) _ hk2, if_pos (by rw [he]; omega), he])) rfl trivial (List.nil_sublist _) trivial
             ·have hb10' := hb10; try simp at hb10'
              refine hc_skip (then_n ?_)
              refine hc_cut ⟨fun _ : Unit => True, fun _ => [(1, int i), (2, .pointer (some ⟨gB, 0, none⟩)), (5, .pointer (some ⟨gA, 0, none⟩)), (7, int k), (118, .bool (decide (0 < k ∧ (hs.getD i default).2.2.2.l.getD k default ≤ (hs.getD i default).2.2.2.l.getD (k - 1) default)))], fun _ => [(gB, .cells #[.slice A cs.length ca, .slice B hs.length cb] T.api_Trades (0, 0))], fun _ => [Row (some ⟨gA, 0, none⟩) (rows [(hs.getD i default)]), Hd.row (hs.getD i default), Row B (rows hs), RowsF B hs Hd.row]⟩ ?_ ?_
              ·skip
               refine hc_draw 14 mixed (by decide) (by decide) rfl rfl ?_
               apply hb_ex _ rfl rfl rfl
               ·intro w1
                refine r_move rfl rfl (hl_nil ?_)
                exact qe_done rfl
               apply hb_ex _ rfl rfl rfl
               ·intro w1
                refine r_gtr rfl rfl rfl (hl_nil ?_)
                exact qe_done rfl
               apply hb_ex _ rfl rfl rfl
               ·intro w1
                refine r_move rfl rfl (hl_nil ?_)
                exact qe_done rfl
               refine hb_split (t := 105) (want := true) rfl ?_ ?_
               ·intro hg5; have hg5' := hg5; try simp at hg5'
                have g3 : (0 : Int) < k := of_decide_eq_true (eq_of_beq hg5)
                apply hb_ex _ rfl rfl rfl
                ·intro w1
                 refine g_yes rfl rfl hg5 ?_
                 refine r_fieldAddr ⟨_, 3, none⟩ rfl rfl T.fa_api_Head_3 rfl ?_
                 refine hl_nil ?_
                 exact qe_done rfl
                apply hb_ex _ rfl rfl rfl
                ·intro w1
                 refine g_yes rfl rfl hg5 ?_
                 refine r_load (v := .slice (hs.getD i default).2.2.2.a (hs.getD i default).2.2.2.l.length (hs.getD i default).2.2.2.c) rfl T.cell_ints rfl (cell_rowg (by repeat constructor) rfl) ?_
                 refine hl_nil ?_
                 exact qe_done rfl
                apply hb_ex _ rfl rfl rfl
                ·intro w1
                 refine g_yes rfl rfl hg5 (r_move rfl rfl (hl_nil ?_))
                 exact qe_done rfl
                apply hb_ex _ rfl rfl rfl
                ·intro w1
                 refine g_yes rfl rfl hg5 ?_
                 refine r_elem (α := Int) (hs.getD i default).2.2.2.l (k) rfl T.u_ints T.sz_int rfl rfl rfl (by repeat constructor) rfl hk2 (by decide) ?_
                 refine hl_nil ?_
                 exact qe_done rfl
                apply hb_ex _ rfl rfl rfl
                ·intro w1
                 refine g_yes rfl rfl hg5 ?_
                 refine r_load (v := int ((hs.getD i default).2.2.2.l.getD (k) default)) rfl T.cell_int rfl (cell_row (by repeat constructor) (rows_get0 hk2 rfl)) ?_
                 refine hl_nil ?_
                 exact qe_done rfl
                apply hb_ex _ rfl rfl rfl
                ·intro w1
                 refine g_yes rfl rfl hg5 ?_
                 refine r_fieldAddr ⟨_, 3, none⟩ rfl rfl T.fa_api_Head_3 rfl ?_
                 refine hl_nil ?_
                 exact qe_done rfl
                apply hb_ex _ rfl rfl rfl
                ·intro w1
                 refine g_yes rfl rfl hg5 ?_
                 refine r_load (v := .slice (hs.getD i default).2.2.2.a (hs.getD i default).2.2.2.l.length (hs.getD i default).2.2.2.c) rfl T.cell_ints rfl (cell_rowg (by repeat constructor) rfl) ?_
                 refine hl_nil ?_
                 exact qe_done rfl
                apply hb_ex _ rfl rfl rfl
                ·intro w1
                 refine g_yes rfl rfl hg5 (r_move rfl rfl (hl_nil ?_))
                 exact qe_done rfl
                apply hb_ex _ rfl rfl rfl
                ·intro w1
                 refine g_yes rfl rfl hg5 ?_
                 refine r_sub ((k - 1 : Nat) : Int) rfl rfl rfl (by omega) (by unfold I64; omega) ?_
                 refine hl_nil ?_
                 exact qe_done rfl
                apply hb_ex _ rfl rfl rfl
                ·intro w1
                 refine g_yes rfl rfl hg5 ?_
                 refine r_elem (α := Int) (hs.getD i default).2.2.2.l (k - 1) rfl T.u_ints T.sz_int rfl rfl rfl (by repeat constructor) rfl (by omega) (by decide) ?_
                 refine hl_nil ?_
                 exact qe_done rfl
                apply hb_ex _ rfl rfl rfl
                ·intro w1
                 refine g_yes rfl rfl hg5 ?_
                 refine r_load (v := int ((hs.getD i default).2.2.2.l.getD (k - 1) default)) rfl T.cell_int rfl (cell_row (by repeat constructor) (rows_get0 (by omega) rfl)) ?_
                 refine hl_nil ?_
                 exact qe_done rfl
                refine hb_nil ⟨rfl, ?_⟩
                refine g_yes rfl rfl hg5 (r_leq rfl rfl rfl ?_)
                refine p_t rfl rfl (bt1 hg5) rfl ?_
                refine hl_nil ?_
                exact cut_n _ () trivial ⟨rfl, rfl, rfl, rfl, congrArg (fun b => some (Value.bool b)) (by exact decide_eq_decide.2 ⟨fun e => ⟨by omega, e⟩, fun e => e.2⟩), trivial⟩ (List.Sublist.refl _) ⟨(by repeat constructor), (by repeat constructor), (by repeat constructor), (by repeat constructor), trivial⟩
               ·intro hg5; have hg5' := hg5; try simp at hg5'
                have g3 : ¬ (0 : Int) < k := of_decide_eq_false (bf2 hg5)
                apply hb_ex _ rfl rfl rfl
                ·intro w1
                 refine g_no rfl rfl rfl rfl rfl hg5 (hl_nil ?_)
                 exact qe_done rfl
                apply hb_ex _ rfl rfl rfl
                ·intro w1
                 refine g_no rfl rfl rfl rfl rfl hg5 (hl_nil ?_)
                 exact qe_done rfl
                apply hb_ex _ rfl rfl rfl
                ·intro w1
                 refine g_no rfl rfl rfl rfl rfl hg5 (hl_nil ?_)
                 exact qe_done rfl
                apply hb_ex _ rfl rfl rfl
                ·intro w1
                 refine g_no rfl rfl rfl rfl rfl hg5 (hl_nil ?_)
                 exact qe_done rfl
                apply hb_ex _ rfl rfl rfl
                ·intro w1
                 refine g_no rfl rfl rfl rfl rfl hg5 (hl_nil ?_)
                 exact qe_done rfl
                apply hb_ex _ rfl rfl rfl
                ·intro w1
                 refine g_no rfl rfl rfl rfl rfl hg5 (hl_nil ?_)
                 exact qe_done rfl
                apply hb_ex _ rfl rfl rfl
                ·intro w1
                 refine g_no rfl rfl rfl rfl rfl hg5 (hl_nil ?_)
                 exact qe_done rfl
                apply hb_ex _ rfl rfl rfl
                ·intro w1
                 refine g_no rfl rfl rfl rfl rfl hg5 (hl_nil ?_)
                 exact qe_done rfl
                apply hb_ex _ rfl rfl rfl
                ·intro w1
                 refine g_no rfl rfl rfl rfl rfl hg5 (hl_nil ?_)
                 exact qe_done rfl
                apply hb_ex _ rfl rfl rfl
                ·intro w1
                 refine g_no rfl rfl rfl rfl rfl hg5 (hl_nil ?_)
                 exact qe_done rfl
                apply hb_ex _ rfl rfl rfl
                ·intro w1
                 refine g_no rfl rfl rfl rfl rfl hg5 (hl_nil ?_)
                 exact qe_done rfl
                refine hb_nil ⟨rfl, ?_⟩
                refine g_no rfl rfl rfl rfl rfl hg5 ?_
                refine p_f rfl rfl (bf2 hg5) rfl ?_
                refine hl_nil ?_
                exact cut_n _ () trivial ⟨rfl, rfl, rfl, rfl, congrArg (fun b => some (Value.bool b)) (by exact (decide_eq_false (by omega)).symm), trivial⟩ (List.Sublist.refl _) ⟨(by repeat constructor), (by repeat constructor), (by repeat constructor), (by repeat constructor), trivial⟩
              ·refine fun _ _ => ?_
               refine c_dec rfl (fun hb11 => ?_) (fun hb11 => ?_)
               ·have hb11' := hb11; try simp at hb11'
                refine hc_seq (hc_region (r_assign rfl rfl (hl_nil (then_n (hc_ret (inb_ret (then_ret (then_ret (inb_ret (then_ret ?_))))))))))
                exact ret1 () rfl (congrArg (fun b => some (int b)) (by have he : (alsoErr hs.length i (hs.getD i default).2.2.2.l) k = 5 := (by unfold alsoErr; rw [if_neg (by omega), if_neg hb10, if_pos hb11]); rw [hH, firstE_stop ht (by rw [he]; omega) _ hk2, if_pos (by rw [he]; omega), he])) rfl trivial (List.nil_sublist _) trivial
               ·have hb11' := hb11; try simp at hb11'
                refine hc_skip (inb_n (then_n (hc_region (r_move rfl rfl ?_))))
                refine r_add _ rfl rfl rfl rfl (by unfold I64; omega) ?_
                refine r_assign rfl rfl (hl_nil ?_)
                exact again _ (k + 1) ⟨by omega, by rw [firstE_succ ht]; unfold alsoErr; rw [if_neg (by omega), if_neg hb10, if_neg hb11]⟩ (by show (hs.getD i default).2.2.2.l.length - (k + 1) < (hs.getD i default).2.2.2.l.length - k; omega) ⟨rfl, rfl, rfl, rfl, trivial⟩ (List.Sublist.refl _) ⟨(by repeat constructor), (by repeat constructor), (by repeat constructor), (by repeat constructor), trivial⟩
           ·intro hg4; have hg4' := hg4; try simp at hg4'
            have g20_7 : (hs.getD i default).2.2.2.l.getD k default < 0 := Classical.byContradiction fun e => by rw [decide_eq_false e] at hg4; cases hg4
            apply hb_ex _ rfl rfl rfl
            ·intro w1
             refine g_no rfl rfl rfl rfl rfl hg4 (hl_nil ?_)
             exact qe_done rfl
            apply hb_ex _ rfl rfl rfl
            ·intro w1
             refine g_no rfl rfl rfl rfl rfl hg4 (hl_nil ?_)
             exact qe_done rfl
            apply hb_ex _ rfl rfl rfl
            ·intro w1
             refine g_no rfl rfl rfl rfl rfl hg4 (hl_nil ?_)
             exact qe_done rfl
            apply hb_ex _ rfl rfl rfl
            ·intro w1
             refine g_no rfl rfl rfl rfl rfl hg4 (hl_nil ?_)
             exact qe_done rfl
            apply hb_ex _ rfl rfl rfl
            ·intro w1
             refine g_no rfl rfl rfl rfl rfl hg4 (hl_nil ?_)
             exact qe_done rfl
            apply hb_ex _ rfl rfl rfl
            ·intro w1
             refine g_no rfl rfl rfl rfl rfl hg4 (hl_nil ?_)
             exact qe_done rfl
            apply hb_ex _ rfl rfl rfl
            ·intro w1
             refine g_no rfl rfl rfl rfl rfl hg4 (hl_nil ?_)
             exact qe_done rfl
            apply hb_ex _ rfl rfl rfl
            ·intro w1
             refine g_no rfl rfl rfl rfl rfl hg4 (hl_nil ?_)
             exact qe_done rfl
            refine hb_nil ⟨rfl, ?_⟩
            refine g_no rfl rfl rfl rfl rfl hg4 ?_
            refine p_t rfl rfl (bt2 hg4) rfl ?_
            refine hl_nil (then_n (c_t rfl rfl (hc_seq (hc_region (r_assign rfl rfl (hl_nil (then_n (hc_ret (then_ret (inb_ret (then_ret ?_)))))))))))
            refine then_ret (inb_ret (then_ret ?_))
            exact ret1 () rfl (congrArg (fun b => some (int b)) (by have he : (alsoErr hs.length i (hs.getD i default).2.2.2.l) k = 3 := (by unfold alsoErr; rw [if_pos (by omega)]); rw [hH, firstE_stop ht (by rw [he]; omega) _ hk2, if_pos (by rw [he]; omega), he])) rfl trivial (List.nil_sublist _) trivial
          ·have hb8' := hb8; try simp at hb8'
           obtain rfl : k = (hs.getD i default).2.2.2.l.length := by omega
           rw [if_neg (not_not_intro ht)] at hH
           refine hc_exit (then_exit (then_exit (inb_hit (then_n ?_))))
           refine hc_cut ⟨fun _ : Unit => True, fun _ => [(1, int i), (2, .pointer (some ⟨gB, 0, none⟩)), (5, .pointer (some ⟨gA, 0, none⟩)), (8, .bool (decide (0 ≤ (hs.getD i default).2.1) || decide ((0 : Int) < (hs.getD i default).2.2.2.l.length)))], fun _ => [(gB, .cells #[.slice A cs.length ca, .slice B hs.length cb] T.api_Trades (0, 0))], fun _ => [Row (some ⟨gA, 0, none⟩) (rows [(hs.getD i default)]), Hd.row (hs.getD i default), Row B (rows hs), RowsF B hs Hd.row]⟩ ?_ ?_
           ·skip
            refine hc_region ?_
            refine r_fieldAddr ⟨_, 1, none⟩ rfl rfl T.fa_api_Head_1 rfl ?_
            refine r_load rfl T.cell_int rfl (cell_rowg (by repeat constructor) rfl) ?_
            refine r_geq rfl rfl rfl (r_move rfl rfl ?_)
            refine g_split rfl rfl ?_ ?_
            ·intro hg6; have hg6' := hg6; try simp at hg6'
             have g26_4 : ¬ 0 ≤ (hs.getD i default).2.1 := of_decide_eq_false (eq_of_beq hg6)
             refine g_yes rfl rfl hg6 ?_
             refine r_fieldAddr ⟨_, 3, none⟩ rfl rfl T.fa_api_Head_3 rfl ?_
             refine g_yes rfl rfl hg6 ?_
             refine r_load (v := .slice (hs.getD i default).2.2.2.a (hs.getD i default).2.2.2.l.length (hs.getD i default).2.2.2.c) rfl T.cell_ints rfl (cell_rowg (by repeat constructor) rfl) ?_
             refine g_yes rfl rfl hg6 ?_
             refine r_len_sl rfl T.u_ints rfl ?_
             refine g_yes rfl rfl hg6 (r_gtr rfl rfl rfl ?_)
             refine p_f rfl rfl (bf1 hg6) rfl ?_
             refine r_assign rfl rfl (hl_nil ?_)
             exact cut_n _ () trivial ⟨rfl, rfl, rfl, congrArg (fun b => some (Value.bool b)) (by rw [decide_eq_false g26_4, Bool.false_or]), trivial⟩ (List.Sublist.refl _) ⟨(by repeat constructor), (by repeat constructor), (by repeat constructor), (by repeat constructor), trivial⟩
            ·intro hg6; have hg6' := hg6; try simp at hg6'
             have g26_4 : 0 ≤ (hs.getD i default).2.1 := Classical.byContradiction fun e => by rw [decide_eq_false e] at hg6; cases hg6
             refine g_no rfl rfl rfl rfl rfl hg6 (g_no rfl rfl rfl rfl rfl hg6 (g_no rfl rfl rfl rfl rfl hg6 (g_no rfl rfl rfl rfl rfl hg6 ?_)))
             refine p_t rfl rfl (bt2 hg6) rfl ?_
             refine r_assign rfl rfl (hl_nil ?_)
             exact cut_n _ () trivial ⟨rfl, rfl, rfl, congrArg (fun b => some (Value.bool b)) (by rw [decide_eq_true g26_4, Bool.true_or]), trivial⟩ (List.Sublist.refl _) ⟨(by repeat constructor), (by repeat constructor), (by repeat constructor), (by repeat constructor), trivial⟩
           ·refine fun _ _ => ?_
            refine hc_seq (hc_seq (hc_region ?_))
            refine r_fieldAddr ⟨_, 2, none⟩ rfl rfl T.fa_api_Head_2 rfl ?_
            refine r_load rfl T.cell_int rfl (cell_rowg (by repeat constructor) rfl) ?_
            refine r_geq rfl rfl rfl (r_move rfl rfl (r_beq rfl T.u_bool rfl rfl (hl_nil (then_n ?_))))
            refine c_dec rfl (fun hb12 => ?_) (fun hb12 => ?_)
            ·have hb12' := hb12; try simp at hb12'
             refine hc_seq (hc_region (r_assign rfl rfl (hl_nil (then_n (hc_ret (then_ret ?_))))))
             exact ret1 () rfl (congrArg (fun b => some (int b)) (by rw [hH, if_pos (by rw [hkr, beq_iff_eq]; exact hb12)])) rfl trivial (List.nil_sublist _) trivial
            ·have hb12' := hb12; try simp at hb12'
             refine hc_skip (then_n (hc_seq (hc_region (r_assign rfl rfl (hl_nil (then_n (hc_ret ?_)))))))
             exact ret1 () rfl (congrArg (fun b => some (int b)) (by rw [hH, if_neg (by rw [hkr, beq_iff_eq]; exact hb12)])) rfl trivial (List.nil_sublist _) trivial
       ·intro hg3; have hg3' := hg3; try simp at hg3'
        have g13_4 : (hs.getD i default).2.2.1 < -1 := Classical.byContradiction fun e => by rw [decide_eq_false e] at hg3; cases hg3
        refine g_no rfl rfl rfl rfl rfl hg3 (g_no rfl rfl rfl rfl rfl hg3 (g_no rfl rfl rfl rfl rfl hg3 (g_no rfl rfl rfl rfl rfl hg3 (g_no rfl rfl rfl rfl rfl hg3 (g_no rfl rfl rfl rfl rfl hg3 ?_)))))
        refine p_t rfl rfl (bt2 hg3) rfl ?_
        refine hl_nil (then_n (c_t rfl rfl (hc_seq (hc_region (r_assign rfl rfl (hl_nil (then_n (hc_ret (then_ret ?_)))))))))
        exact ret1 () rfl (congrArg (fun b => some (int b)) (by rw [headErr_of cs hs hi, if_neg h1, if_neg ht, if_neg hb4, if_pos (by omega)])) rfl trivial (List.nil_sublist _) trivial
     ·intro hg2; have hg2' := hg2; try simp at hg2'
      have g11_4 : (hs.getD i default).2.1 < -1 := Classical.byContradiction fun e => by rw [decide_eq_false e] at hg2; cases hg2
      refine g_no rfl rfl rfl rfl rfl hg2 (g_no rfl rfl rfl rfl rfl hg2 (g_no rfl rfl rfl rfl rfl hg2 (g_no rfl rfl rfl rfl rfl hg2 (g_no rfl rfl rfl rfl rfl hg2 (g_no rfl rfl rfl rfl rfl hg2 ?_)))))
      refine p_t rfl rfl (bt2 hg2) rfl ?_
      refine hl_nil (then_n (c_t rfl rfl (hc_seq (hc_region (r_assign rfl rfl (hl_nil (then_n (hc_ret (then_ret ?_)))))))))
      exact ret1 () rfl (congrArg (fun b => some (int b)) (by rw [headErr_of cs hs hi, if_neg h1, if_neg ht, if_neg hb4, if_pos (by omega)])) rfl trivial (List.nil_sublist _) trivial

theorem ref04_Check_meets {A B : Option Addr} {ca cb : Nat} (cs : List Cl) (hs : List Hd) (hhl : hs.length ≤ 1000) (hcl : cs.length ≤ 1000) (hwc : ∀ x ∈ cs, x.1.length ≤ 1000) (hwh : ∀ h ∈ hs, h.1.length ≤ 1000) (ha : ∀ h ∈ hs, h.2.2.2.l.length ≤ 1000000) : Meets Tryz.prog F.ref04_Check [.agg #[.slice A cs.length ca, .slice B hs.length cb]] { LI := [Row A (rows cs), RowsF B hs Hd.row], val := fun _ : Unit => int (checkT (trOf cs hs)) } := by
 refine meets_intro F.ref04_Check_f rfl (Nat.le_of_ble_eq_true rfl) fun w0 => ?_
 refine hc_seq (hc_region ?_)
 refine r_box rfl rfl fun gB => ?_
 refine r_assign rfl rfl (hl_nil (then_n (hc_seq (hc_seq ?_))))
 have hl := hs_len cs hs
 refine hc_region ?_
 refine r_fieldAddr ⟨_, 0, none⟩ rfl rfl T.fa_api_Trades_0 rfl ?_
 refine r_load rfl T.cell_L_api_Class rfl (cell_own (by repeat constructor) rfl) ?_
 refine r_len_sl rfl T.u_L_api_Class rfl ?_
 refine r_gtr rfl rfl rfl (r_move rfl rfl ?_)
 refine g_split rfl rfl ?_ ?_
 ·intro hg1; have hg1' := hg1; try simp at hg1'
  have h6 : cs.length ≤ 6 := by have g5 : ¬ (6 : Int) < cs.length := of_decide_eq_false (eq_of_beq hg1); omega
  refine g_yes rfl rfl hg1 ?_
  refine r_fieldAddr ⟨_, 1, none⟩ rfl rfl T.fa_api_Trades_1 rfl ?_
  refine g_yes rfl rfl hg1 ?_
  refine r_load rfl T.cell_L_api_Head rfl (cell_own (by repeat constructor) rfl) ?_
  refine g_yes rfl rfl hg1 ?_
  refine r_len_sl rfl T.u_L_api_Head rfl ?_
  refine g_yes rfl rfl hg1 (r_gtr rfl rfl rfl ?_)
  refine p_f rfl rfl (bf1 hg1) rfl ?_
  refine hl_nil (then_n ?_)
  refine c_dec rfl (fun hb1 => ?_) (fun hb1 => ?_)
  ·have hb1' := hb1; try simp at hb1'
   refine hc_seq (hc_region (r_assign rfl rfl (hl_nil (then_n (hc_ret (then_ret ?_))))))
   exact ret1 () rfl (congrArg (fun b => some (int b)) (by rw [checkT, if_pos (by rw [hl]; simp only; omega)])) rfl trivial (List.nil_sublist _) trivial
  ·have hb1' := hb1; try simp at hb1'
   have h6h : hs.length ≤ 6 := by omega
   have hT : checkT (trOf cs hs) = if ¬ firstE (clsErr cs) cs.length = 0 then firstE (clsErr cs) cs.length else firstE (headErr (trOf cs hs)) hs.length := by rw [checkT, if_neg (by rw [hl]; simp only; omega), hl]
   refine hc_skip (then_n (hc_seq (hc_seq (hc_region (r_assign rfl rfl (hl_nil (then_n (hc_block ?_))))))))
   refine hc_loop (β := Nat) ⟨fun k => k ≤ cs.length ∧ firstE (clsErr cs) k = 0, fun k => [(1, .pointer (some ⟨gB, 0, none⟩)), (3, int k)], fun _ => [(gB, .cells #[.slice A cs.length ca, .slice B hs.length cb] T.api_Trades (0, 0))], fun _ => [Row A (rows cs), RowsF B hs Hd.row]⟩ (fun k => cs.length - k) 0 ⟨Nat.zero_le _, rfl⟩ ⟨rfl, rfl, trivial⟩ (List.Sublist.refl _) ⟨(by repeat constructor), (by repeat constructor), trivial⟩ fun k hk => ?_
   obtain ⟨hk, ht⟩ := hk
   refine hc_seq (hc_seq (hc_region (r_move rfl rfl ?_)))
   refine r_fieldAddr ⟨_, 0, none⟩ rfl rfl T.fa_api_Trades_0 rfl ?_
   refine r_load rfl T.cell_L_api_Class rfl (cell_own (by repeat constructor) rfl) ?_
   refine r_len_sl rfl T.u_L_api_Class rfl ?_
   refine r_lss rfl rfl rfl (hl_nil (then_n ?_))
   refine c_dec rfl (fun hb2 => ?_) (fun hb2 => ?_)
   ·have hb2' := hb2; try simp at hb2'
    have hk2 : k < cs.length := by omega
    refine hc_skip (then_n (hc_seq (hc_block (hc_seq (hc_region ?_)))))
    refine r_loadA rfl T.row_api_Trades T.sz_api_Trades rfl (by repeat constructor) (by rfl) ?_
    refine r_move rfl rfl ?_
    refine hl_call F.ref04_checkClass_cb rfl rfl (ref04_checkClass_meets cs hs k hk2 hwc hcl) (List.Perm.refl _) ⟨(by repeat constructor), trivial⟩ fun _ _ => ?_
    refine r_assign rfl rfl (hl_nil (then_n (hc_seq (hc_region (r_move rfl rfl (r_neq rfl rfl rfl (hl_nil (then_n ?_))))))))
    refine c_dec rfl (fun hb3 => ?_) (fun hb3 => ?_)
    ·have hb3' := hb3; try simp at hb3'
     refine hc_seq (hc_region (r_move rfl rfl (r_assign rfl rfl (hl_nil (then_n (hc_ret (inb_ret (then_ret (then_ret (inb_ret (then_ret ?_)))))))))))
     exact ret1 () rfl (congrArg (fun b => some (int b)) (by rw [hT, firstE_stop ht hb3 _ hk2, if_pos hb3])) rfl trivial (List.nil_sublist _) trivial
    ·have hb3' := hb3; try simp at hb3'
     refine hc_skip (inb_n (then_n (hc_region (r_move rfl rfl ?_))))
     refine r_add _ rfl rfl rfl rfl (by unfold I64; omega) ?_
     refine r_assign rfl rfl (hl_nil ?_)
     exact again _ (k + 1) ⟨by omega, by rw [firstE_succ ht]; exact Classical.not_not.1 hb3⟩ (by show cs.length - (k + 1) < cs.length - k; omega) ⟨rfl, rfl, trivial⟩ (List.Sublist.refl _) ⟨(by repeat constructor), (by repeat constructor), trivial⟩
   ·have hb2' := hb2; try simp at hb2'
    obtain rfl : k = cs.length := by omega
    rw [if_neg (not_not_intro ht)] at hT
    refine hc_exit (then_exit (then_exit (inb_hit (then_n (hc_seq (hc_seq (hc_region (r_assign rfl rfl (hl_nil (then_n (hc_block ?_)))))))))))
    refine hc_loop (β := Nat) ⟨fun k => k ≤ hs.length ∧ firstE (headErr (trOf cs hs)) k = 0, fun k => [(1, .pointer (some ⟨gB, 0, none⟩)), (5, int k)], fun _ => [(gB, .cells #[.slice A cs.length ca, .slice B hs.length cb] T.api_Trades (0, 0))], fun _ => [Row A (rows cs), RowsF B hs Hd.row]⟩ (fun k => hs.length - k) 0 ⟨Nat.zero_le _, rfl⟩ ⟨rfl, rfl, trivial⟩ (List.Sublist.refl _) ⟨(by repeat constructor), (by repeat constructor), trivial⟩ fun k hk => ?_
    obtain ⟨hk, ht⟩ := hk
    refine hc_seq (hc_seq (hc_region (r_move rfl rfl ?_)))
    refine r_fieldAddr ⟨_, 1, none⟩ rfl rfl T.fa_api_Trades_1 rfl ?_
    refine r_load rfl T.cell_L_api_Head rfl (cell_own (by repeat constructor) rfl) ?_
    refine r_len_sl rfl T.u_L_api_Head rfl ?_
    refine r_lss rfl rfl rfl (hl_nil (then_n ?_))
    refine c_dec rfl (fun hb4 => ?_) (fun hb4 => ?_)
    ·have hb4' := hb4; try simp at hb4'
     have hk2 : k < hs.length := by omega
     refine hc_skip (then_n (hc_seq (hc_block (hc_seq (hc_region ?_)))))
     refine r_loadA rfl T.row_api_Trades T.sz_api_Trades rfl (by repeat constructor) (by rfl) ?_
     refine r_move rfl rfl ?_
     refine hl_call F.ref04_checkHead_cb rfl rfl (ref04_checkHead_meets cs hs k hk2 hwh hhl ha) (List.Perm.refl _) ⟨(by repeat constructor), trivial⟩ fun _ _ => ?_
     refine r_assign rfl rfl (hl_nil (then_n (hc_seq (hc_region (r_move rfl rfl (r_neq rfl rfl rfl (hl_nil (then_n ?_))))))))
     refine c_dec rfl (fun hb5 => ?_) (fun hb5 => ?_)
     ·have hb5' := hb5; try simp at hb5'
      refine hc_seq (hc_region (r_move rfl rfl (r_assign rfl rfl (hl_nil (then_n (hc_ret (inb_ret (then_ret (then_ret (inb_ret (then_ret ?_)))))))))))
      exact ret1 () rfl (congrArg (fun b => some (int b)) (by rw [hT, firstE_stop ht hb5 _ hk2])) rfl trivial (List.nil_sublist _) trivial
     ·have hb5' := hb5; try simp at hb5'
      refine hc_skip (inb_n (then_n (hc_region (r_move rfl rfl ?_))))
      refine r_add _ rfl rfl rfl rfl (by unfold I64; omega) ?_
      refine r_assign rfl rfl (hl_nil ?_)
      exact again _ (k + 1) ⟨by omega, by rw [firstE_succ ht]; exact Classical.not_not.1 hb5⟩ (by show hs.length - (k + 1) < hs.length - k; omega) ⟨rfl, rfl, trivial⟩ (List.Sublist.refl _) ⟨(by repeat constructor), (by repeat constructor), trivial⟩
    ·have hb4' := hb4; try simp at hb4'
     obtain rfl : k = hs.length := by omega
     refine hc_exit (then_exit (then_exit (inb_hit (then_n (hc_seq (hc_region (r_assign rfl rfl (hl_nil (then_n (hc_ret ?_))))))))))
     exact ret1 () rfl (congrArg (fun b => some (int b)) (by rw [hT, ht])) rfl trivial (List.nil_sublist _) trivial
 ·intro hg1; have hg1' := hg1; try simp at hg1'
  have h6 : ¬ cs.length ≤ 6 := by
    have g5 : (6 : Int) < cs.length := Classical.byContradiction (fun e => by rw [decide_eq_false e] at hg1; cases hg1)
    omega
  refine g_no rfl rfl rfl rfl rfl hg1 (g_no rfl rfl rfl rfl rfl hg1 (g_no rfl rfl rfl rfl rfl hg1 (g_no rfl rfl rfl rfl rfl hg1 ?_)))
  refine p_t rfl rfl (bt2 hg1) rfl ?_
  refine hl_nil (then_n (c_t rfl rfl (hc_seq (hc_region (r_assign rfl rfl (hl_nil (then_n (hc_ret (then_ret ?_)))))))))
  exact ret1 () rfl (congrArg (fun b => some (int b)) (by rw [checkT, if_pos (by simp only; omega)])) rfl trivial (List.nil_sublist _) trivial

theorem ref04_asked_meets {C1 C2 : Option Addr} {c1 c2 : Nat} {A B : Option Addr} {ca cb : Nat} (cs : List Cl) (hs : List Hd) (l1 l2 : List Int) (hl1 : l1.length ≤ 1000) (hl2 : l2.length ≤ 1000) (hhl : hs.length ≤ 1000) (hcl : cs.length ≤ 1000) (hwc : ∀ x ∈ cs, x.1.length ≤ 1000) (hwh : ∀ h ∈ hs, h.1.length ≤ 1000) (ha : ∀ h ∈ hs, h.2.2.2.l.length ≤ 1000000) : Meets Tryz.prog F.ref04_asked [.agg #[.slice A cs.length ca, .slice B hs.length cb], .slice C1 l1.length c1, .slice C2 l2.length c2] { LI := [Row A (rows cs), RowsF B hs Hd.row, Row C1 (rows l1), Row C2 (rows l2)], val := fun _ : Unit => int (askdE (trOf cs hs) l1 l2) } := by
 refine meets_intro F.ref04_asked_f rfl (Nat.le_of_ble_eq_true rfl) fun w0 => ?_
 refine hc_seq (hc_region ?_)
 refine r_box rfl rfl fun gB => ?_
 refine r_assign rfl rfl (hl_nil (then_n (hc_seq (hc_seq (hc_region ?_)))))
 refine r_loadA rfl T.row_api_Trades T.sz_api_Trades rfl (by repeat constructor) (by rfl) ?_
 refine hl_call F.ref04_Check_cb rfl rfl (ref04_Check_meets cs hs hhl hcl hwc hwh ha) (List.Perm.refl _) ⟨(by repeat constructor), (by repeat constructor), trivial⟩ fun _ _ => ?_
 refine r_assign rfl rfl (hl_nil (then_n (hc_seq (hc_region (r_move rfl rfl (r_neq rfl rfl rfl (hl_nil (then_n ?_))))))))
 refine c_dec rfl (fun hb1 => ?_) (fun hb1 => ?_)
 ·have hb1' := hb1; try simp at hb1'
  refine hc_seq (hc_region (r_move rfl rfl (r_assign rfl rfl (hl_nil (then_n (hc_ret (then_ret ?_)))))))
  exact ret1 () rfl (congrArg (fun b => some (int b)) (by rw [askdE, if_pos hb1])) rfl trivial (List.nil_sublist _) trivial
 ·have hb1' := hb1; try simp at hb1'
  have hA : askdE (trOf cs hs) l1 l2 = if l1.all (fun x => decide (0 ≤ x ∧ x ≤ (cs.length : Int) - 1)) then (if l2.all (fun x => decide (0 ≤ x ∧ x ≤ (hs.length : Int) - 1)) then 0 else 3) else 3 := by rw [askdE, if_neg hb1, hs_len]
  refine hc_skip (then_n (hc_seq (hc_seq (hc_region (r_assign rfl rfl (hl_nil (then_n (hc_block ?_))))))))
  refine hc_loop (β := Nat) ⟨fun k => k ≤ l1.length ∧ (l1.take k).all (fun x => decide (0 ≤ x ∧ x ≤ (cs.length : Int) - 1)) = true, fun k => [(1, .slice C1 l1.length c1), (2, .slice C2 l2.length c2), (3, .pointer (some ⟨gB, 0, none⟩)), (8, int k)], fun _ => [(gB, .cells #[.slice A cs.length ca, .slice B hs.length cb] T.api_Trades (0, 0))], fun _ => [Row A (rows cs), RowsF B hs Hd.row, Row C1 (rows l1), Row C2 (rows l2)]⟩ (fun k => l1.length - k) 0 ⟨Nat.zero_le _, rfl⟩ ⟨rfl, rfl, rfl, rfl, trivial⟩ (List.Sublist.refl _) ⟨(by repeat constructor), (by repeat constructor), (by repeat constructor), (by repeat constructor), trivial⟩ fun k hk => ?_
  obtain ⟨hk, ht1⟩ := hk
  refine hc_seq (hc_seq (hc_region (r_move rfl rfl (r_move rfl rfl ?_))))
  refine r_len_sl rfl T.u_ints rfl ?_
  refine r_lss rfl rfl rfl (hl_nil (then_n ?_))
  refine c_dec rfl (fun hb2 => ?_) (fun hb2 => ?_)
  ·have hb2' := hb2; try simp at hb2'
   have hk2 : k < l1.length := by omega
   refine hc_skip (then_n (hc_seq (hc_block (hc_seq ?_))))
   refine hc_draw 13 mixed (by decide) (by decide) rfl rfl ?_
   apply hb_ex _ rfl rfl rfl
   ·intro w1
    refine r_move rfl rfl (hl_nil ?_)
    exact qe_done rfl
   apply hb_ex _ rfl rfl rfl
   ·intro w1
    refine r_move rfl rfl (hl_nil ?_)
    exact qe_done rfl
   apply hb_ex _ rfl rfl rfl
   ·intro w1
    refine r_elem (α := Int) l1 k rfl T.u_ints T.sz_int rfl rfl rfl (by repeat constructor) rfl hk2 (by decide) ?_
    refine hl_nil ?_
    exact qe_done rfl
   apply hb_ex _ rfl rfl rfl
   ·intro w1
    refine r_load (v := int (l1.getD k default)) rfl T.cell_int rfl (cell_row (by repeat constructor) (rows_get0 hk2 rfl)) ?_
    refine hl_nil ?_
    exact qe_done rfl
   apply hb_ex _ rfl rfl rfl
   ·intro w1
    refine r_lss rfl rfl rfl (hl_nil ?_)
    exact qe_done rfl
   apply hb_ex _ rfl rfl rfl
   ·intro w1
    refine r_move rfl rfl (hl_nil ?_)
    exact qe_done rfl
   refine hb_split (t := 26) (want := false) rfl ?_ ?_
   ·intro hg1; have hg1' := hg1; try simp at hg1'
    have g7_6 : ¬ l1.getD k default < 0 := of_decide_eq_false (eq_of_beq hg1)
    apply hb_ex _ rfl rfl rfl
    ·intro w1
     refine g_yes rfl rfl hg1 (r_move rfl rfl (hl_nil ?_))
     exact qe_done rfl
    apply hb_ex _ rfl rfl rfl
    ·intro w1
     refine g_yes rfl rfl hg1 (r_move rfl rfl (hl_nil ?_))
     exact qe_done rfl
    apply hb_ex _ rfl rfl rfl
    ·intro w1
     refine g_yes rfl rfl hg1 ?_
     refine r_elem (α := Int) l1 k rfl T.u_ints T.sz_int rfl rfl rfl (by repeat constructor) rfl hk2 (by decide) ?_
     refine hl_nil ?_
     exact qe_done rfl
    apply hb_ex _ rfl rfl rfl
    ·intro w1
     refine g_yes rfl rfl hg1 ?_
     refine r_load (v := int (l1.getD k default)) rfl T.cell_int rfl (cell_row (by repeat constructor) (rows_get0 hk2 rfl)) ?_
     refine hl_nil ?_
     exact qe_done rfl
    apply hb_ex _ rfl rfl rfl
    ·intro w1
     refine g_yes rfl rfl hg1 ?_
     refine r_fieldAddr ⟨_, 0, none⟩ rfl rfl T.fa_api_Trades_0 rfl ?_
     refine hl_nil ?_
     exact qe_done rfl
    apply hb_ex _ rfl rfl rfl
    ·intro w1
     refine g_yes rfl rfl hg1 ?_
     refine r_load rfl T.cell_L_api_Class rfl (cell_blk (by repeat constructor) rfl) ?_
     refine hl_nil ?_
     exact qe_done rfl
    apply hb_ex _ rfl rfl rfl
    ·intro w1
     refine g_yes rfl rfl hg1 ?_
     refine r_len_sl rfl T.u_L_api_Class rfl ?_
     refine hl_nil ?_
     exact qe_done rfl
    refine hb_nil ⟨rfl, ?_⟩
    refine g_yes rfl rfl hg1 (r_geq rfl rfl rfl ?_)
    refine p_f rfl rfl (bf1 hg1) rfl ?_
    refine hl_nil (then_n ?_)
    refine c_dec rfl (fun hb3 => ?_) (fun hb3 => ?_)
    ·have hb3' := hb3; try simp at hb3'
     refine hc_seq (hc_region (r_assign rfl rfl (hl_nil (then_n (hc_ret (inb_ret (then_ret (then_ret (inb_ret (then_ret ?_))))))))))
     exact ret1 () rfl (congrArg (fun b => some (int b)) (by rw [hA, if_neg (all_no hk2 (decide_eq_false (by omega)))])) rfl trivial (List.nil_sublist _) trivial
    ·have hb3' := hb3; try simp at hb3'
     refine hc_skip (inb_n (then_n (hc_region (r_move rfl rfl ?_))))
     refine r_add _ rfl rfl rfl rfl (by unfold I64; omega) ?_
     refine r_assign rfl rfl (hl_nil ?_)
     exact again _ (k + 1) ⟨by omega, all_step hk2 ht1 (decide_eq_true (by omega))⟩ (by show l1.length - (k + 1) < l1.length - k; omega) ⟨rfl, rfl, rfl, rfl, trivial⟩ (List.Sublist.refl _) ⟨(by repeat constructor), (by repeat constructor), (by repeat constructor), (by repeat constructor), trivial⟩
   ·intro hg1; have hg1' := hg1; try simp at hg1'
    have g7_6 : l1.getD k default < 0 := Classical.byContradiction fun e => by rw [decide_eq_false e] at hg1; cases hg1
    apply hb_ex _ rfl rfl rfl
    ·intro w1
     refine g_no rfl rfl rfl rfl rfl hg1 (hl_nil ?_)
     exact qe_done rfl
    apply hb_ex _ rfl rfl rfl
    ·intro w1
     refine g_no rfl rfl rfl rfl rfl hg1 (hl_nil ?_)
     exact qe_done rfl
    apply hb_ex _ rfl rfl rfl
    ·intro w1
     refine g_no rfl rfl rfl rfl rfl hg1 (hl_nil ?_)
     exact qe_done rfl
    apply hb_ex _ rfl rfl rfl
    ·intro w1
     refine g_no rfl rfl rfl rfl rfl hg1 (hl_nil ?_)
     exact qe_done rfl
    apply hb_ex _ rfl rfl rfl
    ·intro w1
     refine g_no rfl rfl rfl rfl rfl hg1 (hl_nil ?_)
     exact qe_done rfl
    apply hb_ex _ rfl rfl rfl
    ·intro w1
     refine g_no rfl rfl rfl rfl rfl hg1 (hl_nil ?_)
     exact qe_done rfl
    apply hb_ex _ rfl rfl rfl
    ·intro w1
     refine g_no rfl rfl rfl rfl rfl hg1 (hl_nil ?_)
     exact qe_done rfl
    refine hb_nil ⟨rfl, ?_⟩
    refine g_no rfl rfl rfl rfl rfl hg1 ?_
    refine p_t rfl rfl (bt2 hg1) rfl ?_
    refine hl_nil (then_n (c_t rfl rfl (hc_seq (hc_region (r_assign rfl rfl (hl_nil (then_n (hc_ret (inb_ret (then_ret (then_ret ?_)))))))))))
    refine inb_ret (then_ret ?_)
    exact ret1 () rfl (congrArg (fun b => some (int b)) (by rw [hA, if_neg (all_no hk2 (decide_eq_false (by omega)))])) rfl trivial (List.nil_sublist _) trivial
  ·have hb2' := hb2; try simp at hb2'
   obtain rfl : k = l1.length := by omega
   rw [List.take_length] at ht1
   refine hc_exit (then_exit (then_exit (inb_hit (then_n (hc_seq (hc_seq (hc_region (r_assign rfl rfl (hl_nil (then_n (hc_block ?_)))))))))))
   refine hc_loop (β := Nat) ⟨fun k => k ≤ l2.length ∧ (l2.take k).all (fun x => decide (0 ≤ x ∧ x ≤ (hs.length : Int) - 1)) = true, fun k => [(1, .slice C1 l1.length c1), (2, .slice C2 l2.length c2), (3, .pointer (some ⟨gB, 0, none⟩)), (9, int k)], fun _ => [(gB, .cells #[.slice A cs.length ca, .slice B hs.length cb] T.api_Trades (0, 0))], fun _ => [Row A (rows cs), RowsF B hs Hd.row, Row C1 (rows l1), Row C2 (rows l2)]⟩ (fun k => l2.length - k) 0 ⟨Nat.zero_le _, rfl⟩ ⟨rfl, rfl, rfl, rfl, trivial⟩ (List.Sublist.refl _) ⟨(by repeat constructor), (by repeat constructor), (by repeat constructor), (by repeat constructor), trivial⟩ fun k hk => ?_
   obtain ⟨hk, ht2⟩ := hk
   refine hc_seq (hc_seq (hc_region (r_move rfl rfl (r_move rfl rfl ?_))))
   refine r_len_sl rfl T.u_ints rfl ?_
   refine r_lss rfl rfl rfl (hl_nil (then_n ?_))
   refine c_dec rfl (fun hb4 => ?_) (fun hb4 => ?_)
   ·have hb4' := hb4; try simp at hb4'
    have hk2 : k < l2.length := by omega
    refine hc_skip (then_n (hc_seq (hc_block (hc_seq ?_))))
    refine hc_draw 13 mixed (by decide) (by decide) rfl rfl ?_
    apply hb_ex _ rfl rfl rfl
    ·intro w1
     refine r_move rfl rfl (hl_nil ?_)
     exact qe_done rfl
    apply hb_ex _ rfl rfl rfl
    ·intro w1
     refine r_move rfl rfl (hl_nil ?_)
     exact qe_done rfl
    apply hb_ex _ rfl rfl rfl
    ·intro w1
     refine r_elem (α := Int) l2 k rfl T.u_ints T.sz_int rfl rfl rfl (by repeat constructor) rfl hk2 (by decide) ?_
     refine hl_nil ?_
     exact qe_done rfl
    apply hb_ex _ rfl rfl rfl
    ·intro w1
     refine r_load (v := int (l2.getD k default)) rfl T.cell_int rfl (cell_row (by repeat constructor) (rows_get0 hk2 rfl)) ?_
     refine hl_nil ?_
     exact qe_done rfl
    apply hb_ex _ rfl rfl rfl
    ·intro w1
     refine r_lss rfl rfl rfl (hl_nil ?_)
     exact qe_done rfl
    apply hb_ex _ rfl rfl rfl
    ·intro w1
     refine r_move rfl rfl (hl_nil ?_)
     exact qe_done rfl
    refine hb_split (t := 47) (want := false) rfl ?_ ?_
    ·intro hg2; have hg2' := hg2; try simp at hg2'
     have g12_6 : ¬ l2.getD k default < 0 := of_decide_eq_false (eq_of_beq hg2)
     apply hb_ex _ rfl rfl rfl
     ·intro w1
      refine g_yes rfl rfl hg2 (r_move rfl rfl (hl_nil ?_))
      exact qe_done rfl
     apply hb_ex _ rfl rfl rfl
     ·intro w1
      refine g_yes rfl rfl hg2 (r_move rfl rfl (hl_nil ?_))
      exact qe_done rfl
     apply hb_ex _ rfl rfl rfl
     ·intro w1
      refine g_yes rfl rfl hg2 ?_
      refine r_elem (α := Int) l2 k rfl T.u_ints T.sz_int rfl rfl rfl (by repeat constructor) rfl hk2 (by decide) ?_
      refine hl_nil ?_
      exact qe_done rfl
     apply hb_ex _ rfl rfl rfl
     ·intro w1
      refine g_yes rfl rfl hg2 ?_
      refine r_load (v := int (l2.getD k default)) rfl T.cell_int rfl (cell_row (by repeat constructor) (rows_get0 hk2 rfl)) ?_
      refine hl_nil ?_
      exact qe_done rfl
     apply hb_ex _ rfl rfl rfl
     ·intro w1
      refine g_yes rfl rfl hg2 ?_
      refine r_fieldAddr ⟨_, 1, none⟩ rfl rfl T.fa_api_Trades_1 rfl ?_
      refine hl_nil ?_
      exact qe_done rfl
     apply hb_ex _ rfl rfl rfl
     ·intro w1
      refine g_yes rfl rfl hg2 ?_
      refine r_load rfl T.cell_L_api_Head rfl (cell_blk (by repeat constructor) rfl) ?_
      refine hl_nil ?_
      exact qe_done rfl
     apply hb_ex _ rfl rfl rfl
     ·intro w1
      refine g_yes rfl rfl hg2 ?_
      refine r_len_sl rfl T.u_L_api_Head rfl ?_
      refine hl_nil ?_
      exact qe_done rfl
     refine hb_nil ⟨rfl, ?_⟩
     refine g_yes rfl rfl hg2 (r_geq rfl rfl rfl ?_)
     refine p_f rfl rfl (bf1 hg2) rfl ?_
     refine hl_nil (then_n ?_)
     refine c_dec rfl (fun hb5 => ?_) (fun hb5 => ?_)
     ·have hb5' := hb5; try simp at hb5'
      refine hc_seq (hc_region (r_assign rfl rfl (hl_nil (then_n (hc_ret (inb_ret (then_ret (then_ret (inb_ret (then_ret ?_))))))))))
      exact ret1 () rfl (congrArg (fun b => some (int b)) (by rw [hA, if_pos ht1, if_neg (all_no hk2 (decide_eq_false (by omega)))])) rfl trivial (List.nil_sublist _) trivial
     ·have hb5' := hb5; try simp at hb5'
      refine hc_skip (inb_n (then_n (hc_region (r_move rfl rfl ?_))))
      refine r_add _ rfl rfl rfl rfl (by unfold I64; omega) ?_
      refine r_assign rfl rfl (hl_nil ?_)
      exact again _ (k + 1) ⟨by omega, all_step hk2 ht2 (decide_eq_true (by omega))⟩ (by show l2.length - (k + 1) < l2.length - k; omega) ⟨rfl, rfl, rfl, rfl, trivial⟩ (List.Sublist.refl _) ⟨(by repeat constructor), (by repeat constructor), (by repeat constructor), (by repeat constructor), trivial⟩
    ·intro hg2; have hg2' := hg2; try simp at hg2'
     have g12_6 : l2.getD k default < 0 := Classical.byContradiction fun e => by rw [decide_eq_false e] at hg2; cases hg2
     apply hb_ex _ rfl rfl rfl
     ·intro w1
      refine g_no rfl rfl rfl rfl rfl hg2 (hl_nil ?_)
      exact qe_done rfl
     apply hb_ex _ rfl rfl rfl
     ·intro w1
      refine g_no rfl rfl rfl rfl rfl hg2 (hl_nil ?_)
      exact qe_done rfl
     apply hb_ex _ rfl rfl rfl
     ·intro w1
      refine g_no rfl rfl rfl rfl rfl hg2 (hl_nil ?_)
      exact qe_done rfl
     apply hb_ex _ rfl rfl rfl
     ·intro w1
      refine g_no rfl rfl rfl rfl rfl hg2 (hl_nil ?_)
      exact qe_done rfl
     apply hb_ex _ rfl rfl rfl
     ·intro w1
      refine g_no rfl rfl rfl rfl rfl hg2 (hl_nil ?_)
      exact qe_done rfl
     apply hb_ex _ rfl rfl rfl
     ·intro w1
      refine g_no rfl rfl rfl rfl rfl hg2 (hl_nil ?_)
      exact qe_done rfl
     apply hb_ex _ rfl rfl rfl
     ·intro w1
      refine g_no rfl rfl rfl rfl rfl hg2 (hl_nil ?_)
      exact qe_done rfl
     refine hb_nil ⟨rfl, ?_⟩
     refine g_no rfl rfl rfl rfl rfl hg2 ?_
     refine p_t rfl rfl (bt2 hg2) rfl ?_
     refine hl_nil (then_n (c_t rfl rfl (hc_seq (hc_region (r_assign rfl rfl (hl_nil (then_n (hc_ret (inb_ret (then_ret (then_ret ?_)))))))))))
     refine inb_ret (then_ret ?_)
     exact ret1 () rfl (congrArg (fun b => some (int b)) (by rw [hA, if_pos ht1, if_neg (all_no hk2 (decide_eq_false (by omega)))])) rfl trivial (List.nil_sublist _) trivial
   ·have hb4' := hb4; try simp at hb4'
    obtain rfl : k = l2.length := by omega
    rw [List.take_length] at ht2
    refine hc_exit (then_exit (then_exit (inb_hit (then_n (hc_seq (hc_region (r_assign rfl rfl (hl_nil (then_n (hc_ret ?_))))))))))
    exact ret1 () rfl (congrArg (fun b => some (int b)) (by rw [hA, if_pos ht1, if_pos ht2])) rfl trivial (List.nil_sublist _) trivial

theorem ref04_has_meets {A : Option Addr} {c : Nat} (l : List Int) (s : Int) (hl : l.length ≤ 1000000) : Meets Tryz.prog F.ref04_has [.slice A l.length c, int s] { LI := [Row A (rows l)], inv := fun z : Int => AtInv l s z, val := fun z => int z } := by
 refine meets_intro F.ref04_has_f rfl (Nat.le_of_ble_eq_true rfl) fun w0 => ?_
 refine hc_seq (hc_region (r_assign rfl rfl (hl_nil (then_n (hc_seq (hc_seq (hc_region (r_assign rfl rfl (hl_nil (then_n (hc_block ?_)))))))))))
 refine hc_loop (β := Nat) ⟨fun k => k ≤ l.length ∧ s ∉ l.take k, fun k => [(0, .slice A l.length c), (1, int s), (5, int k)], fun _ => [], fun _ => [Row A (rows l)]⟩ (fun k => l.length - k) 0 ⟨Nat.zero_le _, by simp⟩ ⟨rfl, rfl, rfl, trivial⟩ (.refl _) ⟨m0, trivial⟩ fun k hk => ?_
 obtain ⟨hk, ht⟩ := hk
 refine hc_seq (hc_seq (hc_region (r_move rfl rfl (r_move rfl rfl ?_))))
 refine r_len_sl rfl T.u_ints rfl ?_
 refine r_lss rfl rfl rfl (hl_nil (then_n ?_))
 refine c_dec rfl (fun hb1 => ?_) (fun hb1 => ?_)
 ·have hb1' := hb1; try simp at hb1'
  have hk2 : k < l.length := by omega
  refine hc_skip (then_n (hc_seq (hc_block (hc_seq (hc_region (r_move rfl rfl (r_move rfl rfl ?_)))))))
  refine r_elem (α := Int) _ _ rfl T.u_ints T.sz_int rfl rfl rfl (by repeat constructor) rfl (by omega) (by decide) ?_
  refine r_load rfl T.cell_int rfl (cell_row (by repeat constructor) (rows_get0 (by omega) rfl)) ?_
  refine r_move rfl rfl (r_eql rfl rfl rfl (hl_nil (then_n ?_)))
  refine c_dec rfl (fun hb2 => ?_) (fun hb2 => ?_)
  ·have hb2' := hb2; try simp at hb2'
   refine hc_seq (hc_region (r_move rfl rfl (r_assign rfl rfl (hl_nil (then_n (hc_ret (inb_ret (then_ret (then_ret (inb_ret (then_ret ?_)))))))))))
   exact ret1 (k : Int) rfl rfl rfl (at_found hk2 hb2 ht) (.refl _) trivial
  ·have hb2' := hb2; try simp at hb2'
   refine hc_skip (inb_n (then_n (hc_region (r_move rfl rfl ?_))))
   refine r_add _ rfl rfl rfl rfl (by unfold I64; omega) ?_
   refine r_assign rfl rfl (hl_nil ?_)
   exact again _ (k + 1) ⟨by omega, not_mem_take hk2 ht (fun e => hb2 e.symm)⟩ (by show l.length - (k + 1) < l.length - k; omega) ⟨rfl, rfl, rfl, trivial⟩ (.refl _) ⟨m0, trivial⟩
 ·have hb1' := hb1; try simp at hb1'
  have hk2 : k = l.length := by omega
  subst hk2
  rw [List.take_length] at ht
  refine hc_exit (then_exit (then_exit (inb_hit (then_n (hc_seq (hc_region (r_assign rfl rfl (hl_nil (then_n (hc_ret ?_))))))))))
  exact ret1 (-1) rfl rfl rfl (at_none ht) (.refl _) trivial

end Go.Proofs.YtlpgheniajdkfaaGreat
