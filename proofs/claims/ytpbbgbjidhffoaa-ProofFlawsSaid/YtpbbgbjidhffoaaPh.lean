/- Walks of Diff: the program's and the document's. -/
import Derived.Test.YtpbbgbjidhffoaaPg
namespace Go.Proofs.Ytpbbgbjidhffoaa
open Go Go.W
set_option linter.unusedVariables false
set_option linter.unusedSimpArgs false
set_option maxRecDepth 20000
attribute [local irreducible] HL HC HQ HB Row Rows2 Blk Facts

def outV {α : Type} [El α] (l : List α) : Con OutC := { val := fun x => .slice x.1 l.length x.2, LO := fun x => [Row x.1 (rows l)] }

theorem proof_diff_meets {A B : Option Addr} {ca cb : Nat} (old page : List Str) (ho : old.length ≤ 1000) (hpl : page.length ≤ 1000) : Meets Try.prog F.proof_diff [.slice A old.length ca, .slice B page.length cb] { outV (diffP old page 0 0).2 with LI := [Row A (rows old), Row B (rows page)] } := by
 refine meets_intro F.proof_diff_f rfl (Nat.le_of_ble_eq_true rfl) fun w0 => ?_
 refine hc_seq ?_
 refine hc_region ?_
 refine r_box rfl rfl fun go => ?_
 refine r_box rfl rfl fun gp => ?_
 refine r_assign rfl rfl ?_
 refine hl_nil ?_
 refine then_n ?_
 refine hc_seq ?_
 refine hc_region ?_
 refine r_makeMapM pair rfl fun gm => ?_
 refine r_alloc rfl (fun _ => T.al_map_2_int_proof_list _) fun gk => ?_
 refine r_store rfl rfl (by first | exact .refl _ | exact perm2 _ _ _ | exact perm3 _ _ _ _ | exact perm4 _ _ _ _ _) T.sz_map_2_int_proof_list (by rfl) (by rfl) ?_
 refine hl_nil ?_
 refine then_n ?_
 refine hc_seq ?_
 refine hc_region ?_
 refine r_alloc rfl (fun _ => T.al_func_int_int_proof_list _) fun gf => ?_
 refine hl_nil ?_
 refine then_n ?_
 refine hc_seq ?_
 refine hc_region ?_
 refine r_makeFunc rfl rfl rfl ?_
 refine r_store rfl rfl (by first | exact .refl _ | exact perm2 _ _ _ | exact perm3 _ _ _ _ | exact perm4 _ _ _ _ _) T.sz_func_int_int_proof_list (by rfl) (by rfl) ?_
 refine hl_nil ?_
 refine then_n ?_
 refine hc_seq ?_
 refine hc_letgoB ?_
 refine hc_letgoB ?_
 refine hc_perm (perm3 _ _ _ _) ?_
 refine hc_letgoB ?_
 refine hc_perm (.swap _ _ _) ?_
 refine hc_letgoB ?_
 refine hc_facts (Fs := []) (fun F hF => by simp at hF) ?_
 refine hc_region ?_
 first | refine r_load rfl T.cell_func_int_int_proof_list rfl (cell_own (by repeat constructor) rfl) ?_ | refine r_load rfl T.cell_func_int_int_proof_list rfl (cell_blk (by repeat constructor) rfl) ?_ | refine r_load rfl T.cell_func_int_int_proof_list rfl (cell_row (by repeat constructor) (rows_get0 (by omega) rfl)) ?_ | refine r_load rfl T.cell_func_int_int_proof_list rfl (cell_row_f (by repeat constructor) (rows_get (by omega) rfl)) ?_
 refine hl_callv (vs := [int (0 : Nat), int (0 : Nat)]) F.proof_diff_1_cb rfl rfl rfl (proof_diff_1_meets (gk := gk) (gm := gm) (go := go) (gp := gp) (gf := gf) (A := A) (B := B) (ca := ca) (cb := cb) ho hpl _ 0 0 [] 0 [] (Nat.lt_succ_self _) (Nat.zero_le _) (Nat.zero_le _) (by intro e he; simp at he)) (List.Perm.refl _) ⟨m0, m5, m6, m3, m2, m1, m4, trivial⟩ fun x hx => ?_
 obtain ⟨l1, clk1, Fs1, x⟩ := x
 have hx2 : x.2.l = (diffP old page 0 0).2 := by rw [← hx.2]; rfl
 refine r_field (v := .slice x.2.a x.2.l.length x.2.c) rfl rfl (fun _ => T.f_proof_list_1 ..) ?_
 refine r_assign rfl rfl ?_
 refine hl_nil ?_
 refine then_n ?_
 refine hc_ret ?_
 rw [← hx2]
 exact ret1 (x.2.a, x.2.c) rfl rfl rfl trivial (List.nil_sublist _) ⟨m0, trivial⟩

def diffE (old page : List Str) (ms : List Mk) : List Mk × Int := if ¬ pageErr old = 0 then ([], pageErr old) else if ¬ pageErr page = 0 then ([], pageErr page) else (ms, 0)
/-- A slice and an error; nothing of its room. -/
def outE {α : Type} [El α] (r : List α × Int) : Con OutC := { val := fun x => .tuple #[.slice x.1 r.1.length x.2, int r.2], LO := fun x => [Row x.1 (rows r.1)] }
theorem pageErr_zero {p : List Str} (h : pageErr p = 0) : p.length ≤ 6 := by unfold pageErr at h; split at h <;> omega

theorem proof_Diff_meets {A B : Option Addr} {ca cb : Nat} (old page : List Str) : Meets Try.prog F.proof_Diff [.slice A old.length ca, .slice B page.length cb] { outE (diffE old page (diffP old page 0 0).2) with LI := [Row A (rows old), Row B (rows page)] } := by
 refine meets_intro F.proof_Diff_f rfl (Nat.le_of_ble_eq_true rfl) fun w0 => ?_
 refine hc_seq ?_
 refine hc_region ?_
 refine r_assign rfl rfl ?_
 refine r_assign rfl rfl ?_
 refine hl_nil ?_
 refine then_n ?_
 refine hc_seq ?_
 refine hc_seq ?_
 refine hc_region ?_
 refine r_move rfl rfl ?_
 refine hl_call F.proof_Check_cb rfl rfl (proof_Check_meets old) (.refl _) ⟨m0, trivial⟩ fun _ _ => ?_
 refine r_assign rfl rfl ?_
 refine hl_nil ?_
 refine then_n ?_
 refine hc_seq ?_
 refine hc_region ?_
 refine r_move rfl rfl ?_
 refine r_neq rfl rfl rfl ?_
 refine hl_nil ?_
 refine then_n ?_
 first | refine c_dec rfl (fun hb1 => ?_) (fun hb1 => ?_) | refine hc_cond rfl (fun hb1 => ?_) (fun hb1 => ?_)
 ·have hb1' := hb1; try simp at hb1'
  have e : diffE old page (diffP old page 0 0).2 = ([], pageErr old) := by rw [diffE, if_pos hb1]
  rw [e]
  refine hc_seq ?_
  refine hc_region ?_
  refine r_move rfl rfl ?_
  refine r_assign rfl rfl ?_
  refine r_assign rfl rfl ?_
  refine hl_nil ?_
  refine then_n ?_
  refine hc_ret ?_
  refine then_ret ?_
  refine hq_nil0 ?_
  exact ret2 (none, 0) rfl rfl rfl rfl rfl trivial (.refl _) ⟨m0, trivial⟩
 ·have hb1' := hb1; try simp at hb1'
  refine hc_skip ?_
  refine then_n ?_
  refine hc_seq ?_
  refine hc_seq ?_
  refine hc_region ?_
  refine r_move rfl rfl ?_
  refine hl_call F.proof_Check_cb rfl rfl (proof_Check_meets page) (.refl _) ⟨m1, trivial⟩ fun _ _ => ?_
  refine r_assign rfl rfl ?_
  refine hl_nil ?_
  refine then_n ?_
  refine hc_seq ?_
  refine hc_region ?_
  refine r_move rfl rfl ?_
  refine r_neq rfl rfl rfl ?_
  refine hl_nil ?_
  refine then_n ?_
  first | refine c_dec rfl (fun hb2 => ?_) (fun hb2 => ?_) | refine hc_cond rfl (fun hb2 => ?_) (fun hb2 => ?_)
  ·have hb2' := hb2; try simp at hb2'
   have e : diffE old page (diffP old page 0 0).2 = ([], pageErr page) := by rw [diffE, if_neg hb1, if_pos hb2]
   rw [e]
   refine hc_seq ?_
   refine hc_region ?_
   refine r_move rfl rfl ?_
   refine r_assign rfl rfl ?_
   refine r_assign rfl rfl ?_
   refine hl_nil ?_
   refine then_n ?_
   refine hc_ret ?_
   refine then_ret ?_
   refine hq_nil0 ?_
   exact ret2 (none, 0) rfl rfl rfl rfl rfl trivial (.refl _) ⟨m0, trivial⟩
  ·have hb2' := hb2; try simp at hb2'
   have e : diffE old page (diffP old page 0 0).2 = ((diffP old page 0 0).2, 0) := by rw [diffE, if_neg hb1, if_neg hb2]
   rw [e]
   have h1 := pageErr_zero (Classical.not_not.1 hb1)
   have h2 := pageErr_zero (Classical.not_not.1 hb2)
   refine hc_skip ?_
   refine then_n ?_
   refine hc_seq ?_
   refine hc_region ?_
   refine r_move rfl rfl ?_
   refine r_move rfl rfl ?_
   refine hl_call F.proof_diff_cb rfl rfl (proof_diff_meets old page (by omega) (by omega)) (.refl _) ⟨m0, m1, trivial⟩ fun x hx => ?_
   refine r_assign rfl rfl ?_
   refine r_assign rfl rfl ?_
   refine hl_nil ?_
   refine then_n ?_
   refine hc_ret ?_
   exact ret2 x rfl rfl rfl rfl rfl trivial (.refl _) ⟨m0, trivial⟩

def beforeR (a b : Mk) : Bool := if ¬ a.2.1 = b.2.1 then decide (a.2.1 < b.2.1) else if ¬ a.1 = b.1 then decide (a.1 < b.1) else Op.bytesLess a.2.2 b.2.2
def lexR : List Mk → List Mk → Bool
  | a :: l, b :: l' => if ¬ a = b then beforeR a b else lexR l l'
  | _, _ => false
def betterR (a b : List Mk) : Bool := if ¬ (costM a : Int) = costM b then decide ((costM a : Int) < costM b) else if ¬ (a.length : Int) = b.length then decide ((a.length : Int) < b.length) else lexR a b

theorem ref07_Before_meets (a b : Mk) : Meets Try.prog F.ref07_Before [.agg #[int a.1, int a.2.1, str a.2.2], .agg #[int b.1, int b.2.1, str b.2.2]] { val := fun _ : Unit => .bool (beforeR a b) } := by
 refine meets_intro F.ref07_Before_f rfl (Nat.le_of_ble_eq_true rfl) fun w0 => ?_
 refine hc_seq ?_
 refine hc_region ?_
 refine r_box rfl rfl fun gB => ?_
 refine r_box rfl rfl fun gB => ?_
 refine r_assign rfl rfl ?_
 refine hl_nil ?_
 refine then_n ?_
 refine hc_seq ?_
 refine hc_seq ?_
 refine hc_region ?_
 first | refine r_fieldAddr ⟨_, 1, none⟩ rfl rfl T.fa_api_Mark_1 rfl ?_ | refine r_fieldAddr _ rfl rfl T.fa_api_Mark_1 rfl ?_
 first | refine r_load rfl T.cell_int rfl (cell_own (by repeat constructor) rfl) ?_ | refine r_load rfl T.cell_int rfl (cell_blk (by repeat constructor) rfl) ?_ | refine r_load rfl T.cell_int rfl (cell_row (by repeat constructor) (rows_get0 (by omega) rfl)) ?_ | refine r_load rfl T.cell_int rfl (cell_row_f (by repeat constructor) (rows_get (by omega) rfl)) ?_
 first | refine r_fieldAddr ⟨_, 1, none⟩ rfl rfl T.fa_api_Mark_1 rfl ?_ | refine r_fieldAddr _ rfl rfl T.fa_api_Mark_1 rfl ?_
 first | refine r_load rfl T.cell_int rfl (cell_own (by repeat constructor) rfl) ?_ | refine r_load rfl T.cell_int rfl (cell_blk (by repeat constructor) rfl) ?_ | refine r_load rfl T.cell_int rfl (cell_row (by repeat constructor) (rows_get0 (by omega) rfl)) ?_ | refine r_load rfl T.cell_int rfl (cell_row_f (by repeat constructor) (rows_get (by omega) rfl)) ?_
 refine r_neq rfl rfl rfl ?_
 refine hl_nil ?_
 refine then_n ?_
 first | refine c_dec rfl (fun hb1 => ?_) (fun hb1 => ?_) | refine hc_cond rfl (fun hb1 => ?_) (fun hb1 => ?_)
 ·have hb1' := hb1; try simp at hb1'
  refine hc_seq ?_
  refine hc_region ?_
  first | refine r_fieldAddr ⟨_, 1, none⟩ rfl rfl T.fa_api_Mark_1 rfl ?_ | refine r_fieldAddr _ rfl rfl T.fa_api_Mark_1 rfl ?_
  first | refine r_load rfl T.cell_int rfl (cell_own (by repeat constructor) rfl) ?_ | refine r_load rfl T.cell_int rfl (cell_blk (by repeat constructor) rfl) ?_ | refine r_load rfl T.cell_int rfl (cell_row (by repeat constructor) (rows_get0 (by omega) rfl)) ?_ | refine r_load rfl T.cell_int rfl (cell_row_f (by repeat constructor) (rows_get (by omega) rfl)) ?_
  first | refine r_fieldAddr ⟨_, 1, none⟩ rfl rfl T.fa_api_Mark_1 rfl ?_ | refine r_fieldAddr _ rfl rfl T.fa_api_Mark_1 rfl ?_
  first | refine r_load rfl T.cell_int rfl (cell_own (by repeat constructor) rfl) ?_ | refine r_load rfl T.cell_int rfl (cell_blk (by repeat constructor) rfl) ?_ | refine r_load rfl T.cell_int rfl (cell_row (by repeat constructor) (rows_get0 (by omega) rfl)) ?_ | refine r_load rfl T.cell_int rfl (cell_row_f (by repeat constructor) (rows_get (by omega) rfl)) ?_
  refine r_lss rfl rfl rfl ?_
  refine r_assign rfl rfl ?_
  refine hl_nil ?_
  refine then_n ?_
  refine hc_ret ?_
  refine then_ret ?_
  exact ret1 () rfl (congrArg (fun b => some (Value.bool b)) (by rw [beforeR, if_pos hb1])) rfl trivial (List.nil_sublist _) trivial
 ·have hb1' := hb1; try simp at hb1'
  refine hc_skip ?_
  refine then_n ?_
  refine hc_seq ?_
  refine hc_seq ?_
  refine hc_region ?_
  first | refine r_fieldAddr ⟨_, 0, none⟩ rfl rfl T.fa_api_Mark_0 rfl ?_ | refine r_fieldAddr _ rfl rfl T.fa_api_Mark_0 rfl ?_
  first | refine r_load rfl T.cell_int rfl (cell_own (by repeat constructor) rfl) ?_ | refine r_load rfl T.cell_int rfl (cell_blk (by repeat constructor) rfl) ?_ | refine r_load rfl T.cell_int rfl (cell_row (by repeat constructor) (rows_get0 (by omega) rfl)) ?_ | refine r_load rfl T.cell_int rfl (cell_row_f (by repeat constructor) (rows_get (by omega) rfl)) ?_
  first | refine r_fieldAddr ⟨_, 0, none⟩ rfl rfl T.fa_api_Mark_0 rfl ?_ | refine r_fieldAddr _ rfl rfl T.fa_api_Mark_0 rfl ?_
  first | refine r_load rfl T.cell_int rfl (cell_own (by repeat constructor) rfl) ?_ | refine r_load rfl T.cell_int rfl (cell_blk (by repeat constructor) rfl) ?_ | refine r_load rfl T.cell_int rfl (cell_row (by repeat constructor) (rows_get0 (by omega) rfl)) ?_ | refine r_load rfl T.cell_int rfl (cell_row_f (by repeat constructor) (rows_get (by omega) rfl)) ?_
  refine r_neq rfl rfl rfl ?_
  refine hl_nil ?_
  refine then_n ?_
  first | refine c_dec rfl (fun hb2 => ?_) (fun hb2 => ?_) | refine hc_cond rfl (fun hb2 => ?_) (fun hb2 => ?_)
  ·have hb2' := hb2; try simp at hb2'
   refine hc_seq ?_
   refine hc_region ?_
   first | refine r_fieldAddr ⟨_, 0, none⟩ rfl rfl T.fa_api_Mark_0 rfl ?_ | refine r_fieldAddr _ rfl rfl T.fa_api_Mark_0 rfl ?_
   first | refine r_load rfl T.cell_int rfl (cell_own (by repeat constructor) rfl) ?_ | refine r_load rfl T.cell_int rfl (cell_blk (by repeat constructor) rfl) ?_ | refine r_load rfl T.cell_int rfl (cell_row (by repeat constructor) (rows_get0 (by omega) rfl)) ?_ | refine r_load rfl T.cell_int rfl (cell_row_f (by repeat constructor) (rows_get (by omega) rfl)) ?_
   first | refine r_fieldAddr ⟨_, 0, none⟩ rfl rfl T.fa_api_Mark_0 rfl ?_ | refine r_fieldAddr _ rfl rfl T.fa_api_Mark_0 rfl ?_
   first | refine r_load rfl T.cell_int rfl (cell_own (by repeat constructor) rfl) ?_ | refine r_load rfl T.cell_int rfl (cell_blk (by repeat constructor) rfl) ?_ | refine r_load rfl T.cell_int rfl (cell_row (by repeat constructor) (rows_get0 (by omega) rfl)) ?_ | refine r_load rfl T.cell_int rfl (cell_row_f (by repeat constructor) (rows_get (by omega) rfl)) ?_
   refine r_lss rfl rfl rfl ?_
   refine r_assign rfl rfl ?_
   refine hl_nil ?_
   refine then_n ?_
   refine hc_ret ?_
   refine then_ret ?_
   exact ret1 () rfl (congrArg (fun b => some (Value.bool b)) (by rw [beforeR, if_neg hb1, if_pos hb2])) rfl trivial (List.nil_sublist _) trivial
  ·have hb2' := hb2; try simp at hb2'
   refine hc_skip ?_
   refine then_n ?_
   refine hc_seq ?_
   refine hc_region ?_
   first | refine r_fieldAddr ⟨_, 2, none⟩ rfl rfl T.fa_api_Mark_2 rfl ?_ | refine r_fieldAddr _ rfl rfl T.fa_api_Mark_2 rfl ?_
   first | refine r_load rfl T.cell_string rfl (cell_own (by repeat constructor) rfl) ?_ | refine r_load rfl T.cell_string rfl (cell_blk (by repeat constructor) rfl) ?_ | refine r_load rfl T.cell_string rfl (cell_row (by repeat constructor) (rows_get0 (by omega) rfl)) ?_ | refine r_load rfl T.cell_string rfl (cell_row_f (by repeat constructor) (rows_get (by omega) rfl)) ?_
   first | refine r_fieldAddr ⟨_, 2, none⟩ rfl rfl T.fa_api_Mark_2 rfl ?_ | refine r_fieldAddr _ rfl rfl T.fa_api_Mark_2 rfl ?_
   first | refine r_load rfl T.cell_string rfl (cell_own (by repeat constructor) rfl) ?_ | refine r_load rfl T.cell_string rfl (cell_blk (by repeat constructor) rfl) ?_ | refine r_load rfl T.cell_string rfl (cell_row (by repeat constructor) (rows_get0 (by omega) rfl)) ?_ | refine r_load rfl T.cell_string rfl (cell_row_f (by repeat constructor) (rows_get (by omega) rfl)) ?_
   refine r_slss rfl rfl rfl ?_
   refine r_assign rfl rfl ?_
   refine hl_nil ?_
   refine then_n ?_
   refine hc_ret ?_
   exact ret1 () rfl (congrArg (fun b => some (Value.bool b)) (by rw [beforeR, if_neg hb1, if_neg hb2])) rfl trivial (List.nil_sublist _) trivial

theorem ref07_Better_meets {A B : Option Addr} {ca cb : Nat} (a b : List Mk) (ha : a.length ≤ 1000000) (hb : b.length ≤ 1000000) : Meets Try.prog F.ref07_Better [.slice A a.length ca, .slice B b.length cb] { LI := [Row A (rows a), Row B (rows b)], val := fun _ : Unit => .bool (betterR a b) } := by
 refine meets_intro F.ref07_Better_f rfl (Nat.le_of_ble_eq_true rfl) fun w0 => ?_
 refine hc_seq ?_
 refine hc_region ?_
 refine r_assign rfl rfl ?_
 refine hl_nil ?_
 refine then_n ?_
 refine hc_seq ?_
 refine hc_seq ?_
 refine hc_region ?_
 refine r_move rfl rfl ?_
 refine hl_call F.ref07_cost_cb rfl rfl (ref07_cost_meets a ha) (.refl _) ⟨m0, trivial⟩ fun _ _ => ?_
 refine r_move rfl rfl ?_
 refine hl_call F.ref07_cost_cb rfl rfl (ref07_cost_meets b hb) (.refl _) ⟨m1, trivial⟩ fun _ _ => ?_
 refine r_neq rfl rfl rfl ?_
 refine hl_nil ?_
 refine then_n ?_
 first | refine c_dec rfl (fun hb1 => ?_) (fun hb1 => ?_) | refine hc_cond rfl (fun hb1 => ?_) (fun hb1 => ?_)
 ·have hb1' := hb1; try simp at hb1'
  refine hc_seq ?_
  refine hc_region ?_
  refine r_move rfl rfl ?_
  refine hl_call F.ref07_cost_cb rfl rfl (ref07_cost_meets a ha) (.refl _) ⟨m0, trivial⟩ fun _ _ => ?_
  refine r_move rfl rfl ?_
  refine hl_call F.ref07_cost_cb rfl rfl (ref07_cost_meets b hb) (.refl _) ⟨m1, trivial⟩ fun _ _ => ?_
  refine r_lss rfl rfl rfl ?_
  refine r_assign rfl rfl ?_
  refine hl_nil ?_
  refine then_n ?_
  refine hc_ret ?_
  refine then_ret ?_
  exact ret1 () rfl (congrArg (fun b => some (Value.bool b)) (by rw [betterR, if_pos hb1])) rfl trivial (List.nil_sublist _) trivial
 ·have hb1' := hb1; try simp at hb1'
  refine hc_skip ?_
  refine then_n ?_
  refine hc_seq ?_
  refine hc_seq ?_
  refine hc_region ?_
  refine r_move rfl rfl ?_
  refine r_len_sl rfl T.u_L_api_Mark rfl ?_
  refine r_move rfl rfl ?_
  refine r_len_sl rfl T.u_L_api_Mark rfl ?_
  refine r_neq rfl rfl rfl ?_
  refine hl_nil ?_
  refine then_n ?_
  first | refine c_dec rfl (fun hb2 => ?_) (fun hb2 => ?_) | refine hc_cond rfl (fun hb2 => ?_) (fun hb2 => ?_)
  ·have hb2' := hb2; try simp at hb2'
   refine hc_seq ?_
   refine hc_region ?_
   refine r_move rfl rfl ?_
   refine r_len_sl rfl T.u_L_api_Mark rfl ?_
   refine r_move rfl rfl ?_
   refine r_len_sl rfl T.u_L_api_Mark rfl ?_
   refine r_lss rfl rfl rfl ?_
   refine r_assign rfl rfl ?_
   refine hl_nil ?_
   refine then_n ?_
   refine hc_ret ?_
   refine then_ret ?_
   exact ret1 () rfl (congrArg (fun b => some (Value.bool b)) (by rw [betterR, if_neg hb1, if_pos hb2])) rfl trivial (List.nil_sublist _) trivial
  ·have hb2' := hb2; try simp at hb2'
   have hlen : a.length = b.length := by omega
   refine hc_skip ?_
   refine then_n ?_
   refine hc_seq ?_
   refine hc_seq ?_
   refine hc_region ?_
   refine r_assign rfl rfl ?_
   refine hl_nil ?_
   refine then_n ?_
   refine hc_block ?_
   refine hc_loop (β := Nat) ⟨fun k => k ≤ a.length ∧ lexR a b = lexR (a.drop k) (b.drop k), fun k => [(0, .slice A a.length ca), (1, .slice B b.length cb), (5, int k)], fun _ => [], fun _ => [Row A (rows a), Row B (rows b)]⟩ (fun k => a.length - k) 0 ⟨Nat.zero_le _, rfl⟩ ⟨rfl, rfl, rfl, trivial⟩ (.refl _) ⟨m0, m1, trivial⟩ fun k hk => ?_
   obtain ⟨hk, ht⟩ := hk
   refine hc_seq ?_
   refine hc_seq ?_
   refine hc_region ?_
   refine r_move rfl rfl ?_
   refine r_move rfl rfl ?_
   refine r_len_sl rfl T.u_L_api_Mark rfl ?_
   refine r_lss rfl rfl rfl ?_
   refine hl_nil ?_
   refine then_n ?_
   first | refine c_dec rfl (fun hb3 => ?_) (fun hb3 => ?_) | refine hc_cond rfl (fun hb3 => ?_) (fun hb3 => ?_)
   ·have hb3' := hb3; try simp at hb3'
    have hk2 : k < a.length := by omega
    rw [drop_getD hk2, drop_getD (l := b) (k := k) (by omega), lexR] at ht
    refine hc_skip ?_
    refine then_n ?_
    refine hc_seq ?_
    refine hc_block ?_
    refine hc_seq ?_
    refine hc_draw 8 mixed (by decide) (by decide) rfl rfl ?_
    apply hb_ex _ rfl rfl rfl
    ·intro w1
     refine r_move rfl rfl ?_
     refine hl_nil ?_
     exact qe_done rfl
    apply hb_ex _ rfl rfl rfl
    ·intro w1
     refine r_move rfl rfl ?_
     refine hl_nil ?_
     exact qe_done rfl
    apply hb_ex _ rfl rfl rfl
    ·intro w1
     refine r_elem (α := Mk) _ _ rfl T.u_L_api_Mark T.sz_api_Mark rfl rfl rfl (by repeat constructor) rfl (by omega) (by decide) ?_
     refine hl_nil ?_
     exact qe_done rfl
    apply hb_ex _ rfl rfl rfl
    ·intro w1
     refine r_loadS rfl T.row_api_Mark T.sz_api_Mark rfl rfl (cells_row (by repeat constructor) (rows_all (by omega))) ?_
     refine hl_nil ?_
     exact qe_done rfl
    apply hb_ex _ rfl rfl rfl
    ·intro w1
     refine r_move rfl rfl ?_
     refine hl_nil ?_
     exact qe_done rfl
    apply hb_ex _ rfl rfl rfl
    ·intro w1
     refine r_move rfl rfl ?_
     refine hl_nil ?_
     exact qe_done rfl
    apply hb_ex _ rfl rfl rfl
    ·intro w1
     refine r_elem (α := Mk) _ _ rfl T.u_L_api_Mark T.sz_api_Mark rfl rfl rfl (by repeat constructor) rfl (by omega) (by decide) ?_
     refine hl_nil ?_
     exact qe_done rfl
    apply hb_ex _ rfl rfl rfl
    ·intro w1
     refine r_loadS rfl T.row_api_Mark T.sz_api_Mark rfl rfl (cells_row (by repeat constructor) (rows_all (by omega))) ?_
     refine hl_nil ?_
     exact qe_done rfl
    refine hb_nil ⟨rfl, ?_⟩
    refine r_bin _ rfl rfl rfl (fun _ => T.eqg_api_Mark ..) (fun _ => T.neq_api_Mark ..) ?_
    refine hl_nil ?_
    refine then_n ?_
    first | refine c_dec rfl (fun hb4 => ?_) (fun hb4 => ?_) | refine hc_cond rfl (fun hb4 => ?_) (fun hb4 => ?_)
    ·have hb4' := hb4; try simp at hb4'
     rw [if_pos hb4] at ht
     refine hc_seq ?_
     refine hc_draw 8 mixed (by decide) (by decide) rfl rfl ?_
     apply hb_ex _ rfl rfl rfl
     ·intro w1
      refine r_move rfl rfl ?_
      refine hl_nil ?_
      exact qe_done rfl
     apply hb_ex _ rfl rfl rfl
     ·intro w1
      refine r_move rfl rfl ?_
      refine hl_nil ?_
      exact qe_done rfl
     apply hb_ex _ rfl rfl rfl
     ·intro w1
      refine r_elem (α := Mk) _ _ rfl T.u_L_api_Mark T.sz_api_Mark rfl rfl rfl (by repeat constructor) rfl (by omega) (by decide) ?_
      refine hl_nil ?_
      exact qe_done rfl
     apply hb_ex _ rfl rfl rfl
     ·intro w1
      refine r_loadS rfl T.row_api_Mark T.sz_api_Mark rfl rfl (cells_row (by repeat constructor) (rows_all (by omega))) ?_
      refine hl_nil ?_
      exact qe_done rfl
     apply hb_ex _ rfl rfl rfl
     ·intro w1
      refine r_move rfl rfl ?_
      refine hl_nil ?_
      exact qe_done rfl
     apply hb_ex _ rfl rfl rfl
     ·intro w1
      refine r_move rfl rfl ?_
      refine hl_nil ?_
      exact qe_done rfl
     apply hb_ex _ rfl rfl rfl
     ·intro w1
      refine r_elem (α := Mk) _ _ rfl T.u_L_api_Mark T.sz_api_Mark rfl rfl rfl (by repeat constructor) rfl (by omega) (by decide) ?_
      refine hl_nil ?_
      exact qe_done rfl
     apply hb_ex _ rfl rfl rfl
     ·intro w1
      refine r_loadS rfl T.row_api_Mark T.sz_api_Mark rfl rfl (cells_row (by repeat constructor) (rows_all (by omega))) ?_
      refine hl_nil ?_
      exact qe_done rfl
     refine hb_nil ⟨rfl, ?_⟩
     refine hl_call F.ref07_Before_cb rfl rfl (ref07_Before_meets (a.getD k default) (b.getD k default)) (.refl _) trivial fun _ _ => ?_
     refine r_assign rfl rfl ?_
     refine hl_nil ?_
     refine then_n ?_
     refine hc_ret ?_
     refine inb_ret ?_
     refine then_ret ?_
     refine then_ret ?_
     refine inb_ret ?_
     refine then_ret ?_
     exact ret1 () rfl (congrArg (fun b => some (Value.bool b)) (by rw [betterR, if_neg hb1, if_neg hb2, ht])) rfl trivial (List.nil_sublist _) trivial
    ·have hb4' := hb4; try simp at hb4'
     rw [if_neg hb4] at ht
     refine hc_skip ?_
     refine inb_n ?_
     refine then_n ?_
     refine hc_region ?_
     refine r_move rfl rfl ?_
     refine r_add _ rfl rfl rfl rfl (by unfold I64; omega) ?_
     refine r_assign rfl rfl ?_
     refine hl_nil ?_
     exact again _ (k + 1) ⟨by omega, ht⟩ (by show a.length - (k + 1) < a.length - k; omega) ⟨rfl, rfl, rfl, trivial⟩ (.refl _) ⟨m0, m1, trivial⟩
   ·have hb3' := hb3; try simp at hb3'
    have hk2 : k = a.length := by omega
    refine hc_exit ?_
    refine then_exit ?_
    refine then_exit ?_
    refine inb_hit ?_
    refine then_n ?_
    refine hc_seq ?_
    refine hc_region ?_
    refine r_assign rfl rfl ?_
    refine hl_nil ?_
    refine then_n ?_
    refine hc_ret ?_
    exact ret1 () rfl (congrArg (fun b => some (Value.bool b)) (by rw [betterR, if_neg hb1, if_neg hb2, ht, hk2, List.drop_length]; rfl)) rfl trivial (List.nil_sublist _) trivial

end Go.Proofs.Ytpbbgbjidhffoaa
