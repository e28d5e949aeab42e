/- Small functions of the kit and of the statements. -/
import Derived.Test.YtlpgheniajdkfaaPak
namespace Go.Proofs.Ytlpgheniajdkfaa
open Go Go.W
set_option linter.unusedVariables false
set_option linter.unusedSimpArgs false
set_option maxRecDepth 20000
attribute [local irreducible] HL HC HQ HB Row Rows2 Blk Facts


theorem kit_EqMoves_meets {A B : Option Addr} {ca cb : Nat} (a b : List Cl) (ha : a.length ≤ 1000000) :
    Meets Try.prog F.kit_EqMoves [.slice A a.length ca, .slice B b.length cb] { LI := [Row A (rows a), Row B (rows b)], val := fun _ : Unit => .bool (decide (a = b)) } := by
 refine meets_intro F.kit_EqMoves_f rfl (Nat.le_of_ble_eq_true rfl) fun w0 => ?_
 refine hc_seq ?_
 refine hc_region ?_
 refine r_assign rfl rfl ?_
 refine hl_nil ?_
 refine then_n ?_
 refine hc_seq ?_
 refine hc_seq ?_
 refine hc_region ?_
 refine r_move rfl rfl ?_
 refine r_len_sl rfl T.u_L_api_Move rfl ?_
 refine r_move rfl rfl ?_
 refine r_len_sl rfl T.u_L_api_Move rfl ?_
 refine r_neq rfl rfl rfl ?_
 refine hl_nil ?_
 refine then_n ?_
 first | refine c_dec rfl (fun hb1 => ?_) (fun hb1 => ?_) | refine hc_cond rfl (fun hb1 => ?_) (fun hb1 => ?_)
 ·have hb1' := hb1; try simp at hb1'
  have hb1 : ¬ a = b := fun e => by subst e; exact hb1 rfl
  refine hc_seq ?_
  refine hc_region ?_
  refine r_assign rfl rfl ?_
  refine hl_nil ?_
  refine then_n ?_
  refine hc_ret ?_
  refine then_ret ?_
  exact ret1 () rfl (by rw [decide_eq_false hb1]; rfl) rfl trivial (.refl _) trivial
 ·have hb1' := hb1; try simp at hb1'
  have hb1 : a.length = b.length := by omega
  refine hc_skip ?_
  refine then_n ?_
  refine hc_seq ?_
  refine hc_seq ?_
  refine hc_region ?_
  refine r_assign rfl rfl ?_
  refine hl_nil ?_
  refine then_n ?_
  refine hc_block ?_
  refine hc_loop (β := Nat) ⟨fun k => k ≤ a.length ∧ a.take k = b.take k, fun k => [(0, .slice A a.length ca), (1, .slice B b.length cb), (5, int k)], fun _ => [], fun _ => [Row A (rows a), Row B (rows b)]⟩ (fun k => a.length - k) 0 ⟨Nat.zero_le _, rfl⟩ ⟨rfl, rfl, rfl, trivial⟩ (.refl _) ⟨m0, m1, trivial⟩ fun k hk => ?_
  obtain ⟨hk, ht⟩ := hk
  refine hc_seq ?_
  refine hc_seq ?_
  refine hc_region ?_
  refine r_move rfl rfl ?_
  refine r_move rfl rfl ?_
  refine r_len_sl rfl T.u_L_api_Move rfl ?_
  refine r_lss rfl rfl rfl ?_
  refine hl_nil ?_
  refine then_n ?_
  first | refine c_dec rfl (fun hb2 => ?_) (fun hb2 => ?_) | refine hc_cond rfl (fun hb2 => ?_) (fun hb2 => ?_)
  ·have hb2' := hb2; try simp at hb2'
   have hb2 : k < a.length := by omega
   refine hc_skip ?_
   refine then_n ?_
   refine hc_seq ?_
   refine hc_block ?_
   refine hc_seq ?_
   refine hc_draw 8 mixed (by decide) (by decide) rfl rfl ?_
   apply hb_ex _ rfl rfl rfl
   ·intro w1
    refine r_move rfl rfl ?_
    refine hl_nil ?_
    exact qe_done rfl
   apply hb_ex _ rfl rfl rfl
   ·intro w1
    refine r_move rfl rfl ?_
    refine hl_nil ?_
    exact qe_done rfl
   apply hb_ex _ rfl rfl rfl
   ·intro w1
    refine r_elem (α := Cl) _ _ rfl T.u_L_api_Move T.sz_api_Move rfl rfl rfl (by repeat constructor) rfl (by omega) (by decide) ?_
    refine hl_nil ?_
    exact qe_done rfl
   apply hb_ex _ rfl rfl rfl
   ·intro w1
    refine r_loadS rfl T.row_api_Move T.sz_api_Move rfl rfl (cells_row (by repeat constructor) (rows_all (by omega))) ?_
    refine hl_nil ?_
    exact qe_done rfl
   apply hb_ex _ rfl rfl rfl
   ·intro w1
    refine r_move rfl rfl ?_
    refine hl_nil ?_
    exact qe_done rfl
   apply hb_ex _ rfl rfl rfl
   ·intro w1
    refine r_move rfl rfl ?_
    refine hl_nil ?_
    exact qe_done rfl
   apply hb_ex _ rfl rfl rfl
   ·intro w1
    refine r_elem (α := Cl) _ _ rfl T.u_L_api_Move T.sz_api_Move rfl rfl rfl (by repeat constructor) rfl (by omega) (by decide) ?_
    refine hl_nil ?_
    exact qe_done rfl
   apply hb_ex _ rfl rfl rfl
   ·intro w1
    refine r_loadS rfl T.row_api_Move T.sz_api_Move rfl rfl (cells_row (by repeat constructor) (rows_all (by omega))) ?_
    refine hl_nil ?_
    exact qe_done rfl
   refine hb_nil ⟨rfl, ?_⟩
   refine r_bin _ rfl rfl rfl (fun _ => T.eqg_api_Move ..) (fun _ => T.neq_api_Move ..) ?_
   refine hl_nil ?_
   refine then_n ?_
   first | refine c_dec rfl (fun hb3 => ?_) (fun hb3 => ?_) | refine hc_cond rfl (fun hb3 => ?_) (fun hb3 => ?_)
   ·have hb3' := hb3; try simp at hb3'
    have hb3 : ¬ a = b := ne_at (a := a) (b := b) (k := k) hb3
    refine hc_seq ?_
    refine hc_region ?_
    refine r_assign rfl rfl ?_
    refine hl_nil ?_
    refine then_n ?_
    refine hc_ret ?_
    refine inb_ret ?_
    refine then_ret ?_
    refine then_ret ?_
    refine inb_ret ?_
    refine then_ret ?_
    exact ret1 () rfl (by rw [decide_eq_false hb3]; rfl) rfl trivial (.refl _) trivial
   ·have hb3' := hb3; try simp at hb3'
    have hb3 : a.getD k default = b.getD k default := Classical.not_not.1 hb3
    refine hc_skip ?_
    refine inb_n ?_
    refine then_n ?_
    refine hc_region ?_
    refine r_move rfl rfl ?_
    refine r_add _ rfl rfl rfl rfl (by unfold I64; omega) ?_
    refine r_assign rfl rfl ?_
    refine hl_nil ?_
    exact again _ (k + 1) ⟨by omega, by rw [take_succ_getD a k hb2, take_succ_getD b k (by omega), ht, hb3]⟩ (by first | omega | (simp only; omega)) ⟨rfl, rfl, rfl, trivial⟩ (.refl _) ⟨m0, m1, trivial⟩
  ·have hb2' := hb2; try simp at hb2'
   have hb2 : k = a.length := by omega
   refine hc_exit ?_
   refine then_exit ?_
   refine then_exit ?_
   refine inb_hit ?_
   refine then_n ?_
   refine hc_seq ?_
   refine hc_region ?_
   refine r_assign rfl rfl ?_
   refine hl_nil ?_
   refine then_n ?_
   refine hc_ret ?_
   exact ret1 () rfl (by rw [decide_eq_true (eq_of_takes ht (by omega) (by omega))]; rfl) rfl trivial (.refl _) trivial

theorem law04_under_meets {A B : Option Addr} {ca cb : Nat} (cs : List Cl) (hs : List Hd) (a c : Int) (hlo : -1 ≤ a) (hhi : a < (cs.length : Int)) (hl : cs.length ≤ 6) (hc : ∀ i, i < cs.length → ClsOK cs i) : Meets Try.prog F.law04_under [.agg #[.slice A cs.length ca, .slice B hs.length cb], int a, int c] { LI := [Row A (rows cs)], val := fun _ : Unit => .bool (decide (c ∈ pathT cs a)) } := by
 refine meets_intro F.law04_under_f rfl (Nat.le_of_ble_eq_true rfl) fun w0 => ?_
 refine hc_seq ?_
 refine hc_region ?_
 refine r_box rfl rfl fun gB => ?_
 refine r_assign rfl rfl ?_
 refine hl_nil ?_
 refine then_n ?_
 refine hc_seq ?_
 refine hc_seq ?_
 refine hc_region ?_
 refine r_assign rfl rfl ?_
 refine hl_nil ?_
 refine then_n ?_
 refine hc_block ?_
 refine hc_loop (β := Nat × Int) ⟨fun x => -1 ≤ x.2 ∧ x.2 ≤ (cs.length : Int) - 1 - x.1 ∧ (c ∈ pathT cs a ↔ c ∈ pathT cs x.2), fun x => [(1, int x.2), (2, int c), (3, .pointer (some ⟨gB, 0, none⟩)), (7, int x.1)], fun _ => [(gB, .cells #[.slice A cs.length ca, .slice B hs.length cb] T.api_Trades (0, 0))], fun _ => [Row A (rows cs)]⟩ (fun x => cs.length - x.1) (0, a) ⟨hlo, by simp only; omega, Iff.rfl⟩ ⟨rfl, rfl, rfl, rfl, trivial⟩ (List.Sublist.refl _) ⟨(by repeat constructor), trivial⟩ fun x hx => ?_
 obtain ⟨k, y⟩ := x
 obtain ⟨hy, hy2, ht⟩ := hx
 simp only at hy hy2 ht
 refine hc_seq ?_
 refine hc_seq ?_
 refine hc_region ?_
 refine r_move rfl rfl ?_
 first | refine r_fieldAddr ⟨_, 0, none⟩ rfl rfl T.fa_api_Trades_0 rfl ?_ | refine r_fieldAddr _ rfl rfl T.fa_api_Trades_0 rfl ?_
 first | refine r_load rfl T.cell_L_api_Class rfl (cell_own (by repeat constructor) rfl) ?_ | refine r_load rfl T.cell_L_api_Class rfl (cell_blk (by repeat constructor) rfl) ?_ | refine r_load rfl T.cell_L_api_Class rfl (cell_row (by repeat constructor) (rows_get0 (by omega) rfl)) ?_ | refine r_load rfl T.cell_L_api_Class rfl (cell_row_f (by repeat constructor) (rows_get (by omega) rfl)) ?_ | refine r_load rfl T.cell_L_api_Class rfl (cell_rowg (by repeat constructor) rfl) ?_
 refine r_len_sl rfl T.u_L_api_Class rfl ?_
 refine r_lss rfl rfl rfl ?_
 refine r_move rfl rfl ?_
 refine g_split rfl rfl ?_ ?_
 ·intro hg1; have hg1' := hg1; try simp at hg1'
  refine g_yes rfl rfl hg1 ?_
  refine r_move rfl rfl ?_
  refine g_yes rfl rfl hg1 ?_
  refine r_geq rfl rfl rfl ?_
  refine p_t rfl rfl (bt1 hg1) rfl ?_
  refine hl_nil ?_
  refine then_n ?_
  first | refine c_dec rfl (fun hb1 => ?_) (fun hb1 => ?_) | refine hc_cond rfl (fun hb1 => ?_) (fun hb1 => ?_)
  ·have hb1' := hb1; try simp at hb1'
   have hst := path_step cs hc hb1 (by omega)
   have hck := hc y.toNat (by omega)
   have hck1 := hck.lo
   have hck2 := hck.hi
   rw [hst, List.mem_append, List.mem_singleton] at ht
   refine hc_skip ?_
   refine then_n ?_
   refine hc_seq ?_
   refine hc_block ?_
   refine hc_seq ?_
   refine hc_seq ?_
   refine hc_region ?_
   refine r_move rfl rfl ?_
   refine r_move rfl rfl ?_
   refine r_eql rfl rfl rfl ?_
   refine hl_nil ?_
   refine then_n ?_
   first | refine c_dec rfl (fun hb2 => ?_) (fun hb2 => ?_) | refine hc_cond rfl (fun hb2 => ?_) (fun hb2 => ?_)
   ·have hb2' := hb2; try simp at hb2'
    refine hc_seq ?_
    refine hc_region ?_
    refine r_assign rfl rfl ?_
    refine hl_nil ?_
    refine then_n ?_
    refine hc_ret ?_
    refine then_ret ?_
    refine inb_ret ?_
    refine then_ret ?_
    refine then_ret ?_
    refine inb_ret ?_
    refine then_ret ?_
    exact ret1 () rfl (congrArg (fun b => some (Value.bool b)) (by exact (decide_eq_true (ht.2 (.inr hb2.symm))).symm)) rfl trivial (List.nil_sublist _) trivial
   ·have hb2' := hb2; try simp at hb2'
    refine hc_skip ?_
    refine then_n ?_
    refine hc_region ?_
    first | refine r_fieldAddr ⟨_, 0, none⟩ rfl rfl T.fa_api_Trades_0 rfl ?_ | refine r_fieldAddr _ rfl rfl T.fa_api_Trades_0 rfl ?_
    first | refine r_load rfl T.cell_L_api_Class rfl (cell_own (by repeat constructor) rfl) ?_ | refine r_load rfl T.cell_L_api_Class rfl (cell_blk (by repeat constructor) rfl) ?_ | refine r_load rfl T.cell_L_api_Class rfl (cell_row (by repeat constructor) (rows_get0 (by omega) rfl)) ?_ | refine r_load rfl T.cell_L_api_Class rfl (cell_row_f (by repeat constructor) (rows_get (by omega) rfl)) ?_ | refine r_load rfl T.cell_L_api_Class rfl (cell_rowg (by repeat constructor) rfl) ?_
    refine r_move rfl rfl ?_
    refine r_elem (α := Cl) cs y.toNat rfl T.u_L_api_Class T.sz_api_Class rfl rfl (Int.toNat_of_nonneg hb1).symm (by repeat constructor) rfl (by omega) (by decide) ?_
    first | refine r_fieldAddr ⟨_, 1, none⟩ rfl rfl T.fa_api_Class_1 rfl ?_ | refine r_fieldAddr _ rfl rfl T.fa_api_Class_1 rfl ?_
    refine r_load rfl T.cell_int rfl (cell_row_f (by repeat constructor) (rows_get (by omega) rfl)) ?_
    refine r_assign rfl rfl ?_
    refine hl_nil ?_
    refine inb_n ?_
    refine then_n ?_
    refine hc_region ?_
    refine r_move rfl rfl ?_
    refine r_add _ rfl rfl rfl rfl (by unfold I64; omega) ?_
    refine r_assign rfl rfl ?_
    refine hl_nil ?_
    exact again _ (k + 1, (cs.getD y.toNat default).2) ⟨hck1, by simp only; omega, ht.trans ⟨fun e => e.elim id (fun e => absurd e.symm hb2), .inl⟩⟩ (by show cs.length - (k + 1) < cs.length - k; omega) ⟨rfl, rfl, rfl, rfl, trivial⟩ (List.Sublist.refl _) ⟨(by repeat constructor), trivial⟩
  ·have hb1' := hb1; try simp at hb1'
   rw [path_neg cs (c := y) (by omega)] at ht
   refine hc_exit ?_
   refine then_exit ?_
   refine then_exit ?_
   refine inb_hit ?_
   refine then_n ?_
   refine hc_seq ?_
   refine hc_region ?_
   refine r_assign rfl rfl ?_
   refine hl_nil ?_
   refine then_n ?_
   refine hc_ret ?_
   exact ret1 () rfl (congrArg (fun b => some (Value.bool b)) (by exact (decide_eq_false (fun e => by have := ht.1 e; cases this)).symm)) rfl trivial (List.nil_sublist _) trivial
 ·intro hg1; have hg1' := hg1; try simp at hg1'
  have hkn : ¬ (k : Int) < (cs.length : Int) := of_decide_eq_false (bf2 hg1)
  rw [path_neg cs (c := y) (by omega)] at ht
  refine g_no rfl rfl rfl rfl rfl hg1 ?_
  refine g_no rfl rfl rfl rfl rfl hg1 ?_
  refine p_f rfl rfl (bf2 hg1) rfl ?_
  refine hl_nil ?_
  refine then_n ?_
  refine c_f rfl rfl ?_
  refine hc_exit ?_
  refine then_exit ?_
  refine then_exit ?_
  refine inb_hit ?_
  refine then_n ?_
  refine hc_seq ?_
  refine hc_region ?_
  refine r_assign rfl rfl ?_
  refine hl_nil ?_
  refine then_n ?_
  refine hc_ret ?_
  exact ret1 () rfl (congrArg (fun b => some (Value.bool b)) (by exact (decide_eq_false (fun e => by have := ht.1 e; cases this)).symm)) rfl trivial (List.nil_sublist _) trivial

end Go.Proofs.Ytlpgheniajdkfaa
